/- The reference's scan. -/
import Derived.Test.YtphaijjofmkjcaaTokR2
import Derived.Test.YtphaijjofmkjcaaTokElem
namespace Go.Proofs.Ytphaijjofmkjcaa
open Go.RowKit
theorem scan_blank (f : Nat) (x : UInt8) (l : List UInt8) (p : Nat) (h : blankB x = true) : scanF (f + 1) (x :: l) p = scanF (f + 1) l (p + 1) := by
  have e : runN blankB (x :: l) = runN blankB l + 1 := by rw [runN, if_pos h]
  rw [scanF, scanF, e, List.drop_succ_cons, show p + (runN blankB l + 1) = p + 1 + runN blankB l from by omega]
theorem or_three (a b c : Bool) (h : (a || b || c) = true) : a = true ∨ (a = false ∧ b = true) ∨ (a = false ∧ b = false ∧ c = true) := by
  cases a <;> cases b <;> cases c <;> simp_all
theorem blank_not (x : UInt8) (l : List UInt8) (h : ¬ blankB x = true) : runN blankB (x :: l) = 0 := by rw [runN, if_neg h]
/-- what is wrong with the token at a place -/
theorem wrongat_any (s : ByteArray) (p : Nat) (w : World) (hp : p < s.size) (hs : s.size ≤ 2000) :
    Calls Try.prog 16 #[.int .i64 (tokA s[p] (s.data.toList.drop (p + 1))).1, .string (s.extract p (p + (tokA s[p] (s.data.toList.drop (p + 1))).2))] w fun e w' => e = .returned (.int .i64 (tokL s[p] (s.data.toList.drop (p + 1))).2.2) ∧ w = w' := by
  have hnl := tokA_len s[p] (s.data.toList.drop (p + 1))
  rw [List.length_drop, Array.length_toList, show s.data.size = s.size from rfl] at hnl
  rw [← wrong_tok]
  have hsz : (s.extract p (p + (tokA s[p] (s.data.toList.drop (p + 1))).2)).size = (tokA s[p] (s.data.toList.drop (p + 1))).2 := by rw [ByteArray.size_extract]; omega
  refine wrong_any _ _ _ _ w (tokA_kind _ _) hsz (by unfold maxLen; omega) ?_
  intro h
  rw [ByteArray.getElem_extract]
  rfl
def ScanOfPost (T : List Vl × Nat × Nat) (w : World) (e : Ending) (w' : World) : Prop :=
  ∃ v, e = .returned (.tuple #[v, .int .i64 T.2.1, .int .i64 T.2.2]) ∧ w'.ownsRow w.heap.size 34 3 v T.1.length (cellsV T.1) ∧ Below w.heap.size w w'
set_option maxHeartbeats 4000000 in
theorem scanof_any (s : ByteArray) (w : World) (hs : s.size ≤ maxLen) :
    Calls Try.prog 8 #[.string s] w (ScanOfPost (scanS s) w) := by
  unfold maxLen at hs
  by_cases h2 : 2000 < s.size
  · have HT : Hid (scanS s = ([], 0, 2)) := Lib.hid (by rw [scanS, if_pos h2])
    go_enter Try.func8, Try.ntmps8
    go_wp2_with fail
    go_ret3
    rw [HT.out]
    exact ⟨_, rfl, World.ownsRow_nil _ _ _ _, Below.refl _ _⟩
  have HS : Hid (comb [] (scanF (s.size + 1) s.data.toList 0) = scanS s) := Lib.hid (by
    rw [scanS, if_neg h2, scanF_norm])
  have hs2 : s.size ≤ 2000 := by omega
  go_enter Try.func8, Try.ntmps8
  go_wp2_with fail
  go_loopg [5, 6] s.size (fun m v u wr => ∃ (vs : List Vl) (p f : Nat), u = .int .i64 p ∧ m = s.size - p ∧ s.size - p < f ∧ p ≤ s.size ∧ vs.length ≤ p ∧ wr.ownsRow w.heap.size 34 3 v vs.length (cellsV vs) ∧
      comb vs (scanF f (s.data.toList.drop p) p) = scanS s ∧ Below w.heap.size w wr)
  case atStart => exact ⟨[], 0, s.size + 1, rfl, rfl, by omega, Nat.zero_le _, Nat.zero_le _, World.ownsRow_nil _ _ _ _, HS.out, Below.refl _ _⟩
  case round =>
    obtain ⟨vs, p, f, rfl, rfl, hf, hp, hvp, hown, hT, hb⟩ := hrel
    obtain ⟨f, rfl⟩ : ∃ f', f = f' + 1 := ⟨f - 1, by omega⟩
    by_cases hlt : p < s.size
    · have hx := drop_at s p hlt
      rw [hx] at hT
      have hB : blankB s[p] = (((s[p].toNat : Int) == 32) || ((s[p].toNat : Int) == 9) || ((s[p].toNat : Int) == 10)) := rfl
      by_cases hbl : blankB s[p] = true
      · rw [scan_blank _ _ _ _ hbl] at hT
        rw [hbl] at hB
        have HT := Lib.hid hT
        have HB := Lib.hid hB
        clear hT hB hbl hx HS
        have h3 := or_three _ _ _ HB.out.symm
        rcases h3 with h1 | ⟨h1, h3⟩ | ⟨h1, h3, h4⟩
        all_goals
          go_wp2_with fail
          go_roundg (s.size - (p + 1))
          case rel => exact ⟨vs, p + 1, f + 1, rfl, rfl, by omega, by omega, by omega, hown, HT.out, hb⟩
          case measure => omega
      · have hbn := blank_not s[p] (s.data.toList.drop (p + 1)) hbl
        rw [show blankB s[p] = false by simpa using hbl] at hB
        have hB' : ((s[p].toNat : Int) == 32) = false ∧ ((s[p].toNat : Int) == 9) = false ∧ ((s[p].toNat : Int) == 10) = false := by
          have := hB.symm
          simp only [Bool.or_eq_false_iff] at this
          exact ⟨this.1.1, this.1.2, this.2⟩
        obtain ⟨h32, h9, h10⟩ := hB'
        have hdq : (s[p] :: s.data.toList.drop (p + 1)).drop (runN blankB (s[p] :: s.data.toList.drop (p + 1))) = s[p] :: s.data.toList.drop (p + 1) := by rw [hbn]; rfl
        have hA := at_any s p wr hlt hs2
        have hw := wrongat_any s p wr hlt hs2
        by_cases h0 : (tokL s[p] (s.data.toList.drop (p + 1))).2.2 = 0
        · have hst := scan_step f _ p _ _ vs hdq h0
          obtain ⟨hn1, hn2⟩ := tokL_pos _ _ h0
          rw [hT, hbn, Nat.add_zero, ← hx, List.drop_drop] at hst
          rw [h0] at hw
          have hts := tok_same _ _ h0
          rw [hts] at hA hw
          rw [List.length_drop, Array.length_toList, show s.data.size = s.size from rfl] at hn2
          have HST := Lib.hid hst
          have HA := Lib.hid hA
          have HW := Lib.hid hw
          clear hT HS hdq hx hst hA hbn hts hbl hB hw
          generalize tokL s[p] (s.data.toList.drop (p + 1)) = t at *
          obtain ⟨tk, tn, te⟩ := t
          simp only at h0 hn1 hn2 HST HA HW
          subst h0
          obtain ⟨q, hq⟩ : ∃ q, q = p + tn := ⟨_, rfl⟩
          have hqi : (p : Int) + (tn : Int) = (q : Int) := by omega
          have hpq : p ≤ q := by omega
          have hpq2 : p < q := by omega
          have hqs : q ≤ s.size := by omega
          have HQ := Lib.hid hq
          rw [← hq] at HW HST
          clear hq
          go_wp2_with fail
          refine HA.out.mono ?_
          rintro e w1 ⟨rfl, rfl⟩
          go_wp2_with fail
          refine HW.out.mono ?_
          rintro e w1 ⟨rfl, rfl⟩
          go_wp2_with (at_builtin; refine wpList_app rfl (.tmp 53) (.tmp 63) elTok rfl hown rfl rfl (by simp) (by simp) rfl (by unfold maxLen; omega) (by omega) (by first | exact hb.size | (simp; omega)) ?_; intro v3 w3 hown3 hl3 hat3)
          go_roundg (s.size - q)
          case rel => exact ⟨vs ++ [⟨(tk : Int), (p : Int), bs (List.take tn (List.drop p s.data.toList))⟩], q, f, rfl, rfl, by omega, hqs, by simp; omega, own_vals hown3 _ (by rw [HQ.out, extract_mid s p tn]), by rw [HQ.out] at HST ⊢; exact HST.out.symm, hb.trans (hl3.below.mono (by first | exact Nat.le_refl _ | exact hb.size))⟩
          case measure => omega
        · have hst := scan_bad f _ p _ _ vs hdq h0
          rw [hT, hbn, Nat.add_zero] at hst
          have hnl := tokA_len s[p] (s.data.toList.drop (p + 1))
          rw [List.length_drop, Array.length_toList, show s.data.size = s.size from rfl] at hnl
          have HST := Lib.hid hst
          have HA := Lib.hid hA
          have HW := Lib.hid hw
          clear hT HS hdq hx hst hA hbn hbl hB hw
          generalize tokL s[p] (s.data.toList.drop (p + 1)) = t at *
          generalize tokA s[p] (s.data.toList.drop (p + 1)) = u at *
          obtain ⟨tk, tn, te⟩ := t
          obtain ⟨uk, un⟩ := u
          simp only at h0 HST HA HW hnl
          have hte : ((te : Int) != 0) = true := by rw [bne_iff_ne]; omega
          obtain ⟨q, hq⟩ : ∃ q, q = p + un := ⟨_, rfl⟩
          have hqi : (p : Int) + (un : Int) = (q : Int) := by omega
          have hpq : p ≤ q := by omega
          have hqs : q ≤ s.size := by omega
          rw [← hq] at HW
          have H0 := Lib.hid h0
          clear hq h0
          go_wp2_with fail
          refine HA.out.mono ?_
          rintro e w1 ⟨rfl, rfl⟩
          go_wp2_with fail
          refine HW.out.mono ?_
          rintro e w1 ⟨rfl, rfl⟩
          go_wp2_with fail
          go_ret3
          rw [HST.out]
          exact ⟨_, rfl, World.ownsRow_nil _ _ _ _, hb⟩
    · have hqq : p = s.size := by omega
      have hld : decide (p < s.size) = false := by simp; omega
      have hnil : s.data.toList.drop p = [] := List.drop_eq_nil_of_le (by rw [Array.length_toList]; exact Nat.le_of_eq hqq.symm)
      have hst := scan_end f _ p vs (show (s.data.toList.drop p).drop (runN blankB (s.data.toList.drop p)) = [] by rw [hnil]; rfl)
      rw [hT] at hst
      have HST := Lib.hid hst
      clear hT HS hst hqq hnil
      go_wp2_with fail
      go_ret3
      rw [HST.out]
      exact ⟨_, rfl, hown, hb⟩
end Go.Proofs.Ytphaijjofmkjcaa
