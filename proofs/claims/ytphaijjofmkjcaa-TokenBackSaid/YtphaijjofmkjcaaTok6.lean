/- Scan. -/
import Derived.Test.YtphaijjofmkjcaaTok5
import Derived.Test.YtphaijjofmkjcaaTokPlain2
import Derived.Test.YtphaijjofmkjcaaTokElem
namespace Go.Proofs.Ytphaijjofmkjcaa
open Go.RowKit
def ScanPost (T : List Vl × Nat × Nat) (w : World) (e : Ending) (w' : World) : Prop :=
  ∃ v, e = .returned (.tuple #[v, .int .i64 T.2.1, .int .i64 T.2.2]) ∧ w'.ownsRow (w.heap.size + 1) 34 3 v T.1.length (cellsV T.1) ∧ Below w.heap.size w w'
set_option maxHeartbeats 4000000 in
theorem scan_any (s : ByteArray) (w : World) (hs : s.size ≤ maxLen) :
    Calls Try.prog 7 #[.string s] w (ScanPost (scanS s) w) := by
  unfold maxLen at hs
  by_cases h2 : 2000 < s.size
  · have HT : Hid (scanS s = ([], 0, 2)) := Lib.hid (by rw [scanS, if_pos h2])
    go_enter Try.func7, Try.ntmps7
    go_wp2_with fail
    go_ret3
    rw [HT.out]
    exact ⟨_, rfl, World.ownsRow_nil _ _ _ _, Below.refl _ _⟩
  have HS : Hid (comb [] (scanF (s.size + 1) s.data.toList 0) = scanS s) := Lib.hid (by
    rw [scanS, if_neg h2, scanF_norm])
  have hg0 : Blk (w.alloc (.cells #[.string s, .int .i64 0] 37)) w.heap.size 37 #[.string s, .int .i64 ((0 : Nat) : Int)] := Blk.fresh w _ _
  go_enter Try.func7, Try.ntmps7
  go_wp2_with fail
  refine (skip_any s 0 w.heap.size _ (Nat.zero_le _) (by omega) hg0).mono ?_
  rintro e w1 ⟨rfl, hg1, ht1⟩
  have hw1 := ht1.size
  simp only [World.size_alloc] at hw1
  go_wp2_with fail
  go_loopg [6] (s.size + 1) (fun m v wr => ∃ (vs : List Vl) (p f : Nat), m = s.size - p + 1 ∧ s.size - p < f ∧ p ≤ s.size ∧ vs.length ≤ p ∧ wr.ownsRow (w.heap.size + 1) 34 3 v vs.length (cellsV vs) ∧
      comb vs (scanF f (s.data.toList.drop p) p) = scanS s ∧ Blk wr w.heap.size 37 #[.string s, .int .i64 ((p + runN blankB (s.data.toList.drop p) : Nat) : Int)] ∧ Below w.heap.size w wr ∧ w.heap.size + 1 ≤ wr.heap.size)
  case atStart => exact ⟨[], 0, s.size + 1, rfl, by omega, Nat.zero_le _, Nat.zero_le _, World.ownsRow_nil _ _ _ _, HS.out, hg1, below_turn (below_two _) ht1 (Nat.le_refl _) (by simp), hw1⟩
  case round =>
    obtain ⟨vs, p, f, rfl, hf, hp, hvp, hown, hT, hg, hb, hz⟩ := hrel
    obtain ⟨f, rfl⟩ : ∃ f', f = f' + 1 := ⟨f - 1, by omega⟩
    obtain ⟨q, hq⟩ : ∃ q, q = p + runN blankB (s.data.toList.drop p) := ⟨_, rfl⟩
    have hqs : q ≤ s.size := by
      have := runN_le blankB (s.data.toList.drop p)
      rw [List.length_drop, Array.length_toList, show s.data.size = s.size from rfl] at this
      omega
    have hpq : p ≤ q := by omega
    have hdq : (s.data.toList.drop p).drop (runN blankB (s.data.toList.drop p)) = s.data.toList.drop q := by rw [List.drop_drop, hq]
    obtain ⟨d0, d1, _, _, hgl⟩ := hg.two
    by_cases hlt : q < s.size
    · have hx := drop_at s q hlt
      rw [hx] at hdq
      have hC := token_any s q w.heap.size wr hlt (by omega) (by rw [hq]; exact hg)
      rw [← hq] at hg d1
      by_cases h0 : (tokL s[q] (s.data.toList.drop (q + 1))).2.2 = 0
      · have hst := scan_step f _ p _ _ vs hdq h0
        obtain ⟨hn1, hn2⟩ := tokL_pos _ _ h0
        rw [hT, ← hq, ← hx, List.drop_drop] at hst
        rw [List.length_drop, Array.length_toList, show s.data.size = s.size from rfl] at hn2
        have HST := Lib.hid hst
        have HC := Lib.hid hC
        clear hT HS hdq hx hst hC hq
        generalize tokL s[q] (s.data.toList.drop (q + 1)) = t at *
        obtain ⟨tk, tn, te⟩ := t
        simp only at h0 hn1 hn2 HST HC
        subst h0
        go_wp2_with fail
        refine HC.out.mono ?_
        rintro e w2 ⟨u, j, rfl, hjs, hg2, ht2, _, hu⟩
        obtain ⟨rfl, rfl⟩ := hu rfl
        clear hu
        have hown2 := hown.kept ht2 (.inr (by intro e; have := (hown.lt _ e).1; omega))
        have z2 := ht2.size
        dsimp only at hjs hg2 ⊢
        have hvl : vs.length < 2001 := by omega
        have HSK := Lib.hid (fun W hG => skip_any s (q + tn) w.heap.size W hjs (by omega) hG)
        go_wp2_with (at_builtin; refine wpList_app rfl (.tmp 36) (.tmp 38) elTok rfl (hown2.alloc _) rfl rfl (by simp) (by simp) rfl (by unfold maxLen; omega) (by omega) (by first | omega | (simp; omega)) ?_; intro v3 w3 hown3 hl3 hat3)
        have hg3 : Blk w3 w.heap.size 37 #[.string s, .int .i64 ((q + tn : Nat) : Int)] := (hl3.blk _ (by rw [World.size_alloc]; omega) (fun e => by have := (hown.lt _ e).1; omega)).trans (hg2.alloc _)
        have hz3 := hl3.below.size
        simp only [World.size_alloc] at hz3
        refine (HSK.out w3 hg3).mono ?_
        rintro e w4 ⟨rfl, hg4, ht4⟩
        have z4 := ht4.size
        have hown4 := hown3.kept ht4 (.inr (by intro e; have := (hown3.lt _ e).1; omega))
        have hbw := (below_turn hb ht2 (Nat.le_refl _) (by omega)).alloc (by omega) (.cells #[.int .i64 (tk : Int), .int .i64 (q : Int), .string (s.extract q (q + tn))] 34)
        have hb3 := hbw.trans (hl3.below.mono (by omega))
        go_wp2_with fail
        go_roundg (s.size - (q + tn) + 1)
        case rel => exact ⟨vs ++ [⟨(tk : Int), (q : Int), bs (List.take tn (List.drop q s.data.toList))⟩], q + tn, f, rfl, by omega, hjs, by simp; omega, own_vals hown4 _ (by rw [extract_mid s q tn]), HST.out.symm, hg4, below_turn hb3 ht4 (Nat.le_refl _) (by omega), by omega⟩
        case measure => omega
      · have hst := scan_bad f _ p _ _ vs hdq h0
        rw [hT, ← hq] at hst
        have HST := Lib.hid hst
        have HC := Lib.hid hC
        clear hT HS hdq hx hst hC hq
        generalize tokL s[q] (s.data.toList.drop (q + 1)) = t at *
        obtain ⟨tk, tn, te⟩ := t
        simp only at h0 HST HC
        have hte : ((te : Int) != 0) = true := by rw [bne_iff_ne]; omega
        have H0 := Lib.hid h0
        clear h0
        go_wp2_with fail
        refine HC.out.mono ?_
        rintro e w2 ⟨u, j, rfl, hjs, hg2, ht2, hat, _⟩
        obtain ⟨uk, ua, us⟩ := u
        simp only at hat
        subst hat
        go_wp2_with fail
        go_quiet (fail)
        go_wp2_with fail
        go_ret3
        rw [HST.out]
        exact ⟨_, rfl, World.ownsRow_nil _ _ _ _, below_drewN ((below_turn hb ht2 (Nat.le_refl _) (by omega)).alloc (by have := ht2.size; omega) _) _⟩
    · have hqq : q = s.size := by omega
      have hld : decide (q < s.size) = false := by simp; omega
      have hst := scan_end f _ p vs (by rw [hdq]; exact List.drop_eq_nil_of_le (by rw [Array.length_toList]; exact Nat.le_of_eq hqq.symm))
      rw [hT] at hst
      have HST := Lib.hid hst
      rw [← hq] at hg d1
      clear hT HS hdq hst hq hqq
      go_wp2_with fail
      go_ret3
      rw [HST.out]
      exact ⟨_, rfl, hown, hb⟩
end Go.Proofs.Ytphaijjofmkjcaa
