/- The laws of tokens, walked: what must be in any case; TokenScans, TokenJoins. -/
import Derived.Test.YtphaijjofmkjcaaTok8
import Derived.Test.YtphaijjofmkjcaaTokR4
namespace Go.Proofs.Ytphaijjofmkjcaa
open Go.RowKit
def text0 : ByteArray := ⟨#[97, 98, 32, 61, 32, 55, 59, 32, 39, 120, 39]⟩
def toks0 : List Vl := [⟨1, 0, bs [97, 98]⟩, ⟨4, 3, bs [61]⟩, ⟨2, 5, bs [55]⟩, ⟨4, 6, bs [59]⟩, ⟨3, 8, bs [39, 120, 39]⟩]
theorem scan0 : scanS text0 = (toks0, 0, 0) := by kernel_rfl
theorem join0 : joinS toks0 = (bs [97, 98, 32, 61, 32, 55, 32, 59, 32, 39, 120, 39], 0) := by kernel_rfl
theorem sameTK_same {l r : List Vl} (h : sameTK l r) : sameTs false l r = true := by
  induction l generalizing r with
  | nil => cases r with
    | nil => rfl
    | cons y r => exact absurd h (by simp [sameTK])
  | cons x l ih => cases r with
    | nil => exact absurd h (by simp [sameTK])
    | cons y r =>
      obtain ⟨h1, h2, h3⟩ := h
      simp [sameTs, sameT, h1, h2, ih h3]
theorem scanS_len (s : ByteArray) : (scanS s).1.length ≤ 2000 ∧ ∀ v ∈ (scanS s).1, v.s.size ≤ maxLen := by
  by_cases h : (scanS s).2.2 = 0
  · have h1 := (scanS_one s h).1
    refine ⟨?_, fun v hv => ?_⟩
    · unfold scanS at h ⊢
      split at h
      · cases h
      · rename_i h2
        rw [if_neg h2]
        rcases hF : scanF (s.size + 1) s.data.toList 0 with ⟨ts, q, e⟩
        rw [hF] at h
        simp only at h
        subst h
        have := scanF_zero hF
        subst this
        have := (scanF_one _ _ _ (by rw [size_list]; omega) _ hF).2
        rw [size_list] at this
        exact Nat.le_trans this (by omega)
    · simp only [allOne, List.all_eq_true] at h1
      have := oneB_size (h1 v hv)
      unfold maxLen
      omega
  · rw [scanS_bad s h]
    exact ⟨Nat.zero_le _, fun v hv => by cases hv⟩
set_option maxHeartbeats 2000000 in
theorem begun_any (w : World) :
    Calls Try.prog 9 #[] w fun e w' => e = .returned (.bool true) ∧ Below w.heap.size w w' := by
  have HC := Lib.hid (fun W => scan0 ▸ scan_any text0 W (by unfold maxLen; decide))
  have HJ := Lib.hid (fun A c W hr => join0 ▸ join_any toks0 A 5 c W hr (by decide) (fun v hv => by
    have := scanS_len text0
    rw [scan0] at this
    exact this.2 v hv))
  go_enter Try.func9, Try.ntmps9
  go_wp2_with fail
  refine (HC.out w).mono ?_
  rintro e w1 ⟨v, rfl, hown, hb1⟩
  dsimp only at hown ⊢
  have z1 := hb1.size
  rw [show toks0.length = 5 from rfl] at hown
  obtain ⟨g, cap, rfl, hg1, hg2⟩ := hown.form (by decide)
  obtain ⟨A1, c1, he, hrd, hn1⟩ := rd_of_own hown
  obtain ⟨rfl, _, rfl⟩ := Value.slice.inj he
  clear he hn1
  go_wp2_with fail
  refine (HJ.out _ _ w1 hrd).mono ?_
  rintro e w2 ⟨rfl, hb2⟩
  have hown2 := own_below hown hb2
  have d0 : w2.cell? ⟨g, 3, none⟩ = some (.int .i64 4) := hown2.cellAt 3 (by decide)
  have d1 : w2.cell? ⟨g, 4, none⟩ = some (.int .i64 3) := hown2.cellAt 4 (by decide)
  have d2 : w2.cell? ⟨g, 5, none⟩ = some (.string (bs [61])) := hown2.cellAt 5 (by decide)
  have e1 := bs_toList [61]
  have e2 := bs_toList [97, 98, 32, 61, 32, 55, 32, 59, 32, 39, 120, 39]
  dsimp only
  go_wp2_with fail
  go_ret
  exact ⟨rfl, hb1.trans (hb2.mono z1)⟩
set_option maxHeartbeats 4000000 in
theorem scans_any (s : ByteArray) (w : World) (hm : s.size ≤ maxLen) :
    Calls Try.prog 3 #[.string s] w fun e w' => e = .returned (.bool true) ∧ Below w.heap.size w w' := by
  have HC := Lib.hid (fun W => scan_any s W hm)
  have HR := Lib.hid (fun W => scanof_any s W hm)
  generalize scanS s = T at *
  obtain ⟨vs, p, e⟩ := T
  go_enter Try.func3, Try.ntmps3
  go_wp2_with fail
  refine (HC.out w).mono ?_
  rintro e w1 ⟨v, rfl, hown1, hb1⟩
  have z1 := hb1.size
  dsimp only at hown1 ⊢
  go_wp2_with fail
  refine (HR.out w1).mono ?_
  rintro e w2 ⟨v', rfl, hown2, hb2⟩
  have z2 := hb2.size
  dsimp only at hown2 ⊢
  go_wp2_with fail
  refine (begun_any w2).mono ?_
  rintro e w3 ⟨rfl, hb3⟩
  have z3 := hb3.size
  obtain ⟨A1, c1, rfl, hrd1, hn1⟩ := rd_of_own (own_below (own_below hown1 hb2) hb3)
  obtain ⟨A2, c2, rfl, hrd2, hn2⟩ := rd_of_own (own_below hown2 hb3)
  go_wp2_with fail
  refine (rsamet_any true vs vs A1 A2 vs.length vs.length c1 c2 w3 hrd1 hrd2 hn1 hn2).mono ?_
  rw [sameTs_self]
  rintro e w4 ⟨rfl, hb4⟩
  go_wp2_with fail
  go_ret
  exact ⟨rfl, (hb1.trans (hb2.mono z1)).trans ((hb3.trans (hb4.mono z3)).mono (by omega))⟩
set_option maxHeartbeats 4000000 in
theorem joins_law (vs : List Vl) (A : Option Addr) (n c : Nat) (w : World) (hr : RdV w w.heap.size A n vs) (hn : n * 32 ≤ 140737488351232) (hm : ∀ v ∈ vs, v.s.size ≤ maxLen) :
    Calls Try.prog 4 #[.slice A n c] w fun e w' => e = .returned (.bool true) ∧ Below w.heap.size w w' := by
  have HC := Lib.hid (fun W hr => join_any vs A n c W hr hn hm)
  have HR := Lib.hid (fun W hr => joinof_any vs A n c W hr hn hm)
  generalize joinS vs = T at *
  obtain ⟨t, e⟩ := T
  go_enter Try.func4, Try.ntmps4
  go_wp2_with fail
  refine (HC.out w hr).mono ?_
  rintro e w1 ⟨rfl, hb1⟩
  have z1 := hb1.size
  go_wp2_with fail
  refine (HR.out w1 (Rd.more (Rd.below hr hb1) z1)).mono ?_
  rintro e w2 ⟨rfl, hb2⟩
  have z2 := hb2.size
  dsimp only
  go_wp2_with fail
  refine (begun_any w2).mono ?_
  rintro e w3 ⟨rfl, hb3⟩
  go_wp2_with fail
  go_ret
  exact ⟨rfl, (hb1.trans (hb2.mono z1)).trans (hb3.mono (by omega))⟩
end Go.Proofs.Ytphaijjofmkjcaa
