/- The references' comparisons of values. -/
import Derived.Test.YtkgaggbmlghpbaaLeaf
import Derived.Test.YtkgaggbmlghpbaaMem
import Derived.StillTailTactics
namespace Go.Proofs.Ytkgaggbmlghpbaa
open Go.RowKit
set_option maxHeartbeats 1000000 in
theorem rsame_any (a b : Vl) (w : World) :
    Calls Try.prog 18 #[a.val, b.val] w fun e w' => e = .returned (.bool (a.same b)) ∧ Below w.heap.size w w' := by
  obtain ⟨k, n, s⟩ := a
  obtain ⟨k', n', s'⟩ := b
  dsimp only [Vl.val, Vl.same]
  by_cases h1 : k = k'
  · subst h1
    by_cases h2 : n = n'
    · subst h2
      go_enter Try.func18, Try.ntmps18
      go_wp2
      go_ret
      exact ⟨by simp, ((Below.refl _ _).alloc (Nat.le_refl _) _).alloc (by simp) _⟩
    · have h2' : (n == n') = false := by simp [h2]
      clear h2
      go_enter Try.func18, Try.ntmps18
      go_wp2
      go_ret
      exact ⟨by simp [h2'], ((Below.refl _ _).alloc (Nat.le_refl _) _).alloc (by simp) _⟩
  · have h1' : (k == k') = false := by simp [h1]
    clear h1
    go_enter Try.func18, Try.ntmps18
    go_wp2
    go_ret
    exact ⟨by simp [h1'], ((Below.refl _ _).alloc (Nat.le_refl _) _).alloc (by simp) _⟩

set_option maxHeartbeats 1000000 in
theorem rsames_any (vs us : List Vl) (A A' : Option Addr) (n n' c c' : Nat) (w : World) (hr : RdV w w.heap.size A n vs) (hr' : RdV w w.heap.size A' n' us) (hn : n ≤ maxLen) (hn' : n' ≤ maxLen) :
    Calls Try.prog 11 #[.slice A n c, .slice A' n' c'] w fun e w' => e = .returned (.bool (sameVs vs us)) ∧ Below w.heap.size w w' := by
  unfold maxLen at hn hn'
  have hlen := hr.len
  have hlen' := hr'.len
  by_cases hnn : n = n'
  · subst hnn
    have HL := Lib.hid hlen
    have HL' := Lib.hid hlen'
    clear hlen hlen'
    go_enter Try.func11, Try.ntmps11
    go_wp2
    go_loopw [5] (fun i wr => ∃ k : Nat, k ≤ n ∧ i = .int .i64 k ∧ sameVs (vs.drop k) (us.drop k) = sameVs vs us ∧ Below w.heap.size w wr) (fun i _ => n - (intOf i).toNat)
    case atStart => exact ⟨0, Nat.zero_le _, rfl, rfl, Below.refl _ _⟩
    case round =>
      obtain ⟨k, hk, rfl, hf, hb⟩ := hrel
      have HF := Lib.hid hf
      clear hf
      by_cases hlt : k < n
      · obtain ⟨v, hv⟩ : ∃ v, vs[k]? = some v := ⟨vs[k]'(by rw [HL.out]; exact hlt), List.getElem?_eq_getElem _⟩
        obtain ⟨u, hu⟩ : ∃ v, us[k]? = some v := ⟨us[k]'(by rw [HL'.out]; exact hlt), List.getElem?_eq_getElem _⟩
        obtain ⟨b, o, rfl, hbl, c0, c1, c2⟩ := (show RdV wr w.heap.size A n vs from Rd.below hr hb).at_ k v hv
        obtain ⟨b', o', rfl, hbl', c0', c1', c2'⟩ := (show RdV wr w.heap.size A' n us from Rd.below hr' hb).at_ k u hu
        have HV := Lib.hid hv
        have HU := Lib.hid hu
        have hz := hb.size
        clear hv hu
        by_cases hs : v.same u = true
        · have HS := Lib.hid hs
          clear hs
          go_wp2
          go_still_tail 8, (by kernel_rfl)
          go_wp2_with (go_at_call 18; refine (rsame_any v u _).mono ?_; rw [HS.out]; rintro e w1 ⟨rfl, hb1⟩)
          go_roundw
          case rel => exact ⟨k + 1, by omega, by go_num, by rw [← HF.out, drop_eq _ _ _ HV.out, drop_eq _ _ _ HU.out, sameVs, HS.out, Bool.true_and], hb.trans ((below_undrew hb1).mono hz)⟩
          case measure => simp [intOf]; omega
        · have hs' : v.same u = false := by simpa using hs
          have HS := Lib.hid hs'
          clear hs hs'
          go_wp2
          go_still_tail 8, (by kernel_rfl)
          go_wp2_with (go_at_call 18; refine (rsame_any v u _).mono ?_; rw [HS.out]; rintro e w1 ⟨rfl, hb1⟩)
          go_ret
          exact ⟨by rw [← HF.out, drop_eq _ _ _ HV.out, drop_eq _ _ _ HU.out, sameVs, HS.out]; rfl, hb.trans ((below_undrew hb1).mono hz)⟩
      · go_wp2
        go_ret
        refine ⟨?_, hb⟩
        rw [← HF.out, List.drop_eq_nil_of_le (by rw [HL.out]; omega), List.drop_eq_nil_of_le (by rw [HL'.out]; omega)]
        rfl
  · have hz : sameVs vs us = false := by
      rw [← Bool.not_eq_true]
      intro h
      rw [sameVs_iff] at h
      subst h
      omega
    have HZ := Lib.hid hz
    have hn1 : ((n : Int) != (n' : Int)) = true := by rw [bne_iff_ne]; omega
    clear hz hlen hlen' hnn
    go_enter Try.func11, Try.ntmps11
    go_wp2
    go_ret
    exact ⟨by rw [HZ.out]; rfl, Below.refl _ _⟩
end Go.Proofs.Ytkgaggbmlghpbaa
