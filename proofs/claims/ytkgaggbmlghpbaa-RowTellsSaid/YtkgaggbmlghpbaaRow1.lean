/- Rights: what is wrong with some values. -/
import Derived.Test.YtkgaggbmlghpbaaLeaf
import Derived.Test.YtkgaggbmlghpbaaMem
namespace Go.Proofs.Ytkgaggbmlghpbaa
open Go.RowKit

set_option maxHeartbeats 1000000 in
theorem rights_any (vs : List Vl) (A : Option Addr) (n c : Nat) (w : World) (hr : RdV w w.heap.size A n vs) (hn : n ≤ maxLen) (hs : ∀ v ∈ vs, v.s.size ≤ maxLen) :
    Calls Try.prog 12 #[.slice A n c] w fun e w' => e = .returned (.int .i64 (rightsE vs)) ∧ Below w.heap.size w w' := by
  unfold maxLen at hn
  have hlen := hr.len
  by_cases h5 : 5 < n
  · have e : rightsE vs = 2 := by simp [rightsE, hlen, h5]
    have HE := Lib.hid e
    have HL := Lib.hid hlen
    clear e hlen
    go_enter Try.func12, Try.ntmps12
    go_wp2
    go_ret
    exact ⟨by rw [HE.out]; rfl, Below.refl _ _⟩
  have e : rightsE vs = firstErr (vs.map Vl.chk) := by simp [rightsE, hlen, h5]
  have HE := Lib.hid e
  have HL := Lib.hid hlen
  clear e hlen
  go_enter Try.func12, Try.ntmps12
  go_wp2
  go_loopw [11] (fun i wr => ∃ k : Nat, k ≤ n ∧ i = .int .i64 k ∧ firstErr ((vs.map Vl.chk).take k) = 0 ∧ Below w.heap.size w wr) (fun i _ => n - (intOf i).toNat)
  case atStart => exact ⟨0, Nat.zero_le _, rfl, rfl, Below.refl _ _⟩
  case round =>
    obtain ⟨k, hk, rfl, hf, hb⟩ := hrel
    have HF := Lib.hid hf
    clear hf
    by_cases hlt : k < n
    · obtain ⟨v, hv⟩ : ∃ v, vs[k]? = some v := ⟨vs[k]'(by rw [HL.out]; exact hlt), List.getElem?_eq_getElem _⟩
      obtain ⟨b, o, rfl, hbl, c0, c1, c2⟩ := (show RdV wr w.heap.size A n vs from Rd.below hr hb).at_ k v hv
      have hvs := hs v (List.mem_of_getElem? hv)
      have HV := Lib.hid hv
      have hz := hb.size
      clear hv
      by_cases hc : v.chk = 0
      · have HC := Lib.hid hc
        have hc1 : (v.chk != 0) = false := by simp [hc]
        clear hc
        go_wp2_with (go_at_call 19; refine (vcheck_any v _ hvs).mono ?_; rintro e w1 ⟨rfl, hb1⟩)
        go_roundw
        case rel => exact ⟨k + 1, by omega, by go_num, firstErr_step _ _ HF.out (by rw [List.getElem?_map, HV.out]; simp [HC.out]), hb.trans (((Below.refl _ _).alloc hz _).trans (hb1.mono (by simp; omega)))⟩
        case measure => simp [intOf]; omega
      · have HC := Lib.hid hc
        have hc1 : (v.chk != 0) = true := by simp [hc]
        clear hc
        go_wp2_with (go_at_call 19; refine (vcheck_any v _ hvs).mono ?_; rintro e w1 ⟨rfl, hb1⟩)
        go_ret
        exact ⟨by rw [HE.out, firstErr_hit _ _ _ HF.out (by rw [List.getElem?_map, HV.out]; rfl) HC.out]; rfl, hb.trans (((Below.refl _ _).alloc hz _).trans (hb1.mono (by simp; omega)))⟩
    · go_wp2
      go_ret
      exact ⟨by rw [HE.out, ← HF.out, List.take_of_length_le (by rw [List.length_map, HL.out]; omega)]; rfl, hb⟩
end Go.Proofs.Ytkgaggbmlghpbaa
