/- The reference's bytes of values. -/
import Derived.Test.YtkgaggbmlghpbaaLeaf
import Derived.Test.YtkgaggbmlghpbaaOps
import Derived.StillTailTactics
import Derived.Handy
namespace Go.Proofs.Ytkgaggbmlghpbaa
open Go.RowKit
set_option maxHeartbeats 1000000 in
theorem rencode_any (vs : List Vl) (A : Option Addr) (n c : Nat) (w : World) (hr : RdV w w.heap.size A n vs) (hok : ∀ v ∈ vs, v.chk = 0) (h5 : n ≤ 5) :
    Calls Try.prog 8 #[.slice A n c] w fun e w' => e = .returned (.string (bs (encL vs))) ∧ Below w.heap.size w w' := by
  have hlen := hr.len
  have HL := Lib.hid hlen
  clear hlen
  go_enter Try.func8, Try.ntmps8
  go_wp2
  go_loopw [3, 4] (fun s i wr => ∃ k S, k ≤ n ∧ i = .int .i64 (k : Nat) ∧ s = .string S ∧ S = bs (UInt8.ofNat n :: (vs.take k).flatMap Vl.enc) ∧ S.size ≤ 1 + 22 * k ∧ Below w.heap.size w wr) (fun _ i _ => n - (intOf i).toNat)
  case atStart => exact ⟨0, _, Nat.zero_le _, rfl, rfl, rfl, by rw [bs_size]; simp, below_two _⟩
  case round =>
    obtain ⟨k, S, hk, rfl, rfl, hS, hz, hb⟩ := hrel
    have HS := Lib.hid hS
    clear hS
    by_cases hlt : k < n
    · obtain ⟨v, hv⟩ : ∃ v, vs[k]? = some v := ⟨vs[k]'(by rw [HL.out]; exact hlt), List.getElem?_eq_getElem _⟩
      obtain ⟨b, o, rfl, hbl, c0, c1, c2⟩ := (show RdV wr w.heap.size A n vs from Rd.below hr hb).at_ k v hv
      have hc := hok v (List.mem_of_getElem? hv)
      have HV := Lib.hid (flat_snoc Vl.enc vs k v hv)
      have hbz := hb.size
      clear hv
      rcases Vl.right hc with rfl | ⟨m, rfl, m1, m2⟩ | ⟨s, rfl, s1, s2⟩ | ⟨m, rfl, m1, m2⟩
      · clear hc hok
        go_wp2
        go_roundw
        case rel =>
          refine ⟨k + 1, _, by omega, by go_num, rfl, ?_, ?_, ?_⟩
          · rw [HV.out, HS.out]; simp only [bs_append]; simp [Vl.enc]
          · simp [ByteArray.size_append, bs_size]; omega
          · repeat' (first | exact hb | apply Below.alloc | omega | (simp; omega))
        case measure => simp [intOf]; omega
      · go_wp2
        go_rounds 5
        go_roundw
        case rel =>
          refine ⟨k + 1, _, by omega, by go_num, rfl, ?_, ?_, ?_⟩
          · rw [HV.out, HS.out]; simp only [bs_append]; congr 1; simp [Vl.enc, le4]
          · simp [ByteArray.size_append, bs_size]; omega
          · repeat' (first | exact hb | apply Below.alloc | omega | (simp; omega))
        case measure => simp [intOf]; omega
      · go_wp2
        go_roundw
        case rel =>
          refine ⟨k + 1, _, by omega, by go_num, rfl, ?_, ?_, ?_⟩
          · rw [HV.out, HS.out]; simp only [bs_append_s, bs_data]; simp [Vl.enc]
          · simp [ByteArray.size_append, bs_size]; omega
          · repeat' (first | exact hb | apply Below.alloc | omega | (simp; omega))
        case measure => simp [intOf]; omega
      · go_wp2
        go_roundw
        case rel =>
          refine ⟨k + 1, _, by omega, by go_num, rfl, ?_, ?_, ?_⟩
          · rw [HV.out, HS.out]; simp only [bs_append]; congr 1; simp [Vl.enc]
          · simp [ByteArray.size_append, bs_size]; omega
          · repeat' (first | exact hb | apply Below.alloc | omega | (simp; omega))
        case measure => simp [intOf]; omega
    · go_wp2
      go_ret
      refine ⟨?_, hb⟩
      rw [encL, HL.out, HS.out, List.take_of_length_le (by rw [HL.out]; omega)]
      rfl
end Go.Proofs.Ytkgaggbmlghpbaa
