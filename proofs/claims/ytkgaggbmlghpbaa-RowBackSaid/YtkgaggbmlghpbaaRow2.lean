/- The program's bytes of values. -/
import Derived.Test.YtkgaggbmlghpbaaLeaf
import Derived.Test.YtkgaggbmlghpbaaOps
import Derived.Handy
import Derived.Deep.DeepMust
namespace Go.Proofs.Ytkgaggbmlghpbaa
open Go.RowKit
theorem elBytes : ElT Try.prog 38 5 (.int .u8 0) 1 1 := elT_mk Try.underlying38 (by kernel_rfl) rfl (by decide)
set_option maxHeartbeats 1000000 in
theorem bytes_any (vs : List Vl) (A : Option Addr) (n c : Nat) (w : World) (hr : RdV w w.heap.size A n vs) (hok : ∀ v ∈ vs, v.chk = 0) (h5 : n ≤ 5) :
    Calls Try.prog 13 #[.slice A n c] w fun e w' => e = .returned (.string (bs (encL vs))) ∧ Below w.heap.size w w' := by
  have hlen := hr.len
  have HL := Lib.hid hlen
  clear hlen
  go_enter Try.func13, Try.ntmps13
  go_wp2
  go_loopw [3, 13] (fun s i wr => ∃ (k : Nat) (L : List UInt8), k ≤ n ∧ i = .int .i64 (k : Nat) ∧ wr.ownsRow w.heap.size 5 1 s L.length (byteC L) ∧ L = UInt8.ofNat n :: (vs.take k).flatMap Vl.enc ∧ L.length ≤ 1 + 22 * k ∧ Below w.heap.size w wr) (fun _ i _ => n - (intOf i).toNat)
  case atStart => exact ⟨0, [UInt8.ofNat n], Nat.zero_le _, rfl, own_conv (World.ownsRow_lit w #[.int .u8 n] 1 (Nat.le_refl _) (by unfold maxLen; omega) rfl) _ (byteC_ofNat _ (by omega)).symm, rfl, by simp, below_two _⟩
  case round =>
    obtain ⟨k, L, hk, rfl, hown, hL, hz, hb⟩ := hrel
    have HS := Lib.hid hL
    clear hL
    by_cases hlt : k < n
    · obtain ⟨v, hv⟩ : ∃ v, vs[k]? = some v := ⟨vs[k]'(by rw [HL.out]; exact hlt), List.getElem?_eq_getElem _⟩
      obtain ⟨b, o, rfl, hbl, c0, c1, c2⟩ := (show RdV wr w.heap.size A n vs from Rd.below hr hb).at_ k v hv
      have hc := hok v (List.mem_of_getElem? hv)
      have HV := Lib.hid (flat_snoc Vl.enc vs k v hv)
      have hbz := hb.size
      clear hv
      rcases Vl.right hc with rfl | ⟨m, rfl, m1, m2⟩ | ⟨s, rfl, s1, s2⟩ | ⟨m, rfl, m1, m2⟩
      · clear hc hok
        go_wp2_with (at_builtin; refine wpList_app rfl (.tmp 17) (.tmp 21) elBytes rfl (hown.alloc _) rfl rfl (by simp) (by simp) rfl (by unfold maxLen; omega) (by omega) (by first | omega | (simp; omega)) ?_; intro v1 w1 hown1 hl1 hatw1; have d0w1 : w1.cell? ⟨wr.heap.size, 0, none⟩ = some (.int .i64 0) := hl1.new (own_ne hown (Nat.le_refl _)) 0; have d1w1 : w1.cell? ⟨wr.heap.size, 1, none⟩ = some (.int .i64 0) := hl1.new (own_ne hown (Nat.le_refl _)) 1; have d2w1 : w1.cell? ⟨wr.heap.size, 2, none⟩ = some (.string ByteArray.empty) := hl1.new (own_ne hown (Nat.le_refl _)) 2; have hz1 := hl1.below.size; simp only [World.size_alloc] at hz1)
        go_roundw
        case rel => exact ⟨k + 1, L ++ Vl.enc ⟨0, 0, .empty⟩, by omega, by go_num, own_conv hown1 _ (by rw [byteC_append]; rfl), by rw [HV.out, HS.out]; simp, by simp [Vl.enc]; omega, (hb.alloc hbz _).trans hl1.below⟩
        case measure => simp [intOf]; omega
      · clear hc hok
        go_wp2_with (first | (at_builtin; refine wpList_app rfl (.tmp 17) (.tmp 21) elBytes rfl (hown.alloc _) rfl rfl (by simp) (by simp) rfl (by unfold maxLen; omega) (by omega) (by first | omega | (simp; omega)) ?_; intro v1 w1 hown1 hl1 hatw1; have d0w1 : w1.cell? ⟨wr.heap.size, 0, none⟩ = some (.int .i64 1) := hl1.new (own_ne hown (Nat.le_refl _)) 0; have d1w1 : w1.cell? ⟨wr.heap.size, 1, none⟩ = some (.int .i64 m) := hl1.new (own_ne hown (Nat.le_refl _)) 1; have d2w1 : w1.cell? ⟨wr.heap.size, 2, none⟩ = some (.string ByteArray.empty) := hl1.new (own_ne hown (Nat.le_refl _)) 2; have hz1 := hl1.below.size; simp only [World.size_alloc] at hz1) | (at_builtin; refine wpList_app rfl (.tmp 31) (.tmp 43) elBytes rfl hown1 rfl rfl (by simp) (by simp) rfl (by unfold maxLen; omega) (by omega) (by first | omega | (simp; omega)) ?_; intro v2 w2 hown2 hl2 hatw2))
        go_roundw
        case rel => exact ⟨k + 1, L ++ Vl.enc ⟨1, m, .empty⟩, by omega, by go_num, own_conv hown2 _ (by rw [byteC_append]; simp only [Vl.enc, if_true]; rw [show UInt8.ofNat (1 : Int).toNat :: le4 (m + 999999999) = [1] ++ le4 (m + 999999999) from rfl, byteC_append, byteC_le4 _ (by omega) (by omega)]; simp [byteC]), by rw [HV.out, HS.out]; simp, by simp [Vl.enc, le4]; omega, ((hb.alloc hbz _).trans hl1.below).trans hl2.below⟩
        case measure => simp [intOf]; omega
      · clear hc hok
        have hss : s.size < 256 := by omega
        go_wp2_with (first | (at_builtin; refine wpList_app rfl (.tmp 17) (.tmp 21) elBytes rfl (hown.alloc _) rfl rfl (by simp) (by simp) rfl (by unfold maxLen; omega) (by omega) (by first | omega | (simp; omega)) ?_; intro v1 w1 hown1 hl1 hatw1; have d0w1 : w1.cell? ⟨wr.heap.size, 0, none⟩ = some (.int .i64 2) := hl1.new (own_ne hown (Nat.le_refl _)) 0; have d1w1 : w1.cell? ⟨wr.heap.size, 1, none⟩ = some (.int .i64 0) := hl1.new (own_ne hown (Nat.le_refl _)) 1; have d2w1 : w1.cell? ⟨wr.heap.size, 2, none⟩ = some (.string s) := hl1.new (own_ne hown (Nat.le_refl _)) 2; have hz1 := hl1.below.size; simp only [World.size_alloc] at hz1) | (at_builtin; refine wpList_app rfl (.tmp 47) (.tmp 52) elBytes rfl hown1 rfl rfl (by simp) (by simp) rfl (by unfold maxLen; omega) (by omega) (by first | omega | (simp; omega)) ?_; intro v2 w2 hown2 hl2 hatw2; have d2w2 : w2.cell? ⟨wr.heap.size, 2, none⟩ = some (.string s) := (hl2.far ⟨wr.heap.size, 2, none⟩ (by first | omega | (simp; omega)) (at_ne hown hatw1 (by first | omega | (simp; omega)))).trans d2w1; have hz2 := hl2.below.size) | (at_builtin; refine wpList_appS rfl (.tmp 54) (.tmp 56) elBytes Try.underlying9 rfl hown2 rfl rfl (by unfold maxLen; omega) (by omega) (by omega) ?_; intro v3 w3 hown3 hl3))
        go_roundw
        case rel => exact ⟨k + 1, L ++ Vl.enc ⟨2, 0, s⟩, by omega, by go_num, own_conv hown3 _ (by rw [byteC_append, show Vl.enc ⟨2, 0, s⟩ = [2] ++ ([UInt8.ofNat s.size] ++ s.data.toList) from rfl, byteC_append, byteC_append, byteC_ofNat _ hss]; simp [byteC, Lib.strCells]), by rw [HV.out, HS.out]; simp, by simp [Vl.enc]; omega, (((hb.alloc hbz _).trans hl1.below).trans hl2.below).trans hl3.below⟩
        case measure => simp [intOf]; omega
      · clear hc hok
        go_wp2_with (first | (at_builtin; refine wpList_app rfl (.tmp 17) (.tmp 21) elBytes rfl (hown.alloc _) rfl rfl (by simp) (by simp) rfl (by unfold maxLen; omega) (by omega) (by first | omega | (simp; omega)) ?_; intro v1 w1 hown1 hl1 hatw1; have d0w1 : w1.cell? ⟨wr.heap.size, 0, none⟩ = some (.int .i64 3) := hl1.new (own_ne hown (Nat.le_refl _)) 0; have d1w1 : w1.cell? ⟨wr.heap.size, 1, none⟩ = some (.int .i64 m) := hl1.new (own_ne hown (Nat.le_refl _)) 1; have d2w1 : w1.cell? ⟨wr.heap.size, 2, none⟩ = some (.string ByteArray.empty) := hl1.new (own_ne hown (Nat.le_refl _)) 2; have hz1 := hl1.below.size; simp only [World.size_alloc] at hz1) | (at_builtin; refine wpList_app rfl (.tmp 60) (.tmp 64) elBytes rfl hown1 rfl rfl (by simp) (by simp) rfl (by unfold maxLen; omega) (by omega) (by first | omega | (simp; omega)) ?_; intro v2 w2 hown2 hl2 hatw2))
        go_roundw
        case rel => exact ⟨k + 1, L ++ Vl.enc ⟨3, m, .empty⟩, by omega, by go_num, own_conv hown2 _ (by rw [byteC_append, show Vl.enc ⟨3, m, .empty⟩ = [3] ++ [UInt8.ofNat m.toNat] from rfl, byteC_append, byteC_ofInt _ (by omega) (by omega)]; simp [byteC]), by rw [HV.out, HS.out]; simp, by simp [Vl.enc]; omega, ((hb.alloc hbz _).trans hl1.below).trans hl2.below⟩
        case measure => simp [intOf]; omega
    · obtain ⟨g, cap, hu, _, _⟩ := hown.form (by rw [HS.out]; simp)
      subst hu
      have hcv := run_convert_bytes_arg (P := Try.prog) wr 38 5 Try.underlying38 Try.underlying5 g 0 L.length cap (L.map fun b => (b.toNat : Int)) (by simp) (fun i hi => by rw [hown.cellAt _ (by omega)]; simp [byteC, List.getElem?_eq_getElem hi, List.getD]) 9 Try.underlying9
      rw [strOfNums_bytes] at hcv
      go_wp2
      go_ret
      refine ⟨?_, hb⟩
      rw [encL, HL.out, HS.out, List.take_of_length_le (by rw [HL.out]; omega)]
      rfl
end Go.Proofs.Ytkgaggbmlghpbaa
