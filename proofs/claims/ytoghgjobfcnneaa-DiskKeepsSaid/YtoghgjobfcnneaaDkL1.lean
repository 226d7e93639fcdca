/- The laws' sector; what disks are in the first case. -/
import Derived.Test.YtoghgjobfcnneaaDk6
import Derived.Test.YtoghgjobfcnneaaDk8
import Derived.Test.YtoghgjobfcnneaaDkR2
namespace Go.Proofs.Ytoghgjobfcnneaa
open Go.RowKit
theorem elU8 : ElT Try.prog 58 5 (.int .u8 0) 1 1 := elT_mk Try.underlying58 (by kernel_rfl) rfl (by decide)
def sec (b : UInt8) : ByteArray := bs (List.replicate 64 b)
set_option maxHeartbeats 2000000 in
theorem sector_any (b : UInt8) (w : World) : Calls Try.prog 34 #[.int .u8 b.toNat] w fun e w' => e = .returned (.string (sec b)) ∧ Below w.heap.size w w' := by
  go_enter Try.func34, Try.ntmps34
  go_wp2_with fail
  go_loopg [3, 4] 64 (fun m v i wr => ∃ k : Nat, k ≤ 64 ∧ i = .int .i64 k ∧ m = 64 - k ∧ wr.ownsRow w.heap.size 5 1 v k (byteC (List.replicate k b)) ∧ Below w.heap.size w wr)
  case atStart => exact ⟨0, Nat.zero_le _, rfl, rfl, World.ownsRow_nil _ _ _ _, Below.refl _ _⟩
  case round =>
    obtain ⟨k, hk, rfl, rfl, hown, hb⟩ := hrel
    have hz := hb.size
    by_cases hlt : k < 64
    · have HS := Lib.hid (show byteC (List.replicate k b) ++ [Value.int .u8 b.toNat] = byteC (List.replicate (k + 1) b) by rw [List.replicate_succ', byteC_append]; rfl)
      go_wp2_with (at_builtin; refine wpList_app rfl (.tmp 9) (.tmp 11) elU8 rfl hown rfl rfl (by simp) (by simp) rfl (by unfold maxLen; omega) (by omega) (by omega) ?_; intro v3 w3 hown3 hl3 hat3)
      go_roundg (64 - (k + 1))
      case rel => exact ⟨k + 1, by omega, by go_num, rfl, by rw [← HS.out]; exact hown3, hb.trans (hl3.below.mono (by omega))⟩
      case measure => omega
    · obtain rfl : k = 64 := by omega
      obtain ⟨g, cap, rfl, hg1, hg2⟩ := hown.form (by decide)
      have hcell : ∀ i, i < 64 → wr.cell? ⟨g, 0 + i, none⟩ = some (.int .u8 (((List.replicate 64 b).map fun x => (x.toNat : Int)).getD i 0)) := fun i hi => by
        rw [Nat.zero_add, hown.cellAt i (by omega)]
        unfold byteC
        rw [List.getElem?_map, List.getElem?_replicate, if_pos hi, List.getD_eq_getElem?_getD, List.getElem?_map, List.getElem?_replicate, if_pos hi]
        rfl
      obtain ⟨Z, hZ⟩ : ∃ Z : List Int, Z = (List.replicate 64 b).map fun x => (x.toNat : Int) := ⟨_, rfl⟩
      have hZl : Z.length = 64 := by rw [hZ]; simp
      rw [← hZ] at hcell
      have HC := Lib.hid hcell
      have HZ := Lib.hid hZ
      have HL := Lib.hid hZl
      clear hcell hlt hZ hZl
      go_wp2_with (refine wpList_conv rfl 58 9 5 (.tmp 13) rfl Try.underlying58 Try.underlying5 Try.underlying9 g 0 64 cap Z rfl HL.out HC.out ?_)
      go_ret
      exact ⟨by rw [HZ.out, strOfNums_bytes]; rfl, hb⟩
def s7 : ByteArray := sec 7
def dk0 : Dk := ⟨[blank, blank], []⟩
def dk1 : Dk := ⟨[blank, blank], [⟨1, s7⟩]⟩
def dk2 : Dk := ⟨[blank, s7], []⟩
theorem dkN : newD 2 = (dk0, 0) := by kernel_rfl
theorem dkW : writeD dk0 1 s7 = (dk1, 0) := by kernel_rfl
theorem dkF : flushD dk1 = (dk2, 0) := by kernel_rfl
theorem dkC : crashD dk1 [false] = (dk0, 0) := by kernel_rfl
theorem dkK : checkD dk1 = 0 := by kernel_rfl
theorem dkS : sameD dk0 dk0 = true := sameD_eq.2 rfl
theorem ok0 : DkOk dk0 := DkOk.of_check (by kernel_rfl)
theorem ok1 : DkOk dk1 := DkOk.of_check dkK
theorem ok2 : DkOk dk2 := DkOk.of_check (by kernel_rfl)
end Go.Proofs.Ytoghgjobfcnneaa
