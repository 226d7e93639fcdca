/- The program's reader of bytes: take, one. -/
import Derived.Test.YtkgaggbmlghpbaaLeaf
import Derived.Test.YtkgaggbmlghpbaaOps
import Derived.Handy
namespace Go.Proofs.Ytkgaggbmlghpbaa
open Go.RowKit
set_option maxHeartbeats 1000000 in
theorem take_any (l : List UInt8) (sh : Bool) (n : Int) (g : Nat) (w : World) (h0 : 0 ≤ n) (hn : n ≤ 9223372036854775807) (_hl : l.length ≤ 9223372036854775807) (hg : Blk w g 46 #[.string (bs l), .bool sh]) :
    Calls Try.prog 28 #[.pointer (some ⟨g, 0, none⟩), .int .i64 n] w fun e w' => e = .returned (.string (bs (takeR l sh n.toNat).1)) ∧
      Blk w' g 46 #[.string (bs (takeR l sh n.toNat).2.1), .bool (takeR l sh n.toNat).2.2] ∧ w.grownBy w' (some g) := by
  obtain ⟨n, rfl⟩ := Int.eq_ofNat_of_zero_le h0
  rw [Int.toNat_natCast]
  obtain ⟨S, hS⟩ : ∃ S, S = bs l := ⟨_, rfl⟩
  have hl' : l = S.data.toList := by rw [hS]; rfl
  have hsz : S.size = l.length := by rw [hS, bs_size]
  rw [← hS] at hg
  have HS := Lib.hid hl'
  have hc0 : w.cell? ⟨g, 0, none⟩ = some (.string S) := hg.cell 0
  have hc1 : w.cell? ⟨g, 1, none⟩ = some (.bool sh) := hg.cell 1
  have hf0 := hg.free 0
  have hf1 := hg.free 1
  rw [← hsz] at _hl
  by_cases hlt : S.size < n
  · have HT : Hid (takeR l sh n = ([], [], true)) := Lib.hid (by rw [takeR, if_pos (by omega)])
    clear hS hl' hsz
    go_enter Try.func28, Try.ntmps28
    go_wp2
    go_ret
    rw [HT.out]
    exact ⟨rfl, (hg.put 0 (.string .empty)).put 1 (.bool true), turn_put (turn_put (World.grownBy.refl _ _) 0 _) 1 _⟩
  · have HT : Hid (takeR l sh n = (l.take n, l.drop n, sh)) := Lib.hid (by rw [takeR, if_neg (by omega)])
    clear hS hl' hsz
    go_enter Try.func28, Try.ntmps28
    go_wp2
    go_ret
    rw [HT.out, HS.out]
    exact ⟨by rw [← extract_zero]; rfl, by rw [← extract_end]; exact (hg.put 0 _), turn_put (World.grownBy.refl _ _) 0 _⟩
set_option maxHeartbeats 1000000 in
theorem one_any (l : List UInt8) (sh : Bool) (g : Nat) (w : World) (hl : l.length ≤ 9223372036854775807) (hg : Blk w g 46 #[.string (bs l), .bool sh]) :
    Calls Try.prog 20 #[.pointer (some ⟨g, 0, none⟩)] w fun e w' => e = .returned (.int .i64 (oneR l sh).1) ∧
      Blk w' g 46 #[.string (bs (oneR l sh).2.1), .bool (oneR l sh).2.2] ∧ w.grownBy w' (some g) := by
  cases l with
  | nil =>
    go_enter Try.func20, Try.ntmps20
    go_wp2_with (go_at_call 28; refine (take_any [] sh 1 g _ (by omega) (by omega) hl hg).mono ?_; rintro e w1 ⟨rfl, hg1, ht1⟩; have hc1 : w1.cell? ⟨g, 1, none⟩ = some (.bool true) := hg1.cell 1)
    go_ret
    exact ⟨rfl, hg1, ht1⟩
  | cons b r =>
    have HT : takeR (b :: r) sh 1 = ([b], r, sh) := by simp [takeR]
    cases sh
    · go_enter Try.func20, Try.ntmps20
      go_wp2_with (go_at_call 28; refine (take_any (b :: r) false 1 g _ (by omega) (by omega) hl hg).mono ?_; rintro e w1 ⟨rfl, hg1, ht1⟩; have hc1 : w1.cell? ⟨g, 1, none⟩ = some (.bool false) := hg1.cell 1)
      go_ret
      exact ⟨by show Ending.returned (.int .i64 (wrap64 _)) = _; rw [wrap64_u8]; rfl, hg1, ht1⟩
    · go_enter Try.func20, Try.ntmps20
      go_wp2_with (go_at_call 28; refine (take_any (b :: r) true 1 g _ (by omega) (by omega) hl hg).mono ?_; rintro e w1 ⟨rfl, hg1, ht1⟩; have hc1 : w1.cell? ⟨g, 1, none⟩ = some (.bool true) := hg1.cell 1)
      go_ret
      exact ⟨rfl, hg1, ht1⟩
end Go.Proofs.Ytkgaggbmlghpbaa
