/- The program's reader of bytes: take, one. The program's reader of bytes: a value. Rights: what is wrong with some values. The program's reader of bytes: all values; Decode. The program's bytes of values. Plain laws: what is encoded is decoded as it was, and nothing else is. Encode; what must be in any case. -/
import Derived.Test.YtnjjpblgcgikaaaDoorBase
import Derived.Handy
import Derived.BigQuiet
import Derived.Deep.QuietTactic
import Derived.Deep.DeepMust
import Derived.Deep.RegionHeld3
namespace Go.Proofs.YtnjjpblgcgikaaaDoor
open Go.RowKit
set_option maxHeartbeats 1000000 in
theorem take_any (l : List UInt8) (sh : Bool) (n : Int) (g : Nat) (w : World) (h0 : 0 ≤ n) (hn : n ≤ 9223372036854775807) (_hl : l.length ≤ 9223372036854775807) (hg : Blk w g 73 #[.string (bs l), .bool sh]) :
    Calls Tryd.prog 63 #[.pointer (some ⟨g, 0, none⟩), .int .i64 n] w fun e w' => e = .returned (.string (bs (takeR l sh n.toNat).1)) ∧
      Blk w' g 73 #[.string (bs (takeR l sh n.toNat).2.1), .bool (takeR l sh n.toNat).2.2] ∧ w.grownBy w' (some g) := by
  obtain ⟨n, rfl⟩ := Int.eq_ofNat_of_zero_le h0
  rw [Int.toNat_natCast]
  obtain ⟨S, hS⟩ : ∃ S, S = bs l := ⟨_, rfl⟩
  have hl' : l = S.data.toList := by rw [hS]; rfl
  have hsz : S.size = l.length := by rw [hS, bs_size]
  rw [← hS] at hg
  have HS := Lib.hid hl'
  have hc0 : w.cell? ⟨g, 0, none⟩ = some (.string S) := hg.cell 0
  have hc1 : w.cell? ⟨g, 1, none⟩ = some (.bool sh) := hg.cell 1
  have hf0 := hg.free 0
  have hf1 := hg.free 1
  rw [← hsz] at _hl
  by_cases hlt : S.size < n
  · have HT : Hid (takeR l sh n = ([], [], true)) := Lib.hid (by rw [takeR, if_pos (by omega)])
    clear hS hl' hsz
    go_enter Tryd.func63, Tryd.ntmps63
    go_wp2
    go_ret
    rw [HT.out]
    exact ⟨rfl, (hg.put 0 (.string .empty)).put 1 (.bool true), turn_put (turn_put (World.grownBy.refl _ _) 0 _) 1 _⟩
  · have HT : Hid (takeR l sh n = (l.take n, l.drop n, sh)) := Lib.hid (by rw [takeR, if_neg (by omega)])
    clear hS hl' hsz
    go_enter Tryd.func63, Tryd.ntmps63
    go_wp2
    go_ret
    rw [HT.out, HS.out]
    exact ⟨by rw [← extract_zero]; rfl, by rw [← extract_end]; exact (hg.put 0 _), turn_put (World.grownBy.refl _ _) 0 _⟩
set_option maxHeartbeats 1000000 in
theorem one_any (l : List UInt8) (sh : Bool) (g : Nat) (w : World) (hl : l.length ≤ 9223372036854775807) (hg : Blk w g 73 #[.string (bs l), .bool sh]) :
    Calls Tryd.prog 53 #[.pointer (some ⟨g, 0, none⟩)] w fun e w' => e = .returned (.int .i64 (oneR l sh).1) ∧
      Blk w' g 73 #[.string (bs (oneR l sh).2.1), .bool (oneR l sh).2.2] ∧ w.grownBy w' (some g) := by
  cases l with
  | nil =>
    go_enter Tryd.func53, Tryd.ntmps53
    go_wp2_with (go_at_call 63; refine (take_any [] sh 1 g _ (by omega) (by omega) hl hg).mono ?_; rintro e w1 ⟨rfl, hg1, ht1⟩; have hc1 : w1.cell? ⟨g, 1, none⟩ = some (.bool true) := hg1.cell 1)
    go_ret
    exact ⟨rfl, hg1, ht1⟩
  | cons b r =>
    have HT : takeR (b :: r) sh 1 = ([b], r, sh) := by simp [takeR]
    cases sh
    · go_enter Tryd.func53, Tryd.ntmps53
      go_wp2_with (go_at_call 63; refine (take_any (b :: r) false 1 g _ (by omega) (by omega) hl hg).mono ?_; rintro e w1 ⟨rfl, hg1, ht1⟩; have hc1 : w1.cell? ⟨g, 1, none⟩ = some (.bool false) := hg1.cell 1)
      go_ret
      exact ⟨by show Ending.returned (.int .i64 (wrap64 _)) = _; rw [wrap64_u8]; rfl, hg1, ht1⟩
    · go_enter Tryd.func53, Tryd.ntmps53
      go_wp2_with (go_at_call 63; refine (take_any (b :: r) true 1 g _ (by omega) (by omega) hl hg).mono ?_; rintro e w1 ⟨rfl, hg1, ht1⟩; have hc1 : w1.cell? ⟨g, 1, none⟩ = some (.bool true) := hg1.cell 1)
      go_ret
      exact ⟨rfl, hg1, ht1⟩
end Go.Proofs.YtnjjpblgcgikaaaDoor
namespace Go.Proofs.YtnjjpblgcgikaaaDoor
open Go.RowKit
/-- what 'one' answers, under names of its own -/
theorem one_names (l : List UInt8) (sh : Bool) (hl : l.length ≤ 9223372036854775807) : ∃ k l' sh', oneR l sh = (k, l', sh') ∧ k < 256 ∧ l'.length ≤ 9223372036854775807 ∧
    ∀ (g : Nat) (w : World), Blk w g 73 #[.string (bs l), .bool sh] → Calls Tryd.prog 53 #[.pointer (some ⟨g, 0, none⟩)] w fun e w' => e = .returned (.int .i64 (k : Nat)) ∧
      Blk w' g 73 #[.string (bs l'), .bool sh'] ∧ w.grownBy w' (some g) :=
  ⟨_, _, _, rfl, oneR_lt l sh, Nat.le_trans (oneR_len l sh) hl, fun g w hg => one_any l sh g w hl hg⟩
set_option maxHeartbeats 2000000 in
theorem value_int (l l1 : List UInt8) (sh s1 : Bool) (g : Nat) (w : World) (hl : l.length ≤ 9223372036854775807) (hl1 : l1.length ≤ 9223372036854775807) (hg : Blk w g 73 #[.string (bs l), .bool sh]) (h1 : oneR l sh = (1, l1, s1)) :
    Calls Tryd.prog 54 #[.pointer (some ⟨g, 0, none⟩)] w fun e w' => e = .returned (valR l sh).1.val ∧
      Blk w' g 73 #[.string (bs (valR l sh).2.1), .bool (valR l sh).2.2] ∧ w.grownBy w' (some g) := by
  have H1 := Lib.hid (one_any l sh)
  rw [h1] at H1
  have HV := Lib.hid (show valR l sh = _ by unfold valR; rw [h1])
  clear h1
  obtain ⟨b0, l2, s2, e2, k2, hl2, H2⟩ := one_names l1 s1 hl1
  obtain ⟨b1, l3, s3, e3, k3, hl3, H3⟩ := one_names l2 s2 hl2
  obtain ⟨b2, l4, s4, e4, k4, hl4, H4⟩ := one_names l3 s3 hl3
  obtain ⟨b3, l5, s5, e5, k5, hl5, H5⟩ := one_names l4 s4 hl4
  have E := Lib.hid (show num4 l1 s1 = (b0 + 256 * b1 + 65536 * b2 + 16777216 * b3, l5, s5) by simp only [num4, e2, e3, e4, e5])
  have C2 := Lib.hid H2
  have C3 := Lib.hid H3
  have C4 := Lib.hid H4
  have C5 := Lib.hid H5
  clear e2 e3 e4 e5 H2 H3 H4 H5
  have hgl := hg.lt
  go_enter Tryd.func54, Tryd.ntmps54
  go_wp2_with (go_at_call 53; refine (H1.out g _ hl (hg.alloc _)).mono ?_; rintro e w1 ⟨rfl, hg1, ht1⟩; have hb1 := (Blk.fresh w _ _).turn ht1 (by omega); have z1 := hb1.lt)
  refine wp_loop_rounds 5 ?_
  rw [rounds_succ]
  go_wp2_with (go_at_call 53; refine (C2.out g _ (hg1.alloc _)).mono ?_; rintro e w2 ⟨rfl, hg2, ht2⟩)
  rw [rounds_succ]
  go_wp2_with (go_at_call 53; refine (C3.out g _ hg2).mono ?_; rintro e w3 ⟨rfl, hg3, ht3⟩)
  rw [rounds_succ]
  go_wp2_with (go_at_call 53; refine (C4.out g _ hg3).mono ?_; rintro e w4 ⟨rfl, hg4, ht4⟩)
  rw [rounds_succ]
  go_wp2_with (go_at_call 53; refine (C5.out g _ hg4).mono ?_; rintro e w5 ⟨rfl, hg5, ht5⟩; have hv5 := ((((Blk.fresh w1 _ _).turn ht2 (by omega)).turn ht3 (by omega)).turn ht4 (by omega)).turn ht5 (by omega); have hb5 := ((((hb1.alloc _).turn ht2 (by omega)).turn ht3 (by omega)).turn ht4 (by omega)).turn ht5 (by omega); obtain ⟨c0, c1, c2, f0, f1, f2, zb⟩ := hb5.three; obtain ⟨d0, d1, d2, q0, q1, q2, zv⟩ := hv5.three)
  rw [rounds_succ]
  go_wp2_with fail
  have hX : wrap64 (bits .or .i64 (bits .or .i64 (bits .or .i64 (bits .or .i64 0 (b0 : Int)) ((b1 : Int) * 256)) ((b2 : Int) * 65536)) ((b3 : Int) * 16777216) - 999999999) = ((b0 + 256 * b1 + 65536 * b2 + 16777216 * b3 : Nat) : Int) - 999999999 := by
    rw [or4 _ _ _ _ k2 k3 k4 k5]; exact IntWalk.wrap64_in _ (by omega)
  simp only [hX]
  refine bodyPost_ret (v := .agg #[.int .i64 1, .int .i64 (((b0 + 256 * b1 + 65536 * b2 + 16777216 * b3 : Nat) : Int) - 999999999), .string ⟨#[]⟩]) (by simp [results, Tryd.results54, go_sem, *]) rfl ?_
  rw [HV.out, E.out]
  exact ⟨rfl, (((hg5.far (by simp; omega) _).far (by simp; omega) _).far (by simp; omega) _).far (by simp; omega) _,
    turn_set (turn_set (turn_set (turn_set (((((turn_alloc (turn_past ht1) _).trans ht2).trans ht3).trans ht4).trans ht5) (.inr (by simp; omega)) _) (.inr (by simp)) _) (.inr (by simp)) _) (.inr (by simp)) _⟩
set_option maxHeartbeats 2000000 in
theorem value_none (l l1 : List UInt8) (sh s1 : Bool) (g : Nat) (w : World) (hl : l.length ≤ 9223372036854775807) (hg : Blk w g 73 #[.string (bs l), .bool sh]) (h1 : oneR l sh = (0, l1, s1)) :
    Calls Tryd.prog 54 #[.pointer (some ⟨g, 0, none⟩)] w fun e w' => e = .returned (valR l sh).1.val ∧
      Blk w' g 73 #[.string (bs (valR l sh).2.1), .bool (valR l sh).2.2] ∧ w.grownBy w' (some g) := by
  have H1 := Lib.hid (one_any l sh)
  rw [h1] at H1
  have HV := Lib.hid (show valR l sh = (⟨0, 0, .empty⟩, l1, s1) by unfold valR; rw [h1]; simp)
  clear h1
  have hgl := hg.lt
  go_enter Tryd.func54, Tryd.ntmps54
  go_wp2_with (go_at_call 53; refine (H1.out g _ hl (hg.alloc _)).mono ?_; rintro e w1 ⟨rfl, hg1, ht1⟩; have hb1 := (Blk.fresh w _ _).turn ht1 (by omega); obtain ⟨c0, c1, c2, f0, f1, f2, zb⟩ := hb1.three)
  refine bodyPost_ret (v := .agg #[.int .i64 0, .int .i64 0, .string ⟨#[]⟩]) (by simp [results, Tryd.results54, go_sem, *]) rfl ?_
  rw [HV.out]
  exact ⟨rfl, (((hg1.far (by simp; omega) _).far (by simp; omega) _).far (by simp; omega) _).alloc _,
    turn_alloc (turn_set (turn_set (turn_set (turn_past ht1) (.inr (by simp)) _) (.inr (by simp)) _) (.inr (by simp)) _) _⟩
set_option maxHeartbeats 2000000 in
theorem value_other (l l1 : List UInt8) (sh s1 : Bool) (k : Nat) (hk : 3 < k) (g : Nat) (w : World) (hl : l.length ≤ 9223372036854775807) (hg : Blk w g 73 #[.string (bs l), .bool sh]) (h1 : oneR l sh = (k, l1, s1)) :
    Calls Tryd.prog 54 #[.pointer (some ⟨g, 0, none⟩)] w fun e w' => e = .returned (valR l sh).1.val ∧
      Blk w' g 73 #[.string (bs (valR l sh).2.1), .bool (valR l sh).2.2] ∧ w.grownBy w' (some g) := by
  have H1 := Lib.hid (one_any l sh)
  rw [h1] at H1
  have HV := Lib.hid (show valR l sh = (⟨k, 0, .empty⟩, l1, true) by unfold valR; rw [h1]; simp only; rw [if_neg (by omega), if_neg (by omega), if_neg (by omega), if_neg (by omega)])
  clear h1
  have hgl := hg.lt
  go_enter Tryd.func54, Tryd.ntmps54
  go_wp2_with (go_at_call 53; refine (H1.out g _ hl (hg.alloc _)).mono ?_; rintro e w1 ⟨rfl, hg1, ht1⟩; have hb1 := (Blk.fresh w _ _).turn ht1 (by omega); obtain ⟨c0, c1, c2, f0, f1, f2, zb⟩ := hb1.three; obtain ⟨d0, d1, e0, e1, zg⟩ := hg1.two)
  refine bodyPost_ret (v := .agg #[.int .i64 k, .int .i64 0, .string ⟨#[]⟩]) (by simp [results, Tryd.results54, go_sem, *]) rfl ?_
  rw [HV.out]
  exact ⟨rfl, ((((hg1.put 1 _).far (by simp; omega) _).far (by simp; omega) _).far (by simp; omega) _).alloc _,
    turn_alloc (turn_set (turn_set (turn_set (turn_put (turn_past ht1) 1 _) (.inr (by simp)) _) (.inr (by simp)) _) (.inr (by simp)) _) _⟩
set_option maxHeartbeats 2000000 in
theorem value_bool (l l1 : List UInt8) (sh s1 : Bool) (g : Nat) (w : World) (hl : l.length ≤ 9223372036854775807) (hl1 : l1.length ≤ 9223372036854775807) (hg : Blk w g 73 #[.string (bs l), .bool sh]) (h1 : oneR l sh = (3, l1, s1)) :
    Calls Tryd.prog 54 #[.pointer (some ⟨g, 0, none⟩)] w fun e w' => e = .returned (valR l sh).1.val ∧
      Blk w' g 73 #[.string (bs (valR l sh).2.1), .bool (valR l sh).2.2] ∧ w.grownBy w' (some g) := by
  have H1 := Lib.hid (one_any l sh)
  rw [h1] at H1
  obtain ⟨b0, l2, s2, e2, k2, hl2, H2⟩ := one_names l1 s1 hl1
  have HV := Lib.hid (show valR l sh = (⟨3, b0, .empty⟩, l2, s2) by unfold valR; rw [h1]; simp [e2])
  have C2 := Lib.hid H2
  clear h1 e2 H2
  have hgl := hg.lt
  go_enter Tryd.func54, Tryd.ntmps54
  go_wp2_with fail
  refine (H1.out g _ hl (hg.alloc _)).mono ?_
  rintro e w1 ⟨rfl, hg1, ht1⟩
  have hb1 := (Blk.fresh w _ _).turn ht1 (by omega)
  have z1 := hb1.lt
  go_wp2_with fail
  refine (C2.out g _ (hg1.alloc _)).mono ?_
  rintro e w2 ⟨rfl, hg2, ht2⟩
  have hv2 := (Blk.fresh w1 _ _).turn ht2 (by omega)
  have hb2 := (hb1.alloc _).turn ht2 (by omega)
  obtain ⟨c0, c1, c2, f0, f1, f2, zb⟩ := hb2.three
  obtain ⟨d0, d1, d2, q0, q1, q2, zv⟩ := hv2.three
  go_wp2_with fail
  refine bodyPost_ret (v := .agg #[.int .i64 3, .int .i64 b0, .string ⟨#[]⟩]) (by simp [results, Tryd.results54, go_sem, *]) rfl ?_
  rw [HV.out]
  exact ⟨rfl, (((hg2.far (by simp; omega) _).far (by simp; omega) _).far (by simp; omega) _).far (by simp; omega) _,
    turn_set (turn_set (turn_set (turn_set ((turn_alloc (turn_past ht1) _).trans ht2) (.inr (by simp; omega)) _) (.inr (by simp)) _) (.inr (by simp)) _) (.inr (by simp)) _⟩
set_option maxHeartbeats 2000000 in
theorem value_text (l l1 : List UInt8) (sh s1 : Bool) (g : Nat) (w : World) (hl : l.length ≤ 9223372036854775807) (hl1 : l1.length ≤ 9223372036854775807) (hg : Blk w g 73 #[.string (bs l), .bool sh]) (h1 : oneR l sh = (2, l1, s1)) :
    Calls Tryd.prog 54 #[.pointer (some ⟨g, 0, none⟩)] w fun e w' => e = .returned (valR l sh).1.val ∧
      Blk w' g 73 #[.string (bs (valR l sh).2.1), .bool (valR l sh).2.2] ∧ w.grownBy w' (some g) := by
  have H1 := Lib.hid (one_any l sh)
  rw [h1] at H1
  obtain ⟨b0, l2, s2, e2, k2, hl2, H2⟩ := one_names l1 s1 hl1
  obtain ⟨x, l3, s3, e3⟩ : ∃ x l3 s3, takeR l2 s2 b0 = (x, l3, s3) := ⟨_, _, _, rfl⟩
  have HV := Lib.hid (show valR l sh = (⟨2, 0, bs x⟩, l3, s3) by unfold valR; rw [h1]; simp [e2, e3])
  have H3 := take_any l2 s2 b0
  rw [Int.toNat_natCast, e3] at H3
  have C2 := Lib.hid H2
  have C3 := Lib.hid H3
  clear h1 e2 H2 e3 H3
  have hgl := hg.lt
  go_enter Tryd.func54, Tryd.ntmps54
  go_wp2_with fail
  refine (H1.out g _ hl (hg.alloc _)).mono ?_
  rintro e w1 ⟨rfl, hg1, ht1⟩
  have hb1 := (Blk.fresh w _ _).turn ht1 (by omega)
  have z1 := hb1.lt
  go_wp2_with fail
  refine (C2.out g _ (hg1.alloc _)).mono ?_
  rintro e w2 ⟨rfl, hg2, ht2⟩
  have hv2 := (Blk.fresh w1 _ _).turn ht2 (by omega)
  have hb2 := (hb1.alloc _).turn ht2 (by omega)
  go_wp2_with fail
  refine (C3.out g _ (by omega) (by omega) hl2 hg2).mono ?_
  rintro e w3 ⟨rfl, hg3, ht3⟩
  have hv3 := hv2.turn ht3 (by omega)
  have hb3 := hb2.turn ht3 (by omega)
  obtain ⟨c0, c1, c2, f0, f1, f2, zb⟩ := hb3.three
  obtain ⟨d0, d1, d2, q0, q1, q2, zv⟩ := hv3.three
  go_wp2_with fail
  refine bodyPost_ret (v := .agg #[.int .i64 2, .int .i64 0, .string (bs x)]) (by simp [results, Tryd.results54, go_sem, *]) rfl ?_
  rw [HV.out]
  exact ⟨rfl, (((hg3.far (by simp; omega) _).far (by simp; omega) _).far (by simp; omega) _).far (by simp; omega) _,
    turn_set (turn_set (turn_set (turn_set (((turn_alloc (turn_past ht1) _).trans ht2).trans ht3) (.inr (by simp; omega)) _) (.inr (by simp)) _) (.inr (by simp)) _) (.inr (by simp)) _⟩
theorem value_any (l : List UInt8) (sh : Bool) (g : Nat) (w : World) (hl : l.length ≤ 9223372036854775807) (hg : Blk w g 73 #[.string (bs l), .bool sh]) :
    Calls Tryd.prog 54 #[.pointer (some ⟨g, 0, none⟩)] w fun e w' => e = .returned (valR l sh).1.val ∧
      Blk w' g 73 #[.string (bs (valR l sh).2.1), .bool (valR l sh).2.2] ∧ w.grownBy w' (some g) := by
  have hl1 := Nat.le_trans (oneR_len l sh) hl
  rcases h1 : oneR l sh with ⟨k, l1, s1⟩
  rw [h1] at hl1
  by_cases k0 : k = 0
  · subst k0; exact value_none l l1 sh s1 g w hl hg h1
  by_cases k1 : k = 1
  · subst k1; exact value_int l l1 sh s1 g w hl hl1 hg h1
  by_cases k2 : k = 2
  · subst k2; exact value_text l l1 sh s1 g w hl hl1 hg h1
  by_cases k3 : k = 3
  · subst k3; exact value_bool l l1 sh s1 g w hl hl1 hg h1
  exact value_other l l1 sh s1 k (by omega) g w hl hg h1
end Go.Proofs.YtnjjpblgcgikaaaDoor
namespace Go.Proofs.YtnjjpblgcgikaaaDoor
open Go.RowKit
set_option maxHeartbeats 1000000 in
theorem rights_any (vs : List Vl) (A : Option Addr) (n c : Nat) (w : World) (hr : RdV w w.heap.size A n vs) (hn : n ≤ maxLen) (hs : ∀ v ∈ vs, v.s.size ≤ maxLen) :
    Calls Tryd.prog 29 #[.slice A n c] w fun e w' => e = .returned (.int .i64 (rightsE vs)) ∧ Below w.heap.size w w' := by
  unfold maxLen at hn
  have hlen := hr.len
  by_cases h5 : 5 < n
  · have e : rightsE vs = 2 := by simp [rightsE, hlen, h5]
    have HE := Lib.hid e
    have HL := Lib.hid hlen
    clear e hlen
    go_enter Tryd.func29, Tryd.ntmps29
    go_wp2
    go_ret
    exact ⟨by rw [HE.out]; rfl, Below.refl _ _⟩
  have e : rightsE vs = firstErr (vs.map Vl.chk) := by simp [rightsE, hlen, h5]
  have HE := Lib.hid e
  have HL := Lib.hid hlen
  clear e hlen
  go_enter Tryd.func29, Tryd.ntmps29
  go_wp2
  go_loopw [11] (fun i wr => ∃ k : Nat, k ≤ n ∧ i = .int .i64 k ∧ firstErr ((vs.map Vl.chk).take k) = 0 ∧ Below w.heap.size w wr) (fun i _ => n - (intOf i).toNat)
  case atStart => exact ⟨0, Nat.zero_le _, rfl, rfl, Below.refl _ _⟩
  case round =>
    obtain ⟨k, hk, rfl, hf, hb⟩ := hrel
    have HF := Lib.hid hf
    clear hf
    by_cases hlt : k < n
    · obtain ⟨v, hv⟩ : ∃ v, vs[k]? = some v := ⟨vs[k]'(by rw [HL.out]; exact hlt), List.getElem?_eq_getElem _⟩
      obtain ⟨b, o, rfl, hbl, c0, c1, c2⟩ := (show RdV wr w.heap.size A n vs from Rd.below hr hb).at_ k v hv
      have hvs := hs v (List.mem_of_getElem? hv)
      have HV := Lib.hid hv
      have hz := hb.size
      clear hv
      by_cases hc : v.chk = 0
      · have HC := Lib.hid hc
        have hc1 : (v.chk != 0) = false := by simp [hc]
        clear hc
        go_wp2_with (go_at_call 26; refine (vcheck_any v _ hvs).mono ?_; rintro e w1 ⟨rfl, hb1⟩)
        go_roundw
        case rel => exact ⟨k + 1, by omega, by go_num, firstErr_step _ _ HF.out (by rw [List.getElem?_map, HV.out]; simp [HC.out]), hb.trans (((Below.refl _ _).alloc hz _).trans (hb1.mono (by simp; omega)))⟩
        case measure => simp [intOf]; omega
      · have HC := Lib.hid hc
        have hc1 : (v.chk != 0) = true := by simp [hc]
        clear hc
        go_wp2_with (go_at_call 26; refine (vcheck_any v _ hvs).mono ?_; rintro e w1 ⟨rfl, hb1⟩)
        go_ret
        exact ⟨by rw [HE.out, firstErr_hit _ _ _ HF.out (by rw [List.getElem?_map, HV.out]; rfl) HC.out]; rfl, hb.trans (((Below.refl _ _).alloc hz _).trans (hb1.mono (by simp; omega)))⟩
    · go_wp2
      go_ret
      exact ⟨by rw [HE.out, ← HF.out, List.take_of_length_le (by rw [List.length_map, HL.out]; omega)]; rfl, hb⟩
end Go.Proofs.YtnjjpblgcgikaaaDoor
namespace Go.Proofs.YtnjjpblgcgikaaaDoor
open Go.RowKit
theorem elVal : ElT Tryd.prog 22 39 (.agg #[.int .i64 0, .int .i64 0, .string ⟨#[]⟩]) 3 32 := elT_mk Tryd.underlying22 (by kernel_rfl) rfl (by decide)
def ValuesPost (T : List Vl × List UInt8 × Bool) (w : World) (e : Ending) (w' : World) : Prop :=
  ∃ v, e = .returned (.tuple #[v, .bool (!T.2.2 && T.2.1.isEmpty)]) ∧ w'.ownsRow (w.heap.size + 1) 39 3 v T.1.length (cellsV T.1) ∧ Below w.heap.size w w'
set_option maxHeartbeats 2000000 in
theorem values_any (s : ByteArray) (w : World) (hs : s.size ≤ 9223372036854775807) :
    Calls Tryd.prog 36 #[.string s] w (ValuesPost (decT s) w) := by
  unfold decT
  have hl : s.data.toList.length ≤ 9223372036854775807 := by simpa using hs
  obtain ⟨n, l1, s1, e1, k1, hl1, H1⟩ := one_names s.data.toList false hl
  rw [e1]
  dsimp only
  have C1 := Lib.hid H1
  clear e1 H1
  have hg0 : Blk (w.alloc (.cells #[.string s, .bool false] 73)) w.heap.size 73 #[.string (bs s.data.toList), .bool false] := Blk.fresh w _ _
  go_enter Tryd.func36, Tryd.ntmps36
  go_wp2_with fail
  refine (C1.out w.heap.size _ hg0).mono ?_
  rintro e w1 ⟨rfl, hg1, ht1⟩
  have hw1 := ht1.size
  simp only [World.size_alloc] at hw1
  go_wp2_with fail
  go_loopw [5, 6] (fun v i wr => ∃ (m : Nat) (vs : List Vl) (l : List UInt8) (sh : Bool), i = .int .i64 m ∧ wr.ownsRow (w.heap.size + 1) 39 3 v vs.length (cellsV vs) ∧ vs.length + m < 256 ∧ l.length ≤ 9223372036854775807 ∧
      (vs ++ (valsR m l sh).1, (valsR m l sh).2) = valsR n l1 s1 ∧ Blk wr w.heap.size 73 #[.string (bs l), .bool sh] ∧ Below w.heap.size w wr ∧ w.heap.size + 1 ≤ wr.heap.size) (fun _ i _ => (intOf i).toNat)
  case atStart => exact ⟨n, [], l1, s1, rfl, World.ownsRow_nil _ _ _ _, by simpa using k1, hl1, rfl, hg1, below_turn (below_two _) ht1 (Nat.le_refl _) (by simp), hw1⟩
  case round =>
    obtain ⟨m, vs, l, sh, rfl, hown, hm, hll, hT, hg, hb, hz⟩ := hrel
    have HT := Lib.hid hT
    clear hT
    obtain ⟨d0, d1, _, _, _⟩ := hg.two
    by_cases hsh : sh = true
    · subst hsh
      have HE : Hid (valsR n l1 s1 = (vs, l, true)) := Lib.hid (by rw [← HT.out]; cases m <;> simp [valsR])
      by_cases hm0 : 0 < m
      all_goals
        go_wp2
        go_quiet (fail)
        go_wp2
        go_ret2
        rw [HE.out]
        exact ⟨_, rfl, hown, below_drewN hb _⟩
    · have hsf : sh = false := by simpa using hsh
      subst hsf
      clear hsh
      by_cases hm0 : 0 < m
      · obtain ⟨m, rfl⟩ : ∃ m', m = m' + 1 := ⟨m - 1, by omega⟩
        have HN : Hid ((valsR (m + 1) l false) = ((valR l false).1 :: (valsR m (valR l false).2.1 (valR l false).2.2).1, (valsR m (valR l false).2.1 (valR l false).2.2).2)) := Lib.hid (by rw [valsR]; simp)
        have HL := Lib.hid (Nat.le_trans (valR_len l false) hll)
        have C2 := Lib.hid (value_any l false w.heap.size wr hll hg)
        generalize valR l false = a at *
        obtain ⟨u, l', s'⟩ := a
        dsimp only at HN HL C2
        go_wp2_with fail
        refine (C2.out).mono ?_
        rintro e w2 ⟨rfl, hg2, ht2⟩
        have hown2 := hown.kept ht2 (.inr (by intro e; have := (hown.lt _ e).1; omega))
        have z2 := ht2.size
        go_wp2_with (at_builtin; refine wpList_app rfl (.tmp 26) (.tmp 28) elVal rfl (hown2.alloc _) rfl rfl (by simp) (by simp) rfl (by unfold maxLen; omega) (by omega) (by first | omega | (simp; omega)) ?_; intro v3 w3 hown3 hl3 hat3)
        have hg3 : Blk w3 w.heap.size 73 #[.string (bs l'), .bool s'] := (hl3.blk _ (by rw [World.size_alloc]; omega) (fun e => by have := (hown.lt _ e).1; omega)).trans (hg2.alloc _)
        have hz3 := hl3.below.size
        simp only [World.size_alloc] at hz3
        go_roundw
        case rel => exact ⟨m, vs ++ [u], l', s', by go_num, by rw [cellsV_snoc]; simpa using hown3, by simp; omega, HL.out, by rw [← HT.out, HN.out]; simp, hg3, (((below_turn hb ht2 (Nat.le_refl _) (by omega)).alloc (by omega) _).trans (hl3.below.mono (by omega))), by omega⟩
        case measure => simp [intOf]
      · obtain rfl : m = 0 := by omega
        have HE : Hid (valsR n l1 s1 = (vs, l, false)) := Lib.hid (by rw [← HT.out]; simp [valsR])
        go_wp2
        go_quiet (fail)
        go_wp2
        go_ret2
        rw [HE.out]
        refine ⟨_, ?_, hown, below_drewN hb _⟩
        show Ending.returned (.tuple #[_, .bool (bs l).toList.isEmpty]) = _
        rw [bs_toList]
        rfl
def DecodePost (T : List Vl × Int) (w : World) (e : Ending) (w' : World) : Prop :=
  ∃ v, e = .returned (.tuple #[v, .int .i64 T.2]) ∧ w'.ownsRow (w.heap.size + 1) 39 3 v T.1.length (cellsV T.1) ∧ Below w.heap.size w w'
/-- texts of decoded values are no longer than what was decoded -/
theorem valR_text (l : List UInt8) (sh : Bool) : (valR l sh).1.s.size ≤ l.length := by
  have h1 := oneR_len l sh
  unfold valR
  simp only
  split
  · simp
  split
  · simp
  split
  · rw [bs_size]
    have h2 := oneR_len (oneR l sh).2.1 (oneR l sh).2.2
    unfold takeR
    split
    · simp
    · simp; omega
  split
  · simp
  · simp
theorem valsR_text (n : Nat) : ∀ (l : List UInt8) (sh : Bool), ∀ v ∈ (valsR n l sh).1, v.s.size ≤ l.length := by
  induction n with
  | zero => intro l sh v hv; simp [valsR] at hv
  | succ n ih =>
    intro l sh v hv
    rw [valsR] at hv
    split at hv
    · simp at hv
    · rcases List.mem_cons.1 hv with rfl | hv
      · exact valR_text l sh
      · exact Nat.le_trans (ih _ _ v hv) (valR_len l sh)
theorem decT_text (s : ByteArray) : ∀ v ∈ (decT s).1, v.s.size ≤ s.size := by
  intro v hv
  have h := valsR_text _ _ _ v hv
  have h1 := oneR_len s.data.toList false
  simp only [Array.length_toList] at h1
  exact Nat.le_trans h h1
set_option maxHeartbeats 2000000 in
theorem decode_any (s : ByteArray) (w : World) (hs : s.size ≤ maxLen) :
    Calls Tryd.prog 16 #[.string s] w (DecodePost (decodeS s) w) := by
  have hs' : s.size ≤ 9223372036854775807 := by unfold maxLen at hs; omega
  have HT := Lib.hid (decT_text s)
  have HV := Lib.hid (values_any s w hs')
  have HD : Hid (decodeS s = (if (!(decT s).2.2 && (decT s).2.1.isEmpty) = true then (if rightsE (decT s).1 = 0 then ((decT s).1, 0) else ([], rightsE (decT s).1)) else ([], 1))) := Lib.hid rfl
  generalize decT s = T at *
  obtain ⟨vs, l, sh⟩ := T
  dsimp only at HT HV HD
  go_enter Tryd.func16, Tryd.ntmps16
  go_wp2_with fail
  refine HV.out.mono ?_
  rintro e w1 ⟨v, rfl, hown, hb⟩
  dsimp only at hown ⊢
  obtain ⟨A, c, rfl, hrd, hnm⟩ := rd_of_own hown
  have HR := Lib.hid (rights_any vs A vs.length c w1 hrd hnm (fun v hv => Nat.le_trans (HT.out v hv) hs))
  have hz := hb.size
  by_cases hok : (!sh && l.isEmpty) = true
  · have HO := Lib.hid hok
    rw [hok]
    rw [if_pos hok] at HD
    clear hok
    by_cases hr : rightsE vs = 0
    · rw [if_pos hr] at HD
      rw [hr] at HR
      clear hr
      go_wp2_with fail
      refine HR.out.mono ?_
      rintro e w2 ⟨rfl, hb2⟩
      go_wp2_with fail
      go_ret2
      rw [HD.out]
      exact ⟨_, rfl, own_below hown hb2, hb.trans (hb2.mono hz)⟩
    · have hr' : (rightsE vs != 0) = true := by simpa using hr
      rw [if_neg hr] at HD
      clear hr
      go_wp2_with fail
      refine HR.out.mono ?_
      rintro e w2 ⟨rfl, hb2⟩
      go_wp2_with fail
      go_ret2
      rw [HD.out]
      exact ⟨_, rfl, World.ownsRow_nil _ _ _ _, hb.trans (hb2.mono hz)⟩
  · have hof : (!sh && l.isEmpty) = false := by simpa using hok
    rw [if_neg hok] at HD
    rw [hof]
    clear hok hof
    go_wp2_with fail
    go_ret2
    rw [HD.out]
    exact ⟨_, rfl, World.ownsRow_nil _ _ _ _, hb⟩
end Go.Proofs.YtnjjpblgcgikaaaDoor
namespace Go.Proofs.YtnjjpblgcgikaaaDoor
open Go.RowKit
theorem elBytes : ElT Tryd.prog 82 5 (.int .u8 0) 1 1 := elT_mk Tryd.underlying82 (by kernel_rfl) rfl (by decide)
set_option maxHeartbeats 1000000 in
theorem bytes_any (vs : List Vl) (A : Option Addr) (n c : Nat) (w : World) (hr : RdV w w.heap.size A n vs) (hok : ∀ v ∈ vs, v.chk = 0) (h5 : n ≤ 5) :
    Calls Tryd.prog 52 #[.slice A n c] w fun e w' => e = .returned (.string (bs (encL vs))) ∧ Below w.heap.size w w' := by
  have hlen := hr.len
  have HL := Lib.hid hlen
  clear hlen
  go_enter Tryd.func52, Tryd.ntmps52
  go_wp2
  go_loopw [3, 13] (fun s i wr => ∃ (k : Nat) (L : List UInt8), k ≤ n ∧ i = .int .i64 (k : Nat) ∧ wr.ownsRow w.heap.size 5 1 s L.length (byteC L) ∧ L = UInt8.ofNat n :: (vs.take k).flatMap Vl.enc ∧ L.length ≤ 1 + 22 * k ∧ Below w.heap.size w wr) (fun _ i _ => n - (intOf i).toNat)
  case atStart => exact ⟨0, [UInt8.ofNat n], Nat.zero_le _, rfl, own_conv (World.ownsRow_lit w #[.int .u8 n] 1 (Nat.le_refl _) (by unfold maxLen; omega) rfl) _ (byteC_ofNat _ (by omega)).symm, rfl, by simp, below_two _⟩
  case round =>
    obtain ⟨k, L, hk, rfl, hown, hL, hz, hb⟩ := hrel
    have HS := Lib.hid hL
    clear hL
    by_cases hlt : k < n
    · obtain ⟨v, hv⟩ : ∃ v, vs[k]? = some v := ⟨vs[k]'(by rw [HL.out]; exact hlt), List.getElem?_eq_getElem _⟩
      obtain ⟨b, o, rfl, hbl, c0, c1, c2⟩ := (show RdV wr w.heap.size A n vs from Rd.below hr hb).at_ k v hv
      have hc := hok v (List.mem_of_getElem? hv)
      have HV := Lib.hid (flat_snoc Vl.enc vs k v hv)
      have hbz := hb.size
      clear hv
      rcases Vl.right hc with rfl | ⟨m, rfl, m1, m2⟩ | ⟨s, rfl, s1, s2⟩ | ⟨m, rfl, m1, m2⟩
      · clear hc hok
        go_wp2_with (at_builtin; refine wpList_app rfl (.tmp 17) (.tmp 21) elBytes rfl (hown.alloc _) rfl rfl (by simp) (by simp) rfl (by unfold maxLen; omega) (by omega) (by first | omega | (simp; omega)) ?_; intro v1 w1 hown1 hl1 hatw1; have d0w1 : w1.cell? ⟨wr.heap.size, 0, none⟩ = some (.int .i64 0) := hl1.new (own_ne hown (Nat.le_refl _)) 0; have d1w1 : w1.cell? ⟨wr.heap.size, 1, none⟩ = some (.int .i64 0) := hl1.new (own_ne hown (Nat.le_refl _)) 1; have d2w1 : w1.cell? ⟨wr.heap.size, 2, none⟩ = some (.string ByteArray.empty) := hl1.new (own_ne hown (Nat.le_refl _)) 2; have hz1 := hl1.below.size; simp only [World.size_alloc] at hz1)
        go_roundw
        case rel => exact ⟨k + 1, L ++ Vl.enc ⟨0, 0, .empty⟩, by omega, by go_num, own_conv hown1 _ (by rw [byteC_append]; rfl), by rw [HV.out, HS.out]; simp, by simp [Vl.enc]; omega, (hb.alloc hbz _).trans hl1.below⟩
        case measure => simp [intOf]; omega
      · clear hc hok
        go_wp2_with (first | (at_builtin; refine wpList_app rfl (.tmp 17) (.tmp 21) elBytes rfl (hown.alloc _) rfl rfl (by simp) (by simp) rfl (by unfold maxLen; omega) (by omega) (by first | omega | (simp; omega)) ?_; intro v1 w1 hown1 hl1 hatw1; have d0w1 : w1.cell? ⟨wr.heap.size, 0, none⟩ = some (.int .i64 1) := hl1.new (own_ne hown (Nat.le_refl _)) 0; have d1w1 : w1.cell? ⟨wr.heap.size, 1, none⟩ = some (.int .i64 m) := hl1.new (own_ne hown (Nat.le_refl _)) 1; have d2w1 : w1.cell? ⟨wr.heap.size, 2, none⟩ = some (.string ByteArray.empty) := hl1.new (own_ne hown (Nat.le_refl _)) 2; have hz1 := hl1.below.size; simp only [World.size_alloc] at hz1) | (at_builtin; refine wpList_app rfl (.tmp 31) (.tmp 43) elBytes rfl hown1 rfl rfl (by simp) (by simp) rfl (by unfold maxLen; omega) (by omega) (by first | omega | (simp; omega)) ?_; intro v2 w2 hown2 hl2 hatw2))
        go_roundw
        case rel => exact ⟨k + 1, L ++ Vl.enc ⟨1, m, .empty⟩, by omega, by go_num, own_conv hown2 _ (by rw [byteC_append]; simp only [Vl.enc, if_true]; rw [show UInt8.ofNat (1 : Int).toNat :: le4 (m + 999999999) = [1] ++ le4 (m + 999999999) from rfl, byteC_append, byteC_le4 _ (by omega) (by omega)]; simp [byteC]), by rw [HV.out, HS.out]; simp, by simp [Vl.enc, le4]; omega, ((hb.alloc hbz _).trans hl1.below).trans hl2.below⟩
        case measure => simp [intOf]; omega
      · clear hc hok
        have hss : s.size < 256 := by omega
        go_wp2_with (first | (at_builtin; refine wpList_app rfl (.tmp 17) (.tmp 21) elBytes rfl (hown.alloc _) rfl rfl (by simp) (by simp) rfl (by unfold maxLen; omega) (by omega) (by first | omega | (simp; omega)) ?_; intro v1 w1 hown1 hl1 hatw1; have d0w1 : w1.cell? ⟨wr.heap.size, 0, none⟩ = some (.int .i64 2) := hl1.new (own_ne hown (Nat.le_refl _)) 0; have d1w1 : w1.cell? ⟨wr.heap.size, 1, none⟩ = some (.int .i64 0) := hl1.new (own_ne hown (Nat.le_refl _)) 1; have d2w1 : w1.cell? ⟨wr.heap.size, 2, none⟩ = some (.string s) := hl1.new (own_ne hown (Nat.le_refl _)) 2; have hz1 := hl1.below.size; simp only [World.size_alloc] at hz1) | (at_builtin; refine wpList_app rfl (.tmp 47) (.tmp 52) elBytes rfl hown1 rfl rfl (by simp) (by simp) rfl (by unfold maxLen; omega) (by omega) (by first | omega | (simp; omega)) ?_; intro v2 w2 hown2 hl2 hatw2; have d2w2 : w2.cell? ⟨wr.heap.size, 2, none⟩ = some (.string s) := (hl2.far ⟨wr.heap.size, 2, none⟩ (by first | omega | (simp; omega)) (at_ne hown hatw1 (by first | omega | (simp; omega)))).trans d2w1; have hz2 := hl2.below.size) | (at_builtin; refine wpList_appS rfl (.tmp 54) (.tmp 56) elBytes Tryd.underlying9 rfl hown2 rfl rfl (by unfold maxLen; omega) (by omega) (by omega) ?_; intro v3 w3 hown3 hl3))
        go_roundw
        case rel => exact ⟨k + 1, L ++ Vl.enc ⟨2, 0, s⟩, by omega, by go_num, own_conv hown3 _ (by rw [byteC_append, show Vl.enc ⟨2, 0, s⟩ = [2] ++ ([UInt8.ofNat s.size] ++ s.data.toList) from rfl, byteC_append, byteC_append, byteC_ofNat _ hss]; simp [byteC, Lib.strCells]), by rw [HV.out, HS.out]; simp, by simp [Vl.enc]; omega, (((hb.alloc hbz _).trans hl1.below).trans hl2.below).trans hl3.below⟩
        case measure => simp [intOf]; omega
      · clear hc hok
        go_wp2_with (first | (at_builtin; refine wpList_app rfl (.tmp 17) (.tmp 21) elBytes rfl (hown.alloc _) rfl rfl (by simp) (by simp) rfl (by unfold maxLen; omega) (by omega) (by first | omega | (simp; omega)) ?_; intro v1 w1 hown1 hl1 hatw1; have d0w1 : w1.cell? ⟨wr.heap.size, 0, none⟩ = some (.int .i64 3) := hl1.new (own_ne hown (Nat.le_refl _)) 0; have d1w1 : w1.cell? ⟨wr.heap.size, 1, none⟩ = some (.int .i64 m) := hl1.new (own_ne hown (Nat.le_refl _)) 1; have d2w1 : w1.cell? ⟨wr.heap.size, 2, none⟩ = some (.string ByteArray.empty) := hl1.new (own_ne hown (Nat.le_refl _)) 2; have hz1 := hl1.below.size; simp only [World.size_alloc] at hz1) | (at_builtin; refine wpList_app rfl (.tmp 60) (.tmp 64) elBytes rfl hown1 rfl rfl (by simp) (by simp) rfl (by unfold maxLen; omega) (by omega) (by first | omega | (simp; omega)) ?_; intro v2 w2 hown2 hl2 hatw2))
        go_roundw
        case rel => exact ⟨k + 1, L ++ Vl.enc ⟨3, m, .empty⟩, by omega, by go_num, own_conv hown2 _ (by rw [byteC_append, show Vl.enc ⟨3, m, .empty⟩ = [3] ++ [UInt8.ofNat m.toNat] from rfl, byteC_append, byteC_ofInt _ (by omega) (by omega)]; simp [byteC]), by rw [HV.out, HS.out]; simp, by simp [Vl.enc]; omega, ((hb.alloc hbz _).trans hl1.below).trans hl2.below⟩
        case measure => simp [intOf]; omega
    · obtain ⟨g, cap, hu, _, _⟩ := hown.form (by rw [HS.out]; simp)
      subst hu
      have hcv := run_convert_bytes_arg (P := Tryd.prog) wr 82 5 Tryd.underlying82 Tryd.underlying5 g 0 L.length cap (L.map fun b => (b.toNat : Int)) (by simp) (fun i hi => by rw [hown.cellAt _ (by omega)]; simp [byteC, List.getElem?_eq_getElem hi, List.getD]) 9 Tryd.underlying9
      rw [strOfNums_bytes] at hcv
      go_wp2
      go_ret
      refine ⟨?_, hb⟩
      rw [encL, HL.out, HS.out, List.take_of_length_le (by rw [HL.out]; omega)]
      rfl
end Go.Proofs.YtnjjpblgcgikaaaDoor
namespace Go.Proofs.YtnjjpblgcgikaaaDoor
open Go.RowKit
theorem le4_back (x : Int) (h : 0 ≤ x) (h' : x < 4294967296) : ∃ a b c d, le4 x = [a, b, c, d] ∧ ((a.toNat + 256 * b.toNat + 65536 * c.toNat + 16777216 * d.toNat : Nat) : Int) = x := by
  refine ⟨_, _, _, _, rfl, ?_⟩
  have g : ∀ y : Int, 0 ≤ y → y < 256 → ((UInt8.ofNat y.toNat).toNat : Int) = y := fun y h1 h2 => by
    rw [UInt8.toNat_ofNat']; omega
  have e1 := g (x % 256) (by omega) (by omega)
  have e2 := g (x / 256 % 256) (by omega) (by omega)
  have e3 := g (x / 256 / 256 % 256) (by omega) (by omega)
  have e4 := g (x / 256 / 256 / 256 % 256) (by omega) (by omega)
  omega
theorem valR_enc (v : Vl) (h : v.chk = 0) (r : List UInt8) : valR (v.enc ++ r) false = (v, r, false) := by
  rcases Vl.right h with rfl | ⟨m, rfl, m1, m2⟩ | ⟨s, rfl, s1, s2⟩ | ⟨m, rfl, m1, m2⟩
  · exact valR_0 _ _ rfl
  · obtain ⟨a, b, c, d, e, e'⟩ := le4_back (m + 999999999) (by omega) (by omega)
    simp only [Vl.enc, if_true, e]
    rw [show (UInt8.ofNat (1 : Int).toNat :: [a, b, c, d]) ++ r = 1 :: a :: b :: c :: d :: r from rfl, valR_1 _ _ _ _ _ _ rfl, e']
    simp
  · have hn : (UInt8.ofNat s.size).toNat = s.size := by rw [UInt8.toNat_ofNat']; omega
    have hl : s.data.toList.length = s.size := by simp
    rw [show (⟨2, 0, s⟩ : Vl).enc ++ r = 2 :: UInt8.ofNat s.size :: (s.data.toList ++ r) from rfl, valR_2 _ _ _ rfl (by rw [hn]; simp), hn]
    rw [List.take_append_of_le_length (by omega), List.take_of_length_le (by omega), List.drop_append_of_le_length (by omega), List.drop_eq_nil_of_le (by omega), ← bs_of]
    rfl
  · rw [show (⟨3, m, .empty⟩ : Vl).enc ++ r = 3 :: UInt8.ofNat m.toNat :: r from rfl, valR_3 _ _ _ rfl]
    have : ((UInt8.ofNat m.toNat).toNat : Int) = m := by rw [UInt8.toNat_ofNat']; omega
    rw [this]
theorem valsR_enc (vs : List Vl) (h : ∀ v ∈ vs, v.chk = 0) (r : List UInt8) : valsR vs.length (vs.flatMap Vl.enc ++ r) false = (vs, r, false) := by
  induction vs with
  | nil => rfl
  | cons v vs ih =>
    rw [List.length_cons, valsR, List.flatMap_cons, List.append_assoc, valR_enc v (h v (by simp)), if_neg (by simp)]
    simp only
    rw [ih (fun u hu => h u (by simp [hu]))]
theorem firstErr_all (l : List Int) (h : firstErr l = 0) : ∀ e ∈ l, e = 0 := by
  induction l with
  | nil => simp
  | cons x l ih =>
    simp only [firstErr] at h
    split at h
    · rename_i hx; intro e he; rcases List.mem_cons.1 he with rfl | he; exact hx; exact ih h e he
    · rename_i hx; exact absurd h hx
theorem rights_all {vs : List Vl} (h : rightsE vs = 0) : vs.length ≤ 5 ∧ ∀ v ∈ vs, v.chk = 0 := by
  unfold rightsE at h
  split at h
  · cases h
  · exact ⟨by omega, fun v hv => firstErr_all _ h _ (List.mem_map.2 ⟨v, hv, rfl⟩)⟩
/-- WHAT IS ENCODED IS DECODED AS IT WAS -/
theorem decode_enc (vs : List Vl) (h : rightsE vs = 0) : decodeS (bs (encL vs)) = (vs, 0) := by
  obtain ⟨hl, hv⟩ := rights_all h
  have h0 : (UInt8.ofNat vs.length).toNat = vs.length := by rw [UInt8.toNat_ofNat']; omega
  have hT : decT (bs (encL vs)) = (vs, [], false) := by
    simp only [decT, bs_data, encL, oneR]
    have := valsR_enc vs hv []
    rw [List.append_nil] at this
    simp [h0, this]
  simp [decodeS, hT, h]
end Go.Proofs.YtnjjpblgcgikaaaDoor
namespace Go.Proofs.YtnjjpblgcgikaaaDoor
open Go.RowKit
def encodeV (vs : List Vl) : ByteArray := if rightsE vs = 0 then bs (encL vs) else bs []
theorem enc_len {v : Vl} (h : v.chk = 0) : v.enc.length ≤ 22 := by
  rcases Vl.right h with rfl | ⟨m, rfl, m1, m2⟩ | ⟨s, rfl, s1, s2⟩ | ⟨m, rfl, m1, m2⟩ <;> simp [Vl.enc, le4]
  exact s1
theorem flat_len (vs : List Vl) (h : ∀ v ∈ vs, v.chk = 0) : (vs.flatMap Vl.enc).length ≤ 22 * vs.length := by
  induction vs with
  | nil => simp
  | cons v vs ih =>
    have h1 := enc_len (h v (by simp))
    have h2 := ih (fun u hu => h u (by simp [hu]))
    simp only [List.flatMap_cons, List.length_append, List.length_cons]
    omega
set_option maxHeartbeats 1000000 in
theorem encode_any (vs : List Vl) (A : Option Addr) (n c : Nat) (w : World) (hr : RdV w w.heap.size A n vs) (hn : n ≤ maxLen) (hs : ∀ v ∈ vs, v.s.size ≤ maxLen) :
    Calls Tryd.prog 35 #[.slice A n c] w fun e w' => e = .returned (.tuple #[.string (encodeV vs), .int .i64 (rightsE vs)]) ∧ Below w.heap.size w w' := by
  have HR := Lib.hid (rights_any vs A n c w hr hn hs)
  by_cases h0 : rightsE vs = 0
  · have hE : encodeV vs = bs (encL vs) := by simp [encodeV, h0]
    obtain ⟨h5, hall⟩ := rights_all h0
    have hl := hr.len
    have HE := Lib.hid hE
    rw [h0] at HR ⊢
    have HB := Lib.hid (fun w1 hr1 => bytes_any vs A n c w1 hr1 hall (by omega))
    clear h0 hE hl h5
    go_enter Tryd.func35, Tryd.ntmps35
    go_wp2_with fail
    refine HR.out.mono ?_
    rintro e w1 ⟨rfl, hb1⟩
    go_wp2_with fail
    refine (HB.out w1 (Rd.more (Rd.below hr hb1) hb1.size)).mono ?_
    rintro e w2 ⟨rfl, hb2⟩
    go_wp2_with fail
    go_ret2
    rw [HE.out]
    exact ⟨rfl, hb1.trans (hb2.mono hb1.size)⟩
  · have hE : encodeV vs = bs [] := by simp [encodeV, h0]
    have HE := Lib.hid hE
    have h0' : (rightsE vs != 0) = true := by simpa using h0
    clear h0 hE
    go_enter Tryd.func35, Tryd.ntmps35
    go_wp2_with fail
    refine HR.out.mono ?_
    rintro e w1 ⟨rfl, hb1⟩
    go_wp2_with fail
    go_ret2
    rw [HE.out]
    exact ⟨rfl, hb1⟩
theorem num_any (n : Int) (w : World) :
    Calls Tryd.prog 34 #[.int .i64 n] w fun e w' => e = .returned (Vl.val ⟨1, n, .empty⟩) ∧ Below w.heap.size w w' := by
  go_enter Tryd.func34, Tryd.ntmps34
  go_wp2
  exact bodyPost_ret (v := .agg #[.int .i64 1, .int .i64 n, .string ⟨#[]⟩]) (by simp [results, Tryd.results34, go_sem]) rfl ⟨rfl, below_two _⟩
theorem txt_any (s : ByteArray) (w : World) :
    Calls Tryd.prog 33 #[.string s] w fun e w' => e = .returned (Vl.val ⟨2, 0, s⟩) ∧ Below w.heap.size w w' := by
  go_enter Tryd.func33, Tryd.ntmps33
  go_wp2
  exact bodyPost_ret (v := .agg #[.int .i64 2, .int .i64 0, .string s]) (by simp [results, Tryd.results33, go_sem]) rfl ⟨rfl, below_two _⟩
theorem held3 {w W W' : World} {g a b c : Nat} {x y z : Value} (h : Below w.heap.size w W ∧ W.cell? ⟨g, a, none⟩ = some x ∧ W.cell? ⟨g, b, none⟩ = some y ∧ W.cell? ⟨g, c, none⟩ = some z) (hg : g < w.heap.size) (hb : Below W.heap.size W W') :
    Below w.heap.size w W' ∧ W'.cell? ⟨g, a, none⟩ = some x ∧ W'.cell? ⟨g, b, none⟩ = some y ∧ W'.cell? ⟨g, c, none⟩ = some z :=
  have hz := h.1.size
  ⟨h.1.trans (hb.mono hz), (hb.cell (p := ⟨g, a, none⟩) (by exact Nat.lt_of_lt_of_le hg hz)).trans h.2.1, (hb.cell (p := ⟨g, b, none⟩) (by exact Nat.lt_of_lt_of_le hg hz)).trans h.2.2.1, (hb.cell (p := ⟨g, c, none⟩) (by exact Nat.lt_of_lt_of_le hg hz)).trans h.2.2.2⟩
def begunVs : List Vl := [⟨1, 1, .empty⟩, ⟨2, 0, ⟨#[120]⟩⟩, ⟨0, 0, .empty⟩]
theorem begun_rights : rightsE begunVs = 0 := by decide +kernel
theorem begun_enc : encL begunVs = [3, 1, 0, 202, 154, 59, 2, 1, 120, 0] := by decide +kernel
set_option maxHeartbeats 1000000 in
theorem begun_any (w : World) :
    Calls Tryd.prog 15 #[] w fun e w' => e = .returned (.bool true) ∧ Below w.heap.size w w' := by
  go_enter Tryd.func15, Tryd.ntmps15
  go_wp2_with fail
  refine (num_any _ _).mono ?_
  rintro e w1 ⟨rfl, hb1⟩
  go_wp2_with fail
  refine (txt_any _ _).mono ?_
  rintro e w2 ⟨rfl, hb2⟩
  go_wp2_with fail
  have hrd : RdV (w2.alloc (.cells (cellsV begunVs).toArray 39)) (w2.alloc (.cells (cellsV begunVs).toArray 39)).heap.size (some ⟨w2.heap.size, 0, none⟩) 3 begunVs :=
    ⟨rfl, .inr ⟨w2.heap.size, 0, rfl, by simp, fun j u hu => by rw [Nat.zero_add, cell_of_row _ _ _ _ _ _ (heap_alloc_new w2 _)]; simpa [cellsV] using hu⟩⟩
  refine (encode_any begunVs _ 3 3 _ hrd (by unfold maxLen; omega) (by decide +kernel)).mono ?_
  rintro e w3 ⟨rfl, hb3⟩
  rw [begun_rights, show encodeV begunVs = bs (encL begunVs) from by simp [encodeV, begun_rights]]
  go_wp2_with fail
  refine (decode_any _ _ (by rw [bs_size, begun_enc]; unfold maxLen; simp)).mono ?_
  rw [decode_enc begunVs begun_rights]
  rintro e w4 ⟨v, rfl, hown, hb4⟩
  dsimp only at hown ⊢
  obtain ⟨g, cap, rfl, hg1, hg2⟩ := hown.form (by decide)
  go_wp2_with fail
  simp only [begun_enc, show begunVs.length = 3 from rfl, bs] at hown ⊢
  have hg : g < w4.heap.size := (hown.lt g rfl).2
  have z1 := hb1.size
  have z2 := hb2.size
  have z3 := hb3.size
  simp only [World.size_alloc] at z3
  have HB := Lib.hid ((((hb1.trans (hb2.mono z1)).alloc (by omega) _).trans (hb3.mono (by simp; omega))).trans (hb4.mono (by omega)))
  clear z1 z2 z3
  have c3 : w4.cell? ⟨g, 3, none⟩ = some (.int .i64 2) := hown.cellAt 3 (by omega)
  have c4 : w4.cell? ⟨g, 4, none⟩ = some (.int .i64 0) := hown.cellAt 4 (by omega)
  have c5 : w4.cell? ⟨g, 5, none⟩ = some (.string ⟨#[120]⟩) := hown.cellAt 5 (by omega)
  go_region_held3 (fun W => Below w4.heap.size w4 W ∧ W.cell? ⟨g, 3, none⟩ = some (.int .i64 2) ∧ W.cell? ⟨g, 4, none⟩ = some (.int .i64 0) ∧ W.cell? ⟨g, 5, none⟩ = some (.string ⟨#[120]⟩)) (first | exact ⟨(Below.refl _ _).drew, c3, c4, c5⟩ | assumption | exact held3 (by assumption) hg hb5)
    (first | (go_at_call 33; refine (txt_any _ _).mono ?_; rintro e w5 ⟨rfl, hb5⟩))
  all_goals go_wp2
  all_goals go_ret
  all_goals
    rename_i hH
    exact ⟨rfl, HB.out.trans (hH.1.mono HB.out.size)⟩
end Go.Proofs.YtnjjpblgcgikaaaDoor
