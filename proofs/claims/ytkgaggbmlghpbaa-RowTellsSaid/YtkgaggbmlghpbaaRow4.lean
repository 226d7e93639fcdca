/- The program's reader of bytes: a value. -/
import Derived.Test.YtkgaggbmlghpbaaRow3
namespace Go.Proofs.Ytkgaggbmlghpbaa
open Go.RowKit
/-- what 'one' answers, under names of its own -/
theorem one_names (l : List UInt8) (sh : Bool) (hl : l.length ≤ 9223372036854775807) : ∃ k l' sh', oneR l sh = (k, l', sh') ∧ k < 256 ∧ l'.length ≤ 9223372036854775807 ∧
    ∀ (g : Nat) (w : World), Blk w g 46 #[.string (bs l), .bool sh] → Calls Try.prog 20 #[.pointer (some ⟨g, 0, none⟩)] w fun e w' => e = .returned (.int .i64 (k : Nat)) ∧
      Blk w' g 46 #[.string (bs l'), .bool sh'] ∧ w.grownBy w' (some g) :=
  ⟨_, _, _, rfl, oneR_lt l sh, Nat.le_trans (oneR_len l sh) hl, fun g w hg => one_any l sh g w hl hg⟩
set_option maxHeartbeats 2000000 in
theorem value_int (l l1 : List UInt8) (sh s1 : Bool) (g : Nat) (w : World) (hl : l.length ≤ 9223372036854775807) (hl1 : l1.length ≤ 9223372036854775807) (hg : Blk w g 46 #[.string (bs l), .bool sh]) (h1 : oneR l sh = (1, l1, s1)) :
    Calls Try.prog 21 #[.pointer (some ⟨g, 0, none⟩)] w fun e w' => e = .returned (valR l sh).1.val ∧
      Blk w' g 46 #[.string (bs (valR l sh).2.1), .bool (valR l sh).2.2] ∧ w.grownBy w' (some g) := by
  have H1 := Lib.hid (one_any l sh)
  rw [h1] at H1
  have HV := Lib.hid (show valR l sh = _ by unfold valR; rw [h1])
  clear h1
  obtain ⟨b0, l2, s2, e2, k2, hl2, H2⟩ := one_names l1 s1 hl1
  obtain ⟨b1, l3, s3, e3, k3, hl3, H3⟩ := one_names l2 s2 hl2
  obtain ⟨b2, l4, s4, e4, k4, hl4, H4⟩ := one_names l3 s3 hl3
  obtain ⟨b3, l5, s5, e5, k5, hl5, H5⟩ := one_names l4 s4 hl4
  have E := Lib.hid (show num4 l1 s1 = (b0 + 256 * b1 + 65536 * b2 + 16777216 * b3, l5, s5) by simp only [num4, e2, e3, e4, e5])
  have C2 := Lib.hid H2
  have C3 := Lib.hid H3
  have C4 := Lib.hid H4
  have C5 := Lib.hid H5
  clear e2 e3 e4 e5 H2 H3 H4 H5
  have hgl := hg.lt
  go_enter Try.func21, Try.ntmps21
  go_wp2_with (go_at_call 20; refine (H1.out g _ hl (hg.alloc _)).mono ?_; rintro e w1 ⟨rfl, hg1, ht1⟩; have hb1 := (Blk.fresh w _ _).turn ht1 (by omega); have z1 := hb1.lt)
  refine wp_loop_rounds 5 ?_
  rw [rounds_succ]
  go_wp2_with (go_at_call 20; refine (C2.out g _ (hg1.alloc _)).mono ?_; rintro e w2 ⟨rfl, hg2, ht2⟩)
  rw [rounds_succ]
  go_wp2_with (go_at_call 20; refine (C3.out g _ hg2).mono ?_; rintro e w3 ⟨rfl, hg3, ht3⟩)
  rw [rounds_succ]
  go_wp2_with (go_at_call 20; refine (C4.out g _ hg3).mono ?_; rintro e w4 ⟨rfl, hg4, ht4⟩)
  rw [rounds_succ]
  go_wp2_with (go_at_call 20; refine (C5.out g _ hg4).mono ?_; rintro e w5 ⟨rfl, hg5, ht5⟩; have hv5 := ((((Blk.fresh w1 _ _).turn ht2 (by omega)).turn ht3 (by omega)).turn ht4 (by omega)).turn ht5 (by omega); have hb5 := ((((hb1.alloc _).turn ht2 (by omega)).turn ht3 (by omega)).turn ht4 (by omega)).turn ht5 (by omega); obtain ⟨c0, c1, c2, f0, f1, f2, zb⟩ := hb5.three; obtain ⟨d0, d1, d2, q0, q1, q2, zv⟩ := hv5.three)
  rw [rounds_succ]
  go_wp2_with fail
  have hX : wrap64 (bits .or .i64 (bits .or .i64 (bits .or .i64 (bits .or .i64 0 (b0 : Int)) ((b1 : Int) * 256)) ((b2 : Int) * 65536)) ((b3 : Int) * 16777216) - 999999999) = ((b0 + 256 * b1 + 65536 * b2 + 16777216 * b3 : Nat) : Int) - 999999999 := by
    rw [or4 _ _ _ _ k2 k3 k4 k5]; exact IntWalk.wrap64_in _ (by omega)
  simp only [hX]
  refine bodyPost_ret (v := .agg #[.int .i64 1, .int .i64 (((b0 + 256 * b1 + 65536 * b2 + 16777216 * b3 : Nat) : Int) - 999999999), .string ⟨#[]⟩]) (by simp [results, Try.results21, go_sem, *]) rfl ?_
  rw [HV.out, E.out]
  exact ⟨rfl, (((hg5.far (by simp; omega) _).far (by simp; omega) _).far (by simp; omega) _).far (by simp; omega) _,
    turn_set (turn_set (turn_set (turn_set (((((turn_alloc (turn_past ht1) _).trans ht2).trans ht3).trans ht4).trans ht5) (.inr (by simp; omega)) _) (.inr (by simp)) _) (.inr (by simp)) _) (.inr (by simp)) _⟩

set_option maxHeartbeats 2000000 in
theorem value_none (l l1 : List UInt8) (sh s1 : Bool) (g : Nat) (w : World) (hl : l.length ≤ 9223372036854775807) (hg : Blk w g 46 #[.string (bs l), .bool sh]) (h1 : oneR l sh = (0, l1, s1)) :
    Calls Try.prog 21 #[.pointer (some ⟨g, 0, none⟩)] w fun e w' => e = .returned (valR l sh).1.val ∧
      Blk w' g 46 #[.string (bs (valR l sh).2.1), .bool (valR l sh).2.2] ∧ w.grownBy w' (some g) := by
  have H1 := Lib.hid (one_any l sh)
  rw [h1] at H1
  have HV := Lib.hid (show valR l sh = (⟨0, 0, .empty⟩, l1, s1) by unfold valR; rw [h1]; simp)
  clear h1
  have hgl := hg.lt
  go_enter Try.func21, Try.ntmps21
  go_wp2_with (go_at_call 20; refine (H1.out g _ hl (hg.alloc _)).mono ?_; rintro e w1 ⟨rfl, hg1, ht1⟩; have hb1 := (Blk.fresh w _ _).turn ht1 (by omega); obtain ⟨c0, c1, c2, f0, f1, f2, zb⟩ := hb1.three)
  refine bodyPost_ret (v := .agg #[.int .i64 0, .int .i64 0, .string ⟨#[]⟩]) (by simp [results, Try.results21, go_sem, *]) rfl ?_
  rw [HV.out]
  exact ⟨rfl, (((hg1.far (by simp; omega) _).far (by simp; omega) _).far (by simp; omega) _).alloc _,
    turn_alloc (turn_set (turn_set (turn_set (turn_past ht1) (.inr (by simp)) _) (.inr (by simp)) _) (.inr (by simp)) _) _⟩

set_option maxHeartbeats 2000000 in
theorem value_other (l l1 : List UInt8) (sh s1 : Bool) (k : Nat) (hk : 3 < k) (g : Nat) (w : World) (hl : l.length ≤ 9223372036854775807) (hg : Blk w g 46 #[.string (bs l), .bool sh]) (h1 : oneR l sh = (k, l1, s1)) :
    Calls Try.prog 21 #[.pointer (some ⟨g, 0, none⟩)] w fun e w' => e = .returned (valR l sh).1.val ∧
      Blk w' g 46 #[.string (bs (valR l sh).2.1), .bool (valR l sh).2.2] ∧ w.grownBy w' (some g) := by
  have H1 := Lib.hid (one_any l sh)
  rw [h1] at H1
  have HV := Lib.hid (show valR l sh = (⟨k, 0, .empty⟩, l1, true) by unfold valR; rw [h1]; simp only; rw [if_neg (by omega), if_neg (by omega), if_neg (by omega), if_neg (by omega)])
  clear h1
  have hgl := hg.lt
  go_enter Try.func21, Try.ntmps21
  go_wp2_with (go_at_call 20; refine (H1.out g _ hl (hg.alloc _)).mono ?_; rintro e w1 ⟨rfl, hg1, ht1⟩; have hb1 := (Blk.fresh w _ _).turn ht1 (by omega); obtain ⟨c0, c1, c2, f0, f1, f2, zb⟩ := hb1.three; obtain ⟨d0, d1, e0, e1, zg⟩ := hg1.two)
  refine bodyPost_ret (v := .agg #[.int .i64 k, .int .i64 0, .string ⟨#[]⟩]) (by simp [results, Try.results21, go_sem, *]) rfl ?_
  rw [HV.out]
  exact ⟨rfl, ((((hg1.put 1 _).far (by simp; omega) _).far (by simp; omega) _).far (by simp; omega) _).alloc _,
    turn_alloc (turn_set (turn_set (turn_set (turn_put (turn_past ht1) 1 _) (.inr (by simp)) _) (.inr (by simp)) _) (.inr (by simp)) _) _⟩

set_option maxHeartbeats 2000000 in
theorem value_bool (l l1 : List UInt8) (sh s1 : Bool) (g : Nat) (w : World) (hl : l.length ≤ 9223372036854775807) (hl1 : l1.length ≤ 9223372036854775807) (hg : Blk w g 46 #[.string (bs l), .bool sh]) (h1 : oneR l sh = (3, l1, s1)) :
    Calls Try.prog 21 #[.pointer (some ⟨g, 0, none⟩)] w fun e w' => e = .returned (valR l sh).1.val ∧
      Blk w' g 46 #[.string (bs (valR l sh).2.1), .bool (valR l sh).2.2] ∧ w.grownBy w' (some g) := by
  have H1 := Lib.hid (one_any l sh)
  rw [h1] at H1
  obtain ⟨b0, l2, s2, e2, k2, hl2, H2⟩ := one_names l1 s1 hl1
  have HV := Lib.hid (show valR l sh = (⟨3, b0, .empty⟩, l2, s2) by unfold valR; rw [h1]; simp [e2])
  have C2 := Lib.hid H2
  clear h1 e2 H2
  have hgl := hg.lt
  go_enter Try.func21, Try.ntmps21
  go_wp2_with fail
  refine (H1.out g _ hl (hg.alloc _)).mono ?_
  rintro e w1 ⟨rfl, hg1, ht1⟩
  have hb1 := (Blk.fresh w _ _).turn ht1 (by omega)
  have z1 := hb1.lt
  go_wp2_with fail
  refine (C2.out g _ (hg1.alloc _)).mono ?_
  rintro e w2 ⟨rfl, hg2, ht2⟩
  have hv2 := (Blk.fresh w1 _ _).turn ht2 (by omega)
  have hb2 := (hb1.alloc _).turn ht2 (by omega)
  obtain ⟨c0, c1, c2, f0, f1, f2, zb⟩ := hb2.three
  obtain ⟨d0, d1, d2, q0, q1, q2, zv⟩ := hv2.three
  go_wp2_with fail
  refine bodyPost_ret (v := .agg #[.int .i64 3, .int .i64 b0, .string ⟨#[]⟩]) (by simp [results, Try.results21, go_sem, *]) rfl ?_
  rw [HV.out]
  exact ⟨rfl, (((hg2.far (by simp; omega) _).far (by simp; omega) _).far (by simp; omega) _).far (by simp; omega) _,
    turn_set (turn_set (turn_set (turn_set ((turn_alloc (turn_past ht1) _).trans ht2) (.inr (by simp; omega)) _) (.inr (by simp)) _) (.inr (by simp)) _) (.inr (by simp)) _⟩

set_option maxHeartbeats 2000000 in
theorem value_text (l l1 : List UInt8) (sh s1 : Bool) (g : Nat) (w : World) (hl : l.length ≤ 9223372036854775807) (hl1 : l1.length ≤ 9223372036854775807) (hg : Blk w g 46 #[.string (bs l), .bool sh]) (h1 : oneR l sh = (2, l1, s1)) :
    Calls Try.prog 21 #[.pointer (some ⟨g, 0, none⟩)] w fun e w' => e = .returned (valR l sh).1.val ∧
      Blk w' g 46 #[.string (bs (valR l sh).2.1), .bool (valR l sh).2.2] ∧ w.grownBy w' (some g) := by
  have H1 := Lib.hid (one_any l sh)
  rw [h1] at H1
  obtain ⟨b0, l2, s2, e2, k2, hl2, H2⟩ := one_names l1 s1 hl1
  obtain ⟨x, l3, s3, e3⟩ : ∃ x l3 s3, takeR l2 s2 b0 = (x, l3, s3) := ⟨_, _, _, rfl⟩
  have HV := Lib.hid (show valR l sh = (⟨2, 0, bs x⟩, l3, s3) by unfold valR; rw [h1]; simp [e2, e3])
  have H3 := take_any l2 s2 b0
  rw [Int.toNat_natCast, e3] at H3
  have C2 := Lib.hid H2
  have C3 := Lib.hid H3
  clear h1 e2 H2 e3 H3
  have hgl := hg.lt
  go_enter Try.func21, Try.ntmps21
  go_wp2_with fail
  refine (H1.out g _ hl (hg.alloc _)).mono ?_
  rintro e w1 ⟨rfl, hg1, ht1⟩
  have hb1 := (Blk.fresh w _ _).turn ht1 (by omega)
  have z1 := hb1.lt
  go_wp2_with fail
  refine (C2.out g _ (hg1.alloc _)).mono ?_
  rintro e w2 ⟨rfl, hg2, ht2⟩
  have hv2 := (Blk.fresh w1 _ _).turn ht2 (by omega)
  have hb2 := (hb1.alloc _).turn ht2 (by omega)
  go_wp2_with fail
  refine (C3.out g _ (by omega) (by omega) hl2 hg2).mono ?_
  rintro e w3 ⟨rfl, hg3, ht3⟩
  have hv3 := hv2.turn ht3 (by omega)
  have hb3 := hb2.turn ht3 (by omega)
  obtain ⟨c0, c1, c2, f0, f1, f2, zb⟩ := hb3.three
  obtain ⟨d0, d1, d2, q0, q1, q2, zv⟩ := hv3.three
  go_wp2_with fail
  refine bodyPost_ret (v := .agg #[.int .i64 2, .int .i64 0, .string (bs x)]) (by simp [results, Try.results21, go_sem, *]) rfl ?_
  rw [HV.out]
  exact ⟨rfl, (((hg3.far (by simp; omega) _).far (by simp; omega) _).far (by simp; omega) _).far (by simp; omega) _,
    turn_set (turn_set (turn_set (turn_set (((turn_alloc (turn_past ht1) _).trans ht2).trans ht3) (.inr (by simp; omega)) _) (.inr (by simp)) _) (.inr (by simp)) _) (.inr (by simp)) _⟩

theorem value_any (l : List UInt8) (sh : Bool) (g : Nat) (w : World) (hl : l.length ≤ 9223372036854775807) (hg : Blk w g 46 #[.string (bs l), .bool sh]) :
    Calls Try.prog 21 #[.pointer (some ⟨g, 0, none⟩)] w fun e w' => e = .returned (valR l sh).1.val ∧
      Blk w' g 46 #[.string (bs (valR l sh).2.1), .bool (valR l sh).2.2] ∧ w.grownBy w' (some g) := by
  have hl1 := Nat.le_trans (oneR_len l sh) hl
  rcases h1 : oneR l sh with ⟨k, l1, s1⟩
  rw [h1] at hl1
  by_cases k0 : k = 0
  · subst k0; exact value_none l l1 sh s1 g w hl hg h1
  by_cases k1 : k = 1
  · subst k1; exact value_int l l1 sh s1 g w hl hl1 hg h1
  by_cases k2 : k = 2
  · subst k2; exact value_text l l1 sh s1 g w hl hl1 hg h1
  by_cases k3 : k = 3
  · subst k3; exact value_bool l l1 sh s1 g w hl hl1 hg h1
  exact value_other l l1 sh s1 k (by omega) g w hl hg h1
end Go.Proofs.Ytkgaggbmlghpbaa
