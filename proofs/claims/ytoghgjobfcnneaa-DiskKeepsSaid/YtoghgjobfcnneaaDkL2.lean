/- What disks must be in any case. -/
import Derived.Test.YtoghgjobfcnneaaDkL1
import Derived.Test.YtoghgjobfcnneaaHeld
import Derived.Deep.DeepCutAuto
import Derived.Deep.CutRange
namespace Go.Proofs.Ytoghgjobfcnneaa
open Go.RowKit
theorem DkAt.form {w : World} {L : Nat} {v : Value} {d : Dk} (h : DkAt w L v d) : ∃ A c A' c', v = .agg #[.slice A d.kept.length c, .slice A' d.wr.length c'] ∧ DkAt w L (.agg #[.slice A d.kept.length c, .slice A' d.wr.length c']) d := by
  have h0 := h
  obtain ⟨A, c, A', c', rfl, _⟩ := h
  exact ⟨A, c, A', c', rfl, h0⟩
theorem DkAt.kept_at {w : World} {L : Nat} {A B : Option Addr} {n c m e : Nat} {d : Dk} (h : DkAt w L (.agg #[.slice A n c, .slice B m e]) d) (k : Nat) (s : ByteArray) (hk : d.kept[k]? = some s) : ∃ b o, A = some ⟨b, o, Option.none⟩ ∧ w.cell? ⟨b, o + k, Option.none⟩ = some (.string s) := by
  obtain ⟨A1, c1, A2, c2, e, h1, _⟩ := h
  simp only [Value.agg.injEq, Array.mk.injEq, List.cons.injEq, Value.slice.injEq] at e
  obtain ⟨⟨rfl, _⟩, _⟩ := e
  obtain ⟨b, o, rfl, _, hc⟩ := repStr_at h1 k hk
  exact ⟨b, o, rfl, hc⟩
theorem keep1 {W W' : World} {p : Addr} {v : Value} (h : W.cell? p = some v) (hb : Below W.heap.size W W') : W'.cell? p = some v := (hb.cell (World.block_lt_of_cell? W p h)).trans h
theorem keep9 {W W' : World} {p1 p2 p3 p4 p5 p6 p7 p8 p9 : Addr} {v1 v2 v3 v4 v5 v6 v7 v8 v9 : Value} (h : W.cell? p1 = some v1 ∧ W.cell? p2 = some v2 ∧ W.cell? p3 = some v3 ∧ W.cell? p4 = some v4 ∧ W.cell? p5 = some v5 ∧ W.cell? p6 = some v6 ∧ W.cell? p7 = some v7 ∧ W.cell? p8 = some v8 ∧ W.cell? p9 = some v9) (hb : Below W.heap.size W W') :
    W'.cell? p1 = some v1 ∧ W'.cell? p2 = some v2 ∧ W'.cell? p3 = some v3 ∧ W'.cell? p4 = some v4 ∧ W'.cell? p5 = some v5 ∧ W'.cell? p6 = some v6 ∧ W'.cell? p7 = some v7 ∧ W'.cell? p8 = some v8 ∧ W'.cell? p9 = some v9 :=
  ⟨keep1 h.1 hb, keep1 h.2.1 hb, keep1 h.2.2.1 hb, keep1 h.2.2.2.1 hb, keep1 h.2.2.2.2.1 hb, keep1 h.2.2.2.2.2.1 hb, keep1 h.2.2.2.2.2.2.1 hb, keep1 h.2.2.2.2.2.2.2.1 hb, keep1 h.2.2.2.2.2.2.2.2 hb⟩
set_option maxRecDepth 100000 in
set_option maxHeartbeats 4000000 in
theorem dbegun_any (w : World) : Calls Try.prog 15 #[] w fun e w' => e = .returned (.bool true) ∧ Below w.heap.size w w' := by
  have HN := Lib.hid (show ∀ W, Calls Try.prog 7 #[.int .i64 2] W fun e w' => ∃ A c A' c', e = .returned (.tuple #[.agg #[.slice A 2 c, .slice A' 0 c'], .int .i64 0]) ∧ DkAt w' W.heap.size (.agg #[.slice A 2 c, .slice A' 0 c']) dk0 ∧ Below W.heap.size W w' from fun W => (new_any 2 W).mono fun e w' h => by
    unfold NewPost at h
    rw [dkN] at h
    obtain ⟨v, rfl, h1, h2, _⟩ := h
    obtain ⟨A, c, A', c', rfl, h3⟩ := h1.form
    exact ⟨A, c, A', c', rfl, h3, h2⟩)
  have HW := Lib.hid (show ∀ W L v, DkAt W L v dk0 → Calls Try.prog 8 #[v, .int .i64 1, .string s7] W fun e w' => ∃ A c A' c', e = .returned (.tuple #[.agg #[.slice A 2 c, .slice A' 1 c'], .int .i64 0]) ∧ DkAt w' W.heap.size (.agg #[.slice A 2 c, .slice A' 1 c']) dk1 ∧ Below W.heap.size W w' from fun W L v hv => (write_any dk0 v 1 s7 W hv ok0 (by unfold s7 sec; rw [bs_size]; decide)).mono fun e w' h => by
    unfold DkPost2 at h
    rw [dkW] at h
    obtain ⟨v, rfl, h1, h2⟩ := h
    obtain ⟨A, c, A', c', rfl, h3⟩ := h1.form
    exact ⟨A, c, A', c', rfl, h3, h2⟩)
  have HF := Lib.hid (show ∀ W L v, DkAt W L v dk1 → Calls Try.prog 9 #[v] W fun e w' => ∃ A c A' c', e = .returned (.tuple #[.agg #[.slice A 2 c, .slice A' 0 c'], .int .i64 0]) ∧ DkAt w' W.heap.size (.agg #[.slice A 2 c, .slice A' 0 c']) dk2 ∧ Below W.heap.size W w' from fun W L v hv => (flush_any dk1 v W hv ok1).mono fun e w' h => by
    unfold DkPost2 at h
    rw [dkF] at h
    obtain ⟨v, rfl, h1, h2⟩ := h
    obtain ⟨A, c, A', c', rfl, h3⟩ := h1.form
    exact ⟨A, c, A', c', rfl, h3, h2⟩)
  have HC := Lib.hid (show ∀ W L v b, DkAt W L v dk1 → Blk W b 4 #[.bool false] → Calls Try.prog 10 #[v, .slice (some ⟨b, 0, none⟩) 1 1] W fun e w' => ∃ A c A' c', e = .returned (.tuple #[.agg #[.slice A 2 c, .slice A' 0 c'], .int .i64 0]) ∧ DkAt w' W.heap.size (.agg #[.slice A 2 c, .slice A' 0 c']) dk0 ∧ Below W.heap.size W w' from fun W L v b hv hb => (crash_any dk1 v [false] (some ⟨b, 0, none⟩) 1 1 W (hv.low (Nat.zero_le _)) ok1 ⟨rfl, .inr ⟨b, 0, rfl, ⟨Nat.zero_le _, hb.lt⟩, fun k x hx => ⟨[.bool false], by match k, hx with | 0, hx => cases hx; rfl, fun j u hu => by
      match k, hx with
      | 0, _ => match j, hu with
        | 0, hu => exact (hb.cell 0).trans hu⟩⟩⟩ (by unfold maxLen; omega)).mono fun e w' h => by
    unfold DkPost2 at h
    rw [dkC] at h
    obtain ⟨v, rfl, h1, h2⟩ := h
    obtain ⟨A, c, A', c', rfl, h3⟩ := h1.form
    exact ⟨A, c, A', c', rfl, h3, h2⟩)
  have HS := Lib.hid (fun W => sector_any 7 W)
  go_enter Try.func15, Try.ntmps15
  go_wp2_with fail
  refine (HN.out w).mono ?_
  rintro e w1 ⟨A1, c1, B1, e1, rfl, hd1, hb1⟩
  go_upto_region 2 with fail
  generalize hW : w1.alloc (.cells #[.slice A1 2 c1, .slice B1 0 e1] 25) = w2
  have hl2 : w1.heap.size < w2.heap.size := by rw [← hW]; simp
  have k0 : Below w2.heap.size w2 w2.drew ∧ w2.heap.size ≤ w2.drew.heap.size ∧ w2.drew.cell? ⟨w1.heap.size, 0, none⟩ = some (.slice A1 2 c1) ∧ w2.drew.cell? ⟨w1.heap.size, 1, none⟩ = some (.slice B1 0 e1) := by
    subst hW
    exact ⟨(Below.refl _ _).drew, Nat.le_refl _, (Blk.fresh w1 _ _).cell 0, (Blk.fresh w1 _ _).cell 1⟩
  have hd2 : DkAt w2.drew w.heap.size (.agg #[.slice A1 2 c1, .slice B1 0 e1]) dk0 := by
    subst hW
    exact hd1.on ((below_two _).drew)
  have HD2 := Lib.hid (show DkAt w2 w.heap.size (.agg #[.slice A1 2 c1, .slice B1 0 e1]) dk0 from by
    subst hW
    exact hd1.on (below_two _))
  have hbw2 : Below w.heap.size w w2 := by
    rw [← hW]
    exact hb1.alloc hb1.size _
  have hdv : Blk w2 w1.heap.size 25 #[.slice A1 2 c1, .slice B1 0 e1] := by
    rw [← hW]
    exact Blk.fresh w1 _ _
  have H1 : w2.heap.size ≤ w2.heap.size := Nat.le_refl _
  clear hW
  go_cut [3, 4] (fun s3 s4 wx => ∃ b3 A3 c3 B3 e3, s3 = .pointer (some ⟨b3, 0, none⟩) ∧ s4 = .int .i64 0 ∧ Blk wx b3 25 #[.slice A3 2 c3, .slice B3 1 e3] ∧ DkAt wx 0 (.agg #[.slice A3 2 c3, .slice B3 1 e3]) dk1 ∧ Below w2.heap.size w2 wx)
  case first =>
    go_region_held3 (fun W => Below w2.heap.size w2 W ∧ w2.heap.size ≤ W.heap.size ∧ W.cell? ⟨w1.heap.size, 0, none⟩ = some (.slice A1 2 c1) ∧ W.cell? ⟨w1.heap.size, 1, none⟩ = some (.slice B1 0 e1))
      (first | exact k0 | assumption | exact hS3 | exact hS4 | exact Held2.alloc hS4 H1 hl2 _ | exact Held2.alloc hS3 H1 hl2 _ | exact Held2.alloc k0 H1 hl2 _ | exact Held2.put (p := ⟨_, 1, none⟩) (Held2.put (p := ⟨_, 0, none⟩) hS4 H3 H4) H3 H4)
      (first
        | (go_at_call 34
           refine (HS.out _).mono ?_
           rintro e w3 ⟨rfl, hb3⟩
           have hS3 := Held2.call (by assumption) H1 hl2 hb3
           have z3 : w2.heap.size ≤ w3.heap.size := hS3.2.1
           (first | have hd2 := hd2.on hb3 | have hd2 := (hd2.on (below_two _)).on hb3 | have hd2 := (hd2.on (below_two _).drew).on hb3 | skip)
           (first | (have hbk := blk_call (below_undrew hb3); have H3 : w2.heap.size ≠ w1.heap.size := Nat.ne_of_gt hl2; have H4 : w2.heap.size ≤ w2.heap.size := Nat.le_refl _) | skip))
        | (go_at_call 8
           refine (HW.out _ w.heap.size _ (by first | exact hd2 | exact hd2.on (below_two _))).mono ?_
           rintro e w4 ⟨A3, c3, B3, e3, rfl, hd3, hb4⟩
           have hS4 := Held2.call (by assumption) H1 hl2 hb4
           (first | have hbk := hbk.call hb4 | (have hbk := blk_call hb4; have H3 : w3.heap.size ≠ w1.heap.size := Nat.ne_of_gt (Nat.lt_of_lt_of_le hl2 z3); have H4 : w2.heap.size ≤ w3.heap.size := z3) | skip)
           (first | obtain ⟨t0, t1, s0, s1, htl⟩ := hbk.two | skip)))
    all_goals go_wp2_with fail
    all_goals go_meet
    all_goals first
      | exact ⟨_, A3, c3, B3, e3, rfl, rfl, Blk.fresh _ _ _, (hd3.on (below_two _)).low (Nat.zero_le _), hS4.1.alloc hS4.2.1 _⟩
      | exact ⟨_, A3, c3, B3, e3, rfl, rfl, (hbk.put 0 _).put 1 _, ((hd3.put (p := ⟨w3.heap.size, 0, none⟩) (by simp) _).put (p := ⟨w3.heap.size, 1, none⟩) (by simp) _).low (Nat.zero_le _), (hS4.1.setCell (p := ⟨w3.heap.size, 0, none⟩) H4 _).setCell (p := ⟨w3.heap.size, 1, none⟩) H4 _⟩
      | exact ⟨_, A3, c3, B3, e3, rfl, rfl, (hbk.put 0 _).put 1 _, ((hd3.put (p := ⟨w2.heap.size, 0, none⟩) (by have h := hb3.size; simp at h ⊢; omega) _).put (p := ⟨w2.heap.size, 1, none⟩) (by have h := hb3.size; simp at h ⊢; omega) _).low (Nat.zero_le _), (hS4.1.setCell (p := ⟨w2.heap.size, 0, none⟩) H4 _).setCell (p := ⟨w2.heap.size, 1, none⟩) H4 _⟩
  case rest =>
    obtain ⟨b3, A3, c3, B3, e3, rfl, rfl, hx, hdx, hbx⟩ := hcut
    obtain ⟨x0, x1, _, _, hxl⟩ := hx.two
    clear k0 hd2
    go_wp2_with fail
    refine (HF.out wc 0 _ hdx).mono ?_
    rintro e w5 ⟨A5, c5, B5, e5, rfl, hd5, hb5⟩
    have z5 := hb5.size
    have hx5 := hx.call hb5
    obtain ⟨x0', x1', _, _, hxl'⟩ := hx5.two
    have hdx5 := (hdx.on hb5).on (below_two (.cells #[.slice A5 2 c5, .slice B5 0 e5] 25))
    have hbk6 := Blk.fresh (w5.alloc (.cells #[.slice A5 2 c5, .slice B5 0 e5] 25)) 4 #[.bool false]
    simp only [World.size_alloc] at hbk6
    go_wp2_with fail
    refine (HC.out _ 0 _ (w5.heap.size + 1) (hdx5.on (below_two _)) hbk6).mono ?_
    rintro e w7 ⟨A7, c7, B7, e7, rfl, hd7, hb7⟩
    have z7 := hb7.size
    simp only [World.size_alloc] at z7
    have hx7 := (((hx5.alloc _).alloc _).call hb7).alloc (.cells #[.slice A7 2 c7, .slice B7 0 e7] 25)
    have hy7 := (((Blk.fresh w5 25 #[.slice A5 2 c5, .slice B5 0 e5]).alloc _).call hb7).alloc (.cells #[.slice A7 2 c7, .slice B7 0 e7] 25)
    have hz7 := Blk.fresh w7 25 #[.slice A7 2 c7, .slice B7 0 e7]
    have hdx7 := ((hdx5.on (below_two _)).on hb7).on (below_two (.cells #[.slice A7 2 c7, .slice B7 0 e7] 25))
    have hdy7 := (((hd5.on (below_two _)).on (below_two _)).on hb7).on (below_two (.cells #[.slice A7 2 c7, .slice B7 0 e7] 25))
    have hdz7 := hd7.on (below_two (.cells #[.slice A7 2 c7, .slice B7 0 e7] 25))
    have hdd7 := ((((((HD2.out).on hbx).on hb5).on (below_two _)).on (below_two _)).on hb7).on (below_two (.cells #[.slice A7 2 c7, .slice B7 0 e7] 25))
    have hdv7 := ((((((hdv.below hbx hl2).call hb5).alloc _).alloc _).call hb7)).alloc (.cells #[.slice A7 2 c7, .slice B7 0 e7] 25)
    have hb8 : Below w.heap.size w (w7.alloc (.cells #[.slice A7 2 c7, .slice B7 0 e7] 25)) := by
      have zx := hbx.size
      have zz := hbw2.size
      exact (((((hbw2.trans (hbx.mono zz)).trans (hb5.mono (by omega))).alloc (by omega) _).alloc (by simp; omega) _).trans (hb7.mono (by simp; omega))).alloc (by omega) _
    go_upto_region 5 with fail
    generalize hW8 : w7.alloc (.cells #[.slice A7 2 c7, .slice B7 0 e7] 25) = w8 at hx7 hy7 hz7 hdx7 hdy7 hdz7 hdd7 hdv7 hb8 ⊢
    clear hW8
    obtain ⟨by_, oy, rfl, hs7⟩ := hdy7.kept_at 1 s7 rfl
    have k8 : w8.drew.cell? ⟨b3, 0, none⟩ = some (.slice A3 2 c3) ∧ w8.drew.cell? ⟨b3, 1, none⟩ = some (.slice B3 1 e3) ∧ w8.drew.cell? ⟨w5.heap.size, 0, none⟩ = some (.slice (some ⟨by_, oy, none⟩) 2 c5) ∧ w8.drew.cell? ⟨w5.heap.size, 1, none⟩ = some (.slice B5 0 e5) ∧
      w8.drew.cell? ⟨w7.heap.size, 0, none⟩ = some (.slice A7 2 c7) ∧ w8.drew.cell? ⟨w7.heap.size, 1, none⟩ = some (.slice B7 0 e7) ∧ w8.drew.cell? ⟨w1.heap.size, 0, none⟩ = some (.slice A1 2 c1) ∧ w8.drew.cell? ⟨w1.heap.size, 1, none⟩ = some (.slice B1 0 e1) ∧ w8.drew.cell? ⟨by_, oy + 1, none⟩ = some (.string (sec 7)) :=
      ⟨hx7.cell 0, hx7.cell 1, hy7.cell 0, hy7.cell 1, hz7.cell 0, hz7.cell 1, hdv7.cell 0, hdv7.cell 1, hs7⟩
    have hdx8 : DkAt w8.drew 0 _ dk1 := hdx7.on (Below.refl _ _).drew
    have hdz8 : DkAt w8.drew _ _ dk0 := hdz7.on (Below.refl _ _).drew
    have hdd8 : DkAt w8.drew _ _ dk0 := hdd7.on (Below.refl _ _).drew
    have hb8 : Below w.heap.size w w8.drew := hb8.drew
    clear hx7 hy7 hz7 hdx7 hdz7 hdd7 hdv7 hdy7 hs7
    go_region_held3 (fun W => W.cell? ⟨b3, 0, none⟩ = some (.slice A3 2 c3) ∧ W.cell? ⟨b3, 1, none⟩ = some (.slice B3 1 e3) ∧ W.cell? ⟨w5.heap.size, 0, none⟩ = some (.slice (some ⟨by_, oy, none⟩) 2 c5) ∧ W.cell? ⟨w5.heap.size, 1, none⟩ = some (.slice B5 0 e5) ∧
      W.cell? ⟨w7.heap.size, 0, none⟩ = some (.slice A7 2 c7) ∧ W.cell? ⟨w7.heap.size, 1, none⟩ = some (.slice B7 0 e7) ∧ W.cell? ⟨w1.heap.size, 0, none⟩ = some (.slice A1 2 c1) ∧ W.cell? ⟨w1.heap.size, 1, none⟩ = some (.slice B1 0 e1) ∧ W.cell? ⟨by_, oy + 1, none⟩ = some (.string (sec 7)))
      (first | exact k8 | assumption | exact hS9 | exact hS10 | exact hS11)
      (first
        | (go_at_call 16
           refine (check_any dk1 _ _ hdx8 ok1).mono ?_
           rw [dkK]
           rintro e w9 ⟨rfl, hb9⟩
           have hS9 := keep9 (by assumption) hb9
           have hdz8 := hdz8.on hb9
           have hdd8 := hdd8.on hb9
           have hb8 := hb8.trans (hb9.mono hb8.size))
        | (go_at_call 34
           refine (HS.out _).mono ?_
           rintro e w10 ⟨rfl, hb10⟩
           have hS10 := keep9 (by assumption) hb10
           have hdz8 := hdz8.on hb10
           have hdd8 := hdd8.on hb10
           have hb8 := hb8.trans (hb10.mono hb8.size))
        | (go_at_call 18
           refine (rsamed_any dk0 dk0 _ _ _ hdz8 hdd8 ok0 ok0).mono ?_
           rw [dkS]
           rintro e w11 ⟨rfl, hb11⟩
           have hS11 := keep9 (by assumption) hb11
           have hb8 := hb8.trans (hb11.mono hb8.size)))
    all_goals go_wp2_with fail
    all_goals go_ret
    all_goals exact ⟨rfl, hb8⟩
end Go.Proofs.Ytoghgjobfcnneaa
