/- disk.Put, Write. -/
import Derived.Test.YtoghgjobfcnneaaDk4
import Derived.Test.YtoghgjobfcnneaaHeld
namespace Go.Proofs.Ytoghgjobfcnneaa
open Go.RowKit
theorem wr_cells {w : World} {L B : Nat} {l : List Wr} {cs : List Value} (h : RepAll repWr w L B l cs) : cs = l.flatMap Wr.cells := RepAll.flat_eq h
theorem wr_all (w : World) (L B : Nat) (l : List Wr) : RepAll repWr w L B l (l.flatMap Wr.cells) := RepAll.flat l
/-- a disk that was made, behind its two cells -/
theorem dk_end {w W : World} {g1 g3 cap1 cap3 n m : Nat} {u u' : Value} {d : Dk} (hb : Below w.heap.size w W) (h1 : W.ownsRow (w.heap.size + 2) 9 1 (.slice (some ⟨g1, 0, none⟩) n cap1) n (d.kept.map .string)) (h3 : W.ownsRow (w.heap.size + 2) 61 2 (.slice (some ⟨g3, 0, none⟩) m cap3) m (d.wr.flatMap Wr.cells)) (hn : n = d.kept.length) (hm : m = d.wr.length) :
    DkAt ((W.setCell ⟨w.heap.size + 1, 0, none⟩ u).setCell ⟨w.heap.size + 1, 1, none⟩ u') w.heap.size (.agg #[.slice (some ⟨g1, 0, none⟩) n cap1, .slice (some ⟨g3, 0, none⟩) m cap3]) d ∧ Below w.heap.size w ((W.setCell ⟨w.heap.size + 1, 0, none⟩ u).setCell ⟨w.heap.size + 1, 1, none⟩ u') := by
  subst hn
  subst hm
  have k1 := h1.lt g1 rfl
  have k3 := h3.lt g3 rfl
  have e1 := own_set (p := ⟨w.heap.size + 1, 1, none⟩) (own_set (p := ⟨w.heap.size + 1, 0, none⟩) h1 (by simp [Value.ownBlock]; omega) u) (by simp [Value.ownBlock]; omega) u'
  have e3 := own_set (p := ⟨w.heap.size + 1, 1, none⟩) (own_set (p := ⟨w.heap.size + 1, 0, none⟩) h3 (by simp [Value.ownBlock]; omega) u) (by simp [Value.ownBlock]; omega) u'
  obtain ⟨A1, c1, q1, r1, _, _⟩ := RepAll.row (ρ := repStr) (str_all _ w.heap.size 0 _) e1 (by omega) (Nat.zero_le _) (by decide)
  obtain ⟨A3, c3, q3, r3, _, _⟩ := RepAll.row (ρ := repWr) (wr_all _ w.heap.size 0 _) e3 (by omega) (Nat.zero_le _) (by decide)
  rw [q1, q3]
  exact ⟨⟨A1, c1, A3, c3, rfl, r1, r3⟩, (hb.setCell (by simp) u).setCell (by simp) u'⟩
set_option maxRecDepth 100000 in
set_option maxHeartbeats 4000000 in
theorem put_any (d : Dk) (v : Value) (i : Int) (s : ByteArray) (w : World) {L : Nat} (hd : DkAt w L v d) (ho : checkD d = 0) :
    Calls Try.prog 29 #[v, .int .i64 i, .string s] w (DkPost (putD d i s) w) := by
  obtain ⟨A, c, A', c', rfl, hr, hr'⟩ := hd
  obtain ⟨o1, o2, _, o4, _⟩ := checkD_all d ho
  have HT : Hid (putD d i s = ⟨d.kept, d.wr ++ [⟨i, s⟩]⟩) := Lib.hid rfl
  obtain ⟨n, hn⟩ : ∃ n, n = d.kept.length := ⟨_, rfl⟩
  obtain ⟨m, hm⟩ : ∃ m, m = d.wr.length := ⟨_, rfl⟩
  rw [← hn] at hr o1 o2 ⊢
  rw [← hm] at hr' o4 ⊢
  have HN := Lib.hid hn
  have HM := Lib.hid hm
  clear hn hm ho
  have hb0 : Below w.heap.size w ((w.alloc (.cells #[.slice A n c, .slice A' m c'] 25)).alloc (.cells #[.slice none 0 0, .slice none 0 0] 25)) := (below_two _).alloc (by simp) _
  have HC1 := Lib.hid (fun W (h : Below w.heap.size w W) => cloneS_any A n c W (hr.on h) (by omega))
  have HC2 := Lib.hid (fun W (h : Below w.heap.size w W) => cloneW_any A' m c' W (hr'.on h) (by omega))
  go_enter Try.func29, Try.ntmps29
  go_wp2_with fail
  generalize hW0 : (w.alloc (.cells #[.slice A n c, .slice A' m c'] 25)).alloc (.cells #[.slice none 0 0, .slice none 0 0] 25) = W0 at hb0 ⊢
  have k0 : Below w.heap.size w W0.drew ∧ w.heap.size + 2 ≤ W0.drew.heap.size ∧ W0.drew.cell? ⟨w.heap.size, 0, none⟩ = some (.slice A n c) ∧ W0.drew.cell? ⟨w.heap.size, 1, none⟩ = some (.slice A' m c') := by
    subst hW0
    exact ⟨hb0.drew, by simp, ((Blk.fresh w _ _).alloc _).cell 0, ((Blk.fresh w _ _).alloc _).cell 1⟩
  have hres : Blk W0.drew (w.heap.size + 1) 25 #[.slice none 0 0, .slice none 0 0] := by
    subst hW0
    have h := Blk.fresh (w.alloc (.cells #[.slice A n c, .slice A' m c'] 25)) 25 #[.slice none 0 0, .slice none 0 0]
    simp only [World.size_alloc] at h
    exact h
  clear hW0 hb0
  have H1 := Nat.le_add_right w.heap.size 2
  have H2 : w.heap.size < w.heap.size + 2 := by omega
  have H3 : w.heap.size + 1 ≠ w.heap.size := by omega
  have H4 : w.heap.size ≤ w.heap.size + 1 := by omega
  have H5 : w.heap.size + 1 < w.heap.size + 2 := by omega
  have HN0 : 0 < d.kept.length := by rw [← HN.out]; omega
  have HM1 : d.wr.length + 1 ≤ maxLen := by rw [← HM.out]; unfold maxLen; omega
  have HM2 : (d.wr.length + 1) * 24 ≤ 140737488355328 := by rw [← HM.out]; omega
  go_region_held3 (fun W => Below w.heap.size w W ∧ w.heap.size + 2 ≤ W.heap.size ∧ W.cell? ⟨w.heap.size, 0, none⟩ = some (.slice A n c) ∧ W.cell? ⟨w.heap.size, 1, none⟩ = some (.slice A' m c'))
    (first | exact k0 | assumption | exact Held2.call (by assumption) H1 H2 hb1 | exact Held2.call (by assumption) H1 H2 hb2 | exact Held2.alloc (by assumption) H1 H2 _ | exact Held2.below (by assumption) H1 H2 hL3.below | exact Held2.put (p := ⟨w.heap.size + 1, 1, none⟩) (Held2.put (p := ⟨w.heap.size + 1, 0, none⟩) (by assumption) H3 H4) H3 H4)
    (first
      | (go_at_call 47
         refine (HC1.out _ (And.left (by assumption))).mono ?_
         rintro e w1 ⟨v1, cs1, rfl, hall1, hown1, hb1⟩
         have hown1 := own_low (base' := w.heap.size + 2) hown1 (And.left (And.right (by assumption)))
         obtain ⟨g1, cap1, rfl, hg1, hg1'⟩ := hown1.form HN0
         (first | have hres := hres.call hb1 | have hres := (hres.alloc _).call hb1)
         (first | have hown2 := own_below hown2 hb1 | have hown2 := own_below (hown2.alloc _) hb1 | skip)
         (first | have hown3 := own_below hown3 hb1 | skip)
         (first | have hnews := Blk.call hnews hb1 | have hnews := blk_call hb1 | have hnews := blk_call (below_undrew hb1) | skip)
         have hbel := And.left (Held2.call (by assumption) H1 H2 hb1)
         obtain ⟨r0, r1, s0, s1, _⟩ := hres.two)
      | (go_at_call 48
         refine (HC2.out _ (And.left (by assumption))).mono ?_
         rintro e w2 ⟨v2, cs2, rfl, hall2, hown2, hb2⟩
         have hown2 := own_low (base' := w.heap.size + 2) hown2 (And.left (And.right (by assumption)))
         (first | have hres := hres.call hb2 | have hres := (hres.alloc _).call hb2)
         (first | have hown1 := own_below hown1 hb2 | have hown1 := own_below (hown1.alloc _) hb2 | skip)
         (first | have hnews := Blk.call hnews hb2 | have hnews := blk_call hb2 | have hnews := blk_call (below_undrew hb2) | skip))
      | (refine step_app rfl (.tmp 12) (.tmp 16) elWr rfl (by first | exact hown2 | exact hown2.alloc _) rfl rfl (by first | exact hnews | exact Blk.fresh _ _ _) rfl rfl (by omega) HM1 HM2 (And.left (And.right (by assumption))) ?_
         intro g3 cap3 w3 hown3 hL3
         (first | have hres := hres.left hL3 H5 | have hres := (hres.alloc _).left hL3 H5)
         (first | have hown1 := own_left hown1 hL3 (own_apart hown1 hown2 (by decide)) | have hown1 := own_left (hown1.alloc _) hL3 (own_apart hown1 hown2 (by decide)) | skip)
         have hbel := And.left (Held2.below (by assumption) H1 H2 hL3.below)
         obtain ⟨r0, r1, s0, s1, _⟩ := hres.two))
  all_goals
    go_wp2_with fail
    refine bodyPost_ret (v := .agg #[.slice (some ⟨g1, 0, none⟩) d.kept.length cap1, .slice (some ⟨g3, 0, none⟩) (d.wr.length + 1) cap3]) (by simp [results, Try.results29, go_sem, r0, r1]) rfl ⟨_, rfl, ?_⟩
    rw [HT.out]
    rw [str_cells hall1] at hown1
    rw [wr_cells hall2] at hown3
    refine dk_end ?_ hown1 (by have h := hown3; rw [show d.wr.flatMap Wr.cells ++ [Value.int .i64 i, Value.string s] = (d.wr ++ [Wr.mk i s]).flatMap Wr.cells by simp [List.flatMap_append]] at h; exact h) rfl (by simp)
    exact hbel
end Go.Proofs.Ytoghgjobfcnneaa
