/- disk.Check, one. -/
import Derived.Test.YtoghgjobfcnneaaDk1
namespace Go.Proofs.Ytoghgjobfcnneaa
open Go.RowKit
/-- a disk by value -/
def DkAt (w : World) (L : Nat) (v : Value) (d : Dk) : Prop := ∃ A c A' c', v = .agg #[.slice A d.kept.length c, .slice A' d.wr.length c'] ∧ repStr.row w L w.heap.size A d.kept.length d.kept ∧ repWr.row w L w.heap.size A' d.wr.length d.wr
def DkOk (d : Dk) : Prop := d.kept.length * 16 ≤ 140737488351232 ∧ d.wr.length * 24 ≤ 140737488351232 ∧ (∀ s ∈ d.kept, s.size ≤ maxLen) ∧ ∀ x ∈ d.wr, x.s.size ≤ maxLen
theorem DkAt.on {w w' : World} {L : Nat} {v : Value} {d : Dk} (h : DkAt w L v d) (hb : Below w.heap.size w w') : DkAt w' L v d := by
  obtain ⟨A, c, A', c', e, h1, h2⟩ := h
  exact ⟨A, c, A', c', e, h1.on hb, h2.on hb⟩
theorem DkAt.low {w : World} {L L' : Nat} {v : Value} {d : Dk} (h : DkAt w L v d) (hL : L' ≤ L) : DkAt w L' v d := by
  obtain ⟨A, c, A', c', e, h1, h2⟩ := h
  exact ⟨A, c, A', c', e, h1.wide hL (Nat.le_refl _), h2.wide hL (Nat.le_refl _)⟩
theorem DkAt.put {w : World} {L : Nat} {v : Value} {d : Dk} (h : DkAt w L v d) {p : Addr} (hp : p.block < L) (u : Value) : DkAt (w.setCell p u) L v d := by
  obtain ⟨A, c, A', c', e, h1, h2⟩ := h
  exact ⟨A, c, A', c', e, by simpa [World.setCell] using h1.put hp u, by simpa [World.setCell] using h2.put hp u⟩
theorem DkAt.none (w : World) (L : Nat) : DkAt w L (.agg #[.slice .none 0 0, .slice .none 0 0]) Dk.none := ⟨_, _, _, _, rfl, Rep.row.nil, Rep.row.nil⟩
theorem DkOk.of_check {d : Dk} (h : checkD d = 0) : DkOk d := by
  obtain ⟨h1, h2, h3, h4, h5⟩ := checkD_all d h
  exact ⟨by omega, by omega, fun s hs => by rw [h3 s hs]; unfold maxLen; omega, fun x hx => by rw [(h5 x hx).2.2]; unfold maxLen; omega⟩
set_option maxHeartbeats 2000000 in
theorem check_any (d : Dk) (v : Value) (w : World) {L : Nat} (hd : DkAt w L v d) (ho : DkOk d) :
    Calls Try.prog 16 #[v] w fun e w' => e = .returned (.int .i64 (checkD d)) ∧ Below w.heap.size w w' := by
  obtain ⟨A, c, A', c', rfl, hr, hr'⟩ := hd
  obtain ⟨o1, o2, o3, o4⟩ := ho
  obtain ⟨n, hn⟩ : ∃ n, n = d.kept.length := ⟨_, rfl⟩
  obtain ⟨m, hm⟩ : ∃ m, m = d.wr.length := ⟨_, rfl⟩
  have hc : checkD d = (if n < 1 ∨ 400 < n then 3 else if d.kept.any badS = true then 1 else if 400 < m then 2 else checkW n d.wr) := by rw [hn, hm]; rfl
  have HM := Lib.hid hm
  rw [← hn] at hr o1 ⊢
  rw [← hm] at hr' o2 ⊢
  clear hn hm
  have hb0 : Below w.heap.size w (w.alloc (.cells #[.slice A n c, .slice A' m c'] 25)) := below_two _
  have HC := Lib.hid (fun W hW => containsS_any 35 #[] badS d.kept A n c W (L := L) hW (by unfold maxLen; omega) bad_enters (fun x hx => bad_any x W (o3 x hx)))
  by_cases h1 : n < 1
  · have HT := Lib.hid (show checkD d = 3 by rw [hc, if_pos (.inl h1)])
    clear hc
    go_enter Try.func16, Try.ntmps16
    go_wp2_with fail
    go_ret
    exact ⟨by rw [HT.out]; rfl, hb0⟩
  by_cases h2 : 400 < n
  · have HT := Lib.hid (show checkD d = 3 by rw [hc, if_pos (.inr h2)])
    clear hc
    go_enter Try.func16, Try.ntmps16
    go_wp2_with fail
    go_ret
    exact ⟨by rw [HT.out]; rfl, hb0⟩
  rw [if_neg (by omega)] at hc
  rcases h3 : d.kept.any badS with _ | _
  rotate_left
  · rw [if_pos h3] at hc
    rw [h3] at HC
    have HT := Lib.hid hc
    clear hc h3
    go_enter Try.func16, Try.ntmps16
    go_wp2_with fail
    refine (HC.out _ (hr.on hb0)).mono ?_
    rintro e w1 ⟨rfl, rfl⟩
    go_wp2_with fail
    go_ret
    exact ⟨by rw [HT.out]; rfl, hb0⟩
  rw [if_neg (by simp [h3])] at hc
  rw [h3] at HC
  clear h3
  by_cases h4 : 400 < m
  · rw [if_pos h4] at hc
    have HT := Lib.hid hc
    clear hc
    go_enter Try.func16, Try.ntmps16
    go_wp2_with fail
    refine (HC.out _ (hr.on hb0)).mono ?_
    rintro e w1 ⟨rfl, rfl⟩
    go_wp2_with fail
    go_ret
    exact ⟨by rw [HT.out]; rfl, hb0⟩
  rw [if_neg h4] at hc
  have HT := Lib.hid hc
  have HO := Lib.hid o4
  clear hc o4 o3
  go_enter Try.func16, Try.ntmps16
  go_wp2_with fail
  refine (HC.out _ (hr.on hb0)).mono ?_
  rintro e w1 ⟨rfl, rfl⟩
  go_wp2_with fail
  go_loopg [30] m (fun u i wr => ∃ k : Nat, k ≤ m ∧ i = .int .i64 k ∧ u = m - k ∧ checkW n (d.wr.drop k) = checkW n d.wr ∧ Below (w.heap.size + 1) (w.alloc (.cells #[.slice A n c, .slice A' m c'] 25)) wr)
  case atStart => exact ⟨0, Nat.zero_le _, rfl, rfl, rfl, Below.refl _ _⟩
  case round =>
    obtain ⟨k, hk, rfl, rfl, hf, hb⟩ := hrel
    have HF := Lib.hid hf
    clear hf
    have z := hb.size
    simp only [World.size_alloc] at z
    have d0 : wr.cell? ⟨w.heap.size, 0, none⟩ = some (.slice A n c) := (hb.cell (by simp)).trans ((Blk.fresh w _ _).cell 0)
    have hbw := hb0.trans (hb.mono (by omega))
    have hlt0 : w.heap.size < wr.heap.size := by omega
    by_cases hlt : k < m
    · obtain ⟨x, hx⟩ : ∃ x, d.wr[k]? = some x := ⟨d.wr[k]'(by rw [← HM.out]; exact hlt), List.getElem?_eq_getElem _⟩
      obtain ⟨b, o, rfl, hbl, c0, c1⟩ := repWr_at (hr'.below hbw) k hx
      have hxs := HO.out x (List.mem_of_getElem? hx)
      have HB := Lib.hid (fun W => bad_any x.s W hxs)
      have hR := HF.out
      rw [drop_eq _ _ _ hx, checkW] at hR
      clear hx HF HO
      obtain ⟨xn, xs⟩ := x
      simp only at c0 c1 hR HB hxs
      by_cases g1 : xn < 0
      · rw [if_pos (.inl g1)] at hR
        have HR := Lib.hid hR
        clear hR
        go_wp2_with fail
        go_ret
        exact ⟨by rw [HT.out, ← HR.out]; rfl, hbw.alloc (by omega) _⟩
      by_cases g2 : (n : Int) ≤ xn
      · rw [if_pos (.inr g2)] at hR
        have HR := Lib.hid hR
        clear hR
        go_wp2_with fail
        go_ret
        exact ⟨by rw [HT.out, ← HR.out]; rfl, hbw.alloc (by omega) _⟩
      rw [if_neg (by omega)] at hR
      rcases g3 : badS xs with _ | _
      · rw [if_neg (by simp [g3])] at hR
        rw [g3] at HB
        have HR := Lib.hid hR
        clear hR g3
        go_wp2_with fail
        refine (HB.out _).mono ?_
        rintro e w1 ⟨rfl, rfl⟩
        go_wp2_with fail
        go_roundg (m - (k + 1))
        case rel => exact ⟨k + 1, by omega, by go_num, rfl, HR.out, hb.alloc (by omega) _⟩
        case measure => omega
      · rw [if_pos g3] at hR
        rw [g3] at HB
        have HR := Lib.hid hR
        clear hR g3
        go_wp2_with fail
        refine (HB.out _).mono ?_
        rintro e w1 ⟨rfl, rfl⟩
        go_wp2_with fail
        go_ret
        exact ⟨by rw [HT.out, ← HR.out]; rfl, hbw.alloc (by omega) _⟩
    · have hR := HF.out
      rw [List.drop_eq_nil_of_le (by rw [← HM.out]; omega)] at hR
      have HR := Lib.hid hR
      clear hR HF
      go_wp2_with fail
      go_ret
      exact ⟨by rw [HT.out, ← HR.out]; rfl, hbw⟩
set_option maxHeartbeats 1000000 in
theorem oneD_any (d : Dk) (v : Value) (i : Int) (w : World) {L : Nat} (hd : DkAt w L v d) (ho : DkOk d) :
    Calls Try.prog 28 #[v, .int .i64 i] w fun e w' => e = .returned (.int .i64 (oneD d i)) ∧ Below w.heap.size w w' := by
  have HC := Lib.hid (fun W hW => check_any d v W (L := L) hW ho)
  have HD := Lib.hid hd
  obtain ⟨A, c, A', c', rfl, hr, hr'⟩ := hd
  have hn : d.kept.length ≤ 9223372036854775807 := by have := ho.1; omega
  have hO : oneD d i = if checkD d = 0 then (if i < 0 ∨ (d.kept.length : Int) ≤ i then 5 else 0) else checkD d := rfl
  clear ho
  generalize d.kept.length = n at *
  generalize d.wr.length = m at *
  generalize checkD d = r at *
  have hb0 : Below w.heap.size w (w.alloc (.cells #[.slice A n c, .slice A' m c'] 25)) := below_two _
  by_cases h0 : r = 0
  · subst h0
    rw [if_pos rfl] at hO
    by_cases h1 : i < 0 ∨ (n : Int) ≤ i
    · rw [if_pos h1] at hO
      have HT := Lib.hid hO
      clear hO
      rcases h1 with h1 | h1
      · go_enter Try.func28, Try.ntmps28
        go_wp2_with fail
        refine (HC.out _ (HD.out.on hb0)).mono ?_
        rintro e w1 ⟨rfl, hb1⟩
        go_wp2_with fail
        go_ret
        exact ⟨by rw [HT.out]; rfl, hb0.trans (hb1.mono hb0.size)⟩
      · have h1' : ¬ i < 0 := by omega
        go_enter Try.func28, Try.ntmps28
        go_wp2_with fail
        refine (HC.out _ (HD.out.on hb0)).mono ?_
        rintro e w1 ⟨rfl, hb1⟩
        have d0 : w1.cell? ⟨w.heap.size, 0, none⟩ = some (.slice A n c) := (hb1.cell (by simp)).trans ((Blk.fresh w _ _).cell 0)
        go_wp2_with fail
        go_ret
        exact ⟨by rw [HT.out]; rfl, hb0.trans (hb1.mono hb0.size)⟩
    · rw [if_neg h1] at hO
      have HT := Lib.hid hO
      have h1a : ¬ i < 0 := by omega
      have h1b : ¬ (n : Int) ≤ i := by omega
      clear hO h1
      go_enter Try.func28, Try.ntmps28
      go_wp2_with fail
      refine (HC.out _ (HD.out.on hb0)).mono ?_
      rintro e w1 ⟨rfl, hb1⟩
      have d0 : w1.cell? ⟨w.heap.size, 0, none⟩ = some (.slice A n c) := (hb1.cell (by simp)).trans ((Blk.fresh w _ _).cell 0)
      go_wp2_with fail
      go_ret
      exact ⟨by rw [HT.out]; rfl, hb0.trans (hb1.mono hb0.size)⟩
  · rw [if_neg h0] at hO
    have HT := Lib.hid hO
    have h0' : ((r : Int) != 0) = true := by rw [bne_iff_ne]; omega
    clear hO h0
    go_enter Try.func28, Try.ntmps28
    go_wp2_with fail
    refine (HC.out _ (HD.out.on hb0)).mono ?_
    rintro e w1 ⟨rfl, hb1⟩
    go_wp2_with fail
    go_ret
    exact ⟨by rw [HT.out]; rfl, hb0.trans (hb1.mono hb0.size)⟩
end Go.Proofs.Ytoghgjobfcnneaa
