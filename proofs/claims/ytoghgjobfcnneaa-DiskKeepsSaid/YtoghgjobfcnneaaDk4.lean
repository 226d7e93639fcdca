/- disk.Flush, Crash. -/
import Derived.Test.YtoghgjobfcnneaaDk3
namespace Go.Proofs.Ytoghgjobfcnneaa
open Go.RowKit
theorem flush1_any (i : Nat) (w : World) : Calls Try.prog 31 (#[.int .i64 i] ++ #[]) w fun e w' => e = .returned (.bool true) ∧ w = w' := by
  show Calls Try.prog 31 #[.int .i64 i] w _
  go_enter Try.func31, Try.ntmps31
  go_wp2_with fail
  go_ret
  exact ⟨rfl, rfl⟩
theorem flush1_enters : Enters Try.prog 31 := enters_of Try.func31 (by kernel_rfl) (by kernel_rfl)
theorem crash1_enters : Enters Try.prog 32 := enters_of Try.func32 (by kernel_rfl) (by kernel_rfl)
theorem crash1_any (i g : Nat) (keep : List Bool) (A : Option Addr) (n c B : Nat) (w : World) (hc : w.cell? ⟨g, 0, none⟩ = some (.slice A n c)) {L : Nat} (hr : repBool.row w L B A n keep) (_hn : n ≤ maxLen) :
    Calls Try.prog 32 (#[.int .i64 i] ++ #[.pointer (some ⟨g, 0, none⟩)]) w fun e w' => e = .returned (.bool (keepB keep i)) ∧ w = w' := by
  show Calls Try.prog 32 #[.int .i64 i, .pointer (some ⟨g, 0, none⟩)] w _
  by_cases hlt : i < n
  · obtain ⟨x, hx⟩ : ∃ x, keep[i]? = some x := ⟨keep[i]'(by rw [hr.1]; exact hlt), List.getElem?_eq_getElem _⟩
    obtain ⟨b, o, rfl, hbl, c0⟩ := repBool_at hr i hx
    have HT := Lib.hid (show keepB keep i = x by unfold keepB; rw [List.getD_eq_getElem?_getD, hx]; rfl)
    clear hx
    go_enter Try.func32, Try.ntmps32
    go_wp2_with fail
    go_ret
    exact ⟨by rw [HT.out]; rfl, rfl⟩
  · have HT := Lib.hid (show keepB keep i = false by unfold keepB; rw [List.getD_eq_getElem?_getD, List.getElem?_eq_none (by rw [hr.1]; omega)]; rfl)
    go_enter Try.func32, Try.ntmps32
    go_wp2_with fail
    go_ret
    exact ⟨by rw [HT.out]; rfl, rfl⟩
set_option maxHeartbeats 2000000 in
theorem flush_any (d : Dk) (v : Value) (w : World) {L : Nat} (hd : DkAt w L v d) (ho : DkOk d) :
    Calls Try.prog 9 #[v] w (DkPost2 (flushD d) w) := by
  have HC := Lib.hid (fun W hW => check_any d v W (L := L) hW ho)
  have HD := Lib.hid hd
  have HF : Hid (flushD d = if checkD d = 0 then (keepD (fun _ => true) d, 0) else (Dk.none, checkD d)) := Lib.hid rfl
  have HK := Lib.hid (fun h W (hW : DkAt W L v d) => keep_any 31 #[] (fun _ => true) d v W hW h flush1_enters (fun i W' _ _ => flush1_any i W'))
  clear ho
  obtain ⟨A, c, A', c', rfl, hr, hr'⟩ := hd
  generalize d.kept.length = n at *
  generalize d.wr.length = m at *
  have hb0 : Below w.heap.size w ((w.alloc (.cells #[.slice A n c, .slice A' m c'] 25)).alloc (.cells #[.slice none 0 0, .slice none 0 0] 25)) := (below_two _).alloc (by simp) _
  generalize checkD d = r at *
  by_cases h0 : r = 0
  · subst h0
    have HF' := Lib.hid (show flushD d = (keepD (fun _ => true) d, 0) by rw [HF.out, if_pos rfl])
    have HK' := Lib.hid (HK.out rfl)
    generalize keepD (fun _ => true) d = D at *
    go_enter Try.func9, Try.ntmps9
    go_wp2_with fail
    refine (HC.out _ (HD.out.on hb0)).mono ?_
    rintro e w1 ⟨rfl, hb1⟩
    have z1 := hb1.size
    simp only [World.size_alloc] at z1
    have hbw := hb0.trans (hb1.mono hb0.size)
    have a0 : w1.cell? ⟨w.heap.size, 0, none⟩ = some (.slice A n c) := (hb1.cell (by simp; omega)).trans (((Blk.fresh w _ _).alloc _).cell 0)
    have a1 : w1.cell? ⟨w.heap.size, 1, none⟩ = some (.slice A' m c') := (hb1.cell (by simp; omega)).trans (((Blk.fresh w _ _).alloc _).cell 1)
    go_wp2_with fail
    refine (HK'.out w1 (HD.out.on hbw)).mono ?_
    rintro e w2 ⟨u, rfl, hu, hb2⟩
    have HU := Lib.hid hu
    obtain ⟨A1, c1, A2, c2, rfl, hu1, hu2⟩ := hu
    have hB := ((Blk.fresh (w.alloc (.cells #[.slice A n c, .slice A' m c'] 25)) 25 #[.slice none 0 0, .slice none 0 0]).below hb1 (by simp)).below hb2 (by simp; omega)
    simp only [World.size_alloc] at hB
    obtain ⟨r0, r1, s0, s1, hrl⟩ := hB.two
    have HBB := Lib.hid (((hbw.trans (hb2.mono (by omega))).setCell (p := ⟨w.heap.size + 1, 0, none⟩) (by simp) (.slice A1 D.kept.length c1)).setCell (p := ⟨w.heap.size + 1, 1, none⟩) (by simp) (.slice A2 D.wr.length c2))
    have HUU := Lib.hid (((HU.out.put (p := ⟨w.heap.size + 1, 0, none⟩) (by simp; omega) (.slice A1 D.kept.length c1)).put (p := ⟨w.heap.size + 1, 1, none⟩) (by simp; omega) (.slice A2 D.wr.length c2)).low (L' := w.heap.size) (by omega))
    clear hB hu1 hu2 HU
    go_wp2_with fail
    refine bodyPost_ret (v := .tuple #[.agg #[.slice A1 D.kept.length c1, .slice A2 D.wr.length c2], .int .i64 0]) (by simp [results, Try.results9, go_sem, r0, r1]) rfl ?_
    unfold DkPost2
    rw [HF'.out]
    exact ⟨_, rfl, HUU.out, HBB.out⟩
  · have HF' := Lib.hid (show flushD d = (Dk.none, r) by rw [HF.out, if_neg h0])
    have h0' : ((r : Int) != 0) = true := by rw [bne_iff_ne]; omega
    clear h0 HK
    go_enter Try.func9, Try.ntmps9
    go_wp2_with fail
    refine (HC.out _ (HD.out.on hb0)).mono ?_
    rintro e w1 ⟨rfl, hb1⟩
    have hbw := hb0.trans (hb1.mono hb0.size)
    have hB := ((Blk.fresh (w.alloc (.cells #[.slice A n c, .slice A' m c'] 25)) 25 #[.slice none 0 0, .slice none 0 0]).below hb1 (by simp))
    simp only [World.size_alloc] at hB
    obtain ⟨r0, r1, s0, s1, hrl⟩ := hB.two
    have HBB := Lib.hid ((hbw.setCell (p := ⟨w.heap.size + 1, 0, none⟩) (by simp) (.slice none 0 0)).setCell (p := ⟨w.heap.size + 1, 1, none⟩) (by simp) (.slice none 0 0))
    clear hB
    go_wp2_with fail
    refine bodyPost_ret (v := .tuple #[.agg #[.slice none 0 0, .slice none 0 0], .int .i64 r]) (by simp [results, Try.results9, go_sem, r0, r1]) rfl ?_
    unfold DkPost2
    rw [HF'.out]
    exact ⟨_, rfl, DkAt.none _ _, HBB.out⟩
set_option maxHeartbeats 2000000 in
theorem crash_any (d : Dk) (v : Value) (keep : List Bool) (A3 : Option Addr) (n3 c3 : Nat) (w : World) {L : Nat} (hd : DkAt w L v d) (ho : DkOk d) (hk : repBool.row w L w.heap.size A3 n3 keep) (hn3 : n3 ≤ maxLen) :
    Calls Try.prog 10 #[v, .slice A3 n3 c3] w (DkPost2 (crashD d keep) w) := by
  have HC := Lib.hid (fun W hW => check_any d v W (L := L) hW ho)
  have HD := Lib.hid hd
  have HF : Hid (crashD d keep = if checkD d = 0 then (keepD (keepB keep) d, 0) else (Dk.none, checkD d)) := Lib.hid rfl
  have HK := Lib.hid (fun h W (hW : DkAt W L v d) (hc : W.cell? ⟨w.heap.size + 1, 0, none⟩ = some (.slice A3 n3 c3)) (hkW : repBool.row W L W.heap.size A3 n3 keep) (hz : w.heap.size + 1 < W.heap.size) => keep_any 32 #[.pointer (some ⟨w.heap.size + 1, 0, none⟩)] (keepB keep) d v W hW h crash1_enters (fun i W' _ hb => crash1_any i _ keep A3 n3 c3 W'.heap.size W' ((hb.cell hz).trans hc) (hkW.on hb) hn3))
  clear ho
  obtain ⟨A, c, A', c', rfl, hr, hr'⟩ := hd
  generalize d.kept.length = n at *
  generalize d.wr.length = m at *
  have hb0 : Below w.heap.size w (((w.alloc (.cells #[.slice A n c, .slice A' m c'] 25)).alloc (.cells #[.slice A3 n3 c3] 26)).alloc (.cells #[.slice none 0 0, .slice none 0 0] 25)) := ((below_two _).alloc (by simp) _).alloc (by simp; omega) _
  generalize checkD d = r at *
  by_cases h0 : r = 0
  · subst h0
    have HF' := Lib.hid (show crashD d keep = (keepD (keepB keep) d, 0) by rw [HF.out, if_pos rfl])
    have HK' := Lib.hid (HK.out rfl)
    generalize keepD (keepB keep) d = D at *
    go_enter Try.func10, Try.ntmps10
    go_wp2_with fail
    refine (HC.out _ (HD.out.on hb0)).mono ?_
    rintro e w1 ⟨rfl, hb1⟩
    have z1 := hb1.size
    simp only [World.size_alloc] at z1
    have hbw := hb0.trans (hb1.mono hb0.size)
    have a0 : w1.cell? ⟨w.heap.size, 0, none⟩ = some (.slice A n c) := (hb1.cell (by simp; omega)).trans ((((Blk.fresh w _ _).alloc _).alloc _).cell 0)
    have a1 : w1.cell? ⟨w.heap.size, 1, none⟩ = some (.slice A' m c') := (hb1.cell (by simp; omega)).trans ((((Blk.fresh w _ _).alloc _).alloc _).cell 1)
    have a3 : w1.cell? ⟨w.heap.size + 1, 0, none⟩ = some (.slice A3 n3 c3) := (hb1.cell (by simp)).trans (by have := ((Blk.fresh (w.alloc (.cells #[.slice A n c, .slice A' m c'] 25)) 26 #[.slice A3 n3 c3]).alloc (.cells #[.slice none 0 0, .slice none 0 0] 25)).cell 0; simpa using this)
    go_wp2_with fail
    refine (HK'.out w1 (HD.out.on hbw) a3 (hk.on hbw) (by omega)).mono ?_
    rintro e w2 ⟨u, rfl, hu, hb2⟩
    have HU := Lib.hid hu
    obtain ⟨A1, c1, A2, c2, rfl, hu1, hu2⟩ := hu
    have hB := ((Blk.fresh ((w.alloc (.cells #[.slice A n c, .slice A' m c'] 25)).alloc (.cells #[.slice A3 n3 c3] 26)) 25 #[.slice none 0 0, .slice none 0 0]).below hb1 (by simp)).below hb2 (by simp; omega)
    simp only [World.size_alloc] at hB
    obtain ⟨r0, r1, s0, s1, hrl⟩ := hB.two
    have HBB := Lib.hid (((hbw.trans (hb2.mono (by omega))).setCell (p := ⟨w.heap.size + 2, 0, none⟩) (by simp) (.slice A1 D.kept.length c1)).setCell (p := ⟨w.heap.size + 2, 1, none⟩) (by simp) (.slice A2 D.wr.length c2))
    have HUU := Lib.hid (((HU.out.put (p := ⟨w.heap.size + 2, 0, none⟩) (by simp; omega) (.slice A1 D.kept.length c1)).put (p := ⟨w.heap.size + 2, 1, none⟩) (by simp; omega) (.slice A2 D.wr.length c2)).low (L' := w.heap.size) (by omega))
    clear hB hu1 hu2 HU
    go_wp2_with fail
    refine bodyPost_ret (v := .tuple #[.agg #[.slice A1 D.kept.length c1, .slice A2 D.wr.length c2], .int .i64 0]) (by simp [results, Try.results10, go_sem, r0, r1]) rfl ?_
    unfold DkPost2
    rw [HF'.out]
    exact ⟨_, rfl, HUU.out, HBB.out⟩
  · have HF' := Lib.hid (show crashD d keep = (Dk.none, r) by rw [HF.out, if_neg h0])
    have h0' : ((r : Int) != 0) = true := by rw [bne_iff_ne]; omega
    clear h0 HK
    go_enter Try.func10, Try.ntmps10
    go_wp2_with fail
    refine (HC.out _ (HD.out.on hb0)).mono ?_
    rintro e w1 ⟨rfl, hb1⟩
    have hbw := hb0.trans (hb1.mono hb0.size)
    have hB := ((Blk.fresh ((w.alloc (.cells #[.slice A n c, .slice A' m c'] 25)).alloc (.cells #[.slice A3 n3 c3] 26)) 25 #[.slice none 0 0, .slice none 0 0]).below hb1 (by simp))
    simp only [World.size_alloc] at hB
    obtain ⟨r0, r1, s0, s1, hrl⟩ := hB.two
    have HBB := Lib.hid ((hbw.setCell (p := ⟨w.heap.size + 2, 0, none⟩) (by simp) (.slice none 0 0)).setCell (p := ⟨w.heap.size + 2, 1, none⟩) (by simp) (.slice none 0 0))
    clear hB
    go_wp2_with fail
    refine bodyPost_ret (v := .tuple #[.agg #[.slice none 0 0, .slice none 0 0], .int .i64 r]) (by simp [results, Try.results10, go_sem, r0, r1]) rfl ?_
    unfold DkPost2
    rw [HF'.out]
    exact ⟨_, rfl, DkAt.none _ _, HBB.out⟩
end Go.Proofs.Ytoghgjobfcnneaa
