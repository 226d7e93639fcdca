/- disk.Write. -/
import Derived.Test.YtoghgjobfcnneaaDk5
namespace Go.Proofs.Ytoghgjobfcnneaa
open Go.RowKit
set_option maxHeartbeats 4000000 in
theorem write_any (d : Dk) (v : Value) (i : Int) (s : ByteArray) (w : World) {L : Nat} (hd : DkAt w L v d) (ho : DkOk d) (_hs : s.size ≤ maxLen) :
    Calls Try.prog 8 #[v, .int .i64 i, .string s] w (DkPost2 (writeD d i s) w) := by
  have HC := Lib.hid (fun W hW => oneD_any d v i W (L := L) hW ho)
  have HD := Lib.hid hd
  have hone : oneD d i = 0 → checkD d = 0 := fun h => by
    unfold oneD at h
    split at h
    · assumption
    · rename_i h2; exact absurd h h2
  have HP := Lib.hid (fun (h : oneD d i = 0) W (hW : DkAt W L v d) => put_any d v i s W hW (hone h))
  have hF : writeD d i s = if wrongW d i s = 0 then (putD d i s, 0) else (Dk.none, wrongW d i s) := rfl
  have hG : wrongW d i s = if oneD d i = 0 then (if badS s = true then 1 else if d.wr.length = 400 then 2 else 0) else oneD d i := rfl
  have hmx : d.wr.length ≤ 9223372036854775807 := by have := ho.2.1; omega
  clear ho hone
  obtain ⟨A, c, A', c', rfl, hr, hr'⟩ := hd
  generalize d.kept.length = n at *
  generalize d.wr.length = m at *
  have hb0 : Below w.heap.size w ((w.alloc (.cells #[.slice A n c, .slice A' m c'] 25)).alloc (.cells #[.slice none 0 0, .slice none 0 0] 25)) := (below_two _).alloc (by simp) _
  generalize oneD d i = r at *
  generalize putD d i s = D at *
  -- the ways out with an error, e being it
  by_cases h0 : r = 0
  · subst h0
    rw [if_pos rfl] at hG
    rcases hbad : badS s with _ | _
    · rw [hbad, if_neg (by simp)] at hG
      have hlen : ((s.size : Int) != 64) = false := by simpa [badS, bne] using hbad
      by_cases hm : m = 400
      · rw [if_pos hm] at hG
        rw [hG, if_neg (by omega)] at hF
        have HF' := Lib.hid hF
        have hm' : ((m : Int) == 400) = true := by rw [hm]; rfl
        clear hF hG hbad hm HP
        go_enter Try.func8, Try.ntmps8
        go_wp2_with fail
        refine (HC.out _ (HD.out.on hb0)).mono ?_
        rintro e w1 ⟨rfl, hb1⟩
        have a1 : w1.cell? ⟨w.heap.size, 1, none⟩ = some (.slice A' m c') := (hb1.cell (by simp; omega)).trans (((Blk.fresh w _ _).alloc _).cell 1)
        have hbw := hb0.trans (hb1.mono hb0.size)
        have hB := ((Blk.fresh (w.alloc (.cells #[.slice A n c, .slice A' m c'] 25)) 25 #[.slice none 0 0, .slice none 0 0]).below hb1 (by simp))
        simp only [World.size_alloc] at hB
        obtain ⟨r0, r1, s0, s1, hrl⟩ := hB.two
        have HBB := Lib.hid ((hbw.setCell (p := ⟨w.heap.size + 1, 0, none⟩) (by simp) (.slice none 0 0)).setCell (p := ⟨w.heap.size + 1, 1, none⟩) (by simp) (.slice none 0 0))
        clear hB
        go_wp2_with fail
        refine bodyPost_ret (v := .tuple #[.agg #[.slice none 0 0, .slice none 0 0], .int .i64 2]) (by simp [results, Try.results8, go_sem, r0, r1]) rfl ?_
        unfold DkPost2
        rw [HF'.out]
        exact ⟨_, rfl, DkAt.none _ _, HBB.out⟩
      · rw [if_neg hm] at hG
        rw [hG, if_pos rfl] at hF
        have HF' := Lib.hid hF
        have hm' : ((m : Int) == 400) = false := by rw [beq_eq_false_iff_ne]; omega
        have HP' := Lib.hid (HP.out rfl)
        clear hF hG hbad hm HP
        go_enter Try.func8, Try.ntmps8
        go_wp2_with fail
        refine (HC.out _ (HD.out.on hb0)).mono ?_
        rintro e w1 ⟨rfl, hb1⟩
        have z1 := hb1.size
        simp only [World.size_alloc] at z1
        have a0 : w1.cell? ⟨w.heap.size, 0, none⟩ = some (.slice A n c) := (hb1.cell (by simp; omega)).trans (((Blk.fresh w _ _).alloc _).cell 0)
        have a1 : w1.cell? ⟨w.heap.size, 1, none⟩ = some (.slice A' m c') := (hb1.cell (by simp; omega)).trans (((Blk.fresh w _ _).alloc _).cell 1)
        have hbw := hb0.trans (hb1.mono hb0.size)
        go_wp2_with fail
        refine (HP'.out w1 (HD.out.on hbw)).mono ?_
        rintro e w2 ⟨u, rfl, hu, hb2⟩
        have HU := Lib.hid hu
        obtain ⟨A1, c1, A2, c2, rfl, hu1, hu2⟩ := hu
        have hB := ((Blk.fresh (w.alloc (.cells #[.slice A n c, .slice A' m c'] 25)) 25 #[.slice none 0 0, .slice none 0 0]).below hb1 (by simp)).below hb2 (by simp; omega)
        simp only [World.size_alloc] at hB
        obtain ⟨r0, r1, s0, s1, hrl⟩ := hB.two
        have HBB := Lib.hid (((hbw.trans (hb2.mono (by omega))).setCell (p := ⟨w.heap.size + 1, 0, none⟩) (by simp) (.slice A1 D.kept.length c1)).setCell (p := ⟨w.heap.size + 1, 1, none⟩) (by simp) (.slice A2 D.wr.length c2))
        have HUU := Lib.hid (((HU.out.put (p := ⟨w.heap.size + 1, 0, none⟩) (by simp; omega) (.slice A1 D.kept.length c1)).put (p := ⟨w.heap.size + 1, 1, none⟩) (by simp; omega) (.slice A2 D.wr.length c2)).low (L' := w.heap.size) (by omega))
        clear hB hu1 hu2 HU
        go_wp2_with fail
        refine bodyPost_ret (v := .tuple #[.agg #[.slice A1 D.kept.length c1, .slice A2 D.wr.length c2], .int .i64 0]) (by simp [results, Try.results8, go_sem, r0, r1]) rfl ?_
        unfold DkPost2
        rw [HF'.out]
        exact ⟨_, rfl, HUU.out, HBB.out⟩
    · rw [if_pos hbad] at hG
      rw [hG, if_neg (by omega)] at hF
      have HF' := Lib.hid hF
      have hlen : ((s.size : Int) != 64) = true := by simpa [badS, bne] using hbad
      clear hF hG hbad HP
      go_enter Try.func8, Try.ntmps8
      go_wp2_with fail
      refine (HC.out _ (HD.out.on hb0)).mono ?_
      rintro e w1 ⟨rfl, hb1⟩
      have hbw := hb0.trans (hb1.mono hb0.size)
      have hB := ((Blk.fresh (w.alloc (.cells #[.slice A n c, .slice A' m c'] 25)) 25 #[.slice none 0 0, .slice none 0 0]).below hb1 (by simp))
      simp only [World.size_alloc] at hB
      obtain ⟨r0, r1, s0, s1, hrl⟩ := hB.two
      have HBB := Lib.hid ((hbw.setCell (p := ⟨w.heap.size + 1, 0, none⟩) (by simp) (.slice none 0 0)).setCell (p := ⟨w.heap.size + 1, 1, none⟩) (by simp) (.slice none 0 0))
      clear hB
      go_wp2_with fail
      refine bodyPost_ret (v := .tuple #[.agg #[.slice none 0 0, .slice none 0 0], .int .i64 1]) (by simp [results, Try.results8, go_sem, r0, r1]) rfl ?_
      unfold DkPost2
      rw [HF'.out]
      exact ⟨_, rfl, DkAt.none _ _, HBB.out⟩
  · rw [if_neg h0] at hG
    rw [hG, if_neg h0] at hF
    have HF' := Lib.hid hF
    have h0' : ((r : Int) != 0) = true := by rw [bne_iff_ne]; omega
    clear hF hG h0 HP
    go_enter Try.func8, Try.ntmps8
    go_wp2_with fail
    refine (HC.out _ (HD.out.on hb0)).mono ?_
    rintro e w1 ⟨rfl, hb1⟩
    have hbw := hb0.trans (hb1.mono hb0.size)
    have hB := ((Blk.fresh (w.alloc (.cells #[.slice A n c, .slice A' m c'] 25)) 25 #[.slice none 0 0, .slice none 0 0]).below hb1 (by simp))
    simp only [World.size_alloc] at hB
    obtain ⟨r0, r1, s0, s1, hrl⟩ := hB.two
    have HBB := Lib.hid ((hbw.setCell (p := ⟨w.heap.size + 1, 0, none⟩) (by simp) (.slice none 0 0)).setCell (p := ⟨w.heap.size + 1, 1, none⟩) (by simp) (.slice none 0 0))
    clear hB
    go_wp2_with fail
    refine bodyPost_ret (v := .tuple #[.agg #[.slice none 0 0, .slice none 0 0], .int .i64 r]) (by simp [results, Try.results8, go_sem, r0, r1]) rfl ?_
    unfold DkPost2
    rw [HF'.out]
    exact ⟨_, rfl, DkAt.none _ _, HBB.out⟩
end Go.Proofs.Ytoghgjobfcnneaa
