/- The law DiskKeeps, walked. -/
import Derived.Test.YtoghgjobfcnneaaDkL2
import Derived.BigQuiet
namespace Go.Proofs.Ytoghgjobfcnneaa
open Go.RowKit
theorem writeD_bad (d : Dk) (n : Int) (s : ByteArray) (h : ¬ (writeD d n s).2 = 0) : (writeD d n s).1 = Dk.none := by
  unfold writeD at h ⊢
  split at h
  · exact absurd rfl h
  · rename_i h2; rw [if_neg h2]
theorem writeD_good (d : Dk) (n : Int) (s : ByteArray) (h : (writeD d n s).2 = 0) : (writeD d n s).1 = putD d n s ∧ checkD d = 0 ∧ 0 ≤ n ∧ n < d.kept.length ∧ s.size = 64 ∧ d.wr.length < 400 := by
  have hw : wrongW d n s = 0 := by
    unfold writeD at h
    split at h
    · assumption
    · exact h
  have e : writeD d n s = (putD d n s, 0) := by unfold writeD; rw [if_pos hw]
  unfold wrongW at hw
  split at hw
  · rename_i ho
    split at hw
    · cases hw
    · rename_i hb
      split at hw
      · cases hw
      · rename_i hm
        unfold oneD at ho
        split at ho
        · rename_i hc
          split at ho
          · cases ho
          · rename_i hr
            have hl := (checkD_all d hc).2.2.2.1
            refine ⟨by rw [e], hc, by omega, by omega, ?_, by omega⟩
            simp [badS] at hb
            omega
        · rename_i hc; exact absurd ho hc
  · rename_i ho; exact absurd hw ho
theorem putD_check (d : Dk) (n : Int) (s : ByteArray) (hc : checkD d = 0) (h0 : 0 ≤ n) (h1 : n < d.kept.length) (h2 : s.size = 64) (h3 : d.wr.length < 400) : checkD (putD d n s) = 0 := by
  obtain ⟨a1, a2, a3, a4, a5⟩ := checkD_all d hc
  refine checkD_of _ a1 a2 a3 (by simp [putD]; omega) fun x hx => ?_
  simp only [putD, List.mem_append, List.mem_singleton] at hx
  rcases hx with hx | rfl
  · exact a5 x hx
  · exact ⟨h0, h1, h2⟩
theorem keptF_all (f : Nat → Bool) (i : Nat) (r : List Wr) (l : List ByteArray) (hr : ∀ x ∈ r, x.s.size = 64) (hl : ∀ s ∈ l, s.size = 64) : ∀ s ∈ keptF f i r l, s.size = 64 := by
  induction r generalizing i l with
  | nil => exact hl
  | cons x r ih =>
    rw [keptF]
    refine ih _ _ (fun y hy => hr y (List.mem_cons_of_mem _ hy)) ?_
    split
    · intro s hs
      rcases List.mem_or_eq_of_mem_set hs with h | h
      · exact hl s h
      · rw [h]; exact hr x List.mem_cons_self
    · exact hl
theorem keepD_check (f : Nat → Bool) (d : Dk) (hc : checkD d = 0) : checkD (keepD f d) = 0 := by
  obtain ⟨a1, a2, a3, a4, a5⟩ := checkD_all d hc
  have hk := keptF_len f 0 d.wr d.kept
  refine checkD_of _ ?_ ?_ (keptF_all f 0 d.wr d.kept (fun x hx => (a5 x hx).2.2) a3) (Nat.zero_le _) (fun x hx => by cases hx)
  · show 1 ≤ (keptF f 0 d.wr d.kept).length; omega
  · show (keptF f 0 d.wr d.kept).length ≤ 400; omega
theorem keptF_last (i : Nat) (r : List Wr) (n : Int) (s : ByteArray) (l : List ByteArray) (h0 : 0 ≤ n) (h1 : n < l.length) : (keptF (fun _ => true) i (r ++ [⟨n, s⟩]) l)[n.toNat]? = some s := by
  induction r generalizing i l with
  | nil => rw [List.nil_append, keptF, keptF, if_pos rfl, List.getElem?_set_self (by show n.toNat < l.length; omega)]
  | cons x r ih => rw [List.cons_append, keptF, if_pos rfl]; exact ih _ _ (by rw [List.length_set]; exact h1)
theorem crash_none (d : Dk) (keep : List Bool) (hc : checkD d = 0) (hw : d.wr = []) : crashD d keep = (d, 0) := by
  obtain ⟨k, r⟩ := d
  simp only at hw
  subst hw
  unfold crashD
  rw [if_pos hc]
  rfl
set_option maxRecDepth 100000 in
set_option maxHeartbeats 4000000 in
theorem keeps_any (d : Dk) (v : Value) (i : Int) (s : ByteArray) (keep : List Bool) (A3 : Option Addr) (n3 c3 : Nat) (w : World) {L L3 : Nat} (hd : DkAt w L v d) (ho : DkOk d) (hs : s.size ≤ maxLen) (hk : repBool.row w L3 w.heap.size A3 n3 keep) (hn3 : n3 ≤ maxLen) :
    Calls Try.prog 4 #[v, .int .i64 i, .string s, .slice A3 n3 c3] w fun e w' => e = .returned (.bool true) ∧ Below w.heap.size w w' := by
  have HW := Lib.hid (fun W hW => write_any d v i s W (L := L) hW ho hs)
  have HD := Lib.hid hd
  obtain ⟨A, c, A', c', rfl, hr, hr'⟩ := hd
  have HB := Lib.hid (writeD_bad d i s)
  have HG := Lib.hid (show (writeD d i s).2 = 0 → ∃ Y, checkD (writeD d i s).1 = 0 ∧ flushD (writeD d i s).1 = (Y, 0) ∧ checkD Y = 0 ∧ crashD Y keep = (Y, 0) ∧ 0 ≤ i ∧ i < Y.kept.length ∧ Y.kept[i.toNat]? = some s from fun he => by
    obtain ⟨hD, hc, hi0, hi1, hss, hwl⟩ := writeD_good d i s he
    rw [hD]
    have hc1 := putD_check d i s hc hi0 hi1 hss hwl
    have hYc := keepD_check (fun _ => true) _ hc1
    exact ⟨keepD (fun _ => true) (putD d i s), hc1, by unfold flushD; rw [if_pos hc1], hYc, crash_none _ keep hYc rfl, hi0, by show i < ((keptF (fun _ => true) 0 (putD d i s).wr d.kept).length : Int); rw [keptF_len]; exact hi1, keptF_last 0 d.wr i s d.kept hi0 hi1⟩)
  clear ho
  generalize d.kept.length = n at *
  generalize d.wr.length = m at *
  have hb0 : Below w.heap.size w (w.alloc (.cells #[.slice A n c, .slice A' m c'] 25)) := below_two _
  generalize hX : writeD d i s = X at *
  obtain ⟨D1, er⟩ := X
  simp only at HB HG
  clear hX
  by_cases he : er = 0
  · subst he
    obtain ⟨Y, hc1, hF, hYc, hC, hi0, hi1, hYs⟩ := HG.out rfl
    have o1 := DkOk.of_check hc1
    have oY := DkOk.of_check hYc
    have HFl := Lib.hid (fun W L v hv => hF ▸ flush_any D1 v W (L := L) hv o1)
    have HCr := Lib.hid (fun W L v hv hkW => hC ▸ crash_any Y v keep A3 n3 c3 W (L := L) hv oY hkW hn3)
    have hYn : Y.kept.length ≤ 9223372036854775807 := by have := oY.1; omega
    obtain ⟨j, rfl⟩ := Int.eq_ofNat_of_zero_le hi0
    have hjY : j < Y.kept.length := by omega
    have HYs := Lib.hid hYs
    clear hF hC hYs HB HG hYc hc1 hi1
    go_enter Try.func4, Try.ntmps4
    go_wp2_with fail
    refine (HW.out _ (HD.out.on hb0)).mono ?_
    unfold DkPost2
    rintro e w1 ⟨v1, rfl, hd1, hb1⟩
    simp only at hd1 ⊢
    obtain ⟨A1, c1, B1, e1, rfl, hd1'⟩ := hd1.form
    have z1 := hb1.size
    simp only [World.size_alloc] at z1
    have hx1 := Blk.fresh w1 25 #[.slice A1 D1.kept.length c1, .slice B1 D1.wr.length e1]
    have hd2 := hd1'.on (below_two (.cells #[.slice A1 D1.kept.length c1, .slice B1 D1.wr.length e1] 25))
    have hbw := (hb0.trans (hb1.mono hb0.size)).alloc (by omega) (.cells #[.slice A1 D1.kept.length c1, .slice B1 D1.wr.length e1] 25)
    clear hd1
    go_wp2_with fail
    refine (dbegun_any _).mono ?_
    rintro e w2 ⟨rfl, hb2⟩
    have hbw2 := hbw.trans (hb2.mono hbw.size)
    have hd3 := hd2.on hb2
    obtain ⟨x0, x1, _, _, hxl⟩ := (hx1.call hb2).two
    clear hx1 hd2 hbw
    go_wp2_with fail
    refine (HFl.out w2 _ _ hd3).mono ?_
    unfold DkPost2
    rintro e w3 ⟨v3, rfl, hd4, hb3⟩
    simp only at hd4 ⊢
    obtain ⟨A4, c4, B4, e4, rfl, hd4'⟩ := hd4.form
    have z3 := hb3.size
    have hy1 := Blk.fresh w3 25 #[.slice A4 Y.kept.length c4, .slice B4 Y.wr.length e4]
    have hd5 := hd4'.on (below_two (.cells #[.slice A4 Y.kept.length c4, .slice B4 Y.wr.length e4] 25))
    have hbw3 := (hbw2.trans (hb3.mono hbw2.size)).alloc (by have := hbw2.size; omega) (.cells #[.slice A4 Y.kept.length c4, .slice B4 Y.wr.length e4] 25)
    clear hd4 hd4'
    go_wp2_with fail
    refine (HCr.out _ 0 _ (hd5.low (Nat.zero_le _)) ((hk.wide (Nat.zero_le _) (Nat.le_refl _)).on hbw3)).mono ?_
    unfold DkPost2
    rintro e w4 ⟨v4, rfl, hd6, hb4⟩
    simp only at hd6 ⊢
    obtain ⟨A6, c6, B6, e6, rfl, hd6'⟩ := hd6.form
    have z4 := hb4.size
    simp only [World.size_alloc] at z4
    have hy2 := (hy1.call hb4).alloc (.cells #[.slice A6 Y.kept.length c6, .slice B6 Y.wr.length e6] 25)
    have hd7 := (hd5.on hb4).on (below_two (.cells #[.slice A6 Y.kept.length c6, .slice B6 Y.wr.length e6] 25))
    have hd8 := hd6'.on (below_two (.cells #[.slice A6 Y.kept.length c6, .slice B6 Y.wr.length e6] 25))
    have hbw4 := (hbw3.trans (hb4.mono hbw3.size)).alloc (by have := hbw3.size; omega) (.cells #[.slice A6 Y.kept.length c6, .slice B6 Y.wr.length e6] 25)
    obtain ⟨bz, oz, rfl, hz⟩ := hd8.kept_at j s HYs.out
    obtain ⟨y0, y1, _, _, hyl⟩ := hy2.two
    have hzl := World.block_lt_of_cell? _ _ hz
    clear hd6 hd6' hy1 hd5 hy2
    go_wp2_with fail
    refine (rsamed_any Y Y _ _ _ hd7 hd8 oY oY).mono ?_
    rw [show sameD Y Y = true from sameD_eq.2 rfl]
    rintro e w5 ⟨rfl, hb5⟩
    go_wp2_with fail
    go_ret
    exact ⟨rfl, hbw4.trans (hb5.mono hbw4.size)⟩
  · have hD := HB.out he
    subst hD
    have he' : ((er : Int) != 0) = true := by rw [bne_iff_ne]; omega
    clear he
    go_enter Try.func4, Try.ntmps4
    go_wp2_with fail
    refine (HW.out _ (HD.out.on hb0)).mono ?_
    unfold DkPost2
    rintro e w1 ⟨v1, rfl, hd1, hb1⟩
    simp only at hd1 ⊢
    obtain ⟨A1, c1, B1, e1, rfl, hd1'⟩ := hd1.form
    have z1 := hb1.size
    simp only [World.size_alloc] at z1
    have hx1 := Blk.fresh w1 25 #[.slice A1 Dk.none.kept.length c1, .slice B1 Dk.none.wr.length e1]
    simp only [show Dk.none.kept.length = 0 from rfl, show Dk.none.wr.length = 0 from rfl] at hx1 ⊢
    have hbw := (hb0.trans (hb1.mono hb0.size)).alloc (by omega) (.cells #[.slice A1 0 c1, .slice B1 0 e1] 25)
    go_wp2_with fail
    refine (dbegun_any _).mono ?_
    rintro e w2 ⟨rfl, hb2⟩
    obtain ⟨x0, x1, _, _, hxl⟩ := (hx1.call hb2).two
    go_wp2_with fail
    go_ret
    exact ⟨rfl, hbw.trans (hb2.mono hbw.size)⟩
end Go.Proofs.Ytoghgjobfcnneaa
