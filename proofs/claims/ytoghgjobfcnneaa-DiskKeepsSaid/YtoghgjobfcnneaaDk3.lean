/- disk.Keep, Flush, Crash. -/
import Derived.Test.YtoghgjobfcnneaaDk2
import Derived.Test.YtoghgjobfcnneaaDkClone
namespace Go.Proofs.Ytoghgjobfcnneaa
open Go.RowKit
theorem strsB_flat (l : List ByteArray) : (l.flatMap fun s => [Value.string s]) = l.map .string := by
  induction l with
  | nil => rfl
  | cons x l ih => rw [List.flatMap_cons, ih]; rfl
theorem str_cells {w : World} {L B : Nat} {l : List ByteArray} {cs : List Value} (h : RepAll repStr w L B l cs) : cs = l.map .string := (RepAll.flat_eq h).trans (strsB_flat l)
theorem str_all (w : World) (L B : Nat) (l : List ByteArray) : RepAll repStr w L B l (l.map .string) := by rw [← strsB_flat]; exact RepAll.flat l
/-- a disk that was made -/
def DkPost (d : Dk) (w : World) (e : Ending) (w' : World) : Prop := ∃ v, e = .returned v ∧ DkAt w' w.heap.size v d ∧ Below w.heap.size w w'
def DkPost2 (d : Dk × Nat) (w : World) (e : Ending) (w' : World) : Prop := ∃ v, e = .returned (.tuple #[v, .int .i64 d.2]) ∧ DkAt w' w.heap.size v d.1 ∧ Below w.heap.size w w'
theorem map_set_str (l : List ByteArray) (i : Nat) (s : ByteArray) : (l.map Value.string).set i (.string s) = (l.set i s).map .string := by rw [List.map_set]
set_option maxHeartbeats 2000000 in
theorem keep_any (G : FuncId) (caps : Array Value) (f : Nat → Bool) (d : Dk) (v : Value) (w : World) {L : Nat} (hd : DkAt w L v d) (ho : checkD d = 0) (hE : Enters Try.prog G)
    (hG : ∀ i W, i < d.wr.length → Below w.heap.size w W → Calls Try.prog G (#[.int .i64 i] ++ caps) W fun e w' => e = .returned (.bool (f i)) ∧ W = w') :
    Calls Try.prog 30 #[v, .func (.func G) #[] caps] w (DkPost (keepD f d) w) := by
  obtain ⟨A, c, A', c', rfl, hr, hr'⟩ := hd
  obtain ⟨o1, o2, o3, o4, o5⟩ := checkD_all d ho
  have HT : Hid (keepD f d = ⟨keptF f 0 d.wr d.kept, []⟩) := Lib.hid rfl
  have HKL := Lib.hid (keptF_len f 0 d.wr d.kept)
  obtain ⟨n, hn⟩ : ∃ n, n = d.kept.length := ⟨_, rfl⟩
  obtain ⟨m, hm⟩ : ∃ m, m = d.wr.length := ⟨_, rfl⟩
  have HN := Lib.hid hn
  have HM := Lib.hid hm
  rw [← hn] at hr o1 o2 o5 HKL ⊢
  rw [← hm] at hr' o4 ⊢
  have HG := Lib.hid hG
  have HX := Lib.hid o5
  clear hG ho o5 o3 hn hm
  unfold Enters at hE
  have hb0 : Below w.heap.size w ((w.alloc (.cells #[.slice A n c, .slice A' m c'] 25)).alloc (.cells #[.slice none 0 0, .slice none 0 0] 25)) := (below_two _).alloc (by simp) _
  have hcl := cloneS_any A n c _ (hr.on hb0) (by omega)
  have HCL := Lib.hid hcl
  clear hcl
  go_enter Try.func30, Try.ntmps30
  go_wp2_with fail
  refine HCL.out.mono ?_
  rintro e w1 ⟨v, cs, rfl, hall, hown, hb1⟩
  have hcs := str_cells hall
  subst hcs
  have z1 := hb1.size
  simp only [World.size_alloc] at z1
  have hbw := hb0.trans (hb1.mono hb0.size)
  have d1 : w1.cell? ⟨w.heap.size, 1, none⟩ = some (.slice A' m c') := (hb1.cell (by simp; omega)).trans (((Blk.fresh w _ _).alloc _).cell 1)
  have HR' := Lib.hid (hr'.on hbw)
  have HOW := Lib.hid (show w1.ownsRow (w.heap.size + 2) 9 1 v n (d.kept.map .string) from by have h := hown; simp only [World.size_alloc] at h; rw [HN.out]; exact h)
  clear hown hall
  go_wp2_with fail
  go_loopg [14] m (fun u i wr => ∃ (k : Nat) (L : List ByteArray), k ≤ m ∧ i = .int .i64 k ∧ u = m - k ∧ L.length = n ∧ wr.ownsRow (w.heap.size + 2) 9 1 v n (L.map .string) ∧ keptF f k (d.wr.drop k) L = keptF f 0 d.wr d.kept ∧ Below (w.heap.size + 2) w1 wr)
  case atStart => exact ⟨0, d.kept, Nat.zero_le _, rfl, rfl, HN.out.symm, HOW.out, rfl, Below.refl _ _⟩
  case round =>
    obtain ⟨k, L, hk, rfl, rfl, hL, hown, hf, hb⟩ := hrel
    have HF := Lib.hid hf
    have HLL := Lib.hid hL
    clear hf hL
    have z := hb.size
    have hbb := hbw.trans (hb.mono (by omega))
    by_cases hlt : k < m
    · obtain ⟨x, hx⟩ : ∃ x, d.wr[k]? = some x := ⟨d.wr[k]'(by rw [← HM.out]; exact hlt), List.getElem?_eq_getElem _⟩
      obtain ⟨b, o, rfl, hbl, c0, c1⟩ := repWr_at (hr'.below hbb) k hx
      obtain ⟨x1, x2, x3⟩ := HX.out x (List.mem_of_getElem? hx)
      have HB := Lib.hid (fun W hW => HG.out k W (by rw [← HM.out]; exact hlt) hW)
      have hR := HF.out
      rw [drop_eq _ _ _ hx, keptF] at hR
      clear hx HF HX
      obtain ⟨xn, xs⟩ := x
      simp only at c0 c1 hR x1 x2 x3
      obtain ⟨j, rfl⟩ := Int.eq_ofNat_of_zero_le x1
      have hjn : j < n := by omega
      obtain ⟨g, cap, rfl, hg1, hg2⟩ := hown.form (by omega)
      rcases g3 : f k with _ | _
      · rw [if_neg (by simp [g3])] at hR
        rw [g3] at HB
        have HR := Lib.hid hR
        clear hR g3
        go_wp2_with fail
        refine (HB.out _ (hbb.alloc (by omega) _)).mono ?_
        rintro e w1 ⟨rfl, rfl⟩
        go_wp2_with fail
        go_roundg (m - (k + 1))
        case rel => exact ⟨k + 1, L, by omega, by go_num, rfl, HLL.out, hown.alloc _, HR.out, hb.alloc (by omega) _⟩
        case measure => omega
      · rw [if_pos g3] at hR
        rw [g3] at HB
        have HR := Lib.hid hR
        clear hR g3
        obtain ⟨y, hy⟩ : ∃ y, L[j]? = some y := ⟨L[j]'(by rw [HLL.out]; exact hjn), List.getElem?_eq_getElem _⟩
        have e0 : wr.cell? ⟨g, j, none⟩ = some (.string y) := (hown.cellAt j (by omega)).trans (by rw [List.getElem?_map, hy]; rfl)
        have f0 := hown.frozenAt j
        have hgl := (hown.lt g rfl).2
        have hst := Lib.hid (hown.stored j (.string xs))
        clear hy
        go_wp2_with fail
        refine (HB.out _ (hbb.alloc (by omega) _)).mono ?_
        rintro e w1 ⟨rfl, rfl⟩
        go_wp2_with fail
        go_roundg (m - (k + 1))
        case rel => exact ⟨k + 1, L.set j xs, by omega, by go_num, rfl, by rw [List.length_set]; exact HLL.out, by rw [← map_set_str]; exact hst.out.1.alloc _, HR.out, (hb.setCell hg1 _).alloc (by simp; omega) _⟩
        case measure => omega
    · have hR := HF.out
      rw [List.drop_eq_nil_of_le (by rw [← HM.out]; omega), keptF] at hR
      subst hR
      clear HF
      have hB := ((Blk.fresh (w.alloc (.cells #[.slice A n c, .slice A' m c'] 25)) 25 #[.slice none 0 0, .slice none 0 0]).below hb1 (by simp)).below hb (by simp)
      simp only [World.size_alloc] at hB
      obtain ⟨r0, r1, s0, s1, hrl⟩ := hB.two
      have hown' : wr.ownsRow (w.heap.size + 2) 9 repStr.size v (keptF f 0 d.wr d.kept).length ((keptF f 0 d.wr d.kept).map .string) := by rw [HLL.out]; exact hown
      obtain ⟨A1, c1, rfl, hrd, hn1, hnc⟩ := RepAll.row (str_all _ w.heap.size 0 _) hown' (by omega) (Nat.zero_le _) (by decide)
      have hne : (Value.slice A1 (keptF f 0 d.wr d.kept).length c1).ownBlock ≠ some (w.heap.size + 1) := fun e => by have := (hown'.lt _ e).1; omega
      have hown3 := own_set (p := ⟨w.heap.size + 1, 1, none⟩) (own_set (p := ⟨w.heap.size + 1, 0, none⟩) hown' hne (.slice A1 (keptF f 0 d.wr d.kept).length c1)) hne (.slice none 0 0)
      obtain ⟨A2, c2, e2, hrd2, _, _⟩ := RepAll.row (str_all _ w.heap.size 0 _) hown3 (by omega) (Nat.zero_le _) (by decide)
      obtain ⟨rfl, _, rfl⟩ := Value.slice.inj e2
      have HRD := Lib.hid hrd2
      have HBB := Lib.hid (((hbb.setCell (p := ⟨w.heap.size + 1, 0, none⟩) (by simp) (.slice A1 (keptF f 0 d.wr d.kept).length c1))).setCell (p := ⟨w.heap.size + 1, 1, none⟩) (by simp) (.slice none 0 0))
      clear e2 hrd2 hown3 hown' hown hrd HLL hB
      go_wp2_with fail
      refine bodyPost_ret (v := .agg #[.slice A1 (keptF f 0 d.wr d.kept).length c1, .slice none 0 0]) (by simp [results, Try.results30, go_sem, r0, r1]) rfl ⟨_, rfl, ?_, HBB.out⟩
      rw [HT.out]
      exact ⟨A1, c1, none, 0, rfl, HRD.out, Rep.row.nil⟩
end Go.Proofs.Ytoghgjobfcnneaa
