/- The reference's comparison of disks. -/
import Derived.Test.YtoghgjobfcnneaaDk2
namespace Go.Proofs.Ytoghgjobfcnneaa
open Go.RowKit
def sameS (x y : ByteArray) : Bool := x.toList == y.toList
def sameSs : List ByteArray → List ByteArray → Bool
  | [], [] => true
  | x :: l, y :: r => sameS x y && sameSs l r
  | _, _ => false
def sameW (x y : Wr) : Bool := (x.sec == y.sec) && (x.s.toList == y.s.toList)
def sameWs : List Wr → List Wr → Bool
  | [], [] => true
  | x :: l, y :: r => sameW x y && sameWs l r
  | _, _ => false
def sameD (a b : Dk) : Bool := sameSs a.kept b.kept && sameWs a.wr b.wr
theorem sameS_eq {x y : ByteArray} : sameS x y = true ↔ x = y := by
  unfold sameS
  rw [beq_iff_eq, ByteArray.toList_eq, ByteArray.toList_eq]
  constructor
  · intro h
    obtain ⟨⟨l⟩⟩ := x
    obtain ⟨⟨l'⟩⟩ := y
    simp only at h
    rw [h]
  · intro h; rw [h]
theorem sameSs_eq {l r : List ByteArray} : sameSs l r = true ↔ l = r := by
  induction l generalizing r with
  | nil => cases r <;> simp [sameSs]
  | cons x l ih => cases r with
    | nil => simp [sameSs]
    | cons y r => rw [sameSs, Bool.and_eq_true, sameS_eq, ih, List.cons.injEq]
theorem sameW_eq {x y : Wr} : sameW x y = true ↔ x = y := by
  obtain ⟨a, s⟩ := x
  obtain ⟨b, t⟩ := y
  unfold sameW
  rw [Bool.and_eq_true, beq_iff_eq, Wr.mk.injEq, ← sameS_eq]
  rfl
theorem sameWs_eq {l r : List Wr} : sameWs l r = true ↔ l = r := by
  induction l generalizing r with
  | nil => cases r <;> simp [sameWs]
  | cons x l ih => cases r with
    | nil => simp [sameWs]
    | cons y r => rw [sameWs, Bool.and_eq_true, sameW_eq, ih, List.cons.injEq]
theorem sameD_eq {a b : Dk} : sameD a b = true ↔ a = b := by
  obtain ⟨k, w⟩ := a
  obtain ⟨k', w'⟩ := b
  unfold sameD
  rw [Bool.and_eq_true, sameSs_eq, sameWs_eq, Dk.mk.injEq]
set_option maxHeartbeats 4000000 in
theorem rsamed_any (a b : Dk) (v v' : Value) (w : World) {L L' : Nat} (hd : DkAt w L v a) (hd' : DkAt w L' v' b) (ho : DkOk a) (ho' : DkOk b) :
    Calls Try.prog 18 #[v, v'] w fun e w' => e = .returned (.bool (sameD a b)) ∧ Below w.heap.size w w' := by
  obtain ⟨A, c, A', c', rfl, hr, hr'⟩ := hd
  obtain ⟨D, e, D', e', rfl, ks, ks'⟩ := hd'
  obtain ⟨n, hn⟩ : ∃ n, n = a.kept.length := ⟨_, rfl⟩
  obtain ⟨m, hm⟩ : ∃ m, m = a.wr.length := ⟨_, rfl⟩
  obtain ⟨n', hn'⟩ : ∃ n, n = b.kept.length := ⟨_, rfl⟩
  obtain ⟨m', hm'⟩ : ∃ m, m = b.wr.length := ⟨_, rfl⟩
  have o1 : n ≤ 9223372036854775807 := by have := ho.1; omega
  have o2 : m ≤ 9223372036854775807 := by have := ho.2.1; omega
  have o3 : n' ≤ 9223372036854775807 := by have := ho'.1; omega
  have o4 : m' ≤ 9223372036854775807 := by have := ho'.2.1; omega
  rw [← hn] at hr ⊢
  rw [← hm] at hr' ⊢
  rw [← hn'] at ks ⊢
  rw [← hm'] at ks' ⊢
  clear ho ho'
  have hb0 : Below w.heap.size w ((w.alloc (.cells #[.slice A n c, .slice A' m c'] 25)).alloc (.cells #[.slice D n' e, .slice D' m' e'] 25)) := (below_two _).alloc (by simp) _
  by_cases h1 : n = n'
  rotate_left
  · have HT := Lib.hid (show sameD a b = false by
      rw [← Bool.not_eq_true, sameD_eq]; rintro rfl; exact h1 (by rw [hn, hn']))
    have h1' : ((n : Int) != (n' : Int)) = true := by rw [bne_iff_ne]; omega
    clear hn hm hn' hm' h1
    go_enter Try.func18, Try.ntmps18
    go_wp2_with fail
    go_ret
    exact ⟨by rw [HT.out]; rfl, hb0⟩
  subst h1
  by_cases h2 : m = m'
  rotate_left
  · have HT := Lib.hid (show sameD a b = false by
      rw [← Bool.not_eq_true, sameD_eq]; rintro rfl; exact h2 (by rw [hm, hm']))
    have h2' : ((m : Int) != (m' : Int)) = true := by rw [bne_iff_ne]; omega
    clear hn hm hn' hm' h2
    go_enter Try.func18, Try.ntmps18
    go_wp2_with fail
    go_ret
    exact ⟨by rw [HT.out]; rfl, hb0⟩
  subst h2
  have HN := Lib.hid hn
  have HM := Lib.hid hm
  have HN' := Lib.hid hn'
  have HM' := Lib.hid hm'
  clear hn hm hn' hm'
  go_enter Try.func18, Try.ntmps18
  go_wp2_with fail
  go_loopg [5] n (fun u i wr => ∃ k : Nat, k ≤ n ∧ i = .int .i64 k ∧ u = n - k ∧ sameSs (a.kept.drop k) (b.kept.drop k) = sameSs a.kept b.kept ∧ Below (w.heap.size + 2) ((w.alloc (.cells #[.slice A n c, .slice A' m c'] 25)).alloc (.cells #[.slice D n e, .slice D' m e'] 25)) wr)
  case atStart => exact ⟨0, Nat.zero_le _, rfl, rfl, rfl, Below.refl _ _⟩
  case round =>
    obtain ⟨k, hk, rfl, rfl, hf, hb⟩ := hrel
    have HF := Lib.hid hf
    clear hf
    have z := hb.size
    simp only [World.size_alloc] at z
    have d0 : wr.cell? ⟨w.heap.size, 0, none⟩ = some (.slice A n c) := (hb.cell (by simp)).trans (((Blk.fresh w _ _).alloc _).cell 0)
    have d1 : wr.cell? ⟨w.heap.size, 1, none⟩ = some (.slice A' m c') := (hb.cell (by simp)).trans (((Blk.fresh w _ _).alloc _).cell 1)
    have hB1 := (Blk.fresh (w.alloc (.cells #[.slice A n c, .slice A' m c'] 25)) 25 #[.slice D n e, .slice D' m e']).below hb (by simp)
    simp only [World.size_alloc] at hB1
    have e0 := hB1.cell 0
    have e1 := hB1.cell 1
    have hbw := hb0.trans (hb.mono (by omega))
    clear hB1
    by_cases hlt : k < n
    · obtain ⟨x, hx⟩ : ∃ x, a.kept[k]? = some x := ⟨a.kept[k]'(by rw [← HN.out]; exact hlt), List.getElem?_eq_getElem _⟩
      obtain ⟨y, hy⟩ : ∃ x, b.kept[k]? = some x := ⟨b.kept[k]'(by rw [← HN'.out]; exact hlt), List.getElem?_eq_getElem _⟩
      obtain ⟨b1, q1, rfl, hbl1, c1⟩ := repStr_at (hr.below hbw) k hx
      obtain ⟨b2, q2, rfl, hbl2, c2⟩ := repStr_at (ks.below hbw) k hy
      have hR := HF.out
      rw [drop_eq _ _ _ hx, drop_eq _ _ _ hy, sameSs, sameS] at hR
      clear hx hy HF
      rcases hp : (x.toList == y.toList) with _ | _
      · rw [hp, Bool.false_and] at hR
        have HT := Lib.hid (show sameD a b = false by unfold sameD; rw [← hR]; rfl)
        have hp' : (x.toList != y.toList) = true := by simp [bne, hp]
        clear hR
        go_wp2_with fail
        go_quiet (fail)
        go_wp2_with fail
        go_ret
        exact ⟨by rw [HT.out]; rfl, below_drewN hbw _⟩
      · rw [hp, Bool.true_and] at hR
        obtain rfl : x = y := sameS_eq.1 hp
        have HR := Lib.hid hR
        clear hR hp
        go_wp2_with fail
        go_quiet (fail)
        go_wp2_with fail
        go_roundg (n - (k + 1))
        case rel => exact ⟨k + 1, by omega, by go_num, rfl, HR.out, below_drewN hb _⟩
        case measure => omega
    · have hR := HF.out
      rw [List.drop_eq_nil_of_le (by rw [← HN.out]; omega), List.drop_eq_nil_of_le (by rw [← HN'.out]; omega)] at hR
      have HK := Lib.hid hR
      clear hR HF
      go_wp2_with fail
      obtain ⟨wo, rfl⟩ : ∃ wo : World, wo = wr := ⟨_, rfl⟩
      clear hlt
      go_loopg [6] m (fun u i wr => ∃ k : Nat, k ≤ m ∧ i = .int .i64 k ∧ u = m - k ∧ sameWs (a.wr.drop k) (b.wr.drop k) = sameWs a.wr b.wr ∧ Below (w.heap.size + 2) wo wr)
      case atStart => exact ⟨0, Nat.zero_le _, rfl, rfl, rfl, Below.refl _ _⟩
      case round =>
        obtain ⟨k', hk', rfl, rfl, hf', hb'⟩ := hrel
        have HF := Lib.hid hf'
        clear hf'
        have z' := hb'.size
        have d0' := (hb'.cell (p := ⟨w.heap.size, 0, none⟩) (show w.heap.size < w.heap.size + 2 by omega)).trans d0
        have d1' := (hb'.cell (p := ⟨w.heap.size, 1, none⟩) (show w.heap.size < w.heap.size + 2 by omega)).trans d1
        have e0' := (hb'.cell (p := ⟨w.heap.size + 1, 0, none⟩) (show w.heap.size + 1 < w.heap.size + 2 by omega)).trans e0
        have e1' := (hb'.cell (p := ⟨w.heap.size + 1, 1, none⟩) (show w.heap.size + 1 < w.heap.size + 2 by omega)).trans e1
        have hbw' := hbw.trans (hb'.mono (by omega))
        by_cases hlt : k' < m
        · obtain ⟨x, hx⟩ : ∃ x, a.wr[k']? = some x := ⟨a.wr[k']'(by rw [← HM.out]; exact hlt), List.getElem?_eq_getElem _⟩
          obtain ⟨y, hy⟩ : ∃ x, b.wr[k']? = some x := ⟨b.wr[k']'(by rw [← HM'.out]; exact hlt), List.getElem?_eq_getElem _⟩
          obtain ⟨b1, q1, rfl, hbl1, c1, c2⟩ := repWr_at (hr'.below hbw') k' hx
          obtain ⟨b2, q2, rfl, hbl2, c3, c4⟩ := repWr_at (ks'.below hbw') k' hy
          have hR := HF.out
          rw [drop_eq _ _ _ hx, drop_eq _ _ _ hy, sameWs] at hR
          clear hx hy HF
          obtain ⟨xn, xs⟩ := x
          obtain ⟨yn, ys⟩ := y
          simp only at c1 c2 c3 c4
          rw [show sameW ⟨xn, xs⟩ ⟨yn, ys⟩ = ((xn == yn) && (xs.toList == ys.toList)) from rfl] at hR
          rcases hp : ((xn == yn) && (xs.toList == ys.toList)) with _ | _
          · rw [hp, Bool.false_and] at hR
            have HT := Lib.hid (show sameD a b = false by unfold sameD; rw [← hR, Bool.and_false])
            have HP := Lib.hid hp
            clear hR
            rcases hp1 : (xn == yn) with _ | _
            · clear hp
              go_wp2_with fail
              go_quiet (fail)
              go_wp2_with fail
              go_ret
              exact ⟨by rw [HT.out]; rfl, below_drewN hbw' _⟩
            · rw [hp1, Bool.true_and] at hp
              go_wp2_with fail
              go_quiet (fail)
              go_wp2_with fail
              go_ret
              exact ⟨by rw [HT.out]; rfl, below_drewN hbw' _⟩
          · rw [hp, Bool.true_and] at hR
            have HR := Lib.hid hR
            obtain ⟨hp1, hp2⟩ := Bool.and_eq_true_iff.1 hp
            obtain rfl : xn = yn := by simpa using hp1
            obtain rfl : xs = ys := sameS_eq.1 hp2
            clear hR hp hp1 hp2
            go_wp2_with fail
            go_quiet (fail)
            go_wp2_with fail
            go_roundg (m - (k' + 1))
            case rel => exact ⟨k' + 1, by omega, by go_num, rfl, HR.out, below_drewN hb' _⟩
            case measure => omega
        · have hR := HF.out
          rw [List.drop_eq_nil_of_le (by rw [← HM.out]; omega), List.drop_eq_nil_of_le (by rw [← HM'.out]; omega)] at hR
          have HT := Lib.hid (show sameD a b = true by unfold sameD; rw [← hR, ← HK.out]; rfl)
          clear hR HF
          go_wp2_with fail
          go_ret
          exact ⟨by rw [HT.out]; rfl, hbw'⟩
end Go.Proofs.Ytoghgjobfcnneaa
