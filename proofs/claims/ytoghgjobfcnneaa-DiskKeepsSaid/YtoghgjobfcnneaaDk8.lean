/- disk.Blank, New. -/
import Derived.Test.YtoghgjobfcnneaaDk7
import Derived.Test.YtoghgjobfcnneaaDk3
namespace Go.Proofs.Ytoghgjobfcnneaa
open Go.RowKit
theorem blank_eq : (Lib.repeatL (⟨#[0]⟩ : ByteArray).data.toList 64) = List.replicate 64 0 := by decide +kernel
theorem blank_any (w : World) : Calls Try.prog 27 #[] w fun e w' => e = .returned (.string blank) ∧ Below w.heap.size w w' := by
  have HR := Lib.hid (show ∀ W, Calls Try.prog 46 #[.string ⟨#[0]⟩, .int .i64 64] W fun e w' => e = .returned (.string blank) ∧ Below W.heap.size W w' from fun W => by
    have h := Try.strings_Repeat ⟨#[0]⟩ 64 W (by decide) (by decide)
    rw [blank_eq] at h
    exact h)
  go_enter Try.func27, Try.ntmps27
  go_wp2_with fail
  refine (HR.out _).mono ?_
  rintro e w1 ⟨rfl, hb1⟩
  go_wp2_with fail
  go_ret
  exact ⟨rfl, hb1⟩
/-- a fresh disk -/
def NewPost (i : Int) (w : World) (e : Ending) (w' : World) : Prop :=
  ∃ v, e = .returned (.tuple #[v, .int .i64 (newD i).2]) ∧ DkAt w' w.heap.size v (newD i).1 ∧ Below w.heap.size w w' ∧
    ((newD i).2 = 0 → ∃ g cap, v = .agg #[.slice (some ⟨g, 0, none⟩) i.toNat cap, .slice none 0 0] ∧ w'.ownsRow (w.heap.size + 1) 9 1 (.slice (some ⟨g, 0, none⟩) i.toNat cap) i.toNat ((newD i).1.kept.map .string))
set_option maxHeartbeats 2000000 in
theorem new_any (i : Int) (w : World) :
    Calls Try.prog 7 #[.int .i64 i] w (NewPost i w) := by
  have hres := Blk.fresh w 25 #[.slice none 0 0, .slice none 0 0]
  by_cases hi : i < 1 ∨ 400 < i
  · have HT := Lib.hid (show newD i = (Dk.none, 3) by unfold newD; rw [if_pos hi])
    have HBB := Lib.hid (((below_two (w := w) (.cells #[.slice none 0 0, .slice none 0 0] 25)).setCell (p := ⟨w.heap.size, 0, none⟩) (Nat.le_refl _) (.slice none 0 0)).setCell (p := ⟨w.heap.size, 1, none⟩) (Nat.le_refl _) (.slice none 0 0))
    rcases hi with h1 | h1
    all_goals
      try have h2 : ¬ i < 1 := by omega
      go_enter Try.func7, Try.ntmps7
      go_wp2_with fail
      refine bodyPost_ret (v := .tuple #[.agg #[.slice none 0 0, .slice none 0 0], .int .i64 3]) (by simp [results, Try.results7, go_sem]) rfl ?_
      unfold NewPost
      rw [HT.out]
      exact ⟨_, rfl, DkAt.none _ _, below_two _, fun h => by cases h⟩
  · obtain ⟨N, rfl⟩ := Int.eq_ofNat_of_zero_le (show 0 ≤ i by omega)
    have h1 : 1 ≤ N := by omega
    have h2 : N ≤ 400 := by omega
    have HT := Lib.hid (show newD (N : Int) = (⟨List.replicate N blank, []⟩, 0) by unfold newD; rw [if_neg hi]; rfl)
    have h1i : ¬ (N : Int) < 1 := by omega
    have h2i : ¬ 400 < (N : Int) := by omega
    clear hi
    go_enter Try.func7, Try.ntmps7
    go_wp2_with fail
    refine (blank_any _).mono ?_
    rintro e w1 ⟨rfl, hb1⟩
    have z1 := hb1.size
    simp only [World.size_alloc] at z1
    go_wp2_with fail
    refine (repeatS_any blank w1.heap.size N _ (Blk.fresh w1 _ _) h1 h2).mono ?_
    rintro e w2 ⟨v, rfl, hown, hb2⟩
    have z2 := hb2.size
    simp only [World.size_alloc] at z2
    have hbw := (below_two (w := w) (.cells #[.slice none 0 0, .slice none 0 0] 25)).trans (((hb1.trans ((below_two (.cells #[.string blank] 9)).mono (by simp; omega))).trans (hb2.mono (by simp; omega))).mono (by simp))
    have hB := (hres.below hb1 (by simp)).alloc (.cells #[.string blank] 9)
    have hB2 := hB.below hb2 (by simp; omega)
    obtain ⟨r0, r1, s0, s1, hrl⟩ := hB2.two
    have hown := own_low (base' := w.heap.size + 1) hown (by simp; omega)
    obtain ⟨g, cap, rfl, hg1, hg2⟩ := hown.form (by omega)
    have e1 := own_set (p := ⟨w.heap.size, 1, none⟩) (own_set (p := ⟨w.heap.size, 0, none⟩) hown (by simp [Value.ownBlock]; omega) (.slice (some ⟨g, 0, none⟩) N cap)) (by simp [Value.ownBlock]; omega) (.slice none 0 0)
    have E1 := Lib.hid e1
    have HBB := Lib.hid ((hbw.setCell (p := ⟨w.heap.size, 0, none⟩) (Nat.le_refl _) (.slice (some ⟨g, 0, none⟩) N cap)).setCell (p := ⟨w.heap.size, 1, none⟩) (Nat.le_refl _) (.slice none 0 0))
    clear e1 hB hB2 hown hres hbw
    go_wp2_with fail
    refine bodyPost_ret (v := .tuple #[.agg #[.slice (some ⟨g, 0, none⟩) N cap, .slice none 0 0], .int .i64 0]) (by simp [results, Try.results7, go_sem, r0, r1]) rfl ?_
    unfold NewPost
    rw [HT.out]
    have ee := E1.out
    rw [← List.map_replicate] at ee
    obtain ⟨A1, c1, q1, r1, _, _⟩ := RepAll.row (ρ := repStr) (str_all _ w.heap.size 0 _) (show World.ownsRow _ (w.heap.size + 1) 9 repStr.size _ (List.replicate N blank).length _ from by rw [List.length_replicate]; exact ee) (by omega) (Nat.zero_le _) (by decide)
    rw [List.length_replicate] at q1
    obtain ⟨qa, _, qc⟩ := Value.slice.inj q1
    subst qa
    subst qc
    refine ⟨_, rfl, ?_, HBB.out, fun _ => ⟨g, cap, rfl, ee⟩⟩
    exact ⟨_, cap, none, 0, by rw [List.length_replicate]; rfl, r1, Rep.row.nil⟩
end Go.Proofs.Ytoghgjobfcnneaa
