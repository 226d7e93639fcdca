/- slices.Clone at some element types. -/
import Derived.Test.YtoghgjobfcnneaaOps2
import Derived.Test.YtoghgjobfcnneaaDkPlain
import Derived.WalkSpells
import Derived.WalkLawsBesides
import Derived.Handy
namespace Go.Proofs.Ytoghgjobfcnneaa
open Go.RowKit
theorem elStr : ElT Try.prog 22 9 (.string ⟨#[]⟩) 1 16 := elT_mk Try.underlying22 (by kernel_rfl) rfl (by decide)
theorem elWr : ElT Try.prog 23 61 (.agg #[.int .i64 0, .string ⟨#[]⟩]) 2 24 := elT_mk Try.underlying23 (by kernel_rfl) rfl (by decide)
def ClonePost {α : Type} (ρ : Rep α) (E : TypeId) (L : Nat) (l : List α) (w : World) (e : Ending) (w' : World) : Prop :=
  ∃ v cs, e = .returned v ∧ RepAll ρ w' L w.heap.size l cs ∧ w'.ownsRow w.heap.size E ρ.size v l.length cs ∧ Below w.heap.size w w'
set_option maxHeartbeats 1000000 in
theorem cloneS_any {l : List _} (A : Option Addr) (n c : Nat) (w : World) {L : Nat} (hr : repStr.row w L w.heap.size A n l) (hn : n * 16 ≤ 140737488355328) :
    Calls Try.prog 47 #[.slice A n c] w (ClonePost repStr 9 L l w) := by
  have hl := hr.1
  have HL := Lib.hid hl
  subst hl
  cases A with
  | none =>
    have h0 : l.length = 0 := by
      rcases hr.2 with h | ⟨b, o, e, _⟩
      · exact h
      · cases e
    have hnil : l = [] := List.eq_nil_of_length_eq_zero h0
    subst hnil
    have hrun := fun (W : World) (c n c' : Nat) => Lib.run_eql_slice_nil W 22 9 none n c 0 c' Try.underlying22
    clear HL h0 hr hn
    go_enter Try.func47, Try.ntmps47
    go_wp2_with fail
    go_ret
    exact ⟨_, [], rfl, .nil, World.ownsRow_nil _ _ _ _, Below.refl _ _⟩
  | some ad =>
    obtain ⟨cs, hall, hcs⟩ := hr.cells_
    have HCL := Lib.hid hall.len
    have H1 := Lib.hid hall.one
    have hrun := fun (W : World) (n c n' c' : Nat) => Lib.run_eql_slice_nil W 22 9 (some ad) n c n' c' Try.underlying22
    have HC := Lib.hid (hcs ad rfl)
    have hlm : l.length ≤ maxLen := by unfold maxLen; omega
    have HA := Lib.hid hall
    clear hcs hall HL hr
    go_enter Try.func47, Try.ntmps47
    go_wp2_with (at_builtin; refine wpList_appR rfl (.tmp 5) (.tmp 6) elStr rfl (own_fresh0 w 9 1) rfl rfl (news_alloc HC.out _) HCL.out H1.out (by omega) (by omega) (by simp) ?_; intro v' w' hown hL hat)
    go_ret
    exact ⟨v', cs, rfl, (HA.out.keep fun _ _ hp => (below_two _).cell hp).left hL (Nat.le_refl _), (by have h := hown; simp only [Nat.zero_add, List.nil_append] at h; exact h), (below_two _).trans (hL.below.mono (by simp))⟩
set_option maxHeartbeats 1000000 in
theorem cloneW_any {l : List _} (A : Option Addr) (n c : Nat) (w : World) {L : Nat} (hr : repWr.row w L w.heap.size A n l) (hn : n * 24 ≤ 140737488355328) :
    Calls Try.prog 48 #[.slice A n c] w (ClonePost repWr 61 L l w) := by
  have hl := hr.1
  have HL := Lib.hid hl
  subst hl
  cases A with
  | none =>
    have h0 : l.length = 0 := by
      rcases hr.2 with h | ⟨b, o, e, _⟩
      · exact h
      · cases e
    have hnil : l = [] := List.eq_nil_of_length_eq_zero h0
    subst hnil
    have hrun := fun (W : World) (c n c' : Nat) => Lib.run_eql_slice_nil W 23 61 none n c 0 c' Try.underlying23
    clear HL h0 hr hn
    go_enter Try.func48, Try.ntmps48
    go_wp2_with fail
    go_ret
    exact ⟨_, [], rfl, .nil, World.ownsRow_nil _ _ _ _, Below.refl _ _⟩
  | some ad =>
    obtain ⟨cs, hall, hcs⟩ := hr.cells_
    have HCL := Lib.hid hall.len
    have H1 := Lib.hid hall.one
    have hrun := fun (W : World) (n c n' c' : Nat) => Lib.run_eql_slice_nil W 23 61 (some ad) n c n' c' Try.underlying23
    have HC := Lib.hid (hcs ad rfl)
    have hlm : l.length ≤ maxLen := by unfold maxLen; omega
    have HA := Lib.hid hall
    clear hcs hall HL hr
    go_enter Try.func48, Try.ntmps48
    go_wp2_with (at_builtin; refine wpList_appR rfl (.tmp 5) (.tmp 6) elWr rfl (own_fresh0 w 61 2) rfl rfl (news_alloc HC.out _) HCL.out H1.out (by omega) (by omega) (by simp) ?_; intro v' w' hown hL hat)
    go_ret
    exact ⟨v', cs, rfl, (HA.out.keep fun _ _ hp => (below_two _).cell hp).left hL (Nat.le_refl _), (by have h := hown; simp only [Nat.zero_add, List.nil_append] at h; exact h), (below_two _).trans (hL.below.mono (by simp))⟩
end Go.Proofs.Ytoghgjobfcnneaa
