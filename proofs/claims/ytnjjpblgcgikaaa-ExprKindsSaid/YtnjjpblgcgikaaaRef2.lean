/- The references' comparisons of values. -/
import Derived.Test.YtnjjpblgcgikaaaLeaf
import Derived.Test.YtnjjpblgcgikaaaMem
import Derived.StillTailTactics
namespace Go.Proofs.Ytnjjpblgcgikaaa
open Go.RowKit
set_option maxHeartbeats 1000000 in
theorem rsame_any (a b : Vl) (w : World) :
    Calls Try.prog 13 #[a.val, b.val] w fun e w' => e = .returned (.bool (a.same b)) ∧ Below w.heap.size w w' := by
  obtain ⟨k, n, s⟩ := a
  obtain ⟨k', n', s'⟩ := b
  dsimp only [Vl.val, Vl.same]
  by_cases h1 : k = k'
  · subst h1
    by_cases h2 : n = n'
    · subst h2
      go_enter Try.func13, Try.ntmps13
      go_wp2
      go_ret
      exact ⟨by simp, ((Below.refl _ _).alloc (Nat.le_refl _) _).alloc (by simp) _⟩
    · have h2' : (n == n') = false := by simp [h2]
      clear h2
      go_enter Try.func13, Try.ntmps13
      go_wp2
      go_ret
      exact ⟨by simp [h2'], ((Below.refl _ _).alloc (Nat.le_refl _) _).alloc (by simp) _⟩
  · have h1' : (k == k') = false := by simp [h1]
    clear h1
    go_enter Try.func13, Try.ntmps13
    go_wp2
    go_ret
    exact ⟨by simp [h1'], ((Below.refl _ _).alloc (Nat.le_refl _) _).alloc (by simp) _⟩

end Go.Proofs.Ytnjjpblgcgikaaa
