/- The references' between. -/
import Derived.WalkKit
import Derived.Lib.Hide
import Derived.Test.YtnjjpblgcgikaaaRows
import Derived.Test.YtnjjpblgcgikaaaPlain
namespace Go.Proofs.Ytnjjpblgcgikaaa
open Go.RowKit
theorem between_any (n a b : Int) (w : World) :
    Calls Try.prog 45 #[.int .i64 n, .int .i64 a, .int .i64 b] w fun e w' => e = .returned (.bool (decide (a ≤ n) && decide (n ≤ b))) ∧ w = w' := by
  by_cases h1 : a ≤ n <;> by_cases h2 : n ≤ b
  all_goals
    go_enter Try.func45, Try.ntmps45
    go_wp2
    go_ret
    exact ⟨by simp [h1, h2], rfl⟩
end Go.Proofs.Ytnjjpblgcgikaaa
