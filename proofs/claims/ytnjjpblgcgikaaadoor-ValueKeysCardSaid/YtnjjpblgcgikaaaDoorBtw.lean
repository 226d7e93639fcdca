/- The references' between. -/
import Derived.WalkKit
import Derived.Lib.Hide
import Derived.Test.YtnjjpblgcgikaaaDoorRows
import Derived.Test.YtnjjpblgcgikaaaDoorPlain
namespace Go.Proofs.YtnjjpblgcgikaaaDoor
open Go.RowKit
theorem between_any (n a b : Int) (w : World) :
    Calls Tryd.prog 31 #[.int .i64 n, .int .i64 a, .int .i64 b] w fun e w' => e = .returned (.bool (decide (a ≤ n) && decide (n ≤ b))) ∧ w = w' := by
  by_cases h1 : a ≤ n <;> by_cases h2 : n ≤ b
  all_goals
    go_enter Tryd.func31, Tryd.ntmps31
    go_wp2
    go_ret
    exact ⟨by simp [h1, h2], rfl⟩
end Go.Proofs.YtnjjpblgcgikaaaDoor
