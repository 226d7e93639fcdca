/- The references' between and IsQuotable. -/
import Derived.WalkKit
import Derived.Lib.Hide
import Derived.Test.YtnjjpblgcgikaaaDoorRows
import Derived.Test.YtnjjpblgcgikaaaDoorPlain
import Derived.Test.YtnjjpblgcgikaaaDoorBtw
namespace Go.Proofs.YtnjjpblgcgikaaaDoor
open Go.RowKit
theorem isquot_any (c : UInt8) (w : World) :
    Calls Tryd.prog 42 #[.int .u8 c.toNat] w fun e w' => e = .returned (.bool (quotB c)) ∧ w = w' := by
  by_cases h1 : 32 ≤ (c.toNat : Int) <;> by_cases h2 : (c.toNat : Int) ≤ 126 <;> by_cases h3 : (c.toNat : Int) = 39
  all_goals
    try (exfalso; omega)
  all_goals
    have hu : (c.toNat : Int) ≤ 255 := by have := c.toNat_lt; omega
    have H3 := Lib.hid h3
    try have h4 : ((c.toNat : Int) != 39) = true := by simpa using h3
    try have h4 : ((c.toNat : Int) != 39) = false := by simpa using h3
    clear h3
    go_enter Tryd.func42, Tryd.ntmps42
    go_wp2_with (go_at_call 31; refine (between_any _ _ _ _).mono ?_; rintro e w' ⟨rfl, rfl⟩)
    go_ret
    exact ⟨by simp [quotB, h1, h2, H3.out], rfl⟩
end Go.Proofs.YtnjjpblgcgikaaaDoor
