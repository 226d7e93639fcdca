/- The references' between and IsQuotable. -/
import Derived.WalkKit
import Derived.Lib.Hide
import Derived.Test.YtphaijjofmkjcaaRows
import Derived.Test.YtphaijjofmkjcaaPlain
namespace Go.Proofs.Ytphaijjofmkjcaa
open Go.RowKit
theorem between_any (n a b : Int) (w : World) :
    Calls Try.prog 37 #[.int .i64 n, .int .i64 a, .int .i64 b] w fun e w' => e = .returned (.bool (decide (a ≤ n) && decide (n ≤ b))) ∧ w = w' := by
  by_cases h1 : a ≤ n <;> by_cases h2 : n ≤ b
  all_goals
    go_enter Try.func37, Try.ntmps37
    go_wp2
    go_ret
    exact ⟨by simp [h1, h2], rfl⟩
theorem isquot_any (c : UInt8) (w : World) :
    Calls Try.prog 30 #[.int .u8 c.toNat] w fun e w' => e = .returned (.bool (quotB c)) ∧ w = w' := by
  by_cases h1 : 32 ≤ (c.toNat : Int) <;> by_cases h2 : (c.toNat : Int) ≤ 126 <;> by_cases h3 : (c.toNat : Int) = 39
  all_goals
    try (exfalso; omega)
  all_goals
    have hu : (c.toNat : Int) ≤ 255 := by have := c.toNat_lt; omega
    have H3 := Lib.hid h3
    try have h4 : ((c.toNat : Int) != 39) = true := by simpa using h3
    try have h4 : ((c.toNat : Int) != 39) = false := by simpa using h3
    clear h3
    go_enter Try.func30, Try.ntmps30
    go_wp2_with (go_at_call 37; refine (between_any _ _ _ _).mono ?_; rintro e w' ⟨rfl, rfl⟩)
    go_ret
    exact ⟨by simp [quotB, h1, h2, H3.out], rfl⟩

end Go.Proofs.Ytphaijjofmkjcaa
