/- Contracts of small functions of tokens: letters, digits, blanks; runs of signs. -/
import Derived.Test.YtphaijjofmkjcaaRows
import Derived.Test.YtphaijjofmkjcaaOps
import Derived.Test.YtphaijjofmkjcaaTokPlain
import Derived.BigQuiet
import Derived.Deep.QuietTactic
namespace Go.Proofs.Ytphaijjofmkjcaa
open Go.RowKit
theorem letter_any (c : UInt8) (w : World) :
    Calls Try.prog 22 #[.int .u8 c.toNat] w fun e w' => e = .returned (.bool (letterB c)) ∧ w = w' := by
  by_cases h1 : 97 ≤ (c.toNat : Int) <;> by_cases h2 : (c.toNat : Int) ≤ 122
  all_goals
    try (exfalso; omega)
  all_goals
    go_enter Try.func22, Try.ntmps22
    go_wp2
    go_ret
    exact ⟨by simp [letterB, h1, h2], rfl⟩
theorem digit_any (c : UInt8) (w : World) :
    Calls Try.prog 24 #[.int .u8 c.toNat] w fun e w' => e = .returned (.bool (digitB c)) ∧ w = w' := by
  by_cases h1 : 48 ≤ (c.toNat : Int) <;> by_cases h2 : (c.toNat : Int) ≤ 57
  all_goals
    try (exfalso; omega)
  all_goals
    go_enter Try.func24, Try.ntmps24
    go_wp2
    go_ret
    exact ⟨by simp [digitB, h1, h2], rfl⟩
theorem tquot_any (c : UInt8) (w : World) :
    Calls Try.prog 34 #[.int .u8 c.toNat] w fun e w' => e = .returned (.bool (quotB c)) ∧ w = w' := by
  by_cases h1 : 32 ≤ (c.toNat : Int) <;> by_cases h2 : (c.toNat : Int) ≤ 126 <;> by_cases h3 : (c.toNat : Int) = 39
  all_goals
    try (exfalso; omega)
  all_goals
    have H3 := Lib.hid h3
    try have h4 : ((c.toNat : Int) != 39) = true := by simpa using h3
    try have h4 : ((c.toNat : Int) != 39) = false := by simpa using h3
    clear h3
    go_enter Try.func34, Try.ntmps34
    go_wp2
    go_ret
    exact ⟨by simp [quotB, h1, h2, H3.out], rfl⟩
theorem blank_any (c : UInt8) (w : World) :
    Calls Try.prog 21 #[.int .u8 c.toNat] w fun e w' => e = .returned (.bool (blankB c)) ∧ w = w' := by
  have hb : blankB c = (((c.toNat : Int) == 32) || ((c.toNat : Int) == 9) || ((c.toNat : Int) == 10)) := rfl
  have HB := Lib.hid hb
  clear hb
  rcases h1 : ((c.toNat : Int) == 32) with _ | _ <;> rcases h2 : ((c.toNat : Int) == 9) with _ | _ <;> rcases h3 : ((c.toNat : Int) == 10) with _ | _
  all_goals
    rw [h1, h2, h3] at HB
    go_enter Try.func21, Try.ntmps21
    go_wp2
    go_ret
    exact ⟨by rw [HB.out]; rfl, rfl⟩
theorem word_any (c : UInt8) (w : World) :
    Calls Try.prog 23 #[.int .u8 c.toNat] w fun e w' => e = .returned (.bool (wordB c)) ∧ w = w' := by
  have HB : Hid (wordB c = (letterB c || digitB c)) := Lib.hid rfl
  have H1 := Lib.hid (letter_any c)
  have H2 := Lib.hid (digit_any c)
  generalize letterB c = a at *
  generalize digitB c = b at *
  cases a
  · go_enter Try.func23, Try.ntmps23
    go_wp2_with fail
    refine (H1.out w).mono ?_
    rintro e w1 ⟨rfl, rfl⟩
    go_wp2_with fail
    refine (H2.out w).mono ?_
    rintro e w1 ⟨rfl, rfl⟩
    go_wp2_with fail
    go_ret
    exact ⟨by rw [HB.out]; simp, rfl⟩
  · go_enter Try.func23, Try.ntmps23
    go_wp2_with fail
    refine (H1.out w).mono ?_
    rintro e w1 ⟨rfl, rfl⟩
    go_wp2_with fail
    go_ret
    exact ⟨by rw [HB.out]; simp, rfl⟩
end Go.Proofs.Ytphaijjofmkjcaa
