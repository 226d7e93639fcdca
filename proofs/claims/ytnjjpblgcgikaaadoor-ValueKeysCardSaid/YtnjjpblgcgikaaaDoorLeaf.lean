/- Contracts of small functions of numbers, bytes and values. -/
import Derived.Test.YtnjjpblgcgikaaaDoorRows
import Derived.Test.YtnjjpblgcgikaaaDoorMem
import Derived.Lib.Hide
namespace Go.Proofs.YtnjjpblgcgikaaaDoor
open Go.RowKit
theorem within_any (n a b : Int) (w : World) :
    Calls Tryd.prog 49 #[.int .i64 n, .int .i64 a, .int .i64 b] w fun e w' => e = .returned (.bool (decide (a ≤ n) && decide (n ≤ b))) ∧ w = w' := by
  by_cases h1 : a ≤ n <;> by_cases h2 : n ≤ b
  all_goals
    go_enter Tryd.func49, Tryd.ntmps49
    go_wp2
    go_ret
    exact ⟨by simp [h1, h2], rfl⟩
theorem vint_any (n : Int) (w : World) :
    Calls Tryd.prog 47 #[.int .i64 n] w fun e w' => e = .returned (.bool (isInt n)) ∧ w = w' := by
  go_enter Tryd.func47, Tryd.ntmps47
  go_wp2_with (go_at_call 49; refine (within_any _ _ _ _).mono ?_; rintro e w' ⟨rfl, rfl⟩)
  go_ret
  exact ⟨rfl, rfl⟩
theorem tquot_any (c : UInt8) (w : World) :
    Calls Tryd.prog 62 #[.int .u8 c.toNat] w fun e w' => e = .returned (.bool (quotB c)) ∧ w = w' := by
  by_cases h1 : 32 ≤ (c.toNat : Int) <;> by_cases h2 : (c.toNat : Int) ≤ 126 <;> by_cases h3 : (c.toNat : Int) = 39
  all_goals
    try (exfalso; omega)
  all_goals
    have H3 := Lib.hid h3
    try have h4 : ((c.toNat : Int) != 39) = true := by simpa using h3
    try have h4 : ((c.toNat : Int) != 39) = false := by simpa using h3
    clear h3
    go_enter Tryd.func62, Tryd.ntmps62
    go_wp2
    go_ret
    exact ⟨by simp [quotB, h1, h2, H3.out], rfl⟩
theorem all_take_snoc (s : ByteArray) (k : Nat) (h : k < s.size) (hq : ((s.data.toList.take k).all quotB) = true) : ((s.data.toList.take (k + 1)).all quotB) = quotB s[k] := by
  have e : s.data.toList.take (k + 1) = s.data.toList.take k ++ [s[k]] := by
    rw [List.take_succ_eq_append_getElem (by simpa using h)]; rfl
  rw [e, List.all_append, hq]; simp
theorem all_false (s : ByteArray) (k : Nat) (h : k < s.size) (hq : quotB s[k] = false) : s.data.toList.all quotB = false := by
  rw [List.all_eq_false]
  exact ⟨s[k], by simp [ByteArray.getElem_eq_getElem_data, Array.getElem_mem], by simp [hq]⟩
theorem vquot_any (s : ByteArray) (w : World) (hs : s.size ≤ maxLen) :
    Calls Tryd.prog 48 #[.string s] w fun e w' => e = .returned (.bool (quotS s)) ∧ w = w' := by
  unfold maxLen at hs
  go_enter Tryd.func48, Tryd.ntmps48
  go_wp2
  go_loop [6] (fun i => ∃ k : Nat, k ≤ s.size ∧ ((s.data.toList.take k).all quotB) = true ∧ i = .int .i64 k) (fun i => s.size - (intOf i).toNat)
  case atStart => exact ⟨0, Nat.zero_le _, rfl, rfl⟩
  case round =>
    obtain ⟨k, hk, hq, rfl⟩ := hrel
    have HQ := Lib.hid hq
    clear hq
    by_cases hlt : k < s.size
    · by_cases hb : quotB s[k] = true
      · go_wp2_with (go_at_call 62; refine (tquot_any _ _).mono ?_; rintro e w' ⟨rfl, rfl⟩)
        go_round
        case rel => exact ⟨k + 1, by omega, by rw [all_take_snoc s k hlt HQ.out]; exact hb, by go_num⟩
        case measure => simp [intOf]; omega
      · have hb' : quotB s[k] = false := by simpa using hb
        clear hb
        go_wp2_with (go_at_call 62; refine (tquot_any _ _).mono ?_; rintro e w' ⟨rfl, rfl⟩)
        go_ret
        exact ⟨by simp [quotS, all_false s k hlt hb'], rfl⟩
    · go_wp2
      go_ret
      have e : s.data.toList.all quotB = true := by
        have := HQ.out; rwa [List.take_of_length_le (by simp; omega)] at this
      exact ⟨by simp only [quotS, e, Bool.true_and]; simp; omega, rfl⟩
set_option maxHeartbeats 1000000 in
theorem vcheck_any (v : Vl) (w : World) (hs : v.s.size ≤ maxLen) :
    Calls Tryd.prog 26 #[v.val] w fun e w' => e = .returned (.int .i64 v.chk) ∧ Below w.heap.size w w' := by
  obtain ⟨k, n, s⟩ := v
  dsimp only [Vl.val] at hs ⊢
  by_cases hk : k = 0 ∨ k = 1 ∨ k = 2 ∨ k = 3
  · rcases hk with rfl | rfl | rfl | rfl
    all_goals
      go_enter Tryd.func26, Tryd.ntmps26
      go_wp2_with (first | (go_at_call 49; refine (within_any _ _ _ _).mono ?_; rintro e w' ⟨rfl, rfl⟩) | (go_at_call 47; refine (vint_any _ _).mono ?_; rintro e w' ⟨rfl, rfl⟩) | (go_at_call 48; refine (vquot_any _ _ hs).mono ?_; rintro e w' ⟨rfl, rfl⟩))
    all_goals
      go_ret
      refine ⟨?_, below_two _⟩
      simp_all [Vl.chk, Vl.fine, emptyS]
      try omega
  · have h0 : ¬ k = 0 := by omega
    have h1 : ¬ k = 1 := by omega
    have h2 : ¬ k = 2 := by omega
    have h3 : ¬ k = 3 := by omega
    clear hk
    go_enter Tryd.func26, Tryd.ntmps26
    go_wp2
    go_ret
    exact ⟨by simp [Vl.chk]; omega, below_two _⟩
end Go.Proofs.YtnjjpblgcgikaaaDoor
