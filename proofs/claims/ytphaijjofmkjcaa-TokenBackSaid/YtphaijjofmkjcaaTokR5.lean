/- The reference's word on one token. -/
import Derived.Test.YtphaijjofmkjcaaTokR3
import Derived.Test.YtphaijjofmkjcaaTokPlain4
namespace Go.Proofs.Ytphaijjofmkjcaa
open Go.RowKit
theorem tokB_at (k : Int) (s : ByteArray) (h : 0 < s.size) : tokB k s = (decide (s.size ≤ 2000) && !(k == 0) && (((tokA s[0] (s.data.toList.drop 1)).1 : Int) == k) && decide ((tokA s[0] (s.data.toList.drop 1)).2 = s.size) && decide ((tokL s[0] (s.data.toList.drop 1)).2.2 = 0)) := by
  have hx := drop_at s 0 h
  rw [List.drop_zero] at hx
  unfold tokB
  rw [hx]
  rfl
set_option maxHeartbeats 2000000 in
theorem istok_any (k : Int) (s : ByteArray) (w : World) (hs : s.size ≤ maxLen) :
    Calls Try.prog 19 #[.int .i64 k, .string s] w fun e w' => e = .returned (.bool (tokB k s)) ∧ w = w' := by
  unfold maxLen at hs
  by_cases h0 : s.size = 0
  · have hl : s.data.toList = [] := List.eq_nil_of_length_eq_zero (by rw [size_list]; exact h0)
    have HT : Hid (tokB k s = false) := Lib.hid (by unfold tokB; rw [hl])
    have e1 : s.toList.isEmpty = true := by rw [ByteArray.toList_eq, hl]; rfl
    have e2 : s.toList = [] := by rw [ByteArray.toList_eq, hl]
    clear hl
    go_enter Try.func19, Try.ntmps19
    go_wp2_with fail
    go_ret
    exact ⟨by rw [HT.out]; rfl, rfl⟩
  have hpos : 0 < s.size := by omega
  have hB := tokB_at k s hpos
  have e1 : s.toList.isEmpty = false := by
    rw [ByteArray.toList_eq]
    rcases h : s.data.toList with _ | _
    · have := size_list s; rw [h] at this; simp at this; omega
    · rfl
  clear h0
  by_cases h2 : 2000 < s.size
  · have HT := Lib.hid (show tokB k s = false by rw [hB, decide_eq_false (by omega)]; simp)
    clear hB
    go_enter Try.func19, Try.ntmps19
    go_wp2_with fail
    go_ret
    exact ⟨by rw [HT.out]; rfl, rfl⟩
  rcases hk : (k == 0) with _ | _
  · have hA := at_any s 0 w hpos (by omega)
    have hW := wrongat_any s 0 w hpos (by omega)
    rw [decide_eq_true (by omega : s.size ≤ 2000), hk] at hB
    simp only [Bool.true_and, Bool.not_false, Nat.zero_add] at hB hA hW
    have h9 : tokL s[0] (s.data.toList.drop 1) = tokL s[0] (s.data.toList.drop 1) := rfl
    have hnl := tokA_len s[0] (s.data.toList.drop 1)
    rw [List.length_drop, size_list] at hnl
    generalize tokA s[0] (s.data.toList.drop 1) = t at *
    generalize tokL s[0] (s.data.toList.drop 1) = u at *
    obtain ⟨tk, tn⟩ := t
    obtain ⟨uk, un, ue⟩ := u
    simp only at hB hA hW hnl
    rcases h1 : ((tk : Int) == k) with _ | _
    · rw [h1, Bool.false_and, Bool.false_and] at hB
      have HT := Lib.hid hB
      have HA := Lib.hid hA
      clear hB hA hW
      go_enter Try.func19, Try.ntmps19
      go_wp2_with fail
      refine HA.out.mono ?_
      rintro e w1 ⟨rfl, rfl⟩
      go_wp2_with fail
      go_ret
      exact ⟨by rw [HT.out]; rfl, rfl⟩
    rw [h1, Bool.true_and] at hB
    obtain rfl : (tk : Int) = k := by simpa using h1
    by_cases hn : tn = s.size
    · rw [decide_eq_true hn, Bool.true_and] at hB
      have hn' : ((tn : Int) == (s.size : Int)) = true := by rw [hn]; simp
      have hex : s.extract 0 tn = s := by rw [hn]; rw [ByteArray.extract_zero_size]
      rw [hex] at hW
      rw [show decide (ue = 0) = ((ue : Int) == 0) by rw [Bool.eq_iff_iff, beq_iff_eq, decide_eq_true_eq]; omega] at hB
      have HT := Lib.hid hB
      have HA := Lib.hid hA
      have HW := Lib.hid hW
      clear hB hA hW hn hex h1
      go_enter Try.func19, Try.ntmps19
      go_wp2_with fail
      refine HA.out.mono ?_
      rintro e w1 ⟨rfl, rfl⟩
      go_wp2_with fail
      refine HW.out.mono ?_
      rintro e w1 ⟨rfl, rfl⟩
      go_wp2_with fail
      go_ret
      exact ⟨by rw [HT.out]; rfl, rfl⟩
    · rw [decide_eq_false hn, Bool.false_and] at hB
      have hn' : ((tn : Int) == (s.size : Int)) = false := by rw [beq_eq_false_iff_ne]; omega
      have HT := Lib.hid hB
      have HA := Lib.hid hA
      clear hB hA hW hn h1
      go_enter Try.func19, Try.ntmps19
      go_wp2_with fail
      refine HA.out.mono ?_
      rintro e w1 ⟨rfl, rfl⟩
      go_wp2_with fail
      go_ret
      exact ⟨by rw [HT.out]; rfl, rfl⟩
  · obtain rfl : k = 0 := by simpa using hk
    have HT := Lib.hid (show tokB 0 s = false by rw [hB]; simp)
    clear hB
    go_enter Try.func19, Try.ntmps19
    go_wp2_with fail
    go_ret
    exact ⟨by rw [HT.out]; rfl, rfl⟩
end Go.Proofs.Ytphaijjofmkjcaa
