/- The references' checks of values. -/
import Derived.Test.YtnjjpblgcgikaaaDoorLeaf
import Derived.Test.YtnjjpblgcgikaaaDoorMem
import Derived.Test.YtnjjpblgcgikaaaDoorBet
namespace Go.Proofs.YtnjjpblgcgikaaaDoor
open Go.RowKit
theorem isint_any (n : Int) (w : World) :
    Calls Tryd.prog 41 #[.int .i64 n] w fun e w' => e = .returned (.bool (isInt n)) ∧ w = w' := by
  go_enter Tryd.func41, Tryd.ntmps41
  go_wp2_with (go_at_call 31; refine (between_any _ _ _ _).mono ?_; rintro e w' ⟨rfl, rfl⟩)
  go_ret
  exact ⟨rfl, rfl⟩
theorem all_take_step (s : ByteArray) (k : Nat) (h : k < s.size) : ((s.data.toList.take (k + 1)).all quotB) = (((s.data.toList.take k).all quotB) && quotB s[k]) := by
  have e : s.data.toList.take (k + 1) = s.data.toList.take k ++ [s[k]] := by
    rw [List.take_succ_eq_append_getElem (by simpa using h)]; rfl
  rw [e, List.all_append]; simp
theorem all_take_false (s : ByteArray) (k : Nat) (h : ((s.data.toList.take k).all quotB) = false) : s.data.toList.all quotB = false := by
  rw [← Bool.not_eq_true] at h ⊢
  intro h1
  apply h
  rw [List.all_eq_true] at h1 ⊢
  exact fun x hx => h1 x (List.mem_of_mem_take hx)
set_option maxHeartbeats 1000000 in
theorem rcheck_any (v : Vl) (w : World) (hs : v.s.size ≤ maxLen) :
    Calls Tryd.prog 21 #[v.val] w fun e w' => e = .returned (.int .i64 v.chk) ∧ Below w.heap.size w w' := by
  obtain ⟨k, n, s⟩ := v
  dsimp only [Vl.val] at hs ⊢
  by_cases hk : k = 0 ∨ k = 1 ∨ k = 3
  · rcases hk with rfl | rfl | rfl
    all_goals
      go_enter Tryd.func21, Tryd.ntmps21
      go_wp2_with (first | (go_at_call 31; refine (between_any _ _ _ _).mono ?_; rintro e w' ⟨rfl, rfl⟩) | (go_at_call 41; refine (isint_any _ _).mono ?_; rintro e w' ⟨rfl, rfl⟩))
    all_goals
      go_ret
      refine ⟨?_, below_two _⟩
      simp_all [Vl.chk, Vl.fine, emptyS]
      try omega
  · by_cases h2 : k = 2
    · subst h2
      clear hk
      by_cases hb : n = 0 ∧ s.size ≤ 20
      · obtain ⟨rfl, h20⟩ := hb
        have H20 := Lib.hid h20
        have hs1 := h20
        clear hs
        go_enter Tryd.func21, Tryd.ntmps21
        go_wp2_with (first | (go_at_call 31; refine (between_any _ _ _ _).mono ?_; rintro e w' ⟨rfl, rfl⟩) | (go_at_call 41; refine (isint_any _ _).mono ?_; rintro e w' ⟨rfl, rfl⟩))
        go_loop [3, 4] (fun b i => ∃ j : Nat, j ≤ s.size ∧ i = .int .i64 j ∧ b = .bool ((s.data.toList.take j).all quotB)) (fun _ i => s.size - (intOf i).toNat)
        case atStart => exact ⟨0, Nat.zero_le _, rfl, by simp; omega⟩
        case round =>
          obtain ⟨j, hj, rfl, rfl⟩ := hrel
          by_cases hlt : j < s.size
          · have HS := Lib.hid (all_take_step s j hlt)
            have HF := Lib.hid (all_take_false s j)
            by_cases hq : ((s.data.toList.take j).all quotB) = true
            · rw [hq]
              have HQ := Lib.hid hq
              clear hq
              go_wp2_with (go_at_call 42; refine (isquot_any _ _).mono ?_; rintro e w' ⟨rfl, rfl⟩)
              go_round
              case rel => exact ⟨j + 1, by omega, by go_num, by rw [HS.out, HQ.out]; rfl⟩
              case measure => simp [intOf]; omega
            · have hq' : ((s.data.toList.take j).all quotB) = false := by simpa using hq
              rw [hq']
              have HQ := Lib.hid (HF.out hq')
              clear hq hq' HF HS
              go_wp2
              go_ret
              refine ⟨?_, below_two _⟩
              simp [Vl.chk, Vl.fine, quotS, HQ.out]
          · have hq : ((s.data.toList.take j).all quotB) = s.data.toList.all quotB := by rw [List.take_of_length_le (by simp; omega)]
            rw [hq]
            clear hq
            go_wp2
            all_goals
              go_ret
              refine ⟨?_, below_two _⟩
              simp_all [Vl.chk, Vl.fine, quotS, H20.out]
      · have hf : (⟨2, n, s⟩ : Vl).chk = 3 := by
          simp only [Vl.chk, Vl.fine, quotS]
          have : ¬ (n = 0 ∧ s.size ≤ 20) := hb
          by_cases hn : n = 0
          · have : ¬ s.size ≤ 20 := fun h => this ⟨hn, h⟩
            simp [hn, this]
          · simp [hn]
        have HF := Lib.hid hf
        clear hf
        by_cases hn : n = 0
        · subst hn
          have h20 : ¬ (s.size : Int) ≤ 20 := fun h => hb ⟨rfl, by omega⟩
          clear hb
          go_enter Tryd.func21, Tryd.ntmps21
          go_wp2_with (first | (go_at_call 31; refine (between_any _ _ _ _).mono ?_; rintro e w' ⟨rfl, rfl⟩) | (go_at_call 41; refine (isint_any _ _).mono ?_; rintro e w' ⟨rfl, rfl⟩))
          go_loop [3, 4] (fun b i => b = .bool false ∧ i = .int .i64 0) (fun _ i => 0)
          case atStart => exact ⟨by simp; omega, rfl⟩
          case round =>
            obtain ⟨rfl, rfl⟩ := hrel
            go_wp2
            all_goals
              go_ret
              exact ⟨by rw [HF.out]; rfl, below_two _⟩
        · have hn1 : (n == 0) = false := by simp [hn]
          clear hb hn
          go_enter Tryd.func21, Tryd.ntmps21
          go_wp2_with (first | (go_at_call 31; refine (between_any _ _ _ _).mono ?_; rintro e w' ⟨rfl, rfl⟩) | (go_at_call 41; refine (isint_any _ _).mono ?_; rintro e w' ⟨rfl, rfl⟩))
          go_loop [3, 4] (fun b i => b = .bool false ∧ i = .int .i64 0) (fun _ i => 0)
          case atStart => exact ⟨rfl, rfl⟩
          case round =>
            obtain ⟨rfl, rfl⟩ := hrel
            go_wp2
            all_goals
              go_ret
              exact ⟨by rw [HF.out]; rfl, below_two _⟩
    have hf : (⟨k, n, s⟩ : Vl).chk = 7 := by
      simp only [Vl.chk]
      rw [if_neg (by omega)]
    have hb : (decide (0 ≤ k) && decide (k ≤ 3)) = false := by simp; omega
    have HF := Lib.hid hf
    clear hf hk h2
    go_enter Tryd.func21, Tryd.ntmps21
    go_wp2_with (first | (go_at_call 31; refine (between_any _ _ _ _).mono ?_; rintro e w' ⟨rfl, rfl⟩) | (go_at_call 41; refine (isint_any _ _).mono ?_; rintro e w' ⟨rfl, rfl⟩))
    go_ret
    exact ⟨by rw [HF.out]; rfl, below_two _⟩
end Go.Proofs.YtnjjpblgcgikaaaDoor
