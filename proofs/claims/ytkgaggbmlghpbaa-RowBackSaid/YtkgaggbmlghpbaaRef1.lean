/- The references' checks of values. -/
import Derived.Test.YtkgaggbmlghpbaaLeaf
import Derived.Test.YtkgaggbmlghpbaaMem
namespace Go.Proofs.Ytkgaggbmlghpbaa
open Go.RowKit
theorem between_any (n a b : Int) (w : World) :
    Calls Try.prog 22 #[.int .i64 n, .int .i64 a, .int .i64 b] w fun e w' => e = .returned (.bool (decide (a ≤ n) && decide (n ≤ b))) ∧ w = w' := by
  by_cases h1 : a ≤ n <;> by_cases h2 : n ≤ b
  all_goals
    go_enter Try.func22, Try.ntmps22
    go_wp2
    go_ret
    exact ⟨by simp [h1, h2], rfl⟩
theorem isint_any (n : Int) (w : World) :
    Calls Try.prog 23 #[.int .i64 n] w fun e w' => e = .returned (.bool (isInt n)) ∧ w = w' := by
  go_enter Try.func23, Try.ntmps23
  go_wp2_with (go_at_call 22; refine (between_any _ _ _ _).mono ?_; rintro e w' ⟨rfl, rfl⟩)
  go_ret
  exact ⟨rfl, rfl⟩
theorem isquot_any (c : UInt8) (w : World) :
    Calls Try.prog 24 #[.int .u8 c.toNat] w fun e w' => e = .returned (.bool (quotB c)) ∧ w = w' := by
  by_cases h1 : 32 ≤ (c.toNat : Int) <;> by_cases h2 : (c.toNat : Int) ≤ 126 <;> by_cases h3 : (c.toNat : Int) = 39
  all_goals
    try (exfalso; omega)
  all_goals
    have hu : (c.toNat : Int) ≤ 255 := by have := c.toNat_lt; omega
    have H3 := Lib.hid h3
    try have h4 : ((c.toNat : Int) != 39) = true := by simpa using h3
    try have h4 : ((c.toNat : Int) != 39) = false := by simpa using h3
    clear h3
    go_enter Try.func24, Try.ntmps24
    go_wp2_with (go_at_call 22; refine (between_any _ _ _ _).mono ?_; rintro e w' ⟨rfl, rfl⟩)
    go_ret
    exact ⟨by simp [quotB, h1, h2, H3.out], rfl⟩

theorem all_take_step (s : ByteArray) (k : Nat) (h : k < s.size) : ((s.data.toList.take (k + 1)).all quotB) = (((s.data.toList.take k).all quotB) && quotB s[k]) := by
  have e : s.data.toList.take (k + 1) = s.data.toList.take k ++ [s[k]] := by
    rw [List.take_succ_eq_append_getElem (by simpa using h)]; rfl
  rw [e, List.all_append]; simp
theorem all_take_false (s : ByteArray) (k : Nat) (h : ((s.data.toList.take k).all quotB) = false) : s.data.toList.all quotB = false := by
  rw [← Bool.not_eq_true] at h ⊢
  intro h1
  apply h
  rw [List.all_eq_true] at h1 ⊢
  exact fun x hx => h1 x (List.mem_of_mem_take hx)
set_option maxHeartbeats 1000000 in
theorem rcheck_any (v : Vl) (w : World) (hs : v.s.size ≤ maxLen) :
    Calls Try.prog 15 #[v.val] w fun e w' => e = .returned (.int .i64 v.chk) ∧ Below w.heap.size w w' := by
  obtain ⟨k, n, s⟩ := v
  dsimp only [Vl.val] at hs ⊢
  by_cases hk : k = 0 ∨ k = 1 ∨ k = 3
  · rcases hk with rfl | rfl | rfl
    all_goals
      go_enter Try.func15, Try.ntmps15
      go_wp2_with (first | (go_at_call 22; refine (between_any _ _ _ _).mono ?_; rintro e w' ⟨rfl, rfl⟩) | (go_at_call 23; refine (isint_any _ _).mono ?_; rintro e w' ⟨rfl, rfl⟩))
    all_goals
      go_ret
      refine ⟨?_, below_two _⟩
      simp_all [Vl.chk, Vl.fine, emptyS]
      try omega
  · by_cases h2 : k = 2
    · subst h2
      clear hk
      by_cases hb : n = 0 ∧ s.size ≤ 20
      · obtain ⟨rfl, h20⟩ := hb
        have H20 := Lib.hid h20
        have hs1 := h20
        clear hs
        go_enter Try.func15, Try.ntmps15
        go_wp2_with (first | (go_at_call 22; refine (between_any _ _ _ _).mono ?_; rintro e w' ⟨rfl, rfl⟩) | (go_at_call 23; refine (isint_any _ _).mono ?_; rintro e w' ⟨rfl, rfl⟩))
        go_loop [3, 4] (fun b i => ∃ j : Nat, j ≤ s.size ∧ i = .int .i64 j ∧ b = .bool ((s.data.toList.take j).all quotB)) (fun _ i => s.size - (intOf i).toNat)
        case atStart => exact ⟨0, Nat.zero_le _, rfl, by simp; omega⟩
        case round =>
          obtain ⟨j, hj, rfl, rfl⟩ := hrel
          by_cases hlt : j < s.size
          · have HS := Lib.hid (all_take_step s j hlt)
            have HF := Lib.hid (all_take_false s j)
            by_cases hq : ((s.data.toList.take j).all quotB) = true
            · rw [hq]
              have HQ := Lib.hid hq
              clear hq
              go_wp2_with (go_at_call 24; refine (isquot_any _ _).mono ?_; rintro e w' ⟨rfl, rfl⟩)
              go_round
              case rel => exact ⟨j + 1, by omega, by go_num, by rw [HS.out, HQ.out]; rfl⟩
              case measure => simp [intOf]; omega
            · have hq' : ((s.data.toList.take j).all quotB) = false := by simpa using hq
              rw [hq']
              have HQ := Lib.hid (HF.out hq')
              clear hq hq' HF HS
              go_wp2
              go_ret
              refine ⟨?_, below_two _⟩
              simp [Vl.chk, Vl.fine, quotS, HQ.out]
          · have hq : ((s.data.toList.take j).all quotB) = s.data.toList.all quotB := by rw [List.take_of_length_le (by simp; omega)]
            rw [hq]
            clear hq
            go_wp2
            all_goals
              go_ret
              refine ⟨?_, below_two _⟩
              simp_all [Vl.chk, Vl.fine, quotS, H20.out]
      · have hf : (⟨2, n, s⟩ : Vl).chk = 3 := by
          simp only [Vl.chk, Vl.fine, quotS]
          have : ¬ (n = 0 ∧ s.size ≤ 20) := hb
          by_cases hn : n = 0
          · have : ¬ s.size ≤ 20 := fun h => this ⟨hn, h⟩
            simp [hn, this]
          · simp [hn]
        have HF := Lib.hid hf
        clear hf
        by_cases hn : n = 0
        · subst hn
          have h20 : ¬ (s.size : Int) ≤ 20 := fun h => hb ⟨rfl, by omega⟩
          clear hb
          go_enter Try.func15, Try.ntmps15
          go_wp2_with (first | (go_at_call 22; refine (between_any _ _ _ _).mono ?_; rintro e w' ⟨rfl, rfl⟩) | (go_at_call 23; refine (isint_any _ _).mono ?_; rintro e w' ⟨rfl, rfl⟩))
          go_loop [3, 4] (fun b i => b = .bool false ∧ i = .int .i64 0) (fun _ i => 0)
          case atStart => exact ⟨by simp; omega, rfl⟩
          case round =>
            obtain ⟨rfl, rfl⟩ := hrel
            go_wp2
            all_goals
              go_ret
              exact ⟨by rw [HF.out]; rfl, below_two _⟩
        · have hn1 : (n == 0) = false := by simp [hn]
          clear hb hn
          go_enter Try.func15, Try.ntmps15
          go_wp2_with (first | (go_at_call 22; refine (between_any _ _ _ _).mono ?_; rintro e w' ⟨rfl, rfl⟩) | (go_at_call 23; refine (isint_any _ _).mono ?_; rintro e w' ⟨rfl, rfl⟩))
          go_loop [3, 4] (fun b i => b = .bool false ∧ i = .int .i64 0) (fun _ i => 0)
          case atStart => exact ⟨rfl, rfl⟩
          case round =>
            obtain ⟨rfl, rfl⟩ := hrel
            go_wp2
            all_goals
              go_ret
              exact ⟨by rw [HF.out]; rfl, below_two _⟩
    have hf : (⟨k, n, s⟩ : Vl).chk = 7 := by
      simp only [Vl.chk]
      rw [if_neg (by omega)]
    have hb : (decide (0 ≤ k) && decide (k ≤ 3)) = false := by simp; omega
    have HF := Lib.hid hf
    clear hf hk h2
    go_enter Try.func15, Try.ntmps15
    go_wp2_with (first | (go_at_call 22; refine (between_any _ _ _ _).mono ?_; rintro e w' ⟨rfl, rfl⟩) | (go_at_call 23; refine (isint_any _ _).mono ?_; rintro e w' ⟨rfl, rfl⟩))
    go_ret
    exact ⟨by rw [HF.out]; rfl, below_two _⟩

set_option maxHeartbeats 1000000 in
theorem rchecks_any (vs : List Vl) (A : Option Addr) (n c : Nat) (w : World) (hr : RdV w w.heap.size A n vs) (hn : n ≤ maxLen) (hs : ∀ v ∈ vs, v.s.size ≤ maxLen) :
    Calls Try.prog 7 #[.slice A n c] w fun e w' => e = .returned (.int .i64 (rightsE vs)) ∧ Below w.heap.size w w' := by
  unfold maxLen at hn
  have hlen := hr.len
  by_cases h5 : 5 < n
  · have e : rightsE vs = 2 := by simp [rightsE, hlen, h5]
    have HE := Lib.hid e
    have HL := Lib.hid hlen
    clear e hlen
    go_enter Try.func7, Try.ntmps7
    go_wp2
    go_ret
    exact ⟨by rw [HE.out]; rfl, Below.refl _ _⟩
  have e : rightsE vs = firstErr (vs.map Vl.chk) := by simp [rightsE, hlen, h5]
  have HE := Lib.hid e
  have HL := Lib.hid hlen
  clear e hlen
  go_enter Try.func7, Try.ntmps7
  go_wp2
  go_loopw [3] (fun i wr => ∃ k : Nat, k ≤ n ∧ i = .int .i64 k ∧ firstErr ((vs.map Vl.chk).take k) = 0 ∧ Below w.heap.size w wr) (fun i _ => n - (intOf i).toNat)
  case atStart => exact ⟨0, Nat.zero_le _, rfl, rfl, Below.refl _ _⟩
  case round =>
    obtain ⟨k, hk, rfl, hf, hb⟩ := hrel
    have HF := Lib.hid hf
    clear hf
    by_cases hlt : k < n
    · obtain ⟨v, hv⟩ : ∃ v, vs[k]? = some v := ⟨vs[k]'(by rw [HL.out]; exact hlt), List.getElem?_eq_getElem _⟩
      obtain ⟨b, o, rfl, hbl, c0, c1, c2⟩ := (show RdV wr w.heap.size A n vs from Rd.below hr hb).at_ k v hv
      have hvs := hs v (List.mem_of_getElem? hv)
      have HV := Lib.hid hv
      have hz := hb.size
      clear hv
      by_cases hc : v.chk = 0
      · have HC := Lib.hid hc
        have hc1 : (v.chk != 0) = false := by simp [hc]
        clear hc
        go_wp2_with (go_at_call 15; refine (rcheck_any v _ hvs).mono ?_; rintro e w1 ⟨rfl, hb1⟩)
        go_roundw
        case rel => exact ⟨k + 1, by omega, by go_num, firstErr_step _ _ HF.out (by rw [List.getElem?_map, HV.out]; simp [HC.out]), hb.trans (hb1.mono (by omega))⟩
        case measure => simp [intOf]; omega
      · have HC := Lib.hid hc
        have hc1 : (v.chk != 0) = true := by simp [hc]
        clear hc
        go_wp2_with (go_at_call 15; refine (rcheck_any v _ hvs).mono ?_; rintro e w1 ⟨rfl, hb1⟩)
        go_ret
        exact ⟨by rw [HE.out, firstErr_hit _ _ _ HF.out (by rw [List.getElem?_map, HV.out]; rfl) HC.out]; rfl, hb.trans (hb1.mono (by omega))⟩
    · go_wp2
      go_ret
      exact ⟨by rw [HE.out, ← HF.out, List.take_of_length_le (by rw [List.length_map, HL.out]; omega)]; rfl, hb⟩
end Go.Proofs.Ytkgaggbmlghpbaa
