/- The reference's token at a place. -/
import Derived.Test.YtphaijjofmkjcaaBet
import Derived.Test.YtphaijjofmkjcaaOps
import Derived.Test.YtphaijjofmkjcaaTokPlain3
import Derived.BigQuiet
import Derived.Handy
import Derived.Deep.QuietTactic
import Derived.Deep.LoopGhost
import Derived.Lib.IndexLaws
namespace Go.Proofs.Ytphaijjofmkjcaa
open Go.RowKit
theorem isletter_any (c : UInt8) (w : World) :
    Calls Try.prog 28 #[.int .u8 c.toNat] w fun e w' => e = .returned (.bool (letterB c)) ∧ w = w' := by
  have hu : (c.toNat : Int) ≤ 255 := by have := c.toNat_lt; omega
  go_enter Try.func28, Try.ntmps28
  go_wp2_with (go_at_call 37; refine (between_any _ _ _ _).mono ?_; rintro e w' ⟨rfl, rfl⟩)
  go_ret
  exact ⟨rfl, rfl⟩
theorem isdigit_any (c : UInt8) (w : World) :
    Calls Try.prog 29 #[.int .u8 c.toNat] w fun e w' => e = .returned (.bool (digitB c)) ∧ w = w' := by
  have hu : (c.toNat : Int) ≤ 255 := by have := c.toNat_lt; omega
  go_enter Try.func29, Try.ntmps29
  go_wp2_with (go_at_call 37; refine (between_any _ _ _ _).mono ?_; rintro e w' ⟨rfl, rfl⟩)
  go_ret
  exact ⟨rfl, rfl⟩
def AtPost (T : Nat × Nat) (w : World) (e : Ending) (w' : World) : Prop := e = .returned (.tuple #[.int .i64 T.1, .int .i64 T.2]) ∧ w = w'
set_option maxHeartbeats 2000000 in
theorem at_letter (s : ByteArray) (p : Nat) (w : World) (hp : p < s.size) (hs : s.size ≤ 2000) (hl : letterB s[p] = true) :
    Calls Try.prog 15 #[.string s, .int .i64 p] w (AtPost (tokA s[p] (s.data.toList.drop (p + 1))) w) := by
  have hR := runN_le wordB (s.data.toList.drop (p + 1))
  rw [List.length_drop, Array.length_toList, show s.data.size = s.size from rfl] at hR
  have HD := Lib.hid (fun k (h : k < s.size) => drop_at s k h)
  have HT := Lib.hid (show tokA s[p] (s.data.toList.drop (p + 1)) = (1, runN wordB (s.data.toList.drop (p + 1)) + 1) by rw [tokA, if_pos hl])
  have HL := Lib.hid (isletter_any s[p])
  rw [hl] at HL
  obtain ⟨z, hz⟩ : ∃ z, z = runN wordB (s.data.toList.drop (p + 1)) + 1 := ⟨_, rfl⟩
  have hz1 : 1 ≤ z := by omega
  have hz2 : p + z ≤ s.size := by omega
  have HN := Lib.hid hz
  rw [← hz] at HT
  clear hz hR hl
  go_enter Try.func15, Try.ntmps15
  go_wp2_with fail
  refine (HL.out w).mono ?_
  rintro e w1 ⟨rfl, rfl⟩
  go_wp2_with fail
  go_loopg [7] (z - 1) (fun m v wr => ∃ j : Nat, v = .int .i64 j ∧ m = z - j ∧ 1 ≤ j ∧ j ≤ z ∧ j + runN wordB (s.data.toList.drop (p + j)) = z ∧ w = wr)
  case atStart => exact ⟨1, rfl, rfl, Nat.le_refl _, hz1, by rw [HN.out]; omega, rfl⟩
  case round =>
    obtain ⟨j, rfl, rfl, h1, hjz, hrun, rfl⟩ := hrel
    have HRN := Lib.hid hrun
    clear hrun
    by_cases hlt : p + j < s.size
    · have HC := Lib.hid (isletter_any s[p + j])
      have HE := Lib.hid (isdigit_any s[p + j])
      have hq : wordB s[p + j] = (letterB s[p + j] || digitB s[p + j]) := rfl
      have hk := HRN.out
      rw [HD.out _ hlt, runN] at hk
      by_cases hab : wordB s[p + j] = true
      · rw [if_pos hab] at hk
        rw [hab] at hq
        have HK := Lib.hid (show j + 1 ≤ z ∧ (j + 1) + runN wordB (s.data.toList.drop (p + (j + 1))) = z from by rw [show p + (j + 1) = p + j + 1 from rfl]; omega)
        have HQ := Lib.hid hq
        clear hab hk hq
        generalize letterB s[p + j] = a at *
        generalize digitB s[p + j] = b at *
        cases a
        · obtain rfl : b = true := by simpa using HQ.out.symm
          go_wp2_with fail
          refine (HC.out w).mono ?_
          rintro e w1 ⟨rfl, rfl⟩
          go_wp2_with fail
          refine (HE.out w).mono ?_
          rintro e w1 ⟨rfl, rfl⟩
          go_wp2_with fail
          go_roundg (z - (j + 1))
          case rel => exact ⟨j + 1, rfl, rfl, by omega, HK.out.1, HK.out.2, rfl⟩
          case measure => have := HK.out.1; omega
        · go_wp2_with fail
          refine (HC.out w).mono ?_
          rintro e w1 ⟨rfl, rfl⟩
          go_wp2_with fail
          go_roundg (z - (j + 1))
          case rel => exact ⟨j + 1, rfl, rfl, by omega, HK.out.1, HK.out.2, rfl⟩
          case measure => have := HK.out.1; omega
      · rw [if_neg hab] at hk
        have hq2 : wordB s[p + j] = false := by simpa using hab
        rw [hq2] at hq
        have HQ := Lib.hid hq
        obtain rfl : j = z := by omega
        clear hab hk hq hq2
        generalize letterB s[p + j] = a at *
        generalize digitB s[p + j] = b at *
        obtain ⟨rfl, rfl⟩ : a = false ∧ b = false := Bool.or_eq_false_iff.1 HQ.out.symm
        go_wp2_with fail
        refine (HC.out w).mono ?_
        rintro e w1 ⟨rfl, rfl⟩
        go_wp2_with fail
        refine (HE.out w).mono ?_
        rintro e w1 ⟨rfl, rfl⟩
        go_wp2_with fail
        go_ret2
        rw [HT.out]
        exact ⟨rfl, rfl⟩
    · have hk : j = z := by
        have := HRN.out
        rw [List.drop_eq_nil_of_le (by rw [Array.length_toList, show s.data.size = s.size from rfl]; omega)] at this
        simp only [runN] at this
        omega
      subst hk
      go_wp2_with fail
      go_ret2
      rw [HT.out]
      exact ⟨rfl, rfl⟩
set_option maxHeartbeats 2000000 in
theorem at_digit (s : ByteArray) (p : Nat) (w : World) (hp : p < s.size) (hs : s.size ≤ 2000) (hl : letterB s[p] = false) (hd : digitB s[p] = true) :
    Calls Try.prog 15 #[.string s, .int .i64 p] w (AtPost (tokA s[p] (s.data.toList.drop (p + 1))) w) := by
  have hR := runN_le digitB (s.data.toList.drop (p + 1))
  rw [List.length_drop, Array.length_toList, show s.data.size = s.size from rfl] at hR
  have HD := Lib.hid (fun k (h : k < s.size) => drop_at s k h)
  have HT := Lib.hid (show tokA s[p] (s.data.toList.drop (p + 1)) = (2, runN digitB (s.data.toList.drop (p + 1)) + 1) by rw [tokA, if_neg (by simp [hl]), if_pos hd])
  have HL := Lib.hid (isletter_any s[p])
  rw [hl] at HL
  have HG := Lib.hid (isdigit_any s[p])
  rw [hd] at HG
  obtain ⟨z, hz⟩ : ∃ z, z = runN digitB (s.data.toList.drop (p + 1)) + 1 := ⟨_, rfl⟩
  have hz1 : 1 ≤ z := by omega
  have hz2 : p + z ≤ s.size := by omega
  have HN := Lib.hid hz
  rw [← hz] at HT
  clear hz hR hl hd
  go_enter Try.func15, Try.ntmps15
  go_wp2_with fail
  refine (HL.out w).mono ?_
  rintro e w1 ⟨rfl, rfl⟩
  go_wp2_with fail
  refine (HG.out w).mono ?_
  rintro e w1 ⟨rfl, rfl⟩
  go_wp2_with fail
  go_loopg [7] (z - 1) (fun m v wr => ∃ j : Nat, v = .int .i64 j ∧ m = z - j ∧ 1 ≤ j ∧ j ≤ z ∧ j + runN digitB (s.data.toList.drop (p + j)) = z ∧ w = wr)
  case atStart => exact ⟨1, rfl, rfl, Nat.le_refl _, hz1, by rw [HN.out]; omega, rfl⟩
  case round =>
    obtain ⟨j, rfl, rfl, h1, hjz, hrun, rfl⟩ := hrel
    have HRN := Lib.hid hrun
    clear hrun
    by_cases hlt : p + j < s.size
    · have HC := Lib.hid (isdigit_any s[p + j])
      have hk := HRN.out
      rw [HD.out _ hlt, runN] at hk
      by_cases hab : digitB s[p + j] = true
      · rw [if_pos hab] at hk
        have HK := Lib.hid (show j + 1 ≤ z ∧ (j + 1) + runN digitB (s.data.toList.drop (p + (j + 1))) = z from by rw [show p + (j + 1) = p + j + 1 from rfl]; omega)
        rw [hab] at HC
        clear hab hk
        go_wp2_with fail
        refine (HC.out w).mono ?_
        rintro e w1 ⟨rfl, rfl⟩
        go_wp2_with fail
        go_roundg (z - (j + 1))
        case rel => exact ⟨j + 1, rfl, rfl, by omega, HK.out.1, HK.out.2, rfl⟩
        case measure => have := HK.out.1; omega
      · rw [if_neg hab] at hk
        rw [show digitB s[p + j] = false by simpa using hab] at HC
        obtain rfl : j = z := by omega
        clear hab hk
        go_wp2_with fail
        refine (HC.out w).mono ?_
        rintro e w1 ⟨rfl, rfl⟩
        go_wp2_with fail
        go_ret2
        rw [HT.out]
        exact ⟨rfl, rfl⟩
    · have hk : j = z := by
        have := HRN.out
        rw [List.drop_eq_nil_of_le (by rw [Array.length_toList, show s.data.size = s.size from rfl]; omega)] at this
        simp only [runN] at this
        omega
      subst hk
      go_wp2_with fail
      go_ret2
      rw [HT.out]
      exact ⟨rfl, rfl⟩
set_option maxHeartbeats 2000000 in
theorem at_quote (s : ByteArray) (p : Nat) (w : World) (hp : p < s.size) (hs : s.size ≤ 2000) (hl : letterB s[p] = false) (hd : digitB s[p] = false) (h39 : s[p] = 39) :
    Calls Try.prog 15 #[.string s, .int .i64 p] w (AtPost (tokA s[p] (s.data.toList.drop (p + 1))) w) := by
  have hR := runN_le quotB (s.data.toList.drop (p + 1))
  rw [List.length_drop, Array.length_toList, show s.data.size = s.size from rfl] at hR
  have HD := Lib.hid (fun k (h : k < s.size) => drop_at s k h)
  have HT := Lib.hid (show tokA s[p] (s.data.toList.drop (p + 1)) = (if quotEnds (s.data.toList.drop (p + 1)) = true then (3, runN quotB (s.data.toList.drop (p + 1)) + 1 + 1) else (0, 0)) by rw [tokA, if_neg (by simp [hl]), if_neg (by simp [hd]), if_pos h39]; rfl)
  have HL := Lib.hid (isletter_any s[p])
  rw [hl] at HL
  have HG := Lib.hid (isdigit_any s[p])
  rw [hd] at HG
  have h39' : ((s[p].toNat : Int) == 39) = true := by rw [h39]; rfl
  have hqe : quotEnds (s.data.toList.drop (p + 1)) = match s.data.toList.drop (p + (runN quotB (s.data.toList.drop (p + 1)) + 1)) with | x :: _ => x == 39 | [] => false := by
    unfold quotEnds quotN
    rw [List.drop_drop, show p + 1 + runN quotB (s.data.toList.drop (p + 1)) = p + (runN quotB (s.data.toList.drop (p + 1)) + 1) from by omega]
    generalize s.data.toList.drop (p + (runN quotB (s.data.toList.drop (p + 1)) + 1)) = L
    cases L <;> rfl
  obtain ⟨z, hz⟩ : ∃ z, z = runN quotB (s.data.toList.drop (p + 1)) + 1 := ⟨_, rfl⟩
  have hz1 : 1 ≤ z := by omega
  have hz2 : p + z ≤ s.size := by omega
  have HN := Lib.hid hz
  rw [← hz] at HT hqe
  have HQE := Lib.hid hqe
  clear hz hR hl hd h39 hqe
  generalize quotEnds (s.data.toList.drop (p + 1)) = qe at *
  go_enter Try.func15, Try.ntmps15
  go_wp2_with fail
  refine (HL.out w).mono ?_
  rintro e w1 ⟨rfl, rfl⟩
  go_wp2_with fail
  refine (HG.out w).mono ?_
  rintro e w1 ⟨rfl, rfl⟩
  go_wp2_with fail
  go_loopg [7] (z - 1) (fun m v wr => ∃ j : Nat, v = .int .i64 j ∧ m = z - j ∧ 1 ≤ j ∧ j ≤ z ∧ j + runN quotB (s.data.toList.drop (p + j)) = z ∧ w = wr)
  case atStart => exact ⟨1, rfl, rfl, Nat.le_refl _, hz1, by rw [HN.out]; omega, rfl⟩
  case round =>
    obtain ⟨j, rfl, rfl, h1, hjz, hrun, rfl⟩ := hrel
    have HRN := Lib.hid hrun
    clear hrun
    by_cases hlt : p + j < s.size
    · have HC := Lib.hid (isquot_any s[p + j])
      have hk := HRN.out
      rw [HD.out _ hlt, runN] at hk
      by_cases hab : quotB s[p + j] = true
      · rw [if_pos hab] at hk
        have HK := Lib.hid (show j + 1 ≤ z ∧ (j + 1) + runN quotB (s.data.toList.drop (p + (j + 1))) = z from by rw [show p + (j + 1) = p + j + 1 from rfl]; omega)
        rw [hab] at HC
        clear hab hk
        go_wp2_with fail
        refine (HC.out w).mono ?_
        rintro e w1 ⟨rfl, rfl⟩
        go_wp2_with fail
        go_roundg (z - (j + 1))
        case rel => exact ⟨j + 1, rfl, rfl, by omega, HK.out.1, HK.out.2, rfl⟩
        case measure => have := HK.out.1; omega
      · rw [if_neg hab] at hk
        rw [show quotB s[p + j] = false by simpa using hab] at HC
        obtain rfl : j = z := by omega
        have hq := HQE.out
        rw [HD.out _ hlt] at hq
        simp only at hq
        clear hab hk
        by_cases he : s[p + j] = 39
        · have hq2 : ((s[p + j].toNat : Int) == 39) = true := by rw [he]; rfl
          have hq3 : qe = true := by rw [hq, he]; rfl
          subst hq3
          clear hq he
          go_wp2_with fail
          refine (HC.out w).mono ?_
          rintro e w1 ⟨rfl, rfl⟩
          go_wp2_with fail
          go_ret2
          rw [HT.out]
          exact ⟨rfl, rfl⟩
        · have hq2 : ((s[p + j].toNat : Int) == 39) = false := by rw [beq_eq_false_iff_ne]; exact fun h => he (UInt8.toNat_inj.1 (by rw [show (39 : UInt8).toNat = 39 from rfl]; omega))
          have hq3 : qe = false := by rw [hq]; simpa using he
          subst hq3
          clear hq he
          go_wp2_with fail
          refine (HC.out w).mono ?_
          rintro e w1 ⟨rfl, rfl⟩
          go_wp2_with fail
          go_ret2
          rw [HT.out]
          exact ⟨rfl, rfl⟩
    · have hnil : s.data.toList.drop (p + j) = [] := List.drop_eq_nil_of_le (by rw [Array.length_toList, show s.data.size = s.size from rfl]; omega)
      have hk : j = z := by
        have := HRN.out
        rw [hnil] at this
        simp only [runN] at this
        omega
      subst hk
      have hq := HQE.out
      rw [hnil] at hq
      simp only at hq
      subst hq
      clear hnil
      go_wp2_with fail
      go_ret2
      rw [HT.out]
      exact ⟨rfl, rfl⟩
theorem sign1_cases (x : UInt8) : sign1 x = decide (x ∈ [40, 41, 44, 59, 42, 61, 60, 43, 45]) := by
  by_cases h : x ∈ [40, 41, 44, 59, 42, 61, 60, 43, 45]
  · simp only [List.mem_cons, List.not_mem_nil, or_false] at h
    rcases h with rfl | rfl | rfl | rfl | rfl | rfl | rfl | rfl | rfl <;> kernel_rfl
  · rw [decide_eq_false h]
    cases hs : sign1 x
    · rfl
    · exfalso
      simp only [sign1, decide_eq_true_eq] at hs
      obtain ⟨o, ho⟩ := Int.eq_ofNat_of_zero_le hs
      exact h (List.mem_of_getElem? (Lib.indexByte_some ho).1)
/-- is a byte among the signs from a place on? -/
def signFrom (x : UInt8) (i : Nat) : Bool := decide (x ∈ (⟨#[40, 41, 44, 59, 42, 61, 60, 43, 45]⟩ : ByteArray).data.toList.drop i)
theorem sign_step (x : UInt8) (i : Nat) (h : i < (⟨#[40, 41, 44, 59, 42, 61, 60, 43, 45]⟩ : ByteArray).size) : signFrom x i = (((((⟨#[40, 41, 44, 59, 42, 61, 60, 43, 45]⟩ : ByteArray)[i]).toNat : Int) == (x.toNat : Int)) || signFrom x (i + 1)) := by
  unfold signFrom
  rw [drop_at _ i h, Bool.eq_iff_iff, decide_eq_true_eq, Bool.or_eq_true, decide_eq_true_eq, beq_iff_eq, List.mem_cons]
  generalize (⟨#[40, 41, 44, 59, 42, 61, 60, 43, 45]⟩ : ByteArray)[i] = y
  refine or_congr ⟨fun h => by rw [h], fun h => UInt8.toNat_inj.1 (by omega)⟩ Iff.rfl
theorem sign_end (x : UInt8) : signFrom x 9 = false := by simp [signFrom]
theorem barsAt (s : ByteArray) (p : Nat) (hp : p < s.size) : bars (s[p] :: s.data.toList.drop (p + 1)) = (if h : p + 1 < s.size then ((s[p].toNat : Int) == 124) && ((s[p + 1].toNat : Int) == 124) else false) := by
  have key : ∀ a : UInt8, (a == 124) = ((a.toNat : Int) == 124) := fun a => by
    by_cases h : a = 124
    · subst h; rfl
    · rw [beq_eq_false_iff_ne.2 h, eq_comm, beq_eq_false_iff_ne]; exact fun h2 => h (UInt8.toNat_inj.1 (by rw [show (124 : UInt8).toNat = 124 from rfl]; omega))
  by_cases h : p + 1 < s.size
  · rw [dif_pos h, drop_at s (p + 1) h, ← key, ← key]
    unfold bars Lib.hasPrefix
    simp only [List.isPrefixOf, Bool.and_true]
    rw [BEq.comm (a := (124 : UInt8)), BEq.comm (a := (124 : UInt8))]
  · rw [dif_neg h, List.drop_eq_nil_of_le (by rw [Array.length_toList, show s.data.size = s.size from rfl]; omega)]
    unfold bars Lib.hasPrefix
    simp [List.isPrefixOf]
set_option maxHeartbeats 2000000 in
theorem at_sign (s : ByteArray) (p : Nat) (w : World) (hp : p < s.size) (hs : s.size ≤ 2000) (hl : letterB s[p] = false) (hd : digitB s[p] = false) (h39 : ¬ s[p] = 39) :
    Calls Try.prog 15 #[.string s, .int .i64 p] w (AtPost (tokA s[p] (s.data.toList.drop (p + 1))) w) := by
  have HT := Lib.hid (show tokA s[p] (s.data.toList.drop (p + 1)) = (if bars (s[p] :: s.data.toList.drop (p + 1)) = true then (4, 2) else if signFrom s[p] 0 = true then (4, 1) else (0, 0)) by rw [tokA, if_neg (by simp [hl]), if_neg (by simp [hd]), if_neg h39, sign1_cases]; rfl)
  have HB := barsAt s p hp
  have HL := Lib.hid (isletter_any s[p])
  rw [hl] at HL
  have HG := Lib.hid (isdigit_any s[p])
  rw [hd] at HG
  have h0 : ((s[p].toNat : Int) == 39) = false := by rw [beq_eq_false_iff_ne]; exact fun h => h39 (UInt8.toNat_inj.1 (by rw [show (39 : UInt8).toNat = 39 from rfl]; omega))
  clear hl hd h39
  generalize bars (s[p] :: s.data.toList.drop (p + 1)) = bb at *
  have HS : Hid (signFrom s[p] 0 = signFrom s[p] 0) := Lib.hid rfl
  by_cases hb : bb = true
  · subst hb
    have hps : p + 1 < s.size := by
      by_cases h : p + 1 < s.size
      · exact h
      · rw [dif_neg h] at HB; cases HB
    rw [dif_pos hps] at HB
    obtain ⟨hb1, hb2⟩ := Bool.and_eq_true_iff.1 HB.symm
    clear HB
    go_enter Try.func15, Try.ntmps15
    go_wp2_with fail
    refine (HL.out w).mono ?_
    rintro e w1 ⟨rfl, rfl⟩
    go_wp2_with fail
    refine (HG.out w).mono ?_
    rintro e w1 ⟨rfl, rfl⟩
    go_wp2_with fail
    go_ret2
    rw [HT.out]
    exact ⟨rfl, rfl⟩
  · obtain rfl : bb = false := by simpa using hb
    have h3 : ((s[p].toNat : Int) == 124) = false ∨ (((s[p].toNat : Int) == 124) = true ∧ ¬ p + 1 < s.size) ∨ (((s[p].toNat : Int) == 124) = true ∧ ∃ h : p + 1 < s.size, ((s[p + 1].toNat : Int) == 124) = false) := by
      rcases h124 : ((s[p].toNat : Int) == 124) with _ | _
      · exact .inl rfl
      · by_cases h : p + 1 < s.size
        · rw [dif_pos h, h124] at HB
          exact .inr (.inr ⟨rfl, h, HB.symm⟩)
        · exact .inr (.inl ⟨rfl, h⟩)
    clear HB hb
    rcases h3 with h1 | ⟨h1, h2⟩ | ⟨h1, h2, h4⟩
    all_goals
      go_enter Try.func15, Try.ntmps15
      go_wp2_with fail
      refine (HL.out w).mono ?_
      rintro e w1 ⟨rfl, rfl⟩
      go_wp2_with fail
      refine (HG.out w).mono ?_
      rintro e w1 ⟨rfl, rfl⟩
      go_wp2_with fail
    all_goals
      go_loopg [9] 9 (fun m v wr => ∃ i : Nat, v = .int .i64 i ∧ m = 9 - i ∧ i ≤ 9 ∧ signFrom s[p] i = signFrom s[p] 0 ∧ w = wr)
      case atStart => exact ⟨0, rfl, rfl, by omega, rfl, rfl⟩
      case round =>
        obtain ⟨i, rfl, rfl, hi, hsf, rfl⟩ := hrel
        have HSF := Lib.hid hsf
        clear hsf HS
        by_cases hi9 : i < 9
        · have hst := sign_step s[p] i hi9
          rcases hx : ((((⟨#[40, 41, 44, 59, 42, 61, 60, 43, 45]⟩ : ByteArray)[i]).toNat : Int) == (s[p].toNat : Int)) with _ | _
          · rw [hx, Bool.false_or] at hst
            have HST := Lib.hid hst
            clear hst
            go_wp2_with fail
            go_roundg (9 - (i + 1))
            case rel => exact ⟨i + 1, rfl, rfl, by omega, HST.out.symm.trans HSF.out, rfl⟩
            case measure => omega
          · rw [hx, Bool.true_or, HSF.out] at hst
            have HST := Lib.hid hst
            clear hst
            go_wp2_with fail
            go_ret2
            rw [HT.out, HST.out]
            exact ⟨rfl, rfl⟩
        · obtain rfl : i = 9 := by omega
          rw [sign_end] at HSF
          go_wp2_with fail
          go_ret2
          rw [HT.out, ← HSF.out]
          exact ⟨rfl, rfl⟩
theorem at_any (s : ByteArray) (p : Nat) (w : World) (hp : p < s.size) (hs : s.size ≤ 2000) :
    Calls Try.prog 15 #[.string s, .int .i64 p] w (AtPost (tokA s[p] (s.data.toList.drop (p + 1))) w) := by
  rcases hl : letterB s[p] with _ | _
  · rcases hd : digitB s[p] with _ | _
    · by_cases h39 : s[p] = 39
      · exact at_quote s p w hp hs hl hd h39
      · exact at_sign s p w hp hs hl hd h39
    · exact at_digit s p w hp hs hl hd
  · exact at_letter s p w hp hs hl
end Go.Proofs.Ytphaijjofmkjcaa
