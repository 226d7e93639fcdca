/- The scanner's runs of signs. -/
import Derived.Test.YtphaijjofmkjcaaTok1
import Derived.Handy
import Derived.Deep.LoopGhost
namespace Go.Proofs.Ytphaijjofmkjcaa
open Go.RowKit
set_option maxHeartbeats 2000000 in
theorem run_blank (s : ByteArray) (p g : Nat) (w : World) (hp : p ≤ s.size) (hs : s.size ≤ 9223372036854775807) (hg : Blk w g 37 #[.string s, .int .i64 p]) :
    Calls Try.prog 20 #[.pointer (some ⟨g, 0, none⟩), .func (.func 21) #[] #[]] w fun e w' => e = .returned (.string (s.extract p (p + runN blankB (s.data.toList.drop p)))) ∧
      Blk w' g 37 #[.string s, .int .i64 ((p + runN blankB (s.data.toList.drop p) : Nat) : Int)] ∧ w.grownBy w' (some g) := by
  obtain ⟨c0, c1, f0, f1, hgl⟩ := hg.two
  have hR := runN_le blankB (s.data.toList.drop p)
  rw [List.length_drop, Array.length_toList, show s.data.size = s.size from rfl] at hR
  have HD := Lib.hid (fun k (h : k < s.size) => drop_at s k h)
  obtain ⟨z, hz⟩ : ∃ z, z = p + runN blankB (s.data.toList.drop p) := ⟨_, rfl⟩
  have hz1 : p ≤ z := by omega
  have hz2 : z ≤ s.size := by omega
  have HN := Lib.hid hz
  rw [← hz]
  clear hz hR
  go_enter Try.func20, Try.ntmps20
  go_wp2_with fail
  go_loopg [] (z - p) (fun m wr => ∃ j : Nat, m = z - j ∧ p ≤ j ∧ j ≤ z ∧ j + runN blankB (s.data.toList.drop j) = z ∧ Blk wr g 37 #[.string s, .int .i64 j] ∧ w.grownBy wr (some g))
  case atStart => exact ⟨p, rfl, Nat.le_refl _, hz1, HN.out.symm, hg, World.grownBy.refl _ _⟩
  case round =>
    clear c0 c1 f0 f1 hgl
    obtain ⟨j, rfl, hpj, hjz, hrun, hg, ht⟩ := hrel
    obtain ⟨c0, c1, f0, f1, hgl⟩ := hg.two
    have HRN := Lib.hid hrun
    clear hrun
    by_cases hlt : j < s.size
    · have HC := Lib.hid (fun W => blank_any s[j] W)
      by_cases hq : blankB s[j] = true
      · have hk1 : j + 1 ≤ z ∧ (j + 1) + runN blankB (s.data.toList.drop (j + 1)) = z := by
          have h1 := HRN.out
          rw [HD.out j hlt, runN, if_pos hq] at h1
          omega
        have HK := Lib.hid hk1
        rw [hq] at HC
        clear hq hk1
        go_wp2_with fail
        go_quiet ((go_at_call 21; exact Calls.quiet_of_same ((HC.out _).mono fun _ _ h => ⟨h.1, h.2.symm⟩)))
        go_wp2_with fail
        go_roundg (z - (j + 1))
        case rel => exact ⟨j + 1, rfl, by omega, HK.out.1, HK.out.2, by rw [show ((j + 1 : Nat) : Int) = (j : Int) + 1 from by omega]; exact (hg.put 1 _), turn_drewN (turn_put ht 1 _) _⟩
        case measure => have := HK.out.1; omega
      · have hq' : blankB s[j] = false := by simpa using hq
        have hk0 : j = z := by
          have h1 := HRN.out
          rw [HD.out j hlt, runN, if_neg hq] at h1
          omega
        rw [hq'] at HC
        clear hq hq'
        subst hk0
        go_wp2_with fail
        go_quiet ((go_at_call 21; exact Calls.quiet_of_same ((HC.out _).mono fun _ _ h => ⟨h.1, h.2.symm⟩)))
        go_wp2_with fail
        go_quiet (fail)
        go_wp2_with fail
        go_ret
        exact ⟨rfl, hg, turn_drewN (turn_drewN ht _) _⟩
    · have hk0 : j = z := by omega
      subst hk0
      have hld : decide (j < s.size) = false := by simpa using hlt
      go_wp2_with fail
      go_quiet (fail)
      go_wp2_with fail
      go_quiet (fail)
      go_wp2_with fail
      go_ret
      exact ⟨rfl, hg, turn_drewN (turn_drewN ht _) _⟩
set_option maxHeartbeats 2000000 in
theorem run_word (s : ByteArray) (p g : Nat) (w : World) (hp : p ≤ s.size) (hs : s.size ≤ 9223372036854775807) (hg : Blk w g 37 #[.string s, .int .i64 p]) :
    Calls Try.prog 20 #[.pointer (some ⟨g, 0, none⟩), .func (.func 23) #[] #[]] w fun e w' => e = .returned (.string (s.extract p (p + runN wordB (s.data.toList.drop p)))) ∧
      Blk w' g 37 #[.string s, .int .i64 ((p + runN wordB (s.data.toList.drop p) : Nat) : Int)] ∧ w.grownBy w' (some g) := by
  obtain ⟨c0, c1, f0, f1, hgl⟩ := hg.two
  have hR := runN_le wordB (s.data.toList.drop p)
  rw [List.length_drop, Array.length_toList, show s.data.size = s.size from rfl] at hR
  have HD := Lib.hid (fun k (h : k < s.size) => drop_at s k h)
  obtain ⟨z, hz⟩ : ∃ z, z = p + runN wordB (s.data.toList.drop p) := ⟨_, rfl⟩
  have hz1 : p ≤ z := by omega
  have hz2 : z ≤ s.size := by omega
  have HN := Lib.hid hz
  rw [← hz]
  clear hz hR
  go_enter Try.func20, Try.ntmps20
  go_wp2_with fail
  go_loopg [] (z - p) (fun m wr => ∃ j : Nat, m = z - j ∧ p ≤ j ∧ j ≤ z ∧ j + runN wordB (s.data.toList.drop j) = z ∧ Blk wr g 37 #[.string s, .int .i64 j] ∧ w.grownBy wr (some g))
  case atStart => exact ⟨p, rfl, Nat.le_refl _, hz1, HN.out.symm, hg, World.grownBy.refl _ _⟩
  case round =>
    clear c0 c1 f0 f1 hgl
    obtain ⟨j, rfl, hpj, hjz, hrun, hg, ht⟩ := hrel
    obtain ⟨c0, c1, f0, f1, hgl⟩ := hg.two
    have HRN := Lib.hid hrun
    clear hrun
    by_cases hlt : j < s.size
    · have HC := Lib.hid (fun W => word_any s[j] W)
      by_cases hq : wordB s[j] = true
      · have hk1 : j + 1 ≤ z ∧ (j + 1) + runN wordB (s.data.toList.drop (j + 1)) = z := by
          have h1 := HRN.out
          rw [HD.out j hlt, runN, if_pos hq] at h1
          omega
        have HK := Lib.hid hk1
        rw [hq] at HC
        clear hq hk1
        go_wp2_with fail
        go_quiet ((go_at_call 23; exact Calls.quiet_of_same ((HC.out _).mono fun _ _ h => ⟨h.1, h.2.symm⟩)))
        go_wp2_with fail
        go_roundg (z - (j + 1))
        case rel => exact ⟨j + 1, rfl, by omega, HK.out.1, HK.out.2, by rw [show ((j + 1 : Nat) : Int) = (j : Int) + 1 from by omega]; exact (hg.put 1 _), turn_drewN (turn_put ht 1 _) _⟩
        case measure => have := HK.out.1; omega
      · have hq' : wordB s[j] = false := by simpa using hq
        have hk0 : j = z := by
          have h1 := HRN.out
          rw [HD.out j hlt, runN, if_neg hq] at h1
          omega
        rw [hq'] at HC
        clear hq hq'
        subst hk0
        go_wp2_with fail
        go_quiet ((go_at_call 23; exact Calls.quiet_of_same ((HC.out _).mono fun _ _ h => ⟨h.1, h.2.symm⟩)))
        go_wp2_with fail
        go_quiet (fail)
        go_wp2_with fail
        go_ret
        exact ⟨rfl, hg, turn_drewN (turn_drewN ht _) _⟩
    · have hk0 : j = z := by omega
      subst hk0
      have hld : decide (j < s.size) = false := by simpa using hlt
      go_wp2_with fail
      go_quiet (fail)
      go_wp2_with fail
      go_quiet (fail)
      go_wp2_with fail
      go_ret
      exact ⟨rfl, hg, turn_drewN (turn_drewN ht _) _⟩
set_option maxHeartbeats 2000000 in
theorem run_digit (s : ByteArray) (p g : Nat) (w : World) (hp : p ≤ s.size) (hs : s.size ≤ 9223372036854775807) (hg : Blk w g 37 #[.string s, .int .i64 p]) :
    Calls Try.prog 20 #[.pointer (some ⟨g, 0, none⟩), .func (.func 24) #[] #[]] w fun e w' => e = .returned (.string (s.extract p (p + runN digitB (s.data.toList.drop p)))) ∧
      Blk w' g 37 #[.string s, .int .i64 ((p + runN digitB (s.data.toList.drop p) : Nat) : Int)] ∧ w.grownBy w' (some g) := by
  obtain ⟨c0, c1, f0, f1, hgl⟩ := hg.two
  have hR := runN_le digitB (s.data.toList.drop p)
  rw [List.length_drop, Array.length_toList, show s.data.size = s.size from rfl] at hR
  have HD := Lib.hid (fun k (h : k < s.size) => drop_at s k h)
  obtain ⟨z, hz⟩ : ∃ z, z = p + runN digitB (s.data.toList.drop p) := ⟨_, rfl⟩
  have hz1 : p ≤ z := by omega
  have hz2 : z ≤ s.size := by omega
  have HN := Lib.hid hz
  rw [← hz]
  clear hz hR
  go_enter Try.func20, Try.ntmps20
  go_wp2_with fail
  go_loopg [] (z - p) (fun m wr => ∃ j : Nat, m = z - j ∧ p ≤ j ∧ j ≤ z ∧ j + runN digitB (s.data.toList.drop j) = z ∧ Blk wr g 37 #[.string s, .int .i64 j] ∧ w.grownBy wr (some g))
  case atStart => exact ⟨p, rfl, Nat.le_refl _, hz1, HN.out.symm, hg, World.grownBy.refl _ _⟩
  case round =>
    clear c0 c1 f0 f1 hgl
    obtain ⟨j, rfl, hpj, hjz, hrun, hg, ht⟩ := hrel
    obtain ⟨c0, c1, f0, f1, hgl⟩ := hg.two
    have HRN := Lib.hid hrun
    clear hrun
    by_cases hlt : j < s.size
    · have HC := Lib.hid (fun W => digit_any s[j] W)
      by_cases hq : digitB s[j] = true
      · have hk1 : j + 1 ≤ z ∧ (j + 1) + runN digitB (s.data.toList.drop (j + 1)) = z := by
          have h1 := HRN.out
          rw [HD.out j hlt, runN, if_pos hq] at h1
          omega
        have HK := Lib.hid hk1
        rw [hq] at HC
        clear hq hk1
        go_wp2_with fail
        go_quiet ((go_at_call 24; exact Calls.quiet_of_same ((HC.out _).mono fun _ _ h => ⟨h.1, h.2.symm⟩)))
        go_wp2_with fail
        go_roundg (z - (j + 1))
        case rel => exact ⟨j + 1, rfl, by omega, HK.out.1, HK.out.2, by rw [show ((j + 1 : Nat) : Int) = (j : Int) + 1 from by omega]; exact (hg.put 1 _), turn_drewN (turn_put ht 1 _) _⟩
        case measure => have := HK.out.1; omega
      · have hq' : digitB s[j] = false := by simpa using hq
        have hk0 : j = z := by
          have h1 := HRN.out
          rw [HD.out j hlt, runN, if_neg hq] at h1
          omega
        rw [hq'] at HC
        clear hq hq'
        subst hk0
        go_wp2_with fail
        go_quiet ((go_at_call 24; exact Calls.quiet_of_same ((HC.out _).mono fun _ _ h => ⟨h.1, h.2.symm⟩)))
        go_wp2_with fail
        go_quiet (fail)
        go_wp2_with fail
        go_ret
        exact ⟨rfl, hg, turn_drewN (turn_drewN ht _) _⟩
    · have hk0 : j = z := by omega
      subst hk0
      have hld : decide (j < s.size) = false := by simpa using hlt
      go_wp2_with fail
      go_quiet (fail)
      go_wp2_with fail
      go_quiet (fail)
      go_wp2_with fail
      go_ret
      exact ⟨rfl, hg, turn_drewN (turn_drewN ht _) _⟩
set_option maxHeartbeats 2000000 in
theorem run_quot (s : ByteArray) (p g : Nat) (w : World) (hp : p ≤ s.size) (hs : s.size ≤ 9223372036854775807) (hg : Blk w g 37 #[.string s, .int .i64 p]) :
    Calls Try.prog 20 #[.pointer (some ⟨g, 0, none⟩), .func (.func 34) #[] #[]] w fun e w' => e = .returned (.string (s.extract p (p + runN quotB (s.data.toList.drop p)))) ∧
      Blk w' g 37 #[.string s, .int .i64 ((p + runN quotB (s.data.toList.drop p) : Nat) : Int)] ∧ w.grownBy w' (some g) := by
  obtain ⟨c0, c1, f0, f1, hgl⟩ := hg.two
  have hR := runN_le quotB (s.data.toList.drop p)
  rw [List.length_drop, Array.length_toList, show s.data.size = s.size from rfl] at hR
  have HD := Lib.hid (fun k (h : k < s.size) => drop_at s k h)
  obtain ⟨z, hz⟩ : ∃ z, z = p + runN quotB (s.data.toList.drop p) := ⟨_, rfl⟩
  have hz1 : p ≤ z := by omega
  have hz2 : z ≤ s.size := by omega
  have HN := Lib.hid hz
  rw [← hz]
  clear hz hR
  go_enter Try.func20, Try.ntmps20
  go_wp2_with fail
  go_loopg [] (z - p) (fun m wr => ∃ j : Nat, m = z - j ∧ p ≤ j ∧ j ≤ z ∧ j + runN quotB (s.data.toList.drop j) = z ∧ Blk wr g 37 #[.string s, .int .i64 j] ∧ w.grownBy wr (some g))
  case atStart => exact ⟨p, rfl, Nat.le_refl _, hz1, HN.out.symm, hg, World.grownBy.refl _ _⟩
  case round =>
    clear c0 c1 f0 f1 hgl
    obtain ⟨j, rfl, hpj, hjz, hrun, hg, ht⟩ := hrel
    obtain ⟨c0, c1, f0, f1, hgl⟩ := hg.two
    have HRN := Lib.hid hrun
    clear hrun
    by_cases hlt : j < s.size
    · have HC := Lib.hid (fun W => tquot_any s[j] W)
      by_cases hq : quotB s[j] = true
      · have hk1 : j + 1 ≤ z ∧ (j + 1) + runN quotB (s.data.toList.drop (j + 1)) = z := by
          have h1 := HRN.out
          rw [HD.out j hlt, runN, if_pos hq] at h1
          omega
        have HK := Lib.hid hk1
        rw [hq] at HC
        clear hq hk1
        go_wp2_with fail
        go_quiet ((go_at_call 34; exact Calls.quiet_of_same ((HC.out _).mono fun _ _ h => ⟨h.1, h.2.symm⟩)))
        go_wp2_with fail
        go_roundg (z - (j + 1))
        case rel => exact ⟨j + 1, rfl, by omega, HK.out.1, HK.out.2, by rw [show ((j + 1 : Nat) : Int) = (j : Int) + 1 from by omega]; exact (hg.put 1 _), turn_drewN (turn_put ht 1 _) _⟩
        case measure => have := HK.out.1; omega
      · have hq' : quotB s[j] = false := by simpa using hq
        have hk0 : j = z := by
          have h1 := HRN.out
          rw [HD.out j hlt, runN, if_neg hq] at h1
          omega
        rw [hq'] at HC
        clear hq hq'
        subst hk0
        go_wp2_with fail
        go_quiet ((go_at_call 34; exact Calls.quiet_of_same ((HC.out _).mono fun _ _ h => ⟨h.1, h.2.symm⟩)))
        go_wp2_with fail
        go_quiet (fail)
        go_wp2_with fail
        go_ret
        exact ⟨rfl, hg, turn_drewN (turn_drewN ht _) _⟩
    · have hk0 : j = z := by omega
      subst hk0
      have hld : decide (j < s.size) = false := by simpa using hlt
      go_wp2_with fail
      go_quiet (fail)
      go_wp2_with fail
      go_quiet (fail)
      go_wp2_with fail
      go_ret
      exact ⟨rfl, hg, turn_drewN (turn_drewN ht _) _⟩
end Go.Proofs.Ytphaijjofmkjcaa
