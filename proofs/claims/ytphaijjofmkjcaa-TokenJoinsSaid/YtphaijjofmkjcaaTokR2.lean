/- The reference's word on what is wrong with a token. -/
import Derived.Test.YtphaijjofmkjcaaTokR1
namespace Go.Proofs.Ytphaijjofmkjcaa
open Go.RowKit
set_option maxHeartbeats 2000000 in
theorem wrong_any (k n : Nat) (x : UInt8) (t : ByteArray) (w : World) (hk : k ≤ 4) (hn : t.size = n) (hm : n ≤ maxLen) (hx : ∀ h : 0 < t.size, t[0] = x) :
    Calls Try.prog 16 #[.int .i64 k, .string t] w fun e w' => e = .returned (.int .i64 (wrongA k n x)) ∧ w = w' := by
  unfold maxLen at hm
  obtain rfl | rfl | rfl | rfl | rfl : k = 0 ∨ k = 1 ∨ k = 2 ∨ k = 3 ∨ k = 4 := by omega
  · go_enter Try.func16, Try.ntmps16
    go_wp2
    go_ret
    exact ⟨rfl, rfl⟩
  · by_cases h : 12 < n
    all_goals
      have HT : Hid (wrongA 1 n x = _) := Lib.hid (by simp only [wrongA, h]; rfl)
      subst hn
      go_enter Try.func16, Try.ntmps16
      go_wp2
      go_ret
      rw [HT.out]
      exact ⟨rfl, rfl⟩
  · by_cases h : 9 < n
    · have HT : Hid (wrongA 2 n x = 2) := Lib.hid (by simp [wrongA, h])
      subst hn
      go_enter Try.func16, Try.ntmps16
      go_wp2
      go_ret
      rw [HT.out]
      exact ⟨rfl, rfl⟩
    · by_cases h1 : 1 < n
      · have hx0 := hx (by omega)
        by_cases hx1 : x = 48
        · have HT : Hid (wrongA 2 n x = 1) := Lib.hid (by simp [wrongA, h, h1, hx1])
          subst hn
          have hx2 : ((t[0].toNat : Int) == 48) = true := by rw [hx0, hx1]; rfl
          clear hx0 hx hx1
          go_enter Try.func16, Try.ntmps16
          go_wp2
          go_ret
          rw [HT.out]
          exact ⟨rfl, rfl⟩
        · have HT : Hid (wrongA 2 n x = 0) := Lib.hid (by simp [wrongA, h, h1, hx1])
          subst hn
          have hx2 : ((t[0].toNat : Int) == 48) = false := by rw [hx0, beq_eq_false_iff_ne]; exact fun h => hx1 (UInt8.toNat_inj.1 (by rw [show (48 : UInt8).toNat = 48 from rfl]; omega))
          clear hx0 hx hx1
          go_enter Try.func16, Try.ntmps16
          go_wp2
          go_ret
          rw [HT.out]
          exact ⟨rfl, rfl⟩
      · have HT : Hid (wrongA 2 n x = 0) := Lib.hid (by simp [wrongA, h, h1])
        subst hn
        clear hx
        go_enter Try.func16, Try.ntmps16
        go_wp2
        go_ret
        rw [HT.out]
        exact ⟨rfl, rfl⟩
  · by_cases h : 22 < n
    all_goals
      have HT : Hid (wrongA 3 n x = _) := Lib.hid (by simp only [wrongA, h]; rfl)
      subst hn
      go_enter Try.func16, Try.ntmps16
      go_wp2
      go_ret
      rw [HT.out]
      exact ⟨rfl, rfl⟩
  · have HT : Hid (wrongA 4 n x = 0) := Lib.hid (by simp [wrongA])
    subst hn
    go_enter Try.func16, Try.ntmps16
    go_wp2
    go_ret
    rw [HT.out]
    exact ⟨rfl, rfl⟩
end Go.Proofs.Ytphaijjofmkjcaa
