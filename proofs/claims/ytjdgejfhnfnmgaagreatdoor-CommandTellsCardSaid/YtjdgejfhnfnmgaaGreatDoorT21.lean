/-  -/
import Derived.Test.YtjdgejfhnfnmgaaGreatDoorT20
namespace Go.Proofs.YtjdgejfhnfnmgaaGreatDoor
open Go.RowKit
set_option maxHeartbeats 1000000 in
theorem skip_any (s : ByteArray) (p g : Nat) (w : World) (hp : p ≤ s.size) (hs : s.size ≤ 9223372036854775807) (hg : Blk w g 80 #[.string s, .int .i64 p]) :
  Calls Tryz.prog 52 #[.pointer (some ⟨g, 0, none⟩)] w fun e w' => e = .returned (.tuple #[]) ∧
   Blk w' g 80 #[.string s, .int .i64 ((p + runN blankB (s.data.toList.drop p) : Nat) : Int)] ∧ w.grownBy w' (some g) := by
 go_enter Tryz.func52, Tryz.ntmps52
 go_wp2_with fail
 refine (run_blank s p g w hp hs hg).mono ?_
 rintro e w1 ⟨rfl, hg1, ht1⟩
 go_wp2_with fail
 go_end0
 exact ⟨rfl, hg1, ht1⟩
theorem quotEnds_at (s : ByteArray) (p n : Nat) (hn : n = runN quotB (s.data.toList.drop (p + 1))) : quotEnds (s.data.toList.drop (p + 1)) = if h : p + 1 + n < s.size then s[p + 1 + n] == 39 else false := by
 simp only [quotEnds, quotN, ← hn, List.drop_drop]
 split
 ·rename_i x l hx
  have hlt : p + 1 + n < s.size := by
   rcases Nat.lt_or_ge (p + 1 + n) s.size with h | h
   ·exact h
   ·rw [drop_off s (p + 1 + n) (by omega)] at hx; cases hx
  rw [dif_pos hlt]
  rw [drop_at s (p + 1 + n) hlt] at hx
  injection hx with h1 _
  rw [h1]
 ·rename_i hx
  rw [dif_neg]
  intro hlt
  rw [drop_at s (p + 1 + n) hlt] at hx
  cases hx
theorem quoted_text (s : ByteArray) (p n : Nat) (hp : p < s.size) (h39 : s[p] = 39) (hz : p + 1 + n < s.size) (hzz : s[p + 1 + n] = 39) :
  (⟨#[39]⟩ ++ s.extract (p + 1) (p + 1 + n)) ++ ⟨#[39]⟩ = s.extract p (p + 1 + n + 1) := by
 have e1 : (⟨#[39]⟩ : ByteArray) = bs [39] := rfl
 rw [e1, extract_mid s (p + 1) n, bs_append, bs_append, show p + 1 + n + 1 = p + (n + 2) by omega, extract_mid s p (n + 2)]
 congr 1
 rw [drop_at s p hp, h39, List.take_succ_cons]
 simp only [List.cons_append, List.cons.injEq, true_and]
 rw [List.take_add_one, List.getElem?_drop, List.getElem?_eq_getElem (by simpa using hz)]
 have : s.data.toList[p + 1 + n]'(by simpa using hz) = 39 := hzz
 rw [this]
 rfl
theorem bars_text (s : ByteArray) (p : Nat) (hp : p < s.size) (h : bars (s[p] :: s.data.toList.drop (p + 1)) = true) : p + 2 ≤ s.size ∧ s.extract p (p + 2) = ⟨#[124, 124]⟩ := by
 rw [← drop_at s p hp] at h
 have h1 : [124, 124] <+: s.data.toList.drop p := List.isPrefixOf_iff_prefix.1 h
 obtain ⟨r, hr⟩ := h1
 have hl : (s.data.toList.drop p).length = s.size - p := by rw [List.length_drop, Array.length_toList]; rfl
 rw [← hr] at hl
 simp at hl
 refine ⟨by omega, ?_⟩
 rw [extract_mid s p 2, ← hr]
 rfl
def QuotedPost (s : ByteArray) (p g : Nat) (w : World) (e : Ending) (w' : World) : Prop :=
 ∃ (t : ByteArray) (x : Nat) (j : Nat), e = .returned (.tuple #[.string t, .int .i64 x]) ∧ j ≤ s.size ∧ Blk w' g 80 #[.string s, .int .i64 j] ∧ w.grownBy w' (some g) ∧
  (quotEnds (s.data.toList.drop (p + 1)) = false → x = 1) ∧
  (quotEnds (s.data.toList.drop (p + 1)) = true → j = p + (quotN (s.data.toList.drop (p + 1)) + 2) ∧ x = (if 20 < quotN (s.data.toList.drop (p + 1)) then 2 else 0) ∧ (x = 0 → t = s.extract p (p + (quotN (s.data.toList.drop (p + 1)) + 2))))
set_option maxHeartbeats 2000000 in
theorem quoted_any (s : ByteArray) (p g : Nat) (w : World) (hp : p < s.size) (h39 : s[p] = 39) (hs : s.size ≤ 2000) (hg : Blk w g 80 #[.string s, .int .i64 p]) :
  Calls Tryz.prog 94 #[.pointer (some ⟨g, 0, none⟩)] w (QuotedPost s p g w) := by
 obtain ⟨c0, c1, f0, f1, hgl⟩ := hg.two
 have hR := runN_le quotB (s.data.toList.drop (p + 1))
 rw [List.length_drop, Array.length_toList, show s.data.size = s.size from rfl] at hR
 obtain ⟨n, hn⟩ : ∃ n, n = runN quotB (s.data.toList.drop (p + 1)) := ⟨_, rfl⟩
 have HE := Lib.hid (quotEnds_at s p n hn)
 have HQ : Hid (quotN (s.data.toList.drop (p + 1)) = n) := Lib.hid hn.symm
 have HX := Lib.hid (fun hz hzz => quoted_text s p n hp h39 hz hzz)
 have HC := Lib.hid (run_quot s (p + 1) g (w.setCell ⟨g, 1, none⟩ (.int .i64 ((p : Int) + 1))) (by omega) (by omega) (by exact (hg.put 1 (.int .i64 ((p : Int) + 1)))))
 rw [← hn] at HC hR
 obtain ⟨T, hT⟩ : ∃ T, T = s.extract (p + 1) (p + 1 + n) := ⟨_, rfl⟩
 have hT1 : T.size = n := by rw [hT, ByteArray.size_extract]; omega
 have hT2 : T.size ≤ n := by omega
 have hT3 : n ≤ T.size := by omega
 rw [← hT] at HC HX
 clear hT hT1 hn h39
 go_enter Tryz.func94, Tryz.ntmps94
 go_wp2_with fail
 refine HC.out.mono ?_
 rintro e w1 ⟨rfl, hg1, ht1⟩
 have ht1 := (turn_put (World.grownBy.refl w (some g)) 1 (.int .i64 ((p : Int) + 1))).trans ht1
 obtain ⟨d0, d1, e0, e1, hgl1⟩ := hg1.two
 clear c0 c1 f0 f1
 obtain ⟨z, hz⟩ : ∃ z, z = p + 1 + n := ⟨_, rfl⟩
 rw [← hz] at hg1 d1 HE HX
 have hz1 : p + 1 + n ≤ z := by omega
 have hz2 : z ≤ p + 1 + n := by omega
 clear hz
 by_cases hzs : z < s.size
 ·have hb : ((z : Int) == (s.size : Int)) = false := by rw [beq_eq_false_iff_ne]; omega
  by_cases hq : s[z].toNat = 39
  ·have hb2 : ((s[z].toNat : Int) != 39) = false := by simp [hq]
   have hE : quotEnds (s.data.toList.drop (p + 1)) = true := by rw [HE.out, dif_pos hzs, beq_iff_eq]; exact UInt8.toNat_inj.1 hq
   have hqq : s[z] = 39 := UInt8.toNat_inj.1 hq
   have HX := Lib.hid (HX.out hzs hqq)
   have HEE := Lib.hid hE
   clear hq hE hqq HE
   by_cases h20 : 20 < n
   all_goals
    go_wp2_with fail
    go_quiet (fail)
    go_wp2_with fail
    go_ret2
   ·refine ⟨_, 2, z + 1, rfl, by omega, by exact (hg1.put 1 _), turn_drewN (turn_put ht1 1 _) _, (fun h => by rw [HEE.out] at h; cases h), fun _ => ⟨by rw [HQ.out]; omega, by rw [HQ.out, if_pos h20], (fun h => by cases h)⟩⟩
   ·refine ⟨_, 0, z + 1, rfl, by omega, by exact (hg1.put 1 _), turn_drewN (turn_put ht1 1 _) _, (fun h => by rw [HEE.out] at h; cases h), fun _ => ⟨by rw [HQ.out]; omega, by rw [HQ.out, if_neg h20], fun _ => ?_⟩⟩
    rw [HQ.out, show p + (n + 2) = z + 1 by omega, ← HX.out]
  ·have hb2 : ((s[z].toNat : Int) != 39) = true := by simp; omega
   have hE : quotEnds (s.data.toList.drop (p + 1)) = false := by rw [HE.out, dif_pos hzs, beq_eq_false_iff_ne]; exact fun h => hq (by rw [h]; rfl)
   have HEE := Lib.hid hE
   clear hq hE HE
   go_wp2_with fail
   go_quiet (fail)
   go_wp2_with fail
   go_ret2
   exact ⟨_, 1, z, rfl, by omega, hg1, turn_drewN ht1 _, fun _ => rfl, fun h => by rw [HEE.out] at h; cases h⟩
 ·have hb : ((z : Int) == (s.size : Int)) = true := by rw [beq_iff_eq]; omega
  have hE : quotEnds (s.data.toList.drop (p + 1)) = false := by rw [HE.out, dif_neg hzs]
  have HEE := Lib.hid hE
  clear hE HE
  go_wp2_with fail
  go_quiet (fail)
  go_wp2_with fail
  go_ret2
  exact ⟨_, 1, z, rfl, by omega, hg1, turn_drewN ht1 _, fun _ => rfl, fun h => by rw [HEE.out] at h; cases h⟩
end Go.Proofs.YtjdgejfhnfnmgaaGreatDoor
