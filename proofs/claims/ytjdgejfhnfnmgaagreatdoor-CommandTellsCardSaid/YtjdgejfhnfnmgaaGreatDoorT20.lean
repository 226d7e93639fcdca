/-  -/
import Derived.Test.YtjdgejfhnfnmgaaGreatDoorT15
import Derived.Test.YtjdgejfhnfnmgaaGreatDoorT9
import Derived.Test.YtjdgejfhnfnmgaaGreatDoorT19
import Derived.Test.YtjdgejfhnfnmgaaGreatDoorRows
import Derived.Test.YtjdgejfhnfnmgaaGreatDoorT0
import Derived.Test.YtjdgejfhnfnmgaaGreatDoorT17
import Derived.BigQuiet
import Derived.Deep.QuietTactic
import Derived.Handy
import Derived.Deep.LoopGhost
namespace Go.Proofs.YtjdgejfhnfnmgaaGreatDoor.Ax
open Go.RowKit
set_option linter.unusedSimpArgs false
attribute [local go_sem] ty3 ty4 ty9 ty27 ty29 ty24 ty32 ty137
set_option maxRecDepth 100000
theorem argsk_sp (k : Int) : Sp Tryz.prog 137 [.one (.lit (.int .i64 k))] (.one (.t true (.lit (.int .i64 (argsK k))))) [] := by
 unfold argsK
 by_cases c1 : k < 1
 ·have e1 : decide (k < 1) = true := decide_eq_true c1
  (refine en_ Tryz.func137 Tryz.ntmps137 Tryz.results137 fun X hX => ?_)
  (refine go_ e1 ?_)
  (first | exact oq_ an0 | refine ou_ an0 ?_)
  rw [if_pos (.inl c1)]
 by_cases c2 : 11 < k
 ·have e1 : decide (k < 1) = false := decide_eq_false c1
  have e2 : decide (11 < k) = true := decide_eq_true c2
  (refine en_ Tryz.func137 Tryz.ntmps137 Tryz.results137 fun X hX => ?_)
  (refine go_ (an2 e1 e2) ?_)
  (first | exact oq_ an0 | refine ou_ an0 ?_)
  rw [if_pos (.inr c2)]
 have e1 : decide (k < 1) = false := decide_eq_false c1
 have e2 : decide (11 < k) = false := decide_eq_false c2
 rw [if_neg (by omega)]
 by_cases c3 : k ≤ 2
 ·have e3 : decide (k ≤ 2) = true := decide_eq_true c3
  (refine en_ Tryz.func137 Tryz.ntmps137 Tryz.results137 fun X hX => ?_)
  (refine go_ (an3 e1 e2 e3) ?_)
  (first | exact oq_ an0 | refine ou_ an0 ?_)
  rw [if_pos c3]
 have e3 : decide (k ≤ 2) = false := decide_eq_false c3
 rw [if_neg c3]
 by_cases c4 : k ≤ 4
 ·have e4 : decide (k ≤ 4) = true := decide_eq_true c4
  (refine en_ Tryz.func137 Tryz.ntmps137 Tryz.results137 fun X hX => ?_)
  (refine go_ (an4 e1 e2 e3 e4) ?_)
  (first | exact oq_ an0 | refine ou_ an0 ?_)
  rw [if_pos c4]
 have e4 : decide (k ≤ 4) = false := decide_eq_false c4
 rw [if_neg c4]
 (refine en_ Tryz.func137 Tryz.ntmps137 Tryz.results137 fun X hX => ?_)
 (refine go_ (an4 e1 e2 e3 e4) ?_)
 (first | exact oq_ an0 | refine ou_ an0 ?_)
attribute [local go_sem] rE_mk
set_option maxHeartbeats 1000000 in
theorem size_sp (e : Ex) : ∀ m : Int, 0 ≤ m → m ≤ 100 → Sp Tryz.prog 77 [.agg (rE e), .one (.lit (.int .i64 m))] (.one (.t true (.lit (.int .i64 (sizeE e m))))) [] := by
 induction e using Ex.ind with
 | h k v nm ar ih =>
  intro m hm hm'
  rw [rE_mk, sizeE]
  (refine en_ Tryz.func77 Tryz.ntmps77 Tryz.results77 fun X hX => ?_)
  (refine go_ an0 ?_)
  refine cw_loop (fun z s => ∃ (i : Nat) (n : Int), i ≤ ar.length ∧ z = ar.length - i ∧ 1 ≤ n ∧ n ≤ m + 1 ∧ i < n ∧ sizeL (ar.drop i) m n = sizeL ar m 1 ∧ s = ⟨[(11, litI .i64 i), (10, litI .i64 ar.length), (9, .one (.t false (.sl (ar.map rE)))), (5, litI .i64 n), (1, .one (.t false (.lit (.int .i64 m))))], []⟩) ar.length ⟨_, ⟨0, 1, Nat.zero_le _, rfl, by omega, by omega, by omega, rfl, rfl⟩, le_⟩ ?_
  rintro z s ⟨i, n, hi, rfl, hn, hn', hin, hf, rfl⟩
  by_cases hlt : i < ar.length
  ·have e1 : decide ((i : Int) < (ar.length : Int)) = true := by simp; omega
   obtain ⟨x, hx⟩ : ∃ x, ar[i]? = some x := ⟨_, List.getElem?_eq_getElem hlt⟩
   have e4 : IntKind.i64.wrap ((i : Int) + 1) = ((i + 1 : Nat) : Int) := by rw [IntWalk.i64_in _ (by omega)]; rfl
   rw [drop_eq _ _ _ hx, sizeL] at hf
   have ih1 := ih x (List.mem_of_getElem? hx)
   have hb := sizeE_le x
   obtain ⟨k', v', nm', ar'⟩ := x
   rw [rE_mk] at ih1
   by_cases hmn : m < n
   ·have e2 : decide (m < n) = true := decide_eq_true hmn
    rw [if_pos hmn] at hf
    (refine go_ (an3 e1 e2 hx) ?_)
    (first | exact oq_ an0 | refine ou_ an0 ?_)
    rw [← hf]
   ·have e2 : decide (m < n) = false := decide_eq_false hmn
    rw [if_neg hmn] at hf
    have e5 : IntKind.i64.wrap (m - n) = m - n := IntWalk.i64_in _ (by omega)
    have hb1 := hb (m - n) (by omega)
    have e6 : IntKind.i64.wrap (n + sizeE (.mk k' v' nm' ar') (m - n)) = n + sizeE (.mk k' v' nm' ar') (m - n) := IntWalk.i64_in _ (by omega)
    (refine go_ (an3 e1 e2 hx) ?_)
    (refine rn_ 8 e5 fun K hK => ?_; refine rr_ e5 ?_)
    (refine ca_ (an2 e5 e6) ?_ (hsp := ih1 (m - n) (by omega) (by omega)); refine rr_ (an2 e5 e6) ?_)
    ((first | refine rwr_nil (hK _ ?_) | refine de_ (hK _ ?_)); clear hK K)
    (refine go_ e4 ?_)
    exact ⟨ar.length - (i + 1), by omega, _, ⟨i + 1, n + sizeE (.mk k' v' nm' ar') (m - n), by omega, rfl, by omega, by omega, by omega, hf, rfl⟩, le_⟩
  ·have e1 : decide ((i : Int) < (ar.length : Int)) = false := by simp; omega
   rw [List.drop_eq_nil_of_le (by omega)] at hf
   (refine go_ e1 ?_)
   (first | exact oq_ an0 | refine ou_ an0 ?_)
   rw [← hf, sizeL]
theorem sizes_le {n : Nat} (h : n ≤ 140737488351232) : n ≤ maxLen := by unfold maxLen; omega
theorem goodE.inv {k : Int} {v : Vl} {nm : ByteArray} {ar : List Ex} (h : goodE (.mk k v nm ar)) : goodV v ∧ ar.length ≤ maxLen ∧ ∀ a ∈ ar, goodE a := by
 cases h with
 | mk hk hv hn hl ha => exact ⟨hv, hl.2, ha⟩
theorem isEd (s : ByteArray) : (s.toList == ByteArray.empty.toList) = emptyS s := isE s
theorem vtype_sp (n : Int) : Sp Tryz.prog 47 [.one (.lit (.int .i64 n))] (.one (.t true (.lit (.bool (decide (1 ≤ n) && decide (n ≤ 3)))))) [] := by
 have hw : Sp Tryz.prog 79 [.one (.lit (.int .i64 n)), .one (.lit (.int .i64 1)), .one (.lit (.int .i64 3))] (.one (.t true (.lit (.bool (decide (1 ≤ n) && decide (n ≤ 3)))))) [] :=
  sp_lits (enters_of Tryz.func79 (by kernel_rfl) rfl) [.int .i64 n, .int .i64 1, .int .i64 3] _ rfl rfl fun w => (within_any n 1 3 w).mono fun _ _ h => ⟨h.1, h.2 ▸ Below.refl _ _⟩
 (refine en_ Tryz.func47 Tryz.ntmps47 Tryz.results47 fun X hX => ?_)
 (refine gs_ ?_)
 (refine rn_ 8 an0 fun K hK => ?_; refine rr_ an0 ?_)
 ((first | refine rwr_nil (hK _ ?_) | refine de_ (hK _ ?_)); clear hK K)
 (refine gs_ ?_)
 (refine rn_ 8 an0 fun K hK => ?_; refine rr_ an0 ?_)
 (refine ca_ an0 ?_ (hsp := hw); refine rr_ an0 ?_)
 ((first | refine rwr_nil (hK _ ?_) | refine de_ (hK _ ?_)); clear hK K)
 (refine go_ an0 ?_)
 (first | exact oq_ an0 | refine ou_ an0 ?_)
end Go.Proofs.YtjdgejfhnfnmgaaGreatDoor.Ax
namespace Go.Proofs.YtjdgejfhnfnmgaaGreatDoor.Ax
open Go.RowKit
set_option linter.unusedSimpArgs false
attribute [local go_sem] ty3 ty4 ty9 ty24 feq24 ty27 ty29
set_option maxRecDepth 100000
attribute [local go_sem] isE
set_option maxHeartbeats 4000000 in
theorem plain_sp (k : Int) (v : Vl) (nm : ByteArray) (ar : List Ex) : Sp Tryz.prog 86 [.agg (rE (.mk k v nm ar))] (.one (.t true (.lit (.bool (plainB k v nm ar.length))))) [] := by
 rw [rE_mk]
 have H := argsk_sp k
 (refine en_ Tryz.func86 Tryz.ntmps86 Tryz.results86 fun X hX => ?_)
 (refine go_ an0 ?_)
 cases e1 : ((ar.length : Int) == argsK k)
 ·(refine dr_ 0 an0 fun K hK => ?_)
  (refine dd_ e1 ?_)
  (first | refine dcf_ 0 an0 ?_ (hsp := H) | refine dc_ 0 an0 ?_ (hsp := H))
  (refine dd_ e1 ?_)
  (refine dd_ e1 ?_)
  ((first | refine rwr_nil (hK _ ?_) | refine de_ (hK _ ?_)); clear hK K)
  (refine go_ e1 ?_)
  (first | exact oq_ an0 | refine ou_ an0 ?_)
  simp [plainB, e1]
  try exact sameZ v
 have h : k = 1 ∨ k = 2 ∨ (k ≠ 1 ∧ k ≠ 2) := by omega
 rcases h with h | h | ⟨h, h'⟩
 ·subst h
  cases e3 : emptyS nm
  all_goals
   (refine dr_ 0 an0 fun K hK => ?_)
   (refine dd_ (an2 e1 e3) ?_)
   (first | refine dcf_ 0 an0 ?_ (hsp := H) | refine dc_ 0 an0 ?_ (hsp := H))
   (refine dd_ (an2 e1 e3) ?_)
   (refine dd_ (an2 e1 e3) ?_)
   ((first | refine rwr_nil (hK _ ?_) | refine de_ (hK _ ?_)); clear hK K)
   (refine go_ (an2 e1 e3) ?_)
   (first | exact oq_ an0 | refine ou_ an0 ?_)
   simp [plainB, e1, e3]
 ·subst h
  (refine dr_ 0 an0 fun K hK => ?_)
  (refine dd_ e1 ?_)
  (first | refine dcf_ 0 an0 ?_ (hsp := H) | refine dc_ 0 an0 ?_ (hsp := H))
  (refine dd_ e1 ?_)
  (refine dd_ e1 ?_)
  ((first | refine rwr_nil (hK _ ?_) | refine de_ (hK _ ?_)); clear hK K)
  (refine go_ e1 ?_)
  (first | exact oq_ an0 | refine ou_ an0 ?_)
  simp [plainB, e1]
  try exact sameZ v
 ·have e2 : (k == 1) = false := by simpa using h
  have e2' : (k == 2) = false := by simpa using h'
  cases e3 : emptyS nm
  all_goals
   (refine dr_ 0 an0 fun K hK => ?_)
   (refine dd_ (an4 e1 e2 e2' e3) ?_)
   (first | refine dcf_ 0 an0 ?_ (hsp := H) | refine dc_ 0 an0 ?_ (hsp := H))
   (refine dd_ (an4 e1 e2 e2' e3) ?_)
   (refine dd_ (an4 e1 e2 e2' e3) ?_)
   ((first | refine rwr_nil (hK _ ?_) | refine de_ (hK _ ?_)); clear hK K)
   (refine go_ (an4 e1 e2 e2' e3) ?_)
   (first | exact oq_ an0 | refine ou_ an0 ?_)
   simp [plainB, e1, e2, e2', e3]
   try exact sameZ v
end Go.Proofs.YtjdgejfhnfnmgaaGreatDoor.Ax
namespace Go.Proofs.YtjdgejfhnfnmgaaGreatDoor.Ax
open Go.RowKit
set_option linter.unusedSimpArgs false
attribute [local go_sem] ty3 ty4 ty9 ty24 feq24 ty27 ty29
set_option maxRecDepth 100000
attribute [local go_sem] isE
end Go.Proofs.YtjdgejfhnfnmgaaGreatDoor.Ax
namespace Go.Proofs.YtjdgejfhnfnmgaaGreatDoor
open Go.RowKit
theorem letter_any (c : UInt8) (w : World) :
  Calls Tryz.prog 91 #[.int .u8 c.toNat] w fun e w' => e = .returned (.bool (letterB c)) ∧ w = w' := by
 by_cases h1 : 97 ≤ (c.toNat : Int) <;> by_cases h2 : (c.toNat : Int) ≤ 122
 all_goals
  try (exfalso; omega)
 all_goals
  go_enter Tryz.func91, Tryz.ntmps91
  go_wp2
  go_ret
  exact ⟨by simp [letterB, h1, h2], rfl⟩
theorem digit_any (c : UInt8) (w : World) :
  Calls Tryz.prog 93 #[.int .u8 c.toNat] w fun e w' => e = .returned (.bool (digitB c)) ∧ w = w' := by
 by_cases h1 : 48 ≤ (c.toNat : Int) <;> by_cases h2 : (c.toNat : Int) ≤ 57
 all_goals
  try (exfalso; omega)
 all_goals
  go_enter Tryz.func93, Tryz.ntmps93
  go_wp2
  go_ret
  exact ⟨by simp [digitB, h1, h2], rfl⟩
theorem tquot1_any (c : UInt8) (w : World) :
  Calls Tryz.prog 139 #[.int .u8 c.toNat] w fun e w' => e = .returned (.bool (quotB c)) ∧ w = w' := by
 by_cases h1 : 32 ≤ (c.toNat : Int) <;> by_cases h2 : (c.toNat : Int) ≤ 126 <;> by_cases h3 : (c.toNat : Int) = 39
 all_goals
  try (exfalso; omega)
 all_goals
  have H3 := Lib.hid h3
  try have h4 : ((c.toNat : Int) != 39) = true := by simpa using h3
  try have h4 : ((c.toNat : Int) != 39) = false := by simpa using h3
  clear h3
  go_enter Tryz.func139, Tryz.ntmps139
  go_wp2
  go_ret
  exact ⟨by simp [quotB, h1, h2, H3.out], rfl⟩
theorem blank_any (c : UInt8) (w : World) :
  Calls Tryz.prog 90 #[.int .u8 c.toNat] w fun e w' => e = .returned (.bool (blankB c)) ∧ w = w' := by
 have hb : blankB c = (((c.toNat : Int) == 32) || ((c.toNat : Int) == 9) || ((c.toNat : Int) == 10)) := rfl
 have HB := Lib.hid hb
 clear hb
 rcases h1 : ((c.toNat : Int) == 32) with _ | _ <;> rcases h2 : ((c.toNat : Int) == 9) with _ | _ <;> rcases h3 : ((c.toNat : Int) == 10) with _ | _
 all_goals
  rw [h1, h2, h3] at HB
  go_enter Tryz.func90, Tryz.ntmps90
  go_wp2
  go_ret
  exact ⟨by rw [HB.out]; rfl, rfl⟩
theorem word_any (c : UInt8) (w : World) :
  Calls Tryz.prog 92 #[.int .u8 c.toNat] w fun e w' => e = .returned (.bool (wordB c)) ∧ w = w' := by
 have HB : Hid (wordB c = (letterB c || digitB c)) := Lib.hid rfl
 have H1 := Lib.hid (letter_any c)
 have H2 := Lib.hid (digit_any c)
 generalize letterB c = a at *
 generalize digitB c = b at *
 cases a
 ·go_enter Tryz.func92, Tryz.ntmps92
  go_wp2_with fail
  refine (H1.out w).mono ?_
  rintro e w1 ⟨rfl, rfl⟩
  go_wp2_with fail
  refine (H2.out w).mono ?_
  rintro e w1 ⟨rfl, rfl⟩
  go_wp2_with fail
  go_ret
  exact ⟨by rw [HB.out]; simp, rfl⟩
 ·go_enter Tryz.func92, Tryz.ntmps92
  go_wp2_with fail
  refine (H1.out w).mono ?_
  rintro e w1 ⟨rfl, rfl⟩
  go_wp2_with fail
  go_ret
  exact ⟨by rw [HB.out]; simp, rfl⟩
end Go.Proofs.YtjdgejfhnfnmgaaGreatDoor
namespace Go.Proofs.YtjdgejfhnfnmgaaGreatDoor
open Go.RowKit
set_option maxHeartbeats 2000000 in
theorem run_blank (s : ByteArray) (p g : Nat) (w : World) (hp : p ≤ s.size) (hs : s.size ≤ 9223372036854775807) (hg : Blk w g 80 #[.string s, .int .i64 p]) :
  Calls Tryz.prog 89 #[.pointer (some ⟨g, 0, none⟩), .func (.func 90) #[] #[]] w fun e w' => e = .returned (.string (s.extract p (p + runN blankB (s.data.toList.drop p)))) ∧
   Blk w' g 80 #[.string s, .int .i64 ((p + runN blankB (s.data.toList.drop p) : Nat) : Int)] ∧ w.grownBy w' (some g) := by
 obtain ⟨c0, c1, f0, f1, hgl⟩ := hg.two
 have hR := runN_le blankB (s.data.toList.drop p)
 rw [List.length_drop, Array.length_toList, show s.data.size = s.size from rfl] at hR
 have HD := Lib.hid (fun k (h : k < s.size) => drop_at s k h)
 obtain ⟨z, hz⟩ : ∃ z, z = p + runN blankB (s.data.toList.drop p) := ⟨_, rfl⟩
 have hz1 : p ≤ z := by omega
 have hz2 : z ≤ s.size := by omega
 have HN := Lib.hid hz
 rw [← hz]
 clear hz hR
 go_enter Tryz.func89, Tryz.ntmps89
 go_wp2_with fail
 go_loopg [] (z - p) (fun m wr => ∃ j : Nat, m = z - j ∧ p ≤ j ∧ j ≤ z ∧ j + runN blankB (s.data.toList.drop j) = z ∧ Blk wr g 80 #[.string s, .int .i64 j] ∧ w.grownBy wr (some g))
 case atStart => exact ⟨p, rfl, Nat.le_refl _, hz1, HN.out.symm, hg, World.grownBy.refl _ _⟩
 case round =>
  clear c0 c1 f0 f1 hgl
  obtain ⟨j, rfl, hpj, hjz, hrun, hg, ht⟩ := hrel
  obtain ⟨c0, c1, f0, f1, hgl⟩ := hg.two
  have HRN := Lib.hid hrun
  clear hrun
  by_cases hlt : j < s.size
  ·have HC := Lib.hid (fun W => blank_any s[j] W)
   by_cases hq : blankB s[j] = true
   ·have hk1 : j + 1 ≤ z ∧ (j + 1) + runN blankB (s.data.toList.drop (j + 1)) = z := by
     have h1 := HRN.out
     rw [HD.out j hlt, runN, if_pos hq] at h1
     omega
    have HK := Lib.hid hk1
    rw [hq] at HC
    clear hq hk1
    go_wp2_with fail
    go_quiet ((go_at_call 90; exact Calls.quiet_of_same ((HC.out _).mono fun _ _ h => ⟨h.1, h.2.symm⟩)))
    go_wp2_with fail
    go_roundg (z - (j + 1))
    case rel => exact ⟨j + 1, rfl, by omega, HK.out.1, HK.out.2, by rw [show ((j + 1 : Nat) : Int) = (j : Int) + 1 from by omega]; exact (hg.put 1 _), turn_drewN (turn_put ht 1 _) _⟩
    case measure => have := HK.out.1; omega
   ·have hq' : blankB s[j] = false := by simpa using hq
    have hk0 : j = z := by
     have h1 := HRN.out
     rw [HD.out j hlt, runN, if_neg hq] at h1
     omega
    rw [hq'] at HC
    clear hq hq'
    subst hk0
    go_wp2_with fail
    go_quiet ((go_at_call 90; exact Calls.quiet_of_same ((HC.out _).mono fun _ _ h => ⟨h.1, h.2.symm⟩)))
    go_wp2_with fail
    go_quiet (fail)
    go_wp2_with fail
    go_ret
    exact ⟨rfl, hg, turn_drewN (turn_drewN ht _) _⟩
  ·have hk0 : j = z := by omega
   subst hk0
   have hld : decide (j < s.size) = false := by simpa using hlt
   go_wp2_with fail
   go_quiet (fail)
   go_wp2_with fail
   go_quiet (fail)
   go_wp2_with fail
   go_ret
   exact ⟨rfl, hg, turn_drewN (turn_drewN ht _) _⟩
set_option maxHeartbeats 2000000 in
theorem run_word (s : ByteArray) (p g : Nat) (w : World) (hp : p ≤ s.size) (hs : s.size ≤ 9223372036854775807) (hg : Blk w g 80 #[.string s, .int .i64 p]) :
  Calls Tryz.prog 89 #[.pointer (some ⟨g, 0, none⟩), .func (.func 92) #[] #[]] w fun e w' => e = .returned (.string (s.extract p (p + runN wordB (s.data.toList.drop p)))) ∧
   Blk w' g 80 #[.string s, .int .i64 ((p + runN wordB (s.data.toList.drop p) : Nat) : Int)] ∧ w.grownBy w' (some g) := by
 obtain ⟨c0, c1, f0, f1, hgl⟩ := hg.two
 have hR := runN_le wordB (s.data.toList.drop p)
 rw [List.length_drop, Array.length_toList, show s.data.size = s.size from rfl] at hR
 have HD := Lib.hid (fun k (h : k < s.size) => drop_at s k h)
 obtain ⟨z, hz⟩ : ∃ z, z = p + runN wordB (s.data.toList.drop p) := ⟨_, rfl⟩
 have hz1 : p ≤ z := by omega
 have hz2 : z ≤ s.size := by omega
 have HN := Lib.hid hz
 rw [← hz]
 clear hz hR
 go_enter Tryz.func89, Tryz.ntmps89
 go_wp2_with fail
 go_loopg [] (z - p) (fun m wr => ∃ j : Nat, m = z - j ∧ p ≤ j ∧ j ≤ z ∧ j + runN wordB (s.data.toList.drop j) = z ∧ Blk wr g 80 #[.string s, .int .i64 j] ∧ w.grownBy wr (some g))
 case atStart => exact ⟨p, rfl, Nat.le_refl _, hz1, HN.out.symm, hg, World.grownBy.refl _ _⟩
 case round =>
  clear c0 c1 f0 f1 hgl
  obtain ⟨j, rfl, hpj, hjz, hrun, hg, ht⟩ := hrel
  obtain ⟨c0, c1, f0, f1, hgl⟩ := hg.two
  have HRN := Lib.hid hrun
  clear hrun
  by_cases hlt : j < s.size
  ·have HC := Lib.hid (fun W => word_any s[j] W)
   by_cases hq : wordB s[j] = true
   ·have hk1 : j + 1 ≤ z ∧ (j + 1) + runN wordB (s.data.toList.drop (j + 1)) = z := by
     have h1 := HRN.out
     rw [HD.out j hlt, runN, if_pos hq] at h1
     omega
    have HK := Lib.hid hk1
    rw [hq] at HC
    clear hq hk1
    go_wp2_with fail
    go_quiet ((go_at_call 92; exact Calls.quiet_of_same ((HC.out _).mono fun _ _ h => ⟨h.1, h.2.symm⟩)))
    go_wp2_with fail
    go_roundg (z - (j + 1))
    case rel => exact ⟨j + 1, rfl, by omega, HK.out.1, HK.out.2, by rw [show ((j + 1 : Nat) : Int) = (j : Int) + 1 from by omega]; exact (hg.put 1 _), turn_drewN (turn_put ht 1 _) _⟩
    case measure => have := HK.out.1; omega
   ·have hq' : wordB s[j] = false := by simpa using hq
    have hk0 : j = z := by
     have h1 := HRN.out
     rw [HD.out j hlt, runN, if_neg hq] at h1
     omega
    rw [hq'] at HC
    clear hq hq'
    subst hk0
    go_wp2_with fail
    go_quiet ((go_at_call 92; exact Calls.quiet_of_same ((HC.out _).mono fun _ _ h => ⟨h.1, h.2.symm⟩)))
    go_wp2_with fail
    go_quiet (fail)
    go_wp2_with fail
    go_ret
    exact ⟨rfl, hg, turn_drewN (turn_drewN ht _) _⟩
  ·have hk0 : j = z := by omega
   subst hk0
   have hld : decide (j < s.size) = false := by simpa using hlt
   go_wp2_with fail
   go_quiet (fail)
   go_wp2_with fail
   go_quiet (fail)
   go_wp2_with fail
   go_ret
   exact ⟨rfl, hg, turn_drewN (turn_drewN ht _) _⟩
set_option maxHeartbeats 2000000 in
theorem run_digit (s : ByteArray) (p g : Nat) (w : World) (hp : p ≤ s.size) (hs : s.size ≤ 9223372036854775807) (hg : Blk w g 80 #[.string s, .int .i64 p]) :
  Calls Tryz.prog 89 #[.pointer (some ⟨g, 0, none⟩), .func (.func 93) #[] #[]] w fun e w' => e = .returned (.string (s.extract p (p + runN digitB (s.data.toList.drop p)))) ∧
   Blk w' g 80 #[.string s, .int .i64 ((p + runN digitB (s.data.toList.drop p) : Nat) : Int)] ∧ w.grownBy w' (some g) := by
 obtain ⟨c0, c1, f0, f1, hgl⟩ := hg.two
 have hR := runN_le digitB (s.data.toList.drop p)
 rw [List.length_drop, Array.length_toList, show s.data.size = s.size from rfl] at hR
 have HD := Lib.hid (fun k (h : k < s.size) => drop_at s k h)
 obtain ⟨z, hz⟩ : ∃ z, z = p + runN digitB (s.data.toList.drop p) := ⟨_, rfl⟩
 have hz1 : p ≤ z := by omega
 have hz2 : z ≤ s.size := by omega
 have HN := Lib.hid hz
 rw [← hz]
 clear hz hR
 go_enter Tryz.func89, Tryz.ntmps89
 go_wp2_with fail
 go_loopg [] (z - p) (fun m wr => ∃ j : Nat, m = z - j ∧ p ≤ j ∧ j ≤ z ∧ j + runN digitB (s.data.toList.drop j) = z ∧ Blk wr g 80 #[.string s, .int .i64 j] ∧ w.grownBy wr (some g))
 case atStart => exact ⟨p, rfl, Nat.le_refl _, hz1, HN.out.symm, hg, World.grownBy.refl _ _⟩
 case round =>
  clear c0 c1 f0 f1 hgl
  obtain ⟨j, rfl, hpj, hjz, hrun, hg, ht⟩ := hrel
  obtain ⟨c0, c1, f0, f1, hgl⟩ := hg.two
  have HRN := Lib.hid hrun
  clear hrun
  by_cases hlt : j < s.size
  ·have HC := Lib.hid (fun W => digit_any s[j] W)
   by_cases hq : digitB s[j] = true
   ·have hk1 : j + 1 ≤ z ∧ (j + 1) + runN digitB (s.data.toList.drop (j + 1)) = z := by
     have h1 := HRN.out
     rw [HD.out j hlt, runN, if_pos hq] at h1
     omega
    have HK := Lib.hid hk1
    rw [hq] at HC
    clear hq hk1
    go_wp2_with fail
    go_quiet ((go_at_call 93; exact Calls.quiet_of_same ((HC.out _).mono fun _ _ h => ⟨h.1, h.2.symm⟩)))
    go_wp2_with fail
    go_roundg (z - (j + 1))
    case rel => exact ⟨j + 1, rfl, by omega, HK.out.1, HK.out.2, by rw [show ((j + 1 : Nat) : Int) = (j : Int) + 1 from by omega]; exact (hg.put 1 _), turn_drewN (turn_put ht 1 _) _⟩
    case measure => have := HK.out.1; omega
   ·have hq' : digitB s[j] = false := by simpa using hq
    have hk0 : j = z := by
     have h1 := HRN.out
     rw [HD.out j hlt, runN, if_neg hq] at h1
     omega
    rw [hq'] at HC
    clear hq hq'
    subst hk0
    go_wp2_with fail
    go_quiet ((go_at_call 93; exact Calls.quiet_of_same ((HC.out _).mono fun _ _ h => ⟨h.1, h.2.symm⟩)))
    go_wp2_with fail
    go_quiet (fail)
    go_wp2_with fail
    go_ret
    exact ⟨rfl, hg, turn_drewN (turn_drewN ht _) _⟩
  ·have hk0 : j = z := by omega
   subst hk0
   have hld : decide (j < s.size) = false := by simpa using hlt
   go_wp2_with fail
   go_quiet (fail)
   go_wp2_with fail
   go_quiet (fail)
   go_wp2_with fail
   go_ret
   exact ⟨rfl, hg, turn_drewN (turn_drewN ht _) _⟩
set_option maxHeartbeats 2000000 in
theorem run_quot (s : ByteArray) (p g : Nat) (w : World) (hp : p ≤ s.size) (hs : s.size ≤ 9223372036854775807) (hg : Blk w g 80 #[.string s, .int .i64 p]) :
  Calls Tryz.prog 89 #[.pointer (some ⟨g, 0, none⟩), .func (.func 139) #[] #[]] w fun e w' => e = .returned (.string (s.extract p (p + runN quotB (s.data.toList.drop p)))) ∧
   Blk w' g 80 #[.string s, .int .i64 ((p + runN quotB (s.data.toList.drop p) : Nat) : Int)] ∧ w.grownBy w' (some g) := by
 obtain ⟨c0, c1, f0, f1, hgl⟩ := hg.two
 have hR := runN_le quotB (s.data.toList.drop p)
 rw [List.length_drop, Array.length_toList, show s.data.size = s.size from rfl] at hR
 have HD := Lib.hid (fun k (h : k < s.size) => drop_at s k h)
 obtain ⟨z, hz⟩ : ∃ z, z = p + runN quotB (s.data.toList.drop p) := ⟨_, rfl⟩
 have hz1 : p ≤ z := by omega
 have hz2 : z ≤ s.size := by omega
 have HN := Lib.hid hz
 rw [← hz]
 clear hz hR
 go_enter Tryz.func89, Tryz.ntmps89
 go_wp2_with fail
 go_loopg [] (z - p) (fun m wr => ∃ j : Nat, m = z - j ∧ p ≤ j ∧ j ≤ z ∧ j + runN quotB (s.data.toList.drop j) = z ∧ Blk wr g 80 #[.string s, .int .i64 j] ∧ w.grownBy wr (some g))
 case atStart => exact ⟨p, rfl, Nat.le_refl _, hz1, HN.out.symm, hg, World.grownBy.refl _ _⟩
 case round =>
  clear c0 c1 f0 f1 hgl
  obtain ⟨j, rfl, hpj, hjz, hrun, hg, ht⟩ := hrel
  obtain ⟨c0, c1, f0, f1, hgl⟩ := hg.two
  have HRN := Lib.hid hrun
  clear hrun
  by_cases hlt : j < s.size
  ·have HC := Lib.hid (fun W => tquot1_any s[j] W)
   by_cases hq : quotB s[j] = true
   ·have hk1 : j + 1 ≤ z ∧ (j + 1) + runN quotB (s.data.toList.drop (j + 1)) = z := by
     have h1 := HRN.out
     rw [HD.out j hlt, runN, if_pos hq] at h1
     omega
    have HK := Lib.hid hk1
    rw [hq] at HC
    clear hq hk1
    go_wp2_with fail
    go_quiet ((go_at_call 139; exact Calls.quiet_of_same ((HC.out _).mono fun _ _ h => ⟨h.1, h.2.symm⟩)))
    go_wp2_with fail
    go_roundg (z - (j + 1))
    case rel => exact ⟨j + 1, rfl, by omega, HK.out.1, HK.out.2, by rw [show ((j + 1 : Nat) : Int) = (j : Int) + 1 from by omega]; exact (hg.put 1 _), turn_drewN (turn_put ht 1 _) _⟩
    case measure => have := HK.out.1; omega
   ·have hq' : quotB s[j] = false := by simpa using hq
    have hk0 : j = z := by
     have h1 := HRN.out
     rw [HD.out j hlt, runN, if_neg hq] at h1
     omega
    rw [hq'] at HC
    clear hq hq'
    subst hk0
    go_wp2_with fail
    go_quiet ((go_at_call 139; exact Calls.quiet_of_same ((HC.out _).mono fun _ _ h => ⟨h.1, h.2.symm⟩)))
    go_wp2_with fail
    go_quiet (fail)
    go_wp2_with fail
    go_ret
    exact ⟨rfl, hg, turn_drewN (turn_drewN ht _) _⟩
  ·have hk0 : j = z := by omega
   subst hk0
   have hld : decide (j < s.size) = false := by simpa using hlt
   go_wp2_with fail
   go_quiet (fail)
   go_wp2_with fail
   go_quiet (fail)
   go_wp2_with fail
   go_ret
   exact ⟨rfl, hg, turn_drewN (turn_drewN ht _) _⟩
end Go.Proofs.YtjdgejfhnfnmgaaGreatDoor
