/-  -/
import Derived.Test.YtjdgejfhnfnmgaaGreatDoorM19
import Derived.Test.YtjdgejfhnfnmgaaGreatDoorAxW
import Derived.Test.YtjdgejfhnfnmgaaGreatDoorAxG5
import Derived.Test.YtjdgejfhnfnmgaaGreatDoorM16
import Derived.Test.YtjdgejfhnfnmgaaGreatDoorM18
import Derived.Test.YtjdgejfhnfnmgaaGreatDoorM17
import Derived.Test.YtjdgejfhnfnmgaaGreatDoorM12
namespace Go.Proofs.YtjdgejfhnfnmgaaGreatDoor.Ax
open Go.RowKit
theorem opensColE (N : Nat) : OpensE Tryz.prog N 2 rC1 54 goodC :=
 oeTo (oeStruct (f := fun x : ByteArray × Int => [.lit (.string x.1)] ++ [.lit (.int .i64 x.2)]) (sz := 1 + 1) Tryz.underlying54 (ts := [9, 3]) rfl (by kernel_rfl) (by kernel_rfl) (by kernel_rfl) (fun _ => rfl) (fun M _ => oeCons (opensStrE M) (oeOne (opensIntE M))))
  (fun x => (⟨x.1, x.2⟩ : Col)) (fun _ => rfl) (fun _ => rfl) (fun _ h => h)
theorem opensColsE (N : Nat) : OpensE Tryz.prog N 1 (fun l => [.sl (rCs l)]) 22 fun l => l.length * 24 ≤ 140737488351232 ∧ l.length ≤ maxLen ∧ ∀ x ∈ l, goodC x :=
 oeSlice Tryz.underlying22 (by kernel_rfl) (by kernel_rfl) (by decide) (fun M _ => opensColE M) (by kernel_rfl)
inductive goodE : Ex → Prop
 | mk {k : Int} {v : Vl} {nm : ByteArray} {ar : List Ex} (hk : -9223372036854775808 ≤ k ∧ k ≤ 9223372036854775807) (hv : goodV v) (hn : nm.size ≤ 140737488351232) (hl : ar.length * 80 ≤ 140737488351232 ∧ ar.length ≤ maxLen) (ha : ∀ a ∈ ar, goodE a) : goodE (.mk k v nm ar)
theorem opensExE (N : Nat) : OpensE Tryz.prog N 6 rE 29 goodE := by
 induction N using Nat.strongRecOn with
 | ind N ih =>
  exact oeTo (oeStruct (f := fun x : Int × Vl × ByteArray × List Ex => [.lit (.int .i64 x.1)] ++ (rV1 x.2.1 ++ ([.lit (.string x.2.2.1)] ++ [.sl (x.2.2.2.map rE)]))) (sz := 1 + (3 + (1 + 1))) Tryz.underlying29 (ts := [3, 24, 9, 27]) rfl (by kernel_rfl) (by kernel_rfl) (by kernel_rfl) (fun _ => rfl)
   (fun M hM => oeCons (opensIntE M) (oeCons (opensVlE M) (oeCons (opensStrE M) (oeOne (oeSlice Tryz.underlying27 (by kernel_rfl) (by_ := 80) (by kernel_rfl) (by decide) (fun M' h => ih M' (by omega)) (by kernel_rfl)))))))
   (fun x => (Ex.mk x.1 x.2.1 x.2.2.1 x.2.2.2)) (fun _ => by rw [rE_mk]; rfl) (fun _ => by rw [rE_len]) (fun _ h => .mk h.1 h.2.1 h.2.2.1 ⟨h.2.2.2.1, h.2.2.2.2.1⟩ h.2.2.2.2.2)
end Go.Proofs.YtjdgejfhnfnmgaaGreatDoor.Ax
namespace Go.Proofs.YtjdgejfhnfnmgaaGreatDoor.Ax
open Go.RowKit
set_option linter.unusedSimpArgs false
attribute [local go_sem] ty3 ty4 ty9 ty27 ty29 ty24 ty32 ty137
set_option maxRecDepth 100000
theorem argsk_sp (k : Int) : Sp Tryz.prog 137 [.one (.lit (.int .i64 k))] (.one (.t true (.lit (.int .i64 (argsK k))))) [] := by
 unfold argsK
 by_cases c1 : k < 1
 ·have e1 : decide (k < 1) = true := decide_eq_true c1
  (refine en_ Tryz.func137 Tryz.ntmps137 Tryz.results137 fun X hX => ?_)
  (refine go_ e1 ?_)
  (first | exact oq_ an0 | refine ou_ an0 ?_)
  rw [if_pos (.inl c1)]
 by_cases c2 : 11 < k
 ·have e1 : decide (k < 1) = false := decide_eq_false c1
  have e2 : decide (11 < k) = true := decide_eq_true c2
  (refine en_ Tryz.func137 Tryz.ntmps137 Tryz.results137 fun X hX => ?_)
  (refine go_ (an2 e1 e2) ?_)
  (first | exact oq_ an0 | refine ou_ an0 ?_)
  rw [if_pos (.inr c2)]
 have e1 : decide (k < 1) = false := decide_eq_false c1
 have e2 : decide (11 < k) = false := decide_eq_false c2
 rw [if_neg (by omega)]
 by_cases c3 : k ≤ 2
 ·have e3 : decide (k ≤ 2) = true := decide_eq_true c3
  (refine en_ Tryz.func137 Tryz.ntmps137 Tryz.results137 fun X hX => ?_)
  (refine go_ (an3 e1 e2 e3) ?_)
  (first | exact oq_ an0 | refine ou_ an0 ?_)
  rw [if_pos c3]
 have e3 : decide (k ≤ 2) = false := decide_eq_false c3
 rw [if_neg c3]
 by_cases c4 : k ≤ 4
 ·have e4 : decide (k ≤ 4) = true := decide_eq_true c4
  (refine en_ Tryz.func137 Tryz.ntmps137 Tryz.results137 fun X hX => ?_)
  (refine go_ (an4 e1 e2 e3 e4) ?_)
  (first | exact oq_ an0 | refine ou_ an0 ?_)
  rw [if_pos c4]
 have e4 : decide (k ≤ 4) = false := decide_eq_false c4
 rw [if_neg c4]
 (refine en_ Tryz.func137 Tryz.ntmps137 Tryz.results137 fun X hX => ?_)
 (refine go_ (an4 e1 e2 e3 e4) ?_)
 (first | exact oq_ an0 | refine ou_ an0 ?_)
theorem argsof_sp (k : Int) : Sp Tryz.prog 108 [.one (.lit (.int .i64 k))] (.one (.t true (.lit (.int .i64 (argsK k))))) [] := by
 have H := between_sp k 1 11
 unfold argsK
 by_cases c1 : k < 1 ∨ 11 < k
 ·have e1 : (decide (1 ≤ k) && decide (k ≤ 11)) = false := by simp; omega
  rw [e1] at H
  (refine en_ Tryz.func108 Tryz.ntmps108 Tryz.results108 fun X hX => ?_)
  (refine go_ an0 ?_)
  (refine rn_ 8 an0 fun K hK => ?_; refine rr_ an0 ?_)
  (refine ca_ an0 ?_ (hsp := H); refine rr_ an0 ?_)
  ((first | refine rwr_nil (hK _ ?_) | refine de_ (hK _ ?_)); clear hK K)
  (refine go_ an0 ?_)
  (first | exact oq_ an0 | refine ou_ an0 ?_)
  rw [if_pos c1]
 ·have e1 : (decide (1 ≤ k) && decide (k ≤ 11)) = true := by simp; omega
  rw [e1] at H
  rw [if_neg c1]
  (refine en_ Tryz.func108 Tryz.ntmps108 Tryz.results108 fun X hX => ?_)
  (refine go_ an0 ?_)
  (refine rn_ 8 an0 fun K hK => ?_; refine rr_ an0 ?_)
  (refine ca_ an0 ?_ (hsp := H); refine rr_ an0 ?_)
  ((first | refine rwr_nil (hK _ ?_) | refine de_ (hK _ ?_)); clear hK K)
  (refine go_ an0 ?_)
  obtain rfl | rfl | rfl | rfl | rfl | rfl | rfl | rfl | rfl | rfl | rfl : k = 1 ∨ k = 2 ∨ k = 3 ∨ k = 4 ∨ k = 5 ∨ k = 6 ∨ k = 7 ∨ k = 8 ∨ k = 9 ∨ k = 10 ∨ k = 11 := by omega
  all_goals
   (refine go_ an0 ?_)
   (first | exact oq_ an0 | refine ou_ an0 ?_)
   try rfl
attribute [local go_sem] rE_mk
set_option maxHeartbeats 1000000 in
theorem size_sp (e : Ex) : ∀ m : Int, 0 ≤ m → m ≤ 100 → Sp Tryz.prog 77 [.agg (rE e), .one (.lit (.int .i64 m))] (.one (.t true (.lit (.int .i64 (sizeE e m))))) [] := by
 induction e using Ex.ind with
 | h k v nm ar ih =>
  intro m hm hm'
  rw [rE_mk, sizeE]
  (refine en_ Tryz.func77 Tryz.ntmps77 Tryz.results77 fun X hX => ?_)
  (refine go_ an0 ?_)
  refine cw_loop (fun z s => ∃ (i : Nat) (n : Int), i ≤ ar.length ∧ z = ar.length - i ∧ 1 ≤ n ∧ n ≤ m + 1 ∧ i < n ∧ sizeL (ar.drop i) m n = sizeL ar m 1 ∧ s = ⟨[(11, litI .i64 i), (10, litI .i64 ar.length), (9, .one (.t false (.sl (ar.map rE)))), (5, litI .i64 n), (1, .one (.t false (.lit (.int .i64 m))))], []⟩) ar.length ⟨_, ⟨0, 1, Nat.zero_le _, rfl, by omega, by omega, by omega, rfl, rfl⟩, le_⟩ ?_
  rintro z s ⟨i, n, hi, rfl, hn, hn', hin, hf, rfl⟩
  by_cases hlt : i < ar.length
  ·have e1 : decide ((i : Int) < (ar.length : Int)) = true := by simp; omega
   obtain ⟨x, hx⟩ : ∃ x, ar[i]? = some x := ⟨_, List.getElem?_eq_getElem hlt⟩
   have e4 : IntKind.i64.wrap ((i : Int) + 1) = ((i + 1 : Nat) : Int) := by rw [IntWalk.i64_in _ (by omega)]; rfl
   rw [drop_eq _ _ _ hx, sizeL] at hf
   have ih1 := ih x (List.mem_of_getElem? hx)
   have hb := sizeE_le x
   obtain ⟨k', v', nm', ar'⟩ := x
   rw [rE_mk] at ih1
   by_cases hmn : m < n
   ·have e2 : decide (m < n) = true := decide_eq_true hmn
    rw [if_pos hmn] at hf
    (refine go_ (an3 e1 e2 hx) ?_)
    (first | exact oq_ an0 | refine ou_ an0 ?_)
    rw [← hf]
   ·have e2 : decide (m < n) = false := decide_eq_false hmn
    rw [if_neg hmn] at hf
    have e5 : IntKind.i64.wrap (m - n) = m - n := IntWalk.i64_in _ (by omega)
    have hb1 := hb (m - n) (by omega)
    have e6 : IntKind.i64.wrap (n + sizeE (.mk k' v' nm' ar') (m - n)) = n + sizeE (.mk k' v' nm' ar') (m - n) := IntWalk.i64_in _ (by omega)
    (refine go_ (an3 e1 e2 hx) ?_)
    (refine rn_ 8 e5 fun K hK => ?_; refine rr_ e5 ?_)
    (refine ca_ (an2 e5 e6) ?_ (hsp := ih1 (m - n) (by omega) (by omega)); refine rr_ (an2 e5 e6) ?_)
    ((first | refine rwr_nil (hK _ ?_) | refine de_ (hK _ ?_)); clear hK K)
    (refine go_ e4 ?_)
    exact ⟨ar.length - (i + 1), by omega, _, ⟨i + 1, n + sizeE (.mk k' v' nm' ar') (m - n), by omega, rfl, by omega, by omega, by omega, hf, rfl⟩, le_⟩
  ·have e1 : decide ((i : Int) < (ar.length : Int)) = false := by simp; omega
   rw [List.drop_eq_nil_of_le (by omega)] at hf
   (refine go_ e1 ?_)
   (first | exact oq_ an0 | refine ou_ an0 ?_)
   rw [← hf, sizeL]
theorem sizes_le {n : Nat} (h : n ≤ 140737488351232) : n ≤ maxLen := by unfold maxLen; omega
theorem goodE.inv {k : Int} {v : Vl} {nm : ByteArray} {ar : List Ex} (h : goodE (.mk k v nm ar)) : goodV v ∧ ar.length ≤ maxLen ∧ ∀ a ∈ ar, goodE a := by
 cases h with
 | mk hk hv hn hl ha => exact ⟨hv, hl.2, ha⟩
set_option maxHeartbeats 1000000 in
theorem partsof_sp (e : Ex) : ∀ m : Int, 0 ≤ m → m ≤ 100 → Sp Tryz.prog 22 [.agg (rE e), .one (.lit (.int .i64 m))] (.one (.t true (.lit (.int .i64 (sizeE e m))))) [] := by
 induction e using Ex.ind with
 | h k v nm ar ih =>
  intro m hm hm'
  rw [rE_mk, sizeE]
  (refine en_ Tryz.func22 Tryz.ntmps22 Tryz.results22 fun X hX => ?_)
  (refine go_ an0 ?_)
  refine cw_loop (fun z s => ∃ (i : Nat) (n : Int), i ≤ ar.length ∧ z = ar.length - i ∧ 1 ≤ n ∧ n ≤ m + 1 ∧ i < n ∧ sizeL (ar.drop i) m n = sizeL ar m 1 ∧ s = ⟨[(6, litI .i64 i), (5, litI .i64 n), (1, .one (.t false (.lit (.int .i64 m)))), (2, .one (.optr 2 0))], [(2, .var 29 [.t false (.lit (.int .i64 k)), .t false (.lit (.int .i64 v.k)), .t false (.lit (.int .i64 v.n)), .t false (.lit (.string v.s)), .t false (.lit (.string nm)), .t false (.sl (ar.map rE))])]⟩) ar.length ⟨_, ⟨0, 1, Nat.zero_le _, rfl, by omega, by omega, by omega, rfl, rfl⟩, le_⟩ ?_
  rintro z s ⟨i, n, hi, rfl, hn, hn', hin, hf, rfl⟩
  by_cases hlt : i < ar.length
  ·have e1 : decide ((i : Int) < (ar.length : Int)) = true := by simp; omega
   obtain ⟨x, hx⟩ : ∃ x, ar[i]? = some x := ⟨_, List.getElem?_eq_getElem hlt⟩
   have e4 : IntKind.i64.wrap ((i : Int) + 1) = ((i + 1 : Nat) : Int) := by rw [IntWalk.i64_in _ (by omega)]; rfl
   rw [drop_eq _ _ _ hx, sizeL] at hf
   have ih1 := ih x (List.mem_of_getElem? hx)
   have hb := sizeE_le x
   obtain ⟨k', v', nm', ar'⟩ := x
   rw [rE_mk] at ih1
   by_cases hmn : m < n
   ·have e2 : decide (n ≤ m) = false := decide_eq_false (by omega)
    rw [if_pos hmn] at hf
    (refine go_ (an2 e1 e2) ?_)
    (first | exact oq_ an0 | refine ou_ an0 ?_)
    rw [← hf]
   ·have e2 : decide (n ≤ m) = true := decide_eq_true (by omega)
    rw [if_neg hmn] at hf
    have e5 : IntKind.i64.wrap (m - n) = m - n := IntWalk.i64_in _ (by omega)
    have hb1 := hb (m - n) (by omega)
    have e6 : IntKind.i64.wrap (n + sizeE (.mk k' v' nm' ar') (m - n)) = n + sizeE (.mk k' v' nm' ar') (m - n) := IntWalk.i64_in _ (by omega)
    (refine go_ (an3 e1 e2 hx) ?_)
    (refine rn_ 8 (an2 e5 hx) fun K hK => ?_; refine rr_ (an2 e5 hx) ?_)
    (refine ca_ (an2 e5 e6) ?_ (hsp := ih1 (m - n) (by omega) (by omega)); refine rr_ (an2 e5 e6) ?_)
    ((first | refine rwr_nil (hK _ ?_) | refine de_ (hK _ ?_)); clear hK K)
    (refine go_ e4 ?_)
    exact ⟨ar.length - (i + 1), by omega, _, ⟨i + 1, n + sizeE (.mk k' v' nm' ar') (m - n), by omega, rfl, by omega, by omega, by omega, hf, rfl⟩, le_⟩
  ·have e1 : decide ((i : Int) < (ar.length : Int)) = false := by simp; omega
   rw [List.drop_eq_nil_of_le (by omega)] at hf
   (refine go_ e1 ?_)
   (first | exact oq_ an0 | refine ou_ an0 ?_)
   rw [← hf, sizeL]
theorem isEd (s : ByteArray) : (s.toList == ByteArray.empty.toList) = emptyS s := isE s
theorem vtype_sp (n : Int) : Sp Tryz.prog 47 [.one (.lit (.int .i64 n))] (.one (.t true (.lit (.bool (decide (1 ≤ n) && decide (n ≤ 3)))))) [] := by
 have hw : Sp Tryz.prog 79 [.one (.lit (.int .i64 n)), .one (.lit (.int .i64 1)), .one (.lit (.int .i64 3))] (.one (.t true (.lit (.bool (decide (1 ≤ n) && decide (n ≤ 3)))))) [] :=
  sp_lits (enters_of Tryz.func79 (by kernel_rfl) rfl) [.int .i64 n, .int .i64 1, .int .i64 3] _ rfl rfl fun w => (within_any n 1 3 w).mono fun _ _ h => ⟨h.1, h.2 ▸ Below.refl _ _⟩
 (refine en_ Tryz.func47 Tryz.ntmps47 Tryz.results47 fun X hX => ?_)
 (refine gs_ ?_)
 (refine rn_ 8 an0 fun K hK => ?_; refine rr_ an0 ?_)
 ((first | refine rwr_nil (hK _ ?_) | refine de_ (hK _ ?_)); clear hK K)
 (refine gs_ ?_)
 (refine rn_ 8 an0 fun K hK => ?_; refine rr_ an0 ?_)
 (refine ca_ an0 ?_ (hsp := hw); refine rr_ an0 ?_)
 ((first | refine rwr_nil (hK _ ?_) | refine de_ (hK _ ?_)); clear hK K)
 (refine go_ an0 ?_)
 (first | exact oq_ an0 | refine ou_ an0 ?_)
end Go.Proofs.YtjdgejfhnfnmgaaGreatDoor.Ax
namespace Go.Proofs.YtjdgejfhnfnmgaaGreatDoor.Ax
open Go.RowKit
set_option linter.unusedSimpArgs false
attribute [local go_sem] ty3 ty4 ty9 ty24 feq24 ty27 ty29
set_option maxRecDepth 100000
attribute [local go_sem] isE
set_option maxHeartbeats 4000000 in
theorem plain_sp (k : Int) (v : Vl) (nm : ByteArray) (ar : List Ex) : Sp Tryz.prog 86 [.agg (rE (.mk k v nm ar))] (.one (.t true (.lit (.bool (plainB k v nm ar.length))))) [] := by
 rw [rE_mk]
 have H := argsk_sp k
 (refine en_ Tryz.func86 Tryz.ntmps86 Tryz.results86 fun X hX => ?_)
 (refine go_ an0 ?_)
 cases e1 : ((ar.length : Int) == argsK k)
 ·(refine dr_ 0 an0 fun K hK => ?_)
  (refine dd_ e1 ?_)
  (first | refine dcf_ 0 an0 ?_ (hsp := H) | refine dc_ 0 an0 ?_ (hsp := H))
  (refine dd_ e1 ?_)
  (refine dd_ e1 ?_)
  ((first | refine rwr_nil (hK _ ?_) | refine de_ (hK _ ?_)); clear hK K)
  (refine go_ e1 ?_)
  (first | exact oq_ an0 | refine ou_ an0 ?_)
  simp [plainB, e1]
  try exact sameZ v
 have h : k = 1 ∨ k = 2 ∨ (k ≠ 1 ∧ k ≠ 2) := by omega
 rcases h with h | h | ⟨h, h'⟩
 ·subst h
  cases e3 : emptyS nm
  all_goals
   (refine dr_ 0 an0 fun K hK => ?_)
   (refine dd_ (an2 e1 e3) ?_)
   (first | refine dcf_ 0 an0 ?_ (hsp := H) | refine dc_ 0 an0 ?_ (hsp := H))
   (refine dd_ (an2 e1 e3) ?_)
   (refine dd_ (an2 e1 e3) ?_)
   ((first | refine rwr_nil (hK _ ?_) | refine de_ (hK _ ?_)); clear hK K)
   (refine go_ (an2 e1 e3) ?_)
   (first | exact oq_ an0 | refine ou_ an0 ?_)
   simp [plainB, e1, e3]
 ·subst h
  (refine dr_ 0 an0 fun K hK => ?_)
  (refine dd_ e1 ?_)
  (first | refine dcf_ 0 an0 ?_ (hsp := H) | refine dc_ 0 an0 ?_ (hsp := H))
  (refine dd_ e1 ?_)
  (refine dd_ e1 ?_)
  ((first | refine rwr_nil (hK _ ?_) | refine de_ (hK _ ?_)); clear hK K)
  (refine go_ e1 ?_)
  (first | exact oq_ an0 | refine ou_ an0 ?_)
  simp [plainB, e1]
  try exact sameZ v
 ·have e2 : (k == 1) = false := by simpa using h
  have e2' : (k == 2) = false := by simpa using h'
  cases e3 : emptyS nm
  all_goals
   (refine dr_ 0 an0 fun K hK => ?_)
   (refine dd_ (an4 e1 e2 e2' e3) ?_)
   (first | refine dcf_ 0 an0 ?_ (hsp := H) | refine dc_ 0 an0 ?_ (hsp := H))
   (refine dd_ (an4 e1 e2 e2' e3) ?_)
   (refine dd_ (an4 e1 e2 e2' e3) ?_)
   ((first | refine rwr_nil (hK _ ?_) | refine de_ (hK _ ?_)); clear hK K)
   (refine go_ (an4 e1 e2 e2' e3) ?_)
   (first | exact oq_ an0 | refine ou_ an0 ?_)
   simp [plainB, e1, e2, e2', e3]
   try exact sameZ v
end Go.Proofs.YtjdgejfhnfnmgaaGreatDoor.Ax
namespace Go.Proofs.YtjdgejfhnfnmgaaGreatDoor.Ax
open Go.RowKit
set_option linter.unusedSimpArgs false
attribute [local go_sem] ty3 ty4 ty9 ty24 feq24 ty27 ty29
set_option maxRecDepth 100000
attribute [local go_sem] isE
set_option maxHeartbeats 4000000 in
theorem plainexpr_sp (k : Int) (v : Vl) (nm : ByteArray) (ar : List Ex) : Sp Tryz.prog 62 [.agg (rE (.mk k v nm ar))] (.one (.t true (.lit (.bool (plainB k v nm ar.length))))) [] := by
 rw [rE_mk]
 have H := argsof_sp k
 have e21 : ((2 : Int) == 1) = false := rfl
 have HS : Sp Tryz.prog 26 [aV1 v, .agg [.lit (.int .i64 0), .lit (.int .i64 0), .lit (.string .empty)]] (.one (.t true (.lit (.bool (v.same Vl.zero))))) [] := rsame_sp v Vl.zero
 (refine en_ Tryz.func62 Tryz.ntmps62 Tryz.results62 fun X hX => ?_)
 (refine go_ an0 ?_)
 cases e1 : ((ar.length : Int) == argsK k)
 ·(refine dr_ 0 an0 fun K hK => ?_)
  (refine dd_ e1 ?_)
  (first | refine dcf_ 0 an0 ?_ (hsp := H) | refine dc_ 0 an0 ?_ (hsp := H))
  (refine dd_ e1 ?_)
  (refine dd_ e1 ?_)
  ((first | refine rwr_nil (hK _ ?_) | refine de_ (hK _ ?_)); clear hK K)
  (refine go_ e1 ?_)
  (first | exact oq_ an0 | refine ou_ an0 ?_)
  simp [plainB, e1]
 have h : k = 1 ∨ k = 2 ∨ (k ≠ 1 ∧ k ≠ 2) := by omega
 rcases h with h | h | ⟨h, h'⟩
 ·subst h
  cases e3 : emptyS nm
  all_goals
   (refine dr_ 0 an0 fun K hK => ?_)
   (refine dd_ (an2 e1 e3) ?_)
   (first | refine dcf_ 0 an0 ?_ (hsp := H) | refine dc_ 0 an0 ?_ (hsp := H))
   (refine dd_ (an2 e1 e3) ?_)
   (refine dd_ (an2 e1 e3) ?_)
   ((first | refine rwr_nil (hK _ ?_) | refine de_ (hK _ ?_)); clear hK K)
   (refine go_ (an2 e1 e3) ?_)
   (first | exact oq_ an0 | refine ou_ an0 ?_)
   simp [plainB, e1, e3]
 ·subst h
  (refine dr_ 0 an0 fun K hK => ?_)
  (refine dd_ e1 ?_)
  (first | refine dcf_ 0 an0 ?_ (hsp := H) | refine dc_ 0 an0 ?_ (hsp := H))
  (refine dd_ e1 ?_)
  (first | refine dcf_ 0 e21 ?_ (hsp := HS) | refine dc_ 0 e21 ?_ (hsp := HS))
  (refine dd_ e1 ?_)
  (refine dd_ e1 ?_)
  ((first | refine rwr_nil (hK _ ?_) | refine de_ (hK _ ?_)); clear hK K)
  (refine go_ e1 ?_)
  (first | exact oq_ an0 | refine ou_ an0 ?_)
  simp [plainB, e1]
 ·have e2 : (k == 1) = false := by simpa using h
  have e2' : (k == 2) = false := by simpa using h'
  cases e3 : emptyS nm
  ·(refine dr_ 0 an0 fun K hK => ?_)
   (refine dd_ (an4 e1 e2 e2' e3) ?_)
   (first | refine dcf_ 0 an0 ?_ (hsp := H) | refine dc_ 0 an0 ?_ (hsp := H))
   (refine dd_ (an4 e1 e2 e2' e3) ?_)
   (refine dd_ (an4 e1 e2 e2' e3) ?_)
   ((first | refine rwr_nil (hK _ ?_) | refine de_ (hK _ ?_)); clear hK K)
   (refine go_ (an4 e1 e2 e2' e3) ?_)
   (first | exact oq_ an0 | refine ou_ an0 ?_)
   simp [plainB, e1, e2, e2', e3]
  ·(refine dr_ 0 an0 fun K hK => ?_)
   (refine dd_ (an4 e1 e2 e2' e3) ?_)
   (first | refine dcf_ 0 an0 ?_ (hsp := H) | refine dc_ 0 an0 ?_ (hsp := H))
   (refine dd_ (an4 e1 e2 e2' e3) ?_)
   (first | refine dcf_ 0 (an4 e1 e2 e2' e3) ?_ (hsp := HS) | refine dc_ 0 (an4 e1 e2 e2' e3) ?_ (hsp := HS))
   (refine dd_ (an4 e1 e2 e2' e3) ?_)
   (refine dd_ (an4 e1 e2 e2' e3) ?_)
   ((first | refine rwr_nil (hK _ ?_) | refine de_ (hK _ ?_)); clear hK K)
   (refine go_ (an4 e1 e2 e2' e3) ?_)
   (first | exact oq_ an0 | refine ou_ an0 ?_)
   simp [plainB, e1, e2, e2', e3]
end Go.Proofs.YtjdgejfhnfnmgaaGreatDoor.Ax
namespace Go.Proofs.YtjdgejfhnfnmgaaGreatDoor
open Go.RowKit
theorem oneB_false {k : Int} {s : ByteArray} {T : List Vl × Nat × Nat} (hT : scanS s = T) (h : ¬ T.2.2 = 0 ∨ ¬ T.1.length = 1) : oneB k s = false := by
 rw [← Bool.not_eq_true]
 intro h1
 obtain ⟨t, p, h2, _, _⟩ := oneB_of h1
 rw [← hT, h2] at h
 simp at h
theorem oneB_one {k : Int} {s : ByteArray} {t : Vl} {p : Nat} (hT : scanS s = ([t], p, 0)) : oneB k s = ((t.k == k) && (t.s.toList == s.toList)) := by
 unfold oneB
 rw [hT]
 rfl
set_option maxHeartbeats 2000000 in
theorem one_any (k : Int) (s : ByteArray) (w : World) (hs : s.size ≤ maxLen) :
  Calls Tryz.prog 54 #[.int .i64 k, .string s] w fun e w' => e = .returned (.bool (oneB k s)) ∧ Below w.heap.size w w' := by
 have HC := Lib.hid (fun W => scan_any s W hs)
 have HT : Hid (scanS s = scanS s) := Lib.hid rfl
 have HF := Lib.hid (fun T h1 h2 => @oneB_false k s T h1 h2)
 have HO := Lib.hid (fun t p h => @oneB_one k s t p h)
 generalize hT : scanS s = T at HC HT
 have HT := Lib.hid hT
 clear hT
 obtain ⟨vs, p, e⟩ := T
 by_cases he : e = 0
 ·subst he
  by_cases hn : vs.length = 1
  ·obtain ⟨t, rfl⟩ : ∃ t, vs = [t] := by
    rcases vs with _ | ⟨t, _ | _⟩
    ·simp at hn
    ·exact ⟨t, rfl⟩
    ·simp at hn
   obtain ⟨tk, tn, ts⟩ := t
   clear hn
   obtain rfl : p = 0 := by
    have := (scanS_one s (by rw [HT.out])).2
    rw [HT.out] at this
    exact this
   have HR := Lib.hid (HO.out _ _ HT.out)
   simp only at HR
   rcases h1 : (tk == k) with _ | _
   ·rw [h1, Bool.false_and] at HR
    go_enter Tryz.func54, Tryz.ntmps54
    go_wp2_with fail
    refine (HC.out w).mono ?_
    rintro e w1 ⟨v, rfl, hown, hb⟩
    dsimp only at hown ⊢
    obtain ⟨g, cap, rfl, hg1, hg2⟩ := hown.form Nat.zero_lt_one
    have c0 : w1.cell? ⟨g, 0, none⟩ = some (.int .i64 tk) := hown.cellAt 0 (show 0 < 3 by decide)
    have c2 : w1.cell? ⟨g, 2, none⟩ = some (.string ts) := hown.cellAt 2 (show 2 < 3 by decide)
    go_wp2_with fail
    go_ret
    exact ⟨by rw [HR.out]; rfl, hb⟩
   ·rw [h1, Bool.true_and] at HR
    go_enter Tryz.func54, Tryz.ntmps54
    go_wp2_with fail
    refine (HC.out w).mono ?_
    rintro e w1 ⟨v, rfl, hown, hb⟩
    dsimp only at hown ⊢
    obtain ⟨g, cap, rfl, hg1, hg2⟩ := hown.form Nat.zero_lt_one
    have c0 : w1.cell? ⟨g, 0, none⟩ = some (.int .i64 tk) := hown.cellAt 0 (show 0 < 3 by decide)
    have c2 : w1.cell? ⟨g, 2, none⟩ = some (.string ts) := hown.cellAt 2 (show 2 < 3 by decide)
    go_wp2_with fail
    go_ret
    exact ⟨by rw [HR.out]; rfl, hb⟩
  ·have HR := Lib.hid (HF.out _ HT.out (.inr hn))
   have hl : ((vs.length : Int) == 1) = false := by rw [beq_eq_false_iff_ne]; omega
   clear hn
   go_enter Tryz.func54, Tryz.ntmps54
   go_wp2_with fail
   refine (HC.out w).mono ?_
   rintro e w1 ⟨v, rfl, hown, hb⟩
   dsimp only at hown ⊢
   obtain ⟨A1, c1, rfl, hrd1, hn1⟩ := rd_of_own hown
   go_wp2_with fail
   go_ret
   exact ⟨by rw [HR.out]; rfl, hb⟩
 ·have HR := Lib.hid (HF.out _ HT.out (.inl he))
  have hl : ((e : Int) == 0) = false := by rw [beq_eq_false_iff_ne]; omega
  clear he
  go_enter Tryz.func54, Tryz.ntmps54
  go_wp2_with fail
  refine (HC.out w).mono ?_
  rintro e w1 ⟨v, rfl, hown, hb⟩
  dsimp only at hown ⊢
  go_wp2_with fail
  go_ret
  exact ⟨by rw [HR.out]; rfl, hb⟩
end Go.Proofs.YtjdgejfhnfnmgaaGreatDoor
namespace Go.Proofs.YtjdgejfhnfnmgaaGreatDoor
open Go.RowKit
theorem tokB_at (k : Int) (s : ByteArray) (h : 0 < s.size) : tokB k s = (decide (s.size ≤ 2000) && !(k == 0) && (((tokA s[0] (s.data.toList.drop 1)).1 : Int) == k) && decide ((tokA s[0] (s.data.toList.drop 1)).2 = s.size) && decide ((tokL s[0] (s.data.toList.drop 1)).2.2 = 0)) := by
 have hx := drop_at s 0 h
 rw [List.drop_zero] at hx
 unfold tokB
 rw [hx]
 rfl
set_option maxHeartbeats 2000000 in
theorem istok_any (k : Int) (s : ByteArray) (w : World) (hs : s.size ≤ maxLen) :
  Calls Tryz.prog 60 #[.int .i64 k, .string s] w fun e w' => e = .returned (.bool (tokB k s)) ∧ w = w' := by
 unfold maxLen at hs
 by_cases h0 : s.size = 0
 ·have hl : s.data.toList = [] := List.eq_nil_of_length_eq_zero (by rw [size_list]; exact h0)
  have HT : Hid (tokB k s = false) := Lib.hid (by unfold tokB; rw [hl])
  have e1 : s.toList.isEmpty = true := by rw [ByteArray.toList_eq, hl]; rfl
  have e2 : s.toList = [] := by rw [ByteArray.toList_eq, hl]
  clear hl
  go_enter Tryz.func60, Tryz.ntmps60
  go_wp2_with fail
  go_ret
  exact ⟨by rw [HT.out]; rfl, rfl⟩
 have hpos : 0 < s.size := by omega
 have hB := tokB_at k s hpos
 have e1 : s.toList.isEmpty = false := by
  rw [ByteArray.toList_eq]
  rcases h : s.data.toList with _ | _
  ·have := size_list s; rw [h] at this; simp at this; omega
  ·rfl
 clear h0
 by_cases h2 : 2000 < s.size
 ·have HT := Lib.hid (show tokB k s = false by rw [hB, decide_eq_false (by omega)]; simp)
  clear hB
  go_enter Tryz.func60, Tryz.ntmps60
  go_wp2_with fail
  go_ret
  exact ⟨by rw [HT.out]; rfl, rfl⟩
 rcases hk : (k == 0) with _ | _
 ·have hA := at_any s 0 w hpos (by omega)
  have hW := wrongat_any s 0 w hpos (by omega)
  rw [decide_eq_true (by omega : s.size ≤ 2000), hk] at hB
  simp only [Bool.true_and, Bool.not_false, Nat.zero_add] at hB hA hW
  have h9 : tokL s[0] (s.data.toList.drop 1) = tokL s[0] (s.data.toList.drop 1) := rfl
  have hnl := tokA_len s[0] (s.data.toList.drop 1)
  rw [List.length_drop, size_list] at hnl
  generalize tokA s[0] (s.data.toList.drop 1) = t at *
  generalize tokL s[0] (s.data.toList.drop 1) = u at *
  obtain ⟨tk, tn⟩ := t
  obtain ⟨uk, un, ue⟩ := u
  simp only at hB hA hW hnl
  rcases h1 : ((tk : Int) == k) with _ | _
  ·rw [h1, Bool.false_and, Bool.false_and] at hB
   have HT := Lib.hid hB
   have HA := Lib.hid hA
   clear hB hA hW
   go_enter Tryz.func60, Tryz.ntmps60
   go_wp2_with fail
   refine HA.out.mono ?_
   rintro e w1 ⟨rfl, rfl⟩
   go_wp2_with fail
   go_ret
   exact ⟨by rw [HT.out]; rfl, rfl⟩
  rw [h1, Bool.true_and] at hB
  obtain rfl : (tk : Int) = k := by simpa using h1
  by_cases hn : tn = s.size
  ·rw [decide_eq_true hn, Bool.true_and] at hB
   have hn' : ((tn : Int) == (s.size : Int)) = true := by rw [hn]; simp
   have hex : s.extract 0 tn = s := by rw [hn]; rw [ByteArray.extract_zero_size]
   rw [hex] at hW
   rw [show decide (ue = 0) = ((ue : Int) == 0) by rw [Bool.eq_iff_iff, beq_iff_eq, decide_eq_true_eq]; omega] at hB
   have HT := Lib.hid hB
   have HA := Lib.hid hA
   have HW := Lib.hid hW
   clear hB hA hW hn hex h1
   go_enter Tryz.func60, Tryz.ntmps60
   go_wp2_with fail
   refine HA.out.mono ?_
   rintro e w1 ⟨rfl, rfl⟩
   go_wp2_with fail
   refine HW.out.mono ?_
   rintro e w1 ⟨rfl, rfl⟩
   go_wp2_with fail
   go_ret
   exact ⟨by rw [HT.out]; rfl, rfl⟩
  ·rw [decide_eq_false hn, Bool.false_and] at hB
   have hn' : ((tn : Int) == (s.size : Int)) = false := by rw [beq_eq_false_iff_ne]; omega
   have HT := Lib.hid hB
   have HA := Lib.hid hA
   clear hB hA hW hn h1
   go_enter Tryz.func60, Tryz.ntmps60
   go_wp2_with fail
   refine HA.out.mono ?_
   rintro e w1 ⟨rfl, rfl⟩
   go_wp2_with fail
   go_ret
   exact ⟨by rw [HT.out]; rfl, rfl⟩
 ·obtain rfl : k = 0 := by simpa using hk
  have HT := Lib.hid (show tokB 0 s = false by rw [hB]; simp)
  clear hB
  go_enter Tryz.func60, Tryz.ntmps60
  go_wp2_with fail
  go_ret
  exact ⟨by rw [HT.out]; rfl, rfl⟩
end Go.Proofs.YtjdgejfhnfnmgaaGreatDoor
namespace Go.Proofs.YtjdgejfhnfnmgaaGreatDoor.Ax
open Go.RowKit
set_option linter.unusedSimpArgs false
attribute [local go_sem] ty3 ty4 ty9 ty26 meltSt
set_option linter.unusedVariables false
set_option maxRecDepth 100000
abbrev rS (l : List ByteArray) : List (List T) := l.map fun s => [.lit (.string s)]
theorem istoken_sp (k : Int) (s : ByteArray) (hs : s.size ≤ maxLen) : Sp Tryz.prog 60 [.one (.lit (.int .i64 k)), .one (.lit (.string s))] (.one (.t true (.lit (.bool (tokB k s))))) [] :=
 sp_lits (enters_of Tryz.func60 (by kernel_rfl) rfl) [.int .i64 k, .string s] _ rfl rfl fun w => (istok_any k s w hs).mono fun _ _ h => ⟨h.1, h.2 ▸ Below.refl _ _⟩
theorem tone_sp (k : Int) (s : ByteArray) (hs : s.size ≤ maxLen) : Sp Tryz.prog 54 [.one (.lit (.int .i64 k)), .one (.lit (.string s))] (.one (.t true (.lit (.bool (tokB k s))))) [] := by
 rw [← one_tok]
 exact sp_lits (enters_of Tryz.func54 (by kernel_rfl) rfl) [.int .i64 k, .string s] _ rfl rfl fun w => (one_any k s w hs).mono fun _ _ h => h
theorem tname_sp (s : ByteArray) (hs : s.size ≤ maxLen) : Sp Tryz.prog 128 [.one (.lit (.string s))] (.one (.t true (.lit (.bool (tokB 1 s))))) [] := by
 have h1 := tone_sp 1 s hs
 (refine en_ Tryz.func128 Tryz.ntmps128 Tryz.results128 fun X hX => ?_)
 (refine gs_ ?_)
 (refine rn_ 8 an0 fun K hK => ?_; refine rr_ an0 ?_)
 ((first | refine rwr_nil (hK _ ?_) | refine de_ (hK _ ?_)); clear hK K)
 (refine gs_ ?_)
 (refine rn_ 8 an0 fun K hK => ?_; refine rr_ an0 ?_)
 (refine ca_ an0 ?_ (hsp := h1); refine rr_ an0 ?_)
 ((first | refine rwr_nil (hK _ ?_) | refine de_ (hK _ ?_)); clear hK K)
 (refine go_ an0 ?_)
 (first | exact oq_ an0 | refine ou_ an0 ?_)
theorem any_drop {α : Type} (p : α → Bool) {l : List α} {k : Nat} {x : α} (h : l[k]? = some x) : (l.drop k).any p = (p x || (l.drop (k + 1)).any p) := by
 obtain ⟨hk, rfl⟩ := List.getElem?_eq_some_iff.1 h
 rw [List.drop_eq_getElem_cons hk, List.any_cons]
theorem isword_sp (s : ByteArray) : Sp Tryz.prog 61 [.one (.lit (.string s))] (.one (.t true (.lit (.bool (isWordB s))))) [] := by
 unfold isWordB
 have hl : wordsL.length = 36 := rfl
 (refine en_ Tryz.func61 Tryz.ntmps61 Tryz.results61 fun X hX => ?_)
 (refine go_ an0 ?_)
 refine cw_melt 3 5 rfl rfl rfl ?_
 refine cw_loop (fun m st => ∃ k, k ≤ wordsL.length ∧ m = wordsL.length - k ∧ (wordsL.drop k).any (fun x => x.toList == s.toList) = wordsL.any (fun x => x.toList == s.toList) ∧ st = ⟨[(4, litI .i64 k), (3, .one (.t true (.sl (rS wordsL)))), (0, .one (.t false (.lit (.string s))))], []⟩) wordsL.length ⟨_, ⟨0, Nat.zero_le _, rfl, rfl, rfl⟩, le_⟩ ?_
 rintro m st ⟨k, hk, rfl, hf, rfl⟩
 by_cases hlt : k < wordsL.length
 ·have e1 : decide ((k : Int) < (wordsL.length : Int)) = true := by simp; omega
  obtain ⟨x, hx⟩ : ∃ x, wordsL[k]? = some x := ⟨_, List.getElem?_eq_getElem hlt⟩
  have e4 : IntKind.i64.wrap ((k : Int) + 1) = ((k + 1 : Nat) : Int) := by rw [IntWalk.i64_in _ (by omega)]; rfl
  have j2 : (k : Int) < (wordsL.length : Int) := by omega
  have j3 : (0 : Int) ≤ (k : Int) := by omega
  rw [any_drop _ hx] at hf
  generalize wordsL = L at *
  (refine go_ (an5 e1 hx hlt j2 j3) ?_)
  refine cw_cond rfl (fun hp => ?_) (fun hp => ?_)
  ·rw [hp] at hf
   rw [← hf]
   (refine go_ an0 ?_)
   (first | exact oq_ an0 | refine ou_ an0 ?_)
   try rfl
  ·rw [hp, Bool.false_or] at hf
   (refine go_ e4 ?_)
   exact ⟨L.length - (k + 1), by omega, _, ⟨k + 1, by omega, rfl, hf, rfl⟩, le_⟩
 ·have e1 : decide ((k : Int) < (wordsL.length : Int)) = false := by simp; omega
  rw [List.drop_eq_nil_of_le (by omega)] at hf
  rw [← hf]
  generalize wordsL = L at *
  (refine go_ e1 ?_)
  (first | exact oq_ an0 | refine ou_ an0 ?_)
  try rfl
theorem isname_sp (s : ByteArray) (hs : s.size ≤ maxLen) : Sp Tryz.prog 27 [.one (.lit (.string s))] (.one (.t true (.lit (.bool (nameB s))))) [] := by
 have h1 := istoken_sp 1 s hs
 have h2 := isword_sp s
 unfold nameB
 generalize tokB 1 s = tb at *
 cases tb
 ·(refine en_ Tryz.func27 Tryz.ntmps27 Tryz.results27 fun X hX => ?_)
  (refine gs_ ?_)
  (refine rn_ 8 an0 fun K hK => ?_; refine rr_ an0 ?_)
  ((first | refine rwr_nil (hK _ ?_) | refine de_ (hK _ ?_)); clear hK K)
  (refine gs_ ?_)
  (refine rn_ 8 an0 fun K hK => ?_; refine rr_ an0 ?_)
  (refine ca_ an0 ?_ (hsp := h1); refine rr_ an0 ?_)
  (refine rr_ an0 ?_)
  ((first | refine rwr_nil (hK _ ?_) | refine de_ (hK _ ?_)); clear hK K)
  (refine go_ an0 ?_)
  (first | exact oq_ an0 | refine ou_ an0 ?_)
  try rfl
 ·(refine en_ Tryz.func27 Tryz.ntmps27 Tryz.results27 fun X hX => ?_)
  (refine gs_ ?_)
  (refine rn_ 8 an0 fun K hK => ?_; refine rr_ an0 ?_)
  ((first | refine rwr_nil (hK _ ?_) | refine de_ (hK _ ?_)); clear hK K)
  (refine gs_ ?_)
  (refine rn_ 8 an0 fun K hK => ?_; refine rr_ an0 ?_)
  (refine ca_ an0 ?_ (hsp := h1); refine rr_ an0 ?_)
  (refine rr_ an0 ?_)
  (refine ca_ an0 ?_ (hsp := h2); refine rr_ an0 ?_)
  (refine rr_ an0 ?_)
  ((first | refine rwr_nil (hK _ ?_) | refine de_ (hK _ ?_)); clear hK K)
  (refine go_ an0 ?_)
  (first | exact oq_ an0 | refine ou_ an0 ?_)
  try rfl
attribute [local go_sem] isE
theorem nameis_sp (s : ByteArray) (hs : s.size ≤ maxLen) (b : Bool) : Sp Tryz.prog 24 [.one (.lit (.string s)), .one (.lit (.bool b))] (.one (.t true (.lit (.bool (namedB s b))))) [] := by
 have h1 := isname_sp s hs
 unfold namedB
 cases b
 ·rw [if_neg (by decide)]
  (refine en_ Tryz.func24 Tryz.ntmps24 Tryz.results24 fun X hX => ?_)
  (refine go_ an0 ?_)
  (first | exact oq_ an0 | refine ou_ an0 ?_)
  try exact isE s
 ·rw [if_pos rfl]
  (refine en_ Tryz.func24 Tryz.ntmps24 Tryz.results24 fun X hX => ?_)
  (refine go_ an0 ?_)
  (refine rn_ 8 an0 fun K hK => ?_; refine rr_ an0 ?_)
  (refine ca_ an0 ?_ (hsp := h1); refine rr_ an0 ?_)
  ((first | refine rwr_nil (hK _ ?_) | refine de_ (hK _ ?_)); clear hK K)
  (refine go_ an0 ?_)
  (first | exact oq_ an0 | refine ou_ an0 ?_)
end Go.Proofs.YtjdgejfhnfnmgaaGreatDoor.Ax
