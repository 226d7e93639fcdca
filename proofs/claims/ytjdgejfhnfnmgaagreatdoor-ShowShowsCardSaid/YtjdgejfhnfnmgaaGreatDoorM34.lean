/-  -/
import Derived.Test.YtjdgejfhnfnmgaaGreatDoorAxW
import Derived.Test.YtjdgejfhnfnmgaaGreatDoorM32
import Derived.Test.YtjdgejfhnfnmgaaGreatDoorM33
import Derived.Test.YtjdgejfhnfnmgaaGreatDoorM26
namespace Go.Proofs.YtjdgejfhnfnmgaaGreatDoor.Ax
open Go.RowKit
set_option linter.unusedSimpArgs false
attribute [local go_sem] ty3 ty4 ty9 ty5 ty26 ty54 ty22 ty24 ty25 ty27 ty29 ty31 ty91 ty85 prnNew prnUsed rowW
set_option linter.unusedVariables false
set_option maxRecDepth 100000
set_option maxHeartbeats 16000000 in
theorem rtext13_sp (c : Cm) (hr : Rt c) (hk : c.k = 13) (te tw : ByteArray) (ht : TextIs c te tw) : Sp Tryz.prog 10 [.agg (rCm c)] (.one (.t true (.lit (.string (bs (cmdS c te tw)))))) [] := by
 have hB := between_sp c.k 11 13
 have q1 := hr.name
 have q2 := hr.other
 have q3 := hr.column
 have q4 := kindT_small c.ty
 have q5 := valT_small hr.v
 have hS : cmdS c te tw = textW [wSelect, fieldsT c, wFrom, c.name] ++ wordsT (whereW c tw) ++ wordsT (orderW c) ++ wordsT (limitW c) := by unfold cmdS; rw [if_neg (by rw [hk]; decide)]; rw [if_neg (by rw [hk]; decide)]; rw [if_neg (by rw [hk]; decide)]; rw [if_neg (by rw [hk]; decide)]; rw [if_neg (by rw [hk]; decide)]; rw [if_neg (by rw [hk]; decide)]; rw [if_neg (by rw [hk]; decide)]; rw [if_neg (by rw [hk]; decide)]; rw [if_neg (by rw [hk]; decide)]; rw [if_neg (by rw [hk]; decide)]; rw [if_neg (by rw [hk]; decide)]; rw [if_neg (by rw [hk]; decide)]; rw [if_pos hk]
 rw [hS]
 clear hS
 have hwh := ht.wh (by rw [hk]; rfl)
 have hcf := fields_comma hr
 have hfl := hr.fields
 have hJ := commas_sp c.fields (by unfold maxLen; omega) (by unfold maxLen; omega)
 have hdz := digS_size c.limit (by have := hr.limit; omega) (by have := hr.limit; omega)
 have hD := digits_sp c.limit (by have := hr.limit; omega) (by have := hr.limit; omega)
 have q6 := hr.order
 clear hr ht
 obtain ⟨k, name, other, column, cols, ty, v, vals, fields, ⟨k1, v1, n1, a1⟩, all, ⟨k2, v2, n2, a2⟩, order, limit⟩ := c
 dsimp only at *
 have ek := kF hk
 rw [rCm_mk]
 have hjz : (bs (commaL fields)).size ≤ 20000 := by rw [bs_size]; exact hcf
 have hwt : ∃ wt : ByteArray, wt.size ≤ 30307 ∧ (wt.data.toList = wordsT (if all = true then [] else [wWhere, tw])) ∧ (all = true → wt = ⟨#[]⟩) ∧ (all = false → wt = ⟨#[32, 119, 104, 101, 114, 101, 32]⟩ ++ tw) := by
  cases all with
  | true => exact ⟨⟨#[]⟩, by decide, rfl, fun _ => rfl, fun h => by cases h⟩
  | false =>
   obtain ⟨g, _, _, hgz, rfl⟩ := hwh rfl
   refine ⟨⟨#[32, 119, 104, 101, 114, 101, 32]⟩ ++ gT g, ?_, ?_, fun h => (by cases h), fun _ => rfl⟩
   ·rw [ByteArray.size_append]
    show 7 + _ ≤ _
    omega
   ·rw [if_neg Bool.false_ne_true]
    simp [wordsT, wWhere, ByteArray.data_append]
 obtain ⟨wt, hwz, hwd, hw1, hw2⟩ := hwt
 obtain ⟨f0, hf0⟩ : ∃ f : ByteArray, f = if 0 < fields.length then ⟨#[115, 101, 108, 101, 99, 116, 32]⟩ ++ bs (commaL fields) else ⟨#[115, 101, 108, 101, 99, 116, 32, 42]⟩ := ⟨_, rfl⟩
 have hz0 : f0.size ≤ 20007 := by
  rw [hf0]
  split
  ·rw [ByteArray.size_append]
   show 7 + _ ≤ _
   omega
  ·decide
 obtain ⟨f1, hf1⟩ : ∃ f : ByteArray, f = f0 ++ ((⟨#[32, 102, 114, 111, 109, 32]⟩ ++ name) ++ wt) := ⟨_, rfl⟩
 have hz1 : f1.size ≤ 60000 := by
  rw [hf1, ByteArray.size_append, ByteArray.size_append, ByteArray.size_append]
  show _ + (6 + _ + _) ≤ _
  omega
 obtain ⟨f2, hf2⟩ : ∃ f : ByteArray, f = if emptyT order = true then f1 else f1 ++ (⟨#[32, 111, 114, 100, 101, 114, 32, 98, 121, 32]⟩ ++ order) := ⟨_, rfl⟩
 have hz2 : f2.size ≤ 70000 := by
  rw [hf2]
  split
  ·omega
  ·rw [ByteArray.size_append, ByteArray.size_append]
   show _ + (10 + _) ≤ _
   omega
 obtain ⟨f3, hf3⟩ : ∃ f : ByteArray, f = if 0 ≤ limit then f2 ++ (⟨#[32, 108, 105, 109, 105, 116, 32]⟩ ++ digS limit) else f2 := ⟨_, rfl⟩
 have hX : bs (textW [wSelect, fieldsT ⟨k, name, other, column, cols, ty, v, vals, fields, .mk k1 v1 n1 a1, all, .mk k2 v2 n2 a2, order, limit⟩, wFrom, name] ++ wordsT (whereW ⟨k, name, other, column, cols, ty, v, vals, fields, .mk k1 v1 n1 a1, all, .mk k2 v2 n2 a2, order, limit⟩ tw) ++ wordsT (orderW ⟨k, name, other, column, cols, ty, v, vals, fields, .mk k1 v1 n1 a1, all, .mk k2 v2 n2 a2, order, limit⟩) ++ wordsT (limitW ⟨k, name, other, column, cols, ty, v, vals, fields, .mk k1 v1 n1 a1, all, .mk k2 v2 n2 a2, order, limit⟩)) = f3 := by
  unfold fieldsT whereW orderW limitW
  dsimp only
  rw [← hwd]
  apply ByteArray.ext
  apply Array.ext'
  rw [hf3, hf2, hf1, hf0]
  by_cases c1 : 0 < fields.length <;> by_cases c2 : emptyT order = true <;> by_cases c3 : 0 ≤ limit <;> simp only [c1, c2, c3, if_true, if_false, Bool.false_eq_true] <;> simp [bs, textW, wordsT, wSelect, wFrom, wOrder, wBy, wLimit, ByteArray.data_append, List.append_assoc]
 rw [hX]
 clear hX hwd
 have y0 : 12 + name.size ≤ maxLen := by unfold maxLen; omega
 have y1 : 12 + name.size + 1 ≤ maxLen := by unfold maxLen; omega
 have p3 : 6 + name.size ≤ maxLen := by unfold maxLen; omega
 have p4 : 6 + name.size + wt.size ≤ maxLen := by unfold maxLen; omega
 have p5 : f0.size + (6 + name.size + wt.size) ≤ maxLen := by unfold maxLen; omega
 have p6 : f0.size ≤ maxLen := by unfold maxLen; omega
 have p7 : 10 + order.size ≤ maxLen := by unfold maxLen; omega
 have p8 : f1.size + (10 + order.size) ≤ maxLen := by unfold maxLen; omega
 have p9 : 7 + (digS limit).size ≤ maxLen := by unfold maxLen; omega
 have p10 : f2.size + (7 + (digS limit).size) ≤ maxLen := by unfold maxLen; omega
 have F := an3 ek y0 y1
 cases all with
 | true =>
  have hw3 := hw1 rfl
  clear hw1 hw2 hwh
  (refine en_ Tryz.func10 Tryz.ntmps10 Tryz.results10 fun X hX => ?_)
  refine au_ F ?_
  rw [← hw3]
  refine cw_meetn ⟨[(10, .one (.t true (.lit (.string f0)))), (4, .one (.t true (.lit (.string wt)))), (1, .one (.optr 1 0))], [(1, .var 31 [.t false (.lit (.int .i64 k)), .t false (.lit (.string name)), .t false (.lit (.string other)), .t false (.lit (.string column)), .t false (.sl (rCs cols)), .t false (.lit (.int .i64 ty)), .t false (.lit (.int .i64 v.k)), .t false (.lit (.int .i64 v.n)), .t false (.lit (.string v.s)), .t false (.sl (rVs vals)), .t false (.sl (rS fields)), .t false (.lit (.int .i64 k1)), .t false (.lit (.int .i64 v1.k)), .t false (.lit (.int .i64 v1.n)), .t false (.lit (.string v1.s)), .t false (.lit (.string n1)), .t false (.sl (a1.map rE)), .t false (.lit (.bool true)), .t false (.lit (.int .i64 k2)), .t false (.lit (.int .i64 v2.k)), .t false (.lit (.int .i64 v2.n)), .t false (.lit (.string v2.s)), .t false (.lit (.string n2)), .t false (.sl (a2.map rE)), .t false (.lit (.string order)), .t false (.lit (.int .i64 limit))])]⟩ ?_ ?_
  ·refine cw_cond rfl (fun hp => ?_) (fun hp => ?_)
   ·rw [if_pos (by have := of_decide_eq_true hp; omega)] at hf0
    generalize bs (commaL fields) = jf at *
    have p1 : 7 + jf.size ≤ maxLen := by unfold maxLen; omega
    refine au_ p1 ?_
    exact lf_ hf0
   ·rw [if_neg (by have := of_decide_eq_false hp; omega)] at hf0
    refine au_ an0 ?_
    exact lf_ hf0
  refine gs_ ?_
  refine au_ (an4 p3 p4 p5 p6) ?_
  rw [← hf1]
  refine cw_meetn ⟨[(10, .one (.t true (.lit (.string f2)))), (4, .one (.t true (.lit (.string wt)))), (1, .one (.optr 1 0))], [(1, .var 31 [.t false (.lit (.int .i64 k)), .t false (.lit (.string name)), .t false (.lit (.string other)), .t false (.lit (.string column)), .t false (.sl (rCs cols)), .t false (.lit (.int .i64 ty)), .t false (.lit (.int .i64 v.k)), .t false (.lit (.int .i64 v.n)), .t false (.lit (.string v.s)), .t false (.sl (rVs vals)), .t false (.sl (rS fields)), .t false (.lit (.int .i64 k1)), .t false (.lit (.int .i64 v1.k)), .t false (.lit (.int .i64 v1.n)), .t false (.lit (.string v1.s)), .t false (.lit (.string n1)), .t false (.sl (a1.map rE)), .t false (.lit (.bool true)), .t false (.lit (.int .i64 k2)), .t false (.lit (.int .i64 v2.k)), .t false (.lit (.int .i64 v2.n)), .t false (.lit (.string v2.s)), .t false (.lit (.string n2)), .t false (.sl (a2.map rE)), .t false (.lit (.string order)), .t false (.lit (.int .i64 limit))])]⟩ ?_ ?_
  ·refine cw_cond rfl (fun hp => ?_) (fun hp => ?_)
   ·have e : emptyT order = false := by rw [hw3] at hp; unfold emptyT; simpa using hp
    rw [if_neg (by rw [e]; decide)] at hf2
    refine au_ (an2 p7 p8) ?_
    exact lf_ hf2
   ·have e : emptyT order = true := by rw [hw3] at hp; unfold emptyT; simpa using hp
    rw [if_pos e] at hf2
    refine au_ an0 ?_
    exact lf_ hf2
  refine gs_ ?_
  refine au_ an0 ?_
  refine cw_meetn ⟨[(10, .one (.t true (.lit (.string f3)))), (4, .one (.t true (.lit (.string wt)))), (1, .one (.optr 1 0))], [(1, .var 31 [.t false (.lit (.int .i64 k)), .t false (.lit (.string name)), .t false (.lit (.string other)), .t false (.lit (.string column)), .t false (.sl (rCs cols)), .t false (.lit (.int .i64 ty)), .t false (.lit (.int .i64 v.k)), .t false (.lit (.int .i64 v.n)), .t false (.lit (.string v.s)), .t false (.sl (rVs vals)), .t false (.sl (rS fields)), .t false (.lit (.int .i64 k1)), .t false (.lit (.int .i64 v1.k)), .t false (.lit (.int .i64 v1.n)), .t false (.lit (.string v1.s)), .t false (.lit (.string n1)), .t false (.sl (a1.map rE)), .t false (.lit (.bool true)), .t false (.lit (.int .i64 k2)), .t false (.lit (.int .i64 v2.k)), .t false (.lit (.int .i64 v2.n)), .t false (.lit (.string v2.s)), .t false (.lit (.string n2)), .t false (.sl (a2.map rE)), .t false (.lit (.string order)), .t false (.lit (.int .i64 limit))])]⟩ ?_ ?_
  ·refine cw_cond rfl (fun hp => ?_) (fun hp => ?_)
   ·rw [if_pos (by have := of_decide_eq_true hp; omega)] at hf3
    generalize digS limit = dl at *
    refine au_ (an2 p9 p10) ?_
    exact lf_ hf3
   ·rw [if_neg (by have := of_decide_eq_false hp; omega)] at hf3
    refine au_ an0 ?_
    exact lf_ hf3
  refine gs_ ?_
  refine au_ an0 ?_
  exact oq_ an0
 | false =>
  have hw3 := hw2 rfl
  obtain ⟨g, hg, hgo, hgz, rfl⟩ := hwh rfl
  have hG := rexpr_sp g hgo (by unfold maxLen; omega)
  rw [hg, rE_mk] at hG
  clear hg hwh hw1 hw2
  generalize gT g = tw at *
  have p0 : 7 + tw.size ≤ maxLen := by unfold maxLen; omega
  (refine en_ Tryz.func10 Tryz.ntmps10 Tryz.results10 fun X hX => ?_)
  refine au_ (an2 F p0) ?_
  rw [← hw3]
  refine cw_meetn ⟨[(10, .one (.t true (.lit (.string f0)))), (4, .one (.t true (.lit (.string wt)))), (1, .one (.optr 1 0))], [(1, .var 31 [.t false (.lit (.int .i64 k)), .t false (.lit (.string name)), .t false (.lit (.string other)), .t false (.lit (.string column)), .t false (.sl (rCs cols)), .t false (.lit (.int .i64 ty)), .t false (.lit (.int .i64 v.k)), .t false (.lit (.int .i64 v.n)), .t false (.lit (.string v.s)), .t false (.sl (rVs vals)), .t false (.sl (rS fields)), .t false (.lit (.int .i64 k1)), .t false (.lit (.int .i64 v1.k)), .t false (.lit (.int .i64 v1.n)), .t false (.lit (.string v1.s)), .t false (.lit (.string n1)), .t false (.sl (a1.map rE)), .t false (.lit (.bool false)), .t false (.lit (.int .i64 k2)), .t false (.lit (.int .i64 v2.k)), .t false (.lit (.int .i64 v2.n)), .t false (.lit (.string v2.s)), .t false (.lit (.string n2)), .t false (.sl (a2.map rE)), .t false (.lit (.string order)), .t false (.lit (.int .i64 limit))])]⟩ ?_ ?_
  ·refine cw_cond rfl (fun hp => ?_) (fun hp => ?_)
   ·rw [if_pos (by have := of_decide_eq_true hp; omega)] at hf0
    generalize bs (commaL fields) = jf at *
    have p1 : 7 + jf.size ≤ maxLen := by unfold maxLen; omega
    refine au_ p1 ?_
    exact lf_ hf0
   ·rw [if_neg (by have := of_decide_eq_false hp; omega)] at hf0
    refine au_ an0 ?_
    exact lf_ hf0
  refine gs_ ?_
  refine au_ (an4 p3 p4 p5 p6) ?_
  rw [← hf1]
  refine cw_meetn ⟨[(10, .one (.t true (.lit (.string f2)))), (4, .one (.t true (.lit (.string wt)))), (1, .one (.optr 1 0))], [(1, .var 31 [.t false (.lit (.int .i64 k)), .t false (.lit (.string name)), .t false (.lit (.string other)), .t false (.lit (.string column)), .t false (.sl (rCs cols)), .t false (.lit (.int .i64 ty)), .t false (.lit (.int .i64 v.k)), .t false (.lit (.int .i64 v.n)), .t false (.lit (.string v.s)), .t false (.sl (rVs vals)), .t false (.sl (rS fields)), .t false (.lit (.int .i64 k1)), .t false (.lit (.int .i64 v1.k)), .t false (.lit (.int .i64 v1.n)), .t false (.lit (.string v1.s)), .t false (.lit (.string n1)), .t false (.sl (a1.map rE)), .t false (.lit (.bool false)), .t false (.lit (.int .i64 k2)), .t false (.lit (.int .i64 v2.k)), .t false (.lit (.int .i64 v2.n)), .t false (.lit (.string v2.s)), .t false (.lit (.string n2)), .t false (.sl (a2.map rE)), .t false (.lit (.string order)), .t false (.lit (.int .i64 limit))])]⟩ ?_ ?_
  ·refine cw_cond rfl (fun hp => ?_) (fun hp => ?_)
   ·have e : emptyT order = false := by unfold emptyT; simpa using hp
    rw [if_neg (by rw [e]; decide)] at hf2
    refine au_ (an2 p7 p8) ?_
    exact lf_ hf2
   ·have e : emptyT order = true := by unfold emptyT; simpa using hp
    rw [if_pos e] at hf2
    refine au_ an0 ?_
    exact lf_ hf2
  refine gs_ ?_
  refine au_ an0 ?_
  refine cw_meetn ⟨[(10, .one (.t true (.lit (.string f3)))), (4, .one (.t true (.lit (.string wt)))), (1, .one (.optr 1 0))], [(1, .var 31 [.t false (.lit (.int .i64 k)), .t false (.lit (.string name)), .t false (.lit (.string other)), .t false (.lit (.string column)), .t false (.sl (rCs cols)), .t false (.lit (.int .i64 ty)), .t false (.lit (.int .i64 v.k)), .t false (.lit (.int .i64 v.n)), .t false (.lit (.string v.s)), .t false (.sl (rVs vals)), .t false (.sl (rS fields)), .t false (.lit (.int .i64 k1)), .t false (.lit (.int .i64 v1.k)), .t false (.lit (.int .i64 v1.n)), .t false (.lit (.string v1.s)), .t false (.lit (.string n1)), .t false (.sl (a1.map rE)), .t false (.lit (.bool false)), .t false (.lit (.int .i64 k2)), .t false (.lit (.int .i64 v2.k)), .t false (.lit (.int .i64 v2.n)), .t false (.lit (.string v2.s)), .t false (.lit (.string n2)), .t false (.sl (a2.map rE)), .t false (.lit (.string order)), .t false (.lit (.int .i64 limit))])]⟩ ?_ ?_
  ·refine cw_cond rfl (fun hp => ?_) (fun hp => ?_)
   ·rw [if_pos (by have := of_decide_eq_true hp; omega)] at hf3
    generalize digS limit = dl at *
    refine au_ (an2 p9 p10) ?_
    exact lf_ hf3
   ·rw [if_neg (by have := of_decide_eq_false hp; omega)] at hf3
    refine au_ an0 ?_
    exact lf_ hf3
  refine gs_ ?_
  refine au_ an0 ?_
  exact oq_ an0
end Go.Proofs.YtjdgejfhnfnmgaaGreatDoor.Ax
namespace Go.Proofs.YtjdgejfhnfnmgaaGreatDoor.Ax
open Go.RowKit
theorem rtext_sp (c : Cm) (hr : Rt c) (te tw : ByteArray) (ht : TextIs c te tw) : Sp Tryz.prog 10 [.agg (rCm c)] (.one (.t true (.lit (.string (bs (cmdS c te tw)))))) [] := by
 have h1 := hr.k1
 have h2 := hr.k16
 obtain hk | hk | hk | hk | hk | hk | hk | hk | hk | hk | hk | hk | hk | hk | hk | hk : c.k = 1 ∨ c.k = 2 ∨ c.k = 3 ∨ c.k = 4 ∨ c.k = 5 ∨ c.k = 6 ∨ c.k = 7 ∨ c.k = 8 ∨ c.k = 9 ∨ c.k = 10 ∨ c.k = 11 ∨ c.k = 12 ∨ c.k = 13 ∨ c.k = 14 ∨ c.k = 15 ∨ c.k = 16 := by omega
 ·exact rtext1_sp c hr hk te tw ht
 ·exact rtext2_sp c hr hk te tw ht
 ·exact rtext3_sp c hr hk te tw ht
 ·exact rtext4_sp c hr hk te tw ht
 ·exact rtext5_sp c hr hk te tw ht
 ·exact rtext6_sp c hr hk te tw ht
 ·exact rtext7_sp c hr hk te tw ht
 ·exact rtext8_sp c hr hk te tw ht
 ·exact rtext9_sp c hr hk te tw ht
 ·exact rtext10_sp c hr hk te tw ht
 ·exact rtext11_sp c hr hk te tw ht
 ·exact rtext12_sp c hr hk te tw ht
 ·exact rtext13_sp c hr hk te tw ht
 ·exact rtext14_sp c hr hk te tw ht
 ·exact rtext15_sp c hr hk te tw ht
 ·exact rtext16_sp c hr hk te tw ht
theorem both_sp (c : Cm) (hg : goodCm c) (h : checkP c = 0) : ∃ t : ByteArray, Sp Tryz.prog 8 [.agg (rCm c)] (.tup [litS t, litI .i64 0]) [] ∧ Sp Tryz.prog 10 [.agg (rCm c)] (.one (.t true (.lit (.string t)))) [] := by
 obtain ⟨te, tw, ht, hT⟩ := text_sp c (rt_of h)
 exact ⟨_, show_ok c hg h hT, rtext_sp c (rt_of h) te tw ht⟩
end Go.Proofs.YtjdgejfhnfnmgaaGreatDoor.Ax
namespace Go.Proofs.YtjdgejfhnfnmgaaGreatDoor.Ax
open Go.RowKit
set_option linter.unusedSimpArgs false
attribute [local go_sem] ty3 ty4 ty9 feq24 ty24 ty25 feq54 ty54 ty22 ty26 ty27 ty29 ty31
set_option linter.unusedVariables false
set_option maxRecDepth 100000
theorem sameC_head (c d : Cm) : sameC c d = ((c.k == d.k) && ((c.name.toList == d.name.toList) && ((c.other.toList == d.other.toList) && ((c.column.toList == d.column.toList) && ((c.ty == d.ty) && (c.v.same d.v && ((c.all == d.all) && ((c.order.toList == d.order.toList) && ((c.limit == d.limit) && (eqBy colEq c.cols d.cols && (eqBy Vl.same c.vals d.vals && (eqBy strEq c.fields d.fields && (sameE c.ex d.ex && sameE c.wh d.wh))))))))))))) := by
 unfold sameC
 simp only [Bool.and_assoc]
 cases c.k == d.k <;> cases c.name.toList == d.name.toList <;> try rfl
 all_goals
  cases sameE c.ex d.ex <;> cases sameE c.wh d.wh <;> cases eqBy colEq c.cols d.cols <;> cases eqBy strEq c.fields d.fields <;> cases eqBy Vl.same c.vals d.vals <;> simp only [Bool.and_false, Bool.false_and, Bool.and_true, Bool.true_and]
set_option maxHeartbeats 16000000 in
theorem same_sp (c d : Cm) (hc : c.cols.length ≤ maxLen) (hv : c.vals.length ≤ maxLen) (hf : c.fields.length ≤ maxLen) (he : goodE c.ex) (hw : goodE c.wh) :
  Sp Tryz.prog 12 [.agg (rCm c), .agg (rCm d)] (.one (.t true (.lit (.bool (sameC c d))))) [] := by
 rw [sameC_head]
 have hQ1 := sameexpr_sp c.ex he d.ex
 have hQ2 := sameexpr_sp c.wh hw d.wh
 have hQ3 := eqC_sp c.cols d.cols hc
 have hQ4 := eqV_sp c.vals d.vals hv
 have hQ5 := eqS_sp c.fields d.fields hf
 have hsv := same_parts c.v d.v
 obtain ⟨k, name, other, column, cols, ty, v, vals, fields, ⟨k1, v1, n1, a1⟩, all, ⟨k2, v2, n2, a2⟩, order, limit⟩ := c
 obtain ⟨k', name', other', column', cols', ty', v', vals', fields', ⟨k1', v1', n1', a1'⟩, all', ⟨k2', v2', n2', a2'⟩, order', limit'⟩ := d
 dsimp only at *
 rw [rCm_mk, rCm_mk]
 rw [rE_mk, rE_mk] at hQ1 hQ2
 generalize sameE (.mk k1 v1 n1 a1) (.mk k1' v1' n1' a1') = b1 at *
 generalize sameE (.mk k2 v2 n2 a2) (.mk k2' v2' n2' a2') = b2 at *
 generalize eqBy colEq cols cols' = b3 at *
 generalize eqBy Vl.same vals vals' = b4 at *
 generalize eqBy strEq fields fields' = b5 at *
 generalize v.same v' = b6 at *
 (refine en_ Tryz.func12 Tryz.ntmps12 Tryz.results12 fun X hX => ?_)
 (refine gs_ ?_)
 (refine rn_ 8 an0 fun K hK => ?_; refine rr_ an0 ?_)
 ((first | refine rwr_nil (hK _ ?_) | refine de_ (hK _ ?_)); clear hK K)
 (refine gs_ ?_)
 cases e1 : (k == k')
 ·rw [Bool.false_and]
  have e1n : (k != k') = true := by rw [bne, e1]; rfl
  (refine rn_ 8 (an2 e1 e1n) fun K hK => ?_)
  (refine rw_goN (k := 8) ?_; (refine sm_ (an2 e1 e1n) ?_))
  (refine rr_ (an2 e1 e1n) ?_)
  ((first | refine rwr_nil (hK _ ?_) | refine de_ (hK _ ?_)); clear hK K)
  (refine go_ an0 ?_)
  (first | exact oq_ an0 | refine ou_ an0 ?_)
 rw [Bool.true_and]
 have e1n : (k != k') = false := by rw [bne, e1]; rfl
 cases e2 : (name.toList == name'.toList)
 ·rw [Bool.false_and]
  (refine rn_ 8 (an3 e1 e1n e2) fun K hK => ?_)
  (refine rw_goN (k := 8) ?_; (refine sm_ (an3 e1 e1n e2) ?_))
  (refine rr_ (an3 e1 e1n e2) ?_)
  ((first | refine rwr_nil (hK _ ?_) | refine de_ (hK _ ?_)); clear hK K)
  (refine go_ an0 ?_)
  (first | exact oq_ an0 | refine ou_ an0 ?_)
 rw [Bool.true_and]
 cases e3 : (other.toList == other'.toList)
 ·rw [Bool.false_and]
  (refine rn_ 8 (an4 e1 e1n e2 e3) fun K hK => ?_)
  (refine rw_goN (k := 8) ?_; (refine sm_ (an4 e1 e1n e2 e3) ?_))
  (refine rr_ (an4 e1 e1n e2 e3) ?_)
  ((first | refine rwr_nil (hK _ ?_) | refine de_ (hK _ ?_)); clear hK K)
  (refine go_ an0 ?_)
  (first | exact oq_ an0 | refine ou_ an0 ?_)
 rw [Bool.true_and]
 cases e4 : (column.toList == column'.toList)
 ·rw [Bool.false_and]
  (refine rn_ 8 (an5 e1 e1n e2 e3 e4) fun K hK => ?_)
  (refine rw_goN (k := 8) ?_; (refine sm_ (an5 e1 e1n e2 e3 e4) ?_))
  (refine rr_ (an5 e1 e1n e2 e3 e4) ?_)
  ((first | refine rwr_nil (hK _ ?_) | refine de_ (hK _ ?_)); clear hK K)
  (refine go_ an0 ?_)
  (first | exact oq_ an0 | refine ou_ an0 ?_)
 rw [Bool.true_and]
 cases e5 : (ty == ty')
 ·rw [Bool.false_and]
  have e5n : (ty != ty') = true := by rw [bne, e5]; rfl
  (refine rn_ 8 (an7 e1 e1n e2 e3 e4 e5 e5n) fun K hK => ?_)
  (refine rw_goN (k := 8) ?_; (refine sm_ (an7 e1 e1n e2 e3 e4 e5 e5n) ?_))
  (refine rr_ (an7 e1 e1n e2 e3 e4 e5 e5n) ?_)
  ((first | refine rwr_nil (hK _ ?_) | refine de_ (hK _ ?_)); clear hK K)
  (refine go_ an0 ?_)
  (first | exact oq_ an0 | refine ou_ an0 ?_)
 rw [Bool.true_and]
 have e5n : (ty != ty') = false := by rw [bne, e5]; rfl
 cases b6
 ·rw [Bool.false_and]
  (refine rn_ 8 (an2 (an7 e1 e1n e2 e3 e4 e5 e5n) hsv) fun K hK => ?_)
  (refine rw_goN (k := 8) ?_; (refine sm_ (an2 (an7 e1 e1n e2 e3 e4 e5 e5n) hsv) ?_))
  (refine rr_ (an2 (an7 e1 e1n e2 e3 e4 e5 e5n) hsv) ?_)
  ((first | refine rwr_nil (hK _ ?_) | refine de_ (hK _ ?_)); clear hK K)
  (refine go_ an0 ?_)
  (first | exact oq_ an0 | refine ou_ an0 ?_)
 rw [Bool.true_and]
 cases e7 : (all == all')
 ·rw [Bool.false_and]
  have e7n : (all != all') = true := by rw [bne, e7]; rfl
  (refine rn_ 8 (an2 (an7 e1 e1n e2 e3 e4 e5 e5n) (an3 hsv e7 e7n)) fun K hK => ?_)
  (refine rw_goN (k := 8) ?_; (refine sm_ (an2 (an7 e1 e1n e2 e3 e4 e5 e5n) (an3 hsv e7 e7n)) ?_))
  (refine rr_ (an2 (an7 e1 e1n e2 e3 e4 e5 e5n) (an3 hsv e7 e7n)) ?_)
  ((first | refine rwr_nil (hK _ ?_) | refine de_ (hK _ ?_)); clear hK K)
  (refine go_ an0 ?_)
  (first | exact oq_ an0 | refine ou_ an0 ?_)
 rw [Bool.true_and]
 have e7n : (all != all') = false := by rw [bne, e7]; rfl
 cases e8 : (order.toList == order'.toList)
 ·rw [Bool.false_and]
  (refine rn_ 8 (an2 (an7 e1 e1n e2 e3 e4 e5 e5n) (an4 hsv e7 e7n e8)) fun K hK => ?_)
  (refine rw_goN (k := 8) ?_; (refine sm_ (an2 (an7 e1 e1n e2 e3 e4 e5 e5n) (an4 hsv e7 e7n e8)) ?_))
  (refine rr_ (an2 (an7 e1 e1n e2 e3 e4 e5 e5n) (an4 hsv e7 e7n e8)) ?_)
  ((first | refine rwr_nil (hK _ ?_) | refine de_ (hK _ ?_)); clear hK K)
  (refine go_ an0 ?_)
  (first | exact oq_ an0 | refine ou_ an0 ?_)
 rw [Bool.true_and]
 cases e9 : (limit == limit')
 ·rw [Bool.false_and]
  have e9n : (limit != limit') = true := by rw [bne, e9]; rfl
  (refine rn_ 8 (an2 (an7 e1 e1n e2 e3 e4 e5 e5n) (an6 hsv e7 e7n e8 e9 e9n)) fun K hK => ?_)
  (refine rw_goN (k := 8) ?_; (refine sm_ (an2 (an7 e1 e1n e2 e3 e4 e5 e5n) (an6 hsv e7 e7n e8 e9 e9n)) ?_))
  (refine rr_ (an2 (an7 e1 e1n e2 e3 e4 e5 e5n) (an6 hsv e7 e7n e8 e9 e9n)) ?_)
  ((first | refine rwr_nil (hK _ ?_) | refine de_ (hK _ ?_)); clear hK K)
  (refine go_ an0 ?_)
  (first | exact oq_ an0 | refine ou_ an0 ?_)
 rw [Bool.true_and]
 have e9n : (limit != limit') = false := by rw [bne, e9]; rfl
 (refine rn_ 8 (an2 (an7 e1 e1n e2 e3 e4 e5 e5n) (an6 hsv e7 e7n e8 e9 e9n)) fun K hK => ?_)
 (refine rw_goN (k := 8) ?_; (refine sm_ (an2 (an7 e1 e1n e2 e3 e4 e5 e5n) (an6 hsv e7 e7n e8 e9 e9n)) ?_))
 (refine rr_ (an2 (an7 e1 e1n e2 e3 e4 e5 e5n) (an6 hsv e7 e7n e8 e9 e9n)) ?_)
 ((first | refine rwr_nil (hK _ ?_) | refine de_ (hK _ ?_)); clear hK K)
 (refine gs_ ?_)
 cases b3
 ·rw [Bool.false_and]
  (refine rn_ 8 an0 fun K hK => ?_; refine rr_ an0 ?_)
  (refine ca_ an0 ?_ (hsp := hQ3); refine rr_ an0 ?_)
  (refine rr_ an0 ?_)
  ((first | refine rwr_nil (hK _ ?_) | refine de_ (hK _ ?_)); clear hK K)
  (refine go_ an0 ?_)
  (first | exact oq_ an0 | refine ou_ an0 ?_)
 rw [Bool.true_and]
 cases b4
 ·rw [Bool.false_and]
  (refine rn_ 8 an0 fun K hK => ?_; refine rr_ an0 ?_)
  (refine ca_ an0 ?_ (hsp := hQ3); refine rr_ an0 ?_)
  (refine rr_ an0 ?_)
  (refine ca_ an0 ?_ (hsp := hQ4); refine rr_ an0 ?_)
  (refine rr_ an0 ?_)
  ((first | refine rwr_nil (hK _ ?_) | refine de_ (hK _ ?_)); clear hK K)
  (refine go_ an0 ?_)
  (first | exact oq_ an0 | refine ou_ an0 ?_)
 rw [Bool.true_and]
 cases b5
 ·rw [Bool.false_and]
  (refine rn_ 8 an0 fun K hK => ?_; refine rr_ an0 ?_)
  (refine ca_ an0 ?_ (hsp := hQ3); refine rr_ an0 ?_)
  (refine rr_ an0 ?_)
  (refine ca_ an0 ?_ (hsp := hQ4); refine rr_ an0 ?_)
  (refine rr_ an0 ?_)
  (refine ca_ an0 ?_ (hsp := hQ5); refine rr_ an0 ?_)
  (refine rr_ an0 ?_)
  ((first | refine rwr_nil (hK _ ?_) | refine de_ (hK _ ?_)); clear hK K)
  (refine go_ an0 ?_)
  (first | exact oq_ an0 | refine ou_ an0 ?_)
 rw [Bool.true_and]
 cases b1
 ·rw [Bool.false_and]
  (refine rn_ 8 an0 fun K hK => ?_; refine rr_ an0 ?_)
  (refine ca_ an0 ?_ (hsp := hQ3); refine rr_ an0 ?_)
  (refine rr_ an0 ?_)
  (refine ca_ an0 ?_ (hsp := hQ4); refine rr_ an0 ?_)
  (refine rr_ an0 ?_)
  (refine ca_ an0 ?_ (hsp := hQ5); refine rr_ an0 ?_)
  (refine rr_ an0 ?_)
  (refine ca_ an0 ?_ (hsp := hQ1); refine rr_ an0 ?_)
  (refine rr_ an0 ?_)
  ((first | refine rwr_nil (hK _ ?_) | refine de_ (hK _ ?_)); clear hK K)
  (refine go_ an0 ?_)
  (first | exact oq_ an0 | refine ou_ an0 ?_)
 rw [Bool.true_and]
 (refine rn_ 8 an0 fun K hK => ?_; refine rr_ an0 ?_)
 (refine ca_ an0 ?_ (hsp := hQ3); refine rr_ an0 ?_)
 (refine rr_ an0 ?_)
 (refine ca_ an0 ?_ (hsp := hQ4); refine rr_ an0 ?_)
 (refine rr_ an0 ?_)
 (refine ca_ an0 ?_ (hsp := hQ5); refine rr_ an0 ?_)
 (refine rr_ an0 ?_)
 (refine ca_ an0 ?_ (hsp := hQ1); refine rr_ an0 ?_)
 (refine rr_ an0 ?_)
 (refine ca_ an0 ?_ (hsp := hQ2); refine rr_ an0 ?_)
 (refine rr_ an0 ?_)
 ((first | refine rwr_nil (hK _ ?_) | refine de_ (hK _ ?_)); clear hK K)
 (refine go_ an0 ?_)
 (first | exact oq_ an0 | refine ou_ an0 ?_)
end Go.Proofs.YtjdgejfhnfnmgaaGreatDoor.Ax
namespace Go.Proofs.YtjdgejfhnfnmgaaGreatDoor.Ax
open Go.RowKit
def ifB (b x y : Bool) : Bool := if b = true then x else y
def limOk (k limit : Int) (order : ByteArray) (no : Bool) : Bool := if (k == 13) = true then (decide (-1 ≤ limit) && decide (limit ≤ 999999999)) && (order.toList == (⟨#[]⟩ : ByteArray).toList || no) else true
def goodVa (x : Vl) : Bool := x.chk == 0
def goodCo (x : Col) : Bool := nameB x.name && (decide (1 ≤ x.ty) && decide (x.ty ≤ 3))
theorem cols_good (l : List Col) : (!l.any badCol) = l.all goodCo := by
 induction l with
 | nil => rfl
 | cons x l ih =>
  rw [List.any_cons, List.all_cons, ← ih]
  unfold badCol goodCo
  cases nameB x.name <;> cases (decide (1 ≤ x.ty) && decide (x.ty ≤ 3)) <;> cases l.any _ <;> rfl
theorem vals_good (l : List Vl) : (!l.any badV) = l.all goodVa := by
 induction l with
 | nil => rfl
 | cons x l ih =>
  rw [List.any_cons, List.all_cons, ← ih]
  unfold badV goodVa
  cases (x.chk == 0) <;> cases l.any _ <;> rfl
theorem fields_good (l : List ByteArray) : (!l.any badF) = l.all nameB := by
 induction l with
 | nil => rfl
 | cons x l ih =>
  rw [List.any_cons, List.all_cons, ← ih]
  unfold badF
  cases nameB x <;> cases l.any _ <;> rfl
def okR (c : Cm) : Bool :=
 (((((((decide (1 ≤ c.k) && decide (c.k ≤ 16) && namedB c.name (decide (c.k ≤ 13)) && namedB c.other ((c.k == 5 || c.k == 7) || c.k == 8) && namedB c.column (((decide (3 ≤ c.k) && decide (c.k ≤ 6)) || c.k == 8) || c.k == 12)) && typeOk (c.k == 3 || c.k == 6) c.ty) && c.v.chk == 0 && (c.k == 3 || c.v.same Vl.zero) && ((c.k == 1) == decide (0 < (c.cols.length : Int))) && ((c.k == 10) == decide (0 < (c.vals.length : Int))) && (c.k == 13 || ((c.fields.length : Int) == 0 && c.order.toList == (⟨#[]⟩ : ByteArray).toList && c.limit == 0))) && c.cols.all goodCo) && c.vals.all goodVa) && c.fields.all nameB) && limOk c.k c.limit c.order (nameB c.order)) && ifB (c.k == 12) (exprB c.ex) (noneB c.ex) && ifB ((decide (11 ≤ c.k) && decide (c.k ≤ 13)) && !c.all) (exprB c.wh) (noneB c.wh && ((decide (11 ≤ c.k) && decide (c.k ≤ 13)) || !c.all))
set_option maxHeartbeats 4000000 in
theorem okP_okR (c : Cm) : okP c = okR c := by
 unfold okP okR listsG wheresG exOk ifB limOk
 rw [cols_good, vals_good, fields_good, isE]
 generalize hco : c.cols.all goodCo = co
 generalize c.vals.all goodVa = va
 generalize c.fields.all nameB = fa
 generalize decide (0 < (c.cols.length : Int)) = dc
 generalize decide (0 < (c.vals.length : Int)) = dv
 generalize ((c.fields.length : Int) == 0) = df
 generalize c.v.same Vl.zero = sz
 generalize (c.v.chk == 0) = vc
 generalize emptyS c.order = eo
 generalize nameB c.order = no
 generalize exprB c.ex = e1
 generalize noneB c.ex = e2
 generalize exprB c.wh = e3
 generalize noneB c.wh = e4
 generalize (c.limit == 0) = l0
 generalize (decide (-1 ≤ c.limit) && decide (c.limit ≤ 999999999)) = l1
 generalize c.all = al
 generalize hk : c.k = k
 generalize c.name = nm
 generalize c.other = ot
 generalize c.column = cl
 generalize c.ty = ty
 by_cases h1 : 1 ≤ k
 rotate_left
 ·have z : decide (1 ≤ k) = false := decide_eq_false h1
  simp only [z, Bool.false_and]
 by_cases h2 : k ≤ 16
 rotate_left
 ·have z : decide (k ≤ 16) = false := decide_eq_false h2
  simp only [z, Bool.false_and, Bool.and_false]
 clear hk hco
 obtain rfl | rfl | rfl | rfl | rfl | rfl | rfl | rfl | rfl | rfl | rfl | rfl | rfl | rfl | rfl | rfl : k = 1 ∨ k = 2 ∨ k = 3 ∨ k = 4 ∨ k = 5 ∨ k = 6 ∨ k = 7 ∨ k = 8 ∨ k = 9 ∨ k = 10 ∨ k = 11 ∨ k = 12 ∨ k = 13 ∨ k = 14 ∨ k = 15 ∨ k = 16 := by omega
 all_goals
  cases al
  all_goals
   simp [kName, kOther, kColumn, kType, kWhere]
   try ac_rfl
end Go.Proofs.YtjdgejfhnfnmgaaGreatDoor.Ax
