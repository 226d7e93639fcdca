/-  -/
import Derived.Test.YtjdgejfhnfnmgaaGreatDoorAxW
import Derived.Test.YtjdgejfhnfnmgaaGreatDoorM34
import Derived.Test.YtjdgejfhnfnmgaaGreatDoorM1
import Derived.Test.YtjdgejfhnfnmgaaGreatDoorShelf
import Derived.Shelf.Strings.BuilderK
import Derived.WalkKit
import Derived.Test.YtjdgejfhnfnmgaaGreatDoorAxTy
import Derived.Test.YtjdgejfhnfnmgaaGreatDoorM10
import Derived.Test.YtjdgejfhnfnmgaaGreatDoorM24
import Derived.Lib.ItoaLen
import Derived.Test.YtjdgejfhnfnmgaaGreatDoorM17
namespace Go.Proofs.YtjdgejfhnfnmgaaGreatDoor.Ax
open Go.RowKit
set_option linter.unusedSimpArgs false
attribute [local go_sem] ty3 ty4 ty9 feq24 ty24 ty25 ty54 ty22 ty26 ty27 ty29 ty31 ty72 ty32
set_option linter.unusedVariables false
set_option maxRecDepth 100000
set_option maxHeartbeats 32000000 in
theorem ccheck_sp (c : Cm) (hg : goodCm c) : Sp Tryz.prog 17 [.agg (rCm c)] (.one (.t true (.lit (.int .i64 (checkP c))))) [] := by
 have hG1 := great_sp c.ex
 have hG2 := great_sp c.wh
 have hOf := of_sp c.k
 have hN1 := named_sp c.name hg.name (kName c.k)
 have hN2 := named_sp c.other hg.other (kOther c.k)
 have hN3 := named_sp c.column hg.column (kColumn c.k)
 have hT := vtype_sp c.ty
 have hL := lists_sp c hg (kName c.k) (kOther c.k) (kColumn c.k) (c.k == 1) (kType c.k) (c.k == 3) (c.k == 10) (c.k == 12) (kWhere c.k) (c.k == 13)
 have hW := wheres_sp c hg (kName c.k) (kOther c.k) (kColumn c.k) (c.k == 1) (kType c.k) (c.k == 3) (c.k == 10) (c.k == 12) (kWhere c.k) (c.k == 13)
 have hE := cexpr_sp c.ex hg.ex
 have hNo := none_sp c.ex
 unfold checkP bigB okP exOk typeOk
 unfold vShape at hOf
 unfold aShape at hL hW
 clear hg
 generalize listsG c (c.k == 1) (c.k == 10) (c.k == 3) (c.k == 13) = q1 at *
 generalize wheresG c (kWhere c.k) (c.k == 13) = q2 at *
 obtain ⟨k, name, other, column, cols, ty, v, vals, fields, ⟨k1, v1, n1, a1⟩, all, ⟨k2, v2, n2, a2⟩, order, limit⟩ := c
 dsimp only at *
 rw [rCm_mk] at hL hW ⊢
 rw [rE_mk] at hG1 hG2 hE hNo
 generalize kName k = s0 at *
 generalize kOther k = s1 at *
 generalize kColumn k = s2 at *
 generalize (k == 1) = s3 at *
 generalize kType k = s4 at *
 generalize (k == 3) = s5 at *
 generalize (k == 10) = s6 at *
 generalize (k == 12) = s7 at *
 generalize kWhere k = s8 at *
 generalize (k == 13) = s9 at *
 generalize namedB name s0 = m1 at *
 generalize namedB other s1 = m2 at *
 generalize namedB column s2 = m3 at *
 generalize exprB (.mk k1 v1 n1 a1) = x1 at *
 generalize noneB (.mk k1 v1 n1 a1) = x2 at *
 generalize decide (15 < sizeE (.mk k1 v1 n1 a1) 15) = d4 at *
 generalize decide (15 < sizeE (.mk k2 v2 n2 a2) 15) = d5 at *
 generalize (decide (1 ≤ ty) && decide (ty ≤ 3)) = t1 at *
 obtain ⟨d1, hd1⟩ : ∃ d, d = decide (5 < (cols.length : Int)) := ⟨_, rfl⟩
 rw [← hd1]
 have hd1 := hd1.symm
 obtain ⟨d2, hd2⟩ : ∃ d, d = decide (5 < (vals.length : Int)) := ⟨_, rfl⟩
 rw [← hd2]
 have hd2 := hd2.symm
 obtain ⟨d3, hd3⟩ : ∃ d, d = decide (5 < (fields.length : Int)) := ⟨_, rfl⟩
 rw [← hd3]
 have hd3 := hd3.symm
 obtain ⟨r1, hr1⟩ : ∃ d, d = decide (1 ≤ k) := ⟨_, rfl⟩
 rw [← hr1]
 have hr1 := hr1.symm
 obtain ⟨r2, hr2⟩ : ∃ d, d = decide (k ≤ 16) := ⟨_, rfl⟩
 rw [← hr2]
 have hr2 := hr2.symm
 obtain ⟨t2, ht2⟩ : ∃ d, d = (ty == 0) := ⟨_, rfl⟩
 rw [← ht2]
 have ht2 := ht2.symm
 have F := an6 hd1 hd2 hd3 hr1 hr2 ht2
 (refine en_ Tryz.func17 Tryz.ntmps17 Tryz.results17 fun X hX => ?_)
 refine au_ F ?_
 refine cw_cond rfl (fun hp => ?_) (fun hp => ?_)
 ·rw [if_pos (by rw [← hp]; simp only [Bool.or_assoc])]
  refine au_ an0 ?_
  exact oq_ an0
 rw [if_neg (by rw [Bool.not_eq_true, ← hp]; simp only [Bool.or_assoc])]
 clear hp
 refine au_ F ?_
 obtain ⟨ok, hok⟩ : ∃ ok, ok = (r1 && r2 && m1 && m2 && m3 && (s4 && t1 || !s4 && t2) && q1 && q2) := ⟨_, rfl⟩
 rw [← hok]
 refine au_ F ?_
 have e0 : (if s4 = true then t1 else t2) = (s4 && t1 || !s4 && t2) := by cases s4 <;> simp
 have e1 : (r1 && (r2 && (m1 && (m2 && (m3 && ((s4 && t1 || !s4 && t2) && (q1 && (q2 && if s7 = true then x1 else x2)))))))) = (ok && if s7 = true then x1 else x2) := by rw [hok]; simp only [Bool.and_assoc]
 rw [e0, e1]
 clear e0 e1 hok
 refine cw_cond rfl (fun hp => ?_) (fun hp => ?_)
 ·have e : (ok && if s7 = true then x1 else x2) = false := by revert hp; cases ok <;> cases s7 <;> cases x1 <;> cases x2 <;> decide
  rw [e, if_neg (by decide)]
  refine au_ an0 ?_
  exact oq_ an0
 ·have e : (ok && if s7 = true then x1 else x2) = true := by revert hp; cases ok <;> cases s7 <;> cases x1 <;> cases x2 <;> decide
  rw [e, if_pos rfl]
  refine au_ an0 ?_
  exact oq_ an0
end Go.Proofs.YtjdgejfhnfnmgaaGreatDoor.Ax
namespace Go.Proofs.YtjdgejfhnfnmgaaGreatDoor
open Go.Shelf Go.RowKit
section
variable {P : Program} {ρ : Ren}
end
end Go.Proofs.YtjdgejfhnfnmgaaGreatDoor
namespace Go.Proofs.YtjdgejfhnfnmgaaGreatDoor.Ax
open Go.RowKit
set_option linter.unusedSimpArgs false
attribute [local go_sem] ty3 ty4 ty5 ty9 ty87 ty89 ty86 ty123 ty91 ty85
set_option maxRecDepth 100000



end Go.Proofs.YtjdgejfhnfnmgaaGreatDoor.Ax
namespace Go.Proofs.YtjdgejfhnfnmgaaGreatDoor
open Go.RowKit
end Go.Proofs.YtjdgejfhnfnmgaaGreatDoor
namespace Go.Proofs.YtjdgejfhnfnmgaaGreatDoor.Ax
open Go.RowKit
set_option linter.unusedSimpArgs false
attribute [local go_sem] ty3 ty4 ty9 ty5 ty24 ty25 ty87 ty32
set_option linter.unusedVariables false
set_option maxRecDepth 100000
end Go.Proofs.YtjdgejfhnfnmgaaGreatDoor.Ax
namespace Go.Proofs.YtjdgejfhnfnmgaaGreatDoor.Ax
open Go.RowKit
set_option linter.unusedSimpArgs false
attribute [local go_sem] ty3 ty4 ty9 ty5 ty24 ty26
set_option linter.unusedVariables false
set_option maxRecDepth 100000
end Go.Proofs.YtjdgejfhnfnmgaaGreatDoor.Ax
namespace Go.Proofs.YtjdgejfhnfnmgaaGreatDoor.Ax
open Go.RowKit
set_option linter.unusedSimpArgs false
attribute [local go_sem] ty3 ty4 ty9 ty5 ty24 ty26 ty27 ty29
set_option linter.unusedVariables false
set_option maxRecDepth 100000
end Go.Proofs.YtjdgejfhnfnmgaaGreatDoor.Ax
namespace Go.Proofs.YtjdgejfhnfnmgaaGreatDoor.Ax
open Go.RowKit
set_option linter.unusedSimpArgs false
attribute [local go_sem] ty3 ty4 ty9 ty5 ty24 ty26 ty27 ty29
set_option linter.unusedVariables false
set_option maxRecDepth 100000
end Go.Proofs.YtjdgejfhnfnmgaaGreatDoor.Ax
namespace Go.Proofs.YtjdgejfhnfnmgaaGreatDoor.Ax
open Go.RowKit
set_option linter.unusedSimpArgs false
attribute [local go_sem] ty3 ty4 ty9 ty5 ty26
set_option linter.unusedVariables false
set_option maxRecDepth 100000
end Go.Proofs.YtjdgejfhnfnmgaaGreatDoor.Ax
namespace Go.Proofs.YtjdgejfhnfnmgaaGreatDoor.Ax
open Go.RowKit
end Go.Proofs.YtjdgejfhnfnmgaaGreatDoor.Ax
namespace Go.Proofs.YtjdgejfhnfnmgaaGreatDoor.Ax
open Go.RowKit
set_option linter.unusedSimpArgs false
attribute [local go_sem] ty3 ty4 ty9 ty5 ty26 ty91 ty85 ty86
set_option linter.unusedVariables false
set_option maxRecDepth 100000
theorem bs_data (s : ByteArray) : bs s.data.toList = s := by
 apply ByteArray.ext
 simp [bs]
end Go.Proofs.YtjdgejfhnfnmgaaGreatDoor.Ax
namespace Go.Proofs.YtjdgejfhnfnmgaaGreatDoor.Ax
open Go.RowKit
set_option linter.unusedSimpArgs false
attribute [local go_sem] ty3 ty4 ty9 ty5 ty26 ty54 ty22 ty24 ty25
set_option linter.unusedVariables false
set_option maxRecDepth 100000
end Go.Proofs.YtjdgejfhnfnmgaaGreatDoor.Ax
namespace Go.Proofs.YtjdgejfhnfnmgaaGreatDoor.Ax
open Go.RowKit
set_option linter.unusedSimpArgs false
attribute [local go_sem] ty3 ty4 ty9 ty5 ty26 ty54 ty22 ty24 ty25 ty27 ty29 ty31 ty91 ty85
set_option linter.unusedVariables false
set_option maxRecDepth 100000
end Go.Proofs.YtjdgejfhnfnmgaaGreatDoor.Ax
namespace Go.Proofs.YtjdgejfhnfnmgaaGreatDoor.Ax
open Go.RowKit
set_option linter.unusedSimpArgs false
attribute [local go_sem] ty3 ty4 ty9 ty5 ty26 ty54 ty22 ty24 ty25 ty27 ty29 ty31 ty91 ty85
set_option linter.unusedVariables false
set_option maxRecDepth 100000
end Go.Proofs.YtjdgejfhnfnmgaaGreatDoor.Ax
namespace Go.Proofs.YtjdgejfhnfnmgaaGreatDoor.Ax
open Go.RowKit
set_option linter.unusedSimpArgs false
attribute [local go_sem] ty3 ty4 ty9 ty5 ty26 ty54 ty22 ty24 ty25 ty27 ty29 ty31 ty91 ty85
set_option linter.unusedVariables false
set_option maxRecDepth 100000
end Go.Proofs.YtjdgejfhnfnmgaaGreatDoor.Ax
namespace Go.Proofs.YtjdgejfhnfnmgaaGreatDoor.Ax
open Go.RowKit
set_option linter.unusedSimpArgs false
attribute [local go_sem] ty3 ty4 ty9 ty5 ty26 ty54 ty22 ty24 ty25 ty27 ty29 ty31 ty91 ty85
set_option linter.unusedVariables false
set_option maxRecDepth 100000
end Go.Proofs.YtjdgejfhnfnmgaaGreatDoor.Ax
namespace Go.Proofs.YtjdgejfhnfnmgaaGreatDoor.Ax
open Go.RowKit
set_option linter.unusedSimpArgs false
attribute [local go_sem] ty3 ty4 ty9 ty5 ty26 ty54 ty22 ty24 ty25 ty27 ty29 ty31 ty91 ty85
set_option linter.unusedVariables false
set_option maxRecDepth 100000
end Go.Proofs.YtjdgejfhnfnmgaaGreatDoor.Ax
namespace Go.Proofs.YtjdgejfhnfnmgaaGreatDoor.Ax
open Go.RowKit
set_option linter.unusedSimpArgs false
attribute [local go_sem] ty3 ty4 ty9 ty5 ty26 ty54 ty22 ty24 ty25 ty27 ty29 ty31 ty91 ty85
set_option linter.unusedVariables false
set_option maxRecDepth 100000
end Go.Proofs.YtjdgejfhnfnmgaaGreatDoor.Ax
namespace Go.Proofs.YtjdgejfhnfnmgaaGreatDoor.Ax
open Go.RowKit
set_option linter.unusedSimpArgs false
attribute [local go_sem] extV appD cutOwn appOwn clearOwn bdI mapD putD' keyOk getOr getM putM wholeV litCs asV asC ptrC fnC nilC nilPtr strRows_len runs runsN guardOf exec1 pureV modD rowD ev get St.app St.put St.turn loadC moveC fieldOf indexC lenC lenOk cutC bndOf evAll fieldV convV unV binV binI bitsV moreV intsT eqL eq1 valOf min1 lit1 litInt litI litB litS constV constC cellsV partsOf placesOf buildV fillL toT elemsOf rowsOf baseOf dstOk V.kill V.ment V.ments C.kill C.ment C.ments B.kill setD litRows litRows_append T.isLit callAll calleeV argsV argV viewC viewCs modeOk freeOps V.free C.free V.allF V.allFs C.allF C.allFs B.allF callD leL growB C.flat V.flat B.flat flatL flatB St.flat List.set_cons_zero List.set_cons_succ C.only C.onlys V.only V.onlys B.only renI C.ren C.rens V.ren V.rens B.ren renB renOk nodK Option.getD_some Option.getD_none Option.isSome_some implies_true false_implies C.fit C.fits V.fit V.fit1 V.fits Bool.and_self ite_self exitV resV resL resC outV outV.outs eqB nn cast0 Int.toNat_natCast List.getElem?_map Value.cells Value.oneCell' Nat.lt_irrefl decide_true decide_false and_true true_and and_self and_false false_and not_true_eq_false not_false_eq_true not_true not_false List.size_toArray all_len Nat.zero_add Nat.add_zero List.length_cons List.length_append List.length_replicate List.length_set List.length_nil List.length_map List.map_cons List.map_nil List.take_succ_cons List.take_zero List.take_nil List.drop_succ_cons List.drop_zero List.drop_nil List.cons_append List.nil_append List.append_nil List.all_cons List.all_nil Bool.and_true Bool.true_and Bool.and_false Bool.false_and Bool.not_true Bool.not_false Bool.or_false Bool.or_true Bool.false_or Bool.true_or List.filter_cons List.filter_nil List.contains_cons List.contains_nil beq_self_eq_true List.getElem?_cons_zero List.getElem?_cons_succ List.getElem?_nil Option.map_some Option.map_none Option.toList_some Option.toList_none List.isEmpty_cons List.isEmpty_nil Bool.false_eq_true Bool.true_eq_false List.getElem?_toArray List.not_mem_nil List.mem_cons or_false forall_eq List.mem_singleton forall_const Option.toArray addF if_true if_false dstsOf Oper.looksAt Op.operands Call.operands pick edge B.ment Region.binds List.any_cons List.any_nil List.filterMap_cons List.filterMap_nil ne_eq Bool.or_self List.isEmpty_iff Array.toList_append List.append_toArray Array.append_empty Option.bind_some Option.bind_none List.push_toArray argSv ioD modeIO staysOk callIO calleeIO argsIO valIO cellsIO cellIO butB zLe cLe csLe vLe vsLe bLe insLe renIOk nbOk anyText anyGc aliveF mK kdN klAt klAt.atL dstNe edgesOf foSl inL C.ids C.idss V.ids V.idss NDst klOf dropS true_or or_true or_self ty3 ty4 ty9 ty5 ty26 ty54 ty22 ty24 ty25 ty27 ty29 ty31 ty91 ty85
set_option linter.unusedVariables false
set_option maxRecDepth 100000
end Go.Proofs.YtjdgejfhnfnmgaaGreatDoor.Ax
namespace Go.Proofs.YtjdgejfhnfnmgaaGreatDoor.Ax
open Go.RowKit
set_option linter.unusedSimpArgs false
attribute [local go_sem] ty3 ty4 ty9 ty5 ty26 ty54 ty22 ty24 ty25 ty27 ty29 ty31 ty91 ty85
set_option linter.unusedVariables false
set_option maxRecDepth 100000
end Go.Proofs.YtjdgejfhnfnmgaaGreatDoor.Ax
namespace Go.Proofs.YtjdgejfhnfnmgaaGreatDoor.Ax
open Go.RowKit
end Go.Proofs.YtjdgejfhnfnmgaaGreatDoor.Ax
namespace Go.Proofs.YtjdgejfhnfnmgaaGreatDoor.Ax
open Go.RowKit
set_option linter.unusedSimpArgs false
attribute [local go_sem] ty3 ty4 ty9 feq24 ty24 ty25 feq54 ty54 ty22 ty26 ty27 ty29 ty31
set_option linter.unusedVariables false
set_option maxRecDepth 100000
end Go.Proofs.YtjdgejfhnfnmgaaGreatDoor.Ax
namespace Go.Proofs.YtjdgejfhnfnmgaaGreatDoor.Ax
open Go.RowKit
def ifB (b x y : Bool) : Bool := if b = true then x else y
def limOk (k limit : Int) (order : ByteArray) (no : Bool) : Bool := if (k == 13) = true then (decide (-1 ≤ limit) && decide (limit ≤ 999999999)) && (order.toList == (⟨#[]⟩ : ByteArray).toList || no) else true
def goodVa (x : Vl) : Bool := x.chk == 0
def goodCo (x : Col) : Bool := nameB x.name && (decide (1 ≤ x.ty) && decide (x.ty ≤ 3))
theorem cols_good (l : List Col) : (!l.any badCol) = l.all goodCo := by
 induction l with
 | nil => rfl
 | cons x l ih =>
  rw [List.any_cons, List.all_cons, ← ih]
  unfold badCol goodCo
  cases nameB x.name <;> cases (decide (1 ≤ x.ty) && decide (x.ty ≤ 3)) <;> cases l.any _ <;> rfl
theorem vals_good (l : List Vl) : (!l.any badV) = l.all goodVa := by
 induction l with
 | nil => rfl
 | cons x l ih =>
  rw [List.any_cons, List.all_cons, ← ih]
  unfold badV goodVa
  cases (x.chk == 0) <;> cases l.any _ <;> rfl
theorem fields_good (l : List ByteArray) : (!l.any badF) = l.all nameB := by
 induction l with
 | nil => rfl
 | cons x l ih =>
  rw [List.any_cons, List.all_cons, ← ih]
  unfold badF
  cases nameB x <;> cases l.any _ <;> rfl
def okR (c : Cm) : Bool :=
 (((((((decide (1 ≤ c.k) && decide (c.k ≤ 16) && namedB c.name (decide (c.k ≤ 13)) && namedB c.other ((c.k == 5 || c.k == 7) || c.k == 8) && namedB c.column (((decide (3 ≤ c.k) && decide (c.k ≤ 6)) || c.k == 8) || c.k == 12)) && typeOk (c.k == 3 || c.k == 6) c.ty) && c.v.chk == 0 && (c.k == 3 || c.v.same Vl.zero) && ((c.k == 1) == decide (0 < (c.cols.length : Int))) && ((c.k == 10) == decide (0 < (c.vals.length : Int))) && (c.k == 13 || ((c.fields.length : Int) == 0 && c.order.toList == (⟨#[]⟩ : ByteArray).toList && c.limit == 0))) && c.cols.all goodCo) && c.vals.all goodVa) && c.fields.all nameB) && limOk c.k c.limit c.order (nameB c.order)) && ifB (c.k == 12) (exprB c.ex) (noneB c.ex) && ifB ((decide (11 ≤ c.k) && decide (c.k ≤ 13)) && !c.all) (exprB c.wh) (noneB c.wh && ((decide (11 ≤ c.k) && decide (c.k ≤ 13)) || !c.all))
set_option maxHeartbeats 4000000 in
theorem okP_okR (c : Cm) : okP c = okR c := by
 unfold okP okR listsG wheresG exOk ifB limOk
 rw [cols_good, vals_good, fields_good, isE]
 generalize hco : c.cols.all goodCo = co
 generalize c.vals.all goodVa = va
 generalize c.fields.all nameB = fa
 generalize decide (0 < (c.cols.length : Int)) = dc
 generalize decide (0 < (c.vals.length : Int)) = dv
 generalize ((c.fields.length : Int) == 0) = df
 generalize c.v.same Vl.zero = sz
 generalize (c.v.chk == 0) = vc
 generalize emptyS c.order = eo
 generalize nameB c.order = no
 generalize exprB c.ex = e1
 generalize noneB c.ex = e2
 generalize exprB c.wh = e3
 generalize noneB c.wh = e4
 generalize (c.limit == 0) = l0
 generalize (decide (-1 ≤ c.limit) && decide (c.limit ≤ 999999999)) = l1
 generalize c.all = al
 generalize hk : c.k = k
 generalize c.name = nm
 generalize c.other = ot
 generalize c.column = cl
 generalize c.ty = ty
 by_cases h1 : 1 ≤ k
 rotate_left
 ·have z : decide (1 ≤ k) = false := decide_eq_false h1
  simp only [z, Bool.false_and]
 by_cases h2 : k ≤ 16
 rotate_left
 ·have z : decide (k ≤ 16) = false := decide_eq_false h2
  simp only [z, Bool.false_and, Bool.and_false]
 clear hk hco
 obtain rfl | rfl | rfl | rfl | rfl | rfl | rfl | rfl | rfl | rfl | rfl | rfl | rfl | rfl | rfl | rfl : k = 1 ∨ k = 2 ∨ k = 3 ∨ k = 4 ∨ k = 5 ∨ k = 6 ∨ k = 7 ∨ k = 8 ∨ k = 9 ∨ k = 10 ∨ k = 11 ∨ k = 12 ∨ k = 13 ∨ k = 14 ∨ k = 15 ∨ k = 16 := by omega
 all_goals
  cases al
  all_goals
   simp [kName, kOther, kColumn, kType, kWhere]
   try ac_rfl
end Go.Proofs.YtjdgejfhnfnmgaaGreatDoor.Ax
