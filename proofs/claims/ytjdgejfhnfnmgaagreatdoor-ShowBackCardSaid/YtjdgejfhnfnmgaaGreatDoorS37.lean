/-  -/
import Derived.Test.YtjdgejfhnfnmgaaGreatDoorS19
import Derived.Test.YtjdgejfhnfnmgaaGreatDoorS26
import Derived.Test.YtjdgejfhnfnmgaaGreatDoorS36
import Derived.Test.YtjdgejfhnfnmgaaGreatDoorS23
namespace Go.Proofs.YtjdgejfhnfnmgaaGreatDoor.Ax
open Go.RowKit
set_option linter.unusedSimpArgs false
attribute [local go_sem] ty3 ty4 ty9 ty5 ty26 ty54 ty22 ty24 ty25 ty27 ty29 ty31 ty91 ty85 prnNew prnUsed rowW
set_option linter.unusedVariables false
set_option maxRecDepth 100000
end Go.Proofs.YtjdgejfhnfnmgaaGreatDoor.Ax
namespace Go.Proofs.YtjdgejfhnfnmgaaGreatDoor.Ax
open Go.RowKit
set_option linter.unusedSimpArgs false
attribute [local go_sem] extV appD cutOwn appOwn clearOwn bdI mapD putD' keyOk getOr getM putM wholeV litCs asV asC ptrC fnC nilC nilPtr strRows_len runs runsN guardOf exec1 pureV modD rowD ev get St.app St.put St.turn loadC moveC fieldOf indexC lenC lenOk cutC bndOf evAll fieldV convV unV binV binI bitsV moreV intsT eqL eq1 valOf min1 lit1 litInt litI litB litS constV constC cellsV partsOf placesOf buildV fillL toT elemsOf rowsOf baseOf dstOk V.kill V.ment V.ments C.kill C.ment C.ments B.kill setD litRows litRows_append T.isLit callAll calleeV argsV argV viewC viewCs modeOk freeOps V.free C.free V.allF V.allFs C.allF C.allFs B.allF callD leL growSt growB C.flat V.flat B.flat flatL flatB St.flat List.set_cons_zero List.set_cons_succ C.only C.onlys V.only V.onlys B.only renI C.ren C.rens V.ren V.rens B.ren renB renOk nodK Option.getD_some Option.getD_none Option.isSome_some implies_true false_implies C.fit C.fits V.fit V.fit1 V.fits Bool.and_self ite_self exitV resV resL resC outV outV.outs eqB nn cast0 Int.toNat_natCast List.getElem?_map Value.cells Value.oneCell' Nat.lt_irrefl decide_true decide_false and_true true_and and_self and_false false_and not_true_eq_false not_false_eq_true not_true not_false List.size_toArray all_len Nat.zero_add Nat.add_zero List.length_cons List.length_append List.length_replicate List.length_set List.length_nil List.length_map List.map_cons List.map_nil List.take_succ_cons List.take_zero List.take_nil List.drop_succ_cons List.drop_zero List.drop_nil List.cons_append List.nil_append List.append_nil List.all_cons List.all_nil Bool.and_true Bool.true_and Bool.and_false Bool.false_and Bool.not_true Bool.not_false Bool.or_false Bool.or_true Bool.false_or Bool.true_or List.filter_cons List.filter_nil List.contains_cons List.contains_nil beq_self_eq_true List.getElem?_cons_zero List.getElem?_cons_succ List.getElem?_nil Option.map_some Option.map_none Option.toList_some Option.toList_none List.isEmpty_cons List.isEmpty_nil Bool.false_eq_true Bool.true_eq_false List.getElem?_toArray List.not_mem_nil List.mem_cons or_false forall_eq List.mem_singleton forall_const Option.toArray tailF addF flSl dKeeps flFree closF notF if_true if_false dstsOf Oper.looksAt Op.operands Call.operands pick stOf goneOf slOf blOf keepB' edge B.ment Region.binds tailOk clos List.any_cons List.any_nil List.filterMap_cons List.filterMap_nil ne_eq Bool.or_self List.isEmpty_iff Array.toList_append List.append_toArray Array.append_empty Option.bind_some Option.bind_none List.push_toArray argSv ioD modeIO staysOk callIO calleeIO argsIO valIO cellsIO cellIO butB zLe cLe csLe vLe vsLe bLe insLe renIOk nbOk anyText anyGc aliveF mK kdN klAt klAt.atL dstNe edgesOf foSl inL C.ids C.idss V.ids V.idss NDst klOf dropS true_or or_true or_self ty3 ty4 ty9 ty5 ty26 ty54 ty22 ty24 ty25 ty27 ty29 ty31 ty91 ty85
set_option linter.unusedVariables false
set_option maxRecDepth 100000
end Go.Proofs.YtjdgejfhnfnmgaaGreatDoor.Ax
namespace Go.Proofs.YtjdgejfhnfnmgaaGreatDoor.Ax
open Go.RowKit
set_option linter.unusedSimpArgs false
attribute [local go_sem] ty3 ty4 ty9 ty5 ty26 ty54 ty22 ty24 ty25 ty27 ty29 ty31 ty91 ty85 prnNew prnUsed rowW
set_option linter.unusedVariables false
set_option maxRecDepth 100000
end Go.Proofs.YtjdgejfhnfnmgaaGreatDoor.Ax
namespace Go.Proofs.YtjdgejfhnfnmgaaGreatDoor.Ax
open Go.RowKit
end Go.Proofs.YtjdgejfhnfnmgaaGreatDoor.Ax
namespace Go.Proofs.YtjdgejfhnfnmgaaGreatDoor.Ax
open Go.RowKit
set_option linter.unusedSimpArgs false
attribute [local go_sem] ty3 ty4 ty9 feq24 ty24 ty25 feq54 ty54 ty22 ty26 ty27 ty29 ty31
set_option linter.unusedVariables false
set_option maxRecDepth 100000
theorem sameC_head (c d:Cm):sameC c d=((c.k==d.k) && ((c.name.toList==d.name.toList) && ((c.other.toList==d.other.toList) && ((c.column.toList==d.column.toList) && ((c.ty==d.ty) && (c.v.same d.v && ((c.all==d.all) && ((c.order.toList==d.order.toList) && ((c.limit==d.limit) && (eqBy colEq c.cols d.cols && (eqBy Vl.same c.vals d.vals && (eqBy strEq c.fields d.fields && (sameE c.ex d.ex && sameE c.wh d.wh))))))))))))):=by
 unfold sameC
 simp only [Bool.and_assoc]
 cases c.k==d.k <;> cases c.name.toList==d.name.toList <;> try rfl
 all_goals
  cases sameE c.ex d.ex <;> cases sameE c.wh d.wh <;> cases eqBy colEq c.cols d.cols <;> cases eqBy strEq c.fields d.fields <;> cases eqBy Vl.same c.vals d.vals <;> simp only [Bool.and_false,Bool.false_and,Bool.and_true,Bool.true_and]
set_option maxHeartbeats 16000000 in
theorem same_sp (c d:Cm) (hc:c.cols.length≤maxLen) (hv:c.vals.length≤maxLen) (hf:c.fields.length≤maxLen) (he:goodE c.ex) (hw:goodE c.wh) :
  Sp Tryz.prog 12 [.agg (rCm c),.agg (rCm d)] (.one (.t true (.lit (.bool (sameC c d))))) []:=by
 rw [sameC_head]
 have hQ1:=sameexpr_sp c.ex he d.ex
 have hQ2:=sameexpr_sp c.wh hw d.wh
 have hQ3:=eqC_sp c.cols d.cols hc
 have hQ4:=eqV_sp c.vals d.vals hv
 have hQ5:=eqS_sp c.fields d.fields hf
 have hsv:=same_parts c.v d.v
 obtain ⟨k,name,other,column,cols,ty,v,vals,fields,⟨k1,v1,n1,a1⟩,all,⟨k2,v2,n2,a2⟩,order,limit⟩:=c
 obtain ⟨k',name',other',column',cols',ty',v',vals',fields',⟨k1',v1',n1',a1'⟩,all',⟨k2',v2',n2',a2'⟩,order',limit'⟩:=d
 dsimp only at *
 rw [rCm_mk,rCm_mk]
 rw [rE_mk,rE_mk] at hQ1 hQ2
 generalize sameE (.mk k1 v1 n1 a1) (.mk k1' v1' n1' a1')=b1 at *
 generalize sameE (.mk k2 v2 n2 a2) (.mk k2' v2' n2' a2')=b2 at *
 generalize eqBy colEq cols cols'=b3 at *
 generalize eqBy Vl.same vals vals'=b4 at *
 generalize eqBy strEq fields fields'=b5 at *
 generalize v.same v'=b6 at *
 (refine en_ Tryz.func12 Tryz.ntmps12 Tryz.results12 fun X hX=>?_)
 (refine gs_ ?_)
 (refine rn_ 8 an0 fun K hK=>?_;refine rr_ an0 ?_)
 ((first | refine rwr_nil (hK _ ?_) | refine de_ (hK _ ?_));clear hK K)
 (refine gs_ ?_)
 cases e1:(k==k')
 ·rw [Bool.false_and]
  have e1n:(k != k')=true:=by rw [bne,e1];rfl
  (refine rn_ 8 (an2 e1 e1n) fun K hK=>?_)
  (refine rw_goN (k:=8) ?_;(refine sm_ (an2 e1 e1n) ?_))
  (refine rr_ (an2 e1 e1n) ?_)
  ((first | refine rwr_nil (hK _ ?_) | refine de_ (hK _ ?_));clear hK K)
  (refine go_ an0 ?_)
  (first | exact oq_ an0 | refine ou_ an0 ?_)
 rw [Bool.true_and]
 have e1n:(k != k')=false:=by rw [bne,e1];rfl
 cases e2:(name.toList==name'.toList)
 ·rw [Bool.false_and]
  (refine rn_ 8 (an3 e1 e1n e2) fun K hK=>?_)
  (refine rw_goN (k:=8) ?_;(refine sm_ (an3 e1 e1n e2) ?_))
  (refine rr_ (an3 e1 e1n e2) ?_)
  ((first | refine rwr_nil (hK _ ?_) | refine de_ (hK _ ?_));clear hK K)
  (refine go_ an0 ?_)
  (first | exact oq_ an0 | refine ou_ an0 ?_)
 rw [Bool.true_and]
 cases e3:(other.toList==other'.toList)
 ·rw [Bool.false_and]
  (refine rn_ 8 (an4 e1 e1n e2 e3) fun K hK=>?_)
  (refine rw_goN (k:=8) ?_;(refine sm_ (an4 e1 e1n e2 e3) ?_))
  (refine rr_ (an4 e1 e1n e2 e3) ?_)
  ((first | refine rwr_nil (hK _ ?_) | refine de_ (hK _ ?_));clear hK K)
  (refine go_ an0 ?_)
  (first | exact oq_ an0 | refine ou_ an0 ?_)
 rw [Bool.true_and]
 cases e4:(column.toList==column'.toList)
 ·rw [Bool.false_and]
  (refine rn_ 8 (an5 e1 e1n e2 e3 e4) fun K hK=>?_)
  (refine rw_goN (k:=8) ?_;(refine sm_ (an5 e1 e1n e2 e3 e4) ?_))
  (refine rr_ (an5 e1 e1n e2 e3 e4) ?_)
  ((first | refine rwr_nil (hK _ ?_) | refine de_ (hK _ ?_));clear hK K)
  (refine go_ an0 ?_)
  (first | exact oq_ an0 | refine ou_ an0 ?_)
 rw [Bool.true_and]
 cases e5:(ty==ty')
 ·rw [Bool.false_and]
  have e5n:(ty != ty')=true:=by rw [bne,e5];rfl
  (refine rn_ 8 (an7 e1 e1n e2 e3 e4 e5 e5n) fun K hK=>?_)
  (refine rw_goN (k:=8) ?_;(refine sm_ (an7 e1 e1n e2 e3 e4 e5 e5n) ?_))
  (refine rr_ (an7 e1 e1n e2 e3 e4 e5 e5n) ?_)
  ((first | refine rwr_nil (hK _ ?_) | refine de_ (hK _ ?_));clear hK K)
  (refine go_ an0 ?_)
  (first | exact oq_ an0 | refine ou_ an0 ?_)
 rw [Bool.true_and]
 have e5n:(ty != ty')=false:=by rw [bne,e5];rfl
 cases b6
 ·rw [Bool.false_and]
  (refine rn_ 8 (an2 (an7 e1 e1n e2 e3 e4 e5 e5n) hsv) fun K hK=>?_)
  (refine rw_goN (k:=8) ?_;(refine sm_ (an2 (an7 e1 e1n e2 e3 e4 e5 e5n) hsv) ?_))
  (refine rr_ (an2 (an7 e1 e1n e2 e3 e4 e5 e5n) hsv) ?_)
  ((first | refine rwr_nil (hK _ ?_) | refine de_ (hK _ ?_));clear hK K)
  (refine go_ an0 ?_)
  (first | exact oq_ an0 | refine ou_ an0 ?_)
 rw [Bool.true_and]
 cases e7:(all==all')
 ·rw [Bool.false_and]
  have e7n:(all != all')=true:=by rw [bne,e7];rfl
  (refine rn_ 8 (an2 (an7 e1 e1n e2 e3 e4 e5 e5n) (an3 hsv e7 e7n)) fun K hK=>?_)
  (refine rw_goN (k:=8) ?_;(refine sm_ (an2 (an7 e1 e1n e2 e3 e4 e5 e5n) (an3 hsv e7 e7n)) ?_))
  (refine rr_ (an2 (an7 e1 e1n e2 e3 e4 e5 e5n) (an3 hsv e7 e7n)) ?_)
  ((first | refine rwr_nil (hK _ ?_) | refine de_ (hK _ ?_));clear hK K)
  (refine go_ an0 ?_)
  (first | exact oq_ an0 | refine ou_ an0 ?_)
 rw [Bool.true_and]
 have e7n:(all != all')=false:=by rw [bne,e7];rfl
 cases e8:(order.toList==order'.toList)
 ·rw [Bool.false_and]
  (refine rn_ 8 (an2 (an7 e1 e1n e2 e3 e4 e5 e5n) (an4 hsv e7 e7n e8)) fun K hK=>?_)
  (refine rw_goN (k:=8) ?_;(refine sm_ (an2 (an7 e1 e1n e2 e3 e4 e5 e5n) (an4 hsv e7 e7n e8)) ?_))
  (refine rr_ (an2 (an7 e1 e1n e2 e3 e4 e5 e5n) (an4 hsv e7 e7n e8)) ?_)
  ((first | refine rwr_nil (hK _ ?_) | refine de_ (hK _ ?_));clear hK K)
  (refine go_ an0 ?_)
  (first | exact oq_ an0 | refine ou_ an0 ?_)
 rw [Bool.true_and]
 cases e9:(limit==limit')
 ·rw [Bool.false_and]
  have e9n:(limit != limit')=true:=by rw [bne,e9];rfl
  (refine rn_ 8 (an2 (an7 e1 e1n e2 e3 e4 e5 e5n) (an6 hsv e7 e7n e8 e9 e9n)) fun K hK=>?_)
  (refine rw_goN (k:=8) ?_;(refine sm_ (an2 (an7 e1 e1n e2 e3 e4 e5 e5n) (an6 hsv e7 e7n e8 e9 e9n)) ?_))
  (refine rr_ (an2 (an7 e1 e1n e2 e3 e4 e5 e5n) (an6 hsv e7 e7n e8 e9 e9n)) ?_)
  ((first | refine rwr_nil (hK _ ?_) | refine de_ (hK _ ?_));clear hK K)
  (refine go_ an0 ?_)
  (first | exact oq_ an0 | refine ou_ an0 ?_)
 rw [Bool.true_and]
 have e9n:(limit != limit')=false:=by rw [bne,e9];rfl
 (refine rn_ 8 (an2 (an7 e1 e1n e2 e3 e4 e5 e5n) (an6 hsv e7 e7n e8 e9 e9n)) fun K hK=>?_)
 (refine rw_goN (k:=8) ?_;(refine sm_ (an2 (an7 e1 e1n e2 e3 e4 e5 e5n) (an6 hsv e7 e7n e8 e9 e9n)) ?_))
 (refine rr_ (an2 (an7 e1 e1n e2 e3 e4 e5 e5n) (an6 hsv e7 e7n e8 e9 e9n)) ?_)
 ((first | refine rwr_nil (hK _ ?_) | refine de_ (hK _ ?_));clear hK K)
 (refine gs_ ?_)
 cases b3
 ·rw [Bool.false_and]
  (refine rn_ 8 an0 fun K hK=>?_;refine rr_ an0 ?_)
  (refine ca_ an0 ?_ (hsp:=hQ3);refine rr_ an0 ?_)
  (refine rr_ an0 ?_)
  ((first | refine rwr_nil (hK _ ?_) | refine de_ (hK _ ?_));clear hK K)
  (refine go_ an0 ?_)
  (first | exact oq_ an0 | refine ou_ an0 ?_)
 rw [Bool.true_and]
 cases b4
 ·rw [Bool.false_and]
  (refine rn_ 8 an0 fun K hK=>?_;refine rr_ an0 ?_)
  (refine ca_ an0 ?_ (hsp:=hQ3);refine rr_ an0 ?_)
  (refine rr_ an0 ?_)
  (refine ca_ an0 ?_ (hsp:=hQ4);refine rr_ an0 ?_)
  (refine rr_ an0 ?_)
  ((first | refine rwr_nil (hK _ ?_) | refine de_ (hK _ ?_));clear hK K)
  (refine go_ an0 ?_)
  (first | exact oq_ an0 | refine ou_ an0 ?_)
 rw [Bool.true_and]
 cases b5
 ·rw [Bool.false_and]
  (refine rn_ 8 an0 fun K hK=>?_;refine rr_ an0 ?_)
  (refine ca_ an0 ?_ (hsp:=hQ3);refine rr_ an0 ?_)
  (refine rr_ an0 ?_)
  (refine ca_ an0 ?_ (hsp:=hQ4);refine rr_ an0 ?_)
  (refine rr_ an0 ?_)
  (refine ca_ an0 ?_ (hsp:=hQ5);refine rr_ an0 ?_)
  (refine rr_ an0 ?_)
  ((first | refine rwr_nil (hK _ ?_) | refine de_ (hK _ ?_));clear hK K)
  (refine go_ an0 ?_)
  (first | exact oq_ an0 | refine ou_ an0 ?_)
 rw [Bool.true_and]
 cases b1
 ·rw [Bool.false_and]
  (refine rn_ 8 an0 fun K hK=>?_;refine rr_ an0 ?_)
  (refine ca_ an0 ?_ (hsp:=hQ3);refine rr_ an0 ?_)
  (refine rr_ an0 ?_)
  (refine ca_ an0 ?_ (hsp:=hQ4);refine rr_ an0 ?_)
  (refine rr_ an0 ?_)
  (refine ca_ an0 ?_ (hsp:=hQ5);refine rr_ an0 ?_)
  (refine rr_ an0 ?_)
  (refine ca_ an0 ?_ (hsp:=hQ1);refine rr_ an0 ?_)
  (refine rr_ an0 ?_)
  ((first | refine rwr_nil (hK _ ?_) | refine de_ (hK _ ?_));clear hK K)
  (refine go_ an0 ?_)
  (first | exact oq_ an0 | refine ou_ an0 ?_)
 rw [Bool.true_and]
 (refine rn_ 8 an0 fun K hK=>?_;refine rr_ an0 ?_)
 (refine ca_ an0 ?_ (hsp:=hQ3);refine rr_ an0 ?_)
 (refine rr_ an0 ?_)
 (refine ca_ an0 ?_ (hsp:=hQ4);refine rr_ an0 ?_)
 (refine rr_ an0 ?_)
 (refine ca_ an0 ?_ (hsp:=hQ5);refine rr_ an0 ?_)
 (refine rr_ an0 ?_)
 (refine ca_ an0 ?_ (hsp:=hQ1);refine rr_ an0 ?_)
 (refine rr_ an0 ?_)
 (refine ca_ an0 ?_ (hsp:=hQ2);refine rr_ an0 ?_)
 (refine rr_ an0 ?_)
 ((first | refine rwr_nil (hK _ ?_) | refine de_ (hK _ ?_));clear hK K)
 (refine go_ an0 ?_)
 (first | exact oq_ an0 | refine ou_ an0 ?_)
end Go.Proofs.YtjdgejfhnfnmgaaGreatDoor.Ax
namespace Go.Proofs.YtjdgejfhnfnmgaaGreatDoor.Ax
open Go.RowKit
def ifB (b x y:Bool):Bool:=if b=true then x else y
def limOk (k limit:Int) (order:ByteArray) (no:Bool):Bool:=if (k==13)=true then (decide (-1≤limit) && decide (limit≤999999999)) && (order.toList==(⟨#[]⟩:ByteArray).toList || no) else true
def goodVa (x:Vl):Bool:=x.chk==0
def goodCo (x:Col):Bool:=nameB x.name && (decide (1≤x.ty) && decide (x.ty≤3))
theorem cols_good (l:List Col):(!l.any badCol)=l.all goodCo:=by
 induction l with
 | nil=>rfl
 | cons x l ih =>
  rw [List.any_cons,List.all_cons,← ih]
  unfold badCol goodCo
  cases nameB x.name <;> cases (decide (1≤x.ty) && decide (x.ty≤3)) <;> cases l.any _ <;> rfl
theorem vals_good (l:List Vl):(!l.any badV)=l.all goodVa:=by
 induction l with
 | nil=>rfl
 | cons x l ih =>
  rw [List.any_cons,List.all_cons,← ih]
  unfold badV goodVa
  cases (x.chk==0) <;> cases l.any _ <;> rfl
theorem fields_good (l:List ByteArray):(!l.any badF)=l.all nameB:=by
 induction l with
 | nil=>rfl
 | cons x l ih =>
  rw [List.any_cons,List.all_cons,← ih]
  unfold badF
  cases nameB x <;> cases l.any _ <;> rfl
def okR (c:Cm):Bool :=
 (((((((decide (1≤c.k) && decide (c.k≤16) && namedB c.name (decide (c.k≤13)) && namedB c.other ((c.k==5 || c.k==7) || c.k==8) && namedB c.column (((decide (3≤c.k) && decide (c.k≤6)) || c.k==8) || c.k==12)) && typeOk (c.k==3 || c.k==6) c.ty) && c.v.chk==0 && (c.k==3 || c.v.same Vl.zero) && ((c.k==1)==decide (0 < (c.cols.length:Int))) && ((c.k==10)==decide (0 < (c.vals.length:Int))) && (c.k==13 || ((c.fields.length:Int)==0 && c.order.toList==(⟨#[]⟩:ByteArray).toList && c.limit==0))) && c.cols.all goodCo) && c.vals.all goodVa) && c.fields.all nameB) && limOk c.k c.limit c.order (nameB c.order)) && ifB (c.k==12) (exprB c.ex) (noneB c.ex) && ifB ((decide (11≤c.k) && decide (c.k≤13)) && !c.all) (exprB c.wh) (noneB c.wh && ((decide (11≤c.k) && decide (c.k≤13)) || !c.all))
set_option maxHeartbeats 4000000 in
theorem okP_okR (c:Cm):okP c=okR c:=by
 unfold okP okR listsG wheresG exOk ifB limOk
 rw [cols_good,vals_good,fields_good,isE]
 generalize hco:c.cols.all goodCo=co
 generalize c.vals.all goodVa=va
 generalize c.fields.all nameB=fa
 generalize decide (0 < (c.cols.length:Int))=dc
 generalize decide (0 < (c.vals.length:Int))=dv
 generalize ((c.fields.length:Int)==0)=df
 generalize c.v.same Vl.zero=sz
 generalize (c.v.chk==0)=vc
 generalize emptyS c.order=eo
 generalize nameB c.order=no
 generalize exprB c.ex=e1
 generalize noneB c.ex=e2
 generalize exprB c.wh=e3
 generalize noneB c.wh=e4
 generalize (c.limit==0)=l0
 generalize (decide (-1≤c.limit) && decide (c.limit≤999999999))=l1
 generalize c.all=al
 generalize hk:c.k=k
 generalize c.name=nm
 generalize c.other=ot
 generalize c.column=cl
 generalize c.ty=ty
 by_cases h1:1≤k
 rotate_left
 ·have z:decide (1≤k)=false:=decide_eq_false h1
  simp only [z,Bool.false_and]
 by_cases h2:k≤16
 rotate_left
 ·have z:decide (k≤16)=false:=decide_eq_false h2
  simp only [z,Bool.false_and,Bool.and_false]
 clear hk hco
 obtain rfl | rfl | rfl | rfl | rfl | rfl | rfl | rfl | rfl | rfl | rfl | rfl | rfl | rfl | rfl | rfl:k=1 ∨ k=2 ∨ k=3 ∨ k=4 ∨ k=5 ∨ k=6 ∨ k=7 ∨ k=8 ∨ k=9 ∨ k=10 ∨ k=11 ∨ k=12 ∨ k=13 ∨ k=14 ∨ k=15 ∨ k=16:=by omega
 all_goals
  cases al
  all_goals
   simp [kName,kOther,kColumn,kType,kWhere]
   try ac_rfl
end Go.Proofs.YtjdgejfhnfnmgaaGreatDoor.Ax
namespace Go.Proofs.YtjdgejfhnfnmgaaGreatDoor.Ax
open Go.RowKit
set_option linter.unusedSimpArgs false
attribute [local go_sem] ty3 ty4 ty9 feq24 ty24 ty25 ty54 ty22 ty26 ty27 ty29 ty31 ty32
set_option linter.unusedVariables false
set_option maxRecDepth 100000
theorem all_drop {α:Type} (p:α→Bool) {l:List α} {k:Nat} {x:α} (h:l[k]?=some x):(l.drop k).all p=(p x && (l.drop (k + 1)).all p):=by
 obtain ⟨hk,rfl⟩:=List.getElem?_eq_some_iff.1 h
 rw [List.drop_eq_getElem_cons hk,List.all_cons]
set_option maxHeartbeats 16000000 in
theorem rcheck_csp (c:Cm) (hg:goodCm c):Sp Tryz.prog 9 [.agg (rCm c)] (.one (.t true (.lit (.int .i64 (checkP c))))) []:=by
 have hG1:=partsof_sp c.ex 15 (by decide) (by decide)
 have hG2:=partsof_sp c.wh 15 (by decide) (by decide)
 have hB1:=between_sp c.k 1 16
 have hB3:=between_sp c.k 3 6
 have hB11:=between_sp c.k 11 13
 have hN1:=nameis_sp c.name hg.name (decide (c.k≤13))
 have hN2:=nameis_sp c.other hg.other ((c.k==5 || c.k==7) || c.k==8)
 have hN3:=nameis_sp c.column hg.column (((decide (3≤c.k) && decide (c.k≤6)) || c.k==8) || c.k==12)
 have hT:=between_sp c.ty 1 3
 have hV:=rcheck_sp c.v hg.v
 have hZ:Sp Tryz.prog 26 [aV1 c.v,.agg [.lit (.int .i64 0),.lit (.int .i64 0),.lit (.string .empty)]] (.one (.t true (.lit (.bool (c.v.same Vl.zero))))) []:=rsame_sp c.v Vl.zero
 have hL:=between_sp c.limit (-1) 999999999
 have hO:=isname_sp c.order hg.order
 have hE:=isexpr_sp c.ex hg.ex
 have hNE:=noexpr_sp c.ex
 have hW:=isexpr_sp c.wh hg.wh
 have hNW:=noexpr_sp c.wh
 have hcl:=hg.cols
 have hcn:=hg.colN
 have hvl:=hg.vals
 have hvs:=hg.valS
 have hfl:=hg.fields
 have hfs:=hg.fieldS
 clear hg
 unfold maxLen at hcl hvl hfl
 obtain ⟨k,name,other,column,cols,ty,v,vals,fields,⟨k1,v1,n1,a1⟩,all,⟨k2,v2,n2,a2⟩,order,limit⟩:=c
 dsimp only at *
 rw [rCm_mk]
 rw [rE_mk] at hG1 hG2 hE hNE hW hNW
 generalize hm1:namedB name (decide (k≤13))=m1 at hN1
 generalize hm2:namedB other ((k==5 || k==7) || k==8)=m2 at hN2
 generalize hm3:namedB column (((decide (3≤k) && decide (k≤6)) || k==8) || k==12)=m3 at hN3
 generalize hsz:v.same Vl.zero=sz at hZ
 generalize ho:nameB order=no at hO
 generalize he1:exprB (.mk k1 v1 n1 a1)=e1 at hE
 generalize he2:noneB (.mk k1 v1 n1 a1)=e2 at hNE
 generalize he3:exprB (.mk k2 v2 n2 a2)=e3 at hW
 generalize he4:noneB (.mk k2 v2 n2 a2)=e4 at hNW
 (refine en_ Tryz.func9 Tryz.ntmps9 Tryz.results9 fun X hX=>?_)
 refine au_ an0 ?_
 refine cw_cond rfl (fun hp=>?_) (fun hp=>?_)
 ·have hb:bigB ⟨k,name,other,column,cols,ty,v,vals,fields,.mk k1 v1 n1 a1,all,.mk k2 v2 n2 a2,order,limit⟩=true:=by
   rw [← hp];unfold bigB;simp only [Bool.or_assoc]
  rw [checkP,if_pos hb]
  refine au_ an0 ?_
  exact oq_ an0
 have hb:¬ bigB ⟨k,name,other,column,cols,ty,v,vals,fields,.mk k1 v1 n1 a1,all,.mk k2 v2 n2 a2,order,limit⟩=true:=by
  rw [Bool.not_eq_true,← hp];unfold bigB;simp only [Bool.or_assoc]
 rw [checkP,if_neg hb]
 clear hb hp hG1 hG2
 refine au_ an0 ?_
 generalize hq4:(decide (1≤k) && decide (k≤16) && m1 && m2 && m3)=q4
 refine cw_meetn ⟨[(4,.one (.t true (.lit (.bool (q4 && typeOk (k==3 || k==6) ty))))),(3,.one (.t false (.lit (.int .i64 k)))),(1,.one (.optr 1 0))],[(1,.var 31 [.t false (.lit (.int .i64 k)),.t false (.lit (.string name)),.t false (.lit (.string other)),.t false (.lit (.string column)),.t false (.sl (rCs cols)),.t false (.lit (.int .i64 ty)),.t false (.lit (.int .i64 v.k)),.t false (.lit (.int .i64 v.n)),.t false (.lit (.string v.s)),.t false (.sl (rVs vals)),.t false (.sl (rS fields)),.t false (.lit (.int .i64 k1)),.t false (.lit (.int .i64 v1.k)),.t false (.lit (.int .i64 v1.n)),.t false (.lit (.string v1.s)),.t false (.lit (.string n1)),.t false (.sl (a1.map rE)),.t false (.lit (.bool all)),.t false (.lit (.int .i64 k2)),.t false (.lit (.int .i64 v2.k)),.t false (.lit (.int .i64 v2.n)),.t false (.lit (.string v2.s)),.t false (.lit (.string n2)),.t false (.sl (a2.map rE)),.t false (.lit (.string order)),.t false (.lit (.int .i64 limit))])]⟩ ?_ ?_
 ·refine cw_cond rfl (fun hp=>?_) (fun hp=>?_)
  ·have e:typeOk (k==3 || k==6) ty=(decide (1≤ty) && decide (ty≤3)):=by unfold typeOk;rw [if_pos hp]
   refine au_ an0 ?_
   exact lf_ e
  ·have e:typeOk (k==3 || k==6) ty=(ty==0):=by unfold typeOk;rw [if_neg (by rw [hp];decide)]
   refine au_ an0 ?_
   exact lf_ e
 generalize hq5:(q4 && typeOk (k==3 || k==6) ty)=q5
 refine gs_ ?_
 refine au_ an0 ?_
 generalize hq9:(q5 && v.chk==0 && (k==3 || sz) && ((k==1)==decide (0 < (cols.length:Int))) && ((k==10)==decide (0 < (vals.length:Int))) && (k==13 || ((fields.length:Int)==0 && order.toList==(⟨#[]⟩:ByteArray).toList && limit==0)))=q9
 refine cw_loop (fun m st=>∃ (i:Nat) (b:Bool),i≤cols.length∧m=cols.length - i∧(b && (cols.drop i).all goodCo)=(q9 && cols.all goodCo)∧st=⟨[(5,litI .i64 i),(4,.one (.t true (.lit (.bool b)))),(3,.one (.t false (.lit (.int .i64 k)))),(1,.one (.optr 1 0))],[(1,.var 31 [.t false (.lit (.int .i64 k)),.t false (.lit (.string name)),.t false (.lit (.string other)),.t false (.lit (.string column)),.t false (.sl (rCs cols)),.t false (.lit (.int .i64 ty)),.t false (.lit (.int .i64 v.k)),.t false (.lit (.int .i64 v.n)),.t false (.lit (.string v.s)),.t false (.sl (rVs vals)),.t false (.sl (rS fields)),.t false (.lit (.int .i64 k1)),.t false (.lit (.int .i64 v1.k)),.t false (.lit (.int .i64 v1.n)),.t false (.lit (.string v1.s)),.t false (.lit (.string n1)),.t false (.sl (a1.map rE)),.t false (.lit (.bool all)),.t false (.lit (.int .i64 k2)),.t false (.lit (.int .i64 v2.k)),.t false (.lit (.int .i64 v2.n)),.t false (.lit (.string v2.s)),.t false (.lit (.string n2)),.t false (.sl (a2.map rE)),.t false (.lit (.string order)),.t false (.lit (.int .i64 limit))])]⟩) cols.length ⟨_,⟨0,q9,Nat.zero_le _,rfl,rfl,rfl⟩,le_⟩ ?_
 rintro m st ⟨i,b,hi,rfl,hf,rfl⟩
 by_cases hlt:i < cols.length
 ·have z1:decide ((i:Int) < (cols.length:Int))=true:=by simp;omega
  obtain ⟨x,hx⟩:∃ x,cols[i]?=some x:=⟨_,List.getElem?_eq_getElem hlt⟩
  have z4:IntKind.i64.wrap ((i:Int) + 1)=((i + 1:Nat):Int):=by rw [IntWalk.i64_in _ (by omega)];rfl
  have j2:(i:Int) < (cols.length:Int):=by omega
  have j3:(0:Int)≤(i:Int):=by omega
  have hxn:=isname_sp x.name (hcn x (List.mem_of_getElem? hx))
  have hxt:=between_sp x.ty 1 3
  rw [all_drop _ hx] at hf
  generalize hxg:nameB x.name=xn at *
  refine au_ (an6 z1 z4 hx hlt j2 j3) ?_
  exact ⟨cols.length - (i + 1),by omega,_,⟨i + 1,b && xn && (decide (1≤x.ty) && decide (x.ty≤3)),by omega,rfl,by rw [← hf];simp only [goodCo,hxg,Bool.and_assoc],rfl⟩,le_⟩
 obtain rfl:i=cols.length:=by omega
 have z1:decide ((cols.length:Int) < (cols.length:Int))=false:=by simp
 rw [List.drop_eq_nil_of_le (Nat.le_refl _),List.all_nil,Bool.and_true] at hf
 subst hf
 generalize hq10:(q9 && cols.all goodCo)=q10
 refine au_ z1 ?_
 clear z1
 refine cw_loop (fun m st=>∃ (i:Nat) (b:Bool),i≤vals.length∧m=vals.length - i∧(b && (vals.drop i).all goodVa)=(q10 && vals.all goodVa)∧st=⟨[(6,litI .i64 i),(4,.one (.t true (.lit (.bool b)))),(3,.one (.t false (.lit (.int .i64 k)))),(1,.one (.optr 1 0))],[(1,.var 31 [.t false (.lit (.int .i64 k)),.t false (.lit (.string name)),.t false (.lit (.string other)),.t false (.lit (.string column)),.t false (.sl (rCs cols)),.t false (.lit (.int .i64 ty)),.t false (.lit (.int .i64 v.k)),.t false (.lit (.int .i64 v.n)),.t false (.lit (.string v.s)),.t false (.sl (rVs vals)),.t false (.sl (rS fields)),.t false (.lit (.int .i64 k1)),.t false (.lit (.int .i64 v1.k)),.t false (.lit (.int .i64 v1.n)),.t false (.lit (.string v1.s)),.t false (.lit (.string n1)),.t false (.sl (a1.map rE)),.t false (.lit (.bool all)),.t false (.lit (.int .i64 k2)),.t false (.lit (.int .i64 v2.k)),.t false (.lit (.int .i64 v2.n)),.t false (.lit (.string v2.s)),.t false (.lit (.string n2)),.t false (.sl (a2.map rE)),.t false (.lit (.string order)),.t false (.lit (.int .i64 limit))])]⟩) vals.length ⟨_,⟨0,q10,Nat.zero_le _,rfl,rfl,rfl⟩,le_⟩ ?_
 rintro m st ⟨i,b,hi,rfl,hf,rfl⟩
 by_cases hlt:i < vals.length
 ·have z1:decide ((i:Int) < (vals.length:Int))=true:=by simp;omega
  obtain ⟨x,hx⟩:∃ x,vals[i]?=some x:=⟨_,List.getElem?_eq_getElem hlt⟩
  have z4:IntKind.i64.wrap ((i:Int) + 1)=((i + 1:Nat):Int):=by rw [IntWalk.i64_in _ (by omega)];rfl
  have j2:(i:Int) < (vals.length:Int):=by omega
  have j3:(0:Int)≤(i:Int):=by omega
  have hxc:=rcheck_sp x (hvs x (List.mem_of_getElem? hx))
  rw [all_drop _ hx] at hf
  refine au_ (an6 z1 z4 hx hlt j2 j3) ?_
  exact ⟨vals.length - (i + 1),by omega,_,⟨i + 1,b && x.chk==0,by omega,rfl,by rw [← hf];simp only [goodVa,Bool.and_assoc],rfl⟩,le_⟩
 obtain rfl:i=vals.length:=by omega
 have z1:decide ((vals.length:Int) < (vals.length:Int))=false:=by simp
 rw [List.drop_eq_nil_of_le (Nat.le_refl _),List.all_nil,Bool.and_true] at hf
 subst hf
 generalize hq11:(q10 && vals.all goodVa)=q11
 refine au_ z1 ?_
 clear z1
 refine cw_loop (fun m st=>∃ (i:Nat) (b:Bool),i≤fields.length∧m=fields.length - i∧(b && (fields.drop i).all nameB)=(q11 && fields.all nameB)∧st=⟨[(7,litI .i64 i),(4,.one (.t true (.lit (.bool b)))),(3,.one (.t false (.lit (.int .i64 k)))),(1,.one (.optr 1 0))],[(1,.var 31 [.t false (.lit (.int .i64 k)),.t false (.lit (.string name)),.t false (.lit (.string other)),.t false (.lit (.string column)),.t false (.sl (rCs cols)),.t false (.lit (.int .i64 ty)),.t false (.lit (.int .i64 v.k)),.t false (.lit (.int .i64 v.n)),.t false (.lit (.string v.s)),.t false (.sl (rVs vals)),.t false (.sl (rS fields)),.t false (.lit (.int .i64 k1)),.t false (.lit (.int .i64 v1.k)),.t false (.lit (.int .i64 v1.n)),.t false (.lit (.string v1.s)),.t false (.lit (.string n1)),.t false (.sl (a1.map rE)),.t false (.lit (.bool all)),.t false (.lit (.int .i64 k2)),.t false (.lit (.int .i64 v2.k)),.t false (.lit (.int .i64 v2.n)),.t false (.lit (.string v2.s)),.t false (.lit (.string n2)),.t false (.sl (a2.map rE)),.t false (.lit (.string order)),.t false (.lit (.int .i64 limit))])]⟩) fields.length ⟨_,⟨0,q11,Nat.zero_le _,rfl,rfl,rfl⟩,le_⟩ ?_
 rintro m st ⟨i,b,hi,rfl,hf,rfl⟩
 by_cases hlt:i < fields.length
 ·have z1:decide ((i:Int) < (fields.length:Int))=true:=by simp;omega
  obtain ⟨x,hx⟩:∃ x,fields[i]?=some x:=⟨_,List.getElem?_eq_getElem hlt⟩
  have z4:IntKind.i64.wrap ((i:Int) + 1)=((i + 1:Nat):Int):=by rw [IntWalk.i64_in _ (by omega)];rfl
  have j2:(i:Int) < (fields.length:Int):=by omega
  have j3:(0:Int)≤(i:Int):=by omega
  have hxn:=isname_sp x (hfs x (List.mem_of_getElem? hx))
  rw [all_drop _ hx] at hf
  generalize hxg:nameB x=xn at *
  refine au_ (an6 z1 z4 hx hlt j2 j3) ?_
  exact ⟨fields.length - (i + 1),by omega,_,⟨i + 1,b && xn,by omega,rfl,by rw [← hf];simp only [hxg,Bool.and_assoc],rfl⟩,le_⟩
 obtain rfl:i=fields.length:=by omega
 have z1:decide ((fields.length:Int) < (fields.length:Int))=false:=by simp
 rw [List.drop_eq_nil_of_le (Nat.le_refl _),List.all_nil,Bool.and_true] at hf
 subst hf
 generalize hq12:(q11 && fields.all nameB)=q12
 refine au_ z1 ?_
 clear z1
 refine cw_meetn ⟨[(4,.one (.t true (.lit (.bool (q12 && limOk k limit order no))))),(3,.one (.t false (.lit (.int .i64 k)))),(1,.one (.optr 1 0))],[(1,.var 31 [.t false (.lit (.int .i64 k)),.t false (.lit (.string name)),.t false (.lit (.string other)),.t false (.lit (.string column)),.t false (.sl (rCs cols)),.t false (.lit (.int .i64 ty)),.t false (.lit (.int .i64 v.k)),.t false (.lit (.int .i64 v.n)),.t false (.lit (.string v.s)),.t false (.sl (rVs vals)),.t false (.sl (rS fields)),.t false (.lit (.int .i64 k1)),.t false (.lit (.int .i64 v1.k)),.t false (.lit (.int .i64 v1.n)),.t false (.lit (.string v1.s)),.t false (.lit (.string n1)),.t false (.sl (a1.map rE)),.t false (.lit (.bool all)),.t false (.lit (.int .i64 k2)),.t false (.lit (.int .i64 v2.k)),.t false (.lit (.int .i64 v2.n)),.t false (.lit (.string v2.s)),.t false (.lit (.string n2)),.t false (.sl (a2.map rE)),.t false (.lit (.string order)),.t false (.lit (.int .i64 limit))])]⟩ ?_ ?_
 ·refine cw_cond rfl (fun hp=>?_) (fun hp=>?_)
  ·have e:(q12 && limOk k limit order no)=(q12 && (decide (-1≤limit) && decide (limit≤999999999)) && (order.toList==(⟨#[]⟩:ByteArray).toList || no)):=by unfold limOk;rw [if_pos hp];simp only [Bool.and_assoc]
   refine au_ an0 ?_
   exact lf_ e
  ·have e:(q12 && limOk k limit order no)=q12:=by unfold limOk;rw [if_neg (by rw [hp];decide),Bool.and_true]
   refine au_ an0 ?_
   exact lf_ e
 generalize hq13:(q12 && limOk k limit order no)=q13
 refine gs_ ?_
 refine au_ an0 ?_
 refine cw_meetn ⟨[(4,.one (.t true (.lit (.bool (q13 && ifB (k==12) e1 e2))))),(3,.one (.t false (.lit (.int .i64 k)))),(1,.one (.optr 1 0))],[(1,.var 31 [.t false (.lit (.int .i64 k)),.t false (.lit (.string name)),.t false (.lit (.string other)),.t false (.lit (.string column)),.t false (.sl (rCs cols)),.t false (.lit (.int .i64 ty)),.t false (.lit (.int .i64 v.k)),.t false (.lit (.int .i64 v.n)),.t false (.lit (.string v.s)),.t false (.sl (rVs vals)),.t false (.sl (rS fields)),.t false (.lit (.int .i64 k1)),.t false (.lit (.int .i64 v1.k)),.t false (.lit (.int .i64 v1.n)),.t false (.lit (.string v1.s)),.t false (.lit (.string n1)),.t false (.sl (a1.map rE)),.t false (.lit (.bool all)),.t false (.lit (.int .i64 k2)),.t false (.lit (.int .i64 v2.k)),.t false (.lit (.int .i64 v2.n)),.t false (.lit (.string v2.s)),.t false (.lit (.string n2)),.t false (.sl (a2.map rE)),.t false (.lit (.string order)),.t false (.lit (.int .i64 limit))])]⟩ ?_ ?_
 ·refine cw_cond rfl (fun hp=>?_) (fun hp=>?_)
  ·have e:ifB (k==12) e1 e2=e1:=by unfold ifB;rw [if_pos hp]
   refine au_ an0 ?_
   exact lf_ e
  ·have e:ifB (k==12) e1 e2=e2:=by unfold ifB;rw [if_neg (by rw [hp];decide)]
   refine au_ an0 ?_
   exact lf_ e
 generalize hq14:(q13 && ifB (k==12) e1 e2)=q14
 refine gs_ ?_
 refine au_ an0 ?_
 refine cw_meetn ⟨[(4,.one (.t true (.lit (.bool (q14 && ifB ((decide (11≤k) && decide (k≤13)) && !all) e3 (e4 && ((decide (11≤k) && decide (k≤13)) || !all))))))),(3,.one (.t false (.lit (.int .i64 k)))),(1,.one (.optr 1 0))],[(1,.var 31 [.t false (.lit (.int .i64 k)),.t false (.lit (.string name)),.t false (.lit (.string other)),.t false (.lit (.string column)),.t false (.sl (rCs cols)),.t false (.lit (.int .i64 ty)),.t false (.lit (.int .i64 v.k)),.t false (.lit (.int .i64 v.n)),.t false (.lit (.string v.s)),.t false (.sl (rVs vals)),.t false (.sl (rS fields)),.t false (.lit (.int .i64 k1)),.t false (.lit (.int .i64 v1.k)),.t false (.lit (.int .i64 v1.n)),.t false (.lit (.string v1.s)),.t false (.lit (.string n1)),.t false (.sl (a1.map rE)),.t false (.lit (.bool all)),.t false (.lit (.int .i64 k2)),.t false (.lit (.int .i64 v2.k)),.t false (.lit (.int .i64 v2.n)),.t false (.lit (.string v2.s)),.t false (.lit (.string n2)),.t false (.sl (a2.map rE)),.t false (.lit (.string order)),.t false (.lit (.int .i64 limit))])]⟩ ?_ ?_
 ·refine cw_cond rfl (fun hp=>?_) (fun hp=>?_)
  ·have e:ifB ((decide (11≤k) && decide (k≤13)) && !all) e3 (e4 && ((decide (11≤k) && decide (k≤13)) || !all))=e3:=by unfold ifB;rw [if_pos hp]
   refine au_ an0 ?_
   exact lf_ e
  ·have e:(q14 && ifB ((decide (11≤k) && decide (k≤13)) && !all) e3 (e4 && ((decide (11≤k) && decide (k≤13)) || !all)))=(q14 && e4 && ((decide (11≤k) && decide (k≤13)) || !all)):=by unfold ifB;rw [if_neg (by rw [hp];decide)];simp only [Bool.and_assoc]
   refine au_ an0 ?_
   exact lf_ e
 generalize hq15:(q14 && ifB ((decide (11≤k) && decide (k≤13)) && !all) e3 (e4 && ((decide (11≤k) && decide (k≤13)) || !all)))=q15
 have hok:okP ⟨k,name,other,column,cols,ty,v,vals,fields,.mk k1 v1 n1 a1,all,.mk k2 v2 n2 a2,order,limit⟩=q15:=by
  rw [okP_okR]
  unfold okR
  dsimp only
  rw [hm1,hm2,hm3,hsz,ho,he1,he2,he3,he4,hq4,hq5,hq9,hq10,hq11,hq12,hq13,hq14,hq15]
 rw [hok]
 refine gs_ ?_
 refine au_ an0 ?_
 refine cw_cond rfl (fun hp=>?_) (fun hp=>?_)
 ·have e:q15=false:=by cases q15 <;> first | rfl | cases hp
  rw [e,if_neg (by decide)]
  refine au_ an0 ?_
  exact oq_ an0
 ·have e:q15=true:=by cases q15 <;> first | rfl | cases hp
  rw [e,if_pos rfl]
  refine au_ an0 ?_
  exact oq_ an0
end Go.Proofs.YtjdgejfhnfnmgaaGreatDoor.Ax
