/-  -/
import Derived.Test.YtjdgejfhnfnmgaaGreatDoorS19
import Derived.Test.YtjdgejfhnfnmgaaGreatDoorS22
import Derived.Test.YtjdgejfhnfnmgaaGreatDoorS20
import Derived.Test.YtjdgejfhnfnmgaaGreatDoorS17
namespace Go.Proofs.YtjdgejfhnfnmgaaGreatDoor.Ax
open Go.RowKit
set_option linter.unusedSimpArgs false
attribute [local go_sem] ty3 ty4 ty9 feq24 ty24 ty25 feq54 ty54 ty22 ty26
set_option linter.unusedVariables false
set_option maxRecDepth 100000
theorem eqS_sp (l m:List ByteArray) (hl:l.length≤maxLen):Sp Tryz.prog 36 [.one (.sl (rS l)),.one (.sl (rS m))] (.one (.t true (.lit (.bool (eqBy strEq l m))))) []:=by
 unfold maxLen at hl
 by_cases hll:l.length=m.length
 rotate_left
 ·have e3:((l.length:Int) != (m.length:Int))=true:=by simp;omega
  rw [eqBy_not hll]
  (refine en_ Tryz.func36 Tryz.ntmps36 Tryz.results36 fun X hX=>?_)
  (refine go_ e3 ?_)
  (first | exact oq_ an0 | refine ou_ an0 ?_)
 have e3:((l.length:Int) != (m.length:Int))=false:=by simp [hll]
 (refine en_ Tryz.func36 Tryz.ntmps36 Tryz.results36 fun X hX=>?_)
 (refine go_ e3 ?_)
 refine cw_loop (fun z s=>∃ i:Nat,i≤l.length∧z=l.length - i∧eqBy strEq (l.drop i) (m.drop i)=eqBy strEq l m∧s=⟨[(13,litI .i64 i),(12,litI .i64 l.length),(0,.one (.t false (.sl (rS l)))),(1,.one (.t false (.sl (rS m))))],[]⟩) l.length ⟨_,⟨0,Nat.zero_le _,rfl,rfl,rfl⟩,le_⟩ ?_
 rintro z s ⟨i,hi,rfl,hf,rfl⟩
 by_cases hlt:i < l.length
 ·have f1:decide ((i:Int) < (l.length:Int))=true:=by simp;omega
  obtain ⟨x,hx⟩:∃ x,l[i]?=some x:=⟨_,List.getElem?_eq_getElem hlt⟩
  obtain ⟨y,hy⟩:∃ y,m[i]?=some y:=⟨_,List.getElem?_eq_getElem (by omega)⟩
  have f2:IntKind.i64.wrap ((i:Int) + 1)=((i + 1:Nat):Int):=by rw [IntWalk.i64_in _ (by omega)];rfl
  have hlt':i < m.length:=by omega
  have j1:(i:Int) < (l.length:Int):=by omega
  have j2:(i:Int) < (m.length:Int):=by omega
  have j3:(0:Int)≤(i:Int):=by omega
  rw [eqBy_drop hx hy] at hf
  have hp:(!(x.toList==y.toList))=!(strEq x y):=rfl
  generalize strEq x y=bb at *
  (refine go_ f1 ?_)
  (refine dr_ 0 an0 fun K hK=>?_)
  (refine dd_ (an2 (an7 hx hy hlt hlt' j1 j2 j3) hp) ?_)
  (refine de_ (hK _ ?_);clear hK K)
  cases bb
  ·rw [← hf,Bool.false_and]
   (refine go_ an0 ?_)
   (first | exact oq_ an0 | refine ou_ an0 ?_)
  ·rw [Bool.true_and] at hf
   (refine go_ f2 ?_)
   exact ⟨l.length - (i + 1),by omega,_,⟨i + 1,by omega,rfl,hf,rfl⟩,le_⟩
 ·have f1:decide ((i:Int) < (l.length:Int))=false:=by simp;omega
  rw [List.drop_eq_nil_of_le (by omega),List.drop_eq_nil_of_le (by omega),eqBy] at hf
  rw [← hf]
  (refine go_ f1 ?_)
  (first | exact oq_ an0 | refine ou_ an0 ?_)
theorem eqV_sp (l m:List Vl) (hl:l.length≤maxLen):Sp Tryz.prog 35 [.one (.sl (rVs l)),.one (.sl (rVs m))] (.one (.t true (.lit (.bool (eqBy Vl.same l m))))) []:=by
 unfold maxLen at hl
 by_cases hll:l.length=m.length
 rotate_left
 ·have e3:((l.length:Int) != (m.length:Int))=true:=by simp;omega
  rw [eqBy_not hll]
  (refine en_ Tryz.func35 Tryz.ntmps35 Tryz.results35 fun X hX=>?_)
  (refine go_ e3 ?_)
  (first | exact oq_ an0 | refine ou_ an0 ?_)
 have e3:((l.length:Int) != (m.length:Int))=false:=by simp [hll]
 (refine en_ Tryz.func35 Tryz.ntmps35 Tryz.results35 fun X hX=>?_)
 (refine go_ e3 ?_)
 refine cw_loop (fun z s=>∃ i:Nat,i≤l.length∧z=l.length - i∧eqBy Vl.same (l.drop i) (m.drop i)=eqBy Vl.same l m∧s=⟨[(13,litI .i64 i),(12,litI .i64 l.length),(0,.one (.t false (.sl (rVs l)))),(1,.one (.t false (.sl (rVs m))))],[]⟩) l.length ⟨_,⟨0,Nat.zero_le _,rfl,rfl,rfl⟩,le_⟩ ?_
 rintro z s ⟨i,hi,rfl,hf,rfl⟩
 by_cases hlt:i < l.length
 ·have f1:decide ((i:Int) < (l.length:Int))=true:=by simp;omega
  obtain ⟨x,hx⟩:∃ x,l[i]?=some x:=⟨_,List.getElem?_eq_getElem hlt⟩
  obtain ⟨y,hy⟩:∃ y,m[i]?=some y:=⟨_,List.getElem?_eq_getElem (by omega)⟩
  have f2:IntKind.i64.wrap ((i:Int) + 1)=((i + 1:Nat):Int):=by rw [IntWalk.i64_in _ (by omega)];rfl
  have hlt':i < m.length:=by omega
  have j1:(i:Int) < (l.length:Int):=by omega
  have j2:(i:Int) < (m.length:Int):=by omega
  have j3:(0:Int)≤(i:Int):=by omega
  rw [eqBy_drop hx hy] at hf
  have hp:(!((x.k==y.k) && ((x.n==y.n) && (x.s.toList==y.s.toList))))=!(Vl.same x y):=by rw [same_parts]
  generalize Vl.same x y=bb at *
  (refine go_ f1 ?_)
  (refine dr_ 0 an0 fun K hK=>?_)
  (refine dd_ (an2 (an7 hx hy hlt hlt' j1 j2 j3) hp) ?_)
  (refine de_ (hK _ ?_);clear hK K)
  cases bb
  ·rw [← hf,Bool.false_and]
   (refine go_ an0 ?_)
   (first | exact oq_ an0 | refine ou_ an0 ?_)
  ·rw [Bool.true_and] at hf
   (refine go_ f2 ?_)
   exact ⟨l.length - (i + 1),by omega,_,⟨i + 1,by omega,rfl,hf,rfl⟩,le_⟩
 ·have f1:decide ((i:Int) < (l.length:Int))=false:=by simp;omega
  rw [List.drop_eq_nil_of_le (by omega),List.drop_eq_nil_of_le (by omega),eqBy] at hf
  rw [← hf]
  (refine go_ f1 ?_)
  (first | exact oq_ an0 | refine ou_ an0 ?_)
theorem eqC_sp (l m:List Col) (hl:l.length≤maxLen):Sp Tryz.prog 34 [.one (.sl (rCs l)),.one (.sl (rCs m))] (.one (.t true (.lit (.bool (eqBy colEq l m))))) []:=by
 unfold maxLen at hl
 by_cases hll:l.length=m.length
 rotate_left
 ·have e3:((l.length:Int) != (m.length:Int))=true:=by simp;omega
  rw [eqBy_not hll]
  (refine en_ Tryz.func34 Tryz.ntmps34 Tryz.results34 fun X hX=>?_)
  (refine go_ e3 ?_)
  (first | exact oq_ an0 | refine ou_ an0 ?_)
 have e3:((l.length:Int) != (m.length:Int))=false:=by simp [hll]
 (refine en_ Tryz.func34 Tryz.ntmps34 Tryz.results34 fun X hX=>?_)
 (refine go_ e3 ?_)
 refine cw_loop (fun z s=>∃ i:Nat,i≤l.length∧z=l.length - i∧eqBy colEq (l.drop i) (m.drop i)=eqBy colEq l m∧s=⟨[(13,litI .i64 i),(12,litI .i64 l.length),(0,.one (.t false (.sl (rCs l)))),(1,.one (.t false (.sl (rCs m))))],[]⟩) l.length ⟨_,⟨0,Nat.zero_le _,rfl,rfl,rfl⟩,le_⟩ ?_
 rintro z s ⟨i,hi,rfl,hf,rfl⟩
 by_cases hlt:i < l.length
 ·have f1:decide ((i:Int) < (l.length:Int))=true:=by simp;omega
  obtain ⟨x,hx⟩:∃ x,l[i]?=some x:=⟨_,List.getElem?_eq_getElem hlt⟩
  obtain ⟨y,hy⟩:∃ y,m[i]?=some y:=⟨_,List.getElem?_eq_getElem (by omega)⟩
  have f2:IntKind.i64.wrap ((i:Int) + 1)=((i + 1:Nat):Int):=by rw [IntWalk.i64_in _ (by omega)];rfl
  have hlt':i < m.length:=by omega
  have j1:(i:Int) < (l.length:Int):=by omega
  have j2:(i:Int) < (m.length:Int):=by omega
  have j3:(0:Int)≤(i:Int):=by omega
  rw [eqBy_drop hx hy] at hf
  have hp:(!((x.name.toList==y.name.toList) && (x.ty==y.ty)))=!(colEq x y):=rfl
  generalize colEq x y=bb at *
  (refine go_ f1 ?_)
  (refine dr_ 0 an0 fun K hK=>?_)
  (refine dd_ (an2 (an7 hx hy hlt hlt' j1 j2 j3) hp) ?_)
  (refine de_ (hK _ ?_);clear hK K)
  cases bb
  ·rw [← hf,Bool.false_and]
   (refine go_ an0 ?_)
   (first | exact oq_ an0 | refine ou_ an0 ?_)
  ·rw [Bool.true_and] at hf
   (refine go_ f2 ?_)
   exact ⟨l.length - (i + 1),by omega,_,⟨i + 1,by omega,rfl,hf,rfl⟩,le_⟩
 ·have f1:decide ((i:Int) < (l.length:Int))=false:=by simp;omega
  rw [List.drop_eq_nil_of_le (by omega),List.drop_eq_nil_of_le (by omega),eqBy] at hf
  rw [← hf]
  (refine go_ f1 ?_)
  (first | exact oq_ an0 | refine ou_ an0 ?_)
def rCm (c:Cm):List T :=
 [.lit (.int .i64 c.k),.lit (.string c.name),.lit (.string c.other),.lit (.string c.column),.sl (rCs c.cols),.lit (.int .i64 c.ty),.lit (.int .i64 c.v.k),.lit (.int .i64 c.v.n),.lit (.string c.v.s),.sl (rVs c.vals),.sl (rS c.fields)]++(rE c.ex++([.lit (.bool c.all)]++(rE c.wh++[.lit (.string c.order),.lit (.int .i64 c.limit)])))
theorem rCm_mk (k:Int) (name other column:ByteArray) (cols:List Col) (ty:Int) (v:Vl) (vals:List Vl) (fields:List ByteArray) (k1:Int) (v1:Vl) (n1:ByteArray) (a1:List Ex) (all:Bool) (k2:Int) (v2:Vl) (n2:ByteArray) (a2:List Ex) (order:ByteArray) (limit:Int) :
  rCm ⟨k,name,other,column,cols,ty,v,vals,fields,.mk k1 v1 n1 a1,all,.mk k2 v2 n2 a2,order,limit⟩=[.lit (.int .i64 k),.lit (.string name),.lit (.string other),.lit (.string column),.sl (rCs cols),.lit (.int .i64 ty),.lit (.int .i64 v.k),.lit (.int .i64 v.n),.lit (.string v.s),.sl (rVs vals),.sl (rS fields),.lit (.int .i64 k1),.lit (.int .i64 v1.k),.lit (.int .i64 v1.n),.lit (.string v1.s),.lit (.string n1),.sl (a1.map rE),.lit (.bool all),.lit (.int .i64 k2),.lit (.int .i64 v2.k),.lit (.int .i64 v2.n),.lit (.string v2.s),.lit (.string n2),.sl (a2.map rE),.lit (.string order),.lit (.int .i64 limit)]:=by
 unfold rCm
 rw [rE_mk,rE_mk]
 rfl
end Go.Proofs.YtjdgejfhnfnmgaaGreatDoor.Ax
namespace Go.Proofs.YtjdgejfhnfnmgaaGreatDoor.Ax
open Go.RowKit
set_option linter.unusedSimpArgs false
attribute [local go_sem] ty3 ty4 ty9 feq24 ty24 ty25 ty54 ty22 ty26 ty27 ty29 ty31 ty72 ty32
set_option linter.unusedVariables false
set_option maxRecDepth 100000
def badV (v:Vl):Bool:=!(v.chk==0)
def badF (s:ByteArray):Bool:=!nameB s
theorem lists1_sp (v:Vl) (hs:v.s.size≤maxLen):Sp Tryz.prog 80 (.agg (rV1 v) :: ([]:List T).map A.one) (.one (.t true (.lit (.bool (badV v))))) []:=by
 have h1:=vcheck_sp v hs
 unfold badV
 generalize v.chk=c at *
 (refine en_ Tryz.func80 Tryz.ntmps80 Tryz.results80 fun X hX=>?_)
 (refine gs_ ?_)
 (refine rn_ 8 an0 fun K hK=>?_;refine rr_ an0 ?_)
 ((first | refine rwr_nil (hK _ ?_) | refine de_ (hK _ ?_));clear hK K)
 (refine gs_ ?_)
 (refine rn_ 8 an0 fun K hK=>?_;refine rr_ an0 ?_)
 (refine ca_ an0 ?_ (hsp:=h1);refine rr_ an0 ?_)
 ((first | refine rwr_nil (hK _ ?_) | refine de_ (hK _ ?_));clear hK K)
 (refine go_ an0 ?_)
 (first | exact oq_ an0 | refine ou_ an0 ?_)
 try rfl
theorem lists2_sp (s:ByteArray) (hs:s.size≤maxLen):Sp Tryz.prog 85 (.one (.lit (.string s)) :: ([]:List T).map A.one) (.one (.t true (.lit (.bool (badF s))))) []:=by
 have h1:=cname_sp s hs
 unfold badF
 generalize nameB s=b at *
 (refine en_ Tryz.func85 Tryz.ntmps85 Tryz.results85 fun X hX=>?_)
 (refine gs_ ?_)
 (refine rn_ 8 an0 fun K hK=>?_;refine rr_ an0 ?_)
 ((first | refine rwr_nil (hK _ ?_) | refine de_ (hK _ ?_));clear hK K)
 (refine gs_ ?_)
 (refine rn_ 8 an0 fun K hK=>?_;refine rr_ an0 ?_)
 (refine ca_ an0 ?_ (hsp:=h1);refine rr_ an0 ?_)
 ((first | refine rwr_nil (hK _ ?_) | refine de_ (hK _ ?_));clear hK K)
 (refine go_ an0 ?_)
 (first | exact oq_ an0 | refine ou_ an0 ?_)
structure goodCm (c:Cm):Prop where
 name:c.name.size≤maxLen
 other:c.other.size≤maxLen
 column:c.column.size≤maxLen
 cols:c.cols.length≤maxLen
 colN:∀ x ∈ c.cols,x.name.size≤maxLen
 v:c.v.s.size≤maxLen
 vals:c.vals.length≤maxLen
 valS:∀ x ∈ c.vals,x.s.size≤maxLen
 fields:c.fields.length≤maxLen
 fieldS:∀ x ∈ c.fields,x.size≤maxLen
 ex:goodE c.ex
 wh:goodE c.wh
 order:c.order.size≤maxLen
def listsG (c:Cm) (b3 b6 b5 b9:Bool):Bool :=
 (b3==decide (0 < (c.cols.length:Int))) && (!c.cols.any badCol && ((b6==decide (0 < (c.vals.length:Int))) && (!c.vals.any badV && ((c.v.chk==0) && ((b5 || c.v.same Vl.zero) && ((b9 || ((c.fields.length:Int)==0)) && !c.fields.any badF))))))
def wheresG (c:Cm) (b8 b9:Bool):Bool :=
 (if b8=true∧c.all=false then exprB c.wh else noneB c.wh) && ((if b9=true then decide (-1≤c.limit) && decide (c.limit≤999999999) else (c.limit==0)) && ((b8 || !c.all) && (emptyS c.order || (b9 && nameB c.order))))
def typeOk (b:Bool) (ty:Int):Bool:=if b=true then decide (1≤ty) && decide (ty≤3) else (ty==0)
def exOk (b:Bool) (e:Ex):Bool:=if b=true then exprB e else noneB e
def okP (c:Cm):Bool :=
 decide (1≤c.k) && (decide (c.k≤16) && (namedB c.name (kName c.k) && (namedB c.other (kOther c.k) && (namedB c.column (kColumn c.k) && (typeOk (kType c.k) c.ty && (listsG c (c.k==1) (c.k==10) (c.k==3) (c.k==13) && (wheresG c (kWhere c.k) (c.k==13) && exOk (c.k==12) c.ex)))))))
def bigB (c:Cm):Bool :=
 decide (5 < (c.cols.length:Int)) || (decide (5 < (c.vals.length:Int)) || (decide (5 < (c.fields.length:Int)) || (decide (15 < sizeE c.ex 15) || decide (15 < sizeE c.wh 15))))
def checkP (c:Cm):Int:=if bigB c=true then 2 else if okP c=true then 0 else 1
abbrev aShape (b0 b1 b2 b3 b4 b5 b6 b7 b8 b9:Bool):A:=.agg [.lit (.bool b0),.lit (.bool b1),.lit (.bool b2),.lit (.bool b3),.lit (.bool b4),.lit (.bool b5),.lit (.bool b6),.lit (.bool b7),.lit (.bool b8),.lit (.bool b9)]
set_option maxHeartbeats 4000000 in
theorem lists_sp (c:Cm) (hg:goodCm c) (b0 b1 b2 b3 b4 b5 b6 b7 b8 b9:Bool):Sp Tryz.prog 48 [.agg (rCm c),aShape b0 b1 b2 b3 b4 b5 b6 b7 b8 b9] (.one (.t true (.lit (.bool (listsG c b3 b6 b5 b9))))) []:=by
 have h1:=columns_sp c.cols hg.cols hg.colN
 have h2:=containsVa_sp 80 [] badV c.vals hg.vals (fun x hx=>lists1_sp x (hg.valS x hx))
 have h3:Sp Tryz.prog 80 [.agg (rV1 c.v)] (.one (.t true (.lit (.bool (badV c.v))))) []:=lists1_sp c.v hg.v
 have h4:=containsSt_sp 85 [] badF c.fields hg.fields (fun x hx=>lists2_sp x (hg.fieldS x hx))
 have hz:=sameZ c.v
 clear hg
 unfold listsG
 unfold badV at h3
 obtain ⟨k,name,other,column,cols,ty,v,vals,fields,⟨k1,v1,n1,a1⟩,all,⟨k2,v2,n2,a2⟩,order,limit⟩:=c
 dsimp only at *
 rw [rCm_mk]
 generalize cols.any badCol=c1 at *
 generalize vals.any badV=c2 at *
 generalize fields.any badF=c4 at *
 have hzz:((v.k==0) && ((v.n==0) && (v.s.toList==ByteArray.empty.toList)))=v.same Vl.zero:=by rw [isEd];exact hz
 generalize v.same Vl.zero=sz at *
 generalize (v.chk==0)=c3 at *
 obtain ⟨d1,hD1⟩:∃ d,decide (0 < (cols.length:Int))=d:=⟨_,rfl⟩
 obtain ⟨d2,hD2⟩:∃ d,decide (0 < (vals.length:Int))=d:=⟨_,rfl⟩
 obtain ⟨d4,hD4⟩:∃ d,((fields.length:Int)==0)=d:=⟨_,rfl⟩
 rw [hD1,hD2,hD4]
 have F:=an4 hD1 hD2 hD4 hzz
 (refine en_ Tryz.func48 Tryz.ntmps48 Tryz.results48 fun X hX=>?_)
 refine au_ F ?_
 refine cw_cond rfl (fun hp=>?_) (fun hp=>?_)
 ·have e:(b3==d1 && !c1)=false:=by revert hp;cases b3 <;> cases d1 <;> cases c1 <;> decide
  rw [← Bool.and_assoc,e,Bool.false_and]
  refine au_ an0 ?_
  exact oq_ an0
 have e:(b3==d1 && !c1)=true:=by revert hp;cases b3 <;> cases d1 <;> cases c1 <;> decide
 rw [← Bool.and_assoc,e,Bool.true_and]
 clear e hp
 refine au_ F ?_
 refine cw_cond rfl (fun hp=>?_) (fun hp=>?_)
 ·have e:(b6==d2 && !c2)=false:=by revert hp;cases b6 <;> cases d2 <;> cases c2 <;> decide
  rw [← Bool.and_assoc,e,Bool.false_and]
  refine au_ an0 ?_
  exact oq_ an0
 have e:(b6==d2 && !c2)=true:=by revert hp;cases b6 <;> cases d2 <;> cases c2 <;> decide
 rw [← Bool.and_assoc,e,Bool.true_and]
 clear e hp
 refine au_ F ?_
 refine cw_cond rfl (fun hp=>?_) (fun hp=>?_)
 ·have e:(c3 && (b5 || sz))=false:=by revert hp;cases c3 <;> cases b5 <;> cases sz <;> decide
  rw [← Bool.and_assoc,e,Bool.false_and]
  refine au_ an0 ?_
  exact oq_ an0
 have e:(c3 && (b5 || sz))=true:=by revert hp;cases c3 <;> cases b5 <;> cases sz <;> decide
 rw [← Bool.and_assoc,e,Bool.true_and]
 clear e hp
 refine au_ F ?_
 exact oq_ F
end Go.Proofs.YtjdgejfhnfnmgaaGreatDoor.Ax
namespace Go.Proofs.YtjdgejfhnfnmgaaGreatDoor.Ax
open Go.RowKit
set_option linter.unusedSimpArgs false
attribute [local go_sem] ty3 ty4 ty9 feq24 ty24 ty25 ty54 ty22 ty26 ty27 ty29 ty31 ty72 ty32
set_option linter.unusedVariables false
set_option maxRecDepth 100000
set_option maxHeartbeats 8000000 in
theorem wheres_sp (c:Cm) (hg:goodCm c) (b0 b1 b2 b3 b4 b5 b6 b7 b8 b9:Bool):Sp Tryz.prog 49 [.agg (rCm c),aShape b0 b1 b2 b3 b4 b5 b6 b7 b8 b9] (.one (.t true (.lit (.bool (wheresG c b8 b9))))) []:=by
 have h1:=none_sp c.wh
 have h2:=cexpr_sp c.wh hg.wh
 have h3:=cname_sp c.order hg.order
 clear hg
 unfold wheresG
 obtain ⟨k,name,other,column,cols,ty,v,vals,fields,⟨k1,v1,n1,a1⟩,all,⟨k2,v2,n2,a2⟩,order,limit⟩:=c
 dsimp only at *
 rw [rCm_mk]
 rw [rE_mk] at h1 h2
 generalize noneB (.mk k2 v2 n2 a2)=w1 at *
 generalize exprB (.mk k2 v2 n2 a2)=w2 at *
 generalize nameB order=w3 at *
 have hE:(order.toList==(⟨#[]⟩:ByteArray).toList)=emptyS order:=isE order
 generalize emptyS order=w4 at *
 obtain ⟨l0,hl0⟩:∃ d,d=(limit==0):=⟨_,rfl⟩
 rw [← hl0]
 have hl0:=hl0.symm
 obtain ⟨l1,hl1⟩:∃ d,d=decide (-1≤limit):=⟨_,rfl⟩
 rw [← hl1]
 have hl1:=hl1.symm
 obtain ⟨l2,hl2⟩:∃ d,d=decide (limit≤999999999):=⟨_,rfl⟩
 rw [← hl2]
 have hl2:=hl2.symm
 have F:=an4 hE hl0 hl1 hl2
 (refine en_ Tryz.func49 Tryz.ntmps49 Tryz.results49 fun X hX=>?_)
 refine au_ F ?_
 refine cw_cond rfl (fun hp=>?_) (fun hp=>?_)
 ·have e:b8=true∧all=false:=by revert hp;cases b8 <;> cases all <;> decide
  rw [if_pos e]
  refine au_ F ?_
  refine cw_cond rfl (fun hq=>?_) (fun hq=>?_)
  ·rw [hq,if_pos rfl]
   refine au_ F ?_
   refine ou_ F ?_
   simp only [Bool.and_assoc,Bool.false_and,Bool.true_and,Bool.or_false]
  ·rw [hq,if_neg (by decide)]
   refine au_ F ?_
   refine ou_ F ?_
   simp only [Bool.and_assoc,Bool.false_and,Bool.true_and,Bool.or_false]
 ·have e:¬ (b8=true∧all=false):=by revert hp;cases b8 <;> cases all <;> decide
  rw [if_neg e]
  refine au_ F ?_
  refine cw_cond rfl (fun hq=>?_) (fun hq=>?_)
  ·rw [hq,if_pos rfl]
   refine au_ F ?_
   refine ou_ F ?_
   simp only [Bool.and_assoc,Bool.false_and,Bool.true_and,Bool.or_false]
  ·rw [hq,if_neg (by decide)]
   refine au_ F ?_
   refine ou_ F ?_
   simp only [Bool.and_assoc,Bool.false_and,Bool.true_and,Bool.or_false]
end Go.Proofs.YtjdgejfhnfnmgaaGreatDoor.Ax
namespace Go.Proofs.YtjdgejfhnfnmgaaGreatDoor.Ax
open Go.RowKit
set_option linter.unusedSimpArgs false
attribute [local go_sem] ty3 ty4 ty9 feq24 ty24 ty25 ty54 ty22 ty26 ty27 ty29 ty31 ty72 ty32
set_option linter.unusedVariables false
set_option maxRecDepth 100000
set_option maxHeartbeats 32000000 in
theorem ccheck_sp (c:Cm) (hg:goodCm c):Sp Tryz.prog 17 [.agg (rCm c)] (.one (.t true (.lit (.int .i64 (checkP c))))) []:=by
 have hG1:=great_sp c.ex
 have hG2:=great_sp c.wh
 have hOf:=of_sp c.k
 have hN1:=named_sp c.name hg.name (kName c.k)
 have hN2:=named_sp c.other hg.other (kOther c.k)
 have hN3:=named_sp c.column hg.column (kColumn c.k)
 have hT:=vtype_sp c.ty
 have hL:=lists_sp c hg (kName c.k) (kOther c.k) (kColumn c.k) (c.k==1) (kType c.k) (c.k==3) (c.k==10) (c.k==12) (kWhere c.k) (c.k==13)
 have hW:=wheres_sp c hg (kName c.k) (kOther c.k) (kColumn c.k) (c.k==1) (kType c.k) (c.k==3) (c.k==10) (c.k==12) (kWhere c.k) (c.k==13)
 have hE:=cexpr_sp c.ex hg.ex
 have hNo:=none_sp c.ex
 unfold checkP bigB okP exOk typeOk
 unfold vShape at hOf
 unfold aShape at hL hW
 clear hg
 generalize listsG c (c.k==1) (c.k==10) (c.k==3) (c.k==13)=q1 at *
 generalize wheresG c (kWhere c.k) (c.k==13)=q2 at *
 obtain ⟨k,name,other,column,cols,ty,v,vals,fields,⟨k1,v1,n1,a1⟩,all,⟨k2,v2,n2,a2⟩,order,limit⟩:=c
 dsimp only at *
 rw [rCm_mk] at hL hW ⊢
 rw [rE_mk] at hG1 hG2 hE hNo
 generalize kName k=s0 at *
 generalize kOther k=s1 at *
 generalize kColumn k=s2 at *
 generalize (k==1)=s3 at *
 generalize kType k=s4 at *
 generalize (k==3)=s5 at *
 generalize (k==10)=s6 at *
 generalize (k==12)=s7 at *
 generalize kWhere k=s8 at *
 generalize (k==13)=s9 at *
 generalize namedB name s0=m1 at *
 generalize namedB other s1=m2 at *
 generalize namedB column s2=m3 at *
 generalize exprB (.mk k1 v1 n1 a1)=x1 at *
 generalize noneB (.mk k1 v1 n1 a1)=x2 at *
 generalize decide (15 < sizeE (.mk k1 v1 n1 a1) 15)=d4 at *
 generalize decide (15 < sizeE (.mk k2 v2 n2 a2) 15)=d5 at *
 generalize (decide (1≤ty) && decide (ty≤3))=t1 at *
 obtain ⟨d1,hd1⟩:∃ d,d=decide (5 < (cols.length:Int)):=⟨_,rfl⟩
 rw [← hd1]
 have hd1:=hd1.symm
 obtain ⟨d2,hd2⟩:∃ d,d=decide (5 < (vals.length:Int)):=⟨_,rfl⟩
 rw [← hd2]
 have hd2:=hd2.symm
 obtain ⟨d3,hd3⟩:∃ d,d=decide (5 < (fields.length:Int)):=⟨_,rfl⟩
 rw [← hd3]
 have hd3:=hd3.symm
 obtain ⟨r1,hr1⟩:∃ d,d=decide (1≤k):=⟨_,rfl⟩
 rw [← hr1]
 have hr1:=hr1.symm
 obtain ⟨r2,hr2⟩:∃ d,d=decide (k≤16):=⟨_,rfl⟩
 rw [← hr2]
 have hr2:=hr2.symm
 obtain ⟨t2,ht2⟩:∃ d,d=(ty==0):=⟨_,rfl⟩
 rw [← ht2]
 have ht2:=ht2.symm
 have F:=an6 hd1 hd2 hd3 hr1 hr2 ht2
 (refine en_ Tryz.func17 Tryz.ntmps17 Tryz.results17 fun X hX=>?_)
 refine au_ F ?_
 refine cw_cond rfl (fun hp=>?_) (fun hp=>?_)
 ·rw [if_pos (by rw [← hp];simp only [Bool.or_assoc])]
  refine au_ an0 ?_
  exact oq_ an0
 rw [if_neg (by rw [Bool.not_eq_true,← hp];simp only [Bool.or_assoc])]
 clear hp
 refine au_ F ?_
 obtain ⟨ok,hok⟩:∃ ok,ok=(r1 && r2 && m1 && m2 && m3 && (s4 && t1 || !s4 && t2) && q1 && q2):=⟨_,rfl⟩
 rw [← hok]
 refine au_ F ?_
 have e0:(if s4=true then t1 else t2)=(s4 && t1 || !s4 && t2):=by cases s4 <;> simp
 have e1:(r1 && (r2 && (m1 && (m2 && (m3 && ((s4 && t1 || !s4 && t2) && (q1 && (q2 && if s7=true then x1 else x2))))))))=(ok && if s7=true then x1 else x2):=by rw [hok];simp only [Bool.and_assoc]
 rw [e0,e1]
 clear e0 e1 hok
 refine cw_cond rfl (fun hp=>?_) (fun hp=>?_)
 ·have e:(ok && if s7=true then x1 else x2)=false:=by revert hp;cases ok <;> cases s7 <;> cases x1 <;> cases x2 <;> decide
  rw [e,if_neg (by decide)]
  refine au_ an0 ?_
  exact oq_ an0
 ·have e:(ok && if s7=true then x1 else x2)=true:=by revert hp;cases ok <;> cases s7 <;> cases x1 <;> cases x2 <;> decide
  rw [e,if_pos rfl]
  refine au_ an0 ?_
  exact oq_ an0
end Go.Proofs.YtjdgejfhnfnmgaaGreatDoor.Ax
namespace Go.Proofs.YtjdgejfhnfnmgaaGreatDoor.Ax
open Go.RowKit
set_option linter.unusedSimpArgs false
attribute [local go_sem] ty3 ty4 ty9 ty5 ty24 ty26
set_option linter.unusedVariables false
set_option maxRecDepth 100000
def valT (v:Vl):ByteArray:=if v.k=1 then digS v.n else if v.k=2 then (⟨#[39]⟩++v.s)++⟨#[39]⟩ else if v.k=3 then boolS (v.n==1) else ⟨#[110,117,108,108]⟩
theorem sval_sp (v:Vl) (hv:v.chk=0):Sp Tryz.prog 103 [aV1 v] (.one (.t true (.lit (.string (valT v))))) []:=by
 rcases Vl.right hv with rfl | ⟨n,rfl,h0,h1⟩ | ⟨s,rfl,hs,_⟩ | ⟨n,rfl,h0,h1⟩
 ·have e1:((0:Int)==1)=false:=rfl
  have e2:((0:Int)==2)=false:=rfl
  have e3:((0:Int)==3)=false:=rfl
  (refine en_ Tryz.func103 Tryz.ntmps103 Tryz.results103 fun X hX=>?_)
  (refine go_ (an3 e1 e2 e3) ?_)
  (first | exact oq_ an0 | refine ou_ an0 ?_)
  all_goals rfl
 ·have hD:=itoa_sp n (by omega) (by omega)
  have e1:((1:Int)==1)=true:=rfl
  have hT:valT ⟨1,n,.empty⟩=digS n:=rfl
  rw [hT]
  generalize digS n=t at *
  (refine en_ Tryz.func103 Tryz.ntmps103 Tryz.results103 fun X hX=>?_)
  (refine go_ e1 ?_)
  (refine rn_ 8 an0 fun K hK=>?_;refine rr_ an0 ?_)
  (refine ca_ an0 ?_ (hsp:=hD);refine rr_ an0 ?_)
  ((first | refine rwr_nil (hK _ ?_) | refine de_ (hK _ ?_));clear hK K)
  (refine go_ an0 ?_)
  (first | exact oq_ an0 | refine ou_ an0 ?_)
 ·have e1:((2:Int)==1)=false:=rfl
  have e2:((2:Int)==2)=true:=rfl
  have f1:1 + s.size≤maxLen:=by unfold maxLen;omega
  have f2:1 + s.size + 1≤maxLen:=by unfold maxLen;omega
  (refine en_ Tryz.func103 Tryz.ntmps103 Tryz.results103 fun X hX=>?_)
  (refine go_ (an4 e1 e2 f1 f2) ?_)
  (first | exact oq_ an0 | refine ou_ an0 ?_)
  all_goals rfl
 ·have e1:((3:Int)==1)=false:=rfl
  have e2:((3:Int)==2)=false:=rfl
  have e3:((3:Int)==3)=true:=rfl
  have hF:=fmtbool_sp (n==1)
  have hT:valT ⟨3,n,.empty⟩=boolS (n==1):=rfl
  rw [hT]
  generalize hnb:(n==1)=b at *
  generalize boolS b=t at *
  (refine en_ Tryz.func103 Tryz.ntmps103 Tryz.results103 fun X hX=>?_)
  (refine go_ (an3 e1 e2 e3) ?_)
  (refine rn_ 8 hnb fun K hK=>?_;refine rr_ hnb ?_)
  (refine ca_ hnb ?_ (hsp:=hF);refine rr_ hnb ?_)
  ((first | refine rwr_nil (hK _ ?_) | refine de_ (hK _ ?_));clear hK K)
  (refine go_ an0 ?_)
  (first | exact oq_ an0 | refine ou_ an0 ?_)
def kindT (k:Int):ByteArray:=if k=1 then ⟨#[105,110,116]⟩ else if k=2 then ⟨#[116,101,120,116]⟩ else ⟨#[98,111,111,108]⟩
theorem skind_sp (k:Int) (h1:1≤k) (h3:k≤3):Sp Tryz.prog 102 [.one (.lit (.int .i64 k))] (.one (.t true (.lit (.string (kindT k))))) []:=by
 obtain rfl | rfl | rfl:k=1 ∨ k=2 ∨ k=3:=by omega
 ·have e1:IntKind.i64.wrap ((1:Int) - 1)=((0:Nat):Int):=rfl
  (refine en_ Tryz.func102 Tryz.ntmps102 Tryz.results102 fun X hX=>?_)
  (refine go_ e1 ?_)
  (first | exact oq_ an0 | refine ou_ an0 ?_)
  all_goals rfl
 ·have e1:IntKind.i64.wrap ((2:Int) - 1)=((1:Nat):Int):=rfl
  (refine en_ Tryz.func102 Tryz.ntmps102 Tryz.results102 fun X hX=>?_)
  (refine go_ e1 ?_)
  (first | exact oq_ an0 | refine ou_ an0 ?_)
  all_goals rfl
 ·have e1:IntKind.i64.wrap ((3:Int) - 1)=((2:Nat):Int):=rfl
  (refine en_ Tryz.func102 Tryz.ntmps102 Tryz.results102 fun X hX=>?_)
  (refine go_ e1 ?_)
  (first | exact oq_ an0 | refine ou_ an0 ?_)
  all_goals rfl
end Go.Proofs.YtjdgejfhnfnmgaaGreatDoor.Ax
namespace Go.Proofs.YtjdgejfhnfnmgaaGreatDoor.Ax
open Go.RowKit
set_option linter.unusedSimpArgs false
attribute [local go_sem] ty3 ty4 ty9 ty5 ty24 ty26 ty27 ty29
set_option linter.unusedVariables false
set_option maxRecDepth 100000
def gT:Gx→ByteArray
 | .val v=>valT v
 | .col nm=>nm
 | .un k x=>if k=3 then ⟨#[110,111,116,32]⟩++gT x else (⟨#[40]⟩++gT x)++⟨#[32,105,115,32,110,117,108,108,41]⟩
 | .bin k x y=>(((((⟨#[40]⟩++gT x)++⟨#[32]⟩)++signT k)++⟨#[32]⟩)++gT y)++⟨#[41]⟩
theorem ex_mk (x:Ex):∃ k v nm ar,x=.mk k v nm ar:=by obtain ⟨k,v,nm,ar⟩:=x;exact ⟨k,v,nm,ar,rfl⟩
theorem sign_row (k:Int) (j:Nat) (h:k - 5=(j:Int)) (hj:j < 7):([[T.lit (.string ⟨#[97,110,100]⟩)],[T.lit (.string ⟨#[111,114]⟩)],[T.lit (.string ⟨#[43]⟩)],[T.lit (.string ⟨#[45]⟩)],[T.lit (.string ⟨#[124,124]⟩)],[T.lit (.string ⟨#[60]⟩)],[T.lit (.string ⟨#[61]⟩)]]:List (List T))[j]?=some [T.lit (.string (signT k))]:=by
 unfold signT
 rw [h]
 obtain rfl | rfl | rfl | rfl | rfl | rfl | rfl:j=0 ∨ j=1 ∨ j=2 ∨ j=3 ∨ j=4 ∨ j=5 ∨ j=6:=by omega
 all_goals rfl
set_option maxHeartbeats 16000000 in
theorem sexpr_sp (g:Gx):g.ok→(gT g).size≤maxLen→Sp Tryz.prog 106 [.agg (rE g.ex)] (.one (.t true (.lit (.string (gT g))))) []:=by
 induction g with
 | val v =>
  intro hg hs
  have hS:=sval_sp v hg
  rw [rE_val,gT]
  have e1:((1:Int)==1)=true:=rfl
  generalize valT v=t at *
  (refine en_ Tryz.func106 Tryz.ntmps106 Tryz.results106 fun X hX=>?_)
  (refine go_ e1 ?_)
  (refine rn_ 8 an0 fun K hK=>?_;refine rr_ an0 ?_)
  (refine ca_ an0 ?_ (hsp:=hS);refine rr_ an0 ?_)
  ((first | refine rwr_nil (hK _ ?_) | refine de_ (hK _ ?_));clear hK K)
  (refine go_ an0 ?_)
  (first | exact oq_ an0 | refine ou_ an0 ?_)
 | col nm =>
  intro hg hs
  rw [rE_col,gT]
  have e1:((2:Int)==1)=false:=rfl
  have e2:((2:Int)==2)=true:=rfl
  (refine en_ Tryz.func106 Tryz.ntmps106 Tryz.results106 fun X hX=>?_)
  (refine go_ (an2 e1 e2) ?_)
  (first | exact oq_ an0 | refine ou_ an0 ?_)
 | un k x ih =>
  intro hg hs
  obtain ⟨hk,hx⟩:=hg
  have ih:=ih hx
  rw [rE_un]
  rw [gT] at hs ⊢
  obtain ⟨kx,vx,nx,ax,hxe⟩:=ex_mk x.ex
  rw [hxe,rE_mk] at ih ⊢
  generalize gT x=t at *
  rcases hk with rfl | rfl
  ·rw [if_pos rfl] at hs ⊢
   have hz:((⟨#[110,111,116,32]⟩:ByteArray)++t).size=4 + t.size:=by rw [ByteArray.size_append];rfl
   rw [hz] at hs
   have ih:=ih (by omega)
   have e1:((3:Int)==1)=false:=rfl
   have e2:((3:Int)==2)=false:=rfl
   have e3:((3:Int)==3)=true:=rfl
   (refine en_ Tryz.func106 Tryz.ntmps106 Tryz.results106 fun X hX=>?_)
   (refine go_ (an3 e1 e2 e3) ?_)
   (refine rn_ 8 hs fun K hK=>?_;refine rr_ hs ?_)
   (refine ca_ hs ?_ (hsp:=ih);refine rr_ hs ?_)
   (refine rr_ hs ?_)
   ((first | refine rwr_nil (hK _ ?_) | refine de_ (hK _ ?_));clear hK K)
   (refine go_ an0 ?_)
   (first | exact oq_ an0 | refine ou_ an0 ?_)
  ·rw [if_neg (by decide)] at hs ⊢
   have hz:(((⟨#[40]⟩:ByteArray)++t)++(⟨#[32,105,115,32,110,117,108,108,41]⟩:ByteArray)).size=1 + t.size + 9:=by rw [ByteArray.size_append,ByteArray.size_append];rfl
   rw [hz] at hs
   have f1:1 + t.size≤maxLen:=by omega
   have ih:=ih (by omega)
   have e1:((4:Int)==1)=false:=rfl
   have e2:((4:Int)==2)=false:=rfl
   have e3:((4:Int)==3)=false:=rfl
   have e4:((4:Int)==4)=true:=rfl
   (refine en_ Tryz.func106 Tryz.ntmps106 Tryz.results106 fun X hX=>?_)
   (refine go_ (an4 e1 e2 e3 e4) ?_)
   (refine rn_ 8 (an2 f1 hs) fun K hK=>?_;refine rr_ (an2 f1 hs) ?_)
   (refine ca_ (an2 f1 hs) ?_ (hsp:=ih);refine rr_ (an2 f1 hs) ?_)
   (refine rr_ (an2 f1 hs) ?_)
   ((first | refine rwr_nil (hK _ ?_) | refine de_ (hK _ ?_));clear hK K)
   (refine go_ an0 ?_)
   (first | exact oq_ an0 | refine ou_ an0 ?_)
 | bin k x y ih1 ih2 =>
  intro hg hs
  obtain ⟨hk,hx,hy⟩:=hg
  have ih1:=ih1 hx
  have ih2:=ih2 hy
  rw [rE_bin]
  rw [gT] at hs ⊢
  obtain ⟨kx,vx,nx,ax,hxe⟩:=ex_mk x.ex
  obtain ⟨ky,vy,ny,ay,hye⟩:=ex_mk y.ex
  rw [hxe,rE_mk] at ih1
  rw [hye,rE_mk] at ih2
  rw [hxe,hye,rE_mk,rE_mk]
  obtain ⟨j,hj⟩:∃ j:Nat,k - 5=(j:Int):=⟨(k - 5).toNat,by omega⟩
  have hj7:j < 7:=by omega
  have hrow:=sign_row k j hj hj7
  generalize gT x=s1 at *
  generalize gT y=s2 at *
  generalize signT k=sg at *
  have hz:(((((((⟨#[40]⟩:ByteArray)++s1)++(⟨#[32]⟩:ByteArray))++sg)++(⟨#[32]⟩:ByteArray))++s2)++(⟨#[41]⟩:ByteArray)).size=1 + s1.size + 1 + sg.size + 1 + s2.size + 1:=by rw [ByteArray.size_append,ByteArray.size_append,ByteArray.size_append,ByteArray.size_append,ByteArray.size_append,ByteArray.size_append];rfl
  rw [hz] at hs
  have ih1:=ih1 (by omega)
  have ih2:=ih2 (by omega)
  have f1:1 + s1.size≤maxLen:=by omega
  have f2:1 + s1.size + 1≤maxLen:=by omega
  have f3:1 + s1.size + 1 + sg.size≤maxLen:=by omega
  have f4:1 + s1.size + 1 + sg.size + 1≤maxLen:=by omega
  have f5:1 + s1.size + 1 + sg.size + 1 + s2.size≤maxLen:=by omega
  have e1:(k==1)=false:=by simp;omega
  have e2:(k==2)=false:=by simp;omega
  have e3:(k==3)=false:=by simp;omega
  have e4:(k==4)=false:=by simp;omega
  have e5:IntKind.i64.wrap (k - 5)=(j:Int):=by rw [IntWalk.i64_in _ (by omega)];exact hj
  have j2:(j:Int) < 7:=by omega
  have j3:(0:Int)≤(j:Int):=by omega
  (refine en_ Tryz.func106 Tryz.ntmps106 Tryz.results106 fun X hX=>?_)
  (refine go_ (an2 (an7 e1 e2 e3 e4 e5 hrow hj7) (an2 j2 j3)) ?_)
  (refine dr_ 0 an0 fun K hK=>?_)
  (refine dd_ (an6 f1 f2 f3 f4 f5 hs) ?_)
  (first | refine dcf_ 0 (an6 f1 f2 f3 f4 f5 hs) ?_ (hsp:=ih1) | refine dc_ 0 (an6 f1 f2 f3 f4 f5 hs) ?_ (hsp:=ih1))
  (refine dd_ (an6 f1 f2 f3 f4 f5 hs) ?_)
  (first | refine dcf_ 0 (an6 f1 f2 f3 f4 f5 hs) ?_ (hsp:=ih2) | refine dc_ 0 (an6 f1 f2 f3 f4 f5 hs) ?_ (hsp:=ih2))
  (refine dd_ (an6 f1 f2 f3 f4 f5 hs) ?_)
  (refine de_ (hK _ ?_);clear hK K)
  (refine go_ an0 ?_)
  (first | exact oq_ an0 | refine ou_ an0 ?_)
end Go.Proofs.YtjdgejfhnfnmgaaGreatDoor.Ax
namespace Go.Proofs.YtjdgejfhnfnmgaaGreatDoor.Ax
open Go.RowKit
set_option linter.unusedSimpArgs false
attribute [local go_sem] ty3 ty4 ty9 ty5 ty24 ty26 ty27 ty29
set_option linter.unusedVariables false
set_option maxRecDepth 100000
end Go.Proofs.YtjdgejfhnfnmgaaGreatDoor.Ax
