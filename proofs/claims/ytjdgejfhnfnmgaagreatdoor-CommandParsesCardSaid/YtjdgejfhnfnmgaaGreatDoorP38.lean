/-  -/
import Derived.Test.YtjdgejfhnfnmgaaGreatDoorP20
import Derived.Test.YtjdgejfhnfnmgaaGreatDoorP37
import Derived.Test.YtjdgejfhnfnmgaaGreatDoorP16
import Derived.Test.YtjdgejfhnfnmgaaGreatDoorP17
import Derived.Test.YtjdgejfhnfnmgaaGreatDoorP24
import Derived.Test.YtjdgejfhnfnmgaaGreatDoorP13
import Derived.KernelRfl
import Derived.Test.YtjdgejfhnfnmgaaGreatDoorP34
namespace Go.Proofs.YtjdgejfhnfnmgaaGreatDoor.Ax
open Go.RowKit
set_option linter.unusedSimpArgs false
attribute [local go_sem] ty3 ty4 ty9 feq24 ty24 ty25 ty54 ty22 ty26 ty27 ty29 ty31 ty32
set_option linter.unusedVariables false
set_option maxRecDepth 100000
theorem all_drop {α:Type} (p:α→Bool) {l:List α} {k:Nat} {x:α} (h:l[k]?=some x):(l.drop k).all p=(p x && (l.drop (k + 1)).all p):=by
 obtain ⟨hk,rfl⟩:=List.getElem?_eq_some_iff.1 h
 rw [List.drop_eq_getElem_cons hk,List.all_cons]
set_option maxHeartbeats 16000000 in
theorem rcheck_csp (c:Cm) (hg:goodCm c):Sp Tryz.prog 9 [.agg (rCm c)] (.one (.t true (.lit (.int .i64 (checkP c))))) []:=by
 have hG1:=partsof_sp c.ex 15 (by decide) (by decide)
 have hG2:=partsof_sp c.wh 15 (by decide) (by decide)
 have hB1:=between_sp c.k 1 16
 have hB3:=between_sp c.k 3 6
 have hB11:=between_sp c.k 11 13
 have hN1:=nameis_sp c.name hg.name (decide (c.k≤13))
 have hN2:=nameis_sp c.other hg.other ((c.k==5 || c.k==7) || c.k==8)
 have hN3:=nameis_sp c.column hg.column (((decide (3≤c.k) && decide (c.k≤6)) || c.k==8) || c.k==12)
 have hT:=between_sp c.ty 1 3
 have hV:=rcheck_sp c.v hg.v
 have hZ:Sp Tryz.prog 26 [aV1 c.v,.agg [.lit (.int .i64 0),.lit (.int .i64 0),.lit (.string .empty)]] (.one (.t true (.lit (.bool (c.v.same Vl.zero))))) []:=rsame_sp c.v Vl.zero
 have hL:=between_sp c.limit (-1) 999999999
 have hO:=isname_sp c.order hg.order
 have hE:=isexpr_sp c.ex hg.ex
 have hNE:=noexpr_sp c.ex
 have hW:=isexpr_sp c.wh hg.wh
 have hNW:=noexpr_sp c.wh
 have hcl:=hg.cols
 have hcn:=hg.colN
 have hvl:=hg.vals
 have hvs:=hg.valS
 have hfl:=hg.fields
 have hfs:=hg.fieldS
 clear hg
 unfold maxLen at hcl hvl hfl
 obtain ⟨k,name,other,column,cols,ty,v,vals,fields,⟨k1,v1,n1,a1⟩,all,⟨k2,v2,n2,a2⟩,order,limit⟩:=c
 dsimp only at *
 rw [rCm_mk]
 rw [rE_mk] at hG1 hG2 hE hNE hW hNW
 generalize hm1:namedB name (decide (k≤13))=m1 at hN1
 generalize hm2:namedB other ((k==5 || k==7) || k==8)=m2 at hN2
 generalize hm3:namedB column (((decide (3≤k) && decide (k≤6)) || k==8) || k==12)=m3 at hN3
 generalize hsz:v.same Vl.zero=sz at hZ
 generalize ho:nameB order=no at hO
 generalize he1:exprB (.mk k1 v1 n1 a1)=e1 at hE
 generalize he2:noneB (.mk k1 v1 n1 a1)=e2 at hNE
 generalize he3:exprB (.mk k2 v2 n2 a2)=e3 at hW
 generalize he4:noneB (.mk k2 v2 n2 a2)=e4 at hNW
 (refine en_ Tryz.func9 Tryz.ntmps9 Tryz.results9 fun X hX=>?_)
 refine au_ an0 ?_
 refine cw_cond rfl (fun hp=>?_) (fun hp=>?_)
 ·have hb:bigB ⟨k,name,other,column,cols,ty,v,vals,fields,.mk k1 v1 n1 a1,all,.mk k2 v2 n2 a2,order,limit⟩=true:=by
   rw [← hp];unfold bigB;simp only [Bool.or_assoc]
  rw [checkP,if_pos hb]
  refine au_ an0 ?_
  exact oq_ an0
 have hb:¬ bigB ⟨k,name,other,column,cols,ty,v,vals,fields,.mk k1 v1 n1 a1,all,.mk k2 v2 n2 a2,order,limit⟩=true:=by
  rw [Bool.not_eq_true,← hp];unfold bigB;simp only [Bool.or_assoc]
 rw [checkP,if_neg hb]
 clear hb hp hG1 hG2
 refine au_ an0 ?_
 generalize hq4:(decide (1≤k) && decide (k≤16) && m1 && m2 && m3)=q4
 refine cw_meetn ⟨[(4,.one (.t true (.lit (.bool (q4 && typeOk (k==3 || k==6) ty))))),(3,.one (.t false (.lit (.int .i64 k)))),(1,.one (.optr 1 0))],[(1,.var 31 [.t false (.lit (.int .i64 k)),.t false (.lit (.string name)),.t false (.lit (.string other)),.t false (.lit (.string column)),.t false (.sl (rCs cols)),.t false (.lit (.int .i64 ty)),.t false (.lit (.int .i64 v.k)),.t false (.lit (.int .i64 v.n)),.t false (.lit (.string v.s)),.t false (.sl (rVs vals)),.t false (.sl (rS fields)),.t false (.lit (.int .i64 k1)),.t false (.lit (.int .i64 v1.k)),.t false (.lit (.int .i64 v1.n)),.t false (.lit (.string v1.s)),.t false (.lit (.string n1)),.t false (.sl (a1.map rE)),.t false (.lit (.bool all)),.t false (.lit (.int .i64 k2)),.t false (.lit (.int .i64 v2.k)),.t false (.lit (.int .i64 v2.n)),.t false (.lit (.string v2.s)),.t false (.lit (.string n2)),.t false (.sl (a2.map rE)),.t false (.lit (.string order)),.t false (.lit (.int .i64 limit))])]⟩ ?_ ?_
 ·refine cw_cond rfl (fun hp=>?_) (fun hp=>?_)
  ·have e:typeOk (k==3 || k==6) ty=(decide (1≤ty) && decide (ty≤3)):=by unfold typeOk;rw [if_pos hp]
   refine au_ an0 ?_
   exact lf_ e
  ·have e:typeOk (k==3 || k==6) ty=(ty==0):=by unfold typeOk;rw [if_neg (by rw [hp];decide)]
   refine au_ an0 ?_
   exact lf_ e
 generalize hq5:(q4 && typeOk (k==3 || k==6) ty)=q5
 refine gs_ ?_
 refine au_ an0 ?_
 generalize hq9:(q5 && v.chk==0 && (k==3 || sz) && ((k==1)==decide (0 < (cols.length:Int))) && ((k==10)==decide (0 < (vals.length:Int))) && (k==13 || ((fields.length:Int)==0 && order.toList==(⟨#[]⟩:ByteArray).toList && limit==0)))=q9
 refine cw_loop (fun m st=>∃ (i:Nat) (b:Bool),i≤cols.length∧m=cols.length - i∧(b && (cols.drop i).all goodCo)=(q9 && cols.all goodCo)∧st=⟨[(5,litI .i64 i),(4,.one (.t true (.lit (.bool b)))),(3,.one (.t false (.lit (.int .i64 k)))),(1,.one (.optr 1 0))],[(1,.var 31 [.t false (.lit (.int .i64 k)),.t false (.lit (.string name)),.t false (.lit (.string other)),.t false (.lit (.string column)),.t false (.sl (rCs cols)),.t false (.lit (.int .i64 ty)),.t false (.lit (.int .i64 v.k)),.t false (.lit (.int .i64 v.n)),.t false (.lit (.string v.s)),.t false (.sl (rVs vals)),.t false (.sl (rS fields)),.t false (.lit (.int .i64 k1)),.t false (.lit (.int .i64 v1.k)),.t false (.lit (.int .i64 v1.n)),.t false (.lit (.string v1.s)),.t false (.lit (.string n1)),.t false (.sl (a1.map rE)),.t false (.lit (.bool all)),.t false (.lit (.int .i64 k2)),.t false (.lit (.int .i64 v2.k)),.t false (.lit (.int .i64 v2.n)),.t false (.lit (.string v2.s)),.t false (.lit (.string n2)),.t false (.sl (a2.map rE)),.t false (.lit (.string order)),.t false (.lit (.int .i64 limit))])]⟩) cols.length ⟨_,⟨0,q9,Nat.zero_le _,rfl,rfl,rfl⟩,le_⟩ ?_
 rintro m st ⟨i,b,hi,rfl,hf,rfl⟩
 by_cases hlt:i < cols.length
 ·have z1:decide ((i:Int) < (cols.length:Int))=true:=by simp;omega
  obtain ⟨x,hx⟩:∃ x,cols[i]?=some x:=⟨_,List.getElem?_eq_getElem hlt⟩
  have z4:IntKind.i64.wrap ((i:Int) + 1)=((i + 1:Nat):Int):=by rw [IntWalk.i64_in _ (by omega)];rfl
  have j2:(i:Int) < (cols.length:Int):=by omega
  have j3:(0:Int)≤(i:Int):=by omega
  have hxn:=isname_sp x.name (hcn x (List.mem_of_getElem? hx))
  have hxt:=between_sp x.ty 1 3
  rw [all_drop _ hx] at hf
  generalize hxg:nameB x.name=xn at *
  refine au_ (an6 z1 z4 hx hlt j2 j3) ?_
  exact ⟨cols.length - (i + 1),by omega,_,⟨i + 1,b && xn && (decide (1≤x.ty) && decide (x.ty≤3)),by omega,rfl,by rw [← hf];simp only [goodCo,hxg,Bool.and_assoc],rfl⟩,le_⟩
 obtain rfl:i=cols.length:=by omega
 have z1:decide ((cols.length:Int) < (cols.length:Int))=false:=by simp
 rw [List.drop_eq_nil_of_le (Nat.le_refl _),List.all_nil,Bool.and_true] at hf
 subst hf
 generalize hq10:(q9 && cols.all goodCo)=q10
 refine au_ z1 ?_
 clear z1
 refine cw_loop (fun m st=>∃ (i:Nat) (b:Bool),i≤vals.length∧m=vals.length - i∧(b && (vals.drop i).all goodVa)=(q10 && vals.all goodVa)∧st=⟨[(6,litI .i64 i),(4,.one (.t true (.lit (.bool b)))),(3,.one (.t false (.lit (.int .i64 k)))),(1,.one (.optr 1 0))],[(1,.var 31 [.t false (.lit (.int .i64 k)),.t false (.lit (.string name)),.t false (.lit (.string other)),.t false (.lit (.string column)),.t false (.sl (rCs cols)),.t false (.lit (.int .i64 ty)),.t false (.lit (.int .i64 v.k)),.t false (.lit (.int .i64 v.n)),.t false (.lit (.string v.s)),.t false (.sl (rVs vals)),.t false (.sl (rS fields)),.t false (.lit (.int .i64 k1)),.t false (.lit (.int .i64 v1.k)),.t false (.lit (.int .i64 v1.n)),.t false (.lit (.string v1.s)),.t false (.lit (.string n1)),.t false (.sl (a1.map rE)),.t false (.lit (.bool all)),.t false (.lit (.int .i64 k2)),.t false (.lit (.int .i64 v2.k)),.t false (.lit (.int .i64 v2.n)),.t false (.lit (.string v2.s)),.t false (.lit (.string n2)),.t false (.sl (a2.map rE)),.t false (.lit (.string order)),.t false (.lit (.int .i64 limit))])]⟩) vals.length ⟨_,⟨0,q10,Nat.zero_le _,rfl,rfl,rfl⟩,le_⟩ ?_
 rintro m st ⟨i,b,hi,rfl,hf,rfl⟩
 by_cases hlt:i < vals.length
 ·have z1:decide ((i:Int) < (vals.length:Int))=true:=by simp;omega
  obtain ⟨x,hx⟩:∃ x,vals[i]?=some x:=⟨_,List.getElem?_eq_getElem hlt⟩
  have z4:IntKind.i64.wrap ((i:Int) + 1)=((i + 1:Nat):Int):=by rw [IntWalk.i64_in _ (by omega)];rfl
  have j2:(i:Int) < (vals.length:Int):=by omega
  have j3:(0:Int)≤(i:Int):=by omega
  have hxc:=rcheck_sp x (hvs x (List.mem_of_getElem? hx))
  rw [all_drop _ hx] at hf
  refine au_ (an6 z1 z4 hx hlt j2 j3) ?_
  exact ⟨vals.length - (i + 1),by omega,_,⟨i + 1,b && x.chk==0,by omega,rfl,by rw [← hf];simp only [goodVa,Bool.and_assoc],rfl⟩,le_⟩
 obtain rfl:i=vals.length:=by omega
 have z1:decide ((vals.length:Int) < (vals.length:Int))=false:=by simp
 rw [List.drop_eq_nil_of_le (Nat.le_refl _),List.all_nil,Bool.and_true] at hf
 subst hf
 generalize hq11:(q10 && vals.all goodVa)=q11
 refine au_ z1 ?_
 clear z1
 refine cw_loop (fun m st=>∃ (i:Nat) (b:Bool),i≤fields.length∧m=fields.length - i∧(b && (fields.drop i).all nameB)=(q11 && fields.all nameB)∧st=⟨[(7,litI .i64 i),(4,.one (.t true (.lit (.bool b)))),(3,.one (.t false (.lit (.int .i64 k)))),(1,.one (.optr 1 0))],[(1,.var 31 [.t false (.lit (.int .i64 k)),.t false (.lit (.string name)),.t false (.lit (.string other)),.t false (.lit (.string column)),.t false (.sl (rCs cols)),.t false (.lit (.int .i64 ty)),.t false (.lit (.int .i64 v.k)),.t false (.lit (.int .i64 v.n)),.t false (.lit (.string v.s)),.t false (.sl (rVs vals)),.t false (.sl (rS fields)),.t false (.lit (.int .i64 k1)),.t false (.lit (.int .i64 v1.k)),.t false (.lit (.int .i64 v1.n)),.t false (.lit (.string v1.s)),.t false (.lit (.string n1)),.t false (.sl (a1.map rE)),.t false (.lit (.bool all)),.t false (.lit (.int .i64 k2)),.t false (.lit (.int .i64 v2.k)),.t false (.lit (.int .i64 v2.n)),.t false (.lit (.string v2.s)),.t false (.lit (.string n2)),.t false (.sl (a2.map rE)),.t false (.lit (.string order)),.t false (.lit (.int .i64 limit))])]⟩) fields.length ⟨_,⟨0,q11,Nat.zero_le _,rfl,rfl,rfl⟩,le_⟩ ?_
 rintro m st ⟨i,b,hi,rfl,hf,rfl⟩
 by_cases hlt:i < fields.length
 ·have z1:decide ((i:Int) < (fields.length:Int))=true:=by simp;omega
  obtain ⟨x,hx⟩:∃ x,fields[i]?=some x:=⟨_,List.getElem?_eq_getElem hlt⟩
  have z4:IntKind.i64.wrap ((i:Int) + 1)=((i + 1:Nat):Int):=by rw [IntWalk.i64_in _ (by omega)];rfl
  have j2:(i:Int) < (fields.length:Int):=by omega
  have j3:(0:Int)≤(i:Int):=by omega
  have hxn:=isname_sp x (hfs x (List.mem_of_getElem? hx))
  rw [all_drop _ hx] at hf
  generalize hxg:nameB x=xn at *
  refine au_ (an6 z1 z4 hx hlt j2 j3) ?_
  exact ⟨fields.length - (i + 1),by omega,_,⟨i + 1,b && xn,by omega,rfl,by rw [← hf];simp only [hxg,Bool.and_assoc],rfl⟩,le_⟩
 obtain rfl:i=fields.length:=by omega
 have z1:decide ((fields.length:Int) < (fields.length:Int))=false:=by simp
 rw [List.drop_eq_nil_of_le (Nat.le_refl _),List.all_nil,Bool.and_true] at hf
 subst hf
 generalize hq12:(q11 && fields.all nameB)=q12
 refine au_ z1 ?_
 clear z1
 refine cw_meetn ⟨[(4,.one (.t true (.lit (.bool (q12 && limOk k limit order no))))),(3,.one (.t false (.lit (.int .i64 k)))),(1,.one (.optr 1 0))],[(1,.var 31 [.t false (.lit (.int .i64 k)),.t false (.lit (.string name)),.t false (.lit (.string other)),.t false (.lit (.string column)),.t false (.sl (rCs cols)),.t false (.lit (.int .i64 ty)),.t false (.lit (.int .i64 v.k)),.t false (.lit (.int .i64 v.n)),.t false (.lit (.string v.s)),.t false (.sl (rVs vals)),.t false (.sl (rS fields)),.t false (.lit (.int .i64 k1)),.t false (.lit (.int .i64 v1.k)),.t false (.lit (.int .i64 v1.n)),.t false (.lit (.string v1.s)),.t false (.lit (.string n1)),.t false (.sl (a1.map rE)),.t false (.lit (.bool all)),.t false (.lit (.int .i64 k2)),.t false (.lit (.int .i64 v2.k)),.t false (.lit (.int .i64 v2.n)),.t false (.lit (.string v2.s)),.t false (.lit (.string n2)),.t false (.sl (a2.map rE)),.t false (.lit (.string order)),.t false (.lit (.int .i64 limit))])]⟩ ?_ ?_
 ·refine cw_cond rfl (fun hp=>?_) (fun hp=>?_)
  ·have e:(q12 && limOk k limit order no)=(q12 && (decide (-1≤limit) && decide (limit≤999999999)) && (order.toList==(⟨#[]⟩:ByteArray).toList || no)):=by unfold limOk;rw [if_pos hp];simp only [Bool.and_assoc]
   refine au_ an0 ?_
   exact lf_ e
  ·have e:(q12 && limOk k limit order no)=q12:=by unfold limOk;rw [if_neg (by rw [hp];decide),Bool.and_true]
   refine au_ an0 ?_
   exact lf_ e
 generalize hq13:(q12 && limOk k limit order no)=q13
 refine gs_ ?_
 refine au_ an0 ?_
 refine cw_meetn ⟨[(4,.one (.t true (.lit (.bool (q13 && ifB (k==12) e1 e2))))),(3,.one (.t false (.lit (.int .i64 k)))),(1,.one (.optr 1 0))],[(1,.var 31 [.t false (.lit (.int .i64 k)),.t false (.lit (.string name)),.t false (.lit (.string other)),.t false (.lit (.string column)),.t false (.sl (rCs cols)),.t false (.lit (.int .i64 ty)),.t false (.lit (.int .i64 v.k)),.t false (.lit (.int .i64 v.n)),.t false (.lit (.string v.s)),.t false (.sl (rVs vals)),.t false (.sl (rS fields)),.t false (.lit (.int .i64 k1)),.t false (.lit (.int .i64 v1.k)),.t false (.lit (.int .i64 v1.n)),.t false (.lit (.string v1.s)),.t false (.lit (.string n1)),.t false (.sl (a1.map rE)),.t false (.lit (.bool all)),.t false (.lit (.int .i64 k2)),.t false (.lit (.int .i64 v2.k)),.t false (.lit (.int .i64 v2.n)),.t false (.lit (.string v2.s)),.t false (.lit (.string n2)),.t false (.sl (a2.map rE)),.t false (.lit (.string order)),.t false (.lit (.int .i64 limit))])]⟩ ?_ ?_
 ·refine cw_cond rfl (fun hp=>?_) (fun hp=>?_)
  ·have e:ifB (k==12) e1 e2=e1:=by unfold ifB;rw [if_pos hp]
   refine au_ an0 ?_
   exact lf_ e
  ·have e:ifB (k==12) e1 e2=e2:=by unfold ifB;rw [if_neg (by rw [hp];decide)]
   refine au_ an0 ?_
   exact lf_ e
 generalize hq14:(q13 && ifB (k==12) e1 e2)=q14
 refine gs_ ?_
 refine au_ an0 ?_
 refine cw_meetn ⟨[(4,.one (.t true (.lit (.bool (q14 && ifB ((decide (11≤k) && decide (k≤13)) && !all) e3 (e4 && ((decide (11≤k) && decide (k≤13)) || !all))))))),(3,.one (.t false (.lit (.int .i64 k)))),(1,.one (.optr 1 0))],[(1,.var 31 [.t false (.lit (.int .i64 k)),.t false (.lit (.string name)),.t false (.lit (.string other)),.t false (.lit (.string column)),.t false (.sl (rCs cols)),.t false (.lit (.int .i64 ty)),.t false (.lit (.int .i64 v.k)),.t false (.lit (.int .i64 v.n)),.t false (.lit (.string v.s)),.t false (.sl (rVs vals)),.t false (.sl (rS fields)),.t false (.lit (.int .i64 k1)),.t false (.lit (.int .i64 v1.k)),.t false (.lit (.int .i64 v1.n)),.t false (.lit (.string v1.s)),.t false (.lit (.string n1)),.t false (.sl (a1.map rE)),.t false (.lit (.bool all)),.t false (.lit (.int .i64 k2)),.t false (.lit (.int .i64 v2.k)),.t false (.lit (.int .i64 v2.n)),.t false (.lit (.string v2.s)),.t false (.lit (.string n2)),.t false (.sl (a2.map rE)),.t false (.lit (.string order)),.t false (.lit (.int .i64 limit))])]⟩ ?_ ?_
 ·refine cw_cond rfl (fun hp=>?_) (fun hp=>?_)
  ·have e:ifB ((decide (11≤k) && decide (k≤13)) && !all) e3 (e4 && ((decide (11≤k) && decide (k≤13)) || !all))=e3:=by unfold ifB;rw [if_pos hp]
   refine au_ an0 ?_
   exact lf_ e
  ·have e:(q14 && ifB ((decide (11≤k) && decide (k≤13)) && !all) e3 (e4 && ((decide (11≤k) && decide (k≤13)) || !all)))=(q14 && e4 && ((decide (11≤k) && decide (k≤13)) || !all)):=by unfold ifB;rw [if_neg (by rw [hp];decide)];simp only [Bool.and_assoc]
   refine au_ an0 ?_
   exact lf_ e
 generalize hq15:(q14 && ifB ((decide (11≤k) && decide (k≤13)) && !all) e3 (e4 && ((decide (11≤k) && decide (k≤13)) || !all)))=q15
 have hok:okP ⟨k,name,other,column,cols,ty,v,vals,fields,.mk k1 v1 n1 a1,all,.mk k2 v2 n2 a2,order,limit⟩=q15:=by
  rw [okP_okR]
  unfold okR
  dsimp only
  rw [hm1,hm2,hm3,hsz,ho,he1,he2,he3,he4,hq4,hq5,hq9,hq10,hq11,hq12,hq13,hq14,hq15]
 rw [hok]
 refine gs_ ?_
 refine au_ an0 ?_
 refine cw_cond rfl (fun hp=>?_) (fun hp=>?_)
 ·have e:q15=false:=by cases q15 <;> first | rfl | cases hp
  rw [e,if_neg (by decide)]
  refine au_ an0 ?_
  exact oq_ an0
 ·have e:q15=true:=by cases q15 <;> first | rfl | cases hp
  rw [e,if_pos rfl]
  refine au_ an0 ?_
  exact oq_ an0
end Go.Proofs.YtjdgejfhnfnmgaaGreatDoor.Ax
namespace Go.Proofs.YtjdgejfhnfnmgaaGreatDoor.Ax
open Go.RowKit
theorem rdL_cellsT {w:World} {ok:Nat→Prop}:∀ T:List Vl,RdL w ok (rVs T).flatten (_root_.Go.Proofs.YtjdgejfhnfnmgaaGreatDoor.cellsV T)
 | []=>by
  show RdL w ok [] []
  unfold RdL;trivial
 | v :: T=>by
  show RdL w ok (.lit (.int .i64 v.k) :: .lit (.int .i64 v.n) :: .lit (.string v.s) :: (rVs T).flatten) (.int .i64 v.k :: .int .i64 v.n :: .string v.s :: _root_.Go.Proofs.YtjdgejfhnfnmgaaGreatDoor.cellsV T)
  unfold RdL RdL RdL RdT
  exact ⟨⟨rfl,rfl⟩,⟨rfl,rfl⟩,⟨rfl,rfl⟩,rdL_cellsT T⟩
theorem sp_rowsT {P:Program} {f:FuncId} (hen:Enters P f) {args:List A} (us:List Value) (ha:litAs args=some us) (e:TypeId) (T:List Vl) (k k2:Int)
  (h:∀ w,Calls P f us.toArray w fun en w'=>∃ v,en=.returned (.tuple #[v,.int .i64 k,.int .i64 k2])∧w'.ownsRow w.heap.size e 3 v T.length (_root_.Go.Proofs.YtjdgejfhnfnmgaaGreatDoor.cellsV T)∧Below w.heap.size w w') :
  Sp P f args (.tup [.one (.own 0 T.length),.one (.t true (.lit (.int .i64 k))),.one (.t true (.lit (.int .i64 k2)))]) [(0,.arr e 3 true (rVs T))] where
 enters:=hen
 calls w S hS vs _ hvs:=by
  rw [litAs_rd ha hvs]
  refine (h w).mono fun en w'=>?_
  rintro ⟨v,rfl,hown,hb⟩
  rcases hown with ⟨hl,⟨rfl,hn⟩ | ⟨g,cap,cur,rfl,hbg,hg,h1,h2,h3,h4⟩⟩
  ·refine ⟨_,updR deadR 0 .nil,rfl,hb,?_,?_,?_,?_,?_⟩
   ·intro id b c hi
    unfold updR at hi
    split at hi <;> cases hi
   ·intro i j b c d hi
    unfold updR at hi
    split at hi <;> cases hi
   ·intro id hi
    rw [updR_ne (by simpa using hi)];rfl
   ·unfold RdV
    refine ⟨_,rfl,?_⟩
    unfold RdVs RdV RdC
    rw [updR_same]
    refine ⟨⟨hn,none,rfl⟩,?_⟩
    unfold RdVs RdV RdC RdT RdVs RdV RdC RdT RdVs
    exact ⟨⟨rfl,rfl⟩,⟨rfl,rfl⟩,trivial⟩
   ·intro id b hb'
    simp only [get] at hb'
    split at hb'
    ·rename_i hid
     subst hid
     injection hb' with hb'
     subst hb'
     unfold HasB
     rw [updR_same]
     rw [List.eq_nil_of_length_eq_zero hn];rfl
    ·cases hb'
  ·refine ⟨_,updR deadR 0 (.lie g cap),rfl,hb,?_,?_,?_,?_,?_⟩
   ·intro id b c hi
    unfold updR at hi
    split at hi
    ·injection hi with h5 h6
     subst h5
     exact ⟨by omega,(Array.getElem?_eq_some_iff.1 hg).1⟩
    ·cases hi
   ·intro i j b c d hi hj
    unfold updR at hi hj
    split at hi
    ·split at hj
     ·rename_i h5 h6
      rw [h5,h6]
     ·cases hj
    ·cases hi
   ·intro id hi
    rw [updR_ne (by simpa using hi)];rfl
   ·unfold RdV
    refine ⟨_,rfl,?_⟩
    unfold RdVs RdV RdC
    rw [updR_same]
    refine ⟨rfl,?_⟩
    unfold RdVs RdV RdC RdT RdVs RdV RdC RdT RdVs
    exact ⟨⟨rfl,rfl⟩,⟨rfl,rfl⟩,trivial⟩
   ·intro id b hb'
    simp only [get] at hb'
    split at hb'
    ·rename_i hid
     subst hid
     injection hb' with hb'
     subst hb'
     unfold HasB
     rw [updR_same]
     have hlen:(rVs T).length=T.length:=List.length_map _
     refine ⟨_root_.Go.Proofs.YtjdgejfhnfnmgaaGreatDoor.cellsV T,?_,rdL_cellsT T,?_⟩
     ·rw [hlen]
      exact ⟨hl,.inr ⟨g,cap,cur,rfl,Nat.zero_le _,hg,h1,h2,h3,h4⟩⟩
     ·intro r hr
      obtain ⟨v,_,rfl⟩:=List.mem_map.1 hr
      rfl
    ·cases hb'
theorem rscan_sp (s:ByteArray) (hs:s.size≤maxLen):Sp Tryz.prog 41 [.one (.lit (.string s))] (.tup [.one (.own 0 (scanS s).1.length),.one (.t true (.lit (.int .i64 (scanS s).2.1))),.one (.t true (.lit (.int .i64 (scanS s).2.2)))]) [(0,.arr 77 3 true (rVs (scanS s).1))] :=
 sp_rowsT (enters_of Tryz.func41 (by kernel_rfl) rfl) [.string s] rfl 77 _ _ _ fun w=>(scanof_any s w hs).mono fun _ _ h=>h
set_option linter.unusedSimpArgs false
attribute [local go_sem] extV appD cutOwn appOwn clearOwn bdI mapD putD' keyOk getOr getM putM wholeV litCs asV asC ptrC fnC nilC nilPtr strRows_len runs runsN guardOf exec1 pureV modD rowD ev get St.app St.put St.turn loadC moveC fieldOf indexC lenC lenOk cutC bndOf evAll fieldV convV unV binV binI bitsV moreV intsT eqL eq1 valOf min1 lit1 litInt litI litB litS constV constC cellsV partsOf placesOf buildV fillL toT elemsOf rowsOf baseOf dstOk V.kill V.ment V.ments C.kill C.ment C.ments B.kill setD litRows litRows_append T.isLit callAll calleeV argsV argV viewC viewCs modeOk freeOps V.free C.free V.allF V.allFs C.allF C.allFs B.allF callD leL growB C.flat V.flat B.flat flatL flatB St.flat List.set_cons_zero List.set_cons_succ C.only C.onlys V.only V.onlys B.only renI C.ren C.rens V.ren V.rens B.ren renB renOk nodK Option.getD_some Option.getD_none Option.isSome_some implies_true false_implies C.fit C.fits V.fit V.fit1 V.fits Bool.and_self ite_self exitV resV resL resC outV outV.outs eqB nn cast0 Int.toNat_natCast List.getElem?_map Value.cells Value.oneCell' Nat.lt_irrefl decide_true decide_false and_true true_and and_self and_false false_and not_true_eq_false not_false_eq_true not_true not_false List.size_toArray all_len Nat.zero_add Nat.add_zero List.length_cons List.length_append List.length_replicate List.length_set List.length_nil List.length_map List.map_cons List.map_nil List.take_succ_cons List.take_zero List.take_nil List.drop_succ_cons List.drop_zero List.drop_nil List.cons_append List.nil_append List.append_nil List.all_cons List.all_nil Bool.and_true Bool.true_and Bool.and_false Bool.false_and Bool.not_true Bool.not_false Bool.or_false Bool.or_true Bool.false_or Bool.true_or List.filter_cons List.filter_nil List.contains_cons List.contains_nil beq_self_eq_true List.getElem?_cons_zero List.getElem?_cons_succ List.getElem?_nil Option.map_some Option.map_none Option.toList_some Option.toList_none List.isEmpty_cons List.isEmpty_nil Bool.false_eq_true Bool.true_eq_false List.getElem?_toArray List.not_mem_nil List.mem_cons or_false forall_eq List.mem_singleton forall_const Option.toArray addF if_true if_false dstsOf Oper.looksAt Op.operands Call.operands pick edge B.ment Region.binds List.any_cons List.any_nil List.filterMap_cons List.filterMap_nil ne_eq Bool.or_self List.isEmpty_iff Array.toList_append List.append_toArray Array.append_empty Option.bind_some Option.bind_none List.push_toArray argSv ioD modeIO staysOk callIO calleeIO argsIO valIO cellsIO cellIO butB zLe cLe csLe vLe vsLe bLe insLe renIOk nbOk anyText anyGc aliveF mK kdN klAt klAt.atL dstNe edgesOf foSl inL C.ids C.idss V.ids V.idss NDst klOf dropS true_or or_true or_self ty3 ty4 ty9 ty5 ty26 ty24 ty29 ty27 ty54 ty22 ty25 ty31 ty77 ty43 ty69 ty101 ty32
set_option linter.unusedVariables false
set_option maxRecDepth 100000
def smallT:ByteArray:=⟨#[117,112,100,97,116,101,32,116,32,115,101,116,32,97,32,61,32,40,97,32,43,32,49,41,32,119,104,101,114,101,32,40,98,32,61,32,39,120,39,41,32]⟩
def smallAE:List Ex:=[.mk 2 Vl.zero ⟨#[97]⟩ [],.mk 1 ⟨1,1,⟨#[]⟩⟩ .empty []]
def smallAW:List Ex:=[.mk 2 Vl.zero ⟨#[98]⟩ [],.mk 1 ⟨2,0,⟨#[120]⟩⟩ .empty []]
def smallE:Ex:=.mk 7 Vl.zero .empty smallAE
def smallW:Ex:=.mk 11 Vl.zero .empty smallAW
def smallC:Cm:=⟨12,⟨#[116]⟩,.empty,⟨#[97]⟩,[],0,Vl.zero,[],[],smallE,false,smallW,.empty,0⟩
theorem small_check:checkP smallC=0:=by kernel_rfl
theorem small_goodCm:goodCm smallC where
 name:=by decide
 other:=by decide
 column:=by decide
 cols:=by decide
 colN:=by intro x hx;cases hx
 v:=by decide
 vals:=by decide
 valS:=by intro x hx;cases hx
 fields:=by decide
 fieldS:=by intro x hx;cases hx
 ex:=.mk (by decide) ⟨by decide,by decide,Nat.zero_le _⟩ (Nat.zero_le _) (by decide) (by
  intro a ha
  unfold smallAE at ha
  simp only [List.mem_cons,List.not_mem_nil,or_false] at ha
  rcases ha with rfl | rfl
  ·exact .mk (by decide) ⟨by decide,by decide,Nat.zero_le _⟩ (by decide) (by decide) (by simp)
  ·exact .mk (by decide) ⟨by decide,by decide,Nat.zero_le _⟩ (Nat.zero_le _) (by decide) (by simp))
 wh:=.mk (by decide) ⟨by decide,by decide,Nat.zero_le _⟩ (Nat.zero_le _) (by decide) (by
  intro a ha
  unfold smallAW at ha
  simp only [List.mem_cons,List.not_mem_nil,or_false] at ha
  rcases ha with rfl | rfl
  ·exact .mk (by decide) ⟨by decide,by decide,Nat.zero_le _⟩ (by decide) (by decide) (by simp)
  ·exact .mk (by decide) ⟨by decide,by decide,by decide⟩ (Nat.zero_le _) (by decide) (by simp))
 order:=by decide
end Go.Proofs.YtjdgejfhnfnmgaaGreatDoor.Ax
namespace Go.Proofs.YtjdgejfhnfnmgaaGreatDoor.Ax
open Go.RowKit
theorem pscan_sp (s:ByteArray) (hs:s.size≤maxLen):Sp Tryz.prog 19 [.one (.lit (.string s))] (.tup [.one (.own 0 (scanS s).1.length),.one (.t true (.lit (.int .i64 (scanS s).2.1))),.one (.t true (.lit (.int .i64 (scanS s).2.2)))]) [(0,.arr 77 3 true (rVs (scanS s).1))] :=
 sp_rowsT (enters_of Tryz.func19 (by kernel_rfl) rfl) [.string s] rfl 77 _ _ _ fun w=>(scan_any s w hs).mono fun _ _ ⟨v,h1,h2,h3⟩=>⟨v,h1,own_low h2 (Nat.le_succ _),h3⟩
set_option linter.unusedSimpArgs false
attribute [local go_sem] ty3 ty4 ty9 ty5 ty26 ty24 ty29 ty27 ty54 ty22 ty25 ty31 ty32 ty77 ty43 ty67 ty65 meltSt zC zK
set_option linter.unusedVariables false
set_option maxRecDepth 100000
theorem rCm_eta (c:Cm):rCm c=[.lit (.int .i64 c.k),.lit (.string c.name),.lit (.string c.other),.lit (.string c.column),.sl (rCs c.cols),.lit (.int .i64 c.ty),.lit (.int .i64 c.v.k),.lit (.int .i64 c.v.n),.lit (.string c.v.s),.sl (rVs c.vals),.sl (rS c.fields),.lit (.int .i64 c.ex.k),.lit (.int .i64 c.ex.vk.k),.lit (.int .i64 c.ex.vk.n),.lit (.string c.ex.vk.s),.lit (.string c.ex.nm),.sl (c.ex.ar.map rE),.lit (.bool c.all),.lit (.int .i64 c.wh.k),.lit (.int .i64 c.wh.vk.k),.lit (.int .i64 c.wh.vk.n),.lit (.string c.wh.vk.s),.lit (.string c.wh.nm),.sl (c.wh.ar.map rE),.lit (.string c.order),.lit (.int .i64 c.limit)]:=by
 unfold rCm
 rw [rE_eta,rE_eta]
 rfl
theorem cmC_map (c:Cm):cmC c=(rCm c).map (C.t true):=by
 rw [rCm_eta]
 rfl
def parseP (s:ByteArray):Cm × Int × Int :=
 if (scanS s).2.2=0 then match cmdR (scanS s).1 with
  | .ok c _=>if checkP c=0 then (c,0,0) else (zCm,0,checkP c)
  | .bad k=>(zCm,hereP (scanS s).1 s.size k,1)
 else (zCm,(scanS s).2.1,(scanS s).2.2)
def vParse (r:Cm × Int × Int):V:=.tup [.agg (cmC r.1),.one (.t true (.lit (.int .i64 r.2.1))),.one (.t true (.lit (.int .i64 r.2.2)))]
set_option maxHeartbeats 16000000 in
theorem parse_sp (s:ByteArray) (hs:s.size≤maxLen):Sp Tryz.prog 14 [.one (.lit (.string s))] (vParse (parseP s)) []:=by
 have hS:=(pscan_sp s hs).ren [(0,11)] rfl rfl rfl rfl
 have hgl:=scanS_good (s:=s)
 unfold parseP
 generalize scanS s=x at *
 obtain ⟨l,at_,e⟩:=x
 dsimp only at hS hgl ⊢
 by_cases he:e=0
 ·subst he
  have hl:=hgl rfl
  rw [if_pos rfl]
  have hP:=pparse_io l hl s.size
  rw [← cmdR_eq] at hP
  unfold zC at hP
  have hgd:=fun c k h=>cmd_good (c:=c) (k:=k) hl h
  have hR:(rVs l).length=l.length:=List.length_map _
  have hz:((0:Nat):Int)=0:=rfl
  cases hc:cmdR l with
  | ok c k =>
   have hK:=ccheck_sp c (hgd c k hc)
   rw [rCm_eta] at hK
   rw [hc] at hP
   unfold parseV at hP
   have hP:=hP.ren [(1000,25)] rfl
   unfold vParse
   by_cases hck:checkP c=0
   ·rw [hck] at hK
    dsimp only
    rw [if_pos hck]
    dsimp only
    unfold cmC at hP ⊢
    ((refine en_ Tryz.func14 Tryz.ntmps14 Tryz.results14 fun X hX=>?_);refine gs_ ?_;(refine rn_ 8 an0 fun K hK=>?_;refine rr_ an0 ?_);((first | refine rwr_nil (hK _ ?_) | refine de_ (hK _ ?_));clear hK K);refine gs_ ?_;(refine rn_ 8 an0 fun K hK=>?_;refine rr_ an0 ?_);(refine ca_ an0 ?_ (hsp:=hS);refine rr_ an0 ?_);((first | refine rwr_nil (hK _ ?_) | refine de_ (hK _ ?_));clear hK K);refine gs_ ?_;refine cw_melt 5 11 rfl rfl (by first | exact List.length_map _ | rfl) ?_;refine au_ (an2 hR hz) ?_)
    (refine rn_ 8 (an2 hz hR) fun K hK=>?_;refine rr_ (an2 hz hR) ?_)
    (refine rwr_io 40 (SpIO.ren (hP) [(25,25)] rfl) rfl rfl (by simp only [go_sem,meltSt,zC,zK,hX];exact rfl) (by simp only [go_sem,meltSt,zC,zK,hX]) (by simp only [go_sem,meltSt,zC,zK,hX]) (by simp only [go_sem,meltSt,zC,zK,hX]) (by simp only [go_sem,meltSt,zC,zK,hX]) rfl (by rw [hX];rfl) ?_;simp only [go_sem,meltSt,zC,zK,hX])
    ((first | refine rwr_nil (hK _ ?_) | refine de_ (hK _ ?_));clear hK K)
    refine au_ (an2 hR hz) ?_
    exact op_ an0 (.inl rfl)
   ·dsimp only
    rw [if_neg hck]
    generalize checkP c=q at *
    have e1:(q != 0)=true:=by simp;omega
    have e2:(q==0)=false:=by simp;omega
    dsimp only
    unfold cmC at hP
    unfold cmC zCm zE
    ((refine en_ Tryz.func14 Tryz.ntmps14 Tryz.results14 fun X hX=>?_);refine gs_ ?_;(refine rn_ 8 an0 fun K hK=>?_;refine rr_ an0 ?_);((first | refine rwr_nil (hK _ ?_) | refine de_ (hK _ ?_));clear hK K);refine gs_ ?_;(refine rn_ 8 an0 fun K hK=>?_;refine rr_ an0 ?_);(refine ca_ an0 ?_ (hsp:=hS);refine rr_ an0 ?_);((first | refine rwr_nil (hK _ ?_) | refine de_ (hK _ ?_));clear hK K);refine gs_ ?_;refine cw_melt 5 11 rfl rfl (by first | exact List.length_map _ | rfl) ?_;refine au_ (an2 hR hz) ?_)
    (refine rn_ 8 (an2 hz hR) fun K hK=>?_;refine rr_ (an2 hz hR) ?_)
    (refine rwr_io 40 (SpIO.ren (hP) [(25,25)] rfl) rfl rfl (by simp only [go_sem,meltSt,zC,zK,hX];exact rfl) (by simp only [go_sem,meltSt,zC,zK,hX]) (by simp only [go_sem,meltSt,zC,zK,hX]) (by simp only [go_sem,meltSt,zC,zK,hX]) (by simp only [go_sem,meltSt,zC,zK,hX]) rfl (by rw [hX];rfl) ?_;simp only [go_sem,meltSt,zC,zK,hX])
    ((first | refine rwr_nil (hK _ ?_) | refine de_ (hK _ ?_));clear hK K)
    refine au_ (an4 hR hz e1 e2) ?_
    exact op_ an0 (.inl rfl)
  | bad k =>
   rw [hc] at hP
   unfold parseV at hP
   have hP:=hP.ren [(1000,25)] rfl
   unfold vParse cmC zCm zE
   dsimp only
   ((refine en_ Tryz.func14 Tryz.ntmps14 Tryz.results14 fun X hX=>?_);refine gs_ ?_;(refine rn_ 8 an0 fun K hK=>?_;refine rr_ an0 ?_);((first | refine rwr_nil (hK _ ?_) | refine de_ (hK _ ?_));clear hK K);refine gs_ ?_;(refine rn_ 8 an0 fun K hK=>?_;refine rr_ an0 ?_);(refine ca_ an0 ?_ (hsp:=hS);refine rr_ an0 ?_);((first | refine rwr_nil (hK _ ?_) | refine de_ (hK _ ?_));clear hK K);refine gs_ ?_;refine cw_melt 5 11 rfl rfl (by first | exact List.length_map _ | rfl) ?_;refine au_ (an2 hR hz) ?_)
   (refine rn_ 8 (an2 hz hR) fun K hK=>?_;refine rr_ (an2 hz hR) ?_)
   (refine rwr_io 40 (SpIO.ren (hP) [(25,25)] rfl) rfl rfl (by simp only [go_sem,meltSt,zC,zK,hX];exact rfl) (by simp only [go_sem,meltSt,zC,zK,hX]) (by simp only [go_sem,meltSt,zC,zK,hX]) (by simp only [go_sem,meltSt,zC,zK,hX]) (by simp only [go_sem,meltSt,zC,zK,hX]) rfl (by rw [hX];rfl) ?_;simp only [go_sem,meltSt,zC,zK,hX])
   ((first | refine rwr_nil (hK _ ?_) | refine de_ (hK _ ?_));clear hK K)
   refine au_ (an2 hR hz) ?_
   exact op_ an0 (.inl rfl)
 ·rw [if_neg he]
  have e1:((e:Int) != 0)=true:=by simp;omega
  have e2:((e:Int)==0)=false:=by simp;omega
  unfold vParse cmC zCm zE
  dsimp only
  (refine en_ Tryz.func14 Tryz.ntmps14 Tryz.results14 fun X hX=>?_)
  refine gs_ ?_
  (refine rn_ 8 an0 fun K hK=>?_;refine rr_ an0 ?_)
  ((first | refine rwr_nil (hK _ ?_) | refine de_ (hK _ ?_));clear hK K)
  refine gs_ ?_
  (refine rn_ 8 an0 fun K hK=>?_;refine rr_ an0 ?_)
  (refine ca_ an0 ?_ (hsp:=hS);refine rr_ an0 ?_)
  ((first | refine rwr_nil (hK _ ?_) | refine de_ (hK _ ?_));clear hK K)
  refine au_ (an2 e1 e2) ?_
  exact op_ an0 (.inl rfl)
end Go.Proofs.YtjdgejfhnfnmgaaGreatDoor.Ax
