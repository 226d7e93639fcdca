/-  -/
import Derived.Test.YtjdgejfhnfnmgaaGreatDoorP20
import Derived.Test.YtjdgejfhnfnmgaaGreatDoorP35
import Derived.Test.YtjdgejfhnfnmgaaGreatDoorP14
namespace Go.Proofs.YtjdgejfhnfnmgaaGreatDoor.Ax
open Go.RowKit
set_option linter.unusedSimpArgs false
attribute [local go_sem] ty3 ty4 ty72
set_option linter.unusedVariables false
set_option maxRecDepth 100000
abbrev vShape (k:Int):V:=.agg [.t true (.lit (.bool (kName k))),.t true (.lit (.bool (kOther k))),.t true (.lit (.bool (kColumn k))),.t true (.lit (.bool (k==1))),.t true (.lit (.bool (kType k))),.t true (.lit (.bool (k==3))),.t true (.lit (.bool (k==10))),.t true (.lit (.bool (k==12))),.t true (.lit (.bool (kWhere k))),.t true (.lit (.bool (k==13)))]
set_option maxHeartbeats 8000000 in
theorem of_sp (k:Int):Sp Tryz.prog 45 [.one (.lit (.int .i64 k))] (vShape k) []:=by
 by_cases hk:1≤k∧k≤13
 ·obtain rfl | rfl | rfl | rfl | rfl | rfl | rfl | rfl | rfl | rfl | rfl | rfl | rfl:k=1 ∨ k=2 ∨ k=9 ∨ k=3 ∨ k=4 ∨ k=5 ∨ k=8 ∨ k=6 ∨ k=7 ∨ k=10 ∨ k=11 ∨ k=12 ∨ k=13:=by omega
  ·have e1:((1:Int)==1)=true:=rfl
   rw [show vShape 1=.agg [.t true (.lit (.bool true)),.t true (.lit (.bool false)),.t true (.lit (.bool false)),.t true (.lit (.bool true)),.t true (.lit (.bool false)),.t true (.lit (.bool false)),.t true (.lit (.bool false)),.t true (.lit (.bool false)),.t true (.lit (.bool false)),.t true (.lit (.bool false))] from rfl]
   (refine en_ Tryz.func45 Tryz.ntmps45 Tryz.results45 fun X hX=>?_)
   (refine go_ e1 ?_)
   (first | exact oq_ an0 | refine ou_ an0 ?_)
  ·have e1:((2:Int)==1)=false:=rfl
   have e2:((2:Int)==2)=true:=rfl
   rw [show vShape 2=.agg [.t true (.lit (.bool true)),.t true (.lit (.bool false)),.t true (.lit (.bool false)),.t true (.lit (.bool false)),.t true (.lit (.bool false)),.t true (.lit (.bool false)),.t true (.lit (.bool false)),.t true (.lit (.bool false)),.t true (.lit (.bool false)),.t true (.lit (.bool false))] from rfl]
   (refine en_ Tryz.func45 Tryz.ntmps45 Tryz.results45 fun X hX=>?_)
   (refine go_ (an2 e1 e2) ?_)
   (first | exact oq_ an0 | refine ou_ an0 ?_)
  ·have e1:((9:Int)==1)=false:=rfl
   have e2:((9:Int)==2)=false:=rfl
   have e9:((9:Int)==9)=true:=rfl
   rw [show vShape 9=.agg [.t true (.lit (.bool true)),.t true (.lit (.bool false)),.t true (.lit (.bool false)),.t true (.lit (.bool false)),.t true (.lit (.bool false)),.t true (.lit (.bool false)),.t true (.lit (.bool false)),.t true (.lit (.bool false)),.t true (.lit (.bool false)),.t true (.lit (.bool false))] from rfl]
   (refine en_ Tryz.func45 Tryz.ntmps45 Tryz.results45 fun X hX=>?_)
   (refine go_ (an3 e1 e2 e9) ?_)
   (first | exact oq_ an0 | refine ou_ an0 ?_)
  ·have e1:((3:Int)==1)=false:=rfl
   have e2:((3:Int)==2)=false:=rfl
   have e9:((3:Int)==9)=false:=rfl
   have e3:((3:Int)==3)=true:=rfl
   rw [show vShape 3=.agg [.t true (.lit (.bool true)),.t true (.lit (.bool false)),.t true (.lit (.bool true)),.t true (.lit (.bool false)),.t true (.lit (.bool true)),.t true (.lit (.bool true)),.t true (.lit (.bool false)),.t true (.lit (.bool false)),.t true (.lit (.bool false)),.t true (.lit (.bool false))] from rfl]
   (refine en_ Tryz.func45 Tryz.ntmps45 Tryz.results45 fun X hX=>?_)
   (refine go_ (an4 e1 e2 e9 e3) ?_)
   (first | exact oq_ an0 | refine ou_ an0 ?_)
  ·have e1:((4:Int)==1)=false:=rfl
   have e2:((4:Int)==2)=false:=rfl
   have e9:((4:Int)==9)=false:=rfl
   have e3:((4:Int)==3)=false:=rfl
   have e4:((4:Int)==4)=true:=rfl
   rw [show vShape 4=.agg [.t true (.lit (.bool true)),.t true (.lit (.bool false)),.t true (.lit (.bool true)),.t true (.lit (.bool false)),.t true (.lit (.bool false)),.t true (.lit (.bool false)),.t true (.lit (.bool false)),.t true (.lit (.bool false)),.t true (.lit (.bool false)),.t true (.lit (.bool false))] from rfl]
   (refine en_ Tryz.func45 Tryz.ntmps45 Tryz.results45 fun X hX=>?_)
   (refine go_ (an5 e1 e2 e9 e3 e4) ?_)
   (first | exact oq_ an0 | refine ou_ an0 ?_)
  ·have e1:((5:Int)==1)=false:=rfl
   have e2:((5:Int)==2)=false:=rfl
   have e9:((5:Int)==9)=false:=rfl
   have e3:((5:Int)==3)=false:=rfl
   have e4:((5:Int)==4)=false:=rfl
   have e5:((5:Int)==5)=true:=rfl
   rw [show vShape 5=.agg [.t true (.lit (.bool true)),.t true (.lit (.bool true)),.t true (.lit (.bool true)),.t true (.lit (.bool false)),.t true (.lit (.bool false)),.t true (.lit (.bool false)),.t true (.lit (.bool false)),.t true (.lit (.bool false)),.t true (.lit (.bool false)),.t true (.lit (.bool false))] from rfl]
   (refine en_ Tryz.func45 Tryz.ntmps45 Tryz.results45 fun X hX=>?_)
   (refine go_ (an6 e1 e2 e9 e3 e4 e5) ?_)
   (first | exact oq_ an0 | refine ou_ an0 ?_)
  ·have e1:((8:Int)==1)=false:=rfl
   have e2:((8:Int)==2)=false:=rfl
   have e9:((8:Int)==9)=false:=rfl
   have e3:((8:Int)==3)=false:=rfl
   have e4:((8:Int)==4)=false:=rfl
   have e5:((8:Int)==5)=false:=rfl
   have e8:((8:Int)==8)=true:=rfl
   rw [show vShape 8=.agg [.t true (.lit (.bool true)),.t true (.lit (.bool true)),.t true (.lit (.bool true)),.t true (.lit (.bool false)),.t true (.lit (.bool false)),.t true (.lit (.bool false)),.t true (.lit (.bool false)),.t true (.lit (.bool false)),.t true (.lit (.bool false)),.t true (.lit (.bool false))] from rfl]
   (refine en_ Tryz.func45 Tryz.ntmps45 Tryz.results45 fun X hX=>?_)
   (refine go_ (an7 e1 e2 e9 e3 e4 e5 e8) ?_)
   (first | exact oq_ an0 | refine ou_ an0 ?_)
  ·have e1:((6:Int)==1)=false:=rfl
   have e2:((6:Int)==2)=false:=rfl
   have e9:((6:Int)==9)=false:=rfl
   have e3:((6:Int)==3)=false:=rfl
   have e4:((6:Int)==4)=false:=rfl
   have e5:((6:Int)==5)=false:=rfl
   have e8:((6:Int)==8)=false:=rfl
   have e6:((6:Int)==6)=true:=rfl
   rw [show vShape 6=.agg [.t true (.lit (.bool true)),.t true (.lit (.bool false)),.t true (.lit (.bool true)),.t true (.lit (.bool false)),.t true (.lit (.bool true)),.t true (.lit (.bool false)),.t true (.lit (.bool false)),.t true (.lit (.bool false)),.t true (.lit (.bool false)),.t true (.lit (.bool false))] from rfl]
   (refine en_ Tryz.func45 Tryz.ntmps45 Tryz.results45 fun X hX=>?_)
   (refine go_ (an2 (an7 e1 e2 e9 e3 e4 e5 e8) e6) ?_)
   (first | exact oq_ an0 | refine ou_ an0 ?_)
  ·have e1:((7:Int)==1)=false:=rfl
   have e2:((7:Int)==2)=false:=rfl
   have e9:((7:Int)==9)=false:=rfl
   have e3:((7:Int)==3)=false:=rfl
   have e4:((7:Int)==4)=false:=rfl
   have e5:((7:Int)==5)=false:=rfl
   have e8:((7:Int)==8)=false:=rfl
   have e6:((7:Int)==6)=false:=rfl
   have e7:((7:Int)==7)=true:=rfl
   rw [show vShape 7=.agg [.t true (.lit (.bool true)),.t true (.lit (.bool true)),.t true (.lit (.bool false)),.t true (.lit (.bool false)),.t true (.lit (.bool false)),.t true (.lit (.bool false)),.t true (.lit (.bool false)),.t true (.lit (.bool false)),.t true (.lit (.bool false)),.t true (.lit (.bool false))] from rfl]
   (refine en_ Tryz.func45 Tryz.ntmps45 Tryz.results45 fun X hX=>?_)
   (refine go_ (an2 (an7 e1 e2 e9 e3 e4 e5 e8) (an2 e6 e7)) ?_)
   (first | exact oq_ an0 | refine ou_ an0 ?_)
  ·have e1:((10:Int)==1)=false:=rfl
   have e2:((10:Int)==2)=false:=rfl
   have e9:((10:Int)==9)=false:=rfl
   have e3:((10:Int)==3)=false:=rfl
   have e4:((10:Int)==4)=false:=rfl
   have e5:((10:Int)==5)=false:=rfl
   have e8:((10:Int)==8)=false:=rfl
   have e6:((10:Int)==6)=false:=rfl
   have e7:((10:Int)==7)=false:=rfl
   have e10:((10:Int)==10)=true:=rfl
   rw [show vShape 10=.agg [.t true (.lit (.bool true)),.t true (.lit (.bool false)),.t true (.lit (.bool false)),.t true (.lit (.bool false)),.t true (.lit (.bool false)),.t true (.lit (.bool false)),.t true (.lit (.bool true)),.t true (.lit (.bool false)),.t true (.lit (.bool false)),.t true (.lit (.bool false))] from rfl]
   (refine en_ Tryz.func45 Tryz.ntmps45 Tryz.results45 fun X hX=>?_)
   (refine go_ (an2 (an7 e1 e2 e9 e3 e4 e5 e8) (an3 e6 e7 e10)) ?_)
   (first | exact oq_ an0 | refine ou_ an0 ?_)
  ·have e1:((11:Int)==1)=false:=rfl
   have e2:((11:Int)==2)=false:=rfl
   have e9:((11:Int)==9)=false:=rfl
   have e3:((11:Int)==3)=false:=rfl
   have e4:((11:Int)==4)=false:=rfl
   have e5:((11:Int)==5)=false:=rfl
   have e8:((11:Int)==8)=false:=rfl
   have e6:((11:Int)==6)=false:=rfl
   have e7:((11:Int)==7)=false:=rfl
   have e10:((11:Int)==10)=false:=rfl
   have e11:((11:Int)==11)=true:=rfl
   rw [show vShape 11=.agg [.t true (.lit (.bool true)),.t true (.lit (.bool false)),.t true (.lit (.bool false)),.t true (.lit (.bool false)),.t true (.lit (.bool false)),.t true (.lit (.bool false)),.t true (.lit (.bool false)),.t true (.lit (.bool false)),.t true (.lit (.bool true)),.t true (.lit (.bool false))] from rfl]
   (refine en_ Tryz.func45 Tryz.ntmps45 Tryz.results45 fun X hX=>?_)
   (refine go_ (an2 (an7 e1 e2 e9 e3 e4 e5 e8) (an4 e6 e7 e10 e11)) ?_)
   (first | exact oq_ an0 | refine ou_ an0 ?_)
  ·have e1:((12:Int)==1)=false:=rfl
   have e2:((12:Int)==2)=false:=rfl
   have e9:((12:Int)==9)=false:=rfl
   have e3:((12:Int)==3)=false:=rfl
   have e4:((12:Int)==4)=false:=rfl
   have e5:((12:Int)==5)=false:=rfl
   have e8:((12:Int)==8)=false:=rfl
   have e6:((12:Int)==6)=false:=rfl
   have e7:((12:Int)==7)=false:=rfl
   have e10:((12:Int)==10)=false:=rfl
   have e11:((12:Int)==11)=false:=rfl
   have e12:((12:Int)==12)=true:=rfl
   rw [show vShape 12=.agg [.t true (.lit (.bool true)),.t true (.lit (.bool false)),.t true (.lit (.bool true)),.t true (.lit (.bool false)),.t true (.lit (.bool false)),.t true (.lit (.bool false)),.t true (.lit (.bool false)),.t true (.lit (.bool true)),.t true (.lit (.bool true)),.t true (.lit (.bool false))] from rfl]
   (refine en_ Tryz.func45 Tryz.ntmps45 Tryz.results45 fun X hX=>?_)
   (refine go_ (an2 (an7 e1 e2 e9 e3 e4 e5 e8) (an5 e6 e7 e10 e11 e12)) ?_)
   (first | exact oq_ an0 | refine ou_ an0 ?_)
  ·have e1:((13:Int)==1)=false:=rfl
   have e2:((13:Int)==2)=false:=rfl
   have e9:((13:Int)==9)=false:=rfl
   have e3:((13:Int)==3)=false:=rfl
   have e4:((13:Int)==4)=false:=rfl
   have e5:((13:Int)==5)=false:=rfl
   have e8:((13:Int)==8)=false:=rfl
   have e6:((13:Int)==6)=false:=rfl
   have e7:((13:Int)==7)=false:=rfl
   have e10:((13:Int)==10)=false:=rfl
   have e11:((13:Int)==11)=false:=rfl
   have e12:((13:Int)==12)=false:=rfl
   have e13:((13:Int)==13)=true:=rfl
   rw [show vShape 13=.agg [.t true (.lit (.bool true)),.t true (.lit (.bool false)),.t true (.lit (.bool false)),.t true (.lit (.bool false)),.t true (.lit (.bool false)),.t true (.lit (.bool false)),.t true (.lit (.bool false)),.t true (.lit (.bool false)),.t true (.lit (.bool true)),.t true (.lit (.bool true))] from rfl]
   (refine en_ Tryz.func45 Tryz.ntmps45 Tryz.results45 fun X hX=>?_)
   (refine go_ (an2 (an7 e1 e2 e9 e3 e4 e5 e8) (an6 e6 e7 e10 e11 e12 e13)) ?_)
   (first | exact oq_ an0 | refine ou_ an0 ?_)
 ·have e1:(k==1)=false:=by simp;omega
  have e2:(k==2)=false:=by simp;omega
  have e9:(k==9)=false:=by simp;omega
  have e3:(k==3)=false:=by simp;omega
  have e4:(k==4)=false:=by simp;omega
  have e5:(k==5)=false:=by simp;omega
  have e8:(k==8)=false:=by simp;omega
  have e6:(k==6)=false:=by simp;omega
  have e7:(k==7)=false:=by simp;omega
  have e10:(k==10)=false:=by simp;omega
  have e11:(k==11)=false:=by simp;omega
  have e12:(k==12)=false:=by simp;omega
  have e13:(k==13)=false:=by simp;omega
  have h1:kName k=false:=by unfold kName;simp;omega
  have h2:kOther k=false:=by unfold kOther;simp;omega
  have h3:kColumn k=false:=by unfold kColumn;simp;omega
  have h4:kType k=false:=by unfold kType;simp;omega
  have h5:kWhere k=false:=by unfold kWhere;simp;omega
  unfold vShape
  rw [h1,h2,h3,h4,h5,e1,e3,e10,e12,e13]
  (refine en_ Tryz.func45 Tryz.ntmps45 Tryz.results45 fun X hX=>?_)
  (refine go_ (an2 (an7 e1 e2 e9 e3 e4 e5 e8) (an6 e6 e7 e10 e11 e12 e13)) ?_)
  (first | exact oq_ an0 | refine ou_ an0 ?_)
end Go.Proofs.YtjdgejfhnfnmgaaGreatDoor.Ax
namespace Go.Proofs.YtjdgejfhnfnmgaaGreatDoor.Ax
open Go.RowKit
set_option linter.unusedSimpArgs false
attribute [local go_sem] ty3 ty4 ty9 ty24 feq24 ty27 ty29 ty32
set_option linter.unusedVariables false
set_option maxRecDepth 100000
theorem sameEs_drop {l m:List Ex} {i:Nat} {x y:Ex} (hx:l[i]?=some x) (hy:m[i]?=some y):sameEs (l.drop i) (m.drop i)=(sameE x y && sameEs (l.drop (i + 1)) (m.drop (i + 1))):=by
 rw [drop_eq _ _ _ hx,drop_eq _ _ _ hy,sameEs]
attribute [local go_sem] rE_mk
set_option maxHeartbeats 8000000 in
theorem samee_sp (a:Ex):goodE a→∀ b:Ex,Sp Tryz.prog 38 [.agg (rE a),.agg (rE b)] (.one (.t true (.lit (.bool (sameE a b))))) []:=by
 induction a using Ex.ind with
 | h k v nm ar ih =>
  intro hg b
  obtain ⟨k',v',nm',ar'⟩:=b
  obtain ⟨hgv,hal,hga⟩:=hg.inv
  unfold maxLen at hal
  have hS:=rsame_sp v v'
  rw [rE_mk,rE_mk,sameE]
  by_cases hk1:k=k'
  rotate_left
  ·have e1:(k != k')=true:=by simp [hk1]
   have e1':(k==k')=false:=by simp [hk1]
   rw [e1',Bool.false_and]
   (refine en_ Tryz.func38 Tryz.ntmps38 Tryz.results38 fun X hX=>?_)
   (refine go_ (an2 e1 e1') ?_)
   (first | exact oq_ an0 | refine ou_ an0 ?_)
  have e1:(k != k')=false:=by simp [hk1]
  have e1':(k==k')=true:=by simp [hk1]
  rw [e1',Bool.true_and]
  cases e2:(nm.toList==nm'.toList)
  ·have e2':(nm.toList != nm'.toList)=true:=by rw [bne,e2];rfl
   rw [Bool.false_and]
   (refine en_ Tryz.func38 Tryz.ntmps38 Tryz.results38 fun X hX=>?_)
   (refine go_ (an4 e1 e1' e2 e2') ?_)
   (first | exact oq_ an0 | refine ou_ an0 ?_)
  have e2':(nm.toList != nm'.toList)=false:=by rw [bne,e2];rfl
  rw [Bool.true_and]
  generalize v.same v'=vb at *
  cases vb
  ·rw [Bool.false_and]
   (refine en_ Tryz.func38 Tryz.ntmps38 Tryz.results38 fun X hX=>?_)
   (refine gs_ ?_)
   (refine rn_ 8 an0 fun K hK=>?_;refine rr_ an0 ?_)
   ((first | refine rwr_nil (hK _ ?_) | refine de_ (hK _ ?_));clear hK K)
   (refine gs_ ?_)
   (refine rn_ 10 (an4 e1 e1' e2 e2') fun K hK=>?_)
   (refine rw_goN (k:=9) ?_;(refine sm_ (an4 e1 e1' e2 e2') ?_))
   (refine rr_ (an4 e1 e1' e2 e2') ?_)
   (refine ca_ (an4 e1 e1' e2 e2') ?_ (hsp:=hS);refine rr_ (an4 e1 e1' e2 e2') ?_)
   (refine rr_ (an4 e1 e1' e2 e2') ?_)
   ((first | refine rwr_nil (hK _ ?_) | refine de_ (hK _ ?_));clear hK K)
   (refine go_ an0 ?_)
   (first | exact oq_ an0 | refine ou_ an0 ?_)
  rw [Bool.true_and]
  by_cases hll:ar.length=ar'.length
  ·have e3:((ar.length:Int) != (ar'.length:Int))=false:=by simp [hll]
   have e3':((ar'.length:Int) != (ar'.length:Int))=false:=by simp
   (refine en_ Tryz.func38 Tryz.ntmps38 Tryz.results38 fun X hX=>?_)
   (refine gs_ ?_)
   (refine rn_ 8 an0 fun K hK=>?_;refine rr_ an0 ?_)
   ((first | refine rwr_nil (hK _ ?_) | refine de_ (hK _ ?_));clear hK K)
   (refine gs_ ?_)
   (refine rn_ 10 (an4 e1 e1' e2 e2') fun K hK=>?_)
   (refine rw_goN (k:=9) ?_;(refine sm_ (an4 e1 e1' e2 e2') ?_))
   (refine rr_ (an4 e1 e1' e2 e2') ?_)
   (refine ca_ (an5 e1 e1' e2 e2' e3) ?_ (hsp:=hS);refine rr_ (an5 e1 e1' e2 e2' e3) ?_)
   (refine rr_ (an5 e1 e1' e2 e2' e3) ?_)
   ((first | refine rwr_nil (hK _ ?_) | refine de_ (hK _ ?_));clear hK K)
   (refine go_ an0 ?_)
   refine cw_loop (fun m s=>∃ i:Nat,i≤ar.length∧m=ar.length - i∧sameEs (ar.drop i) (ar'.drop i)=sameEs ar ar'∧s=⟨[(5,litI .i64 i),(2,.one (.optr 2 0)),(3,.one (.optr 3 0))],[(2,.var 29 [.t false (.lit (.int .i64 k)),.t false (.lit (.int .i64 v.k)),.t false (.lit (.int .i64 v.n)),.t false (.lit (.string v.s)),.t false (.lit (.string nm)),.t false (.sl (ar.map rE))]),(3,.var 29 [.t false (.lit (.int .i64 k')),.t false (.lit (.int .i64 v'.k)),.t false (.lit (.int .i64 v'.n)),.t false (.lit (.string v'.s)),.t false (.lit (.string nm')),.t false (.sl (ar'.map rE))])]⟩) ar.length ⟨_,⟨0,Nat.zero_le _,rfl,rfl,rfl⟩,le_⟩ ?_
   rintro m s ⟨i,hi,rfl,hf,rfl⟩
   by_cases hlt:i < ar.length
   ·have f1:decide ((i:Int) < (ar.length:Int))=true:=by simp;omega
    obtain ⟨x,hx⟩:∃ x,ar[i]?=some x:=⟨_,List.getElem?_eq_getElem hlt⟩
    obtain ⟨y,hy⟩:∃ y,ar'[i]?=some y:=⟨_,List.getElem?_eq_getElem (by omega)⟩
    have f2:IntKind.i64.wrap ((i:Int) + 1)=((i + 1:Nat):Int):=by rw [IntWalk.i64_in _ (by omega)];rfl
    have hlt':i < ar'.length:=by omega
    have j1:(i:Int) < (ar.length:Int):=by omega
    have j2:(i:Int) < (ar'.length:Int):=by omega
    have j3:(0:Int)≤(i:Int):=by omega
    have ih1:=ih x (List.mem_of_getElem? hx) (hga x (List.mem_of_getElem? hx)) y
    rw [sameEs_drop hx hy] at hf
    generalize sameE x y=bb at *
    obtain ⟨kx,vx,nx,ax⟩:=x
    obtain ⟨ky,vy,ny,ay⟩:=y
    rw [rE_mk,rE_mk] at ih1
    (refine go_ f1 ?_)
    (refine dr_ 0 an0 fun K hK=>?_)
    (refine dd_ (an7 hx hy hlt hlt' j1 j2 j3) ?_)
    (first | refine dcf_ 0 (an7 hx hy hlt hlt' j1 j2 j3) ?_ (hsp:=ih1) | refine dc_ 0 (an7 hx hy hlt hlt' j1 j2 j3) ?_ (hsp:=ih1))
    (refine dd_ (an7 hx hy hlt hlt' j1 j2 j3) ?_)
    (refine de_ (hK _ ?_);clear hK K)
    cases bb
    ·rw [← hf,Bool.false_and]
     (refine go_ an0 ?_)
     (first | exact oq_ an0 | refine ou_ an0 ?_)
    ·rw [Bool.true_and] at hf
     (refine go_ f2 ?_)
     exact ⟨ar.length - (i + 1),by omega,_,⟨i + 1,by omega,rfl,hf,rfl⟩,le_⟩
   ·have f1:decide ((i:Int) < (ar.length:Int))=false:=by simp;omega
    rw [List.drop_eq_nil_of_le (by omega),List.drop_eq_nil_of_le (by omega),sameEs] at hf
    rw [← hf]
    (refine go_ f1 ?_)
    (first | exact oq_ an0 | refine ou_ an0 ?_)
  ·have e3:((ar.length:Int) != (ar'.length:Int))=true:=by simp;omega
   have hse:sameEs ar ar'=false:=by
    rw [Bool.eq_false_iff]
    exact fun h=>hll (sameEs_len _ _ h)
   rw [hse]
   (refine en_ Tryz.func38 Tryz.ntmps38 Tryz.results38 fun X hX=>?_)
   (refine gs_ ?_)
   (refine rn_ 8 an0 fun K hK=>?_;refine rr_ an0 ?_)
   ((first | refine rwr_nil (hK _ ?_) | refine de_ (hK _ ?_));clear hK K)
   (refine gs_ ?_)
   (refine rn_ 10 (an4 e1 e1' e2 e2') fun K hK=>?_)
   (refine rw_goN (k:=9) ?_;(refine sm_ (an4 e1 e1' e2 e2') ?_))
   (refine rr_ (an4 e1 e1' e2 e2') ?_)
   (refine ca_ (an5 e1 e1' e2 e2' e3) ?_ (hsp:=hS);refine rr_ (an5 e1 e1' e2 e2' e3) ?_)
   (refine rr_ (an5 e1 e1' e2 e2' e3) ?_)
   ((first | refine rwr_nil (hK _ ?_) | refine de_ (hK _ ?_));clear hK K)
   (refine go_ an0 ?_)
   (first | exact oq_ an0 | refine ou_ an0 ?_)
end Go.Proofs.YtjdgejfhnfnmgaaGreatDoor.Ax
namespace Go.Proofs.YtjdgejfhnfnmgaaGreatDoor.Ax
open Go.RowKit
set_option linter.unusedSimpArgs false
attribute [local go_sem] ty3 ty4 ty9 ty24 feq24 ty27 ty29 ty32
set_option linter.unusedVariables false
set_option maxRecDepth 100000
attribute [local go_sem] rE_mk
end Go.Proofs.YtjdgejfhnfnmgaaGreatDoor.Ax
namespace Go.Proofs.YtjdgejfhnfnmgaaGreatDoor.Ax
open Go.RowKit
set_option linter.unusedSimpArgs false
attribute [local go_sem] ty3 ty4 ty9 feq24 ty24 ty25 feq54 ty54 ty22 ty26
set_option linter.unusedVariables false
set_option maxRecDepth 100000
theorem samevalues_sp (l m:List Vl) (hl:l.length≤maxLen):Sp Tryz.prog 39 [.one (.sl (rVs l)),.one (.sl (rVs m))] (.one (.t true (.lit (.bool (eqBy Vl.same l m))))) []:=by
 unfold maxLen at hl
 by_cases hll:l.length=m.length
 rotate_left
 ·have e3:((l.length:Int) != (m.length:Int))=true:=by simp;omega
  rw [eqBy_not hll]
  (refine en_ Tryz.func39 Tryz.ntmps39 Tryz.results39 fun X hX=>?_)
  (refine go_ e3 ?_)
  (first | exact oq_ an0 | refine ou_ an0 ?_)
 have e3:((l.length:Int) != (m.length:Int))=false:=by simp [hll]
 (refine en_ Tryz.func39 Tryz.ntmps39 Tryz.results39 fun X hX=>?_)
 (refine go_ e3 ?_)
 refine cw_loop (fun z s=>∃ i:Nat,i≤l.length∧z=l.length - i∧eqBy Vl.same (l.drop i) (m.drop i)=eqBy Vl.same l m∧s=⟨[(5,litI .i64 i),(0,.one (.t false (.sl (rVs l)))),(1,.one (.t false (.sl (rVs m))))],[]⟩) l.length ⟨_,⟨0,Nat.zero_le _,rfl,rfl,rfl⟩,le_⟩ ?_
 rintro z s ⟨i,hi,rfl,hf,rfl⟩
 by_cases hlt:i < l.length
 ·have f1:decide ((i:Int) < (l.length:Int))=true:=by simp;omega
  obtain ⟨x,hx⟩:∃ x,l[i]?=some x:=⟨_,List.getElem?_eq_getElem hlt⟩
  obtain ⟨y,hy⟩:∃ y,m[i]?=some y:=⟨_,List.getElem?_eq_getElem (by omega)⟩
  have f2:IntKind.i64.wrap ((i:Int) + 1)=((i + 1:Nat):Int):=by rw [IntWalk.i64_in _ (by omega)];rfl
  have hlt':i < m.length:=by omega
  have j1:(i:Int) < (l.length:Int):=by omega
  have j2:(i:Int) < (m.length:Int):=by omega
  have j3:(0:Int)≤(i:Int):=by omega
  have hI:=rsame_sp x y
  rw [eqBy_drop hx hy] at hf
  generalize x.same y=bb at *
  (refine go_ f1 ?_)
  (refine dr_ 0 an0 fun K hK=>?_)
  (refine dd_ (an7 hx hy hlt hlt' j1 j2 j3) ?_)
  (first | refine dcf_ 0 (an7 hx hy hlt hlt' j1 j2 j3) ?_ (hsp:=hI) | refine dc_ 0 (an7 hx hy hlt hlt' j1 j2 j3) ?_ (hsp:=hI))
  (refine dd_ (an7 hx hy hlt hlt' j1 j2 j3) ?_)
  (refine de_ (hK _ ?_);clear hK K)
  cases bb
  ·rw [← hf,Bool.false_and]
   (refine go_ an0 ?_)
   (first | exact oq_ an0 | refine ou_ an0 ?_)
  ·rw [Bool.true_and] at hf
   (refine go_ f2 ?_)
   exact ⟨l.length - (i + 1),by omega,_,⟨i + 1,by omega,rfl,hf,rfl⟩,le_⟩
 ·have f1:decide ((i:Int) < (l.length:Int))=false:=by simp;omega
  rw [List.drop_eq_nil_of_le (by omega),List.drop_eq_nil_of_le (by omega),eqBy] at hf
  rw [← hf]
  (refine go_ f1 ?_)
  (first | exact oq_ an0 | refine ou_ an0 ?_)
def rCm (c:Cm):List T :=
 [.lit (.int .i64 c.k),.lit (.string c.name),.lit (.string c.other),.lit (.string c.column),.sl (rCs c.cols),.lit (.int .i64 c.ty),.lit (.int .i64 c.v.k),.lit (.int .i64 c.v.n),.lit (.string c.v.s),.sl (rVs c.vals),.sl (rS c.fields)]++(rE c.ex++([.lit (.bool c.all)]++(rE c.wh++[.lit (.string c.order),.lit (.int .i64 c.limit)])))
theorem rCm_mk (k:Int) (name other column:ByteArray) (cols:List Col) (ty:Int) (v:Vl) (vals:List Vl) (fields:List ByteArray) (k1:Int) (v1:Vl) (n1:ByteArray) (a1:List Ex) (all:Bool) (k2:Int) (v2:Vl) (n2:ByteArray) (a2:List Ex) (order:ByteArray) (limit:Int) :
  rCm ⟨k,name,other,column,cols,ty,v,vals,fields,.mk k1 v1 n1 a1,all,.mk k2 v2 n2 a2,order,limit⟩=[.lit (.int .i64 k),.lit (.string name),.lit (.string other),.lit (.string column),.sl (rCs cols),.lit (.int .i64 ty),.lit (.int .i64 v.k),.lit (.int .i64 v.n),.lit (.string v.s),.sl (rVs vals),.sl (rS fields),.lit (.int .i64 k1),.lit (.int .i64 v1.k),.lit (.int .i64 v1.n),.lit (.string v1.s),.lit (.string n1),.sl (a1.map rE),.lit (.bool all),.lit (.int .i64 k2),.lit (.int .i64 v2.k),.lit (.int .i64 v2.n),.lit (.string v2.s),.lit (.string n2),.sl (a2.map rE),.lit (.string order),.lit (.int .i64 limit)]:=by
 unfold rCm
 rw [rE_mk,rE_mk]
 rfl
end Go.Proofs.YtjdgejfhnfnmgaaGreatDoor.Ax
namespace Go.Proofs.YtjdgejfhnfnmgaaGreatDoor.Ax
open Go.RowKit
set_option linter.unusedSimpArgs false
attribute [local go_sem] ty3 ty4 ty9 feq24 ty24 ty25 ty54 ty22 ty26 ty27 ty29 ty31 ty72 ty32
set_option linter.unusedVariables false
set_option maxRecDepth 100000
def badV (v:Vl):Bool:=!(v.chk==0)
def badF (s:ByteArray):Bool:=!nameB s
theorem lists1_sp (v:Vl) (hs:v.s.size≤maxLen):Sp Tryz.prog 80 (.agg (rV1 v) :: ([]:List T).map A.one) (.one (.t true (.lit (.bool (badV v))))) []:=by
 have h1:=vcheck_sp v hs
 unfold badV
 generalize v.chk=c at *
 (refine en_ Tryz.func80 Tryz.ntmps80 Tryz.results80 fun X hX=>?_)
 (refine gs_ ?_)
 (refine rn_ 8 an0 fun K hK=>?_;refine rr_ an0 ?_)
 ((first | refine rwr_nil (hK _ ?_) | refine de_ (hK _ ?_));clear hK K)
 (refine gs_ ?_)
 (refine rn_ 8 an0 fun K hK=>?_;refine rr_ an0 ?_)
 (refine ca_ an0 ?_ (hsp:=h1);refine rr_ an0 ?_)
 ((first | refine rwr_nil (hK _ ?_) | refine de_ (hK _ ?_));clear hK K)
 (refine go_ an0 ?_)
 (first | exact oq_ an0 | refine ou_ an0 ?_)
 try rfl
theorem lists2_sp (s:ByteArray) (hs:s.size≤maxLen):Sp Tryz.prog 85 (.one (.lit (.string s)) :: ([]:List T).map A.one) (.one (.t true (.lit (.bool (badF s))))) []:=by
 have h1:=cname_sp s hs
 unfold badF
 generalize nameB s=b at *
 (refine en_ Tryz.func85 Tryz.ntmps85 Tryz.results85 fun X hX=>?_)
 (refine gs_ ?_)
 (refine rn_ 8 an0 fun K hK=>?_;refine rr_ an0 ?_)
 ((first | refine rwr_nil (hK _ ?_) | refine de_ (hK _ ?_));clear hK K)
 (refine gs_ ?_)
 (refine rn_ 8 an0 fun K hK=>?_;refine rr_ an0 ?_)
 (refine ca_ an0 ?_ (hsp:=h1);refine rr_ an0 ?_)
 ((first | refine rwr_nil (hK _ ?_) | refine de_ (hK _ ?_));clear hK K)
 (refine go_ an0 ?_)
 (first | exact oq_ an0 | refine ou_ an0 ?_)
structure goodCm (c:Cm):Prop where
 name:c.name.size≤maxLen
 other:c.other.size≤maxLen
 column:c.column.size≤maxLen
 cols:c.cols.length≤maxLen
 colN:∀ x ∈ c.cols,x.name.size≤maxLen
 v:c.v.s.size≤maxLen
 vals:c.vals.length≤maxLen
 valS:∀ x ∈ c.vals,x.s.size≤maxLen
 fields:c.fields.length≤maxLen
 fieldS:∀ x ∈ c.fields,x.size≤maxLen
 ex:goodE c.ex
 wh:goodE c.wh
 order:c.order.size≤maxLen
def listsG (c:Cm) (b3 b6 b5 b9:Bool):Bool :=
 (b3==decide (0 < (c.cols.length:Int))) && (!c.cols.any badCol && ((b6==decide (0 < (c.vals.length:Int))) && (!c.vals.any badV && ((c.v.chk==0) && ((b5 || c.v.same Vl.zero) && ((b9 || ((c.fields.length:Int)==0)) && !c.fields.any badF))))))
def wheresG (c:Cm) (b8 b9:Bool):Bool :=
 (if b8=true∧c.all=false then exprB c.wh else noneB c.wh) && ((if b9=true then decide (-1≤c.limit) && decide (c.limit≤999999999) else (c.limit==0)) && ((b8 || !c.all) && (emptyS c.order || (b9 && nameB c.order))))
def typeOk (b:Bool) (ty:Int):Bool:=if b=true then decide (1≤ty) && decide (ty≤3) else (ty==0)
def exOk (b:Bool) (e:Ex):Bool:=if b=true then exprB e else noneB e
def okP (c:Cm):Bool :=
 decide (1≤c.k) && (decide (c.k≤16) && (namedB c.name (kName c.k) && (namedB c.other (kOther c.k) && (namedB c.column (kColumn c.k) && (typeOk (kType c.k) c.ty && (listsG c (c.k==1) (c.k==10) (c.k==3) (c.k==13) && (wheresG c (kWhere c.k) (c.k==13) && exOk (c.k==12) c.ex)))))))
def bigB (c:Cm):Bool :=
 decide (5 < (c.cols.length:Int)) || (decide (5 < (c.vals.length:Int)) || (decide (5 < (c.fields.length:Int)) || (decide (15 < sizeE c.ex 15) || decide (15 < sizeE c.wh 15))))
def checkP (c:Cm):Int:=if bigB c=true then 2 else if okP c=true then 0 else 1
abbrev aShape (b0 b1 b2 b3 b4 b5 b6 b7 b8 b9:Bool):A:=.agg [.lit (.bool b0),.lit (.bool b1),.lit (.bool b2),.lit (.bool b3),.lit (.bool b4),.lit (.bool b5),.lit (.bool b6),.lit (.bool b7),.lit (.bool b8),.lit (.bool b9)]
set_option maxHeartbeats 4000000 in
theorem lists_sp (c:Cm) (hg:goodCm c) (b0 b1 b2 b3 b4 b5 b6 b7 b8 b9:Bool):Sp Tryz.prog 48 [.agg (rCm c),aShape b0 b1 b2 b3 b4 b5 b6 b7 b8 b9] (.one (.t true (.lit (.bool (listsG c b3 b6 b5 b9))))) []:=by
 have h1:=columns_sp c.cols hg.cols hg.colN
 have h2:=containsVa_sp 80 [] badV c.vals hg.vals (fun x hx=>lists1_sp x (hg.valS x hx))
 have h3:Sp Tryz.prog 80 [.agg (rV1 c.v)] (.one (.t true (.lit (.bool (badV c.v))))) []:=lists1_sp c.v hg.v
 have h4:=containsSt_sp 85 [] badF c.fields hg.fields (fun x hx=>lists2_sp x (hg.fieldS x hx))
 have hz:=sameZ c.v
 clear hg
 unfold listsG
 unfold badV at h3
 obtain ⟨k,name,other,column,cols,ty,v,vals,fields,⟨k1,v1,n1,a1⟩,all,⟨k2,v2,n2,a2⟩,order,limit⟩:=c
 dsimp only at *
 rw [rCm_mk]
 generalize cols.any badCol=c1 at *
 generalize vals.any badV=c2 at *
 generalize fields.any badF=c4 at *
 have hzz:((v.k==0) && ((v.n==0) && (v.s.toList==ByteArray.empty.toList)))=v.same Vl.zero:=by rw [isEd];exact hz
 generalize v.same Vl.zero=sz at *
 generalize (v.chk==0)=c3 at *
 obtain ⟨d1,hD1⟩:∃ d,decide (0 < (cols.length:Int))=d:=⟨_,rfl⟩
 obtain ⟨d2,hD2⟩:∃ d,decide (0 < (vals.length:Int))=d:=⟨_,rfl⟩
 obtain ⟨d4,hD4⟩:∃ d,((fields.length:Int)==0)=d:=⟨_,rfl⟩
 rw [hD1,hD2,hD4]
 have F:=an4 hD1 hD2 hD4 hzz
 (refine en_ Tryz.func48 Tryz.ntmps48 Tryz.results48 fun X hX=>?_)
 refine au_ F ?_
 refine cw_cond rfl (fun hp=>?_) (fun hp=>?_)
 ·have e:(b3==d1 && !c1)=false:=by revert hp;cases b3 <;> cases d1 <;> cases c1 <;> decide
  rw [← Bool.and_assoc,e,Bool.false_and]
  refine au_ an0 ?_
  exact oq_ an0
 have e:(b3==d1 && !c1)=true:=by revert hp;cases b3 <;> cases d1 <;> cases c1 <;> decide
 rw [← Bool.and_assoc,e,Bool.true_and]
 clear e hp
 refine au_ F ?_
 refine cw_cond rfl (fun hp=>?_) (fun hp=>?_)
 ·have e:(b6==d2 && !c2)=false:=by revert hp;cases b6 <;> cases d2 <;> cases c2 <;> decide
  rw [← Bool.and_assoc,e,Bool.false_and]
  refine au_ an0 ?_
  exact oq_ an0
 have e:(b6==d2 && !c2)=true:=by revert hp;cases b6 <;> cases d2 <;> cases c2 <;> decide
 rw [← Bool.and_assoc,e,Bool.true_and]
 clear e hp
 refine au_ F ?_
 refine cw_cond rfl (fun hp=>?_) (fun hp=>?_)
 ·have e:(c3 && (b5 || sz))=false:=by revert hp;cases c3 <;> cases b5 <;> cases sz <;> decide
  rw [← Bool.and_assoc,e,Bool.false_and]
  refine au_ an0 ?_
  exact oq_ an0
 have e:(c3 && (b5 || sz))=true:=by revert hp;cases c3 <;> cases b5 <;> cases sz <;> decide
 rw [← Bool.and_assoc,e,Bool.true_and]
 clear e hp
 refine au_ F ?_
 exact oq_ F
end Go.Proofs.YtjdgejfhnfnmgaaGreatDoor.Ax
namespace Go.Proofs.YtjdgejfhnfnmgaaGreatDoor.Ax
open Go.RowKit
end Go.Proofs.YtjdgejfhnfnmgaaGreatDoor.Ax
