/-  -/
import Derived.Test.YtjdgejfhnfnmgaaGreatDoorP20
import Derived.Test.YtjdgejfhnfnmgaaGreatDoorP7
import Derived.Test.YtjdgejfhnfnmgaaGreatDoorP13
import Derived.Test.YtjdgejfhnfnmgaaGreatDoorP14
import Derived.Test.YtjdgejfhnfnmgaaGreatDoorP12
import Derived.Test.YtjdgejfhnfnmgaaGreatDoorP16
import Derived.Test.YtjdgejfhnfnmgaaGreatDoorP17
import Derived.Test.YtjdgejfhnfnmgaaGreatDoorP11
import Derived.Test.YtjdgejfhnfnmgaaGreatDoorP21
namespace Go.Proofs.YtjdgejfhnfnmgaaGreatDoor.Ax
open Go.RowKit
set_option linter.unusedSimpArgs false
attribute [local go_sem] ty3 ty4 ty9 ty24 ty32 ty137
set_option maxRecDepth 100000
theorem vcheck_sp (v:Vl) (hs:v.s.size≤maxLen):Sp Tryz.prog 81 [aV1 v] (.one (.t true (.lit (.int .i64 v.chk)))) [] :=
 sp_lits (enters_of Tryz.func81 (by kernel_rfl) rfl) [v.val] _ rfl rfl fun w=>(vcheck_any v w hs).mono fun _ _ h=>h
theorem rcheck_sp (v:Vl) (hs:v.s.size≤maxLen):Sp Tryz.prog 25 [aV1 v] (.one (.t true (.lit (.int .i64 v.chk)))) [] :=
 sp_lits (enters_of Tryz.func25 (by kernel_rfl) rfl) [v.val] _ rfl rfl fun w=>(rcheck_any v w hs).mono fun _ _ h=>h
theorem rsame_sp (a b:Vl):Sp Tryz.prog 26 [aV1 a,aV1 b] (.one (.t true (.lit (.bool (a.same b))))) [] :=
 sp_lits (enters_of Tryz.func26 (by kernel_rfl) rfl) [a.val,b.val] _ rfl rfl fun w=>(rsame_any a b w).mono fun _ _ h=>h
theorem between_sp (n a b:Int):Sp Tryz.prog 23 [.one (.lit (.int .i64 n)),.one (.lit (.int .i64 a)),.one (.lit (.int .i64 b))] (.one (.t true (.lit (.bool (decide (a≤n) && decide (n≤b)))))) [] :=
 sp_lits (enters_of Tryz.func23 (by kernel_rfl) rfl) [.int .i64 n,.int .i64 a,.int .i64 b] _ rfl rfl fun w=>(between_any n a b w).mono fun _ _ h=>⟨h.1,h.2 ▸ Below.refl _ _⟩
theorem truth_sp (b:Bool):Sp Tryz.prog 164 [.one (.lit (.bool b))] (vVt (truth b)) []:=by
 cases b
 all_goals
  (refine en_ Tryz.func164 Tryz.ntmps164 Tryz.results164 fun X hX=>?_)
  (refine go_ an0 ?_)
  (first | exact oq_ an0 | refine ou_ an0 ?_)
  try rfl
end Go.Proofs.YtjdgejfhnfnmgaaGreatDoor.Ax
namespace Go.Proofs.YtjdgejfhnfnmgaaGreatDoor.Ax
open Go.RowKit
set_option linter.unusedSimpArgs false
attribute [local go_sem] ty3 ty4 ty9 ty27 ty29 ty24 ty32 ty137
set_option maxRecDepth 100000
theorem argsk_sp (k:Int):Sp Tryz.prog 137 [.one (.lit (.int .i64 k))] (.one (.t true (.lit (.int .i64 (argsK k))))) []:=by
 unfold argsK
 by_cases c1:k < 1
 ·have e1:decide (k < 1)=true:=decide_eq_true c1
  (refine en_ Tryz.func137 Tryz.ntmps137 Tryz.results137 fun X hX=>?_)
  (refine go_ e1 ?_)
  (first | exact oq_ an0 | refine ou_ an0 ?_)
  rw [if_pos (.inl c1)]
 by_cases c2:11 < k
 ·have e1:decide (k < 1)=false:=decide_eq_false c1
  have e2:decide (11 < k)=true:=decide_eq_true c2
  (refine en_ Tryz.func137 Tryz.ntmps137 Tryz.results137 fun X hX=>?_)
  (refine go_ (an2 e1 e2) ?_)
  (first | exact oq_ an0 | refine ou_ an0 ?_)
  rw [if_pos (.inr c2)]
 have e1:decide (k < 1)=false:=decide_eq_false c1
 have e2:decide (11 < k)=false:=decide_eq_false c2
 rw [if_neg (by omega)]
 by_cases c3:k≤2
 ·have e3:decide (k≤2)=true:=decide_eq_true c3
  (refine en_ Tryz.func137 Tryz.ntmps137 Tryz.results137 fun X hX=>?_)
  (refine go_ (an3 e1 e2 e3) ?_)
  (first | exact oq_ an0 | refine ou_ an0 ?_)
  rw [if_pos c3]
 have e3:decide (k≤2)=false:=decide_eq_false c3
 rw [if_neg c3]
 by_cases c4:k≤4
 ·have e4:decide (k≤4)=true:=decide_eq_true c4
  (refine en_ Tryz.func137 Tryz.ntmps137 Tryz.results137 fun X hX=>?_)
  (refine go_ (an4 e1 e2 e3 e4) ?_)
  (first | exact oq_ an0 | refine ou_ an0 ?_)
  rw [if_pos c4]
 have e4:decide (k≤4)=false:=decide_eq_false c4
 rw [if_neg c4]
 (refine en_ Tryz.func137 Tryz.ntmps137 Tryz.results137 fun X hX=>?_)
 (refine go_ (an4 e1 e2 e3 e4) ?_)
 (first | exact oq_ an0 | refine ou_ an0 ?_)
theorem argsof_sp (k:Int):Sp Tryz.prog 108 [.one (.lit (.int .i64 k))] (.one (.t true (.lit (.int .i64 (argsK k))))) []:=by
 have H:=between_sp k 1 11
 unfold argsK
 by_cases c1:k < 1 ∨ 11 < k
 ·have e1:(decide (1≤k) && decide (k≤11))=false:=by simp;omega
  rw [e1] at H
  (refine en_ Tryz.func108 Tryz.ntmps108 Tryz.results108 fun X hX=>?_)
  (refine go_ an0 ?_)
  (refine rn_ 8 an0 fun K hK=>?_;refine rr_ an0 ?_)
  (refine ca_ an0 ?_ (hsp:=H);refine rr_ an0 ?_)
  ((first | refine rwr_nil (hK _ ?_) | refine de_ (hK _ ?_));clear hK K)
  (refine go_ an0 ?_)
  (first | exact oq_ an0 | refine ou_ an0 ?_)
  rw [if_pos c1]
 ·have e1:(decide (1≤k) && decide (k≤11))=true:=by simp;omega
  rw [e1] at H
  rw [if_neg c1]
  (refine en_ Tryz.func108 Tryz.ntmps108 Tryz.results108 fun X hX=>?_)
  (refine go_ an0 ?_)
  (refine rn_ 8 an0 fun K hK=>?_;refine rr_ an0 ?_)
  (refine ca_ an0 ?_ (hsp:=H);refine rr_ an0 ?_)
  ((first | refine rwr_nil (hK _ ?_) | refine de_ (hK _ ?_));clear hK K)
  (refine go_ an0 ?_)
  obtain rfl | rfl | rfl | rfl | rfl | rfl | rfl | rfl | rfl | rfl | rfl:k=1 ∨ k=2 ∨ k=3 ∨ k=4 ∨ k=5 ∨ k=6 ∨ k=7 ∨ k=8 ∨ k=9 ∨ k=10 ∨ k=11:=by omega
  all_goals
   (refine go_ an0 ?_)
   (first | exact oq_ an0 | refine ou_ an0 ?_)
   try rfl
attribute [local go_sem] rE_mk
set_option maxHeartbeats 1000000 in
theorem size_sp (e:Ex):∀ m:Int,0≤m→m≤100→Sp Tryz.prog 77 [.agg (rE e),.one (.lit (.int .i64 m))] (.one (.t true (.lit (.int .i64 (sizeE e m))))) []:=by
 induction e using Ex.ind with
 | h k v nm ar ih =>
  intro m hm hm'
  rw [rE_mk,sizeE]
  (refine en_ Tryz.func77 Tryz.ntmps77 Tryz.results77 fun X hX=>?_)
  (refine go_ an0 ?_)
  refine cw_loop (fun z s=>∃ (i:Nat) (n:Int),i≤ar.length∧z=ar.length - i∧1≤n∧n≤m + 1∧i < n∧sizeL (ar.drop i) m n=sizeL ar m 1∧s=⟨[(11,litI .i64 i),(10,litI .i64 ar.length),(9,.one (.t false (.sl (ar.map rE)))),(5,litI .i64 n),(1,.one (.t false (.lit (.int .i64 m))))],[]⟩) ar.length ⟨_,⟨0,1,Nat.zero_le _,rfl,by omega,by omega,by omega,rfl,rfl⟩,le_⟩ ?_
  rintro z s ⟨i,n,hi,rfl,hn,hn',hin,hf,rfl⟩
  by_cases hlt:i < ar.length
  ·have e1:decide ((i:Int) < (ar.length:Int))=true:=by simp;omega
   obtain ⟨x,hx⟩:∃ x,ar[i]?=some x:=⟨_,List.getElem?_eq_getElem hlt⟩
   have e4:IntKind.i64.wrap ((i:Int) + 1)=((i + 1:Nat):Int):=by rw [IntWalk.i64_in _ (by omega)];rfl
   rw [drop_eq _ _ _ hx,sizeL] at hf
   have ih1:=ih x (List.mem_of_getElem? hx)
   have hb:=sizeE_le x
   obtain ⟨k',v',nm',ar'⟩:=x
   rw [rE_mk] at ih1
   by_cases hmn:m < n
   ·have e2:decide (m < n)=true:=decide_eq_true hmn
    rw [if_pos hmn] at hf
    (refine go_ (an3 e1 e2 hx) ?_)
    (first | exact oq_ an0 | refine ou_ an0 ?_)
    rw [← hf]
   ·have e2:decide (m < n)=false:=decide_eq_false hmn
    rw [if_neg hmn] at hf
    have e5:IntKind.i64.wrap (m - n)=m - n:=IntWalk.i64_in _ (by omega)
    have hb1:=hb (m - n) (by omega)
    have e6:IntKind.i64.wrap (n + sizeE (.mk k' v' nm' ar') (m - n))=n + sizeE (.mk k' v' nm' ar') (m - n):=IntWalk.i64_in _ (by omega)
    (refine go_ (an3 e1 e2 hx) ?_)
    (refine rn_ 8 e5 fun K hK=>?_;refine rr_ e5 ?_)
    (refine ca_ (an2 e5 e6) ?_ (hsp:=ih1 (m - n) (by omega) (by omega));refine rr_ (an2 e5 e6) ?_)
    ((first | refine rwr_nil (hK _ ?_) | refine de_ (hK _ ?_));clear hK K)
    (refine go_ e4 ?_)
    exact ⟨ar.length - (i + 1),by omega,_,⟨i + 1,n + sizeE (.mk k' v' nm' ar') (m - n),by omega,rfl,by omega,by omega,by omega,hf,rfl⟩,le_⟩
  ·have e1:decide ((i:Int) < (ar.length:Int))=false:=by simp;omega
   rw [List.drop_eq_nil_of_le (by omega)] at hf
   (refine go_ e1 ?_)
   (first | exact oq_ an0 | refine ou_ an0 ?_)
   rw [← hf,sizeL]
theorem sizes_le {n:Nat} (h:n≤140737488351232):n≤maxLen:=by unfold maxLen;omega
theorem goodE.inv {k:Int} {v:Vl} {nm:ByteArray} {ar:List Ex} (h:goodE (.mk k v nm ar)):goodV v∧ar.length≤maxLen∧∀ a ∈ ar,goodE a:=by
 cases h with
 | mk hk hv hn hl ha=>exact ⟨hv,hl.2,ha⟩
set_option maxHeartbeats 1000000 in
theorem partsof_sp (e:Ex):∀ m:Int,0≤m→m≤100→Sp Tryz.prog 22 [.agg (rE e),.one (.lit (.int .i64 m))] (.one (.t true (.lit (.int .i64 (sizeE e m))))) []:=by
 induction e using Ex.ind with
 | h k v nm ar ih =>
  intro m hm hm'
  rw [rE_mk,sizeE]
  (refine en_ Tryz.func22 Tryz.ntmps22 Tryz.results22 fun X hX=>?_)
  (refine go_ an0 ?_)
  refine cw_loop (fun z s=>∃ (i:Nat) (n:Int),i≤ar.length∧z=ar.length - i∧1≤n∧n≤m + 1∧i < n∧sizeL (ar.drop i) m n=sizeL ar m 1∧s=⟨[(6,litI .i64 i),(5,litI .i64 n),(1,.one (.t false (.lit (.int .i64 m)))),(2,.one (.optr 2 0))],[(2,.var 29 [.t false (.lit (.int .i64 k)),.t false (.lit (.int .i64 v.k)),.t false (.lit (.int .i64 v.n)),.t false (.lit (.string v.s)),.t false (.lit (.string nm)),.t false (.sl (ar.map rE))])]⟩) ar.length ⟨_,⟨0,1,Nat.zero_le _,rfl,by omega,by omega,by omega,rfl,rfl⟩,le_⟩ ?_
  rintro z s ⟨i,n,hi,rfl,hn,hn',hin,hf,rfl⟩
  by_cases hlt:i < ar.length
  ·have e1:decide ((i:Int) < (ar.length:Int))=true:=by simp;omega
   obtain ⟨x,hx⟩:∃ x,ar[i]?=some x:=⟨_,List.getElem?_eq_getElem hlt⟩
   have e4:IntKind.i64.wrap ((i:Int) + 1)=((i + 1:Nat):Int):=by rw [IntWalk.i64_in _ (by omega)];rfl
   rw [drop_eq _ _ _ hx,sizeL] at hf
   have ih1:=ih x (List.mem_of_getElem? hx)
   have hb:=sizeE_le x
   obtain ⟨k',v',nm',ar'⟩:=x
   rw [rE_mk] at ih1
   by_cases hmn:m < n
   ·have e2:decide (n≤m)=false:=decide_eq_false (by omega)
    rw [if_pos hmn] at hf
    (refine go_ (an2 e1 e2) ?_)
    (first | exact oq_ an0 | refine ou_ an0 ?_)
    rw [← hf]
   ·have e2:decide (n≤m)=true:=decide_eq_true (by omega)
    rw [if_neg hmn] at hf
    have e5:IntKind.i64.wrap (m - n)=m - n:=IntWalk.i64_in _ (by omega)
    have hb1:=hb (m - n) (by omega)
    have e6:IntKind.i64.wrap (n + sizeE (.mk k' v' nm' ar') (m - n))=n + sizeE (.mk k' v' nm' ar') (m - n):=IntWalk.i64_in _ (by omega)
    (refine go_ (an3 e1 e2 hx) ?_)
    (refine rn_ 8 (an2 e5 hx) fun K hK=>?_;refine rr_ (an2 e5 hx) ?_)
    (refine ca_ (an2 e5 e6) ?_ (hsp:=ih1 (m - n) (by omega) (by omega));refine rr_ (an2 e5 e6) ?_)
    ((first | refine rwr_nil (hK _ ?_) | refine de_ (hK _ ?_));clear hK K)
    (refine go_ e4 ?_)
    exact ⟨ar.length - (i + 1),by omega,_,⟨i + 1,n + sizeE (.mk k' v' nm' ar') (m - n),by omega,rfl,by omega,by omega,by omega,hf,rfl⟩,le_⟩
  ·have e1:decide ((i:Int) < (ar.length:Int))=false:=by simp;omega
   rw [List.drop_eq_nil_of_le (by omega)] at hf
   (refine go_ e1 ?_)
   (first | exact oq_ an0 | refine ou_ an0 ?_)
   rw [← hf,sizeL]
theorem isEd (s:ByteArray):(s.toList==ByteArray.empty.toList)=emptyS s:=isE s
theorem vtype_sp (n:Int):Sp Tryz.prog 47 [.one (.lit (.int .i64 n))] (.one (.t true (.lit (.bool (decide (1≤n) && decide (n≤3)))))) []:=by
 have hw:Sp Tryz.prog 79 [.one (.lit (.int .i64 n)),.one (.lit (.int .i64 1)),.one (.lit (.int .i64 3))] (.one (.t true (.lit (.bool (decide (1≤n) && decide (n≤3)))))) [] :=
  sp_lits (enters_of Tryz.func79 (by kernel_rfl) rfl) [.int .i64 n,.int .i64 1,.int .i64 3] _ rfl rfl fun w=>(within_any n 1 3 w).mono fun _ _ h=>⟨h.1,h.2 ▸ Below.refl _ _⟩
 (refine en_ Tryz.func47 Tryz.ntmps47 Tryz.results47 fun X hX=>?_)
 (refine gs_ ?_)
 (refine rn_ 8 an0 fun K hK=>?_;refine rr_ an0 ?_)
 ((first | refine rwr_nil (hK _ ?_) | refine de_ (hK _ ?_));clear hK K)
 (refine gs_ ?_)
 (refine rn_ 8 an0 fun K hK=>?_;refine rr_ an0 ?_)
 (refine ca_ an0 ?_ (hsp:=hw);refine rr_ an0 ?_)
 ((first | refine rwr_nil (hK _ ?_) | refine de_ (hK _ ?_));clear hK K)
 (refine go_ an0 ?_)
 (first | exact oq_ an0 | refine ou_ an0 ?_)
end Go.Proofs.YtjdgejfhnfnmgaaGreatDoor.Ax
namespace Go.Proofs.YtjdgejfhnfnmgaaGreatDoor.Ax
open Go.RowKit
set_option linter.unusedSimpArgs false
attribute [local go_sem] ty3 ty4 ty9 ty24 feq24 ty27 ty29
set_option maxRecDepth 100000
attribute [local go_sem] isE
set_option maxHeartbeats 4000000 in
theorem plain_sp (k:Int) (v:Vl) (nm:ByteArray) (ar:List Ex):Sp Tryz.prog 86 [.agg (rE (.mk k v nm ar))] (.one (.t true (.lit (.bool (plainB k v nm ar.length))))) []:=by
 rw [rE_mk]
 have H:=argsk_sp k
 (refine en_ Tryz.func86 Tryz.ntmps86 Tryz.results86 fun X hX=>?_)
 (refine go_ an0 ?_)
 cases e1:((ar.length:Int)==argsK k)
 ·(refine dr_ 0 an0 fun K hK=>?_)
  (refine dd_ e1 ?_)
  (first | refine dcf_ 0 an0 ?_ (hsp:=H) | refine dc_ 0 an0 ?_ (hsp:=H))
  (refine dd_ e1 ?_)
  (refine dd_ e1 ?_)
  ((first | refine rwr_nil (hK _ ?_) | refine de_ (hK _ ?_));clear hK K)
  (refine go_ e1 ?_)
  (first | exact oq_ an0 | refine ou_ an0 ?_)
  simp [plainB,e1]
  try exact sameZ v
 have h:k=1 ∨ k=2 ∨ (k ≠ 1∧k ≠ 2):=by omega
 rcases h with h | h | ⟨h,h'⟩
 ·subst h
  cases e3:emptyS nm
  all_goals
   (refine dr_ 0 an0 fun K hK=>?_)
   (refine dd_ (an2 e1 e3) ?_)
   (first | refine dcf_ 0 an0 ?_ (hsp:=H) | refine dc_ 0 an0 ?_ (hsp:=H))
   (refine dd_ (an2 e1 e3) ?_)
   (refine dd_ (an2 e1 e3) ?_)
   ((first | refine rwr_nil (hK _ ?_) | refine de_ (hK _ ?_));clear hK K)
   (refine go_ (an2 e1 e3) ?_)
   (first | exact oq_ an0 | refine ou_ an0 ?_)
   simp [plainB,e1,e3]
 ·subst h
  (refine dr_ 0 an0 fun K hK=>?_)
  (refine dd_ e1 ?_)
  (first | refine dcf_ 0 an0 ?_ (hsp:=H) | refine dc_ 0 an0 ?_ (hsp:=H))
  (refine dd_ e1 ?_)
  (refine dd_ e1 ?_)
  ((first | refine rwr_nil (hK _ ?_) | refine de_ (hK _ ?_));clear hK K)
  (refine go_ e1 ?_)
  (first | exact oq_ an0 | refine ou_ an0 ?_)
  simp [plainB,e1]
  try exact sameZ v
 ·have e2:(k==1)=false:=by simpa using h
  have e2':(k==2)=false:=by simpa using h'
  cases e3:emptyS nm
  all_goals
   (refine dr_ 0 an0 fun K hK=>?_)
   (refine dd_ (an4 e1 e2 e2' e3) ?_)
   (first | refine dcf_ 0 an0 ?_ (hsp:=H) | refine dc_ 0 an0 ?_ (hsp:=H))
   (refine dd_ (an4 e1 e2 e2' e3) ?_)
   (refine dd_ (an4 e1 e2 e2' e3) ?_)
   ((first | refine rwr_nil (hK _ ?_) | refine de_ (hK _ ?_));clear hK K)
   (refine go_ (an4 e1 e2 e2' e3) ?_)
   (first | exact oq_ an0 | refine ou_ an0 ?_)
   simp [plainB,e1,e2,e2',e3]
   try exact sameZ v
end Go.Proofs.YtjdgejfhnfnmgaaGreatDoor.Ax
namespace Go.Proofs.YtjdgejfhnfnmgaaGreatDoor.Ax
open Go.RowKit
set_option linter.unusedSimpArgs false
attribute [local go_sem] ty3 ty4 ty9 ty24 feq24 ty27 ty29
set_option maxRecDepth 100000
attribute [local go_sem] isE
set_option maxHeartbeats 4000000 in
theorem plainexpr_sp (k:Int) (v:Vl) (nm:ByteArray) (ar:List Ex):Sp Tryz.prog 62 [.agg (rE (.mk k v nm ar))] (.one (.t true (.lit (.bool (plainB k v nm ar.length))))) []:=by
 rw [rE_mk]
 have H:=argsof_sp k
 have e21:((2:Int)==1)=false:=rfl
 have HS:Sp Tryz.prog 26 [aV1 v,.agg [.lit (.int .i64 0),.lit (.int .i64 0),.lit (.string .empty)]] (.one (.t true (.lit (.bool (v.same Vl.zero))))) []:=rsame_sp v Vl.zero
 (refine en_ Tryz.func62 Tryz.ntmps62 Tryz.results62 fun X hX=>?_)
 (refine go_ an0 ?_)
 cases e1:((ar.length:Int)==argsK k)
 ·(refine dr_ 0 an0 fun K hK=>?_)
  (refine dd_ e1 ?_)
  (first | refine dcf_ 0 an0 ?_ (hsp:=H) | refine dc_ 0 an0 ?_ (hsp:=H))
  (refine dd_ e1 ?_)
  (refine dd_ e1 ?_)
  ((first | refine rwr_nil (hK _ ?_) | refine de_ (hK _ ?_));clear hK K)
  (refine go_ e1 ?_)
  (first | exact oq_ an0 | refine ou_ an0 ?_)
  simp [plainB,e1]
 have h:k=1 ∨ k=2 ∨ (k ≠ 1∧k ≠ 2):=by omega
 rcases h with h | h | ⟨h,h'⟩
 ·subst h
  cases e3:emptyS nm
  all_goals
   (refine dr_ 0 an0 fun K hK=>?_)
   (refine dd_ (an2 e1 e3) ?_)
   (first | refine dcf_ 0 an0 ?_ (hsp:=H) | refine dc_ 0 an0 ?_ (hsp:=H))
   (refine dd_ (an2 e1 e3) ?_)
   (refine dd_ (an2 e1 e3) ?_)
   ((first | refine rwr_nil (hK _ ?_) | refine de_ (hK _ ?_));clear hK K)
   (refine go_ (an2 e1 e3) ?_)
   (first | exact oq_ an0 | refine ou_ an0 ?_)
   simp [plainB,e1,e3]
 ·subst h
  (refine dr_ 0 an0 fun K hK=>?_)
  (refine dd_ e1 ?_)
  (first | refine dcf_ 0 an0 ?_ (hsp:=H) | refine dc_ 0 an0 ?_ (hsp:=H))
  (refine dd_ e1 ?_)
  (first | refine dcf_ 0 e21 ?_ (hsp:=HS) | refine dc_ 0 e21 ?_ (hsp:=HS))
  (refine dd_ e1 ?_)
  (refine dd_ e1 ?_)
  ((first | refine rwr_nil (hK _ ?_) | refine de_ (hK _ ?_));clear hK K)
  (refine go_ e1 ?_)
  (first | exact oq_ an0 | refine ou_ an0 ?_)
  simp [plainB,e1]
 ·have e2:(k==1)=false:=by simpa using h
  have e2':(k==2)=false:=by simpa using h'
  cases e3:emptyS nm
  ·(refine dr_ 0 an0 fun K hK=>?_)
   (refine dd_ (an4 e1 e2 e2' e3) ?_)
   (first | refine dcf_ 0 an0 ?_ (hsp:=H) | refine dc_ 0 an0 ?_ (hsp:=H))
   (refine dd_ (an4 e1 e2 e2' e3) ?_)
   (refine dd_ (an4 e1 e2 e2' e3) ?_)
   ((first | refine rwr_nil (hK _ ?_) | refine de_ (hK _ ?_));clear hK K)
   (refine go_ (an4 e1 e2 e2' e3) ?_)
   (first | exact oq_ an0 | refine ou_ an0 ?_)
   simp [plainB,e1,e2,e2',e3]
  ·(refine dr_ 0 an0 fun K hK=>?_)
   (refine dd_ (an4 e1 e2 e2' e3) ?_)
   (first | refine dcf_ 0 an0 ?_ (hsp:=H) | refine dc_ 0 an0 ?_ (hsp:=H))
   (refine dd_ (an4 e1 e2 e2' e3) ?_)
   (first | refine dcf_ 0 (an4 e1 e2 e2' e3) ?_ (hsp:=HS) | refine dc_ 0 (an4 e1 e2 e2' e3) ?_ (hsp:=HS))
   (refine dd_ (an4 e1 e2 e2' e3) ?_)
   (refine dd_ (an4 e1 e2 e2' e3) ?_)
   ((first | refine rwr_nil (hK _ ?_) | refine de_ (hK _ ?_));clear hK K)
   (refine go_ (an4 e1 e2 e2' e3) ?_)
   (first | exact oq_ an0 | refine ou_ an0 ?_)
   simp [plainB,e1,e2,e2',e3]
end Go.Proofs.YtjdgejfhnfnmgaaGreatDoor.Ax
namespace Go.Proofs.YtjdgejfhnfnmgaaGreatDoor.Ax
open Go.RowKit
set_option linter.unusedSimpArgs false
attribute [local go_sem] ty3 ty4 ty9 ty26 meltSt
set_option linter.unusedVariables false
set_option maxRecDepth 100000
abbrev rS (l:List ByteArray):List (List T):=l.map fun s=>[.lit (.string s)]
theorem litS_ (l:List ByteArray):litRows (rS l)=true:=litRows_map fun _=>rfl
theorem lenS_ (l:List ByteArray):(∀ r ∈ rS l,r.length=1)=True:=all_len fun _=>rfl
theorem istoken_sp (k:Int) (s:ByteArray) (hs:s.size≤maxLen):Sp Tryz.prog 60 [.one (.lit (.int .i64 k)),.one (.lit (.string s))] (.one (.t true (.lit (.bool (tokB k s))))) [] :=
 sp_lits (enters_of Tryz.func60 (by kernel_rfl) rfl) [.int .i64 k,.string s] _ rfl rfl fun w=>(istok_any k s w hs).mono fun _ _ h=>⟨h.1,h.2 ▸ Below.refl _ _⟩
theorem tone_sp (k:Int) (s:ByteArray) (hs:s.size≤maxLen):Sp Tryz.prog 54 [.one (.lit (.int .i64 k)),.one (.lit (.string s))] (.one (.t true (.lit (.bool (tokB k s))))) []:=by
 rw [← one_tok]
 exact sp_lits (enters_of Tryz.func54 (by kernel_rfl) rfl) [.int .i64 k,.string s] _ rfl rfl fun w=>(one_any k s w hs).mono fun _ _ h=>h
theorem tname_sp (s:ByteArray) (hs:s.size≤maxLen):Sp Tryz.prog 128 [.one (.lit (.string s))] (.one (.t true (.lit (.bool (tokB 1 s))))) []:=by
 have h1:=tone_sp 1 s hs
 (refine en_ Tryz.func128 Tryz.ntmps128 Tryz.results128 fun X hX=>?_)
 (refine gs_ ?_)
 (refine rn_ 8 an0 fun K hK=>?_;refine rr_ an0 ?_)
 ((first | refine rwr_nil (hK _ ?_) | refine de_ (hK _ ?_));clear hK K)
 (refine gs_ ?_)
 (refine rn_ 8 an0 fun K hK=>?_;refine rr_ an0 ?_)
 (refine ca_ an0 ?_ (hsp:=h1);refine rr_ an0 ?_)
 ((first | refine rwr_nil (hK _ ?_) | refine de_ (hK _ ?_));clear hK K)
 (refine go_ an0 ?_)
 (first | exact oq_ an0 | refine ou_ an0 ?_)
theorem any_drop {α:Type} (p:α→Bool) {l:List α} {k:Nat} {x:α} (h:l[k]?=some x):(l.drop k).any p=(p x || (l.drop (k + 1)).any p):=by
 obtain ⟨hk,rfl⟩:=List.getElem?_eq_some_iff.1 h
 rw [List.drop_eq_getElem_cons hk,List.any_cons]
theorem isword_sp (s:ByteArray):Sp Tryz.prog 61 [.one (.lit (.string s))] (.one (.t true (.lit (.bool (isWordB s))))) []:=by
 unfold isWordB
 have hl:wordsL.length=36:=rfl
 (refine en_ Tryz.func61 Tryz.ntmps61 Tryz.results61 fun X hX=>?_)
 (refine go_ an0 ?_)
 refine cw_melt 3 5 rfl rfl rfl ?_
 refine cw_loop (fun m st=>∃ k,k≤wordsL.length∧m=wordsL.length - k∧(wordsL.drop k).any (fun x=>x.toList==s.toList)=wordsL.any (fun x=>x.toList==s.toList)∧st=⟨[(4,litI .i64 k),(3,.one (.t true (.sl (rS wordsL)))),(0,.one (.t false (.lit (.string s))))],[]⟩) wordsL.length ⟨_,⟨0,Nat.zero_le _,rfl,rfl,rfl⟩,le_⟩ ?_
 rintro m st ⟨k,hk,rfl,hf,rfl⟩
 by_cases hlt:k < wordsL.length
 ·have e1:decide ((k:Int) < (wordsL.length:Int))=true:=by simp;omega
  obtain ⟨x,hx⟩:∃ x,wordsL[k]?=some x:=⟨_,List.getElem?_eq_getElem hlt⟩
  have e4:IntKind.i64.wrap ((k:Int) + 1)=((k + 1:Nat):Int):=by rw [IntWalk.i64_in _ (by omega)];rfl
  have j2:(k:Int) < (wordsL.length:Int):=by omega
  have j3:(0:Int)≤(k:Int):=by omega
  rw [any_drop _ hx] at hf
  generalize wordsL=L at *
  (refine go_ (an5 e1 hx hlt j2 j3) ?_)
  refine cw_cond rfl (fun hp=>?_) (fun hp=>?_)
  ·rw [hp] at hf
   rw [← hf]
   (refine go_ an0 ?_)
   (first | exact oq_ an0 | refine ou_ an0 ?_)
   try rfl
  ·rw [hp,Bool.false_or] at hf
   (refine go_ e4 ?_)
   exact ⟨L.length - (k + 1),by omega,_,⟨k + 1,by omega,rfl,hf,rfl⟩,le_⟩
 ·have e1:decide ((k:Int) < (wordsL.length:Int))=false:=by simp;omega
  rw [List.drop_eq_nil_of_le (by omega)] at hf
  rw [← hf]
  generalize wordsL=L at *
  (refine go_ e1 ?_)
  (first | exact oq_ an0 | refine ou_ an0 ?_)
  try rfl
theorem isname_sp (s:ByteArray) (hs:s.size≤maxLen):Sp Tryz.prog 27 [.one (.lit (.string s))] (.one (.t true (.lit (.bool (nameB s))))) []:=by
 have h1:=istoken_sp 1 s hs
 have h2:=isword_sp s
 unfold nameB
 generalize tokB 1 s=tb at *
 cases tb
 ·(refine en_ Tryz.func27 Tryz.ntmps27 Tryz.results27 fun X hX=>?_)
  (refine gs_ ?_)
  (refine rn_ 8 an0 fun K hK=>?_;refine rr_ an0 ?_)
  ((first | refine rwr_nil (hK _ ?_) | refine de_ (hK _ ?_));clear hK K)
  (refine gs_ ?_)
  (refine rn_ 8 an0 fun K hK=>?_;refine rr_ an0 ?_)
  (refine ca_ an0 ?_ (hsp:=h1);refine rr_ an0 ?_)
  (refine rr_ an0 ?_)
  ((first | refine rwr_nil (hK _ ?_) | refine de_ (hK _ ?_));clear hK K)
  (refine go_ an0 ?_)
  (first | exact oq_ an0 | refine ou_ an0 ?_)
  try rfl
 ·(refine en_ Tryz.func27 Tryz.ntmps27 Tryz.results27 fun X hX=>?_)
  (refine gs_ ?_)
  (refine rn_ 8 an0 fun K hK=>?_;refine rr_ an0 ?_)
  ((first | refine rwr_nil (hK _ ?_) | refine de_ (hK _ ?_));clear hK K)
  (refine gs_ ?_)
  (refine rn_ 8 an0 fun K hK=>?_;refine rr_ an0 ?_)
  (refine ca_ an0 ?_ (hsp:=h1);refine rr_ an0 ?_)
  (refine rr_ an0 ?_)
  (refine ca_ an0 ?_ (hsp:=h2);refine rr_ an0 ?_)
  (refine rr_ an0 ?_)
  ((first | refine rwr_nil (hK _ ?_) | refine de_ (hK _ ?_));clear hK K)
  (refine go_ an0 ?_)
  (first | exact oq_ an0 | refine ou_ an0 ?_)
  try rfl
attribute [local go_sem] isE
theorem nameis_sp (s:ByteArray) (hs:s.size≤maxLen) (b:Bool):Sp Tryz.prog 24 [.one (.lit (.string s)),.one (.lit (.bool b))] (.one (.t true (.lit (.bool (namedB s b))))) []:=by
 have h1:=isname_sp s hs
 unfold namedB
 cases b
 ·rw [if_neg (by decide)]
  (refine en_ Tryz.func24 Tryz.ntmps24 Tryz.results24 fun X hX=>?_)
  (refine go_ an0 ?_)
  (first | exact oq_ an0 | refine ou_ an0 ?_)
  try exact isE s
 ·rw [if_pos rfl]
  (refine en_ Tryz.func24 Tryz.ntmps24 Tryz.results24 fun X hX=>?_)
  (refine go_ an0 ?_)
  (refine rn_ 8 an0 fun K hK=>?_;refine rr_ an0 ?_)
  (refine ca_ an0 ?_ (hsp:=h1);refine rr_ an0 ?_)
  ((first | refine rwr_nil (hK _ ?_) | refine de_ (hK _ ?_));clear hK K)
  (refine go_ an0 ?_)
  (first | exact oq_ an0 | refine ou_ an0 ?_)
end Go.Proofs.YtjdgejfhnfnmgaaGreatDoor.Ax
namespace Go.Proofs.YtjdgejfhnfnmgaaGreatDoor.Ax
open Go.RowKit
set_option linter.unusedSimpArgs false
attribute [local go_sem] ty3 ty4 ty9 ty5 ty77 ty43 ty69 ty101
set_option linter.unusedVariables false
set_option maxRecDepth 100000
def rdH (l:List Vl) (en:Int) (r:RS):List C:=[.t false (.sl (rVs l)),.t false (.lit (.int .i64 r.at_)),.t false (.lit (.int .i64 en)),.t false (.lit (.bool r.bad))]
set_option maxHeartbeats 4000000 in
theorem rtext_l (l:List Vl) (en:Int) (r:RS):SpL Tryz.prog 123 [.one (.optr 1000 0)] 69 (rdH l en r) (.one (.t true (.lit (.string (txQ l r))))) (rdH l en r) 26:=by
 intro vs hlen hone
 obtain ⟨at_,bad⟩:=r
 unfold rdH
 dsimp only
 cases bad with
 | true =>
  rw [txQ_bad rfl]
  (refine ei_ Tryz.func123 Tryz.ntmps123 Tryz.results123 fun X hX=>?_)
  refine au_ an0 ?_
  exact oj_ an0 (.inl rfl)
 | false =>
  by_cases hlt:at_ < l.length
  ·obtain ⟨t,ht⟩:∃ t,l[at_]?=some t:=⟨_,List.getElem?_eq_getElem hlt⟩
   rw [txQ_some rfl ht]
   have e1:decide ((l.length:Int)≤(at_:Int))=false:=by simp;omega
   have j2:(at_:Int) < (l.length:Int):=by omega
   have j3:(0:Int)≤(at_:Int):=by omega
   (refine ei_ Tryz.func123 Tryz.ntmps123 Tryz.results123 fun X hX=>?_)
   refine au_ (an5 e1 ht hlt j2 j3) ?_
   exact oj_ an0 (.inl rfl)
  ·have e1:decide ((l.length:Int)≤(at_:Int))=true:=by simp;omega
   rw [txQ_none (List.getElem?_eq_none (by show l.length≤at_;omega))]
   (refine ei_ Tryz.func123 Tryz.ntmps123 Tryz.results123 fun X hX=>?_)
   refine au_ e1 ?_
   exact oj_ an0 (.inl rfl)
set_option maxHeartbeats 4000000 in
theorem rtake_l (l:List Vl) (hl:l.length≤4000) (en:Int) (r:RS) (hr:r.at_≤l.length) (s:ByteArray):SpL Tryz.prog 68 [.one (.optr 1000 0),.one (.t false (.lit (.string s)))] 69 (rdH l en r) (.one (.t true (.lit (.bool (takeQ l s r).1)))) (rdH l en (takeQ l s r).2) 26:=by
 intro vs hlen hone
 have hT:=rtext_l l en r
 obtain ⟨at_,bad⟩:=r
 dsimp only at hr
 unfold takeQ
 cases bad with
 | true =>
  rw [if_pos rfl]
  unfold rdH
  dsimp only
  (refine ei_ Tryz.func68 Tryz.ntmps68 Tryz.results68 fun X hX=>?_)
  refine au_ an0 ?_
  exact oj_ an0 (.inl rfl)
 | false =>
  rw [if_neg Bool.false_ne_true]
  generalize txQ l ⟨at_,false⟩=u at *
  unfold rdH at hT ⊢
  dsimp only at hT ⊢
  cases hq:strEq u s with
  | true =>
   rw [if_pos rfl]
   unfold strEq at hq
   have hq2:(u.toList != s.toList)=false:=by unfold bne;rw [hq];rfl
   have e1:IntKind.i64.wrap ((at_:Int) + 1)=((at_ + 1:Nat):Int):=by rw [IntWalk.i64_in _ (by omega)];rfl
   (refine ei_ Tryz.func68 Tryz.ntmps68 Tryz.results68 fun X hX=>?_)
   refine gs_ ?_
   refine au_ an0 ?_
   (refine rn_ 0 (an2 hq hq2) fun K hK=>?_;refine rx_ (an2 hq hq2) ?_;refine lk_ 1000 (an2 hq hq2) (hT) ?_;refine rx_ (an2 hq hq2) ?_;refine rwr_nil (hK _ ?_);clear hK K)
   refine au_ e1 ?_
   exact oj_ an0 (.inl rfl)
  | false =>
   rw [if_neg Bool.false_ne_true]
   unfold strEq at hq
   have hq2:(u.toList != s.toList)=true:=by unfold bne;rw [hq];rfl
   (refine ei_ Tryz.func68 Tryz.ntmps68 Tryz.results68 fun X hX=>?_)
   refine gs_ ?_
   refine au_ an0 ?_
   (refine rn_ 0 (an2 hq hq2) fun K hK=>?_;refine rx_ (an2 hq hq2) ?_;refine lk_ 1000 (an2 hq hq2) (hT) ?_;refine rx_ (an2 hq hq2) ?_;refine rwr_nil (hK _ ?_);clear hK K)
   refine au_ an0 ?_
   exact oj_ an0 (.inl rfl)
theorem takeQ_le {l:List Vl} {s:ByteArray} {r:RS} (hr:r.at_≤l.length) (hs:s.size ≠ 0):(takeQ l s r).2.at_≤l.length:=by
 unfold takeQ
 split
 ·exact hr
 ·rename_i hb
  split
  ·rename_i he
   show r.at_ + 1≤l.length
   rcases Nat.lt_or_ge r.at_ l.length with h | h
   ·exact h
   ·exfalso
    rw [txQ_none (List.getElem?_eq_none h)] at he
    have:=strEq_iff.1 he
    subst this
    exact hs rfl
  ·exact hr
set_option maxHeartbeats 4000000 in
theorem rneed_l (l:List Vl) (hl:l.length≤4000) (en:Int) (r:RS) (hr:r.at_≤l.length) (s:ByteArray):SpL Tryz.prog 70 [.one (.optr 1000 0),.one (.t false (.lit (.string s)))] 69 (rdH l en r) (.tup []) (rdH l en (needQ l s r)) 26:=by
 intro vs hlen hone
 have hT:=rtake_l l hl en r hr s
 have hbad:(takeQ l s r).1=false→(takeQ l s r).2=r:=by
  intro h
  unfold takeQ at h ⊢
  split
  ·rfl
  ·rename_i h1
   rw [if_neg h1] at h
   split
   ·rename_i h2;rw [if_pos h2] at h;cases h
   ·rfl
 unfold needQ
 generalize takeQ l s r=tk at *
 obtain ⟨b,⟨at',bad'⟩⟩:=tk
 obtain ⟨at_,bad⟩:=r
 dsimp only at hT hbad ⊢
 cases b with
 | true =>
  rw [if_pos rfl]
  unfold rdH at hT ⊢
  dsimp only at hT ⊢
  (refine ei_ Tryz.func70 Tryz.ntmps70 Tryz.results70 fun X hX=>?_)
  refine gs_ ?_
  (refine rn_ 0 an0 fun K hK=>?_;refine rx_ an0 ?_;refine lk_ 1000 an0 (hT) ?_;refine rx_ an0 ?_;refine rwr_nil (hK _ ?_);clear hK K)
  refine au_ an0 ?_
  exact oj_ an0 (.inr rfl)
 | false =>
  rw [if_neg Bool.false_ne_true]
  have:=hbad rfl
  injection this with h1 h2
  subst h1
  subst h2
  unfold rdH at hT ⊢
  dsimp only at hT ⊢
  (refine ei_ Tryz.func70 Tryz.ntmps70 Tryz.results70 fun X hX=>?_)
  refine gs_ ?_
  (refine rn_ 0 an0 fun K hK=>?_;refine rx_ an0 ?_;refine lk_ 1000 an0 (hT) ?_;refine rx_ an0 ?_;refine rwr_nil (hK _ ?_);clear hK K)
  refine au_ an0 ?_
  exact oj_ an0 (.inr rfl)
set_option maxHeartbeats 4000000 in
theorem rname_l (l:List Vl) (hl:l.length≤4000) (en:Int) (r:RS) (hr:r.at_≤l.length) (hz:(txQ l r).size≤maxLen):SpL Tryz.prog 71 [.one (.optr 1000 0)] 69 (rdH l en r) (.one (.t true (.lit (.string (nameQ l r).1)))) (rdH l en (nameQ l r).2) 26:=by
 intro vs hlen hone
 have hT:=rtext_l l en r
 have hN:=isname_sp (txQ l r) hz
 unfold nameQ
 generalize txQ l r=u at *
 obtain ⟨at_,bad⟩:=r
 dsimp only at hr
 have e1:IntKind.i64.wrap ((at_:Int) + 1)=((at_ + 1:Nat):Int):=by rw [IntWalk.i64_in _ (by omega)];rfl
 cases hn:nameB u with
 | true =>
  rw [hn] at hN
  rw [if_pos rfl]
  unfold rdH at hT ⊢
  dsimp only at hT ⊢
  (refine ei_ Tryz.func71 Tryz.ntmps71 Tryz.results71 fun X hX=>?_)
  refine gs_ ?_
  refine au_ an0 ?_
  (refine rn_ 0 an0 fun K hK=>?_;refine rx_ an0 ?_;refine lk_ 1000 an0 (hT) ?_;refine rx_ an0 ?_;refine rwr_nil (hK _ ?_);clear hK K)
  refine au_ e1 ?_
  exact oj_ an0 (.inl rfl)
 | false =>
  rw [hn] at hN
  rw [if_neg Bool.false_ne_true]
  unfold rdH at hT ⊢
  dsimp only at hT ⊢
  (refine ei_ Tryz.func71 Tryz.ntmps71 Tryz.results71 fun X hX=>?_)
  refine gs_ ?_
  refine au_ an0 ?_
  (refine rn_ 0 an0 fun K hK=>?_;refine rx_ an0 ?_;refine lk_ 1000 an0 (hT) ?_;refine rx_ an0 ?_;refine rwr_nil (hK _ ?_);clear hK K)
  refine au_ e1 ?_
  exact oj_ an0 (.inl rfl)
end Go.Proofs.YtjdgejfhnfnmgaaGreatDoor.Ax
