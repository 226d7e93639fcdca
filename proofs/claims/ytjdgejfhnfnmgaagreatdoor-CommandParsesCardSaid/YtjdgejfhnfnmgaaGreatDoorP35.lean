/-  -/
import Derived.Test.YtjdgejfhnfnmgaaGreatDoorP20
import Derived.Test.YtjdgejfhnfnmgaaGreatDoorP25
import Derived.Test.YtjdgejfhnfnmgaaGreatDoorP22
namespace Go.Proofs.YtjdgejfhnfnmgaaGreatDoor.Ax
open Go.RowKit
set_option linter.unusedSimpArgs false
attribute [local go_sem] ty3 ty4 ty9 ty24 feq24 ty27 ty29 ty32
set_option linter.unusedVariables false
set_option maxRecDepth 100000
attribute [local go_sem] rE_mk
theorem indexE_sp (G:FuncId) (caps:List T) (p:Ex→Bool) (l:List Ex) (hl:l.length≤maxLen) (hG:∀ x ∈ l,Sp Tryz.prog G (.agg (rE x) :: caps.map A.one) (.one (.t true (.lit (.bool (p x))))) []) :
  Sp Tryz.prog 138 [.one (.sl (l.map rE)),.one (.fn G caps)] (.one (.t true (.lit (.int .i64 (placeF p l 0))))) []:=by
 unfold maxLen at hl
 (refine en_ Tryz.func138 Tryz.ntmps138 Tryz.results138 fun X hX=>?_)
 (refine go_ an0 ?_)
 refine cw_loop (fun m s=>∃ k,k≤l.length∧m=l.length - k∧placeF p (l.drop k) k=placeF p l 0∧s=⟨[(8,litI .i64 k),(7,litI .i64 l.length),(0,.one (.t false (.sl (l.map rE)))),(1,.one (.t false (.fn G caps)))],[]⟩) l.length ⟨_,⟨0,Nat.zero_le _,rfl,rfl,rfl⟩,le_⟩ ?_
 rintro m s ⟨k,hk,rfl,hf,rfl⟩
 by_cases hlt:k < l.length
 ·have e1:decide ((k:Int) < (l.length:Int))=true:=by simp;omega
  obtain ⟨x,hx⟩:∃ x,l[k]?=some x:=⟨_,List.getElem?_eq_getElem hlt⟩
  have e4:IntKind.i64.wrap ((k:Int) + 1)=((k + 1:Nat):Int):=by rw [IntWalk.i64_in _ (by omega)];rfl
  rw [drop_eq _ _ _ hx,placeF] at hf
  have hGx:=hG x (List.mem_of_getElem? hx)
  generalize hpx:p x=b at hf hGx
  obtain ⟨k',v',nm',ar'⟩:=x
  rw [rE_mk] at hGx
  (refine go_ (an2 e1 hx) ?_)
  (refine rn_ 8 (an2 e1 hx) fun K hK=>?_;refine rr_ (an2 e1 hx) ?_)
  (refine ca_ (an2 e1 hx) ?_ (hsp:=hGx);refine rr_ (an2 e1 hx) ?_)
  ((first | refine rwr_nil (hK _ ?_) | refine de_ (hK _ ?_));clear hK K)
  cases b
  ·rw [if_neg (by decide)] at hf
   (refine go_ e4 ?_)
   exact ⟨l.length - (k + 1),by omega,_,⟨k + 1,by omega,rfl,hf,rfl⟩,le_⟩
  ·rw [if_pos rfl] at hf
   rw [← hf]
   (refine go_ an0 ?_)
   (first | exact oq_ an0 | refine ou_ an0 ?_)
 ·have e1:decide ((k:Int) < (l.length:Int))=false:=by simp;omega
  rw [List.drop_eq_nil_of_le (by omega)] at hf
  rw [← hf]
  (refine go_ e1 ?_)
  (first | exact oq_ an0 | refine ou_ an0 ?_)
  try rfl
theorem containsE_sp (G:FuncId) (caps:List T) (p:Ex→Bool) (l:List Ex) (hl:l.length≤maxLen) (hG:∀ x ∈ l,Sp Tryz.prog G (.agg (rE x) :: caps.map A.one) (.one (.t true (.lit (.bool (p x))))) []) :
  Sp Tryz.prog 87 [.one (.sl (l.map rE)),.one (.fn G caps)] (.one (.t true (.lit (.bool (l.any p))))) []:=by
 have h1:=indexE_sp G caps p l hl hG
 rw [← place_any _ l 0]
 (refine en_ Tryz.func87 Tryz.ntmps87 Tryz.results87 fun X hX=>?_)
 (refine gs_ ?_)
 (refine rn_ 8 an0 fun K hK=>?_;refine rr_ an0 ?_)
 ((first | refine rwr_nil (hK _ ?_) | refine de_ (hK _ ?_));clear hK K)
 (refine gs_ ?_)
 (refine rn_ 8 an0 fun K hK=>?_;refine rr_ an0 ?_)
 (refine ca_ an0 ?_ (hsp:=h1);refine rr_ an0 ?_)
 ((first | refine rwr_nil (hK _ ?_) | refine de_ (hK _ ?_));clear hK K)
 (refine go_ an0 ?_)
 (first | exact oq_ an0 | refine ou_ an0 ?_)
attribute [local go_sem] isEd isE sameZ
theorem none_sp (e:Ex):Sp Tryz.prog 51 [.agg (rE e)] (.one (.t true (.lit (.bool (noneB e))))) []:=by
 obtain ⟨k,v,nm,ar⟩:=e
 rw [rE_mk,noneB]
 have hz:=sameZ v
 by_cases h1:k=0
 ·have e1:(k==0)=true:=by simp [h1]
  cases e2:v.same Vl.zero
  ·(refine en_ Tryz.func51 Tryz.ntmps51 Tryz.results51 fun X hX=>?_)
   (refine go_ (an2 e1 e2) ?_)
   (first | exact oq_ e1 | refine ou_ e1 ?_)
   try rfl
  ·cases e3:emptyS nm
   all_goals
    (refine en_ Tryz.func51 Tryz.ntmps51 Tryz.results51 fun X hX=>?_)
    (refine go_ (an3 e1 e2 e3) ?_)
    (first | exact oq_ e1 | refine ou_ e1 ?_)
    try simp
 ·have e1:(k==0)=false:=by simp [h1]
  (refine en_ Tryz.func51 Tryz.ntmps51 Tryz.results51 fun X hX=>?_)
  (refine go_ e1 ?_)
  (first | exact oq_ e1 | refine ou_ e1 ?_)
  try rfl
theorem noexpr_sp (e:Ex):Sp Tryz.prog 29 [.agg (rE e)] (.one (.t true (.lit (.bool (noneB e))))) []:=by
 obtain ⟨k,v,nm,ar⟩:=e
 rw [rE_mk,noneB]
 have hZ:Sp Tryz.prog 26 [.agg [.lit (.int .i64 v.k),.lit (.int .i64 v.n),.lit (.string v.s)],.agg [.lit (.int .i64 0),.lit (.int .i64 0),.lit (.string .empty)]] (.one (.t true (.lit (.bool (v.same Vl.zero))))) []:=rsame_sp v Vl.zero
 by_cases h1:k=0
 ·have e1:(k==0)=true:=by simp [h1]
  cases e3:emptyS nm
  ·(refine en_ Tryz.func29 Tryz.ntmps29 Tryz.results29 fun X hX=>?_)
   (refine go_ (an2 e1 e3) ?_)
   (first | exact oq_ e1 | refine ou_ e1 ?_)
   try simp
  ·by_cases h4:ar.length=0
   ·have e4:((ar.length:Int)==0)=true:=by simp [h4]
    (refine en_ Tryz.func29 Tryz.ntmps29 Tryz.results29 fun X hX=>?_)
    (refine gs_ ?_)
    (refine rn_ 8 an0 fun K hK=>?_;refine rr_ an0 ?_)
    ((first | refine rwr_nil (hK _ ?_) | refine de_ (hK _ ?_));clear hK K)
    (refine gs_ ?_)
    (refine rn_ 8 (an3 e1 e3 e4) fun K hK=>?_;refine rr_ (an3 e1 e3 e4) ?_)
    (refine ca_ (an3 e1 e3 e4) ?_ (hsp:=hZ);refine rr_ (an3 e1 e3 e4) ?_)
    (refine rr_ (an3 e1 e3 e4) ?_)
    ((first | refine rwr_nil (hK _ ?_) | refine de_ (hK _ ?_));clear hK K)
    (refine go_ e1 ?_)
    (first | exact oq_ e1 | refine ou_ e1 ?_)
    try simp [h4]
   ·have e4:((ar.length:Int)==0)=false:=by simp;intro h;exact h4 (by rw [h];rfl)
    (refine en_ Tryz.func29 Tryz.ntmps29 Tryz.results29 fun X hX=>?_)
    (refine go_ (an3 e1 e3 e4) ?_)
    (first | exact oq_ e1 | refine ou_ e1 ?_)
    try simp [h4]
 ·have e1:(k==0)=false:=by simp [h1]
  (refine en_ Tryz.func29 Tryz.ntmps29 Tryz.results29 fun X hX=>?_)
  (refine go_ e1 ?_)
  (first | exact oq_ e1 | refine ou_ e1 ?_)
  try rfl
end Go.Proofs.YtjdgejfhnfnmgaaGreatDoor.Ax
namespace Go.Proofs.YtjdgejfhnfnmgaaGreatDoor.Ax
open Go.RowKit
set_option linter.unusedSimpArgs false
attribute [local go_sem] ty3 ty4 ty9 ty24 feq24 ty27 ty29 ty32
set_option linter.unusedVariables false
set_option maxRecDepth 100000
theorem goodE.nm {k:Int} {v:Vl} {nm:ByteArray} {ar:List Ex} (h:goodE (.mk k v nm ar)):nm.size≤maxLen:=by
 cases h with
 | mk hk hv hn hl ha=>exact sizes_le hn
theorem expr1_sp (x:Ex) (h:Sp Tryz.prog 50 [.agg (rE x)] (.one (.t true (.lit (.bool (exprB x))))) []) :
  Sp Tryz.prog 88 (.agg (rE x) :: ([]:List T).map A.one) (.one (.t true (.lit (.bool (!exprB x))))) []:=by
 generalize exprB x=b at *
 obtain ⟨k,v,nm,ar⟩:=x
 rw [rE_mk] at h ⊢
 (refine en_ Tryz.func88 Tryz.ntmps88 Tryz.results88 fun X hX=>?_)
 (refine gs_ ?_)
 (refine rn_ 8 an0 fun K hK=>?_;refine rr_ an0 ?_)
 ((first | refine rwr_nil (hK _ ?_) | refine de_ (hK _ ?_));clear hK K)
 (refine gs_ ?_)
 (refine rn_ 8 an0 fun K hK=>?_;refine rr_ an0 ?_)
 (refine ca_ an0 ?_ (hsp:=h);refine rr_ an0 ?_)
 ((first | refine rwr_nil (hK _ ?_) | refine de_ (hK _ ?_));clear hK K)
 (refine go_ an0 ?_)
 (first | exact oq_ an0 | refine ou_ an0 ?_)
set_option maxHeartbeats 8000000 in
theorem cexpr_sp (e:Ex):goodE e→Sp Tryz.prog 50 [.agg (rE e)] (.one (.t true (.lit (.bool (exprB e))))) []:=by
 induction e using Ex.ind with
 | h k v nm ar ih =>
  intro hg
  obtain ⟨hgv,hal,hga⟩:=hg.inv
  have hP:=plain_sp k v nm ar
  have hN:=cname_sp nm hg.nm
  have hV:=vcheck_sp v (sizes_le hgv.2.2)
  have hC:=containsE_sp 88 [] (fun x=>!exprB x) ar hal (fun x hx=>expr1_sp x (ih x hx (hga x hx)))
  rw [rE_mk] at hP ⊢
  rw [exprB,exprsB_any]
  generalize plainB k v nm ar.length=pl at *
  generalize nameB nm=nb at *
  generalize ar.any (fun x=>!exprB x)=an at *
  clear ih
  cases pl
  ·rw [Bool.false_and]
   (refine en_ Tryz.func50 Tryz.ntmps50 Tryz.results50 fun X hX=>?_)
   (refine gs_ ?_)
   (refine rn_ 8 an0 fun K hK=>?_;refine rr_ an0 ?_)
   ((first | refine rwr_nil (hK _ ?_) | refine de_ (hK _ ?_));clear hK K)
   (refine gs_ ?_)
   (refine rn_ 8 an0 fun K hK=>?_;refine rr_ an0 ?_)
   (refine ca_ an0 ?_ (hsp:=hP);refine rr_ an0 ?_)
   (refine rr_ an0 ?_)
   ((first | refine rwr_nil (hK _ ?_) | refine de_ (hK _ ?_));clear hK K)
   (refine go_ an0 ?_)
   (first | exact oq_ an0 | refine ou_ an0 ?_)
  rw [Bool.true_and]
  by_cases hk2:k=2
  ·have e2:(k==2)=true:=by simp [hk2]
   rw [e2]
   cases nb
   ·(refine en_ Tryz.func50 Tryz.ntmps50 Tryz.results50 fun X hX=>?_)
    (refine gs_ ?_)
    (refine rn_ 8 an0 fun K hK=>?_;refine rr_ an0 ?_)
    ((first | refine rwr_nil (hK _ ?_) | refine de_ (hK _ ?_));clear hK K)
    (refine gs_ ?_)
    (refine rn_ 8 an0 fun K hK=>?_;refine rr_ an0 ?_)
    (refine ca_ an0 ?_ (hsp:=hP);refine rr_ an0 ?_)
    (refine rr_ e2 ?_)
    (refine ca_ e2 ?_ (hsp:=hN);refine rr_ e2 ?_)
    (refine rr_ e2 ?_)
    ((first | refine rwr_nil (hK _ ?_) | refine de_ (hK _ ?_));clear hK K)
    (refine go_ an0 ?_)
    (first | exact oq_ an0 | refine ou_ an0 ?_)
    try rfl
   by_cases hc:v.chk=0
   ·have e3:(v.chk != 0)=false:=by simp [hc]
    have e4:(v.chk==0)=true:=by simp [hc]
    rw [e4]
    (refine en_ Tryz.func50 Tryz.ntmps50 Tryz.results50 fun X hX=>?_)
    (refine gs_ ?_)
    (refine rn_ 8 an0 fun K hK=>?_;refine rr_ an0 ?_)
    ((first | refine rwr_nil (hK _ ?_) | refine de_ (hK _ ?_));clear hK K)
    (refine gs_ ?_)
    (refine rn_ 8 an0 fun K hK=>?_;refine rr_ an0 ?_)
    (refine ca_ an0 ?_ (hsp:=hP);refine rr_ an0 ?_)
    (refine rr_ e2 ?_)
    (refine ca_ e2 ?_ (hsp:=hN);refine rr_ e2 ?_)
    (refine rr_ e2 ?_)
    (refine ca_ (an2 e2 e3) ?_ (hsp:=hV);refine rr_ (an2 e2 e3) ?_)
    (refine rr_ (an2 e2 e3) ?_)
    ((first | refine rwr_nil (hK _ ?_) | refine de_ (hK _ ?_));clear hK K)
    (refine go_ an0 ?_)
    (refine rn_ 8 an0 fun K hK=>?_;refine rr_ an0 ?_)
    (refine ca_ an0 ?_ (hsp:=hC);refine rr_ an0 ?_)
    ((first | refine rwr_nil (hK _ ?_) | refine de_ (hK _ ?_));clear hK K)
    (refine go_ an0 ?_)
    (first | exact oq_ an0 | refine ou_ an0 ?_)
    try rfl
   ·have e3:(v.chk != 0)=true:=by simp [hc]
    have e4:(v.chk==0)=false:=by simp [hc]
    rw [e4]
    (refine en_ Tryz.func50 Tryz.ntmps50 Tryz.results50 fun X hX=>?_)
    (refine gs_ ?_)
    (refine rn_ 8 an0 fun K hK=>?_;refine rr_ an0 ?_)
    ((first | refine rwr_nil (hK _ ?_) | refine de_ (hK _ ?_));clear hK K)
    (refine gs_ ?_)
    (refine rn_ 8 an0 fun K hK=>?_;refine rr_ an0 ?_)
    (refine ca_ an0 ?_ (hsp:=hP);refine rr_ an0 ?_)
    (refine rr_ e2 ?_)
    (refine ca_ e2 ?_ (hsp:=hN);refine rr_ e2 ?_)
    (refine rr_ e2 ?_)
    (refine ca_ (an2 e2 e3) ?_ (hsp:=hV);refine rr_ (an2 e2 e3) ?_)
    (refine rr_ (an2 e2 e3) ?_)
    ((first | refine rwr_nil (hK _ ?_) | refine de_ (hK _ ?_));clear hK K)
    (refine go_ an0 ?_)
    (first | exact oq_ an0 | refine ou_ an0 ?_)
    try rfl
  ·have e2:(k==2)=false:=by simp [hk2]
   rw [e2]
   by_cases hc:v.chk=0
   ·have e3:(v.chk != 0)=false:=by simp [hc]
    have e4:(v.chk==0)=true:=by simp [hc]
    rw [e4]
    (refine en_ Tryz.func50 Tryz.ntmps50 Tryz.results50 fun X hX=>?_)
    (refine gs_ ?_)
    (refine rn_ 8 an0 fun K hK=>?_;refine rr_ an0 ?_)
    ((first | refine rwr_nil (hK _ ?_) | refine de_ (hK _ ?_));clear hK K)
    (refine gs_ ?_)
    (refine rn_ 8 an0 fun K hK=>?_;refine rr_ an0 ?_)
    (refine ca_ an0 ?_ (hsp:=hP);refine rr_ an0 ?_)
    (refine rr_ e2 ?_)
    (refine ca_ (an2 e2 e3) ?_ (hsp:=hV);refine rr_ (an2 e2 e3) ?_)
    (refine rr_ (an2 e2 e3) ?_)
    ((first | refine rwr_nil (hK _ ?_) | refine de_ (hK _ ?_));clear hK K)
    (refine go_ an0 ?_)
    (refine rn_ 8 an0 fun K hK=>?_;refine rr_ an0 ?_)
    (refine ca_ an0 ?_ (hsp:=hC);refine rr_ an0 ?_)
    ((first | refine rwr_nil (hK _ ?_) | refine de_ (hK _ ?_));clear hK K)
    (refine go_ an0 ?_)
    (first | exact oq_ an0 | refine ou_ an0 ?_)
    try rfl
   ·have e3:(v.chk != 0)=true:=by simp [hc]
    have e4:(v.chk==0)=false:=by simp [hc]
    rw [e4]
    (refine en_ Tryz.func50 Tryz.ntmps50 Tryz.results50 fun X hX=>?_)
    (refine gs_ ?_)
    (refine rn_ 8 an0 fun K hK=>?_;refine rr_ an0 ?_)
    ((first | refine rwr_nil (hK _ ?_) | refine de_ (hK _ ?_));clear hK K)
    (refine gs_ ?_)
    (refine rn_ 8 an0 fun K hK=>?_;refine rr_ an0 ?_)
    (refine ca_ an0 ?_ (hsp:=hP);refine rr_ an0 ?_)
    (refine rr_ e2 ?_)
    (refine ca_ (an2 e2 e3) ?_ (hsp:=hV);refine rr_ (an2 e2 e3) ?_)
    (refine rr_ (an2 e2 e3) ?_)
    ((first | refine rwr_nil (hK _ ?_) | refine de_ (hK _ ?_));clear hK K)
    (refine go_ an0 ?_)
    (first | exact oq_ an0 | refine ou_ an0 ?_)
    try rfl
attribute [local go_sem] rE_mk
set_option maxHeartbeats 8000000 in
theorem isexpr_sp (e:Ex):goodE e→Sp Tryz.prog 28 [.agg (rE e)] (.one (.t true (.lit (.bool (exprB e))))) []:=by
 induction e using Ex.ind with
 | h k v nm ar ih =>
  intro hg
  obtain ⟨hgv,hal,hga⟩:=hg.inv
  unfold maxLen at hal
  have hP:=plainexpr_sp k v nm ar
  have hN:=isname_sp nm hg.nm
  have hV:=rcheck_sp v (sizes_le hgv.2.2)
  rw [rE_mk] at hP ⊢
  rw [exprB,exprsB_any]
  generalize plainB k v nm ar.length=pl at *
  generalize nameB nm=nb at *
  cases pl
  ·rw [Bool.false_and]
   (refine en_ Tryz.func28 Tryz.ntmps28 Tryz.results28 fun X hX=>?_)
   (refine gs_ ?_)
   (refine rn_ 8 an0 fun K hK=>?_;refine rr_ an0 ?_)
   ((first | refine rwr_nil (hK _ ?_) | refine de_ (hK _ ?_));clear hK K)
   (refine gs_ ?_)
   (refine rn_ 8 an0 fun K hK=>?_;refine rr_ an0 ?_)
   (refine ca_ an0 ?_ (hsp:=hP);refine rr_ an0 ?_)
   (refine rr_ an0 ?_)
   ((first | refine rwr_nil (hK _ ?_) | refine de_ (hK _ ?_));clear hK K)
   (refine go_ an0 ?_)
   (first | exact oq_ an0 | refine ou_ an0 ?_)
  rw [Bool.true_and]
  by_cases hb:k=2∧nb=false
  ·obtain ⟨hk2,rfl⟩:=hb
   have e2:(k==2)=true:=by simp [hk2]
   rw [e2]
   (refine en_ Tryz.func28 Tryz.ntmps28 Tryz.results28 fun X hX=>?_)
   (refine gs_ ?_)
   (refine rn_ 8 an0 fun K hK=>?_;refine rr_ an0 ?_)
   ((first | refine rwr_nil (hK _ ?_) | refine de_ (hK _ ?_));clear hK K)
   (refine gs_ ?_)
   (refine rn_ 8 an0 fun K hK=>?_;refine rr_ an0 ?_)
   (refine ca_ an0 ?_ (hsp:=hP);refine rr_ an0 ?_)
   (refine rr_ e2 ?_)
   (refine ca_ e2 ?_ (hsp:=hN);refine rr_ e2 ?_)
   (refine rr_ e2 ?_)
   ((first | refine rwr_nil (hK _ ?_) | refine de_ (hK _ ?_));clear hK K)
   (refine go_ an0 ?_)
   (first | exact oq_ an0 | refine ou_ an0 ?_)
   try rfl
  have hq:(k=2∧nb=true) ∨ ¬ k=2:=by
   by_cases h:k=2
   ·exact .inl ⟨h,by cases nb;exact absurd ⟨h,rfl⟩ hb;rfl⟩
   ·exact .inr h
  have hr:(!(k==2) || nb)=true:=by
   rcases hq with ⟨rfl,rfl⟩ | h
   ·rfl
   ·simp [h]
  rw [hr,Bool.true_and]
  by_cases hc:v.chk=0
  ·have e3:(v.chk != 0)=false:=by simp [hc]
   have e4:(v.chk==0)=true:=by simp [hc]
   rw [e4,Bool.true_and]
   rcases hq with ⟨hk2,rfl⟩ | hk2
   ·have e2:(k==2)=true:=by simp [hk2]
    (refine en_ Tryz.func28 Tryz.ntmps28 Tryz.results28 fun X hX=>?_)
    (refine gs_ ?_)
    (refine rn_ 8 an0 fun K hK=>?_;refine rr_ an0 ?_)
    ((first | refine rwr_nil (hK _ ?_) | refine de_ (hK _ ?_));clear hK K)
    (refine gs_ ?_)
    (refine rn_ 8 an0 fun K hK=>?_;refine rr_ an0 ?_)
    (refine ca_ an0 ?_ (hsp:=hP);refine rr_ an0 ?_)
    (refine rr_ e2 ?_)
    (refine ca_ e2 ?_ (hsp:=hN);refine rr_ e2 ?_)
    (refine rr_ e2 ?_)
    (refine ca_ (an2 e2 e3) ?_ (hsp:=hV);refine rr_ (an2 e2 e3) ?_)
    (refine rr_ (an2 e2 e3) ?_)
    ((first | refine rwr_nil (hK _ ?_) | refine de_ (hK _ ?_));clear hK K)
    (refine go_ an0 ?_)
    refine cw_loop (fun m s=>∃ i:Nat,i≤ar.length∧m=ar.length - i∧(ar.drop i).any (fun x=>!exprB x)=ar.any (fun x=>!exprB x)∧s=⟨[(3,litI .i64 i),(1,.one (.optr 1 0))],[(1,.var 29 [.t false (.lit (.int .i64 k)),.t false (.lit (.int .i64 v.k)),.t false (.lit (.int .i64 v.n)),.t false (.lit (.string v.s)),.t false (.lit (.string nm)),.t false (.sl (ar.map rE))])]⟩) ar.length ⟨_,⟨0,Nat.zero_le _,rfl,rfl,rfl⟩,le_⟩ ?_
    rintro m s ⟨i,hi,rfl,hf,rfl⟩
    by_cases hlt:i < ar.length
    ·have f1:decide ((i:Int) < (ar.length:Int))=true:=by simp;omega
     obtain ⟨x,hx⟩:∃ x,ar[i]?=some x:=⟨_,List.getElem?_eq_getElem hlt⟩
     have f2:IntKind.i64.wrap ((i:Int) + 1)=((i + 1:Nat):Int):=by rw [IntWalk.i64_in _ (by omega)];rfl
     have ih1:=ih x (List.mem_of_getElem? hx) (hga x (List.mem_of_getElem? hx))
     rw [any_drop _ hx] at hf
     generalize exprB x=b at *
     obtain ⟨k',v',nm',ar'⟩:=x
     rw [rE_mk] at ih1
     (refine go_ f1 ?_)
     (refine rn_ 8 (an2 f1 hx) fun K hK=>?_;refine rr_ (an2 f1 hx) ?_)
     (refine ca_ f1 ?_ (hsp:=ih1);refine rr_ f1 ?_)
     ((first | refine rwr_nil (hK _ ?_) | refine de_ (hK _ ?_));clear hK K)
     cases b
     ·rw [← hf]
      (refine go_ an0 ?_)
      (first | exact oq_ an0 | refine ou_ an0 ?_)
      try rfl
     ·rw [Bool.not_true,Bool.false_or] at hf
      (refine go_ f2 ?_)
      exact ⟨ar.length - (i + 1),by omega,_,⟨i + 1,by omega,rfl,hf,rfl⟩,le_⟩
    ·have f1:decide ((i:Int) < (ar.length:Int))=false:=by simp;omega
     rw [List.drop_eq_nil_of_le (by omega)] at hf
     rw [← hf]
     (refine go_ f1 ?_)
     (first | exact oq_ an0 | refine ou_ an0 ?_)
     try rfl
   ·have e2:(k==2)=false:=by simp [hk2]
    (refine en_ Tryz.func28 Tryz.ntmps28 Tryz.results28 fun X hX=>?_)
    (refine gs_ ?_)
    (refine rn_ 8 an0 fun K hK=>?_;refine rr_ an0 ?_)
    ((first | refine rwr_nil (hK _ ?_) | refine de_ (hK _ ?_));clear hK K)
    (refine gs_ ?_)
    (refine rn_ 8 an0 fun K hK=>?_;refine rr_ an0 ?_)
    (refine ca_ an0 ?_ (hsp:=hP);refine rr_ an0 ?_)
    (refine rr_ e2 ?_)
    (refine ca_ (an2 e2 e3) ?_ (hsp:=hV);refine rr_ (an2 e2 e3) ?_)
    (refine rr_ (an2 e2 e3) ?_)
    ((first | refine rwr_nil (hK _ ?_) | refine de_ (hK _ ?_));clear hK K)
    (refine go_ an0 ?_)
    refine cw_loop (fun m s=>∃ i:Nat,i≤ar.length∧m=ar.length - i∧(ar.drop i).any (fun x=>!exprB x)=ar.any (fun x=>!exprB x)∧s=⟨[(3,litI .i64 i),(1,.one (.optr 1 0))],[(1,.var 29 [.t false (.lit (.int .i64 k)),.t false (.lit (.int .i64 v.k)),.t false (.lit (.int .i64 v.n)),.t false (.lit (.string v.s)),.t false (.lit (.string nm)),.t false (.sl (ar.map rE))])]⟩) ar.length ⟨_,⟨0,Nat.zero_le _,rfl,rfl,rfl⟩,le_⟩ ?_
    rintro m s ⟨i,hi,rfl,hf,rfl⟩
    by_cases hlt:i < ar.length
    ·have f1:decide ((i:Int) < (ar.length:Int))=true:=by simp;omega
     obtain ⟨x,hx⟩:∃ x,ar[i]?=some x:=⟨_,List.getElem?_eq_getElem hlt⟩
     have f2:IntKind.i64.wrap ((i:Int) + 1)=((i + 1:Nat):Int):=by rw [IntWalk.i64_in _ (by omega)];rfl
     have ih1:=ih x (List.mem_of_getElem? hx) (hga x (List.mem_of_getElem? hx))
     rw [any_drop _ hx] at hf
     generalize exprB x=b at *
     obtain ⟨k',v',nm',ar'⟩:=x
     rw [rE_mk] at ih1
     (refine go_ f1 ?_)
     (refine rn_ 8 (an2 f1 hx) fun K hK=>?_;refine rr_ (an2 f1 hx) ?_)
     (refine ca_ f1 ?_ (hsp:=ih1);refine rr_ f1 ?_)
     ((first | refine rwr_nil (hK _ ?_) | refine de_ (hK _ ?_));clear hK K)
     cases b
     ·rw [← hf]
      (refine go_ an0 ?_)
      (first | exact oq_ an0 | refine ou_ an0 ?_)
      try rfl
     ·rw [Bool.not_true,Bool.false_or] at hf
      (refine go_ f2 ?_)
      exact ⟨ar.length - (i + 1),by omega,_,⟨i + 1,by omega,rfl,hf,rfl⟩,le_⟩
    ·have f1:decide ((i:Int) < (ar.length:Int))=false:=by simp;omega
     rw [List.drop_eq_nil_of_le (by omega)] at hf
     rw [← hf]
     (refine go_ f1 ?_)
     (first | exact oq_ an0 | refine ou_ an0 ?_)
     try rfl
  ·have e3:(v.chk != 0)=true:=by simp [hc]
   have e4:(v.chk==0)=false:=by simp [hc]
   rw [e4,Bool.false_and]
   rcases hq with ⟨hk2,rfl⟩ | hk2
   ·have e2:(k==2)=true:=by simp [hk2]
    (refine en_ Tryz.func28 Tryz.ntmps28 Tryz.results28 fun X hX=>?_)
    (refine gs_ ?_)
    (refine rn_ 8 an0 fun K hK=>?_;refine rr_ an0 ?_)
    ((first | refine rwr_nil (hK _ ?_) | refine de_ (hK _ ?_));clear hK K)
    (refine gs_ ?_)
    (refine rn_ 8 an0 fun K hK=>?_;refine rr_ an0 ?_)
    (refine ca_ an0 ?_ (hsp:=hP);refine rr_ an0 ?_)
    (refine rr_ e2 ?_)
    (refine ca_ e2 ?_ (hsp:=hN);refine rr_ e2 ?_)
    (refine rr_ e2 ?_)
    (refine ca_ (an2 e2 e3) ?_ (hsp:=hV);refine rr_ (an2 e2 e3) ?_)
    (refine rr_ (an2 e2 e3) ?_)
    ((first | refine rwr_nil (hK _ ?_) | refine de_ (hK _ ?_));clear hK K)
    (refine go_ an0 ?_)
    (first | exact oq_ an0 | refine ou_ an0 ?_)
   ·have e2:(k==2)=false:=by simp [hk2]
    (refine en_ Tryz.func28 Tryz.ntmps28 Tryz.results28 fun X hX=>?_)
    (refine gs_ ?_)
    (refine rn_ 8 an0 fun K hK=>?_;refine rr_ an0 ?_)
    ((first | refine rwr_nil (hK _ ?_) | refine de_ (hK _ ?_));clear hK K)
    (refine gs_ ?_)
    (refine rn_ 8 an0 fun K hK=>?_;refine rr_ an0 ?_)
    (refine ca_ an0 ?_ (hsp:=hP);refine rr_ an0 ?_)
    (refine rr_ e2 ?_)
    (refine ca_ (an2 e2 e3) ?_ (hsp:=hV);refine rr_ (an2 e2 e3) ?_)
    (refine rr_ (an2 e2 e3) ?_)
    ((first | refine rwr_nil (hK _ ?_) | refine de_ (hK _ ?_));clear hK K)
    (refine go_ an0 ?_)
    (first | exact oq_ an0 | refine ou_ an0 ?_)
end Go.Proofs.YtjdgejfhnfnmgaaGreatDoor.Ax
namespace Go.Proofs.YtjdgejfhnfnmgaaGreatDoor.Ax
open Go.RowKit
set_option linter.unusedSimpArgs false
attribute [local go_sem] ty3 ty4 ty9 ty24 ty25 ty54 ty22 ty26 ty27 ty29 ty32
set_option linter.unusedVariables false
set_option maxRecDepth 100000
theorem indexCo_sp (G:FuncId) (caps:List T) (p:Col→Bool) (l:List Col) (hl:l.length≤maxLen) (hG:∀ x ∈ l,Sp Tryz.prog G (.agg (rC1 x) :: caps.map A.one) (.one (.t true (.lit (.bool (p x))))) []) :
  Sp Tryz.prog 158 [.one (.sl (rCs l)),.one (.fn G caps)] (.one (.t true (.lit (.int .i64 (placeF p l 0))))) []:=by
 unfold maxLen at hl
 (refine en_ Tryz.func158 Tryz.ntmps158 Tryz.results158 fun X hX=>?_)
 (refine go_ an0 ?_)
 refine cw_loop (fun m s=>∃ k,k≤l.length∧m=l.length - k∧placeF p (l.drop k) k=placeF p l 0∧s=⟨[(8,litI .i64 k),(7,litI .i64 l.length),(0,.one (.t false (.sl (rCs l)))),(1,.one (.t false (.fn G caps)))],[]⟩) l.length ⟨_,⟨0,Nat.zero_le _,rfl,rfl,rfl⟩,le_⟩ ?_
 rintro m s ⟨k,hk,rfl,hf,rfl⟩
 by_cases hlt:k < l.length
 ·have e1:decide ((k:Int) < (l.length:Int))=true:=by simp;omega
  obtain ⟨x,hx⟩:∃ x,l[k]?=some x:=⟨_,List.getElem?_eq_getElem hlt⟩
  have e4:IntKind.i64.wrap ((k:Int) + 1)=((k + 1:Nat):Int):=by rw [IntWalk.i64_in _ (by omega)];rfl
  have j2:(k:Int) < (l.length:Int):=by omega
  have j3:(0:Int)≤(k:Int):=by omega
  rw [drop_eq _ _ _ hx,placeF] at hf
  have hGx:=hG x (List.mem_of_getElem? hx)
  generalize hpx:p x=b at hf hGx
  (refine go_ (an2 e1 hx) ?_)
  (refine rn_ 8 (an5 e1 hx hlt j2 j3) fun K hK=>?_;refine rr_ (an5 e1 hx hlt j2 j3) ?_)
  (refine ca_ (an2 e1 hx) ?_ (hsp:=hGx);refine rr_ (an2 e1 hx) ?_)
  ((first | refine rwr_nil (hK _ ?_) | refine de_ (hK _ ?_));clear hK K)
  cases b
  ·rw [if_neg (by decide)] at hf
   (refine go_ e4 ?_)
   exact ⟨l.length - (k + 1),by omega,_,⟨k + 1,by omega,rfl,hf,rfl⟩,le_⟩
  ·rw [if_pos rfl] at hf
   rw [← hf]
   (refine go_ an0 ?_)
   (first | exact oq_ an0 | refine ou_ an0 ?_)
 ·have e1:decide ((k:Int) < (l.length:Int))=false:=by simp;omega
  rw [List.drop_eq_nil_of_le (by omega)] at hf
  rw [← hf]
  (refine go_ e1 ?_)
  (first | exact oq_ an0 | refine ou_ an0 ?_)
  try rfl
theorem containsCo_sp (G:FuncId) (caps:List T) (p:Col→Bool) (l:List Col) (hl:l.length≤maxLen) (hG:∀ x ∈ l,Sp Tryz.prog G (.agg (rC1 x) :: caps.map A.one) (.one (.t true (.lit (.bool (p x))))) []) :
  Sp Tryz.prog 133 [.one (.sl (rCs l)),.one (.fn G caps)] (.one (.t true (.lit (.bool (l.any p))))) []:=by
 have h1:=indexCo_sp G caps p l hl hG
 rw [← place_any _ l 0]
 (refine en_ Tryz.func133 Tryz.ntmps133 Tryz.results133 fun X hX=>?_)
 (refine gs_ ?_)
 (refine rn_ 8 an0 fun K hK=>?_;refine rr_ an0 ?_)
 ((first | refine rwr_nil (hK _ ?_) | refine de_ (hK _ ?_));clear hK K)
 (refine gs_ ?_)
 (refine rn_ 8 an0 fun K hK=>?_;refine rr_ an0 ?_)
 (refine ca_ an0 ?_ (hsp:=h1);refine rr_ an0 ?_)
 ((first | refine rwr_nil (hK _ ?_) | refine de_ (hK _ ?_));clear hK K)
 (refine go_ an0 ?_)
 (first | exact oq_ an0 | refine ou_ an0 ?_)
theorem indexVa_sp (G:FuncId) (caps:List T) (p:Vl→Bool) (l:List Vl) (hl:l.length≤maxLen) (hG:∀ x ∈ l,Sp Tryz.prog G (.agg (rV1 x) :: caps.map A.one) (.one (.t true (.lit (.bool (p x))))) []) :
  Sp Tryz.prog 135 [.one (.sl (rVs l)),.one (.fn G caps)] (.one (.t true (.lit (.int .i64 (placeF p l 0))))) []:=by
 unfold maxLen at hl
 (refine en_ Tryz.func135 Tryz.ntmps135 Tryz.results135 fun X hX=>?_)
 (refine go_ an0 ?_)
 refine cw_loop (fun m s=>∃ k,k≤l.length∧m=l.length - k∧placeF p (l.drop k) k=placeF p l 0∧s=⟨[(8,litI .i64 k),(7,litI .i64 l.length),(0,.one (.t false (.sl (rVs l)))),(1,.one (.t false (.fn G caps)))],[]⟩) l.length ⟨_,⟨0,Nat.zero_le _,rfl,rfl,rfl⟩,le_⟩ ?_
 rintro m s ⟨k,hk,rfl,hf,rfl⟩
 by_cases hlt:k < l.length
 ·have e1:decide ((k:Int) < (l.length:Int))=true:=by simp;omega
  obtain ⟨x,hx⟩:∃ x,l[k]?=some x:=⟨_,List.getElem?_eq_getElem hlt⟩
  have e4:IntKind.i64.wrap ((k:Int) + 1)=((k + 1:Nat):Int):=by rw [IntWalk.i64_in _ (by omega)];rfl
  have j2:(k:Int) < (l.length:Int):=by omega
  have j3:(0:Int)≤(k:Int):=by omega
  rw [drop_eq _ _ _ hx,placeF] at hf
  have hGx:=hG x (List.mem_of_getElem? hx)
  generalize hpx:p x=b at hf hGx
  (refine go_ (an2 e1 hx) ?_)
  (refine rn_ 8 (an5 e1 hx hlt j2 j3) fun K hK=>?_;refine rr_ (an5 e1 hx hlt j2 j3) ?_)
  (refine ca_ (an2 e1 hx) ?_ (hsp:=hGx);refine rr_ (an2 e1 hx) ?_)
  ((first | refine rwr_nil (hK _ ?_) | refine de_ (hK _ ?_));clear hK K)
  cases b
  ·rw [if_neg (by decide)] at hf
   (refine go_ e4 ?_)
   exact ⟨l.length - (k + 1),by omega,_,⟨k + 1,by omega,rfl,hf,rfl⟩,le_⟩
  ·rw [if_pos rfl] at hf
   rw [← hf]
   (refine go_ an0 ?_)
   (first | exact oq_ an0 | refine ou_ an0 ?_)
 ·have e1:decide ((k:Int) < (l.length:Int))=false:=by simp;omega
  rw [List.drop_eq_nil_of_le (by omega)] at hf
  rw [← hf]
  (refine go_ e1 ?_)
  (first | exact oq_ an0 | refine ou_ an0 ?_)
  try rfl
theorem containsVa_sp (G:FuncId) (caps:List T) (p:Vl→Bool) (l:List Vl) (hl:l.length≤maxLen) (hG:∀ x ∈ l,Sp Tryz.prog G (.agg (rV1 x) :: caps.map A.one) (.one (.t true (.lit (.bool (p x))))) []) :
  Sp Tryz.prog 83 [.one (.sl (rVs l)),.one (.fn G caps)] (.one (.t true (.lit (.bool (l.any p))))) []:=by
 have h1:=indexVa_sp G caps p l hl hG
 rw [← place_any _ l 0]
 (refine en_ Tryz.func83 Tryz.ntmps83 Tryz.results83 fun X hX=>?_)
 (refine gs_ ?_)
 (refine rn_ 8 an0 fun K hK=>?_;refine rr_ an0 ?_)
 ((first | refine rwr_nil (hK _ ?_) | refine de_ (hK _ ?_));clear hK K)
 (refine gs_ ?_)
 (refine rn_ 8 an0 fun K hK=>?_;refine rr_ an0 ?_)
 (refine ca_ an0 ?_ (hsp:=h1);refine rr_ an0 ?_)
 ((first | refine rwr_nil (hK _ ?_) | refine de_ (hK _ ?_));clear hK K)
 (refine go_ an0 ?_)
 (first | exact oq_ an0 | refine ou_ an0 ?_)
theorem indexSt_sp (G:FuncId) (caps:List T) (p:ByteArray→Bool) (l:List ByteArray) (hl:l.length≤maxLen) (hG:∀ x ∈ l,Sp Tryz.prog G (.one (.lit (.string x)) :: caps.map A.one) (.one (.t true (.lit (.bool (p x))))) []) :
  Sp Tryz.prog 136 [.one (.sl (rS l)),.one (.fn G caps)] (.one (.t true (.lit (.int .i64 (placeF p l 0))))) []:=by
 unfold maxLen at hl
 (refine en_ Tryz.func136 Tryz.ntmps136 Tryz.results136 fun X hX=>?_)
 (refine go_ an0 ?_)
 refine cw_loop (fun m s=>∃ k,k≤l.length∧m=l.length - k∧placeF p (l.drop k) k=placeF p l 0∧s=⟨[(8,litI .i64 k),(7,litI .i64 l.length),(0,.one (.t false (.sl (rS l)))),(1,.one (.t false (.fn G caps)))],[]⟩) l.length ⟨_,⟨0,Nat.zero_le _,rfl,rfl,rfl⟩,le_⟩ ?_
 rintro m s ⟨k,hk,rfl,hf,rfl⟩
 by_cases hlt:k < l.length
 ·have e1:decide ((k:Int) < (l.length:Int))=true:=by simp;omega
  obtain ⟨x,hx⟩:∃ x,l[k]?=some x:=⟨_,List.getElem?_eq_getElem hlt⟩
  have e4:IntKind.i64.wrap ((k:Int) + 1)=((k + 1:Nat):Int):=by rw [IntWalk.i64_in _ (by omega)];rfl
  have j2:(k:Int) < (l.length:Int):=by omega
  have j3:(0:Int)≤(k:Int):=by omega
  rw [drop_eq _ _ _ hx,placeF] at hf
  have hGx:=hG x (List.mem_of_getElem? hx)
  generalize hpx:p x=b at hf hGx
  (refine go_ (an2 e1 hx) ?_)
  (refine rn_ 8 (an5 e1 hx hlt j2 j3) fun K hK=>?_;refine rr_ (an5 e1 hx hlt j2 j3) ?_)
  (refine ca_ (an2 e1 hx) ?_ (hsp:=hGx);refine rr_ (an2 e1 hx) ?_)
  ((first | refine rwr_nil (hK _ ?_) | refine de_ (hK _ ?_));clear hK K)
  cases b
  ·rw [if_neg (by decide)] at hf
   (refine go_ e4 ?_)
   exact ⟨l.length - (k + 1),by omega,_,⟨k + 1,by omega,rfl,hf,rfl⟩,le_⟩
  ·rw [if_pos rfl] at hf
   rw [← hf]
   (refine go_ an0 ?_)
   (first | exact oq_ an0 | refine ou_ an0 ?_)
 ·have e1:decide ((k:Int) < (l.length:Int))=false:=by simp;omega
  rw [List.drop_eq_nil_of_le (by omega)] at hf
  rw [← hf]
  (refine go_ e1 ?_)
  (first | exact oq_ an0 | refine ou_ an0 ?_)
  try rfl
theorem containsSt_sp (G:FuncId) (caps:List T) (p:ByteArray→Bool) (l:List ByteArray) (hl:l.length≤maxLen) (hG:∀ x ∈ l,Sp Tryz.prog G (.one (.lit (.string x)) :: caps.map A.one) (.one (.t true (.lit (.bool (p x))))) []) :
  Sp Tryz.prog 84 [.one (.sl (rS l)),.one (.fn G caps)] (.one (.t true (.lit (.bool (l.any p))))) []:=by
 have h1:=indexSt_sp G caps p l hl hG
 rw [← place_any _ l 0]
 (refine en_ Tryz.func84 Tryz.ntmps84 Tryz.results84 fun X hX=>?_)
 (refine gs_ ?_)
 (refine rn_ 8 an0 fun K hK=>?_;refine rr_ an0 ?_)
 ((first | refine rwr_nil (hK _ ?_) | refine de_ (hK _ ?_));clear hK K)
 (refine gs_ ?_)
 (refine rn_ 8 an0 fun K hK=>?_;refine rr_ an0 ?_)
 (refine ca_ an0 ?_ (hsp:=h1);refine rr_ an0 ?_)
 ((first | refine rwr_nil (hK _ ?_) | refine de_ (hK _ ?_));clear hK K)
 (refine go_ an0 ?_)
 (first | exact oq_ an0 | refine ou_ an0 ?_)
def badCol (c:Col):Bool:=!(nameB c.name) || !(decide (1≤c.ty) && decide (c.ty≤3))
theorem columns1_sp (c:Col) (hs:c.name.size≤maxLen):Sp Tryz.prog 134 (.agg (rC1 c) :: ([]:List T).map A.one) (.one (.t true (.lit (.bool (badCol c))))) []:=by
 have h1:=cname_sp c.name hs
 have h2:=vtype_sp c.ty
 unfold badCol
 generalize nameB c.name=b at *
 cases b
 ·(refine en_ Tryz.func134 Tryz.ntmps134 Tryz.results134 fun X hX=>?_)
  (refine gs_ ?_)
  (refine rn_ 8 an0 fun K hK=>?_;refine rr_ an0 ?_)
  ((first | refine rwr_nil (hK _ ?_) | refine de_ (hK _ ?_));clear hK K)
  (refine gs_ ?_)
  (refine rn_ 8 an0 fun K hK=>?_;refine rr_ an0 ?_)
  (refine ca_ an0 ?_ (hsp:=h1);refine rr_ an0 ?_)
  (refine rr_ an0 ?_)
  ((first | refine rwr_nil (hK _ ?_) | refine de_ (hK _ ?_));clear hK K)
  (refine go_ an0 ?_)
  (first | exact oq_ an0 | refine ou_ an0 ?_)
  try rfl
 ·(refine en_ Tryz.func134 Tryz.ntmps134 Tryz.results134 fun X hX=>?_)
  (refine gs_ ?_)
  (refine rn_ 8 an0 fun K hK=>?_;refine rr_ an0 ?_)
  ((first | refine rwr_nil (hK _ ?_) | refine de_ (hK _ ?_));clear hK K)
  (refine gs_ ?_)
  (refine rn_ 8 an0 fun K hK=>?_;refine rr_ an0 ?_)
  (refine ca_ an0 ?_ (hsp:=h1);refine rr_ an0 ?_)
  (refine rr_ an0 ?_)
  (refine ca_ an0 ?_ (hsp:=h2);refine rr_ an0 ?_)
  (refine rr_ an0 ?_)
  ((first | refine rwr_nil (hK _ ?_) | refine de_ (hK _ ?_));clear hK K)
  (refine go_ an0 ?_)
  (first | exact oq_ an0 | refine ou_ an0 ?_)
  try rfl
theorem columns_sp (l:List Col) (hl:l.length≤maxLen) (hs:∀ c ∈ l,c.name.size≤maxLen):Sp Tryz.prog 82 [.one (.sl (rCs l))] (.one (.t true (.lit (.bool (!l.any badCol))))) []:=by
 have h1:=containsCo_sp 134 [] badCol l hl (fun x hx=>columns1_sp x (hs x hx))
 (refine en_ Tryz.func82 Tryz.ntmps82 Tryz.results82 fun X hX=>?_)
 (refine gs_ ?_)
 (refine rn_ 8 an0 fun K hK=>?_;refine rr_ an0 ?_)
 ((first | refine rwr_nil (hK _ ?_) | refine de_ (hK _ ?_));clear hK K)
 (refine gs_ ?_)
 (refine rn_ 8 an0 fun K hK=>?_;refine rr_ an0 ?_)
 (refine ca_ an0 ?_ (hsp:=h1);refine rr_ an0 ?_)
 ((first | refine rwr_nil (hK _ ?_) | refine de_ (hK _ ?_));clear hK K)
 (refine go_ an0 ?_)
 (first | exact oq_ an0 | refine ou_ an0 ?_)
attribute [local go_sem] isE
theorem named_sp (s:ByteArray) (hs:s.size≤maxLen) (b:Bool):Sp Tryz.prog 46 [.one (.lit (.string s)),.one (.lit (.bool b))] (.one (.t true (.lit (.bool (namedB s b))))) []:=by
 have h1:=cname_sp s hs
 unfold namedB
 cases b
 ·rw [if_neg (by decide)]
  (refine en_ Tryz.func46 Tryz.ntmps46 Tryz.results46 fun X hX=>?_)
  (refine go_ an0 ?_)
  (first | exact oq_ an0 | refine ou_ an0 ?_)
 ·rw [if_pos rfl]
  generalize nameB s=nb at *
  cases nb
  all_goals
   (refine en_ Tryz.func46 Tryz.ntmps46 Tryz.results46 fun X hX=>?_)
   (refine gs_ ?_)
   (refine rn_ 8 an0 fun K hK=>?_;refine rr_ an0 ?_)
   ((first | refine rwr_nil (hK _ ?_) | refine de_ (hK _ ?_));clear hK K)
   (refine gs_ ?_)
   (refine rn_ 8 an0 fun K hK=>?_;refine rr_ an0 ?_)
   (refine ca_ an0 ?_ (hsp:=h1);refine rr_ an0 ?_)
   (refine rr_ an0 ?_)
   ((first | refine rwr_nil (hK _ ?_) | refine de_ (hK _ ?_));clear hK K)
   (refine go_ an0 ?_)
   (first | exact oq_ an0 | refine ou_ an0 ?_)
theorem great_sp (e:Ex):Sp Tryz.prog 44 [.agg (rE e)] (.one (.t true (.lit (.bool (decide (15 < sizeE e 15)))))) []:=by
 have h1:=size_sp e 15 (by decide) (by decide)
 generalize sizeE e 15=n at *
 obtain ⟨k,v,nm,ar⟩:=e
 rw [rE_mk] at h1 ⊢
 (refine en_ Tryz.func44 Tryz.ntmps44 Tryz.results44 fun X hX=>?_)
 (refine gs_ ?_)
 (refine rn_ 8 an0 fun K hK=>?_;refine rr_ an0 ?_)
 ((first | refine rwr_nil (hK _ ?_) | refine de_ (hK _ ?_));clear hK K)
 (refine gs_ ?_)
 (refine rn_ 8 an0 fun K hK=>?_;refine rr_ an0 ?_)
 (refine ca_ an0 ?_ (hsp:=h1);refine rr_ an0 ?_)
 ((first | refine rwr_nil (hK _ ?_) | refine de_ (hK _ ?_));clear hK K)
 (refine go_ an0 ?_)
 (first | exact oq_ an0 | refine ou_ an0 ?_)
end Go.Proofs.YtjdgejfhnfnmgaaGreatDoor.Ax
