/-  -/
import Derived.Test.YtjdgejfhnfnmgaaGreatDoorS19
import Derived.Test.YtjdgejfhnfnmgaaGreatDoorS21
namespace Go.Proofs.YtjdgejfhnfnmgaaGreatDoor.Ax
open Go.RowKit
set_option linter.unusedSimpArgs false
attribute [local go_sem] ty3 ty4 ty9 ty24 ty25 ty54 ty22 ty26 ty27 ty29 ty32
set_option linter.unusedVariables false
set_option maxRecDepth 100000
theorem indexCo_sp (G:FuncId) (caps:List T) (p:Col→Bool) (l:List Col) (hl:l.length≤maxLen) (hG:∀ x ∈ l,Sp Tryz.prog G (.agg (rC1 x) :: caps.map A.one) (.one (.t true (.lit (.bool (p x))))) []) :
  Sp Tryz.prog 158 [.one (.sl (rCs l)),.one (.fn G caps)] (.one (.t true (.lit (.int .i64 (placeF p l 0))))) []:=by
 unfold maxLen at hl
 (refine en_ Tryz.func158 Tryz.ntmps158 Tryz.results158 fun X hX=>?_)
 (refine go_ an0 ?_)
 refine cw_loop (fun m s=>∃ k,k≤l.length∧m=l.length - k∧placeF p (l.drop k) k=placeF p l 0∧s=⟨[(8,litI .i64 k),(7,litI .i64 l.length),(0,.one (.t false (.sl (rCs l)))),(1,.one (.t false (.fn G caps)))],[]⟩) l.length ⟨_,⟨0,Nat.zero_le _,rfl,rfl,rfl⟩,le_⟩ ?_
 rintro m s ⟨k,hk,rfl,hf,rfl⟩
 by_cases hlt:k < l.length
 ·have e1:decide ((k:Int) < (l.length:Int))=true:=by simp;omega
  obtain ⟨x,hx⟩:∃ x,l[k]?=some x:=⟨_,List.getElem?_eq_getElem hlt⟩
  have e4:IntKind.i64.wrap ((k:Int) + 1)=((k + 1:Nat):Int):=by rw [IntWalk.i64_in _ (by omega)];rfl
  have j2:(k:Int) < (l.length:Int):=by omega
  have j3:(0:Int)≤(k:Int):=by omega
  rw [drop_eq _ _ _ hx,placeF] at hf
  have hGx:=hG x (List.mem_of_getElem? hx)
  generalize hpx:p x=b at hf hGx
  (refine go_ (an2 e1 hx) ?_)
  (refine rn_ 8 (an5 e1 hx hlt j2 j3) fun K hK=>?_;refine rr_ (an5 e1 hx hlt j2 j3) ?_)
  (refine ca_ (an2 e1 hx) ?_ (hsp:=hGx);refine rr_ (an2 e1 hx) ?_)
  ((first | refine rwr_nil (hK _ ?_) | refine de_ (hK _ ?_));clear hK K)
  cases b
  ·rw [if_neg (by decide)] at hf
   (refine go_ e4 ?_)
   exact ⟨l.length - (k + 1),by omega,_,⟨k + 1,by omega,rfl,hf,rfl⟩,le_⟩
  ·rw [if_pos rfl] at hf
   rw [← hf]
   (refine go_ an0 ?_)
   (first | exact oq_ an0 | refine ou_ an0 ?_)
 ·have e1:decide ((k:Int) < (l.length:Int))=false:=by simp;omega
  rw [List.drop_eq_nil_of_le (by omega)] at hf
  rw [← hf]
  (refine go_ e1 ?_)
  (first | exact oq_ an0 | refine ou_ an0 ?_)
  try rfl
theorem containsCo_sp (G:FuncId) (caps:List T) (p:Col→Bool) (l:List Col) (hl:l.length≤maxLen) (hG:∀ x ∈ l,Sp Tryz.prog G (.agg (rC1 x) :: caps.map A.one) (.one (.t true (.lit (.bool (p x))))) []) :
  Sp Tryz.prog 133 [.one (.sl (rCs l)),.one (.fn G caps)] (.one (.t true (.lit (.bool (l.any p))))) []:=by
 have h1:=indexCo_sp G caps p l hl hG
 rw [← place_any _ l 0]
 (refine en_ Tryz.func133 Tryz.ntmps133 Tryz.results133 fun X hX=>?_)
 (refine gs_ ?_)
 (refine rn_ 8 an0 fun K hK=>?_;refine rr_ an0 ?_)
 ((first | refine rwr_nil (hK _ ?_) | refine de_ (hK _ ?_));clear hK K)
 (refine gs_ ?_)
 (refine rn_ 8 an0 fun K hK=>?_;refine rr_ an0 ?_)
 (refine ca_ an0 ?_ (hsp:=h1);refine rr_ an0 ?_)
 ((first | refine rwr_nil (hK _ ?_) | refine de_ (hK _ ?_));clear hK K)
 (refine go_ an0 ?_)
 (first | exact oq_ an0 | refine ou_ an0 ?_)
theorem indexVa_sp (G:FuncId) (caps:List T) (p:Vl→Bool) (l:List Vl) (hl:l.length≤maxLen) (hG:∀ x ∈ l,Sp Tryz.prog G (.agg (rV1 x) :: caps.map A.one) (.one (.t true (.lit (.bool (p x))))) []) :
  Sp Tryz.prog 135 [.one (.sl (rVs l)),.one (.fn G caps)] (.one (.t true (.lit (.int .i64 (placeF p l 0))))) []:=by
 unfold maxLen at hl
 (refine en_ Tryz.func135 Tryz.ntmps135 Tryz.results135 fun X hX=>?_)
 (refine go_ an0 ?_)
 refine cw_loop (fun m s=>∃ k,k≤l.length∧m=l.length - k∧placeF p (l.drop k) k=placeF p l 0∧s=⟨[(8,litI .i64 k),(7,litI .i64 l.length),(0,.one (.t false (.sl (rVs l)))),(1,.one (.t false (.fn G caps)))],[]⟩) l.length ⟨_,⟨0,Nat.zero_le _,rfl,rfl,rfl⟩,le_⟩ ?_
 rintro m s ⟨k,hk,rfl,hf,rfl⟩
 by_cases hlt:k < l.length
 ·have e1:decide ((k:Int) < (l.length:Int))=true:=by simp;omega
  obtain ⟨x,hx⟩:∃ x,l[k]?=some x:=⟨_,List.getElem?_eq_getElem hlt⟩
  have e4:IntKind.i64.wrap ((k:Int) + 1)=((k + 1:Nat):Int):=by rw [IntWalk.i64_in _ (by omega)];rfl
  have j2:(k:Int) < (l.length:Int):=by omega
  have j3:(0:Int)≤(k:Int):=by omega
  rw [drop_eq _ _ _ hx,placeF] at hf
  have hGx:=hG x (List.mem_of_getElem? hx)
  generalize hpx:p x=b at hf hGx
  (refine go_ (an2 e1 hx) ?_)
  (refine rn_ 8 (an5 e1 hx hlt j2 j3) fun K hK=>?_;refine rr_ (an5 e1 hx hlt j2 j3) ?_)
  (refine ca_ (an2 e1 hx) ?_ (hsp:=hGx);refine rr_ (an2 e1 hx) ?_)
  ((first | refine rwr_nil (hK _ ?_) | refine de_ (hK _ ?_));clear hK K)
  cases b
  ·rw [if_neg (by decide)] at hf
   (refine go_ e4 ?_)
   exact ⟨l.length - (k + 1),by omega,_,⟨k + 1,by omega,rfl,hf,rfl⟩,le_⟩
  ·rw [if_pos rfl] at hf
   rw [← hf]
   (refine go_ an0 ?_)
   (first | exact oq_ an0 | refine ou_ an0 ?_)
 ·have e1:decide ((k:Int) < (l.length:Int))=false:=by simp;omega
  rw [List.drop_eq_nil_of_le (by omega)] at hf
  rw [← hf]
  (refine go_ e1 ?_)
  (first | exact oq_ an0 | refine ou_ an0 ?_)
  try rfl
theorem containsVa_sp (G:FuncId) (caps:List T) (p:Vl→Bool) (l:List Vl) (hl:l.length≤maxLen) (hG:∀ x ∈ l,Sp Tryz.prog G (.agg (rV1 x) :: caps.map A.one) (.one (.t true (.lit (.bool (p x))))) []) :
  Sp Tryz.prog 83 [.one (.sl (rVs l)),.one (.fn G caps)] (.one (.t true (.lit (.bool (l.any p))))) []:=by
 have h1:=indexVa_sp G caps p l hl hG
 rw [← place_any _ l 0]
 (refine en_ Tryz.func83 Tryz.ntmps83 Tryz.results83 fun X hX=>?_)
 (refine gs_ ?_)
 (refine rn_ 8 an0 fun K hK=>?_;refine rr_ an0 ?_)
 ((first | refine rwr_nil (hK _ ?_) | refine de_ (hK _ ?_));clear hK K)
 (refine gs_ ?_)
 (refine rn_ 8 an0 fun K hK=>?_;refine rr_ an0 ?_)
 (refine ca_ an0 ?_ (hsp:=h1);refine rr_ an0 ?_)
 ((first | refine rwr_nil (hK _ ?_) | refine de_ (hK _ ?_));clear hK K)
 (refine go_ an0 ?_)
 (first | exact oq_ an0 | refine ou_ an0 ?_)
theorem indexSt_sp (G:FuncId) (caps:List T) (p:ByteArray→Bool) (l:List ByteArray) (hl:l.length≤maxLen) (hG:∀ x ∈ l,Sp Tryz.prog G (.one (.lit (.string x)) :: caps.map A.one) (.one (.t true (.lit (.bool (p x))))) []) :
  Sp Tryz.prog 136 [.one (.sl (rS l)),.one (.fn G caps)] (.one (.t true (.lit (.int .i64 (placeF p l 0))))) []:=by
 unfold maxLen at hl
 (refine en_ Tryz.func136 Tryz.ntmps136 Tryz.results136 fun X hX=>?_)
 (refine go_ an0 ?_)
 refine cw_loop (fun m s=>∃ k,k≤l.length∧m=l.length - k∧placeF p (l.drop k) k=placeF p l 0∧s=⟨[(8,litI .i64 k),(7,litI .i64 l.length),(0,.one (.t false (.sl (rS l)))),(1,.one (.t false (.fn G caps)))],[]⟩) l.length ⟨_,⟨0,Nat.zero_le _,rfl,rfl,rfl⟩,le_⟩ ?_
 rintro m s ⟨k,hk,rfl,hf,rfl⟩
 by_cases hlt:k < l.length
 ·have e1:decide ((k:Int) < (l.length:Int))=true:=by simp;omega
  obtain ⟨x,hx⟩:∃ x,l[k]?=some x:=⟨_,List.getElem?_eq_getElem hlt⟩
  have e4:IntKind.i64.wrap ((k:Int) + 1)=((k + 1:Nat):Int):=by rw [IntWalk.i64_in _ (by omega)];rfl
  have j2:(k:Int) < (l.length:Int):=by omega
  have j3:(0:Int)≤(k:Int):=by omega
  rw [drop_eq _ _ _ hx,placeF] at hf
  have hGx:=hG x (List.mem_of_getElem? hx)
  generalize hpx:p x=b at hf hGx
  (refine go_ (an2 e1 hx) ?_)
  (refine rn_ 8 (an5 e1 hx hlt j2 j3) fun K hK=>?_;refine rr_ (an5 e1 hx hlt j2 j3) ?_)
  (refine ca_ (an2 e1 hx) ?_ (hsp:=hGx);refine rr_ (an2 e1 hx) ?_)
  ((first | refine rwr_nil (hK _ ?_) | refine de_ (hK _ ?_));clear hK K)
  cases b
  ·rw [if_neg (by decide)] at hf
   (refine go_ e4 ?_)
   exact ⟨l.length - (k + 1),by omega,_,⟨k + 1,by omega,rfl,hf,rfl⟩,le_⟩
  ·rw [if_pos rfl] at hf
   rw [← hf]
   (refine go_ an0 ?_)
   (first | exact oq_ an0 | refine ou_ an0 ?_)
 ·have e1:decide ((k:Int) < (l.length:Int))=false:=by simp;omega
  rw [List.drop_eq_nil_of_le (by omega)] at hf
  rw [← hf]
  (refine go_ e1 ?_)
  (first | exact oq_ an0 | refine ou_ an0 ?_)
  try rfl
theorem containsSt_sp (G:FuncId) (caps:List T) (p:ByteArray→Bool) (l:List ByteArray) (hl:l.length≤maxLen) (hG:∀ x ∈ l,Sp Tryz.prog G (.one (.lit (.string x)) :: caps.map A.one) (.one (.t true (.lit (.bool (p x))))) []) :
  Sp Tryz.prog 84 [.one (.sl (rS l)),.one (.fn G caps)] (.one (.t true (.lit (.bool (l.any p))))) []:=by
 have h1:=indexSt_sp G caps p l hl hG
 rw [← place_any _ l 0]
 (refine en_ Tryz.func84 Tryz.ntmps84 Tryz.results84 fun X hX=>?_)
 (refine gs_ ?_)
 (refine rn_ 8 an0 fun K hK=>?_;refine rr_ an0 ?_)
 ((first | refine rwr_nil (hK _ ?_) | refine de_ (hK _ ?_));clear hK K)
 (refine gs_ ?_)
 (refine rn_ 8 an0 fun K hK=>?_;refine rr_ an0 ?_)
 (refine ca_ an0 ?_ (hsp:=h1);refine rr_ an0 ?_)
 ((first | refine rwr_nil (hK _ ?_) | refine de_ (hK _ ?_));clear hK K)
 (refine go_ an0 ?_)
 (first | exact oq_ an0 | refine ou_ an0 ?_)
def badCol (c:Col):Bool:=!(nameB c.name) || !(decide (1≤c.ty) && decide (c.ty≤3))
theorem columns1_sp (c:Col) (hs:c.name.size≤maxLen):Sp Tryz.prog 134 (.agg (rC1 c) :: ([]:List T).map A.one) (.one (.t true (.lit (.bool (badCol c))))) []:=by
 have h1:=cname_sp c.name hs
 have h2:=vtype_sp c.ty
 unfold badCol
 generalize nameB c.name=b at *
 cases b
 ·(refine en_ Tryz.func134 Tryz.ntmps134 Tryz.results134 fun X hX=>?_)
  (refine gs_ ?_)
  (refine rn_ 8 an0 fun K hK=>?_;refine rr_ an0 ?_)
  ((first | refine rwr_nil (hK _ ?_) | refine de_ (hK _ ?_));clear hK K)
  (refine gs_ ?_)
  (refine rn_ 8 an0 fun K hK=>?_;refine rr_ an0 ?_)
  (refine ca_ an0 ?_ (hsp:=h1);refine rr_ an0 ?_)
  (refine rr_ an0 ?_)
  ((first | refine rwr_nil (hK _ ?_) | refine de_ (hK _ ?_));clear hK K)
  (refine go_ an0 ?_)
  (first | exact oq_ an0 | refine ou_ an0 ?_)
  try rfl
 ·(refine en_ Tryz.func134 Tryz.ntmps134 Tryz.results134 fun X hX=>?_)
  (refine gs_ ?_)
  (refine rn_ 8 an0 fun K hK=>?_;refine rr_ an0 ?_)
  ((first | refine rwr_nil (hK _ ?_) | refine de_ (hK _ ?_));clear hK K)
  (refine gs_ ?_)
  (refine rn_ 8 an0 fun K hK=>?_;refine rr_ an0 ?_)
  (refine ca_ an0 ?_ (hsp:=h1);refine rr_ an0 ?_)
  (refine rr_ an0 ?_)
  (refine ca_ an0 ?_ (hsp:=h2);refine rr_ an0 ?_)
  (refine rr_ an0 ?_)
  ((first | refine rwr_nil (hK _ ?_) | refine de_ (hK _ ?_));clear hK K)
  (refine go_ an0 ?_)
  (first | exact oq_ an0 | refine ou_ an0 ?_)
  try rfl
theorem columns_sp (l:List Col) (hl:l.length≤maxLen) (hs:∀ c ∈ l,c.name.size≤maxLen):Sp Tryz.prog 82 [.one (.sl (rCs l))] (.one (.t true (.lit (.bool (!l.any badCol))))) []:=by
 have h1:=containsCo_sp 134 [] badCol l hl (fun x hx=>columns1_sp x (hs x hx))
 (refine en_ Tryz.func82 Tryz.ntmps82 Tryz.results82 fun X hX=>?_)
 (refine gs_ ?_)
 (refine rn_ 8 an0 fun K hK=>?_;refine rr_ an0 ?_)
 ((first | refine rwr_nil (hK _ ?_) | refine de_ (hK _ ?_));clear hK K)
 (refine gs_ ?_)
 (refine rn_ 8 an0 fun K hK=>?_;refine rr_ an0 ?_)
 (refine ca_ an0 ?_ (hsp:=h1);refine rr_ an0 ?_)
 ((first | refine rwr_nil (hK _ ?_) | refine de_ (hK _ ?_));clear hK K)
 (refine go_ an0 ?_)
 (first | exact oq_ an0 | refine ou_ an0 ?_)
attribute [local go_sem] isE
theorem named_sp (s:ByteArray) (hs:s.size≤maxLen) (b:Bool):Sp Tryz.prog 46 [.one (.lit (.string s)),.one (.lit (.bool b))] (.one (.t true (.lit (.bool (namedB s b))))) []:=by
 have h1:=cname_sp s hs
 unfold namedB
 cases b
 ·rw [if_neg (by decide)]
  (refine en_ Tryz.func46 Tryz.ntmps46 Tryz.results46 fun X hX=>?_)
  (refine go_ an0 ?_)
  (first | exact oq_ an0 | refine ou_ an0 ?_)
 ·rw [if_pos rfl]
  generalize nameB s=nb at *
  cases nb
  all_goals
   (refine en_ Tryz.func46 Tryz.ntmps46 Tryz.results46 fun X hX=>?_)
   (refine gs_ ?_)
   (refine rn_ 8 an0 fun K hK=>?_;refine rr_ an0 ?_)
   ((first | refine rwr_nil (hK _ ?_) | refine de_ (hK _ ?_));clear hK K)
   (refine gs_ ?_)
   (refine rn_ 8 an0 fun K hK=>?_;refine rr_ an0 ?_)
   (refine ca_ an0 ?_ (hsp:=h1);refine rr_ an0 ?_)
   (refine rr_ an0 ?_)
   ((first | refine rwr_nil (hK _ ?_) | refine de_ (hK _ ?_));clear hK K)
   (refine go_ an0 ?_)
   (first | exact oq_ an0 | refine ou_ an0 ?_)
theorem great_sp (e:Ex):Sp Tryz.prog 44 [.agg (rE e)] (.one (.t true (.lit (.bool (decide (15 < sizeE e 15)))))) []:=by
 have h1:=size_sp e 15 (by decide) (by decide)
 generalize sizeE e 15=n at *
 obtain ⟨k,v,nm,ar⟩:=e
 rw [rE_mk] at h1 ⊢
 (refine en_ Tryz.func44 Tryz.ntmps44 Tryz.results44 fun X hX=>?_)
 (refine gs_ ?_)
 (refine rn_ 8 an0 fun K hK=>?_;refine rr_ an0 ?_)
 ((first | refine rwr_nil (hK _ ?_) | refine de_ (hK _ ?_));clear hK K)
 (refine gs_ ?_)
 (refine rn_ 8 an0 fun K hK=>?_;refine rr_ an0 ?_)
 (refine ca_ an0 ?_ (hsp:=h1);refine rr_ an0 ?_)
 ((first | refine rwr_nil (hK _ ?_) | refine de_ (hK _ ?_));clear hK K)
 (refine go_ an0 ?_)
 (first | exact oq_ an0 | refine ou_ an0 ?_)
end Go.Proofs.YtjdgejfhnfnmgaaGreatDoor.Ax
namespace Go.Proofs.YtjdgejfhnfnmgaaGreatDoor.Ax
open Go.RowKit
set_option linter.unusedSimpArgs false
attribute [local go_sem] ty3 ty4 ty72
set_option linter.unusedVariables false
set_option maxRecDepth 100000
abbrev vShape (k:Int):V:=.agg [.t true (.lit (.bool (kName k))),.t true (.lit (.bool (kOther k))),.t true (.lit (.bool (kColumn k))),.t true (.lit (.bool (k==1))),.t true (.lit (.bool (kType k))),.t true (.lit (.bool (k==3))),.t true (.lit (.bool (k==10))),.t true (.lit (.bool (k==12))),.t true (.lit (.bool (kWhere k))),.t true (.lit (.bool (k==13)))]
set_option maxHeartbeats 8000000 in
theorem of_sp (k:Int):Sp Tryz.prog 45 [.one (.lit (.int .i64 k))] (vShape k) []:=by
 by_cases hk:1≤k∧k≤13
 ·obtain rfl | rfl | rfl | rfl | rfl | rfl | rfl | rfl | rfl | rfl | rfl | rfl | rfl:k=1 ∨ k=2 ∨ k=9 ∨ k=3 ∨ k=4 ∨ k=5 ∨ k=8 ∨ k=6 ∨ k=7 ∨ k=10 ∨ k=11 ∨ k=12 ∨ k=13:=by omega
  ·have e1:((1:Int)==1)=true:=rfl
   rw [show vShape 1=.agg [.t true (.lit (.bool true)),.t true (.lit (.bool false)),.t true (.lit (.bool false)),.t true (.lit (.bool true)),.t true (.lit (.bool false)),.t true (.lit (.bool false)),.t true (.lit (.bool false)),.t true (.lit (.bool false)),.t true (.lit (.bool false)),.t true (.lit (.bool false))] from rfl]
   (refine en_ Tryz.func45 Tryz.ntmps45 Tryz.results45 fun X hX=>?_)
   (refine go_ e1 ?_)
   (first | exact oq_ an0 | refine ou_ an0 ?_)
  ·have e1:((2:Int)==1)=false:=rfl
   have e2:((2:Int)==2)=true:=rfl
   rw [show vShape 2=.agg [.t true (.lit (.bool true)),.t true (.lit (.bool false)),.t true (.lit (.bool false)),.t true (.lit (.bool false)),.t true (.lit (.bool false)),.t true (.lit (.bool false)),.t true (.lit (.bool false)),.t true (.lit (.bool false)),.t true (.lit (.bool false)),.t true (.lit (.bool false))] from rfl]
   (refine en_ Tryz.func45 Tryz.ntmps45 Tryz.results45 fun X hX=>?_)
   (refine go_ (an2 e1 e2) ?_)
   (first | exact oq_ an0 | refine ou_ an0 ?_)
  ·have e1:((9:Int)==1)=false:=rfl
   have e2:((9:Int)==2)=false:=rfl
   have e9:((9:Int)==9)=true:=rfl
   rw [show vShape 9=.agg [.t true (.lit (.bool true)),.t true (.lit (.bool false)),.t true (.lit (.bool false)),.t true (.lit (.bool false)),.t true (.lit (.bool false)),.t true (.lit (.bool false)),.t true (.lit (.bool false)),.t true (.lit (.bool false)),.t true (.lit (.bool false)),.t true (.lit (.bool false))] from rfl]
   (refine en_ Tryz.func45 Tryz.ntmps45 Tryz.results45 fun X hX=>?_)
   (refine go_ (an3 e1 e2 e9) ?_)
   (first | exact oq_ an0 | refine ou_ an0 ?_)
  ·have e1:((3:Int)==1)=false:=rfl
   have e2:((3:Int)==2)=false:=rfl
   have e9:((3:Int)==9)=false:=rfl
   have e3:((3:Int)==3)=true:=rfl
   rw [show vShape 3=.agg [.t true (.lit (.bool true)),.t true (.lit (.bool false)),.t true (.lit (.bool true)),.t true (.lit (.bool false)),.t true (.lit (.bool true)),.t true (.lit (.bool true)),.t true (.lit (.bool false)),.t true (.lit (.bool false)),.t true (.lit (.bool false)),.t true (.lit (.bool false))] from rfl]
   (refine en_ Tryz.func45 Tryz.ntmps45 Tryz.results45 fun X hX=>?_)
   (refine go_ (an4 e1 e2 e9 e3) ?_)
   (first | exact oq_ an0 | refine ou_ an0 ?_)
  ·have e1:((4:Int)==1)=false:=rfl
   have e2:((4:Int)==2)=false:=rfl
   have e9:((4:Int)==9)=false:=rfl
   have e3:((4:Int)==3)=false:=rfl
   have e4:((4:Int)==4)=true:=rfl
   rw [show vShape 4=.agg [.t true (.lit (.bool true)),.t true (.lit (.bool false)),.t true (.lit (.bool true)),.t true (.lit (.bool false)),.t true (.lit (.bool false)),.t true (.lit (.bool false)),.t true (.lit (.bool false)),.t true (.lit (.bool false)),.t true (.lit (.bool false)),.t true (.lit (.bool false))] from rfl]
   (refine en_ Tryz.func45 Tryz.ntmps45 Tryz.results45 fun X hX=>?_)
   (refine go_ (an5 e1 e2 e9 e3 e4) ?_)
   (first | exact oq_ an0 | refine ou_ an0 ?_)
  ·have e1:((5:Int)==1)=false:=rfl
   have e2:((5:Int)==2)=false:=rfl
   have e9:((5:Int)==9)=false:=rfl
   have e3:((5:Int)==3)=false:=rfl
   have e4:((5:Int)==4)=false:=rfl
   have e5:((5:Int)==5)=true:=rfl
   rw [show vShape 5=.agg [.t true (.lit (.bool true)),.t true (.lit (.bool true)),.t true (.lit (.bool true)),.t true (.lit (.bool false)),.t true (.lit (.bool false)),.t true (.lit (.bool false)),.t true (.lit (.bool false)),.t true (.lit (.bool false)),.t true (.lit (.bool false)),.t true (.lit (.bool false))] from rfl]
   (refine en_ Tryz.func45 Tryz.ntmps45 Tryz.results45 fun X hX=>?_)
   (refine go_ (an6 e1 e2 e9 e3 e4 e5) ?_)
   (first | exact oq_ an0 | refine ou_ an0 ?_)
  ·have e1:((8:Int)==1)=false:=rfl
   have e2:((8:Int)==2)=false:=rfl
   have e9:((8:Int)==9)=false:=rfl
   have e3:((8:Int)==3)=false:=rfl
   have e4:((8:Int)==4)=false:=rfl
   have e5:((8:Int)==5)=false:=rfl
   have e8:((8:Int)==8)=true:=rfl
   rw [show vShape 8=.agg [.t true (.lit (.bool true)),.t true (.lit (.bool true)),.t true (.lit (.bool true)),.t true (.lit (.bool false)),.t true (.lit (.bool false)),.t true (.lit (.bool false)),.t true (.lit (.bool false)),.t true (.lit (.bool false)),.t true (.lit (.bool false)),.t true (.lit (.bool false))] from rfl]
   (refine en_ Tryz.func45 Tryz.ntmps45 Tryz.results45 fun X hX=>?_)
   (refine go_ (an7 e1 e2 e9 e3 e4 e5 e8) ?_)
   (first | exact oq_ an0 | refine ou_ an0 ?_)
  ·have e1:((6:Int)==1)=false:=rfl
   have e2:((6:Int)==2)=false:=rfl
   have e9:((6:Int)==9)=false:=rfl
   have e3:((6:Int)==3)=false:=rfl
   have e4:((6:Int)==4)=false:=rfl
   have e5:((6:Int)==5)=false:=rfl
   have e8:((6:Int)==8)=false:=rfl
   have e6:((6:Int)==6)=true:=rfl
   rw [show vShape 6=.agg [.t true (.lit (.bool true)),.t true (.lit (.bool false)),.t true (.lit (.bool true)),.t true (.lit (.bool false)),.t true (.lit (.bool true)),.t true (.lit (.bool false)),.t true (.lit (.bool false)),.t true (.lit (.bool false)),.t true (.lit (.bool false)),.t true (.lit (.bool false))] from rfl]
   (refine en_ Tryz.func45 Tryz.ntmps45 Tryz.results45 fun X hX=>?_)
   (refine go_ (an2 (an7 e1 e2 e9 e3 e4 e5 e8) e6) ?_)
   (first | exact oq_ an0 | refine ou_ an0 ?_)
  ·have e1:((7:Int)==1)=false:=rfl
   have e2:((7:Int)==2)=false:=rfl
   have e9:((7:Int)==9)=false:=rfl
   have e3:((7:Int)==3)=false:=rfl
   have e4:((7:Int)==4)=false:=rfl
   have e5:((7:Int)==5)=false:=rfl
   have e8:((7:Int)==8)=false:=rfl
   have e6:((7:Int)==6)=false:=rfl
   have e7:((7:Int)==7)=true:=rfl
   rw [show vShape 7=.agg [.t true (.lit (.bool true)),.t true (.lit (.bool true)),.t true (.lit (.bool false)),.t true (.lit (.bool false)),.t true (.lit (.bool false)),.t true (.lit (.bool false)),.t true (.lit (.bool false)),.t true (.lit (.bool false)),.t true (.lit (.bool false)),.t true (.lit (.bool false))] from rfl]
   (refine en_ Tryz.func45 Tryz.ntmps45 Tryz.results45 fun X hX=>?_)
   (refine go_ (an2 (an7 e1 e2 e9 e3 e4 e5 e8) (an2 e6 e7)) ?_)
   (first | exact oq_ an0 | refine ou_ an0 ?_)
  ·have e1:((10:Int)==1)=false:=rfl
   have e2:((10:Int)==2)=false:=rfl
   have e9:((10:Int)==9)=false:=rfl
   have e3:((10:Int)==3)=false:=rfl
   have e4:((10:Int)==4)=false:=rfl
   have e5:((10:Int)==5)=false:=rfl
   have e8:((10:Int)==8)=false:=rfl
   have e6:((10:Int)==6)=false:=rfl
   have e7:((10:Int)==7)=false:=rfl
   have e10:((10:Int)==10)=true:=rfl
   rw [show vShape 10=.agg [.t true (.lit (.bool true)),.t true (.lit (.bool false)),.t true (.lit (.bool false)),.t true (.lit (.bool false)),.t true (.lit (.bool false)),.t true (.lit (.bool false)),.t true (.lit (.bool true)),.t true (.lit (.bool false)),.t true (.lit (.bool false)),.t true (.lit (.bool false))] from rfl]
   (refine en_ Tryz.func45 Tryz.ntmps45 Tryz.results45 fun X hX=>?_)
   (refine go_ (an2 (an7 e1 e2 e9 e3 e4 e5 e8) (an3 e6 e7 e10)) ?_)
   (first | exact oq_ an0 | refine ou_ an0 ?_)
  ·have e1:((11:Int)==1)=false:=rfl
   have e2:((11:Int)==2)=false:=rfl
   have e9:((11:Int)==9)=false:=rfl
   have e3:((11:Int)==3)=false:=rfl
   have e4:((11:Int)==4)=false:=rfl
   have e5:((11:Int)==5)=false:=rfl
   have e8:((11:Int)==8)=false:=rfl
   have e6:((11:Int)==6)=false:=rfl
   have e7:((11:Int)==7)=false:=rfl
   have e10:((11:Int)==10)=false:=rfl
   have e11:((11:Int)==11)=true:=rfl
   rw [show vShape 11=.agg [.t true (.lit (.bool true)),.t true (.lit (.bool false)),.t true (.lit (.bool false)),.t true (.lit (.bool false)),.t true (.lit (.bool false)),.t true (.lit (.bool false)),.t true (.lit (.bool false)),.t true (.lit (.bool false)),.t true (.lit (.bool true)),.t true (.lit (.bool false))] from rfl]
   (refine en_ Tryz.func45 Tryz.ntmps45 Tryz.results45 fun X hX=>?_)
   (refine go_ (an2 (an7 e1 e2 e9 e3 e4 e5 e8) (an4 e6 e7 e10 e11)) ?_)
   (first | exact oq_ an0 | refine ou_ an0 ?_)
  ·have e1:((12:Int)==1)=false:=rfl
   have e2:((12:Int)==2)=false:=rfl
   have e9:((12:Int)==9)=false:=rfl
   have e3:((12:Int)==3)=false:=rfl
   have e4:((12:Int)==4)=false:=rfl
   have e5:((12:Int)==5)=false:=rfl
   have e8:((12:Int)==8)=false:=rfl
   have e6:((12:Int)==6)=false:=rfl
   have e7:((12:Int)==7)=false:=rfl
   have e10:((12:Int)==10)=false:=rfl
   have e11:((12:Int)==11)=false:=rfl
   have e12:((12:Int)==12)=true:=rfl
   rw [show vShape 12=.agg [.t true (.lit (.bool true)),.t true (.lit (.bool false)),.t true (.lit (.bool true)),.t true (.lit (.bool false)),.t true (.lit (.bool false)),.t true (.lit (.bool false)),.t true (.lit (.bool false)),.t true (.lit (.bool true)),.t true (.lit (.bool true)),.t true (.lit (.bool false))] from rfl]
   (refine en_ Tryz.func45 Tryz.ntmps45 Tryz.results45 fun X hX=>?_)
   (refine go_ (an2 (an7 e1 e2 e9 e3 e4 e5 e8) (an5 e6 e7 e10 e11 e12)) ?_)
   (first | exact oq_ an0 | refine ou_ an0 ?_)
  ·have e1:((13:Int)==1)=false:=rfl
   have e2:((13:Int)==2)=false:=rfl
   have e9:((13:Int)==9)=false:=rfl
   have e3:((13:Int)==3)=false:=rfl
   have e4:((13:Int)==4)=false:=rfl
   have e5:((13:Int)==5)=false:=rfl
   have e8:((13:Int)==8)=false:=rfl
   have e6:((13:Int)==6)=false:=rfl
   have e7:((13:Int)==7)=false:=rfl
   have e10:((13:Int)==10)=false:=rfl
   have e11:((13:Int)==11)=false:=rfl
   have e12:((13:Int)==12)=false:=rfl
   have e13:((13:Int)==13)=true:=rfl
   rw [show vShape 13=.agg [.t true (.lit (.bool true)),.t true (.lit (.bool false)),.t true (.lit (.bool false)),.t true (.lit (.bool false)),.t true (.lit (.bool false)),.t true (.lit (.bool false)),.t true (.lit (.bool false)),.t true (.lit (.bool false)),.t true (.lit (.bool true)),.t true (.lit (.bool true))] from rfl]
   (refine en_ Tryz.func45 Tryz.ntmps45 Tryz.results45 fun X hX=>?_)
   (refine go_ (an2 (an7 e1 e2 e9 e3 e4 e5 e8) (an6 e6 e7 e10 e11 e12 e13)) ?_)
   (first | exact oq_ an0 | refine ou_ an0 ?_)
 ·have e1:(k==1)=false:=by simp;omega
  have e2:(k==2)=false:=by simp;omega
  have e9:(k==9)=false:=by simp;omega
  have e3:(k==3)=false:=by simp;omega
  have e4:(k==4)=false:=by simp;omega
  have e5:(k==5)=false:=by simp;omega
  have e8:(k==8)=false:=by simp;omega
  have e6:(k==6)=false:=by simp;omega
  have e7:(k==7)=false:=by simp;omega
  have e10:(k==10)=false:=by simp;omega
  have e11:(k==11)=false:=by simp;omega
  have e12:(k==12)=false:=by simp;omega
  have e13:(k==13)=false:=by simp;omega
  have h1:kName k=false:=by unfold kName;simp;omega
  have h2:kOther k=false:=by unfold kOther;simp;omega
  have h3:kColumn k=false:=by unfold kColumn;simp;omega
  have h4:kType k=false:=by unfold kType;simp;omega
  have h5:kWhere k=false:=by unfold kWhere;simp;omega
  unfold vShape
  rw [h1,h2,h3,h4,h5,e1,e3,e10,e12,e13]
  (refine en_ Tryz.func45 Tryz.ntmps45 Tryz.results45 fun X hX=>?_)
  (refine go_ (an2 (an7 e1 e2 e9 e3 e4 e5 e8) (an6 e6 e7 e10 e11 e12 e13)) ?_)
  (first | exact oq_ an0 | refine ou_ an0 ?_)
end Go.Proofs.YtjdgejfhnfnmgaaGreatDoor.Ax
namespace Go.Proofs.YtjdgejfhnfnmgaaGreatDoor.Ax
open Go.RowKit
set_option linter.unusedSimpArgs false
attribute [local go_sem] ty3 ty4 ty9 ty24 feq24 ty27 ty29 ty32
set_option linter.unusedVariables false
set_option maxRecDepth 100000
theorem sameEs_drop {l m:List Ex} {i:Nat} {x y:Ex} (hx:l[i]?=some x) (hy:m[i]?=some y):sameEs (l.drop i) (m.drop i)=(sameE x y && sameEs (l.drop (i + 1)) (m.drop (i + 1))):=by
 rw [drop_eq _ _ _ hx,drop_eq _ _ _ hy,sameEs]
attribute [local go_sem] rE_mk
end Go.Proofs.YtjdgejfhnfnmgaaGreatDoor.Ax
namespace Go.Proofs.YtjdgejfhnfnmgaaGreatDoor.Ax
open Go.RowKit
set_option linter.unusedSimpArgs false
attribute [local go_sem] ty3 ty4 ty9 ty24 feq24 ty27 ty29 ty32
set_option linter.unusedVariables false
set_option maxRecDepth 100000
attribute [local go_sem] rE_mk
theorem equalE_sp (G:FuncId) (l m:List Ex) (hl:l.length≤maxLen) (hG:∀ x ∈ l,∀ y,Sp Tryz.prog G [.agg (rE x),.agg (rE y)] (.one (.t true (.lit (.bool (sameE x y))))) []) :
  Sp Tryz.prog 63 [.one (.sl (l.map rE)),.one (.sl (m.map rE)),.one (.fn G [])] (.one (.t true (.lit (.bool (sameEs l m))))) []:=by
 unfold maxLen at hl
 by_cases hll:l.length=m.length
 rotate_left
 ·have e3:((l.length:Int) != (m.length:Int))=true:=by simp;omega
  have hse:sameEs l m=false:=by
   rw [Bool.eq_false_iff]
   exact fun h=>hll (sameEs_len _ _ h)
  rw [hse]
  (refine en_ Tryz.func63 Tryz.ntmps63 Tryz.results63 fun X hX=>?_)
  (refine go_ e3 ?_)
  (first | exact oq_ an0 | refine ou_ an0 ?_)
 have e3:((l.length:Int) != (m.length:Int))=false:=by simp [hll]
 (refine en_ Tryz.func63 Tryz.ntmps63 Tryz.results63 fun X hX=>?_)
 (refine go_ e3 ?_)
 refine cw_loop (fun z s=>∃ i:Nat,i≤l.length∧z=l.length - i∧sameEs (l.drop i) (m.drop i)=sameEs l m∧s=⟨[(17,litI .i64 i),(16,litI .i64 l.length),(15,.one (.t false (.sl (l.map rE)))),(1,.one (.t false (.sl (m.map rE)))),(2,.one (.t false (.fn G [])))],[]⟩) l.length ⟨_,⟨0,Nat.zero_le _,rfl,rfl,rfl⟩,le_⟩ ?_
 rintro z s ⟨i,hi,rfl,hf,rfl⟩
 by_cases hlt:i < l.length
 ·have f1:decide ((i:Int) < (l.length:Int))=true:=by simp;omega
  obtain ⟨x,hx⟩:∃ x,l[i]?=some x:=⟨_,List.getElem?_eq_getElem hlt⟩
  obtain ⟨y,hy⟩:∃ y,m[i]?=some y:=⟨_,List.getElem?_eq_getElem (by omega)⟩
  have f2:IntKind.i64.wrap ((i:Int) + 1)=((i + 1:Nat):Int):=by rw [IntWalk.i64_in _ (by omega)];rfl
  have ih1:=hG x (List.mem_of_getElem? hx) y
  rw [sameEs_drop hx hy] at hf
  generalize sameE x y=bb at *
  obtain ⟨kx,vx,nx,ax⟩:=x
  obtain ⟨ky,vy,ny,ay⟩:=y
  rw [rE_mk,rE_mk] at ih1
  (refine go_ (an3 f1 hx hy) ?_)
  (refine rn_ 8 an0 fun K hK=>?_;refine rr_ an0 ?_)
  (refine ca_ an0 ?_ (hsp:=ih1);refine rr_ an0 ?_)
  ((first | refine rwr_nil (hK _ ?_) | refine de_ (hK _ ?_));clear hK K)
  cases bb
  ·rw [← hf,Bool.false_and]
   (refine go_ an0 ?_)
   (first | exact oq_ an0 | refine ou_ an0 ?_)
  ·rw [Bool.true_and] at hf
   (refine go_ f2 ?_)
   exact ⟨l.length - (i + 1),by omega,_,⟨i + 1,by omega,rfl,hf,rfl⟩,le_⟩
 ·have f1:decide ((i:Int) < (l.length:Int))=false:=by simp;omega
  rw [List.drop_eq_nil_of_le (by omega),List.drop_eq_nil_of_le (by omega),sameEs] at hf
  rw [← hf]
  (refine go_ f1 ?_)
  (first | exact oq_ an0 | refine ou_ an0 ?_)
theorem same_parts (a b:Vl):((a.k==b.k) && ((a.n==b.n) && (a.s.toList==b.s.toList)))=a.same b:=by
 unfold Vl.same
 rw [Bool.and_assoc]
set_option maxHeartbeats 8000000 in
theorem sameexpr_sp (a:Ex):goodE a→∀ b:Ex,Sp Tryz.prog 37 [.agg (rE a),.agg (rE b)] (.one (.t true (.lit (.bool (sameE a b))))) []:=by
 induction a using Ex.ind with
 | h k v nm ar ih =>
  intro hg b
  obtain ⟨k',v',nm',ar'⟩:=b
  obtain ⟨hgv,hal,hga⟩:=hg.inv
  have hQ:=equalE_sp 37 ar ar' hal (fun x hx y=>ih x hx (hga x hx) y)
  clear ih
  rw [rE_mk,rE_mk,sameE]
  have hsp:=same_parts v v'
  generalize v.same v'=vb at *
  generalize sameEs ar ar'=sb at *
  (refine en_ Tryz.func37 Tryz.ntmps37 Tryz.results37 fun X hX=>?_)
  (refine gs_ ?_)
  (refine rn_ 8 an0 fun K hK=>?_;refine rr_ an0 ?_)
  ((first | refine rwr_nil (hK _ ?_) | refine de_ (hK _ ?_));clear hK K)
  (refine gs_ ?_)
  cases e1:(k==k')
  ·rw [Bool.false_and]
   (refine rn_ 8 e1 fun K hK=>?_)
   (refine rw_goN (k:=8) ?_;(refine sm_ e1 ?_))
   (refine rr_ e1 ?_)
   ((first | refine rwr_nil (hK _ ?_) | refine de_ (hK _ ?_));clear hK K)
   (refine go_ an0 ?_)
   (first | exact oq_ an0 | refine ou_ an0 ?_)
  rw [Bool.true_and]
  cases vb
  ·rw [Bool.false_and,Bool.and_false]
   (refine rn_ 8 (an2 e1 hsp) fun K hK=>?_)
   (refine rw_goN (k:=8) ?_;(refine sm_ (an2 e1 hsp) ?_))
   (refine rr_ (an2 e1 hsp) ?_)
   ((first | refine rwr_nil (hK _ ?_) | refine de_ (hK _ ?_));clear hK K)
   (refine go_ an0 ?_)
   (first | exact oq_ an0 | refine ou_ an0 ?_)
  cases e2:(nm.toList==nm'.toList)
  ·rw [Bool.false_and]
   (refine rn_ 8 (an3 e1 hsp e2) fun K hK=>?_)
   (refine rw_goN (k:=8) ?_;(refine sm_ (an3 e1 hsp e2) ?_))
   (refine rr_ (an3 e1 hsp e2) ?_)
   ((first | refine rwr_nil (hK _ ?_) | refine de_ (hK _ ?_));clear hK K)
   (refine go_ an0 ?_)
   (first | exact oq_ an0 | refine ou_ an0 ?_)
  ·rw [Bool.true_and,Bool.true_and]
   (refine rn_ 8 (an3 e1 hsp e2) fun K hK=>?_)
   (refine rw_goN (k:=8) ?_;(refine sm_ (an3 e1 hsp e2) ?_))
   (refine rr_ (an3 e1 hsp e2) ?_)
   (refine ca_ (an3 e1 hsp e2) ?_ (hsp:=hQ);refine rr_ (an3 e1 hsp e2) ?_)
   (refine rr_ (an3 e1 hsp e2) ?_)
   ((first | refine rwr_nil (hK _ ?_) | refine de_ (hK _ ?_));clear hK K)
   (refine go_ an0 ?_)
   (first | exact oq_ an0 | refine ou_ an0 ?_)
end Go.Proofs.YtjdgejfhnfnmgaaGreatDoor.Ax
