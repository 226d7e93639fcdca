/-  -/
import Derived.Test.YtjdgejfhnfnmgaaGreatDoorS19
import Derived.Test.YtjdgejfhnfnmgaaGreatDoorS24
namespace Go.Proofs.YtjdgejfhnfnmgaaGreatDoor.Ax
open Go.RowKit
set_option linter.unusedSimpArgs false
attribute [local go_sem] ty3 ty4 ty9 ty5 ty26 ty54 ty22 ty24 ty25 ty27 ty29 ty31 ty91 ty85 prnNew prnUsed rowW
set_option linter.unusedVariables false
set_option maxRecDepth 100000
def vCm (c:Cm):V:=.agg ((rCm c).map (.t false))
def wWhere:ByteArray:=⟨#[119,104,101,114,101]⟩
def whereW (c:Cm) (tw:ByteArray):List ByteArray:=if c.all=true then [] else [wWhere,tw]
set_option maxHeartbeats 4000000 in
theorem where_all (s:List UInt8) (c:Cm) (ha:c.all=true) :
  SpIO Tryz.prog 105 [.one (.optr 1000 0),vCm c] [(1000,prnUsed 1000 1001 s.length),(1001,rowW (strRows (bs s)))] (.tup []) [(1000,prnUsed 1000 1001 s.length),(1001,rowW (strRows (bs s)))] [1000]:=by
 obtain ⟨k,name,other,column,cols,ty,v,vals,fields,⟨k1,v1,n1,a1⟩,all,⟨k2,v2,n2,a2⟩,order,limit⟩:=c
 dsimp only at ha
 subst ha
 unfold vCm
 rw [rCm_mk]
 (refine ei_ Tryz.func105 Tryz.ntmps105 Tryz.results105 fun X hX=>?_)
 refine au_ an0 ?_
 exact oi_ an0 (.inr rfl)
set_option maxHeartbeats 4000000 in
theorem where_ex (s:List UInt8) (c:Cm) (ha:c.all=false) (g:Gx) (hg:g.ex=c.wh) (hok:g.ok) (hz:(gT g).size≤30300) (h0:0 < s.length) (hs:s.length≤1000000000) :
  SpIO Tryz.prog 105 [.one (.optr 1000 0),vCm c] [(1000,prnUsed 1000 1001 s.length),(1001,rowW (strRows (bs s)))] (.tup []) [(1000,prnUsed 1000 12 (s++wordsT [wWhere,gT g]).length),(12,rowW (strRows (bs (s++wordsT [wWhere,gT g]))))] [1000]:=by
 have hE:=sexpr_sp g hok (by unfold maxLen;omega)
 have hW:=words_used s [wWhere,gT g] h0 hs (fun y hy=>by
  rcases List.mem_cons.1 hy with rfl | hy
  ·decide
  ·rw [List.mem_singleton.1 hy];omega) (by show 2≤1000;decide) (by show ¬ 2=0;decide)
 obtain ⟨k,name,other,column,cols,ty,v,vals,fields,⟨k1,v1,n1,a1⟩,all,⟨k2,v2,n2,a2⟩,order,limit⟩:=c
 dsimp only at ha hg
 subst ha
 rw [hg,rE_mk] at hE
 generalize gT g=tw at *
 generalize s++wordsT [wWhere,tw]=un at *
 unfold vCm
 rw [rCm_mk]
 unfold wWhere at hW
 (refine ei_ Tryz.func105 Tryz.ntmps105 Tryz.results105 fun X hX=>?_)
 refine au_ an0 ?_
 (refine rn_ 8 an0 fun K hK=>?_;refine rr_ an0 ?_)
 (refine ca_ an0 ?_ (hsp:=hE);refine rr_ an0 ?_)
 (refine rwr_io 40 (SpIO.ren (hW) [(1000,1000),(1001,1001),(25,12)] rfl) rfl rfl (by simp only [go_sem,prnNew,prnUsed,rowW,hX];exact rfl) (by simp only [go_sem,prnNew,prnUsed,rowW,hX]) (by simp only [go_sem,prnNew,prnUsed,rowW,hX]) (by simp only [go_sem,prnNew,prnUsed,rowW,hX]) (by simp only [go_sem,prnNew,prnUsed,rowW,hX]) rfl (by rw [hX];rfl) ?_;simp only [go_sem,prnNew,prnUsed,rowW,hX])
 ((first | refine rwr_nil (hK _ ?_) | refine de_ (hK _ ?_));clear hK K)
 exact oi_ an0 (.inr rfl)
theorem where_io (s:List UInt8) (c:Cm) (hw:c.all=false→∃ g:Gx,g.ex=c.wh∧g.ok∧(gT g).size≤30300) (h0:0 < s.length) (hs:s.length≤1000000000) :
  ∃ tw:ByteArray,(c.all=false→∃ g:Gx,g.ex=c.wh∧g.ok∧(gT g).size≤30300∧tw=gT g)∧tw.size≤30300 ∧
  SpIO Tryz.prog 105 [.one (.optr 1000 0),vCm c] [(1000,prnUsed 1000 1001 s.length),(1001,rowW (strRows (bs s)))] (.tup []) [(1000,prnUsed 1000 1001 (s++wordsT (whereW c tw)).length),(1001,rowW (strRows (bs (s++wordsT (whereW c tw)))))] [1000]:=by
 cases ha:c.all with
 | true =>
  refine ⟨.empty,(fun h=>by cases h),by decide,?_⟩
  unfold whereW
  rw [if_pos ha]
  show SpIO _ _ _ _ _ [(1000,prnUsed 1000 1001 (s++[]).length),(1001,rowW (strRows (bs (s++[]))))] _
  rw [List.append_nil]
  exact where_all s c ha
 | false =>
  obtain ⟨g,hg,hok,hz⟩:=hw ha
  refine ⟨gT g,fun _=>⟨g,hg,hok,hz,rfl⟩,hz,?_⟩
  unfold whereW
  rw [if_neg (by rw [ha];decide)]
  exact (where_ex s c ha g hg hok hz h0 hs).reout [(1000,1000),(12,1001)] rfl
theorem words_use (s:List UInt8) (L:List ByteArray) (h0:0 < s.length) (hs:s.length≤1000000000) (hl:∀ y ∈ L,y.size≤100000) (hn:L.length≤1000) (hL:¬ L.length=0) :
  SpIO Tryz.prog 99 [.one (.optr 1000 0),.one (.t false (.sl (rS L)))] [(1000,prnUsed 1000 1001 s.length),(1001,rowW (strRows (bs s)))] (.tup []) [(1000,prnUsed 1000 1001 (s++wordsT L).length),(1001,rowW (strRows (bs (s++wordsT L))))] [1000] :=
 (words_used s L h0 hs hl hn hL).reout [(1000,1000),(25,1001)] rfl
def wSelect:ByteArray:=⟨#[115,101,108,101,99,116]⟩
def wFrom:ByteArray:=⟨#[102,114,111,109]⟩
def wOrder:ByteArray:=⟨#[111,114,100,101,114]⟩
def wBy:ByteArray:=⟨#[98,121]⟩
def wLimit:ByteArray:=⟨#[108,105,109,105,116]⟩
def emptyT (s:ByteArray):Bool:=s.toList==(⟨#[]⟩:ByteArray).toList
def fieldsT (c:Cm):ByteArray:=if 0 < c.fields.length then bs (commaL c.fields) else ⟨#[42]⟩
def orderW (c:Cm):List ByteArray:=if emptyT c.order=true then [] else [wOrder,wBy,c.order]
def limitW (c:Cm):List ByteArray:=if 0≤c.limit then [wLimit,digS c.limit] else []
set_option maxHeartbeats 8000000 in
theorem selects_io (c:Cm) (hr:Rt c) (hk:c.k=13) (hf:(commaL c.fields).length≤20000):∃ tw:ByteArray,(c.all=false→∃ g:Gx,g.ex=c.wh∧g.ok∧(gT g).size≤30300∧tw=gT g)∧tw.size≤30300∧∃ un:List UInt8,un=textW [wSelect,fieldsT c,wFrom,c.name]++wordsT (whereW c tw)++wordsT (orderW c)++wordsT (limitW c) ∧
  SpIO Tryz.prog 107 [.one (.optr 1000 0),vCm c] [(1000,prnNew)] (.tup []) [(1000,prnUsed 1000 17 un.length),(17,rowW (strRows (bs un)))] [1000]:=by
 have hJ:=join_sp c.fields (by have:=hr.fields;omega) (by omega)
 have hfz:(fieldsT c).size≤20000:=by
  unfold fieldsT
  split
  ·rw [bs_size];exact hf
  ·decide
 have hW0:=words_new wSelect [fieldsT c,wFrom,c.name] (by decide) (fun y hy=>by
  simp only [List.mem_cons,List.not_mem_nil,or_false] at hy
  have:=hr.name
  rcases hy with rfl | rfl | rfl | rfl
  ·decide
  ·omega
  ·decide
  ·omega) (by show 4≤1000;decide)
 obtain ⟨s0,hs0⟩:∃ s0,s0=textW [wSelect,fieldsT c,wFrom,c.name]:=⟨_,rfl⟩
 rw [← hs0] at hW0
 have hb0:0 < s0.length∧s0.length≤30000:=by
  have h1:=hr.name
  have h2:s0.length=6 + (1 + ((fieldsT c).size + (1 + (4 + (1 + c.name.size))))):=by
   rw [hs0]
   simp only [textW,wordsT,List.length_append,List.length_cons,List.length_nil]
   show 6 + ((fieldsT c).size + ((4 + ((c.name.size + 0) + 1)) + 1) + 1)=_
   omega
  omega
 obtain ⟨tw,htw,htz,hWh⟩:=where_io s0 c (hr.wh (by rw [hk];rfl)) hb0.1 (by omega)
 refine ⟨tw,htw,htz,_,rfl,?_⟩
 clear htw
 rw [← hs0]
 obtain ⟨s1,hs1⟩:∃ s1,s1=s0++wordsT (whereW c tw):=⟨_,rfl⟩
 rw [← hs1] at hWh ⊢
 have hb1:0 < s1.length∧s1.length≤70000:=by
  have:(wordsT (whereW c tw)).length≤31000:=by
   unfold whereW
   split
   ·exact Nat.zero_le _
   ·simp only [wordsT,List.length_append,List.length_cons,List.length_nil]
    show 5 + ((tw.size + 0) + 1) + 1≤31000
    omega
  rw [hs1,List.length_append]
  omega
 have hO:=words_use s1 [wOrder,wBy,c.order] hb1.1 (by omega) (fun y hy=>by
  simp only [List.mem_cons,List.not_mem_nil,or_false] at hy
  have:=hr.order
  rcases hy with rfl | rfl | rfl
  ·decide
  ·decide
  ·omega) (by show 3≤1000;decide) (by show ¬ 3=0;decide)
 obtain ⟨s2,hs2⟩:∃ s2,s2=s1++wordsT (orderW c):=⟨_,rfl⟩
 rw [← hs2]
 have hb2:0 < s2.length∧s2.length≤80000:=by
  have:(wordsT (orderW c)).length≤3000:=by
   have:=hr.order
   unfold orderW
   split
   ·exact Nat.zero_le _
   ·simp only [wordsT,List.length_append,List.length_cons,List.length_nil]
    show 5 + (2 + ((c.order.size + 0) + 1) + 1) + 1≤3000
    omega
  rw [hs2,List.length_append]
  omega
 have hdz:=digS_size c.limit (by have:=hr.limit;omega) (by have:=hr.limit;omega)
 have hD:=itoa_sp c.limit (by have:=hr.limit;omega) (by have:=hr.limit;omega)
 have hLi:=words_use s2 [wLimit,digS c.limit] hb2.1 (by omega) (fun y hy=>by
  simp only [List.mem_cons,List.not_mem_nil,or_false] at hy
  rcases hy with rfl | rfl
  ·decide
  ·omega) (by show 2≤1000;decide) (by show ¬ 2=0;decide)
 clear hb0 hb1 hb2 hs0 hs1
 unfold orderW at hs2
 unfold limitW
 unfold fieldsT at hW0
 clear hfz hr hdz htz hf
 obtain ⟨k,name,other,column,cols,ty,v,vals,fields,⟨k1,v1,n1,a1⟩,all,⟨k2,v2,n2,a2⟩,order,limit⟩:=c
 dsimp only at *
 clear hk
 generalize digS limit=dl at *
 generalize bs (commaL fields)=jf at *
 unfold vCm at hWh ⊢
 rw [rCm_mk] at hWh ⊢
 unfold wSelect wFrom at hW0
 unfold wOrder wBy at hO
 unfold wLimit at hLi
 (refine ei_ Tryz.func107 Tryz.ntmps107 Tryz.results107 fun X hX=>?_)
 refine au_ an0 ?_
 refine cw_meetn ⟨[(4,.one (.t true (.lit (.string (if 0 < fields.length then jf else ⟨#[42]⟩))))),(3,.one (.optr 3 0)),(0,.one (.optr 1000 0))],[(1000,prnNew),(3,.var 31 [.t false (.lit (.int .i64 k)),.t false (.lit (.string name)),.t false (.lit (.string other)),.t false (.lit (.string column)),.t false (.sl (rCs cols)),.t false (.lit (.int .i64 ty)),.t false (.lit (.int .i64 v.k)),.t false (.lit (.int .i64 v.n)),.t false (.lit (.string v.s)),.t false (.sl (rVs vals)),.t false (.sl (rS fields)),.t false (.lit (.int .i64 k1)),.t false (.lit (.int .i64 v1.k)),.t false (.lit (.int .i64 v1.n)),.t false (.lit (.string v1.s)),.t false (.lit (.string n1)),.t false (.sl (a1.map rE)),.t false (.lit (.bool all)),.t false (.lit (.int .i64 k2)),.t false (.lit (.int .i64 v2.k)),.t false (.lit (.int .i64 v2.n)),.t false (.lit (.string v2.s)),.t false (.lit (.string n2)),.t false (.sl (a2.map rE)),.t false (.lit (.string order)),.t false (.lit (.int .i64 limit))])]⟩ ?_ ?_
 ·refine cw_cond rfl (fun hp=>?_) (fun hp=>?_)
  ·rw [if_pos (by have:=of_decide_eq_true hp;omega)]
   refine au_ an0 ?_
   exact le_
  ·rw [if_neg (by have:=of_decide_eq_false hp;omega)]
   refine au_ an0 ?_
   exact le_
 generalize (if 0 < fields.length then jf else ⟨#[42]⟩:ByteArray)=ft at *
 refine gs_ ?_
 (refine rn_ 8 an0 fun K hK=>?_;refine rr_ an0 ?_)
 (refine rwr_io 40 (SpIO.ren (hW0) [(1000,1000),(25,17)] rfl) rfl rfl (by simp only [go_sem,prnNew,prnUsed,rowW,hX];exact rfl) (by simp only [go_sem,prnNew,prnUsed,rowW,hX]) (by simp only [go_sem,prnNew,prnUsed,rowW,hX]) (by simp only [go_sem,prnNew,prnUsed,rowW,hX]) (by simp only [go_sem,prnNew,prnUsed,rowW,hX]) rfl (by rw [hX];rfl) ?_;simp only [go_sem,prnNew,prnUsed,rowW,hX])
 ((first | refine rwr_nil (hK _ ?_) | refine de_ (hK _ ?_));clear hK K)
 refine gs_ ?_
 (refine rn_ 8 an0 fun K hK=>?_;refine rr_ an0 ?_)
 (refine rwr_io 40 (SpIO.ren (hWh) [(1000,1000),(1001,17)] rfl) rfl rfl (by simp only [go_sem,prnNew,prnUsed,rowW,hX];exact rfl) (by simp only [go_sem,prnNew,prnUsed,rowW,hX]) (by simp only [go_sem,prnNew,prnUsed,rowW,hX]) (by simp only [go_sem,prnNew,prnUsed,rowW,hX]) (by simp only [go_sem,prnNew,prnUsed,rowW,hX]) rfl (by rw [hX];rfl) ?_;simp only [go_sem,prnNew,prnUsed,rowW,hX])
 ((first | refine rwr_nil (hK _ ?_) | refine de_ (hK _ ?_));clear hK K)
 refine au_ an0 ?_
 refine cw_meetn ⟨[(3,.one (.optr 3 0)),(0,.one (.optr 1000 0))],[(1000,prnUsed 1000 17 s2.length),(17,rowW (strRows (bs s2))),(3,.var 31 [.t false (.lit (.int .i64 k)),.t false (.lit (.string name)),.t false (.lit (.string other)),.t false (.lit (.string column)),.t false (.sl (rCs cols)),.t false (.lit (.int .i64 ty)),.t false (.lit (.int .i64 v.k)),.t false (.lit (.int .i64 v.n)),.t false (.lit (.string v.s)),.t false (.sl (rVs vals)),.t false (.sl (rS fields)),.t false (.lit (.int .i64 k1)),.t false (.lit (.int .i64 v1.k)),.t false (.lit (.int .i64 v1.n)),.t false (.lit (.string v1.s)),.t false (.lit (.string n1)),.t false (.sl (a1.map rE)),.t false (.lit (.bool all)),.t false (.lit (.int .i64 k2)),.t false (.lit (.int .i64 v2.k)),.t false (.lit (.int .i64 v2.n)),.t false (.lit (.string v2.s)),.t false (.lit (.string n2)),.t false (.sl (a2.map rE)),.t false (.lit (.string order)),.t false (.lit (.int .i64 limit))])]⟩ ?_ ?_
 ·refine cw_cond rfl (fun hp=>?_) (fun hp=>?_)
  ·have e:emptyT order=false:=by unfold emptyT;simpa using hp
   rw [if_neg (by rw [e];decide)] at hs2
   unfold wOrder wBy at hs2
   rw [← hs2] at hO
   (refine rn_ 8 an0 fun K hK=>?_;refine rr_ an0 ?_)
   (refine rwr_io 40 (SpIO.ren (hO) [(1000,1000),(1001,17)] rfl) rfl rfl (by simp only [go_sem,prnNew,prnUsed,rowW,hX];exact rfl) (by simp only [go_sem,prnNew,prnUsed,rowW,hX]) (by simp only [go_sem,prnNew,prnUsed,rowW,hX]) (by simp only [go_sem,prnNew,prnUsed,rowW,hX]) (by simp only [go_sem,prnNew,prnUsed,rowW,hX]) rfl (by rw [hX];rfl) ?_;simp only [go_sem,prnNew,prnUsed,rowW,hX])
   ((first | refine rwr_nil (hK _ ?_) | refine de_ (hK _ ?_));clear hK K)
   refine au_ an0 ?_
   exact le_
  ·have e:emptyT order=true:=by unfold emptyT;simpa using hp
   rw [if_pos e,wordsT,List.append_nil] at hs2
   subst hs2
   refine au_ an0 ?_
   exact le_
 refine gs_ ?_
 refine au_ an0 ?_
 refine cw_cond rfl (fun hp=>?_) (fun hp=>?_)
 ·rw [if_pos (by have:=of_decide_eq_true hp;omega)]
  unfold wLimit
  generalize s2++wordsT [⟨#[108,105,109,105,116]⟩,dl]=un at *
  (refine rn_ 8 an0 fun K hK=>?_;refine rr_ an0 ?_)
  (refine ca_ an0 ?_ (hsp:=hD);refine rr_ an0 ?_)
  (refine rwr_io 40 (SpIO.ren (hLi) [(1000,1000),(1001,17)] rfl) rfl rfl (by simp only [go_sem,prnNew,prnUsed,rowW,hX];exact rfl) (by simp only [go_sem,prnNew,prnUsed,rowW,hX]) (by simp only [go_sem,prnNew,prnUsed,rowW,hX]) (by simp only [go_sem,prnNew,prnUsed,rowW,hX]) (by simp only [go_sem,prnNew,prnUsed,rowW,hX]) rfl (by rw [hX];rfl) ?_;simp only [go_sem,prnNew,prnUsed,rowW,hX])
  ((first | refine rwr_nil (hK _ ?_) | refine de_ (hK _ ?_));clear hK K)
  refine au_ an0 ?_
  exact oi_ an0 (.inr rfl)
 ·rw [if_neg (by have:=of_decide_eq_false hp;omega),wordsT,List.append_nil]
  refine au_ an0 ?_
  exact oi_ an0 (.inr rfl)
end Go.Proofs.YtjdgejfhnfnmgaaGreatDoor.Ax
namespace Go.Proofs.YtjdgejfhnfnmgaaGreatDoor.Ax
open Go.RowKit
set_option linter.unusedSimpArgs false
attribute [local go_sem] ty3 ty4 ty9 ty5 ty26 ty54 ty22 ty24 ty25 ty27 ty29 ty31 ty91 ty85 prnNew prnUsed rowW
set_option linter.unusedVariables false
set_option maxRecDepth 100000
theorem comma_len {l:List ByteArray} {B:Nat} (h:∀ x ∈ l,x.size≤B):∀ k,k≤l.length→(commaL (l.take k)).length≤k * (B + 2)
 | 0,_=>by rw [List.take_zero];exact Nat.zero_le _
 | k + 1,hk=>by
  obtain ⟨x,hx⟩:∃ x,l[k]?=some x:=⟨_,List.getElem?_eq_getElem (by omega)⟩
  have h1:=comma_len h k (by omega)
  have h2:=h x (List.mem_of_getElem? hx)
  have h3:x.data.toList.length=x.size:=rfl
  rw [comma_take hx,List.length_append,List.length_append,Nat.add_mul,Nat.one_mul]
  split
  ·simp only [List.length_nil];omega
  ·simp only [List.length_cons,List.length_nil];omega
theorem comma_all {l:List ByteArray} {B:Nat} (h:∀ x ∈ l,x.size≤B):(commaL l).length≤l.length * (B + 2):=by
 have:=comma_len h l.length (Nat.le_refl _)
 rwa [List.take_length] at this
theorem listT_size (l:List ByteArray):(listT l).size=1 + (commaL l).length + 1:=by
 unfold listT
 rw [ByteArray.size_append,ByteArray.size_append,bs_size]
 rfl
theorem cols_comma {c:Cm} (hr:Rt c):(commaL (c.cols.map colT)).length≤11000:=by
 have h:=comma_all (l:=c.cols.map colT) (B:=2005) fun x hx=>by
  obtain ⟨y,hy,rfl⟩:=List.mem_map.1 hx
  have h1:=(hr.colOk y hy).1
  have h2:=kindT_small y.ty
  unfold colT
  rw [ByteArray.size_append,ByteArray.size_append]
  show y.name.size + 1 + _≤_
  omega
 rw [List.length_map] at h
 have:=Nat.mul_le_mul_right (2005 + 2) hr.cols
 omega
theorem vals_comma {c:Cm} (hr:Rt c):(commaL (c.vals.map valT)).length≤11000:=by
 have h:=comma_all (l:=c.vals.map valT) (B:=22) fun x hx=>by
  obtain ⟨y,hy,rfl⟩:=List.mem_map.1 hx
  exact valT_small (hr.valOk y hy)
 rw [List.length_map] at h
 have:=Nat.mul_le_mul_right (22 + 2) hr.vals
 omega
theorem fields_comma {c:Cm} (hr:Rt c):(commaL c.fields).length≤20000:=by
 have h:=comma_all (l:=c.fields) (B:=2000) hr.fieldOk
 have:=Nat.mul_le_mul_right (2000 + 2) hr.fields
 omega
theorem kF {k j:Int} (h:k=j):((k==1)=(j==1)∧(k==2)=(j==2)∧(k==3)=(j==3)∧(k==4)=(j==4)∧(k==5)=(j==5)∧(k==6)=(j==6))∧((k==7)=(j==7)∧(k==8)=(j==8)∧(k==9)=(j==9)∧(k==10)=(j==10)∧(k==11)=(j==11)∧(k==12)=(j==12))∧((k==13)=(j==13)∧(k==14)=(j==14)∧(k==15)=(j==15)∧(k==16)=(j==16))∧(decide (11≤k) && decide (k≤13))=(decide (11≤j) && decide (j≤13)):=by
 subst h
 exact an4 (an6 rfl rfl rfl rfl rfl rfl) (an6 rfl rfl rfl rfl rfl rfl) (an4 rfl rfl rfl rfl) rfl
theorem siz_:True:=trivial
def bracT (s:ByteArray):ByteArray:=(⟨#[40]⟩++s)++⟨#[41]⟩
set_option maxHeartbeats 8000000 in
theorem cmd1_io (c:Cm) (hr:Rt c) (hk:c.k=1):∃ un:List UInt8,un=textW [⟨#[99,114,101,97,116,101]⟩,⟨#[116,97,98,108,101]⟩,c.name,listT (c.cols.map colT)]∧SpIO Tryz.prog 56 [.one (.optr 1000 0),vCm c] [(1000,prnNew)] (.tup []) [(1000,prnUsed 1000 162 un.length),(162,rowW (strRows (bs un)))] [1000]:=by
 have q1:=hr.name
 have q2:=hr.other
 have q3:=hr.column
 have q4:=kindT_small c.ty
 have q5:=valT_small hr.v
 have q6:=cols_comma hr
 have q7:=listT_size (c.cols.map colT)
 have hLc:=listCol_sp c.cols hr.cols hr.colOk (by omega)
 have hW0:=words_new ⟨#[99,114,101,97,116,101]⟩ [⟨#[116,97,98,108,101]⟩,c.name,listT (c.cols.map colT)] (by decide) (fun y hy=>by
  simp only [List.mem_cons,List.not_mem_nil,or_false] at hy
  rcases hy with rfl | rfl | rfl | rfl
  all_goals first | decide | omega) (by show 4≤1000;decide)
 obtain ⟨s0,hs0⟩:∃ s,s=textW [⟨#[99,114,101,97,116,101]⟩,⟨#[116,97,98,108,101]⟩,c.name,listT (c.cols.map colT)]:=⟨_,rfl⟩
 rw [← hs0] at hW0
 refine ⟨s0,by rw [hs0],?_⟩
 clear hs0
 generalize listT (c.cols.map colT)=lt at *
 generalize kindT c.ty=kt at *
 generalize valT c.v=vt at *
 clear hr
 obtain ⟨k,name,other,column,cols,ty,v,vals,fields,⟨k1,v1,n1,a1⟩,all,⟨k2,v2,n2,a2⟩,order,limit⟩:=c
 dsimp only at *
 unfold vCm
 rw [rCm_mk]
 have F:=kF hk
 (refine ei_ Tryz.func56 Tryz.ntmps56 Tryz.results56 fun X hX=>?_)
 refine au_ F ?_
 (refine dr_ 0 an0 fun K hK=>?_)
 refine dx_ an0 ?_
 (refine di_ 0 an0 (SpIO.ren (hW0) [(1000,1000),(25,162)] rfl) ?_)
 (refine de_ (hK _ ?_);clear hK K)
 refine au_ an0 ?_
 exact oi_ an0 (.inr rfl)
set_option maxHeartbeats 8000000 in
theorem cmd2_io (c:Cm) (hr:Rt c) (hk:c.k=2):∃ un:List UInt8,un=textW [⟨#[100,114,111,112]⟩,⟨#[116,97,98,108,101]⟩,c.name]∧SpIO Tryz.prog 56 [.one (.optr 1000 0),vCm c] [(1000,prnNew)] (.tup []) [(1000,prnUsed 1000 162 un.length),(162,rowW (strRows (bs un)))] [1000]:=by
 have q1:=hr.name
 have q2:=hr.other
 have q3:=hr.column
 have q4:=kindT_small c.ty
 have q5:=valT_small hr.v
 have hW0:=words_new ⟨#[100,114,111,112]⟩ [⟨#[116,97,98,108,101]⟩,c.name] (by decide) (fun y hy=>by
  simp only [List.mem_cons,List.not_mem_nil,or_false] at hy
  rcases hy with rfl | rfl | rfl
  all_goals first | decide | omega) (by show 3≤1000;decide)
 obtain ⟨s0,hs0⟩:∃ s,s=textW [⟨#[100,114,111,112]⟩,⟨#[116,97,98,108,101]⟩,c.name]:=⟨_,rfl⟩
 rw [← hs0] at hW0
 refine ⟨s0,by rw [hs0],?_⟩
 clear hs0
 generalize kindT c.ty=kt at *
 generalize valT c.v=vt at *
 clear hr
 obtain ⟨k,name,other,column,cols,ty,v,vals,fields,⟨k1,v1,n1,a1⟩,all,⟨k2,v2,n2,a2⟩,order,limit⟩:=c
 dsimp only at *
 unfold vCm
 rw [rCm_mk]
 have F:=kF hk
 (refine ei_ Tryz.func56 Tryz.ntmps56 Tryz.results56 fun X hX=>?_)
 refine au_ F ?_
 (refine rn_ 8 an0 fun K hK=>?_;refine rr_ an0 ?_)
 (refine rwr_io 40 (SpIO.ren (hW0) [(1000,1000),(25,162)] rfl) rfl rfl (by simp only [go_sem,prnNew,prnUsed,rowW,hX];exact rfl) (by simp only [go_sem,prnNew,prnUsed,rowW,hX]) (by simp only [go_sem,prnNew,prnUsed,rowW,hX]) (by simp only [go_sem,prnNew,prnUsed,rowW,hX]) (by simp only [go_sem,prnNew,prnUsed,rowW,hX]) rfl (by rw [hX];rfl) ?_;simp only [go_sem,prnNew,prnUsed,rowW,hX])
 ((first | refine rwr_nil (hK _ ?_) | refine de_ (hK _ ?_));clear hK K)
 refine au_ an0 ?_
 exact oi_ an0 (.inr rfl)
set_option maxHeartbeats 8000000 in
theorem cmd3_io (c:Cm) (hr:Rt c) (hk:c.k=3):∃ un:List UInt8,un=textW [⟨#[97,108,116,101,114]⟩,⟨#[116,97,98,108,101]⟩,c.name]++wordsT [⟨#[97,100,100]⟩,c.column,kindT c.ty,⟨#[100,101,102,97,117,108,116]⟩,valT c.v]∧SpIO Tryz.prog 56 [.one (.optr 1000 0),vCm c] [(1000,prnNew)] (.tup []) [(1000,prnUsed 1000 162 un.length),(162,rowW (strRows (bs un)))] [1000]:=by
 have q1:=hr.name
 have q2:=hr.other
 have q3:=hr.column
 have q4:=kindT_small c.ty
 have q5:=valT_small hr.v
 have hK:=skind_sp c.ty (hr.ty (by rw [hk];rfl)).1 (hr.ty (by rw [hk];rfl)).2
 have hV:=sval_sp c.v hr.v
 have hW0:=words_new ⟨#[97,108,116,101,114]⟩ [⟨#[116,97,98,108,101]⟩,c.name] (by decide) (fun y hy=>by
  simp only [List.mem_cons,List.not_mem_nil,or_false] at hy
  rcases hy with rfl | rfl | rfl
  all_goals first | decide | omega) (by show 3≤1000;decide)
 obtain ⟨s0,hs0⟩:∃ s,s=textW [⟨#[97,108,116,101,114]⟩,⟨#[116,97,98,108,101]⟩,c.name]:=⟨_,rfl⟩
 rw [← hs0] at hW0
 have hb0:0 < s0.length∧s0.length≤100000:=by
  rw [hs0]
  simp only [textW,wordsT,List.length_append,List.length_cons,List.length_nil,siz_]
  have:∀ s:ByteArray,s.data.toList.length=s.size:=fun _=>rfl
  simp only [this]
  refine ⟨?_,?_⟩ <;> (try simp only [siz_lit]) <;> omega
 have hW1:=words_use s0 [⟨#[97,100,100]⟩,c.column,kindT c.ty,⟨#[100,101,102,97,117,108,116]⟩,valT c.v] hb0.1 (by omega) (fun y hy=>by
  simp only [List.mem_cons,List.not_mem_nil,or_false] at hy
  rcases hy with rfl | rfl | rfl | rfl | rfl
  all_goals first | decide | omega) (by show 5≤1000;decide) (by show ¬ 5=0;decide)
 obtain ⟨s1,hs1⟩:∃ s,s=s0++wordsT [⟨#[97,100,100]⟩,c.column,kindT c.ty,⟨#[100,101,102,97,117,108,116]⟩,valT c.v]:=⟨_,rfl⟩
 rw [← hs1] at hW1
 refine ⟨s1,by rw [hs1,hs0],?_⟩
 clear hs0 hs1
 generalize kindT c.ty=kt at *
 generalize valT c.v=vt at *
 clear hr
 obtain ⟨k,name,other,column,cols,ty,v,vals,fields,⟨k1,v1,n1,a1⟩,all,⟨k2,v2,n2,a2⟩,order,limit⟩:=c
 dsimp only at *
 unfold vCm
 rw [rCm_mk]
 have F:=kF hk
 (refine ei_ Tryz.func56 Tryz.ntmps56 Tryz.results56 fun X hX=>?_)
 refine au_ F ?_
 (refine rn_ 8 an0 fun K hK=>?_;refine rr_ an0 ?_)
 (refine rwr_io 40 (SpIO.ren (hW0) [(1000,1000),(25,162)] rfl) rfl rfl (by simp only [go_sem,prnNew,prnUsed,rowW,hX];exact rfl) (by simp only [go_sem,prnNew,prnUsed,rowW,hX]) (by simp only [go_sem,prnNew,prnUsed,rowW,hX]) (by simp only [go_sem,prnNew,prnUsed,rowW,hX]) (by simp only [go_sem,prnNew,prnUsed,rowW,hX]) rfl (by rw [hX];rfl) ?_;simp only [go_sem,prnNew,prnUsed,rowW,hX])
 ((first | refine rwr_nil (hK _ ?_) | refine de_ (hK _ ?_));clear hK K)
 refine gs_ ?_
 (refine dr_ 0 an0 fun K hK=>?_)
 refine dx_ an0 ?_
 (refine di_ 0 an0 (SpIO.ren (hW1) [(1000,1000),(1001,162)] rfl) ?_)
 (refine de_ (hK _ ?_);clear hK K)
 refine au_ an0 ?_
 exact oi_ an0 (.inr rfl)
set_option maxHeartbeats 8000000 in
theorem cmd4_io (c:Cm) (hr:Rt c) (hk:c.k=4):∃ un:List UInt8,un=textW [⟨#[97,108,116,101,114]⟩,⟨#[116,97,98,108,101]⟩,c.name]++wordsT [⟨#[100,114,111,112]⟩,c.column]∧SpIO Tryz.prog 56 [.one (.optr 1000 0),vCm c] [(1000,prnNew)] (.tup []) [(1000,prnUsed 1000 162 un.length),(162,rowW (strRows (bs un)))] [1000]:=by
 have q1:=hr.name
 have q2:=hr.other
 have q3:=hr.column
 have q4:=kindT_small c.ty
 have q5:=valT_small hr.v
 have hW0:=words_new ⟨#[97,108,116,101,114]⟩ [⟨#[116,97,98,108,101]⟩,c.name] (by decide) (fun y hy=>by
  simp only [List.mem_cons,List.not_mem_nil,or_false] at hy
  rcases hy with rfl | rfl | rfl
  all_goals first | decide | omega) (by show 3≤1000;decide)
 obtain ⟨s0,hs0⟩:∃ s,s=textW [⟨#[97,108,116,101,114]⟩,⟨#[116,97,98,108,101]⟩,c.name]:=⟨_,rfl⟩
 rw [← hs0] at hW0
 have hb0:0 < s0.length∧s0.length≤100000:=by
  rw [hs0]
  simp only [textW,wordsT,List.length_append,List.length_cons,List.length_nil,siz_]
  have:∀ s:ByteArray,s.data.toList.length=s.size:=fun _=>rfl
  simp only [this]
  refine ⟨?_,?_⟩ <;> (try simp only [siz_lit]) <;> omega
 have hW1:=words_use s0 [⟨#[100,114,111,112]⟩,c.column] hb0.1 (by omega) (fun y hy=>by
  simp only [List.mem_cons,List.not_mem_nil,or_false] at hy
  rcases hy with rfl | rfl
  all_goals first | decide | omega) (by show 2≤1000;decide) (by show ¬ 2=0;decide)
 obtain ⟨s1,hs1⟩:∃ s,s=s0++wordsT [⟨#[100,114,111,112]⟩,c.column]:=⟨_,rfl⟩
 rw [← hs1] at hW1
 refine ⟨s1,by rw [hs1,hs0],?_⟩
 clear hs0 hs1
 generalize kindT c.ty=kt at *
 generalize valT c.v=vt at *
 clear hr
 obtain ⟨k,name,other,column,cols,ty,v,vals,fields,⟨k1,v1,n1,a1⟩,all,⟨k2,v2,n2,a2⟩,order,limit⟩:=c
 dsimp only at *
 unfold vCm
 rw [rCm_mk]
 have F:=kF hk
 (refine ei_ Tryz.func56 Tryz.ntmps56 Tryz.results56 fun X hX=>?_)
 refine au_ F ?_
 (refine rn_ 8 an0 fun K hK=>?_;refine rr_ an0 ?_)
 (refine rwr_io 40 (SpIO.ren (hW0) [(1000,1000),(25,162)] rfl) rfl rfl (by simp only [go_sem,prnNew,prnUsed,rowW,hX];exact rfl) (by simp only [go_sem,prnNew,prnUsed,rowW,hX]) (by simp only [go_sem,prnNew,prnUsed,rowW,hX]) (by simp only [go_sem,prnNew,prnUsed,rowW,hX]) (by simp only [go_sem,prnNew,prnUsed,rowW,hX]) rfl (by rw [hX];rfl) ?_;simp only [go_sem,prnNew,prnUsed,rowW,hX])
 ((first | refine rwr_nil (hK _ ?_) | refine de_ (hK _ ?_));clear hK K)
 refine gs_ ?_
 (refine rn_ 8 an0 fun K hK=>?_;refine rr_ an0 ?_)
 (refine rwr_io 40 (SpIO.ren (hW1) [(1000,1000),(1001,162)] rfl) rfl rfl (by simp only [go_sem,prnNew,prnUsed,rowW,hX];exact rfl) (by simp only [go_sem,prnNew,prnUsed,rowW,hX]) (by simp only [go_sem,prnNew,prnUsed,rowW,hX]) (by simp only [go_sem,prnNew,prnUsed,rowW,hX]) (by simp only [go_sem,prnNew,prnUsed,rowW,hX]) rfl (by rw [hX];rfl) ?_;simp only [go_sem,prnNew,prnUsed,rowW,hX])
 ((first | refine rwr_nil (hK _ ?_) | refine de_ (hK _ ?_));clear hK K)
 refine au_ an0 ?_
 exact oi_ an0 (.inr rfl)
set_option maxHeartbeats 8000000 in
theorem cmd5_io (c:Cm) (hr:Rt c) (hk:c.k=5):∃ un:List UInt8,un=textW [⟨#[97,108,116,101,114]⟩,⟨#[116,97,98,108,101]⟩,c.name]++wordsT [⟨#[114,101,110,97,109,101]⟩,c.column,⟨#[116,111]⟩,c.other]∧SpIO Tryz.prog 56 [.one (.optr 1000 0),vCm c] [(1000,prnNew)] (.tup []) [(1000,prnUsed 1000 162 un.length),(162,rowW (strRows (bs un)))] [1000]:=by
 have q1:=hr.name
 have q2:=hr.other
 have q3:=hr.column
 have q4:=kindT_small c.ty
 have q5:=valT_small hr.v
 have hW0:=words_new ⟨#[97,108,116,101,114]⟩ [⟨#[116,97,98,108,101]⟩,c.name] (by decide) (fun y hy=>by
  simp only [List.mem_cons,List.not_mem_nil,or_false] at hy
  rcases hy with rfl | rfl | rfl
  all_goals first | decide | omega) (by show 3≤1000;decide)
 obtain ⟨s0,hs0⟩:∃ s,s=textW [⟨#[97,108,116,101,114]⟩,⟨#[116,97,98,108,101]⟩,c.name]:=⟨_,rfl⟩
 rw [← hs0] at hW0
 have hb0:0 < s0.length∧s0.length≤100000:=by
  rw [hs0]
  simp only [textW,wordsT,List.length_append,List.length_cons,List.length_nil,siz_]
  have:∀ s:ByteArray,s.data.toList.length=s.size:=fun _=>rfl
  simp only [this]
  refine ⟨?_,?_⟩ <;> (try simp only [siz_lit]) <;> omega
 have hW1:=words_use s0 [⟨#[114,101,110,97,109,101]⟩,c.column,⟨#[116,111]⟩,c.other] hb0.1 (by omega) (fun y hy=>by
  simp only [List.mem_cons,List.not_mem_nil,or_false] at hy
  rcases hy with rfl | rfl | rfl | rfl
  all_goals first | decide | omega) (by show 4≤1000;decide) (by show ¬ 4=0;decide)
 obtain ⟨s1,hs1⟩:∃ s,s=s0++wordsT [⟨#[114,101,110,97,109,101]⟩,c.column,⟨#[116,111]⟩,c.other]:=⟨_,rfl⟩
 rw [← hs1] at hW1
 refine ⟨s1,by rw [hs1,hs0],?_⟩
 clear hs0 hs1
 generalize kindT c.ty=kt at *
 generalize valT c.v=vt at *
 clear hr
 obtain ⟨k,name,other,column,cols,ty,v,vals,fields,⟨k1,v1,n1,a1⟩,all,⟨k2,v2,n2,a2⟩,order,limit⟩:=c
 dsimp only at *
 unfold vCm
 rw [rCm_mk]
 have F:=kF hk
 (refine ei_ Tryz.func56 Tryz.ntmps56 Tryz.results56 fun X hX=>?_)
 refine au_ F ?_
 (refine rn_ 8 an0 fun K hK=>?_;refine rr_ an0 ?_)
 (refine rwr_io 40 (SpIO.ren (hW0) [(1000,1000),(25,162)] rfl) rfl rfl (by simp only [go_sem,prnNew,prnUsed,rowW,hX];exact rfl) (by simp only [go_sem,prnNew,prnUsed,rowW,hX]) (by simp only [go_sem,prnNew,prnUsed,rowW,hX]) (by simp only [go_sem,prnNew,prnUsed,rowW,hX]) (by simp only [go_sem,prnNew,prnUsed,rowW,hX]) rfl (by rw [hX];rfl) ?_;simp only [go_sem,prnNew,prnUsed,rowW,hX])
 ((first | refine rwr_nil (hK _ ?_) | refine de_ (hK _ ?_));clear hK K)
 refine gs_ ?_
 (refine rn_ 8 an0 fun K hK=>?_;refine rr_ an0 ?_)
 (refine rwr_io 40 (SpIO.ren (hW1) [(1000,1000),(1001,162)] rfl) rfl rfl (by simp only [go_sem,prnNew,prnUsed,rowW,hX];exact rfl) (by simp only [go_sem,prnNew,prnUsed,rowW,hX]) (by simp only [go_sem,prnNew,prnUsed,rowW,hX]) (by simp only [go_sem,prnNew,prnUsed,rowW,hX]) (by simp only [go_sem,prnNew,prnUsed,rowW,hX]) rfl (by rw [hX];rfl) ?_;simp only [go_sem,prnNew,prnUsed,rowW,hX])
 ((first | refine rwr_nil (hK _ ?_) | refine de_ (hK _ ?_));clear hK K)
 refine au_ an0 ?_
 exact oi_ an0 (.inr rfl)
set_option maxHeartbeats 8000000 in
theorem cmd6_io (c:Cm) (hr:Rt c) (hk:c.k=6):∃ un:List UInt8,un=textW [⟨#[97,108,116,101,114]⟩,⟨#[116,97,98,108,101]⟩,c.name]++wordsT [⟨#[114,101,116,121,112,101]⟩,c.column,kindT c.ty]∧SpIO Tryz.prog 56 [.one (.optr 1000 0),vCm c] [(1000,prnNew)] (.tup []) [(1000,prnUsed 1000 162 un.length),(162,rowW (strRows (bs un)))] [1000]:=by
 have q1:=hr.name
 have q2:=hr.other
 have q3:=hr.column
 have q4:=kindT_small c.ty
 have q5:=valT_small hr.v
 have hK:=skind_sp c.ty (hr.ty (by rw [hk];rfl)).1 (hr.ty (by rw [hk];rfl)).2
 have hW0:=words_new ⟨#[97,108,116,101,114]⟩ [⟨#[116,97,98,108,101]⟩,c.name] (by decide) (fun y hy=>by
  simp only [List.mem_cons,List.not_mem_nil,or_false] at hy
  rcases hy with rfl | rfl | rfl
  all_goals first | decide | omega) (by show 3≤1000;decide)
 obtain ⟨s0,hs0⟩:∃ s,s=textW [⟨#[97,108,116,101,114]⟩,⟨#[116,97,98,108,101]⟩,c.name]:=⟨_,rfl⟩
 rw [← hs0] at hW0
 have hb0:0 < s0.length∧s0.length≤100000:=by
  rw [hs0]
  simp only [textW,wordsT,List.length_append,List.length_cons,List.length_nil,siz_]
  have:∀ s:ByteArray,s.data.toList.length=s.size:=fun _=>rfl
  simp only [this]
  refine ⟨?_,?_⟩ <;> (try simp only [siz_lit]) <;> omega
 have hW1:=words_use s0 [⟨#[114,101,116,121,112,101]⟩,c.column,kindT c.ty] hb0.1 (by omega) (fun y hy=>by
  simp only [List.mem_cons,List.not_mem_nil,or_false] at hy
  rcases hy with rfl | rfl | rfl
  all_goals first | decide | omega) (by show 3≤1000;decide) (by show ¬ 3=0;decide)
 obtain ⟨s1,hs1⟩:∃ s,s=s0++wordsT [⟨#[114,101,116,121,112,101]⟩,c.column,kindT c.ty]:=⟨_,rfl⟩
 rw [← hs1] at hW1
 refine ⟨s1,by rw [hs1,hs0],?_⟩
 clear hs0 hs1
 generalize kindT c.ty=kt at *
 generalize valT c.v=vt at *
 clear hr
 obtain ⟨k,name,other,column,cols,ty,v,vals,fields,⟨k1,v1,n1,a1⟩,all,⟨k2,v2,n2,a2⟩,order,limit⟩:=c
 dsimp only at *
 unfold vCm
 rw [rCm_mk]
 have F:=kF hk
 (refine ei_ Tryz.func56 Tryz.ntmps56 Tryz.results56 fun X hX=>?_)
 refine au_ F ?_
 (refine rn_ 8 an0 fun K hK=>?_;refine rr_ an0 ?_)
 (refine rwr_io 40 (SpIO.ren (hW0) [(1000,1000),(25,162)] rfl) rfl rfl (by simp only [go_sem,prnNew,prnUsed,rowW,hX];exact rfl) (by simp only [go_sem,prnNew,prnUsed,rowW,hX]) (by simp only [go_sem,prnNew,prnUsed,rowW,hX]) (by simp only [go_sem,prnNew,prnUsed,rowW,hX]) (by simp only [go_sem,prnNew,prnUsed,rowW,hX]) rfl (by rw [hX];rfl) ?_;simp only [go_sem,prnNew,prnUsed,rowW,hX])
 ((first | refine rwr_nil (hK _ ?_) | refine de_ (hK _ ?_));clear hK K)
 refine gs_ ?_
 (refine dr_ 0 an0 fun K hK=>?_)
 refine dx_ an0 ?_
 (refine di_ 0 an0 (SpIO.ren (hW1) [(1000,1000),(1001,162)] rfl) ?_)
 (refine de_ (hK _ ?_);clear hK K)
 refine au_ an0 ?_
 exact oi_ an0 (.inr rfl)
set_option maxHeartbeats 8000000 in
theorem cmd7_io (c:Cm) (hr:Rt c) (hk:c.k=7):∃ un:List UInt8,un=textW [⟨#[97,108,116,101,114]⟩,⟨#[116,97,98,108,101]⟩,c.name]++wordsT [⟨#[114,101,110,97,109,101]⟩,⟨#[116,111]⟩,c.other]∧SpIO Tryz.prog 56 [.one (.optr 1000 0),vCm c] [(1000,prnNew)] (.tup []) [(1000,prnUsed 1000 162 un.length),(162,rowW (strRows (bs un)))] [1000]:=by
 have q1:=hr.name
 have q2:=hr.other
 have q3:=hr.column
 have q4:=kindT_small c.ty
 have q5:=valT_small hr.v
 have hW0:=words_new ⟨#[97,108,116,101,114]⟩ [⟨#[116,97,98,108,101]⟩,c.name] (by decide) (fun y hy=>by
  simp only [List.mem_cons,List.not_mem_nil,or_false] at hy
  rcases hy with rfl | rfl | rfl
  all_goals first | decide | omega) (by show 3≤1000;decide)
 obtain ⟨s0,hs0⟩:∃ s,s=textW [⟨#[97,108,116,101,114]⟩,⟨#[116,97,98,108,101]⟩,c.name]:=⟨_,rfl⟩
 rw [← hs0] at hW0
 have hb0:0 < s0.length∧s0.length≤100000:=by
  rw [hs0]
  simp only [textW,wordsT,List.length_append,List.length_cons,List.length_nil,siz_]
  have:∀ s:ByteArray,s.data.toList.length=s.size:=fun _=>rfl
  simp only [this]
  refine ⟨?_,?_⟩ <;> (try simp only [siz_lit]) <;> omega
 have hW1:=words_use s0 [⟨#[114,101,110,97,109,101]⟩,⟨#[116,111]⟩,c.other] hb0.1 (by omega) (fun y hy=>by
  simp only [List.mem_cons,List.not_mem_nil,or_false] at hy
  rcases hy with rfl | rfl | rfl
  all_goals first | decide | omega) (by show 3≤1000;decide) (by show ¬ 3=0;decide)
 obtain ⟨s1,hs1⟩:∃ s,s=s0++wordsT [⟨#[114,101,110,97,109,101]⟩,⟨#[116,111]⟩,c.other]:=⟨_,rfl⟩
 rw [← hs1] at hW1
 refine ⟨s1,by rw [hs1,hs0],?_⟩
 clear hs0 hs1
 generalize kindT c.ty=kt at *
 generalize valT c.v=vt at *
 clear hr
 obtain ⟨k,name,other,column,cols,ty,v,vals,fields,⟨k1,v1,n1,a1⟩,all,⟨k2,v2,n2,a2⟩,order,limit⟩:=c
 dsimp only at *
 unfold vCm
 rw [rCm_mk]
 have F:=kF hk
 (refine ei_ Tryz.func56 Tryz.ntmps56 Tryz.results56 fun X hX=>?_)
 refine au_ F ?_
 (refine rn_ 8 an0 fun K hK=>?_;refine rr_ an0 ?_)
 (refine rwr_io 40 (SpIO.ren (hW0) [(1000,1000),(25,162)] rfl) rfl rfl (by simp only [go_sem,prnNew,prnUsed,rowW,hX];exact rfl) (by simp only [go_sem,prnNew,prnUsed,rowW,hX]) (by simp only [go_sem,prnNew,prnUsed,rowW,hX]) (by simp only [go_sem,prnNew,prnUsed,rowW,hX]) (by simp only [go_sem,prnNew,prnUsed,rowW,hX]) rfl (by rw [hX];rfl) ?_;simp only [go_sem,prnNew,prnUsed,rowW,hX])
 ((first | refine rwr_nil (hK _ ?_) | refine de_ (hK _ ?_));clear hK K)
 refine gs_ ?_
 (refine rn_ 8 an0 fun K hK=>?_;refine rr_ an0 ?_)
 (refine rwr_io 40 (SpIO.ren (hW1) [(1000,1000),(1001,162)] rfl) rfl rfl (by simp only [go_sem,prnNew,prnUsed,rowW,hX];exact rfl) (by simp only [go_sem,prnNew,prnUsed,rowW,hX]) (by simp only [go_sem,prnNew,prnUsed,rowW,hX]) (by simp only [go_sem,prnNew,prnUsed,rowW,hX]) (by simp only [go_sem,prnNew,prnUsed,rowW,hX]) rfl (by rw [hX];rfl) ?_;simp only [go_sem,prnNew,prnUsed,rowW,hX])
 ((first | refine rwr_nil (hK _ ?_) | refine de_ (hK _ ?_));clear hK K)
 refine au_ an0 ?_
 exact oi_ an0 (.inr rfl)
set_option maxHeartbeats 8000000 in
theorem cmd8_io (c:Cm) (hr:Rt c) (hk:c.k=8):∃ un:List UInt8,un=textW [⟨#[99,114,101,97,116,101]⟩,⟨#[105,110,100,101,120]⟩,c.name,⟨#[111,110]⟩,c.other,bracT c.column]∧SpIO Tryz.prog 56 [.one (.optr 1000 0),vCm c] [(1000,prnNew)] (.tup []) [(1000,prnUsed 1000 162 un.length),(162,rowW (strRows (bs un)))] [1000]:=by
 have q1:=hr.name
 have q2:=hr.other
 have q3:=hr.column
 have q4:=kindT_small c.ty
 have q5:=valT_small hr.v
 have q8:(bracT c.column).size=1 + c.column.size + 1:=by unfold bracT;rw [ByteArray.size_append,ByteArray.size_append];rfl
 have z1:1 + c.column.size≤maxLen:=by unfold maxLen;omega
 have z2:1 + c.column.size + 1≤maxLen:=by unfold maxLen;omega
 have hW0:=words_new ⟨#[99,114,101,97,116,101]⟩ [⟨#[105,110,100,101,120]⟩,c.name,⟨#[111,110]⟩,c.other,bracT c.column] (by decide) (fun y hy=>by
  simp only [List.mem_cons,List.not_mem_nil,or_false] at hy
  rcases hy with rfl | rfl | rfl | rfl | rfl | rfl
  all_goals first | decide | omega) (by show 6≤1000;decide)
 obtain ⟨s0,hs0⟩:∃ s,s=textW [⟨#[99,114,101,97,116,101]⟩,⟨#[105,110,100,101,120]⟩,c.name,⟨#[111,110]⟩,c.other,bracT c.column]:=⟨_,rfl⟩
 rw [← hs0] at hW0
 refine ⟨s0,by rw [hs0],?_⟩
 clear hs0
 generalize kindT c.ty=kt at *
 generalize valT c.v=vt at *
 unfold bracT at hW0
 clear hr
 obtain ⟨k,name,other,column,cols,ty,v,vals,fields,⟨k1,v1,n1,a1⟩,all,⟨k2,v2,n2,a2⟩,order,limit⟩:=c
 dsimp only at *
 unfold vCm
 rw [rCm_mk]
 have F:=kF hk
 (refine ei_ Tryz.func56 Tryz.ntmps56 Tryz.results56 fun X hX=>?_)
 have F:=an3 F z1 z2
 refine au_ F ?_
 (refine rn_ 8 F fun K hK=>?_;refine rr_ F ?_)
 (refine rwr_io 40 (SpIO.ren (hW0) [(1000,1000),(25,162)] rfl) rfl rfl (by simp only [go_sem,prnNew,prnUsed,rowW,hX];exact rfl) (by simp only [go_sem,prnNew,prnUsed,rowW,hX]) (by simp only [go_sem,prnNew,prnUsed,rowW,hX]) (by simp only [go_sem,prnNew,prnUsed,rowW,hX]) (by simp only [go_sem,prnNew,prnUsed,rowW,hX]) rfl (by rw [hX];rfl) ?_;simp only [go_sem,prnNew,prnUsed,rowW,hX])
 ((first | refine rwr_nil (hK _ ?_) | refine de_ (hK _ ?_));clear hK K)
 refine au_ an0 ?_
 exact oi_ an0 (.inr rfl)
end Go.Proofs.YtjdgejfhnfnmgaaGreatDoor.Ax
