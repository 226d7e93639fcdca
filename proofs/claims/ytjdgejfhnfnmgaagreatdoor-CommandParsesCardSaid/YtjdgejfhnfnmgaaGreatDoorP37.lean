/-  -/
import Derived.Test.YtjdgejfhnfnmgaaGreatDoorP17
import Derived.Test.YtjdgejfhnfnmgaaGreatDoorP36
import Derived.Test.YtjdgejfhnfnmgaaGreatDoorP29
import Derived.Test.YtjdgejfhnfnmgaaGreatDoorP20
namespace Go.Proofs.YtjdgejfhnfnmgaaGreatDoor.Ax
open Go.RowKit
def PR.Holds {α:Type} (p:α→Nat→Prop):PR α→Prop
 | .ok a k=>p a k
 | .bad _=>True
theorem PR.Holds.bind {α β:Type} {p:α→Nat→Prop} {q:β→Nat→Prop} {x:PR α} {f:α→Nat→PR β} (hx:PR.Holds p x) (hf:∀ a k,p a k→PR.Holds q (f a k)):PR.Holds q (x.bind f):=by
 cases x with
 | ok a k=>exact hf a k hx
 | bad k=>trivial
theorem PR.Holds.mono {α:Type} {p q:α→Nat→Prop} {x:PR α} (hx:PR.Holds p x) (hf:∀ a k,p a k→q a k):PR.Holds q x:=by
 cases x with
 | ok a k=>exact hf a k hx
 | bad k=>trivial
theorem PR.Holds.any {α:Type} (x:PR α):PR.Holds (fun _ _=>True) x:=by cases x <;> trivial
theorem PR.Holds.cond {α:Type} {p:α→Nat→Prop} {b:Bool} {x y:PR α} (hx:b=true→PR.Holds p x) (hy:b=false→PR.Holds p y):PR.Holds p (bif b then x else y):=by
 cases b with
 | true=>exact hx rfl
 | false=>exact hy rfl
theorem scanS_good {s:ByteArray} (h:(scanS s).2.2=0):GoodL (scanS s).1:=by
 have h1:=(scanS_one s h).1
 have hlen:(scanS s).1.length≤2000:=by
  unfold scanS at h ⊢
  split at h
  ·cases h
  ·rename_i hs
   rw [if_neg hs]
   rcases hx:scanF (s.size + 1) s.data.toList 0 with ⟨ts,q,e⟩
   rw [hx] at h
   dsimp only at h ⊢
   subst h
   obtain rfl:=scanF_zero hx
   have:=(scanF_one _ _ _ (by rw [size_list];omega) ts hx).2
   rw [size_list] at this
   omega
 refine ⟨hlen,fun t ht=>?_⟩
 unfold allOne at h1
 have:=List.all_eq_true.1 h1 t ht
 rw [← one_tok]
 simpa using this
theorem tx_size {l:List Vl} (hl:GoodL l) (k:Nat):(txP l k).size≤2000:=by
 unfold txP
 cases ht:l[k]? with
 | none=>decide
 | some t =>
  obtain ⟨_,_,_,h,_⟩:=tok_facts (hl.tok t (List.mem_of_getElem? ht))
  exact h
theorem name_h {l:List Vl} (hl:GoodL l) (k:Nat):PR.Holds (fun s _=>s.size≤2000) (nameR l k):=PR.Holds.cond (fun _=>tx_size hl k) fun _=>trivial
theorem num_tok {l:List Vl} (hl:GoodL l) {k:Nat} (h:kindP l 2 k=true):-1000000000 < numL (txP l k).data.toList∧numL (txP l k).data.toList < 1000000000:=by
 unfold kindP at h
 unfold txP
 cases ht:l[k]? with
 | none=>rw [ht] at h;cases h
 | some t =>
  rw [ht] at h
  have hk:t.k=2:=by simpa using h
  obtain ⟨g1,g2,_⟩:=tok_num (hl.tok t (List.mem_of_getElem? ht))
  obtain ⟨g3,g4⟩:=g2 hk
  have:=numL_small g4 (by rw [size_list];exact g3) t.s.data.toList.length (Nat.le_refl _)
  rw [List.take_length] at this
  dsimp only
  omega
def smallV (v:Vl):Prop:=goodV v∧v.s.size≤2000
theorem vl_good (k n:Int) (s:ByteArray) (h1:-9223372036854775808≤k) (h2:k≤9223372036854775807) (h3:-9223372036854775808≤n) (h4:n≤9223372036854775807) (h5:s.size≤2000):smallV ⟨k,n,s⟩:=⟨⟨⟨h1,h2⟩,⟨h3,h4⟩,by show s.size≤_;omega⟩,h5⟩
theorem vP_good {l:List Vl} (hl:GoodL l) {k:Nat} {v:Vl} {k2:Nat} (h:vP l k=.yes v k2):smallV v:=by
 have hun:(unq (txP l k)).size≤2000:=by
  have:=tx_size hl k
  unfold unq
  rw [ByteArray.size_extract]
  omega
 have he:(⟨#[]⟩:ByteArray).size=0:=rfl
 unfold vP at h
 repeat' split at h
 all_goals first
  | (cases h;done)
  | (rename_i hk;have hz:=num_tok hl hk;cases h;exact vl_good _ _ _ (by decide) (by decide) (by omega) (by omega) (Nat.zero_le _))
  | (cases h;exact vl_good _ _ _ (by decide) (by decide) (by decide) (by decide) (by first | exact Nat.zero_le _ | exact hun))
theorem must_h {l:List Vl} (hl:GoodL l) (k:Nat):PR.Holds (fun v _=>smallV v) (mustR l k):=by
 unfold mustR
 cases h:vP l k with
 | yes v k2=>exact vP_good hl h
 | bad k2=>trivial
 | no=>trivial
theorem zero_good:goodV Vl.zero:=⟨⟨by decide,by decide⟩,⟨by decide,by decide⟩,Nat.zero_le _⟩
theorem zE_good:goodE zE:=.mk ⟨by decide,by decide⟩ zero_good (Nat.zero_le _) ⟨Nat.zero_le _,Nat.zero_le _⟩ (by intro a h;cases h)
theorem leaf_h {l:List Vl} (hl:GoodL l) (k:Nat):PR.Holds (fun e _=>goodE e) (leafR l k):=by
 unfold leafR
 cases h:vP l k with
 | yes v k2=>exact .mk ⟨by decide,by decide⟩ (vP_good hl h).1 (Nat.zero_le _) ⟨Nat.zero_le _,Nat.zero_le _⟩ (by intro a h;cases h)
 | bad k2=>trivial
 | no=>exact (name_h hl k).bind fun s k hs=>.mk ⟨by decide,by decide⟩ zero_good (by omega) ⟨Nat.zero_le _,Nat.zero_le _⟩ (by intro a h;cases h)
theorem ar1 {a:Ex}:[a].length * 80≤140737488351232∧[a].length≤maxLen:=⟨by rw [List.length_singleton];decide,by rw [List.length_singleton];decide⟩
theorem ar2 {a b:Ex}:[a,b].length * 80≤140737488351232∧[a,b].length≤maxLen:=by
 have:[a,b].length=2:=rfl
 rw [this]
 exact ⟨by decide,by decide⟩
theorem ex_h {l:List Vl} (hl:GoodL l):∀ (f k:Nat),PR.Holds (fun e _=>goodE e) (exR l f k)
 | 0,k=>by
  unfold exR
  exact PR.Holds.cond (fun _=>trivial) fun _=>leaf_h hl k
 | f + 1,k=>by
  have ih:=ex_h hl f
  unfold exR
  refine PR.Holds.cond (fun _=>?_) fun _=>PR.Holds.cond (fun _=>?_) fun _=>leaf_h hl k
  ·refine PR.Holds.bind (p:=fun e _=>goodE e) ?_ fun e k he=>(PR.Holds.any _).bind fun _ k _=>he
   unfold pairR
   refine (ih (k + 1)).bind fun a k ha=>PR.Holds.cond (fun _=>?_) fun _=>?_
   ·refine (PR.Holds.any _).bind fun _ k _=>?_
    exact .mk ⟨by decide,by decide⟩ zero_good (Nat.zero_le _) ar1 (by intro x hx;rw [List.mem_singleton] at hx;subst hx;exact ha)
   ·refine PR.Holds.bind (p:=fun i _=>0≤i∧i < 7) ?_ fun i k hi=>(ih k).bind fun b k hb=>?_
    ·cases hw:wordR l wAnd7 k with
     | ok i k2=>exact wordR_lt hw
     | bad k2=>trivial
    ·exact .mk ⟨by omega,by omega⟩ zero_good (Nat.zero_le _) ar2 (by
      intro x hx
      rcases List.mem_cons.1 hx with rfl | hx
      ·exact ha
      ·rw [List.mem_singleton] at hx;subst hx;exact hb)
  ·refine (ih (k + 1)).bind fun e k he=>?_
   exact .mk ⟨by decide,by decide⟩ zero_good (Nat.zero_le _) ar1 (by intro x hx;rw [List.mem_singleton] at hx;subst hx;exact he)
theorem more_h {α:Type} {p:α→Prop} {l:List Vl} {E:Nat→PR α} (hE:∀ k,PR.Holds (fun a _=>p a) (E k)):∀ (f k:Nat),PR.Holds (fun (r:List α) _=>r.length≤f∧∀ x ∈ r,p x) (moreR l E f k)
 | 0,k=>⟨Nat.le_refl _,by intro x hx;cases hx⟩
 | f + 1,k=>by
  unfold moreR
  refine PR.Holds.cond (fun _=>?_) fun _=>⟨Nat.zero_le _,by intro x hx;cases hx⟩
  refine (hE (k + 1)).bind fun a k ha=>(more_h hE f k).bind fun r k hr=>⟨by rw [List.length_cons];omega,?_⟩
  intro x hx
  rcases List.mem_cons.1 hx with rfl | hx
  ·exact ha
  ·exact hr.2 x hx
theorem some_h {α:Type} {p:α→Prop} {l:List Vl} (hl:GoodL l) {E:Nat→PR α} (hE:∀ k,PR.Holds (fun a _=>p a) (E k)) (k:Nat):PR.Holds (fun (r:List α) _=>r.length≤2002∧∀ x ∈ r,p x) (someR l E k):=by
 unfold someR
 refine (hE k).bind fun a k ha=>(more_h hE _ k).bind fun r k hr=>⟨by have:=hl.len;rw [List.length_cons];omega,?_⟩
 intro x hx
 rcases List.mem_cons.1 hx with rfl | hx
 ·exact ha
 ·exact hr.2 x hx
theorem list_h {α:Type} {p:α→Prop} {l:List Vl} (hl:GoodL l) {E:Nat→PR α} (hE:∀ k,PR.Holds (fun a _=>p a) (E k)) (k:Nat):PR.Holds (fun (r:List α) _=>r.length≤2002∧∀ x ∈ r,p x) (listR l E k):=by
 unfold listR
 exact (PR.Holds.any _).bind fun _ k _=>(some_h hl hE k).bind fun r k hr=>(PR.Holds.any _).bind fun _ k _=>hr
theorem where_h {l:List Vl} (hl:GoodL l) (k:Nat):PR.Holds (fun w _=>goodE w.2) (whereR l k):=by
 unfold whereR
 exact PR.Holds.cond (fun _=>(ex_h hl 60 (k + 1)).bind fun e k he=>he) fun _=>zE_good
theorem col_h {l:List Vl} (hl:GoodL l) (k:Nat):PR.Holds (fun c _=>c.name.size≤2000) (colR l k):=by
 unfold colR
 exact (name_h hl k).bind fun s k hs=>(PR.Holds.any _).bind fun t k _=>hs
theorem zCm_good:goodCm zCm:=⟨by decide,by decide,by decide,by decide,(by intro x h;cases h),by decide,by decide,(by intro x h;cases h),by decide,(by intro x h;cases h),zE_good,zE_good,by decide⟩
theorem max_le {n:Nat} (h:n≤2002):n≤maxLen:=by unfold maxLen;omega
theorem body_h {l:List Vl} (hl:GoodL l) (i:Int) (k:Nat):PR.Holds (fun c _=>goodCm c) (bodyR l i k):=by
 have z:=zCm_good
 have nm:=fun {q:Cm→Prop} (f:ByteArray→Nat→PR Cm) (k:Nat) (hf:∀ s k,s.size≤maxLen→PR.Holds (fun c _=>q c) (f s k))=>(name_h hl k).bind (q:=fun c _=>q c) (f:=f) fun s k hs=>hf s k (max_le (by omega))
 have an:=fun {α:Type} (x:PR α) (f:α→Nat→PR Cm) (hf:∀ a k,PR.Holds (fun c _=>goodCm c) (f a k))=>(PR.Holds.any x).bind (q:=fun c _=>goodCm c) (f:=f) fun a k _=>hf a k
 unfold bodyR
 refine PR.Holds.cond (fun _=>?_) fun _=>PR.Holds.cond (fun _=>?_) fun _=>PR.Holds.cond (fun _=>?_) fun _=>PR.Holds.cond (fun _=>?_) fun _=>PR.Holds.cond (fun _=>?_) fun _=>PR.Holds.cond (fun _=>?_) fun _=>PR.Holds.cond (fun _=>?_) fun _=>PR.Holds.cond (fun _=>?_) fun _=>PR.Holds.cond (fun _=>?_) fun _=>?_
 ·unfold createR
  refine an _ _ fun i k=>nm _ k fun s k hs=>PR.Holds.cond (fun _=>?_) fun _=>?_
  ·refine (list_h hl (col_h hl) k).bind fun r k hr=>?_
   exact { z with name:=hs,cols:=max_le hr.1,colN:=fun x hx=>max_le (by have:=hr.2 x hx;omega) }
  ·refine an _ _ fun _ k=>nm _ k fun o k ho=>an _ _ fun _ k=>nm _ k fun c k hc=>an _ _ fun _ k=>?_
   exact { z with name:=hs,other:=ho,column:=hc }
 ·unfold dropR
  refine an _ _ fun i k=>nm _ k fun s k hs=>?_
  exact { z with name:=hs }
 ·unfold alterR
  refine an _ _ fun _ k=>nm _ k fun s k hs=>an _ _ fun i k=>PR.Holds.cond (fun _=>?_) fun _=>PR.Holds.cond (fun _=>?_) fun _=>PR.Holds.cond (fun _=>?_) fun _=>?_
  ·refine (col_h hl k).bind fun x k hx=>an _ _ fun _ k=>(must_h hl k).bind fun v k hv=>?_
   exact { z with name:=hs,column:=max_le (by show x.name.size≤2002;omega),v:=max_le (by have:=hv.2;show v.s.size≤2002;omega) }
  ·refine nm _ k fun c k hc=>?_
   exact { z with name:=hs,column:=hc }
  ·refine PR.Holds.cond (fun _=>?_) fun _=>?_
   ·refine nm _ _ fun o k ho=>?_
    exact { z with name:=hs,other:=ho }
   ·refine nm _ k fun c k hc=>an _ _ fun _ k=>nm _ k fun o k ho=>?_
    exact { z with name:=hs,column:=hc,other:=ho }
  ·refine nm _ k fun c k hc=>an _ _ fun t k=>?_
   exact { z with name:=hs,column:=hc }
 ·unfold insertR
  refine an _ _ fun _ k=>nm _ k fun s k hs=>an _ _ fun _ k=>(list_h hl (must_h hl) k).bind fun r k hr=>?_
  exact { z with name:=hs,vals:=max_le hr.1,valS:=fun x hx=>max_le (by have:=(hr.2 x hx).2;omega) }
 ·unfold deleteR
  refine an _ _ fun _ k=>nm _ k fun s k hs=>(where_h hl k).bind fun w k hw=>?_
  exact { z with name:=hs,wh:=hw }
 ·unfold updateR
  refine nm _ k fun s k hs=>an _ _ fun _ k=>nm _ k fun c k hc=>an _ _ fun _ k=>(ex_h hl 60 k).bind fun e k he=>(where_h hl k).bind fun w k hw=>?_
  exact { z with name:=hs,column:=hc,ex:=he,wh:=hw }
 ·unfold selectsR
  refine PR.Holds.bind (p:=fun (r:List ByteArray) _=>r.length≤2002∧∀ x ∈ r,x.size≤2000) ?_ fun fs k hf=>an _ _ fun _ k=>nm _ k fun s k hs=>(where_h hl k).bind fun w k hw=>PR.Holds.bind (p:=fun o _=>o.size≤2000) ?_ fun o k ho=>an _ _ fun n k=>?_
  ·unfold fieldsR
   exact PR.Holds.cond (fun _=>⟨Nat.zero_le _,by intro x hx;cases hx⟩) fun _=>some_h hl (name_h hl) k
  ·unfold orderR
   exact PR.Holds.cond (fun _=>(PR.Holds.any _).bind fun _ k _=>name_h hl k) fun _=>Nat.zero_le _
  ·exact { z with name:=hs,fields:=max_le hf.1,fieldS:=fun x hx=>max_le (by have:=hf.2 x hx;omega),wh:=hw,order:=max_le (by show o.size≤2002;omega) }
 ·exact { z with }
 ·exact { z with }
 ·exact { z with }
theorem cmd_good {l:List Vl} (hl:GoodL l) {c:Cm} {k:Nat} (h:cmdR l=.ok c k):goodCm c:=by
 have h1:PR.Holds (fun c _=>goodCm c) (cmdR l):=by
  unfold cmdR
  exact (PR.Holds.any _).bind fun i k _=>(body_h hl i k).bind fun c k hc=>PR.Holds.cond (fun _=>trivial) fun _=>hc
 rw [h] at h1
 exact h1
end Go.Proofs.YtjdgejfhnfnmgaaGreatDoor.Ax
namespace Go.Proofs.YtjdgejfhnfnmgaaGreatDoor.Ax
open Go.RowKit
set_option linter.unusedSimpArgs false
attribute [local go_sem] ty3 ty4 ty9 feq24 ty24 ty25 ty54 ty22 ty26 ty27 ty29 ty31 ty72 ty32
set_option linter.unusedVariables false
set_option maxRecDepth 100000
set_option maxHeartbeats 8000000 in
theorem wheres_sp (c:Cm) (hg:goodCm c) (b0 b1 b2 b3 b4 b5 b6 b7 b8 b9:Bool):Sp Tryz.prog 49 [.agg (rCm c),aShape b0 b1 b2 b3 b4 b5 b6 b7 b8 b9] (.one (.t true (.lit (.bool (wheresG c b8 b9))))) []:=by
 have h1:=none_sp c.wh
 have h2:=cexpr_sp c.wh hg.wh
 have h3:=cname_sp c.order hg.order
 clear hg
 unfold wheresG
 obtain ⟨k,name,other,column,cols,ty,v,vals,fields,⟨k1,v1,n1,a1⟩,all,⟨k2,v2,n2,a2⟩,order,limit⟩:=c
 dsimp only at *
 rw [rCm_mk]
 rw [rE_mk] at h1 h2
 generalize noneB (.mk k2 v2 n2 a2)=w1 at *
 generalize exprB (.mk k2 v2 n2 a2)=w2 at *
 generalize nameB order=w3 at *
 have hE:(order.toList==(⟨#[]⟩:ByteArray).toList)=emptyS order:=isE order
 generalize emptyS order=w4 at *
 obtain ⟨l0,hl0⟩:∃ d,d=(limit==0):=⟨_,rfl⟩
 rw [← hl0]
 have hl0:=hl0.symm
 obtain ⟨l1,hl1⟩:∃ d,d=decide (-1≤limit):=⟨_,rfl⟩
 rw [← hl1]
 have hl1:=hl1.symm
 obtain ⟨l2,hl2⟩:∃ d,d=decide (limit≤999999999):=⟨_,rfl⟩
 rw [← hl2]
 have hl2:=hl2.symm
 have F:=an4 hE hl0 hl1 hl2
 (refine en_ Tryz.func49 Tryz.ntmps49 Tryz.results49 fun X hX=>?_)
 refine au_ F ?_
 refine cw_cond rfl (fun hp=>?_) (fun hp=>?_)
 ·have e:b8=true∧all=false:=by revert hp;cases b8 <;> cases all <;> decide
  rw [if_pos e]
  refine au_ F ?_
  refine cw_cond rfl (fun hq=>?_) (fun hq=>?_)
  ·rw [hq,if_pos rfl]
   refine au_ F ?_
   refine ou_ F ?_
   simp only [Bool.and_assoc,Bool.false_and,Bool.true_and,Bool.or_false]
  ·rw [hq,if_neg (by decide)]
   refine au_ F ?_
   refine ou_ F ?_
   simp only [Bool.and_assoc,Bool.false_and,Bool.true_and,Bool.or_false]
 ·have e:¬ (b8=true∧all=false):=by revert hp;cases b8 <;> cases all <;> decide
  rw [if_neg e]
  refine au_ F ?_
  refine cw_cond rfl (fun hq=>?_) (fun hq=>?_)
  ·rw [hq,if_pos rfl]
   refine au_ F ?_
   refine ou_ F ?_
   simp only [Bool.and_assoc,Bool.false_and,Bool.true_and,Bool.or_false]
  ·rw [hq,if_neg (by decide)]
   refine au_ F ?_
   refine ou_ F ?_
   simp only [Bool.and_assoc,Bool.false_and,Bool.true_and,Bool.or_false]
end Go.Proofs.YtjdgejfhnfnmgaaGreatDoor.Ax
namespace Go.Proofs.YtjdgejfhnfnmgaaGreatDoor.Ax
open Go.RowKit
set_option linter.unusedSimpArgs false
attribute [local go_sem] ty3 ty4 ty9 feq24 ty24 ty25 ty54 ty22 ty26 ty27 ty29 ty31 ty72 ty32
set_option linter.unusedVariables false
set_option maxRecDepth 100000
set_option maxHeartbeats 32000000 in
theorem ccheck_sp (c:Cm) (hg:goodCm c):Sp Tryz.prog 17 [.agg (rCm c)] (.one (.t true (.lit (.int .i64 (checkP c))))) []:=by
 have hG1:=great_sp c.ex
 have hG2:=great_sp c.wh
 have hOf:=of_sp c.k
 have hN1:=named_sp c.name hg.name (kName c.k)
 have hN2:=named_sp c.other hg.other (kOther c.k)
 have hN3:=named_sp c.column hg.column (kColumn c.k)
 have hT:=vtype_sp c.ty
 have hL:=lists_sp c hg (kName c.k) (kOther c.k) (kColumn c.k) (c.k==1) (kType c.k) (c.k==3) (c.k==10) (c.k==12) (kWhere c.k) (c.k==13)
 have hW:=wheres_sp c hg (kName c.k) (kOther c.k) (kColumn c.k) (c.k==1) (kType c.k) (c.k==3) (c.k==10) (c.k==12) (kWhere c.k) (c.k==13)
 have hE:=cexpr_sp c.ex hg.ex
 have hNo:=none_sp c.ex
 unfold checkP bigB okP exOk typeOk
 unfold vShape at hOf
 unfold aShape at hL hW
 clear hg
 generalize listsG c (c.k==1) (c.k==10) (c.k==3) (c.k==13)=q1 at *
 generalize wheresG c (kWhere c.k) (c.k==13)=q2 at *
 obtain ⟨k,name,other,column,cols,ty,v,vals,fields,⟨k1,v1,n1,a1⟩,all,⟨k2,v2,n2,a2⟩,order,limit⟩:=c
 dsimp only at *
 rw [rCm_mk] at hL hW ⊢
 rw [rE_mk] at hG1 hG2 hE hNo
 generalize kName k=s0 at *
 generalize kOther k=s1 at *
 generalize kColumn k=s2 at *
 generalize (k==1)=s3 at *
 generalize kType k=s4 at *
 generalize (k==3)=s5 at *
 generalize (k==10)=s6 at *
 generalize (k==12)=s7 at *
 generalize kWhere k=s8 at *
 generalize (k==13)=s9 at *
 generalize namedB name s0=m1 at *
 generalize namedB other s1=m2 at *
 generalize namedB column s2=m3 at *
 generalize exprB (.mk k1 v1 n1 a1)=x1 at *
 generalize noneB (.mk k1 v1 n1 a1)=x2 at *
 generalize decide (15 < sizeE (.mk k1 v1 n1 a1) 15)=d4 at *
 generalize decide (15 < sizeE (.mk k2 v2 n2 a2) 15)=d5 at *
 generalize (decide (1≤ty) && decide (ty≤3))=t1 at *
 obtain ⟨d1,hd1⟩:∃ d,d=decide (5 < (cols.length:Int)):=⟨_,rfl⟩
 rw [← hd1]
 have hd1:=hd1.symm
 obtain ⟨d2,hd2⟩:∃ d,d=decide (5 < (vals.length:Int)):=⟨_,rfl⟩
 rw [← hd2]
 have hd2:=hd2.symm
 obtain ⟨d3,hd3⟩:∃ d,d=decide (5 < (fields.length:Int)):=⟨_,rfl⟩
 rw [← hd3]
 have hd3:=hd3.symm
 obtain ⟨r1,hr1⟩:∃ d,d=decide (1≤k):=⟨_,rfl⟩
 rw [← hr1]
 have hr1:=hr1.symm
 obtain ⟨r2,hr2⟩:∃ d,d=decide (k≤16):=⟨_,rfl⟩
 rw [← hr2]
 have hr2:=hr2.symm
 obtain ⟨t2,ht2⟩:∃ d,d=(ty==0):=⟨_,rfl⟩
 rw [← ht2]
 have ht2:=ht2.symm
 have F:=an6 hd1 hd2 hd3 hr1 hr2 ht2
 (refine en_ Tryz.func17 Tryz.ntmps17 Tryz.results17 fun X hX=>?_)
 refine au_ F ?_
 refine cw_cond rfl (fun hp=>?_) (fun hp=>?_)
 ·rw [if_pos (by rw [← hp];simp only [Bool.or_assoc])]
  refine au_ an0 ?_
  exact oq_ an0
 rw [if_neg (by rw [Bool.not_eq_true,← hp];simp only [Bool.or_assoc])]
 clear hp
 refine au_ F ?_
 obtain ⟨ok,hok⟩:∃ ok,ok=(r1 && r2 && m1 && m2 && m3 && (s4 && t1 || !s4 && t2) && q1 && q2):=⟨_,rfl⟩
 rw [← hok]
 refine au_ F ?_
 have e0:(if s4=true then t1 else t2)=(s4 && t1 || !s4 && t2):=by cases s4 <;> simp
 have e1:(r1 && (r2 && (m1 && (m2 && (m3 && ((s4 && t1 || !s4 && t2) && (q1 && (q2 && if s7=true then x1 else x2))))))))=(ok && if s7=true then x1 else x2):=by rw [hok];simp only [Bool.and_assoc]
 rw [e0,e1]
 clear e0 e1 hok
 refine cw_cond rfl (fun hp=>?_) (fun hp=>?_)
 ·have e:(ok && if s7=true then x1 else x2)=false:=by revert hp;cases ok <;> cases s7 <;> cases x1 <;> cases x2 <;> decide
  rw [e,if_neg (by decide)]
  refine au_ an0 ?_
  exact oq_ an0
 ·have e:(ok && if s7=true then x1 else x2)=true:=by revert hp;cases ok <;> cases s7 <;> cases x1 <;> cases x2 <;> decide
  rw [e,if_pos rfl]
  refine au_ an0 ?_
  exact oq_ an0
end Go.Proofs.YtjdgejfhnfnmgaaGreatDoor.Ax
namespace Go.Proofs.YtjdgejfhnfnmgaaGreatDoor.Ax
open Go.RowKit
def ifB (b x y:Bool):Bool:=if b=true then x else y
def limOk (k limit:Int) (order:ByteArray) (no:Bool):Bool:=if (k==13)=true then (decide (-1≤limit) && decide (limit≤999999999)) && (order.toList==(⟨#[]⟩:ByteArray).toList || no) else true
def goodVa (x:Vl):Bool:=x.chk==0
def goodCo (x:Col):Bool:=nameB x.name && (decide (1≤x.ty) && decide (x.ty≤3))
theorem cols_good (l:List Col):(!l.any badCol)=l.all goodCo:=by
 induction l with
 | nil=>rfl
 | cons x l ih =>
  rw [List.any_cons,List.all_cons,← ih]
  unfold badCol goodCo
  cases nameB x.name <;> cases (decide (1≤x.ty) && decide (x.ty≤3)) <;> cases l.any _ <;> rfl
theorem vals_good (l:List Vl):(!l.any badV)=l.all goodVa:=by
 induction l with
 | nil=>rfl
 | cons x l ih =>
  rw [List.any_cons,List.all_cons,← ih]
  unfold badV goodVa
  cases (x.chk==0) <;> cases l.any _ <;> rfl
theorem fields_good (l:List ByteArray):(!l.any badF)=l.all nameB:=by
 induction l with
 | nil=>rfl
 | cons x l ih =>
  rw [List.any_cons,List.all_cons,← ih]
  unfold badF
  cases nameB x <;> cases l.any _ <;> rfl
def okR (c:Cm):Bool :=
 (((((((decide (1≤c.k) && decide (c.k≤16) && namedB c.name (decide (c.k≤13)) && namedB c.other ((c.k==5 || c.k==7) || c.k==8) && namedB c.column (((decide (3≤c.k) && decide (c.k≤6)) || c.k==8) || c.k==12)) && typeOk (c.k==3 || c.k==6) c.ty) && c.v.chk==0 && (c.k==3 || c.v.same Vl.zero) && ((c.k==1)==decide (0 < (c.cols.length:Int))) && ((c.k==10)==decide (0 < (c.vals.length:Int))) && (c.k==13 || ((c.fields.length:Int)==0 && c.order.toList==(⟨#[]⟩:ByteArray).toList && c.limit==0))) && c.cols.all goodCo) && c.vals.all goodVa) && c.fields.all nameB) && limOk c.k c.limit c.order (nameB c.order)) && ifB (c.k==12) (exprB c.ex) (noneB c.ex) && ifB ((decide (11≤c.k) && decide (c.k≤13)) && !c.all) (exprB c.wh) (noneB c.wh && ((decide (11≤c.k) && decide (c.k≤13)) || !c.all))
set_option maxHeartbeats 4000000 in
theorem okP_okR (c:Cm):okP c=okR c:=by
 unfold okP okR listsG wheresG exOk ifB limOk
 rw [cols_good,vals_good,fields_good,isE]
 generalize hco:c.cols.all goodCo=co
 generalize c.vals.all goodVa=va
 generalize c.fields.all nameB=fa
 generalize decide (0 < (c.cols.length:Int))=dc
 generalize decide (0 < (c.vals.length:Int))=dv
 generalize ((c.fields.length:Int)==0)=df
 generalize c.v.same Vl.zero=sz
 generalize (c.v.chk==0)=vc
 generalize emptyS c.order=eo
 generalize nameB c.order=no
 generalize exprB c.ex=e1
 generalize noneB c.ex=e2
 generalize exprB c.wh=e3
 generalize noneB c.wh=e4
 generalize (c.limit==0)=l0
 generalize (decide (-1≤c.limit) && decide (c.limit≤999999999))=l1
 generalize c.all=al
 generalize hk:c.k=k
 generalize c.name=nm
 generalize c.other=ot
 generalize c.column=cl
 generalize c.ty=ty
 by_cases h1:1≤k
 rotate_left
 ·have z:decide (1≤k)=false:=decide_eq_false h1
  simp only [z,Bool.false_and]
 by_cases h2:k≤16
 rotate_left
 ·have z:decide (k≤16)=false:=decide_eq_false h2
  simp only [z,Bool.false_and,Bool.and_false]
 clear hk hco
 obtain rfl | rfl | rfl | rfl | rfl | rfl | rfl | rfl | rfl | rfl | rfl | rfl | rfl | rfl | rfl | rfl:k=1 ∨ k=2 ∨ k=3 ∨ k=4 ∨ k=5 ∨ k=6 ∨ k=7 ∨ k=8 ∨ k=9 ∨ k=10 ∨ k=11 ∨ k=12 ∨ k=13 ∨ k=14 ∨ k=15 ∨ k=16:=by omega
 all_goals
  cases al
  all_goals
   simp [kName,kOther,kColumn,kType,kWhere]
   try ac_rfl
end Go.Proofs.YtjdgejfhnfnmgaaGreatDoor.Ax
