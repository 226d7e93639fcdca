/-  -/
import Derived.Test.YtjdgejfhnfnmgaaGreatDoorP6
import Derived.Orders
namespace Go.Proofs.YtjdgejfhnfnmgaaGreatDoor.Ax
open Go.RowKit
structure Ent where
 i:Nat
 dst:Option Tmp
 v:V
 nb:List (Nat × B)
 gone:List Nat
 dn:List Nat
def B.ment (ids:List Nat):B→Bool
 | .arr _ _ _ _=>false
 | .var _ cells=>C.ments ids cells
 | .mp _ _=>false
def pick (dn:List Nat):List Ent→List Ent
 | []=>[]
 | e :: es=>if dn.contains e.i then e :: pick dn es else pick dn es
def edge (o:Oper) (j:Nat):Bool:=o.after.toList.any fun e=>Region.binds .any e && decide (e.on=j)
section
variable {ids ids':List Nat}
mutual
theorem C.ment_sub (h:∀ i ∈ ids,i ∈ ids'):∀ {c:C},c.ment ids'=false→c.ment ids=false
 | .own i _,hc=>by simp only [C.ment,List.contains_eq_mem,decide_eq_false_iff_not] at hc ⊢;exact fun hm=>hc (h _ hm)
 | .optr i _,hc=>by simp only [C.ment,List.contains_eq_mem,decide_eq_false_iff_not] at hc ⊢;exact fun hm=>hc (h _ hm)
 | .eptr i _ _ _,hc=>by simp only [C.ment,List.contains_eq_mem,decide_eq_false_iff_not] at hc ⊢;exact fun hm=>hc (h _ hm)
 | .omap i,hc=>by simp only [C.ment,List.contains_eq_mem,decide_eq_false_iff_not] at hc ⊢;exact fun hm=>hc (h _ hm)
 | .ocut i _ _ _,hc=>by simp only [C.ment,List.contains_eq_mem,decide_eq_false_iff_not] at hc ⊢;exact fun hm=>hc (h _ hm)
 | .fn _ caps,hc=>by simp only [C.ment] at hc ⊢;exact C.ments_sub h hc
 | .t _ _,_=>rfl
 | .nil,_=>rfl
 | .junk,_=>rfl
theorem C.ments_sub (h:∀ i ∈ ids,i ∈ ids'):∀ {c:List C},C.ments ids' c=false→C.ments ids c=false
 | [],_=>rfl
 | c :: cs,hc=>by
  simp only [C.ments,Bool.or_eq_false_iff] at hc ⊢
  exact ⟨C.ment_sub h hc.1,C.ments_sub h hc.2⟩
end
mutual
theorem V.ment_sub (h:∀ i ∈ ids,i ∈ ids'):∀ {c:V},c.ment ids'=false→c.ment ids=false
 | .one c,hc=>by simp only [V.ment] at hc ⊢;exact C.ment_sub h hc
 | .agg c,hc=>by simp only [V.ment] at hc ⊢;exact C.ments_sub h hc
 | .tup vs,hc=>by simp only [V.ment] at hc ⊢;exact V.ments_sub h hc
 | .junk,_=>rfl
theorem V.ments_sub (h:∀ i ∈ ids,i ∈ ids'):∀ {c:List V},V.ments ids' c=false→V.ments ids c=false
 | [],_=>rfl
 | c :: cs,hc=>by
  simp only [V.ments,Bool.or_eq_false_iff] at hc ⊢
  exact ⟨V.ment_sub h hc.1,V.ments_sub h hc.2⟩
end
theorem B.ment_sub (h:∀ i ∈ ids,i ∈ ids') {b:B} (hb:b.ment ids'=false):b.ment ids=false:=by
 cases b with
 | arr=>rfl
 | mp=>rfl
 | var=>exact C.ments_sub h hb
theorem V.kill_same {v:V} (h:v.ment ids=false):v.kill ids=v:=by unfold V.kill;rw [if_neg (by simp [h])]
theorem B.kill_same {b:B} (h:b.ment ids=false):b.kill ids=b:=by
 cases b with
 | arr=>rfl
 | mp=>rfl
 | var e cells =>
  show B.var e (cells.map (C.kill ids))=B.var e cells
  congr 1
  simp only [B.ment] at h
  induction cells with
  | nil=>rfl
  | cons c cs ih =>
   simp only [C.ments,Bool.or_eq_false_iff] at h
   rw [List.map_cons,ih h.2,C.kill,if_neg (by simp [h.1])]
end
theorem get_append_none {α:Type} {t:Nat}:∀ {l r:List (Nat × α)},get t l=none→get t (l++r)=get t r
 | [],_,_=>rfl
 | (k,u) :: l,r,h=>by
  simp only [get] at h
  split at h
  ·cases h
  ·rename_i hk
   rw [List.cons_append]
   simp only [get]
   rw [if_neg hk]
   exact get_append_none h
theorem get_append_some {α:Type} {t:Nat} {v:α}:∀ {l r:List (Nat × α)},get t l=some v→get t (l++r)=some v
 | [],_,h=>by cases h
 | (k,u) :: l,r,h=>by
  rw [List.cons_append]
  simp only [get] at h ⊢
  split at h
  ·rename_i hk;rw [if_pos hk];exact h
  ·rename_i hk;rw [if_neg hk];exact get_append_some h
end Go.Proofs.YtjdgejfhnfnmgaaGreatDoor.Ax
namespace Go.Proofs.YtjdgejfhnfnmgaaGreatDoor.Ax
open Go.RowKit
section
variable {P:Program} {X:Cx} {ops:Array Oper} {st0:St} {D0 I0:List Nat} {acc:List Ent}
end
end Go.Proofs.YtjdgejfhnfnmgaaGreatDoor.Ax
namespace Go.Proofs.YtjdgejfhnfnmgaaGreatDoor.Ax
open Go.RowKit
set_option linter.unnecessarySimpa false
section
variable {P:Program} {X:Cx} {ops:Array Oper} {st0:St} {D0 I0:List Nat} {acc:List Ent} {st:St} {ρ:Nat→R} {a:Act} {w:World}
theorem ready_edge {listed:Array Bool} {i j:Nat} {o:Oper} (hi:i ∈ Region.ready .any ops listed) (ho:ops[i]?=some o) (he:edge o j=true):listed.getD j false=true:=by
 simp only [Region.ready,List.mem_filter,ho,Option.map_some,Option.getD_some,Bool.and_eq_true] at hi
 unfold edge at he
 obtain ⟨e,h1,h2⟩:=List.any_eq_true.1 he
 simp only [Bool.and_eq_true,decide_eq_true_eq] at h2
 have h3:=Array.all_eq_true_iff_forall_mem.1 hi.2.2 e (Array.mem_toList_iff.1 h1)
 rw [h2.1,h2.2] at h3
 simpa using h3
theorem ready_in {listed:Array Bool} {i:Nat} (hi:i ∈ Region.ready .any ops listed):i < ops.size∧listed.getD i true=false:=by
 simp only [Region.ready,List.mem_filter,List.mem_range,Bool.and_eq_true,Bool.not_eq_true'] at hi
 exact ⟨hi.1,hi.2.1⟩
def backOk (l:List Oper):Bool:=l.zipIdx.all fun p=>p.1.after.toList.all fun e=>!Region.binds .any e || decide (e.on < p.2)
theorem ready_some {listed:Array Bool} (hb:backOk ops.toList=true) {i:Nat} (hi:i < ops.size) (hn:listed.getD i true=false):Region.ready .any ops listed ≠ []:=by
 have key:∀ n,∀ i,i < n→i < ops.size→listed.getD i true=false→∃ j,j ∈ Region.ready .any ops listed:=by
  intro n
  induction n with
  | zero=>intro i h;omega
  | succ n ih =>
   intro i hin hi hn
   by_cases hall:((ops[i]?).map (·.after.all fun e=>!Region.binds .any e || listed.getD e.on false)).getD false=true
   ·refine ⟨i,?_⟩
    simp only [Region.ready,List.mem_filter,List.mem_range,Bool.and_eq_true,Bool.not_eq_true']
    exact ⟨hi,hn,hall⟩
   ·have ho:ops[i]?=some ops[i]:=Array.getElem?_eq_getElem hi
    rw [ho] at hall
    simp only [Option.map_some,Option.getD_some] at hall
    rw [← Array.all_toList,Bool.not_eq_true,List.all_eq_false] at hall
    obtain ⟨e,he',hne⟩:=hall
    have he:=Array.mem_toList_iff.1 he'
    simp only [Bool.or_eq_true,Bool.not_eq_true',not_or,Bool.not_eq_false,Bool.not_eq_true] at hne
    have hz:(ops[i],i) ∈ ops.toList.zipIdx:=by
     rw [List.mem_zipIdx_iff_getElem?]
     simpa using ho
    have h1:=List.all_eq_true.1 hb _ hz
    have h2:=List.all_eq_true.1 h1 e (Array.mem_toList_iff.2 he)
    simp only [hne.1,Bool.not_true,Bool.false_or,decide_eq_true_eq] at h2
    refine ih e.on (by omega) (by omega) ?_
    have:e.on < listed.size ∨ listed.size≤e.on:=Nat.lt_or_ge _ _
    by_cases hl:e.on < listed.size
    ·have h3:=hne.2
     simp only [Array.getD_eq_getD_getElem?,Array.getElem?_eq_getElem hl,Option.getD_some] at h3 ⊢
     exact h3
    ·-- beyond the list nothing that is not listed stands at i
     have hil:i < listed.size:=by
      rcases Nat.lt_or_ge i listed.size with h | h
      ·exact h
      ·rw [Array.getD_eq_getD_getElem?,Array.getElem?_eq_none h] at hn;cases hn
     omega
 intro he
 obtain ⟨j,hj⟩:=key (i + 1) i (Nat.lt_succ_self _) hi hn
 rw [he] at hj
 cases hj
theorem countP_lt {p q:Nat→Bool}:∀ {l:List Nat} {i:Nat},(∀ j,q j=true→p j=true)→i ∈ l→p i=true→q i=false→l.countP q < l.countP p
 | [],_,_,h,_,_=>by cases h
 | x :: l,i,hpq,hi,hp,hq=>by
  have hle:l.countP q≤l.countP p:=List.countP_mono_left fun j _=>hpq j
  rw [List.countP_cons,List.countP_cons]
  by_cases hx:x=i
  ·subst hx
   rw [if_neg (by simp [hq]),if_pos hp]
   omega
  ·have:=countP_lt hpq ((List.mem_cons.1 hi).resolve_left (fun h=>hx h.symm)) hp hq
   split <;> split
   ·omega
   ·rename_i h1 h2;exact absurd (hpq x h1) h2
   ·omega
   ·omega
end
end Go.Proofs.YtjdgejfhnfnmgaaGreatDoor.Ax
namespace Go.Proofs.YtjdgejfhnfnmgaaGreatDoor.Ax
open Go.RowKit
set_option linter.unnecessarySimpa false
structure Fl where
 i:Nat
 dst:Nat
 v:V
 rd:List (Nat × V)
def addF (l:List (Nat × V)) (st:St):St:=⟨l++st.sl,st.bl⟩
section
variable {P:Program} {X:Cx} {ops:Array Oper} {F:List Fl} {m:Nat} {stE:St} {Q:Exit→Act→World→Prop}
theorem addF_le {l1 l2:List (Nat × V)} {st:St} (h1:∀ t u,get t l1=some u→get t l2=some u) (h2:∀ t u u',get t l2=some u→get t st.sl=some u'→u=u'):(addF l1 st).le (addF l2 st):=by
 refine ⟨fun t u h=>?_,fun _ _ h=>h⟩
 rcases get_append h with h | h
 ·exact get_append_some (h1 t u h)
 ·show get t (l2++st.sl)=some u
  cases hg:get t l2 with
  | none=>exact (get_append_none hg).trans h
  | some u'=>rw [← h2 t u' u hg h];exact get_append_some hg
end
section
variable {P:Program} {X:Cx} {ops:Array Oper} {F:List Fl} {stE:St} {Q:Exit→Act→World→Prop} {st0:St} {D0 I0:List Nat} {acc:List Ent}
end
section
variable {P:Program} {X:Cx} {ops:Array Oper} {F:List Fl} {I0:List Nat} {acc:List Ent}
end
end Go.Proofs.YtjdgejfhnfnmgaaGreatDoor.Ax
namespace Go.Proofs.YtjdgejfhnfnmgaaGreatDoor.Ax
open Go.RowKit
section
variable {P:Program} {X:Cx} {ops:Array Oper} {st:St} {D0 I0:List Nat} {ρ:Nat→R} {a:Act} {w:World}
def nodK:List (Nat × B)→Bool
 | []=>true
 | p :: l=>!(l.map (·.1)).contains p.1 && nodK l
theorem B.ment_nil (b:B):b.ment []=false:=by
 cases b with
 | arr=>rfl
 | mp=>rfl
 | var=>exact C.ments_nil _
theorem nodK_get:∀ {l:List (Nat × B)} {t:Nat} {b:B},nodK l=true→(t,b) ∈ l→get t l=some b
 | [],_,_,_,h=>by cases h
 | p :: l,t,b,hn,h=>by
  simp only [nodK,Bool.and_eq_true,Bool.not_eq_true',List.contains_eq_mem,decide_eq_false_iff_not] at hn
  simp only [get]
  rcases List.mem_cons.1 h with h | h
  ·subst h;rw [if_pos rfl]
  ·have:t ≠ p.1:=fun e=>hn.1 (e ▸ List.mem_map.2 ⟨_,h,rfl⟩)
   rw [if_neg this]
   exact nodK_get hn.2 h
variable {st1:St} {K:St→Prop} {acc:List Ent} {l:List Oper} {o:Oper}
theorem rep_false (n i:Nat):(Array.replicate n false).getD i false=false:=by
 rw [Array.getD_eq_getD_getElem?,Array.getElem?_replicate]
 split <;> rfl
def dstsOf:List Oper→List Nat
 | []=>[]
 | o :: l=>match o.dst with
  | some d=>d :: dstsOf l
  | none=>dstsOf l
end
end Go.Proofs.YtjdgejfhnfnmgaaGreatDoor.Ax
namespace Go.Proofs.YtjdgejfhnfnmgaaGreatDoor.Ax
open Go.RowKit
def renI (σ:List (Nat × Nat)) (i:Nat):Nat:=(get i σ).getD i
mutual
def C.ren (σ:List (Nat × Nat)):C→C
 | .own i n=>.own (renI σ i) n
 | .optr i o=>.optr (renI σ i) o
 | .eptr i k s j=>.eptr (renI σ i) k s j
 | .omap i=>.omap (renI σ i)
 | .ocut i s lo len=>.ocut (renI σ i) s lo len
 | .fn f caps=>.fn f (C.rens σ caps)
 | .t z x=>.t z x
 | .nil=>.nil
 | .junk=>.junk
def C.rens (σ:List (Nat × Nat)):List C→List C
 | []=>[]
 | c :: cs=>c.ren σ :: C.rens σ cs
end
mutual
def V.ren (σ:List (Nat × Nat)):V→V
 | .one c=>.one (c.ren σ)
 | .agg cs=>.agg (C.rens σ cs)
 | .tup vs=>.tup (V.rens σ vs)
 | .junk=>.junk
def V.rens (σ:List (Nat × Nat)):List V→List V
 | []=>[]
 | c :: cs=>c.ren σ :: V.rens σ cs
end
def B.ren (σ:List (Nat × Nat)):B→B
 | .arr e s z rows=>.arr e s z rows
 | .var e cells=>.var e (C.rens σ cells)
 | .mp k es=>.mp k es
def renB (σ:List (Nat × Nat)):List (Nat × B)→List (Nat × B)
 | []=>[]
 | p :: l=>(renI σ p.1,p.2.ren σ) :: renB σ l
def renOk:List (Nat × Nat)→Bool
 | []=>true
 | p :: l=>!(l.map (·.1)).contains p.1 && !(l.map (·.2)).contains p.2 && renOk l
def backR (σ:List (Nat × Nat)) (ρ:Nat→R) (j:Nat):R :=
 match σ with
 | []=>.dead
 | p :: l=>if j=p.2 then ρ p.1 else backR l ρ j
section
variable {σ:List (Nat × Nat)} {ρ:Nat→R} {w:World} {ok ok':Bool→Nat→Prop}
theorem backR_get:∀ {σ:List (Nat × Nat)} {i j:Nat},renOk σ=true→get i σ=some j→backR σ ρ j=ρ i
 | [],_,_,_,h=>by cases h
 | (a,b) :: l,i,j,hn,h=>by
  simp only [renOk,Bool.and_eq_true,Bool.not_eq_true',List.contains_eq_mem,decide_eq_false_iff_not] at hn
  unfold get at h
  unfold backR
  split at h
  ·rename_i hi
   injection h with h
   subst hi
   subst h
   rw [if_pos rfl]
  ·rename_i hi
   have hj:j ≠ b:=fun e=>hn.1.2 (e ▸ List.mem_map.2 ⟨_,get_mem h,rfl⟩)
   simp only
   rw [if_neg hj]
   exact backR_get hn.2 h
theorem backR_inv:∀ {σ:List (Nat × Nat)} {j:Nat},backR σ ρ j ≠ .dead→∃ i,(i,j) ∈ σ∧backR σ ρ j=ρ i
 | [],_,h=>absurd rfl h
 | (a,b) :: l,j,h=>by
  unfold backR at h ⊢
  simp only at h ⊢
  split at h
  ·rename_i hj;subst hj;exact ⟨a,List.mem_cons_self,by rw [if_pos rfl]⟩
  ·rename_i hj
   obtain ⟨i,h1,h2⟩:=backR_inv h
   exact ⟨i,List.mem_cons_of_mem _ h1,by rw [if_neg hj];exact h2⟩
theorem renI_get {i j:Nat} (h:get i σ=some j):renI σ i=j:=by unfold renI;rw [h];rfl
theorem alive_get (hk:∀ i,ρ i ≠ .dead→(get i σ).isSome=true) {i:Nat} (h:ρ i ≠ .dead) (hn:renOk σ=true):backR σ ρ (renI σ i)=ρ i:=by
 obtain ⟨j,hj⟩:=Option.isSome_iff_exists.1 (hk i h)
 rw [renI_get hj,backR_get hn hj]
mutual
theorem RdC.ren (hT:∀ z t x,RdT w (ok z) t x→RdT w (ok' z) t x) (hn:renOk σ=true) (hk:∀ i,ρ i ≠ .dead→(get i σ).isSome=true):∀ {c:C} {x:Value},RdC w ok ρ c x→RdC w ok' (backR σ ρ) (c.ren σ) x
 | .t z t,x,h=>by simp only [C.ren];unfold RdC at h ⊢;exact hT _ _ _ h
 | .nil,x,h=>by simp only [C.ren];unfold RdC at h ⊢;exact h
 | .own id len,x,h=>by
  simp only [C.ren]
  unfold RdC at h ⊢
  have hne:ρ id ≠ .dead:=fun e=>by simp [e] at h
  rw [alive_get hk hne hn];exact h
 | .optr id len,x,h=>by
  simp only [C.ren]
  unfold RdC at h ⊢
  have hne:ρ id ≠ .dead:=fun e=>by simp [e] at h
  rw [alive_get hk hne hn];exact h
 | .eptr id k s j,x,h=>by
  simp only [C.ren]
  unfold RdC at h ⊢
  have hne:ρ id ≠ .dead:=fun e=>by simp [e] at h
  rw [alive_get hk hne hn];exact h
 | .omap id,x,h=>by
  simp only [C.ren]
  unfold RdC at h ⊢
  have hne:ρ id ≠ .dead:=fun e=>by simp [e] at h
  rw [alive_get hk hne hn];exact h
 | .ocut id s lo len,x,h=>by
  simp only [C.ren]
  unfold RdC at h ⊢
  have hne:ρ id ≠ .dead:=fun e=>by simp [e] at h
  rw [alive_get hk hne hn];exact h
 | .fn f caps,x,h=>by
  simp only [C.ren]
  unfold RdC at h ⊢
  obtain ⟨xs,h1,h2⟩:=h
  exact ⟨xs,h1,RdCs.ren hT hn hk h2⟩
 | .junk,x,h=>by simp only [C.ren];unfold RdC at h ⊢;exact h
theorem RdCs.ren (hT:∀ z t x,RdT w (ok z) t x→RdT w (ok' z) t x) (hn:renOk σ=true) (hk:∀ i,ρ i ≠ .dead→(get i σ).isSome=true):∀ {cs:List C} {xs:List Value},RdCs w ok ρ cs xs→RdCs w ok' (backR σ ρ) (C.rens σ cs) xs
 | [],[],_=>by simp only [C.rens];unfold RdCs;trivial
 | _ :: _,_ :: _,h=>by
  simp only [C.rens]
  unfold RdCs at h ⊢
  exact ⟨RdC.ren hT hn hk h.1,RdCs.ren hT hn hk h.2⟩
 | [],_ :: _,h=>by unfold RdCs at h;exact h.elim
 | _ :: _,[],h=>by unfold RdCs at h;exact h.elim
end
mutual
theorem RdV.ren (hT:∀ z t x,RdT w (ok z) t x→RdT w (ok' z) t x) (hn:renOk σ=true) (hk:∀ i,ρ i ≠ .dead→(get i σ).isSome=true):∀ {c:V} {x:Value},RdV w ok ρ c x→RdV w ok' (backR σ ρ) (c.ren σ) x
 | .one c,x,h=>by simp only [V.ren];unfold RdV at h ⊢;exact RdC.ren hT hn hk h
 | .agg cs,x,h=>by
  simp only [V.ren]
  unfold RdV at h ⊢
  obtain ⟨xs,h1,h2⟩:=h
  exact ⟨xs,h1,RdCs.ren hT hn hk h2⟩
 | .tup vs,x,h=>by
  simp only [V.ren]
  unfold RdV at h ⊢
  obtain ⟨xs,h1,h2⟩:=h
  exact ⟨xs,h1,RdVs.ren hT hn hk h2⟩
 | .junk,x,_=>by simp only [V.ren];unfold RdV;trivial
theorem RdVs.ren (hT:∀ z t x,RdT w (ok z) t x→RdT w (ok' z) t x) (hn:renOk σ=true) (hk:∀ i,ρ i ≠ .dead→(get i σ).isSome=true):∀ {cs:List V} {xs:List Value},RdVs w ok ρ cs xs→RdVs w ok' (backR σ ρ) (V.rens σ cs) xs
 | [],[],_=>by simp only [V.rens];unfold RdVs;trivial
 | _ :: _,_ :: _,h=>by
  simp only [V.rens]
  unfold RdVs at h ⊢
  exact ⟨RdV.ren hT hn hk h.1,RdVs.ren hT hn hk h.2⟩
 | [],_ :: _,h=>by unfold RdVs at h;exact h.elim
 | _ :: _,[],h=>by unfold RdVs at h;exact h.elim
end
theorem renB_get {j:Nat} {b:B}:∀ {nb:List (Nat × B)},get j (renB σ nb)=some b→∃ p ∈ nb,renI σ p.1=j∧b=p.2.ren σ
 | [],h=>by cases h
 | p :: l,h=>by
  rw [renB] at h
  unfold get at h
  split at h
  ·rename_i hj
   injection h with h
   exact ⟨p,List.mem_cons_self,hj.symm,h.symm⟩
  ·obtain ⟨q,h1,h2⟩:=renB_get h
   exact ⟨q,List.mem_cons_of_mem _ h1,h2⟩
theorem Sp.ren {P:Program} {f:FuncId} {args:List A} {res:V} {nb:List (Nat × B)} (h:Sp P f args res nb) (σ:List (Nat × Nat)) (hn:renOk σ=true) (hk:(nb.map (·.1)).all (fun i=>(get i σ).isSome)=true) (hnod:nodK nb=true) (hs:σ.all (fun p=>(nb.map (·.1)).contains p.1)=true) :
  Sp P f args (res.ren σ) (renB σ nb):=⟨h.enters,fun w S hS vs hG hvs=>(h.calls w S hS vs hG hvs).mono fun e w'=>by
 rintro ⟨x,ρ,rfl,hb,hge,hinj,hids,hx,hnb⟩
 have hkeys:∀ i,ρ i ≠ .dead→(get i σ).isSome=true:=fun i hi=>by
  have:i ∈ nb.map (·.1):=Classical.byContradiction fun hm=>hi (hids i hm)
  exact List.all_eq_true.1 hk i this
 have hT:∀ z t x,RdT w' (okOf (Cx.plain w S hS 0) ρ w' z) t x→RdT w' (okOf (Cx.plain w S hS 0) (backR σ ρ) w' z) t x:=fun z t x hr=>hr.mono fun b hb=>⟨⟨hb.1,hb.2.1,fun id b' cap hid=>by
  obtain ⟨i,_,h2⟩:=backR_inv (σ:=σ) (ρ:=ρ) (j:=id) (by rw [hid];intro h;cases h)
  rw [h2] at hid
  exact hb.2.2 i b' cap hid⟩,rfl⟩
 refine ⟨x,backR σ ρ,rfl,hb,fun id b cap hid=>?_,fun i j b c d hi hj=>?_,fun id hid=>?_,hx.ren hT hn hkeys,fun id b hid=>?_⟩
 ·obtain ⟨i,_,h2⟩:=backR_inv (σ:=σ) (ρ:=ρ) (j:=id) (by rw [hid];intro h;cases h)
  rw [h2] at hid
  exact hge i b cap hid
 ·obtain ⟨i',h1,h2⟩:=backR_inv (σ:=σ) (ρ:=ρ) (j:=i) (by rw [hi];intro h;cases h)
  obtain ⟨j',h3,h4⟩:=backR_inv (σ:=σ) (ρ:=ρ) (j:=j) (by rw [hj];intro h;cases h)
  rw [h2] at hi
  rw [h4] at hj
  have e:=hinj i' j' b c d hi hj
  subst e
  have key:∀ l:List (Nat × Nat),renOk l=true→(i',i) ∈ l→(i',j) ∈ l→i=j:=by
   intro l
   induction l with
   | nil=>intro _ h;cases h
   | cons p l ih =>
    intro hn h1 h2
    simp only [renOk,Bool.and_eq_true,Bool.not_eq_true',List.contains_eq_mem,decide_eq_false_iff_not] at hn
    rcases List.mem_cons.1 h1 with q1 | q1 <;> rcases List.mem_cons.1 h2 with q2 | q2
    ·have:=q1.trans q2.symm;simpa using this
    ·exact absurd (q1 ▸ (List.mem_map.2 ⟨(i',j),q2,rfl⟩:i' ∈ l.map (·.1))) hn.1.1
    ·exact absurd (q2 ▸ (List.mem_map.2 ⟨(i',i),q1,rfl⟩:i' ∈ l.map (·.1))) hn.1.1
    ·exact ih hn.2 q1 q2
  exact key σ hn h1 h3
 ·refine Classical.byContradiction fun hne=>hid ?_
  obtain ⟨i,h1,h2⟩:=backR_inv hne
  have h3:=List.all_eq_true.1 hs _ h1
  simp only [List.contains_eq_mem,decide_eq_true_eq,List.mem_map] at h3
  obtain ⟨p,h4,h5⟩:=h3
  have h6:get i σ=some id:=by
   have key:∀ l:List (Nat × Nat),renOk l=true→(i,id) ∈ l→get i l=some id:=by
    intro l
    induction l with
    | nil=>intro _ h;cases h
    | cons q l ih =>
     intro hn h1
     simp only [renOk,Bool.and_eq_true,Bool.not_eq_true',List.contains_eq_mem,decide_eq_false_iff_not] at hn
     unfold get
     rcases List.mem_cons.1 h1 with h1 | h1
     ·subst h1;simp
     ·have:i ≠ q.1:=fun e=>hn.1.1 (e ▸ List.mem_map.2 ⟨_,h1,rfl⟩)
      have ih':=ih hn.2 h1
      obtain ⟨a,b⟩:=q
      simp only at this ⊢
      rw [if_neg this]
      exact ih'
   exact key σ hn h1
  have key2:∀ l:List (Nat × B),p ∈ l→renI σ p.1 ∈ (renB σ l).map (·.1):=by
   intro l
   induction l with
   | nil=>intro h;cases h
   | cons q l ih =>
    intro h
    rw [renB,List.map_cons]
    rcases List.mem_cons.1 h with h | h
    ·subst h;exact List.mem_cons_self
    ·exact List.mem_cons_of_mem _ (ih h)
  have:=key2 nb h4
  rwa [show p.1=i from h5,renI_get h6] at this
 ·obtain ⟨p,hp,hj,rfl⟩:=renB_get hid
  have hB:=hnb p.1 p.2 (nodK_get hnod hp)
  have hk':=List.all_eq_true.1 hk p.1 (List.mem_map.2 ⟨p,hp,rfl⟩)
  obtain ⟨j,hj'⟩:=Option.isSome_iff_exists.1 hk'
  have hid':backR σ ρ id=ρ p.1:=by rw [← hj,renI_get hj',backR_get hn hj']
  obtain ⟨i,b⟩:=p
  cases b with
  | arr e s z rows =>
   simp only [B.ren]
   unfold HasB at hB ⊢
   rw [hid']
   cases hr:ρ i with
   | dead=>simp [hr] at hB
   | nil=>simp only [hr] at hB ⊢;exact hB
   | lie g cap =>
    simp only [hr] at hB ⊢
    obtain ⟨xs,g1,g2,g3⟩:=hB
    exact ⟨xs,g1,g2.mono fun b hb=>⟨⟨hb.1,hb.2.1,fun id b' cap hid=>by
     obtain ⟨i,_,h2⟩:=backR_inv (σ:=σ) (ρ:=ρ) (j:=id) (by rw [hid];intro h;cases h)
     rw [h2] at hid
     exact hb.2.2 i b' cap hid⟩,rfl⟩,g3⟩
  | var e cells =>
   simp only [B.ren]
   unfold HasB at hB ⊢
   obtain ⟨g,cap,hr,xs,g1,g2⟩:=hB
   exact ⟨g,cap,hid'.trans hr,xs,g1,g2.ren hT hn hkeys⟩
  | mp k es =>
   simp only [B.ren]
   unfold HasB at hB ⊢
   obtain ⟨g,cap,hr,rest⟩:=hB
   exact ⟨g,cap,hid'.trans hr,rest⟩⟩
end
section
variable {P:Program} {X:Cx} {st:St} {ops:Array Oper} {K:St→Prop} {o:Oper} {l:List Oper}
end
def runsN (P:Program) (n:Nat) (ops:Array Oper):Nat→List Oper→St→List Oper × St
 | 0,l,st=>(l,st)
 | _ + 1,[],st=>([],st)
 | k + 1,o :: l,st=>match dstOk n o.dst with
  | false=>(o :: l,st)
  | true=>match guardOf st ops o with
   | some true=>match exec1 P st o with
    | some D=>runsN P n ops k l (st.app D o.dst)
    | none=>(o :: l,st)
   | some false=>runsN P n ops k l (st.put o.dst (.tup []))
   | none=>(o :: l,st)
theorem rw_runsN {P:Program} {X:Cx} {ops:Array Oper} {K:St→Prop}:∀ {k:Nat} {l l':List Oper} {st st':St},runsN P X.n ops k l st=(l',st')→RW P X ops l' K st'→RW P X ops l K st
 | 0,l,l',st,st',h,hr=>by
  simp only [runsN,Prod.mk.injEq] at h
  obtain ⟨rfl,rfl⟩:=h
  exact hr
 | _ + 1,[],l',st,st',h,hr=>by
  simp only [runsN,Prod.mk.injEq] at h
  obtain ⟨rfl,rfl⟩:=h
  exact hr
 | k + 1,o :: l,l',st,st',h,hr=>by
  unfold runsN at h
  split at h
  ·obtain ⟨rfl,rfl⟩:=Prod.mk.inj h
   exact hr
  ·rename_i hd
   split at h
   ·rename_i hg
    split at h
    ·rename_i D hD
     exact rw_step (exec1_runs hD).step hg hd (rw_runsN h hr)
    ·obtain ⟨rfl,rfl⟩:=Prod.mk.inj h
     exact hr
   ·rename_i hg
    exact rw_skip hg hd (rw_runsN h hr)
   ·obtain ⟨rfl,rfl⟩:=Prod.mk.inj h
    exact hr
theorem rw_goN {P:Program} {X:Cx} {ops:Array Oper} {l:List Oper} {K:St→Prop} {st:St} {k:Nat} (h:RWr P X ops K (runsN P X.n ops k l st)):RW P X ops l K st:=rw_runsN (l':=(runsN P X.n ops k l st).1) (st':=(runsN P X.n ops k l st).2) rfl h
theorem cw_region_n {P:Program} {X:Cx} {st:St} {Q:Exit→St→Prop} {id:Nat} (k:Nat) {l:List Oper} (h:∀ K:St→Prop,(∀ s,Q .normal s→K s)→RWr P X l.toArray K (runsN P X.n l.toArray k l st)) (hp:∀ ch s,X.pan ch→Q (.panic ch) s:=by intro ch s h;exact h):CW P X (.region id l.toArray false) Q st:=cw_region (rw_goN (h _ fun _ h=>h)) hp
def C.fit:C→C→C
 | .t z _,.t z' x=>.t (if x.isLit=true then z else z && z') x
 | _,c=>c
def C.fits:List C→List C→List C
 | a :: l,c :: cs=>a.fit c :: C.fits l cs
 | _,cs=>cs
def V.fit1:V→V→V
 | .one a,.one c=>.one (a.fit c)
 | .agg l,.agg cs=>.agg (C.fits l cs)
 | _,v=>v
def V.fits:List V→List V→List V
 | a :: l,c :: cs=>a.fit1 c :: V.fits l cs
 | _,cs=>cs
def V.fit:V→V→V
 | .tup l,.tup vs=>.tup (V.fits l vs)
 | .one a,.one c=>.one (a.fit c)
 | .agg l,.agg cs=>.agg (C.fits l cs)
 | _,v=>v
section
variable {w:World} {ok:Bool→Nat→Prop} {ρ:Nat→R}
theorem RdC.fit (hok:∀ b,ok true b→ok false b) {a c:C} {x:Value} (h:RdC w ok ρ c x):RdC w ok ρ (a.fit c) x:=by
 unfold C.fit
 split
 ·rename_i z _ z' t
  unfold RdC at h ⊢
  split
  ·rename_i hl
   cases t with
   | lit v=>unfold RdT at h ⊢;exact h
   | _=>simp [T.isLit] at hl
  ·cases z <;> cases z' <;> simp only [Bool.and_true,Bool.and_false] <;> first
    | exact h
    | exact h.mono fun b hb=>⟨hok b hb,rfl⟩
 ·exact h
theorem RdCs.fit (hok:∀ b,ok true b→ok false b):∀ {l cs:List C} {xs:List Value},RdCs w ok ρ cs xs→RdCs w ok ρ (C.fits l cs) xs
 | [],cs,xs,h=>by cases cs <;> exact h
 | _ :: _,[],xs,h=>h
 | a :: l,c :: cs,xs,h=>by
  cases xs with
  | nil=>unfold RdCs at h;exact h.elim
  | cons x xs =>
   unfold C.fits
   unfold RdCs at h ⊢
   exact ⟨h.1.fit hok,RdCs.fit hok h.2⟩
theorem RdV.fit1 (hok:∀ b,ok true b→ok false b) {a v:V} {x:Value} (h:RdV w ok ρ v x):RdV w ok ρ (a.fit1 v) x:=by
 unfold V.fit1
 split
 ·unfold RdV at h ⊢;exact h.fit hok
 ·unfold RdV at h ⊢
  obtain ⟨xs,h1,h2⟩:=h
  exact ⟨xs,h1,h2.fit hok⟩
 ·exact h
theorem RdVs.fit (hok:∀ b,ok true b→ok false b):∀ {l cs:List V} {xs:List Value},RdVs w ok ρ cs xs→RdVs w ok ρ (V.fits l cs) xs
 | [],cs,xs,h=>by cases cs <;> exact h
 | _ :: _,[],xs,h=>h
 | a :: l,c :: cs,xs,h=>by
  cases xs with
  | nil=>unfold RdVs at h;exact h.elim
  | cons x xs =>
   unfold V.fits
   unfold RdVs at h ⊢
   exact ⟨h.1.fit1 hok,RdVs.fit hok h.2⟩
theorem RdV.fit (hok:∀ b,ok true b→ok false b) {a v:V} {x:Value} (h:RdV w ok ρ v x):RdV w ok ρ (a.fit v) x:=by
 unfold V.fit
 split
 ·unfold RdV at h ⊢
  obtain ⟨xs,h1,h2⟩:=h
  exact ⟨xs,h1,h2.fit hok⟩
 ·unfold RdV at h ⊢;exact h.fit hok
 ·unfold RdV at h ⊢
  obtain ⟨xs,h1,h2⟩:=h
  exact ⟨xs,h1,h2.fit hok⟩
 ·exact h
end
theorem okOf_tf {X:Cx} {ρ:Nat→R} {w:World} (b:Nat) (h:okOf X ρ w true b):okOf X ρ w false b:=⟨h.1.elim .inl (fun h=>h.elim (fun h=>.inr (.inl h)) fun h=>by cases h.1),h.2⟩
theorem ends_fit {P:Program} {X:Cx} {rs:Array ResultVar} {res:V} {st:St} (h:(exitV P st rs.toList).map (V.fit res)=some res):Ends P X rs res [] st:=fun ρ a w hH=>by
 cases hv:exitV P st rs.toList with
 | none=>rw [hv] at h;cases h
 | some v =>
  rw [hv] at h
  obtain ⟨q,ρc,h1,h2,h3,h4,h5,h6⟩:=ends_plain hv ρ a w hH
  have h:V.fit res v=res:=by simpa using h
  exact ⟨q,ρc,h1,h2,h3,h4,h ▸ h5.fit okOf_tf,h6⟩
theorem exit_retf {P:Program} {X:Cx} {rs:Array ResultVar} {res:V} {st:St} (h:(exitV P st rs.toList).map (V.fit res)=some res):exitQ P X rs res [] .ret st:=ends_fit h
theorem exit_normalf {P:Program} {X:Cx} {rs:Array ResultVar} {res:V} {st:St} (h:(exitV P st rs.toList).map (V.fit res)=some res):exitQ P X rs res [] .normal st:=ends_fit h
section
variable {P:Program} {X:Cx} {ops:Array Oper} {st1:St} {D0 I0:List Nat} {K:St→Prop} {acc acc':List Ent} {l:List Oper} {o:Oper} {dn:List Nat} {R:St} {D:Delta} {e:Ent}
end
end Go.Proofs.YtjdgejfhnfnmgaaGreatDoor.Ax
namespace Go.Proofs.YtjdgejfhnfnmgaaGreatDoor.Ax
open Go.RowKit
theorem RdCs.set {w:World} {ok:Bool→Nat→Prop} {ρ:Nat→R} {c c':C} (h:∀ x,RdC w ok ρ c x→RdC w ok ρ c' x):∀ {cs:List C} {xs:List Value} {j:Nat},RdCs w ok ρ cs xs→cs[j]?=some c→RdCs w ok ρ (cs.set j c') xs
 | [],_,_,_,hj=>by simp at hj
 | _ :: _,[],_,hr,_=>by unfold RdCs at hr;exact hr.elim
 | d :: cs,x :: xs,0,hr,hj=>by
  unfold RdCs at hr
  simp only [List.getElem?_cons_zero,Option.some.injEq] at hj
  subst hj
  rw [List.set_cons_zero]
  unfold RdCs
  exact ⟨h x hr.1,hr.2⟩
 | d :: cs,x :: xs,j + 1,hr,hj=>by
  unfold RdCs at hr
  rw [List.set_cons_succ]
  unfold RdCs
  exact ⟨hr.1,RdCs.set h hr.2 (by simpa using hj)⟩
def growB (st:St) (b:Nat) (e0:TypeId) (cells:List C) (j id:Nat) (e:TypeId) (size:Nat):St:=⟨(st.turn [id] [id] []).sl,(id,.arr e size true []) :: (b,.var e0 (cells.set j (.own id 0))) :: (st.turn [id] [id] []).bl⟩
theorem cw_growb {P:Program} {X:Cx} {st:St} {c:Code} {Q:Exit→St→Prop} (b j id:Nat) (e:TypeId) (size:Nat) {e0:TypeId} {cells:List C} (hb:get b (st.turn [id] [id] []).bl=some (.var e0 cells)) (hj:cells[j]?=some .nil) (h:CW P X c Q (growB st b e0 cells j id e size)) (hid0:id < X.n:=by omega):CW P X c Q st:=fun ρ a w hH=>by
 refine h (updR ρ id .nil) a w ?_
 have he:Evo X ρ w (updR ρ id .nil) w [id] [id]:=⟨Below.refl _ _,fun _ _ _=>rfl,fun i hi=>updR_ne (by simpa using hi),(fun i b cap hi hr=>by
  simp only [List.mem_singleton] at hi
  subst hi
  rw [updR_same] at hr;cases hr),(fun i j b c d hi hj=>by
  unfold updR at hi hj
  split at hi
  ·cases hi
  ·split at hj
   ·cases hj
   ·exact hH.inj i j b c d hi hj),fun i hi=>.inl (by simp only [List.mem_singleton] at hi;rw [hi];exact hid0)⟩
 have hT:=hH.turn he (nb:=[]) (by intro id b h;cases h)
 refine ⟨hT.defers,hT.size,hT.below,hT.keep,hT.ge,hT.inj,hT.pin,hT.slots,fun id' b' hb'=>?_,hT.gk,hT.gw⟩
 simp only [growB,get] at hb'
 split at hb'
 ·rename_i hid
  subst hid
  injection hb' with hb'
  subst hb'
  unfold HasB
  rw [updR_same]
 ·split at hb'
  ·rename_i hid
   subst hid
   injection hb' with hb'
   subst hb'
   have:=hT.blocks _ _ hb
   unfold HasB at this ⊢
   obtain ⟨g,cap,h1,xs,h2,h3⟩:=this
   refine ⟨g,cap,h1,xs,h2,RdCs.set (fun x hx=>?_) h3 hj⟩
   unfold RdC at hx ⊢
   rw [updR_same]
   exact ⟨rfl,hx⟩
  ·exact hT.blocks id' b' hb'
def C.flat:C→C
 | .nil=>.t false (.sl [])
 | .t _ x=>.t x.isLit x
 | .own i n=>.own i n
 | .optr i o=>.optr i o
 | .eptr i k s j=>.eptr i k s j
 | .fn f caps=>.fn f caps
 | .junk=>.junk
 | .omap i=>.omap i
 | .ocut i s lo len=>.ocut i s lo len
def V.flat:V→V
 | .one c=>.one c.flat
 | .agg cs=>.agg (cs.map C.flat)
 | .tup vs=>.tup vs
 | .junk=>.junk
def B.flat:B→B
 | .arr e s z rows=>.arr e s z rows
 | .var e cells=>.var e (cells.map C.flat)
 | .mp k es=>.mp k es
def flatL:List (Nat × V)→List (Nat × V)
 | []=>[]
 | p :: l=>(p.1,p.2.flat) :: flatL l
def flatB:List (Nat × B)→List (Nat × B)
 | []=>[]
 | p :: l=>(p.1,p.2.flat) :: flatB l
def St.flat (st:St):St:=⟨flatL st.sl,flatB st.bl⟩
section
variable {w:World} {ok:Bool→Nat→Prop} {ρ:Nat→R}
theorem RdC.flat (hok:∀ b,ok true b→ok false b) {c:C} {x:Value} (h:RdC w ok ρ c x):RdC w ok ρ c.flat x:=by
 cases c with
 | t z u =>
  unfold C.flat
  unfold RdC at h ⊢
  cases u with
  | lit v=>unfold RdT at h ⊢;exact h
  | sl _ | ptr _ | fn _ _ =>
   simp only [T.isLit]
   cases z with
   | false=>exact h
   | true=>exact h.mono fun b hb=>⟨hok b hb,rfl⟩
 | nil =>
  unfold C.flat
  unfold RdC at h ⊢
  unfold RdT
  obtain ⟨A,hA⟩:=h
  exact ⟨A,0,0,hA,rfl,Nat.le_refl _,.inl rfl⟩
 | _=>exact h
theorem RdCs.flat (hok:∀ b,ok true b→ok false b):∀ {cs:List C} {xs:List Value},RdCs w ok ρ cs xs→RdCs w ok ρ (cs.map C.flat) xs
 | [],xs,h=>h
 | c :: cs,[],h=>by unfold RdCs at h;exact h.elim
 | c :: cs,x :: xs,h=>by
  rw [List.map_cons]
  unfold RdCs at h ⊢
  exact ⟨h.1.flat hok,RdCs.flat hok h.2⟩
theorem RdV.flat (hok:∀ b,ok true b→ok false b) {v:V} {x:Value} (h:RdV w ok ρ v x):RdV w ok ρ v.flat x:=by
 cases v with
 | one c=>unfold V.flat;unfold RdV at h ⊢;exact h.flat hok
 | agg cs =>
  unfold V.flat
  unfold RdV at h ⊢
  obtain ⟨xs,h1,h2⟩:=h
  exact ⟨xs,h1,h2.flat hok⟩
 | tup vs=>exact h
 | junk=>exact h
theorem get_flatL {t:Nat} {v:V}:∀ {l:List (Nat × V)},get t (flatL l)=some v→∃ u,get t l=some u∧v=u.flat
 | [],h=>by cases h
 | p :: l,h=>by
  obtain ⟨k,u⟩:=p
  unfold flatL get at h
  unfold get
  split at h
  ·rename_i hk
   rw [if_pos hk]
   injection h with h
   exact ⟨_,rfl,h.symm⟩
  ·rename_i hk
   rw [if_neg hk]
   exact get_flatL h
theorem get_flatB {t:Nat} {v:B}:∀ {l:List (Nat × B)},get t (flatB l)=some v→∃ u,get t l=some u∧v=u.flat
 | [],h=>by cases h
 | p :: l,h=>by
  obtain ⟨k,u⟩:=p
  unfold flatB get at h
  unfold get
  split at h
  ·rename_i hk
   rw [if_pos hk]
   injection h with h
   exact ⟨_,rfl,h.symm⟩
  ·rename_i hk
   rw [if_neg hk]
   exact get_flatB h
end
theorem Hold.flat {X:Cx} {st:St} {ρ:Nat→R} {a:Act} {w:World} (h:Hold X st ρ a w):Hold X st.flat ρ a w:=by
 refine ⟨h.defers,h.size,h.below,h.keep,h.ge,h.inj,h.pin,fun t v hv=>?_,fun id b hb=>?_,h.gk,h.gw⟩
 ·obtain ⟨u,h1,rfl⟩:=get_flatL hv
  obtain ⟨x,h2,h3⟩:=h.slots _ _ h1
  exact ⟨x,h2,h3.flat okOf_tf⟩
 ·obtain ⟨u,h1,rfl⟩:=get_flatB hb
  have h2:=h.blocks _ _ h1
  cases u with
  | arr e s z rows=>exact h2
  | var e cells =>
   unfold B.flat
   unfold HasB at h2 ⊢
   obtain ⟨b,cap,g1,xs,g2,g3⟩:=h2
   exact ⟨b,cap,g1,xs,g2,g3.flat okOf_tf⟩
  | mp k es=>exact h2
end Go.Proofs.YtjdgejfhnfnmgaaGreatDoor.Ax
namespace Go.Proofs.YtjdgejfhnfnmgaaGreatDoor.Ax
open Go.RowKit
section
variable {P:Program} {X:Cx} {st:St} {Q:Exit→St→Prop} {c:Code}
end
theorem cw_meetn {P:Program} {X:Cx} {st:St} {Q:Exit→St→Prop} {c y:Code} (sM:St) (h1:CW P X c (thenX (fun s=>sM.le s) Q) st) (h2:CW P X y Q sM):CW P X c (thenX (fun s=>CW P X y Q s) Q) st:=fun ρ a w hH =>
 wp_mono (h1 ρ a w hH) fun e a' w' ⟨s,ρ',hq,hH'⟩=>by
  cases e with
  | normal=>exact ⟨s,ρ',fun ρ a w h=>h2 ρ a w (h.le hq),hH'⟩
  | _=>exact ⟨s,ρ',hq,hH'⟩
def litTs:List T→Option (List Value)
 | []=>some []
 | .lit v :: l=>match litTs l with
  | some r=>some (v :: r)
  | none=>none
 | _=>none
def litAs:List A→Option (List Value)
 | []=>some []
 | .one (.lit v) :: l=>match litAs l with
  | some r=>some (v :: r)
  | none=>none
 | .agg ts :: l=>match litTs ts with
  | some us=>match litAs l with
   | some r=>some (.agg us.toArray :: r)
   | none=>none
  | none=>none
 | _=>none
theorem litTs_rd {w:World} {ok:Nat→Prop}:∀ {l:List T} {us vs:List Value},litTs l=some us→RdL w ok l vs→vs=us
 | [],us,vs,h,hr=>by
  simp only [litTs,Option.some.injEq] at h
  subst h
  cases vs with
  | nil=>rfl
  | cons=>unfold RdL at hr;exact hr.elim
 | t :: l,us,vs,h,hr=>by
  cases vs with
  | nil=>unfold RdL at hr;exact hr.elim
  | cons v vs =>
   unfold RdL at hr
   cases t <;> simp only [litTs] at h <;> try (cases h)
   split at h
   ·rename_i r hl
    injection h with h
    subst h
    have h1:=hr.1
    unfold RdT at h1
    rw [h1.1,litTs_rd hl hr.2]
   ·cases h
theorem litAs_rd {w:World} {ok:Nat→Prop}:∀ {l:List A} {us vs:List Value},litAs l=some us→RdAs w ok l vs→vs=us
 | [],us,vs,h,hr=>by
  simp only [litAs,Option.some.injEq] at h
  subst h
  cases vs with
  | nil=>rfl
  | cons=>unfold RdAs at hr;exact hr.elim
 | a :: l,us,vs,h,hr=>by
  cases vs with
  | nil=>unfold RdAs at hr;exact hr.elim
  | cons v vs =>
   unfold RdAs at hr
   cases a with
   | one t =>
    cases t <;> simp only [litAs] at h <;> try (cases h)
    split at h
    ·rename_i r hl
     injection h with h
     subst h
     have h1:=hr.1
     unfold RdA RdT at h1
     rw [h1.1,litAs_rd hl hr.2]
    ·cases h
   | agg ts =>
    simp only [litAs] at h
    split at h
    ·rename_i ws hw
     split at h
     ·rename_i r hl
      injection h with h
      subst h
      have h1:=hr.1
      unfold RdA at h1
      obtain ⟨xs,rfl,h2⟩:=h1
      rw [litAs_rd hl hr.2,← litTs_rd hw h2]
     ·cases h
    ·cases h
theorem sp_lits {P:Program} {f:FuncId} (hen:Enters P f) {args:List A} (vs:List Value) (v:Value) (ha:litAs args=some vs) (hv:v.oneCell'=true) (h:∀ w,Calls P f vs.toArray w fun e w'=>e=.returned v∧Below w.heap.size w w'):Sp P f args (.one (.t true (.lit v))) [] where
 enters:=hen
 calls w S hS us _ hus:=by
  rw [litAs_rd ha hus]
  refine (h w).mono fun e w'=>?_
  rintro ⟨rfl,hb⟩
  refine ⟨v,deadR,rfl,hb,(by intro _ _ _ h;cases h),(by intro _ _ _ _ _ h;cases h),fun _ _=>rfl,?_,(by intro _ _ h;cases h)⟩
  unfold RdV RdC RdT
  exact ⟨rfl,hv⟩
theorem le_mk2 {s st:St} (h:leL s.sl st.sl∧leL s.bl st.bl):s.le st:=le_mk h.1 h.2
theorem mode_r {st:St} {n:Nat} {cv:Operand} {xs:List Operand} {res:V} {nb:List (Nat × B)} (h:(res.allF && nb.all fun p=>p.2.allF)=true):modeOk st n cv xs res nb=true:=by unfold modeOk;rw [h,Bool.or_true]
end Go.Proofs.YtjdgejfhnfnmgaaGreatDoor.Ax
