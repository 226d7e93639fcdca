/-  -/
import Derived.Test.YtjdgejfhnfnmgaaGreatDoorP7
namespace Go.Proofs.YtjdgejfhnfnmgaaGreatDoor.Ax
open Go.RowKit
def Cx.io (w:World) (S F:Nat→Prop) (hS:∀ b,S b→b < w.heap.size) (ρ:Nat→R) (n:Nat):Cx :=
 ⟨w,S,hS,n,F,fun b=>b < w.heap.size∧∀ id cap,ρ id ≠ .lie b cap,fun _ h=>h.1,ρ,fun _=>False⟩
def PostIO (w:World) (S F:Nat→Prop) (hS:∀ b,S b→b < w.heap.size) (ρ:Nat→R) (res:V) (outs:List (Nat × B)) (stays:List Nat) (e:Ending) (w':World):Prop :=
 ∃ x ρ',e=.returned x∧Below 0 w w'∧(∀ b,(Cx.io w S F hS ρ 0).K b→w'.heap[b]?=w.heap[b]?) ∧
  (∀ id b cap,ρ' id=.lie b cap→(w.heap.size≤b ∨ F b)∧¬ (Cx.io w S F hS ρ 0).K b∧b < w'.heap.size)∧(∀ i j b c d,ρ' i=.lie b c→ρ' j=.lie b d→i=j) ∧
  (∀ id,id ∉ outs.map (·.1)→ρ' id=.dead)∧(∀ id ∈ stays,ρ' id=ρ id)∧RdV w' (okOf (Cx.io w S F hS ρ 0) ρ' w') ρ' res x∧∀ id b,get id outs=some b→HasB (Cx.io w S F hS ρ 0) w' ρ' id b
structure SpIO (P:Program) (f:FuncId) (args:List V) (ins:List (Nat × B)) (res:V) (outs:List (Nat × B)) (stays:List Nat):Prop where
 enters:Enters P f
 calls:∀ (w:World) (S F:Nat→Prop) (hS:∀ b,S b→b < w.heap.size) (ρ:Nat→R),(∀ id b cap,ρ id=.lie b cap→F b∧b < w.heap.size∧NG≤b)→(∀ i j b c d,ρ i=.lie b c→ρ j=.lie b d→i=j) →
  (∀ id,id ∉ ins.map (·.1)→ρ id=.dead)→(∀ id b,get id ins=some b→HasB (Cx.io w S F hS ρ 0) w ρ id b)→∀ vs,GW w→RdVs w (okOf (Cx.io w S F hS ρ 0) ρ w) ρ args vs→Calls P f vs.toArray w (PostIO w S F hS ρ res outs stays)
theorem RdVs.len {w:World} {ok:Bool→Nat→Prop} {ρ:Nat→R}:∀ {cs:List V} {xs:List Value},RdVs w ok ρ cs xs→xs.length=cs.length
 | [],[],_=>rfl
 | _ :: _,_ :: _,h=>by unfold RdVs at h;rw [List.length_cons,List.length_cons,RdVs.len h.2]
 | [],_ :: _,h=>by unfold RdVs at h;exact h.elim
 | _ :: _,[],h=>by unfold RdVs at h;exact h.elim
def argSv:Nat→List V→List (Nat × V)
 | _,[]=>[]
 | k,v :: vs=>(k,v) :: argSv (k + 1) vs
theorem argSv_rd {w:World} {ok:Bool→Nat→Prop} {ρ:Nat→R}:∀ {as_:List V} {xs:List Value} {k t:Nat} {v:V},RdVs w ok ρ as_ xs→get t (argSv k as_)=some v→k≤t∧∃ x,xs[t - k]?=some x∧RdV w ok ρ v x
 | [],_,_,_,_,_,h=>by simp [argSv,get] at h
 | q :: qs,[],_,_,_,hr,_=>by unfold RdVs at hr;exact hr.elim
 | q :: qs,x :: xs,k,t,v,hr,h=>by
  unfold RdVs at hr
  simp only [argSv] at h
  unfold get at h
  split at h
  ·rename_i ht
   subst ht
   injection h with h
   subst h
   exact ⟨Nat.le_refl _,x,by simp,hr.1⟩
  ·obtain ⟨h1,y,h2,h3⟩:=argSv_rd hr.2 h
   refine ⟨by omega,y,?_,h3⟩
   rw [show t - k=(t - (k + 1)) + 1 by omega]
   simpa using h2
def EndsIO (P:Program) (X:Cx) (rs:Array ResultVar) (res:V) (outs:List (Nat × B)) (stays:List Nat) (st:St):Prop :=
 ∀ ρ a w,Hold X st ρ a w→∃ q ρc,(∀ fn:Func,fn.results=rs→(results fn a.tmps).run P w=.ok q w)∧(∀ id b cap,ρc id=.lie b cap→(X.base.heap.size≤b ∨ X.F b)∧¬ X.K b∧b < w.heap.size)∧(∀ i j b c d,ρc i=.lie b c→ρc j=.lie b d→i=j) ∧
  (∀ id,id ∉ outs.map (·.1)→ρc id=.dead)∧(∀ id ∈ stays,ρc id=X.pin id)∧RdV w (okOf X ρc w) ρc res q∧∀ id b,get id outs=some b→HasB X w ρc id b
def exitIO (P:Program) (X:Cx) (rs:Array ResultVar) (res:V) (outs:List (Nat × B)) (stays:List Nat):Exit→St→Prop
 | .normal,st | .ret,st=>EndsIO P X rs res outs stays st
 | .panic ch,_=>X.pan ch
 | _,_=>False
theorem HasB.alive {X:Cx} {w:World} {ρ:Nat→R} {id:Nat} {b:B} (h:HasB X w ρ id b):ρ id ≠ .dead:=fun e=>by
 cases b with
 | arr=>unfold HasB at h;simp [e] at h
 | var=>unfold HasB at h;obtain ⟨g,cap,hr,_⟩:=h;rw [e] at hr;cases hr
 | mp=>unfold HasB at h;obtain ⟨g,cap,hr,_⟩:=h;rw [e] at hr;cases hr
theorem sp_of_io {P : Program} {f : FuncId} {fn : Func} {c : Code} {args : List V} {ins : List (Nat × B)} {res : V} {outs : List (Nat × B)} {stays : List Nat} (hf : P.funcs[f]? = some fn) (hn : (fn.name == "runtime.NumGoroutine") = false) (hb : fn.body = some c) (hle : args.length ≤ fn.ntmps)
  (h:∀ X:Cx,X.n=fn.ntmps→CW P X c (exitIO P X fn.results res outs stays) ⟨argSv 0 args,ins⟩):SpIO P f args ins res outs stays where
 enters:=enters_of hf hn (by rw [hb];rfl)
 calls w S F hS ρ hF hinj hdead hins vs hG hvs:=by
  refine calls_of_wp hf hb ?_
  have hl:=hvs.len
  have hH:Hold (Cx.io w S F hS ρ fn.ntmps) ⟨argSv 0 args,ins⟩ ρ { tmps:=vs.toArray++Array.replicate (fn.ntmps - vs.toArray.size) undef,defers:=[] } w:=by
   refine ⟨rfl,by simp [Cx.io];omega,Below.refl _ _,fun _ _=>rfl,fun id b cap hid=>⟨.inr (hF id b cap hid).1,fun hk=>hk.2 id cap hid,(hF id b cap hid).2.1⟩,hinj,fun _ _=>.inl rfl,fun t v hv=>?_,hins,fun b hb=>⟨Nat.lt_of_lt_of_le hb (gw_ng hG),fun id cap hid=>by have:=(hF id b cap hid).2.2;omega⟩,hG⟩
   obtain ⟨_,x,h1,h2⟩:=argSv_rd hvs hv
   refine ⟨x,?_,h2⟩
   rw [Nat.sub_zero] at h1
   have:t < vs.length:=by
    rcases Nat.lt_or_ge t vs.length with h | h
    ·exact h
    ·rw [List.getElem?_eq_none h] at h1;cases h1
   simp only [Array.getElem?_append,List.size_toArray,this,if_true]
   simpa using h1
  refine wp_mono (h _ rfl ρ _ w hH) fun e a' w' ⟨st',ρ',hq,hH'⟩=>?_
  have fin:EndsIO P (Cx.io w S F hS ρ fn.ntmps) fn.results res outs stays st'→a'.defers=[]∧∃ v,(results fn a'.tmps).run P w'=.ok v w'∧PostIO w S F hS ρ res outs stays (.returned v) w':=fun he=>by
   obtain ⟨q,ρc,h1,h2,h3,h4,h5,h6,h7⟩:=he ρ' a' w' hH'
   exact ⟨hH'.defers,q,h1 fn rfl,q,ρc,rfl,hH'.below,hH'.keep,h2,h3,h4,h5,h6,h7⟩
  cases e <;> first
   | exact fin hq
   | exact hq.elim
theorem ends_io {P:Program} {X:Cx} {rs:Array ResultVar} {res:V} {outs:List (Nat × B)} {stays:List Nat} {st:St} (h:resV P st rs.toList=some res) (hb:leL outs st.bl) (ho:res.only (outs.map (·.1))=true) (hbo:∀ p ∈ outs,p.2.only (outs.map (·.1))=true)
  (hst:∀ id ∈ stays,X.n≤id∧id ∈ outs.map (·.1)):EndsIO P X rs res outs stays st:=fun ρ a w hH=>by
 obtain ⟨q,h1,h2⟩:=resV_sound (fn:={ (default:Func) with results:=rs }) hH h
 have hT:∀ z t x,RdT w (okOf X ρ w z) t x→RdT w (okOf X (onlyR (outs.map fun p:Nat × B=>p.1) ρ) w z) t x:=fun z t x hr=>hr.mono fun b hb=>⟨⟨hb.1,hb.2.1,fun id b' cap hid=>by
  unfold onlyR at hid
  split at hid
  ·exact hb.2.2 id b' cap hid
  ·cases hid⟩,rfl⟩
 have hBs:∀ id b,get id outs=some b→HasB X w (onlyR (outs.map fun p:Nat × B=>p.1) ρ) id b:=fun id b hid=>by
  have hm:id ∈ outs.map (·.1):=List.mem_map.2 ⟨_,get_mem hid,rfl⟩
  have hB:=hH.blocks id b (leL_get hb hid)
  cases b with
  | arr e s z rows =>
   unfold HasB at hB ⊢
   rw [show onlyR (outs.map fun p:Nat × B=>p.1) ρ id=ρ id from if_pos hm]
   cases hr:ρ id with
   | dead=>simp [hr] at hB
   | nil=>simp only [hr] at hB ⊢;exact hB
   | lie g cap =>
    simp only [hr] at hB ⊢
    obtain ⟨xs,g1,g2,g3⟩:=hB
    exact ⟨xs,g1,g2.mono fun b hb=>⟨⟨hb.1,hb.2.1,fun id b' cap hid=>by
     unfold onlyR at hid
     split at hid
     ·exact hb.2.2 id b' cap hid
     ·cases hid⟩,rfl⟩,g3⟩
  | var e cells =>
   unfold HasB at hB ⊢
   obtain ⟨g,cap,hr,xs,g1,g2⟩:=hB
   exact ⟨g,cap,(if_pos hm).trans hr,xs,g1,g2.less hT (fun id hid=>if_pos hid) (hbo _ (get_mem hid))⟩
  | mp k es =>
   unfold HasB at hB ⊢
   obtain ⟨g,cap,hr,rest⟩:=hB
   exact ⟨g,cap,(if_pos hm).trans hr,rest⟩
 refine ⟨q,onlyR (outs.map fun p:Nat × B=>p.1) ρ,fun fn hfn=>?_,fun id b cap hid=>?_,fun i j b c d hi hj=>?_,fun id hid=>if_neg hid,fun id hid=>?_,h2.less hT (fun id hid=>if_pos hid) ho,hBs⟩
 ·subst hfn;rw [results_eq] at h1 ⊢;exact h1
 ·unfold onlyR at hid
  split at hid
  ·exact hH.ge id b cap hid
  ·cases hid
 ·unfold onlyR at hi hj
  split at hi
  ·split at hj
   ·exact hH.inj i j b c d hi hj
   ·cases hj
  ·cases hi
 ·obtain ⟨h3,h4⟩:=hst id hid
  rw [show onlyR (outs.map fun p:Nat × B=>p.1) ρ id=ρ id from if_pos h4]
  refine (hH.pin id h3).resolve_right fun hd=>?_
  obtain ⟨p,hp,rfl⟩:=List.mem_map.1 h4
  have hg:∃ b,get p.1 outs=some b:=by
   have key:∀ l:List (Nat × B),p ∈ l→∃ b,get p.1 l=some b:=by
    intro l
    induction l with
    | nil=>intro h;cases h
    | cons q l ih =>
     intro h
     obtain ⟨k,u⟩:=q
     unfold get
     by_cases hk:p.1=k
     ·exact ⟨u,by rw [if_pos hk]⟩
     ·rw [if_neg hk]
      rcases List.mem_cons.1 h with h | h
      ·exact absurd (by rw [h]) hk
      ·exact ih h
   exact key outs hp
  obtain ⟨b,hg⟩:=hg
  exact (hBs _ b hg).alive ((if_pos h4).trans hd)
end Go.Proofs.YtjdgejfhnfnmgaaGreatDoor.Ax
namespace Go.Proofs.YtjdgejfhnfnmgaaGreatDoor.Ax
open Go.RowKit
section
variable {w w':World} {ρ ρc:Nat→R} {P:Program} {X:Cx} {st:St} {a:Act} {ids:List Nat}
theorem ok_less {ρ':Nat→R} (h:∀ id b cap,ρ' id=.lie b cap→ρ id=.lie b cap) {z:Bool} {b:Nat} (hb:okOf X ρ w z b):okOf X ρ' w z b:=⟨hb.1,hb.2.1,fun id b' cap hid=>hb.2.2 id b' cap (h id b' cap hid)⟩
theorem onlyR_lie {id b cap:Nat} (h:onlyR ids ρ id=.lie b cap):ρ id=.lie b cap∧id ∈ ids:=by
 unfold onlyR at h
 split at h
 ·exact ⟨h,by assumption⟩
 ·cases h
theorem rdT_only {z:Bool} {t:T} {x:Value} (h:RdT w (okOf X ρ w z) t x):RdT w (okOf X (onlyR ids ρ) w z) t x:=h.mono fun _ hb=>⟨ok_less (fun _ _ _ h=>(onlyR_lie h).1) hb,rfl⟩
theorem rdL_only {z:Bool} {t:List T} {x:List Value} (h:RdL w (okOf X ρ w z) t x):RdL w (okOf X (onlyR ids ρ) w z) t x:=h.mono fun _ hb=>⟨ok_less (fun _ _ _ h=>(onlyR_lie h).1) hb,rfl⟩
theorem ok_other (hH:Hold X st ρ a w) {id b cap:Nat} (h:ρ id=.lie b cap) (hid:id ∉ ids) (z:Bool):okOf X (onlyR ids ρ) w z b:=⟨(hH.ge id b cap h).1.imp (fun h=>h) .inl,(hH.ge id b cap h).2.2,fun j b' c hj e=>by
 obtain ⟨h1,h2⟩:=onlyR_lie hj
 subst e
 exact hid (hH.inj _ _ _ _ _ h h1 ▸ h2)⟩
def butB (ids:List Nat) (st:St):St:=⟨st.sl,st.bl.filter fun p=>!ids.contains p.1⟩
theorem butB_get {id:Nat} {b:B} (h:get id (butB ids st).bl=some b):get id st.bl=some b∧id ∉ ids:=by
 obtain ⟨h1,h2⟩:=get_filter (p:=fun i=>!ids.contains i) h
 exact ⟨h1,by simpa using h2⟩
mutual
theorem viewO_rd (hH:Hold X st ρ a w):∀ {n:Nat} {c:C} {q:Bool × T} {x:Value},viewC (butB ids st) n c=some q→RdC w (okOf X ρ w) ρ c x→RdT w (okOf X (onlyR ids ρ) w q.1) q.2 x
 | _,.t z t,q,x,h,hx=>by
  simp only [viewC,Option.some.injEq] at h
  subst h
  unfold RdC at hx
  exact rdT_only hx
 | _,.nil,q,x,h,hx=>by
  simp only [viewC,Option.some.injEq] at h
  subst h
  unfold RdC at hx
  unfold RdT
  obtain ⟨A,hA⟩:=hx
  exact ⟨A,0,0,hA,rfl,Nat.le_refl _,.inl rfl⟩
 | _,.own id len,q,x,h,hx=>by
  simp only [viewC] at h
  split at h
  ·rename_i e s z rows hb
   split at h
   ·rename_i hl
    injection h with h
    subst h
    subst hl
    have hB:=hH.blocks _ _ (butB_get hb).1
    unfold RdC at hx
    unfold HasB at hB
    unfold RdT
    cases hid:ρ id with
    | dead=>simp [hid] at hx
    | nil =>
     simp only [hid] at hx hB
     obtain ⟨h1,A,hA⟩:=hx
     exact ⟨A,0,0,hA,h1,Nat.le_refl _,.inl rfl⟩
    | lie g cap =>
     simp only [hid] at hx hB
     obtain ⟨xs,h1,h2,h3⟩:=hB
     obtain ⟨_,hc,hcell⟩:=own_cells h1
     refine ⟨_,_,_,hx,rfl,hc,.inr ⟨g,0,s,rfl,ok_other hH hid (butB_get hb).2 z,RdRows.mk (rdL_only h2) h3 fun j u hu=>by rw [Nat.zero_add];exact hcell j u hu⟩⟩
   ·cases h
  ·cases h
 | n + 1,.optr id off,q,x,h,hx=>by
  simp only [viewC] at h
  split at h
  ·rename_i e cells hb
   split at h
   ·rename_i z ts hv
    injection h with h
    subst h
    obtain ⟨b,cap,hid,xs,hheap,hcs⟩:=hH.blocks _ _ (butB_get hb).1
    unfold RdC at hx
    rw [hid] at hx
    simp only at hx
    have:=viewOs_rd hH hv hcs
    unfold RdT
    refine ⟨b,off,hx,ok_other hH hid (butB_get hb).2 z,?_⟩
    have h1:RdRow w (okOf X (onlyR ids ρ) w z) b 0 ts:=RdRow.mk this fun j u hu=>by
     rw [Nat.zero_add,cell_of_row w b j xs e (0,0) hheap]
     simpa using hu
    have h2:=h1.drop off
    rwa [Nat.zero_add] at h2
   ·cases h
  ·cases h
 | n + 1,.fn f caps,q,x,h,hx=>by
  simp only [viewC] at h
  split at h
  ·rename_i z ts hv
   split at h
   ·rename_i hlt
    injection h with h
    subst h
    unfold RdC fnV at hx
    rw [hlt] at hx
    obtain ⟨xs,h1,h2⟩:=hx
    unfold RdT
    exact ⟨xs,h1,viewOs_rd hH hv h2⟩
   ·cases h
  ·cases h
 | 0,.optr _ _,_,_,h,_=>by simp [viewC] at h
 | 0,.fn _ _,_,_,h,_=>by simp [viewC] at h
 | _,.eptr _ _ _ _,_,_,h,_=>by simp [viewC] at h
 | _,.junk,_,_,h,_=>by simp [viewC] at h
 | _,.omap _,_,_,h,_=>by simp [viewC] at h
 | _,.ocut _ _ _ _,_,_,h,_=>by simp [viewC] at h
theorem viewOs_rd (hH:Hold X st ρ a w):∀ {n:Nat} {cs:List C} {q:Bool × List T} {xs:List Value},viewCs (butB ids st) n cs=some q→RdCs w (okOf X ρ w) ρ cs xs→RdL w (okOf X (onlyR ids ρ) w q.1) q.2 xs
 | _,[],q,xs,h,hx=>by
  simp only [viewCs,Option.some.injEq] at h
  subst h
  cases xs with
  | nil=>unfold RdL;trivial
  | cons=>unfold RdCs at hx;exact hx.elim
 | 0,_ :: _,_,_,h,_=>by simp [viewCs] at h
 | n + 1,c :: cs,q,xs,h,hx=>by
  simp only [viewCs] at h
  split at h
  ·rename_i z t hv
   split at h
   ·rename_i z' ts hvs
    injection h with h
    subst h
    cases xs with
    | nil=>unfold RdCs at hx;exact hx.elim
    | cons u xs =>
     unfold RdCs at hx
     unfold RdL
     exact ⟨rdT_weak (fun h=>(Bool.and_eq_true _ _ ▸ h).1) (viewO_rd hH hv hx.1),rdL_weak (fun h=>(Bool.and_eq_true _ _ ▸ h).2) (viewOs_rd hH hvs hx.2)⟩
   ·cases h
  ·cases h
end
end
def cellIO (ids:List Nat) (st:St) (n:Nat):C→Option (Bool × C)
 | .t z x=>some (true,.t z x)
 | .nil=>some (true,.nil)
 | c=>if c.only ids=true then some (true,c) else match viewC (butB ids st) n c with
  | some q=>some (false,.t false q.2)
  | none=>none
def cellsIO (ids:List Nat) (st:St) (n:Nat):List C→Option (Bool × List C)
 | []=>some (true,[])
 | c :: cs=>match cellIO ids st n c with
  | some q=>match cellsIO ids st n cs with
   | some r=>some (q.1 && r.1,q.2 :: r.2)
   | none=>none
  | none=>none
def valIO (ids:List Nat) (st:St) (n:Nat):V→Option (Bool × V)
 | .one c=>match cellIO ids st n c with
  | some q=>some (q.1,.one q.2)
  | none=>none
 | .agg cs=>match cellsIO ids st n cs with
  | some q=>some (q.1,.agg q.2)
  | none=>none
 | _=>none
def argsIO (ids:List Nat) (st:St) (n:Nat):List Operand→Option (Bool × List V)
 | []=>some (true,[])
 | x :: xs=>match ev st x with
  | some v=>match valIO ids st n v with
   | some q=>match argsIO ids st n xs with
    | some r=>some (q.1 && r.1,q.2 :: r.2)
    | none=>none
   | none=>none
  | none=>none
def calleeIO (ids:List Nat) (st:St) (n:Nat) (c:Operand):Option (FuncId × Bool × List V) :=
 match ev st c with
 | some (.one (.t z (.fn f ts)))=>some (f,true,ts.map fun t=>.one (.t z t))
 | some (.one (.fn f cs))=>match cellsIO ids st n cs with
  | some q=>match decide (f < 1024) with
   | true=>some (f,q.1,q.2.map V.one)
   | false=>none
  | none=>none
 | _=>none
def boundIO (ids:List Nat) (st:St) (n:Nat) (c:Operand):Option (FuncId × Bool × List V) :=
 match ev st c with
 | some (.one (.fn f cs))=>match cellsIO ids st n cs with
  | some q=>match decide (f < 1024) with
   | true=>none
   | false=>some (f - 1024,q.1,q.2.map V.one)
  | none=>none
 | _=>none
def callIO (ids:List Nat) (st:St) (n:Nat) (cv:Operand) (xs:List Operand):Option (FuncId × Bool × List V) :=
 match calleeIO ids st n cv with
 | some p=>match argsIO ids st n xs with
  | some q=>some (p.1,p.2.1 && q.1,q.2++p.2.2)
  | none=>none
 | none=>match boundIO ids st n cv with
  | some p=>match argsIO ids st n xs with
   | some q=>some (p.1,p.2.1 && q.1,p.2.2++q.2)
   | none=>none
  | none=>none
def zLe:Bool→Bool→Prop
 | false,_=>True
 | true,z=>z=true
mutual
def cLe:C→C→Prop
 | .t z x,.t z' x'=>zLe z z'∧x=x'
 | .nil,.nil=>True
 | .own i n,.own j m=>i=j∧n=m
 | .optr i o,.optr j p=>i=j∧o=p
 | .eptr i k s o,.eptr j l s' p=>i=j∧k=l∧s=s'∧o=p
 | .fn f cs,.fn g ds=>f=g∧csLe cs ds
 | .omap i,.omap j=>i=j
 | .ocut i s lo len,.ocut j s' lo' len'=>i=j∧s=s'∧lo=lo'∧len=len'
 | _,_=>False
def csLe:List C→List C→Prop
 | [],[]=>True
 | c :: cs,d :: ds=>cLe c d∧csLe cs ds
 | _,_=>False
end
def vLe:V→V→Prop
 | .one c,.one d=>cLe c d
 | .agg cs,.agg ds=>csLe cs ds
 | _,_=>False
def vsLe:List V→List V→Prop
 | [],[]=>True
 | c :: cs,d :: ds=>vLe c d∧vsLe cs ds
 | _,_=>False
def bLe:B→Option B→Prop
 | .arr e s z rows,some (.arr e' s' z' rows')=>e=e'∧s=s'∧zLe z z'∧rows=rows'
 | .var e cs,some (.var e' cs')=>e=e'∧csLe cs cs'
 | .mp k es,some (.mp k' es')=>k=k'∧es=es'
 | _,_=>False
def insLe (bl:List (Nat × B)):List (Nat × B)→Prop
 | []=>True
 | p :: l=>bLe p.2 (get p.1 bl)∧insLe bl l
section
variable {w w':World} {ρ ρc:Nat→R} {P:Program} {X:Cx} {st:St} {a:Act} {ids:List Nat}
theorem zLe_imp {z z':Bool} (h:zLe z z'):z=true→z'=true:=fun e=>by subst e;exact h
mutual
theorem RdC.le:∀ {c d:C} {x:Value},cLe c d→RdC w (okOf X ρ w) ρ d x→RdC w (okOf X ρ w) ρ c x
 | .t z t,.t z' t',x,h,hx=>by
  unfold cLe at h
  obtain ⟨h1,rfl⟩:=h
  unfold RdC at hx ⊢
  exact rdT_weak (zLe_imp h1) hx
 | .nil,.nil,x,_,hx=>hx
 | .own i n,.own j m,x,h,hx=>by unfold cLe at h;obtain ⟨rfl,rfl⟩:=h;exact hx
 | .optr i n,.optr j m,x,h,hx=>by unfold cLe at h;obtain ⟨rfl,rfl⟩:=h;exact hx
 | .omap i,.omap j,x,h,hx=>by unfold cLe at h;subst h;exact hx
 | .ocut i s lo len,.ocut j s' lo' len',x,h,hx=>by unfold cLe at h;obtain ⟨rfl,rfl,rfl,rfl⟩:=h;exact hx
 | .eptr i k s o,.eptr j l s' p,x,h,hx=>by unfold cLe at h;obtain ⟨rfl,rfl,rfl,rfl⟩:=h;exact hx
 | .fn f cs,.fn g ds,x,h,hx=>by
  unfold cLe at h
  obtain ⟨rfl,h⟩:=h
  unfold RdC at hx ⊢
  obtain ⟨xs,h1,h2⟩:=hx
  exact ⟨xs,h1,RdCs.le h h2⟩
 | .junk,_,_,h,_=>by unfold cLe at h;exact h.elim
 | .t _ _,.omap _,_,h,_ | .nil,.omap _,_,h,_ | .own _ _,.omap _,_,h,_ | .optr _ _,.omap _,_,h,_ | .eptr _ _ _ _,.omap _,_,h,_ | .fn _ _,.omap _,_,h,_ | .ocut _ _ _ _,.omap _,_,h,_=>by unfold cLe at h;exact h.elim
 | .t _ _,.ocut _ _ _ _,_,h,_ | .nil,.ocut _ _ _ _,_,h,_ | .own _ _,.ocut _ _ _ _,_,h,_ | .optr _ _,.ocut _ _ _ _,_,h,_ | .eptr _ _ _ _,.ocut _ _ _ _,_,h,_ | .fn _ _,.ocut _ _ _ _,_,h,_ | .omap _,.ocut _ _ _ _,_,h,_=>by unfold cLe at h;exact h.elim
 | .ocut _ _ _ _,.t _ _,_,h,_ | .ocut _ _ _ _,.nil,_,h,_ | .ocut _ _ _ _,.own _ _,_,h,_ | .ocut _ _ _ _,.optr _ _,_,h,_ | .ocut _ _ _ _,.eptr _ _ _ _,_,h,_ | .ocut _ _ _ _,.fn _ _,_,h,_ | .ocut _ _ _ _,.junk,_,h,_=>by unfold cLe at h;exact h.elim
 | .omap _,.t _ _,_,h,_ | .omap _,.nil,_,h,_ | .omap _,.own _ _,_,h,_ | .omap _,.optr _ _,_,h,_ | .omap _,.eptr _ _ _ _,_,h,_ | .omap _,.fn _ _,_,h,_ | .omap _,.junk,_,h,_=>by unfold cLe at h;exact h.elim
 | .t _ _,.nil,_,h,_ | .t _ _,.own _ _,_,h,_ | .t _ _,.optr _ _,_,h,_ | .t _ _,.eptr _ _ _ _,_,h,_ | .t _ _,.fn _ _,_,h,_ | .t _ _,.junk,_,h,_=>by unfold cLe at h;exact h.elim
 | .nil,.t _ _,_,h,_ | .nil,.own _ _,_,h,_ | .nil,.optr _ _,_,h,_ | .nil,.eptr _ _ _ _,_,h,_ | .nil,.fn _ _,_,h,_ | .nil,.junk,_,h,_=>by unfold cLe at h;exact h.elim
 | .own _ _,.t _ _,_,h,_ | .own _ _,.nil,_,h,_ | .own _ _,.optr _ _,_,h,_ | .own _ _,.eptr _ _ _ _,_,h,_ | .own _ _,.fn _ _,_,h,_ | .own _ _,.junk,_,h,_=>by unfold cLe at h;exact h.elim
 | .optr _ _,.t _ _,_,h,_ | .optr _ _,.nil,_,h,_ | .optr _ _,.own _ _,_,h,_ | .optr _ _,.eptr _ _ _ _,_,h,_ | .optr _ _,.fn _ _,_,h,_ | .optr _ _,.junk,_,h,_=>by unfold cLe at h;exact h.elim
 | .eptr _ _ _ _,.t _ _,_,h,_ | .eptr _ _ _ _,.nil,_,h,_ | .eptr _ _ _ _,.own _ _,_,h,_ | .eptr _ _ _ _,.optr _ _,_,h,_ | .eptr _ _ _ _,.fn _ _,_,h,_ | .eptr _ _ _ _,.junk,_,h,_=>by unfold cLe at h;exact h.elim
 | .fn _ _,.t _ _,_,h,_ | .fn _ _,.nil,_,h,_ | .fn _ _,.own _ _,_,h,_ | .fn _ _,.optr _ _,_,h,_ | .fn _ _,.eptr _ _ _ _,_,h,_ | .fn _ _,.junk,_,h,_=>by unfold cLe at h;exact h.elim
theorem RdCs.le:∀ {c d:List C} {x:List Value},csLe c d→RdCs w (okOf X ρ w) ρ d x→RdCs w (okOf X ρ w) ρ c x
 | [],[],_,_,hx=>hx
 | c :: cs,d :: ds,[],_,hx=>by unfold RdCs at hx;exact hx.elim
 | c :: cs,d :: ds,x :: xs,h,hx=>by
  unfold csLe at h
  unfold RdCs at hx ⊢
  exact ⟨RdC.le h.1 hx.1,RdCs.le h.2 hx.2⟩
 | [],_ :: _,_,h,_=>by unfold csLe at h;exact h.elim
 | _ :: _,[],_,h,_=>by unfold csLe at h;exact h.elim
end
theorem RdV.le {c d:V} {x:Value} (h:vLe c d) (hx:RdV w (okOf X ρ w) ρ d x):RdV w (okOf X ρ w) ρ c x:=by
 cases c <;> cases d <;> simp only [vLe] at h
 ·unfold RdV at hx ⊢;exact hx.le h
 ·unfold RdV at hx ⊢
  obtain ⟨xs,h1,h2⟩:=hx
  exact ⟨xs,h1,h2.le h⟩
theorem RdVs.le:∀ {c d:List V} {x:List Value},vsLe c d→RdVs w (okOf X ρ w) ρ d x→RdVs w (okOf X ρ w) ρ c x
 | [],[],_,_,hx=>hx
 | c :: cs,d :: ds,[],_,hx=>by unfold RdVs at hx;exact hx.elim
 | c :: cs,d :: ds,x :: xs,h,hx=>by
  unfold vsLe at h
  unfold RdVs at hx ⊢
  exact ⟨RdV.le h.1 hx.1,RdVs.le h.2 hx.2⟩
 | [],_ :: _,_,h,_=>by unfold vsLe at h;exact h.elim
 | _ :: _,[],_,h,_=>by unfold vsLe at h;exact h.elim
def seeS (X:Cx) (ρ:Nat→R) (w:World) (ids:List Nat):Bool→Nat→Prop
 | true,b=>okOf X ρ w false b
 | false,b=>b < w.heap.size∧∀ id cap,id ∈ ids→ρ id ≠ .lie b cap
def seeF (X:Cx) (ρ:Nat→R) (w:World) (ids:List Nat) (b:Nat):Prop:=okOf X ρ w true b ∨ ∃ id cap,id ∈ ids∧ρ id=.lie b cap
theorem seeS_lt {m:Bool} (b:Nat) (h:seeS X ρ w ids m b):b < w.heap.size:=by
 cases m with
 | true=>exact h.2.1
 | false=>exact h.1
abbrev Cx.see (X:Cx) (ρ:Nat→R) (w:World) (ids:List Nat) (m:Bool):Cx:=Cx.io w (seeS X ρ w ids m) (seeF X ρ w ids) seeS_lt (onlyR ids ρ) 0
theorem ok_see {m z:Bool} {b:Nat} (h:okOf X ρ w z b):okOf (X.see ρ w ids m) (onlyR ids ρ) w z b:=by
 refine ⟨?_,h.2.1,fun id b' cap hid=>h.2.2 id b' cap (onlyR_lie hid).1⟩
 cases z with
 | true=>exact .inr (.inl (.inl h))
 | false =>
  refine .inr (.inr ⟨rfl,?_⟩)
  cases m with
  | true=>exact h
  | false=>exact ⟨h.2.1,fun id cap _ hid=>h.2.2 id b cap hid rfl⟩
theorem ok_seeO {z:Bool} {b:Nat} (h:okOf X (onlyR ids ρ) w z b):okOf (X.see ρ w ids false) (onlyR ids ρ) w false b :=
 ⟨.inr (.inr ⟨rfl,h.2.1,fun id cap hm hid=>h.2.2 id b cap ((if_pos hm).trans hid) rfl⟩),h.2⟩
theorem cellIO_rd (hH:Hold X st ρ a w) {n:Nat} {m:Bool} {c:C} {q:Bool × C} {x:Value} (h:cellIO ids st n c=some q) (hm:m=true→q.1=true) (hx:RdC w (okOf X ρ w) ρ c x):RdC w (okOf (X.see ρ w ids m) (onlyR ids ρ) w) (onlyR ids ρ) q.2 x:=by
 have hT:∀ z t x,RdT w (okOf X ρ w z) t x→RdT w (okOf (X.see ρ w ids m) (onlyR ids ρ) w z) t x:=fun z t x hr=>hr.mono fun b hb=>⟨ok_see hb,rfl⟩
 have hcom:∀ c:C,(if c.only ids=true then some (true,c) else match viewC (butB ids st) n c with
  | some q=>some (false,.t false q.2)
  | none=>none)=some q→RdC w (okOf X ρ w) ρ c x→RdC w (okOf (X.see ρ w ids m) (onlyR ids ρ) w) (onlyR ids ρ) q.2 x:=fun c h hx=>by
  split at h
  ·rename_i ho
   injection h with h
   subst h
   exact hx.less hT (fun id hid=>if_pos hid) ho
  ·split at h
   ·rename_i r hr
    injection h with h
    subst h
    have hv:=viewO_rd hH hr hx
    unfold RdC
    cases m with
    | true=>cases hm rfl
    | false=>exact hv.mono fun b hb=>⟨ok_seeO hb,rfl⟩
   ·cases h
 cases c with
 | t z t =>
  simp only [cellIO,Option.some.injEq] at h
  subst h
  unfold RdC at hx ⊢
  exact hT _ _ _ hx
 | nil =>
  simp only [cellIO,Option.some.injEq] at h
  subst h
  unfold RdC at hx ⊢
  exact hx
 | own i k=>exact hcom (.own i k) h hx
 | optr i k=>exact hcom (.optr i k) h hx
 | eptr i k s j=>exact hcom (.eptr i k s j) h hx
 | fn f cs=>exact hcom (.fn f cs) h hx
 | junk=>exact hcom .junk h hx
 | omap i=>exact hcom (.omap i) h hx
 | ocut i s lo len=>exact hcom (.ocut i s lo len) h hx
theorem cellsIO_rd (hH:Hold X st ρ a w) {n:Nat} {m:Bool}:∀ {c:List C} {q:Bool × List C} {x:List Value},cellsIO ids st n c=some q→(m=true→q.1=true)→RdCs w (okOf X ρ w) ρ c x→RdCs w (okOf (X.see ρ w ids m) (onlyR ids ρ) w) (onlyR ids ρ) q.2 x
 | [],q,x,h,_,hx=>by
  simp only [cellsIO,Option.some.injEq] at h
  subst h
  cases x with
  | nil=>unfold RdCs;trivial
  | cons=>unfold RdCs at hx;exact hx.elim
 | c :: cs,q,[],h,_,hx=>by unfold RdCs at hx;exact hx.elim
 | c :: cs,q,x :: xs,h,hm,hx=>by
  simp only [cellsIO] at h
  split at h
  ·rename_i q1 hq1
   split at h
   ·rename_i q2 hq2
    injection h with h
    subst h
    unfold RdCs at hx ⊢
    exact ⟨cellIO_rd hH hq1 (fun e=>(Bool.and_eq_true _ _ ▸ hm e).1) hx.1,cellsIO_rd hH hq2 (fun e=>(Bool.and_eq_true _ _ ▸ hm e).2) hx.2⟩
   ·cases h
  ·cases h
theorem valIO_rd (hH:Hold X st ρ a w) {n:Nat} {m:Bool} {c:V} {q:Bool × V} {x:Value} (h:valIO ids st n c=some q) (hm:m=true→q.1=true) (hx:RdV w (okOf X ρ w) ρ c x):RdV w (okOf (X.see ρ w ids m) (onlyR ids ρ) w) (onlyR ids ρ) q.2 x:=by
 cases c with
 | one c =>
  simp only [valIO] at h
  split at h
  ·rename_i q1 hq1
   injection h with h
   subst h
   unfold RdV at hx ⊢
   exact cellIO_rd hH hq1 hm hx
  ·cases h
 | agg cs =>
  simp only [valIO] at h
  split at h
  ·rename_i q1 hq1
   injection h with h
   subst h
   unfold RdV at hx ⊢
   obtain ⟨xs,h1,h2⟩:=hx
   exact ⟨xs,h1,cellsIO_rd hH hq1 hm h2⟩
  ·cases h
 | tup vs=>cases h
 | junk=>cases h
theorem argsIO_rd (hH:Hold X st ρ a w) {n:Nat} {m:Bool}:∀ {os:List Operand} {q:Bool × List V},argsIO ids st n os=some q→(m=true→q.1=true)→RdVs w (okOf (X.see ρ w ids m) (onlyR ids ρ) w) (onlyR ids ρ) q.2 (os.map a.eval)
 | [],q,h,_=>by
  simp only [argsIO,Option.some.injEq] at h
  subst h
  rw [List.map_nil];unfold RdVs;trivial
 | o :: os,q,h,hm=>by
  simp only [argsIO] at h
  split at h
  ·rename_i v hv
   split at h
   ·rename_i q1 hq1
    split at h
    ·rename_i q2 hq2
     injection h with h
     subst h
     rw [List.map_cons]
     unfold RdVs
     exact ⟨valIO_rd hH hq1 (fun e=>(Bool.and_eq_true _ _ ▸ hm e).1) (ev_sound hH hv),argsIO_rd hH hq2 (fun e=>(Bool.and_eq_true _ _ ▸ hm e).2)⟩
    ·cases h
   ·cases h
  ·cases h
theorem RdVs.append {ok:Bool→Nat→Prop}:∀ {cs ds:List V} {xs ys:List Value},RdVs w ok ρ cs xs→RdVs w ok ρ ds ys→RdVs w ok ρ (cs++ds) (xs++ys)
 | [],_,[],_,_,h=>h
 | _ :: _,_,_ :: _,_,h,h'=>by
  unfold RdVs at h
  rw [List.cons_append,List.cons_append]
  unfold RdVs
  exact ⟨h.1,RdVs.append h.2 h'⟩
 | [],_,_ :: _,_,h,_=>by unfold RdVs at h;exact h.elim
 | _ :: _,_,[],_,h,_=>by unfold RdVs at h;exact h.elim
theorem RdCs.toVs {ok:Bool→Nat→Prop}:∀ {cs:List C} {xs:List Value},RdCs w ok ρ cs xs→RdVs w ok ρ (cs.map V.one) xs
 | [],[],_=>by rw [List.map_nil];unfold RdVs;trivial
 | _ :: _,_ :: _,h=>by
  unfold RdCs at h
  rw [List.map_cons]
  unfold RdVs RdV
  exact ⟨h.1,RdCs.toVs h.2⟩
 | [],_ :: _,h=>by unfold RdCs at h;exact h.elim
 | _ :: _,[],h=>by unfold RdCs at h;exact h.elim
theorem RdL.toVs {ok:Bool→Nat→Prop} {z:Bool}:∀ {cs:List T} {xs:List Value},RdL w (ok z) cs xs→RdVs w ok ρ (cs.map fun t=>.one (.t z t)) xs
 | [],[],_=>by rw [List.map_nil];unfold RdVs;trivial
 | _ :: _,_ :: _,h=>by
  unfold RdL at h
  rw [List.map_cons]
  unfold RdVs RdV RdC
  exact ⟨h.1,RdL.toVs h.2⟩
 | [],_ :: _,h=>by unfold RdL at h;exact h.elim
 | _ :: _,[],h=>by unfold RdL at h;exact h.elim
theorem insLe_has (hH:Hold X st ρ a w) {m:Bool} {ins:List (Nat × B)} (h:insLe st.bl ins) (hcl:∀ p ∈ ins,p.2.only ids=true) (hin:∀ p ∈ ins,p.1 ∈ ids) {id:Nat} {b:B} (hg:get id ins=some b):HasB (X.see ρ w ids m) w (onlyR ids ρ) id b:=by
 have hT:∀ z t x,RdT w (okOf X ρ w z) t x→RdT w (okOf (X.see ρ w ids m) (onlyR ids ρ) w z) t x:=fun z t x hr=>hr.mono fun b hb=>⟨ok_see hb,rfl⟩
 have hmem:=get_mem hg
 have hle:bLe b (get id st.bl):=by
  have key:∀ l:List (Nat × B),insLe st.bl l→(id,b) ∈ l→bLe b (get id st.bl):=by
   intro l
   induction l with
   | nil=>intro _ h;cases h
   | cons p l ih =>
    intro h1 h2
    unfold insLe at h1
    rcases List.mem_cons.1 h2 with h2 | h2
    ·subst h2;exact h1.1
    ·exact ih h1.2 h2
  exact key ins h hmem
 have hid:onlyR ids ρ id=ρ id:=if_pos (hin _ hmem)
 cases hb:get id st.bl with
 | none=>rw [hb] at hle;cases b <;> simp [bLe] at hle
 | some b' =>
  rw [hb] at hle
  have hB:=hH.blocks id b' hb
  cases b with
  | arr e s z rows =>
   cases b' with
   | var=>simp [bLe] at hle
   | mp=>simp [bLe] at hle
   | arr e' s' z' rows' =>
    simp only [bLe] at hle
    obtain ⟨rfl,rfl,hz,rfl⟩:=hle
    unfold HasB at hB ⊢
    rw [hid]
    cases hr:ρ id with
    | dead=>simp [hr] at hB
    | nil=>simp only [hr] at hB ⊢;exact hB
    | lie g cap =>
     simp only [hr] at hB ⊢
     obtain ⟨xs,g1,g2,g3⟩:=hB
     exact ⟨xs,g1,(rdL_weak (zLe_imp hz) g2).mono fun b hb=>⟨ok_see hb,rfl⟩,g3⟩
  | var e cs =>
   cases b' with
   | arr=>simp [bLe] at hle
   | var e' cs' =>
    simp only [bLe] at hle
    obtain ⟨rfl,hc⟩:=hle
    unfold HasB at hB ⊢
    obtain ⟨g,cap,hr,xs,g1,g2⟩:=hB
    exact ⟨g,cap,hid.trans hr,xs,g1,(g2.le hc).less hT (fun id hid=>if_pos hid) (hcl _ hmem)⟩
   | mp=>simp [bLe] at hle
  | mp k es =>
   cases b' with
   | arr=>simp [bLe] at hle
   | var=>simp [bLe] at hle
   | mp k' es' =>
    simp only [bLe] at hle
    obtain ⟨rfl,rfl⟩:=hle
    unfold HasB at hB ⊢
    obtain ⟨g,cap,hr,rest⟩:=hB
    exact ⟨g,cap,hid.trans hr,rest⟩
def afterR (ids outs:List Nat) (ρ ρc:Nat→R) (i:Nat):R:=if i ∈ outs then ρc i else if i ∈ ids then .dead else ρ i
end
end Go.Proofs.YtjdgejfhnfnmgaaGreatDoor.Ax
namespace Go.Proofs.YtjdgejfhnfnmgaaGreatDoor.Ax
open Go.RowKit
def ioD (ins:List Nat) (res:V) (outs:List (Nat × B)) (stays:List Nat):Delta:=.mod res ins ((ins++outs.map (·.1)).filter fun i=>!stays.contains i) outs
section
variable {w w':World} {ρ ρc:Nat→R} {P:Program} {X:Cx} {st:St} {a:Act} {ids:List Nat}
theorem afterR_out {outs:List Nat} {i:Nat} (h:i ∈ outs):afterR ids outs ρ ρc i=ρc i:=if_pos h
theorem afterR_lie {outs:List Nat} {i b cap:Nat} (h:afterR ids outs ρ ρc i=.lie b cap):i ∈ outs∧ρc i=.lie b cap ∨ i ∉ outs∧i ∉ ids∧ρ i=.lie b cap:=by
 unfold afterR at h
 split at h
 ·exact .inl ⟨by assumption,h⟩
 ·split at h
  ·cases h
  ·exact .inr ⟨by assumption,by assumption,h⟩
theorem ok_after (hH:Hold X st ρ a w) {m z:Bool} {outs:List Nat} (hmz:m=true ∨ z=true) {b:Nat} (h:okOf (X.see ρ w ids m) ρc w' z b):okOf X (afterR ids outs ρ ρc) w' z b:=by
 obtain ⟨h1,h2,h3⟩:=h
 have fin:((X.base.heap.size≤b ∨ X.F b ∨ z=false∧X.S b)∧∀ id cap,id ∉ ids→ρ id ≠ .lie b cap)→okOf X (afterR ids outs ρ ρc) w' z b:=fun ⟨g1,g2⟩=>⟨g1,h2,fun id b' cap hid e=>by
  subst e
  rcases afterR_lie hid with ⟨_,q⟩ | ⟨_,q1,q2⟩
  ·exact h3 id _ cap q rfl
  ·exact g2 id cap q1 q2⟩
 rcases h1 with h1 | h1 | ⟨hz,h1⟩
 ·exact fin ⟨.inl (Nat.le_trans hH.below.size h1),fun id cap _ hid=>by have:=(hH.ge id b cap hid).2.2;have h1:w.heap.size≤b:=h1;omega⟩
 ·rcases h1 with h1 | ⟨id,cap,h4,h5⟩
  ·exact fin ⟨h1.1.imp (fun h=>h) (fun h=>h.elim .inl (fun h=>by cases h.1)),fun id cap _ hid=>h1.2.2 id b cap hid rfl⟩
  ·exact fin ⟨(hH.ge id b cap h5).1.imp (fun h=>h) .inl,fun id' cap' hn hid=>hn (hH.inj _ _ _ _ _ h5 hid ▸ h4)⟩
 ·cases m with
  | true =>
   have h1:okOf X ρ w false b:=h1
   exact fin ⟨h1.1.imp (fun h=>h) (fun h=>h.imp (fun h=>h) (fun h=>⟨hz,h.2⟩)),fun id cap _ hid=>h1.2.2 id b cap hid rfl⟩
  | false =>
   rcases hmz with h | h
   ·cases h
   ·rw [hz] at h;cases h
theorem hasB_after (hH:Hold X st ρ a w) {m:Bool} {outs:List Nat} (hids:∀ id,id ∉ outs→ρc id=.dead) {b:B} {id:Nat} (hm:m=true ∨ b.allF=true) (h:HasB (X.see ρ w ids m) w' ρc id b):HasB X w' (afterR ids outs ρ ρc) id b:=by
 have hj:∀ id,ρc id=.dead ∨ afterR ids outs ρ ρc id=ρc id:=fun id=>by
  by_cases hm:id ∈ outs
  ·exact .inr (if_pos hm)
  ·exact .inl (hids id hm)
 cases b with
 | arr e s z rows =>
  unfold HasB at h ⊢
  rcases hj id with h1 | h1
  ·simp [h1] at h
  ·rw [h1]
   cases hid:ρc id with
   | dead=>simp [hid] at h
   | nil=>simp only [hid] at h ⊢;exact h
   | lie g cap =>
    simp only [hid] at h ⊢
    obtain ⟨xs,h1,h2,h3⟩:=h
    exact ⟨xs,h1,h2.mono fun b hb=>⟨ok_after hH (hm.imp (fun h=>h) fun h=>by simpa [B.allF] using h) hb,rfl⟩,h3⟩
 | var e cells =>
  unfold HasB at h ⊢
  obtain ⟨g,cap,hid,xs,h1,h2⟩:=h
  have hid':afterR ids outs ρ ρc id=.lie g cap:=by
   rcases hj id with h3 | h3
   ·rw [h3] at hid;cases hid
   ·rw [h3];exact hid
  refine ⟨g,cap,hid',xs,h1,?_⟩
  rcases hm with hm | hm
  ·exact h2.more (fun z t x hr=>hr.mono fun b hb=>⟨ok_after hH (.inl hm) hb,rfl⟩) hj
  ·exact RdCs.moreF (fun t x hr=>hr.mono fun b hb=>⟨ok_after hH (.inr rfl) hb,rfl⟩) hj (by simpa [B.allF] using hm) h2
 | mp k es =>
  unfold HasB at h ⊢
  obtain ⟨g,cap,hid,rest⟩:=h
  have hid':afterR ids outs ρ ρc id=.lie g cap:=by
   rcases hj id with h3 | h3
   ·rw [h3] at hid;cases hid
   ·rw [h3];exact hid
  exact ⟨g,cap,hid',rest⟩
def staysOk (n:Nat) (ins:List Nat) (outs:List Nat) (stays:List Nat):Bool :=
 stays.all (fun i=>ins.contains i && outs.contains i) && outs.all fun i=>stays.contains i || decide (i < n)
theorem callIO_run {o:Oper} {c:Call} {cv:Operand} {f:FuncId} {as_:List V} {ids:List Nat} {m:Bool} {n:Nat} (hop:o.op=.call c) (hcal:c.callee=.value cv) (hc:callIO ids st n cv c.args.toList=some (f,m,as_)) (hen:Enters P f) (hH:Hold X st ρ a w) :
  ∃ xs:List Value,(execOp a.eval o).run P w=.ok (.enter f xs.toArray) w∧RdVs w (okOf (X.see ρ w ids m) (onlyR ids ρ) w) (onlyR ids ρ) as_ xs:=by
 unfold callIO at hc
 split at hc
 ·rename_i p hp
  split at hc
  ·rename_i q hq
   obtain ⟨g,m1,caps⟩:=p
   simp only [Option.some.injEq,Prod.mk.injEq] at hc
   obtain ⟨rfl,rfl,rfl⟩:=hc
   have hval:∃ xs,a.eval cv=.func (.func g) #[] xs∧RdVs w (okOf (X.see ρ w ids (m1 && q.1)) (onlyR ids ρ) w) (onlyR ids ρ) caps xs.toList:=by
    unfold calleeIO at hp
    split at hp
    ·rename_i z g' ts he
     simp only [Option.some.injEq,Prod.mk.injEq] at hp
     obtain ⟨rfl,rfl,rfl⟩:=hp
     have:=ev_sound hH he
     unfold RdV RdC RdT at this
     obtain ⟨xs,h1,h2⟩:=this
     exact ⟨xs,h1,RdL.toVs (h2.mono fun b hb=>⟨ok_see hb,rfl⟩)⟩
    ·rename_i g' cs he
     split at hp
     ·rename_i r hr
      split at hp
      ·rename_i hlt
       simp only [Option.some.injEq,Prod.mk.injEq] at hp
       obtain ⟨rfl,rfl,rfl⟩:=hp
       have:=ev_sound hH he
       unfold RdV RdC fnV at this
       rw [hlt] at this
       obtain ⟨xs,h1,h2⟩:=this
       exact ⟨xs,h1,(cellsIO_rd hH hr (fun e=>(Bool.and_eq_true _ _ ▸ e).1) h2).toVs⟩
      ·cases hp
     ·cases hp
    ·cases hp
   obtain ⟨xs,hfv,hcaps⟩:=hval
   refine ⟨(c.args.toList.map a.eval)++xs.toList,?_,RdVs.append (argsIO_rd (m:=m1 && q.1) hH hq (fun e=>(Bool.and_eq_true _ _ ▸ e).2)) hcaps⟩
   have he:=hen ((c.args.toList.map a.eval)++xs.toList).toArray w
   simp only [execOp,hop,resolve,hcal,Deferred.ofValue,hfv,Sem.run_bind,Sem.run_pure,Result.andThen_ok,invoke]
   rw [← he]
   congr 2
   obtain ⟨xs⟩:=xs
   obtain ⟨ar⟩:∃ l:List Operand,c.args=l.toArray:=⟨c.args.toList,by simp⟩
   simp [*]
  ·cases hc
 ·split at hc
  ·rename_i p hp
   split at hc
   ·rename_i q hq
    obtain ⟨g,m1,caps⟩:=p
    simp only [Option.some.injEq,Prod.mk.injEq] at hc
    obtain ⟨rfl,rfl,rfl⟩:=hc
    have hval:∃ xs,a.eval cv=.func (.func g) xs #[]∧RdVs w (okOf (X.see ρ w ids (m1 && q.1)) (onlyR ids ρ) w) (onlyR ids ρ) caps xs.toList:=by
     unfold boundIO at hp
     split at hp
     ·rename_i g' cs he
      split at hp
      ·rename_i r hr
       split at hp
       ·cases hp
       ·rename_i hlt
        simp only [Option.some.injEq,Prod.mk.injEq] at hp
        obtain ⟨rfl,rfl,rfl⟩:=hp
        have:=ev_sound hH he
        unfold RdV RdC fnV at this
        rw [hlt] at this
        obtain ⟨xs,h1,h2⟩:=this
        exact ⟨xs,h1,(cellsIO_rd hH hr (fun e=>(Bool.and_eq_true _ _ ▸ e).1) h2).toVs⟩
      ·cases hp
     ·cases hp
    obtain ⟨xs,hfv,hcaps⟩:=hval
    refine ⟨xs.toList++(c.args.toList.map a.eval),?_,RdVs.append hcaps (argsIO_rd (m:=m1 && q.1) hH hq (fun e=>(Bool.and_eq_true _ _ ▸ e).2))⟩
    have he:=hen (xs.toList++(c.args.toList.map a.eval)).toArray w
    simp only [execOp,hop,resolve,hcal,Deferred.ofValue,hfv,Sem.run_bind,Sem.run_pure,Result.andThen_ok,invoke]
    rw [← he]
    congr 2
    obtain ⟨xs⟩:=xs
    obtain ⟨ar⟩:∃ l:List Operand,c.args=l.toArray:=⟨c.args.toList,by simp⟩
    simp [*]
   ·cases hc
  ·cases hc
theorem callIO_step {o:Oper} {c:Call} {cv:Operand} {f:FuncId} {args as_:List V} {ins:List (Nat × B)} {res:V} {outs:List (Nat × B)} {stays:List Nat} {m:Bool} {n:Nat} (hop:o.op=.call c) (hcal:c.callee=.value cv)
  (hc:callIO (ins.map (·.1)) st n cv c.args.toList=some (f,m,as_)) (hsp:SpIO P f args ins res outs stays) (hle:vsLe args as_) (hins:insLe st.bl ins) (hcl:ins.all (fun p=>p.2.only (ins.map (·.1)))=true)
  (hm:m=true ∨ res.allF=true∧∀ p ∈ outs,p.2.allF=true) (hst:staysOk X.n (ins.map (·.1)) (outs.map (·.1)) stays=true):Step P X st o (ioD (ins.map (·.1)) res outs stays):=by
 intro _ ρ a w hH K Q hK
 obtain ⟨xs,hrun,hargs⟩:=callIO_run hop hcal hc hsp.enters hH
 generalize hids:ins.map (fun p:Nat × B=>p.1)=ids at *
 have hargs':=hargs.le hle
 unfold Oper.wp
 rw [hrun,Oper.upon_enter]
 have hin:∀ p ∈ ins,p.1 ∈ ids:=fun p hp=>by rw [← hids];exact List.mem_map.2 ⟨p,hp,rfl⟩
 refine (hsp.calls w _ (seeF X ρ w ids) seeS_lt (onlyR ids ρ) (fun id b cap hid=>?_) (fun i j b c' d hi hj=>hH.inj i j b c' d (onlyR_lie hi).1 (onlyR_lie hj).1) (fun id hid=>if_neg (by rw [hids] at hid;exact hid)) (fun id b hg=>insLe_has hH hins (fun p hp=>List.all_eq_true.1 hcl p hp) hin hg) _ hH.gww hargs').mono ?_
 ·obtain ⟨h1,h2⟩:=onlyR_lie hid
  exact ⟨.inr ⟨id,cap,h2,h1⟩,(hH.ge id b cap h1).2.2,Nat.le_of_not_lt fun hlt=>(hH.ge id b cap h1).2.1 (hH.gk b hlt)⟩
 ·rintro e w' ⟨x,ρc,rfl,hb,hkeep,hge,hinj,hdead,hstay,hx,hnb⟩
  unfold staysOk at hst
  simp only [Bool.and_eq_true,List.all_eq_true,List.contains_eq_mem,decide_eq_true_eq,Bool.or_eq_true] at hst
  obtain ⟨hst1,hst2⟩:=hst
  have hold:∀ id b cap,ρc id=.lie b cap→b < w.heap.size→∃ j d,j ∈ ids∧ρ j=.lie b d:=fun id b cap hid hlt=>Classical.byContradiction fun hno=>(hge id b cap hid).2.1 ⟨hlt,fun j d hj=>by
   obtain ⟨h1,h2⟩:=onlyR_lie hj
   exact hno ⟨j,d,h2,h1⟩⟩
  have hev:Evo X ρ w (afterR ids (outs.map fun p:Nat × B=>p.1) ρ ρc) w' ids ((ids++outs.map (·.1)).filter fun i=>!stays.contains i):=by
   refine ⟨hb,fun b hlt hno=>hkeep b ⟨hlt,fun id cap hid=>?_⟩,fun id hid=>?_,fun id b cap hid hl=>?_,fun i j b c' d hi hj=>?_,fun id hid=>?_⟩
   ·obtain ⟨h1,h2⟩:=onlyR_lie hid
    exact hno id cap h2 h1
   ·simp only [List.mem_filter,List.mem_append,Bool.not_eq_true',List.contains_eq_mem,decide_eq_false_iff_not,not_and,Classical.not_not] at hid
    by_cases hs:id ∈ stays
    ·rw [afterR_out (hst1 id hs).2,hstay id hs]
     exact if_pos (hst1 id hs).1
    ·have h1:id ∉ ids:=fun h=>hs (hid (.inl h))
     have h2:id ∉ outs.map (fun p:Nat × B=>p.1):=fun h=>hs (hid (.inr h))
     unfold afterR
     rw [if_neg h2,if_neg h1]
   ·rcases afterR_lie hl with ⟨_,h2⟩ | ⟨h1,h2,_⟩
    ·refine ⟨(hge id b cap h2).2.2,?_⟩
     rcases Nat.lt_or_ge b w.heap.size with hlt | hge'
     ·obtain ⟨j,d,_,h4⟩:=hold id b cap h2 hlt
      exact .inr ⟨j,d,h4⟩
     ·exact .inl hge'
    ·have:=(List.mem_filter.1 hid).1
     rcases List.mem_append.1 this with h | h
     ·exact absurd h h2
     ·exact absurd h h1
   ·have clash:∀ i j b c' d,ρc i=.lie b c'→j ∉ ids→ρ j=.lie b d→False:=fun i j b c' d hi hn hj=>by
     obtain ⟨k,d',h1,h2⟩:=hold i b c' hi (hH.ge j b d hj).2.2
     exact hn (hH.inj _ _ _ _ _ hj h2 ▸ h1)
    rcases afterR_lie hi with ⟨_,h1⟩ | ⟨h1,h2,h3⟩ <;> rcases afterR_lie hj with ⟨_,h4⟩ | ⟨h4,h5,h6⟩
    ·exact hinj i j b c' d h1 h4
    ·exact (clash i j b c' d h1 h5 h6).elim
    ·exact (clash j i b d c' h4 h2 h3).elim
    ·exact hH.inj i j b c' d h3 h6
   ·by_cases ho:id ∈ outs.map (fun p:Nat × B=>p.1)
    ·obtain ⟨h1,h2⟩:=List.mem_filter.1 hid
     simp only [Bool.not_eq_true',List.contains_eq_mem,decide_eq_false_iff_not] at h2
     exact .inl ((hst2 id ho).resolve_left h2)
    ·obtain ⟨h1,h2⟩:=List.mem_filter.1 hid
     rcases List.mem_append.1 h1 with h | h
     ·refine .inr ?_
      unfold afterR
      rw [if_neg ho,if_pos h]
     ·exact absurd h ho
  refine hK x _ w' ⟨hev,?_,fun id b hid=>hasB_after hH (fun id hid=>hdead id hid) (hm.imp (fun h=>h) fun h=>h.2 _ (get_mem hid)) (hnb id b hid)⟩
  have hj:∀ id,ρc id=.dead ∨ afterR ids (outs.map fun p:Nat × B=>p.1) ρ ρc id=ρc id:=fun id=>by
   by_cases hm:id ∈ outs.map (fun p:Nat × B=>p.1)
   ·exact .inr (if_pos hm)
   ·exact .inl (hdead id hm)
  rcases hm with hm | hm
  ·exact hx.more (fun z t x hr=>hr.mono fun b hb'=>⟨ok_after hH (.inl hm) hb',rfl⟩) hj
  ·exact RdV.moreF (fun t x hr=>hr.mono fun b hb'=>⟨ok_after hH (.inr rfl) hb',rfl⟩) hj hm.1 hx
def modeIO (m:Bool) (res:V) (outs:List (Nat × B)):Bool:=m || (res.allF && outs.all fun p=>p.2.allF)
theorem rwr_io {ops:Array Oper} {K:St→Prop} {o:Oper} {l:List Oper} {c:Call} {cv:Operand} {f:FuncId} {args as_:List V} {ins:List (Nat × B)} {res:V} {outs:List (Nat × B)} {stays:List Nat} {m:Bool} (n:Nat) (hsp:SpIO P f args ins res outs stays) (hop:o.op=.call c) (hcal:c.callee=.value cv)
  (hc:callIO (ins.map (·.1)) st n cv c.args.toList=some (f,m,as_)) (hle:vsLe args as_) (hins:insLe st.bl ins) (hcl:ins.all (fun p=>p.2.only (ins.map (·.1)))=true) (hm:modeIO m res outs=true) (hg:guardOf st ops o=some true)
  (hd:(dstOk X.n o.dst && staysOk X.n (ins.map (·.1)) (outs.map (·.1)) stays)=true) (h:RWr P X ops K (runs P X.n ops l (st.app (ioD (ins.map (·.1)) res outs stays) o.dst))):RWr P X ops K (o :: l,st):=by
 rw [Bool.and_eq_true] at hd
 refine rw_step (callIO_step (n:=n) hop hcal hc hsp hle hins hcl ?_ hd.2) hg hd.1 (rw_go h)
 unfold modeIO at hm
 simpa [Bool.or_eq_true,Bool.and_eq_true,List.all_eq_true] using hm
end
end Go.Proofs.YtjdgejfhnfnmgaaGreatDoor.Ax
namespace Go.Proofs.YtjdgejfhnfnmgaaGreatDoor.Ax
open Go.RowKit
def fwdR (σ:List (Nat × Nat)) (ρ:Nat→R) (i:Nat):R:=match get i σ with
 | some j=>ρ j
 | none=>.dead
section
variable {σ:List (Nat × Nat)} {ρ:Nat→R} {w:World} {ok ok':Bool→Nat→Prop}
theorem fwdR_get {i j:Nat} (h:get i σ=some j):fwdR σ ρ i=ρ j:=by unfold fwdR;rw [h]
theorem fwdR_lie {i b cap:Nat} (h:fwdR σ ρ i=.lie b cap):∃ j,get i σ=some j∧ρ j=.lie b cap:=by
 unfold fwdR at h
 split at h
 ·exact ⟨_,by assumption,h⟩
 ·cases h
theorem ren_inj:∀ {σ:List (Nat × Nat)} {i j k:Nat},renOk σ=true→get i σ=some k→get j σ=some k→i=j
 | [],_,_,_,_,h,_=>by cases h
 | (a,b) :: l,i,j,k,hn,hi,hj=>by
  simp only [renOk,Bool.and_eq_true,Bool.not_eq_true',List.contains_eq_mem,decide_eq_false_iff_not] at hn
  unfold get at hi hj
  split at hi <;> split at hj
  ·rename_i h1 h2;rw [h1,h2]
  ·injection hi with hi
   subst hi
   exact absurd (List.mem_map.2 ⟨_,get_mem hj,rfl⟩) hn.1.2
  ·injection hj with hj
   subst hj
   exact absurd (List.mem_map.2 ⟨_,get_mem hi,rfl⟩) hn.1.2
  ·exact ren_inj hn.2 hi hj
theorem get_dom:∀ {σ:List (Nat × Nat)} {i:Nat},i ∈ σ.map (·.1)→∃ j,get i σ=some j
 | [],_,h=>by cases h
 | (a,b) :: l,i,h=>by
  unfold get
  by_cases hi:i=a
  ·exact ⟨b,if_pos hi⟩
  ·rw [if_neg hi]
   rcases List.mem_cons.1 h with h | h
   ·exact absurd h hi
   ·exact get_dom h
mutual
theorem RdC.unren (hT:∀ z t x,RdT w (ok z) t x→RdT w (ok' z) t x):∀ {c:C} {x:Value},c.only (σ.map (·.1))=true→RdC w ok ρ (c.ren σ) x→RdC w ok' (fwdR σ ρ) c x
 | .t z t,x,_,h=>by simp only [C.ren] at h;unfold RdC at h ⊢;exact hT _ _ _ h
 | .nil,x,_,h=>by simp only [C.ren] at h;unfold RdC at h ⊢;exact h
 | .own id len,x,ho,h=>by
  obtain ⟨j,hj⟩:=get_dom (by simpa [C.only] using ho)
  simp only [C.ren,renI_get hj] at h
  unfold RdC at h ⊢
  rw [fwdR_get hj];exact h
 | .optr id len,x,ho,h=>by
  obtain ⟨j,hj⟩:=get_dom (by simpa [C.only] using ho)
  simp only [C.ren,renI_get hj] at h
  unfold RdC at h ⊢
  rw [fwdR_get hj];exact h
 | .eptr id k s o,x,ho,h=>by
  obtain ⟨j,hj⟩:=get_dom (by simpa [C.only] using ho)
  simp only [C.ren,renI_get hj] at h
  unfold RdC at h ⊢
  rw [fwdR_get hj];exact h
 | .omap id,x,ho,h=>by
  obtain ⟨j,hj⟩:=get_dom (by simpa [C.only] using ho)
  simp only [C.ren,renI_get hj] at h
  unfold RdC at h ⊢
  rw [fwdR_get hj];exact h
 | .ocut id s lo len,x,ho,h=>by
  obtain ⟨j,hj⟩:=get_dom (by simpa [C.only] using ho)
  simp only [C.ren,renI_get hj] at h
  unfold RdC at h ⊢
  rw [fwdR_get hj];exact h
 | .fn f caps,x,ho,h=>by
  simp only [C.ren] at h
  unfold RdC at h ⊢
  obtain ⟨xs,h1,h2⟩:=h
  exact ⟨xs,h1,RdCs.unren hT (by simpa [C.only] using ho) h2⟩
 | .junk,x,_,h=>by simp only [C.ren] at h;unfold RdC at h ⊢;exact h
theorem RdCs.unren (hT:∀ z t x,RdT w (ok z) t x→RdT w (ok' z) t x):∀ {c:List C} {x:List Value},C.onlys (σ.map (·.1)) c=true→RdCs w ok ρ (C.rens σ c) x→RdCs w ok' (fwdR σ ρ) c x
 | [],[],_,_=>by unfold RdCs;trivial
 | c :: cs,x :: xs,ho,h=>by
  simp only [C.onlys,Bool.and_eq_true] at ho
  simp only [C.rens] at h
  unfold RdCs at h ⊢
  exact ⟨RdC.unren hT ho.1 h.1,RdCs.unren hT ho.2 h.2⟩
 | [],_ :: _,_,h=>by simp only [C.rens] at h;unfold RdCs at h;exact h.elim
 | _ :: _,[],_,h=>by simp only [C.rens] at h;unfold RdCs at h;exact h.elim
end
mutual
theorem RdV.unren (hT:∀ z t x,RdT w (ok z) t x→RdT w (ok' z) t x):∀ {c:V} {x:Value},c.only (σ.map (·.1))=true→RdV w ok ρ (c.ren σ) x→RdV w ok' (fwdR σ ρ) c x
 | .one c,x,ho,h=>by simp only [V.ren] at h;unfold RdV at h ⊢;exact RdC.unren hT (by simpa [V.only] using ho) h
 | .agg cs,x,ho,h=>by
  simp only [V.ren] at h
  unfold RdV at h ⊢
  obtain ⟨xs,h1,h2⟩:=h
  exact ⟨xs,h1,RdCs.unren hT (by simpa [V.only] using ho) h2⟩
 | .tup vs,x,ho,h=>by
  simp only [V.ren] at h
  unfold RdV at h ⊢
  obtain ⟨xs,h1,h2⟩:=h
  exact ⟨xs,h1,RdVs.unren hT (by simpa [V.only] using ho) h2⟩
 | .junk,x,_,_=>by unfold RdV;trivial
theorem RdVs.unren (hT:∀ z t x,RdT w (ok z) t x→RdT w (ok' z) t x):∀ {c:List V} {x:List Value},V.onlys (σ.map (·.1)) c=true→RdVs w ok ρ (V.rens σ c) x→RdVs w ok' (fwdR σ ρ) c x
 | [],[],_,_=>by unfold RdVs;trivial
 | c :: cs,x :: xs,ho,h=>by
  simp only [V.onlys,Bool.and_eq_true] at ho
  simp only [V.rens] at h
  unfold RdVs at h ⊢
  exact ⟨RdV.unren hT ho.1 h.1,RdVs.unren hT ho.2 h.2⟩
 | [],_ :: _,_,h=>by simp only [V.rens] at h;unfold RdVs at h;exact h.elim
 | _ :: _,[],_,h=>by simp only [V.rens] at h;unfold RdVs at h;exact h.elim
end
theorem get_renB:∀ {nb:List (Nat × B)} {i:Nat} {b:B},renOk σ=true→(∀ p ∈ nb,∃ j,get p.1 σ=some j)→get i nb=some b→get (renI σ i) (renB σ nb)=some (b.ren σ)
 | [],_,_,_,_,h=>by cases h
 | (k,u) :: l,i,b,hn,hd,h=>by
  unfold get at h
  rw [renB]
  unfold get
  split at h
  ·rename_i hi
   injection h with h
   subst hi
   subst h
   rw [if_pos rfl]
  ·rename_i hi
   obtain ⟨j,hj⟩:=hd _ List.mem_cons_self
   obtain ⟨j',hj'⟩:=hd _ (List.mem_cons_of_mem _ (get_mem h))
   simp only at hj hj' ⊢
   rw [if_neg (by rw [renI_get hj,renI_get hj'];exact fun e=>hi (ren_inj hn hj' (e ▸ hj)))]
   exact get_renB hn (fun p hp=>hd p (List.mem_cons_of_mem _ hp)) h
theorem renB_mem {j:Nat}:∀ {nb:List (Nat × B)},j ∈ (renB σ nb).map (·.1)→∃ p ∈ nb,renI σ p.1=j
 | [],h=>by cases h
 | p :: l,h=>by
  rw [renB,List.map_cons] at h
  rcases List.mem_cons.1 h with h | h
  ·exact ⟨p,List.mem_cons_self,h.symm⟩
  ·obtain ⟨q,h1,h2⟩:=renB_mem h
   exact ⟨q,List.mem_cons_of_mem _ h1,h2⟩
theorem mem_renB {p:Nat × B}:∀ {nb:List (Nat × B)},p ∈ nb→renI σ p.1 ∈ (renB σ nb).map (·.1)
 | [],h=>by cases h
 | q :: l,h=>by
  rw [renB,List.map_cons]
  rcases List.mem_cons.1 h with h | h
  ·subst h;exact List.mem_cons_self
  ·exact List.mem_cons_of_mem _ (mem_renB h)
theorem HasB.unren {X:Cx} {id:Nat} {b:B} (hd:∃ j,get id σ=some j) (ho:b.only (σ.map (·.1))=true) (h:HasB X w ρ (renI σ id) (b.ren σ)):HasB X w (fwdR σ ρ) id b:=by
 obtain ⟨j,hj⟩:=hd
 have hT:∀ z b,okOf X ρ w z b→okOf X (fwdR σ ρ) w z b:=fun z b hb=>⟨hb.1,hb.2.1,fun id b' cap hid=>by
  obtain ⟨k,_,h2⟩:=fwdR_lie hid
  exact hb.2.2 k b' cap h2⟩
 rw [renI_get hj] at h
 cases b with
 | arr e s z rows =>
  simp only [B.ren] at h
  unfold HasB at h ⊢
  rw [fwdR_get hj]
  cases hr:ρ j with
  | dead=>simp [hr] at h
  | nil=>simp only [hr] at h ⊢;exact h
  | lie g cap =>
   simp only [hr] at h ⊢
   obtain ⟨xs,g1,g2,g3⟩:=h
   exact ⟨xs,g1,g2.mono fun b hb=>⟨hT _ b hb,rfl⟩,g3⟩
 | var e cells =>
  simp only [B.ren] at h
  unfold HasB at h ⊢
  obtain ⟨g,cap,hr,xs,g1,g2⟩:=h
  exact ⟨g,cap,(fwdR_get hj).trans hr,xs,g1,RdCs.unren (fun z t x hr=>hr.mono fun b hb=>⟨hT z b hb,rfl⟩) (by simpa [B.only] using ho) g2⟩
 | mp k es =>
  simp only [B.ren] at h
  unfold HasB at h ⊢
  obtain ⟨g,cap,hr,rest⟩:=h
  exact ⟨g,cap,(fwdR_get hj).trans hr,rest⟩
end
def renIOk (σ:List (Nat × Nat)) (args:List V) (ins outs:List (Nat × B)) (stays:List Nat):Bool :=
 renOk σ && (ins.map (·.1)).all (fun i=>(σ.map (·.1)).contains i) && (outs.map (·.1)).all (fun i=>(σ.map (·.1)).contains i) && stays.all (fun i=>(σ.map (·.1)).contains i) && nodK outs && V.onlys (σ.map (·.1)) args && ins.all fun p=>p.2.only (σ.map (·.1))
theorem SpIO.ren {P:Program} {f:FuncId} {args:List V} {ins:List (Nat × B)} {res:V} {outs:List (Nat × B)} {stays:List Nat} (h:SpIO P f args ins res outs stays) (σ:List (Nat × Nat)) (hok:renIOk σ args ins outs stays=true) :
  SpIO P f (V.rens σ args) (renB σ ins) (res.ren σ) (renB σ outs) (stays.map (renI σ)) where
 enters:=h.enters
 calls w S F hS ρ hF hinj hdead hins vs hG hvs:=by
  unfold renIOk at hok
  simp only [Bool.and_eq_true,List.all_eq_true,List.contains_eq_mem,decide_eq_true_eq] at hok
  obtain ⟨⟨⟨⟨⟨⟨hn,hki⟩,hko⟩,hks⟩,hnod⟩,hao⟩,hio⟩:=hok
  have hdi:∀ p ∈ ins,∃ j,get p.1 σ=some j:=fun p hp=>get_dom (hki p.1 (List.mem_map.2 ⟨p,hp,rfl⟩))
  have hdo:∀ p ∈ outs,∃ j,get p.1 σ=some j:=fun p hp=>get_dom (hko p.1 (List.mem_map.2 ⟨p,hp,rfl⟩))
  have hokf:∀ (ρ₁:Nat→R) z b,okOf (Cx.io w S F hS ρ₁ 0) ρ w z b→okOf (Cx.io w S F hS (fwdR σ ρ) 0) (fwdR σ ρ) w z b:=fun _ z b hb=>⟨hb.1,hb.2.1,fun id b' cap hid=>by
   obtain ⟨k,_,h2⟩:=fwdR_lie hid
   exact hb.2.2 k b' cap h2⟩
  have hK:∀ b,(Cx.io w S F hS ρ 0).K b→(Cx.io w S F hS (fwdR σ ρ) 0).K b:=fun b hb=>⟨hb.1,fun id cap hid=>by
   obtain ⟨k,_,h2⟩:=fwdR_lie hid
   exact hb.2 k cap h2⟩
  refine (h.calls w S F hS (fwdR σ ρ) (fun id b cap hid=>?_) (fun i j b c d hi hj=>?_) (fun id hid=>?_) (fun id b hg=>?_) vs hG (RdVs.unren (fun z t x hr=>hr.mono fun b hb=>⟨hokf _ z b hb,rfl⟩) hao hvs)).mono ?_
  ·obtain ⟨k,_,h2⟩:=fwdR_lie hid
   exact hF k b cap h2
  ·obtain ⟨k,h1,h2⟩:=fwdR_lie hi
   obtain ⟨l,h3,h4⟩:=fwdR_lie hj
   have:=hinj k l b c d h2 h4
   subst this
   exact ren_inj hn h1 h3
  ·unfold fwdR
   split
   ·rename_i j hj
    refine hdead j fun hm=>hid ?_
    obtain ⟨p,h1,h2⟩:=renB_mem hm
    obtain ⟨j',hj'⟩:=hdi p h1
    rw [renI_get hj'] at h2
    subst h2
    rw [ren_inj hn hj hj']
    exact List.mem_map.2 ⟨p,h1,rfl⟩
   ·rfl
  ·have:=hins _ _ (get_renB hn hdi hg)
   exact HasB.unren (hdi _ (get_mem hg)) (hio _ (get_mem hg)) this
  ·rintro e w' ⟨x,ρ',rfl,hb,hkeep,hge,hinj',hdead',hstay,hx,hnb⟩
   have hkeys:∀ i,ρ' i ≠ .dead→(get i σ).isSome=true:=fun i hi=>by
    have:i ∈ outs.map (·.1):=Classical.byContradiction fun hm=>hi (hdead' i hm)
    obtain ⟨p,hp,rfl⟩:=List.mem_map.1 this
    obtain ⟨j,hj⟩:=hdo p hp
    rw [hj];rfl
   have hlie:∀ id b cap,backR σ ρ' id=.lie b cap→∃ i,(i,id) ∈ σ∧ρ' i=.lie b cap:=fun id b cap hid=>by
    obtain ⟨i,h1,h2⟩:=backR_inv (σ:=σ) (ρ:=ρ') (j:=id) (by rw [hid];intro h;cases h)
    exact ⟨i,h1,h2 ▸ hid⟩
   have hokb:∀ (ρ₁ ρ₂:Nat→R) z b,okOf (Cx.io w S F hS ρ₁ 0) ρ' w' z b→okOf (Cx.io w S F hS ρ₂ 0) (backR σ ρ') w' z b:=fun _ _ z b hb=>⟨hb.1,hb.2.1,fun id b' cap hid=>by
    obtain ⟨i,_,h2⟩:=hlie id b' cap hid
    exact hb.2.2 i b' cap h2⟩
   have hgm:∀ l:List (Nat × Nat),renOk l=true→∀ i j,(i,j) ∈ l→get i l=some j:=by
    intro l
    induction l with
    | nil=>intro _ i j h;cases h
    | cons q l ih =>
     intro hn i j h1
     simp only [renOk,Bool.and_eq_true,Bool.not_eq_true',List.contains_eq_mem,decide_eq_false_iff_not] at hn
     obtain ⟨a,b⟩:=q
     unfold get
     rcases List.mem_cons.1 h1 with h1 | h1
     ·cases h1;rw [if_pos rfl]
     ·have:i ≠ a:=fun e=>hn.1.1 (e ▸ List.mem_map.2 ⟨_,h1,rfl⟩)
      rw [if_neg this]
      exact ih hn.2 i j h1
   refine ⟨x,backR σ ρ',rfl,hb,fun b hk=>hkeep b (hK b hk),fun id b cap hid=>?_,fun i j b c d hi hj=>?_,fun id hid=>?_,fun id hid=>?_,hx.ren (fun z t x hr=>hr.mono fun b hb=>⟨hokb _ _ z b hb,rfl⟩) hn hkeys,fun id b hid=>?_⟩
   ·obtain ⟨i,_,h2⟩:=hlie id b cap hid
    obtain ⟨g1,g2,g3⟩:=hge i b cap h2
    exact ⟨g1,fun hk=>g2 (hK b hk),g3⟩
   ·obtain ⟨i',h1,h2⟩:=hlie i b c hi
    obtain ⟨j',h3,h4⟩:=hlie j b d hj
    have e:=hinj' i' j' b c d h2 h4
    subst e
    have:=(hgm σ hn _ _ h1).symm.trans (hgm σ hn _ _ h3)
    injection this
   ·refine Classical.byContradiction fun hne=>hid ?_
    obtain ⟨i,h1,h2⟩:=backR_inv hne
    have:i ∈ outs.map (·.1):=Classical.byContradiction fun hm=>hne (h2.trans (hdead' i hm))
    obtain ⟨p,hp,rfl⟩:=List.mem_map.1 this
    have:=mem_renB (σ:=σ) hp
    rwa [renI_get (hgm σ hn _ _ h1)] at this
   ·obtain ⟨i,hi,rfl⟩:=List.mem_map.1 hid
    obtain ⟨j,hj⟩:=get_dom (hks i hi)
    rw [renI_get hj,backR_get hn hj,hstay i hi,fwdR_get hj]
   ·obtain ⟨p,hp,hj,rfl⟩:=renB_get hid
    have hB:=hnb p.1 p.2 (nodK_get hnod hp)
    obtain ⟨j,hj'⟩:=hdo p hp
    have hid':backR σ ρ' id=ρ' p.1:=by rw [← hj,renI_get hj',backR_get hn hj']
    obtain ⟨i,b⟩:=p
    cases b with
    | arr e s z rows =>
     simp only [B.ren]
     unfold HasB at hB ⊢
     rw [hid']
     cases hr:ρ' i with
     | dead=>simp [hr] at hB
     | nil=>simp only [hr] at hB ⊢;exact hB
     | lie g cap =>
      simp only [hr] at hB ⊢
      obtain ⟨xs,g1,g2,g3⟩:=hB
      exact ⟨xs,g1,g2.mono fun b hb=>⟨hokb _ _ z b hb,rfl⟩,g3⟩
    | var e cells =>
     simp only [B.ren]
     unfold HasB at hB ⊢
     obtain ⟨g,cap,hr,xs,g1,g2⟩:=hB
     exact ⟨g,cap,hid'.trans hr,xs,g1,g2.ren (fun z t x hr=>hr.mono fun b hb=>⟨hokb _ _ z b hb,rfl⟩) hn hkeys⟩
    | mp k es =>
     simp only [B.ren]
     unfold HasB at hB ⊢
     obtain ⟨g,cap,hr,rest⟩:=hB
     exact ⟨g,cap,hid'.trans hr,rest⟩
theorem SpIO.reout {P:Program} {f:FuncId} {args:List V} {ins:List (Nat × B)} {res:V} {outs:List (Nat × B)} {stays:List Nat} (h:SpIO P f args ins res outs stays) (σ:List (Nat × Nat)) (hok:(renOk σ && (outs.map (·.1)).all (fun i=>(σ.map (·.1)).contains i) && stays.all (fun i=>decide (get i σ=some i)) && nodK outs)=true) :
  SpIO P f args ins (res.ren σ) (renB σ outs) stays where
 enters:=h.enters
 calls w S F hS ρ hF hinj hdead hins vs hG hvs:=by
  simp only [Bool.and_eq_true,List.all_eq_true,List.contains_eq_mem,decide_eq_true_eq] at hok
  obtain ⟨⟨⟨hn,hko⟩,hks⟩,hnod⟩:=hok
  have hdo:∀ p ∈ outs,∃ j,get p.1 σ=some j:=fun p hp=>get_dom (hko p.1 (List.mem_map.2 ⟨p,hp,rfl⟩))
  refine (h.calls w S F hS ρ hF hinj hdead hins vs hG hvs).mono ?_
  rintro e w' ⟨x,ρ',rfl,hb,hkeep,hge,hinj',hdead',hstay,hx,hnb⟩
  have hkeys:∀ i,ρ' i ≠ .dead→(get i σ).isSome=true:=fun i hi=>by
   have:i ∈ outs.map (·.1):=Classical.byContradiction fun hm=>hi (hdead' i hm)
   obtain ⟨p,hp,rfl⟩:=List.mem_map.1 this
   obtain ⟨j,hj⟩:=hdo p hp
   rw [hj];rfl
  have hlie:∀ id b cap,backR σ ρ' id=.lie b cap→∃ i,(i,id) ∈ σ∧ρ' i=.lie b cap:=fun id b cap hid=>by
   obtain ⟨i,h1,h2⟩:=backR_inv (σ:=σ) (ρ:=ρ') (j:=id) (by rw [hid];intro h;cases h)
   exact ⟨i,h1,h2 ▸ hid⟩
  have hokb:∀ (ρ₁ ρ₂:Nat→R) z b,okOf (Cx.io w S F hS ρ₁ 0) ρ' w' z b→okOf (Cx.io w S F hS ρ₂ 0) (backR σ ρ') w' z b:=fun _ _ z b hb=>⟨hb.1,hb.2.1,fun id b' cap hid=>by
   obtain ⟨i,_,h2⟩:=hlie id b' cap hid
   exact hb.2.2 i b' cap h2⟩
  have hgm:∀ l:List (Nat × Nat),renOk l=true→∀ i j,(i,j) ∈ l→get i l=some j:=by
   intro l
   induction l with
   | nil=>intro _ i j h;cases h
   | cons q l ih =>
    intro hn i j h1
    simp only [renOk,Bool.and_eq_true,Bool.not_eq_true',List.contains_eq_mem,decide_eq_false_iff_not] at hn
    obtain ⟨a,b⟩:=q
    unfold get
    rcases List.mem_cons.1 h1 with h1 | h1
    ·cases h1;rw [if_pos rfl]
    ·have:i ≠ a:=fun e=>hn.1.1 (e ▸ List.mem_map.2 ⟨_,h1,rfl⟩)
     rw [if_neg this]
     exact ih hn.2 i j h1
  refine ⟨x,backR σ ρ',rfl,hb,fun b hk=>hkeep b hk,fun id b cap hid=>?_,fun i j b c d hi hj=>?_,fun id hid=>?_,fun id hid=>?_,hx.ren (fun z t x hr=>hr.mono fun b hb=>⟨hokb _ _ z b hb,rfl⟩) hn hkeys,fun id b hid=>?_⟩
  ·obtain ⟨i,_,h2⟩:=hlie id b cap hid
   obtain ⟨g1,g2,g3⟩:=hge i b cap h2
   exact ⟨g1,g2,g3⟩
  ·obtain ⟨i',h1,h2⟩:=hlie i b c hi
   obtain ⟨j',h3,h4⟩:=hlie j b d hj
   have e:=hinj' i' j' b c d h2 h4
   subst e
   have:=(hgm σ hn _ _ h1).symm.trans (hgm σ hn _ _ h3)
   injection this
  ·refine Classical.byContradiction fun hne=>hid ?_
   obtain ⟨i,h1,h2⟩:=backR_inv hne
   have:i ∈ outs.map (·.1):=Classical.byContradiction fun hm=>hne (h2.trans (hdead' i hm))
   obtain ⟨p,hp,rfl⟩:=List.mem_map.1 this
   have:=mem_renB (σ:=σ) hp
   rwa [renI_get (hgm σ hn _ _ h1)] at this
  ·rw [backR_get hn (hks id hid),hstay id hid]
  ·obtain ⟨p,hp,hj,rfl⟩:=renB_get hid
   have hB:=hnb p.1 p.2 (nodK_get hnod hp)
   obtain ⟨j,hj'⟩:=hdo p hp
   have hid':backR σ ρ' id=ρ' p.1:=by rw [← hj,renI_get hj',backR_get hn hj']
   obtain ⟨i,b⟩:=p
   cases b with
   | arr e s z rows =>
    simp only [B.ren]
    unfold HasB at hB ⊢
    rw [hid']
    cases hr:ρ' i with
    | dead=>simp [hr] at hB
    | nil=>simp only [hr] at hB ⊢;exact hB
    | lie g cap =>
     simp only [hr] at hB ⊢
     obtain ⟨xs,g1,g2,g3⟩:=hB
     exact ⟨xs,g1,g2.mono fun b hb=>⟨hokb _ _ z b hb,rfl⟩,g3⟩
   | var e cells =>
    simp only [B.ren]
    unfold HasB at hB ⊢
    obtain ⟨g,cap,hr,xs,g1,g2⟩:=hB
    exact ⟨g,cap,hid'.trans hr,xs,g1,g2.ren (fun z t x hr=>hr.mono fun b hb=>⟨hokb _ _ z b hb,rfl⟩) hn hkeys⟩
   | mp k es =>
    simp only [B.ren]
    unfold HasB at hB ⊢
    obtain ⟨g,cap,hr,rest⟩:=hB
    exact ⟨g,cap,hid'.trans hr,rest⟩
def nilSt (st:St) (b:Nat) (e0:TypeId) (cells:List C) (j:Nat):St:=⟨st.sl,(b,.var e0 (cells.set j .nil)) :: st.bl⟩
theorem Hold.nil {X:Cx} {st:St} {ρ:Nat→R} {a:Act} {w:World} (h:Hold X st ρ a w) {b j:Nat} {e0:TypeId} {cells:List C} {z:Bool} (hb:get b st.bl=some (.var e0 cells)) (hj:cells[j]?=some (.t z (.lit (.slice none 0 0)))):Hold X (nilSt st b e0 cells j) ρ a w:=by
 refine ⟨h.defers,h.size,h.below,h.keep,h.ge,h.inj,h.pin,h.slots,fun id B hB=>?_,h.gk,h.gw⟩
 simp only [nilSt,get] at hB
 split at hB
 ·rename_i hid
  subst hid
  injection hB with hB
  subst hB
  have:=h.blocks _ _ hb
  unfold HasB at this ⊢
  obtain ⟨g,cap,h1,xs,h2,h3⟩:=this
  refine ⟨g,cap,h1,xs,h2,RdCs.set (fun x hx=>?_) h3 hj⟩
  unfold RdC RdT at hx
  unfold RdC
  exact ⟨none,hx.1⟩
 ·exact h.blocks id B hB
theorem exitIO_r {P:Program} {X:Cx} {rs:Array ResultVar} {res:V} {outs:List (Nat × B)} {stays:List Nat} {st:St} (h:resV P st rs.toList=some res) (hb:leL outs st.bl) (ho:res.only (outs.map (·.1))=true) (hbo:(outs.all fun p=>p.2.only (outs.map (·.1)))=true)
  (hst:(stays.all fun i=>decide (X.n≤i) && (outs.map (·.1)).contains i)=true):exitIO P X rs res outs stays .ret st :=
 ends_io h hb ho (List.all_eq_true.1 hbo) fun id hid=>by
  have:=List.all_eq_true.1 hst id hid
  simpa using this
theorem exitIO_n {P:Program} {X:Cx} {rs:Array ResultVar} {res:V} {outs:List (Nat × B)} {stays:List Nat} {st:St} (h:resV P st rs.toList=some res) (hb:leL outs st.bl) (ho:res.only (outs.map (·.1))=true) (hbo:(outs.all fun p=>p.2.only (outs.map (·.1)))=true)
  (hst:(stays.all fun i=>decide (X.n≤i) && (outs.map (·.1)).contains i)=true):exitIO P X rs res outs stays .normal st:=exitIO_r h hb ho hbo hst
end Go.Proofs.YtjdgejfhnfnmgaaGreatDoor.Ax
