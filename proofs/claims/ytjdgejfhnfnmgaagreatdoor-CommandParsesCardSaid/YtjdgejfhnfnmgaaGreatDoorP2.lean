/-  -/
import Derived.Test.YtjdgejfhnfnmgaaGreatDoorP1
namespace Go.Proofs.YtjdgejfhnfnmgaaGreatDoor.Ax
open Go.RowKit
inductive T where
 | lit (v:Value)
 | sl (rows:List (List T))
 | ptr (row:List T)
 | fn (f:FuncId) (caps:List T)
mutual
def RdT (w:World) (ok:Nat→Prop):T→Value→Prop
 | .lit v,x=>x=v∧v.oneCell'=true
 | .sl rows,x=>∃ A n c,x=.slice A n c∧rows.length=n∧n≤c∧(n=0 ∨ ∃ b o s,A=some ⟨b,o,none⟩∧ok b∧RdRows w ok s b o rows)
 | .ptr row,x=>∃ b o,x=.pointer (some ⟨b,o,none⟩)∧ok b∧RdRow w ok b o row
 | .fn f caps,x=>∃ xs,x=.func (.func f) #[] xs∧RdL w ok caps xs.toList
def RdRow (w:World) (ok:Nat→Prop) (b:Nat):Nat→List T→Prop
 | _,[]=>True
 | o,c :: cs=>(∃ y,w.cell? ⟨b,o,none⟩=some y∧RdT w ok c y)∧RdRow w ok b (o + 1) cs
def RdRows (w:World) (ok:Nat→Prop) (s:Nat) (b:Nat):Nat→List (List T)→Prop
 | _,[]=>True
 | o,r :: rs=>r.length=s∧RdRow w ok b o r∧RdRows w ok s b (o + s) rs
def RdL (w:World) (ok:Nat→Prop):List T→List Value→Prop
 | [],[]=>True
 | c :: cs,x :: xs=>RdT w ok c x∧RdL w ok cs xs
 | _,_=>False
end
section
variable {w w':World} {ok ok':Nat→Prop}
mutual
theorem RdT.mono (h:∀ b,ok b→ok' b∧w'.heap[b]?=w.heap[b]?):∀ {t:T} {x:Value},RdT w ok t x→RdT w' ok' t x
 | .lit v,x,hr=>by unfold RdT at hr ⊢;exact hr
 | .sl rows,x,hr=>by
  unfold RdT at hr ⊢
  obtain ⟨A,n,c,h1,h2,h3,h4⟩:=hr
  refine ⟨A,n,c,h1,h2,h3,h4.imp id ?_⟩
  rintro ⟨b,o,s,h5,h6,h7⟩
  exact ⟨b,o,s,h5,(h b h6).1,RdRows.mono h (h b h6).2 h7⟩
 | .ptr row,x,hr=>by
  unfold RdT at hr ⊢
  obtain ⟨b,o,h1,h2,h3⟩:=hr
  exact ⟨b,o,h1,(h b h2).1,RdRow.mono h (h b h2).2 h3⟩
 | .fn f caps,x,hr=>by
  unfold RdT at hr ⊢
  obtain ⟨xs,h1,h2⟩:=hr
  exact ⟨xs,h1,RdL.mono h h2⟩
theorem RdRow.mono (h:∀ b,ok b→ok' b∧w'.heap[b]?=w.heap[b]?) {b:Nat} (hb:w'.heap[b]?=w.heap[b]?):∀ {cs:List T} {o:Nat},RdRow w ok b o cs→RdRow w' ok' b o cs
 | [],_,hr=>by unfold RdRow;trivial
 | c :: cs,o,hr=>by
  unfold RdRow at hr ⊢
  obtain ⟨⟨y,h1,h2⟩,h3⟩:=hr
  exact ⟨⟨y,(World.cell?_of_block (w:=w) (a:=⟨b,o,none⟩) hb).trans h1,RdT.mono h h2⟩,RdRow.mono h hb h3⟩
theorem RdRows.mono (h:∀ b,ok b→ok' b∧w'.heap[b]?=w.heap[b]?) {b s:Nat} (hb:w'.heap[b]?=w.heap[b]?):∀ {rs:List (List T)} {o:Nat},RdRows w ok s b o rs→RdRows w' ok' s b o rs
 | [],_,hr=>by unfold RdRows;trivial
 | r :: rs,o,hr=>by
  unfold RdRows at hr ⊢
  exact ⟨hr.1,RdRow.mono h hb hr.2.1,RdRows.mono h hb hr.2.2⟩
theorem RdL.mono (h:∀ b,ok b→ok' b∧w'.heap[b]?=w.heap[b]?):∀ {cs:List T} {xs:List Value},RdL w ok cs xs→RdL w' ok' cs xs
 | [],[],_=>by unfold RdL;trivial
 | c :: cs,x :: xs,hr=>by
  unfold RdL at hr ⊢
  exact ⟨RdT.mono h hr.1,RdL.mono h hr.2⟩
 | [],_ :: _,hr=>by unfold RdL at hr;exact hr.elim
 | _ :: _,[],hr=>by unfold RdL at hr;exact hr.elim
end
end
end Go.Proofs.YtjdgejfhnfnmgaaGreatDoor.Ax
namespace Go.Proofs.YtjdgejfhnfnmgaaGreatDoor.Ax
open Go.RowKit
inductive R where
 | dead
 | nil
 | lie (b cap:Nat)
inductive C where
 | t (z:Bool) (x:T)
 | nil
 | own (id len:Nat)
 | optr (id off:Nat)
 | eptr (id k s j:Nat)
 | fn (f:FuncId) (caps:List C)
 | junk
 | omap (id:Nat)
 | ocut (id s lo len:Nat)
def fnV (f:FuncId) (xs:Array Value):Value:=match decide (f < 1024) with
 | true=>.func (.func f) #[] xs
 | false=>.func (.func (f - 1024)) xs #[]
mutual
def RdC (w:World) (ok:Bool→Nat→Prop) (ρ:Nat→R):C→Value→Prop
 | .t z x,v=>RdT w (ok z) x v
 | .nil,v=>∃ A,v=.slice A 0 0
 | .own id len,v=>match ρ id with
  | .dead=>False
  | .nil=>len=0∧∃ A,v=.slice A 0 0
  | .lie b cap=>v=.slice (some ⟨b,0,none⟩) len cap
 | .optr id off,v=>match ρ id with
  | .lie b _=>v=.pointer (some ⟨b,off,none⟩)
  | _=>False
 | .eptr id k s j,v=>match ρ id with
  | .lie b _=>v=.pointer (some ⟨b,k * s + j,none⟩)
  | _=>False
 | .fn f caps,v=>∃ xs,v=fnV f xs∧RdCs w ok ρ caps xs.toList
 | .junk,v=>v.oneCell'=true
 | .omap id,v=>match ρ id with
  | .lie b _=>v=.map (some b)
  | _=>False
 | .ocut id s lo len,v=>match ρ id with
  | .lie b cap=>∃ o,v=.slice (some ⟨b,o,none⟩) len (cap - lo)∧(len=0 ∨ o=lo * s)
  | .nil=>len=0∧∃ A c,v=.slice A 0 c
  | .dead=>False
def RdCs (w:World) (ok:Bool→Nat→Prop) (ρ:Nat→R):List C→List Value→Prop
 | [],[]=>True
 | c :: cs,x :: xs=>RdC w ok ρ c x∧RdCs w ok ρ cs xs
 | _,_=>False
end
inductive V where
 | one (c:C)
 | agg (cs:List C)
 | tup (vs:List V)
 | junk
mutual
def RdV (w:World) (ok:Bool→Nat→Prop) (ρ:Nat→R):V→Value→Prop
 | .one c,x=>RdC w ok ρ c x
 | .agg cs,x=>∃ xs,x=.agg xs∧RdCs w ok ρ cs xs.toList
 | .tup vs,x=>∃ xs,x=.tuple xs∧RdVs w ok ρ vs xs.toList
 | .junk,_=>True
def RdVs (w:World) (ok:Bool→Nat→Prop) (ρ:Nat→R):List V→List Value→Prop
 | [],[]=>True
 | c :: cs,x :: xs=>RdV w ok ρ c x∧RdVs w ok ρ cs xs
 | _,_=>False
end
mutual
def C.ment (ids:List Nat):C→Bool
 | .own i _ | .optr i _ | .eptr i _ _ _ | .omap i | .ocut i _ _ _=>ids.contains i
 | .fn _ caps=>C.ments ids caps
 | _=>false
def C.ments (ids:List Nat):List C→Bool
 | []=>false
 | c :: cs=>c.ment ids || C.ments ids cs
end
mutual
def V.ment (ids:List Nat):V→Bool
 | .one c=>c.ment ids
 | .agg cs=>C.ments ids cs
 | .tup vs=>V.ments ids vs
 | .junk=>false
def V.ments (ids:List Nat):List V→Bool
 | []=>false
 | c :: cs=>c.ment ids || V.ments ids cs
end
def C.kill (ids:List Nat) (c:C):C:=if c.ment ids then .junk else c
section
variable {w w':World} {ok ok':Bool→Nat→Prop} {ρ ρ':Nat→R} {ids:List Nat}
theorem RdT.oneCell {w:World} {ok:Nat→Prop} {t:T} {x:Value} (h:RdT w ok t x):x.oneCell'=true:=by
 cases t <;> unfold RdT at h
 ·rw [h.1];exact h.2
 ·obtain ⟨A,n,c,rfl,_⟩:=h;rfl
 ·obtain ⟨b,o,rfl,_⟩:=h;rfl
 ·obtain ⟨xs,rfl,_⟩:=h;rfl
theorem RdC.oneCell {c:C} {x:Value} (h:RdC w ok ρ c x):x.oneCell'=true:=by
 cases c <;> unfold RdC at h
 ·exact h.oneCell
 ·obtain ⟨A,rfl⟩:=h;rfl
 ·split at h
  ·exact h.elim
  ·obtain ⟨_,A,rfl⟩:=h;rfl
  ·rw [h];rfl
 ·split at h
  ·rw [h];rfl
  ·exact h.elim
 ·split at h
  ·rw [h];rfl
  ·exact h.elim
 ·obtain ⟨xs,rfl,_⟩:=h
  unfold fnV
  split <;> rfl
 ·exact h
 ·split at h
  ·rw [h];rfl
  ·exact h.elim
 ·split at h
  ·obtain ⟨o,rfl,_⟩:=h;rfl
  ·obtain ⟨_,A,c,rfl⟩:=h;rfl
  ·exact h.elim
mutual
theorem RdC.mono (hT:∀ z t x,RdT w (ok z) t x→RdT w' (ok' z) t x) (hρ:∀ id,id ∉ ids→ρ' id=ρ id):∀ {c:C} {x:Value},c.ment ids=false→RdC w ok ρ c x→RdC w' ok' ρ' c x
 | .t z t,x,_,h=>by unfold RdC at h ⊢;exact hT _ _ _ h
 | .nil,x,_,h=>by unfold RdC at h ⊢;exact h
 | .own id len,x,hm,h=>by
  unfold RdC at h ⊢
  rw [hρ id (by simpa [C.ment] using hm)]
  exact h
 | .optr id off,x,hm,h=>by
  unfold RdC at h ⊢
  rw [hρ id (by simpa [C.ment] using hm)]
  exact h
 | .eptr id k s j,x,hm,h=>by
  unfold RdC at h ⊢
  rw [hρ id (by simpa [C.ment] using hm)]
  exact h
 | .fn f caps,x,hm,h=>by
  unfold RdC at h ⊢
  obtain ⟨xs,h1,h2⟩:=h
  exact ⟨xs,h1,RdCs.mono hT hρ (by simpa [C.ment] using hm) h2⟩
 | .junk,x,_,h=>by unfold RdC at h ⊢;exact h
 | .omap id,x,hm,h=>by
  unfold RdC at h ⊢
  rw [hρ id (by simpa [C.ment] using hm)]
  exact h
 | .ocut id s lo len,x,hm,h=>by
  unfold RdC at h ⊢
  rw [hρ id (by simpa [C.ment] using hm)]
  exact h
theorem RdCs.mono (hT:∀ z t x,RdT w (ok z) t x→RdT w' (ok' z) t x) (hρ:∀ id,id ∉ ids→ρ' id=ρ id):∀ {cs:List C} {xs:List Value},C.ments ids cs=false→RdCs w ok ρ cs xs→RdCs w' ok' ρ' cs xs
 | [],[],_,_=>by unfold RdCs;trivial
 | c :: cs,x :: xs,hm,h=>by
  unfold RdCs at h ⊢
  simp only [C.ments,Bool.or_eq_false_iff] at hm
  exact ⟨RdC.mono hT hρ hm.1 h.1,RdCs.mono hT hρ hm.2 h.2⟩
 | [],_ :: _,_,h=>by unfold RdCs at h;exact h.elim
 | _ :: _,[],_,h=>by unfold RdCs at h;exact h.elim
end
mutual
theorem RdV.mono (hT:∀ z t x,RdT w (ok z) t x→RdT w' (ok' z) t x) (hρ:∀ id,id ∉ ids→ρ' id=ρ id):∀ {c:V} {x:Value},c.ment ids=false→RdV w ok ρ c x→RdV w' ok' ρ' c x
 | .one c,x,hm,h=>by unfold RdV at h ⊢;exact RdC.mono hT hρ (by simpa [V.ment] using hm) h
 | .agg cs,x,hm,h=>by
  unfold RdV at h ⊢
  obtain ⟨xs,h1,h2⟩:=h
  exact ⟨xs,h1,RdCs.mono hT hρ (by simpa [V.ment] using hm) h2⟩
 | .tup vs,x,hm,h=>by
  unfold RdV at h ⊢
  obtain ⟨xs,h1,h2⟩:=h
  exact ⟨xs,h1,RdVs.mono hT hρ (by simpa [V.ment] using hm) h2⟩
 | .junk,x,_,_=>by unfold RdV;trivial
theorem RdVs.mono (hT:∀ z t x,RdT w (ok z) t x→RdT w' (ok' z) t x) (hρ:∀ id,id ∉ ids→ρ' id=ρ id):∀ {cs:List V} {xs:List Value},V.ments ids cs=false→RdVs w ok ρ cs xs→RdVs w' ok' ρ' cs xs
 | [],[],_,_=>by unfold RdVs;trivial
 | c :: cs,x :: xs,hm,h=>by
  unfold RdVs at h ⊢
  simp only [V.ments,Bool.or_eq_false_iff] at hm
  exact ⟨RdV.mono hT hρ hm.1 h.1,RdVs.mono hT hρ hm.2 h.2⟩
 | [],_ :: _,_,h=>by unfold RdVs at h;exact h.elim
 | _ :: _,[],_,h=>by unfold RdVs at h;exact h.elim
end
theorem RdC.kill (hT:∀ z t x,RdT w (ok z) t x→RdT w' (ok' z) t x) (hρ:∀ id,id ∉ ids→ρ' id=ρ id) {c:C} {x:Value} (h:RdC w ok ρ c x):RdC w' ok' ρ' (c.kill ids) x:=by
 unfold C.kill
 split
 ·unfold RdC;exact h.oneCell
 ·rename_i hm;exact RdC.mono hT hρ (by simpa using hm) h
theorem RdCs.kill (hT:∀ z t x,RdT w (ok z) t x→RdT w' (ok' z) t x) (hρ:∀ id,id ∉ ids→ρ' id=ρ id):∀ {cs:List C} {xs:List Value},RdCs w ok ρ cs xs→RdCs w' ok' ρ' (cs.map (C.kill ids)) xs
 | [],[],_=>by rw [List.map_nil];unfold RdCs;trivial
 | c :: cs,x :: xs,h=>by
  rw [List.map_cons]
  unfold RdCs at h ⊢
  exact ⟨RdC.kill hT hρ h.1,RdCs.kill hT hρ h.2⟩
 | [],_ :: _,h=>by unfold RdCs at h;exact h.elim
 | _ :: _,[],h=>by unfold RdCs at h;exact h.elim
end
inductive B where
 | arr (e:TypeId) (size:Nat) (z:Bool) (rows:List (List T))
 | var (e:TypeId) (cells:List C)
 | mp (k:IntKind) (es:List (Int × Value))
def get {α:Type} (t:Nat):List (Nat × α)→Option α
 | []=>none
 | (k,v) :: l=>if t=k then some v else get t l
structure St where
 sl:List (Nat × V)
 bl:List (Nat × B)
structure Cx where
 base:World
 S:Nat→Prop
 sub:∀ b,S b→b < base.heap.size
 n:Nat
 F:Nat→Prop
 K:Nat→Prop
 kb:∀ b,K b→b < base.heap.size
 pin:Nat→R
 pan:List PanicEntry→Prop
def Cx.plain (base:World) (S:Nat→Prop) (sub:∀ b,S b→b < base.heap.size) (n:Nat):Cx:=⟨base,S,sub,n,fun _=>False,fun b=>b < base.heap.size,fun _ h=>h,fun _=>.dead,fun _=>False⟩
def okOf (X:Cx) (ρ:Nat→R) (w:World) (z:Bool) (b:Nat):Prop :=
 (X.base.heap.size≤b ∨ X.F b ∨ z=false∧X.S b)∧b < w.heap.size∧∀ id b' cap,ρ id=.lie b' cap→b' ≠ b
def HasB (X:Cx) (w:World) (ρ:Nat→R) (id:Nat):B→Prop
 | .arr e size z rows=>match ρ id with
  | .dead=>False
  | .nil=>rows=[]
  | .lie b cap=>∃ xs,w.ownsRow 0 e size (.slice (some ⟨b,0,none⟩) rows.length cap) rows.length xs∧RdL w (okOf X ρ w z) rows.flatten xs∧∀ r ∈ rows,r.length=size
 | .var e cells=>∃ b cap,ρ id=.lie b cap∧∃ xs,w.heap[b]?=some (.cells xs e (0,0))∧RdCs w (okOf X ρ w) ρ cells xs.toList
 | .mp k es=>∃ b cap,ρ id=.lie b cap∧∃ ms clock,w.heap[b]?=some (.map ms clock)∧ms.toList.map (fun m=>(m.key,m.val))=es.map fun p=>(Value.int k p.1,p.2)
structure Hold (X:Cx) (st:St) (ρ:Nat→R) (a:Act) (w:World):Prop where
 defers:a.defers=[]
 size:a.tmps.size=X.n
 below:Below 0 X.base w
 keep:∀ b,X.K b→w.heap[b]?=X.base.heap[b]?
 ge:∀ id b cap,ρ id=.lie b cap→(X.base.heap.size≤b ∨ X.F b)∧¬ X.K b∧b < w.heap.size
 inj:∀ i j b c d,ρ i=.lie b c→ρ j=.lie b d→i=j
 pin:∀ id,X.n≤id→ρ id=X.pin id ∨ ρ id=.dead
 slots:∀ t v,get t st.sl=some v→∃ x,a.tmps[t]?=some x∧RdV w (okOf X ρ w) ρ v x
 blocks:∀ id B,get id st.bl=some B→HasB X w ρ id B
 gk:∀ b,b < NG→X.K b
 gw:GW X.base
structure Evo (X:Cx) (ρ:Nat→R) (w:World) (ρ':Nat→R) (w':World) (ch kl:List Nat):Prop where
 below:Below 0 w w'
 heap:∀ b,b < w.heap.size→(∀ id cap,id ∈ ch→ρ id ≠ .lie b cap)→w'.heap[b]?=w.heap[b]?
 rho:∀ id,id ∉ kl→ρ' id=ρ id
 new:∀ id b cap,id ∈ kl→ρ' id=.lie b cap→b < w'.heap.size∧(w.heap.size≤b ∨ ∃ j c,ρ j=.lie b c)
 inj:∀ i j b c d,ρ' i=.lie b c→ρ' j=.lie b d→i=j
 pin:∀ id ∈ kl,id < X.n ∨ ρ' id=.dead
section
variable {X:Cx} {st:St} {ρ ρ':Nat→R} {a:Act} {w w':World} {ch kl:List Nat}
theorem Evo.refl (h:Hold X st ρ a w):Evo X ρ w ρ w [] []:=⟨Below.refl _ _,fun _ _ _=>rfl,fun _ _=>rfl,(fun _ _ _ h=>by cases h),h.inj,(fun _ h=>by cases h)⟩
theorem Evo.okT (h:Evo X ρ w ρ' w' ch kl) (z:Bool) (b:Nat) (hb:okOf X ρ w z b):okOf X ρ' w' z b∧w'.heap[b]?=w.heap[b]?:=by
 obtain ⟨h1,h2,h3⟩:=hb
 refine ⟨⟨h1,Nat.lt_of_lt_of_le h2 h.below.size,fun id b' cap hid e=>?_⟩,h.heap b h2 fun id cap _ hid=>h3 id b cap hid rfl⟩
 subst e
 by_cases hm:id ∈ kl
 ·rcases (h.new id _ cap hm hid).2 with hn | ⟨j,c,hj⟩
  ·omega
  ·exact h3 j _ c hj rfl
 ·rw [h.rho id hm] at hid
  exact h3 id _ cap hid rfl
theorem Evo.rdT (h:Evo X ρ w ρ' w' ch kl) (z:Bool) (t:T) (x:Value) (hr:RdT w (okOf X ρ w z) t x):RdT w' (okOf X ρ' w' z) t x:=hr.mono fun b hb=>h.okT z b hb
theorem Evo.rdL (h:Evo X ρ w ρ' w' ch kl) (z:Bool) {l:List T} {xs:List Value} (hr:RdL w (okOf X ρ w z) l xs):RdL w' (okOf X ρ' w' z) l xs:=hr.mono fun b hb=>h.okT z b hb
theorem Evo.rdV (h:Evo X ρ w ρ' w' ch kl) {v:V} {x:Value} (hm:v.ment kl=false) (hr:RdV w (okOf X ρ w) ρ v x):RdV w' (okOf X ρ' w') ρ' v x:=hr.mono h.rdT h.rho hm
theorem Evo.rdCs (h:Evo X ρ w ρ' w' ch kl) {v:List C} {x:List Value} (hm:C.ments kl v=false) (hr:RdCs w (okOf X ρ w) ρ v x):RdCs w' (okOf X ρ' w') ρ' v x:=hr.mono h.rdT h.rho hm
def B.kill (kl:List Nat):B→B
 | .arr e s z rows=>.arr e s z rows
 | .var e cells=>.var e (cells.map (C.kill kl))
 | .mp k es=>.mp k es
theorem Evo.hasB (h:Evo X ρ w ρ' w' ch kl) (hH:Hold X st ρ a w) {id:Nat} {b:B} (hc:id ∉ ch) (hk:id ∉ kl) (hb:HasB X w ρ id b):HasB X w' ρ' id (b.kill kl):=by
 have hr:=h.rho id hk
 cases b with
 | arr e s z rows =>
  unfold B.kill
  unfold HasB at hb ⊢
  rw [hr]
  cases hid:ρ id with
  | dead=>simp only [hid] at hb
  | nil=>simp only [hid] at hb ⊢;exact hb
  | lie b cap =>
   simp only [hid] at hb ⊢
   obtain ⟨xs,h1,h2,h3⟩:=hb
   have hheap:w'.heap[b]?=w.heap[b]?:=h.heap b (hH.ge id b cap hid).2.2 fun j c hj hjb=>hc (hH.inj _ _ _ _ _ hid hjb ▸ hj)
   refine ⟨xs,⟨h1.1,?_⟩,h.rdL z h2,h3⟩
   rcases h1.2 with h4 | ⟨g,cap',cur,h5,h6,h7,h8⟩
   ·exact .inl h4
   ·cases h5
    exact .inr ⟨_,_,cur,rfl,h6,hheap.trans h7,h8⟩
 | var e cells =>
  unfold B.kill
  unfold HasB at hb ⊢
  obtain ⟨b,cap,hid,xs,h1,h2⟩:=hb
  have hheap:w'.heap[b]?=w.heap[b]?:=h.heap b (hH.ge id b cap hid).2.2 fun j c hj hjb=>hc (hH.inj _ _ _ _ _ hid hjb ▸ hj)
  exact ⟨b,cap,hr.trans hid,xs,hheap.trans h1,RdCs.kill h.rdT h.rho h2⟩
 | mp k es =>
  unfold B.kill
  unfold HasB at hb ⊢
  obtain ⟨b,cap,hid,ms,clock,h1,h2⟩:=hb
  have hheap:w'.heap[b]?=w.heap[b]?:=h.heap b (hH.ge id b cap hid).2.2 fun j c hj hjb=>hc (hH.inj _ _ _ _ _ hid hjb ▸ hj)
  exact ⟨b,cap,hr.trans hid,ms,clock,hheap.trans h1,h2⟩
def St.put (st:St):Option Tmp→V→St
 | some d,v=>⟨(d,v) :: st.sl,st.bl⟩
 | none,_=>st
def V.kill (ids:List Nat) (v:V):V:=if v.ment ids then .junk else v
def St.turn (st:St) (ch kl:List Nat) (nb:List (Nat × B)):St :=
 ⟨st.sl.map fun p=>(p.1,p.2.kill kl),nb++(st.bl.filter fun p=>!(ch.contains p.1 || kl.contains p.1)).map fun p=>(p.1,p.2.kill kl)⟩
theorem get_map {α β:Type} {f:α→β} {t:Nat} {v:β}:∀ {l:List (Nat × α)},get t (l.map fun p=>(p.1,f p.2))=some v→∃ u,get t l=some u∧v=f u
 | [],h=>by cases h
 | (k,u) :: l,h=>by
  rw [List.map_cons] at h
  unfold get at h ⊢
  split at h
  ·rename_i hk
   rw [if_pos hk]
   exact ⟨u,rfl,by injection h with h;exact h.symm⟩
  ·rename_i hk
   rw [if_neg hk]
   exact get_map h
theorem get_filter {α:Type} {p:Nat→Bool} {t:Nat} {v:α}:∀ {l:List (Nat × α)},get t (l.filter fun q=>p q.1)=some v→get t l=some v∧p t=true
 | [],h=>by cases h
 | (k,u) :: l,h=>by
  rw [List.filter_cons] at h
  split at h
  ·rename_i hp
   unfold get at h ⊢
   split at h
   ·rename_i hk
    subst hk
    rw [if_pos rfl]
    exact ⟨h,hp⟩
   ·rename_i hk
    rw [if_neg hk]
    exact get_filter h
  ·rename_i hp
   obtain ⟨h1,h2⟩:=get_filter h
   unfold get
   split
   ·rename_i hk
    subst hk
    exact absurd h2 hp
   ·exact ⟨h1,h2⟩
theorem get_append {α:Type} {t:Nat} {v:α}:∀ {l r:List (Nat × α)},get t (l++r)=some v→get t l=some v ∨ get t r=some v
 | [],_,h=>.inr h
 | (k,u) :: l,r,h=>by
  rw [List.cons_append] at h
  simp only [get] at h ⊢
  split at h
  ·rename_i hk
   rw [if_pos hk]
   exact .inl h
  ·rename_i hk
   rw [if_neg hk]
   exact get_append h
theorem Hold.put (h:Hold X st ρ a w) {dst:Option Tmp} {v:V} {x:Value} (hd:∀ d,dst=some d→d < X.n) (hv:RdV w (okOf X ρ w) ρ v x):Hold X (st.put dst v) ρ (a.put dst x) w:=by
 cases dst with
 | none=>exact h
 | some d =>
  refine ⟨h.defers,by simpa [Act.put] using h.size,h.below,h.keep,h.ge,h.inj,h.pin,fun t u hu=>?_,h.blocks,h.gk,h.gw⟩
  simp only [St.put,get] at hu
  split at hu
  ·rename_i ht
   subst ht
   injection hu with hu
   subst hu
   exact ⟨x,by have:=hd t rfl;rw [← h.size] at this;simp [Act.put,this],hv⟩
  ·rename_i ht
   obtain ⟨y,h1,h2⟩:=h.slots t u hu
   exact ⟨y,by simp only [Act.put];rw [Array.getElem?_setIfInBounds_ne (by omega)];exact h1,h2⟩
theorem Hold.keeps (h:Hold X st ρ a w) (hh:∀ b,b < w.heap.size→(∀ id cap,id ∈ ch→ρ id ≠ .lie b cap)→w'.heap[b]?=w.heap[b]?) {b:Nat} (hb:X.K b):w'.heap[b]?=X.base.heap[b]? :=
 (hh b (Nat.lt_of_lt_of_le (X.kb b hb) h.below.size) fun id cap _ hid=>(h.ge id b cap hid).2.1 hb).trans (h.keep b hb)
theorem Hold.turn (h:Hold X st ρ a w) (he:Evo X ρ w ρ' w' ch kl) {nb:List (Nat × B)} (hn:∀ id b,get id nb=some b→HasB X w' ρ' id b):Hold X (st.turn ch kl nb) ρ' a w':=by
 refine ⟨h.defers,h.size,h.below.trans he.below,fun b hb=>h.keeps he.heap hb,fun id b cap hid=>?_,he.inj,fun id hn=>?_,fun t v hv=>?_,fun id b hb=>?_,h.gk,h.gw⟩
 ·by_cases hm:id ∈ kl
  ·obtain ⟨h1,h2 | ⟨j,c,h2⟩⟩:=he.new id b cap hm hid
   ·exact ⟨.inl (Nat.le_trans h.below.size h2),(fun hk=>by have:=X.kb b hk;have:=h.below.size;omega),h1⟩
   ·exact ⟨(h.ge j b c h2).1,(h.ge j b c h2).2.1,h1⟩
  ·rw [he.rho id hm] at hid
   exact ⟨(h.ge id b cap hid).1,(h.ge id b cap hid).2.1,Nat.lt_of_lt_of_le (h.ge id b cap hid).2.2 he.below.size⟩
 ·by_cases hm:id ∈ kl
  ·rcases he.pin id hm with h1 | h1
   ·omega
   ·exact .inr h1
  ·rw [he.rho id hm]
   exact h.pin id hn
 ·obtain ⟨u,hu,rfl⟩:=get_map hv
  obtain ⟨x,h1,h2⟩:=h.slots t u hu
  refine ⟨x,h1,?_⟩
  unfold V.kill
  split
  ·unfold RdV;trivial
  ·rename_i hm
   exact he.rdV (by simpa using hm) h2
 ·rcases get_append hb with hb | hb
  ·exact hn id b hb
  ·obtain ⟨u,hu,rfl⟩:=get_map hb
   obtain ⟨h1,h2⟩:=get_filter (p:=fun i=>!(ch.contains i || kl.contains i)) hu
   simp only [Bool.not_eq_true',Bool.or_eq_false_iff,List.contains_eq_mem,decide_eq_false_iff_not] at h2
   exact he.hasB h h2.1 h2.2 (h.blocks id u h1)
structure St.le (s st:St):Prop where
 sl:∀ t v,get t s.sl=some v→get t st.sl=some v
 bl:∀ t v,get t s.bl=some v→get t st.bl=some v
theorem Hold.le {s:St} (h:Hold X st ρ a w) (hs:s.le st):Hold X s ρ a w :=
 ⟨h.defers,h.size,h.below,h.keep,h.ge,h.inj,h.pin,fun t v hv=>h.slots t v (hs.sl t v hv),fun id b hb=>h.blocks id b (hs.bl id b hb),h.gk,h.gw⟩
theorem C.ment_nil:∀ c:C,c.ment []=false:=fun c=>C.rec (motive_1:=fun c=>c.ment []=false) (motive_2:=fun cs=>C.ments [] cs=false)
 (fun _ _=>rfl) rfl (fun _ _=>rfl) (fun _ _=>rfl) (fun _ _ _ _=>rfl) (fun _ _ h=>by simpa [C.ment] using h) rfl (fun _=>rfl) (fun _ _ _ _=>rfl) rfl (fun c cs h1 h2=>by simp [C.ments,h1,h2]) c
theorem C.ments_nil:∀ cs:List C,C.ments [] cs=false
 | []=>rfl
 | c :: cs=>by simp [C.ments,C.ment_nil c,C.ments_nil cs]
theorem V.ment_nil:∀ c:V,c.ment []=false:=fun c=>V.rec (motive_1:=fun c=>c.ment []=false) (motive_2:=fun cs=>V.ments [] cs=false)
 (fun c=>by simp [V.ment,C.ment_nil c]) (fun cs=>by simp [V.ment,C.ments_nil cs]) (fun _ h=>by simpa [V.ment] using h) rfl rfl (fun c cs h1 h2=>by simp [V.ments,h1,h2]) c
theorem Hold.evo (h:Hold X st ρ a w) (he:Evo X ρ w ρ w' [] []):Hold X st ρ a w' :=
 ⟨h.defers,h.size,h.below.trans he.below,fun b hb=>h.keeps he.heap hb,fun id b cap hid=>⟨(h.ge id b cap hid).1,(h.ge id b cap hid).2.1,Nat.lt_of_lt_of_le (h.ge id b cap hid).2.2 he.below.size⟩,h.inj,h.pin,fun t v hv=>(h.slots t v hv).imp fun x hx=>⟨hx.1,he.rdV (V.ment_nil v) hx.2⟩,fun id b hb=>by
  have h1:=he.hasB h (id:=id) (by simp) (by simp) (h.blocks id b hb)
  have h2:b.kill []=b:=by
   cases b with
   | arr=>rfl
   | mp=>rfl
   | var e cells =>
    show B.var e (cells.map (C.kill []))=B.var e cells
    rw [show cells.map (C.kill [])=cells from (List.map_congr_left fun c _=>by simp [C.kill,C.ment_nil c]).trans (List.map_id _)]
  rw [h2] at h1
  exact h1,h.gk,h.gw⟩
theorem Hold.gww (h:Hold X st ρ a w):GW w:=gw_keep h.gw h.below.size fun b hb=>h.keep b (h.gk b hb)
theorem Hold.draw (h:Hold X st ρ a w):Hold X st ρ a { w with drawn:=w.drawn + 1 } :=
 h.evo ⟨⟨rfl,rfl,rfl,Nat.le_refl _,fun _ _=>rfl⟩,fun _ _ _=>rfl,fun _ _=>rfl,(fun _ _ _ h=>by cases h),h.inj,(fun _ h=>by cases h)⟩
end
end Go.Proofs.YtjdgejfhnfnmgaaGreatDoor.Ax
namespace Go.Proofs.YtjdgejfhnfnmgaaGreatDoor.Ax
open Go.RowKit
inductive TD where
 | int (k:IntKind)
 | bool
 | str
 | sl (e:TypeId)
 | ptr (e:TypeId)
 | struct (fs:List (Nat × TypeId))
 | other
 | map (k e:TypeId)
structure Ty where
 agg:Bool
 size:Nat
 bytes:Nat
 zero:Value
 d:TD
def tdOf:TypeDesc→TD
 | .int k=>.int k
 | .bool=>.bool
 | .string=>.str
 | .slice e=>.sl e
 | .pointer e=>.ptr e
 | .struct fs=>.struct (fs.toList.map fun f=>(f.offset,f.type))
 | .map k e=>.map k e
 | _=>.other
def aggOf:TypeDesc→Bool
 | .struct _ | .array _ _=>true
 | _=>false
def tyOf (P:Program) (t:TypeId):Option Ty :=
 match P.underlying t with
 | some d=>match P.info? t with
  | some i=>match i.zero with
   | some z=>some ⟨aggOf d,i.size,i.bytes,z,tdOf d⟩
   | none=>none
  | none=>none
 | none=>none
section
variable {P:Program} {t:TypeId} {y:Ty}
theorem tyOf_inv (h:tyOf P t=some y):∃ d i,P.underlying t=some d∧P.info? t=some i∧i.zero=some y.zero∧i.size=y.size∧i.bytes=y.bytes∧aggOf d=y.agg∧tdOf d=y.d:=by
 unfold tyOf at h
 split at h
 ·rename_i d hd
  split at h
  ·rename_i i hi
   split at h
   ·rename_i z hz
    injection h with h
    subst h
    exact ⟨d,i,hd,hi,hz,rfl,rfl,rfl,rfl⟩
   ·cases h
  ·cases h
 ·cases h
theorem ty_isAgg (h:tyOf P t=some y) (w:World):(isAgg t).run P w=.ok y.agg w:=by
 obtain ⟨d,i,h1,_,_,_,_,h6,_⟩:=tyOf_inv h
 rw [← h6]
 unfold isAgg
 simp only [Sem.run_bind,run_underlying h1,Result.andThen_ok]
 cases d <;> rfl
theorem ty_size (h:tyOf P t=some y) (w:World):(sizeOf t).run P w=.ok y.size w:=by
 obtain ⟨d,i,_,h2,_,h4,_⟩:=tyOf_inv h
 simp [sizeOf,typeInfo,h2,h4]
theorem ty_zero (h:tyOf P t=some y) (w:World):(zeroValue t).run P w=.ok y.zero w:=by
 obtain ⟨d,i,_,h2,h3,_⟩:=tyOf_inv h
 simp [zeroValue,typeInfo,h2,h3]
theorem ty_int {k:IntKind} (h:tyOf P t=some y) (hd:y.d=.int k):P.underlying t=some (.int k):=by
 obtain ⟨d,i,h1,_,_,_,_,_,h7⟩:=tyOf_inv h
 rw [hd] at h7
 cases d <;> simp [tdOf] at h7
 rw [h1,h7]
theorem ty_str (h:tyOf P t=some y) (hd:y.d=.str):P.underlying t=some .string:=by
 obtain ⟨d,i,h1,_,_,_,_,_,h7⟩:=tyOf_inv h
 rw [hd] at h7
 cases d <;> simp [tdOf] at h7
 exact h1
theorem ty_bool (h:tyOf P t=some y) (hd:y.d=.bool):P.underlying t=some .bool:=by
 obtain ⟨d,i,h1,_,_,_,_,_,h7⟩:=tyOf_inv h
 rw [hd] at h7
 cases d <;> simp [tdOf] at h7
 exact h1
theorem ty_sl {e:TypeId} (h:tyOf P t=some y) (hd:y.d=.sl e):P.underlying t=some (.slice e):=by
 obtain ⟨d,i,h1,_,_,_,_,_,h7⟩:=tyOf_inv h
 rw [hd] at h7
 cases d <;> simp [tdOf] at h7
 rw [h1,h7]
theorem ty_struct {fs:List (Nat × TypeId)} (h:tyOf P t=some y) (hd:y.d=.struct fs):∃ F:Array Field,P.underlying t=some (.struct F)∧fs=F.toList.map fun f=>(f.offset,f.type):=by
 obtain ⟨d,i,h1,_,_,_,_,_,h7⟩:=tyOf_inv h
 rw [hd] at h7
 cases d <;> simp [tdOf] at h7
 exact ⟨_,h1,h7.symm⟩
end
def constC:Value→C
 | .slice none 0 0=>.nil
 | v=>.t true (.lit v)
def constV:Value→Option V
 | .agg cs=>if cs.toList.all (fun u=>u.oneCell') then some (.agg (cs.toList.map constC)) else none
 | .tuple _=>none
 | v=>some (.one (constC v))
def ev (st:St):Operand→Option V
 | .tmp t=>get t st.sl
 | .const v=>constV v
 | .func f=>some (.one (.t true (.fn f [])))
 | .global _=>none
section
variable {P:Program} {X:Cx} {st:St} {ρ:Nat→R} {a:Act} {w:World} {ok:Bool→Nat→Prop}
theorem rd_constC {v:Value} (h:v.oneCell'=true):RdC w ok ρ (constC v) v:=by
 unfold constC
 split
 ·unfold RdC;exact ⟨_,rfl⟩
 ·unfold RdC RdT;exact ⟨rfl,h⟩
theorem rd_constCs:∀ {l:List Value},l.all (fun u=>u.oneCell')=true→RdCs w ok ρ (l.map constC) l
 | [],_=>by unfold RdCs;trivial
 | v :: l,h=>by
  rw [List.all_cons,Bool.and_eq_true] at h
  rw [List.map_cons]
  unfold RdCs
  exact ⟨rd_constC h.1,rd_constCs h.2⟩
theorem rd_constV {v:Value} {u:V} (h:constV v=some u):RdV w ok ρ u v:=by
 cases v with
 | agg cs =>
  simp only [constV] at h
  split at h
  ·rename_i hc
   injection h with h
   subst h
   unfold RdV
   exact ⟨cs,rfl,rd_constCs hc⟩
  ·cases h
 | tuple cs=>cases h
 | _ =>
  simp only [constV] at h
  injection h with h
  subst h
  unfold RdV
  exact rd_constC rfl
theorem ev_sound (h:Hold X st ρ a w) {o:Operand} {v:V} (hv:ev st o=some v):RdV w (okOf X ρ w) ρ v (a.eval o):=by
 cases o with
 | tmp t =>
  obtain ⟨x,h1,h2⟩:=h.slots t v hv
  simp only [Act.eval,Array.getD_eq_getD_getElem?,h1,Option.getD_some]
  exact h2
 | const v=>exact rd_constV hv
 | global g=>cases hv
 | func f =>
  simp only [ev] at hv
  injection hv with hv
  subst hv
  unfold RdV RdC RdT
  exact ⟨#[],rfl,by unfold RdL;trivial⟩
end
inductive Delta where
 | pure (v:V)
 | mod (v:V) (ch kl:List Nat) (nb:List (Nat × B))
def Out (X:Cx) (ρ:Nat→R) (w:World) (ρ':Nat→R) (w':World) (x:Value):Delta→Prop
 | .pure v=>ρ'=ρ∧w'=w∧RdV w (okOf X ρ w) ρ v x
 | .mod v ch kl nb=>Evo X ρ w ρ' w' ch kl∧RdV w' (okOf X ρ' w') ρ' v x∧∀ id b,get id nb=some b→HasB X w' ρ' id b
def dstOk (n:Nat):Option Tmp→Bool
 | some d=>decide (d < n)
 | none=>true
def Runs (P:Program) (X:Cx) (st:St) (o:Oper) (D:Delta):Prop :=
 dstOk X.n o.dst=true→∀ ρ a w,Hold X st ρ a w→∃ x ρ' w',((execOp a.eval o).run P w=.ok (.value x) w' ∨ (execOp a.eval o).run P w=.ok .skip w'∧x=undef)∧Out X ρ w ρ' w' x D
def Step (P:Program) (X:Cx) (st:St) (o:Oper) (D:Delta):Prop :=
 dstOk X.n o.dst=true→∀ ρ a w,Hold X st ρ a w→∀ (K:Act→World→Prop) (Q:Exit→Act→World→Prop),(∀ x ρ' w',Out X ρ w ρ' w' x D→K (a.put o.dst x) w')→o.wp P a w K Q
def StepP (P:Program) (X:Cx) (st:St) (o:Oper) (D:Delta):Prop :=
 dstOk X.n o.dst=true→∀ ρ a w,Hold X st ρ a w→∀ (K:Act→World→Prop) (Q:Exit→Act→World→Prop),(∀ x ρ' w',Out X ρ w ρ' w' x D→K (a.put o.dst x) w')→(∀ ch st' ρ' a' w',X.pan ch→Hold X st' ρ' a' w'→Q (.panic ch) a' w')→o.wp P a w K Q
theorem Step.p {P:Program} {X:Cx} {st:St} {o:Oper} {D:Delta} (h:Step P X st o D):StepP P X st o D:=fun hd ρ a w hH K Q hK _=>h hd ρ a w hH K Q hK
theorem Runs.step {P:Program} {X:Cx} {st:St} {o:Oper} {D:Delta} (h:Runs P X st o D):Step P X st o D:=fun hd ρ a w hH K Q hK=>by
 obtain ⟨x,ρ',w',h1,h2⟩:=h hd ρ a w hH
 unfold Oper.wp
 rcases h1 with h1 | ⟨h1,rfl⟩
 ·rw [h1];exact hK x ρ' w' h2
 ·rw [h1];exact hK undef ρ' w' h2
def lit1:V→Option Value
 | .one (.t _ (.lit v))=>some v
 | _=>none
def litInt:V→Option (IntKind × Int)
 | .one (.t _ (.lit (.int k n)))=>some (k,n)
 | _=>none
def litI (k:IntKind) (n:Int):V:=.one (.t true (.lit (.int k n)))
def litB (b:Bool):V:=.one (.t true (.lit (.bool b)))
def litS (s:ByteArray):V:=.one (.t true (.lit (.string s)))
def bitsV (k:IntKind) (r:BitVec k.bits):V:=litI k (k.wrap r.toNat)
def binI (op:BinOp) (k:IntKind) (a b:Int):Option V :=
 match op with
 | .add=>some (litI k (k.wrap (a + b)))
 | .sub=>some (litI k (k.wrap (a - b)))
 | .mul=>some (litI k (k.wrap (a * b)))
 | .eql=>some (litB (a==b))
 | .neq=>some (litB (a != b))
 | .lss=>some (litB (decide (a < b)))
 | .leq=>some (litB (decide (a≤b)))
 | .gtr=>some (litB (decide (b < a)))
 | .geq=>some (litB (decide (b≤a)))
 | .quo=>if b=0 then none else some (litI k (k.wrap (a.tdiv b)))
 | .rem=>if b=0 then none else some (litI k (a.tmod b))
 | .and=>some (bitsV k (BitVec.ofInt k.bits a &&& BitVec.ofInt k.bits b))
 | .or=>some (bitsV k (BitVec.ofInt k.bits a ||| BitVec.ofInt k.bits b))
 | .xor=>some (bitsV k (BitVec.ofInt k.bits a ^^^ BitVec.ofInt k.bits b))
 | _=>none
def binV (op:BinOp):Value→Value→Option V
 | .int k a,.int k' b =>
  match op with
  | .shl=>if b < 0 then none else some (litI k (k.wrap (a * 2 ^ (min b.toNat k.bits))))
  | .shr=>if b < 0 then none else some (litI k (a.fdiv (2 ^ (min b.toNat k.bits))))
  | _=>if k=k' then binI op k a b else none
 | .string a,.string b =>
  match op with
  | .eql=>some (litB (a.toList==b.toList))
  | .neq=>some (litB (!(a.toList==b.toList)))
  | .add=>if a.size + b.size≤maxLen then some (litS (a++b)) else none
  | .lss=>some (litB (Op.bytesLess a.toList b.toList))
  | .leq=>some (litB (Op.bytesLess a.toList b.toList || a.toList==b.toList))
  | .gtr=>some (litB (!(Op.bytesLess a.toList b.toList || a.toList==b.toList)))
  | .geq=>some (litB (!Op.bytesLess a.toList b.toList))
  | _=>none
 | _,_=>none
section
variable {P:Program} {X:Cx} {st:St} {ρ:Nat→R} {a:Act} {w:World} {ok:Bool→Nat→Prop}
theorem rd_lit {v:Value} {z:Bool} (h:v.oneCell'=true):RdV w ok ρ (.one (.t z (.lit v))) v:=by
 unfold RdV RdC RdT;exact ⟨rfl,h⟩
theorem rd_lit1 {v:V} {u x:Value} (h:lit1 v=some u) (hr:RdV w ok ρ v x):x=u:=by
 unfold lit1 at h
 split at h
 ·injection h with h
  subst h
  unfold RdV RdC RdT at hr
  exact hr.1
 ·cases h
theorem bin_sound {op:BinOp} {t:TypeId} {x y:Operand} {u v:Value} {r:V} (h:binV op u v=some r):∃ q,((do eqGuard op t x y u v;binOp op t u v):Sem Value).run P w=.ok q w∧RdV w ok ρ r q:=by
 unfold binV at h
 split at h
 ·rename_i k a k' b
  have hquo:b ≠ 0→∀ r,r=litI k (k.wrap (a.tdiv b))→∃ q,((do eqGuard .quo t x y (.int k a) (.int k b);binOp .quo t (.int k a) (.int k b)):Sem Value).run P w=.ok q w∧RdV w ok ρ r q:=by
   rintro hb r rfl
   refine ⟨_,?_,rd_lit rfl⟩
   simp [eqGuard,binOp,Op.intDiv,hb]
  have hrem:b ≠ 0→∀ r,r=litI k (a.tmod b)→∃ q,((do eqGuard .rem t x y (.int k a) (.int k b);binOp .rem t (.int k a) (.int k b)):Sem Value).run P w=.ok q w∧RdV w ok ρ r q:=by
   rintro hb r rfl
   refine ⟨_,?_,rd_lit rfl⟩
   simp [eqGuard,binOp,Op.intDiv,hb]
  have hshl:¬ b < 0→∀ r,r=litI k (k.wrap (a * 2 ^ (min b.toNat k.bits)))→∃ q,((do eqGuard .shl t x y (.int k a) (.int k' b);binOp .shl t (.int k a) (.int k' b)):Sem Value).run P w=.ok q w∧RdV w ok ρ r q:=by
   rintro hb r rfl
   refine ⟨_,?_,rd_lit rfl⟩
   simp only [eqGuard,binOp,Op.shift,hb,if_false,Sem.run_bind,Sem.run_pure]
   rfl
  have hshr:¬ b < 0→∀ r,r=litI k (a.fdiv (2 ^ (min b.toNat k.bits)))→∃ q,((do eqGuard .shr t x y (.int k a) (.int k' b);binOp .shr t (.int k a) (.int k' b)):Sem Value).run P w=.ok q w∧RdV w ok ρ r q:=by
   rintro hb r rfl
   refine ⟨_,?_,rd_lit rfl⟩
   simp only [eqGuard,binOp,Op.shift,hb,if_false,Sem.run_bind,Sem.run_pure]
   rfl
  by_cases hk:k=k'
  ·subst hk
   simp only [if_true] at h
   cases op <;> simp only [binI] at h <;> first
    | (injection h with h
       subst h
       refine ⟨_,?_,rd_lit rfl⟩
       simp [eqGuard,binOp,Op.intArith,Op.intCmp]
       done)
    | (injection h with h
       subst h
       refine ⟨_,?_,rd_lit rfl⟩
       simp [eqGuard,binOp,Op.intBits]
       done)
    | (by_cases hb : b = 0
       ·rw [if_pos hb] at h
        cases h
       ·rw [if_neg hb] at h
        injection h with h
        exact hquo hb _ h.symm)
    | (by_cases hb : b = 0
       ·rw [if_pos hb] at h
        cases h
       ·rw [if_neg hb] at h
        injection h with h
        exact hrem hb _ h.symm)
    | (by_cases hb : b < 0
       ·rw [if_pos hb] at h
        cases h
       ·rw [if_neg hb] at h
        injection h with h
        exact hshl hb _ h.symm)
    | (by_cases hb : b < 0
       ·rw [if_pos hb] at h
        cases h
       ·rw [if_neg hb] at h
        injection h with h
        exact hshr hb _ h.symm)
    | cases h
  ·simp only [if_neg hk] at h
   cases op <;> simp only at h <;> first
    | (by_cases hb : b < 0
       ·rw [if_pos hb] at h
        cases h
       ·rw [if_neg hb] at h
        injection h with h
        exact hshl hb _ h.symm)
    | (by_cases hb : b < 0
       ·rw [if_pos hb] at h
        cases h
       ·rw [if_neg hb] at h
        injection h with h
        exact hshr hb _ h.symm)
    | cases h
 ·rename_i a b
  cases op <;> simp only at h <;> first
   | (injection h with h
      subst h
      refine ⟨_,?_,rd_lit rfl⟩
      simp [eqGuard,binOp,Op.stringOp]
      done)
   | (split at h
      ·rename_i hl
       injection h with h
       subst h
       refine ⟨_,?_,rd_lit rfl⟩
       have hm:¬ (((a.size + b.size:Nat):Int) > IntKind.i64.max):=by
        unfold maxLen at hl
        have:IntKind.i64.max=9223372036854775807:=by decide
        omega
       simp only [eqGuard,binOp,Op.stringOp,Sem.run_bind,if_neg hm]
       rfl
      ·cases h)
   | cases h
 ·cases h
end
end Go.Proofs.YtjdgejfhnfnmgaaGreatDoor.Ax
namespace Go.Proofs.YtjdgejfhnfnmgaaGreatDoor.Ax
open Go.RowKit
section
variable {w:World} {ok:Nat→Prop} {okz:Bool→Nat→Prop} {ρ:Nat→R} {P:Program}
theorem RdL.len:∀ {cs:List T} {xs:List Value},RdL w ok cs xs→xs.length=cs.length
 | [],[],_=>rfl
 | _ :: _,_ :: _,h=>by unfold RdL at h;rw [List.length_cons,List.length_cons,RdL.len h.2]
 | [],_ :: _,h=>by unfold RdL at h;exact h.elim
 | _ :: _,[],h=>by unfold RdL at h;exact h.elim
theorem RdCs.len:∀ {cs:List C} {xs:List Value},RdCs w okz ρ cs xs→xs.length=cs.length
 | [],[],_=>rfl
 | _ :: _,_ :: _,h=>by unfold RdCs at h;rw [List.length_cons,List.length_cons,RdCs.len h.2]
 | [],_ :: _,h=>by unfold RdCs at h;exact h.elim
 | _ :: _,[],h=>by unfold RdCs at h;exact h.elim
theorem RdL.get:∀ {cs:List T} {xs:List Value} {j:Nat} {c:T},RdL w ok cs xs→cs[j]?=some c→∃ x,xs[j]?=some x∧RdT w ok c x
 | [],_,_,_,_,hc=>by simp at hc
 | c :: cs,[],_,_,h,_=>by unfold RdL at h;exact h.elim
 | c :: cs,x :: xs,0,d,h,hc=>by
  unfold RdL at h
  simp at hc
  subst hc
  exact ⟨x,rfl,h.1⟩
 | c :: cs,x :: xs,j + 1,d,h,hc=>by
  unfold RdL at h
  simpa using RdL.get h.2 (by simpa using hc)
theorem RdCs.get:∀ {cs:List C} {xs:List Value} {j:Nat} {c:C},RdCs w okz ρ cs xs→cs[j]?=some c→∃ x,xs[j]?=some x∧RdC w okz ρ c x
 | [],_,_,_,_,hc=>by simp at hc
 | c :: cs,[],_,_,h,_=>by unfold RdCs at h;exact h.elim
 | c :: cs,x :: xs,0,d,h,hc=>by
  unfold RdCs at h
  simp at hc
  subst hc
  exact ⟨x,rfl,h.1⟩
 | c :: cs,x :: xs,j + 1,d,h,hc=>by
  unfold RdCs at h
  simpa using RdCs.get h.2 (by simpa using hc)
theorem RdL.drop:∀ {cs:List T} {xs:List Value} (n:Nat),RdL w ok cs xs→RdL w ok (cs.drop n) (xs.drop n)
 | [],[],n,h=>by simpa using h
 | _,_,0,h=>by simpa using h
 | _ :: _,_ :: _,n + 1,h=>by unfold RdL at h;simpa using RdL.drop n h.2
 | [],_ :: _,_ + 1,h=>by unfold RdL at h;exact h.elim
 | _ :: _,[],_ + 1,h=>by unfold RdL at h;exact h.elim
theorem RdL.take:∀ {cs:List T} {xs:List Value} (n:Nat),RdL w ok cs xs→RdL w ok (cs.take n) (xs.take n)
 | [],[],n,h=>by simpa using h
 | _,_,0,h=>by simp [RdL]
 | _ :: _,_ :: _,n + 1,h=>by
  unfold RdL at h
  rw [List.take_succ_cons,List.take_succ_cons]
  unfold RdL
  exact ⟨h.1,RdL.take n h.2⟩
 | [],_ :: _,_ + 1,h=>by unfold RdL at h;exact h.elim
 | _ :: _,[],_ + 1,h=>by unfold RdL at h;exact h.elim
theorem RdCs.drop:∀ {cs:List C} {xs:List Value} (n:Nat),RdCs w okz ρ cs xs→RdCs w okz ρ (cs.drop n) (xs.drop n)
 | [],[],n,h=>by simpa using h
 | _,_,0,h=>by simpa using h
 | _ :: _,_ :: _,n + 1,h=>by unfold RdCs at h;simpa using RdCs.drop n h.2
 | [],_ :: _,_ + 1,h=>by unfold RdCs at h;exact h.elim
 | _ :: _,[],_ + 1,h=>by unfold RdCs at h;exact h.elim
theorem RdCs.take:∀ {cs:List C} {xs:List Value} (n:Nat),RdCs w okz ρ cs xs→RdCs w okz ρ (cs.take n) (xs.take n)
 | [],[],n,h=>by simpa using h
 | _,_,0,h=>by simp [RdCs]
 | _ :: _,_ :: _,n + 1,h=>by
  unfold RdCs at h
  rw [List.take_succ_cons,List.take_succ_cons]
  unfold RdCs
  exact ⟨h.1,RdCs.take n h.2⟩
 | [],_ :: _,_ + 1,h=>by unfold RdCs at h;exact h.elim
 | _ :: _,[],_ + 1,h=>by unfold RdCs at h;exact h.elim
theorem RdL.append:∀ {cs ds:List T} {xs ys:List Value},RdL w ok cs xs→RdL w ok ds ys→RdL w ok (cs++ds) (xs++ys)
 | [],_,[],_,_,h2=>by simpa using h2
 | c :: cs,ds,x :: xs,ys,h,h2=>by
  unfold RdL at h
  rw [List.cons_append,List.cons_append]
  unfold RdL
  exact ⟨h.1,RdL.append h.2 h2⟩
 | [],_,_ :: _,_,h,_=>by unfold RdL at h;exact h.elim
 | _ :: _,_,[],_,h,_=>by unfold RdL at h;exact h.elim
theorem RdCs.append:∀ {cs ds:List C} {xs ys:List Value},RdCs w okz ρ cs xs→RdCs w okz ρ ds ys→RdCs w okz ρ (cs++ds) (xs++ys)
 | [],_,[],_,_,h2=>by simpa using h2
 | c :: cs,ds,x :: xs,ys,h,h2=>by
  unfold RdCs at h
  rw [List.cons_append,List.cons_append]
  unfold RdCs
  exact ⟨h.1,RdCs.append h.2 h2⟩
 | [],_,_ :: _,_,h,_=>by unfold RdCs at h;exact h.elim
 | _ :: _,_,[],_,h,_=>by unfold RdCs at h;exact h.elim
theorem RdL.toC {z:Bool}:∀ {cs:List T} {xs:List Value},RdL w (okz z) cs xs→RdCs w okz ρ (cs.map (C.t z)) xs
 | [],[],_=>by rw [List.map_nil];unfold RdCs;trivial
 | c :: cs,x :: xs,h=>by
  unfold RdL at h
  rw [List.map_cons]
  unfold RdCs RdC
  exact ⟨h.1,RdL.toC h.2⟩
 | [],_ :: _,h=>by unfold RdL at h;exact h.elim
 | _ :: _,[],h=>by unfold RdL at h;exact h.elim
theorem RdL.one:∀ {cs:List T} {xs:List Value},RdL w ok cs xs→(xs.all fun u=>u.oneCell')=true
 | [],[],_=>rfl
 | c :: cs,x :: xs,h=>by
  unfold RdL at h
  rw [List.all_cons,h.1.oneCell,RdL.one h.2];rfl
 | [],_ :: _,h=>by unfold RdL at h;exact h.elim
 | _ :: _,[],h=>by unfold RdL at h;exact h.elim
theorem RdCs.one:∀ {cs:List C} {xs:List Value},RdCs w okz ρ cs xs→(xs.all fun u=>u.oneCell')=true
 | [],[],_=>rfl
 | c :: cs,x :: xs,h=>by
  unfold RdCs at h
  rw [List.all_cons,h.1.oneCell,RdCs.one h.2];rfl
 | [],_ :: _,h=>by unfold RdCs at h;exact h.elim
 | _ :: _,[],h=>by unfold RdCs at h;exact h.elim
theorem RdRow.vals {b:Nat}:∀ {row:List T} {o:Nat},RdRow w ok b o row→∃ xs,RdL w ok row xs∧∀ j u,xs[j]?=some u→w.cell? ⟨b,o + j,none⟩=some u
 | [],o,_=>⟨[],by unfold RdL;trivial,fun j u h=>by simp at h⟩
 | c :: cs,o,h=>by
  unfold RdRow at h
  obtain ⟨⟨y,h1,h2⟩,h3⟩:=h
  obtain ⟨xs,h4,h5⟩:=RdRow.vals h3
  refine ⟨y :: xs,by unfold RdL;exact ⟨h2,h4⟩,fun j u hu=>?_⟩
  cases j with
  | zero=>simp at hu;subst hu;exact h1
  | succ j=>rw [show o + (j + 1)=o + 1 + j by omega];exact h5 j u (by simpa using hu)
theorem RdRow.mk {b:Nat}:∀ {row:List T} {xs:List Value} {o:Nat},RdL w ok row xs→(∀ j u,xs[j]?=some u→w.cell? ⟨b,o + j,none⟩=some u)→RdRow w ok b o row
 | [],[],o,_,_=>by unfold RdRow;trivial
 | c :: cs,x :: xs,o,h,hc=>by
  unfold RdL at h
  unfold RdRow
  exact ⟨⟨x,hc 0 x rfl,h.1⟩,RdRow.mk h.2 fun j u hu=>by have:=hc (j + 1) u (by simpa using hu);rwa [show o + (j + 1)=o + 1 + j by omega] at this⟩
 | [],_ :: _,_,h,_=>by unfold RdL at h;exact h.elim
 | _ :: _,[],_,h,_=>by unfold RdL at h;exact h.elim
theorem RdRow.drop {b:Nat}:∀ {row:List T} {o:Nat} (n:Nat),RdRow w ok b o row→RdRow w ok b (o + n) (row.drop n)
 | _,_,0,h=>by simpa using h
 | [],o,n + 1,_=>by rw [List.drop_nil];unfold RdRow;trivial
 | c :: cs,o,n + 1,h=>by
  unfold RdRow at h
  rw [List.drop_succ_cons,show o + (n + 1)=o + 1 + n by omega]
  exact RdRow.drop n h.2
theorem RdRows.at_ {s b:Nat}:∀ {rows:List (List T)} {o:Nat} {k:Nat} {row:List T},RdRows w ok s b o rows→rows[k]?=some row→row.length=s∧RdRow w ok b (o + k * s) row
 | [],_,_,_,_,h=>by simp at h
 | r :: rs,o,0,row,h,hk=>by
  unfold RdRows at h
  simp at hk
  subst hk
  rw [Nat.zero_mul,Nat.add_zero]
  exact ⟨h.1,h.2.1⟩
 | r :: rs,o,k + 1,row,h,hk=>by
  unfold RdRows at h
  rw [show o + (k + 1) * s=o + s + k * s by rw [Nat.succ_mul];omega]
  exact RdRows.at_ h.2.2 (by simpa using hk)
theorem RdRows.drop {s b:Nat}:∀ {rows:List (List T)} {o:Nat} (n:Nat),RdRows w ok s b o rows→RdRows w ok s b (o + n * s) (rows.drop n)
 | _,_,0,h=>by simpa using h
 | [],_,_ + 1,_=>by rw [List.drop_nil];unfold RdRows;trivial
 | r :: rs,o,n + 1,h=>by
  unfold RdRows at h
  rw [List.drop_succ_cons,show o + (n + 1) * s=o + s + n * s by rw [Nat.succ_mul];omega]
  exact RdRows.drop n h.2.2
theorem RdRows.take {s b:Nat}:∀ {rows:List (List T)} {o:Nat} (n:Nat),RdRows w ok s b o rows→RdRows w ok s b o (rows.take n)
 | _,_,0,_=>by rw [List.take_zero];unfold RdRows;trivial
 | [],_,_ + 1,_=>by rw [List.take_nil];unfold RdRows;trivial
 | r :: rs,o,n + 1,h=>by
  unfold RdRows at h
  rw [List.take_succ_cons]
  unfold RdRows
  exact ⟨h.1,h.2.1,RdRows.take n h.2.2⟩
theorem RdRows.mk {s b:Nat}:∀ {rows:List (List T)} {xs:List Value} {o:Nat},RdL w ok rows.flatten xs→(∀ r ∈ rows,r.length=s)→(∀ j u,xs[j]?=some u→w.cell? ⟨b,o + j,none⟩=some u)→RdRows w ok s b o rows
 | [],_,_,_,_,_=>by unfold RdRows;trivial
 | r :: rs,xs,o,h,hl,hc=>by
  unfold RdRows
  rw [List.flatten_cons] at h
  have hr:=hl r List.mem_cons_self
  have h1:RdL w ok r (xs.take s):=by have:=h.take s;rwa [List.take_append_of_le_length (by omega),List.take_of_length_le (by omega)] at this
  have h2:RdL w ok rs.flatten (xs.drop s):=by have:=h.drop s;rwa [List.drop_append_of_le_length (by omega),List.drop_eq_nil_of_le (by omega),List.nil_append] at this
  refine ⟨hr,RdRow.mk h1 fun j u hu=>?_,RdRows.mk h2 (fun r hr=>hl r (List.mem_cons_of_mem _ hr)) fun j u hu=>?_⟩
  ·rw [List.getElem?_take] at hu
   split at hu
   ·exact hc j u hu
   ·cases hu
  ·rw [List.getElem?_drop] at hu
   have:=hc _ u hu
   rwa [← Nat.add_assoc] at this
theorem rows_at {s:Nat}:∀ {rows:List (List T)} {k:Nat} {row:List T} {xs:List Value},RdL w ok rows.flatten xs→(∀ r ∈ rows,r.length=s)→rows[k]?=some row→row.length=s∧RdL w ok row ((xs.drop (k * s)).take s)∧k * s + s≤xs.length
 | [],_,_,_,_,_,h=>by simp at h
 | r :: rs,k,row,xs,h,hl,hk=>by
  rw [List.flatten_cons] at h
  have hr:=hl r List.mem_cons_self
  cases k with
  | zero =>
   simp at hk
   subst hk
   rw [Nat.zero_mul,List.drop_zero]
   have h1:RdL w ok r (xs.take s):=by have:=h.take s;rwa [List.take_append_of_le_length (by omega),List.take_of_length_le (by omega)] at this
   have:=h.len
   rw [List.length_append] at this
   exact ⟨hr,h1,by omega⟩
  | succ k =>
   have h2:RdL w ok rs.flatten (xs.drop s):=by have:=h.drop s;rwa [List.drop_append_of_le_length (by omega),List.drop_eq_nil_of_le (by omega),List.nil_append] at this
   obtain ⟨g1,g2,g3⟩:=rows_at (s:=s) (k:=k) h2 (fun r hr=>hl r (List.mem_cons_of_mem _ hr)) (by simpa using hk)
   rw [List.drop_drop,show s + k * s=(k + 1) * s by rw [Nat.succ_mul];omega] at g2
   rw [List.length_drop] at g3
   have:=h.len
   rw [List.length_append] at this
   exact ⟨g1,g2,by rw [Nat.succ_mul];omega⟩
theorem addAt (b o j:Nat):(⟨b,o,none⟩:Addr).add j=⟨b,o + j,none⟩:=by unfold Addr.add;split <;> simp_all
theorem load_agg {t:TypeId} {y:Ty} (hy:tyOf P t=some y) (ha:y.agg=true) {xs:List Value} (hl:xs.length=y.size) {b o:Nat} (h:∀ j u,xs[j]?=some u→w.cell? ⟨b,o + j,none⟩=some u) :
  (loadVar t ⟨b,o,none⟩).run P w=.ok (.agg xs.toArray) w:=by
 have h1:=run_loadCells_list (P:=P) (w:=w) ⟨b,o,none⟩ xs (fun j v hv=>by rw [addAt];exact h j v hv)
 rw [hl] at h1
 simp [loadVar,ty_isAgg hy,ha,ty_size hy,h1]
theorem load_one {t:TypeId} {y:Ty} (hy:tyOf P t=some y) (ha:y.agg=false) {x:Value} {b o:Nat} (h:w.cell? ⟨b,o,none⟩=some x) :
  (loadVar t ⟨b,o,none⟩).run P w=.ok x w:=by
 simp [loadVar,ty_isAgg hy,ha,h]
end
end Go.Proofs.YtjdgejfhnfnmgaaGreatDoor.Ax
namespace Go.Proofs.YtjdgejfhnfnmgaaGreatDoor.Ax
open Go.RowKit
def loadC (st:St) (y:Ty):C→Option V
 | .optr id off=>match get id st.bl with
  | some (.var _ cells)=>match y.agg with
   | true=>if off + y.size≤cells.length then some (.agg ((cells.drop off).take y.size)) else none
   | false=>(cells[off]?).map V.one
  | _=>none
 | .eptr id k s j=>match get id st.bl with
  | some (.arr _ size z rows)=>if s=size then match rows[k]? with
    | some row=>match y.agg with
     | true=>if j + y.size≤row.length then some (.agg (((row.drop j).take y.size).map (C.t z))) else none
     | false=>(row[j]?).map fun t=>V.one (.t z t)
    | none=>none
   else none
  | _=>none
 | .t z (.ptr row)=>match y.agg with
  | true=>if y.size≤row.length then some (.agg ((row.take y.size).map (C.t z))) else none
  | false=>(row[0]?).map fun t=>V.one (.t z t)
 | _=>none
def moveC (off:Nat):C→Option C
 | .optr id o=>some (.optr id (o + off))
 | .eptr id k s j=>some (.eptr id k s (j + off))
 | .t z (.ptr row)=>some (.t z (.ptr (row.drop off)))
 | _=>none
def fieldOf (P:Program) (s:TypeId) (f:Nat):Option (Nat × Ty) :=
 match tyOf P s with
 | some y=>match y.d with
  | .struct fs=>match fs[f]? with
   | some (off,ft)=>match tyOf P ft with
    | some yf=>some (off,yf)
    | none=>none
   | none=>none
  | _=>none
 | none=>none
def indexC (P:Program) (st:St) (t:TypeId) (n:Int):C→Option C
 | .t z (.sl rows)=>match tyOf P t with
  | some y=>match y.d with
   | .sl e=>match tyOf P e with
    | some ye=>if 0≤n then match rows[n.toNat]? with
      | some row=>if row.length=ye.size then some (.t z (.ptr row)) else none
      | none=>none
     else none
    | none=>none
   | _=>none
  | none=>none
 | .own id len=>match tyOf P t with
  | some y=>match y.d with
   | .sl e=>match tyOf P e,get id st.bl with
    | some ye, some (.arr _ size _ rows) => if 0 ≤ n then if n.toNat < len ∧ size = ye.size then match rows[n.toNat]? with
       | some _=>some (.eptr id n.toNat size 0)
       | none=>none
      else none
     else none
    | _,_=>none
   | _=>none
  | none=>none
 | _=>none
section
variable {P:Program} {X:Cx} {st:St} {ρ:Nat→R} {a:Act} {w:World} {x:Value} {t:TypeId} {y:Ty}
theorem own_cells {base:Nat} {e:TypeId} {size b n c:Nat} {xs:List Value} (h:w.ownsRow base e size (.slice (some ⟨b,0,none⟩) n c) n xs):b < w.heap.size∧n≤c∧∀ j u,xs[j]?=some u→w.cell? ⟨b,j,none⟩=some u:=by
 rcases h.2 with ⟨h1,_⟩ | ⟨g,cap,cur,h1,_,hh,hnc,hcm,hcs,ht⟩
 ·cases h1
 ·cases h1
  refine ⟨Blk.lt (t:=e) (cs:=cur) hh,hnc,fun j u hu=>?_⟩
  rw [cell_of_row w b j cur e (0,0) hh]
  rw [← ht,List.getElem?_take] at hu
  split at hu
  ·simpa using hu
  ·cases hu
theorem load_sound (hH:Hold X st ρ a w) (hy:tyOf P t=some y) {c:C} {v:V} (h:loadC st y c=some v) (hx:RdC w (okOf X ρ w) ρ c x):∃ q,(Instr.loadAt t x).run P w=.ok q w∧RdV w (okOf X ρ w) ρ v q:=by
 unfold loadC at h
 split at h
 ·rename_i id off
  split at h
  ·rename_i e cells hb
   obtain ⟨b,cap,hid,xs,hheap,hcs⟩:=hH.blocks _ _ hb
   unfold RdC at hx
   rw [hid] at hx
   simp only at hx
   subst hx
   have hcell:∀ j,w.cell? ⟨b,j,none⟩=xs[j]?:=fun j=>cell_of_row w b j xs e (0,0) hheap
   cases hag:y.agg with
   | true =>
    simp only [hag] at h
    split at h
    ·rename_i hle
     injection h with h
     subst h
     have hl:=hcs.len
     refine ⟨.agg ((xs.toList.drop off).take y.size).toArray,?_,?_⟩
     ·simp only [Instr.loadAt,Instr.sureAddr,Sem.run_bind,Sem.run_pure,Result.andThen_ok]
      refine load_agg hy hag (by simp at hl ⊢;omega) fun j u hu=>?_
      rw [hcell]
      rw [List.getElem?_take] at hu
      split at hu
      ·rw [List.getElem?_drop] at hu
       simpa using hu
      ·cases hu
     ·unfold RdV
      exact ⟨_,rfl,by simpa using (hcs.drop off).take y.size⟩
    ·cases h
   | false =>
    simp only [hag] at h
    cases hc:cells[off]? with
    | none=>simp [hc] at h
    | some c =>
     simp [hc] at h
     subst h
     obtain ⟨u,h1,h2⟩:=hcs.get hc
     refine ⟨u,?_,by unfold RdV;exact h2⟩
     simp only [Instr.loadAt,Instr.sureAddr,Sem.run_bind,Sem.run_pure,Result.andThen_ok]
     exact load_one hy hag (by rw [hcell];simpa using h1)
  ·cases h
 ·rename_i id k s j
  split at h
  ·rename_i e size z rows hb
   split at h
   ·rename_i hs
    subst hs
    split at h
    ·rename_i row hrow
     have hB:=hH.blocks _ _ hb
     unfold RdC at hx
     unfold HasB at hB
     cases hid:ρ id with
     | dead=>simp [hid] at hx
     | nil=>simp [hid] at hx
     | lie b cap =>
      simp only [hid] at hx hB
      subst hx
      obtain ⟨xs,h1,h2,h3⟩:=hB
      obtain ⟨_,_,hcell⟩:=own_cells h1
      obtain ⟨g1,g2,g3⟩:=rows_at h2 h3 hrow
      have hcell':∀ i u,((xs.drop (k * s)).take s)[i]?=some u→w.cell? ⟨b,k * s + i,none⟩=some u:=fun i u hu=>by
       rw [List.getElem?_take] at hu
       split at hu
       ·rw [List.getElem?_drop] at hu
        exact hcell _ u hu
       ·cases hu
      generalize (xs.drop (k * s)).take s=ys at g2 hcell'
      have hl:=g2.len
      cases hag:y.agg with
      | true =>
       simp only [hag] at h
       split at h
       ·rename_i hle
        injection h with h
        subst h
        refine ⟨.agg ((ys.drop j).take y.size).toArray,?_,?_⟩
        ·simp only [Instr.loadAt,Instr.sureAddr,Sem.run_bind,Sem.run_pure,Result.andThen_ok]
         refine load_agg hy hag (by simp;omega) fun i u hu=>?_
         rw [List.getElem?_take] at hu
         split at hu
         ·rw [List.getElem?_drop] at hu
          have:=hcell' _ u hu
          rwa [← Nat.add_assoc] at this
         ·cases hu
        ·unfold RdV
         exact ⟨_,rfl,((g2.drop j).take y.size).toC⟩
       ·cases h
      | false =>
       simp only [hag] at h
       cases hc:row[j]? with
       | none=>simp [hc] at h
       | some c =>
        simp [hc] at h
        subst h
        obtain ⟨u,q1,q2⟩:=g2.get hc
        refine ⟨u,?_,by unfold RdV RdC;exact q2⟩
        simp only [Instr.loadAt,Instr.sureAddr,Sem.run_bind,Sem.run_pure,Result.andThen_ok]
        exact load_one hy hag (hcell' _ u q1)
    ·cases h
   ·cases h
  ·cases h
 ·rename_i z row
  unfold RdC RdT at hx
  obtain ⟨b,o,rfl,hb,hr⟩:=hx
  obtain ⟨ys,g2,hcell'⟩:=hr.vals
  have hl:=g2.len
  cases hag:y.agg with
  | true =>
   simp only [hag] at h
   split at h
   ·rename_i hle
    injection h with h
    subst h
    refine ⟨.agg (ys.take y.size).toArray,?_,?_⟩
    ·simp only [Instr.loadAt,Instr.sureAddr,Sem.run_bind,Sem.run_pure,Result.andThen_ok]
     refine load_agg hy hag (by simp;omega) fun i u hu=>?_
     rw [List.getElem?_take] at hu
     split at hu
     ·exact hcell' _ u hu
     ·cases hu
    ·unfold RdV
     exact ⟨_,rfl,(g2.take y.size).toC⟩
   ·cases h
  | false =>
   simp only [hag] at h
   cases hc:row[0]? with
   | none=>simp [hc] at h
   | some c =>
    simp only [hc,Option.map_some,Option.some.injEq] at h
    subst h
    obtain ⟨u,q1,q2⟩:=g2.get hc
    refine ⟨u,?_,by unfold RdV RdC;exact q2⟩
    simp only [Instr.loadAt,Instr.sureAddr,Sem.run_bind,Sem.run_pure,Result.andThen_ok]
    exact load_one hy hag (hcell' _ u q1)
 ·cases h
theorem move_sound {ok:Bool→Nat→Prop} {off:Nat} {c d:C} (h:moveC off c=some d) (hx:RdC w ok ρ c x):∃ b o,x=.pointer (some ⟨b,o,none⟩)∧RdC w ok ρ d (.pointer (some ⟨b,o + off,none⟩)):=by
 unfold moveC at h
 split at h
 ·rename_i id o
  injection h with h
  subst h
  unfold RdC at hx ⊢
  cases hid:ρ id with
  | lie b cap=>simp only [hid] at hx ⊢;exact ⟨b,o,hx,rfl⟩
  | _=>simp [hid] at hx
 ·rename_i id k s j
  injection h with h
  subst h
  unfold RdC at hx ⊢
  cases hid:ρ id with
  | lie b cap=>simp only [hid] at hx ⊢;exact ⟨b,_,hx,by rw [Nat.add_assoc]⟩
  | _=>simp [hid] at hx
 ·rename_i z row
  injection h with h
  subst h
  unfold RdC RdT at hx ⊢
  obtain ⟨b,o,rfl,hb,hr⟩:=hx
  exact ⟨b,o,rfl,b,o + off,rfl,hb,hr.drop off⟩
 ·cases h
theorem fieldOf_inv {s:TypeId} {f off:Nat} {yf:Ty} (h:fieldOf P s f=some (off,yf)):∃ F:Array Field,P.underlying s=some (.struct F)∧∃ fd,F[f]?=some fd∧fd.offset=off∧tyOf P fd.type=some yf:=by
 unfold fieldOf at h
 split at h
 ·rename_i y hy
  split at h
  ·rename_i fs hd
   split at h
   ·rename_i off' ft hf
    split at h
    ·rename_i yf' hyf
     simp only [Option.some.injEq,Prod.mk.injEq] at h
     obtain ⟨rfl,rfl⟩:=h
     obtain ⟨F,h1,h2⟩:=ty_struct hy hd
     subst h2
     rw [List.getElem?_map] at hf
     cases hq:F.toList[f]? with
     | none=>simp [hq] at hf
     | some fd =>
      simp only [hq,Option.map_some,Option.some.injEq,Prod.mk.injEq] at hf
      obtain ⟨rfl,rfl⟩:=hf
      exact ⟨F,h1,fd,by simpa using hq,rfl,hyf⟩
    ·cases h
   ·cases h
  ·cases h
 ·cases h
theorem fieldAt_sound {ok:Bool→Nat→Prop} {s:TypeId} {f off:Nat} {yf:Ty} (hf:fieldOf P s f=some (off,yf)) (hz:yf.size ≠ 0) {c d:C} (h:moveC off c=some d) (hx:RdC w ok ρ c x):∃ q,(Instr.fieldAt s x f).run P w=.ok q w∧RdC w ok ρ d q:=by
 obtain ⟨F,h1,fd,h2,h3,h4⟩:=fieldOf_inv hf
 obtain ⟨b,o,rfl,hr⟩:=move_sound h hx
 refine ⟨_,?_,hr⟩
 simp only [Instr.fieldAt,Sem.run_bind,run_underlying h1,Result.andThen_ok,h2,Instr.sureAddr,Sem.run_pure,fieldPlace,ty_size h4,Sem.run_ite,if_neg hz,h3,addAt]
theorem index_sound {n:Int} {c d:C} {k:IntKind} (h:indexC P st t n c=some d) (hx:RdC w (okOf X ρ w) ρ c x):∃ q,(Instr.indexAt t x (.int k n)).run P w=.ok q w∧RdC w (okOf X ρ w) ρ d q:=by
 unfold indexC at h
 split at h
 ·rename_i z rows
  split at h
  ·rename_i y hy
   split at h
   ·rename_i e hd
    split at h
    ·rename_i ye hye
     split at h
     ·rename_i hn
      split at h
      ·rename_i row hrow
       split at h
       ·rename_i hsz
        injection h with h
        subst h
        have hu:=ty_sl hy hd
        unfold RdC RdT at hx
        obtain ⟨A,m,c,rfl,hlen,hmc,hr⟩:=hx
        have hlt:n.toNat < rows.length:=by
         rcases Nat.lt_or_ge n.toNat rows.length with h | h
         ·exact h
         ·rw [List.getElem?_eq_none h] at hrow;cases hrow
        rcases hr with hr | ⟨b,o,s,rfl,hb,hr⟩
        ·omega
        ·obtain ⟨g1,g2⟩:=hr.at_ hrow
         refine ⟨.pointer (some ⟨b,o + n.toNat * s,none⟩),?_,?_⟩
         ·have hcond:0≤n∧n < (m:Int):=by omega
          have es:ye.size=s:=hsz.symm.trans g1
          simp only [Instr.indexAt,asIntOf,Sem.run_bind,Sem.run_pure,run_underlying hu,Result.andThen_ok,Sem.run_ite,if_pos hcond,ty_size hye,addAt,es]
         ·unfold RdC RdT
          exact ⟨b,_,rfl,hb,g2⟩
       ·cases h
      ·cases h
     ·cases h
    ·cases h
   ·cases h
  ·cases h
 ·rename_i id len
  split at h
  ·rename_i y hy
   split at h
   ·rename_i e hd
    split at h
    ·rename_i ye e' size z rows hye hb
     split at h
     ·rename_i hn
      split at h
      ·rename_i hc
       split at h
       ·rename_i row hrow
        injection h with h
        subst h
        have hu:=ty_sl hy hd
        unfold RdC at hx ⊢
        cases hid:ρ id with
        | dead=>simp [hid] at hx
        | nil=>simp only [hid] at hx;omega
        | lie b cap =>
         simp only [hid] at hx ⊢
         subst hx
         refine ⟨_,?_,rfl⟩
         have hcond:0≤n∧n < (len:Int):=by omega
         simp only [Instr.indexAt,asIntOf,Sem.run_bind,Sem.run_pure,run_underlying hu,Result.andThen_ok,Sem.run_ite,if_pos hcond,ty_size hye,addAt,← hc.2,Nat.zero_add,Nat.add_zero]
       ·cases h
      ·cases h
     ·cases h
    ·cases h
   ·cases h
  ·cases h
 ·cases h
def lenC:C→Option Nat
 | .t _ (.sl rows)=>some rows.length
 | .nil=>some 0
 | .own _ len=>some len
 | .t _ (.lit (.string s))=>some s.size
 | _=>none
def cutC (P:Program) (t:TypeId) (lo hi:Option (Option Int)):C→Option C
 | .t z (.lit (.string s))=>match tyOf P t with
  | some y=>match y.d with
   | .str=>match lo,hi with
    | some (some l),some (some h)=>if 0≤l∧l≤h∧h≤s.size then some (.t z (.lit (.string (s.extract l.toNat h.toNat)))) else none
    | some (some l),none=>if 0≤l∧l≤s.size then some (.t z (.lit (.string (s.extract l.toNat s.size)))) else none
    | none,some (some h)=>if 0≤h∧h≤s.size then some (.t z (.lit (.string (s.extract 0 h.toNat)))) else none
    | _,_=>none
   | _=>none
  | none=>none
 | .t z (.sl rows)=>match tyOf P t with
  | some y=>match y.d with
   | .sl e=>match tyOf P e with
    | some ye=>match lo,hi with
     | some (some l),some (some h)=>if 0≤l∧l≤h∧h≤rows.length∧(∀ r ∈ rows,r.length=ye.size) then some (.t z (.sl ((rows.drop l.toNat).take (h - l).toNat))) else none
     | some (some l),none=>if 0≤l∧l≤rows.length∧(∀ r ∈ rows,r.length=ye.size) then some (.t z (.sl (rows.drop l.toNat))) else none
     | none,some (some h)=>if 0≤h∧h≤rows.length∧(∀ r ∈ rows,r.length=ye.size) then some (.t z (.sl (rows.take h.toNat))) else none
     | _,_=>none
    | none=>none
   | _=>none
  | none=>none
 | _=>none
theorem len_sound {ok:Bool→Nat→Prop} {c:C} {n:Nat} {ty:TypeId} (hy:tyOf P t=some y) (hd:(∃ e,y.d=.sl e∧∀ z s,c ≠ .t z (.lit (.string s))) ∨ (y.d=.str∧∃ z s,c=.t z (.lit (.string s)))) (h:lenC c=some n) (hx:RdC w ok ρ c x) :
  (Builtin.len_ #[t] ty #[x]).run P w=.ok (.int .i64 n) w:=by
 rcases hd with ⟨e,hd,hne⟩ | ⟨hd,z,s,rfl⟩
 ·have hu:=ty_sl hy hd
  have key:∃ A m,x=.slice A n m:=by
   unfold lenC at h
   split at h
   ·injection h with h
    subst h
    unfold RdC RdT at hx
    obtain ⟨A,n,c,rfl,rfl,_⟩:=hx
    exact ⟨_,_,rfl⟩
   ·injection h with h
    subst h
    unfold RdC at hx
    obtain ⟨A,rfl⟩:=hx
    exact ⟨_,_,rfl⟩
   ·rename_i id len
    injection h with h
    subst h
    unfold RdC at hx
    cases hid:ρ id with
    | dead=>simp [hid] at hx
    | nil =>
     simp only [hid] at hx
     obtain ⟨h1,A,rfl⟩:=hx
     rw [h1];exact ⟨_,_,rfl⟩
    | lie b cap=>simp only [hid] at hx;exact ⟨_,_,hx⟩
   ·exact absurd rfl (hne _ _)
   ·cases h
  obtain ⟨A,m,rfl⟩:=key
  simp [Builtin.len_,run_underlying hu,goInt]
 ·have hu:=ty_str hy hd
  simp only [lenC,Option.some.injEq] at h
  unfold RdC RdT at hx
  rw [hx.1]
  simp [Builtin.len_,run_underlying hu,goInt,h]
theorem bound_sound {k:IntKind} {i:Int} {m:Nat} {c:BoundsCode} (h0:0≤i) (h1:i≤m):(Instr.sliceBound (.int k i) m c).run P w=.ok i.toNat w:=by
 simp only [Instr.sliceBound,asIntOf,Sem.run_bind,Sem.run_pure,Result.andThen_ok,Sem.run_ite,if_pos (And.intro h0 h1)]
def bnd (v:Option Value) (i:Option (Option Int)):Prop :=
 match i with
 | none=>v=none
 | some none=>False
 | some (some n)=>∃ k,v=some (.int k n)
theorem cut_rows {ok:Nat→Prop} {A:Option Addr} {n c:Nat} {rows:List (List T)} {sz l h:Nat} (hlen:rows.length=n) (hc:n≤c) (hr:n=0 ∨ ∃ b o s,A=some ⟨b,o,none⟩∧ok b∧RdRows w ok s b o rows) (hsz:∀ r ∈ rows,r.length=sz) (h1:l≤h) (h2:h≤n) :
  RdT w ok (.sl ((rows.drop l).take (h - l))) (.slice (if c=l then A else A.map (·.add (l * sz))) (h - l) (c - l)):=by
 unfold RdT
 refine ⟨_,_,_,rfl,by rw [List.length_take,List.length_drop];omega,by omega,?_⟩
 by_cases hz:h - l=0
 ·exact .inl hz
 ·right
  rcases hr with hr | ⟨b,o,s,rfl,hb,hr⟩
  ·omega
  ·have hs:s=sz:=by
    cases rows with
    | nil=>simp at hlen;omega
    | cons r rs=>unfold RdRows at hr;rw [← hr.1,hsz r List.mem_cons_self]
   subst hs
   rw [if_neg (by omega)]
   exact ⟨b,o + l * s,s,by simp [addAt],hb,(hr.drop l).take _⟩
theorem cut_sound {ok:Bool→Nat→Prop} {c d:C} {lo hi:Option (Option Int)} {vl vh:Option Value} (hl:bnd vl lo) (hh:bnd vh hi) (h:cutC P t lo hi c=some d) (hx:RdC w ok ρ c x) :
  ∃ q,(Instr.sliceAt t x vl vh none).run P w=.ok q w∧RdC w ok ρ d q:=by
 unfold cutC at h
 split at h
 ·rename_i z s
  split at h
  ·rename_i y hy
   split at h
   ·rename_i hd
    have hu:=ty_str hy hd
    unfold RdC RdT at hx
    obtain ⟨rfl,_⟩:=hx
    split at h
    ·rename_i l r
     obtain ⟨k1,rfl⟩:=hl
     obtain ⟨k2,rfl⟩:=hh
     split at h
     ·rename_i hc
      injection h with h
      subst h
      refine ⟨_,?_,by unfold RdC RdT;exact ⟨rfl,rfl⟩⟩
      simp only [Instr.sliceAt,Instr.slice,Instr.sliceBounds,Sem.run_bind,run_underlying hu,Result.andThen_ok,Option.isSome_none,Bool.false_eq_true,if_false,Sem.run_pure,bound_sound (k:=k2) (show 0≤r by omega) hc.2.2,bound_sound (P:=P) (w:=w) (k:=k1) (c:=.sliceB) hc.1 (show l≤(r.toNat:Int) by omega)]
     ·cases h
    ·rename_i l
     obtain ⟨k1,rfl⟩:=hl
     have hh:vh=none:=hh
     subst hh
     split at h
     ·rename_i hc
      injection h with h
      subst h
      refine ⟨_,?_,by unfold RdC RdT;exact ⟨rfl,rfl⟩⟩
      simp only [Instr.sliceAt,Instr.slice,Instr.sliceBounds,Sem.run_bind,run_underlying hu,Result.andThen_ok,Option.isSome_none,Bool.false_eq_true,if_false,Sem.run_pure,bound_sound (P:=P) (w:=w) (k:=k1) (c:=.sliceB) hc.1 hc.2]
     ·cases h
    ·rename_i r
     obtain ⟨k2,rfl⟩:=hh
     have hl:vl=none:=hl
     subst hl
     split at h
     ·rename_i hc
      injection h with h
      subst h
      refine ⟨_,?_,by unfold RdC RdT;exact ⟨rfl,rfl⟩⟩
      simp only [Instr.sliceAt,Instr.slice,Instr.sliceBounds,Sem.run_bind,run_underlying hu,Result.andThen_ok,Option.isSome_none,Bool.false_eq_true,if_false,Sem.run_pure,bound_sound (P:=P) (w:=w) (k:=k2) (c:=.sliceAlen) hc.1 hc.2]
     ·cases h
    ·cases h
   ·cases h
  ·cases h
 ·rename_i z rows
  split at h
  ·rename_i y hy
   split at h
   ·rename_i e hd
    split at h
    ·rename_i ye hye
     have hu:=ty_sl hy hd
     unfold RdC RdT at hx
     obtain ⟨A,n,c,rfl,hlen,hnc,hr⟩:=hx
     split at h
     ·rename_i l r
      obtain ⟨k1,rfl⟩:=hl
      obtain ⟨k2,rfl⟩:=hh
      split at h
      ·rename_i hc
       injection h with h
       subst h
       have hT:=cut_rows (w:=w) (l:=l.toNat) (h:=r.toNat) hlen hnc hr hc.2.2.2 (by omega) (by omega)
       rw [show r.toNat - l.toNat=(r - l).toNat by omega] at hT
       refine ⟨_,?_,by unfold RdC;exact hT⟩
       simp only [Instr.sliceAt,Instr.slice,Instr.sliceBounds,Sem.run_bind,run_underlying hu,Result.andThen_ok,Sem.run_pure,if_true,ty_size hye,Option.isSome_none,Bool.false_eq_true,if_false,
        bound_sound (P:=P) (w:=w) (k:=k2) (c:=.sliceAcap) (show 0≤r by omega) (show r≤(c:Int) by omega),bound_sound (P:=P) (w:=w) (k:=k1) (c:=.sliceB) hc.1 (show l≤(r.toNat:Int) by omega)]
       rw [show r.toNat - l.toNat=(r - l).toNat by omega]
      ·cases h
     ·rename_i l
      obtain ⟨k1,rfl⟩:=hl
      have hh:vh=none:=hh
      subst hh
      split at h
      ·rename_i hc
       injection h with h
       subst h
       have hT:=cut_rows (w:=w) (l:=l.toNat) (h:=n) hlen hnc hr hc.2.2 (by omega) (by omega)
       rw [List.take_of_length_le (by rw [List.length_drop];omega)] at hT
       refine ⟨_,?_,by unfold RdC;exact hT⟩
       simp only [Instr.sliceAt,Instr.slice,Instr.sliceBounds,Sem.run_bind,run_underlying hu,Result.andThen_ok,Sem.run_pure,ty_size hye,Option.isSome_none,Bool.false_eq_true,if_false,
        bound_sound (P:=P) (w:=w) (k:=k1) (c:=.sliceB) hc.1 (show l≤(n:Int) by omega)]
      ·cases h
     ·rename_i r
      obtain ⟨k2,rfl⟩:=hh
      have hl:vl=none:=hl
      subst hl
      split at h
      ·rename_i hc
       injection h with h
       subst h
       have hT:=cut_rows (w:=w) (l:=0) (h:=r.toNat) hlen hnc hr hc.2.2 (by omega) (by omega)
       rw [List.drop_zero,Nat.sub_zero] at hT
       refine ⟨_,?_,by unfold RdC;exact hT⟩
       simp only [Instr.sliceAt,Instr.slice,Instr.sliceBounds,Sem.run_bind,run_underlying hu,Result.andThen_ok,Sem.run_pure,if_true,ty_size hye,
        bound_sound (P:=P) (w:=w) (k:=k2) (c:=.sliceAcap) hc.1 (show r≤(c:Int) by omega),Nat.sub_zero]
      ·cases h
     ·cases h
    ·cases h
   ·cases h
  ·cases h
 ·cases h
theorem cut0_sound {ok:Bool→Nat→Prop} {e:TypeId} {c:C} {n:Nat} (hy:tyOf P t=some y) (hd:y.d=.sl e) {ye:Ty} (hye:tyOf P e=some ye) (h:lenC c=some n) (hs:∀ z s,c ≠ .t z (.lit (.string s))) (hx:RdC w ok ρ c x) :
  ∃ q,(∀ k k':IntKind,(Instr.sliceAt t x none (some (.int k 0)) (some (.int k' 0))).run P w=.ok q w)∧RdC w ok ρ .nil q:=by
 have hu:=ty_sl hy hd
 have key:∃ A n m,x=.slice A n m:=by
  unfold lenC at h
  split at h
  ·unfold RdC RdT at hx
   obtain ⟨A,n,c,rfl,rfl,_⟩:=hx
   exact ⟨_,_,_,rfl⟩
  ·unfold RdC at hx
   obtain ⟨A,rfl⟩:=hx
   exact ⟨_,_,_,rfl⟩
  ·rename_i id len
   unfold RdC at hx
   cases hid:ρ id with
   | dead=>simp [hid] at hx
   | nil =>
    simp only [hid] at hx
    obtain ⟨_,A,rfl⟩:=hx
    exact ⟨_,_,_,rfl⟩
   | lie b cap=>simp only [hid] at hx;exact ⟨_,_,_,hx⟩
  ·exact absurd rfl (hs _ _)
  ·cases h
 obtain ⟨A,n,m,rfl⟩:=key
 refine ⟨.slice A 0 0,fun k k'=>?_,by unfold RdC;exact ⟨_,rfl⟩⟩
 simp only [Instr.sliceAt,Instr.slice,Instr.sliceBounds,Sem.run_bind,run_underlying hu,Result.andThen_ok,Sem.run_pure,ty_size hye,Option.isSome_some,if_true,
  bound_sound (P:=P) (w:=w) (k:=k') (i:=0) (m:=m) (c:=.slice3Acap) (by omega) (by omega),bound_sound (P:=P) (w:=w) (k:=k) (i:=0) (m:=(0:Int).toNat) (c:=.slice3B) (by omega) (by omega)]
 rfl
end
end Go.Proofs.YtjdgejfhnfnmgaaGreatDoor.Ax
namespace Go.Proofs.YtjdgejfhnfnmgaaGreatDoor.Ax
open Go.RowKit
def bndOf (st:St):Option Operand→Option (Option (Option Int))
 | none=>some none
 | some x=>match ev st x with
  | some v=>match litInt v with
   | some p=>some (some (some p.2))
   | none=>none
  | none=>none
def evAll (st:St):List Operand→Option (List C)
 | []=>some []
 | x :: xs=>match ev st x with
  | some (.one c)=>match evAll st xs with
   | some cs=>some (c :: cs)
   | none=>none
  | _=>none
def fieldV (cs:List C) (off:Nat) (yf:Ty):Option V :=
 match yf.agg with
 | true=>if off + yf.size≤cs.length then some (.agg ((cs.drop off).take yf.size)) else none
 | false=>match cs[off]? with
  | some c=>some (.one c)
  | none=>none
def convV (y:Ty):Value→Option V
 | .int _ n=>match y.d with
  | .int k=>some (litI k (k.wrap n))
  | _=>none
 | .string s=>match y.d with
  | .str=>some (litS s)
  | _=>none
 | _=>none
def unV:UnOp→Value→Option V
 | .not,.bool b=>some (litB (!b))
 | .neg,.int k n=>some (litI k (k.wrap (0 - n)))
 | _,_=>none
def lenOk (y:Ty):C→Bool
 | .t _ (.lit (.string _))=>match y.d with
  | .str=>true
  | _=>false
 | _=>match y.d with
  | .sl _=>true
  | _=>false
def pureV (P:Program) (st:St):Op→Option V
 | .move x | .assign x=>ev st x
 | .pick c a b=>match ev st c with
  | some (.one (.t _ (.lit (.bool true))))=>ev st a
  | some (.one (.t _ (.lit (.bool false))))=>ev st b
  | _=>none
 | .load t p=>match ev st p with
  | some (.one c)=>match tyOf P t with
   | some y=>loadC st y c
   | none=>none
  | _=>none
 | .fieldAddr s x f=>match ev st x with
  | some (.one c)=>match fieldOf P s f with
   | some (off,yf)=>if yf.size=0 then none else match moveC off c with
    | some d=>some (.one d)
    | none=>none
   | none=>none
  | _=>none
 | .field s x f=>match ev st x with
  | some (.agg cs)=>match fieldOf P s f with
   | some (off,yf)=>fieldV cs off yf
   | none=>none
  | _=>none
 | .indexAddr t x i=>match ev st x with
  | some (.one c)=>match ev st i with
   | some v=>match litInt v with
    | some p=>match indexC P st t p.2 c with
     | some d=>some (.one d)
     | none=>none
    | none=>none
   | none=>none
  | _=>none
 | .index t x i=>match ev st x with
  | some (.one (.t _ (.lit (.string s))))=>match ev st i with
   | some v=>match litInt v with
    | some p=>match tyOf P t with
     | some y=>match y.d with
      | .str=>if 0≤p.2 then match s[p.2.toNat]? with
        | some b=>some (litI .u8 b.toNat)
        | none=>none
       else none
      | _=>none
     | none=>none
    | none=>none
   | none=>none
  | _=>none
 | .slice t x lo hi none=>match ev st x with
  | some (.one c)=>match bndOf st lo with
   | some l=>match bndOf st hi with
    | some h=>match cutC P t l h c with
     | some d=>some (.one d)
     | none=>none
    | none=>none
   | none=>none
  | _=>none
 | .slice t x none (some (.const (.int _ 0))) (some (.const (.int _ 0)))=>match ev st x with
  | some (.one c)=>match tyOf P t with
   | some y=>match y.d with
    | .sl e=>match tyOf P e with
     | some _=>match lenOk y c with
      | true=>match lenC c with
       | some _=>some (.one .nil)
       | none=>none
      | false=>none
     | none=>none
    | _=>none
   | none=>none
  | _=>none
 | .binOp op _ x y _=>match ev st x with
  | some u=>match lit1 u with
   | some a=>match ev st y with
    | some v=>match lit1 v with
     | some b=>binV op a b
     | none=>none
    | none=>none
   | none=>none
  | none=>none
 | .unOp op _ x=>match ev st x with
  | some u=>match lit1 u with
   | some a=>unV op a
   | none=>none
  | none=>none
 | .convert s d x=>match ev st x with
  | some u=>match lit1 u with
   | some a=>match tyOf P s with
    | some _=>match tyOf P d with
     | some y=>convV y a
     | none=>none
    | none=>none
   | none=>none
  | none=>none
 | .makeFunc (.func f) ⟨[]⟩ caps=>match evAll st caps.toList with
  | some cs=>match decide (f < 1024) with
   | true=>some (.one (.fn f cs))
   | false=>none
  | none=>none
 | .makeFunc (.func f) ⟨x :: xs⟩ ⟨[]⟩=>match evAll st (x :: xs) with
  | some cs=>some (.one (.fn (f + 1024) cs))
  | none=>none
 | .extract x i=>match ev st x with
  | some (.tup vs)=>vs[i]?
  | _=>none
 | .call ⟨.builtin .len,⟨[x]⟩,⟨[t]⟩⟩=>match ev st x with
  | some (.one c)=>match tyOf P t with
   | some y=>match lenOk y c with
    | true=>match lenC c with
     | some n=>some (litI .i64 n)
     | none=>none
    | false=>none
   | none=>none
  | _=>none
 | _=>none
section
variable {P:Program} {X:Cx} {st:St} {ρ:Nat→R} {a:Act} {w:World} {x:Value} {t:TypeId} {y:Ty} {ok:Bool→Nat→Prop}
theorem rd_litInt {v:V} {p:IntKind × Int} (h:litInt v=some p) (hr:RdV w ok ρ v x):x=.int p.1 p.2:=by
 unfold litInt at h
 split at h
 ·injection h with h
  subst h
  unfold RdV RdC RdT at hr
  exact hr.1
 ·cases h
theorem bndOf_sound (hH:Hold X st ρ a w) {o:Option Operand} {l:Option (Option Int)} (h:bndOf st o=some l):bnd (o.map a.eval) l:=by
 unfold bndOf at h
 split at h
 ·injection h with h;subst h;rfl
 ·rename_i x
  split at h
  ·rename_i v hv
   split at h
   ·rename_i p hp
    injection h with h
    subst h
    have:=rd_litInt hp (ev_sound hH hv)
    exact ⟨p.1,by simp [this]⟩
   ·cases h
  ·cases h
theorem evAll_sound (hH:Hold X st ρ a w):∀ {os:List Operand} {cs:List C},evAll st os=some cs→RdCs w (okOf X ρ w) ρ cs (os.map a.eval)
 | [],cs,h=>by
  simp only [evAll,Option.some.injEq] at h
  subst h
  rw [List.map_nil];unfold RdCs;trivial
 | o :: os,cs,h=>by
  simp only [evAll] at h
  split at h
  ·rename_i c hc
   split at h
   ·rename_i ds hd
    injection h with h
    subst h
    rw [List.map_cons]
    unfold RdCs
    have:=ev_sound hH hc
    unfold RdV at this
    exact ⟨this,evAll_sound hH hd⟩
   ·cases h
  ·cases h
theorem RdVs.get:∀ {cs:List V} {xs:List Value} {j:Nat} {c:V},RdVs w ok ρ cs xs→cs[j]?=some c→∃ x,xs[j]?=some x∧RdV w ok ρ c x
 | [],_,_,_,_,hc=>by simp at hc
 | c :: cs,[],_,_,h,_=>by unfold RdVs at h;exact h.elim
 | c :: cs,x :: xs,0,d,h,hc=>by
  unfold RdVs at h
  simp at hc
  subst hc
  exact ⟨x,rfl,h.1⟩
 | c :: cs,x :: xs,j + 1,d,h,hc=>by
  unfold RdVs at h
  simpa using RdVs.get h.2 (by simpa using hc)
theorem field_sound {s:TypeId} {f off:Nat} {yf:Ty} {cs:List C} {v:V} (hf:fieldOf P s f=some (off,yf)) (h:fieldV cs off yf=some v) (hx:RdV w ok ρ (.agg cs) x):∃ q,(Instr.field s x f).run P w=.ok q w∧RdV w ok ρ v q:=by
 obtain ⟨F,h1,fd,h2,h3,h4⟩:=fieldOf_inv hf
 unfold RdV at hx
 obtain ⟨xs,rfl,hcs⟩:=hx
 have hl:=hcs.len
 unfold fieldV at h
 split at h
 ·rename_i hag
  split at h
  ·rename_i hle
   injection h with h
   subst h
   refine ⟨.agg (xs.extract off (off + yf.size)),?_,?_⟩
   ·simp only [Instr.field,Sem.run_bind,run_underlying h1,Result.andThen_ok,h2,asAgg,Sem.run_pure,part,ty_isAgg h4,hag,if_true,ty_size h4,h3]
   ·unfold RdV
    refine ⟨_,rfl,?_⟩
    rw [Array.toList_extract,List.extract_eq_take_drop,Nat.add_sub_cancel_left]
    exact (hcs.drop off).take _
  ·cases h
 ·rename_i hag
  split at h
  ·rename_i c hc
   injection h with h
   subst h
   obtain ⟨u,q1,q2⟩:=hcs.get hc
   refine ⟨u,?_,by unfold RdV;exact q2⟩
   have q1':xs[off]?=some u:=by simpa using q1
   simp only [Instr.field,Sem.run_bind,run_underlying h1,Result.andThen_ok,h2,asAgg,Sem.run_pure,part,ty_isAgg h4,hag,Bool.false_eq_true,if_false,h3,q1']
  ·cases h
theorem eval_const (a:Act) (v:Value):a.eval (.const v)=v:=rfl
theorem pure_runs {o:Oper} {v:V} (h:pureV P st o.op=some v):Runs P X st o (.pure v):=by
 intro hdo ρ a w hH;clear hdo
 suffices hs:∃ q,(execOp a.eval o).run P w=.ok (.value q) w∧RdV w (okOf X ρ w) ρ v q by
  obtain ⟨q,h1,h2⟩:=hs
  exact ⟨q,ρ,w,.inl h1,rfl,rfl,h2⟩
 obtain ⟨dst,op,type,pos,after,guard⟩:=o
 simp only at h
 unfold pureV at h
 split at h
 ·exact ⟨_,rfl,ev_sound hH h⟩
 ·exact ⟨_,rfl,ev_sound hH h⟩
 ·split at h
  ·rename_i c p q z hc
   have:=ev_sound hH hc
   unfold RdV RdC RdT at this
   exact ⟨_,by simp [execOp,this.1,asBool],ev_sound hH h⟩
  ·rename_i c p q z hc
   have:=ev_sound hH hc
   unfold RdV RdC RdT at this
   exact ⟨_,by simp [execOp,this.1,asBool],ev_sound hH h⟩
  ·cases h
 ·split at h
  ·rename_i c hc
   split at h
   ·rename_i y hy
    have hx:=ev_sound hH hc
    unfold RdV at hx
    obtain ⟨q,h1,h2⟩:=load_sound hH hy h hx
    exact ⟨q,by simp [execOp,h1],h2⟩
   ·cases h
  ·cases h
 ·split at h
  ·rename_i c hc
   split at h
   ·rename_i off yf hf
    split at h
    ·cases h
    ·rename_i hz
     split at h
     ·rename_i d hd
      injection h with h
      subst h
      have hx:=ev_sound hH hc
      unfold RdV at hx
      obtain ⟨q,h1,h2⟩:=fieldAt_sound (P:=P) hf hz hd hx
      exact ⟨q,by simp [execOp,h1],by unfold RdV;exact h2⟩
     ·cases h
   ·cases h
  ·cases h
 ·split at h
  ·rename_i cs hc
   split at h
   ·rename_i off yf hf
    obtain ⟨q,h1,h2⟩:=field_sound (P:=P) hf h (ev_sound hH hc)
    exact ⟨q,by simp [execOp,h1],h2⟩
   ·cases h
  ·cases h
 ·split at h
  ·rename_i c hc
   split at h
   ·rename_i i hi
    split at h
    ·rename_i p hp
     split at h
     ·rename_i d hd
      injection h with h
      subst h
      have hx:=ev_sound hH hc
      unfold RdV at hx
      have hn:=rd_litInt hp (ev_sound hH hi)
      obtain ⟨q,h1,h2⟩:=index_sound (P:=P) (k:=p.1) hd hx
      exact ⟨q,by simp [execOp,hn,h1],by unfold RdV;exact h2⟩
     ·cases h
    ·cases h
   ·cases h
  ·cases h
 ·split at h
  ·rename_i z s hc
   split at h
   ·rename_i i hi
    split at h
    ·rename_i p hp
     split at h
     ·rename_i y hy
      split at h
      ·rename_i hd
       split at h
       ·rename_i h0
        split at h
        ·rename_i b hb
         injection h with h
         subst h
         have hx:=ev_sound hH hc
         unfold RdV RdC RdT at hx
         have hn:=rd_litInt hp (ev_sound hH hi)
         refine ⟨_,?_,rd_lit rfl⟩
         simp only [execOp,hx.1,hn,Instr.index,asIntOf,Sem.run_bind,Sem.run_pure,Result.andThen_ok,run_underlying (ty_str hy hd),if_pos h0,hb]
        ·cases h
       ·cases h
      ·cases h
     ·cases h
    ·cases h
   ·cases h
  ·cases h
 ·split at h
  ·rename_i c hc
   split at h
   ·rename_i l hl
    split at h
    ·rename_i r hr
     split at h
     ·rename_i d hd
      injection h with h
      subst h
      have hx:=ev_sound hH hc
      unfold RdV at hx
      obtain ⟨q,h1,h2⟩:=cut_sound (P:=P) (bndOf_sound hH hl) (bndOf_sound hH hr) hd hx
      exact ⟨q,by simp [execOp,h1],by unfold RdV;exact h2⟩
     ·cases h
    ·cases h
   ·cases h
  ·cases h
 ·split at h
  ·rename_i c hc
   split at h
   ·rename_i y hy
    split at h
    ·rename_i e hd
     split at h
     ·rename_i ye hye
      split at h
      ·rename_i hok
       split at h
       ·rename_i n hn
        injection h with h
        subst h
        have hx:=ev_sound hH hc
        unfold RdV at hx
        obtain ⟨q,h1,h2⟩:=cut0_sound (P:=P) hy hd hye hn (fun z s e=>by
         subst e
         unfold lenOk at hok
         simp only [hd] at hok
         cases hok) hx
        exact ⟨q,by simp only [execOp,Option.map_none,Option.map_some,eval_const,Sem.run_bind,h1,Result.andThen_ok,Sem.run_pure],by unfold RdV;exact h2⟩
       ·cases h
      ·cases h
     ·cases h
    ·cases h
   ·cases h
  ·cases h
 ·split at h
  ·rename_i u hu
   split at h
   ·rename_i p hp
    split at h
    ·rename_i v' hv
     split at h
     ·rename_i q hq
      have e1:=rd_lit1 hp (ev_sound hH hu)
      have e2:=rd_lit1 hq (ev_sound hH hv)
      obtain ⟨r,h1,h2⟩:=bin_sound (P:=P) (w:=w) (ρ:=ρ) (ok:=okOf X ρ w) (t:=_) (x:=_) (y:=_) h
      refine ⟨r,?_,h2⟩
      simp only [execOp,e1,e2]
      rw [Sem.run_bind,h1]
      rfl
     ·cases h
    ·cases h
   ·cases h
  ·cases h
 ·split at h
  ·rename_i u hu
   split at h
   ·rename_i p hp
    have e1:=rd_lit1 hp (ev_sound hH hu)
    unfold unV at h
    split at h
    ·injection h with h
     subst h
     exact ⟨_,by simp [execOp,e1,Op.unary],rd_lit rfl⟩
    ·injection h with h
     subst h
     exact ⟨_,by simp [execOp,e1,Op.unary,Op.intArith],rd_lit rfl⟩
    ·cases h
   ·cases h
  ·cases h
 ·split at h
  ·rename_i u hu
   split at h
   ·rename_i p hp
    split at h
    ·rename_i ys hys
     split at h
     ·rename_i yd hyd
      have e1:=rd_lit1 hp (ev_sound hH hu)
      obtain ⟨ds,_,hds,_⟩:=tyOf_inv hys
      unfold convV at h
      split at h
      ·split at h
       ·rename_i k hd
        injection h with h
        subst h
        refine ⟨_,?_,rd_lit rfl⟩
        simp only [execOp,e1,convert,Sem.run_bind,run_underlying hds,Result.andThen_ok,run_underlying (ty_int hyd hd),Conv.intToInt,Sem.run_pure]
       ·cases h
      ·split at h
       ·rename_i hd
        injection h with h
        subst h
        refine ⟨_,?_,rd_lit rfl⟩
        simp only [execOp,e1,convert,Sem.run_bind,run_underlying hds,Result.andThen_ok,run_underlying (ty_str hyd hd),Sem.run_pure]
       ·cases h
      ·cases h
     ·cases h
    ·cases h
   ·cases h
  ·cases h
 ·split at h
  ·rename_i cs hcs
   split at h
   ·rename_i hlt
    injection h with h
    subst h
    refine ⟨_,rfl,?_⟩
    unfold RdV RdC fnV
    rw [hlt]
    exact ⟨_,by simp only [List.map_toArray,List.map_nil];rfl,by simpa using evAll_sound hH hcs⟩
   ·cases h
  ·cases h
 ·split at h
  ·rename_i cs hcs
   injection h with h
   subst h
   refine ⟨_,rfl,?_⟩
   unfold RdV RdC fnV
   rw [decide_eq_false (Nat.not_lt.2 (Nat.le_add_left _ _))]
   exact ⟨_,by simp only [List.map_toArray,List.map_nil,Nat.add_sub_cancel];rfl,by simpa using evAll_sound hH hcs⟩
  ·cases h
 ·split at h
  ·rename_i vs hvs
   have:=ev_sound hH hvs
   unfold RdV at this
   obtain ⟨xs,e,hr⟩:=this
   obtain ⟨u,h1,h2⟩:=hr.get h
   have h1':∀ i:Nat,xs.toList[i]?=some u→xs[i]?=some u:=fun i h=>by simpa using h
   exact ⟨u,by simp [execOp,e,Instr.extract,h1' _ h1],h2⟩
  ·cases h
 ·split at h
  ·rename_i c hc
   split at h
   ·rename_i y hy
    split at h
    ·rename_i hok
     split at h
     ·rename_i n hn
      injection h with h
      subst h
      have hx:=ev_sound hH hc
      unfold RdV at hx
      have hl:=len_sound (P:=P) (ty:=type) hy (by
       unfold lenOk at hok
       split at hok
       ·split at hok
        ·rename_i hd;exact .inr ⟨hd,_,_,rfl⟩
        ·cases hok
       ·split at hok
        ·rename_i hne _ _ hd;exact .inl ⟨_,hd,fun z s e=>hne z s e⟩
        ·cases hok) hn hx
      refine ⟨_,?_,rd_lit rfl⟩
      simp [execOp,resolve,invoke,builtin,hl]
     ·cases h
    ·cases h
   ·cases h
  ·cases h
 ·cases h
end
end Go.Proofs.YtjdgejfhnfnmgaaGreatDoor.Ax
