/-  -/
import Derived.Test.YtjdgejfhnfnmgaaGreatDoorP10
import Derived.Test.YtjdgejfhnfnmgaaGreatDoorP9
namespace Go.Proofs.YtjdgejfhnfnmgaaGreatDoor.Ax
open Go.RowKit
set_option linter.unnecessarySimpa false
def dnMask (tab:List Nat):List Nat→Nat
 | []=>0
 | j :: js=>match Nat.blt j tab.length with
  | true=>(1 <<< j) ||| (tab.getD j 0) ||| dnMask tab js
  | false=>dnMask tab js
def dnTab:List Oper→List Nat→List Nat
 | [],tab=>tab
 | o :: l,tab=>dnTab l (tab++[dnMask tab (edgesOf o)])
def bfB (tab:List Nat) (i j:Nat):Bool:=Nat.testBit (tab.getD i 0) j
def bfOf (ops:Array Oper) (i:Nat):List Nat:=(List.range i).filter fun j=>bfB (dnTab ops.toList []) i j
def isDst:Option Tmp→Nat→Bool
 | some d',d=>Nat.beq d' d
 | none,_=>false
def uniqB:List Oper→Bool
 | []=>true
 | o :: l=>match o.dst with
  | some d=>l.all (fun o'=>!isDst o'.dst d) && uniqB l
  | none=>uniqB l
def dataB (tab:List Nat) (ops:Array Oper) (ds:List (Option Tmp)):Nat→List Oper→Bool
 | _,[]=>true
 | i,o :: l=>(Oper.looksAt ops o).all (fun d=>dataB.one tab i d 0 ds) && dataB tab ops ds (i + 1) l
 where one (tab:List Nat) (i d:Nat):Nat→List (Option Tmp)→Bool
 | _,[]=>true
 | j,d' :: ds=>(match isDst d' d with
  | true=>Nat.blt j i && bfB tab i j
  | false=>true) && one tab i d (j + 1) ds
def statB (ops:Array Oper):Bool:=backOk ops.toList && (uniqB ops.toList && dataB (dnTab ops.toList []) ops (ops.toList.map (·.dst)) 0 ops.toList)
section
variable {ops:Array Oper} {tab:List Nat} {i j k:Nat}
theorem mask_bit:∀ {es:List Nat},Nat.testBit (dnMask tab es) j=true→∃ e ∈ es,e < tab.length∧(j=e ∨ Nat.testBit (tab.getD e 0) j=true)
 | [],h=>by simp [dnMask] at h
 | e :: es,h=>by
  unfold dnMask at h
  split at h
  ·rename_i hl
   have hl:e < tab.length:=by simpa [Nat.blt_eq] using hl
   rw [Nat.testBit_or,Nat.testBit_or,Bool.or_eq_true,Bool.or_eq_true] at h
   rcases h with (h | h) | h
   ·refine ⟨e,List.mem_cons_self,hl,.inl ?_⟩
    rw [Nat.one_shiftLeft,Nat.testBit_two_pow] at h
    exact (of_decide_eq_true h).symm
   ·exact ⟨e,List.mem_cons_self,hl,.inr h⟩
   ·obtain ⟨e',h1,h2⟩:=mask_bit h;exact ⟨e',List.mem_cons_of_mem _ h1,h2⟩
  ·obtain ⟨e',h1,h2⟩:=mask_bit h;exact ⟨e',List.mem_cons_of_mem _ h1,h2⟩
def TabOk (l:List Oper) (tab:List Nat):Prop:=∀ i j,Nat.testBit (tab.getD i 0) j=true→j < i∧i < tab.length∧∃ o,l[i]?=some o∧∃ e ∈ edgesOf o,j=e ∨ Nat.testBit (tab.getD e 0) j=true∧e < i
theorem tab_step {done l:List Oper} {o:Oper} (hlen:tab.length=done.length) (h:TabOk (done++o :: l) tab):TabOk (done++o :: l) (tab++[dnMask tab (edgesOf o)]):=by
 have hold:∀ i,i < tab.length→(tab++[dnMask tab (edgesOf o)]).getD i 0=tab.getD i 0:=fun i hi=>by
  rw [List.getD_eq_getElem?_getD,List.getD_eq_getElem?_getD,List.getElem?_append_left hi]
 intro i j hb
 rcases Nat.lt_trichotomy i tab.length with hi | hi | hi
 ·rw [hold i hi] at hb
  obtain ⟨h1,h2,o',h3,e,h4,h5⟩:=h i j hb
  refine ⟨h1,by simp;omega,o',h3,e,h4,h5.imp id fun h5=>⟨by rw [hold e (by omega)];exact h5.1,h5.2⟩⟩
 ·subst hi
  have:(tab++[dnMask tab (edgesOf o)]).getD tab.length 0=dnMask tab (edgesOf o):=by
   rw [List.getD_eq_getElem?_getD,List.getElem?_append_right (Nat.le_refl _),Nat.sub_self];rfl
  rw [this] at hb
  obtain ⟨e,h1,h2,h3⟩:=mask_bit hb
  refine ⟨?_,by simp,o,by rw [hlen,List.getElem?_append_right (Nat.le_refl _),Nat.sub_self];rfl,e,h1,h3.imp id fun h3=>⟨by rw [hold e h2];exact h3,h2⟩⟩
  rcases h3 with rfl | h3
  ·exact h2
  ·have:=(h e j h3).1;omega
 ·rw [List.getD_eq_getElem?_getD,List.getElem?_eq_none (by simp;omega)] at hb
  simp at hb
theorem tab_ok:∀ {l done:List Oper} {tab:List Nat},tab.length=done.length→TabOk (done++l) tab→TabOk (done++l) (dnTab l tab)
 | [],_,_,_,h=>h
 | o :: l,done,tab,hlen,h=>by
  unfold dnTab
  have:=tab_ok (l:=l) (done:=done++[o]) (tab:=tab++[dnMask tab (edgesOf o)]) (by simp [hlen]) (by rw [List.append_assoc];exact tab_step hlen h)
  rwa [List.append_assoc] at this
theorem tab_all (l:List Oper):TabOk l (dnTab l []):=tab_ok (done:=[]) rfl fun i j h=>by simp at h
theorem mem_bf:j ∈ bfOf ops i ↔ bfB (dnTab ops.toList []) i j=true:=by
 unfold bfOf
 rw [List.mem_filter,List.mem_range]
 exact ⟨fun h=>h.2,fun h=>⟨(tab_all ops.toList i j h).1,h⟩⟩
theorem isDst_iff {o:Option Tmp} {d:Nat}:isDst o d=true ↔ o=some d:=by
 cases o with
 | none=>simp [isDst]
 | some d'=>simp only [isDst,Nat.beq_eq];exact ⟨fun h=>by rw [h],fun h=>by injection h⟩
theorem uniq_of:∀ {l:List Oper},uniqB l=true→∀ (i j:Nat) (o o':Oper) (d:Nat),l[i]?=some o→l[j]?=some o'→o.dst=some d→o'.dst=some d→i=j
 | [],_,_,_,_,_,_,h,_,_,_=>by simp at h
 | x :: l,h,i,j,o,o',d,hi,hj,ho,ho'=>by
  unfold uniqB at h
  have hl:uniqB l=true:=by
   split at h
   ·rw [Bool.and_eq_true] at h;exact h.2
   ·exact h
  have hx:∀ (j:Nat) (o':Oper),x.dst=some d→l[j]?=some o'→o'.dst=some d→False:=fun j o' hx hj ho'=>by
   rw [hx] at h
   simp only [Bool.and_eq_true,List.all_eq_true,Bool.not_eq_true'] at h
   have:=h.1 o' (List.mem_of_getElem? hj)
   rw [isDst_iff.2 ho'] at this
   cases this
  cases i with
  | zero =>
   simp only [List.getElem?_cons_zero,Option.some.injEq] at hi
   subst hi
   cases j with
   | zero=>rfl
   | succ j=>exact (hx j o' ho (by simpa using hj) ho').elim
  | succ i =>
   cases j with
   | zero =>
    simp only [List.getElem?_cons_zero,Option.some.injEq] at hj
    subst hj
    exact (hx i o ho' (by simpa using hi) ho).elim
   | succ j=>rw [uniq_of hl i j o o' d (by simpa using hi) (by simpa using hj) ho ho']
theorem one_of {d:Nat}:∀ {ds:List (Option Tmp)} {j0:Nat},dataB.one tab i d j0 ds=true→∀ j,ds[j]?=some (some d)→bfB tab i (j0 + j)=true
 | [],_,_,j,h=>by simp at h
 | d' :: ds,j0,h,j,hj=>by
  unfold dataB.one at h
  rw [Bool.and_eq_true] at h
  cases j with
  | zero =>
   simp only [List.getElem?_cons_zero,Option.some.injEq] at hj
   have h1:=h.1
   rw [isDst_iff.2 hj] at h1
   simp only [Bool.and_eq_true] at h1
   exact h1.2
  | succ j =>
   have:=one_of h.2 j (by simpa using hj)
   rw [show j0 + (j + 1)=j0 + 1 + j by omega]
   exact this
theorem data_of {ds:List (Option Tmp)}:∀ {l:List Oper} {i0:Nat},dataB tab ops ds i0 l=true→∀ i o,l[i]?=some o→∀ d ∈ Oper.looksAt ops o,∀ j,ds[j]?=some (some d)→bfB tab (i0 + i) j=true
 | [],_,_,i,_,h=>by simp at h
 | x :: l,i0,h,i,o,hi=>by
  unfold dataB at h
  rw [Bool.and_eq_true] at h
  cases i with
  | zero =>
   simp only [List.getElem?_cons_zero,Option.some.injEq] at hi
   subst hi
   intro d hd j hj
   have:=one_of (List.all_eq_true.1 h.1 d hd) j hj
   simpa using this
  | succ i =>
   intro d hd j hj
   have:=data_of h.2 i o (by simpa using hi) d hd j hj
   rw [show i0 + (i + 1)=i0 + 1 + i by omega]
   exact this
theorem stat_ok (h:statB ops=true):backOk ops.toList=true∧DSt ops (bfOf ops):=by
 unfold statB at h
 simp only [Bool.and_eq_true] at h
 obtain ⟨h1,h2,h3⟩:=h
 refine ⟨h1,fun i j o o' d hi hj ho ho'=>uniq_of h2 i j o o' d (by simpa using hi) (by simpa using hj) ho ho',fun i j o o' d hi hj hd ho'=>?_,fun i j hj=>?_,fun i j hj=>?_⟩
 ·rw [mem_bf]
  have:=data_of h3 i o (by simpa using hi) d hd j (by rw [List.getElem?_map,Array.getElem?_toList,hj,Option.map_some,ho'])
  simpa using this
 ·obtain ⟨_,_,o,ho,e,he,h5⟩:=tab_all ops.toList i j (mem_bf.1 hj)
  refine ⟨o,by simpa using ho,h5.elim (fun h=>.inl (by rw [h];exact edgesOf_edge he)) fun h=>.inr ⟨e,edgesOf_edge he,mem_bf.2 h.1⟩⟩
 ·exact (tab_all ops.toList i j (mem_bf.1 hj)).1
end
end Go.Proofs.YtjdgejfhnfnmgaaGreatDoor.Ax
namespace Go.Proofs.YtjdgejfhnfnmgaaGreatDoor.Ax
open Go.RowKit
section
variable {X:Cx} {st:St} {ρ:Nat→R} {a:Act} {w:World}
theorem okR_less {z:Bool} {b id:Nat} (h:okOf X ρ w z b):okOf X (updR ρ id .dead) w z b:=⟨h.1,h.2.1,fun i b' cap hi=>by
 unfold updR at hi
 split at hi
 ·cases hi
 ·exact h.2.2 i b' cap hi⟩
theorem row_melt (hH:Hold X st ρ a w) {id len:Nat} {e:TypeId} {size:Nat} {z:Bool} {rows:List (List T)} (hb:get id st.bl=some (.arr e size z rows)) (hl:rows.length=len) {x:Value} (hx:RdC w (okOf X ρ w) ρ (.own id len) x) :
  RdT w (okOf X (updR ρ id .dead) w z) (.sl rows) x:=by
 have hB:=hH.blocks _ _ hb
 subst hl
 unfold RdC at hx
 unfold HasB at hB
 unfold RdT
 cases hid:ρ id with
 | dead=>simp [hid] at hx
 | nil =>
  simp only [hid] at hx hB
  obtain ⟨h1,A,hA⟩:=hx
  exact ⟨A,0,0,hA,h1,Nat.le_refl _,.inl rfl⟩
 | lie g cap =>
  simp only [hid] at hx hB
  obtain ⟨xs,h1,h2,h3⟩:=hB
  obtain ⟨_,hc,hcell⟩:=own_cells h1
  have hg:=hH.ge id g cap hid
  have hok:okOf X (updR ρ id .dead) w z g:=⟨hg.1.imp (fun h=>h) .inl,hg.2.2,fun i b' c' hi=>by
   unfold updR at hi
   split at hi
   ·cases hi
   ·rename_i hne
    rintro rfl
    exact hne (hH.inj i id b' c' cap hi hid)⟩
  exact ⟨_,_,_,hx,rfl,hc,.inr ⟨g,0,size,rfl,hok,RdRows.mk (RdL.mono (ok:=okOf X ρ w z) (ok':=okOf X (updR ρ id .dead) w z) (fun b hb=>⟨okR_less hb,rfl⟩) h2) h3 fun j u hu=>by rw [Nat.zero_add];exact hcell j u hu⟩⟩
theorem evo_dead (hH:Hold X st ρ a w) {id:Nat}:Evo X ρ w (updR ρ id .dead) w [id] [id]:=⟨Below.refl _ _,fun _ _ _=>rfl,fun i hi=>updR_ne (by simpa using hi),(fun i b cap hi hr=>by
  simp only [List.mem_singleton] at hi
  subst hi
  rw [updR_same] at hr;cases hr),(fun i j b c d hi hj=>by
  unfold updR at hi hj
  split at hi
  ·cases hi
  ·split at hj
   ·cases hj
   ·exact hH.inj i j b c d hi hj),fun i hi=>.inr (by simp only [List.mem_singleton] at hi;rw [hi,updR_same])⟩
end
def meltSt (st:St) (t id:Nat) (z:Bool) (rows:List (List T)):St:=⟨(t,.one (.t z (.sl rows))) :: (st.turn [id] [id] []).sl,(st.turn [id] [id] []).bl⟩
theorem cw_melt {P:Program} {X:Cx} {st:St} {c:Code} {Q:Exit→St→Prop} (t id:Nat) {e:TypeId} {size len:Nat} {z:Bool} {rows:List (List T)} (ht:get t st.sl=some (.one (.own id len))) (hb:get id st.bl=some (.arr e size z rows)) (hl:rows.length=len) (h:CW P X c Q (meltSt st t id z rows)):CW P X c Q st:=fun ρ a w hH=>by
 refine h (updR ρ id .dead) a w ?_
 have hT:=hH.turn (evo_dead hH (id:=id)) (nb:=[]) (by intro id b h;cases h)
 refine ⟨hT.defers,hT.size,hT.below,hT.keep,hT.ge,hT.inj,hT.pin,fun t' v hv=>?_,hT.blocks,hT.gk,hT.gw⟩
 simp only [meltSt,get] at hv
 split at hv
 ·rename_i htt
  subst htt
  injection hv with hv
  subst hv
  obtain ⟨x,h1,h2⟩:=hH.slots _ _ ht
  refine ⟨x,h1,?_⟩
  unfold RdV at h2 ⊢
  unfold RdC
  exact row_melt hH hb hl h2
 ·exact hT.slots t' v hv
end Go.Proofs.YtjdgejfhnfnmgaaGreatDoor.Ax
namespace Go.Proofs.YtjdgejfhnfnmgaaGreatDoor.Ax
open Go.RowKit
set_option linter.unnecessarySimpa false
structure Lf where
 i:Nat
 ids:List Nat
 bls:List Nat
structure Le where
 i:Nat
 x:List Nat
 kl:List Nat
def meetN:List Nat→List Nat→Bool
 | [],_=>false
 | x :: a,b=>b.contains x || meetN a b
def pairF (i:Nat) (ids bls:List Nat) (pr:List (Nat × Nat)):List Le→List (Nat × Nat)
 | []=>pr
 | e :: E=>match meetN e.kl ids || meetN e.x bls with
  | true=>(e.i,i) :: pairF i ids bls pr E
  | false=>pairF i ids bls pr E
def pairE (i:Nat) (x kl:List Nat) (pr:List (Nat × Nat)):List Lf→List (Nat × Nat)
 | []=>pr
 | f :: F=>match meetN kl f.ids || meetN x f.bls with
  | true=>(f.i,i) :: pairE i x kl pr F
  | false=>pairE i x kl pr F
def jk:V→Bool
 | .junk=>true
 | _=>false
theorem jk_one (c:C):jk (.one c)=false:=rfl
theorem jk_agg (l:List C):jk (.agg l)=false:=rfl
theorem jk_tup (l:List V):jk (.tup l)=false:=rfl
theorem jk_junk:jk .junk=true:=rfl
theorem jk_mkW (v:V) (b:Bool):jk (mkW b v)=(b && jk v):=by cases b <;> rfl
def idsC (b:Bool) (l:List Nat):List Nat:=if b=true then l else []
theorem idsC_nil (b:Bool):idsC b []=[]:=by cases b <;> rfl
theorem ids_mkW (v:V) (b:Bool):(mkW b v).ids=idsC b v.ids:=by cases b <;> rfl
def rdT (sl:List (Nat × V)):List Nat→List (Nat × V)
 | []=>[]
 | t :: ts=>match get t sl with
  | some v=>match jk v with
   | true=>rdT sl ts
   | false=>(t,v) :: rdT sl ts
  | none=>rdT sl ts
def idsT:List (Nat × V)→List Nat
 | []=>[]
 | p :: l=>p.2.ids++idsT l
def blT (is:List Nat):List (Nat × B)→List (Nat × B)
 | []=>[]
 | p :: l=>match is.contains p.1 with
  | true=>p :: blT is l
  | false=>blT is l
def fstB:List (Nat × B)→List Nat
 | []=>[]
 | p :: l=>p.1 :: fstB l
def mentBl (kl:List Nat):List (Nat × B)→List Nat
 | []=>[]
 | p :: l=>match p.2.ment kl with
  | true=>p.1 :: mentBl kl l
  | false=>mentBl kl l
def seesB:Op→Bool
 | .move _ | .assign _ | .pick .. | .extract .. | .makeFunc .. | .binOp .. | .unOp .. | .build .. | .field ..=>false
 | _=>true
def viewD (S:St) (rd:List (Nat × V)):Bool→St
 | true=>⟨rd,blT (idsT rd) S.bl⟩
 | false=>⟨rd,[]⟩
def xOf (bl:List (Nat × B)):Delta→List Nat
 | .pure _=>[]
 | .mod _ ch kl nb=>ch++(kl++(fstB nb++xOf.m kl bl))
 where m:List Nat→List (Nat × B)→List Nat
 | [],_=>[]
 | k :: kl,bl=>mentBl (k :: kl) bl
inductive SD where
 | fl (d:Nat) (v:V)
 | ef (D:Delta)
 | no
def stepD (P:Program) (n:Nat) (ops:Array Oper) (o:Oper) (R:St):SD :=
 match dstOk n o.dst with
 | false=>.no
 | true=>match guardOf R ops o with
  | none=>.no
  | some false=>match o.dst with
   | some d=>.fl d (.tup [])
   | none=>.no
  | some true=>match exec1 P R o with
   | some (.pure v)=>match o.dst with
    | some d=>.fl d v
    | none=>.no
   | some (.mod v ch kl nb)=>.ef (.mod v ch kl nb)
   | none=>.no
structure Cd where
 l:List Oper
 k:Nat
 S:St
 F:List Lf
 E:List Le
 pr:List (Nat × Nat)
structure Nx where
 S:St
 F:List Lf
 E:List Le
 pr:List (Nat × Nat)
def nextE (k:Nat) (S:St) (F:List Lf) (E:List Le) (pr:List (Nat × Nat)) (dst:Option Tmp) (D:Delta):Nx:=⟨S.appD D dst,F,⟨k,xOf S.bl D,klOf D⟩ :: E,pairE k (xOf S.bl D) (klOf D) pr F⟩
def nextF (k:Nat) (S:St) (F:List Lf) (E:List Le) (pr:List (Nat × Nat)) (d:Nat) (v:V) (ids bls:List Nat):Nx:=⟨S.put (some d) v,⟨k,ids,bls⟩ :: F,E,pairF k ids bls pr E⟩
def nextD (P:Program) (n:Nat) (ops:Array Oper) (o:Oper) (k:Nat) (S:St) (F:List Lf) (E:List Le) (pr:List (Nat × Nat)) (R:St):Option Nx :=
 match stepD P n ops o R with
 | .fl d v=>some (nextF k S F E pr d v (idsT R.sl++v.ids) (fstB R.bl))
 | .ef D=>some (nextE k S F E pr o.dst D)
 | .no=>none
def runD (P:Program) (n:Nat) (ops:Array Oper):Nat→List Oper→Nat→St→List Lf→List Le→List (Nat × Nat)→Cd
 | 0,l,k,S,F,E,pr=>⟨l,k,S,F,E,pr⟩
 | _ + 1,[],k,S,F,E,pr=>⟨[],k,S,F,E,pr⟩
 | m + 1,o :: l,k,S,F,E,pr=>match nextD P n ops o k S F E pr (viewD S (rdT S.sl (Oper.looksAt ops o)) (seesB o.op)) with
  | some x=>runD P n ops m l (k + 1) x.S x.F x.E x.pr
  | none=>⟨o :: l,k,S,F,E,pr⟩
def fstBs:List (List (Nat × B))→List Nat
 | []=>[]
 | l :: ls=>fstB l++fstBs ls
def lfOf (f:Fo):Lf:=⟨f.i,idsT f.st.sl++f.v.ids,fstB f.st.bl++fstBs f.alt⟩
def leOf (e:Ef):Le:=⟨e.i,e.x,klOf e.D⟩
def DBA (P:Program) (X:Cx) (ops:Array Oper) (st0:St) (A:List (Nat × List (Nat × B))) (c:Cd):Prop :=
 ∃ F E done kd st,DRun P X ops (bfOf ops) st0 F E done kd st c.S c.k∧(∀ f ∈ F,∃ x ∈ c.F,x.i=f.i∧(∀ y ∈ (lfOf f).ids,y ∈ x.ids)∧∀ y ∈ (lfOf f).bls,y ∈ x.bls)∧c.E=(E.map leOf).reverse∧ops.toList.drop c.k=c.l∧(∀ f ∈ F,∀ e ∈ E,Apart f e ∨ (f.i < e.i∧(f.i,e.i) ∈ c.pr) ∨ (e.i < f.i∧(e.i,f.i) ∈ c.pr) ∨ (f.i < e.i∧f.i ∈ e.sw))∧∀ a ∈ A,a.1 < c.k∧∀ f ∈ F,f.i=a.1→a.2 ∈ f.alt
abbrev DB (P:Program) (X:Cx) (ops:Array Oper) (st0:St) (c:Cd):Prop:=DBA P X ops st0 [] c
section
variable {P:Program} {X:Cx} {ops:Array Oper} {st0 S:St} {l:List Oper} {o:Oper} {k:Nat} {F:List Lf} {E:List Le} {pr:List (Nat × Nat)} {K:St→Prop}
theorem meetN_false:∀ {a b:List Nat},meetN a b=false→∀ x ∈ a,x ∉ b
 | [],_,_,x,h=>by cases h
 | y :: a,b,h,x,hx=>by
  simp only [meetN,Bool.or_eq_false_iff,List.contains_eq_mem,decide_eq_false_iff_not] at h
  rcases List.mem_cons.1 hx with rfl | hx
  ·exact h.1
  ·exact meetN_false h.2 x hx
theorem rdT_get {sl:List (Nat × V)} {t:Nat} {u:V}:∀ {ts:List Nat},get t (rdT sl ts)=some u→t ∈ ts∧u ≠ .junk∧get t sl=some u
 | [],h=>by cases h
 | x :: ts,h=>by
  have hrec:get t (rdT sl ts)=some u→t ∈ x :: ts∧u ≠ .junk∧get t sl=some u:=fun h=>by
   obtain ⟨h1,h2⟩:=rdT_get h;exact ⟨List.mem_cons_of_mem _ h1,h2⟩
  unfold rdT at h
  split at h
  ·rename_i v hg
   split at h
   ·exact hrec h
   ·rename_i hj
    simp only [get] at h
    split at h
    ·rename_i ht
     subst ht
     injection h with h
     subst h
     exact ⟨List.mem_cons_self,(fun e=>by rw [e] at hj;cases hj),hg⟩
    ·exact hrec h
  ·exact hrec h
theorem blT_get {is:List Nat} {t:Nat} {b:B}:∀ {bl:List (Nat × B)},get t (blT is bl)=some b→get t bl=some b
 | [],h=>by cases h
 | p :: bl,h=>by
  unfold blT at h
  have hno:is.contains p.1=false→t=p.1→get t (blT is bl)=some b→False:=fun hc ht h=>by
   have key:∀ bl:List (Nat × B),get t (blT is bl)=some b→is.contains t=true:=by
    intro bl
    induction bl with
    | nil=>intro h;cases h
    | cons q bl ih =>
     intro h
     unfold blT at h
     split at h
     ·rename_i hc
      simp only [get] at h
      split at h
      ·rename_i hq;rw [hq];exact hc
      ·exact ih h
     ·exact ih h
   have:=key bl h
   rw [ht,hc] at this
   cases this
  split at h
  ·simp only [get] at h ⊢
   split at h
   ·rename_i ht;rw [if_pos ht];exact h
   ·rename_i ht;rw [if_neg ht];exact blT_get h
  ·rename_i hc
   simp only [get]
   by_cases ht:t=p.1
   ·exact (hno hc ht h).elim
   ·rw [if_neg ht];exact blT_get h
theorem viewD_bl {rd:List (Nat × V)} {s:Bool} {t:Nat} {b:B} (h:get t (viewD S rd s).bl=some b):get t S.bl=some b:=by
 cases s with
 | true=>exact blT_get h
 | false=>cases h
theorem viewD_sl {rd:List (Nat × V)} {s:Bool}:(viewD S rd s).sl=rd:=by cases s <;> rfl
theorem mem_idsT {sl:List (Nat × V)} {t x:Nat} {u:V} (h:get t sl=some u) (hx:x ∈ u.ids):x ∈ idsT sl:=by
 induction sl with
 | nil=>cases h
 | cons p sl ih =>
  simp only [get] at h
  simp only [idsT,List.mem_append]
  split at h
  ·injection h with h;subst h;exact .inl hx
  ·exact .inr (ih h)
theorem mem_fstB {bl:List (Nat × B)} {t:Nat} {b:B} (h:get t bl=some b):t ∈ fstB bl:=by
 induction bl with
 | nil=>cases h
 | cons p bl ih =>
  simp only [get] at h
  simp only [fstB,List.mem_cons]
  split at h
  ·rename_i ht;exact .inl ht
  ·exact .inr (ih h)
section
variable {kl:List Nat}
mutual
theorem C.ment_ids (c:C):(∀ x ∈ c.ids,x ∉ kl)→c.ment kl=false:=by
 cases c with
 | fn f caps=>intro h;unfold C.ment;exact C.ments_ids caps (by simpa [C.ids] using h)
 | own i n=>intro h;simpa [C.ment,C.ids] using h
 | optr i n=>intro h;simpa [C.ment,C.ids] using h
 | eptr i n s j=>intro h;simpa [C.ment,C.ids] using h
 | omap i=>intro h;simpa [C.ment,C.ids] using h
 | ocut i n s j=>intro h;simpa [C.ment,C.ids] using h
 | t z u=>intro _;rfl
 | nil=>intro _;rfl
 | junk=>intro _;rfl
theorem C.ments_ids (cs:List C):(∀ x ∈ C.idss cs,x ∉ kl)→C.ments kl cs=false:=by
 cases cs with
 | nil=>intro _;rfl
 | cons c cs =>
  intro h
  simp only [C.idss,List.mem_append] at h
  simp only [C.ments,Bool.or_eq_false_iff]
  exact ⟨C.ment_ids c fun x hx=>h x (.inl hx),C.ments_ids cs fun x hx=>h x (.inr hx)⟩
end
mutual
theorem V.ment_ids (c:V):(∀ x ∈ c.ids,x ∉ kl)→c.ment kl=false:=by
 cases c with
 | one c=>intro h;unfold V.ment;exact C.ment_ids c (by simpa [V.ids] using h)
 | agg cs=>intro h;unfold V.ment;exact C.ments_ids cs (by simpa [V.ids] using h)
 | tup vs=>intro h;unfold V.ment;exact V.ments_ids vs (by simpa [V.ids] using h)
 | junk=>intro _;rfl
theorem V.ments_ids (cs:List V):(∀ x ∈ V.idss cs,x ∉ kl)→V.ments kl cs=false:=by
 cases cs with
 | nil=>intro _;rfl
 | cons c cs =>
  intro h
  simp only [V.idss,List.mem_append] at h
  simp only [V.ments,Bool.or_eq_false_iff]
  exact ⟨V.ment_ids c fun x hx=>h x (.inl hx),V.ments_ids cs fun x hx=>h x (.inr hx)⟩
end
end
theorem mem_fstBs {bl:List (Nat × B)} {t:Nat} {b:B} (h:get t bl=some b):∀ {ls:List (List (Nat × B))},bl ∈ ls→t ∈ fstBs ls
 | l :: ls,hm=>by
  rw [fstBs,List.mem_append]
  rcases List.mem_cons.1 hm with rfl | hm
  ·exact .inl (mem_fstB h)
  ·exact .inr (mem_fstBs h hm)
theorem apart_of {f:Fo} {e:Ef} {ids bls:List Nat} (hi:∀ y ∈ (lfOf f).ids,y ∈ ids) (hb:∀ y ∈ (lfOf f).bls,y ∈ bls) (h:(meetN (leOf e).kl ids || meetN (leOf e).x bls)=false):Apart f e:=by
 rw [Bool.or_eq_false_iff] at h
 have h1:=meetN_false h.1
 have h2:=meetN_false h.2
 refine ⟨fun t u hu=>V.ment_ids u fun x hx hk=>h1 x hk (hi _ (List.mem_append_left _ (mem_idsT hu hx))),V.ment_ids f.v fun x hx hk=>h1 x hk (hi _ (List.mem_append_right _ hx)),fun bl hbl t b hb' hx=>h2 t hx (hb _ ?_)⟩
 rcases List.mem_cons.1 hbl with rfl | hbl
 ·exact List.mem_append_left _ (mem_fstB hb')
 ·exact List.mem_append_right _ (mem_fstBs hb' hbl)
theorem mem_mentBl {kl:List Nat} {bl:List (Nat × B)} {t:Nat} {b:B} (h:get t bl=some b) (hm:b.ment kl=true):t ∈ mentBl kl bl:=by
 induction bl with
 | nil=>cases h
 | cons p bl ih =>
  simp only [get] at h
  unfold mentBl
  split at h
  ·rename_i ht
   injection h with h
   subst h
   subst ht
   simp only [hm,List.mem_cons,true_or]
  ·have:=ih h
   split
   ·exact List.mem_cons_of_mem _ this
   ·exact this
theorem fstB_map (bl:List (Nat × B)):fstB bl=bl.map (·.1):=by
 induction bl with
 | nil=>rfl
 | cons p bl ih=>rw [fstB,ih,List.map_cons]
theorem xOf_ok {bl:List (Nat × B)} {D:Delta}:XOk bl D (xOf bl D):=by
 cases D with
 | pure v=>exact ⟨(fun _ h=>by cases h),fun t b _ _=>B.ment_nil b⟩
 | mod v ch kl nb =>
  refine ⟨fun i h=>?_,fun t b h hn=>?_⟩
  ·simp only [modIds,List.mem_append] at h
   simp only [xOf,List.mem_append,fstB_map]
   rcases h with h | h | h
   ·exact .inl h
   ·exact .inr (.inl h)
   ·exact .inr (.inr (.inl h))
  ·simp only [xOf,List.mem_append,not_or] at hn
   cases kl with
   | nil=>exact B.ment_nil b
   | cons k kl =>
    show b.ment (k :: kl)=false
    cases hm:b.ment (k :: kl) with
    | false=>rfl
    | true=>exact absurd (mem_mentBl h hm) hn.2.2.2
theorem pairF_mem {i:Nat} {ids bls:List Nat}:∀ {E:List Le},(∀ p ∈ pr,p ∈ pairF i ids bls pr E)∧∀ e ∈ E,(meetN e.kl ids || meetN e.x bls)=false ∨ (e.i,i) ∈ pairF i ids bls pr E
 | []=>⟨fun _ h=>h,fun _ h=>by cases h⟩
 | x :: E=>by
  obtain ⟨h1,h2⟩:=pairF_mem (i:=i) (ids:=ids) (bls:=bls) (E:=E)
  refine ⟨fun p hp=>?_,fun e he=>?_⟩
  ·unfold pairF
   split
   ·exact List.mem_cons_of_mem _ (h1 p hp)
   ·exact h1 p hp
  ·unfold pairF
   rcases List.mem_cons.1 he with rfl | he
   ·split
    ·exact .inr List.mem_cons_self
    ·rename_i hm;exact .inl hm
   ·rcases h2 e he with h3 | h3
    ·exact .inl h3
    ·refine .inr ?_
     split
     ·exact List.mem_cons_of_mem _ h3
     ·exact h3
theorem pairE_mem {i:Nat} {x kl:List Nat}:∀ {F:List Lf},(∀ p ∈ pr,p ∈ pairE i x kl pr F)∧∀ f ∈ F,(meetN kl f.ids || meetN x f.bls)=false ∨ (f.i,i) ∈ pairE i x kl pr F
 | []=>⟨fun _ h=>h,fun _ h=>by cases h⟩
 | y :: F=>by
  obtain ⟨h1,h2⟩:=pairE_mem (i:=i) (x:=x) (kl:=kl) (F:=F)
  refine ⟨fun p hp=>?_,fun e he=>?_⟩
  ·unfold pairE
   split
   ·exact List.mem_cons_of_mem _ (h1 p hp)
   ·exact h1 p hp
  ·unfold pairE
   rcases List.mem_cons.1 he with rfl | he
   ·split
    ·exact .inr List.mem_cons_self
    ·rename_i hm;exact .inl hm
   ·rcases h2 e he with h3 | h3
    ·exact .inl h3
    ·refine .inr ?_
     split
     ·exact List.mem_cons_of_mem _ h3
     ·exact h3
theorem dba_fl {A:List (Nat × List (Nat × B))} {alt:List (List (Nat × B))} {d:Nat} {v:V} {R:St} {on:Bool} {ids bls:List Nat} (hids:∀ y ∈ idsT R.sl++v.ids,y ∈ ids) (hbls:∀ y ∈ fstB R.bl++fstBs alt,y ∈ bls) (hb:DBA P X ops st0 A ⟨o :: l,k,S,F,E,pr⟩) (hd:o.dst=some d) (hdn:d < X.n) (hsl:∀ t u,get t R.sl=some u→t ∈ Oper.looksAt ops o∧u ≠ .junk∧get t S.sl=some u) (hbl:∀ t b,get t R.bl=some b→get t S.bl=some b)
  (hop:∀ bl ∈ R.bl :: alt,(on=true∧guardOf ⟨R.sl,bl⟩ ops o=some true∧∃ D,(D=.pure v ∨ D=.mod v [] [] [])∧Step P X ⟨R.sl,bl⟩ o D) ∨ (on=false∧guardOf ⟨R.sl,bl⟩ ops o=some false∧v=.tup [])):DBA P X ops st0 (alt.map (fun b=>(k,b))++A) ⟨l,k + 1,S.put (some d) v,⟨k,ids,bls⟩ :: F,E,pairF k ids bls pr E⟩:=by
 obtain ⟨F',E',done,kd,st,h1,h2,h3,h4,h5,h6⟩:=hb
 obtain ⟨ho,hl⟩:=drop_op h4
 obtain ⟨nf,hnf⟩:∃ nf:Fo,nf=⟨k,d,v,R.sl.map fun p=>(p.1,p.2,none),R.bl.map fun p=>(p.1,p.2,none),on,bfOf ops k,alt⟩:=⟨_,rfl⟩
 have hst:nf.st=R:=by
  rw [hnf]
  unfold Fo.st
  simp only [List.map_map]
  rw [show ((fun p:Nat × V × Option Nat=>(p.1,p.2.1)) ∘ fun p:Nat × V=>(p.1,p.2,none))=id from rfl,show ((fun p:Nat × B × Option Nat=>(p.1,p.2.1)) ∘ fun p:Nat × B=>(p.1,p.2,none))=id from rfl,List.map_id,List.map_id]
 have hni:nf.i=k:=by rw [hnf]
 have hnd:nf.dst=d:=by rw [hnf]
 have hnv:nf.v=v:=by rw [hnf]
 have hno:nf.on=on:=by rw [hnf]
 have hna:nf.alt=alt:=by rw [hnf]
 have hnn:nf.dn=bfOf ops k:=by rw [hnf]
 clear hnf
 have hlf:lfOf nf=⟨k,idsT R.sl++v.ids,fstB R.bl++fstBs alt⟩:=by unfold lfOf;rw [hst,hni,hnv,hna]
 have hS:S.put (some d) v=S.put (some nf.dst) nf.v:=by rw [hnd,hnv]
 refine ⟨F'++[nf],E',done,kd,st,?_,fun f hf=>?_,h3,hl,fun f hf e he=>?_,fun a ha=>?_⟩
 ·show DRun P X ops (bfOf ops) st0 (F'++[nf]) E' done kd st (S.put (some d) v) (k + 1)
  rw [hS]
  refine .fl h1 hni hnn ⟨o,by rw [hni];exact ho,by rw [hnd];exact hd,by rw [hnd];exact hdn,by rw [hst,hna,hno,hnv];exact hop⟩ (fun o' ho' t u h=>?_) (fun t b h=>?_)
  ·rw [hst] at h
   rw [ho] at ho'
   injection ho' with ho'
   subst ho'
   exact hsl t u h
  ·rw [hst] at h;exact hbl t b h
 ·rcases List.mem_append.1 hf with hf | hf
  ·obtain ⟨x,q1,q2⟩:=h2 f hf
   exact ⟨x,List.mem_cons_of_mem _ q1,q2⟩
  ·rw [List.mem_singleton] at hf
   subst hf
   refine ⟨_,List.mem_cons_self,hni.symm,?_,?_⟩
   ·rw [hlf];exact hids
   ·rw [hlf];exact hbls
 ·have hE:leOf e ∈ E:=by
   dsimp only at h3
   rw [h3];exact List.mem_reverse.2 (List.mem_map.2 ⟨e,he,rfl⟩)
  rcases List.mem_append.1 hf with hf | hf
  ·rcases h5 f hf e he with h | ⟨ha,hb⟩ | ⟨ha,hb⟩ | h
   ·exact .inl h
   ·exact .inr (.inl ⟨ha,pairF_mem.1 _ hb⟩)
   ·exact .inr (.inr (.inl ⟨ha,pairF_mem.1 _ hb⟩))
   ·exact .inr (.inr (.inr h))
  ·rw [List.mem_singleton] at hf
   subst hf
   rcases (pairF_mem (i:=k) (ids:=ids) (bls:=bls) (pr:=pr)).2 _ hE with h | h
   ·refine .inl (apart_of (ids:=ids) (bls:=bls) ?_ ?_ h)
    ·rw [hlf];exact hids
    ·rw [hlf];exact hbls
   ·exact .inr (.inr (.inl ⟨by rw [hni];exact (drun_lt h1).2.1 e he,by rw [hni];exact h⟩))
 ·rcases List.mem_append.1 ha with ha | ha
  ·obtain ⟨b,hb,rfl⟩:=List.mem_map.1 ha
   refine ⟨Nat.lt_succ_self _,fun f hf hi=>?_⟩
   rcases List.mem_append.1 hf with hf | hf
   ·have h7:=(drun_lt h1).1 f hf
    dsimp only at h7 hi
    omega
   ·rw [List.mem_singleton] at hf
    subst hf
    rw [hna];exact hb
  ·obtain ⟨h7,h8⟩:=h6 a ha
   dsimp only at h7
   refine ⟨Nat.lt_succ_of_lt h7,fun f hf hi=>?_⟩
   rcases List.mem_append.1 hf with hf | hf
   ·exact h8 f hf hi
   ·rw [List.mem_singleton] at hf
    subst hf
    omega
theorem db_fl {d:Nat} {v:V} {R:St} {on:Bool} {ids bls:List Nat} (hids:∀ y ∈ idsT R.sl++v.ids,y ∈ ids) (hbls:∀ y ∈ fstB R.bl,y ∈ bls) (hb:DB P X ops st0 ⟨o :: l,k,S,F,E,pr⟩) (hd:o.dst=some d) (hdn:d < X.n) (hsl:∀ t u,get t R.sl=some u→t ∈ Oper.looksAt ops o∧u ≠ .junk∧get t S.sl=some u) (hbl:∀ t b,get t R.bl=some b→get t S.bl=some b)
  (hop:(on=true∧guardOf R ops o=some true∧∃ D,(D=.pure v ∨ D=.mod v [] [] [])∧Step P X R o D) ∨ (on=false∧guardOf R ops o=some false∧v=.tup [])):DB P X ops st0 ⟨l,k + 1,S.put (some d) v,⟨k,ids,bls⟩ :: F,E,pairF k ids bls pr E⟩ :=
 dba_fl (alt:=[]) hids (by rw [fstBs,List.append_nil];exact hbls) hb hd hdn hsl hbl fun bl h=>by
  rw [List.mem_singleton.1 h]
  exact hop
theorem dba_ef {A:List (Nat × List (Nat × B))} {D:Delta} {R:St} {G:List Lf} (hb:DBA P X ops st0 A ⟨o :: l,k,S,F,E,pr⟩) (hG:∀ x ∈ F,x ∈ G ∨ ∃ a ∈ A,a.1=x.i) (hA:∀ a ∈ A,klOf D=[]∧∀ t b,get t a.2=some b→get t (S.appD D o.dst).bl=some b) (hd:dstOk X.n o.dst=true) (hsl:∀ t u,get t R.sl=some u→t ∈ Oper.looksAt ops o∧u ≠ .junk∧get t S.sl=some u) (hbl:∀ t b,get t R.bl=some b→get t S.bl=some b)
  (hs:StepG P X ops R o D):DB P X ops st0 ⟨l,k + 1,S.appD D o.dst,F,⟨k,xOf S.bl D,klOf D⟩ :: E,pairE k (xOf S.bl D) (klOf D) pr G⟩:=by
 obtain ⟨F',E',done,kd,st,h1,h2,h3,h4,h5,h6⟩:=hb
 obtain ⟨ho,hl⟩:=drop_op h4
 dsimp only at h2 h3
 refine ⟨F',E'++[⟨k,o.dst,D,xOf S.bl D,A.map (·.1)⟩],k :: done,_,_,.ef h1 rfl ho rfl hd hsl hbl hs xOf_ok (fun f hf hsw=>?_),h2,?_,hl,fun f hf e he=>?_,fun _ h=>by cases h⟩
 ·obtain ⟨a,ha,hai⟩:=List.mem_map.1 hsw
  obtain ⟨q1,q2⟩:=hA a ha
  refine ⟨fun t u _=>?_,?_,a.2,(h6 a ha).2 f hf hai.symm,q2⟩
  ·show u.ment (klOf D)=false
   rw [q1];exact V.ment_nil u
  ·show f.v.ment (klOf D)=false
   rw [q1];exact V.ment_nil _
 ·show (⟨k,_,_⟩:Le) :: E=_
  rw [h3,List.map_append,List.reverse_append]
  rfl
 ·obtain ⟨xf,hF,hxi,hxa,hxb⟩:=h2 f hf
  rcases List.mem_append.1 he with he | he
  ·rcases h5 f hf e he with h | ⟨ha,hb⟩ | ⟨ha,hb⟩ | h
   ·exact .inl h
   ·exact .inr (.inl ⟨ha,pairE_mem.1 _ hb⟩)
   ·exact .inr (.inr (.inl ⟨ha,pairE_mem.1 _ hb⟩))
   ·exact .inr (.inr (.inr h))
  ·rw [List.mem_singleton] at he
   subst he
   rcases hG xf hF with hF | ⟨a,ha,hai⟩
   ·rcases (pairE_mem (i:=k) (x:=xOf S.bl D) (kl:=klOf D) (pr:=pr)).2 _ hF with h | h
    ·exact .inl (apart_of hxa hxb h)
    ·exact .inr (.inl ⟨(drun_lt h1).1 f hf,by rw [← hxi];exact h⟩)
   ·exact .inr (.inr (.inr ⟨(drun_lt h1).1 f hf,List.mem_map.2 ⟨a,ha,by rw [hai,hxi]⟩⟩))
theorem db_ef {D:Delta} {R:St} (hb:DB P X ops st0 ⟨o :: l,k,S,F,E,pr⟩) (hd:dstOk X.n o.dst=true) (hsl:∀ t u,get t R.sl=some u→t ∈ Oper.looksAt ops o∧u ≠ .junk∧get t S.sl=some u) (hbl:∀ t b,get t R.bl=some b→get t S.bl=some b)
  (hs:StepG P X ops R o D):DB P X ops st0 ⟨l,k + 1,(nextE k S F E pr o.dst D).S,(nextE k S F E pr o.dst D).F,(nextE k S F E pr o.dst D).E,(nextE k S F E pr o.dst D).pr⟩ :=
 dba_ef hb (fun _ h=>.inl h) (fun _ h=>by cases h) hd hsl hbl hs
theorem db_next {x:Nx} (hb:DB P X ops st0 ⟨o :: l,k,S,F,E,pr⟩) (h:nextD P X.n ops o k S F E pr (viewD S (rdT S.sl (Oper.looksAt ops o)) (seesB o.op))=some x):DB P X ops st0 ⟨l,k + 1,x.S,x.F,x.E,x.pr⟩:=by
 have hsl:∀ t u,get t (viewD S (rdT S.sl (Oper.looksAt ops o)) (seesB o.op)).sl=some u→t ∈ Oper.looksAt ops o∧u ≠ .junk∧get t S.sl=some u:=fun t u h=>by
  rw [viewD_sl] at h;exact rdT_get h
 have hbl:=fun t b h=>viewD_bl (S:=S) (rd:=rdT S.sl (Oper.looksAt ops o)) (s:=seesB o.op) (t:=t) (b:=b) h
 generalize viewD S (rdT S.sl (Oper.looksAt ops o)) (seesB o.op)=R at *
 unfold nextD at h
 split at h
 ·rename_i d v hs
  injection h with h
  subst h
  unfold stepD at hs
  split at hs
  ·cases hs
  ·rename_i hdo
   split at hs
   ·cases hs
   ·rename_i hg
    split at hs
    ·rename_i d' hd
     cases hs
     exact db_fl (on:=false) (fun _ h=>h) (fun _ h=>h) hb hd (by rw [hd] at hdo;simpa [dstOk] using hdo) hsl hbl (.inr ⟨rfl,hg,rfl⟩)
    ·cases hs
   ·rename_i hg
    split at hs
    ·rename_i v' hx
     split at hs
     ·rename_i d' hd
      cases hs
      exact db_fl (on:=true) (fun _ h=>h) (fun _ h=>h) hb hd (by rw [hd] at hdo;simpa [dstOk] using hdo) hsl hbl (.inl ⟨rfl,hg,_,.inl rfl,(exec1_runs hx).step⟩)
     ·cases hs
    ·cases hs
    ·cases hs
 ·rename_i D hs
  injection h with h
  subst h
  unfold stepD at hs
  split at hs
  ·cases hs
  ·rename_i hdo
   split at hs
   ·cases hs
   ·split at hs <;> cases hs
   ·rename_i hg
    split at hs
    ·split at hs <;> cases hs
    ·rename_i hx
     cases hs
     exact db_ef hb hdo hsl hbl (.inl ⟨hg,(exec1_runs hx).step.p⟩)
    ·cases hs
 ·cases h
def junkT:List (Nat × V)→List Nat
 | []=>[]
 | p :: l=>match jk p.2 with
  | true=>p.1 :: junkT l
  | false=>junkT l
def cleanJ (S:St):St:=⟨dropT (junkT S.sl) S.sl,S.bl⟩
theorem mem_junkT {t:Nat}:∀ {l:List (Nat × V)},(t,V.junk) ∈ l→t ∈ junkT l
 | [],h=>by cases h
 | p :: l,h=>by
  unfold junkT
  rcases List.mem_cons.1 h with h | h
  ·subst h
   simp [jk]
  ·have ih:=mem_junkT h
   split
   ·exact List.mem_cons_of_mem _ ih
   ·exact ih
theorem cleanJ_get {t:Nat} {u:V} (h:get t (cleanJ S).sl=some u):get t S.sl=some u∧u ≠ .junk:=by
 obtain ⟨h1,h2⟩:=get_dropT h
 exact ⟨h1,fun he=>h2 (mem_junkT (by rw [← he];exact get_mem h1))⟩
def DG (P:Program) (X:Cx) (ops:Array Oper) (st0:St) (K:St→Prop):Prop :=
 ∃ F E done kd st S,DRun P X ops (bfOf ops) st0 F E done kd st S ops.size∧PairsOk (bfOf ops) F E∧(E.map (·.i)).Pairwise (fun a b=>a ∈ bfOf ops b)∧K (cleanJ S)
def DW (P:Program) (X:Cx) (ops:Array Oper) (st0:St) (K:St→Prop) (c:Cd):Prop:=DB P X ops st0 c→DG P X ops st0 K
theorem dw_run:∀ {m:Nat} {l:List Oper} {k:Nat} {S:St} {F:List Lf} {E:List Le} {pr:List (Nat × Nat)},DW P X ops st0 K (runD P X.n ops m l k S F E pr)→DW P X ops st0 K ⟨l,k,S,F,E,pr⟩
 | 0,_,_,_,_,_,_,h=>h
 | _ + 1,[],_,_,_,_,_,h=>h
 | m + 1,o :: l,k,S,F,E,pr,h=>fun hb=>by
  unfold runD at h
  split at h
  ·rename_i x hx
   exact dw_run h (db_next hb hx)
  ·exact h hb
def chE (tab:List Nat):List Nat→Bool
 | []=>true
 | j :: js=>js.all (fun i=>bfB tab j i) && chE tab js
def endB (ops:Array Oper) (js:List Nat) (pr:List (Nat × Nat)):Bool:=chE (dnTab ops.toList []) js && pr.all fun p=>bfB (dnTab ops.toList []) p.2 p.1
def jsOf:List Le→List Nat
 | []=>[]
 | e :: E=>e.i :: jsOf E
theorem jsOf_map (E:List Le):jsOf E=E.map (·.i):=by
 induction E with
 | nil=>rfl
 | cons e E ih=>rw [jsOf,ih,List.map_cons]
theorem chE_pw:∀ {js:List Nat},chE (dnTab ops.toList []) js=true→js.reverse.Pairwise fun a b=>a ∈ bfOf ops b
 | [],_=>List.Pairwise.nil
 | j :: js,h=>by
  simp only [chE,Bool.and_eq_true,List.all_eq_true] at h
  rw [List.reverse_cons]
  refine List.pairwise_append.2 ⟨chE_pw h.2,List.pairwise_singleton _ _,fun a ha b hb=>?_⟩
  rw [List.mem_singleton] at hb
  subst hb
  exact mem_bf.2 (h.1 a (List.mem_reverse.1 ha))
theorem dw_end (he:endB ops (jsOf E) pr=true) (h:K (cleanJ S)):DW P X ops st0 K ⟨[],k,S,F,E,pr⟩:=fun hb=>by
 obtain ⟨F',E',done,kd,st,h1,h2,h3,h4,h5,_⟩:=hb
 dsimp only at h1 h2 h3 h4 h5
 unfold endB at he
 simp only [Bool.and_eq_true,List.all_eq_true] at he
 have hk:k=ops.size:=by
  have hle:ops.size≤k:=by simpa using List.drop_eq_nil_iff.1 h4
  obtain ⟨a1,a2,a3,a4,a5,_,_,_,_,a10⟩:=drun_lt h1
  rcases Nat.lt_or_ge ops.size k with hlt | hge
  ·exfalso
   rcases a5 ops.size hlt with ⟨f,hf,hi⟩ | ⟨e,he,hi⟩
   ·obtain ⟨o,ho,_⟩:=(a3 f hf).1
    rw [hi,Array.getElem?_eq_none (Nat.le_refl _)] at ho;cases ho
   ·obtain ⟨o,ho,_⟩:=a10 e he
    rw [hi,Array.getElem?_eq_none (Nat.le_refl _)] at ho;cases ho
  ·omega
 subst hk
 refine ⟨F',E',done,kd,st,S,h1,fun f hf e he'=>?_,?_,h⟩
 ·rcases h5 f hf e he' with h | ⟨ha,hb⟩ | ⟨ha,hb⟩ | h
  ·exact .inl h
  ·exact .inr (.inl ⟨ha,mem_bf.2 (he.2 _ hb)⟩)
  ·exact .inr (.inr (.inl ⟨ha,mem_bf.2 (he.2 _ hb)⟩))
  ·exact .inr (.inr (.inr h))
 ·have:=chE_pw he.1
  rw [jsOf_map,h3,List.map_reverse,List.reverse_reverse,List.map_map] at this
  exact this
theorem dr_fin {st:St} (hmix:P.follows .mixedOrders=true) {id:Nat} {Q:Exit→St→Prop} (hst:statB ops=true) (h0:∀ t u,get t st0.sl=some u→∀ o ∈ ops.toList,o.dst ≠ some t) (hle:st0.le st) (h:DG P X ops st0 (Q .normal)) (hpn:∀ ch s,X.pan ch→Q (.panic ch) s ):CW P X (.region id ops true) Q st:=fun ρ a w hH=>by
 refine wp_region_any hmix ?_
 obtain ⟨F,E,done,kd,s,S,hp,hpr,hch,hK⟩:=h
 obtain ⟨hbk,hD⟩:=stat_ok hst
 obtain ⟨a1,a2,a3,a4,a5,a6,a7,a8,a9,a10⟩:=drun_lt hp
 have hFo:∀ f ∈ F,FoD P X ops f:=fun f hf=>(a3 f hf).1
 have h0':∀ t u,get t st0.sl=some u→∀ f ∈ F,f.dst ≠ t:=fun t u h f hf he=>by
  obtain ⟨o,ho,hd⟩:=fo_dst (hFo f hf)
  exact h0 t u h o (List.mem_of_getElem? (by simpa using ho)) (by rw [hd,he])
 have I:=drun_inv hD hFo a7 hpr h0' hp (fun _ h=>h) (fun _ h=>h)
 have hdst:∀ f ∈ F,∀ g ∈ F,f.dst=g.dst→f=g:=fun f hf g hg he=>by
  obtain ⟨o,o1,o2⟩:=fo_dst (hFo f hf)
  obtain ⟨o',o3,o4⟩:=fo_dst (hFo g hg)
  exact a6 f hf g hg (hD.dst f.i g.i o o' _ o1 o3 o2 (by rw [o4,he]))
 have hok:DOk ops (bfOf ops) F (E.map (·.i)):=⟨fun i hi=>by
   rcases a5 i hi with ⟨f,h1,h2⟩ | ⟨e,h1,h2⟩
   ·exact .inr ⟨f,h1,h2⟩
   ·exact .inl (List.mem_map.2 ⟨e,h1,h2⟩),a1,a6,hdst,fun f hf hm=>by
   obtain ⟨e,h1,h2⟩:=List.mem_map.1 hm
   exact a7 f hf e h1 h2.symm,a8,hch,fun f hf=>(a3 f hf).2,hD.dn⟩
 have hend:ND P X ops (bfOf ops) F (E.map (·.i)) (fun s=>(cleanJ S).le s) done kd [] s:=by
  unfold ND
  refine ⟨fun f hf=>(I.fo f hf).elim .inl fun h=>.inr (.inr h),fun t u h=>?_,fun t b h=>?_⟩
  ·obtain ⟨h1,h2⟩:=cleanJ_get h
   rcases I.sl t u h1 h2 with ⟨g,g1,g2,g3,g4⟩ | ⟨g1,g2⟩
   ·subst g2
    subst g3
    exact get_append_some (foSl_get (fun f hf g hg he=>hdst f (mem_alive.1 hf).1 g (mem_alive.1 hg).1 he) (mem_alive.2 ⟨g1,g4⟩) rfl)
   ·exact (get_append_none (foSl_none fun g hg=>g1 g (mem_alive.1 hg).1)).trans g2
  ·show get t s.bl=some b
   rw [← I.bl];exact h
 have hpath:=drun_path hD hFo a9 a7 a6 hpr h0' hp ⟨[],by simp,fun _ h=>by cases h⟩ ⟨[],by simp,fun _ h=>by cases h⟩ (fun f hf hk=>by have:=a1 f hf;omega) [] hend
 rw [List.append_nil,a4] at hpath
 have hrep:∀ i,(Array.replicate ops.size false).getD i false=false:=fun i=>rep_false _ _
 have hrep':∀ i,i < ops.size→(Array.replicate ops.size false).getD i true=false:=fun i hi=>by simp [hi]
 refine dr_any (by simpa using hbk) hFo hok (Q:=fun e a w=>∃ s ρ,Q e s∧Hold X s ρ a w) (fun s ρ a w hs hH=>⟨cleanJ S,ρ,hK,hH.le hs⟩) (fun ch s ρ a w hpc hH=>⟨s,ρ,hpn ch s hpc,hH⟩) _ [] [] _ _ _ ρ _ _ (by simp) ?_ (by simp) (fun i _ hi=>?_) (fun i j hi hl _=>?_) hpath (fun f hf u hu=>?_) ?_
 ·refine Nat.le_trans (List.countP_le_length) ?_
  simp
 ·rw [hrep' i hi];simp
 ·rw [hrep' i hi] at hl;cases hl
 ·exact absurd rfl (h0' _ u hu f hf)
 ·have hal:foSl (fun i=>(Array.replicate ops.size false).getD i true) (aliveF [] F)=[]:=by
   rw [foSl_congr (q:=fun _=>false) fun f hf=>hrep' f.i (a1 f (mem_alive.1 hf).1)]
   have:∀ G:List Fo,foSl (fun _=>false) G=[]:=by
    intro G
    induction G with
    | nil=>rfl
    | cons g G ih=>unfold foSl;exact ih
   exact this _
  rw [hal]
  exact (hH.le hle).draw
theorem dr_drop {l:List Oper} {st:St}:(∀ t u,get t (dropS st (dstsOf l)).sl=some u→∀ o ∈ l,o.dst ≠ some t)∧(dropS st (dstsOf l)).le st:=by
 refine ⟨fun t u h o ho hd=>?_,fun t v h=>(get_filter (p:=fun t=>!(dstsOf l).contains t) h).1,fun t v h=>h⟩
 obtain ⟨i,hi⟩:=List.mem_iff_getElem?.1 ho
 have hm:=mem_dstsOf hi hd
 have:=(get_filter (p:=fun t=>!(dstsOf l).contains t) h).2
 simp [hm] at this
theorem cw_dr {st st1:St} {id:Nat} {l:List Oper} {Q:Exit→St→Prop} {ds:List Nat} (m:Nat) (hmix:P.follows .mixedOrders=true) (hstat:statB l.toArray=true) (hds:dstsOf l=ds) (hst:dropS st ds=st1)
  (h:∀ K:St→Prop,(∀ s,Q .normal s→K s)→DW P X l.toArray st1 K (runD P X.n l.toArray m l 0 st1 [] [] [])) (hp:∀ ch s,X.pan ch→Q (.panic ch) s:=by intro ch s h;exact h):CW P X (.region id l.toArray true) Q st:=by
 subst hds
 subst hst
 exact dr_fin hmix hstat dr_drop.1 dr_drop.2 (dw_run (h (Q .normal) fun _ h=>h) ⟨[],[],[],[],_,.nil,(fun _ h=>by cases h),rfl,rfl,(fun _ h=>by cases h),(fun _ h=>by cases h)⟩) hp
def contD (P:Program) (n m:Nat) (ops:Array Oper) (l:List Oper) (k:Nat) (x:Nx):Cd:=runD P n ops m l (k + 1) x.S x.F x.E x.pr
theorem dw_call {c:Call} {cv:Operand} {f:FuncId} {as_:List A} {res:V} {nb:List (Nat × B)} (n m:Nat) (hop:o.op=.call c) (hcal:c.callee=.value cv)
  (hc:callAll (viewD S (rdT S.sl (Oper.looksAt ops o)) true) n cv c.args.toList=some (f,as_)) (hsp:Sp P f as_ res nb) (hm:modeOk (viewD S (rdT S.sl (Oper.looksAt ops o)) true) n cv c.args.toList res nb=true) (hg:guardOf (viewD S (rdT S.sl (Oper.looksAt ops o)) true) ops o=some true) (hd:(dstOk X.n o.dst && nbOk X.n nb)=true)
  (h:DW P X ops st0 K (contD P X.n m ops l k (nextE k S F E pr o.dst (callD res nb)))):DW P X ops st0 K ⟨o :: l,k,S,F,E,pr⟩:=fun hb=>by
 rw [Bool.and_eq_true] at hd
 have hsl:∀ t u,get t (viewD S (rdT S.sl (Oper.looksAt ops o)) true).sl=some u→t ∈ Oper.looksAt ops o∧u ≠ .junk∧get t S.sl=some u:=fun t u h=>by
  rw [viewD_sl] at h;exact rdT_get h
 have hbl:=fun t b h=>viewD_bl (S:=S) (rd:=rdT S.sl (Oper.looksAt ops o)) (s:=true) (t:=t) (b:=b) h
 generalize viewD S (rdT S.sl (Oper.looksAt ops o)) true=R at *
 refine dw_run h (db_ef hb hd.1 hsl hbl (.inl ⟨hg,Step.p ?_⟩))
 unfold callAll at hc
 split at hc
 ·rename_i p hp
  split at hc
  ·rename_i qs hqs
   obtain ⟨g,caps⟩:=p
   simp only [Option.some.injEq,Prod.mk.injEq] at hc
   obtain ⟨rfl,rfl⟩:=hc
   refine call_step (n:=n) hop hcal hp hqs hsp ?_ hd.2
   unfold modeOk at hm
   rw [hp] at hm
   simp only [Bool.or_eq_true,Bool.and_eq_true,List.isEmpty_iff,List.all_eq_true] at hm
   exact hm.imp (fun h=>⟨h.2,h.1⟩) fun h=>h
  ·cases hc
 ·cases hc
theorem dw_callf {c:Call} {cv:Operand} {f:FuncId} {as_:List A} {res:V} {d:Nat} (n m:Nat) (hop:o.op=.call c) (hcal:c.callee=.value cv)
  (hc:callAll (viewD S (rdT S.sl (Oper.looksAt ops o)) true) n cv c.args.toList=some (f,as_)) (hsp:Sp P f as_ res []) (hm:modeOk (viewD S (rdT S.sl (Oper.looksAt ops o)) true) n cv c.args.toList res []=true) (hg:guardOf (viewD S (rdT S.sl (Oper.looksAt ops o)) true) ops o=some true) (hdd:o.dst=some d) (hd:dstOk X.n o.dst=true)
  (h:DW P X ops st0 K (contD P X.n m ops l k (nextF k S F E pr d res (idsT (viewD S (rdT S.sl (Oper.looksAt ops o)) true).sl++res.ids) (fstB (viewD S (rdT S.sl (Oper.looksAt ops o)) true).bl)))):DW P X ops st0 K ⟨o :: l,k,S,F,E,pr⟩:=fun hb=>by
 have hsl:∀ t u,get t (viewD S (rdT S.sl (Oper.looksAt ops o)) true).sl=some u→t ∈ Oper.looksAt ops o∧u ≠ .junk∧get t S.sl=some u:=fun t u h=>by
  rw [viewD_sl] at h;exact rdT_get h
 have hbl:=fun t b h=>viewD_bl (S:=S) (rd:=rdT S.sl (Oper.looksAt ops o)) (s:=true) (t:=t) (b:=b) h
 generalize viewD S (rdT S.sl (Oper.looksAt ops o)) true=R at *
 refine dw_run h (db_fl (on:=true) (fun _ h=>h) (fun _ h=>h) hb hdd (by rw [hdd] at hd;simpa [dstOk] using hd) hsl hbl (.inl ⟨rfl,hg,callD res [],.inr rfl,?_⟩))
 unfold callAll at hc
 split at hc
 ·rename_i p hp
  split at hc
  ·rename_i qs hqs
   obtain ⟨g,caps⟩:=p
   simp only [Option.some.injEq,Prod.mk.injEq] at hc
   obtain ⟨rfl,rfl⟩:=hc
   refine call_step (n:=n) hop hcal hp hqs hsp ?_ rfl
   unfold modeOk at hm
   rw [hp] at hm
   simp only [Bool.or_eq_true,Bool.and_eq_true,List.isEmpty_iff,List.all_eq_true] at hm
   exact hm.imp (fun h=>⟨h.2,h.1⟩) fun h=>h
  ·cases hc
 ·cases hc
def gsOf (ops:Array Oper) (o:Oper):List Tmp:=match o.guard with
 | some (g,_)=>((ops[g]?).bind (·.dst)).toList
 | none=>[]
theorem gs_looks {t:Nat} (h:t ∈ gsOf ops o):t ∈ Oper.looksAt ops o:=by
 unfold gsOf at h
 unfold Oper.looksAt
 refine List.mem_append_right _ ?_
 split at h
 ·rename_i hg;rw [hg];exact h
 ·cases h
def seenB (is:List Nat) (bl:List (Nat × B)):Bool→List (Nat × B)
 | true=>blT is bl
 | false=>[]
theorem dw_when {b s:Bool} {d:Nat} {v:V} {is:List Nat} (hgi:idsT (rdT S.sl (gsOf ops o))=[]) (hg:guardOf ⟨rdT S.sl (gsOf ops o),[]⟩ ops o=some b) (hd:o.dst=some d) (hdn:dstOk X.n o.dst=true) (hi:b=true→idsT (rdT S.sl (Oper.looksAt ops o))=is) (hgt:b=true→guardOf ⟨rdT S.sl (Oper.looksAt ops o),seenB is S.bl s⟩ ops o=some true) (hx:b=true→∃ D,(D=.pure v ∨ D=.mod v [] [] [])∧Step P X ⟨rdT S.sl (Oper.looksAt ops o),seenB is S.bl s⟩ o D)
  (h:DW P X ops st0 K ⟨l,k + 1,S.put (some d) (mkW b v),⟨k,is++v.ids,fstB (seenB is S.bl s)⟩ :: F,E,pairF k (is++v.ids) (fstB (seenB is S.bl s)) pr E⟩):DW P X ops st0 K ⟨o :: l,k,S,F,E,pr⟩:=fun hb=>by
 rw [hd] at hdn
 cases b with
 | true =>
  refine h (db_fl (on:=true) (R:=⟨rdT S.sl (Oper.looksAt ops o),seenB is S.bl s⟩) (fun y hy=>?_) (fun _ h=>h) hb hd (by simpa [dstOk] using hdn) (fun t u h=>rdT_get h) (fun t b h=>?_) (.inl ⟨rfl,hgt rfl,hx rfl⟩))
  ·rw [← hi rfl];exact hy
  ·cases s with
   | true=>exact blT_get h
   | false=>cases h
 | false=>exact h (db_fl (on:=false) (R:=⟨rdT S.sl (gsOf ops o),[]⟩) (v:=.tup []) (fun y hy=>by
   have hy:y ∈ idsT (rdT S.sl (gsOf ops o))++(V.tup []).ids:=hy
   rw [hgi] at hy;cases hy) (fun y hy=>by cases hy) hb hd (by simpa [dstOk] using hdn) (fun t u h=>by
    obtain ⟨h1,h2⟩:=rdT_get h
    exact ⟨gs_looks h1,h2⟩) (fun t b h=>by cases h) (.inr ⟨rfl,hg,rfl⟩))
theorem dw_callw {b:Bool} {c:Call} {cv:Operand} {f:FuncId} {as_:List A} {res:V} (n:Nat) (hop:o.op=.call c) (hcal:c.callee=.value cv) (hg:guardOf (viewD S (rdT S.sl (Oper.looksAt ops o)) true) ops o=some b)
  (hc:b=true→callAll (viewD S (rdT S.sl (Oper.looksAt ops o)) true) n cv c.args.toList=some (f,as_)) (hsp:Sp P f as_ res []) (hm:b=true→modeOk (viewD S (rdT S.sl (Oper.looksAt ops o)) true) n cv c.args.toList res []=true) (hd:dstOk X.n o.dst=true)
  (h:DW P X ops st0 K ⟨l,k + 1,S.put o.dst (mkW b res),F,⟨k,[],[]⟩ :: E,pairE k [] [] pr F⟩):DW P X ops st0 K ⟨o :: l,k,S,F,E,pr⟩:=fun hb=>by
 have hsl:∀ t u,get t (viewD S (rdT S.sl (Oper.looksAt ops o)) true).sl=some u→t ∈ Oper.looksAt ops o∧u ≠ .junk∧get t S.sl=some u:=fun t u h=>by
  rw [viewD_sl] at h;exact rdT_get h
 have hbl:=fun t b h=>viewD_bl (S:=S) (rd:=rdT S.sl (Oper.looksAt ops o)) (s:=true) (t:=t) (b:=b) h
 generalize viewD S (rdT S.sl (Oper.looksAt ops o)) true=R at *
 cases b with
 | true =>
  have hc:=hc rfl
  have hm:=hm rfl
  refine h (db_ef (D:=callD res []) hb hd hsl hbl (.inl ⟨hg,Step.p ?_⟩))
  unfold callAll at hc
  split at hc
  ·rename_i p hp
   split at hc
   ·rename_i qs hqs
    obtain ⟨g,caps⟩:=p
    simp only [Option.some.injEq,Prod.mk.injEq] at hc
    obtain ⟨rfl,rfl⟩:=hc
    refine call_step (n:=n) hop hcal hp hqs hsp ?_ rfl
    unfold modeOk at hm
    rw [hp] at hm
    simp only [Bool.or_eq_true,Bool.and_eq_true,List.isEmpty_iff,List.all_eq_true] at hm
    exact hm.imp (fun h=>⟨h.2,h.1⟩) fun h=>h
   ·cases hc
  ·cases hc
 | false=>exact h (db_ef (D:=.pure (.tup [])) hb hd hsl hbl (.inr ⟨hg,rfl⟩))
end
end Go.Proofs.YtjdgejfhnfnmgaaGreatDoor.Ax
