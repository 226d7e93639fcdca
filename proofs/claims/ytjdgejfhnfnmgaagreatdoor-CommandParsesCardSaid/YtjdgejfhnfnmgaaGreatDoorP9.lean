/-  -/
import Derived.Test.YtjdgejfhnfnmgaaGreatDoorP8
namespace Go.Proofs.YtjdgejfhnfnmgaaGreatDoor.Ax
open Go.RowKit
set_option linter.unnecessarySimpa false
structure Fo where
 i:Nat
 dst:Nat
 v:V
 rd:List (Nat × V × Option Nat)
 bl:List (Nat × B × Option Nat)
 on:Bool
 dn:List Nat
 /-- its blocks may as well stand so -/
 alt:List (List (Nat × B))
structure No where
 i:Nat
 dst:Option Tmp
 done:List Nat
 kd:List (Nat × Nat)
 st:St
 D:Delta
 dn:List Nat
def Fo.st (f:Fo):St:=⟨f.rd.map fun p=>(p.1,p.2.1),f.bl.map fun p=>(p.1,p.2.1)⟩
def foSl (p:Nat→Bool):List Fo→List (Nat × V)
 | []=>[]
 | f :: fs=>match p f.i with
  | true=>(f.dst,f.v) :: foSl p fs
  | false=>foSl p fs
def kdN (dn:List Nat):List (Nat × Nat)→List Nat
 | []=>[]
 | p :: l=>match dn.contains p.1 with
  | true=>kdN dn l
  | false=>p.2 :: kdN dn l
def mK (dn:List Nat) (v:V) (kd:List (Nat × Nat)):Bool:=v.ment (kdN dn kd)
def aliveF (kd:List (Nat × Nat)):List Fo→List Fo
 | []=>[]
 | f :: fs=>match mK f.dn f.v kd with
  | true=>aliveF kd fs
  | false=>f :: aliveF kd fs
def inL (l:List Nat) (i:Nat):Bool:=l.contains i
def klOf:Delta→List Nat
 | .pure _=>[]
 | .mod _ _ kl _=>kl
def klAt (i:Nat) (D:Delta):List (Nat × Nat):=atL (klOf D)
 where atL:List Nat→List (Nat × Nat)
 | []=>[]
 | x :: l=>(i,x) :: atL l
theorem klAt_mem {i:Nat} {D:Delta} {p:Nat × Nat}:p ∈ klAt i D ↔ p.1=i∧p.2 ∈ klOf D:=by
 unfold klAt
 generalize klOf D=l
 induction l with
 | nil=>simp [klAt.atL]
 | cons x l ih =>
  unfold klAt.atL
  rw [List.mem_cons,ih,List.mem_cons]
  constructor
  ·rintro (rfl | h)
   ·exact ⟨rfl,.inl rfl⟩
   ·exact ⟨h.1,.inr h.2⟩
  ·rintro ⟨h1,h2 | h2⟩
   ·exact .inl (by cases p;simp_all)
   ·exact .inr ⟨h1,h2⟩
theorem mem_kdN {dn:List Nat} {x:Nat}:∀ {kd:List (Nat × Nat)},x ∈ kdN dn kd ↔ ∃ j,(j,x) ∈ kd∧j ∉ dn
 | []=>by simp [kdN]
 | p :: l=>by
  unfold kdN
  cases hc:dn.contains p.1 with
  | true =>
   simp only [mem_kdN,List.mem_cons]
   constructor
   ·rintro ⟨j,h1,h2⟩;exact ⟨j,.inr h1,h2⟩
   ·rintro ⟨j,h1 | h1,h2⟩
    ·exfalso;subst h1;simp at hc;exact h2 hc
    ·exact ⟨j,h1,h2⟩
  | false =>
   simp only [mem_kdN,List.mem_cons]
   constructor
   ·rintro (rfl | ⟨j,h1,h2⟩)
    ·exact ⟨p.1,.inl rfl,by simpa using hc⟩
    ·exact ⟨j,.inr h1,h2⟩
   ·rintro ⟨j,h1 | h1,h2⟩
    ·exact .inl (by rw [← h1])
    ·exact .inr ⟨j,h1,h2⟩
theorem mK_app {dn:List Nat} {v:V} {i:Nat} {D:Delta} {kd:List (Nat × Nat)} (h:mK dn v (klAt i D++kd)=false):mK dn v kd=false∧(i ∉ dn→v.ment (klOf D)=false):=by
 unfold mK at h ⊢
 refine ⟨V.ment_sub (fun x hx=>?_) h,fun hi=>V.ment_sub (fun x hx=>?_) h⟩
 ·obtain ⟨j,h1,h2⟩:=mem_kdN.1 hx
  exact mem_kdN.2 ⟨j,List.mem_append_right _ h1,h2⟩
 ·exact mem_kdN.2 ⟨i,List.mem_append_left _ (klAt_mem.2 ⟨rfl,hx⟩),hi⟩
def dstNe:Option Tmp→Nat→Bool
 | none,_=>true
 | some d,t=>!decide (d=t)
def NDst (dst:Option Tmp) (F:List Fo):Bool:=F.all fun f=>dstNe dst f.dst
section
variable {P:Program} {X:Cx} {ops:Array Oper} {F:List Fo} {H:List No} {st:St}
theorem get_foSl {p:Nat→Bool} {t:Nat} {u:V}:∀ {F:List Fo},get t (foSl p F)=some u→∃ f ∈ F,p f.i=true∧f.dst=t∧f.v=u
 | [],h=>by cases h
 | f :: fs,h=>by
  unfold foSl at h
  split at h
  ·rename_i hp
   unfold get at h
   split at h
   ·rename_i ht
    injection h with h
    exact ⟨f,List.mem_cons_self,hp,ht.symm,h⟩
   ·obtain ⟨g,h1,h2⟩:=get_foSl h
    exact ⟨g,List.mem_cons_of_mem _ h1,h2⟩
  ·obtain ⟨g,h1,h2⟩:=get_foSl h
   exact ⟨g,List.mem_cons_of_mem _ h1,h2⟩
theorem foSl_get {p:Nat→Bool} {f:Fo}:∀ {F:List Fo},(∀ f ∈ F,∀ g ∈ F,f.dst=g.dst→f=g)→f ∈ F→p f.i=true→get f.dst (foSl p F)=some f.v
 | [],_,h,_=>by cases h
 | g :: fs,hd,h,hp=>by
  unfold foSl
  by_cases he:f.dst=g.dst
  ·have:=hd f h g List.mem_cons_self he
   subst this
   rw [hp]
   simp only [get,if_true]
  ·have hf:f ∈ fs:=by
    rcases List.mem_cons.1 h with h | h
    ·exact absurd (by rw [h]) he
    ·exact h
   have ih:=foSl_get (p:=p) (fun a ha b hb=>hd a (List.mem_cons_of_mem _ ha) b (List.mem_cons_of_mem _ hb)) hf hp
   split
   ·unfold get;rw [if_neg he];exact ih
   ·exact ih
theorem foSl_none {p:Nat→Bool} {t:Nat} {F:List Fo} (h:∀ f ∈ F,f.dst ≠ t):get t (foSl p F)=none:=by
 cases hg:get t (foSl p F) with
 | none=>rfl
 | some u =>
  obtain ⟨f,h1,_,h3,_⟩:=get_foSl hg
  exact absurd h3 (h f h1)
theorem foSl_append {p:Nat→Bool}:∀ {F G:List Fo},(∀ g ∈ G,p g.i=false)→foSl p (F++G)=foSl p F
 | [],[],_=>rfl
 | [],g :: G,h=>by
  rw [List.nil_append]
  unfold foSl
  rw [h g List.mem_cons_self]
  exact foSl_append (F:=[]) (G:=G) fun x hx=>h x (List.mem_cons_of_mem _ hx)
 | f :: F,G,h=>by
  rw [List.cons_append]
  unfold foSl
  rw [foSl_append h]
theorem foSl_congr {p q:Nat→Bool}:∀ {F:List Fo},(∀ f ∈ F,p f.i=q f.i)→foSl p F=foSl q F
 | [],_=>rfl
 | f :: F,h=>by
  unfold foSl
  rw [h f List.mem_cons_self,foSl_congr fun g hg=>h g (List.mem_cons_of_mem _ hg)]
theorem get_map_of {α:Type} {f:α→α} {t:Nat} {u:α}:∀ {l:List (Nat × α)},get t l=some u→get t (l.map fun p=>(p.1,f p.2))=some (f u)
 | [],h=>by cases h
 | p :: l,h=>by
  simp only [get] at h
  rw [List.map_cons]
  simp only [get]
  split at h
  ·rename_i hk;injection h with h;rw [if_pos hk,h]
  ·rename_i hk;rw [if_neg hk];exact get_map_of h
theorem get_filter_of {α:Type} {q:Nat→Bool} {t:Nat} {u:α} (ht:q t=true):∀ {l:List (Nat × α)},get t l=some u→get t (l.filter fun p=>q p.1)=some u
 | [],h=>by cases h
 | p :: l,h=>by
  simp only [get] at h
  rw [List.filter_cons]
  split at h
  ·rename_i hk
   subst hk
   rw [if_pos ht]
   simp only [get,if_true]
   exact h
  ·rename_i hk
   split
   ·simp only [get]
    rw [if_neg hk]
    exact get_filter_of ht h
   ·exact get_filter_of ht h
theorem turn_le {s big:St} (h:s.le big) {ch kl:List Nat} {nb:List (Nat × B)}:(s.turn ch kl nb).le (big.turn ch kl nb):=by
 constructor
 ·intro t v hv
  obtain ⟨u,hu,rfl⟩:=get_map hv
  exact get_map_of (h.sl t u hu)
 ·intro t b hb
  rcases get_append hb with hb' | hb'
  ·exact get_append_some hb'
  ·by_cases hn:get t nb=none
   ·obtain ⟨u,hu,rfl⟩:=get_map hb'
    obtain ⟨h1,h2⟩:=get_filter (p:=fun i=>!(ch.contains i || kl.contains i)) hu
    unfold St.turn
    rw [get_append_none hn]
    exact get_map_of (get_filter_of (q:=fun i=>!(ch.contains i || kl.contains i)) h2 (h.bl t u h1))
   ·obtain ⟨b',hb''⟩:=Option.ne_none_iff_exists'.1 hn
    have h1:get t (s.turn ch kl nb).bl=some b':=get_append_some hb''
    rw [h1] at hb
    injection hb with hb
    subst hb
    exact get_append_some hb''
theorem put_le {s big:St} (h:s.le big) {dst:Option Tmp} {v:V}:(s.put dst v).le (big.put dst v):=by
 cases dst with
 | none=>exact h
 | some d =>
  refine ⟨fun t u hu=>?_,h.bl⟩
  simp only [St.put,get] at hu ⊢
  split at hu
  ·rename_i ht;rw [if_pos ht];exact hu
  ·rename_i ht;rw [if_neg ht];exact h.sl t u hu
theorem app_le {s big:St} (h:s.le big) {D:Delta} {dst:Option Tmp}:(s.app D dst).le (big.app D dst):=by
 cases D with
 | pure v=>exact put_le h
 | mod v ch kl nb =>
  unfold St.app
  cases ch <;> cases kl <;> cases nb <;> first
   | exact put_le h
   | exact put_le (turn_le h)
theorem app_keep {s:St} {D:Delta} {dst:Option Tmp} {t:Nat} {u:V} (hd:dst ≠ some t) (hm:u.ment (klOf D)=false) (h:get t s.sl=some u):get t (s.app D dst).sl=some u:=by
 have hput:∀ {s':St} {v:V},get t s'.sl=some u→get t (s'.put dst v).sl=some u:=fun {s' v} h=>by
  cases dst with
  | none=>exact h
  | some d =>
   show (if t=d then some v else get t s'.sl)=some u
   rw [if_neg (fun e=>hd (by rw [e]))]
   exact h
 cases D with
 | pure v=>exact hput h
 | mod v ch kl nb =>
  have hturn:get t (s.turn ch kl nb).sl=some u:=by
   have:=get_map_of (f:=V.kill kl) h
   rwa [V.kill_same (ids:=kl) hm] at this
  unfold St.app
  split
  ·rename_i v' he;cases he
  ·exact hput h
  ·rename_i v' ch' kl' nb' _ he
   cases he
   exact hput hturn
theorem app_some {s:St} {D:Delta} {dst:Option Tmp} {t:Nat} {u:V} (hd:dst ≠ some t) (h:get t (s.app D dst).sl=some u):∃ u0,get t s.sl=some u0:=by
 have hput:∀ {s':St} {v':V},get t (s'.put dst v').sl=some u→get t s'.sl=some u:=fun {s' v'} h=>by
  cases dst with
  | none=>exact h
  | some d =>
   have h:(if t=d then some v' else get t s'.sl)=some u:=h
   rwa [if_neg (fun e=>hd (by rw [e]))] at h
 cases D with
 | pure v=>exact ⟨u,hput h⟩
 | mod v' ch kl nb =>
  unfold St.app at h
  split at h
  ·rename_i he;cases he
  ·exact ⟨u,hput h⟩
  ·obtain ⟨u0,h1,_⟩:=get_map (hput h)
   exact ⟨u0,h1⟩
theorem app_keep_inv {s:St} {D:Delta} {dst:Option Tmp} {t:Nat} {v u:V} (hd:dst ≠ some t) (hm:v.ment (klOf D)=false) (hs:∀ u,get t s.sl=some u→v=u) (h:get t (s.app D dst).sl=some u):v=u:=by
 have hput:∀ {s':St} {v':V},get t (s'.put dst v').sl=some u→get t s'.sl=some u:=fun {s' v'} h=>by
  cases dst with
  | none=>exact h
  | some d =>
   have h:(if t=d then some v' else get t s'.sl)=some u:=h
   rwa [if_neg (fun e=>hd (by rw [e]))] at h
 cases D with
 | pure v=>exact hs u (hput h)
 | mod v' ch kl nb =>
  unfold St.app at h
  split at h
  ·rename_i he;cases he
  ·exact hs u (hput h)
  ·rename_i v2 ch' kl' nb' _ he
   cases he
   obtain ⟨u0,h1,rfl⟩:=get_map (hput h)
   rw [← hs u0 h1,V.kill_same (ids:=kl) hm]
theorem mem_alive {kd:List (Nat × Nat)} {f:Fo}:∀ {F:List Fo},f ∈ aliveF kd F ↔ f ∈ F∧mK f.dn f.v kd=false
 | []=>by simp [aliveF]
 | g :: fs=>by
  unfold aliveF
  split
  ·rename_i h
   rw [mem_alive,List.mem_cons]
   constructor
   ·exact fun h1=>⟨.inr h1.1,h1.2⟩
   ·rintro ⟨rfl | h1,h2⟩
    ·rw [h] at h2;cases h2
    ·exact ⟨h1,h2⟩
  ·rename_i h
   rw [List.mem_cons,List.mem_cons,mem_alive]
   constructor
   ·rintro (rfl | h1)
    ·exact ⟨.inl rfl,h⟩
    ·exact ⟨.inr h1.1,h1.2⟩
   ·rintro ⟨rfl | h1,h2⟩
    ·exact .inl rfl
    ·exact .inr ⟨h1,h2⟩
end
end Go.Proofs.YtjdgejfhnfnmgaaGreatDoor.Ax
namespace Go.Proofs.YtjdgejfhnfnmgaaGreatDoor.Ax
open Go.RowKit
set_option linter.unnecessarySimpa false
mutual
def C.ids:C→List Nat
 | .own i _ | .optr i _ | .eptr i _ _ _ | .omap i | .ocut i _ _ _=>[i]
 | .fn _ caps=>C.idss caps
 | _=>[]
def C.idss:List C→List Nat
 | []=>[]
 | c :: cs=>c.ids++C.idss cs
end
mutual
def V.ids:V→List Nat
 | .one c=>c.ids
 | .agg cs=>C.idss cs
 | .tup vs=>V.idss vs
 | .junk=>[]
def V.idss:List V→List Nat
 | []=>[]
 | v :: vs=>v.ids++V.idss vs
end
def edgesOf (o:Oper):List Nat:=o.after.toList.filterMap fun e=>if Region.binds .any e=true then some e.on else none
theorem anyText:(Region.Mode.any==Region.Mode.text)=false:=rfl
theorem anyGc:(Region.Mode.any==Region.Mode.gc)=false:=rfl
section
variable {P:Program} {X:Cx} {ops:Array Oper} {F:List Fo} {H:List No} {st st0:St} {done:List Nat} {kd:List (Nat × Nat)} {K:St→Prop}
theorem edgesOf_edge {o:Oper} {k:Nat} (h:k ∈ edgesOf o):edge o k=true:=by
 unfold edgesOf at h
 obtain ⟨e,h1,h2⟩:=List.mem_filterMap.1 h
 split at h2
 ·rename_i hb
  injection h2 with h2
  unfold edge
  rw [List.any_eq_true]
  exact ⟨e,h1,by rw [hb,h2];simp⟩
 ·cases h2
theorem aliveF_append {kd:List (Nat × Nat)}:∀ {F G:List Fo},aliveF kd (F++G)=aliveF kd F++aliveF kd G
 | [],_=>rfl
 | f :: F,G=>by
  cases h:mK f.dn f.v kd
  ·simp only [List.cons_append,aliveF,h,aliveF_append]
  ·simp only [List.cons_append,aliveF,h,aliveF_append]
variable {l:List Oper} {o:Oper} {k:Nat}
theorem drop_op (hl:ops.toList.drop k=o :: l):ops[k]?=some o∧ops.toList.drop (k + 1)=l:=by
 have:(ops.toList.drop k)[0]?=some o:=by rw [hl];rfl
 refine ⟨by simpa using this,?_⟩
 have:=congrArg (List.drop 1) hl
 rw [List.drop_drop] at this
 simpa using this
end
def dropS (st:St) (ds:List Nat):St:=⟨st.sl.filter fun p=>!ds.contains p.1,st.bl⟩
theorem mem_dstsOf {d:Nat}:∀ {l:List Oper} {i:Nat} {o:Oper},l[i]?=some o→o.dst=some d→d ∈ dstsOf l
 | [],_,_,h,_=>by simp at h
 | x :: l,0,o,h,hd=>by
  simp at h
  subst h
  unfold dstsOf
  rw [hd]
  exact List.mem_cons_self
 | x :: l,i + 1,o,h,hd=>by
  have:=mem_dstsOf (l:=l) (i:=i) (o:=o) (by simpa using h) hd
  unfold dstsOf
  split
  ·exact List.mem_cons_of_mem _ this
  ·exact this
end Go.Proofs.YtjdgejfhnfnmgaaGreatDoor.Ax
namespace Go.Proofs.YtjdgejfhnfnmgaaGreatDoor.Ax
open Go.RowKit
set_option linter.unnecessarySimpa false
def FD (bf:Nat→List Nat) (F:List Fo) (N done:List Nat) (kd:List (Nat × Nat)) (st:St) (f:Fo):Prop :=
 (∃ j ∈ done,f.i ∈ bf j) ∨ (∃ k ∈ N,k ∉ done∧k ∈ bf f.i) ∨
 ((∀ t u,get t f.st.sl=some u→(∃ g ∈ F,g.dst=t∧g.v=u∧g.i ∈ bf f.i∧mK g.dn g.v kd=false) ∨ ((∀ g ∈ F,g.dst ≠ t)∧get t st.sl=some u))∧∃ bl ∈ f.st.bl :: f.alt,∀ t b,get t bl=some b→get t st.bl=some b)
def StepG (P:Program) (X:Cx) (ops:Array Oper) (R:St) (o:Oper) (D:Delta):Prop:=(guardOf R ops o=some true∧StepP P X R o D) ∨ (guardOf R ops o=some false∧D=.pure (.tup []))
def ND (P:Program) (X:Cx) (ops:Array Oper) (bf:Nat→List Nat) (F:List Fo) (N:List Nat) (K:St→Prop):List Nat→List (Nat × Nat)→List Nat→St→Prop
 | done,kd,[],st=>(∀ f ∈ F,FD bf F N done kd st f)∧K (addF (foSl (fun _=>true) (aliveF kd F)) st)
 | done,kd,i :: l,st=>(∀ f ∈ F,FD bf F N done kd st f)∧∃ o D R,ops[i]?=some o∧dstOk X.n o.dst=true∧R.le (addF (foSl (inL (bf i)) (aliveF kd F)) st)∧StepG P X ops R o D∧NDst o.dst F=true∧ND P X ops bf F N K (i :: done) (klAt i D++kd) l ((addF (foSl (inL (bf i)) (aliveF kd F)) st).app D o.dst)
def FoD (P:Program) (X:Cx) (ops:Array Oper) (f:Fo):Prop :=
 ∃ o,ops[f.i]?=some o∧o.dst=some f.dst∧f.dst < X.n∧∀ bl ∈ f.st.bl :: f.alt,((f.on=true∧guardOf ⟨f.st.sl,bl⟩ ops o=some true∧∃ D,(D=.pure f.v ∨ D=.mod f.v [] [] [])∧Step P X ⟨f.st.sl,bl⟩ o D) ∨ (f.on=false∧guardOf ⟨f.st.sl,bl⟩ ops o=some false∧f.v=.tup []))
structure DOk (ops:Array Oper) (bf:Nat→List Nat) (F:List Fo) (N:List Nat):Prop where
 all:∀ i,i < ops.size→i ∈ N ∨ ∃ f ∈ F,f.i=i
 lt:∀ f ∈ F,f.i < ops.size
 idx:∀ f ∈ F,∀ g ∈ F,f.i=g.i→f=g
 dst:∀ f ∈ F,∀ g ∈ F,f.dst=g.dst→f=g
 apart:∀ f ∈ F,f.i ∉ N
 nod:N.Nodup
 chain:N.Pairwise fun a b=>a ∈ bf b
 own:∀ f ∈ F,f.dn=bf f.i
 dn:∀ i j,j ∈ bf i→∃ o,ops[i]?=some o∧(edge o j=true ∨ ∃ k,edge o k=true∧j ∈ bf k)
section
variable {P:Program} {X:Cx} {ops:Array Oper} {bf:Nat→List Nat} {F:List Fo} {st:St}
theorem le_trans {a b c:St} (h1:a.le b) (h2:b.le c):a.le c:=⟨fun t u h=>h2.sl t u (h1.sl t u h),fun t u h=>h2.bl t u (h1.bl t u h)⟩
theorem dr_any {Q:Exit→Act→World→Prop} {N:List Nat} {K:St→Prop} (hbk:backOk ops.toList=true) (hF:∀ f ∈ F,FoD P X ops f) (hok:DOk ops bf F N) (hend:∀ s ρ a w,K s→Hold X s ρ a w→Q .normal a w) (hpan:∀ ch s ρ a w,X.pan ch→Hold X s ρ a w→Q (.panic ch) a w) :
  ∀ (fuel:Nat) (done:List Nat) (kd:List (Nat × Nat)) (todo:List Nat) (st:St) (listed:Array Bool) (ρ:Nat→R) (a:Act) (w:World),listed.size=ops.size→(List.range ops.size).countP (fun i=>!listed.getD i true)≤fuel→N=done.reverse++todo→(∀ i ∈ N,i < ops.size→(listed.getD i true=true ↔ i ∈ done)) →
   (∀ i j,i < ops.size→listed.getD i true=true→j ∈ bf i→listed.getD j false=true)→ND P X ops bf F N K done kd todo st→(∀ f ∈ F,∀ u,get f.dst st.sl=some u→(mK f.dn f.v kd=false→f.v=u)∧listed.getD f.i true=true)→Hold X (addF (foSl (fun i=>listed.getD i true) (aliveF kd F)) st) ρ a w→wpAny P .any ops Q fuel listed a w:=by
 have hdstA:∀ kd,∀ f ∈ aliveF kd F,∀ g ∈ aliveF kd F,f.dst=g.dst→f=g:=fun kd f hf g hg=>hok.dst f (mem_alive.1 hf).1 g (mem_alive.1 hg).1
 have fin:∀ (done:List Nat) (kd:List (Nat × Nat)) (todo:List Nat) (st:St) (listed:Array Bool) (ρ:Nat→R) (a:Act) (w:World),N=done.reverse++todo→(∀ i,i < ops.size→listed.getD i true=true)→(∀ i ∈ N,i < ops.size→(listed.getD i true=true ↔ i ∈ done))→ND P X ops bf F N K done kd todo st→Hold X (addF (foSl (fun i=>listed.getD i true) (aliveF kd F)) st) ρ a w→Q .normal a w:=by
  intro done kd todo st listed ρ a w hN hall hND hno hH
  have htodo:todo=[]:=by
   cases todo with
   | nil=>rfl
   | cons i l =>
    unfold ND at hno
    obtain ⟨_,o,D,R,ho,_⟩:=hno
    have hi:i < ops.size:=by
     rcases Nat.lt_or_ge i ops.size with h | h
     ·exact h
     ·rw [Array.getElem?_eq_none h] at ho;cases ho
    have hm:i ∈ N:=by rw [hN];simp
    have hd:=(hND i hm hi).1 (hall i hi)
    have hnd:=hok.nod
    rw [hN] at hnd
    exact absurd rfl ((List.nodup_append.1 hnd).2.2 i (List.mem_reverse.2 hd) i List.mem_cons_self)
  subst htodo
  unfold ND at hno
  have:foSl (fun i=>listed.getD i true) (aliveF kd F)=foSl (fun _=>true) (aliveF kd F):=foSl_congr fun f hf=>hall f.i (hok.lt f (mem_alive.1 hf).1)
  rw [this] at hH
  exact hend _ ρ a w hno.2 hH
 intro fuel
 induction fuel with
 | zero =>
  intro done kd todo st listed ρ a w hs hc hN hND hcl hno hd hH
  have hall:∀ i,i < ops.size→listed.getD i true=true:=fun i hi=>by
   have:=List.countP_eq_zero.1 (Nat.le_zero.1 hc) i (List.mem_range.2 hi)
   simpa using this
  have hr:Region.ready .any ops listed=[]:=by
   rw [List.eq_nil_iff_forall_not_mem]
   intro i hi
   obtain ⟨h1,h2⟩:=ready_in hi
   rw [hall i h1] at h2;cases h2
  exact ⟨hr,fin done kd todo st listed ρ a w hN hall hND hno hH⟩
 | succ fuel ih =>
  intro done kd todo st listed ρ a w hs hc hN hND hcl hno hd hH
  have hget:∀ i,i < ops.size→listed.getD i true=listed.getD i false:=fun i hi=>by
   rw [Array.getD_eq_getD_getElem?,Array.getD_eq_getD_getElem?,Array.getElem?_eq_getElem (by rw [hs];exact hi)]
   rfl
  have hset:∀ i j,i < ops.size→(listed.setIfInBounds i true).getD j true=if i=j then true else listed.getD j true:=fun i j hi=>by
   rw [Array.getD_eq_getD_getElem?,Array.getElem?_setIfInBounds]
   by_cases h:i=j
   ·subst h
    rw [if_pos rfl,if_pos (by rw [hs];exact hi),if_pos rfl];rfl
   ·rw [if_neg h,if_neg h,← Array.getD_eq_getD_getElem?]
  have hsetf:∀ i j,i < ops.size→listed.getD j false=true→(listed.setIfInBounds i true).getD j false=true:=fun i j hi hj=>by
   rw [Array.getD_eq_getD_getElem?,Array.getElem?_setIfInBounds]
   by_cases h:i=j
   ·subst h
    rw [if_pos rfl,if_pos (by rw [hs];exact hi)];rfl
   ·rw [if_neg h,← Array.getD_eq_getD_getElem?];exact hj
  have hcnt:∀ i,i < ops.size→listed.getD i true=false→(List.range ops.size).countP (fun j=>!(listed.setIfInBounds i true).getD j true)≤fuel:=fun i hi hun=>by
   have:=countP_lt (p:=fun j=>!listed.getD j true) (q:=fun j=>!(listed.setIfInBounds i true).getD j true) (l:=List.range ops.size) (i:=i) (fun j hj=>by
    rw [hset i j hi] at hj
    split at hj
    ·cases hj
    ·exact hj) (List.mem_range.2 hi) (by rw [hun];rfl) (by rw [hset i i hi,if_pos rfl];rfl)
   omega
  refine ⟨fun he=>?_,fun i hi=>?_⟩
  ·refine fin done kd todo st listed ρ a w hN (fun i hi=>?_) hND hno hH
   cases hv:listed.getD i true with
   | true=>rfl
   | false=>exact absurd he (ready_some hbk hi hv)
  ·obtain ⟨hin,hiu⟩:=ready_in hi
   have hop:ops[i]?=some ops[i]:=Array.getElem?_eq_getElem hin
   have hsize:∀ k,listed.getD k false=true→k < ops.size:=fun k hk=>by
    rcases Nat.lt_or_ge k ops.size with h | h
    ·exact h
    ·rw [Array.getD_eq_getD_getElem?,Array.getElem?_eq_none (by rw [hs];exact h)] at hk
     simp at hk
   have hready:∀ j,j ∈ bf i→listed.getD j false=true:=fun j hj=>by
    obtain ⟨o,ho,h1 | ⟨k,h1,h2⟩⟩:=hok.dn i j hj
    ·exact ready_edge hi ho h1
    ·have h3:=ready_edge hi ho h1
     have hk:=hsize k h3
     exact hcl k j hk (by rw [hget k hk];exact h3) h2
   have hcl':∀ k j,k < ops.size→(listed.setIfInBounds i true).getD k true=true→j ∈ bf k→(listed.setIfInBounds i true).getD j false=true:=fun k j hk hl hj=>by
    rw [hset i k hin] at hl
    split at hl
    ·rename_i he
     subst he
     exact hsetf _ j hin (hready j hj)
    ·exact hsetf _ j hin (hcl k j hk hl hj)
   rcases hok.all i hin with hiN | ⟨f,hf,rfl⟩
   ·-- one that turns memory: it is the next one
    have hid:i ∉ done:=fun h=>by
     have:=(hND i hiN hin).2 h
     rw [hiu] at this;cases this
    cases todo with
    | nil =>
     rw [hN,List.append_nil,List.mem_reverse] at hiN
     exact absurd hiN hid
    | cons n l =>
     have hnd:=hok.nod
     have hit:i ∈ n :: l:=by
      rw [hN] at hiN
      rcases List.mem_append.1 hiN with h | h
      ·exact absurd (List.mem_reverse.1 h) hid
      ·exact h
     have hin':i=n:=by
      rcases List.mem_cons.1 hit with h | h
      ·exact h
      ·exfalso
       have hpw:=hok.chain
       rw [hN] at hpw
       have h1:=(List.pairwise_cons.1 (List.pairwise_append.1 hpw).2.1).1 i h
       have h2:=hready n h1
       have hnN:n ∈ N:=by rw [hN];simp
       have hns:=hsize n h2
       have h3:=(hND n hnN hns).1 (by rw [hget n hns];exact h2)
       rw [hN] at hnd
       exact (List.nodup_append.1 hnd).2.2 n (List.mem_reverse.2 h3) n List.mem_cons_self rfl
     subst hin'
     unfold ND at hno
     obtain ⟨_,o,D,R,ho,hdl,hRle,hsg,hnds,hrest⟩:=hno
     have hnf:∀ f ∈ F,o.dst ≠ some f.dst:=fun f hf e=>by
      have h1:=List.all_eq_true.1 hnds f hf
      rw [e] at h1
      simp [dstNe] at h1
     have hsub:∀ t u,get t (foSl (inL (bf i)) (aliveF kd F))=some u→get t (foSl (fun i=>listed.getD i true) (aliveF kd F))=some u:=fun t u h=>by
      obtain ⟨g,hg',hgp,hgd,hgv⟩:=get_foSl h
      subst hgd
      subst hgv
      refine foSl_get (hdstA kd) hg' ?_
      rw [hget _ (hok.lt g (mem_alive.1 hg').1)]
      exact hready g.i (by simpa [inL] using hgp)
     have hcomp:∀ t u u',get t (foSl (fun i=>listed.getD i true) (aliveF kd F))=some u→get t st.sl=some u'→u=u':=fun t u u' h h'=>by
      obtain ⟨g,hg',hgp,hgd,hgv⟩:=get_foSl h
      subst hgd
      subst hgv
      exact (hd g (mem_alive.1 hg').1 u' h').1 (mem_alive.1 hg').2
     have hfree:∀ f ∈ F,listed.getD f.i true=true→i ∉ f.dn:=fun f hf hl hi=>by
      have h1:=hcl f.i i (hok.lt f hf) hl (by rw [← hok.own f hf];exact hi)
      rw [← hget _ hin,hiu] at h1;cases h1
     have hle:=addF_le hsub hcomp
     have hR:=hH.le (le_trans hRle hle)
     suffices hgo:∀ x ρ' w',Out X ρ w ρ' w' x D→wpAny P .any ops Q fuel (listed.setIfInBounds i true) (a.put o.dst x) w' by
      unfold wpOp
      rw [ho]
      simp only
      rcases hsg with ⟨hg,hst⟩ | ⟨hg,rfl⟩
      ·rw [guard_sound hR hg,if_pos rfl]
       exact .inl (hst hdl ρ a w hR _ _ (fun x ρ' w' hout=>hgo x ρ' w' hout) hpan)
      ·rw [guard_sound hR hg,if_neg (by simp)]
       exact hgo undef ρ w ⟨rfl,rfl,by unfold RdV;exact ⟨#[],rfl,by unfold RdVs;trivial⟩⟩
     intro x ρ' w' hout
     have hnext:=hH.app (dst:=o.dst) hout (dst_lt hdl)
     refine ih (i :: done) (klAt i D++kd) l _ _ ρ' _ w' (by simpa using hs) (hcnt i hin hiu) (by rw [hN];simp) (fun j hj hjs=>?_) hcl' hrest (fun f hf u h=>?_) ?_
     ·rw [hset i j hin]
      by_cases he:i=j
      ·subst he;simp
      ·rw [if_neg he,hND j hj hjs,List.mem_cons]
       constructor
       ·exact fun h=>.inr h
       ·rintro (h | h)
        ·exact absurd h.symm he
        ·exact h
     ·have h0:∀ u,get f.dst (addF (foSl (inL (bf i)) (aliveF kd F)) st).sl=some u→(mK f.dn f.v kd=false→f.v=u)∧listed.getD f.i true=true:=fun u h=>by
       rcases get_append h with h | h
       ·obtain ⟨g,hg',hgp,hgd,hgv⟩:=get_foSl h
        have hgF:=(mem_alive.1 hg').1
        have hgf:=hok.dst g hgF f hf hgd
        subst hgf
        refine ⟨fun _=>hgv,?_⟩
        rw [hget _ (hok.lt g hgF)]
        exact hready g.i (by simpa [inL] using hgp)
       ·exact hd f hf u h
      obtain ⟨u0,hu0⟩:∃ u0,get f.dst (addF (foSl (inL (bf i)) (aliveF kd F)) st).sl=some u0:=app_some (hnf f hf) h
      have hl:=(h0 u0 hu0).2
      refine ⟨fun hm=>app_keep_inv (hnf f hf) ((mK_app hm).2 (hfree f hf hl)) (fun u h=>(h0 u h).1 (mK_app hm).1) h,?_⟩
      rw [hset i f.i hin]
      split
      ·rfl
      ·exact hl
     ·refine hnext.le ⟨fun t u h=>?_,fun t u h=>?_⟩
      ·rcases get_append h with h | h
       ·obtain ⟨g,hg',hgp,hgd,hgv⟩:=get_foSl h
        subst hgd
        subst hgv
        obtain ⟨hgF,hgm⟩:=mem_alive.1 hg'
        have hgi:g.i ≠ i:=fun e=>hok.apart g hgF (e ▸ hiN)
        rw [hset i g.i hin,if_neg (fun e=>hgi e.symm)] at hgp
        have hga:g ∈ aliveF kd F:=mem_alive.2 ⟨hgF,(mK_app hgm).1⟩
        exact app_keep (hnf g hgF) ((mK_app hgm).2 (hfree g hgF hgp)) (get_append_some (foSl_get (hdstA kd) hga hgp))
       ·exact (app_le hle).sl t u h
      ·exact (app_le hle).bl t u h
   ·-- one that only reads
    obtain ⟨o,ho,hdst,hdn,hstep⟩:=hF f hf
    have hfh:FD bf F N done kd st f:=by
     cases todo <;> (unfold ND at hno;exact hno.1 f hf)
    have hiN:f.i ∉ N:=hok.apart f hf
    obtain ⟨bl,hbl,hR⟩:∃ bl ∈ f.st.bl :: f.alt,Hold X ⟨f.st.sl,bl⟩ ρ a w:=by
     rcases hfh with ⟨j,hj,hjf⟩ | ⟨k,hk,hkd,hkf⟩ | ⟨h1,bl,hbl,h2⟩
     ·exfalso
      have hjN:j ∈ N:=by rw [hN];simp [hj]
      have hjs:j < ops.size:=by
       obtain ⟨o',ho',_⟩:=hok.dn j f.i hjf
       rcases Nat.lt_or_ge j ops.size with h | h
       ·exact h
       ·rw [Array.getElem?_eq_none h] at ho';cases ho'
      have:=hcl j f.i hjs ((hND j hjN hjs).2 hj) hjf
      rw [← hget _ hin,hiu] at this;cases this
     ·exfalso
      have h4:=hready k hkf
      have hks:=hsize k h4
      exact hkd ((hND k hk hks).1 (by rw [hget k hks];exact h4))
     ·refine ⟨bl,hbl,hH.le ⟨fun t u h=>?_,h2⟩⟩
      rcases h1 t u h with ⟨g,hg',q3,q4,q5,q6⟩ | ⟨q1,q2⟩
      ·subst q3
       subst q4
       have h4:=hready g.i q5
       exact get_append_some (foSl_get (hdstA kd) (mem_alive.2 ⟨hg',q6⟩) (by rw [hget _ (hok.lt g hg')];exact h4))
      ·exact (get_append_none (foSl_none fun g hg'=>q1 g (mem_alive.1 hg').1)).trans q2
    have hcommon:∀ x w,Hold X (addF (foSl (fun i=>listed.getD i true) (aliveF kd F)) st) ρ a w→RdV w (okOf X ρ w) ρ f.v x→wpAny P .any ops Q fuel (listed.setIfInBounds f.i true) (a.put o.dst x) w:=fun x w hH hx=>by
     refine ih done kd todo st _ ρ _ w (by simpa using hs) (hcnt _ hin hiu) hN (fun j hj hjs=>?_) hcl' hno (fun f' hf' u hu=>?_) ?_
     ·rw [hset _ _ hin,if_neg (fun e:f.i=j=>hiN (e ▸ hj))]
      exact hND j hj hjs
     ·refine ⟨(hd f' hf' u hu).1,?_⟩
      rw [hset _ _ hin]
      split
      ·rfl
      ·exact (hd f' hf' u hu).2
     ·have hnone:get f.dst st.sl=none:=by
       cases hg:get f.dst st.sl with
       | none=>rfl
       | some u=>have:=(hd f hf u hg).2;rw [hiu] at this;cases this
      rw [hdst]
      have hp:=hH.put (dst:=some f.dst) (v:=f.v) (x:=x) (by rintro d ⟨⟩;exact hdn) hx
      refine hp.le (addF_le (l2:=(f.dst,f.v) :: foSl (fun i=>listed.getD i true) (aliveF kd F)) (fun t' u h=>?_) fun t' u u' h h'=>?_)
      ·obtain ⟨g,hg,hgp,hgd,hgv⟩:=get_foSl h
       subst hgd
       subst hgv
       show (if g.dst=f.dst then some f.v else get g.dst (foSl (fun i=>listed.getD i true) (aliveF kd F)))=some g.v
       by_cases he:g.dst=f.dst
       ·rw [if_pos he,hok.dst g (mem_alive.1 hg).1 f hf he]
       ·rw [if_neg he]
        rw [hset _ _ hin] at hgp
        refine foSl_get (hdstA kd) hg ?_
        rw [if_neg fun e=>he (by rw [hok.idx f hf g (mem_alive.1 hg).1 e])] at hgp
        exact hgp
      ·have h0:(if t'=f.dst then some f.v else get t' (foSl (fun i=>listed.getD i true) (aliveF kd F)))=some u:=h
       by_cases he:t'=f.dst
       ·rw [he,hnone] at h';cases h'
       ·rw [if_neg he] at h0
        obtain ⟨g,hg,hgp,hgd,hgv⟩:=get_foSl h0
        subst hgd
        subst hgv
        exact (hd g (mem_alive.1 hg).1 u' h').1 (mem_alive.1 hg).2
    unfold wpOp
    rw [ho]
    simp only
    rcases hstep bl hbl with ⟨_,hg,D,hD,hst⟩ | ⟨_,hg,hv⟩
    ·rw [guard_sound hR hg,if_pos rfl]
     refine .inl (hst (by rw [hdst];exact decide_eq_true hdn) ρ a w hR _ _ fun x ρ' w' hout=>?_)
     rcases hD with rfl | rfl
     ·obtain ⟨rfl,rfl,hx⟩:=hout
      exact hcommon x _ hH hx
     ·obtain ⟨he,hx,_⟩:=hout
      have hr:ρ'=ρ:=funext fun id=>he.rho id (by simp)
      subst hr
      exact hcommon x _ (hH.evo he) hx
    ·rw [guard_sound hR hg,if_neg (by simp)]
     exact hcommon undef _ hH (by rw [hv];unfold RdV;exact ⟨#[],rfl,by unfold RdVs;trivial⟩)
end
end Go.Proofs.YtjdgejfhnfnmgaaGreatDoor.Ax
