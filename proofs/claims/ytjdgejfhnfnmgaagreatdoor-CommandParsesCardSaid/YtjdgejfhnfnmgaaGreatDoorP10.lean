/-  -/
import Derived.Test.YtjdgejfhnfnmgaaGreatDoorP9
namespace Go.Proofs.YtjdgejfhnfnmgaaGreatDoor.Ax
open Go.RowKit
set_option linter.unnecessarySimpa false
def mentT (kl:List Nat):List (Nat × V)→List Nat
 | []=>[]
 | p :: l=>match p.2.ment kl with
  | true=>p.1 :: mentT kl l
  | false=>mentT kl l
def dropT:List Nat→List (Nat × V)→List (Nat × V)
 | [],l=>l
 | t :: ts,l=>l.filter fun p=>!(t :: ts).contains p.1
def keepV:List Nat→List (Nat × V)→List (Nat × V)
 | [],l=>l
 | k :: kl,l=>dropT (mentT (k :: kl) l) l
def St.appD (st:St) (D:Delta) (dst:Option Tmp):St :=
 match D with
 | .pure v=>st.put dst v
 | .mod v ch kl nb=>(St.mk (keepV kl st.sl) (st.app (.mod v ch kl nb) none).bl).put dst v
structure Ef where
 i:Nat
 dst:Option Tmp
 D:Delta
 x:List Nat
 /-- reading operations ahead of it (in the text) that read the same behind it -/
 sw:List Nat
def modIds:Delta→List Nat
 | .pure _=>[]
 | .mod _ ch kl nb=>ch++(kl++nb.map (·.1))
def XOk (bl:List (Nat × B)) (D:Delta) (x:List Nat):Prop:=(∀ i ∈ modIds D,i ∈ x)∧∀ t b,get t bl=some b→t ∉ x→b.ment (klOf D)=false
def Apart (f:Fo) (e:Ef):Prop:=(∀ t u,get t f.st.sl=some u→u.ment (klOf e.D)=false)∧f.v.ment (klOf e.D)=false∧∀ bl ∈ f.st.bl :: f.alt,∀ t b,get t bl=some b→t ∉ e.x
def Swi (f:Fo) (e:Ef) (S:St):Prop:=(∀ t u,get t f.st.sl=some u→u.ment (klOf e.D)=false)∧f.v.ment (klOf e.D)=false∧∃ bl ∈ f.alt,∀ t b,get t bl=some b→get t S.bl=some b
inductive DRun (P:Program) (X:Cx) (ops:Array Oper) (bf:Nat→List Nat) (st0:St):List Fo→List Ef→List Nat→List (Nat × Nat)→St→St→Nat→Prop
 | nil:DRun P X ops bf st0 [] [] [] [] st0 st0 0
 | fl {F:List Fo} {E:List Ef} {done:List Nat} {kd:List (Nat × Nat)} {st S:St} {k:Nat} {f:Fo}:DRun P X ops bf st0 F E done kd st S k→f.i=k→f.dn=bf k→FoD P X ops f→(∀ o,ops[k]?=some o→∀ t u,get t f.st.sl=some u→t ∈ Oper.looksAt ops o∧u ≠ .junk∧get t S.sl=some u)→(∀ t b,get t f.st.bl=some b→get t S.bl=some b) →
   DRun P X ops bf st0 (F++[f]) E done kd st (S.put (some f.dst) f.v) (k + 1)
 | ef {F:List Fo} {E:List Ef} {done:List Nat} {kd:List (Nat × Nat)} {st S:St} {k:Nat} {e:Ef} {o:Oper} {R:St}:DRun P X ops bf st0 F E done kd st S k→e.i=k→ops[k]?=some o→e.dst=o.dst→dstOk X.n o.dst=true→(∀ t u,get t R.sl=some u→t ∈ Oper.looksAt ops o∧u ≠ .junk∧get t S.sl=some u)→(∀ t b,get t R.bl=some b→get t S.bl=some b)→StepG P X ops R o e.D→XOk S.bl e.D e.x→(∀ f ∈ F,f.i ∈ e.sw→Swi f e (S.appD e.D o.dst)) →
   DRun P X ops bf st0 F (E++[e]) (k :: done) (klAt k e.D++kd) ((addF (foSl (inL (bf k)) (aliveF kd F)) st).app e.D o.dst) (S.appD e.D o.dst) (k + 1)
structure DSt (ops:Array Oper) (bf:Nat→List Nat):Prop where
 dst:∀ (i j:Nat) (o o':Oper) (d:Nat),ops[i]?=some o→ops[j]?=some o'→o.dst=some d→o'.dst=some d→i=j
 data:∀ (i j:Nat) (o o':Oper) (d:Nat),ops[i]?=some o→ops[j]?=some o'→d ∈ Oper.looksAt ops o→o'.dst=some d→j ∈ bf i
 dn:∀ i j,j ∈ bf i→∃ o,ops[i]?=some o∧(edge o j=true ∨ ∃ k,edge o k=true∧j ∈ bf k)
 lt:∀ i j,j ∈ bf i→j < i
def PairsOk (bf:Nat→List Nat) (F:List Fo) (E:List Ef):Prop:=∀ f ∈ F,∀ e ∈ E,Apart f e ∨ (f.i < e.i∧f.i ∈ bf e.i) ∨ (e.i < f.i∧e.i ∈ bf f.i) ∨ (f.i < e.i∧f.i ∈ e.sw)
section
variable {P:Program} {X:Cx} {ops:Array Oper} {bf:Nat→List Nat} {F:List Fo} {E:List Ef} {st st0 S:St} {done:List Nat} {kd:List (Nat × Nat)} {k:Nat}
theorem mem_mentT {kl:List Nat} {t:Nat} {u:V} (hm:u.ment kl=true):∀ {l:List (Nat × V)},(t,u) ∈ l→t ∈ mentT kl l
 | [],h=>by cases h
 | p :: l,h=>by
  unfold mentT
  rcases List.mem_cons.1 h with h | h
  ·subst h
   simp only [hm,List.mem_cons,true_or]
  ·have ih:=mem_mentT hm h
   split
   ·exact List.mem_cons_of_mem _ ih
   ·exact ih
theorem get_dropT {ts:List Nat} {t:Nat} {u:V} {l:List (Nat × V)} (h:get t (dropT ts l)=some u):get t l=some u∧t ∉ ts:=by
 cases ts with
 | nil=>exact ⟨h,by simp⟩
 | cons x ts =>
  obtain ⟨h1,h2⟩:=get_filter (p:=fun t=>!(x :: ts).contains t) h
  exact ⟨h1,by simpa using h2⟩
theorem get_keepV {kl:List Nat} {t:Nat} {u:V} {l:List (Nat × V)} (h:get t (keepV kl l)=some u):get t l=some u∧u.ment kl=false:=by
 cases kl with
 | nil=>exact ⟨h,V.ment_nil u⟩
 | cons x ks =>
  obtain ⟨h1,h2⟩:=get_dropT h
  refine ⟨h1,?_⟩
  cases hm:u.ment (x :: ks) with
  | false=>rfl
  | true=>exact absurd (mem_mentT hm (get_mem h1)) h2
theorem put_bl {s:St} {dst:Option Tmp} {v:V}:(s.put dst v).bl=s.bl:=by cases dst <;> rfl
theorem put_get {s:St} {dst:Option Tmp} {v u:V} {t:Nat} (hd:dst ≠ some t):get t (s.put dst v).sl=some u ↔ get t s.sl=some u:=by
 cases dst with
 | none=>exact Iff.rfl
 | some d =>
  show (if t=d then some v else get t s.sl)=some u ↔ _
  rw [if_neg (fun e=>hd (by rw [e]))]
theorem put_same {s:St} {d:Nat} {v:V}:get d (s.put (some d) v).sl=some v:=by
 show (if d=d then some v else get d s.sl)=some v
 rw [if_pos rfl]
def valD:Delta→V
 | .pure v=>v
 | .mod v _ _ _=>v
theorem app_eq {s:St} {D:Delta} {dst:Option Tmp}:∃ s':St,s.app D dst=s'.put dst (valD D)∧s'.bl=(s.app D none).bl∧(∀ t u,get t s'.sl=some u→∃ u0,get t s.sl=some u0∧(u=u0 ∨ u=u0.kill (klOf D)))∧∀ t b,(get t s.bl=some b→t ∉ modIds D→b.ment (klOf D)=false→get t s'.bl=some b)∧(get t s'.bl=some b→t ∉ modIds D→∃ b0,get t s.bl=some b0∧(b=b0 ∨ b=b0.kill (klOf D))):=by
 have hself:(∀ t u,get t s.sl=some u→∃ u0,get t s.sl=some u0∧(u=u0 ∨ u=u0.kill (klOf D)))∧∀ t b,(get t s.bl=some b→t ∉ modIds D→b.ment (klOf D)=false→get t s.bl=some b)∧(get t s.bl=some b→t ∉ modIds D→∃ b0,get t s.bl=some b0∧(b=b0 ∨ b=b0.kill (klOf D))) :=
  ⟨fun t u h=>⟨u,h,.inl rfl⟩,fun t b=>⟨fun h _ _=>h,fun h _=>⟨b,h,.inl rfl⟩⟩⟩
 cases D with
 | pure v=>exact ⟨s,rfl,rfl,hself⟩
 | mod v ch kl nb =>
  unfold St.app
  split
  ·rename_i he;cases he
  ·rename_i he;cases he;exact ⟨s,rfl,rfl,hself⟩
  ·rename_i v2 ch2 kl2 nb2 _ he
   cases he
   refine ⟨s.turn ch kl nb,rfl,rfl,fun t u h=>?_,fun t b=>⟨fun h hn hm=>?_,fun h hn=>?_⟩⟩
   ·obtain ⟨u0,h1,h2⟩:=get_map h
    exact ⟨u0,h1,.inr h2⟩
   ·simp only [modIds,List.mem_append,not_or] at hn
    show get t (nb++_)=some b
    rw [get_append_none (by
     cases hg:get t nb with
     | none=>rfl
     | some b'=>exact absurd (List.mem_map.2 ⟨_,get_mem hg,rfl⟩) hn.2.2)]
    have h1:=get_filter_of (q:=fun i=>!(ch.contains i || kl.contains i)) (by simp [hn.1,hn.2.1]) h
    have h2:=get_map_of (f:=B.kill kl) h1
    rwa [B.kill_same (ids:=kl) hm] at h2
   ·simp only [modIds,List.mem_append,not_or] at hn
    rcases get_append h with h | h
    ·exact absurd (List.mem_map.2 ⟨_,get_mem h,rfl⟩) hn.2.2
    ·obtain ⟨b0,h1,h2⟩:=get_map h
     exact ⟨b0,(get_filter (p:=fun i=>!(ch.contains i || kl.contains i)) h1).1,.inr h2⟩
theorem app_bl2 {s s':St} (h:s.bl=s'.bl) (D:Delta) (dst dst':Option Tmp):(s.app D dst).bl=(s'.app D dst').bl:=by
 cases D with
 | pure v=>unfold St.app;rw [put_bl,put_bl,h]
 | mod v ch kl nb =>
  cases ch <;> cases kl <;> cases nb <;> (unfold St.app;simp only [put_bl]) <;> first
   | exact h
   | (unfold St.turn;simp only [h])
theorem appD_get {D:Delta} {dst:Option Tmp} {t:Nat} {u:V} (hd:dst ≠ some t) (h:get t (S.appD D dst).sl=some u):get t S.sl=some u∧u.ment (klOf D)=false:=by
 cases D with
 | pure v=>exact ⟨(put_get hd).1 h,V.ment_nil u⟩
 | mod v ch kl nb=>exact get_keepV ((put_get hd).1 h)
theorem appD_same {D:Delta} {d:Nat}:get d (S.appD D (some d)).sl=some (valD D):=by
 cases D <;> exact put_same
theorem appD_bl {D:Delta} {dst:Option Tmp}:(S.appD D dst).bl=(S.app D none).bl:=by
 cases D with
 | pure v=>unfold St.appD St.app;rw [put_bl,put_bl]
 | mod v ch kl nb=>unfold St.appD;rw [put_bl]
section
variable {x y:List Nat}
mutual
theorem C.ment_cat (c:C):c.ment x=false→c.ment y=false→c.ment (x++y)=false:=by
 cases c with
 | fn f caps=>intro h1 h2;unfold C.ment at h1 h2 ⊢;exact C.ments_cat caps h1 h2
 | own i n=>intro h1 h2;simp only [C.ment,List.contains_eq_mem,decide_eq_false_iff_not,List.mem_append,not_or] at h1 h2 ⊢;exact ⟨h1,h2⟩
 | optr i n=>intro h1 h2;simp only [C.ment,List.contains_eq_mem,decide_eq_false_iff_not,List.mem_append,not_or] at h1 h2 ⊢;exact ⟨h1,h2⟩
 | eptr i n s j=>intro h1 h2;simp only [C.ment,List.contains_eq_mem,decide_eq_false_iff_not,List.mem_append,not_or] at h1 h2 ⊢;exact ⟨h1,h2⟩
 | omap i=>intro h1 h2;simp only [C.ment,List.contains_eq_mem,decide_eq_false_iff_not,List.mem_append,not_or] at h1 h2 ⊢;exact ⟨h1,h2⟩
 | ocut i n s j=>intro h1 h2;simp only [C.ment,List.contains_eq_mem,decide_eq_false_iff_not,List.mem_append,not_or] at h1 h2 ⊢;exact ⟨h1,h2⟩
 | t z u=>intro _ _;rfl
 | nil=>intro _ _;rfl
 | junk=>intro _ _;rfl
theorem C.ments_cat (cs:List C):C.ments x cs=false→C.ments y cs=false→C.ments (x++y) cs=false:=by
 cases cs with
 | nil=>intro _ _;rfl
 | cons c cs =>
  intro h1 h2
  simp only [C.ments,Bool.or_eq_false_iff] at h1 h2 ⊢
  exact ⟨C.ment_cat c h1.1 h2.1,C.ments_cat cs h1.2 h2.2⟩
end
mutual
theorem V.ment_cat (c:V):c.ment x=false→c.ment y=false→c.ment (x++y)=false:=by
 cases c with
 | one c=>intro h1 h2;unfold V.ment at h1 h2 ⊢;exact C.ment_cat c h1 h2
 | agg cs=>intro h1 h2;unfold V.ment at h1 h2 ⊢;exact C.ments_cat cs h1 h2
 | tup vs=>intro h1 h2;unfold V.ment at h1 h2 ⊢;exact V.ments_cat vs h1 h2
 | junk=>intro _ _;rfl
theorem V.ments_cat (cs:List V):V.ments x cs=false→V.ments y cs=false→V.ments (x++y) cs=false:=by
 cases cs with
 | nil=>intro _ _;rfl
 | cons c cs =>
  intro h1 h2
  simp only [V.ments,Bool.or_eq_false_iff] at h1 h2 ⊢
  exact ⟨V.ment_cat c h1.1 h2.1,V.ments_cat cs h1.2 h2.2⟩
end
end
theorem kdN_app {dn:List Nat} {b:List (Nat × Nat)}:∀ a:List (Nat × Nat),kdN dn (a++b)=kdN dn a++kdN dn b
 | []=>rfl
 | p :: a=>by
  rw [List.cons_append,kdN,kdN,kdN_app a]
  cases dn.contains p.1 <;> rfl
theorem mK_more {dn:List Nat} {v:V} {i:Nat} {D:Delta} (h:mK dn v kd=false) (hm:v.ment (klOf D)=false):mK dn v (klAt i D++kd)=false:=by
 unfold mK at h ⊢
 rw [kdN_app]
 exact V.ment_cat v (V.ment_sub (fun x hx=>by
  obtain ⟨j,h1,_⟩:=mem_kdN.1 hx
  exact (klAt_mem.1 h1).2) hm) h
theorem mK_own {dn:List Nat} {v:V} (h:∀ p ∈ kd,p.1 ∈ dn ∨ v.ment [p.2]=false):mK dn v kd=false:=by
 unfold mK
 induction kd with
 | nil=>exact V.ment_nil v
 | cons p kd ih =>
  have ih:=ih fun q hq=>h q (List.mem_cons_of_mem _ hq)
  unfold kdN
  split
  ·exact ih
  ·rename_i hc
   have h1:=(h p List.mem_cons_self).resolve_left (by simpa using hc)
   exact V.ment_cat (x:=[p.2]) v h1 ih
end
end Go.Proofs.YtjdgejfhnfnmgaaGreatDoor.Ax
namespace Go.Proofs.YtjdgejfhnfnmgaaGreatDoor.Ax
open Go.RowKit
set_option linter.unnecessarySimpa false
section
variable {P:Program} {X:Cx} {ops:Array Oper} {bf:Nat→List Nat} {F Ff:List Fo} {E Ee:List Ef} {st st0 S:St} {done:List Nat} {kd:List (Nat × Nat)} {k:Nat}
def HaveD (bf:Nat→List Nat) (Ff:List Fo) (kd:List (Nat × Nat)) (st:St) (f:Fo):Prop :=
 (∀ t u,get t f.st.sl=some u→(∃ g ∈ Ff,g.dst=t∧g.v=u∧g.i ∈ bf f.i∧mK g.dn g.v kd=false) ∨ ((∀ g ∈ Ff,g.dst ≠ t)∧get t st.sl=some u))∧∃ bl ∈ f.st.bl :: f.alt,∀ t b,get t bl=some b→get t st.bl=some b
theorem drun_lt (hp:DRun P X ops bf st0 F E done kd st S k):(∀ f ∈ F,f.i < k)∧(∀ e ∈ E,e.i < k)∧(∀ f ∈ F,FoD P X ops f∧f.dn=bf f.i)∧done.reverse=E.map (·.i)∧(∀ i,i < k→(∃ f ∈ F,f.i=i) ∨ ∃ e ∈ E,e.i=i)∧(∀ f ∈ F,∀ g ∈ F,f.i=g.i→f=g)∧(∀ f ∈ F,∀ e ∈ E,f.i ≠ e.i)∧(E.map (·.i)).Nodup∧(∀ f ∈ F,∀ o,ops[f.i]?=some o→∀ t u,get t f.st.sl=some u→t ∈ Oper.looksAt ops o∧u ≠ .junk)∧∀ e ∈ E,∃ o,ops[e.i]?=some o∧e.dst=o.dst:=by
 induction hp with
 | nil=>exact ⟨(fun _ h=>by cases h),(fun _ h=>by cases h),(fun _ h=>by cases h),rfl,(fun _ h=>by omega),(fun _ h=>by cases h),(fun _ h=>by cases h),List.nodup_nil,(fun _ h=>by cases h),fun _ h=>by cases h⟩
 | @fl F E done kd st S k f hp hi hdn hop hrd hbl ih =>
  obtain ⟨a1,a2,a3,a4,a5,a6,a7,a8,a9,a10⟩:=ih
  have hF:∀ g ∈ F++[f],g ∈ F ∨ g=f:=fun g hg=>by simpa using hg
  refine ⟨fun g hg=>?_,fun e he=>Nat.lt_succ_of_lt (a2 e he),fun g hg=>?_,a4,fun i hi'=>?_,fun g hg g' hg' he=>?_,fun g hg e he=>?_,a8,fun g hg o ho t u h=>?_,a10⟩
  ·rcases hF g hg with h | rfl
   ·have:=a1 g h;omega
   ·omega
  ·rcases hF g hg with h | rfl
   ·exact a3 g h
   ·exact ⟨hop,by rw [hdn,hi]⟩
  ·rcases Nat.lt_succ_iff_lt_or_eq.1 hi' with h | h
   ·rcases a5 i h with ⟨g,h1,h2⟩ | h1
    ·exact .inl ⟨g,by simp [h1],h2⟩
    ·exact .inr h1
   ·exact .inl ⟨f,by simp,by omega⟩
  ·rcases hF g hg with h | rfl <;> rcases hF g' hg' with h' | rfl
   ·exact a6 g h g' h' he
   ·have:=a1 g h;omega
   ·have:=a1 g' h';omega
   ·rfl
  ·rcases hF g hg with h | rfl
   ·exact a7 g h e he
   ·have:=a2 e he;omega
  ·rcases hF g hg with h1 | rfl
   ·exact a9 g h1 o ho t u h
   ·obtain ⟨b1,b2,_⟩:=hrd o (by rw [← hi];exact ho) t u h
    exact ⟨b1,b2⟩
 | @ef F E done kd st S k e o R hp hi ho hdo hd hrd hbl hs hx hsw ih =>
  obtain ⟨a1,a2,a3,a4,a5,a6,a7,a8,a9,a10⟩:=ih
  have hE:∀ g ∈ E++[e],g ∈ E ∨ g=e:=fun g hg=>by simpa using hg
  refine ⟨fun g hg=>Nat.lt_succ_of_lt (a1 g hg),fun g hg=>?_,a3,?_,fun i hi'=>?_,a6,fun g hg e' he=>?_,?_,a9,fun g hg=>?_⟩
  ·rcases hE g hg with h | rfl
   ·have:=a2 g h;omega
   ·omega
  ·rw [List.reverse_cons,a4,List.map_append,← hi];rfl
  ·rcases Nat.lt_succ_iff_lt_or_eq.1 hi' with h | h
   ·rcases a5 i h with h1 | ⟨g,h1,h2⟩
    ·exact .inl h1
    ·exact .inr ⟨g,by simp [h1],h2⟩
   ·exact .inr ⟨e,by simp,by omega⟩
  ·rcases hE e' he with h | rfl
   ·exact a7 g hg e' h
   ·have:=a1 g hg;omega
  ·rw [List.map_append]
   refine List.nodup_append.2 ⟨a8,by simp,fun a ha b hb=>?_⟩
   obtain ⟨g,hg',rfl⟩:=List.mem_map.1 ha
   simp only [List.map_cons,List.map_nil,List.mem_singleton] at hb
   subst hb
   have:=a2 g hg'
   omega
  ·rcases hE g hg with h | rfl
   ·exact a10 g h
   ·exact ⟨o,by rw [hi];exact ho,hdo⟩
theorem drun_kd (hp:DRun P X ops bf st0 F E done kd st S k):∀ p ∈ kd,∃ e ∈ E,e.i=p.1∧p.2 ∈ klOf e.D:=by
 induction hp with
 | nil=>exact fun _ h=>by cases h
 | fl _ _ _ _ _ _ ih=>exact ih
 | @ef F E done kd st S k e o R hp hi ho hdo hd hrd hbl hs hx hsw ih =>
  intro p hp'
  rcases List.mem_append.1 hp' with h | h
  ·obtain ⟨h1,h2⟩:=klAt_mem.1 h
   exact ⟨e,by simp,by omega,h2⟩
  ·obtain ⟨e',h1,h2⟩:=ih p h
   exact ⟨e',by simp [h1],h2⟩
structure DInv (bf:Nat→List Nat) (Ff F:List Fo) (done:List Nat) (kd:List (Nat × Nat)) (st S:St):Prop where
 sl:∀ t u,get t S.sl=some u→u ≠ .junk→(∃ g ∈ F,g.dst=t∧g.v=u∧mK g.dn g.v kd=false) ∨ ((∀ g ∈ Ff,g.dst ≠ t)∧get t st.sl=some u)
 bl:S.bl=st.bl
 fo:∀ f ∈ F,(∃ j ∈ done,f.i ∈ bf j) ∨ HaveD bf Ff kd st f
theorem fo_dst {f:Fo} (h:FoD P X ops f):∃ o,ops[f.i]?=some o∧o.dst=some f.dst:=by
 obtain ⟨o,h1,h2,_⟩:=h
 exact ⟨o,h1,h2⟩
theorem st_keep {D:Delta} {dst:Option Tmp} {l:List (Nat × V)} {t:Nat} {u:V} (hl:get t l=none) (hd:dst ≠ some t) (hm:u.ment (klOf D)=false) (h:get t st.sl=some u):get t ((addF l st).app D dst).sl=some u :=
 app_keep hd hm ((get_append_none hl).trans h)
theorem drun_inv (hD:DSt ops bf) (hFo:∀ f ∈ Ff,FoD P X ops f) (hap:∀ f ∈ Ff,∀ e ∈ Ee,f.i ≠ e.i) (hpr:PairsOk bf Ff Ee) (h0:∀ t u,get t st0.sl=some u→∀ f ∈ Ff,f.dst ≠ t)
  (hp:DRun P X ops bf st0 F E done kd st S k):(∀ f ∈ F,f ∈ Ff)→(∀ e ∈ E,e ∈ Ee)→DInv bf Ff F done kd st S:=by
 induction hp with
 | nil=>exact fun _ _=>⟨fun t u h _=>.inr ⟨fun g hg=>h0 t u h g hg,h⟩,rfl,fun _ h=>by cases h⟩
 | @fl F E done kd st S k f hp hi hdn hop hrd hbl ih =>
  intro hFF hEE
  have I:=ih (fun g hg=>hFF g (by simp [hg])) hEE
  have hfF:=hFF f (by simp)
  obtain ⟨o,ho,hod⟩:=fo_dst hop
  obtain ⟨a1,a2,a3,a4,a5,a6,a7,a8,a9,a10⟩:=drun_lt hp
  have hhave:HaveD bf Ff kd st f:=by
   refine ⟨fun t u h=>?_,_,List.mem_cons_self,fun t b h=>?_⟩
   ·obtain ⟨r1,r2,r3⟩:=hrd o (by rw [← hi];exact ho) t u h
    rcases I.sl t u r3 r2 with ⟨g,g1,g2,g3,g4⟩ | h1
    ·obtain ⟨o',ho',hod'⟩:=fo_dst (hFo g (hFF g (by simp [g1])))
     exact .inl ⟨g,hFF g (by simp [g1]),g2,g3,hD.data f.i g.i o o' t ho ho' r1 (by rw [hod',g2]),g4⟩
    ·exact .inr h1
   ·rw [← I.bl];exact hbl t b h
  refine ⟨fun t u h hj=>?_,I.bl,fun g hg=>?_⟩
  ·by_cases ht:f.dst=t
   ·subst ht
    have:get f.dst (S.put (some f.dst) f.v).sl=some f.v:=put_same
    rw [this] at h
    injection h with h
    refine .inl ⟨f,by simp,rfl,h,mK_own fun p hp'=>?_⟩
    obtain ⟨e,he,he1,he2⟩:=drun_kd hp p hp'
    rcases hpr f hfF e (hEE e he) with h1 | ⟨h1,_⟩ | ⟨_,h1⟩ | ⟨h1,_⟩
    ·exact .inr (V.ment_sub (fun x hx=>by rw [List.mem_singleton.1 hx];exact he2) h1.2.1)
    ·have:=a2 e he;omega
    ·rw [hdn,← he1,← hi];exact .inl h1
    ·have:=a2 e he;omega
   ·rcases I.sl t u ((put_get (fun e=>ht (by injection e))).1 h) hj with ⟨g,g1,g2⟩ | h1
    ·exact .inl ⟨g,by simp [g1],g2⟩
    ·exact .inr h1
  ·rcases List.mem_append.1 hg with h | h
   ·exact I.fo g h
   ·rw [List.mem_singleton] at h
    subst h
    exact .inr hhave
 | @ef F E done kd st S k e o R hp hi ho hdo hd hrd hbl hs hx hsw ih =>
  intro hFF hEE
  have I:=ih hFF (fun g hg=>hEE g (by simp [hg]))
  have heE:=hEE e (by simp)
  obtain ⟨a1,a2,a3,a4,a5,a6,a7,a8,a9,a10⟩:=drun_lt hp
  have hnd:∀ g ∈ Ff,o.dst ≠ some g.dst:=fun g hg' he=>by
   obtain ⟨o',ho',hod'⟩:=fo_dst (hFo g hg')
   exact hap g hg' e heE (by rw [hi];exact hD.dst g.i k o' o _ ho' ho hod' he)
  have hnone:∀ t,(∀ g ∈ Ff,g.dst ≠ t)→get t (foSl (inL (bf k)) (aliveF kd F))=none:=fun t h=>foSl_none fun g hg'=>h g (hFF g (mem_alive.1 hg').1)
  have hbl':(S.appD e.D o.dst).bl=((addF (foSl (inL (bf k)) (aliveF kd F)) st).app e.D o.dst).bl:=by
   rw [appD_bl]
   exact app_bl2 (s':=addF (foSl (inL (bf k)) (aliveF kd F)) st) I.bl _ _ _
  refine ⟨fun t u h hj=>?_,hbl',fun f hf=>?_⟩
  ·by_cases ht:o.dst=some t
   ·rw [ht] at h
    rw [appD_same] at h
    injection h with h
    refine .inr ⟨fun g hg' he=>hnd g hg' (by rw [ht,he]),?_⟩
    obtain ⟨s',h1,_⟩:=app_eq (s:=addF (foSl (inL (bf k)) (aliveF kd F)) st) (D:=e.D) (dst:=o.dst)
    rw [h1,ht,put_same,h]
   ·obtain ⟨h1,h2⟩:=appD_get ht h
    rcases I.sl t u h1 hj with ⟨g,g1,g2,g3,g4⟩ | ⟨g1,g2⟩
    ·exact .inl ⟨g,g1,g2,g3,mK_more g4 (by rw [g3];exact h2)⟩
    ·exact .inr ⟨g1,st_keep (hnone t g1) ht h2 g2⟩
  ·rcases I.fo f hf with ⟨j,h1,h2⟩ | ⟨h1,h2⟩
   ·exact .inl ⟨j,List.mem_cons_of_mem _ h1,h2⟩
   ·have hlt:=a1 f hf
    obtain ⟨bl,hbm,h2⟩:=h2
    have hslot:(∀ t u,get t f.st.sl=some u→u.ment (klOf e.D)=false)→∀ t u,get t f.st.sl=some u→(∃ g ∈ Ff,g.dst=t∧g.v=u∧g.i ∈ bf f.i∧mK g.dn g.v (klAt k e.D++kd)=false) ∨ ((∀ g ∈ Ff,g.dst ≠ t)∧get t ((addF (foSl (inL (bf k)) (aliveF kd F)) st).app e.D o.dst).sl=some u):=fun hA t u h=>by
     rcases h1 t u h with ⟨g,g1,g2,g3,g4,g5⟩ | ⟨g1,g2⟩
     ·exact .inl ⟨g,g1,g2,g3,g4,mK_more g5 (by rw [g3];exact hA t u h)⟩
     ·refine .inr ⟨g1,st_keep (hnone t g1) (fun he=>?_) (hA t u h) g2⟩
      obtain ⟨o',ho',_⟩:=fo_dst (hFo f (hFF f hf))
      have:=hD.lt _ _ (hD.data f.i k o' o t ho' ho (a9 f hf o' ho' t u h).1 he)
      omega
    rcases hpr f (hFF f hf) e heE with hA | ⟨_,hA⟩ | ⟨hA,_⟩ | ⟨_,hA⟩
    ·refine .inr ⟨hslot hA.1,bl,hbm,fun t b h=>?_⟩
     obtain ⟨s',q1,q2,_,q3⟩:=app_eq (s:=addF (foSl (inL (bf k)) (aliveF kd F)) st) (D:=e.D) (dst:=o.dst)
     rw [q1,put_bl]
     have hst:=h2 t b h
     have ht:=hA.2.2 bl hbm t b h
     exact (q3 t b).1 hst (fun hm=>ht (hx.1 t hm)) (hx.2 t b (by rw [I.bl];exact hst) ht)
    ·exact .inl ⟨k,List.mem_cons_self,by rw [← hi];exact hA⟩
    ·omega
    ·obtain ⟨s1,_,bl',hb',s3⟩:=hsw f hf hA
     exact .inr ⟨hslot s1,bl',List.mem_cons_of_mem _ hb',fun t b h=>by rw [← hbl'];exact s3 t b h⟩
def FutD (bf:Nat→List Nat) (Ff:List Fo) (Ee:List Ef) (kd:List (Nat × Nat)) (st:St) (k:Nat) (f:Fo):Prop:=(∃ e ∈ Ee,k≤e.i∧e.i ∈ bf f.i) ∨ HaveD bf Ff kd st f
theorem drun_path {K:St→Prop} (hD:DSt ops bf) (hFo:∀ f ∈ Ff,FoD P X ops f) (hlook:∀ f ∈ Ff,∀ o,ops[f.i]?=some o→∀ t u,get t f.st.sl=some u→t ∈ Oper.looksAt ops o∧u ≠ .junk) (hap:∀ f ∈ Ff,∀ e ∈ Ee,f.i ≠ e.i) (hidx:∀ f ∈ Ff,∀ g ∈ Ff,f.i=g.i→f=g) (hpr:PairsOk bf Ff Ee) (h0:∀ t u,get t st0.sl=some u→∀ f ∈ Ff,f.dst ≠ t)
  (hp:DRun P X ops bf st0 F E done kd st S k):(∃ G,Ff=F++G∧∀ g ∈ G,k≤g.i)→(∃ G,Ee=E++G∧∀ g ∈ G,k≤g.i)→(∀ f ∈ Ff,k≤f.i→FutD bf Ff Ee kd st k f)→∀ todo,ND P X ops bf Ff (Ee.map (·.i)) K done kd todo st→ND P X ops bf Ff (Ee.map (·.i)) K [] [] (done.reverse++todo) st0:=by
 induction hp with
 | nil=>exact fun _ _ _ todo h=>h
 | @fl F E done kd st S k f hp hi hdn hop hrd hbl ih =>
  rintro ⟨G,hG,hGi⟩ ⟨H,hH,hHi⟩ hfut todo h
  have hFF:∀ g ∈ F,g ∈ Ff:=fun g hg=>by rw [hG];simp [hg]
  have hEE:∀ g ∈ E,g ∈ Ee:=fun g hg=>by rw [hH];simp [hg]
  have hfF:f ∈ Ff:=by rw [hG];simp
  refine ih ⟨f :: G,by rw [hG];simp,fun g hg=>?_⟩ ⟨H,hH,fun g hg=>by have:=hHi g hg;omega⟩ (fun g hg hk=>?_) todo h
  ·rcases List.mem_cons.1 hg with rfl | hg
   ·omega
   ·have:=hGi g hg;omega
  ·by_cases he:g.i=k
   ·have:g=f:=hidx g hg f hfF (by omega)
    subst this
    have I:=drun_inv hD hFo hap hpr h0 hp hFF hEE
    obtain ⟨o,ho,hod⟩:=fo_dst hop
    refine .inr ⟨fun t u h=>?_,_,List.mem_cons_self,fun t b h=>by rw [← I.bl];exact hbl t b h⟩
    obtain ⟨r1,r2,r3⟩:=hrd o (by rw [← hi];exact ho) t u h
    rcases I.sl t u r3 r2 with ⟨g',g1,g2,g3,g4⟩ | h1
    ·obtain ⟨o',ho',hod'⟩:=fo_dst (hFo g' (hFF g' g1))
     exact .inl ⟨g',hFF g' g1,g2,g3,hD.data g.i g'.i o o' t ho ho' r1 (by rw [hod',g2]),g4⟩
    ·exact .inr h1
   ·rcases hfut g hg (by omega) with ⟨e,h1,h2,h3⟩ | h1
    ·exact .inl ⟨e,h1,by omega,h3⟩
    ·exact .inr h1
 | @ef F E done kd st S k e o R hp hi ho hdo hd hrd hbl hs hx hsw ih =>
  rintro ⟨G,hG,hGi⟩ ⟨H,hH,hHi⟩ hfut todo hn
  have hFF:∀ g ∈ F,g ∈ Ff:=fun g hg=>by rw [hG];simp [hg]
  have hEE:∀ g ∈ E,g ∈ Ee:=fun g hg=>by rw [hH];simp [hg]
  have heE:e ∈ Ee:=by rw [hH];simp
  have I:=drun_inv hD hFo hap hpr h0 hp hFF hEE
  obtain ⟨a1,a2,a3,a4,a5,a6,a7,a8,a9,a10⟩:=drun_lt hp
  have hfo:foSl (inL (bf k)) (aliveF kd Ff)=foSl (inL (bf k)) (aliveF kd F):=by
   rw [hG,aliveF_append]
   refine foSl_append fun g hg=>?_
   have h1:=hGi g (mem_alive.1 hg).1
   cases hv:inL (bf k) g.i with
   | false=>rfl
   | true =>
    have:=hD.lt k g.i (by simpa [inL] using hv)
    omega
  have hnd:∀ g ∈ Ff,o.dst ≠ some g.dst:=fun g hg' he=>by
   obtain ⟨o',ho',hod'⟩:=fo_dst (hFo g hg')
   exact hap g hg' e heE (by rw [hi];exact hD.dst g.i k o' o _ ho' ho hod' he)
  have hnone:∀ t,(∀ g ∈ Ff,g.dst ≠ t)→get t (foSl (inL (bf k)) (aliveF kd F))=none:=fun t h=>foSl_none fun g hg'=>h g (hFF g (mem_alive.1 hg').1)
  have hfut':∀ f ∈ Ff,k≤f.i→FutD bf Ff Ee kd st k f:=fun f hf hk=>by
   have hne:f.i ≠ k:=fun h=>hap f hf e heE (by omega)
   rcases hfut f hf (by omega) with ⟨e',h1,h2,h3⟩ | ⟨h1,h2⟩
   ·exact .inl ⟨e',h1,by omega,h3⟩
   ·by_cases hke:k ∈ bf f.i
    ·exact .inl ⟨e,heE,by omega,by rw [hi];exact hke⟩
    ·have hA:Apart f e:=by
      rcases hpr f hf e heE with hA | ⟨hA,_⟩ | ⟨_,hA⟩ | ⟨hA,_⟩
      ·exact hA
      ·omega
      ·exact absurd (by rw [← hi];exact hA) hke
      ·omega
     obtain ⟨o',ho',_⟩:=fo_dst (hFo f hf)
     obtain ⟨s',q1,q2,q3,q4⟩:=app_eq (s:=addF (foSl (inL (bf k)) (aliveF kd F)) st) (D:=e.D) (dst:=o.dst)
     obtain ⟨bl,hbm,h2⟩:=h2
     rw [q1] at h1 h2
     refine .inr ⟨fun t u h=>?_,bl,hbm,fun t b h=>?_⟩
     ·rcases h1 t u h with ⟨g,g1,g2,g3,g4,g5⟩ | ⟨g1,g2⟩
      ·exact .inl ⟨g,g1,g2,g3,g4,(mK_app g5).1⟩
      ·have hl:=hlook f hf o' ho' t u h
       have ht:o.dst ≠ some t:=fun he=>hke (hD.data f.i k o' o t ho' ho hl.1 he)
       obtain ⟨u0,u1,u2⟩:=q3 t u ((put_get ht).1 g2)
       have u1':get t st.sl=some u0:=(get_append_none (hnone t g1)).symm.trans u1
       refine .inr ⟨g1,?_⟩
       rcases u2 with rfl | u2
       ·exact u1'
       ·unfold V.kill at u2
        split at u2
        ·exact absurd u2 hl.2
        ·rw [u2];exact u1'
     ·have hb:=h2 t b h
      rw [put_bl] at hb
      have ht:=hA.2.2 bl hbm t b h
      obtain ⟨b0,b1,b2⟩:=(q4 t b).2 hb fun hm=>ht (hx.1 t hm)
      have hb1:get t st.bl=some b0:=b1
      have hm:=hx.2 t b0 (by rw [I.bl];exact hb1) ht
      rw [B.kill_same hm] at b2
      rw [b2.elim id id]
      exact hb1
  have step:ND P X ops bf Ff (Ee.map (·.i)) K done kd (k :: todo) st:=by
   unfold ND
   refine ⟨fun f hf=>?_,o,e.D,R,ho,hd,?_,hs,?_,by rw [hfo];exact hn⟩
   ·by_cases hk:k≤f.i
    ·rcases hfut' f hf hk with ⟨e',h1,h2,h3⟩ | h1
     ·refine .inr (.inl ⟨e'.i,List.mem_map.2 ⟨e',h1,rfl⟩,fun hd=>?_,h3⟩)
      have:e'.i ∈ E.map (·.i):=by rw [← a4];exact List.mem_reverse.2 hd
      obtain ⟨e2,q1,q2⟩:=List.mem_map.1 this
      have:=a2 e2 q1
      omega
     ·exact .inr (.inr h1)
    ·have hfF:f ∈ F:=by
      rw [hG] at hf
      rcases List.mem_append.1 hf with h | h
      ·exact h
      ·have:=hGi f h;omega
     rcases I.fo f hfF with h1 | h1
     ·exact .inl h1
     ·exact .inr (.inr h1)
   ·rw [hfo]
    refine ⟨fun t u h=>?_,fun t b h=>?_⟩
    ·obtain ⟨r1,r2,r3⟩:=hrd t u h
     rcases I.sl t u r3 r2 with ⟨g,g1,g2,g3,g4⟩ | ⟨g1,g2⟩
     ·obtain ⟨o',ho',hod'⟩:=fo_dst (hFo g (hFF g g1))
      have hb:=hD.data k g.i o o' t ho ho' r1 (by rw [hod',g2])
      have hd2:∀ f ∈ aliveF kd F,∀ g ∈ aliveF kd F,f.dst=g.dst→f=g:=fun a ha b hb he=>by
       have ha':=hFF a (mem_alive.1 ha).1
       have hb':=hFF b (mem_alive.1 hb).1
       obtain ⟨oa,oa1,oa2⟩:=fo_dst (hFo a ha')
       obtain ⟨ob,ob1,ob2⟩:=fo_dst (hFo b hb')
       exact hidx a ha' b hb' (hD.dst a.i b.i oa ob _ oa1 ob1 oa2 (by rw [ob2,he]))
      subst g2
      subst g3
      exact get_append_some (foSl_get hd2 (mem_alive.2 ⟨g1,g4⟩) (by simpa [inL] using hb))
     ·exact (get_append_none (hnone t g1)).trans g2
    ·show get t st.bl=some b
     rw [← I.bl]
     exact hbl t b h
   ·exact List.all_eq_true.2 fun f hf=>by
     have:=hnd f hf
     cases hod:o.dst with
     | none=>rfl
     | some d =>
      rw [hod] at this
      simp only [dstNe,Bool.not_eq_true',decide_eq_false_iff_not]
      exact fun h=>this (by rw [h])
  have:=ih ⟨G,hG,fun g hg=>by have:=hGi g hg;omega⟩ ⟨e :: H,by rw [hH];simp,fun g hg=>by
   rcases List.mem_cons.1 hg with rfl | hg
   ·omega
   ·have:=hHi g hg;omega⟩ hfut' (k :: todo) step
  rw [List.reverse_cons,List.append_assoc]
  exact this
end
end Go.Proofs.YtjdgejfhnfnmgaaGreatDoor.Ax
