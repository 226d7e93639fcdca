/-  -/
import Derived.Test.YtjdgejfhnfnmgaaGreatDoorS19
import Derived.Test.YtjdgejfhnfnmgaaGreatDoorS35
import Derived.Test.YtjdgejfhnfnmgaaGreatDoorS14
import Derived.Test.YtjdgejfhnfnmgaaGreatDoorS23
import Derived.Test.YtjdgejfhnfnmgaaGreatDoorS18
import Derived.Test.YtjdgejfhnfnmgaaGreatDoorS33
import Derived.Test.YtjdgejfhnfnmgaaGreatDoorS26
namespace Go.Proofs.YtjdgejfhnfnmgaaGreatDoor.Ax
open Go.RowKit
open Go.Sort
set_option linter.unusedSimpArgs false
attribute [local go_sem] ty3 ty4 ty9 ty5 ty26 ty24 ty29 ty27 ty54 ty22 ty25 ty31 ty32 ty77 ty43 ty67 ty65 zK zC cmC
set_option linter.unusedVariables false
set_option maxRecDepth 100000
section
variable {P:Program} {X:Cx} {st st2:St} {ρ:Nat→R} {a:Act} {w:World} {o:Oper} {l:List Oper} {ops:Array Oper} {Q:Exit→Act→World→Prop}
theorem list_step {v:V} (hH:Hold X st ρ a w) (hx:exec1 P st o=some (.pure v)) (hg:guardOf st ops o=some true) (hd:dstOk X.n o.dst=true) (hs:st.app (.pure v) o.dst=st2) (h:∀ a',Hold X st2 ρ a' w→wpList P ops Q l a' w):wpList P ops Q (o :: l) a w:=by
 subst hs
 unfold wpList
 rw [guard_sound hH hg,if_pos rfl]
 refine .inl ((exec1_runs hx).step hd ρ a w hH _ _ (fun x ρ' w' ho=>?_))
 have h2:=hH.app (D:=.pure v) ho (dst_lt hd)
 obtain ⟨rfl,rfl,hv⟩:=ho
 exact h _ h2
theorem list_pan {c:Call} {cv:Operand} {f:FuncId} {args as_:List V} {ins:List (Nat × B)} {ids:List Nat} {ch:List PanicEntry} {m:Bool} {n:Nat} (hids:ins.map (fun p:Nat × B=>p.1)=ids) (hH:Hold X st ρ a w) (hg:guardOf st ops o=some true) (hop:o.op=.call c) (hcal:c.callee=.value cv)
  (hc:callIO ids st n cv c.args.toList=some (f,m,as_)) (hsp:SpPan P f args ins ch) (hle:vsLe args as_) (hins:insLe st.bl ins) (hcl:ins.all (fun p=>p.2.only ids)=true)
  (hQ:∀ w',Below 0 w w'→(∀ b,b < w.heap.size→(∀ id cap,id ∈ ids→ρ id ≠ .lie b cap)→w'.heap[b]?=w.heap[b]?)→Q (.panic ch) a w'):wpList P ops Q [o] a w:=by
 unfold wpList
 rw [guard_sound hH hg,if_pos rfl]
 refine .inl ?_
 subst hids
 obtain ⟨xs,hrun,hargs⟩:=callIO_run hop hcal hc hsp.enters hH
 generalize hids:ins.map (fun p:Nat × B=>p.1)=ids at *
 have hargs':=hargs.le hle
 unfold Oper.wp
 rw [hrun,Oper.upon_enter]
 have hin:∀ p ∈ ins,p.1 ∈ ids:=fun p hp=>by rw [← hids];exact List.mem_map.2 ⟨p,hp,rfl⟩
 refine (hsp.calls w _ (seeF X ρ w ids) seeS_lt (onlyR ids ρ) (fun id b cap hid=>?_) (fun i j b c' d hi hj=>hH.inj i j b c' d (onlyR_lie hi).1 (onlyR_lie hj).1) (fun id hid=>if_neg (by rw [hids] at hid;exact hid)) (fun id b hg=>insLe_has hH hins (fun p hp=>List.all_eq_true.1 hcl p hp) hin hg) _ hH.gww hargs').mono ?_
 ·obtain ⟨h1,h2⟩:=onlyR_lie hid
  exact ⟨.inr ⟨id,cap,h2,h1⟩,(hH.ge id b cap h1).2.2,Nat.le_of_not_lt fun hlt=>(hH.ge id b cap h1).2.1 (hH.gk b hlt)⟩
 ·rintro e w' ⟨rfl,hb,hkeep⟩
  refine hQ w' hb fun b hlt hno=>hkeep b ⟨hlt,fun id cap hid=>?_⟩
  obtain ⟨h1,h2⟩:=onlyR_lie hid
  exact hno id cap h2 h1
theorem region_defers {id:Nat} {K:St→Prop} {ds:List Deferred} (hnp:∀ ch,¬ X.pan ch) (hH:Hold X st ρ a w) (h2:∀ s ρ' a0 w',K s→Hold X s ρ' a0 w'→Q .normal ⟨a0.tmps,ds⟩ w')
  (h3:∀ K':St→Prop,(∀ s,K s→K' s)→RWr P X l.toArray K' (l,st)):(Code.region id l.toArray false).wp P Q ⟨a.tmps,ds⟩ w:=by
 have h4:=wpList_defers (ds:=ds) l a w (h3 K (fun _ h=>h) ρ a w hH (fun e a' w'=>e=.normal∧∃ s ρ',K s∧Hold X s ρ' a' w') ⟨fun s ρ' a' w' hk hh=>⟨rfl,s,ρ',hk,hh⟩,fun ch _ _ _ _ hp _=>(hnp ch hp).elim⟩)
 rw [hH.defers,List.nil_append] at h4
 refine wp_mono (wp_region_lit h4) fun e a' w' ⟨a0,he,hn,s,ρ',hk,hh⟩=>?_
 subst hn
 rw [he,hh.defers,List.nil_append]
 exact h2 s ρ' a0 w' hk hh
end
theorem optr_at {P:Program} {X:Cx} {st:St} {ρ:Nat→R} {a:Act} {w:World} (hH:Hold X st ρ a w) {t id off:Nat} (h:get t st.sl=some (.one (.optr id off))):∃ b cap,ρ id=.lie b cap∧a.tmps[t]?=some (.pointer (some ⟨b,off,none⟩)):=by
 obtain ⟨x,h1,h2⟩:=hH.slots t _ h
 unfold RdV RdC at h2
 cases hr:ρ id with
 | lie b cap =>
  rw [hr] at h2
  dsimp only at h2
  exact ⟨b,cap,rfl,by rw [h1,h2]⟩
 | dead=>rw [hr] at h2;exact h2.elim
 | nil=>rw [hr] at h2;exact h2.elim
theorem VarIs.same {w w':World} {b:Nat} {T:TypeId} {cs:List C} (h:VarIs w b T cs) (hl:cs.all litC=true) (e:w'.heap[b]?=w.heap[b]?):VarIs w' b T cs:=by
 obtain ⟨xs,h1,h2⟩:=h
 exact ⟨xs,e.trans h1,litAll_rd hl h2⟩
def parseV (l:List Vl) (en:Int):PR Cm→V
 | .ok c _=>.tup [.agg (cmC c),.one (.t true (.lit (.int .i64 0))),.one (.t true (.lit (.int .i64 0)))]
 | .bad k=>.tup [.agg zK,.one (.t true (.lit (.int .i64 (hereP l en k)))),.one (.t true (.lit (.int .i64 1)))]
def parS (l:List Vl) (en:Int):St:=⟨[(2,.one (.optr 2 0)),(3,.one (.optr 3 0)),(4,.one (.optr 4 0)),(0,.one (.optr 1000 0))],[(2,.var 31 zK),(3,.var 3 [.t true (.lit (.int .i64 0))]),(4,.var 32 [.t true (.lit (.int .i64 0))]),(1000,.var 67 ([.t false (.sl (rVs l)),.t false (.lit (.int .i64 ((0:Nat):Int))),.t false (.lit (.int .i64 en))]++zC))]⟩
attribute [local go_sem] parS
def parT (l:List Vl) (en:Int) (k:Nat) (c:Cm) (z:List C):St:=⟨[(2,.one (.optr 2 0)),(3,.one (.optr 3 0)),(4,.one (.optr 4 0)),(0,.one (.optr 1000 0))],[(2,.var 31 z),(3,.var 3 [.t true (.lit (.int .i64 0))]),(4,.var 32 [.t true (.lit (.int .i64 0))]),(1000,.var 67 ([.t false (.sl (rVs l)),.t false (.lit (.int .i64 k)),.t false (.lit (.int .i64 en))]++cmC c))]⟩
attribute [local go_sem] parT
set_option maxHeartbeats 16000000 in
theorem pparse_io (l:List Vl) (hl:GoodL l) (en:Int):SpIO Tryz.prog 40 [.one (.optr 1000 0)] [(1000,.var 67 ([.t false (.sl (rVs l)),.t false (.lit (.int .i64 ((0:Nat):Int))),.t false (.lit (.int .i64 en))]++zC))] (parseV l en (cmdK l 0)) [] [] where
 enters:=enters_of Tryz.func40 (by kernel_rfl) rfl
 calls w S F hS ρ hF hinj hdead hins vs hG hvs:=by
  have hlv:=hvs.len
  have hH:Hold (Cx.io w S F hS ρ 12) ⟨argSv 0 [.one (.optr 1000 0)],[(1000,.var 67 ([.t false (.sl (rVs l)),.t false (.lit (.int .i64 ((0:Nat):Int))),.t false (.lit (.int .i64 en))]++zC))]⟩ ρ { tmps:=vs.toArray++Array.replicate (12 - vs.toArray.size) undef,defers:=[] } w:=by
   refine ⟨rfl,by simp [Cx.io];simp at hlv;omega,Below.refl _ _,fun _ _=>rfl,fun id b cap hid=>⟨.inr (hF id b cap hid).1,fun hk=>hk.2 id cap hid,(hF id b cap hid).2.1⟩,hinj,fun _ _=>.inl rfl,fun t v hv=>?_,hins,fun b hb=>⟨Nat.lt_of_lt_of_le hb (gw_ng hG),fun id cap hid=>by have:=(hF id b cap hid).2.2;omega⟩,hG⟩
   obtain ⟨_,x,h1,h2⟩:=argSv_rd hvs hv
   refine ⟨x,?_,h2⟩
   rw [Nat.sub_zero] at h1
   have:t < vs.length:=by
    rcases Nat.lt_or_ge t vs.length with h | h
    ·exact h
    ·rw [List.getElem?_eq_none h] at h1;cases h1
   simp only [Array.getElem?_append,List.size_toArray,this,if_true]
   simpa using h1
  refine calls_of_wp_defers Tryz.func40 rfl ?_
  rw [Tryz.ntmps40]
  have hC:=pcommand_q l hl en 0
  unfold zC at hC
  have hnp:∀ ch,¬ (Cx.io w S F hS ρ 12).pan ch:=fun _ h=>h
  have hXK:∀ b,(Cx.io w S F hS ρ 12).K b ↔ b < w.heap.size∧∀ id cap,ρ id ≠ .lie b cap:=fun _=>Iff.rfl
  have hXb:(Cx.io w S F hS ρ 12).base=w:=rfl
  have hX:(Cx.io w S F hS ρ 12).n=12:=rfl
  have hXp:(Cx.io w S F hS ρ 12).pin=ρ:=rfl
  generalize hXd:Cx.io w S F hS ρ 12=X at hH hnp hXK hXb hX hXp
  refine wp_seq ?_
  refine cw_out (fun e s=>match e with | .normal=>(parS l en).le s | .panic ch=>X.pan ch | _=>False) hH ?_ ?_
  ·refine gs_ ?_
   refine au_ an0 ?_
   unfold parS
   exact le_
  rintro e a1 w1 s ρ1 hq hH1
  cases e with
  | normal=>?_
  | panic ch=>exact (hnp ch hq).elim
  | _=>exact hq.elim
  have hH1:Hold X (parS l en) ρ1 a1 w1:=hH1.le hq
  clear hq hH
  obtain ⟨b2,q2,r2,t2⟩:=optr_at (P:=Tryz.prog) hH1 (t:=2) rfl
  obtain ⟨b3,q3,r3,t3⟩:=optr_at (P:=Tryz.prog) hH1 (t:=3) rfl
  obtain ⟨b4,q4,r4,t4⟩:=optr_at (P:=Tryz.prog) hH1 (t:=4) rfl
  have hsz:=hH1.size
  rw [hX] at hsz
  have hdf:=hH1.defers
  have hmf:∀ (fn:Fn) (first cap:Array Value) (w:World),(Instr.makeFunc fn first cap).run Tryz.prog w=.ok (.func fn first cap) w:=fun _ _ _ _=>rfl
  show Code.wp _ _ _ a1 w1
  refine wp_seq ?_
  refine wp_region_lit ?_
  obtain ⟨tm,df⟩:=a1
  dsimp only at t2 t3 t4 hsz hdf
  subst hdf
  simp [wpList,Oper.wp,go_sem,Exit.then,hmf,t2,t3,t4,hsz]
  refine .inl (.inl ?_)
  have e2:tm[2]=.pointer (some ⟨b2,0,none⟩):=(Array.getElem?_eq_some_iff.1 t2).2
  have e3:tm[3]=.pointer (some ⟨b3,0,none⟩):=(Array.getElem?_eq_some_iff.1 t3).2
  have e4:tm[4]=.pointer (some ⟨b4,0,none⟩):=(Array.getElem?_eq_some_iff.1 t4).2
  rw [e2,e3,e4]
  have hH2:Hold X (parS l en) ρ1 ⟨tm.setIfInBounds 5 (Value.func (Fn.func 64) #[] #[.pointer (some ⟨b2,0,none⟩),.pointer (some ⟨b3,0,none⟩),.pointer (some ⟨b4,0,none⟩)]),[]⟩ w1:=(hH1.put (dst:=some 5) (v:=.junk) (by intro d hd;cases hd;rw [hX];decide) (by unfold RdV;trivial)).le (by unfold parS;exact le_)
  generalize tm.setIfInBounds 5 (Value.func (Fn.func 64) #[] #[.pointer (some ⟨b2,0,none⟩),.pointer (some ⟨b3,0,none⟩),.pointer (some ⟨b4,0,none⟩)])=tm2 at *
  cases hr:cmdK l 0 with
  | ok c k =>
   rw [hr] at hC
   have hC:=SpIO.ren (SpQ.ok hC) [(1000,1000)] rfl
   refine wp_seq ?_
   refine region_defers (K:=(parT l en k c zK).le) hnp hH2 (fun s ρ' a0 w' hk hH'=>?_) (fun K hK=>?_)
   ·show Code.wp _ _ _ _ w'
    have hH':=hH'.le hk
    refine wp_seq ?_
    refine region_defers (K:=(parT l en k c (cmC c)).le) hnp hH' (fun s3 ρ3 a3 w3 hk3 hH3=>?_) (fun K hK=>?_)
    ·show Code.wp _ _ _ _ w3
     have hH3:=hH3.le hk3
     refine wp_ret ?_
     refine leaves_cons (f:=64) (args:=#[.pointer (some ⟨b2,0,none⟩),.pointer (some ⟨b3,0,none⟩),.pointer (some ⟨b4,0,none⟩)]) (by simp) (by simp [go_sem]) ?_
     refine (pidle_d _ _ _ w3).mono ?_
     rintro e u' w'' ⟨rfl,rfl,rfl⟩
     have hE:EndsIO Tryz.prog X Tryz.f40.results (parseV l en (.ok c k)) [] [] (parT l en k c (cmC c)):=by
      rw [Tryz.results40]
      show exitIO Tryz.prog X _ _ _ _ .ret _
      unfold parseV parT
      exact oj_ an0 (.inl rfl)
     obtain ⟨q,ρc,g1,g2,g3,g4,g5,g6,g7⟩:=hE ρ3 a3 w'' hH3
     subst hXd
     exact ⟨q,g1 _ rfl,q,ρc,rfl,hH3.below,hH3.keep,g2,g3,g4,g5,g6,g7⟩
    ·unfold parT
     refine rx_ an0 ?_
     refine rwr_nil (hK _ ?_)
     unfold parT
     exact le_
   ·unfold parS
    refine rx_ an0 ?_
    refine qio_ an0 hC ?_
    refine rx_ an0 ?_
    refine rwr_nil (hK _ ?_)
    unfold parT
    exact le_
  | bad k =>
   rw [hr] at hC
   have hC:=SpPan.ren (SpQ.bad hC) [(1000,1000)] rfl
   have hgw:=hH2.gww
   have hgk:=hH2.gk
   have hlo:∀ id b cap,ρ1 id=.lie b cap→NG≤b:=fun id b cap h=>Nat.le_of_not_lt fun hlt=>(hH2.ge id b cap h).2.1 (hgk b hlt)
   have n23:b2 ≠ b3:=fun h=>by have:=hH2.inj 2 3 b2 q2 q3 r2 (by rw [h];exact r3);omega
   have n24:b2 ≠ b4:=fun h=>by have:=hH2.inj 2 4 b2 q2 q4 r2 (by rw [h];exact r4);omega
   have n34:b3 ≠ b4:=fun h=>by have:=hH2.inj 3 4 b3 q3 q4 r3 (by rw [h];exact r4);omega
   have v2:=(hH2.blocks 2 _ rfl).varIs (cs:=zK) rfl r2
   have v3:=(hH2.blocks 3 _ rfl).varIs (cs:=[.t true (.lit (.int .i64 0))]) rfl r3
   have v4:=(hH2.blocks 4 _ rfl).varIs (cs:=[.t true (.lit (.int .i64 0))]) rfl r4
   refine wp_seq ?_
   refine wp_mono (wp_region_lit (wpList_defers (ds:=[{ target:=Target.fn (Fn.func 64) #[.pointer (some ⟨b2,0,none⟩),.pointer (some ⟨b3,0,none⟩),.pointer (some ⟨b4,0,none⟩)],args:=#[] }]) (Q:=fun e a' w'=>e=.panic (chP l en k)∧(a'.defers=[]∧a'.tmps.size=12∧a'.tmps[2]?=some (.pointer (some ⟨b2,0,none⟩))∧a'.tmps[3]?=some (.pointer (some ⟨b3,0,none⟩))∧a'.tmps[4]?=some (.pointer (some ⟨b4,0,none⟩)))∧Below 0 w1 w'∧∀ b,b < w1.heap.size→(∀ id cap,id ∈ [1000]→ρ1 id ≠ .lie b cap)→w'.heap[b]?=w1.heap[b]?) _ ⟨tm2,[]⟩ w1 ?_)) ?_
   ·have hH2':=hH2
    unfold parS at hH2'
    refine list_step hH2' (by simp only [go_sem];exact rfl) (by simp only [go_sem]) (by rw [hX];rfl) (by simp only [go_sem,hX];exact rfl) fun a' ha'=>?_
    refine list_pan (ids:=[1000]) rfl ha' (by simp only [go_sem]) rfl rfl (n:=40) (by simp only [go_sem] <;> exact rfl) hC (by simp only [go_sem] <;> fail) (by simp only [go_sem] <;> fail) (by simp only [go_sem] <;> fail) fun w' hb hk=>?_
    have hs:=ha'.size
    rw [hX] at hs
    obtain ⟨c2,d2,s2,u2⟩:=optr_at (P:=Tryz.prog) ha' (t:=2) rfl
    obtain ⟨c3,d3,s3,u3⟩:=optr_at (P:=Tryz.prog) ha' (t:=3) rfl
    obtain ⟨c4,d4,s4,u4⟩:=optr_at (P:=Tryz.prog) ha' (t:=4) rfl
    rw [r2] at s2
    rw [r3] at s3
    rw [r4] at s4
    cases s2
    cases s3
    cases s4
    exact ⟨rfl,⟨ha'.defers,hs,u2,u3,u4⟩,hb,hk⟩
   ·rintro e a' w' ⟨a0,rfl,rfl,⟨hd0,hs0,u2,u3,u4⟩,hb,hk⟩
    show Leaves _ _ a0.tmps _ (a0.defers++_) (.panicking (chP l en k)) w'
    rw [hd0,List.nil_append]
    have k2:=hH2.ge 2 b2 q2 r2
    have k3:=hH2.ge 3 b3 q3 r3
    have k4:=hH2.ge 4 b4 q4 r4
    have keep1:∀ i b q,ρ1 i=.lie b q→i ≠ 1000→w'.heap[b]?=w1.heap[b]?:=fun i b q hi hn=>hk b (hH2.ge i b q hi).2.2 fun id cap hid hl=>by
     have:=hH2.inj _ _ _ _ _ hi hl
     simp only [List.mem_singleton] at hid
     omega
    have hG':GW w':=gw_keep hgw hb.size fun b hlt=>by
     have hkb:=hgk b hlt
     refine hk b (Nat.lt_of_lt_of_le hlt (gw_ng hgw)) fun id cap _ hl=>(hH2.ge id b cap hl).2.1 hkb
    have s1:=hb.size
    refine leaves_cons (f:=64) (args:=#[.pointer (some ⟨b2,0,none⟩),.pointer (some ⟨b3,0,none⟩),.pointer (some ⟨b4,0,none⟩)]) (by simp) (by simp [go_sem]) ?_
    refine (pcatch_d b2 b3 b4 (hereP l en k) [] w' hG' (by omega) (by omega) (by omega) (hlo _ _ _ r2) (hlo _ _ _ r3) (hlo _ _ _ r4) n23 n24 n34 (v2.same rfl (keep1 2 b2 q2 r2 (by decide))) (v3.same rfl (keep1 3 b3 q3 r3 (by decide))) (v4.same rfl (keep1 4 b4 q4 r4 (by decide)))).mono ?_
    rintro e u' w'' ⟨rfl,rfl,hb2,hk2,x2,x3,x4⟩
    show Leaves _ _ _ _ [] .returning w''
    have hE:EndsIO Tryz.prog X Tryz.f40.results (parseV l en (.bad k)) [] [] ⟨[(2,.one (.optr 2 0)),(3,.one (.optr 3 0)),(4,.one (.optr 4 0))],[(2,.var 31 zK),(3,.var 3 [.t true (.lit (.int .i64 (hereP l en k)))]),(4,.var 32 [.t true (.lit (.int .i64 1))])]⟩:=by
     rw [Tryz.results40]
     show exitIO Tryz.prog X _ _ _ _ .ret _
     unfold parseV
     exact oj_ an0 (.inl rfl)
    have s2:=hb2.size
    have hHE:Hold X ⟨[(2,.one (.optr 2 0)),(3,.one (.optr 3 0)),(4,.one (.optr 4 0))],[(2,.var 31 zK),(3,.var 3 [.t true (.lit (.int .i64 (hereP l en k)))]),(4,.var 32 [.t true (.lit (.int .i64 1))])]⟩ (fun i=>if i=2 ∨ i=3 ∨ i=4 then ρ1 i else .dead) ⟨a0.tmps,[]⟩ w'':=by
     refine ⟨rfl,by rw [hX];exact hs0,(hH2.below.trans hb).trans hb2,fun b hkb=>?_,fun id b cap hid=>?_,fun i j b c d hi hj=>?_,fun id hid=>.inr ?_,fun t v hv=>?_,fun id B hB=>?_,hgk,hH2.gw⟩
     ·have hlt:=(hXK b).1 hkb
      have hz:=hH2.below.size
      rw [hXb] at hz
      have no:∀ id cap,ρ1 id ≠ .lie b cap:=fun id cap hl=>(hH2.ge id b cap hl).2.1 hkb
      refine (hk2 b (by omega) (fun h=>no 2 q2 (h ▸ r2)) (fun h=>no 3 q3 (h ▸ r3)) (fun h=>no 4 q4 (h ▸ r4))).trans ((hk b (by omega) fun id cap _=>no id cap).trans (hH2.keep b hkb))
     ·split at hid
      ·have:=hH2.ge id b cap hid
       exact ⟨this.1,this.2.1,by omega⟩
      ·cases hid
     ·split at hi
      ·split at hj
       ·exact hH2.inj i j b c d hi hj
       ·cases hj
      ·cases hi
     ·rw [hX] at hid
      exact if_neg (by omega)
     ·simp only [get] at hv
      split at hv
      ·rename_i ht;subst ht;cases hv
       exact ⟨_,u2,by unfold RdV RdC;show (match ρ1 2 with | .lie b _=>_ | _=>_);rw [r2]⟩
      ·split at hv
       ·rename_i ht;subst ht;cases hv
        exact ⟨_,u3,by unfold RdV RdC;show (match ρ1 3 with | .lie b _=>_ | _=>_);rw [r3]⟩
       ·split at hv
        ·rename_i ht;subst ht;cases hv
         exact ⟨_,u4,by unfold RdV RdC;show (match ρ1 4 with | .lie b _=>_ | _=>_);rw [r4]⟩
        ·cases hv
     ·simp only [get] at hB
      split at hB
      ·rename_i ht;subst ht;cases hB
       exact x2.has rfl r2
      ·split at hB
       ·rename_i ht;subst ht;cases hB
        exact x3.has rfl r3
       ·split at hB
        ·rename_i ht;subst ht;cases hB
         exact x4.has rfl r4
        ·cases hB
    obtain ⟨q,ρc,g1,g2,g3,g4,g5,g6,g7⟩:=hE _ _ w'' hHE
    subst hXd
    exact ⟨q,g1 _ rfl,q,ρc,rfl,hHE.below,hHE.keep,g2,g3,g4,g5,g6,g7⟩
end Go.Proofs.YtjdgejfhnfnmgaaGreatDoor.Ax
namespace Go.Proofs.YtjdgejfhnfnmgaaGreatDoor.Ax
open Go.RowKit
theorem opensStrsE (N:Nat):OpensE Tryz.prog N 1 (fun l=>[.sl (rS l)]) 26 fun l=>l.length * 16≤140737488351232∧l.length≤maxLen∧∀ x ∈ l,x.size≤140737488351232 :=
 oeSlice Tryz.underlying26 (by kernel_rfl) (by kernel_rfl) (by decide) (fun M _=>opensStrE M) (by kernel_rfl)
theorem opensBoolE (N:Nat):OpensE Tryz.prog N 1 (fun b=>[.lit (.bool b)]) 4 fun _=>True:=oeBool Tryz.underlying4 (by kernel_rfl)
theorem rCm_len (c:Cm):(rCm c).length=26:=by
 unfold rCm
 simp only [List.length_append,List.length_cons,List.length_nil,rE_len]
theorem size_max {n:Nat} (h:n≤140737488351232):n≤maxLen:=by unfold maxLen;omega
theorem opensCmE (N:Nat):OpensE Tryz.prog N 26 rCm 31 goodCm :=
 oeTo (oeStruct (f:=fun x:Int × ByteArray × ByteArray × ByteArray × List Col × Int × Vl × List Vl × List ByteArray × Ex × Bool × Ex × ByteArray × Int=>[.lit (.int .i64 x.1)]++([.lit (.string x.2.1)]++([.lit (.string x.2.2.1)]++([.lit (.string x.2.2.2.1)]++([.sl (rCs x.2.2.2.2.1)]++([.lit (.int .i64 x.2.2.2.2.2.1)]++(rV1 x.2.2.2.2.2.2.1++([.sl (rVs x.2.2.2.2.2.2.2.1)]++([.sl (rS x.2.2.2.2.2.2.2.2.1)]++(rE x.2.2.2.2.2.2.2.2.2.1++([.lit (.bool x.2.2.2.2.2.2.2.2.2.2.1)]++(rE x.2.2.2.2.2.2.2.2.2.2.2.1++([.lit (.string x.2.2.2.2.2.2.2.2.2.2.2.2.1)]++[.lit (.int .i64 x.2.2.2.2.2.2.2.2.2.2.2.2.2)]))))))))))))) (sz:=1 + (1 + (1 + (1 + (1 + (1 + (3 + (1 + (1 + (6 + (1 + (6 + (1 + 1)))))))))))))
   Tryz.underlying31 (ts:=[3,9,9,9,22,3,24,25,26,29,4,29,9,3]) rfl (by kernel_rfl) (by kernel_rfl) (by kernel_rfl) (fun x=>by simp only [List.length_append,List.length_cons,List.length_nil,rE_len])
   (fun M _=>oeCons (opensIntE M) (oeCons (opensStrE M) (oeCons (opensStrE M) (oeCons (opensStrE M) (oeCons (opensColsE M) (oeCons (opensIntE M) (oeCons (opensVlE M) (oeCons (opensVlsE M) (oeCons (opensStrsE M) (oeCons (opensExE M) (oeCons (opensBoolE M) (oeCons (opensExE M) (oeCons (opensStrE M) (oeOne (opensIntE M))))))))))))))))
  (fun x=>(⟨x.1,x.2.1,x.2.2.1,x.2.2.2.1,x.2.2.2.2.1,x.2.2.2.2.2.1,x.2.2.2.2.2.2.1,x.2.2.2.2.2.2.2.1,x.2.2.2.2.2.2.2.2.1,x.2.2.2.2.2.2.2.2.2.1,x.2.2.2.2.2.2.2.2.2.2.1,x.2.2.2.2.2.2.2.2.2.2.2.1,x.2.2.2.2.2.2.2.2.2.2.2.2.1,x.2.2.2.2.2.2.2.2.2.2.2.2.2⟩:Cm)) (fun _=>rfl) (fun _=>by rw [rCm_len])
  (fun x h=>by
   obtain ⟨_,h2,h3,h4,h5,_,h7,h8,h9,h10,_,h12,h13,_⟩:=h
   exact ⟨size_max h2,size_max h3,size_max h4,h5.2.1,fun x hx=>size_max (h5.2.2 x hx).1,size_max h7.2.2,h8.2.1,fun x hx=>size_max (h8.2.2 x hx).2.2,h9.2.1,fun x hx=>size_max (h9.2.2 x hx),h10,h12,size_max h13⟩)
end Go.Proofs.YtjdgejfhnfnmgaaGreatDoor.Ax
namespace Go.Proofs.YtjdgejfhnfnmgaaGreatDoor.Ax
open Go.RowKit
def PR.Holds {α:Type} (p:α→Nat→Prop):PR α→Prop
 | .ok a k=>p a k
 | .bad _=>True
theorem PR.Holds.bind {α β:Type} {p:α→Nat→Prop} {q:β→Nat→Prop} {x:PR α} {f:α→Nat→PR β} (hx:PR.Holds p x) (hf:∀ a k,p a k→PR.Holds q (f a k)):PR.Holds q (x.bind f):=by
 cases x with
 | ok a k=>exact hf a k hx
 | bad k=>trivial
theorem PR.Holds.mono {α:Type} {p q:α→Nat→Prop} {x:PR α} (hx:PR.Holds p x) (hf:∀ a k,p a k→q a k):PR.Holds q x:=by
 cases x with
 | ok a k=>exact hf a k hx
 | bad k=>trivial
theorem PR.Holds.any {α:Type} (x:PR α):PR.Holds (fun _ _=>True) x:=by cases x <;> trivial
theorem PR.Holds.cond {α:Type} {p:α→Nat→Prop} {b:Bool} {x y:PR α} (hx:b=true→PR.Holds p x) (hy:b=false→PR.Holds p y):PR.Holds p (bif b then x else y):=by
 cases b with
 | true=>exact hx rfl
 | false=>exact hy rfl
theorem scanS_good {s:ByteArray} (h:(scanS s).2.2=0):GoodL (scanS s).1:=by
 have h1:=(scanS_one s h).1
 have hlen:(scanS s).1.length≤2000:=by
  unfold scanS at h ⊢
  split at h
  ·cases h
  ·rename_i hs
   rw [if_neg hs]
   rcases hx:scanF (s.size + 1) s.data.toList 0 with ⟨ts,q,e⟩
   rw [hx] at h
   dsimp only at h ⊢
   subst h
   obtain rfl:=scanF_zero hx
   have:=(scanF_one _ _ _ (by rw [size_list];omega) ts hx).2
   rw [size_list] at this
   omega
 refine ⟨hlen,fun t ht=>?_⟩
 unfold allOne at h1
 have:=List.all_eq_true.1 h1 t ht
 rw [← one_tok]
 simpa using this
theorem tx_size {l:List Vl} (hl:GoodL l) (k:Nat):(txP l k).size≤2000:=by
 unfold txP
 cases ht:l[k]? with
 | none=>decide
 | some t =>
  obtain ⟨_,_,_,h,_⟩:=tok_facts (hl.tok t (List.mem_of_getElem? ht))
  exact h
theorem name_h {l:List Vl} (hl:GoodL l) (k:Nat):PR.Holds (fun s _=>s.size≤2000) (nameR l k):=PR.Holds.cond (fun _=>tx_size hl k) fun _=>trivial
theorem num_tok {l:List Vl} (hl:GoodL l) {k:Nat} (h:kindP l 2 k=true):-1000000000 < numL (txP l k).data.toList∧numL (txP l k).data.toList < 1000000000:=by
 unfold kindP at h
 unfold txP
 cases ht:l[k]? with
 | none=>rw [ht] at h;cases h
 | some t =>
  rw [ht] at h
  have hk:t.k=2:=by simpa using h
  obtain ⟨g1,g2,_⟩:=tok_num (hl.tok t (List.mem_of_getElem? ht))
  obtain ⟨g3,g4⟩:=g2 hk
  have:=numL_small g4 (by rw [size_list];exact g3) t.s.data.toList.length (Nat.le_refl _)
  rw [List.take_length] at this
  dsimp only
  omega
def smallV (v:Vl):Prop:=goodV v∧v.s.size≤2000
theorem vl_good (k n:Int) (s:ByteArray) (h1:-9223372036854775808≤k) (h2:k≤9223372036854775807) (h3:-9223372036854775808≤n) (h4:n≤9223372036854775807) (h5:s.size≤2000):smallV ⟨k,n,s⟩:=⟨⟨⟨h1,h2⟩,⟨h3,h4⟩,by show s.size≤_;omega⟩,h5⟩
theorem vP_good {l:List Vl} (hl:GoodL l) {k:Nat} {v:Vl} {k2:Nat} (h:vP l k=.yes v k2):smallV v:=by
 have hun:(unq (txP l k)).size≤2000:=by
  have:=tx_size hl k
  unfold unq
  rw [ByteArray.size_extract]
  omega
 have he:(⟨#[]⟩:ByteArray).size=0:=rfl
 unfold vP at h
 repeat' split at h
 all_goals first
  | (cases h;done)
  | (rename_i hk;have hz:=num_tok hl hk;cases h;exact vl_good _ _ _ (by decide) (by decide) (by omega) (by omega) (Nat.zero_le _))
  | (cases h;exact vl_good _ _ _ (by decide) (by decide) (by decide) (by decide) (by first | exact Nat.zero_le _ | exact hun))
theorem must_h {l:List Vl} (hl:GoodL l) (k:Nat):PR.Holds (fun v _=>smallV v) (mustR l k):=by
 unfold mustR
 cases h:vP l k with
 | yes v k2=>exact vP_good hl h
 | bad k2=>trivial
 | no=>trivial
theorem zero_good:goodV Vl.zero:=⟨⟨by decide,by decide⟩,⟨by decide,by decide⟩,Nat.zero_le _⟩
theorem zE_good:goodE zE:=.mk ⟨by decide,by decide⟩ zero_good (Nat.zero_le _) ⟨Nat.zero_le _,Nat.zero_le _⟩ (by intro a h;cases h)
theorem leaf_h {l:List Vl} (hl:GoodL l) (k:Nat):PR.Holds (fun e _=>goodE e) (leafR l k):=by
 unfold leafR
 cases h:vP l k with
 | yes v k2=>exact .mk ⟨by decide,by decide⟩ (vP_good hl h).1 (Nat.zero_le _) ⟨Nat.zero_le _,Nat.zero_le _⟩ (by intro a h;cases h)
 | bad k2=>trivial
 | no=>exact (name_h hl k).bind fun s k hs=>.mk ⟨by decide,by decide⟩ zero_good (by omega) ⟨Nat.zero_le _,Nat.zero_le _⟩ (by intro a h;cases h)
theorem ar1 {a:Ex}:[a].length * 80≤140737488351232∧[a].length≤maxLen:=⟨by rw [List.length_singleton];decide,by rw [List.length_singleton];decide⟩
theorem ar2 {a b:Ex}:[a,b].length * 80≤140737488351232∧[a,b].length≤maxLen:=by
 have:[a,b].length=2:=rfl
 rw [this]
 exact ⟨by decide,by decide⟩
theorem ex_h {l:List Vl} (hl:GoodL l):∀ (f k:Nat),PR.Holds (fun e _=>goodE e) (exR l f k)
 | 0,k=>by
  unfold exR
  exact PR.Holds.cond (fun _=>trivial) fun _=>leaf_h hl k
 | f + 1,k=>by
  have ih:=ex_h hl f
  unfold exR
  refine PR.Holds.cond (fun _=>?_) fun _=>PR.Holds.cond (fun _=>?_) fun _=>leaf_h hl k
  ·refine PR.Holds.bind (p:=fun e _=>goodE e) ?_ fun e k he=>(PR.Holds.any _).bind fun _ k _=>he
   unfold pairR
   refine (ih (k + 1)).bind fun a k ha=>PR.Holds.cond (fun _=>?_) fun _=>?_
   ·refine (PR.Holds.any _).bind fun _ k _=>?_
    exact .mk ⟨by decide,by decide⟩ zero_good (Nat.zero_le _) ar1 (by intro x hx;rw [List.mem_singleton] at hx;subst hx;exact ha)
   ·refine PR.Holds.bind (p:=fun i _=>0≤i∧i < 7) ?_ fun i k hi=>(ih k).bind fun b k hb=>?_
    ·cases hw:wordR l wAnd7 k with
     | ok i k2=>exact wordR_lt hw
     | bad k2=>trivial
    ·exact .mk ⟨by omega,by omega⟩ zero_good (Nat.zero_le _) ar2 (by
      intro x hx
      rcases List.mem_cons.1 hx with rfl | hx
      ·exact ha
      ·rw [List.mem_singleton] at hx;subst hx;exact hb)
  ·refine (ih (k + 1)).bind fun e k he=>?_
   exact .mk ⟨by decide,by decide⟩ zero_good (Nat.zero_le _) ar1 (by intro x hx;rw [List.mem_singleton] at hx;subst hx;exact he)
theorem more_h {α:Type} {p:α→Prop} {l:List Vl} {E:Nat→PR α} (hE:∀ k,PR.Holds (fun a _=>p a) (E k)):∀ (f k:Nat),PR.Holds (fun (r:List α) _=>r.length≤f∧∀ x ∈ r,p x) (moreR l E f k)
 | 0,k=>⟨Nat.le_refl _,by intro x hx;cases hx⟩
 | f + 1,k=>by
  unfold moreR
  refine PR.Holds.cond (fun _=>?_) fun _=>⟨Nat.zero_le _,by intro x hx;cases hx⟩
  refine (hE (k + 1)).bind fun a k ha=>(more_h hE f k).bind fun r k hr=>⟨by rw [List.length_cons];omega,?_⟩
  intro x hx
  rcases List.mem_cons.1 hx with rfl | hx
  ·exact ha
  ·exact hr.2 x hx
theorem some_h {α:Type} {p:α→Prop} {l:List Vl} (hl:GoodL l) {E:Nat→PR α} (hE:∀ k,PR.Holds (fun a _=>p a) (E k)) (k:Nat):PR.Holds (fun (r:List α) _=>r.length≤2002∧∀ x ∈ r,p x) (someR l E k):=by
 unfold someR
 refine (hE k).bind fun a k ha=>(more_h hE _ k).bind fun r k hr=>⟨by have:=hl.len;rw [List.length_cons];omega,?_⟩
 intro x hx
 rcases List.mem_cons.1 hx with rfl | hx
 ·exact ha
 ·exact hr.2 x hx
theorem list_h {α:Type} {p:α→Prop} {l:List Vl} (hl:GoodL l) {E:Nat→PR α} (hE:∀ k,PR.Holds (fun a _=>p a) (E k)) (k:Nat):PR.Holds (fun (r:List α) _=>r.length≤2002∧∀ x ∈ r,p x) (listR l E k):=by
 unfold listR
 exact (PR.Holds.any _).bind fun _ k _=>(some_h hl hE k).bind fun r k hr=>(PR.Holds.any _).bind fun _ k _=>hr
theorem where_h {l:List Vl} (hl:GoodL l) (k:Nat):PR.Holds (fun w _=>goodE w.2) (whereR l k):=by
 unfold whereR
 exact PR.Holds.cond (fun _=>(ex_h hl 60 (k + 1)).bind fun e k he=>he) fun _=>zE_good
theorem col_h {l:List Vl} (hl:GoodL l) (k:Nat):PR.Holds (fun c _=>c.name.size≤2000) (colR l k):=by
 unfold colR
 exact (name_h hl k).bind fun s k hs=>(PR.Holds.any _).bind fun t k _=>hs
theorem zCm_good:goodCm zCm:=⟨by decide,by decide,by decide,by decide,(by intro x h;cases h),by decide,by decide,(by intro x h;cases h),by decide,(by intro x h;cases h),zE_good,zE_good,by decide⟩
theorem max_le {n:Nat} (h:n≤2002):n≤maxLen:=by unfold maxLen;omega
theorem body_h {l:List Vl} (hl:GoodL l) (i:Int) (k:Nat):PR.Holds (fun c _=>goodCm c) (bodyR l i k):=by
 have z:=zCm_good
 have nm:=fun {q:Cm→Prop} (f:ByteArray→Nat→PR Cm) (k:Nat) (hf:∀ s k,s.size≤maxLen→PR.Holds (fun c _=>q c) (f s k))=>(name_h hl k).bind (q:=fun c _=>q c) (f:=f) fun s k hs=>hf s k (max_le (by omega))
 have an:=fun {α:Type} (x:PR α) (f:α→Nat→PR Cm) (hf:∀ a k,PR.Holds (fun c _=>goodCm c) (f a k))=>(PR.Holds.any x).bind (q:=fun c _=>goodCm c) (f:=f) fun a k _=>hf a k
 unfold bodyR
 refine PR.Holds.cond (fun _=>?_) fun _=>PR.Holds.cond (fun _=>?_) fun _=>PR.Holds.cond (fun _=>?_) fun _=>PR.Holds.cond (fun _=>?_) fun _=>PR.Holds.cond (fun _=>?_) fun _=>PR.Holds.cond (fun _=>?_) fun _=>PR.Holds.cond (fun _=>?_) fun _=>PR.Holds.cond (fun _=>?_) fun _=>PR.Holds.cond (fun _=>?_) fun _=>?_
 ·unfold createR
  refine an _ _ fun i k=>nm _ k fun s k hs=>PR.Holds.cond (fun _=>?_) fun _=>?_
  ·refine (list_h hl (col_h hl) k).bind fun r k hr=>?_
   exact { z with name:=hs,cols:=max_le hr.1,colN:=fun x hx=>max_le (by have:=hr.2 x hx;omega) }
  ·refine an _ _ fun _ k=>nm _ k fun o k ho=>an _ _ fun _ k=>nm _ k fun c k hc=>an _ _ fun _ k=>?_
   exact { z with name:=hs,other:=ho,column:=hc }
 ·unfold dropR
  refine an _ _ fun i k=>nm _ k fun s k hs=>?_
  exact { z with name:=hs }
 ·unfold alterR
  refine an _ _ fun _ k=>nm _ k fun s k hs=>an _ _ fun i k=>PR.Holds.cond (fun _=>?_) fun _=>PR.Holds.cond (fun _=>?_) fun _=>PR.Holds.cond (fun _=>?_) fun _=>?_
  ·refine (col_h hl k).bind fun x k hx=>an _ _ fun _ k=>(must_h hl k).bind fun v k hv=>?_
   exact { z with name:=hs,column:=max_le (by show x.name.size≤2002;omega),v:=max_le (by have:=hv.2;show v.s.size≤2002;omega) }
  ·refine nm _ k fun c k hc=>?_
   exact { z with name:=hs,column:=hc }
  ·refine PR.Holds.cond (fun _=>?_) fun _=>?_
   ·refine nm _ _ fun o k ho=>?_
    exact { z with name:=hs,other:=ho }
   ·refine nm _ k fun c k hc=>an _ _ fun _ k=>nm _ k fun o k ho=>?_
    exact { z with name:=hs,column:=hc,other:=ho }
  ·refine nm _ k fun c k hc=>an _ _ fun t k=>?_
   exact { z with name:=hs,column:=hc }
 ·unfold insertR
  refine an _ _ fun _ k=>nm _ k fun s k hs=>an _ _ fun _ k=>(list_h hl (must_h hl) k).bind fun r k hr=>?_
  exact { z with name:=hs,vals:=max_le hr.1,valS:=fun x hx=>max_le (by have:=(hr.2 x hx).2;omega) }
 ·unfold deleteR
  refine an _ _ fun _ k=>nm _ k fun s k hs=>(where_h hl k).bind fun w k hw=>?_
  exact { z with name:=hs,wh:=hw }
 ·unfold updateR
  refine nm _ k fun s k hs=>an _ _ fun _ k=>nm _ k fun c k hc=>an _ _ fun _ k=>(ex_h hl 60 k).bind fun e k he=>(where_h hl k).bind fun w k hw=>?_
  exact { z with name:=hs,column:=hc,ex:=he,wh:=hw }
 ·unfold selectsR
  refine PR.Holds.bind (p:=fun (r:List ByteArray) _=>r.length≤2002∧∀ x ∈ r,x.size≤2000) ?_ fun fs k hf=>an _ _ fun _ k=>nm _ k fun s k hs=>(where_h hl k).bind fun w k hw=>PR.Holds.bind (p:=fun o _=>o.size≤2000) ?_ fun o k ho=>an _ _ fun n k=>?_
  ·unfold fieldsR
   exact PR.Holds.cond (fun _=>⟨Nat.zero_le _,by intro x hx;cases hx⟩) fun _=>some_h hl (name_h hl) k
  ·unfold orderR
   exact PR.Holds.cond (fun _=>(PR.Holds.any _).bind fun _ k _=>name_h hl k) fun _=>Nat.zero_le _
  ·exact { z with name:=hs,fields:=max_le hf.1,fieldS:=fun x hx=>max_le (by have:=hf.2 x hx;omega),wh:=hw,order:=max_le (by show o.size≤2002;omega) }
 ·exact { z with }
 ·exact { z with }
 ·exact { z with }
theorem cmd_good {l:List Vl} (hl:GoodL l) {c:Cm} {k:Nat} (h:cmdR l=.ok c k):goodCm c:=by
 have h1:PR.Holds (fun c _=>goodCm c) (cmdR l):=by
  unfold cmdR
  exact (PR.Holds.any _).bind fun i k _=>(body_h hl i k).bind fun c k hc=>PR.Holds.cond (fun _=>trivial) fun _=>hc
 rw [h] at h1
 exact h1
end Go.Proofs.YtjdgejfhnfnmgaaGreatDoor.Ax
namespace Go.Proofs.YtjdgejfhnfnmgaaGreatDoor.Ax
open Go.RowKit
set_option linter.unusedSimpArgs false
attribute [local go_sem] ty3 ty4 ty9 ty5 ty26 ty54 ty22 ty24 ty25 ty27 ty29 ty31 ty91 ty85 prnNew prnUsed rowW
set_option linter.unusedVariables false
set_option maxRecDepth 100000
end Go.Proofs.YtjdgejfhnfnmgaaGreatDoor.Ax
