/-  -/
import Derived.Test.YtjdgejfhnfnmgaaGreatDoorP33
import Derived.Recover
import Derived.Test.YtjdgejfhnfnmgaaGreatDoorP20
namespace Go.Proofs.YtjdgejfhnfnmgaaGreatDoor.Ax
open Go.RowKit Go.Sort
set_option linter.unusedSimpArgs false
attribute [local go_sem] extV appD cutOwn appOwn clearOwn bdI mapD putD' keyOk getOr getM putM wholeV litCs asV asC ptrC fnC nilC nilPtr strRows_len runs runsN guardOf exec1 pureV modD rowD ev get St.app St.put St.turn loadC moveC fieldOf indexC lenC lenOk cutC bndOf evAll fieldV convV unV binV binI bitsV moreV intsT eqL eq1 valOf min1 lit1 litInt litI litB litS constV constC cellsV partsOf placesOf buildV fillL toT elemsOf rowsOf baseOf dstOk V.kill V.ment V.ments C.kill C.ment C.ments B.kill setD litRows litRows_append T.isLit callAll calleeV argsV argV viewC viewCs modeOk freeOps V.free C.free V.allF V.allFs C.allF C.allFs B.allF callD leL growB C.flat V.flat B.flat flatL flatB St.flat List.set_cons_zero List.set_cons_succ C.only C.onlys V.only V.onlys B.only renI C.ren C.rens V.ren V.rens B.ren renB renOk nodK Option.getD_some Option.getD_none Option.isSome_some implies_true false_implies C.fit C.fits V.fit V.fit1 V.fits Bool.and_self ite_self exitV resV resL resC outV outV.outs eqB nn cast0 Int.toNat_natCast List.getElem?_map Value.cells Value.oneCell' Nat.lt_irrefl decide_true decide_false and_true true_and and_self and_false false_and not_true_eq_false not_false_eq_true not_true not_false List.size_toArray all_len Nat.zero_add Nat.add_zero List.length_cons List.length_append List.length_replicate List.length_set List.length_nil List.length_map List.map_cons List.map_nil List.take_succ_cons List.take_zero List.take_nil List.drop_succ_cons List.drop_zero List.drop_nil List.cons_append List.nil_append List.append_nil List.all_cons List.all_nil Bool.and_true Bool.true_and Bool.and_false Bool.false_and Bool.not_true Bool.not_false Bool.or_false Bool.or_true Bool.false_or Bool.true_or List.filter_cons List.filter_nil List.contains_cons List.contains_nil beq_self_eq_true List.getElem?_cons_zero List.getElem?_cons_succ List.getElem?_nil Option.map_some Option.map_none Option.toList_some Option.toList_none List.isEmpty_cons List.isEmpty_nil Bool.false_eq_true Bool.true_eq_false List.getElem?_toArray List.not_mem_nil List.mem_cons or_false forall_eq List.mem_singleton forall_const Option.toArray addF if_true if_false dstsOf Oper.looksAt Op.operands Call.operands pick edge B.ment Region.binds List.any_cons List.any_nil List.filterMap_cons List.filterMap_nil ne_eq Bool.or_self List.isEmpty_iff Array.toList_append List.append_toArray Array.append_empty Option.bind_some Option.bind_none List.push_toArray argSv ioD modeIO staysOk callIO calleeIO argsIO valIO cellsIO cellIO butB zLe cLe csLe vLe vsLe bLe insLe renIOk nbOk anyText anyGc aliveF mK kdN klAt klAt.atL dstNe edgesOf foSl inL C.ids C.idss V.ids V.idss NDst klOf dropS true_or or_true or_self ty3 ty4 ty9 ty5 ty26 ty24 ty29 ty27 ty54 ty22 ty25 ty31 ty32 ty77 ty43 ty67 ty65
set_option linter.unusedVariables false
set_option maxRecDepth 100000
theorem wpList_defers {P:Program} {ops:Array Oper} {Q:Exit→Act→World→Prop} {ds:List Deferred}:∀ (l:List Oper) (a:Act) (w:World),wpList P ops Q l a w→wpList P ops (fun e a' w'=>∃ a0:Act,a'=⟨a0.tmps,a0.defers++ds⟩∧Q e a0 w') l ⟨a.tmps,a.defers++ds⟩ w
 | [],a,w,h=>by unfold wpList at h ⊢;exact ⟨a,rfl,h⟩
 | o :: l,a,w,h=>by
  have ih:=wpList_defers (P:=P) (ops:=ops) (Q:=Q) (ds:=ds) l
  have hput:∀ v,(⟨a.tmps,a.defers++ds⟩:Act).put o.dst v=⟨(a.put o.dst v).tmps,(a.put o.dst v).defers++ds⟩:=fun v=>by
   unfold Act.put
   cases o.dst <;> rfl
  have hev:(⟨a.tmps,a.defers++ds⟩:Act).eval=a.eval:=by funext x;cases x <;> rfl
  unfold wpList at h ⊢
  by_cases hw:Region.wanted o (yielded ops a.tmps)=true
  ·rw [if_pos hw] at h
   rw [if_pos hw]
   rcases h with h | ⟨h1,h2⟩
   ·left
    unfold Oper.wp at h ⊢
    rw [hev]
    generalize (execOp a.eval o).run P w=r at h ⊢
    cases r with
    | ok n w' =>
     cases n with
     | value v =>
      rw [Oper.upon_value] at h ⊢
      rw [hput]
      exact ih _ _ h
     | skip =>
      rw [Oper.upon_skip] at h ⊢
      rw [hput]
      exact ih _ _ h
     | defer d =>
      rw [Oper.upon_defer] at h ⊢
      have e:({ (⟨a.tmps,a.defers++ds⟩:Act) with defers:=d :: (a.defers++ds) }:Act).put o.dst undef=⟨(({ a with defers:=d :: a.defers }:Act).put o.dst undef).tmps,(({ a with defers:=d :: a.defers }:Act).put o.dst undef).defers++ds⟩:=by
       unfold Act.put
       cases o.dst <;> rfl
      rw [e]
      exact ih _ _ h
     | enter f args =>
      rw [Oper.upon_enter] at h ⊢
      refine h.mono fun e w'' he=>?_
      cases e with
      | returned v=>dsimp only at he ⊢;rw [hput];exact ih _ _ he
      | panicked ch=>exact ⟨a,rfl,he⟩
      | outgrown =>
       obtain ⟨a0,w0,hq⟩:=he
       exact ⟨⟨a0.tmps,a0.defers++ds⟩,w0,a0,rfl,hq⟩
     | row r args =>
      rw [Oper.upon_row] at h ⊢
      refine h.mono fun v w'' he=>?_
      rw [hput]
      exact ih _ _ he
     | _=>exact h.elim
    | halt x w' =>
     cases x with
     | panic v=>exact ⟨a,rfl,h⟩
     | _=>exact h.elim
   ·right
    refine ⟨?_,?_⟩
    ·unfold Oper.asks at h1 ⊢
     rw [hev]
     exact h1
    ·obtain ⟨a0,w0,hq⟩:=h2
     exact ⟨⟨a0.tmps,a0.defers++ds⟩,w0,a0,rfl,hq⟩
  ·rw [if_neg hw] at h
   rw [if_neg hw,hput]
   exact ih _ _ h
theorem pidle_d (p0 p1 p2:Addr) (w:World) :
  CallsD Tryz.prog 64 #[.pointer (some p0),.pointer (some p1),.pointer (some p2)] .returning w fun e u' w'=>e=.returned (.tuple #[])∧u'=.returning∧w'=w:=by
 refine callsD_of_wpS Tryz.func64 rfl fun c₀ cs hu=>?_
 apply wpS_seq
 apply wpS_region
 simp [wpOpsS,go_sem,recoverD,hu,Tryz.ntmps64,Exit.thenS]
 apply wpS_seq
 apply wpS_region
 simp [wpOpsS,go_sem,hu,Exit.thenS]
 refine wpS_cond (t:=false) (by simp [Act.eval,Array.replicate]) ?_
 simp only [Bool.false_eq_true,if_false]
 refine wpS_of_wp (wp_skip ?_)
 cases c₀
 simp_all [bodyPostS,results,Tryz.results64]
theorem rwr_assert {P:Program} {X:Cx} {st st2:St} {ops:Array Oper} {K:St→Prop} {l:List Oper} {o:Oper} {t:Nat} {T S:TypeId} {v:Value} {z:Bool} {y:TypeDesc} (hop:o.op=.typeAssert (.tmp t) S T true) (hv:get t st.sl=some (.one (.t z (.lit (.iface T v))))) (hy:P.underlying T=some y) (hni:∀ m,y ≠ .interface m) (hone:v.oneCell'=true) (hg:guardOf st ops o=some true) (hd:dstOk X.n o.dst=true) (hs:st.app (.pure (.tup [.one (.t true (.lit v)),.one (.t true (.lit (.bool true)))])) o.dst=st2) (h:RWr P X ops K (l,st2)):RWr P X ops K (o :: l,st):=by
 subst hs
 exact rw_step (D:=.pure (.tup [.one (.t true (.lit v)),.one (.t true (.lit (.bool true)))])) (fun _ ρ a w hH K Q hK=>by
  obtain ⟨x,hx1,hx2⟩:=hH.slots _ _ hv
  unfold RdV RdC RdT at hx2
  obtain ⟨rfl,_⟩:=hx2
  have he:a.eval (.tmp t)=.iface T v:=by simp [Act.eval,hx1]
  have hrun:(execOp a.eval o).run P w=.ok (.value (.tuple #[v,.bool true])) w:=by
   simp only [execOp,hop,he,Instr.typeAssert,Sem.run_bind,run_underlying hy,Result.andThen_ok]
   cases y <;> first
    | exact absurd rfl (hni _)
    | simp
  unfold Oper.wp
  rw [hrun,Oper.upon_value]
  refine hK _ ρ w ⟨rfl,rfl,?_⟩
  unfold RdV
  refine ⟨_,rfl,?_⟩
  unfold RdVs RdVs RdVs RdV RdC RdT
  exact ⟨⟨rfl,hone⟩,⟨rfl,rfl⟩,trivial⟩) hg hd h
def zK:List C:=[.t true (.lit (.int .i64 0)),.t true (.lit (.string .empty)),.t true (.lit (.string .empty)),.t true (.lit (.string .empty)),.nil,.t true (.lit (.int .i64 0)),.t true (.lit (.int .i64 0)),.t true (.lit (.int .i64 0)),.t true (.lit (.string .empty)),.nil,.nil,.t true (.lit (.int .i64 0)),.t true (.lit (.int .i64 0)),.t true (.lit (.int .i64 0)),.t true (.lit (.string .empty)),.t true (.lit (.string .empty)),.nil,.t true (.lit (.bool false)),.t true (.lit (.int .i64 0)),.t true (.lit (.int .i64 0)),.t true (.lit (.int .i64 0)),.t true (.lit (.string .empty)),.t true (.lit (.string .empty)),.nil,.t true (.lit (.string .empty)),.t true (.lit (.int .i64 0))]
def litC:C→Bool
 | .t _ (.lit _)=>true
 | .nil=>true
 | _=>false
theorem litC_rd {w w':World} {ok ok':Bool→Nat→Prop} {ρ ρ':Nat→R} {c:C} {x:Value} (hc:litC c=true) (h:RdC w ok ρ c x):RdC w' ok' ρ' c x:=by
 cases c with
 | t z y =>
  cases y with
  | lit v=>unfold RdC RdT at h ⊢;exact h
  | _=>cases hc
 | nil=>unfold RdC at h ⊢;exact h
 | _=>cases hc
theorem litAll_rd {w w':World} {ok ok':Bool→Nat→Prop} {ρ ρ':Nat→R}:∀ {cs:List C} {xs:List Value},cs.all litC=true→RdCs w ok ρ cs xs→RdCs w' ok' ρ' cs xs
 | [],[],_,_=>by unfold RdCs;trivial
 | [],_ :: _,_,h=>by unfold RdCs at h;exact h.elim
 | _ :: _,[],_,h=>by unfold RdCs at h;exact h.elim
 | c :: cs,x :: xs,hc,h=>by
  rw [List.all_cons,Bool.and_eq_true] at hc
  unfold RdCs at h ⊢
  exact ⟨litC_rd hc.1 h.1,litAll_rd hc.2 h.2⟩
theorem cw_out {P:Program} {X:Cx} {st:St} {ρ:Nat→R} {a:Act} {w:World} {c:Code} {Q:Exit→Act→World→Prop} (Q':Exit→St→Prop) (hH:Hold X st ρ a w) (h1:CW P X c Q' st) (h2:∀ e a' w' s ρ',Q' e s→Hold X s ρ' a' w'→Q e a' w'):c.wp P Q a w:=wp_mono (h1 ρ a w hH) fun e a' w' ⟨s,ρ',h3,h4⟩=>h2 e a' w' s ρ' h3 h4
def VarIs (w:World) (b:Nat) (T:TypeId) (cs:List C):Prop:=∃ xs:Array Value,w.heap[b]?=some (.cells xs T)∧RdCs w (fun _ _=>False) (fun _=>.dead) cs xs.toList
theorem VarIs.has {w:World} {b cap:Nat} {T:TypeId} {cs:List C} (h:VarIs w b T cs) (hl:cs.all litC=true) {X:Cx} {ρ:Nat→R} {id:Nat} (hr:ρ id=.lie b cap):HasB X w ρ id (.var T cs):=by
 obtain ⟨xs,h1,h2⟩:=h
 unfold HasB
 exact ⟨b,cap,hr,xs,h1,litAll_rd hl h2⟩
theorem HasB.varIs {w:World} {b cap:Nat} {T:TypeId} {cs:List C} {X:Cx} {ρ:Nat→R} {id:Nat} (h:HasB X w ρ id (.var T cs)) (hl:cs.all litC=true) (hr:ρ id=.lie b cap):VarIs w b T cs:=by
 unfold HasB at h
 obtain ⟨b',cap',h1,xs,h2,h3⟩:=h
 rw [hr] at h1
 cases h1
 exact ⟨xs,h2,litAll_rd hl h3⟩
def catchQ (X:Cx) (n:Int):Exit→St→Prop
 | .normal,s=>get 1000 s.bl=some (.var 31 zK)∧get 1001 s.bl=some (.var 3 [.t true (.lit (.int .i64 n))])∧get 1002 s.bl=some (.var 32 [.t true (.lit (.int .i64 1))])
 | .panic ch,_=>X.pan ch
 | _,_=>False
theorem pcatch_d (b0 b1 b2:Nat) (n:Int) (older:List PanicEntry) (w:World) (hG:GW w) (hb0:b0 < w.heap.size) (hb1:b1 < w.heap.size) (hb2:b2 < w.heap.size) (hn0:NG≤b0) (hn1:NG≤b1) (hn2:NG≤b2) (h01:b0 ≠ b1) (h02:b0 ≠ b2) (h12:b1 ≠ b2)
  (c0:VarIs w b0 31 zK) (c1:VarIs w b1 3 [.t true (.lit (.int .i64 0))]) (c2:VarIs w b2 32 [.t true (.lit (.int .i64 0))]) :
  CallsD Tryz.prog 64 #[.pointer (some ⟨b0,0,none⟩),.pointer (some ⟨b1,0,none⟩),.pointer (some ⟨b2,0,none⟩)] (.panicking ({ v:=.iface 96 (.int .i64 n),recovered:=false } :: older)) w fun e u' w'=>e=.returned (.tuple #[])∧u'=.panicking ({ v:=.iface 96 (.int .i64 n),recovered:=true } :: older)∧Below 0 w w'∧(∀ b,b < w.heap.size→b ≠ b0→b ≠ b1→b ≠ b2→w'.heap[b]?=w.heap[b]?)∧VarIs w' b0 31 zK∧VarIs w' b1 3 [.t true (.lit (.int .i64 n))]∧VarIs w' b2 32 [.t true (.lit (.int .i64 1))]:=by
 refine callsD_of_wpS Tryz.func64 rfl fun c₀ cs hu=>?_
 apply wpS_seq
 apply wpS_region
 simp [wpOpsS,go_sem,recoverD,hu,Tryz.ntmps64,Exit.thenS]
 apply wpS_seq
 apply wpS_region
 simp [wpOpsS,go_sem,hu,Exit.thenS]
 refine wpS_cond (t:=true) (by simp [Act.eval,Array.replicate]) ?_
 simp only [if_true]
 refine wpS_of_wp ?_
 obtain ⟨ρ,hρ⟩:∃ ρ:Nat→R,ρ=fun i=>if i=1000 then .lie b0 26 else if i=1001 then .lie b1 1 else if i=1002 then .lie b2 1 else .dead:=⟨_,rfl⟩
 have hlie:∀ id b cap,ρ id=.lie b cap→(id=1000∧b=b0) ∨ (id=1001∧b=b1) ∨ (id=1002∧b=b2):=fun id b cap h=>by
  rw [hρ] at h
  dsimp only at h
  split at h
  ·cases h;exact .inl ⟨by assumption,rfl⟩
  ·split at h
   ·cases h;exact .inr (.inl ⟨by assumption,rfl⟩)
   ·split at h
    ·cases h;exact .inr (.inr ⟨by assumption,rfl⟩)
    ·cases h
 have hr0:ρ 1000=.lie b0 26:=by rw [hρ];rfl
 have hr1:ρ 1001=.lie b1 1:=by rw [hρ];rfl
 have hr2:ρ 1002=.lie b2 1:=by rw [hρ];rfl
 clear hρ
 obtain ⟨X,hXd⟩:∃ X,X=Cx.io w (fun _=>False) (fun b=>b=b0 ∨ b=b1 ∨ b=b2) (by intro _ h;exact h.elim) ρ 19:=⟨_,rfl⟩
 have hX:X.n=19:=by rw [hXd];rfl
 have hH:Hold X ⟨[(3,.one (.t true (.lit (.iface 96 (.int .i64 n))))),(0,.one (.optr 1000 0)),(1,.one (.optr 1001 0)),(2,.one (.optr 1002 0))],[(1000,.var 31 zK),(1001,.var 3 [.t true (.lit (.int .i64 0))]),(1002,.var 32 [.t true (.lit (.int .i64 0))])]⟩ ρ { tmps:=#[Value.pointer (some ⟨b0,0,none⟩),Value.pointer (some ⟨b1,0,none⟩),Value.pointer (some ⟨b2,0,none⟩)]++((((Array.replicate 16 undef).setIfInBounds 3 (Value.iface 96 (Value.int IntKind.i64 n))).setIfInBounds 0 (Value.iface 96 (Value.int IntKind.i64 n))).setIfInBounds 4 (Value.iface 96 (Value.int IntKind.i64 n))).setIfInBounds 5 (Value.bool true),defers:=[] } w:=by
  subst hXd
  refine ⟨rfl,by simp [Cx.io],Below.refl _ _,fun _ _=>rfl,fun id b cap hid=>?_,fun i j b c d hi hj=>?_,fun _ _=>.inl rfl,fun t v hv=>?_,fun id B hB=>?_,fun b hb=>⟨Nat.lt_of_lt_of_le hb (gw_ng hG),fun id cap hid=>?_⟩,hG⟩
  ·have h:=hlie id b cap hid
   refine ⟨.inr ?_,fun hk=>hk.2 id cap hid,?_⟩
   ·rcases h with ⟨_,rfl⟩ | ⟨_,rfl⟩ | ⟨_,rfl⟩
    ·exact .inl rfl
    ·exact .inr (.inl rfl)
    ·exact .inr (.inr rfl)
   ·rcases h with ⟨_,rfl⟩ | ⟨_,rfl⟩ | ⟨_,rfl⟩ <;> assumption
  ·have h1:=hlie i b c hi
   have h2:=hlie j b d hj
   rcases h1 with ⟨rfl,h1⟩ | ⟨rfl,h1⟩ | ⟨rfl,h1⟩ <;> rcases h2 with ⟨rfl,h2⟩ | ⟨rfl,h2⟩ | ⟨rfl,h2⟩ <;> first
    | rfl
    | (exfalso;omega)
  ·simp only [get] at hv
   split at hv
   ·rename_i ht;subst ht;cases hv
    exact ⟨.iface 96 (.int .i64 n),by simp [Array.replicate],by unfold RdV RdC RdT;exact ⟨rfl,rfl⟩⟩
   ·split at hv
    ·rename_i ht;subst ht;cases hv
     exact ⟨.pointer (some ⟨b0,0,none⟩),by simp,by unfold RdV RdC;rw [hr0]⟩
    ·split at hv
     ·rename_i ht;subst ht;cases hv
      exact ⟨.pointer (some ⟨b1,0,none⟩),by simp,by unfold RdV RdC;rw [hr1]⟩
     ·split at hv
      ·rename_i ht;subst ht;cases hv
       exact ⟨.pointer (some ⟨b2,0,none⟩),by simp,by unfold RdV RdC;rw [hr2]⟩
      ·cases hv
  ·simp only [get] at hB
   split at hB
   ·rename_i ht;subst ht;cases hB
    exact c0.has rfl hr0
   ·split at hB
    ·rename_i ht;subst ht;cases hB
     exact c1.has rfl hr1
    ·split at hB
     ·rename_i ht;subst ht;cases hB
      exact c2.has rfl hr2
     ·cases hB
  ·have:=hlie id b cap hid
   omega
 refine cw_out (catchQ X n) hH ?_ ?_
 ·refine gs_ ?_
  refine rn_ 0 an0 fun K hK=>?_
  refine rx_ an0 ?_
  refine rwr_assert rfl rfl Tryz.underlying96 (by intro m h;cases h) rfl (by simp only [go_sem]) (by rw [hX];rfl) (by simp only [go_sem,hX];exact rfl) ?_
  refine rx_ an0 ?_
  refine rwr_nil (hK _ ?_)
  clear hK K
  refine au_ an0 ?_
  exact ⟨rfl,rfl,rfl⟩
 ·rintro e a' w' s ρ' hq hH'
  cases e with
  | normal =>
   obtain ⟨g0,g1,g2⟩:=hq
   have k0:=hH'.blocks _ _ g0
   have k1:=hH'.blocks _ _ g1
   have k2:=hH'.blocks _ _ g2
   have q0:ρ' 1000=.lie b0 26:=((hH'.pin 1000 (by rw [hX];decide)).resolve_right k0.alive).trans (by subst hXd;exact hr0)
   have q1:ρ' 1001=.lie b1 1:=((hH'.pin 1001 (by rw [hX];decide)).resolve_right k1.alive).trans (by subst hXd;exact hr1)
   have q2:ρ' 1002=.lie b2 1:=((hH'.pin 1002 (by rw [hX];decide)).resolve_right k2.alive).trans (by subst hXd;exact hr2)
   have kb:=hH'.below
   have kk:=hH'.keep
   subst hXd
   refine ⟨hH'.defers,_,rfl,.tuple #[],by simp [results,Tryz.results64],rfl,rfl,kb,fun b hb e0 e1 e2=>kk b ⟨hb,fun id cap hid=>?_⟩,k0.varIs rfl q0,k1.varIs rfl q1,k2.varIs rfl q2⟩
   have:=hlie id b cap hid
   omega
  | panic ch =>
   subst hXd
   exact hq.elim
  | _=>exact hq.elim
end Go.Proofs.YtjdgejfhnfnmgaaGreatDoor.Ax
namespace Go.Proofs.YtjdgejfhnfnmgaaGreatDoor.Ax
open Go.RowKit
open Go.Sort
set_option linter.unusedSimpArgs false
attribute [local go_sem] ty3 ty4 ty9 ty5 ty26 ty24 ty29 ty27 ty54 ty22 ty25 ty31 ty32 ty77 ty43 ty67 ty65 zK zC cmC
set_option linter.unusedVariables false
set_option maxRecDepth 100000
section
variable {P:Program} {X:Cx} {st st2:St} {ρ:Nat→R} {a:Act} {w:World} {o:Oper} {l:List Oper} {ops:Array Oper} {Q:Exit→Act→World→Prop}
theorem list_step {v:V} (hH:Hold X st ρ a w) (hx:exec1 P st o=some (.pure v)) (hg:guardOf st ops o=some true) (hd:dstOk X.n o.dst=true) (hs:st.app (.pure v) o.dst=st2) (h:∀ a',Hold X st2 ρ a' w→wpList P ops Q l a' w):wpList P ops Q (o :: l) a w:=by
 subst hs
 unfold wpList
 rw [guard_sound hH hg,if_pos rfl]
 refine .inl ((exec1_runs hx).step hd ρ a w hH _ _ (fun x ρ' w' ho=>?_))
 have h2:=hH.app (D:=.pure v) ho (dst_lt hd)
 obtain ⟨rfl,rfl,hv⟩:=ho
 exact h _ h2
theorem list_pan {c:Call} {cv:Operand} {f:FuncId} {args as_:List V} {ins:List (Nat × B)} {ids:List Nat} {ch:List PanicEntry} {m:Bool} {n:Nat} (hids:ins.map (fun p:Nat × B=>p.1)=ids) (hH:Hold X st ρ a w) (hg:guardOf st ops o=some true) (hop:o.op=.call c) (hcal:c.callee=.value cv)
  (hc:callIO ids st n cv c.args.toList=some (f,m,as_)) (hsp:SpPan P f args ins ch) (hle:vsLe args as_) (hins:insLe st.bl ins) (hcl:ins.all (fun p=>p.2.only ids)=true)
  (hQ:∀ w',Below 0 w w'→(∀ b,b < w.heap.size→(∀ id cap,id ∈ ids→ρ id ≠ .lie b cap)→w'.heap[b]?=w.heap[b]?)→Q (.panic ch) a w'):wpList P ops Q [o] a w:=by
 unfold wpList
 rw [guard_sound hH hg,if_pos rfl]
 refine .inl ?_
 subst hids
 obtain ⟨xs,hrun,hargs⟩:=callIO_run hop hcal hc hsp.enters hH
 generalize hids:ins.map (fun p:Nat × B=>p.1)=ids at *
 have hargs':=hargs.le hle
 unfold Oper.wp
 rw [hrun,Oper.upon_enter]
 have hin:∀ p ∈ ins,p.1 ∈ ids:=fun p hp=>by rw [← hids];exact List.mem_map.2 ⟨p,hp,rfl⟩
 refine (hsp.calls w _ (seeF X ρ w ids) seeS_lt (onlyR ids ρ) (fun id b cap hid=>?_) (fun i j b c' d hi hj=>hH.inj i j b c' d (onlyR_lie hi).1 (onlyR_lie hj).1) (fun id hid=>if_neg (by rw [hids] at hid;exact hid)) (fun id b hg=>insLe_has hH hins (fun p hp=>List.all_eq_true.1 hcl p hp) hin hg) _ hH.gww hargs').mono ?_
 ·obtain ⟨h1,h2⟩:=onlyR_lie hid
  exact ⟨.inr ⟨id,cap,h2,h1⟩,(hH.ge id b cap h1).2.2,Nat.le_of_not_lt fun hlt=>(hH.ge id b cap h1).2.1 (hH.gk b hlt)⟩
 ·rintro e w' ⟨rfl,hb,hkeep⟩
  refine hQ w' hb fun b hlt hno=>hkeep b ⟨hlt,fun id cap hid=>?_⟩
  obtain ⟨h1,h2⟩:=onlyR_lie hid
  exact hno id cap h2 h1
theorem region_defers {id:Nat} {K:St→Prop} {ds:List Deferred} (hnp:∀ ch,¬ X.pan ch) (hH:Hold X st ρ a w) (h2:∀ s ρ' a0 w',K s→Hold X s ρ' a0 w'→Q .normal ⟨a0.tmps,ds⟩ w')
  (h3:∀ K':St→Prop,(∀ s,K s→K' s)→RWr P X l.toArray K' (l,st)):(Code.region id l.toArray false).wp P Q ⟨a.tmps,ds⟩ w:=by
 have h4:=wpList_defers (ds:=ds) l a w (h3 K (fun _ h=>h) ρ a w hH (fun e a' w'=>e=.normal∧∃ s ρ',K s∧Hold X s ρ' a' w') ⟨fun s ρ' a' w' hk hh=>⟨rfl,s,ρ',hk,hh⟩,fun ch _ _ _ _ hp _=>(hnp ch hp).elim⟩)
 rw [hH.defers,List.nil_append] at h4
 refine wp_mono (wp_region_lit h4) fun e a' w' ⟨a0,he,hn,s,ρ',hk,hh⟩=>?_
 subst hn
 rw [he,hh.defers,List.nil_append]
 exact h2 s ρ' a0 w' hk hh
end
theorem optr_at {P:Program} {X:Cx} {st:St} {ρ:Nat→R} {a:Act} {w:World} (hH:Hold X st ρ a w) {t id off:Nat} (h:get t st.sl=some (.one (.optr id off))):∃ b cap,ρ id=.lie b cap∧a.tmps[t]?=some (.pointer (some ⟨b,off,none⟩)):=by
 obtain ⟨x,h1,h2⟩:=hH.slots t _ h
 unfold RdV RdC at h2
 cases hr:ρ id with
 | lie b cap =>
  rw [hr] at h2
  dsimp only at h2
  exact ⟨b,cap,rfl,by rw [h1,h2]⟩
 | dead=>rw [hr] at h2;exact h2.elim
 | nil=>rw [hr] at h2;exact h2.elim
theorem VarIs.same {w w':World} {b:Nat} {T:TypeId} {cs:List C} (h:VarIs w b T cs) (hl:cs.all litC=true) (e:w'.heap[b]?=w.heap[b]?):VarIs w' b T cs:=by
 obtain ⟨xs,h1,h2⟩:=h
 exact ⟨xs,e.trans h1,litAll_rd hl h2⟩
def parseV (l:List Vl) (en:Int):PR Cm→V
 | .ok c _=>.tup [.agg (cmC c),.one (.t true (.lit (.int .i64 0))),.one (.t true (.lit (.int .i64 0)))]
 | .bad k=>.tup [.agg zK,.one (.t true (.lit (.int .i64 (hereP l en k)))),.one (.t true (.lit (.int .i64 1)))]
def parS (l:List Vl) (en:Int):St:=⟨[(2,.one (.optr 2 0)),(3,.one (.optr 3 0)),(4,.one (.optr 4 0)),(0,.one (.optr 1000 0))],[(2,.var 31 zK),(3,.var 3 [.t true (.lit (.int .i64 0))]),(4,.var 32 [.t true (.lit (.int .i64 0))]),(1000,.var 67 ([.t false (.sl (rVs l)),.t false (.lit (.int .i64 ((0:Nat):Int))),.t false (.lit (.int .i64 en))]++zC))]⟩
attribute [local go_sem] parS
def parT (l:List Vl) (en:Int) (k:Nat) (c:Cm) (z:List C):St:=⟨[(2,.one (.optr 2 0)),(3,.one (.optr 3 0)),(4,.one (.optr 4 0)),(0,.one (.optr 1000 0))],[(2,.var 31 z),(3,.var 3 [.t true (.lit (.int .i64 0))]),(4,.var 32 [.t true (.lit (.int .i64 0))]),(1000,.var 67 ([.t false (.sl (rVs l)),.t false (.lit (.int .i64 k)),.t false (.lit (.int .i64 en))]++cmC c))]⟩
attribute [local go_sem] parT
set_option maxHeartbeats 16000000 in
theorem pparse_io (l:List Vl) (hl:GoodL l) (en:Int):SpIO Tryz.prog 40 [.one (.optr 1000 0)] [(1000,.var 67 ([.t false (.sl (rVs l)),.t false (.lit (.int .i64 ((0:Nat):Int))),.t false (.lit (.int .i64 en))]++zC))] (parseV l en (cmdK l 0)) [] [] where
 enters:=enters_of Tryz.func40 (by kernel_rfl) rfl
 calls w S F hS ρ hF hinj hdead hins vs hG hvs:=by
  have hlv:=hvs.len
  have hH:Hold (Cx.io w S F hS ρ 12) ⟨argSv 0 [.one (.optr 1000 0)],[(1000,.var 67 ([.t false (.sl (rVs l)),.t false (.lit (.int .i64 ((0:Nat):Int))),.t false (.lit (.int .i64 en))]++zC))]⟩ ρ { tmps:=vs.toArray++Array.replicate (12 - vs.toArray.size) undef,defers:=[] } w:=by
   refine ⟨rfl,by simp [Cx.io];simp at hlv;omega,Below.refl _ _,fun _ _=>rfl,fun id b cap hid=>⟨.inr (hF id b cap hid).1,fun hk=>hk.2 id cap hid,(hF id b cap hid).2.1⟩,hinj,fun _ _=>.inl rfl,fun t v hv=>?_,hins,fun b hb=>⟨Nat.lt_of_lt_of_le hb (gw_ng hG),fun id cap hid=>by have:=(hF id b cap hid).2.2;omega⟩,hG⟩
   obtain ⟨_,x,h1,h2⟩:=argSv_rd hvs hv
   refine ⟨x,?_,h2⟩
   rw [Nat.sub_zero] at h1
   have:t < vs.length:=by
    rcases Nat.lt_or_ge t vs.length with h | h
    ·exact h
    ·rw [List.getElem?_eq_none h] at h1;cases h1
   simp only [Array.getElem?_append,List.size_toArray,this,if_true]
   simpa using h1
  refine calls_of_wp_defers Tryz.func40 rfl ?_
  rw [Tryz.ntmps40]
  have hC:=pcommand_q l hl en 0
  unfold zC at hC
  have hnp:∀ ch,¬ (Cx.io w S F hS ρ 12).pan ch:=fun _ h=>h
  have hXK:∀ b,(Cx.io w S F hS ρ 12).K b ↔ b < w.heap.size∧∀ id cap,ρ id ≠ .lie b cap:=fun _=>Iff.rfl
  have hXb:(Cx.io w S F hS ρ 12).base=w:=rfl
  have hX:(Cx.io w S F hS ρ 12).n=12:=rfl
  have hXp:(Cx.io w S F hS ρ 12).pin=ρ:=rfl
  generalize hXd:Cx.io w S F hS ρ 12=X at hH hnp hXK hXb hX hXp
  refine wp_seq ?_
  refine cw_out (fun e s=>match e with | .normal=>(parS l en).le s | .panic ch=>X.pan ch | _=>False) hH ?_ ?_
  ·refine gs_ ?_
   refine au_ an0 ?_
   unfold parS
   exact le_
  rintro e a1 w1 s ρ1 hq hH1
  cases e with
  | normal=>?_
  | panic ch=>exact (hnp ch hq).elim
  | _=>exact hq.elim
  have hH1:Hold X (parS l en) ρ1 a1 w1:=hH1.le hq
  clear hq hH
  obtain ⟨b2,q2,r2,t2⟩:=optr_at (P:=Tryz.prog) hH1 (t:=2) rfl
  obtain ⟨b3,q3,r3,t3⟩:=optr_at (P:=Tryz.prog) hH1 (t:=3) rfl
  obtain ⟨b4,q4,r4,t4⟩:=optr_at (P:=Tryz.prog) hH1 (t:=4) rfl
  have hsz:=hH1.size
  rw [hX] at hsz
  have hdf:=hH1.defers
  have hmf:∀ (fn:Fn) (first cap:Array Value) (w:World),(Instr.makeFunc fn first cap).run Tryz.prog w=.ok (.func fn first cap) w:=fun _ _ _ _=>rfl
  show Code.wp _ _ _ a1 w1
  refine wp_seq ?_
  refine wp_region_lit ?_
  obtain ⟨tm,df⟩:=a1
  dsimp only at t2 t3 t4 hsz hdf
  subst hdf
  simp [wpList,Oper.wp,go_sem,Exit.then,hmf,t2,t3,t4,hsz]
  refine .inl (.inl ?_)
  have e2:tm[2]=.pointer (some ⟨b2,0,none⟩):=(Array.getElem?_eq_some_iff.1 t2).2
  have e3:tm[3]=.pointer (some ⟨b3,0,none⟩):=(Array.getElem?_eq_some_iff.1 t3).2
  have e4:tm[4]=.pointer (some ⟨b4,0,none⟩):=(Array.getElem?_eq_some_iff.1 t4).2
  rw [e2,e3,e4]
  have hH2:Hold X (parS l en) ρ1 ⟨tm.setIfInBounds 5 (Value.func (Fn.func 64) #[] #[.pointer (some ⟨b2,0,none⟩),.pointer (some ⟨b3,0,none⟩),.pointer (some ⟨b4,0,none⟩)]),[]⟩ w1:=(hH1.put (dst:=some 5) (v:=.junk) (by intro d hd;cases hd;rw [hX];decide) (by unfold RdV;trivial)).le (by unfold parS;exact le_)
  generalize tm.setIfInBounds 5 (Value.func (Fn.func 64) #[] #[.pointer (some ⟨b2,0,none⟩),.pointer (some ⟨b3,0,none⟩),.pointer (some ⟨b4,0,none⟩)])=tm2 at *
  cases hr:cmdK l 0 with
  | ok c k =>
   rw [hr] at hC
   have hC:=SpIO.ren (SpQ.ok hC) [(1000,1000)] rfl
   refine wp_seq ?_
   refine region_defers (K:=(parT l en k c zK).le) hnp hH2 (fun s ρ' a0 w' hk hH'=>?_) (fun K hK=>?_)
   ·show Code.wp _ _ _ _ w'
    have hH':=hH'.le hk
    refine wp_seq ?_
    refine region_defers (K:=(parT l en k c (cmC c)).le) hnp hH' (fun s3 ρ3 a3 w3 hk3 hH3=>?_) (fun K hK=>?_)
    ·show Code.wp _ _ _ _ w3
     have hH3:=hH3.le hk3
     refine wp_ret ?_
     refine leaves_cons (f:=64) (args:=#[.pointer (some ⟨b2,0,none⟩),.pointer (some ⟨b3,0,none⟩),.pointer (some ⟨b4,0,none⟩)]) (by simp) (by simp [go_sem]) ?_
     refine (pidle_d _ _ _ w3).mono ?_
     rintro e u' w'' ⟨rfl,rfl,rfl⟩
     have hE:EndsIO Tryz.prog X Tryz.f40.results (parseV l en (.ok c k)) [] [] (parT l en k c (cmC c)):=by
      rw [Tryz.results40]
      show exitIO Tryz.prog X _ _ _ _ .ret _
      unfold parseV parT
      exact oj_ an0 (.inl rfl)
     obtain ⟨q,ρc,g1,g2,g3,g4,g5,g6,g7⟩:=hE ρ3 a3 w'' hH3
     subst hXd
     exact ⟨q,g1 _ rfl,q,ρc,rfl,hH3.below,hH3.keep,g2,g3,g4,g5,g6,g7⟩
    ·unfold parT
     refine rx_ an0 ?_
     refine rwr_nil (hK _ ?_)
     unfold parT
     exact le_
   ·unfold parS
    refine rx_ an0 ?_
    refine qio_ an0 hC ?_
    refine rx_ an0 ?_
    refine rwr_nil (hK _ ?_)
    unfold parT
    exact le_
  | bad k =>
   rw [hr] at hC
   have hC:=SpPan.ren (SpQ.bad hC) [(1000,1000)] rfl
   have hgw:=hH2.gww
   have hgk:=hH2.gk
   have hlo:∀ id b cap,ρ1 id=.lie b cap→NG≤b:=fun id b cap h=>Nat.le_of_not_lt fun hlt=>(hH2.ge id b cap h).2.1 (hgk b hlt)
   have n23:b2 ≠ b3:=fun h=>by have:=hH2.inj 2 3 b2 q2 q3 r2 (by rw [h];exact r3);omega
   have n24:b2 ≠ b4:=fun h=>by have:=hH2.inj 2 4 b2 q2 q4 r2 (by rw [h];exact r4);omega
   have n34:b3 ≠ b4:=fun h=>by have:=hH2.inj 3 4 b3 q3 q4 r3 (by rw [h];exact r4);omega
   have v2:=(hH2.blocks 2 _ rfl).varIs (cs:=zK) rfl r2
   have v3:=(hH2.blocks 3 _ rfl).varIs (cs:=[.t true (.lit (.int .i64 0))]) rfl r3
   have v4:=(hH2.blocks 4 _ rfl).varIs (cs:=[.t true (.lit (.int .i64 0))]) rfl r4
   refine wp_seq ?_
   refine wp_mono (wp_region_lit (wpList_defers (ds:=[{ target:=Target.fn (Fn.func 64) #[.pointer (some ⟨b2,0,none⟩),.pointer (some ⟨b3,0,none⟩),.pointer (some ⟨b4,0,none⟩)],args:=#[] }]) (Q:=fun e a' w'=>e=.panic (chP l en k)∧(a'.defers=[]∧a'.tmps.size=12∧a'.tmps[2]?=some (.pointer (some ⟨b2,0,none⟩))∧a'.tmps[3]?=some (.pointer (some ⟨b3,0,none⟩))∧a'.tmps[4]?=some (.pointer (some ⟨b4,0,none⟩)))∧Below 0 w1 w'∧∀ b,b < w1.heap.size→(∀ id cap,id ∈ [1000]→ρ1 id ≠ .lie b cap)→w'.heap[b]?=w1.heap[b]?) _ ⟨tm2,[]⟩ w1 ?_)) ?_
   ·have hH2':=hH2
    unfold parS at hH2'
    refine list_step hH2' (by simp only [go_sem];exact rfl) (by simp only [go_sem]) (by rw [hX];rfl) (by simp only [go_sem,hX];exact rfl) fun a' ha'=>?_
    refine list_pan (ids:=[1000]) rfl ha' (by simp only [go_sem]) rfl rfl (n:=40) (by simp only [go_sem] <;> exact rfl) hC (by simp only [go_sem] <;> fail) (by simp only [go_sem] <;> fail) (by simp only [go_sem] <;> fail) fun w' hb hk=>?_
    have hs:=ha'.size
    rw [hX] at hs
    obtain ⟨c2,d2,s2,u2⟩:=optr_at (P:=Tryz.prog) ha' (t:=2) rfl
    obtain ⟨c3,d3,s3,u3⟩:=optr_at (P:=Tryz.prog) ha' (t:=3) rfl
    obtain ⟨c4,d4,s4,u4⟩:=optr_at (P:=Tryz.prog) ha' (t:=4) rfl
    rw [r2] at s2
    rw [r3] at s3
    rw [r4] at s4
    cases s2
    cases s3
    cases s4
    exact ⟨rfl,⟨ha'.defers,hs,u2,u3,u4⟩,hb,hk⟩
   ·rintro e a' w' ⟨a0,rfl,rfl,⟨hd0,hs0,u2,u3,u4⟩,hb,hk⟩
    show Leaves _ _ a0.tmps _ (a0.defers++_) (.panicking (chP l en k)) w'
    rw [hd0,List.nil_append]
    have k2:=hH2.ge 2 b2 q2 r2
    have k3:=hH2.ge 3 b3 q3 r3
    have k4:=hH2.ge 4 b4 q4 r4
    have keep1:∀ i b q,ρ1 i=.lie b q→i ≠ 1000→w'.heap[b]?=w1.heap[b]?:=fun i b q hi hn=>hk b (hH2.ge i b q hi).2.2 fun id cap hid hl=>by
     have:=hH2.inj _ _ _ _ _ hi hl
     simp only [List.mem_singleton] at hid
     omega
    have hG':GW w':=gw_keep hgw hb.size fun b hlt=>by
     have hkb:=hgk b hlt
     refine hk b (Nat.lt_of_lt_of_le hlt (gw_ng hgw)) fun id cap _ hl=>(hH2.ge id b cap hl).2.1 hkb
    have s1:=hb.size
    refine leaves_cons (f:=64) (args:=#[.pointer (some ⟨b2,0,none⟩),.pointer (some ⟨b3,0,none⟩),.pointer (some ⟨b4,0,none⟩)]) (by simp) (by simp [go_sem]) ?_
    refine (pcatch_d b2 b3 b4 (hereP l en k) [] w' hG' (by omega) (by omega) (by omega) (hlo _ _ _ r2) (hlo _ _ _ r3) (hlo _ _ _ r4) n23 n24 n34 (v2.same rfl (keep1 2 b2 q2 r2 (by decide))) (v3.same rfl (keep1 3 b3 q3 r3 (by decide))) (v4.same rfl (keep1 4 b4 q4 r4 (by decide)))).mono ?_
    rintro e u' w'' ⟨rfl,rfl,hb2,hk2,x2,x3,x4⟩
    show Leaves _ _ _ _ [] .returning w''
    have hE:EndsIO Tryz.prog X Tryz.f40.results (parseV l en (.bad k)) [] [] ⟨[(2,.one (.optr 2 0)),(3,.one (.optr 3 0)),(4,.one (.optr 4 0))],[(2,.var 31 zK),(3,.var 3 [.t true (.lit (.int .i64 (hereP l en k)))]),(4,.var 32 [.t true (.lit (.int .i64 1))])]⟩:=by
     rw [Tryz.results40]
     show exitIO Tryz.prog X _ _ _ _ .ret _
     unfold parseV
     exact oj_ an0 (.inl rfl)
    have s2:=hb2.size
    have hHE:Hold X ⟨[(2,.one (.optr 2 0)),(3,.one (.optr 3 0)),(4,.one (.optr 4 0))],[(2,.var 31 zK),(3,.var 3 [.t true (.lit (.int .i64 (hereP l en k)))]),(4,.var 32 [.t true (.lit (.int .i64 1))])]⟩ (fun i=>if i=2 ∨ i=3 ∨ i=4 then ρ1 i else .dead) ⟨a0.tmps,[]⟩ w'':=by
     refine ⟨rfl,by rw [hX];exact hs0,(hH2.below.trans hb).trans hb2,fun b hkb=>?_,fun id b cap hid=>?_,fun i j b c d hi hj=>?_,fun id hid=>.inr ?_,fun t v hv=>?_,fun id B hB=>?_,hgk,hH2.gw⟩
     ·have hlt:=(hXK b).1 hkb
      have hz:=hH2.below.size
      rw [hXb] at hz
      have no:∀ id cap,ρ1 id ≠ .lie b cap:=fun id cap hl=>(hH2.ge id b cap hl).2.1 hkb
      refine (hk2 b (by omega) (fun h=>no 2 q2 (h ▸ r2)) (fun h=>no 3 q3 (h ▸ r3)) (fun h=>no 4 q4 (h ▸ r4))).trans ((hk b (by omega) fun id cap _=>no id cap).trans (hH2.keep b hkb))
     ·split at hid
      ·have:=hH2.ge id b cap hid
       exact ⟨this.1,this.2.1,by omega⟩
      ·cases hid
     ·split at hi
      ·split at hj
       ·exact hH2.inj i j b c d hi hj
       ·cases hj
      ·cases hi
     ·rw [hX] at hid
      exact if_neg (by omega)
     ·simp only [get] at hv
      split at hv
      ·rename_i ht;subst ht;cases hv
       exact ⟨_,u2,by unfold RdV RdC;show (match ρ1 2 with | .lie b _=>_ | _=>_);rw [r2]⟩
      ·split at hv
       ·rename_i ht;subst ht;cases hv
        exact ⟨_,u3,by unfold RdV RdC;show (match ρ1 3 with | .lie b _=>_ | _=>_);rw [r3]⟩
       ·split at hv
        ·rename_i ht;subst ht;cases hv
         exact ⟨_,u4,by unfold RdV RdC;show (match ρ1 4 with | .lie b _=>_ | _=>_);rw [r4]⟩
        ·cases hv
     ·simp only [get] at hB
      split at hB
      ·rename_i ht;subst ht;cases hB
       exact x2.has rfl r2
      ·split at hB
       ·rename_i ht;subst ht;cases hB
        exact x3.has rfl r3
       ·split at hB
        ·rename_i ht;subst ht;cases hB
         exact x4.has rfl r4
        ·cases hB
    obtain ⟨q,ρc,g1,g2,g3,g4,g5,g6,g7⟩:=hE _ _ w'' hHE
    subst hXd
    exact ⟨q,g1 _ rfl,q,ρc,rfl,hHE.below,hHE.keep,g2,g3,g4,g5,g6,g7⟩
end Go.Proofs.YtjdgejfhnfnmgaaGreatDoor.Ax
