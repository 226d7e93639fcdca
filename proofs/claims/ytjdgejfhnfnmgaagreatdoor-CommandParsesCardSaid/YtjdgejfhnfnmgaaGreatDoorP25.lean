/-  -/
import Derived.Test.YtjdgejfhnfnmgaaGreatDoorP21
import Derived.Test.YtjdgejfhnfnmgaaGreatDoorP20
import Derived.Test.YtjdgejfhnfnmgaaGreatDoorP22
import Derived.Test.YtjdgejfhnfnmgaaGreatDoorP17
import Derived.Test.YtjdgejfhnfnmgaaGreatDoorP23
namespace Go.Proofs.YtjdgejfhnfnmgaaGreatDoor.Ax
open Go.RowKit
set_option linter.unusedSimpArgs false
attribute [local go_sem] extV appD cutOwn appOwn clearOwn bdI mapD putD' keyOk getOr getM putM wholeV litCs asV asC ptrC fnC nilC nilPtr strRows_len runs runsN guardOf exec1 pureV modD rowD ev get St.app St.put St.turn loadC moveC fieldOf indexC lenC lenOk cutC bndOf evAll fieldV convV unV binV binI bitsV moreV intsT eqL eq1 valOf min1 lit1 litInt litI litB litS constV constC cellsV partsOf placesOf buildV fillL toT elemsOf rowsOf baseOf dstOk V.kill V.ment V.ments C.kill C.ment C.ments B.kill setD litRows litRows_append T.isLit callAll calleeV argsV argV viewC viewCs modeOk freeOps V.free C.free V.allF V.allFs C.allF C.allFs B.allF callD leL growB C.flat V.flat B.flat flatL flatB St.flat List.set_cons_zero List.set_cons_succ C.only C.onlys V.only V.onlys B.only renI C.ren C.rens V.ren V.rens B.ren renB renOk nodK Option.getD_some Option.getD_none Option.isSome_some implies_true false_implies C.fit C.fits V.fit V.fit1 V.fits Bool.and_self ite_self exitV resV resL resC outV outV.outs eqB nn cast0 Int.toNat_natCast List.getElem?_map Value.cells Value.oneCell' Nat.lt_irrefl decide_true decide_false and_true true_and and_self and_false false_and not_true_eq_false not_false_eq_true not_true not_false List.size_toArray all_len Nat.zero_add Nat.add_zero List.length_cons List.length_append List.length_replicate List.length_set List.length_nil List.length_map List.map_cons List.map_nil List.take_succ_cons List.take_zero List.take_nil List.drop_succ_cons List.drop_zero List.drop_nil List.cons_append List.nil_append List.append_nil List.all_cons List.all_nil Bool.and_true Bool.true_and Bool.and_false Bool.false_and Bool.not_true Bool.not_false Bool.or_false Bool.or_true Bool.false_or Bool.true_or List.filter_cons List.filter_nil List.contains_cons List.contains_nil beq_self_eq_true List.getElem?_cons_zero List.getElem?_cons_succ List.getElem?_nil Option.map_some Option.map_none Option.toList_some Option.toList_none List.isEmpty_cons List.isEmpty_nil Bool.false_eq_true Bool.true_eq_false List.getElem?_toArray List.not_mem_nil List.mem_cons or_false forall_eq List.mem_singleton forall_const Option.toArray addF if_true if_false dstsOf Oper.looksAt Op.operands Call.operands pick edge B.ment Region.binds List.any_cons List.any_nil List.filterMap_cons List.filterMap_nil ne_eq Bool.or_self List.isEmpty_iff Array.toList_append List.append_toArray Array.append_empty Option.bind_some Option.bind_none List.push_toArray
set_option linter.unusedVariables false
def PostPan (w:World) (S F:Nat→Prop) (hS:∀ b,S b→b < w.heap.size) (ρ:Nat→R) (ch:List PanicEntry) (e:Ending) (w':World):Prop :=
 e=.panicked ch∧Below 0 w w'∧∀ b,(Cx.io w S F hS ρ 0).K b→w'.heap[b]?=w.heap[b]?
structure SpPan (P:Program) (f:FuncId) (args:List V) (ins:List (Nat × B)) (ch:List PanicEntry):Prop where
 enters:Enters P f
 calls:∀ (w:World) (S F:Nat→Prop) (hS:∀ b,S b→b < w.heap.size) (ρ:Nat→R),(∀ id b cap,ρ id=.lie b cap→F b∧b < w.heap.size∧NG≤b)→(∀ i j b c d,ρ i=.lie b c→ρ j=.lie b d→i=j) →
  (∀ id,id ∉ ins.map (·.1)→ρ id=.dead)→(∀ id b,get id ins=some b→HasB (Cx.io w S F hS ρ 0) w ρ id b)→∀ vs,GW w→RdVs w (okOf (Cx.io w S F hS ρ 0) ρ w) ρ args vs→Calls P f vs.toArray w (PostPan w S F hS ρ ch)
def Cx.iop (w:World) (S F:Nat→Prop) (hS:∀ b,S b→b < w.heap.size) (ρ:Nat→R) (n:Nat) (ch:List PanicEntry):Cx :=
 ⟨w,S,hS,n,F,fun b=>b < w.heap.size∧∀ id cap,ρ id ≠ .lie b cap,fun _ h=>h.1,ρ,fun c=>c=ch⟩
def exitPan (X:Cx):Exit→St→Prop
 | .panic c,_=>X.pan c
 | _,_=>False
theorem sp_of_pan {P : Program} {f : FuncId} {fn : Func} {c : Code} {args : List V} {ins : List (Nat × B)} {ch : List PanicEntry} (hf : P.funcs[f]? = some fn) (hn : (fn.name == "runtime.NumGoroutine") = false) (hb : fn.body = some c) (hle : args.length ≤ fn.ntmps)
  (h:∀ X:Cx,X.n=fn.ntmps→X.pan ch→CW P X c (exitPan X) ⟨argSv 0 args,ins⟩):SpPan P f args ins ch where
 enters:=enters_of hf hn (by rw [hb];rfl)
 calls w S F hS ρ hF hinj hdead hins vs hG hvs:=by
  refine calls_of_wp hf hb ?_
  have hl:=hvs.len
  have hH:Hold (Cx.iop w S F hS ρ fn.ntmps ch) ⟨argSv 0 args,ins⟩ ρ { tmps:=vs.toArray++Array.replicate (fn.ntmps - vs.toArray.size) undef,defers:=[] } w:=by
   refine ⟨rfl,by simp [Cx.iop];omega,Below.refl _ _,fun _ _=>rfl,fun id b cap hid=>⟨.inr (hF id b cap hid).1,fun hk=>hk.2 id cap hid,(hF id b cap hid).2.1⟩,hinj,fun _ _=>.inl rfl,fun t v hv=>?_,hins,fun b hb=>⟨Nat.lt_of_lt_of_le hb (gw_ng hG),fun id cap hid=>by have:=(hF id b cap hid).2.2;omega⟩,hG⟩
   obtain ⟨_,x,h1,h2⟩:=argSv_rd hvs hv
   refine ⟨x,?_,h2⟩
   rw [Nat.sub_zero] at h1
   have:t < vs.length:=by
    rcases Nat.lt_or_ge t vs.length with h | h
    ·exact h
    ·rw [List.getElem?_eq_none h] at h1;cases h1
   simp only [Array.getElem?_append,List.size_toArray,this,if_true]
   simpa using h1
  refine wp_mono (h _ rfl rfl ρ _ w hH) fun e a' w' ⟨st',ρ',hq,hH'⟩=>?_
  cases e with
  | panic c' =>
   have hq:c'=ch:=hq
   subst hq
   exact ⟨hH'.defers,rfl,hH'.below,hH'.keep⟩
  | _=>exact hq.elim
def stopV:V:=.one (.t true (.lit (.agg #[])))
section
variable {P:Program} {X:Cx} {st:St} {ρ:Nat→R} {a:Act} {w:World}
theorem stop_no {ok:Bool→Nat→Prop} {x:Value} (h:RdV w ok ρ stopV x):False:=by
 unfold stopV RdV RdC RdT at h
 have:=h.2
 cases this
theorem hold_stop (hH:Hold X st ρ a w) {t:Nat} (h:get t st.sl=some stopV):False:=by
 obtain ⟨x,_,h2⟩:=hH.slots t _ h
 exact stop_no h2
theorem hold_none (hH:Hold X st ρ a w) {w':World} (hb:Below 0 w w') (hk:∀ b,X.K b→w'.heap[b]?=w.heap[b]?):Hold X ⟨[],[]⟩ deadR a w' :=
 ⟨hH.defers,hH.size,hH.below.trans hb,fun b h=>(hk b h).trans (hH.keep b h),(by intro _ _ _ h;cases h),(by intro _ _ _ _ _ h;cases h),fun _ _=>.inr rfl,(by intro _ _ h;cases h),(by intro _ _ h;cases h),hH.gk,hH.gw⟩
theorem panIO_step {o:Oper} {c:Call} {cv:Operand} {f:FuncId} {args as_:List V} {ins:List (Nat × B)} {ch:List PanicEntry} {m:Bool} {n:Nat} (hop:o.op=.call c) (hcal:c.callee=.value cv)
  (hc:callIO (ins.map (·.1)) st n cv c.args.toList=some (f,m,as_)) (hsp:SpPan P f args ins ch) (hle:vsLe args as_) (hins:insLe st.bl ins) (hcl:ins.all (fun p=>p.2.only (ins.map (·.1)))=true) (hpan:X.pan ch):StepP P X st o (.pure stopV):=by
 intro _ ρ a w hH K Q hK hQ
 obtain ⟨xs,hrun,hargs⟩:=callIO_run hop hcal hc hsp.enters hH
 generalize hids:ins.map (fun p:Nat × B=>p.1)=ids at *
 have hargs':=hargs.le hle
 unfold Oper.wp
 rw [hrun,Oper.upon_enter]
 have hin:∀ p ∈ ins,p.1 ∈ ids:=fun p hp=>by rw [← hids];exact List.mem_map.2 ⟨p,hp,rfl⟩
 refine (hsp.calls w _ (seeF X ρ w ids) seeS_lt (onlyR ids ρ) (fun id b cap hid=>?_) (fun i j b c' d hi hj=>hH.inj i j b c' d (onlyR_lie hi).1 (onlyR_lie hj).1) (fun id hid=>if_neg (by rw [hids] at hid;exact hid)) (fun id b hg=>insLe_has hH hins (fun p hp=>List.all_eq_true.1 hcl p hp) hin hg) _ hH.gww hargs').mono ?_
 ·obtain ⟨h1,h2⟩:=onlyR_lie hid
  exact ⟨.inr ⟨id,cap,h2,h1⟩,(hH.ge id b cap h1).2.2,Nat.le_of_not_lt fun hlt=>(hH.ge id b cap h1).2.1 (hH.gk b hlt)⟩
 ·rintro e w' ⟨rfl,hb,hkeep⟩
  refine hQ ch ⟨[],[]⟩ deadR a w' hpan (hold_none hH hb fun b hk=>?_)
  refine hkeep b ⟨?_,fun id cap hid=>?_⟩
  ·have:=X.kb b hk
   exact Nat.lt_of_lt_of_le this hH.below.size
  ·obtain ⟨h1,h2⟩:=onlyR_lie hid
   exact (hH.ge id b cap h1).2.1 hk
theorem callIO_over {b:Nat} {B0:B} {e:TypeId} {cs:List C} {n:Nat} {cv:Operand} {xs:List Operand}:callIO ([(b,B.var e cs)].map (·.1)) ⟨st.sl,(b,B0) :: st.bl⟩ n cv xs=callIO [b] st n cv xs:=by
 have hbut:butB [b] ⟨st.sl,(b,B0) :: st.bl⟩=butB [b] st:=by
  unfold butB
  simp
 have e1:∀ c:C,cellIO [b] ⟨st.sl,(b,B0) :: st.bl⟩ n c=cellIO [b] st n c:=fun c=>by cases c <;> simp only [cellIO,hbut]
 have e2:∀ cs:List C,cellsIO [b] ⟨st.sl,(b,B0) :: st.bl⟩ n cs=cellsIO [b] st n cs:=fun cs=>by
  induction cs with
  | nil=>rfl
  | cons c cs ih=>simp only [cellsIO,e1,ih]
 have e3:∀ v:V,valIO [b] ⟨st.sl,(b,B0) :: st.bl⟩ n v=valIO [b] st n v:=fun v=>by cases v <;> simp only [valIO,e1,e2]
 have e4:∀ x:Operand,ev ⟨st.sl,(b,B0) :: st.bl⟩ x=ev st x:=fun x=>by cases x <;> rfl
 have e5:∀ xs:List Operand,argsIO [b] ⟨st.sl,(b,B0) :: st.bl⟩ n xs=argsIO [b] st n xs:=fun xs=>by
  induction xs with
  | nil=>rfl
  | cons x xs ih=>simp only [argsIO,e3,e4,ih]
 have e6:calleeIO [b] ⟨st.sl,(b,B0) :: st.bl⟩ n cv=calleeIO [b] st n cv:=by simp only [calleeIO,e2,e4]
 have e7:boundIO [b] ⟨st.sl,(b,B0) :: st.bl⟩ n cv=boundIO [b] st n cv:=by simp only [boundIO,e2,e4]
 show callIO [b] _ n cv _=_
 simp only [callIO,e5,e6,e7]
theorem SpPan.ren1 {f:FuncId} {args:List V} {e:TypeId} {cells:List C} {ch:List PanicEntry} (b:Nat) (h:SpPan P f args [(1000,.var e cells)] ch) (ha:V.onlys [1000] args=true) (hn:C.onlys [1000] cells=true):SpPan P f (V.rens [(1000,b)] args) [(b,.var e (C.rens [(1000,b)] cells))] ch where
 enters:=h.enters
 calls w S F hS ρ hF hinj hdead hins vs hG hvs:=by
  have hT:∀ z t x,RdT w (okOf (Cx.io w S F hS ρ 0) ρ w z) t x→RdT w (okOf (Cx.io w S F hS (fwdR [(1000,b)] ρ) 0) (fwdR [(1000,b)] ρ) w z) t x:=fun z t x hr=>hr.mono fun c hc=>⟨⟨hc.1,hc.2.1,fun i b' cap hi=>by
   obtain ⟨j,_,hj⟩:=fwdR_lie hi
   exact hc.2.2 j b' cap hj⟩,rfl⟩
  have hg:get 1000 [((1000:Nat),b)]=some b:=rfl
  refine (h.calls w S F hS (fwdR [(1000,b)] ρ) (fun id b' cap hid=>?_) (fun i j b' c d hi hj=>?_) (fun id hid=>?_) (fun id B hB=>?_) vs hG ?_).mono fun e w' hp=>?_
  ·obtain ⟨j,_,hj⟩:=fwdR_lie hid
   exact hF j b' cap hj
  ·obtain ⟨k,h1,h2⟩:=fwdR_lie hi
   obtain ⟨m,h3,h4⟩:=fwdR_lie hj
   have:=hinj _ _ _ _ _ h2 h4
   subst this
   unfold get at h1 h3
   split at h1
   ·split at h3
    ·rename_i h5 h6;rw [h5,h6]
    ·cases h3
   ·cases h1
  ·simp only [List.map_cons,List.map_nil,List.mem_singleton] at hid
   unfold fwdR get
   rw [if_neg hid]
   rfl
  ·obtain ⟨rfl,rfl⟩:=one_get hB
   obtain ⟨g,cap,hid,xs,hheap,hcs⟩:=hins b (.var e (C.rens [(1000,b)] cells)) (by simp [get])
   refine ⟨g,cap,(fwdR_get hg).trans hid,xs,hheap,?_⟩
   exact RdCs.unren (σ:=[(1000,b)]) (fun z t x hr=>hT z t x hr) hn hcs
  ·exact RdVs.unren (σ:=[(1000,b)]) (fun z t x hr=>hT z t x hr) ha hvs
  ·refine ⟨hp.1,hp.2.1,fun c hc=>hp.2.2 c ⟨hc.1,fun i cap hi=>?_⟩⟩
   obtain ⟨j,_,hj⟩:=fwdR_lie hi
   exact hc.2 j cap hj
def SpPL (P:Program) (g:FuncId) (args:List V) (e:TypeId) (hc:List C) (ch:List PanicEntry) (k:Nat):Prop :=
 ∀ vs:List Value,vs.length=k→(∀ v ∈ vs,v.oneCell'=true)→SpPan P g args [(1000,.var e (hc++lits vs))] ch
theorem pan_step (b:Nat) {o:Oper} {c:Call} {cv:Operand} {g:FuncId} {args args2 as_:List V} {e:TypeId} {hc hc2 cells tl:List C} {ch:List PanicEntry} {mk:Bool} {n m:Nat} (hsp:SpPL P g args e hc ch m) (hop:o.op=.call c) (hcal:c.callee=.value cv)
  (ha:V.onlys [1000] args=true) (hn:C.onlys [1000] hc=true) (ha2:V.rens [(1000,b)] args=args2) (hc2':C.rens [(1000,b)] hc=hc2)
  (hcl:callIO [b] st n cv c.args.toList=some (g,mk,as_)) (hle:vsLe args2 as_) (hb:get b st.bl=some (.var e cells)) (hl:cells.drop hc.length=tl) (hk:tl.length=m) (hcs:csLe hc2 (cells.take hc.length)) (hon:C.onlys [b] hc2=true) (hpan:X.pan ch):StepP P X st o (.pure stopV):=by
 subst ha2
 subst hc2'
 subst hl
 intro hd' ρ a w hH K Q hK hQ
 obtain ⟨vs,hl,hone,hH2,htl⟩:=lock_hold (hd:=cells.take hc.length) (tl:=cells.drop hc.length) hH (by rw [List.take_append_drop];exact hb)
 have hcl2:callIO ([(b,B.var e (C.rens [(1000,b)] hc++lits vs))].map (·.1)) ⟨st.sl,(b,.var e (cells.take hc.length++lits vs)) :: st.bl⟩ n cv c.args.toList=some (g,mk,as_):=by
  rw [← hcl]
  exact callIO_over
 have hsp2:=(hsp vs (hl.trans hk) hone).ren1 b ha (by rw [onlys_append,hn,lits_only];rfl)
 rw [rens_append,lits_rens] at hsp2
 exact panIO_step (st:=⟨st.sl,(b,.var e (cells.take hc.length++lits vs)) :: st.bl⟩) hop hcal hcl2 hsp2 hle
  (by
   refine ⟨?_,trivial⟩
   show bLe _ (get b ((b,B.var e (cells.take hc.length++lits vs)) :: st.bl))
   simp only [get,if_true]
   exact ⟨rfl,csLe_append hcs (csLe_refl_lits vs)⟩)
  (by simp only [List.map_cons,List.map_nil,List.all_cons,List.all_nil,B.only,onlys_append,lits_only,hon,Bool.and_self]) hpan hd' ρ a w hH2 K Q hK hQ
end
section
variable {P:Program} {X:Cx} {st st0 S s:St} {Q:Exit→St→Prop} {c:Code} {l:List Oper} {ops:Array Oper} {o:Oper} {K:St→Prop} {k:Nat} {F:List Lf} {E:List Le} {pr:List (Nat × Nat)} {rs:Array ResultVar} {res:V}
theorem cw_stop {t:Nat} (h:get t st.sl=some stopV:=by rfl):CW P X c Q st:=fun ρ a w hH=>(hold_stop hH h).elim
theorem rw_stop {t:Nat} (h:get t st.sl=some stopV):RW P X ops l K st:=fun ρ a w hH=>(hold_stop hH h).elim
theorem ep_ {f:FuncId} {fn:Func} {as_:List V} {ins:List (Nat × B)} {ch:List PanicEntry} {sl:List (Nat × V)} {n:Nat} (hf:P.funcs[f]?=some fn) (hn:fn.ntmps=n) (h:∀ X:Cx,X.n=n→X.pan ch→CW P X c (exitPan X) ⟨sl,ins⟩)
  (hg : (fn.name == "runtime.NumGoroutine") = false := by kernel_rfl) (hb : fn.body = some c := by rfl) (hs : argSv 0 as_ = sl := by simp only [argSv, Nat.reduceAdd]; exact rfl) (hl : (as_.length ≤ n) = True := by simp only [List.map_cons, List.map_nil, List.length_cons, List.length_nil, Nat.reduceAdd, Nat.reduceLeDiff]) : SpPan P f as_ ins ch := by
 subst hs
 subst hn
 exact sp_of_pan hf hg hb (of_eq_true hl) h
theorem pn_ (b:Nat) {f:Prop} (hf:f) {d:Nat} {c:Call} {cv:Operand} {g:FuncId} {args args2 as_:List V} {e:TypeId} {hc hc2 cells tl:List C} {ch:List PanicEntry} {mk:Bool} {m:Nat} (hsp:SpPL P g args e hc ch m) (hpan:X.pan ch)
  (hop:o.op=.call c:=by exact rfl) (hcal:c.callee=.value cv:=by exact rfl) (hdd:o.dst=some d:=by exact rfl) (ha:V.onlys [1000] args=true:=by rfl) (hn:C.onlys [1000] hc=true:=by rfl) (ha2:V.rens [(1000,b)] args=args2:=by exact rfl) (hc2':C.rens [(1000,b)] hc=hc2:=by exact rfl)
  (hcl:f→callIO [b] st 40 cv c.args.toList=some (g,mk,as_):=by intro hf;simp only [go_sem,hf] <;> exact rfl) (hle:f→vsLe args2 as_:=by intro hf;simp only [go_sem,hf] <;> fail) (hb:get b st.bl=some (.var e cells):=by simp only [go_sem];exact rfl) (hl:cells.drop hc.length=tl:=by simp only [List.length_cons,List.length_nil,Nat.reduceAdd,List.drop_succ_cons,List.drop_zero];exact rfl) (hk:tl.length=m:=by first | rfl | (unfold lits;rw [List.length_map];assumption)) (hcs:f→csLe hc2 (cells.take hc.length):=by intro hf;simp only [go_sem,List.length_cons,List.length_nil,List.take_succ_cons,List.take_zero,hf] <;> fail) (hon:C.onlys [b] hc2=true:=by rfl)
  (hg:f→guardOf st ops o=some true:=by intro hf;simp only [go_sem,hf] <;> fail) (hd:dstOk X.n o.dst=true:=by rw [hX];rfl):RWr P X ops K (o :: l,st) :=
 rw_stepP (pan_step b hsp hop hcal ha hn ha2 hc2' (hcl hf) (hle hf) hb hl hk (hcs hf) hon hpan) (hg hf) hd (rw_stop (t:=d) (by rw [hdd];show get d (st.put (some d) stopV).sl=_;simp [St.put,get]))
theorem dpn_ (b:Nat) {f:Prop} (hf:f) {r:Cd} {c:Call} {cv:Operand} {g:FuncId} {args args2 as_:List V} {e:TypeId} {hc hc2 cells tl:List C} {ch:List PanicEntry} {mk:Bool} {m:Nat} (hsp:SpPL P g args e hc ch m) (hpan:X.pan ch) (h:DW P X ops st0 K r)
  (hop:o.op=.call c:=by exact rfl) (hcal:c.callee=.value cv:=by exact rfl) (ha:V.onlys [1000] args=true:=by rfl) (hn:C.onlys [1000] hc=true:=by rfl) (ha2:V.rens [(1000,b)] args=args2:=by exact rfl) (hc2':C.rens [(1000,b)] hc=hc2:=by exact rfl)
  (hcl:f→callIO [b] ⟨rdT S.sl (Oper.looksAt ops o),S.bl⟩ 40 cv c.args.toList=some (g,mk,as_):=by intro hf;simp only [go_sem,hf] <;> exact rfl) (hle:f→vsLe args2 as_:=by intro hf;simp only [go_sem,hf] <;> fail) (hb:get b S.bl=some (.var e cells):=by simp only [go_sem];exact rfl) (hl:cells.drop hc.length=tl:=by simp only [List.length_cons,List.length_nil,Nat.reduceAdd,List.drop_succ_cons,List.drop_zero];exact rfl) (hk:tl.length=m:=by first | rfl | (unfold lits;rw [List.length_map];assumption)) (hcs:f→csLe hc2 (cells.take hc.length):=by intro hf;simp only [go_sem,List.length_cons,List.length_nil,List.take_succ_cons,List.take_zero,hf] <;> fail) (hon:C.onlys [b] hc2=true:=by rfl)
  (hg:f→guardOf ⟨rdT S.sl (Oper.looksAt ops o),S.bl⟩ ops o=some true:=by intro hf;simp only [go_sem,hf] <;> fail) (hd:dstOk X.n o.dst=true:=by rw [hX];rfl) (hr:f→contD P X.n 0 ops l k (nextE k S F E pr o.dst (.pure stopV))=r:=by intro hf;simp (maxSteps:=5000000) only [go_sem,hf,hX];exact rfl):DW P X ops st0 K ⟨o :: l,k,S,F,E,pr⟩:=fun hb'=>by
 have hr:=hr hf
 subst hr
 exact dw_run (m:=0) h (db_ef (R:=⟨rdT S.sl (Oper.looksAt ops o),S.bl⟩) hb' hd (fun t u h=>rdT_get h) (fun t b h=>h) (.inl ⟨hg hf,pan_step (st:=⟨rdT S.sl (Oper.looksAt ops o),S.bl⟩) b hsp hop hcal ha hn ha2 hc2' (hcl hf) (hle hf) hb hl hk (hcs hf) hon hpan⟩))
theorem rwr_throw {o1 o2:Oper} {t a0 d:Nat} {y:TypeDesc} {v:Value} {z:Bool} (hv:get a0 st.sl=some (.one (.t z (.lit v)))) (hpan:X.pan [{ v:=.iface t v,recovered:=false }]) (h1:o1.op=.makeInterface t (.tmp a0):=by exact rfl) (hd1:o1.dst=some d:=by exact rfl) (hg1:o1.guard=none:=by exact rfl) (h2:o2.op=.panic (.tmp d):=by exact rfl) (hg2:o2.guard=none:=by exact rfl)
  (hy:P.underlying t=some y) (hni:∀ m,y ≠ .interface m) (hdn:d < X.n:=by rw [hX];decide):RWr P X ops K ([o1,o2],st):=fun ρ a w hH Q hQ=>by
 obtain ⟨x,hx1,hx2⟩:=hH.slots _ _ hv
 unfold RdV RdC RdT at hx2
 obtain ⟨rfl,hone⟩:=hx2
 have he:a.eval (.tmp a0)=x:=by simp [Act.eval,hx1]
 have hrun:(execOp a.eval o1).run P w=.ok (.value (.iface t x)) w:=by
  simp only [execOp,h1,he,Instr.makeInterface,run_underlying hy,Sem.run_bind,Result.andThen_ok]
  cases y <;> first
   | rfl
   | exact absurd rfl (hni _)
 unfold wpList
 rw [guard_sound (o:=o1) (b:=true) hH (by unfold guardOf;rw [hg1]),if_pos rfl]
 refine .inl ?_
 unfold Oper.wp
 rw [hrun]
 show wpList P ops Q [o2] (a.put o1.dst (.iface t x)) w
 have he2:(a.put o1.dst (.iface t x)).eval (.tmp d)=.iface t x:=by
  rw [hd1]
  simp [Act.put,Act.eval,hH.size,hdn]
 have hrun2:(execOp (a.put o1.dst (.iface t x)).eval o2).run P w=.halt (.panic (.iface t x)) w:=by
  simp only [execOp,h2,he2]
  rfl
 unfold wpList
 have hgw:Region.wanted o2 (yielded ops (a.put o1.dst (.iface t x)).tmps)=true:=by unfold Region.wanted;rw [hg2]
 rw [if_pos hgw]
 refine .inl ?_
 unfold Oper.wp
 rw [hrun2,Oper.upon_panic]
 have hH2:Hold X ⟨[],[]⟩ deadR a w:=hold_none hH (Below.refl _ _) fun _ _=>rfl
 refine hQ.2 _ ⟨[],[]⟩ deadR _ w hpan ⟨(by rw [hd1];exact hH2.defers),?_,hH2.below,hH2.keep,hH2.ge,hH2.inj,hH2.pin,(by intro _ _ h;cases h),(by intro _ _ h;cases h),hH2.gk,hH2.gw⟩
 rw [hd1]
 simp [Act.put,hH.size]
end
end Go.Proofs.YtjdgejfhnfnmgaaGreatDoor.Ax
namespace Go.Proofs.YtjdgejfhnfnmgaaGreatDoor.Ax
open Go.RowKit
set_option linter.unusedSimpArgs false
attribute [local go_sem] ty3 ty4 ty9 ty26 meltSt
set_option linter.unusedVariables false
set_option maxRecDepth 100000
theorem words_sp:Sp Tryz.prog 130 [] (.one (.own 1 36)) [(1,.arr 9 1 true (rS wordsL))]:=by
 (refine en_ Tryz.func130 Tryz.ntmps130 Tryz.results130 fun X hX=>?_)
 (refine go_ an0 ?_)
 (exact ow_ an0)
 all_goals rfl
theorem indexS_sp (l:List ByteArray) (s:ByteArray) (hl:l.length≤maxLen):Sp Tryz.prog 157 [.one (.sl (rS l)),.one (.lit (.string s))] (.one (.t true (.lit (.int .i64 (placeF (fun x=>x.toList==s.toList) l 0))))) []:=by
 unfold maxLen at hl
 (refine en_ Tryz.func157 Tryz.ntmps157 Tryz.results157 fun X hX=>?_)
 (refine go_ an0 ?_)
 refine cw_loop (fun m st=>∃ k,k≤l.length∧m=l.length - k∧placeF (fun x=>x.toList==s.toList) (l.drop k) k=placeF (fun x=>x.toList==s.toList) l 0∧st=⟨[(8,litI .i64 k),(7,litI .i64 l.length),(0,.one (.t false (.sl (rS l)))),(1,.one (.t false (.lit (.string s))))],[]⟩) l.length ⟨_,⟨0,Nat.zero_le _,rfl,rfl,rfl⟩,le_⟩ ?_
 rintro m st ⟨k,hk,rfl,hf,rfl⟩
 by_cases hlt:k < l.length
 ·have e1:decide ((k:Int) < (l.length:Int))=true:=by simp;omega
  obtain ⟨x,hx⟩:∃ x,l[k]?=some x:=⟨_,List.getElem?_eq_getElem hlt⟩
  have e4:IntKind.i64.wrap ((k:Int) + 1)=((k + 1:Nat):Int):=by rw [IntWalk.i64_in _ (by omega)];rfl
  have j2:(k:Int) < (l.length:Int):=by omega
  have j3:(0:Int)≤(k:Int):=by omega
  rw [drop_eq _ _ _ hx,placeF] at hf
  cases hp:(x.toList==s.toList)
  ·have hp':(s.toList==x.toList)=false:=by rw [Bool.eq_false_iff] at hp ⊢;intro h;exact hp (by rw [beq_iff_eq] at h ⊢;exact h.symm)
   rw [if_neg (by rw [hp];decide)] at hf
   (refine go_ (an7 e1 hx hlt j2 j3 hp' e4) ?_)
   exact ⟨l.length - (k + 1),by omega,_,⟨k + 1,by omega,rfl,hf,rfl⟩,le_⟩
  ·have hp':(s.toList==x.toList)=true:=by rw [beq_iff_eq] at hp ⊢;exact hp.symm
   rw [if_pos hp] at hf
   rw [← hf]
   (refine go_ (an6 e1 hx hlt j2 j3 hp') ?_)
   (first | exact oq_ an0 | refine ou_ an0 ?_)
 ·have e1:decide ((k:Int) < (l.length:Int))=false:=by simp;omega
  rw [List.drop_eq_nil_of_le (by omega)] at hf
  rw [← hf]
  (refine go_ e1 ?_)
  (first | exact oq_ an0 | refine ou_ an0 ?_)
  try rfl
theorem place_any {α:Type} (p:α→Bool) (l:List α) (i:Nat):decide (0≤placeF p l i)=l.any p:=by
 induction l generalizing i with
 | nil=>rfl
 | cons x l ih =>
  rw [placeF,List.any_cons]
  split
  ·rename_i h;rw [h];simp
  ·rename_i h
   rw [ih,Bool.eq_false_iff.2 h,Bool.false_or]
theorem containsS_sp (l:List ByteArray) (s:ByteArray) (hl:l.length≤maxLen):Sp Tryz.prog 129 [.one (.sl (rS l)),.one (.lit (.string s))] (.one (.t true (.lit (.bool (l.any fun x=>x.toList==s.toList))))) []:=by
 have h1:=indexS_sp l s hl
 rw [← place_any _ l 0]
 (refine en_ Tryz.func129 Tryz.ntmps129 Tryz.results129 fun X hX=>?_)
 (refine gs_ ?_)
 (refine rn_ 8 an0 fun K hK=>?_;refine rr_ an0 ?_)
 ((first | refine rwr_nil (hK _ ?_) | refine de_ (hK _ ?_));clear hK K)
 (refine gs_ ?_)
 (refine rn_ 8 an0 fun K hK=>?_;refine rr_ an0 ?_)
 (refine ca_ an0 ?_ (hsp:=h1);refine rr_ an0 ?_)
 ((first | refine rwr_nil (hK _ ?_) | refine de_ (hK _ ?_));clear hK K)
 (refine go_ an0 ?_)
 (first | exact oq_ an0 | refine ou_ an0 ?_)
theorem cname_sp (s:ByteArray) (hs:s.size≤maxLen):Sp Tryz.prog 78 [.one (.lit (.string s))] (.one (.t true (.lit (.bool (nameB s))))) []:=by
 have h1:=tname_sp s hs
 have h2:=words_sp.ren [(1,6)] rfl rfl rfl rfl
 have h3:=containsS_sp wordsL s (by decide)
 have hL:wordsL.length=36:=rfl
 unfold nameB isWordB
 generalize wordsL=L at *
 generalize tokB 1 s=tb at *
 cases tb
 ·(refine en_ Tryz.func78 Tryz.ntmps78 Tryz.results78 fun X hX=>?_)
  (refine gs_ ?_)
  (refine rn_ 8 an0 fun K hK=>?_;refine rr_ an0 ?_)
  ((first | refine rwr_nil (hK _ ?_) | refine de_ (hK _ ?_));clear hK K)
  (refine gs_ ?_)
  (refine rn_ 8 an0 fun K hK=>?_;refine rr_ an0 ?_)
  (refine ca_ an0 ?_ (hsp:=h1);refine rr_ an0 ?_)
  (refine rr_ an0 ?_)
  ((first | refine rwr_nil (hK _ ?_) | refine de_ (hK _ ?_));clear hK K)
  (refine go_ an0 ?_)
  (first | exact oq_ an0 | refine ou_ an0 ?_)
  try rfl
 ·(refine en_ Tryz.func78 Tryz.ntmps78 Tryz.results78 fun X hX=>?_)
  (refine gs_ ?_)
  (refine rn_ 8 an0 fun K hK=>?_;refine rr_ an0 ?_)
  ((first | refine rwr_nil (hK _ ?_) | refine de_ (hK _ ?_));clear hK K)
  (refine gs_ ?_)
  (refine rn_ 8 an0 fun K hK=>?_;refine rr_ an0 ?_)
  (refine ca_ an0 ?_ (hsp:=h1);refine rr_ an0 ?_)
  (refine rr_ an0 ?_)
  (refine ca_ hL ?_ (hsp:=h2);refine rr_ hL ?_)
  (refine rr_ an0 ?_)
  (refine ca_ hL ?_ (hsp:=h3);refine rr_ hL ?_)
  (refine rr_ an0 ?_)
  ((first | refine rwr_nil (hK _ ?_) | refine de_ (hK _ ?_));clear hK K)
  (refine go_ an0 ?_)
  (first | exact oq_ an0 | refine ou_ an0 ?_)
  try rfl
end Go.Proofs.YtjdgejfhnfnmgaaGreatDoor.Ax
namespace Go.Proofs.YtjdgejfhnfnmgaaGreatDoor.Ax
open Go.RowKit
set_option linter.unusedSimpArgs false
attribute [local go_sem] ty3 ty4 ty9 ty5 ty77 ty43 ty67 ty65
set_option linter.unusedVariables false
set_option maxRecDepth 100000
def paH (l:List Vl) (en:Int) (k:Nat):List C:=[.t false (.sl (rVs l)),.t false (.lit (.int .i64 k)),.t false (.lit (.int .i64 en))]
def chP (l:List Vl) (en:Int) (k:Nat):List PanicEntry:=[{ v:=.iface 96 (.int .i64 (hereP l en k)),recovered:=false }]
set_option maxHeartbeats 4000000 in
theorem pfail_l (l:List Vl) (en:Int) (k:Nat):SpPL Tryz.prog 120 [.one (.optr 1000 0)] 67 (paH l en k) (chP l en k) 26:=by
 intro vs hlen hone
 unfold paH
 by_cases hlt:k < l.length
 ·obtain ⟨t,ht⟩:∃ t,l[k]?=some t:=⟨_,List.getElem?_eq_getElem hlt⟩
  have e1:decide ((k:Int) < (l.length:Int))=true:=by simp;omega
  have j2:(k:Int) < (l.length:Int):=by omega
  have j3:(0:Int)≤(k:Int):=by omega
  unfold chP hereP
  rw [ht]
  refine ep_ Tryz.func120 Tryz.ntmps120 fun X hX hp=>?_
  refine au_ (an5 e1 ht hlt j2 j3) ?_
  refine rn_ 1 an0 fun K hK=>?_
  exact rwr_throw (a0:=28) rfl hp (hy:=Tryz.underlying96) (hni:=by intro m h;cases h)
 ·have e1:decide ((k:Int) < (l.length:Int))=false:=by simp;omega
  unfold chP hereP
  rw [List.getElem?_eq_none (by omega)]
  refine ep_ Tryz.func120 Tryz.ntmps120 fun X hX hp=>?_
  refine au_ e1 ?_
  refine rn_ 1 an0 fun K hK=>?_
  exact rwr_throw (a0:=28) rfl hp (hy:=Tryz.underlying96) (hni:=by intro m h;cases h)
def takeK (l:List Vl) (s:ByteArray) (k:Nat):Nat:=cond (takeB l s k) (k + 1) k
set_option maxHeartbeats 4000000 in
theorem ptake_l (l:List Vl) (hl:l.length≤4000) (en:Int) (k:Nat) (s:ByteArray):SpL Tryz.prog 148 [.one (.optr 1000 0),.one (.t false (.lit (.string s)))] 67 (paH l en k) (.one (.t true (.lit (.bool (takeB l s k))))) (paH l en (takeK l s k)) 26:=by
 intro vs hlen hone
 unfold takeK takeB
 unfold paH
 by_cases hlt:k < l.length
 ·obtain ⟨t,ht⟩:∃ t,l[k]?=some t:=⟨_,List.getElem?_eq_getElem hlt⟩
  have e1:decide ((l.length:Int)≤(k:Int))=false:=by simp;omega
  have j2:(k:Int) < (l.length:Int):=by omega
  have j3:(0:Int)≤(k:Int):=by omega
  have e2:IntKind.i64.wrap ((k:Int) + 1)=((k + 1:Nat):Int):=by rw [IntWalk.i64_in _ (by omega)];rfl
  rw [ht]
  dsimp only
  unfold strEq
  cases hq:(t.s.toList==s.toList) with
  | true =>
   have hq2:(t.s.toList != s.toList)=false:=by unfold bne;rw [hq];rfl
   rw [cond_true]
   (refine ei_ Tryz.func148 Tryz.ntmps148 Tryz.results148 fun X hX=>?_)
   refine au_ (an2 (an5 e1 ht hlt j2 j3) (an3 hq hq2 e2)) ?_
   exact oj_ an0 (.inl rfl)
  | false =>
   have hq2:(t.s.toList != s.toList)=true:=by unfold bne;rw [hq];rfl
   rw [cond_false]
   (refine ei_ Tryz.func148 Tryz.ntmps148 Tryz.results148 fun X hX=>?_)
   refine au_ (an2 (an5 e1 ht hlt j2 j3) (an2 hq hq2)) ?_
   exact oj_ an0 (.inl rfl)
 ·have e1:decide ((l.length:Int)≤(k:Int))=true:=by simp;omega
  rw [List.getElem?_eq_none (by omega)]
  dsimp only
  rw [cond_false]
  (refine ei_ Tryz.func148 Tryz.ntmps148 Tryz.results148 fun X hX=>?_)
  refine au_ e1 ?_
  exact oj_ an0 (.inl rfl)
set_option maxHeartbeats 4000000 in
theorem pkind_l (l:List Vl) (en:Int) (k:Nat) (n:Int):SpL Tryz.prog 165 [.one (.optr 1000 0),.one (.t false (.lit (.int .i64 n)))] 67 (paH l en k) (.one (.t true (.lit (.bool (kindP l n k))))) (paH l en k) 26:=by
 intro vs hlen hone
 unfold kindP
 unfold paH
 by_cases hlt:k < l.length
 ·obtain ⟨t,ht⟩:∃ t,l[k]?=some t:=⟨_,List.getElem?_eq_getElem hlt⟩
  have e1:decide ((k:Int) < (l.length:Int))=true:=by simp;omega
  have j2:(k:Int) < (l.length:Int):=by omega
  have j3:(0:Int)≤(k:Int):=by omega
  rw [ht]
  dsimp only
  (refine ei_ Tryz.func165 Tryz.ntmps165 Tryz.results165 fun X hX=>?_)
  refine au_ (an5 e1 ht hlt j2 j3) ?_
  exact oj_ an0 (.inl rfl)
 ·have e1:decide ((k:Int) < (l.length:Int))=false:=by simp;omega
  rw [List.getElem?_eq_none (by omega)]
  (refine ei_ Tryz.func165 Tryz.ntmps165 Tryz.results165 fun X hX=>?_)
  refine au_ e1 ?_
  exact oj_ an0 (.inl rfl)
set_option maxHeartbeats 4000000 in
theorem pname_l (l:List Vl) (hl:GoodL l) (en:Int) (k:Nat) (h:nameP l k=true):SpL Tryz.prog 111 [.one (.optr 1000 0)] 67 (paH l en k) (.one (.t true (.lit (.string (txP l k))))) (paH l en (k + 1)) 26:=by
 intro vs hlen hone
 have hll:=hl.len
 unfold nameP at h
 unfold txP paH
 by_cases hlt:k < l.length
 ·obtain ⟨t,ht⟩:∃ t,l[k]?=some t:=⟨_,List.getElem?_eq_getElem hlt⟩
  obtain ⟨_,_,_,hz,_⟩:=tok_facts (hl.tok t (List.mem_of_getElem? ht))
  have hN:=cname_sp t.s (by unfold maxLen;omega)
  rw [ht] at h ⊢
  dsimp only at h ⊢
  rw [h] at hN
  have e1:decide ((l.length:Int)≤(k:Int))=false:=by simp;omega
  have j2:(k:Int) < (l.length:Int):=by omega
  have j3:(0:Int)≤(k:Int):=by omega
  have e2:IntKind.i64.wrap ((k:Int) + 1)=((k + 1:Nat):Int):=by rw [IntWalk.i64_in _ (by omega)];rfl
  have e3:IntKind.i64.wrap (((k + 1:Nat):Int) - 1)=(k:Int):=by rw [IntWalk.i64_in _ (by omega)];omega
  (refine ei_ Tryz.func111 Tryz.ntmps111 Tryz.results111 fun X hX=>?_)
  refine au_ (an2 (an5 e1 ht hlt j2 j3) (an2 e2 e3)) ?_
  exact oj_ an0 (.inl rfl)
 ·rw [List.getElem?_eq_none (by omega)] at h
  cases h
set_option maxHeartbeats 4000000 in
theorem pname_p (l:List Vl) (hl:GoodL l) (en:Int) (k:Nat) (h:nameP l k=false):SpPL Tryz.prog 111 [.one (.optr 1000 0)] 67 (paH l en k) (chP l en k) 26:=by
 intro vs hlen hone
 have hF:=pfail_l l en k
 unfold nameP at h
 unfold paH at hF ⊢
 by_cases hlt:k < l.length
 ·obtain ⟨t,ht⟩:∃ t,l[k]?=some t:=⟨_,List.getElem?_eq_getElem hlt⟩
  obtain ⟨_,_,_,hz,_⟩:=tok_facts (hl.tok t (List.mem_of_getElem? ht))
  have hN:=cname_sp t.s (by unfold maxLen;omega)
  rw [ht] at h
  dsimp only at h
  rw [h] at hN
  have e1:decide ((l.length:Int)≤(k:Int))=false:=by simp;omega
  have j2:(k:Int) < (l.length:Int):=by omega
  have j3:(0:Int)≤(k:Int):=by omega
  (refine ep_ Tryz.func111 Tryz.ntmps111 fun X hX hpn=>?_)
  refine au_ (an5 e1 ht hlt j2 j3) ?_
  (refine rn_ 0 an0 fun K hK=>?_;refine rx_ an0 ?_;exact pn_ 1000 an0 (hF) hpn)
 ·have e1:decide ((l.length:Int)≤(k:Int))=true:=by simp;omega
  (refine ep_ Tryz.func111 Tryz.ntmps111 fun X hX hpn=>?_)
  refine au_ e1 ?_
  (refine rn_ 0 an0 fun K hK=>?_;refine rx_ an0 ?_;exact pn_ 1000 an0 (hF) hpn)
end Go.Proofs.YtjdgejfhnfnmgaaGreatDoor.Ax
