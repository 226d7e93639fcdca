/-  -/
import Derived.Test.YtjdgejfhnfnmgaaGreatDoorP20
import Derived.Test.YtjdgejfhnfnmgaaGreatDoorP26
import Derived.Test.YtjdgejfhnfnmgaaGreatDoorP24
import Derived.Test.YtjdgejfhnfnmgaaGreatDoorP17
namespace Go.Proofs.YtjdgejfhnfnmgaaGreatDoor.Ax
open Go.RowKit Go.Sort
set_option linter.unusedSimpArgs false
attribute [local go_sem] ty3 ty4 ty9 ty5 ty26 ty24 ty77 ty43 ty67 ty65
set_option linter.unusedVariables false
set_option maxRecDepth 100000
set_option maxHeartbeats 4000000 in
theorem pmust_l (l:List Vl) (hl:GoodL l) (en:Int) (k:Nat) (v:Vl) (k2:Nat) (h:vP l k=.yes v k2):SpL Tryz.prog 116 [.one (.optr 1000 0)] 67 (paH l en k) (vV v) (paH l en k2) 26:=by
 intro vs hlen hone
 have hV:=pv_l l hl en k v k2 h
 obtain ⟨vk,vn,vt⟩:=v
 unfold vV at hV ⊢
 unfold paH at hV ⊢
 (refine ei_ Tryz.func116 Tryz.ntmps116 Tryz.results116 fun X hX=>?_)
 refine gs_ ?_
 refine au_ an0 ?_
 (refine rn_ 0 an0 fun K hK=>?_;refine rx_ an0 ?_;refine lk_ 1000 an0 (hV) ?_;refine rx_ an0 ?_;refine rwr_nil (hK _ ?_);clear hK K)
 refine au_ an0 ?_
 exact oj_ an0 (.inl rfl)
set_option maxHeartbeats 4000000 in
theorem pmust_n (l:List Vl) (hl:GoodL l) (en:Int) (k:Nat) (h:vP l k=.no):SpPL Tryz.prog 116 [.one (.optr 1000 0)] 67 (paH l en k) (chP l en k) 26:=by
 intro vs hlen hone
 have hV:=pv_n l hl en k h
 have hF:=pfail_l l en k
 unfold vV at hV
 unfold paH at hV hF ⊢
 (refine ep_ Tryz.func116 Tryz.ntmps116 fun X hX hpn=>?_)
 refine gs_ ?_
 refine au_ an0 ?_
 (refine rn_ 0 an0 fun K hK=>?_;refine rx_ an0 ?_;refine lk_ 1000 an0 (hV) ?_;refine rx_ an0 ?_;refine rwr_nil (hK _ ?_);clear hK K)
 refine au_ an0 ?_
 (refine rn_ 0 an0 fun K hK=>?_;refine rx_ an0 ?_;exact pn_ 1000 an0 (hF) hpn)
set_option maxHeartbeats 4000000 in
theorem pmust_p (l:List Vl) (hl:GoodL l) (en:Int) (k:Nat) (k2:Nat) (h:vP l k=.bad k2):SpPL Tryz.prog 116 [.one (.optr 1000 0)] 67 (paH l en k) (chP l en k2) 26:=by
 intro vs hlen hone
 have hV:=pv_p l hl en k k2 h
 unfold paH at hV ⊢
 (refine ep_ Tryz.func116 Tryz.ntmps116 fun X hX hpn=>?_)
 refine gs_ ?_
 refine au_ an0 ?_
 (refine rn_ 0 an0 fun K hK=>?_;refine rx_ an0 ?_;exact pn_ 1000 an0 (hV) hpn)
end Go.Proofs.YtjdgejfhnfnmgaaGreatDoor.Ax
namespace Go.Proofs.YtjdgejfhnfnmgaaGreatDoor.Ax
open Go.RowKit Go.Sort
set_option linter.unusedSimpArgs false
attribute [local go_sem] ty3 ty4 ty9 ty5 ty26 ty24 ty77 ty43 ty67 ty65
set_option linter.unusedVariables false
set_option maxRecDepth 100000
theorem Hold.meltT {X:Cx} {st:St} {ρ:Nat→R} {a:Act} {w:World} (hH:Hold X st ρ a w) (t id:Nat) {e:TypeId} {size len:Nat} {z:Bool} {rows:List (List T)} (ht:get t st.sl=some (.one (.own id len))) (hb:get id st.bl=some (.arr e size z rows)) (hl:rows.length=len):Hold X (meltSt st t id z rows) (updR ρ id .dead) a w:=by
 have hT:=hH.turn (evo_dead hH (id:=id)) (nb:=[]) (by intro id b h;cases h)
 refine ⟨hT.defers,hT.size,hT.below,hT.keep,hT.ge,hT.inj,hT.pin,fun t' v hv=>?_,hT.blocks,hT.gk,hT.gw⟩
 simp only [meltSt,get] at hv
 split at hv
 ·rename_i htt
  subst htt
  injection hv with hv
  subst hv
  obtain ⟨x,h1,h2⟩:=hH.slots _ _ ht
  refine ⟨x,h1,?_⟩
  unfold RdV at h2 ⊢
  unfold RdC
  exact row_melt hH hb hl h2
 ·exact hT.slots t' v hv
theorem rwr_melt {P:Program} {X:Cx} {ops:Array Oper} {K:St→Prop} {l:List Oper} {st st2:St} (t id:Nat) {e:TypeId} {size len:Nat} {z:Bool} {rows:List (List T)} (h:RWr P X ops K (l,st2)) (ht:get t st.sl=some (.one (.own id len)):=by simp only [go_sem];exact rfl) (hb:get id st.bl=some (.arr e size z rows):=by simp only [go_sem];exact rfl) (hl:rows.length=len:=by first | rfl | assumption | simp only [go_sem]) (hs:meltSt st t id z rows=st2:=by simp only [go_sem,meltSt];exact rfl):RWr P X ops K (l,st):=by
 subst hs
 exact fun ρ a w hH=>h _ a w (hH.meltT t id ht hb hl)
def wTypes:List ByteArray:=[⟨#[105,110,116]⟩,⟨#[116,101,120,116]⟩,⟨#[98,111,111,108]⟩]
theorem oneP_le:∀ {l:List Vl} {k:Nat} {L:List ByteArray} {i:Nat},oneP l k L i < (i:Int) + L.length∧-1≤oneP l k L i ∨ oneP l k L i=-1
 | l,k,[],i=>.inr rfl
 | l,k,s :: r,i=>by
  unfold oneP
  split
  ·left;simp only [List.length_cons];omega
  ·rcases oneP_le (l:=l) (k:=k) (L:=r) (i:=i + 1) with ⟨h1,h2⟩ | h1
   ·left;simp only [List.length_cons];omega
   ·exact .inr h1
set_option maxHeartbeats 4000000 in
theorem ptyp_l (l:List Vl) (hl:l.length≤4000) (en:Int) (k:Nat) (h:¬ oneP l k wTypes 0=-1):SpL Tryz.prog 153 [.one (.optr 1000 0)] 67 (paH l en k) (.one (.t true (.lit (.int .i64 (1 + oneP l k wTypes 0))))) (paH l en (k + 1)) 26:=by
 intro vs hlen hone
 have hO:=pone_l l hl en k wTypes (by decide) h
 have h0:=oneP_ge h
 have h1:oneP l k wTypes 0 < 3:=by
  rcases oneP_le (l:=l) (k:=k) (L:=wTypes) (i:=0) with ⟨h1,h2⟩ | h1
  ·have:wTypes.length=3:=rfl
   omega
  ·omega
 generalize oneP l k wTypes 0=i at *
 have e1:IntKind.i64.wrap (1 + i)=1 + i:=by rw [IntWalk.i64_in _ (by omega)]
 unfold wTypes at hO
 unfold paH at hO ⊢
 (refine ei_ Tryz.func153 Tryz.ntmps153 Tryz.results153 fun X hX=>?_)
 refine gs_ ?_
 refine au_ an0 ?_
 refine rn_ 0 an0 fun K hK=>?_
 refine rx_ an0 ?_
 refine rwr_melt 4 4 ?_
 (refine lk_ 1000 e1 (hO) ?_;refine rx_ e1 ?_)
 refine rx_ e1 ?_
 refine rwr_nil (hK _ ?_)
 clear hK K
 refine au_ an0 ?_
 exact oj_ an0 (.inl rfl)
set_option maxHeartbeats 4000000 in
theorem ptyp_p (l:List Vl) (hl:l.length≤4000) (en:Int) (k:Nat) (h:oneP l k wTypes 0=-1):SpPL Tryz.prog 153 [.one (.optr 1000 0)] 67 (paH l en k) (chP l en k) 26:=by
 intro vs hlen hone
 have hO:=pone_p l hl en k wTypes (by decide) h
 unfold wTypes at hO
 unfold paH at hO ⊢
 (refine ep_ Tryz.func153 Tryz.ntmps153 fun X hX hpn=>?_)
 refine gs_ ?_
 refine au_ an0 ?_
 refine rn_ 0 an0 fun K hK=>?_
 refine rx_ an0 ?_
 refine rwr_melt 4 4 ?_
 exact pn_ 1000 an0 hO hpn
end Go.Proofs.YtjdgejfhnfnmgaaGreatDoor.Ax
namespace Go.Proofs.YtjdgejfhnfnmgaaGreatDoor.Ax
open Go.RowKit Go.Sort
set_option linter.unusedSimpArgs false
attribute [local go_sem] ty3 ty4 ty9 ty5 ty26 ty24 ty54 ty77 ty43 ty67 ty65
set_option linter.unusedVariables false
set_option maxRecDepth 100000
set_option maxHeartbeats 4000000 in
theorem pcolumn_l (l:List Vl) (hl:GoodL l) (en:Int) (k:Nat) (h1:nameP l k=true) (h2:¬ oneP l (k + 1) wTypes 0=-1):SpL Tryz.prog 150 [.one (.optr 1000 0)] 67 (paH l en k) (.agg [.t true (.lit (.string (txP l k))),.t true (.lit (.int .i64 (1 + oneP l (k + 1) wTypes 0)))]) (paH l en (k + 2)) 26:=by
 intro vs hlen hone
 have hll:=hl.len
 have hN:=pname_l l hl en k h1
 have hT:=ptyp_l l (by omega) en (k + 1) h2
 generalize txP l k=s at *
 generalize 1 + oneP l (k + 1) wTypes 0=i at *
 unfold paH at hN hT ⊢
 (refine ei_ Tryz.func150 Tryz.ntmps150 Tryz.results150 fun X hX=>?_)
 refine gs_ ?_
 refine au_ an0 ?_
 (refine rn_ 0 an0 fun K hK=>?_;refine rx_ an0 ?_;refine lk_ 1000 an0 (hN) ?_;refine rx_ an0 ?_;refine rwr_nil (hK _ ?_);clear hK K)
 refine gs_ ?_
 (refine rn_ 0 an0 fun K hK=>?_;refine rx_ an0 ?_;refine lk_ 1000 an0 (hT) ?_;refine rx_ an0 ?_;refine rwr_nil (hK _ ?_);clear hK K)
 refine au_ an0 ?_
 exact oj_ an0 (.inl rfl)
set_option maxHeartbeats 4000000 in
theorem pcolumn_p (l:List Vl) (hl:GoodL l) (en:Int) (k:Nat) (h1:nameP l k=false):SpPL Tryz.prog 150 [.one (.optr 1000 0)] 67 (paH l en k) (chP l en k) 26:=by
 intro vs hlen hone
 have hN:=pname_p l hl en k h1
 unfold paH at hN ⊢
 (refine ep_ Tryz.func150 Tryz.ntmps150 fun X hX hpn=>?_)
 refine gs_ ?_
 refine au_ an0 ?_
 (refine rn_ 0 an0 fun K hK=>?_;refine rx_ an0 ?_;exact pn_ 1000 an0 (hN) hpn)
set_option maxHeartbeats 4000000 in
theorem pcolumn_q (l:List Vl) (hl:GoodL l) (en:Int) (k:Nat) (h1:nameP l k=true) (h2:oneP l (k + 1) wTypes 0=-1):SpPL Tryz.prog 150 [.one (.optr 1000 0)] 67 (paH l en k) (chP l en (k + 1)) 26:=by
 intro vs hlen hone
 have hll:=hl.len
 have hN:=pname_l l hl en k h1
 have hT:=ptyp_p l (by omega) en (k + 1) h2
 generalize txP l k=s at *
 unfold paH at hN hT ⊢
 (refine ep_ Tryz.func150 Tryz.ntmps150 fun X hX hpn=>?_)
 refine gs_ ?_
 refine au_ an0 ?_
 (refine rn_ 0 an0 fun K hK=>?_;refine rx_ an0 ?_;refine lk_ 1000 an0 (hN) ?_;refine rx_ an0 ?_;refine rwr_nil (hK _ ?_);clear hK K)
 refine gs_ ?_
 (refine rn_ 0 an0 fun K hK=>?_;refine rx_ an0 ?_;exact pn_ 1000 an0 (hT) hpn)
end Go.Proofs.YtjdgejfhnfnmgaaGreatDoor.Ax
namespace Go.Proofs.YtjdgejfhnfnmgaaGreatDoor.Ax
open Go.RowKit Go.Sort
set_option linter.unusedSimpArgs false
attribute [local go_sem] extV appD cutOwn appOwn clearOwn bdI mapD putD' keyOk getOr getM putM wholeV litCs asV asC ptrC fnC nilC nilPtr strRows_len runs runsN guardOf exec1 pureV modD rowD ev get St.app St.put St.turn loadC moveC fieldOf indexC lenC lenOk cutC bndOf evAll fieldV convV unV binV binI bitsV moreV intsT eqL eq1 valOf min1 lit1 litInt litI litB litS constV constC cellsV partsOf placesOf buildV fillL toT elemsOf rowsOf baseOf dstOk V.kill V.ment V.ments C.kill C.ment C.ments B.kill setD litRows litRows_append T.isLit callAll calleeV argsV argV viewC viewCs modeOk freeOps V.free C.free V.allF V.allFs C.allF C.allFs B.allF callD leL growB C.flat V.flat B.flat flatL flatB St.flat List.set_cons_zero List.set_cons_succ C.only C.onlys V.only V.onlys B.only renI C.ren C.rens V.ren V.rens B.ren renB renOk nodK Option.getD_some Option.getD_none Option.isSome_some implies_true false_implies C.fit C.fits V.fit V.fit1 V.fits Bool.and_self ite_self exitV resV resL resC outV outV.outs eqB nn cast0 Int.toNat_natCast List.getElem?_map Value.cells Value.oneCell' Nat.lt_irrefl decide_true decide_false and_true true_and and_self and_false false_and not_true_eq_false not_false_eq_true not_true not_false List.size_toArray all_len Nat.zero_add Nat.add_zero List.length_cons List.length_append List.length_replicate List.length_set List.length_nil List.length_map List.map_cons List.map_nil List.take_succ_cons List.take_zero List.take_nil List.drop_succ_cons List.drop_zero List.drop_nil List.cons_append List.nil_append List.append_nil List.all_cons List.all_nil Bool.and_true Bool.true_and Bool.and_false Bool.false_and Bool.not_true Bool.not_false Bool.or_false Bool.or_true Bool.false_or Bool.true_or List.filter_cons List.filter_nil List.contains_cons List.contains_nil beq_self_eq_true List.getElem?_cons_zero List.getElem?_cons_succ List.getElem?_nil Option.map_some Option.map_none Option.toList_some Option.toList_none List.isEmpty_cons List.isEmpty_nil Bool.false_eq_true Bool.true_eq_false List.getElem?_toArray List.not_mem_nil List.mem_cons or_false forall_eq List.mem_singleton forall_const Option.toArray addF if_true if_false dstsOf Oper.looksAt Op.operands Call.operands pick edge B.ment Region.binds List.any_cons List.any_nil List.filterMap_cons List.filterMap_nil ne_eq Bool.or_self List.isEmpty_iff Array.toList_append List.append_toArray Array.append_empty Option.bind_some Option.bind_none List.push_toArray argSv ioD modeIO staysOk callIO calleeIO argsIO valIO cellsIO cellIO butB zLe cLe csLe vLe vsLe bLe insLe renIOk nbOk anyText anyGc aliveF mK kdN klAt klAt.atL dstNe edgesOf foSl inL C.ids C.idss V.ids V.idss NDst klOf dropS true_or or_true or_self ty3 ty4 ty9 ty5 ty26 ty24 ty29 ty27 ty54 ty77 ty43 ty67 ty65
set_option linter.unusedVariables false
set_option maxRecDepth 100000
section
variable {P:Program} {X:Cx} {st:St} {α:Type} {rs:Array ResultVar} {res:α→V} {outs:α→Nat→List (Nat × B)} {stays:List Nat} {c:Code}
def outQ (P:Program) (X:Cx) (rs:Array ResultVar) (r:PR α) (res:α→V) (outs:α→Nat→List (Nat × B)) (stays:List Nat):Exit→St→Prop
 | .panic ch,_=>X.pan ch
 | e,st=>match r with
  | .ok a k=>exitIO P X rs (res a) (outs a k) stays e st
  | .bad _=>∀ ρ a w,¬ Hold X st ρ a w
theorem cw_imp {Q Q':Exit→St→Prop} (h:CW P X c Q st) (hq:∀ e s,Q e s→Q' e s):CW P X c Q' st:=fun ρ a w hH=>wp_mono (h ρ a w hH) fun e a' w' ⟨s,ρ',hq',hH'⟩=>⟨s,ρ',hq e s hq',hH'⟩
theorem outQ_io {a:α} {k:Nat} {e:Exit} {s:St} (h:outQ P X rs (.ok a k) res outs stays e s):exitIO P X rs (res a) (outs a k) stays e s:=by
 cases e <;> exact h
theorem cw_pan {k:Nat} (h:CW P X c (outQ P X rs (.bad k:PR α) res outs stays) st):CW P X c (exitPan X) st:=fun ρ a w hH=>wp_mono (h ρ a w hH) fun e a' w' ⟨s,ρ',hq',hH'⟩=>⟨s,ρ',by
 cases e with
 | panic c=>exact hq'
 | _=>exact hq' ρ' a' w' hH',hH'⟩
theorem outQ_stop {r:PR α} {t:Nat} {e:Exit} (h:get t st.sl=some stopV:=by rfl) (he:e=.normal ∨ e=.ret:=by first | exact .inl rfl | exact .inr rfl):outQ P X rs r res outs stays e st:=by
 cases r with
 | ok a k=>rcases he with rfl | rfl <;> exact fun ρ a w hH=>(hold_stop hH h).elim
 | bad k=>rcases he with rfl | rfl <;> exact fun ρ a w hH=>hold_stop hH h
def SpQ (P:Program) (g:FuncId) (args:List V) (ins:List (Nat × B)) (r:PR α) (res:α→V) (outs:α→Nat→List (Nat × B)) (stays:List Nat) (ch:Nat→List PanicEntry):Prop:=match r with
 | .ok a k=>SpIO P g args ins (res a) (outs a k) stays
 | .bad k=>SpPan P g args ins (ch k)
theorem eq_ {r:PR α} {f:FuncId} {fn:Func} {as_:List V} {ins:List (Nat × B)} {ch:Nat→List PanicEntry} {sl:List (Nat × V)} {n:Nat} (hf:P.funcs[f]?=some fn) (hn:fn.ntmps=n) (hr:fn.results=rs) (h:∀ X:Cx,X.n=n→(∀ k,r=.bad k→X.pan (ch k))→CW P X c (outQ P X rs r res outs stays) ⟨sl,ins⟩)
  (hg : (fn.name == "runtime.NumGoroutine") = false := by kernel_rfl) (hb : fn.body = some c := by rfl) (hs : argSv 0 as_ = sl := by simp only [argSv, Nat.reduceAdd]; exact rfl) (hl : (as_.length ≤ n) = True := by simp only [List.map_cons, List.map_nil, List.length_cons, List.length_nil, Nat.reduceAdd, Nat.reduceLeDiff]) : SpQ P f as_ ins r res outs stays ch := by
 cases r with
 | ok a k=>exact ei_ hf hn hr (fun X hX=>cw_imp (h X hX (by intro k hk;cases hk)) fun _ _=>outQ_io) hg hb hs hl
 | bad k=>exact ep_ hf hn (fun X hX hp=>cw_pan (h X hX (fun k' hk=>by cases hk;exact hp))) hg hb hs hl
theorem SpQ.ok {f:FuncId} {as_:List V} {ins:List (Nat × B)} {ch:Nat→List PanicEntry} {a:α} {k:Nat} (h:SpQ P f as_ ins (.ok a k) res outs stays ch):SpIO P f as_ ins (res a) (outs a k) stays:=h
theorem SpQ.bad {f:FuncId} {as_:List V} {ins:List (Nat × B)} {ch:Nat→List PanicEntry} {k:Nat} (h:SpQ P f as_ ins (.bad k) res outs stays ch):SpPan P f as_ ins (ch k):=h
theorem okq_ {a:α} {k:Nat} {e:Exit} (he:∀ c,e ≠ .panic c) (h:exitIO P X rs (res a) (outs a k) stays e st):outQ P X rs (.ok a k) res outs stays e st:=by
 cases e with
 | panic c=>exact absurd rfl (he c)
 | _=>exact h
theorem SpPan.ren {f:FuncId} {args:List V} {ins:List (Nat × B)} {ch:List PanicEntry} (h:SpPan P f args ins ch) (σ:List (Nat × Nat)) (hok:renIOk σ args ins [] []=true) :
  SpPan P f (V.rens σ args) (renB σ ins) ch where
 enters:=h.enters
 calls w S F hS ρ hF hinj hdead hins vs hG hvs:=by
  unfold renIOk at hok
  simp only [Bool.and_eq_true,List.all_eq_true,List.contains_eq_mem,decide_eq_true_eq] at hok
  obtain ⟨⟨⟨⟨⟨⟨hn,hki⟩,hko⟩,hks⟩,hnod⟩,hao⟩,hio⟩:=hok
  have hdi:∀ p ∈ ins,∃ j,get p.1 σ=some j:=fun p hp=>get_dom (hki p.1 (List.mem_map.2 ⟨p,hp,rfl⟩))
  have hokf:∀ (ρ₁:Nat→R) z b,okOf (Cx.io w S F hS ρ₁ 0) ρ w z b→okOf (Cx.io w S F hS (fwdR σ ρ) 0) (fwdR σ ρ) w z b:=fun _ z b hb=>⟨hb.1,hb.2.1,fun id b' cap hid=>by
   obtain ⟨k,_,h2⟩:=fwdR_lie hid
   exact hb.2.2 k b' cap h2⟩
  refine (h.calls w S F hS (fwdR σ ρ) (fun id b cap hid=>?_) (fun i j b c d hi hj=>?_) (fun id hid=>?_) (fun id b hg=>?_) vs hG (RdVs.unren (fun z t x hr=>hr.mono fun b hb=>⟨hokf _ z b hb,rfl⟩) hao hvs)).mono ?_
  ·obtain ⟨k,_,h2⟩:=fwdR_lie hid
   exact hF k b cap h2
  ·obtain ⟨k,h1,h2⟩:=fwdR_lie hi
   obtain ⟨l,h3,h4⟩:=fwdR_lie hj
   have:=hinj k l b c d h2 h4
   subst this
   exact ren_inj hn h1 h3
  ·unfold fwdR
   split
   ·rename_i j hj
    refine hdead j fun hm=>hid ?_
    obtain ⟨p,h1,h2⟩:=renB_mem hm
    obtain ⟨j',hj'⟩:=hdi p h1
    rw [renI_get hj'] at h2
    subst h2
    rw [ren_inj hn hj hj']
    exact List.mem_map.2 ⟨p,h1,rfl⟩
   ·rfl
  ·have:=hins _ _ (get_renB hn hdi hg)
   exact HasB.unren (hdi _ (get_mem hg)) (hio _ (get_mem hg)) this
  ·rintro e w' hp
   refine ⟨hp.1,hp.2.1,fun c hc=>hp.2.2 c ⟨hc.1,fun i cap hi=>?_⟩⟩
   obtain ⟨j,_,hj⟩:=fwdR_lie hi
   exact hc.2 j cap hj
theorem SpQ.ren {r:PR α} {f:FuncId} {args:List V} {ins:List (Nat × B)} {ch:Nat→List PanicEntry} (h:SpQ P f args ins r res outs stays ch) (σ:List (Nat × Nat)) (hok:∀ a k,renIOk σ args ins (outs a k) stays=true) (hok2:renIOk σ args ins [] []=true) :
  SpQ P f (V.rens σ args) (renB σ ins) r (fun a=>(res a).ren σ) (fun a k=>renB σ (outs a k)) (stays.map (renI σ)) ch:=by
 cases r with
 | ok a k=>exact SpIO.ren h σ (hok a k)
 | bad k=>exact SpPan.ren h σ hok2
theorem qio_ {st0:St} {K:St→Prop} {l:List Oper} {ops:Array Oper} {o:Oper} {f:Prop} (hf:f) {c:Call} {cv:Operand} {g:FuncId} {args as_:List V} {ins outs:List (Nat × B)} {v:V} {mk:Bool} (hsp:SpIO P g args ins v outs stays) (h:RWr P X ops K (l,st0))
  (hop:o.op=.call c:=by exact rfl) (hcal:c.callee=.value cv:=by exact rfl)
  (hcl:f→callIO (ins.map (·.1)) st 40 cv c.args.toList=some (g,mk,as_):=by intro hf;simp only [go_sem,hf] <;> exact rfl) (hle:f→vsLe args as_:=by intro hf;simp only [go_sem,hf] <;> fail) (hins:f→insLe st.bl ins:=by intro hf;simp only [go_sem,hf] <;> fail) (hon:f→ins.all (fun p=>p.2.only (ins.map (·.1)))=true:=by intro hf;simp only [go_sem,hf] <;> fail) (hm:f→(mk || (v.allF && outs.all fun p=>p.2.allF))=true:=by intro hf;first | rfl | (simp only [go_sem,hf] <;> fail))
  (hg:f→guardOf st ops o=some true:=by intro hf;simp only [go_sem,hf] <;> fail) (hd:dstOk X.n o.dst=true:=by rw [hX];rfl) (hd2:staysOk X.n (ins.map (·.1)) (outs.map (·.1)) stays=true:=by rw [hX];rfl)
  (hr:f→st.app (ioD (ins.map (·.1)) v outs stays) o.dst=st0:=by intro hf;simp (maxSteps:=5000000) only [go_sem,hf,hX];exact rfl):RWr P X ops K (o :: l,st):=by
 have hr:=hr hf
 subst hr
 have hm:=hm hf
 rw [Bool.or_eq_true,Bool.and_eq_true,List.all_eq_true] at hm
 exact rw_step (callIO_step (n:=40) hop hcal (hcl hf) hsp (hle hf) (hins hf) (hon hf) hm hd2) (hg hf) hd h
theorem pio_ {K:St→Prop} {l:List Oper} {ops:Array Oper} {o:Oper} {f:Prop} (hf:f) {d:Nat} {c:Call} {cv:Operand} {g:FuncId} {args as_:List V} {ins:List (Nat × B)} {ch:List PanicEntry} {mk:Bool} (hsp:SpPan P g args ins ch) (hpan:X.pan ch)
  (hop:o.op=.call c:=by exact rfl) (hcal:c.callee=.value cv:=by exact rfl) (hdd:o.dst=some d:=by exact rfl)
  (hcl:f→callIO (ins.map (·.1)) st 40 cv c.args.toList=some (g,mk,as_):=by intro hf;simp only [go_sem,hf] <;> exact rfl) (hle:f→vsLe args as_:=by intro hf;simp only [go_sem,hf] <;> fail) (hins:f→insLe st.bl ins:=by intro hf;simp only [go_sem,hf] <;> fail) (hon:f→ins.all (fun p=>p.2.only (ins.map (·.1)))=true:=by intro hf;simp only [go_sem,hf] <;> fail)
  (hg:f→guardOf st ops o=some true:=by intro hf;simp only [go_sem,hf] <;> fail) (hd:dstOk X.n o.dst=true:=by rw [hX];rfl):RWr P X ops K (o :: l,st) :=
 rw_stepP (panIO_step hop hcal (hcl hf) hsp (hle hf) (hins hf) (hon hf) hpan) (hg hf) hd (rw_stop (t:=d) (by rw [hdd];show get d (st.put (some d) stopV).sl=_;simp [St.put,get]))
end
def SpR {α:Type} (P:Program) (g:FuncId) (args:List V) (l:List Vl) (en:Int) (k:Nat) (r:PR α) (res:α→V):Prop:=match r with
 | .ok a k2=>SpL P g args 67 (paH l en k) (res a) (paH l en k2) 26
 | .bad k2=>SpPL P g args 67 (paH l en k) (chP l en k2) 26
section
variable {P:Program} {g:FuncId} {args:List V} {α:Type} {l:List Vl} {en:Int} {k:Nat} {r:PR α} {res:α→V}
theorem SpR.ok {a:α} {k2:Nat} (h:SpR P g args l en k (.ok a k2) res):SpL P g args 67 [.t false (.sl (rVs l)),.t false (.lit (.int .i64 k)),.t false (.lit (.int .i64 en))] (res a) [.t false (.sl (rVs l)),.t false (.lit (.int .i64 k2)),.t false (.lit (.int .i64 en))] 26:=h
theorem SpR.bad {k2:Nat} (h:SpR P g args l en k (.bad k2) res):SpPL P g args 67 [.t false (.sl (rVs l)),.t false (.lit (.int .i64 k)),.t false (.lit (.int .i64 en))] (chP l en k2) 26:=h
theorem SpR.mk (h:∀ vs:List Value,vs.length=26→(∀ v ∈ vs,v.oneCell'=true)→SpQ P g args [(1000,.var 67 ([.t false (.sl (rVs l)),.t false (.lit (.int .i64 k)),.t false (.lit (.int .i64 en))]++lits vs))] r res (fun _ k2=>[(1000,.var 67 ([.t false (.sl (rVs l)),.t false (.lit (.int .i64 k2)),.t false (.lit (.int .i64 en))]++lits vs))]) [1000] (chP l en)):SpR P g args l en k r res:=by
 cases r <;> exact h
end
theorem vE_eta (e:Ex):vE e=.agg [.t true (.lit (.int .i64 e.k)),.t true (.lit (.int .i64 e.vk.k)),.t true (.lit (.int .i64 e.vk.n)),.t true (.lit (.string e.vk.s)),.t true (.lit (.string e.nm)),.t true (.sl (e.ar.map rE))]:=by
 cases e
 unfold vE
 rw [rE_mk]
 rfl
theorem rE_eta (e:Ex):rE e=[.lit (.int .i64 e.k),.lit (.int .i64 e.vk.k),.lit (.int .i64 e.vk.n),.lit (.string e.vk.s),.lit (.string e.nm),.sl (e.ar.map rE)]:=by
 cases e
 rw [rE_mk]
 rfl
def vCol (c:Col):V:=.agg [.t true (.lit (.string c.name)),.t true (.lit (.int .i64 c.ty))]
theorem pname_r (l:List Vl) (hl:GoodL l) (en:Int) (k:Nat):SpR Tryz.prog 111 [.one (.optr 1000 0)] l en k (nameR l k) (fun s=>.one (.t true (.lit (.string s)))):=by
 unfold nameR
 cases h:nameP l k with
 | true=>exact pname_l l hl en k h
 | false=>exact pname_p l hl en k h
theorem pneed_r (l:List Vl) (hl:GoodL l) (en:Int) (k:Nat) (s:ByteArray):SpR Tryz.prog 113 [.one (.optr 1000 0),.one (.t false (.sl (rS [s])))] l en k (needR l s k) (fun _=>.tup []):=by
 have:=hl.len
 unfold needR
 cases h:takeB l s k with
 | true=>exact pneed_l l (by omega) en k s h
 | false=>exact pneed_p l (by omega) en k s h
theorem pone_r (l:List Vl) (hl:GoodL l) (en:Int) (k:Nat) (L:List ByteArray) (hL:L.length≤1000):SpR Tryz.prog 109 [.one (.optr 1000 0),.one (.t false (.sl (rS L)))] l en k (wordR l L k) (fun i=>.one (.t true (.lit (.int .i64 i)))):=by
 have:=hl.len
 unfold wordR
 cases h:decide (oneP l k L 0=-1) with
 | true=>exact pone_p l (by omega) en k L hL (of_decide_eq_true h)
 | false=>exact pone_l l (by omega) en k L hL (of_decide_eq_false h)
theorem pnumber_r (l:List Vl) (hl:GoodL l) (en:Int) (k:Nat):SpR Tryz.prog 156 [.one (.optr 1000 0)] l en k (numR l k) (fun n=>.one (.t true (.lit (.int .i64 n)))):=by
 unfold numR
 cases h:kindP l 2 k with
 | true=>exact pnumber_l l hl en k h
 | false=>exact pnumber_p l en k h
theorem pmust_r (l:List Vl) (hl:GoodL l) (en:Int) (k:Nat):SpR Tryz.prog 116 [.one (.optr 1000 0)] l en k (mustR l k) vV:=by
 unfold mustR
 cases h:vP l k with
 | yes v k2=>exact pmust_l l hl en k v k2 h
 | bad k2=>exact pmust_p l hl en k k2 h
 | no=>exact pmust_n l hl en k h
theorem typR_eq (l:List Vl) (k:Nat):typR l k=bif decide (oneP l k wTypes 0=-1) then .bad k else .ok (1 + oneP l k wTypes 0) (k + 1):=by
 unfold typR wordR
 show PR.bind (bif decide (oneP l k wTypes 0=-1) then _ else _) _=_
 cases decide (oneP l k wTypes 0=-1) <;> rfl
theorem ptyp_r (l:List Vl) (hl:GoodL l) (en:Int) (k:Nat):SpR Tryz.prog 153 [.one (.optr 1000 0)] l en k (typR l k) (fun n=>.one (.t true (.lit (.int .i64 n)))):=by
 have:=hl.len
 rw [typR_eq]
 cases h:decide (oneP l k wTypes 0=-1) with
 | true=>exact ptyp_p l (by omega) en k (of_decide_eq_true h)
 | false=>exact ptyp_l l (by omega) en k (of_decide_eq_false h)
theorem pcolumn_r (l:List Vl) (hl:GoodL l) (en:Int) (k:Nat):SpR Tryz.prog 150 [.one (.optr 1000 0)] l en k (colR l k) vCol:=by
 unfold colR nameR
 cases h1:nameP l k with
 | false=>exact pcolumn_p l hl en k h1
 | true =>
  show SpR _ _ _ _ _ _ (PR.bind (typR l (k + 1)) _) _
  rw [typR_eq]
  cases h2:decide (oneP l (k + 1) wTypes 0=-1) with
  | true=>exact pcolumn_q l hl en k h1 (of_decide_eq_true h2)
  | false=>exact pcolumn_l l hl en k h1 (of_decide_eq_false h2)
end Go.Proofs.YtjdgejfhnfnmgaaGreatDoor.Ax
namespace Go.Proofs.YtjdgejfhnfnmgaaGreatDoor.Ax
open Go.RowKit Go.Sort
set_option linter.unusedSimpArgs false
attribute [local go_sem] ty3 ty4 ty9 ty5 ty26 ty24 ty29 ty27 ty77 ty43 ty67 ty65 wIs wNull wShut wOpen wNot wAnd7
set_option linter.unusedVariables false
set_option maxRecDepth 100000
theorem takeB_lt {l:List Vl} {s:ByteArray} {k:Nat} (h:takeB l s k=true):k < l.length:=by
 unfold takeB at h
 cases ht:l[k]? with
 | none=>rw [ht] at h;cases h
 | some t=>exact (List.getElem?_eq_some_iff.1 ht).1
theorem wordR_seven {l:List Vl} {k:Nat} {i:Int} {k2:Nat} (h:wordR l wAnd7 k=.ok i k2):0≤i∧i < 7:=by
 unfold wordR at h
 cases hd:decide (oneP l k wAnd7 0=-1) with
 | true=>rw [hd] at h;cases h
 | false =>
  rw [hd] at h
  cases h
  refine ⟨oneP_ge (of_decide_eq_false hd),?_⟩
  have hd:=of_decide_eq_false hd
  rcases oneP_le (l:=l) (k:=k) (L:=wAnd7) (i:=0) with ⟨h1,h2⟩ | h1
  ·have:wAnd7.length=7:=rfl
   omega
  ·omega
set_option maxHeartbeats 16000000 in
theorem ppair_r (l:List Vl) (hl:GoodL l) (en:Int) (d:Int) (E:Nat→PR Ex) (hE:∀ k,SpR Tryz.prog 118 [.one (.optr 1000 0),.one (.t false (.lit (.int .i64 d)))] l en k (E k) vE) (k:Nat) :
  SpR Tryz.prog 155 [.one (.optr 1000 0),.one (.t false (.lit (.int .i64 d)))] l en k (pairR l E k) vE:=by
 have hll:=hl.len
 refine SpR.mk fun vs hlen hone=>?_
 generalize hr:pairR l E k=r
 unfold pairR at hr
 have f1:(1:Nat)≤maxLen:=by decide
 have f2:(1 * 48:Nat)≤140737488355328:=by decide
 (refine eq_ Tryz.func155 Tryz.ntmps155 Tryz.results155 fun X hX hpq=>?_)
 refine gs_ ?_
 refine au_ an0 ?_
 (rcases hq:E k with ⟨a,k2⟩ | ⟨k2⟩;rotate_left;(focus (have hC:=hE k;rw [hq] at hr hC;subst hr;have hC:=SpR.bad hC;have hpn:=hpq _ rfl;refine rn_ 0 an0 fun K hK=>?_;refine rx_ an0 ?_;exact pn_ 1000 an0 hC hpn));have hC:=hE k;rw [hq] at hr hC;(try dsimp only [PR.bind] at hr);have hC:=SpR.ok hC;(try simp only [vE_eta,vV,vCol] at hC);refine rn_ 0 an0 fun K hK=>?_;refine rx_ an0 ?_;refine lk_ 1000 an0 hC ?_;refine rx_ an0 ?_;refine rwr_nil (hK _ ?_);clear hC hK K)
 refine gs_ ?_
 (have hT:=ptake_l l (by omega) en (k2) (wIs);rcases hb:takeB l (wIs) (k2) with _ | _ <;> (first | rw [takeK_f hb,hb] at hT | rw [takeK_t hb,hb] at hT) <;> (rw [hb] at hr;dsimp only [cond] at hr;unfold paH at hT;refine rn_ 0 an0 fun K hK=>?_;refine rx_ an0 ?_;refine lk_ 1000 an0 hT ?_;refine rx_ an0 ?_;refine rwr_nil (hK _ ?_);clear hK K hT hb))
 ·refine gs_ ?_
  (rcases hq:wordR l wAnd7 k2 with ⟨i,k3⟩ | ⟨k3⟩;rotate_left;(focus (have hC:=pone_r l hl en k2 wAnd7 (by decide);rw [hq] at hr hC;subst hr;have hC:=SpR.bad hC;have hpn:=hpq _ rfl;refine rn_ 0 an0 fun K hK=>?_;refine rx_ an0 ?_;refine rwr_melt 20 20 ?_;exact pn_ 1000 an0 hC hpn));have hC:=pone_r l hl en k2 wAnd7 (by decide);rw [hq] at hr hC;(try dsimp only [PR.bind] at hr);have hC:=SpR.ok hC;(try simp only [vE_eta,vV,vCol] at hC);refine rn_ 0 an0 fun K hK=>?_;refine rx_ an0 ?_;refine rwr_melt 20 20 ?_;refine lk_ 1000 an0 hC ?_;refine rx_ an0 ?_;refine rwr_nil (hK _ ?_);clear hC hK K)
  have h7:=wordR_seven hq
  have e1:IntKind.i64.wrap (5 + i)=5 + i:=by rw [IntWalk.i64_in _ (by omega)]
  refine gs_ ?_
  (rcases hq:E k3 with ⟨b,k4⟩ | ⟨k4⟩;rotate_left;(focus (have hC:=hE k3;rw [hq] at hr hC;subst hr;have hC:=SpR.bad hC;have hpn:=hpq _ rfl;refine rn_ 0 an0 fun K hK=>?_;refine rx_ an0 ?_;exact pn_ 1000 an0 hC hpn));have hC:=hE k3;rw [hq] at hr hC;(try dsimp only [PR.bind] at hr);have hC:=SpR.ok hC;(try simp only [vE_eta,vV,vCol] at hC);refine rn_ 0 an0 fun K hK=>?_;refine rx_ an0 ?_;refine lk_ 1000 an0 hC ?_;refine rx_ an0 ?_;refine rwr_nil (hK _ ?_);clear hC hK K)
  generalize hj:5 + i=j at *
  refine au_ (an2 hj e1) ?_
  (subst hr;refine okq_ (by intro c h;cases h) ?_;(try simp only [vE_eta,vV,vCol,Ex.k,Ex.vk,Ex.nm,Ex.ar,List.map_cons,List.map_nil,rE_eta,Vl.zero]))
  refine ex_meltb 4 5 29 ?_
  exact oj_ an0 (.inl rfl)
 ·refine gs_ ?_
  (rcases hq:needR l wNull (k2 + 1) with ⟨u,k3⟩ | ⟨k3⟩;rotate_left;(focus (have hC:=pneed_r l hl en (k2 + 1) wNull;rw [hq] at hr hC;subst hr;have hC:=SpR.bad hC;have hpn:=hpq _ rfl;refine rn_ 0 an0 fun K hK=>?_;refine rx_ an0 ?_;refine rwr_melt 14 14 ?_;exact pn_ 1000 an0 hC hpn));have hC:=pneed_r l hl en (k2 + 1) wNull;rw [hq] at hr hC;(try dsimp only [PR.bind] at hr);have hC:=SpR.ok hC;(try simp only [vE_eta,vV,vCol] at hC);refine rn_ 0 an0 fun K hK=>?_;refine rx_ an0 ?_;refine rwr_melt 14 14 ?_;refine lk_ 1000 an0 hC ?_;refine rx_ an0 ?_;refine rwr_nil (hK _ ?_);clear hC hK K)
  refine au_ an0 ?_
  (subst hr;refine okq_ (by intro c h;cases h) ?_;(try simp only [vE_eta,vV,vCol,Ex.k,Ex.vk,Ex.nm,Ex.ar,List.map_cons,List.map_nil,rE_eta,Vl.zero]))
  refine ex_meltb 4 5 17 ?_
  exact oj_ an0 (.inl rfl)
end Go.Proofs.YtjdgejfhnfnmgaaGreatDoor.Ax
