/-  -/
import Derived.Test.YtjdgejfhnfnmgaaGreatDoorP11
import Derived.Test.YtjdgejfhnfnmgaaGreatDoorPxTy
namespace Go.Proofs.YtjdgejfhnfnmgaaGreatDoor.Ax
open Go.RowKit
set_option linter.unusedSimpArgs false
attribute [local go_sem] extV appD cutOwn appOwn clearOwn bdI mapD putD' keyOk getOr getM putM wholeV litCs asV asC ptrC fnC nilC nilPtr strRows_len runs runsN guardOf exec1 pureV modD rowD ev get St.app St.put St.turn loadC moveC fieldOf indexC lenC lenOk cutC bndOf evAll fieldV convV unV binV binI bitsV moreV intsT eqL eq1 valOf min1 lit1 litInt litI litB litS constV constC cellsV partsOf placesOf buildV fillL toT elemsOf rowsOf baseOf dstOk V.kill V.ment V.ments C.kill C.ment C.ments B.kill setD litRows litRows_append T.isLit callAll calleeV argsV argV viewC viewCs modeOk freeOps V.free C.free V.allF V.allFs C.allF C.allFs B.allF callD leL growB C.flat V.flat B.flat flatL flatB St.flat List.set_cons_zero List.set_cons_succ C.only C.onlys V.only V.onlys B.only renI C.ren C.rens V.ren V.rens B.ren renB renOk nodK Option.getD_some Option.getD_none Option.isSome_some implies_true false_implies C.fit C.fits V.fit V.fit1 V.fits Bool.and_self ite_self exitV resV resL resC outV outV.outs eqB nn cast0 Int.toNat_natCast List.getElem?_map Value.cells Value.oneCell' Nat.lt_irrefl decide_true decide_false and_true true_and and_self and_false false_and not_true_eq_false not_false_eq_true not_true not_false List.size_toArray all_len Nat.zero_add Nat.add_zero List.length_cons List.length_append List.length_replicate List.length_set List.length_nil List.length_map List.map_cons List.map_nil List.take_succ_cons List.take_zero List.take_nil List.drop_succ_cons List.drop_zero List.drop_nil List.cons_append List.nil_append List.append_nil List.all_cons List.all_nil Bool.and_true Bool.true_and Bool.and_false Bool.false_and Bool.not_true Bool.not_false Bool.or_false Bool.or_true Bool.false_or Bool.true_or List.filter_cons List.filter_nil List.contains_cons List.contains_nil beq_self_eq_true List.getElem?_cons_zero List.getElem?_cons_succ List.getElem?_nil Option.map_some Option.map_none Option.toList_some Option.toList_none List.isEmpty_cons List.isEmpty_nil Bool.false_eq_true Bool.true_eq_false List.getElem?_toArray List.not_mem_nil List.mem_cons or_false forall_eq List.mem_singleton forall_const Option.toArray addF if_true if_false dstsOf Oper.looksAt Op.operands Call.operands pick edge B.ment Region.binds List.any_cons List.any_nil List.filterMap_cons List.filterMap_nil ne_eq Bool.or_self List.isEmpty_iff Array.toList_append List.append_toArray Array.append_empty Option.bind_some Option.bind_none List.push_toArray
set_option linter.unusedVariables false
attribute [go_sem] extV appD cutOwn appOwn clearOwn bdI mapD putD' keyOk getOr getM putM wholeV litCs asV asC ptrC fnC nilC nilPtr strRows_len runs runsN guardOf exec1 pureV modD rowD ev get St.app St.put St.turn loadC moveC fieldOf indexC lenC lenOk cutC bndOf evAll fieldV convV unV binV binI bitsV moreV intsT eqL eq1 valOf min1 lit1 litInt litI litB litS constV constC cellsV partsOf placesOf buildV fillL toT elemsOf rowsOf baseOf dstOk V.kill V.ment V.ments C.kill C.ment C.ments B.kill setD litRows litRows_append T.isLit callAll calleeV argsV argV viewC viewCs modeOk freeOps V.free C.free V.allF V.allFs C.allF C.allFs B.allF callD leL growB C.flat V.flat B.flat flatL flatB St.flat List.set_cons_zero List.set_cons_succ C.only C.onlys V.only V.onlys B.only renI C.ren C.rens V.ren V.rens B.ren renB renOk nodK Option.getD_some Option.getD_none Option.isSome_some implies_true false_implies C.fit C.fits V.fit V.fit1 V.fits Bool.and_self ite_self exitV resV resL resC outV outV.outs eqB nn cast0 Int.toNat_natCast List.getElem?_map Value.cells Value.oneCell' Nat.lt_irrefl decide_true decide_false and_true true_and and_self and_false false_and not_true_eq_false not_false_eq_true not_true not_false List.size_toArray all_len Nat.zero_add Nat.add_zero List.length_cons List.length_append List.length_replicate List.length_set List.length_nil List.length_map List.map_cons List.map_nil List.take_succ_cons List.take_zero List.take_nil List.drop_succ_cons List.drop_zero List.drop_nil List.cons_append List.nil_append List.append_nil List.all_cons List.all_nil Bool.and_true Bool.true_and Bool.and_false Bool.false_and Bool.not_true Bool.not_false Bool.or_false Bool.or_true Bool.false_or Bool.true_or List.filter_cons List.filter_nil List.contains_cons List.contains_nil beq_self_eq_true List.getElem?_cons_zero List.getElem?_cons_succ List.getElem?_nil Option.map_some Option.map_none Option.toList_some Option.toList_none List.isEmpty_cons List.isEmpty_nil Bool.false_eq_true Bool.true_eq_false List.getElem?_toArray List.not_mem_nil List.mem_cons or_false forall_eq List.mem_singleton forall_const Option.toArray addF if_true if_false dstsOf Oper.looksAt Op.operands Call.operands edge B.ment Region.binds List.any_cons List.any_nil List.filterMap_cons List.filterMap_nil ne_eq Bool.or_self List.isEmpty_iff Array.toList_append List.append_toArray Array.append_empty Option.bind_some Option.bind_none List.push_toArray argSv ioD modeIO staysOk callIO calleeIO argsIO valIO cellsIO cellIO butB zLe cLe csLe vLe vsLe bLe insLe renIOk nbOk edgesOf inL C.ids C.idss V.ids V.idss klOf dropS true_or or_true or_self runD nextD nextE nextF stepD viewD rdT idsT blT fstB mentBl xOf xOf.m seesB pairF pairE meetN keepV mentT dropT St.appD junkT cleanJ contD jsOf gv_lit gv_skip gv_none mkW_true mkW_false gv_mkW ment_mkW jk_one jk_agg jk_tup jk_junk jk_mkW ids_mkW idsC_nil
attribute [go_sem_proc] Nat.reduceAdd Nat.reduceSub Nat.reduceMul Nat.reduceLT Nat.reduceLeDiff Nat.reduceEqDiff Nat.reduceBEq Int.reduceToNat Int.reduceLE Int.reduceLT Int.reduceEq Int.reduceBEq Int.reduceBNe reduceCtorEq
attribute [go_sem_proc ↓] reduceIte
theorem an2 {a b:Prop} (h1:a) (h2:b):a∧b:=⟨h1,h2⟩
theorem an3 {a b c:Prop} (h1:a) (h2:b) (h3:c):a∧b∧c:=⟨h1,h2,h3⟩
theorem an4 {a b c d:Prop} (h1:a) (h2:b) (h3:c) (h4:d):a∧b∧c∧d:=⟨h1,h2,h3,h4⟩
theorem an5 {a b c d e:Prop} (h1:a) (h2:b) (h3:c) (h4:d) (h5:e):a∧b∧c∧d∧e:=⟨h1,h2,h3,h4,h5⟩
theorem an6 {a b c d e f:Prop} (h1:a) (h2:b) (h3:c) (h4:d) (h5:e) (h6:f):a∧b∧c∧d∧e∧f:=⟨h1,h2,h3,h4,h5,h6⟩
theorem an7 {a b c d e f g:Prop} (h1:a) (h2:b) (h3:c) (h4:d) (h5:e) (h6:f) (h7:g):a∧b∧c∧d∧e∧f∧g:=⟨h1,h2,h3,h4,h5,h6,h7⟩
theorem an0:(0:Nat)=0:=rfl
section
variable {P:Program} {X:Cx} {st st0 S s:St} {Q:Exit→St→Prop} {c:Code} {id:Nat} {l:List Oper} {ops:Array Oper} {o:Oper} {K:St→Prop} {k:Nat} {F:List Lf} {E:List Le} {pr:List (Nat × Nat)} {rs:Array ResultVar} {res:V} {nb:List (Nat × B)}
theorem en_ {f:FuncId} {fn:Func} {as_:List A} {sl:List (Nat × V)} {n:Nat} (hf:P.funcs[f]?=some fn) (hn:fn.ntmps=n) (hr:fn.results=rs) (h:∀ X:Cx,X.n=n→CW P X c (exitQ P X rs res nb) ⟨sl,[]⟩)
  (hg : (fn.name == "runtime.NumGoroutine") = false := by kernel_rfl) (hb : fn.body = some c := by rfl) (hs : argSl 0 as_ = sl := by simp only [argSl, List.map_cons, List.map_nil, Nat.reduceAdd]; exact rfl) (hl : (as_.length ≤ n) = True := by simp only [List.map_cons, List.map_nil, List.length_cons, List.length_nil, Nat.reduceAdd, Nat.reduceLeDiff]) : Sp P f as_ res nb := by
 subst hs
 subst hn
 subst hr
 exact sp_of hf hg hb (of_eq_true hl) h
theorem ei_ {f:FuncId} {fn:Func} {as_:List V} {ins outs:List (Nat × B)} {stays:List Nat} {sl:List (Nat × V)} {n:Nat} (hf:P.funcs[f]?=some fn) (hn:fn.ntmps=n) (hr:fn.results=rs) (h:∀ X:Cx,X.n=n→CW P X c (exitIO P X rs res outs stays) ⟨sl,ins⟩)
  (hg : (fn.name == "runtime.NumGoroutine") = false := by kernel_rfl) (hb : fn.body = some c := by rfl) (hs : argSv 0 as_ = sl := by simp only [argSv, Nat.reduceAdd]; exact rfl) (hl : (as_.length ≤ n) = True := by simp only [List.map_cons, List.map_nil, List.length_cons, List.length_nil, Nat.reduceAdd, Nat.reduceLeDiff]) : SpIO P f as_ ins res outs stays := by
 subst hs
 subst hn
 subst hr
 exact sp_of_io hf hg hb (of_eq_true hl) h
theorem sm_ {f p q:Prop} (hf:f) (hq:q) (h:f→(True→q)→p:=by
 intro hf hq
 simp (maxSteps:=5000000) only [go_sem,hf,hX]
 exact hq trivial):p:=h hf fun _=>hq
theorem gs_ {p q:Prop} (hq:q) (h:(True→q)→p:=by
 intro hq
 (repeat (first | refine cw_seq' ?_ | refine cw_block ?_ | refine cw_true rfl ?_ | refine cw_false rfl ?_ | refine cw_exit ?_ | refine cw_skip ?_ | refine then_mk ?_ | refine then_exit ?_ | refine then_ret ?_ | refine blk_mk ?_ | refine blk_ret ?_ | refine blk_same ?_ | refine blk_ne (by decide) ?_))
 exact hq trivial):p:=h fun _=>hq
theorem ou_ {f q:Prop} (hf:f) (hq:q) {e:Exit} (h:f→(True→q)→exitQ P X rs res [] e st:=by
 intro hf hq
 first | refine exit_retf ?_ | refine exit_normalf ?_
 simp only [go_sem,hf]
 exact hq trivial):exitQ P X rs res [] e st:=h hf fun _=>hq
theorem oq_ {f:Prop} (hf:f) {e:Exit} (h:f→exitQ P X rs res [] e st:=by
 intro hf
 first | refine exit_retf ?_ | refine exit_normalf ?_
 simp only [go_sem,hf]
 try rfl
 all_goals fail):exitQ P X rs res [] e st:=h hf
theorem ow_ {f:Prop} (hf:f) (h1:f→resV P st rs.toList=some res:=by intro hf;simp only [go_sem,hf,hX] <;> rfl) (h2:f→leL nb st.bl:=by intro hf;simp only [go_sem,hf,hX] <;> ((repeat' apply And.intro) <;> rfl)) (h3:res.only (nb.map (·.1))=true:=by simp only [go_sem]) (h4:f→∀ p ∈ nb,p.2.only (nb.map (·.1))=true:=by intro hf;simp only [go_sem,hf]):Ends P X rs res nb st:=ends_own (h1 hf) (h2 hf) h3 (h4 hf)
theorem oi_ {f:Prop} (hf:f) {outs:List (Nat × B)} {stays:List Nat} {e:Exit} (he:e=.ret ∨ e=.normal) (h1:f→resV P st rs.toList=some res:=by intro hf;simp only [go_sem,hf,hX] <;> rfl) (h2:f→leL outs st.bl:=by intro hf;simp only [go_sem,hf,hX] <;> ((repeat' apply And.intro) <;> rfl)) (h3:f→res.only (outs.map (·.1))=true:=by intro hf;simp only [go_sem,hf]) (h4:f→(outs.all fun p=>p.2.only (outs.map (·.1)))=true:=by intro hf;simp only [go_sem,hf])
  (h5:(stays.all fun i=>decide (X.n≤i) && (outs.map (·.1)).contains i)=true:=by rw [hX];rfl):exitIO P X rs res outs stays e st:=by
 rcases he with rfl | rfl
 ·exact exitIO_r (h1 hf) (h2 hf) (h3 hf) (h4 hf) h5
 ·exact exitIO_n (h1 hf) (h2 hf) (h3 hf) (h4 hf) h5
theorem le_ (h:leL s.sl st.sl∧leL s.bl st.bl:=by simp only [go_sem,List.map_set,List.map_append,hX] <;> ((repeat' apply And.intro) <;> rfl)):s.le st:=le_mk2 h
theorem lf_ {f:Prop} (hf:f) (h:f→leL s.sl st.sl∧leL s.bl st.bl:=by intro hf;simp only [go_sem,List.map_set,List.map_append,hf,hX] <;> ((repeat' apply And.intro) <;> rfl)):s.le st:=le_mk2 (h hf)
theorem rwr_call0 {c:Call} {cv:Operand} {f:FuncId} {as_:List A} (n:Nat) (hsp:Sp P f as_ res nb) (hop:o.op=.call c) (hcal:c.callee=.value cv)
  (hc:callAll st n cv c.args.toList=some (f,as_)) (hm:modeOk st n cv c.args.toList res nb=true) (hg:guardOf st ops o=some true) (hd:(dstOk X.n o.dst && nbOk X.n nb)=true) (h:RWr P X ops K (l,st.app (callD res nb) o.dst)):RWr P X ops K (o :: l,st):=by
 unfold callAll at hc
 split at hc
 ·rename_i p hp
  split at hc
  ·rename_i qs hqs
   obtain ⟨g,caps⟩:=p
   simp only [Option.some.injEq,Prod.mk.injEq] at hc
   obtain ⟨rfl,rfl⟩:=hc
   rw [Bool.and_eq_true] at hd
   refine rw_step (call_step (n:=n) hop hcal hp hqs hsp ?_ hd.2) hg hd.1 h
   unfold modeOk at hm
   rw [hp] at hm
   simp only [Bool.or_eq_true,Bool.and_eq_true,List.isEmpty_iff,List.all_eq_true] at hm
   exact hm.imp (fun h=>⟨h.2,h.1⟩) fun h=>h
  ·cases hc
 ·cases hc
theorem pick_t {z:Bool} {v:V} {c x y:Operand} (hop:o.op=.pick c x y) (hc:ev st c=some (.one (.t z (.lit (.bool true))))) (hx:ev st x=some v):exec1 P st o=some (.pure v):=by
 have h:pureV P st o.op=some v:=by rw [hop];simp only [pureV,hc,hx]
 unfold exec1
 rw [h]
theorem pick_f {z:Bool} {v:V} {c x y:Operand} (hop:o.op=.pick c x y) (hc:ev st c=some (.one (.t z (.lit (.bool false))))) (hy:ev st y=some v):exec1 P st o=some (.pure v):=by
 have h:pureV P st o.op=some v:=by rw [hop];simp only [pureV,hc,hy]
 unfold exec1
 rw [h]
theorem rw_when {b:Bool} {v:V} (hg:guardOf st ops o=some b) (hdn:dstOk X.n o.dst=true) (hx:b=true→exec1 P st o=some (.pure v)) (h:RWr P X ops K (l,st.put o.dst (mkW b v))):RWr P X ops K (o :: l,st):=by
 cases b with
 | true=>exact rw_step (exec1_runs (hx rfl)).step hg hdn h
 | false=>exact rw_skip hg hdn h
theorem rw_callw {b:Bool} {c:Call} {cv:Operand} {f:FuncId} {as_:List A} (n:Nat) (hop:o.op=.call c) (hcal:c.callee=.value cv) (hg:guardOf st ops o=some b) (hc:b=true→callAll st n cv c.args.toList=some (f,as_)) (hsp:Sp P f as_ res []) (hm:b=true→modeOk st n cv c.args.toList res []=true) (hd:dstOk X.n o.dst=true)
  (h:RWr P X ops K (l,st.put o.dst (mkW b res))):RWr P X ops K (o :: l,st):=by
 cases b with
 | true=>exact rwr_call0 n hsp hop hcal (hc rfl) (hm rfl) hg (by rw [hd];rfl) h
 | false=>exact rw_skip hg hd h
def runsU (P:Program) (n:Nat) (ops:Array Oper):Nat→List Oper→St→List Oper × St
 | 0,l,st=>(l,st)
 | _ + 1,[],st=>([],st)
 | k + 1,o :: l,st=>match o.guard with
  | some _=>(o :: l,st)
  | none=>match dstOk n o.dst with
   | false=>(o :: l,st)
   | true=>match exec1 P st o with
    | some D=>runsU P n ops k l (st.app D o.dst)
    | none=>(o :: l,st)
theorem rw_runsU:∀ {k:Nat} {l:List Oper} {st:St},RWr P X ops K (runsU P X.n ops k l st)→RWr P X ops K (l,st)
 | 0,_,_,h=>h
 | _ + 1,[],_,h=>h
 | k + 1,o :: l,st,h=>by
  unfold runsU at h
  split at h
  ·exact h
  ·rename_i hgu
   split at h
   ·exact h
   ·rename_i hd
    split at h
    ·rename_i D hD
     exact rw_step (exec1_runs hD).step (by unfold guardOf;rw [hgu]) hd (rw_runsU h)
    ·exact h
def runDU (P:Program) (n:Nat) (ops:Array Oper):Nat→List Oper→Nat→St→List Lf→List Le→List (Nat × Nat)→Cd
 | 0,l,k,S,F,E,pr=>⟨l,k,S,F,E,pr⟩
 | _ + 1,[],k,S,F,E,pr=>⟨[],k,S,F,E,pr⟩
 | m + 1,o :: l,k,S,F,E,pr=>match o.guard with
  | some _=>⟨o :: l,k,S,F,E,pr⟩
  | none=>match nextD P n ops o k S F E pr (viewD S (rdT S.sl (Oper.looksAt ops o)) (seesB o.op)) with
   | some x=>runDU P n ops m l (k + 1) x.S x.F x.E x.pr
   | none=>⟨o :: l,k,S,F,E,pr⟩
theorem dw_runU:∀ {m:Nat} {l:List Oper} {k:Nat} {S:St} {F:List Lf} {E:List Le} {pr:List (Nat × Nat)},DW P X ops st0 K (runDU P X.n ops m l k S F E pr)→DW P X ops st0 K ⟨l,k,S,F,E,pr⟩
 | 0,_,_,_,_,_,_,h=>h
 | _ + 1,[],_,_,_,_,_,h=>h
 | m + 1,o :: l,k,S,F,E,pr,h=>fun hb=>by
  unfold runDU at h
  split at h
  ·exact h hb
  ·split at h
   ·rename_i x hx
    exact dw_runU h (db_next hb hx)
   ·exact h hb
def pk (c a b:Bool):Bool:=(c && a) || (!c && b)
theorem pk_false (c a:Bool):pk c a false=(c && a):=by cases c <;> cases a <;> rfl
theorem pk_true (c b:Bool):pk c true b=(c || b):=by cases c <;> cases b <;> rfl
theorem step_lit {z:Bool} {u:Value} (h:Step P X st o (.pure (.one (.t z (.lit u))))):Step P X st o (.pure (.one (.t true (.lit u)))):=fun hd ρ a w hH K Q hK=>h hd ρ a w hH K Q fun x ρ' w' hout=>hK x ρ' w' (by
 obtain ⟨h1,h2,h3⟩:=hout
 refine ⟨h1,h2,?_⟩
 unfold RdV RdC RdT at h3 ⊢
 exact h3)
theorem step_pick {g p q z zx zy:Bool} {c x y:Operand} (hop:o.op=.pick c x y) (hc:ev st c=some (.one (.t z (.lit (.bool g))))) (hx:g=true→ev st x=some (.one (.t zx (.lit (.bool p))))) (hy:g=false→ev st y=some (.one (.t zy (.lit (.bool q))))):Step P X st o (.pure (litB (pk g p q))):=by
 cases g with
 | true =>
  rw [show pk true p q=p by cases p <;> rfl]
  exact step_lit (exec1_runs (pick_t hop hc (hx rfl))).step
 | false =>
  rw [show pk false p q=q by cases q <;> rfl]
  exact step_lit (exec1_runs (pick_f hop hc (hy rfl))).step
theorem dw_pick {d:Nat} {b g p q z zx zy:Bool} {c x y:Operand} {is:List Nat} (hop:o.op=.pick c x y) (hd:o.dst=some d) (hgi:idsT (rdT S.sl (gsOf ops o))=[]) (hg:guardOf ⟨rdT S.sl (gsOf ops o),[]⟩ ops o=some b) (hdn:dstOk X.n o.dst=true) (hi:b=true→idsT (rdT S.sl (Oper.looksAt ops o))=is) (hgt:b=true→guardOf ⟨rdT S.sl (Oper.looksAt ops o),[]⟩ ops o=some true) (hc:b=true→ev ⟨rdT S.sl (Oper.looksAt ops o),[]⟩ c=some (.one (.t z (.lit (.bool g))))) (hx:b=true→g=true→ev ⟨rdT S.sl (Oper.looksAt ops o),[]⟩ x=some (.one (.t zx (.lit (.bool p))))) (hy:b=true→g=false→ev ⟨rdT S.sl (Oper.looksAt ops o),[]⟩ y=some (.one (.t zy (.lit (.bool q)))))
  (h:DW P X ops st0 K ⟨l,k + 1,S.put (some d) (mkW b (litB (pk g p q))),⟨k,is,[]⟩ :: F,E,pairF k is [] pr E⟩):DW P X ops st0 K ⟨o :: l,k,S,F,E,pr⟩ :=
 dw_when (s:=false) (v:=litB (pk g p q)) hgi hg hd hdn hi hgt (fun hb=>⟨_,.inl rfl,step_pick hop (hc hb) (hx hb) (hy hb)⟩) (by rw [show (litB (pk g p q)).ids=[] from rfl,List.append_nil];exact h)
theorem rw_pick {b g p q z zx zy:Bool} {c x y:Operand} (hop:o.op=.pick c x y) (hg:guardOf st ops o=some b) (hdn:dstOk X.n o.dst=true) (hc:b=true→ev st c=some (.one (.t z (.lit (.bool g))))) (hx:b=true→g=true→ev st x=some (.one (.t zx (.lit (.bool p))))) (hy:b=true→g=false→ev st y=some (.one (.t zy (.lit (.bool q))))) (h:RWr P X ops K (l,st.put o.dst (mkW b (litB (pk g p q))))):RWr P X ops K (o :: l,st):=by
 cases b with
 | true=>exact rw_step (step_pick hop (hc rfl) (hx rfl) (hy rfl)) hg hdn h
 | false=>exact rw_skip hg hdn h
theorem rn_ (k:Nat) {f:Prop} (hf:f) {r:List Oper × St} (h:∀ K:St→Prop,(∀ s,Q .normal s→K s)→RWr P X l.toArray K r) (hrun:f→runsN P X.n l.toArray k l st=r:=by intro hf;simp (maxSteps:=5000000) only [go_sem,hf,hX];exact rfl) (hp:∀ ch s,X.pan ch→Q (.panic ch) s:=by intro ch s h;exact h):CW P X (.region id l.toArray false) Q st:=by
 have hrun:=hrun hf
 subst hrun
 exact cw_region_n k h hp
theorem sr_ {l:Array Oper} {b:Bool} (h:CW P X (.region id l b) Q st):CW P X (.region id l b) Q st:=h
theorem sh_ (h:RWr P X ops K (o :: l,st)):RWr P X ops K (o :: l,st):=h
theorem sd_ (h:DW P X ops st0 K ⟨o :: l,k,S,F,E,pr⟩):DW P X ops st0 K ⟨o :: l,k,S,F,E,pr⟩:=h
theorem ra_ (k:Nat) {f:Prop} (hf:f) {r:List Oper × St} (h:RWr P X ops K r) (hrun:f→runsN P X.n ops k (o :: l) st=r:=by intro hf;simp (maxSteps:=5000000) only [go_sem,hf,hX];exact rfl) (hp:(r.1.length < l.length + 1)=True:=by simp only [List.length_cons,List.length_nil,Nat.reduceAdd,Nat.reduceLT] <;> fail):RWr P X ops K (o :: l,st):=by
 have hrun:=hrun hf
 subst hrun
 exact rw_goN (k:=k) h
theorem rw_ {f:Prop} (hf:f) {b:Bool} {v:V} {st':St} (h:RWr P X ops K (l,st')) (hg:f→guardOf st ops o=some b:=by intro hf;simp only [go_sem,hf];exact rfl) (hx:f→b=true→exec1 P st o=some (.pure v):=by intro hf hb;(try simp only [Bool.and_eq_true,Bool.not_eq_true',Bool.or_eq_false_iff,Bool.not_eq_false'] at hb);simp (maxSteps:=5000000) only [go_sem,hf,hX,hb];exact rfl) (hp:f→st.put o.dst (mkW b v)=st':=by intro hf;simp only [go_sem,hf];exact rfl) (hdn:dstOk X.n o.dst=true:=by rw [hX];rfl):RWr P X ops K (o :: l,st):=by
 have hp:=hp hf
 subst hp
 exact rw_when (hg hf) hdn (hx hf) h
theorem rp_ {f:Prop} (hf:f) {b g p q z zx zy:Bool} {c x y:Operand} {st':St} (h:RWr P X ops K (l,st')) (hop:o.op=.pick c x y:=by exact rfl) (hg:f→guardOf st ops o=some b:=by intro hf;simp only [go_sem,hf];exact rfl) (hc:f→b=true→ev st c=some (.one (.t z (.lit (.bool g)))):=by intro hf hb;(try simp only [Bool.and_eq_true,Bool.not_eq_true',Bool.or_eq_false_iff,Bool.not_eq_false'] at hb);simp only [go_sem,hf,hb];exact rfl) (hx:f→b=true→g=true→ev st x=some (.one (.t zx (.lit (.bool p)))):=by intro hf hb hb2;(try simp only [Bool.and_eq_true,Bool.not_eq_true',Bool.or_eq_false_iff,Bool.not_eq_false'] at hb);(try simp only [Bool.and_eq_true,Bool.not_eq_true',Bool.or_eq_false_iff,Bool.not_eq_false'] at hb2);simp only [go_sem,hf,hb,hb2];exact rfl) (hy:f→b=true→g=false→ev st y=some (.one (.t zy (.lit (.bool q)))):=by intro hf hb hb2;(try simp only [Bool.and_eq_true,Bool.not_eq_true',Bool.or_eq_false_iff,Bool.not_eq_false'] at hb);(try simp only [Bool.and_eq_true,Bool.not_eq_true',Bool.or_eq_false_iff,Bool.not_eq_false'] at hb2);simp only [go_sem,hf,hb,hb2];exact rfl) (hp:f→st.put o.dst (mkW b (litB (pk g p q)))=st':=by intro hf;simp only [go_sem,pk_false,pk_true,hf];exact rfl) (hdn:dstOk X.n o.dst=true:=by rw [hX];rfl):RWr P X ops K (o :: l,st):=by
 have hp:=hp hf
 subst hp
 exact rw_pick hop (hg hf) hdn (hc hf) (hx hf) (hy hf) h
theorem rau_ (k:Nat) {f:Prop} (hf:f) {r:List Oper × St} (h:RWr P X ops K r) (hrun:f→runsU P X.n ops k (o :: l) st=r:=by intro hf;simp (maxSteps:=5000000) only [go_sem,runsU,hf,hX];exact rfl) (hp:(r.1.length < l.length + 1)=True:=by simp only [List.length_cons,List.length_nil,Nat.reduceAdd,Nat.reduceLT] <;> fail):RWr P X ops K (o :: l,st):=by
 have hrun:=hrun hf
 subst hrun
 exact rw_runsU (k:=k) h
theorem rt_ {f:Prop} (hf:f) {st':St} {D:Delta} (h:RWr P X ops K (l,st')) (hg:f→guardOf st ops o=some true:=by intro hf;simp only [go_sem,hf] <;> fail) (hx:f→exec1 P st o=some D:=by intro hf;simp (maxSteps:=5000000) only [go_sem,hf,hX];exact rfl) (hp:f→st.app D o.dst=st':=by intro hf;simp only [go_sem,hf];exact rfl) (hdn:dstOk X.n o.dst=true:=by rw [hX];rfl):RWr P X ops K (o :: l,st):=by
 have hp:=hp hf
 subst hp
 exact rw_step (exec1_runs (hx hf)).step (hg hf) hdn h
theorem rs_ {f:Prop} (hf:f) {st':St} (h:RWr P X ops K (l,st')) (hg:f→guardOf st ops o=some false:=by intro hf;simp only [go_sem,hf] <;> fail) (hp:st.put o.dst (.tup [])=st':=by simp only [go_sem];exact rfl) (hdn:dstOk X.n o.dst=true:=by rw [hX];rfl):RWr P X ops K (o :: l,st):=by
 subst hp
 exact rw_skip (hg hf) hdn h
theorem rq_ {f:Prop} (hf:f) {b:Bool} {c:Call} {cv:Operand} {g:FuncId} {as_:List A} {st':St} (h:RWr P X ops K (l,st')) (hop:o.op=.call c:=by exact rfl) (hcal:c.callee=.value cv:=by exact rfl) (hg:f→guardOf st ops o=some b:=by intro hf;simp only [go_sem,hf];exact rfl) (hc:f→b=true→callAll st 40 cv c.args.toList=some (g,as_):=by intro hf hb;(try simp only [Bool.and_eq_true,Bool.not_eq_true',Bool.or_eq_false_iff,Bool.not_eq_false'] at hb);simp only [go_sem,hf,hb] <;> exact rfl) (hsp:Sp P g as_ res []:=by with_reducible assumption) (hm:b=true→modeOk st 40 cv c.args.toList res []=true:=by intro hb;first | exact mode_r rfl | ((try simp only [Bool.and_eq_true,Bool.not_eq_true',Bool.or_eq_false_iff,Bool.not_eq_false'] at hb);simp only [go_sem,hb] <;> fail)) (hp:f→st.put o.dst (mkW b res)=st':=by intro hf;simp only [go_sem,hf];exact rfl) (hdn:dstOk X.n o.dst=true:=by rw [hX];rfl):RWr P X ops K (o :: l,st):=by
 have hp:=hp hf
 subst hp
 exact rw_callw 40 hop hcal (hg hf) (hc hf) hsp hm hdn h
theorem rr_ {f p q:Prop} (hf:f) (hq:q) (h:f→(True→q)→p:=by
 intro hf hq
 (repeat ((with_reducible refine sh_ ?_);first | refine ra_ 5 hf ?_ | refine ra_ 1 hf ?_))
 exact hq trivial):p:=h hf fun _=>hq
theorem ca_ {f:Prop} (hf:f) {c:Call} {cv:Operand} {g:FuncId} {as_:List A} (h:RWr P X ops K (l,st0))
  (hop:o.op=.call c:=by exact rfl) (hcal:c.callee=.value cv:=by exact rfl) (hg:f→guardOf st ops o=some true:=by intro hf;simp only [go_sem,hf] <;> fail) (hc:f→callAll st 40 cv c.args.toList=some (g,as_):=by intro hf;simp only [go_sem,hf] <;> exact rfl) (hsp:Sp P g as_ res nb:=by with_reducible assumption) (hm:modeOk st 40 cv c.args.toList res nb=true:=by first | exact mode_r rfl | (simp only [go_sem] <;> fail))
  (hd:(dstOk X.n o.dst && nbOk X.n nb)=true:=by rw [hX];rfl) (hr:f→st.app (callD res nb) o.dst=st0:=by intro hf;simp (maxSteps:=5000000) only [go_sem,hf,hX];exact rfl):RWr P X ops K (o :: l,st):=by
 have hr:=hr hf
 subst hr
 exact rwr_call0 40 hsp hop hcal (hc hf) hm (hg hf) hd h
theorem rx_ {f p q:Prop} (hf:f) (hq:q) (h:f→(True→q)→p:=by
 intro hf hq
 (repeat ((with_reducible refine sh_ ?_);first | refine rau_ 8 hf ?_ | refine ca_ hf ?_ | refine rt_ hf ?_ | refine rs_ hf ?_ | refine rp_ hf ?_ | refine rq_ hf ?_ | refine rw_ hf ?_))
 exact hq trivial):p:=h hf fun _=>hq
theorem dr_ (m:Nat) {f:Prop} (hf:f) {st1:St} {ds:List Nat} {r:Cd} (h:∀ K:St→Prop,(∀ s,Q .normal s→K s)→DW P X l.toArray st1 K r) (hmix:P.follows .mixedOrders=true:=by kernel_rfl) (hstat:statB l.toArray=true:=by kernel_rfl) (hds:dstsOf l=ds:=by simp only [dstsOf];exact rfl) (hst:dropS st ds=st1:=by simp only [go_sem];exact rfl)
  (hrun:f→runD P X.n l.toArray m l 0 st1 [] [] []=r:=by intro hf;simp (maxSteps:=5000000) only [go_sem,hf,hX];exact rfl) (hp:∀ ch s,X.pan ch→Q (.panic ch) s:=by intro ch s h;exact h):CW P X (.region id l.toArray true) Q st:=by
 have hrun:=hrun hf
 subst hrun
 exact cw_dr m hmix hstat hds hst h hp
theorem dcf_ (m:Nat) {f:Prop} (hf:f) {r:Cd} {c:Call} {cv:Operand} {g:FuncId} {as_:List A} {d:Nat} (h:DW P X ops st0 K r)
  (hop:o.op=.call c:=by exact rfl) (hcal:c.callee=.value cv:=by exact rfl) (hg:f→guardOf (viewD S (rdT S.sl (Oper.looksAt ops o)) true) ops o=some true:=by intro hf;simp only [go_sem,hf] <;> fail) (hc:f→callAll (viewD S (rdT S.sl (Oper.looksAt ops o)) true) 40 cv c.args.toList=some (g,as_):=by intro hf;simp only [go_sem,hf] <;> exact rfl) (hsp:Sp P g as_ res []:=by with_reducible assumption) (hm:modeOk (viewD S (rdT S.sl (Oper.looksAt ops o)) true) 40 cv c.args.toList res []=true:=by first | exact mode_r rfl | (simp only [go_sem] <;> fail))
  (hdd:o.dst=some d:=by exact rfl) (hd:dstOk X.n o.dst=true:=by rw [hX];rfl) (hr:f→contD P X.n m ops l k (nextF k S F E pr d res (idsT (viewD S (rdT S.sl (Oper.looksAt ops o)) true).sl++res.ids) (fstB (viewD S (rdT S.sl (Oper.looksAt ops o)) true).bl))=r:=by intro hf;simp (maxSteps:=5000000) only [go_sem,hf,hX];exact rfl):DW P X ops st0 K ⟨o :: l,k,S,F,E,pr⟩:=by
 have hr:=hr hf
 subst hr
 exact dw_callf 40 m hop hcal (hc hf) hsp hm (hg hf) hdd hd h
theorem dc_ (m:Nat) {f:Prop} (hf:f) {r:Cd} {c:Call} {cv:Operand} {g:FuncId} {as_:List A} (h:DW P X ops st0 K r)
  (hop:o.op=.call c:=by exact rfl) (hcal:c.callee=.value cv:=by exact rfl) (hg:f→guardOf (viewD S (rdT S.sl (Oper.looksAt ops o)) true) ops o=some true:=by intro hf;simp only [go_sem,hf] <;> fail) (hc:f→callAll (viewD S (rdT S.sl (Oper.looksAt ops o)) true) 40 cv c.args.toList=some (g,as_):=by intro hf;simp only [go_sem,hf] <;> exact rfl) (hsp:Sp P g as_ res nb:=by with_reducible assumption) (hm:modeOk (viewD S (rdT S.sl (Oper.looksAt ops o)) true) 40 cv c.args.toList res nb=true:=by first | exact mode_r rfl | (simp only [go_sem] <;> fail))
  (hd:(dstOk X.n o.dst && nbOk X.n nb)=true:=by rw [hX];rfl) (hr:f→contD P X.n m ops l k (nextE k S F E pr o.dst (callD res nb))=r:=by intro hf;simp (maxSteps:=5000000) only [go_sem,hf,hX];exact rfl):DW P X ops st0 K ⟨o :: l,k,S,F,E,pr⟩:=by
 have hr:=hr hf
 subst hr
 exact dw_call 40 m hop hcal (hc hf) hsp hm (hg hf) hd h
theorem dv_ (m:Nat) {f:Prop} (hf:f) {r:Cd} (h:DW P X ops st0 K r) (hr:f→runD P X.n ops m (o :: l) k S F E pr=r:=by intro hf;simp (maxSteps:=5000000) only [go_sem,hf,hX];exact rfl) (hp:(k < r.k)=True:=by simp only [Nat.reduceLT] <;> fail):DW P X ops st0 K ⟨o :: l,k,S,F,E,pr⟩:=by
 have hr:=hr hf
 subst hr
 exact dw_run (m:=m) h
theorem dvu_ (m:Nat) {f:Prop} (hf:f) {r:Cd} (h:DW P X ops st0 K r) (hr:f→runDU P X.n ops m (o :: l) k S F E pr=r:=by intro hf;simp (maxSteps:=5000000) only [go_sem,runDU,hf,hX];exact rfl) (hp:(k < r.k)=True:=by simp only [Nat.reduceLT] <;> fail):DW P X ops st0 K ⟨o :: l,k,S,F,E,pr⟩:=by
 have hr:=hr hf
 subst hr
 exact dw_runU (m:=m) h
theorem dt_ {f:Prop} (hf:f) {r:Cd} (h:DW P X ops st0 K r) (hg:f→guardOf (viewD S (rdT S.sl (Oper.looksAt ops o)) (seesB o.op)) ops o=some true:=by intro hf;simp only [go_sem,hf] <;> fail) (hr:f→runD P X.n ops 1 (o :: l) k S F E pr=r:=by intro hf;simp (maxSteps:=5000000) only [go_sem,hf,hX];exact rfl) (hp:(k < r.k)=True:=by simp only [Nat.reduceLT] <;> fail):DW P X ops st0 K ⟨o :: l,k,S,F,E,pr⟩:=by
 have hr:=hr hf
 subst hr
 exact dw_run (m:=1) h
theorem ds_ {f:Prop} (hf:f) {r:Cd} (h:DW P X ops st0 K r) (hg:f→guardOf (viewD S (rdT S.sl (Oper.looksAt ops o)) (seesB o.op)) ops o=some false:=by intro hf;simp only [go_sem,hf] <;> fail) (hr:f→runD P X.n ops 1 (o :: l) k S F E pr=r:=by intro hf;simp (maxSteps:=5000000) only [go_sem,hf,hX];exact rfl) (hp:(k < r.k)=True:=by simp only [Nat.reduceLT] <;> fail):DW P X ops st0 K ⟨o :: l,k,S,F,E,pr⟩:=by
 have hr:=hr hf
 subst hr
 exact dw_run (m:=1) h
theorem dwc_ {f:Prop} (hf:f) {r:Cd} {b:Bool} {d:Nat} {v:V} {is:List Nat} (h:DW P X ops st0 K r) (hgi:f→idsT (rdT S.sl (gsOf ops o))=[]:=by intro hf;simp only [go_sem,gsOf,hf] <;> fail) (hg:f→guardOf ⟨rdT S.sl (gsOf ops o),[]⟩ ops o=some b:=by intro hf;simp only [go_sem,gsOf,hf];exact rfl) (hi:f→b=true→idsT (rdT S.sl (Oper.looksAt ops o))=is:=by intro hf hb;(try simp only [Bool.and_eq_true,Bool.not_eq_true',Bool.or_eq_false_iff,Bool.not_eq_false'] at hb);simp only [go_sem,hf,hb];exact rfl) (hgt:f→b=true→guardOf ⟨rdT S.sl (Oper.looksAt ops o),seenB is S.bl (seesB o.op)⟩ ops o=some true:=by intro hf hb;(try simp only [Bool.and_eq_true,Bool.not_eq_true',Bool.or_eq_false_iff,Bool.not_eq_false'] at hb);simp only [go_sem,seenB,hf,hb] <;> fail) (hx:f→b=true→exec1 P ⟨rdT S.sl (Oper.looksAt ops o),seenB is S.bl (seesB o.op)⟩ o=some (.pure v):=by intro hf hb;(try simp only [Bool.and_eq_true,Bool.not_eq_true',Bool.or_eq_false_iff,Bool.not_eq_false'] at hb);simp (maxSteps:=5000000) only [go_sem,seenB,hf,hX,hb];exact rfl)
  (hp:f→(⟨l,k + 1,S.put (some d) (mkW b v),⟨k,is++v.ids,fstB (seenB is S.bl (seesB o.op))⟩ :: F,E,pairF k (is++v.ids) (fstB (seenB is S.bl (seesB o.op))) pr E⟩:Cd)=r:=by intro hf;simp only [go_sem,seenB,hf];exact rfl) (hd:o.dst=some d:=by exact rfl) (hdn:dstOk X.n o.dst=true:=by rw [hX];rfl):DW P X ops st0 K ⟨o :: l,k,S,F,E,pr⟩:=by
 have hp:=hp hf
 subst hp
 exact dw_when (hgi hf) (hg hf) hd hdn (hi hf) (hgt hf) (fun hb=>⟨_,.inl rfl,(exec1_runs (hx hf hb)).step⟩) h
theorem dp_ {f:Prop} (hf:f) {r:Cd} {b g p q z zx zy:Bool} {c x y:Operand} {d:Nat} {is:List Nat} (h:DW P X ops st0 K r) (hop:o.op=.pick c x y:=by exact rfl) (hgi:f→idsT (rdT S.sl (gsOf ops o))=[]:=by intro hf;simp only [go_sem,gsOf,hf] <;> fail) (hg:f→guardOf ⟨rdT S.sl (gsOf ops o),[]⟩ ops o=some b:=by intro hf;simp only [go_sem,gsOf,hf];exact rfl) (hi:f→b=true→idsT (rdT S.sl (Oper.looksAt ops o))=is:=by intro hf hb;(try simp only [Bool.and_eq_true,Bool.not_eq_true',Bool.or_eq_false_iff,Bool.not_eq_false'] at hb);simp only [go_sem,hf,hb];exact rfl) (hgt:f→b=true→guardOf ⟨rdT S.sl (Oper.looksAt ops o),[]⟩ ops o=some true:=by intro hf hb;(try simp only [Bool.and_eq_true,Bool.not_eq_true',Bool.or_eq_false_iff,Bool.not_eq_false'] at hb);simp only [go_sem,hf,hb] <;> fail) (hc:f→b=true→ev ⟨rdT S.sl (Oper.looksAt ops o),[]⟩ c=some (.one (.t z (.lit (.bool g)))):=by intro hf hb;(try simp only [Bool.and_eq_true,Bool.not_eq_true',Bool.or_eq_false_iff,Bool.not_eq_false'] at hb);simp only [go_sem,hf,hb];exact rfl) (hx:f→b=true→g=true→ev ⟨rdT S.sl (Oper.looksAt ops o),[]⟩ x=some (.one (.t zx (.lit (.bool p)))):=by intro hf hb hb2;(try simp only [Bool.and_eq_true,Bool.not_eq_true',Bool.or_eq_false_iff,Bool.not_eq_false'] at hb);(try simp only [Bool.and_eq_true,Bool.not_eq_true',Bool.or_eq_false_iff,Bool.not_eq_false'] at hb2);simp only [go_sem,hf,hb,hb2];exact rfl) (hy:f→b=true→g=false→ev ⟨rdT S.sl (Oper.looksAt ops o),[]⟩ y=some (.one (.t zy (.lit (.bool q)))):=by intro hf hb hb2;(try simp only [Bool.and_eq_true,Bool.not_eq_true',Bool.or_eq_false_iff,Bool.not_eq_false'] at hb);(try simp only [Bool.and_eq_true,Bool.not_eq_true',Bool.or_eq_false_iff,Bool.not_eq_false'] at hb2);simp only [go_sem,hf,hb,hb2];exact rfl)
  (hp:f→(⟨l,k + 1,S.put (some d) (mkW b (litB (pk g p q))),⟨k,is,[]⟩ :: F,E,pairF k is [] pr E⟩:Cd)=r:=by intro hf;simp only [go_sem,pk_false,pk_true,hf];exact rfl) (hd:o.dst=some d:=by exact rfl) (hdn:dstOk X.n o.dst=true:=by rw [hX];rfl):DW P X ops st0 K ⟨o :: l,k,S,F,E,pr⟩:=by
 have hp:=hp hf
 subst hp
 exact dw_pick hop hd (hgi hf) (hg hf) hdn (hi hf) (hgt hf) (hc hf) (hx hf) (hy hf) h
theorem dq_ {f:Prop} (hf:f) {r:Cd} {b:Bool} {c:Call} {cv:Operand} {g:FuncId} {as_:List A} (h:DW P X ops st0 K r) (hop:o.op=.call c:=by exact rfl) (hcal:c.callee=.value cv:=by exact rfl) (hg:f→guardOf (viewD S (rdT S.sl (Oper.looksAt ops o)) true) ops o=some b:=by intro hf;simp only [go_sem,hf];exact rfl) (hc:f→b=true→callAll (viewD S (rdT S.sl (Oper.looksAt ops o)) true) 40 cv c.args.toList=some (g,as_):=by intro hf hb;(try simp only [Bool.and_eq_true,Bool.not_eq_true',Bool.or_eq_false_iff,Bool.not_eq_false'] at hb);simp only [go_sem,hf,hb] <;> exact rfl) (hsp:Sp P g as_ res []:=by with_reducible assumption) (hm:b=true→modeOk (viewD S (rdT S.sl (Oper.looksAt ops o)) true) 40 cv c.args.toList res []=true:=by intro hb;first | exact mode_r rfl | ((try simp only [Bool.and_eq_true,Bool.not_eq_true',Bool.or_eq_false_iff,Bool.not_eq_false'] at hb);simp only [go_sem,hb] <;> fail))
  (hp:f→(⟨l,k + 1,S.put o.dst (mkW b res),F,⟨k,[],[]⟩ :: E,pairE k [] [] pr F⟩:Cd)=r:=by intro hf;simp only [go_sem,hf];exact rfl) (hdn:dstOk X.n o.dst=true:=by rw [hX];rfl):DW P X ops st0 K ⟨o :: l,k,S,F,E,pr⟩:=by
 have hp:=hp hf
 subst hp
 exact dw_callw 40 hop hcal (hg hf) (hc hf) hsp hm hdn h
theorem dd_ {f p q:Prop} (hf:f) (hq:q) (h:f→(True→q)→p:=by
 intro hf hq
 (repeat ((with_reducible refine sd_ ?_);first | refine dv_ 5 hf ?_ | refine dv_ 1 hf ?_))
 exact hq trivial):p:=h hf fun _=>hq
theorem dx_ {f p q:Prop} (hf:f) (hq:q) (h:f→(True→q)→p:=by
 intro hf hq
 (repeat ((with_reducible refine sd_ ?_);first | refine dvu_ 8 hf ?_ | refine dcf_ 0 hf ?_ | refine dc_ 0 hf ?_ | refine dt_ hf ?_ | refine ds_ hf ?_ | refine dp_ hf ?_ | refine dq_ hf ?_ | refine dwc_ hf ?_))
 exact hq trivial):p:=h hf fun _=>hq
theorem de_ {S':St} (h:K S') (hs:cleanJ S=S':=by simp only [go_sem];exact rfl) (he:endB ops (jsOf E) pr=true:=by simp only [jsOf];kernel_rfl):DW P X ops st0 K ⟨[],k,S,F,E,pr⟩:=by
 subst hs
 exact dw_end he h
theorem go_ {f p q:Prop} (hf:f) (hq:q) (h:f→(True→q)→p:=by
 intro hf hq
 (repeat (first | refine cw_seq' ?_ | refine cw_block ?_ | refine cw_true rfl ?_ | refine cw_false rfl ?_ | refine cw_exit ?_ | refine cw_ret ?_ | refine cw_skip ?_ | refine then_mk ?_ | refine then_exit ?_ | refine then_ret ?_ | refine blk_mk ?_ | refine blk_ret ?_ | refine blk_same ?_ | refine blk_ne (by decide) ?_ | ((with_reducible refine sr_ (b:=false) ?_);refine rn_ 8 hf fun K hK=>?_;(repeat ((with_reducible refine sh_ ?_);first | refine ra_ 5 hf ?_ | refine ra_ 1 hf ?_));refine rwr_nil (hK _ ?_);clear hK K)))
 exact hq trivial):p:=h hf fun _=>hq
theorem au_ {f p q:Prop} (hf:f) (hq:q) (h:f→(True→q)→p:=by
 intro hf hq
 (repeat (first | refine cw_seq' ?_ | refine cw_block ?_ | refine cw_true rfl ?_ | refine cw_false rfl ?_ | refine cw_exit ?_ | refine cw_ret ?_ | refine cw_skip ?_ | refine then_mk ?_ | refine then_exit ?_ | refine then_ret ?_ | refine blk_mk ?_ | refine blk_ret ?_ | refine blk_same ?_ | refine blk_ne (by decide) ?_ | ((with_reducible refine sr_ (b:=false) ?_);refine rn_ 0 hf fun K hK=>?_;(repeat ((with_reducible refine sh_ ?_);first | refine rau_ 8 hf ?_ | refine ca_ hf ?_ | refine rt_ hf ?_ | refine rs_ hf ?_ | refine rp_ hf ?_ | refine rq_ hf ?_ | refine rw_ hf ?_));refine rwr_nil (hK _ ?_);clear hK K) | ((with_reducible refine sr_ (b:=true) ?_);refine dr_ 0 hf fun K hK=>?_;(repeat ((with_reducible refine sd_ ?_);first | refine dvu_ 8 hf ?_ | refine dcf_ 0 hf ?_ | refine dc_ 0 hf ?_ | refine dt_ hf ?_ | refine ds_ hf ?_ | refine dp_ hf ?_ | refine dq_ hf ?_ | refine dwc_ hf ?_));refine de_ (hK _ ?_);clear hK K)))
 exact hq trivial):p:=h hf fun _=>hq
end
end Go.Proofs.YtjdgejfhnfnmgaaGreatDoor.Ax
