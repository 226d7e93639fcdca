/-  -/
import Derived.Test.YtjdgejfhnfnmgaaGreatDoorP20
import Derived.Test.YtjdgejfhnfnmgaaGreatDoorP11
namespace Go.Proofs.YtjdgejfhnfnmgaaGreatDoor.Ax
open Go.RowKit
set_option linter.unusedSimpArgs false
attribute [local go_sem] extV appD cutOwn appOwn clearOwn bdI mapD putD' keyOk getOr getM putM wholeV litCs asV asC ptrC fnC nilC nilPtr strRows_len runs runsN guardOf exec1 pureV modD rowD ev get St.app St.put St.turn loadC moveC fieldOf indexC lenC lenOk cutC bndOf evAll fieldV convV unV binV binI bitsV moreV intsT eqL eq1 valOf min1 lit1 litInt litI litB litS constV constC cellsV partsOf placesOf buildV fillL toT elemsOf rowsOf baseOf dstOk V.kill V.ment V.ments C.kill C.ment C.ments B.kill setD litRows litRows_append T.isLit callAll calleeV argsV argV viewC viewCs modeOk freeOps V.free C.free V.allF V.allFs C.allF C.allFs B.allF callD leL growB C.flat V.flat B.flat flatL flatB St.flat List.set_cons_zero List.set_cons_succ C.only C.onlys V.only V.onlys B.only renI C.ren C.rens V.ren V.rens B.ren renB renOk nodK Option.getD_some Option.getD_none Option.isSome_some implies_true false_implies C.fit C.fits V.fit V.fit1 V.fits Bool.and_self ite_self exitV resV resL resC outV outV.outs eqB nn cast0 Int.toNat_natCast List.getElem?_map Value.cells Value.oneCell' Nat.lt_irrefl decide_true decide_false and_true true_and and_self and_false false_and not_true_eq_false not_false_eq_true not_true not_false List.size_toArray all_len Nat.zero_add Nat.add_zero List.length_cons List.length_append List.length_replicate List.length_set List.length_nil List.length_map List.map_cons List.map_nil List.take_succ_cons List.take_zero List.take_nil List.drop_succ_cons List.drop_zero List.drop_nil List.cons_append List.nil_append List.append_nil List.all_cons List.all_nil Bool.and_true Bool.true_and Bool.and_false Bool.false_and Bool.not_true Bool.not_false Bool.or_false Bool.or_true Bool.false_or Bool.true_or List.filter_cons List.filter_nil List.contains_cons List.contains_nil beq_self_eq_true List.getElem?_cons_zero List.getElem?_cons_succ List.getElem?_nil Option.map_some Option.map_none Option.toList_some Option.toList_none List.isEmpty_cons List.isEmpty_nil Bool.false_eq_true Bool.true_eq_false List.getElem?_toArray List.not_mem_nil List.mem_cons or_false forall_eq List.mem_singleton forall_const Option.toArray addF if_true if_false dstsOf Oper.looksAt Op.operands Call.operands pick edge B.ment Region.binds List.any_cons List.any_nil List.filterMap_cons List.filterMap_nil ne_eq Bool.or_self List.isEmpty_iff Array.toList_append List.append_toArray Array.append_empty Option.bind_some Option.bind_none List.push_toArray
set_option linter.unusedVariables false
def lits (vs:List Value):List C:=vs.map fun v=>C.t true (.lit v)
theorem lits_kill (ids:List Nat) (vs:List Value):(lits vs).map (C.kill ids)=lits vs:=by
 unfold lits
 rw [List.map_map]
 rfl
theorem lits_only (ids:List Nat):∀ vs:List Value,C.onlys ids (lits vs)=true
 | []=>rfl
 | v :: vs=>by show (true && C.onlys ids (lits vs))=true;rw [lits_only ids vs];rfl
theorem lits_ments (ids:List Nat):∀ vs:List Value,C.ments ids (lits vs)=false
 | []=>rfl
 | v :: vs=>by show (false || C.ments ids (lits vs))=false;rw [lits_ments ids vs];rfl
theorem lits_all:∀ vs:List Value,C.allFs (lits vs)=true
 | []=>rfl
 | v :: vs=>by show (true && C.allFs (lits vs))=true;rw [lits_all vs];rfl
theorem lits_rens (σ:List (Nat × Nat)):∀ vs:List Value,C.rens σ (lits vs)=lits vs
 | []=>rfl
 | v :: vs=>by show C.t true (.lit v) :: C.rens σ (lits vs)=_;rw [lits_rens σ vs];rfl
theorem rens_append (σ:List (Nat × Nat)):∀ a b:List C,C.rens σ (a++b)=C.rens σ a++C.rens σ b
 | [],_=>rfl
 | c :: a,b=>by show c.ren σ :: C.rens σ (a++b)=_;rw [rens_append σ a b];rfl
theorem onlys_append (ids:List Nat):∀ a b:List C,C.onlys ids (a++b)=(C.onlys ids a && C.onlys ids b)
 | [],_=>rfl
 | c :: a,b=>by show (c.only ids && C.onlys ids (a++b))=_;rw [onlys_append ids a b,← Bool.and_assoc];rfl
theorem allFs_append:∀ a b:List C,C.allFs (a++b)=(C.allFs a && C.allFs b)
 | [],_=>rfl
 | c :: a,b=>by show (c.allF && C.allFs (a++b))=_;rw [allFs_append a b,← Bool.and_assoc];rfl
theorem csLe_refl_lits:∀ vs:List Value,csLe (lits vs) (lits vs)
 | []=>trivial
 | v :: vs=>⟨⟨rfl,rfl⟩,csLe_refl_lits vs⟩
theorem csLe_append:∀ {a b c d:List C},csLe a b→csLe c d→csLe (a++c) (b++d)
 | [],[],_,_,_,h=>h
 | _ :: a,_ :: b,_,_,h,h'=>⟨h.1,csLe_append h.2 h'⟩
 | [],_ :: _,_,_,h,_=>by unfold csLe at h;exact h.elim
 | _ :: _,[],_,_,h,_=>by unfold csLe at h;exact h.elim
section
variable {P:Program} {X:Cx} {st:St} {w w':World} {ok ok':Bool→Nat→Prop} {ρ ρ':Nat→R} {a:Act}
theorem lits_rd:∀ {vs xs:List Value},(∀ v ∈ vs,v.oneCell'=true)→(RdCs w ok ρ (lits vs) xs ↔ xs=vs)
 | [],[],_=>⟨fun _=>rfl,fun _=>by unfold lits;rw [List.map_nil];unfold RdCs;trivial⟩
 | [],_ :: _,_=>⟨fun h=>by unfold lits at h;rw [List.map_nil] at h;unfold RdCs at h;exact h.elim,fun h=>by cases h⟩
 | _ :: _,[],_=>⟨fun h=>by unfold lits at h;rw [List.map_cons] at h;unfold RdCs at h;exact h.elim,fun h=>by cases h⟩
 | v :: vs,x :: xs,h=>by
  have ih:=lits_rd (vs:=vs) (xs:=xs) fun u hu=>h u (List.mem_cons_of_mem _ hu)
  have h1:RdCs w ok ρ (lits (v :: vs)) (x :: xs) ↔ (x=v∧v.oneCell'=true)∧RdCs w ok ρ (lits vs) xs:=by
   show RdCs w ok ρ (C.t true (.lit v) :: lits vs) (x :: xs) ↔ _
   constructor
   ·intro h
    rw [RdCs,RdC,RdT] at h
    exact h
   ·intro h
    rw [RdCs,RdC,RdT]
    exact h
  rw [h1,ih]
  constructor
  ·rintro ⟨⟨rfl,_⟩,rfl⟩;rfl
  ·intro he
   injection he with h2 h3
   exact ⟨⟨h2,h v List.mem_cons_self⟩,h3⟩
theorem rdCs_split:∀ {c d:List C} {xs:List Value},RdCs w ok ρ (c++d) xs→∃ ys zs,xs=ys++zs∧ys.length=c.length∧RdCs w ok ρ c ys∧RdCs w ok ρ d zs
 | [],d,xs,h=>⟨[],xs,rfl,rfl,by unfold RdCs;trivial,h⟩
 | c :: cs,d,[],h=>by rw [List.cons_append] at h;unfold RdCs at h;exact h.elim
 | c :: cs,d,x :: xs,h=>by
  rw [List.cons_append] at h
  unfold RdCs at h
  obtain ⟨ys,zs,rfl,h2,h3,h4⟩:=rdCs_split h.2
  exact ⟨x :: ys,zs,rfl,by simp [h2],by unfold RdCs;exact ⟨h.1,h3⟩,h4⟩
theorem rdCs_join:∀ {c d:List C} {ys zs:List Value},RdCs w ok ρ c ys→RdCs w ok ρ d zs→RdCs w ok ρ (c++d) (ys++zs)
 | [],d,[],zs,_,h=>h
 | [],_,_ :: _,_,h,_=>by unfold RdCs at h;exact h.elim
 | _ :: _,_,[],_,h,_=>by unfold RdCs at h;exact h.elim
 | c :: cs,d,y :: ys,zs,h,h'=>by
  unfold RdCs at h
  rw [List.cons_append,List.cons_append]
  unfold RdCs
  exact ⟨h.1,rdCs_join h.2 h'⟩
theorem RdCs.oneCells:∀ {c:List C} {xs:List Value},RdCs w ok ρ c xs→∀ v ∈ xs,v.oneCell'=true
 | [],[],_,_,hv=>by cases hv
 | [],_ :: _,h,_,_=>by unfold RdCs at h;exact h.elim
 | _ :: _,[],h,_,_=>by unfold RdCs at h;exact h.elim
 | c :: cs,x :: xs,h,v,hv=>by
  unfold RdCs at h
  rcases List.mem_cons.1 hv with rfl | hv
  ·exact h.1.oneCell
  ·exact RdCs.oneCells h.2 v hv
theorem lock_hold {b:Nat} {e:TypeId} {hd tl:List C} (hH:Hold X st ρ a w) (hb:get b st.bl=some (.var e (hd++tl))) :
  ∃ vs:List Value,vs.length=tl.length∧(∀ v ∈ vs,v.oneCell'=true)∧Hold X ⟨st.sl,(b,.var e (hd++lits vs)) :: st.bl⟩ ρ a w∧RdCs w (okOf X ρ w) ρ tl vs:=by
 obtain ⟨g,cap,hid,xs,hheap,hcs⟩:=hH.blocks _ _ hb
 obtain ⟨ys,zs,hxs,hl,h1,h2⟩:=rdCs_split hcs
 refine ⟨zs,RdCs.len h2,RdCs.oneCells h2,⟨hH.defers,hH.size,hH.below,hH.keep,hH.ge,hH.inj,hH.pin,hH.slots,fun i B hB=>?_,hH.gk,hH.gw⟩,h2⟩
 simp only [get] at hB
 split at hB
 ·rename_i hi
  subst hi
  injection hB with hB
  subst hB
  exact ⟨g,cap,hid,xs,hheap,by rw [hxs];exact rdCs_join h1 ((lits_rd (RdCs.oneCells h2)).2 rfl)⟩
 ·exact hH.blocks i B hB
theorem lock_ren {f:FuncId} {args:List V} {e:TypeId} {hc ho:List C} {vs:List Value} {res:V} (b:Nat) (h:SpIO P f args [(1000,.var e (hc++lits vs))] res [(1000,.var e (ho++lits vs))] [1000]) (ha:V.onlys [1000] args=true) (hn:C.onlys [1000] hc=true) :
  SpIO P f (V.rens [(1000,b)] args) [(b,.var e (C.rens [(1000,b)] hc++lits vs))] (res.ren [(1000,b)]) [(b,.var e (C.rens [(1000,b)] ho++lits vs))] [b]:=by
 have h1:=h.ren [(1000,b)] (by
  unfold renIOk
  simp only [List.map_cons,List.map_nil,List.all_cons,List.all_nil,B.only,onlys_append,lits_only,ha,hn]
  rfl)
 simp only [renB,B.ren,rens_append,lits_rens] at h1
 exact h1
theorem lockIO_step {o:Oper} {c:Call} {cv:Operand} {f:FuncId} {args as_:List V} {b:Nat} {e:TypeId} {hd hc ho tl:List C} {res:V} {m:Bool} {n:Nat} (hop:o.op=.call c) (hcal:c.callee=.value cv)
  (hcl:callIO [b] st n cv c.args.toList=some (f,m,as_)) (hsp:∀ vs:List Value,vs.length=tl.length→(∀ v ∈ vs,v.oneCell'=true)→SpIO P f args [(b,.var e (hc++lits vs))] res [(b,.var e (ho++lits vs))] [b])
  (hle:vsLe args as_) (hb:get b st.bl=some (.var e (hd++tl))) (hcs:csLe hc hd) (hon:C.onlys [b] hc=true) (hm:m=true ∨ res.allF=true∧C.allFs ho=true):Step P X st o (.mod res [b] [] [(b,.var e (ho++tl))]):=by
 intro hd' ρ a w hH K Q hK
 obtain ⟨vs,hl,hone,hH2,htl⟩:=lock_hold hH hb
 have hcl2:callIO ([(b,B.var e (hc++lits vs))].map (·.1)) ⟨st.sl,(b,.var e (hd++lits vs)) :: st.bl⟩ n cv c.args.toList=some (f,m,as_):=by
  rw [← hcl]
  have hbut:butB [b] ⟨st.sl,(b,.var e (hd++lits vs)) :: st.bl⟩=butB [b] st:=by
   unfold butB
   simp
  have e1:∀ c:C,cellIO [b] ⟨st.sl,(b,.var e (hd++lits vs)) :: st.bl⟩ n c=cellIO [b] st n c:=fun c=>by cases c <;> simp only [cellIO,hbut]
  have e2:∀ cs:List C,cellsIO [b] ⟨st.sl,(b,.var e (hd++lits vs)) :: st.bl⟩ n cs=cellsIO [b] st n cs:=fun cs=>by
   induction cs with
   | nil=>rfl
   | cons c cs ih=>simp only [cellsIO,e1,ih]
  have e3:∀ v:V,valIO [b] ⟨st.sl,(b,.var e (hd++lits vs)) :: st.bl⟩ n v=valIO [b] st n v:=fun v=>by cases v <;> simp only [valIO,e1,e2]
  have e4:∀ x:Operand,ev ⟨st.sl,(b,.var e (hd++lits vs)) :: st.bl⟩ x=ev st x:=fun x=>by cases x <;> rfl
  have e5:∀ xs:List Operand,argsIO [b] ⟨st.sl,(b,.var e (hd++lits vs)) :: st.bl⟩ n xs=argsIO [b] st n xs:=fun xs=>by
   induction xs with
   | nil=>rfl
   | cons x xs ih=>simp only [argsIO,e3,e4,ih]
  have e6:calleeIO [b] ⟨st.sl,(b,.var e (hd++lits vs)) :: st.bl⟩ n cv=calleeIO [b] st n cv:=by simp only [calleeIO,e2,e4]
  have e7:boundIO [b] ⟨st.sl,(b,.var e (hd++lits vs)) :: st.bl⟩ n cv=boundIO [b] st n cv:=by simp only [boundIO,e2,e4]
  show callIO [b] _ n cv _=_
  simp only [callIO,e5,e6,e7]
 have hst:=callIO_step (X:=X) (st:=⟨st.sl,(b,.var e (hd++lits vs)) :: st.bl⟩) hop hcal hcl2 (hsp vs hl hone) hle
  (by
   refine ⟨?_,trivial⟩
   show bLe _ (get b ((b,B.var e (hd++lits vs)) :: st.bl))
   simp only [get,if_true]
   exact ⟨rfl,csLe_append hcs (csLe_refl_lits vs)⟩)
  (by simp only [List.map_cons,List.map_nil,List.all_cons,List.all_nil,B.only,onlys_append,lits_only,hon,Bool.and_self])
  (hm.imp id fun h=>⟨h.1,fun p hp=>by
   obtain rfl:=List.mem_singleton.1 hp
   show C.allFs (ho++lits vs)=true
   rw [allFs_append,h.2,lits_all];rfl⟩)
  (by simp [staysOk])
 refine hst hd' ρ a w hH2 K Q fun x ρ' w' hout=>hK x ρ' w' ?_
 have hD:ioD ([(b,B.var e (hc++lits vs))].map (·.1)) res [(b,.var e (ho++lits vs))] [b]=.mod res [b] [] [(b,.var e (ho++lits vs))]:=by
  unfold ioD
  simp
 rw [hD] at hout
 obtain ⟨hev,hx,hnb⟩:=hout
 refine ⟨hev,hx,fun i B hB=>?_⟩
 obtain ⟨rfl,rfl⟩:=one_get hB
 obtain ⟨g,cap,hid,xs,hheap,hcs'⟩:=hnb i (.var e (ho++lits vs)) (by simp [get])
 obtain ⟨ys,zs,hxs,hl',h1,h2⟩:=rdCs_split hcs'
 obtain rfl:=(lits_rd hone).1 h2
 exact ⟨g,cap,hid,xs,hheap,by rw [hxs];exact rdCs_join h1 (hev.rdCs (C.ments_nil _) htl)⟩
theorem fits_lits:∀ vs:List Value,C.fits (lits vs) (lits vs)=lits vs
 | []=>rfl
 | v :: vs=>by show (C.t true (.lit v)).fit (C.t true (.lit v)) :: C.fits (lits vs) (lits vs)=_;rw [fits_lits vs];rfl
def C.fit2:C→C→C
 | .t z (.sl []),.nil=>.t z (.sl [])
 | a,c=>a.fit c
def C.fits2:List C→List C→List C
 | a :: l,c :: cs=>a.fit2 c :: C.fits2 l cs
 | _,cs=>cs
def V.fit21:V→V→V
 | .one a,.one c=>.one (a.fit2 c)
 | .agg l,.agg cs=>.agg (C.fits2 l cs)
 | _,c=>c
def V.fits2:List V→List V→List V
 | a :: l,c :: cs=>a.fit21 c :: V.fits2 l cs
 | _,cs=>cs
def V.fit2:V→V→V
 | .one a,.one c=>.one (a.fit2 c)
 | .agg l,.agg cs=>.agg (C.fits2 l cs)
 | .tup l,.tup cs=>.tup (V.fits2 l cs)
 | _,c=>c
theorem RdC.fit2 (hok:∀ b,ok true b→ok false b) {a c:C} {x:Value} (h:RdC w ok ρ c x):RdC w ok ρ (a.fit2 c) x:=by
 unfold C.fit2
 split
 ·unfold RdC at h ⊢
  obtain ⟨A,rfl⟩:=h
  unfold RdT
  exact ⟨A,0,0,rfl,rfl,Nat.le_refl _,.inl rfl⟩
 ·exact h.fit hok
theorem RdCs.fit2 (hok:∀ b,ok true b→ok false b):∀ {l cs:List C} {xs:List Value},RdCs w ok ρ cs xs→RdCs w ok ρ (C.fits2 l cs) xs
 | [],_,_,h=>by unfold C.fits2;exact h
 | _ :: _,[],_,h=>by unfold C.fits2;exact h
 | a :: l,c :: cs,[],h=>by unfold RdCs at h;exact h.elim
 | a :: l,c :: cs,x :: xs,h=>by
  rw [C.fits2]
  rw [RdCs] at h ⊢
  exact ⟨h.1.fit2 hok,RdCs.fit2 hok h.2⟩
theorem RdV.fit21 (hok:∀ b,ok true b→ok false b) {a c:V} {x:Value} (h:RdV w ok ρ c x):RdV w ok ρ (V.fit21 a c) x:=by
 unfold V.fit21
 split
 ·unfold RdV at h ⊢;exact h.fit2 hok
 ·unfold RdV at h ⊢
  obtain ⟨xs,h1,h2⟩:=h
  exact ⟨xs,h1,h2.fit2 hok⟩
 ·exact h
theorem RdVs.fit2 (hok:∀ b,ok true b→ok false b):∀ {l cs:List V} {xs:List Value},RdVs w ok ρ cs xs→RdVs w ok ρ (V.fits2 l cs) xs
 | [],_,_,h=>by unfold V.fits2;exact h
 | _ :: _,[],_,h=>by unfold V.fits2;exact h
 | a :: l,c :: cs,[],h=>by unfold RdVs at h;exact h.elim
 | a :: l,c :: cs,x :: xs,h=>by
  rw [V.fits2]
  rw [RdVs] at h ⊢
  exact ⟨h.1.fit21 hok,RdVs.fit2 hok h.2⟩
theorem RdV.fit2 (hok:∀ b,ok true b→ok false b) {a c:V} {x:Value} (h:RdV w ok ρ c x):RdV w ok ρ (V.fit2 a c) x:=by
 unfold V.fit2
 split
 ·unfold RdV at h ⊢;exact h.fit2 hok
 ·unfold RdV at h ⊢
  obtain ⟨xs,h1,h2⟩:=h
  exact ⟨xs,h1,h2.fit2 hok⟩
 ·unfold RdV at h ⊢
  obtain ⟨xs,h1,h2⟩:=h
  exact ⟨xs,h1,h2.fit2 hok⟩
 ·exact h
theorem fits2_lits:∀ vs:List Value,C.fits2 (lits vs) (lits vs)=lits vs
 | []=>rfl
 | v :: vs=>by show (C.t true (.lit v)).fit2 (C.t true (.lit v)) :: C.fits2 (lits vs) (lits vs)=_;rw [fits2_lits vs];rfl
def bFit:B→B→B
 | .var _ cs,.var e cs'=>.var e (C.fits2 cs cs')
 | _,b=>b
def fitL (bl:List (Nat × B)):List (Nat × B)→Option (List (Nat × B))
 | []=>some []
 | p :: l=>match get p.1 bl with
  | some b=>match fitL bl l with
   | some r=>some ((p.1,bFit p.2 b) :: r)
   | none=>none
  | none=>none
theorem fitL_get {bl:List (Nat × B)}:∀ {l r:List (Nat × B)} {i:Nat} {b:B},fitL bl l=some r→get i r=some b→∃ b0 b1,get i bl=some b1∧b=bFit b0 b1
 | [],r,i,b,h,hg=>by unfold fitL at h;injection h with h;subst h;cases hg
 | p :: l,r,i,b,h,hg=>by
  unfold fitL at h
  split at h
  ·rename_i b1 h1
   split at h
   ·rename_i r' hr
    injection h with h
    subst h
    unfold get at hg
    split at hg
    ·rename_i hi
     subst hi
     injection hg with hg
     exact ⟨p.2,b1,h1,hg.symm⟩
    ·exact fitL_get hr hg
   ·cases h
  ·cases h
theorem hold_fit {outs r:List (Nat × B)} (hH:Hold X st ρ a w) (h:fitL st.bl outs=some r):Hold X ⟨st.sl,r++st.bl⟩ ρ a w:=by
 refine ⟨hH.defers,hH.size,hH.below,hH.keep,hH.ge,hH.inj,hH.pin,hH.slots,fun i b hb=>?_,hH.gk,hH.gw⟩
 have hb:get i (r++st.bl)=some b:=hb
 cases hr:get i r with
 | none=>rw [get_append_none hr] at hb;exact hH.blocks i b hb
 | some b' =>
  rw [get_append_some hr] at hb
  injection hb with hb
  subst hb
  obtain ⟨b0,b1,h1,rfl⟩:=fitL_get h hr
  have hB:=hH.blocks i b1 h1
  unfold bFit
  split
  ·obtain ⟨g,cap,hid,xs,hheap,hcs⟩:=hB
   exact ⟨g,cap,hid,xs,hheap,hcs.fit2 okOf_tf⟩
  ·exact hB
end
theorem ends_iow {P:Program} {X:Cx} {rs:Array ResultVar} {res:V} {outs:List (Nat × B)} {stays:List Nat} {st:St} {v:V} (h:resV P st rs.toList=some v) (hf:V.fit2 res v=res) (hb:fitL st.bl outs=some outs) (ho:res.only (outs.map (·.1))=true) (hbo:∀ p ∈ outs,p.2.only (outs.map (·.1))=true)
  (hst:∀ id ∈ stays,X.n≤id∧id ∈ outs.map (·.1)):EndsIO P X rs res outs stays st:=fun ρ a w hH=>by
 obtain ⟨q,h1,h2⟩:=resV_sound (fn:={ (default:Func) with results:=rs }) hH h
 have h2:RdV w (okOf X ρ w) ρ res q:=hf ▸ h2.fit2 okOf_tf
 have hT:∀ z t x,RdT w (okOf X ρ w z) t x→RdT w (okOf X (onlyR (outs.map fun p:Nat × B=>p.1) ρ) w z) t x:=fun z t x hr=>hr.mono fun b hb=>⟨⟨hb.1,hb.2.1,fun id b' cap hid=>by
  unfold onlyR at hid
  split at hid
  ·exact hb.2.2 id b' cap hid
  ·cases hid⟩,rfl⟩
 have hBs:∀ id b,get id outs=some b→HasB X w (onlyR (outs.map fun p:Nat × B=>p.1) ρ) id b:=fun id b hid=>by
  have hm:id ∈ outs.map (·.1):=List.mem_map.2 ⟨_,get_mem hid,rfl⟩
  have hB:=(hold_fit hH hb).blocks id b (get_append_some hid)
  cases b with
  | arr e s z rows =>
   unfold HasB at hB ⊢
   rw [show onlyR (outs.map fun p:Nat × B=>p.1) ρ id=ρ id from if_pos hm]
   cases hr:ρ id with
   | dead=>simp [hr] at hB
   | nil=>simp only [hr] at hB ⊢;exact hB
   | lie g cap =>
    simp only [hr] at hB ⊢
    obtain ⟨xs,g1,g2,g3⟩:=hB
    exact ⟨xs,g1,g2.mono fun b hb=>⟨⟨hb.1,hb.2.1,fun id b' cap hid=>by
     unfold onlyR at hid
     split at hid
     ·exact hb.2.2 id b' cap hid
     ·cases hid⟩,rfl⟩,g3⟩
  | var e cells =>
   unfold HasB at hB ⊢
   obtain ⟨g,cap,hr,xs,g1,g2⟩:=hB
   exact ⟨g,cap,(if_pos hm).trans hr,xs,g1,g2.less hT (fun id hid=>if_pos hid) (hbo _ (get_mem hid))⟩
  | mp k es =>
   unfold HasB at hB ⊢
   obtain ⟨g,cap,hr,rest⟩:=hB
   exact ⟨g,cap,(if_pos hm).trans hr,rest⟩
 refine ⟨q,onlyR (outs.map fun p:Nat × B=>p.1) ρ,fun fn hfn=>?_,fun id b cap hid=>?_,fun i j b c d hi hj=>?_,fun id hid=>if_neg hid,fun id hid=>?_,h2.less hT (fun id hid=>if_pos hid) ho,hBs⟩
 ·subst hfn;rw [results_eq] at h1 ⊢;exact h1
 ·unfold onlyR at hid
  split at hid
  ·exact hH.ge id b cap hid
  ·cases hid
 ·unfold onlyR at hi hj
  split at hi
  ·split at hj
   ·exact hH.inj i j b c d hi hj
   ·cases hj
  ·cases hi
 ·obtain ⟨h3,h4⟩:=hst id hid
  rw [show onlyR (outs.map fun p:Nat × B=>p.1) ρ id=ρ id from if_pos h4]
  refine (hH.pin id h3).resolve_right fun hd=>?_
  obtain ⟨p,hp,rfl⟩:=List.mem_map.1 h4
  have hg:∃ b,get p.1 outs=some b:=by
   have key:∀ l:List (Nat × B),p ∈ l→∃ b,get p.1 l=some b:=by
    intro l
    induction l with
    | nil=>intro h;cases h
    | cons q l ih =>
     intro h
     obtain ⟨k,u⟩:=q
     unfold get
     by_cases hk:p.1=k
     ·exact ⟨u,by rw [if_pos hk]⟩
     ·rw [if_neg hk]
      rcases List.mem_cons.1 h with h | h
      ·exact absurd (by rw [h]) hk
      ·exact ih h
   exact key outs hp
  obtain ⟨b,hg⟩:=hg
  exact (hBs _ b hg).alive ((if_pos h4).trans hd)
section
variable {P:Program} {X:Cx} {st:St} {rs:Array ResultVar} {res:V}
theorem ends_iofit {outs:List (Nat × B)} {stays:List Nat} (h:(resV P st rs.toList).map (V.fit2 res)=some res) (hb:fitL st.bl outs=some outs) (ho:res.only (outs.map (·.1))=true) (hbo:(outs.all fun p=>p.2.only (outs.map (·.1)))=true)
  (hst:(stays.all fun i=>decide (X.n≤i) && (outs.map (·.1)).contains i)=true):EndsIO P X rs res outs stays st:=fun ρ a w hH=>by
 cases hv:resV P st rs.toList with
 | none=>rw [hv] at h;cases h
 | some v =>
  rw [hv] at h
  have h:V.fit2 res v=res:=by simpa using h
  exact ends_iow (outs:=outs) hv h hb ho (List.all_eq_true.1 hbo) (fun id hid=>by
   have:=List.all_eq_true.1 hst id hid
   simpa using this) ρ a w hH
end
theorem rdCs_at {w:World} {ok:Bool→Nat→Prop} {ρ:Nat→R}:∀ {cs:List C} {xs:List Value} {j:Nat} {c:C},RdCs w ok ρ cs xs→cs[j]?=some c→∃ x,xs[j]?=some x∧RdC w ok ρ c x
 | [],_,_,_,_,hj=>by simp at hj
 | _ :: _,[],_,_,hr,_=>by unfold RdCs at hr;exact hr.elim
 | d :: cs,x :: xs,0,c,hr,hj=>by
  unfold RdCs at hr
  simp only [List.getElem?_cons_zero,Option.some.injEq] at hj
  subst hj
  exact ⟨x,rfl,hr.1⟩
 | d :: cs,x :: xs,j + 1,c,hr,hj=>by
  unfold RdCs at hr
  obtain ⟨y,h1,h2⟩:=rdCs_at (j:=j) hr.2 (by simpa using hj)
  exact ⟨y,by simpa using h1,h2⟩
theorem rdCs_put {w:World} {ok:Bool→Nat→Prop} {ρ:Nat→R} {c':C}:∀ {cs:List C} {xs:List Value} {j:Nat} {x:Value},RdCs w ok ρ cs xs→xs[j]?=some x→RdC w ok ρ c' x→RdCs w ok ρ (cs.set j c') xs
 | [],[],_,_,hr,_,_=>by rw [List.set_nil];exact hr
 | [],_ :: _,_,_,hr,_,_=>by unfold RdCs at hr;exact hr.elim
 | _ :: _,[],_,_,hr,_,_=>by unfold RdCs at hr;exact hr.elim
 | d :: cs,x :: xs,0,y,hr,hj,hy=>by
  unfold RdCs at hr
  simp only [List.getElem?_cons_zero,Option.some.injEq] at hj
  subst hj
  rw [List.set_cons_zero]
  unfold RdCs
  exact ⟨hy,hr.2⟩
 | d :: cs,x :: xs,j + 1,y,hr,hj,hy=>by
  unfold RdCs at hr
  rw [List.set_cons_succ]
  unfold RdCs
  exact ⟨hr.1,rdCs_put hr.2 (by simpa using hj) hy⟩
def meltB (st:St) (b:Nat) (e0:TypeId) (cells:List C) (j id:Nat) (z:Bool) (rows:List (List T)):St:=⟨(st.turn [id] [id] []).sl,(b,.var e0 ((cells.map (C.kill [id])).set j (.t z (.sl rows)))) :: (st.turn [id] [id] []).bl⟩
attribute [go_sem] lits_kill lits_only lits_ments lits_all lits_rens fits_lits fits2_lits C.fit2 C.fits2 V.fit2 V.fit21 V.fits2 bFit fitL meltB rens_append List.cons_append List.nil_append
def SpL (P:Program) (g:FuncId) (args:List V) (e:TypeId) (hc:List C) (res:V) (ho:List C) (k:Nat):Prop :=
 ∀ vs:List Value,vs.length=k→(∀ v ∈ vs,v.oneCell'=true)→SpIO P g args [(1000,.var e (hc++lits vs))] res [(1000,.var e (ho++lits vs))] [1000]
section
variable {P:Program} {X:Cx} {st st0 S:St} {Q:Exit→St→Prop} {l:List Oper} {ops:Array Oper} {o:Oper} {K:St→Prop} {k:Nat} {F:List Lf} {E:List Le} {pr:List (Nat × Nat)} {rs:Array ResultVar} {res res2:V}
theorem lock_step (b:Nat) {c:Call} {cv:Operand} {g:FuncId} {args args2 as_:List V} {e:TypeId} {hc hc2 ho ho2 cells tl:List C} {mk:Bool} {n m:Nat} (hsp:SpL P g args e hc res ho m) (hop:o.op=.call c) (hcal:c.callee=.value cv)
  (ha:V.onlys [1000] args=true) (hn:C.onlys [1000] hc=true) (ha2:V.rens [(1000,b)] args=args2) (hc2':C.rens [(1000,b)] hc=hc2) (ho2':C.rens [(1000,b)] ho=ho2) (hr2:res.ren [(1000,b)]=res2)
  (hcl:callIO [b] st n cv c.args.toList=some (g,mk,as_)) (hle:vsLe args2 as_) (hb:get b st.bl=some (.var e cells)) (hl:cells.drop hc.length=tl) (hk:tl.length=m) (hcs:csLe hc2 (cells.take hc.length)) (hon:C.onlys [b] hc2=true) (hm:(mk || (res2.allF && C.allFs ho2))=true) :
  Step P X st o (.mod res2 [b] [] [(b,.var e (ho2++tl))]):=by
 subst ha2
 subst hc2'
 subst ho2'
 subst hr2
 subst hl
 refine lockIO_step (hd:=cells.take hc.length) hop hcal hcl (fun vs h1 h2=>lock_ren b (hsp vs (h1.trans hk) h2) ha hn) hle ?_ hcs hon ?_
 ·rw [List.take_append_drop];exact hb
 ·simpa [Bool.or_eq_true,Bool.and_eq_true] using hm
theorem lk_ (b:Nat) {f:Prop} (hf:f) {c:Call} {cv:Operand} {g:FuncId} {args args2 as_:List V} {e:TypeId} {hc hc2 ho ho2 cells tl:List C} {mk:Bool} {m:Nat} (hsp:SpL P g args e hc res ho m) (h:RWr P X ops K (l,st0))
  (hop:o.op=.call c:=by exact rfl) (hcal:c.callee=.value cv:=by exact rfl) (ha:V.onlys [1000] args=true:=by rfl) (hn:C.onlys [1000] hc=true:=by rfl) (ha2:V.rens [(1000,b)] args=args2:=by exact rfl) (hc2':C.rens [(1000,b)] hc=hc2:=by exact rfl) (ho2':C.rens [(1000,b)] ho=ho2:=by exact rfl) (hr2:res.ren [(1000,b)]=res2:=by exact rfl)
  (hcl:f→callIO [b] st 40 cv c.args.toList=some (g,mk,as_):=by intro hf;simp only [go_sem,hf] <;> exact rfl) (hle:f→vsLe args2 as_:=by intro hf;simp only [go_sem,hf] <;> fail) (hb:get b st.bl=some (.var e cells):=by simp only [go_sem];exact rfl) (hl:cells.drop hc.length=tl:=by simp only [List.length_cons,List.length_nil,Nat.reduceAdd,List.drop_succ_cons,List.drop_zero];exact rfl) (hk:tl.length=m:=by first | rfl | (unfold lits;rw [List.length_map];assumption)) (hcs:f→csLe hc2 (cells.take hc.length):=by intro hf;simp only [go_sem,List.length_cons,List.length_nil,List.take_succ_cons,List.take_zero,hf] <;> fail) (hon:C.onlys [b] hc2=true:=by rfl) (hm:(mk || (res2.allF && C.allFs ho2))=true:=by rfl)
  (hg:f→guardOf st ops o=some true:=by intro hf;simp only [go_sem,hf] <;> fail) (hd:dstOk X.n o.dst=true:=by rw [hX];rfl) (hr:f→st.app (.mod res2 [b] [] [(b,.var e (ho2++tl))]) o.dst=st0:=by intro hf;simp (maxSteps:=5000000) only [go_sem,hf,hX];exact rfl):RWr P X ops K (o :: l,st):=by
 have hr:=hr hf
 subst hr
 exact rw_step (lock_step b hsp hop hcal ha hn ha2 hc2' ho2' hr2 (hcl hf) (hle hf) hb hl hk (hcs hf) hon hm) (hg hf) hd h
theorem dlk_ (b:Nat) {f:Prop} (hf:f) {r:Cd} {c:Call} {cv:Operand} {g:FuncId} {args args2 as_:List V} {e:TypeId} {hc hc2 ho ho2 cells tl:List C} {mk:Bool} {m:Nat} (hsp:SpL P g args e hc res ho m) (h:DW P X ops st0 K r)
  (hop:o.op=.call c:=by exact rfl) (hcal:c.callee=.value cv:=by exact rfl) (ha:V.onlys [1000] args=true:=by rfl) (hn:C.onlys [1000] hc=true:=by rfl) (ha2:V.rens [(1000,b)] args=args2:=by exact rfl) (hc2':C.rens [(1000,b)] hc=hc2:=by exact rfl) (ho2':C.rens [(1000,b)] ho=ho2:=by exact rfl) (hr2:res.ren [(1000,b)]=res2:=by exact rfl)
  (hcl:f→callIO [b] ⟨rdT S.sl (Oper.looksAt ops o),S.bl⟩ 40 cv c.args.toList=some (g,mk,as_):=by intro hf;simp only [go_sem,hf] <;> exact rfl) (hle:f→vsLe args2 as_:=by intro hf;simp only [go_sem,hf] <;> fail) (hb:get b S.bl=some (.var e cells):=by simp only [go_sem];exact rfl) (hl:cells.drop hc.length=tl:=by simp only [List.length_cons,List.length_nil,Nat.reduceAdd,List.drop_succ_cons,List.drop_zero];exact rfl) (hk:tl.length=m:=by first | rfl | (unfold lits;rw [List.length_map];assumption)) (hcs:f→csLe hc2 (cells.take hc.length):=by intro hf;simp only [go_sem,List.length_cons,List.length_nil,List.take_succ_cons,List.take_zero,hf] <;> fail) (hon:C.onlys [b] hc2=true:=by rfl) (hm:(mk || (res2.allF && C.allFs ho2))=true:=by rfl)
  (hg:f→guardOf ⟨rdT S.sl (Oper.looksAt ops o),S.bl⟩ ops o=some true:=by intro hf;simp only [go_sem,hf] <;> fail) (hd:dstOk X.n o.dst=true:=by rw [hX];rfl) (hr:f→contD P X.n 0 ops l k (nextE k S F E pr o.dst (.mod res2 [b] [] [(b,.var e (ho2++tl))]))=r:=by intro hf;simp (maxSteps:=5000000) only [go_sem,hf,hX];exact rfl):DW P X ops st0 K ⟨o :: l,k,S,F,E,pr⟩:=fun hb'=>by
 have hr:=hr hf
 subst hr
 exact dw_run (m:=0) h (db_ef (R:=⟨rdT S.sl (Oper.looksAt ops o),S.bl⟩) hb' hd (fun t u h=>rdT_get h) (fun t b h=>h) (.inl ⟨hg hf,Step.p (lock_step (st:=⟨rdT S.sl (Oper.looksAt ops o),S.bl⟩) b hsp hop hcal ha hn ha2 hc2' ho2' hr2 (hcl hf) (hle hf) hb hl hk (hcs hf) hon hm)⟩))
theorem ends_fit2 (h:(exitV P st rs.toList).map (V.fit2 res)=some res):Ends P X rs res [] st:=fun ρ a w hH=>by
 cases hv:exitV P st rs.toList with
 | none=>rw [hv] at h;cases h
 | some v =>
  rw [hv] at h
  obtain ⟨q,ρc,h1,h2,h3,h4,h5,h6⟩:=ends_plain hv ρ a w hH
  have h:V.fit2 res v=res:=by simpa using h
  exact ⟨q,ρc,h1,h2,h3,h4,h ▸ h5.fit2 okOf_tf,h6⟩
theorem op_ {f:Prop} (hf:f) {e:Exit} (he:e=.ret ∨ e=.normal) (h:f→(exitV P st rs.toList).map (V.fit2 res)=some res:=by intro hf;simp only [go_sem,hf];try rfl):exitQ P X rs res [] e st:=by
 rcases he with rfl | rfl
 ·exact ends_fit2 (h hf)
 ·exact ends_fit2 (h hf)
theorem oj_ {f:Prop} (hf:f) {outs:List (Nat × B)} {stays:List Nat} {e:Exit} (he:e=.ret ∨ e=.normal) (h1:f→(resV P st rs.toList).map (V.fit2 res)=some res:=by intro hf;simp only [go_sem,hf,hX];try rfl) (h2:f→fitL st.bl outs=some outs:=by intro hf;simp only [go_sem,hf,hX];try rfl) (h3:f→res.only (outs.map (·.1))=true:=by intro hf;simp only [go_sem,hf]) (h4:f→(outs.all fun p=>p.2.only (outs.map (·.1)))=true:=by intro hf;simp only [go_sem,hf])
  (h5:(stays.all fun i=>decide (X.n≤i) && (outs.map (·.1)).contains i)=true:=by rw [hX];rfl):exitIO P X rs res outs stays e st:=by
 rcases he with rfl | rfl
 ·exact ends_iofit (h1 hf) (h2 hf) (h3 hf) (h4 hf) h5
 ·exact ends_iofit (h1 hf) (h2 hf) (h3 hf) (h4 hf) h5
end
section
theorem Hold.meltb {X:Cx} {st:St} {ρ:Nat→R} {a:Act} {w:World} (b j id:Nat) {e e0:TypeId} {cells:List C} {size len:Nat} {z:Bool} {rows:List (List T)} (hH:Hold X st ρ a w) (hv:get b st.bl=some (.var e0 cells)) (ht:cells[j]?=some (.own id len)) (hb:get id st.bl=some (.arr e size z rows)) (hl:rows.length=len) (hne:id ≠ b):Hold X (meltB st b e0 cells j id z rows) (updR ρ id .dead) a w:=by
 have hev:=evo_dead hH (id:=id)
 have hT:=hH.turn hev (nb:=[]) (by intro id b h;cases h)
 refine ⟨hT.defers,hT.size,hT.below,hT.keep,hT.ge,hT.inj,hT.pin,hT.slots,fun i B hB=>?_,hT.gk,hT.gw⟩
 simp only [meltB,get] at hB
 split at hB
 ·rename_i hi
  subst hi
  injection hB with hB
  subst hB
  obtain ⟨g,cap,hid,xs,hheap,hcs⟩:=hH.blocks _ _ hv
  obtain ⟨x,hx1,hx2⟩:=rdCs_at hcs ht
  refine ⟨g,cap,(updR_ne (Ne.symm hne)).trans hid,xs,hheap,?_⟩
  refine rdCs_put (hcs.kill hev.rdT (fun i hi=>hev.rho i hi)) hx1 ?_
  unfold RdC
  exact row_melt hH hb hl hx2
 ·exact hT.blocks i B hB
theorem ex_meltb {P:Program} {X:Cx} {st st2:St} {rs:Array ResultVar} {res:V} {outs:List (Nat × B)} {stays:List Nat} {x:Exit} (b j id:Nat) {e e0:TypeId} {cells:List C} {size len:Nat} {z:Bool} {rows:List (List T)} (h:exitIO P X rs res outs stays x st2) (hv:get b st.bl=some (.var e0 cells):=by simp only [go_sem];exact rfl) (ht:cells[j]?=some (.own id len):=by simp only [go_sem];exact rfl) (hb:get id st.bl=some (.arr e size z rows):=by simp only [go_sem];exact rfl) (hl:rows.length=len:=by first | rfl | assumption | simp only [go_sem]) (hs:meltB st b e0 cells j id z rows=st2:=by simp only [go_sem,List.set_cons_succ,List.set_cons_zero];exact rfl) (hne:id ≠ b:=by decide):exitIO P X rs res outs stays x st:=by
 subst hs
 cases x with
 | normal=>exact fun ρ a w hH=>h _ a w (hH.meltb b j id hv ht hb hl hne)
 | ret=>exact fun ρ a w hH=>h _ a w (hH.meltb b j id hv ht hb hl hne)
 | _=>exact h
end
end Go.Proofs.YtjdgejfhnfnmgaaGreatDoor.Ax
