/-  -/
import Derived.Test.YtjdgejfhnfnmgaaGreatDoorS39
import Derived.Test.YtjdgejfhnfnmgaaGreatDoorS38
import Derived.Test.YtjdgejfhnfnmgaaGreatDoorS19
namespace Go.Proofs.YtjdgejfhnfnmgaaGreatDoor.Ax
open Go.RowKit
set_option linter.unnecessarySimpa false
set_option linter.unusedSimpArgs false
attribute [local go_sem] extV appD cutOwn appOwn clearOwn bdI mapD putD' keyOk getOr getM putM wholeV litCs asV asC ptrC fnC nilC nilPtr strRows_len runs runsN guardOf exec1 pureV modD rowD ev get St.app St.put St.turn loadC moveC fieldOf indexC lenC lenOk cutC bndOf evAll fieldV convV unV binV binI bitsV moreV intsT eqL eq1 valOf min1 lit1 litInt litI litB litS constV constC cellsV partsOf placesOf buildV fillL toT elemsOf rowsOf baseOf dstOk V.kill V.ment V.ments C.kill C.ment C.ments B.kill setD litRows litRows_append T.isLit callAll calleeV argsV argV viewC viewCs modeOk freeOps V.free C.free V.allF V.allFs C.allF C.allFs B.allF callD leL growSt growB C.flat V.flat B.flat flatL flatB St.flat List.set_cons_zero List.set_cons_succ C.only C.onlys V.only V.onlys B.only renI C.ren C.rens V.ren V.rens B.ren renB renOk nodK Option.getD_some Option.getD_none Option.isSome_some implies_true false_implies C.fit C.fits V.fit V.fit1 V.fits Bool.and_self ite_self exitV resV resL resC outV outV.outs eqB nn cast0 Int.toNat_natCast List.getElem?_map Value.cells Value.oneCell' Nat.lt_irrefl decide_true decide_false and_true true_and and_self and_false false_and not_true_eq_false not_false_eq_true not_true not_false List.size_toArray all_len Nat.zero_add Nat.add_zero List.length_cons List.length_append List.length_replicate List.length_set List.length_nil List.length_map List.map_cons List.map_nil List.take_succ_cons List.take_zero List.take_nil List.drop_succ_cons List.drop_zero List.drop_nil List.cons_append List.nil_append List.append_nil List.all_cons List.all_nil Bool.and_true Bool.true_and Bool.and_false Bool.false_and Bool.not_true Bool.not_false Bool.or_false Bool.or_true Bool.false_or Bool.true_or List.filter_cons List.filter_nil List.contains_cons List.contains_nil beq_self_eq_true List.getElem?_cons_zero List.getElem?_cons_succ List.getElem?_nil Option.map_some Option.map_none Option.toList_some Option.toList_none List.isEmpty_cons List.isEmpty_nil Bool.false_eq_true Bool.true_eq_false List.getElem?_toArray List.not_mem_nil List.mem_cons or_false forall_eq List.mem_singleton forall_const Option.toArray tailF addF flSl dKeeps flFree closF notF if_true if_false dstsOf Oper.looksAt Op.operands Call.operands pick stOf goneOf slOf blOf keepB' edge B.ment Region.binds tailOk clos List.any_cons List.any_nil List.filterMap_cons List.filterMap_nil ne_eq Bool.or_self List.isEmpty_iff Array.toList_append List.append_toArray Array.append_empty Option.bind_some Option.bind_none List.push_toArray
set_option linter.unusedVariables false
theorem take_end {l vs:List Vl} {k:Nat} (h:AtT l k vs) (hl:l.length=k + vs.length) {s:ByteArray} (hs:∀ v ws,vs=v :: ws→strEq v.s s=false):takeB l s k=false:=by
 cases vs with
 | nil=>exact takeB_end (by rw [hl];exact Nat.le_refl _)
 | cons v ws=>rw [h.take,hs v ws rfl]
theorem where_tail {c:Cm} (f:Fx c) (hk:kWhere c.k=true) {te tw:ByteArray} (ht:TextIs c te tw):∃ WH:List (ByteArray × List Vl),whereW c tw=WH.map (·.1)∧(∀ p ∈ WH,Piece p.1.data.toList p.2) ∧
  ∀ (l:List Vl) (k:Nat) (vs:List Vl),AtT l k (WH.flatMap (·.2)++vs)→l.length=k + (WH.flatMap (·.2)).length + vs.length→(∀ v ws,vs=v :: ws→strEq v.s ⟨#[119,104,101,114,101]⟩=false)→whereR l k=.ok (c.all,c.wh) (k + (WH.flatMap (·.2)).length):=by
 cases ha:c.all with
 | true =>
  refine ⟨[],by unfold whereW;rw [ha];rfl,pieces_nil,fun l k vs h hl hv=>?_⟩
  rw [f.wh0 (.inr ha)]
  exact where_none (take_end h (by simpa using hl) hv)
 | false =>
  obtain ⟨g,h1,h2,h3⟩:=f.wh hk ha
  obtain ⟨g',h4,h5,_,rfl⟩:=ht.wh hk ha
  obtain rfl:=gx_inj g' g (h4.trans h1.symm)
  refine ⟨[wl ⟨#[119,104,101,114,101]⟩,(gT g',toksG g')],by unfold whereW;rw [ha];rfl,pieces_cons (Piece.word (by kernel_rfl)) (pieces_cons (piece_gx g' h2) pieces_nil),fun l k vs h hl hv=>?_⟩
  have h:AtT l k (wd ⟨#[119,104,101,114,101]⟩ :: (toksG g'++[]++vs)):=h
  rw [List.append_nil] at h
  rw [where_some h2 h3 h,h1]
  congr 1
  simp only [List.flatMap_cons,List.flatMap_nil,List.length_append,List.length_cons,List.length_nil]
  omega
def toksO (c:Cm):List Vl:=if emptyT c.order=true then [] else [wd wOrder,wd wBy,wd c.order]
def toksL (c:Cm):List Vl:=if 0≤c.limit then [wd wLimit,nu (digS c.limit)] else []
theorem emptyT_iff {s:ByteArray}:emptyT s=true ↔ s=.empty:=by
 constructor
 ·intro h
  unfold emptyT at h
  have:=strEq_iff (a:=s) (b:=⟨#[]⟩)
  unfold strEq at this
  exact this.1 h
 ·rintro rfl
  exact beq_self_eq_true _
theorem order_tail {c:Cm} (f:Fx c):∃ WO:List (ByteArray × List Vl),orderW c=WO.map (·.1)∧WO.flatMap (·.2)=toksO c∧(∀ p ∈ WO,Piece p.1.data.toList p.2) ∧
  ∀ (l:List Vl) (k:Nat) (vs:List Vl),AtT l k (toksO c++vs)→l.length=k + (toksO c).length + vs.length→(∀ v ws,vs=v :: ws→strEq v.s ⟨#[111,114,100,101,114]⟩=false)→orderR l k=.ok c.order (k + (toksO c).length):=by
 unfold toksO orderW
 by_cases he:emptyT c.order=true
 ·rw [if_pos he,if_pos he]
  refine ⟨[],rfl,rfl,pieces_nil,fun l k vs h hl hv=>?_⟩
  unfold orderR
  rw [take_end h (by simpa using hl) hv,cond_false,emptyT_iff.1 he]
  rfl
 ·rw [if_neg he,if_neg he]
  have hn:nameB c.order=true:=f.order.resolve_left fun h=>he (emptyT_iff.2 h)
  refine ⟨[wl wOrder,wl wBy,wl c.order],rfl,rfl,pieces_cons (Piece.word (by kernel_rfl)) (pieces_cons (Piece.word (by kernel_rfl)) (pieces_cons (wl_name hn) pieces_nil)),fun l k vs h hl hv=>?_⟩
  have h:AtT l k (wd wOrder :: wd wBy :: wd c.order :: vs):=h
  have h1:=h.tail
  have h2:=h1.tail
  unfold orderR
  rw [h.take,show strEq (wd wOrder).s ⟨#[111,114,100,101,114]⟩=true by kernel_rfl,cond_true,h1.need (s:=⟨#[98,121]⟩) rfl,ok_bind,h2.nameR hn]
  rfl
theorem limit_tail {c:Cm} (hl0:-1≤c.limit∧c.limit≤999999999):∃ WL:List (ByteArray × List Vl),limitW c=WL.map (·.1)∧WL.flatMap (·.2)=toksL c∧(∀ p ∈ WL,Piece p.1.data.toList p.2) ∧
  ∀ (l:List Vl) (k:Nat),AtT l k (toksL c)→l.length=k + (toksL c).length→limitR l k=.ok c.limit (k + (toksL c).length):=by
 unfold toksL limitW
 by_cases he:0≤c.limit
 ·rw [if_pos he,if_pos he]
  refine ⟨[wl wLimit,(digS c.limit,[nu (digS c.limit)])],rfl,rfl,pieces_cons (Piece.word (by kernel_rfl)) (pieces_cons (piece_num he hl0.2) pieces_nil),fun l k h hl=>?_⟩
  have h1:=h.tail
  unfold limitR numR
  rw [h.take,show strEq (wd wLimit).s ⟨#[108,105,109,105,116]⟩=true by kernel_rfl,cond_true,h1.kind,h1.tx,show ((nu (digS c.limit)).k==2)=true from rfl,cond_true,numL_S he]
  rfl
 ·rw [if_neg he,if_neg he]
  refine ⟨[],rfl,rfl,pieces_nil,fun l k h hl=>?_⟩
  unfold limitR
  rw [take_end h hl (by intro v ws e;cases e),cond_false,show c.limit=-1 by omega]
  rfl
theorem fst_OL {c:Cm}:(∀ v ws,toksO c++toksL c=v :: ws→strEq v.s ⟨#[119,104,101,114,101]⟩=false)∧∀ v ws,toksL c=v :: ws→strEq v.s ⟨#[111,114,100,101,114]⟩=false:=by
 unfold toksO toksL
 constructor
 ·intro v ws h
  split at h
  ·split at h
   ·cases h;kernel_rfl
   ·cases h
  ·cases h;kernel_rfl
 ·intro v ws h
  split at h
  ·cases h;kernel_rfl
  ·cases h
theorem fields_at {c:Cm} (f:Fx c):∃ FT:List Vl,Piece (fieldsT c).data.toList FT∧∀ (l:List Vl) (k:Nat) (ws:List Vl),AtT l k (FT++wd wFrom :: ws)→fieldsR l k=.ok c.fields (k + FT.length):=by
 unfold fieldsT
 by_cases he:0 < c.fields.length
 ·rw [if_pos he]
  have hne:(c.fields.map fun s=>(s,[wd s])) ≠ []:=by
   intro h
   rw [List.map_eq_nil_iff.1 h] at he
   exact absurd he (by decide)
  have e1:(c.fields.map fun s=>(s,[wd s])).map (·.1)=c.fields:=by rw [List.map_map];exact List.map_id _
  have hp:=piece_comma (c.fields.map fun s=>(s,[wd s])) hne (by
   intro p hp
   obtain ⟨s,hs,rfl⟩:=List.mem_map.1 hp
   exact wl_name (f.fieldOk s hs))
  rw [e1] at hp
  refine ⟨_,hp,fun l k ws h=>?_⟩
  have hS:=some_back (l:=l) (E:=nameR l) hne (by
   intro p hp k ws hk
   obtain ⟨s,hs,rfl⟩:=List.mem_map.1 hp
   have hk:AtT l k (wd s :: ws):=hk
   exact hk.nameR (f.fieldOk s hs)) (v:=wd wFrom) (by kernel_rfl) h
  rw [e1] at hS
  have hstar:takeB l ⟨#[42]⟩ k=false:=by
   cases hf:c.fields with
   | nil=>rw [hf] at he;exact absurd he (by decide)
   | cons s r =>
    rw [hf] at h
    have hn:=f.fieldOk s (by rw [hf];exact List.mem_cons_self)
    have h:AtT l k (toksC ([wd s] :: (r.map fun s=>(s,[wd s])).map (·.2))++wd wFrom :: ws):=h
    rw [toksC_flat] at h
    have h:AtT l k (wd s :: _):=h
    rw [h.take]
    exact ne_kind (name_tok hn) (show tokB 4 ⟨#[42]⟩=true by kernel_rfl) (by decide)
  unfold fieldsR
  rw [hstar,cond_false,hS]
 ·rw [if_neg he]
  have e0:c.fields=[]:=List.length_eq_zero_iff.1 (by omega)
  refine ⟨[sg ⟨#[42]⟩],Piece.tok (v:=sg ⟨#[42]⟩) (by kernel_rfl),fun l k ws h=>?_⟩
  have h:AtT l k (sg ⟨#[42]⟩ :: wd wFrom :: ws):=h
  unfold fieldsR
  rw [h.take,show strEq (sg ⟨#[42]⟩).s ⟨#[42]⟩=true by kernel_rfl,cond_true,e0]
  rfl
theorem flat_app (V W:List (ByteArray × List Vl)):(V++W).flatMap (·.2)=V.flatMap (·.2)++W.flatMap (·.2):=List.flatMap_append
theorem back11 (c:Cm) (f:Fx c) (hk:c.k=11) (te tw:ByteArray) (ht:TextIs c te tw):Back c te tw:=by
 obtain ⟨WH,w1,w2,w3⟩:=where_tail f (by rw [hk];rfl) ht
 obtain ⟨k,name,other,column,cols,ty,v,vals,fields,ex,all,wh,order,limit⟩:=c
 obtain rfl:k=11:=hk
 obtain rfl:other=.empty:=f.other0 rfl
 obtain rfl:column=.empty:=f.column0 rfl
 obtain rfl:cols=[]:=f.cols0 (by dsimp only;decide)
 obtain rfl:ty=0:=f.ty0 rfl
 obtain rfl:v=Vl.zero:=f.v0 (by dsimp only;decide)
 obtain rfl:vals=[]:=f.vals0 (by dsimp only;decide)
 obtain rfl:fields=[]:=f.fields0 (by dsimp only;decide)
 obtain rfl:ex=zE:=f.ex0 (by dsimp only;decide)
 obtain rfl:order=.empty:=f.order0 (by dsimp only;decide)
 obtain rfl:limit=0:=f.limit0 (by dsimp only;decide)
 have n1:nameB name=true:=f.name rfl
 dsimp only at w3
 refine back_of ([wl ⟨#[100,101,108,101,116,101]⟩,wl ⟨#[102,114,111,109]⟩,wl name]++WH) ?_ (pieces_append (pieces_cons (Piece.word (by kernel_rfl)) (pieces_cons (Piece.word (by kernel_rfl)) (pieces_cons (wl_name n1) pieces_nil))) w2) ?_
 ·show textW _++wordsT _=_
  rw [← textW_append (by simp),w1,List.map_append]
  rfl
 ·intro l h hl
  rw [flat_app] at h hl ⊢
  have h:AtT l 0 (wd ⟨#[100,101,108,101,116,101]⟩ :: wd ⟨#[102,114,111,109]⟩ :: wd name :: WH.flatMap (·.2)):=h
  have h1:=h.tail
  have h2:=h1.tail
  have h3:=h2.tail
  have hW:=w3 l 3 [] (by rw [List.append_nil];exact h3) (by rw [hl,List.length_append];rfl) (by intro v ws e;cases e)
  refine cmd_at h 4 (by kernel_rfl) (by decide) hl ?_
  show deleteR l 1=_
  unfold deleteR
  rw [h1.need rfl,ok_bind,h2.nameR n1,ok_bind,hW,ok_bind]
  show PR.ok _ _=PR.ok _ _
  rw [List.length_append]
  rfl
theorem back12 (c:Cm) (f:Fx c) (hk:c.k=12) (te tw:ByteArray) (ht:TextIs c te tw):Back c te tw:=by
 obtain ⟨WH,w1,w2,w3⟩:=where_tail f (by rw [hk];rfl) ht
 obtain ⟨g,g1,g2,g3⟩:=f.ex hk
 obtain ⟨g',h4,h5,_,rfl⟩:=ht.ex hk
 obtain rfl:=gx_inj g' g (h4.trans g1.symm)
 obtain ⟨k,name,other,column,cols,ty,v,vals,fields,ex,all,wh,order,limit⟩:=c
 obtain rfl:k=12:=hk
 obtain rfl:other=.empty:=f.other0 rfl
 obtain rfl:cols=[]:=f.cols0 (by dsimp only;decide)
 obtain rfl:ty=0:=f.ty0 rfl
 obtain rfl:v=Vl.zero:=f.v0 (by dsimp only;decide)
 obtain rfl:vals=[]:=f.vals0 (by dsimp only;decide)
 obtain rfl:fields=[]:=f.fields0 (by dsimp only;decide)
 obtain rfl:order=.empty:=f.order0 (by dsimp only;decide)
 obtain rfl:limit=0:=f.limit0 (by dsimp only;decide)
 have n1:nameB name=true:=f.name rfl
 have n3:nameB column=true:=f.column rfl
 dsimp only at w3 g1
 refine back_of ([wl ⟨#[117,112,100,97,116,101]⟩,wl name,wl ⟨#[115,101,116]⟩,wl column,(⟨#[61]⟩,[sg ⟨#[61]⟩]),(gT g',toksG g')]++WH) ?_ (pieces_append (pieces_cons (Piece.word (by kernel_rfl)) (pieces_cons (wl_name n1) (pieces_cons (Piece.word (by kernel_rfl)) (pieces_cons (wl_name n3) (pieces_cons (Piece.tok (v:=sg ⟨#[61]⟩) (by kernel_rfl)) (pieces_cons (piece_gx g' g2) pieces_nil)))))) w2) ?_
 ·show textW _++wordsT _=_
  rw [← textW_append (by simp),w1,List.map_append]
  rfl
 ·intro l h hl
  rw [flat_app] at h hl ⊢
  have e:([wl ⟨#[117,112,100,97,116,101]⟩,wl name,wl ⟨#[115,101,116]⟩,wl column,(⟨#[61]⟩,[sg ⟨#[61]⟩]),(gT g',toksG g')]:List (ByteArray × List Vl)).flatMap (·.2)=wd ⟨#[117,112,100,97,116,101]⟩ :: wd name :: wd ⟨#[115,101,116]⟩ :: wd column :: sg ⟨#[61]⟩ :: toksG g':=by simp
  rw [e] at h hl ⊢
  have h:AtT l 0 (wd ⟨#[117,112,100,97,116,101]⟩ :: wd name :: wd ⟨#[115,101,116]⟩ :: wd column :: sg ⟨#[61]⟩ :: (toksG g'++WH.flatMap (·.2))):=h
  have h1:=h.tail
  have h2:=h1.tail
  have h3:=h2.tail
  have h4:=h3.tail
  have h5:=h4.tail
  have hE:=exR_gx g' g2 60 5 _ (by omega) h5
  have hW:=w3 l (5 + (toksG g').length) [] (by rw [List.append_nil];exact h5.right) (by rw [hl];simp only [List.length_append,List.length_cons,List.length_nil];omega) (by intro v ws e;cases e)
  refine cmd_at h 5 (by kernel_rfl) (by decide) hl ?_
  show updateR l 1=_
  unfold updateR
  rw [h1.nameR n1,ok_bind,h2.need rfl,ok_bind,h3.nameR n3,ok_bind,h4.need rfl,ok_bind,hE,ok_bind,hW,ok_bind,g1]
  show PR.ok _ _=PR.ok _ _
  congr 1
  simp only [List.length_append,List.length_cons,List.length_nil]
  omega
theorem back13 (c:Cm) (f:Fx c) (hk:c.k=13) (te tw:ByteArray) (ht:TextIs c te tw):Back c te tw:=by
 obtain ⟨WH,w1,w2,w3⟩:=where_tail f (by rw [hk];rfl) ht
 obtain ⟨WO,o1,o2,o3,o4⟩:=order_tail f
 obtain ⟨WL,l1,l2,l3,l4⟩:=limit_tail (f.limit hk)
 obtain ⟨FT,f1,f2⟩:=fields_at f
 have hfst:=fst_OL (c:=c)
 have hcs:cmdS c te tw=textW [wSelect,fieldsT c,wFrom,c.name]++wordsT (whereW c tw)++wordsT (orderW c)++wordsT (limitW c):=by
  obtain ⟨k,name,other,column,cols,ty,v,vals,fields,ex,all,wh,order,limit⟩:=c
  obtain rfl:k=13:=hk
  rfl
 have n1:nameB c.name=true:=f.name (by rw [hk];rfl)
 have hc:c={ zCm with k:=13,name:=c.name,fields:=c.fields,all:=c.all,wh:=c.wh,order:=c.order,limit:=c.limit }:=by
  obtain ⟨k,name,other,column,cols,ty,v,vals,fields,ex,all,wh,order,limit⟩:=c
  obtain rfl:k=13:=hk
  obtain rfl:other=.empty:=f.other0 rfl
  obtain rfl:column=.empty:=f.column0 rfl
  obtain rfl:cols=[]:=f.cols0 (by dsimp only;decide)
  obtain rfl:ty=0:=f.ty0 rfl
  obtain rfl:v=Vl.zero:=f.v0 (by dsimp only;decide)
  obtain rfl:vals=[]:=f.vals0 (by dsimp only;decide)
  obtain rfl:ex=zE:=f.ex0 (by dsimp only;decide)
  rfl
 refine back_of ([wl wSelect,(fieldsT c,FT),wl wFrom,wl c.name]++WH++WO++WL) ?_ (pieces_append (pieces_append (pieces_append (pieces_cons (Piece.word (by kernel_rfl)) (pieces_cons f1 (pieces_cons (Piece.word (by kernel_rfl)) (pieces_cons (wl_name n1) pieces_nil)))) w2) o3) l3) ?_
 ·rw [hcs,w1,o1,l1,← textW_append (by simp),← textW_append (by simp),← textW_append (by simp),List.map_append,List.map_append,List.map_append]
  rfl
 ·intro l h hl
  rw [flat_app,flat_app,flat_app,o2,l2] at h hl ⊢
  have e:([wl wSelect,(fieldsT c,FT),wl wFrom,wl c.name]:List (ByteArray × List Vl)).flatMap (·.2)=wd wSelect :: (FT++[wd wFrom,wd c.name]):=by simp
  rw [e] at h hl ⊢
  have h:AtT l 0 (wd wSelect :: (((FT++[wd wFrom,wd c.name])++WH.flatMap (·.2)++toksO c)++toksL c)):=h
  have h1:=h.tail
  simp only [List.append_assoc] at h1
  have h1:AtT l 1 (FT++wd wFrom :: wd c.name :: (WH.flatMap (·.2)++(toksO c++toksL c))):=h1
  have h2:=h1.right
  have h3:=h2.tail
  have h4:=h3.tail
  have h5:=h4.right
  have h6:=h5.right
  simp only [List.length_append,List.length_cons,List.length_nil] at hl
  have hF:=f2 l 1 _ h1
  have hW:=w3 l _ _ h4 (by simp only [List.length_append];omega) hfst.1
  have hO:=o4 l _ _ h5 (by omega) hfst.2
  have hL:=l4 l _ h6 (by omega)
  refine cmd_at h 6 (by kernel_rfl) (by decide) (by simp only [List.length_append,List.length_cons,List.length_nil];exact hl) ?_
  show selectsR l 1=_
  unfold selectsR
  rw [hF,ok_bind,h2.need (s:=⟨#[102,114,111,109]⟩) rfl,ok_bind,h3.nameR n1,ok_bind,hW,ok_bind,hO,ok_bind,hL,ok_bind]
  show PR.ok _ _=PR.ok _ _
  rw [← hc]
  congr 1
  simp only [List.length_append,List.length_cons,List.length_nil]
  omega
theorem back_all {c:Cm} (h:checkP c=0) {te tw:ByteArray} (ht:TextIs c te tw):Back c te tw:=by
 have f:=fx_of h
 have h1:=f.k1
 have h2:=f.k16
 have hk:c.k=1 ∨ c.k=2 ∨ c.k=3 ∨ c.k=4 ∨ c.k=5 ∨ c.k=6 ∨ c.k=7 ∨ c.k=8 ∨ c.k=9 ∨ c.k=10 ∨ c.k=11 ∨ c.k=12 ∨ c.k=13 ∨ c.k=14 ∨ c.k=15 ∨ c.k=16:=by omega
 rcases hk with hk | hk | hk | hk | hk | hk | hk | hk | hk | hk | hk | hk | hk | hk | hk | hk
 ·exact back1 c f hk te tw ht
 ·exact back2 c f hk te tw ht
 ·exact back3 c f hk te tw ht
 ·exact back4 c f hk te tw ht
 ·exact back5 c f hk te tw ht
 ·exact back6 c f hk te tw ht
 ·exact back7 c f hk te tw ht
 ·exact back8 c f hk te tw ht
 ·exact back9 c f hk te tw ht
 ·exact back10 c f hk te tw ht
 ·exact back11 c f hk te tw ht
 ·exact back12 c f hk te tw ht
 ·exact back13 c f hk te tw ht
 ·exact back14 c f hk te tw ht
 ·exact back15 c f hk te tw ht
 ·exact back16 c f hk te tw ht
theorem parse_back {c:Cm} (h:checkP c=0) {te tw:ByteArray} (ht:TextIs c te tw) (hl:(cmdS c te tw).length≤2000):parseP (bs (cmdS c te tw))=(c,0,0):=by
 obtain ⟨vs,h1,h2⟩:=back_all h ht
 obtain ⟨ts,h3,h4⟩:=scans_S h1 hl
 have h5:=h2 ts (AtT.of h4) (sameTK_len h4).symm
 unfold parseP
 rw [h3,if_pos rfl,h5]
 dsimp only
 rw [if_pos h]
end Go.Proofs.YtjdgejfhnfnmgaaGreatDoor.Ax
namespace Go.Proofs.YtjdgejfhnfnmgaaGreatDoor.Ax
open Go.RowKit
theorem wordsB_len {B:Nat}:∀ l:List ByteArray,(∀ x ∈ l,x.size≤B)→(wordsT l).length≤l.length * (B + 1)
 | [],_=>Nat.zero_le _
 | x :: l,h=>by
  have h1:=wordsB_len l fun y hy=>h y (List.mem_cons_of_mem _ hy)
  have h2:=h x List.mem_cons_self
  have h3:x.data.toList.length=x.size:=rfl
  rw [wordsT,List.length_cons,List.length_append,List.length_cons,Nat.add_mul,Nat.one_mul]
  omega
theorem textB_len {B:Nat} (l:List ByteArray) (h:∀ x ∈ l,x.size≤B):(textW l).length≤l.length * (B + 1):=by
 have h1:=wordsB_len l h
 cases l with
 | nil=>exact Nat.zero_le _
 | cons x l =>
  rw [wordsT,List.length_cons] at h1
  rw [textW]
  omega
theorem bracT_size (s:ByteArray):(bracT s).size=1 + s.size + 1:=by
 unfold bracT
 rw [ByteArray.size_append,ByteArray.size_append]
 rfl
theorem where_len {c:Cm} (hk:kWhere c.k=true) {te tw:ByteArray} (ht:TextIs c te tw):(wordsT (whereW c tw)).length≤70000:=by
 unfold whereW
 cases ha:c.all with
 | true=>rw [if_pos rfl];exact Nat.zero_le _
 | false =>
  obtain ⟨g,_,_,hz,rfl⟩:=ht.wh hk ha
  rw [if_neg (by decide)]
  have h:=wordsB_len (B:=30300) [wWhere,gT g] fun y hy=>by
   simp only [List.mem_cons,List.not_mem_nil,or_false] at hy
   rcases hy with rfl | rfl
   ·decide
   ·exact hz
  have h2:[wWhere,gT g].length=2:=rfl
  rw [h2] at h
  omega
theorem order_len {c:Cm} (hr:Rt c):(wordsT (orderW c)).length≤10000:=by
 unfold orderW
 split
 ·exact Nat.zero_le _
 ·have h:=wordsB_len (B:=2000) [wOrder,wBy,c.order] fun y hy=>by
   simp only [List.mem_cons,List.not_mem_nil,or_false] at hy
   rcases hy with rfl | rfl | rfl
   ·decide
   ·decide
   ·exact hr.order
  have h2:[wOrder,wBy,c.order].length=3:=rfl
  rw [h2] at h
  omega
theorem limit_len {c:Cm} (hr:Rt c):(wordsT (limitW c)).length≤10000:=by
 unfold limitW
 split
 ·have hd:=digS_size c.limit (by have:=hr.limit.1;omega) (by have:=hr.limit.2;omega)
  have h:=wordsB_len (B:=2000) [wLimit,digS c.limit] fun y hy=>by
   simp only [List.mem_cons,List.not_mem_nil,or_false] at hy
   rcases hy with rfl | rfl
   ·decide
   ·omega
  have h2:[wLimit,digS c.limit].length=2:=rfl
  rw [h2] at h
  omega
 ·exact Nat.zero_le _
theorem fieldsT_size {c:Cm} (hr:Rt c):(fieldsT c).size≤20000:=by
 unfold fieldsT
 split
 ·rw [bs_size];exact fields_comma hr
 ·decide
theorem cmdS_len {c:Cm} (hr:Rt c) {te tw:ByteArray} (ht:TextIs c te tw):(cmdS c te tw).length≤400000:=by
 have h1:=hr.k1
 have h2:=hr.k16
 have q1:=hr.name
 have q2:=hr.other
 have q3:=hr.column
 have q4:=kindT_small c.ty
 have q5:=valT_small hr.v
 have q6:=cols_comma hr
 have q7:=listT_size (c.cols.map colT)
 have q8:=vals_comma hr
 have q9:=listT_size (c.vals.map valT)
 have q10:=bracT_size c.column
 have q11:=fieldsT_size hr
 have T:=fun (l:List ByteArray) (h:∀ x ∈ l,x.size≤31000)=>textB_len (B:=31000) l h
 have W:=fun (l:List ByteArray) (h:∀ x ∈ l,x.size≤31000)=>wordsB_len (B:=31000) l h
 unfold cmdS
 by_cases hk:c.k=1
 ·rw [if_pos hk]
  refine Nat.le_trans (T _ fun x hx=>?_) (by decide:4 * 31001≤400000)
  simp only [List.mem_cons,List.not_mem_nil,or_false] at hx
  rcases hx with rfl | rfl | rfl | rfl <;> first | decide | omega
 rw [if_neg hk];clear hk
 by_cases hk:c.k=2
 ·rw [if_pos hk]
  refine Nat.le_trans (T _ fun x hx=>?_) (by decide:3 * 31001≤400000)
  simp only [List.mem_cons,List.not_mem_nil,or_false] at hx
  rcases hx with rfl | rfl | rfl <;> first | decide | omega
 rw [if_neg hk];clear hk
 by_cases hk:c.k=3
 ·rw [if_pos hk]
  rw [List.length_append]
  refine Nat.le_trans (Nat.add_le_add (T _ fun x hx=>?_) (W _ fun x hx=>?_)) (by decide:3 * 31001 + 5 * 31001≤400000)
  ·simp only [List.mem_cons,List.not_mem_nil,or_false] at hx
   rcases hx with rfl | rfl | rfl <;> first | decide | omega
  ·simp only [List.mem_cons,List.not_mem_nil,or_false] at hx
   rcases hx with rfl | rfl | rfl | rfl | rfl <;> first | decide | omega
 rw [if_neg hk];clear hk
 by_cases hk:c.k=4
 ·rw [if_pos hk]
  rw [List.length_append]
  refine Nat.le_trans (Nat.add_le_add (T _ fun x hx=>?_) (W _ fun x hx=>?_)) (by decide:3 * 31001 + 2 * 31001≤400000)
  ·simp only [List.mem_cons,List.not_mem_nil,or_false] at hx
   rcases hx with rfl | rfl | rfl <;> first | decide | omega
  ·simp only [List.mem_cons,List.not_mem_nil,or_false] at hx
   rcases hx with rfl | rfl <;> first | decide | omega
 rw [if_neg hk];clear hk
 by_cases hk:c.k=5
 ·rw [if_pos hk]
  rw [List.length_append]
  refine Nat.le_trans (Nat.add_le_add (T _ fun x hx=>?_) (W _ fun x hx=>?_)) (by decide:3 * 31001 + 4 * 31001≤400000)
  ·simp only [List.mem_cons,List.not_mem_nil,or_false] at hx
   rcases hx with rfl | rfl | rfl <;> first | decide | omega
  ·simp only [List.mem_cons,List.not_mem_nil,or_false] at hx
   rcases hx with rfl | rfl | rfl | rfl <;> first | decide | omega
 rw [if_neg hk];clear hk
 by_cases hk:c.k=6
 ·rw [if_pos hk]
  rw [List.length_append]
  refine Nat.le_trans (Nat.add_le_add (T _ fun x hx=>?_) (W _ fun x hx=>?_)) (by decide:3 * 31001 + 3 * 31001≤400000)
  ·simp only [List.mem_cons,List.not_mem_nil,or_false] at hx
   rcases hx with rfl | rfl | rfl <;> first | decide | omega
  ·simp only [List.mem_cons,List.not_mem_nil,or_false] at hx
   rcases hx with rfl | rfl | rfl <;> first | decide | omega
 rw [if_neg hk];clear hk
 by_cases hk:c.k=7
 ·rw [if_pos hk]
  rw [List.length_append]
  refine Nat.le_trans (Nat.add_le_add (T _ fun x hx=>?_) (W _ fun x hx=>?_)) (by decide:3 * 31001 + 3 * 31001≤400000)
  ·simp only [List.mem_cons,List.not_mem_nil,or_false] at hx
   rcases hx with rfl | rfl | rfl <;> first | decide | omega
  ·simp only [List.mem_cons,List.not_mem_nil,or_false] at hx
   rcases hx with rfl | rfl | rfl <;> first | decide | omega
 rw [if_neg hk];clear hk
 by_cases hk:c.k=8
 ·rw [if_pos hk]
  refine Nat.le_trans (T _ fun x hx=>?_) (by decide:6 * 31001≤400000)
  simp only [List.mem_cons,List.not_mem_nil,or_false] at hx
  rcases hx with rfl | rfl | rfl | rfl | rfl | rfl <;> first | decide | omega
 rw [if_neg hk];clear hk
 by_cases hk:c.k=9
 ·rw [if_pos hk]
  refine Nat.le_trans (T _ fun x hx=>?_) (by decide:3 * 31001≤400000)
  simp only [List.mem_cons,List.not_mem_nil,or_false] at hx
  rcases hx with rfl | rfl | rfl <;> first | decide | omega
 rw [if_neg hk];clear hk
 by_cases hk:c.k=10
 ·rw [if_pos hk]
  refine Nat.le_trans (T _ fun x hx=>?_) (by decide:5 * 31001≤400000)
  simp only [List.mem_cons,List.not_mem_nil,or_false] at hx
  rcases hx with rfl | rfl | rfl | rfl | rfl <;> first | decide | omega
 rw [if_neg hk];clear hk
 by_cases hk:c.k=11
 ·rw [if_pos hk]
  have hw:=where_len (by rw [hk];rfl) ht
  rw [List.length_append]
  refine Nat.le_trans (Nat.add_le_add (T _ fun x hx=>?_) hw) (by decide:3 * 31001 + 70000≤400000)
  simp only [List.mem_cons,List.not_mem_nil,or_false] at hx
  rcases hx with rfl | rfl | rfl <;> first | decide | omega
 rw [if_neg hk];clear hk
 by_cases hk:c.k=12
 ·rw [if_pos hk]
  have hw:=where_len (by rw [hk];rfl) ht
  obtain ⟨g,_,_,hz,rfl⟩:=ht.ex hk
  rw [List.length_append]
  refine Nat.le_trans (Nat.add_le_add (T _ fun x hx=>?_) hw) (by decide:6 * 31001 + 70000≤400000)
  simp only [List.mem_cons,List.not_mem_nil,or_false] at hx
  rcases hx with rfl | rfl | rfl | rfl | rfl | rfl <;> first | decide | omega
 rw [if_neg hk];clear hk
 by_cases hk:c.k=13
 ·rw [if_pos hk]
  have hw:=where_len (by rw [hk];rfl) ht
  have ho:=order_len hr
  have hl:=limit_len hr
  rw [List.length_append,List.length_append,List.length_append]
  refine Nat.le_trans (Nat.add_le_add (Nat.add_le_add (Nat.add_le_add (T _ fun x hx=>?_) hw) ho) hl) (by decide:4 * 31001 + 70000 + 10000 + 10000≤400000)
  simp only [List.mem_cons,List.not_mem_nil,or_false] at hx
  rcases hx with rfl | rfl | rfl | rfl <;> first | decide | omega
 rw [if_neg hk];clear hk
 by_cases hk:c.k=14
 ·rw [if_pos hk]
  refine Nat.le_trans (T _ fun x hx=>?_) (by decide:1 * 31001≤400000)
  simp only [List.mem_cons,List.not_mem_nil,or_false] at hx
  subst hx
  decide
 rw [if_neg hk];clear hk
 by_cases hk:c.k=15
 ·rw [if_pos hk]
  refine Nat.le_trans (T _ fun x hx=>?_) (by decide:1 * 31001≤400000)
  simp only [List.mem_cons,List.not_mem_nil,or_false] at hx
  subst hx
  decide
 ·rw [if_neg hk]
  refine Nat.le_trans (T _ fun x hx=>?_) (by decide:1 * 31001≤400000)
  simp only [List.mem_cons,List.not_mem_nil,or_false] at hx
  subst hx
  decide
theorem shown_sp (c:Cm) (hg:goodCm c) (h:checkP c=0):∃ t:ByteArray,t.size≤maxLen∧(t.size≤2000→parseP t=(c,0,0))∧Sp Tryz.prog 8 [.agg (rCm c)] (.tup [litS t,litI .i64 0]) []:=by
 obtain ⟨te,tw,ht,hT⟩:=text_sp c (rt_of h)
 refine ⟨_,?_,fun hl=>parse_back h ht (by rwa [bs_size] at hl),show_ok c hg h hT⟩
 have:=cmdS_len (rt_of h) ht
 rw [bs_size]
 unfold maxLen
 omega
end Go.Proofs.YtjdgejfhnfnmgaaGreatDoor.Ax
namespace Go.Proofs.YtjdgejfhnfnmgaaGreatDoor.Ax
open Go.RowKit
set_option linter.unusedSimpArgs false
attribute [local go_sem] ty3 ty4 ty9 ty5 ty26 ty24 ty29 ty27 ty54 ty22 ty25 ty31 ty32
set_option linter.unusedVariables false
set_option maxRecDepth 100000
theorem parsed_sp {s:ByteArray} (hs:s.size≤maxLen) {d:Cm} {a e:Int} (h:parseP s=(d,a,e)):Sp Tryz.prog 14 [.one (.lit (.string s))] (.tup [.agg ((rCm d).map (C.t true)),litI .i64 a,litI .i64 e]) []:=by
 have hP:=parse_sp s hs
 rw [h] at hP
 unfold vParse at hP
 rw [cmC_map] at hP
 exact hP
theorem selfsame_sp (c:Cm) (hg:goodCm c):Sp Tryz.prog 12 [.agg (rCm c),.agg (rCm c)] (.one (.t true (.lit (.bool true)))) []:=by
 have h:=same_sp c c hg.cols hg.vals hg.fields hg.ex hg.wh
 rwa [sameC_refl] at h
inductive Ways (s:ByteArray):Prop
 | bad (a e:Int) (he:e ≠ 0) (h:parseP s=(zCm,a,e))
 | long (d:Cm) (a:Int) (t:ByteArray) (x:Cm) (b f:Int) (hg:goodCm d) (ht:t.size≤maxLen) (hl:2000 < t.size) (h:parseP s=(d,a,0)) (hS:Sp Tryz.prog 8 [.agg (rCm d)] (.tup [litS t,litI .i64 0]) []) (hx:parseP t=(x,b,f))
 | short (d:Cm) (a:Int) (t:ByteArray) (hg:goodCm d) (ht:t.size≤maxLen) (hl:t.size≤2000) (h:parseP s=(d,a,0)) (hS:Sp Tryz.prog 8 [.agg (rCm d)] (.tup [litS t,litI .i64 0]) []) (hx:parseP t=(d,0,0))
theorem ways (s:ByteArray):Ways s:=by
 by_cases h:(parseP s).2.2=0
 ·obtain ⟨h1,h2⟩:=parseP_ok h
  obtain ⟨t,ht,hb,hS⟩:=shown_sp _ h2 h1
  by_cases hl:t.size≤2000
  ·exact .short (parseP s).1 (parseP s).2.1 t h2 ht hl (by rw [← h]) hS (hb hl)
  ·exact .long (parseP s).1 (parseP s).2.1 t _ _ _ h2 ht (by omega) (by rw [← h]) hS rfl
 ·exact .bad (parseP s).2.1 (parseP s).2.2 h (by rw [← parseP_zero h])
set_option maxHeartbeats 16000000 in
theorem showback_sp (c:Cm) (hg:goodCm c) (s:ByteArray) (hs:s.size≤maxLen):Sp Tryz.prog 7 [.agg (rCm c),.one (.lit (.string s))] (.one (.t true (.lit (.bool true)))) []:=by
 have hB:=showbegun_sp
 have hB2:=cbegun_sp
 have n0:((0:Nat):Int)=0:=rfl
 have hC:=selfsame_sp c hg
 by_cases h:checkP c=0
 ·obtain ⟨t,ht,hb,hS⟩:=shown_sp c hg h
  by_cases hl:t.size≤2000
  ·have hP:=parsed_sp ht (hb hl)
   have t1:decide ((t.size:Int)≤2000)=true:=by simp;omega
   clear hb
   rcases ways s with ⟨a,e,he,hw⟩ | ⟨d,a,u,x,b,f,hgd,hu,hlu,hw,hSd,hx⟩ | ⟨d,a,u,hgd,hu,hlu,hw,hSd,hx⟩
   ·have hQ:=parsed_sp hs hw
    have e1:(e==0)=false:=by simp;omega
    have e2:(e != 0)=true:=by simp;omega
    clear hw
    unfold zCm zE at hQ
    rw [rCm_eta] at hS hC hP hQ ⊢
    dsimp only at hQ
    (refine en_ Tryz.func7 Tryz.ntmps7 Tryz.results7 fun X hX=>?_)
    refine gs_ ?_
    refine au_ (an3 e1 e2 t1) ?_
    exact oq_ an0
   ·have hQ:=parsed_sp hs hw
    have hR:=parsed_sp hu hx
    have t2:decide ((2000:Int) < (u.size:Int))=true:=by simp;omega
    clear hw hx hgd
    rw [rCm_eta] at hS hC hP hQ hSd hR ⊢
    (refine en_ Tryz.func7 Tryz.ntmps7 Tryz.results7 fun X hX=>?_)
    refine gs_ ?_
    refine au_ (an2 t2 t1) ?_
    exact oq_ an0
   ·have hQ:=parsed_sp hs hw
    have hR:=parsed_sp hu hx
    have hD:=selfsame_sp d hgd
    have t2:decide ((2000:Int) < (u.size:Int))=false:=by simp;omega
    clear hw hx hgd
    rw [rCm_eta] at hS hC hP hQ hSd hR hD ⊢
    (refine en_ Tryz.func7 Tryz.ntmps7 Tryz.results7 fun X hX=>?_)
    refine gs_ ?_
    refine au_ (an2 t2 t1) ?_
    exact oq_ an0
  ·have t1:decide ((t.size:Int)≤2000)=false:=by simp;omega
   clear hb hC
   rcases ways s with ⟨a,e,he,hw⟩ | ⟨d,a,u,x,b,f,hgd,hu,hlu,hw,hSd,hx⟩ | ⟨d,a,u,hgd,hu,hlu,hw,hSd,hx⟩
   ·have hQ:=parsed_sp hs hw
    have e1:(e==0)=false:=by simp;omega
    have e2:(e != 0)=true:=by simp;omega
    clear hw
    unfold zCm zE at hQ
    rw [rCm_eta] at hS hQ ⊢
    dsimp only at hQ
    (refine en_ Tryz.func7 Tryz.ntmps7 Tryz.results7 fun X hX=>?_)
    refine gs_ ?_
    refine au_ (an3 e1 e2 t1) ?_
    exact oq_ an0
   ·have hQ:=parsed_sp hs hw
    have hR:=parsed_sp hu hx
    have t2:decide ((2000:Int) < (u.size:Int))=true:=by simp;omega
    clear hw hx hgd
    rw [rCm_eta] at hS hQ hSd hR ⊢
    (refine en_ Tryz.func7 Tryz.ntmps7 Tryz.results7 fun X hX=>?_)
    refine gs_ ?_
    refine au_ (an2 t2 t1) ?_
    exact oq_ an0
   ·have hQ:=parsed_sp hs hw
    have hR:=parsed_sp hu hx
    have hD:=selfsame_sp d hgd
    have t2:decide ((2000:Int) < (u.size:Int))=false:=by simp;omega
    clear hw hx hgd
    rw [rCm_eta] at hS hQ hSd hR hD ⊢
    (refine en_ Tryz.func7 Tryz.ntmps7 Tryz.results7 fun X hX=>?_)
    refine gs_ ?_
    refine au_ (an2 t2 t1) ?_
    exact oq_ an0
 ·have hS:=show_bad c hg h
  have t1:(checkP c==0)=false:=by simp;exact h
  clear hC h
  generalize checkP c=k at *
  rcases ways s with ⟨a,e,he,hw⟩ | ⟨d,a,u,x,b,f,hgd,hu,hlu,hw,hSd,hx⟩ | ⟨d,a,u,hgd,hu,hlu,hw,hSd,hx⟩
  ·have hQ:=parsed_sp hs hw
   have e1:(e==0)=false:=by simp;omega
   have e2:(e != 0)=true:=by simp;omega
   clear hw
   unfold zCm zE at hQ
   rw [rCm_eta] at hS hQ ⊢
   dsimp only at hQ
   (refine en_ Tryz.func7 Tryz.ntmps7 Tryz.results7 fun X hX=>?_)
   refine gs_ ?_
   refine au_ (an3 e1 e2 t1) ?_
   exact oq_ an0
  ·have hQ:=parsed_sp hs hw
   have hR:=parsed_sp hu hx
   have t2:decide ((2000:Int) < (u.size:Int))=true:=by simp;omega
   clear hw hx hgd
   rw [rCm_eta] at hS hQ hSd hR ⊢
   (refine en_ Tryz.func7 Tryz.ntmps7 Tryz.results7 fun X hX=>?_)
   refine gs_ ?_
   refine au_ (an2 t2 t1) ?_
   exact oq_ an0
  ·have hQ:=parsed_sp hs hw
   have hR:=parsed_sp hu hx
   have hD:=selfsame_sp d hgd
   have t2:decide ((2000:Int) < (u.size:Int))=false:=by simp;omega
   clear hw hx hgd
   rw [rCm_eta] at hS hQ hSd hR hD ⊢
   (refine en_ Tryz.func7 Tryz.ntmps7 Tryz.results7 fun X hX=>?_)
   refine gs_ ?_
   refine au_ (an2 t2 t1) ?_
   exact oq_ an0
end Go.Proofs.YtjdgejfhnfnmgaaGreatDoor.Ax
