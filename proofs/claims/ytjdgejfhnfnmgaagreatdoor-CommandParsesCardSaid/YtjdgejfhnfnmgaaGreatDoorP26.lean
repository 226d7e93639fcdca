/-  -/
import Derived.Test.YtjdgejfhnfnmgaaGreatDoorP20
import Derived.Test.YtjdgejfhnfnmgaaGreatDoorP25
import Derived.Test.YtjdgejfhnfnmgaaGreatDoorP22
import Derived.Test.YtjdgejfhnfnmgaaGreatDoorP11
import Derived.Test.YtjdgejfhnfnmgaaGreatDoorPxShelf
import Derived.Test.YtjdgejfhnfnmgaaGreatDoorP17
import Derived.Test.YtjdgejfhnfnmgaaGreatDoorP23
namespace Go.Proofs.YtjdgejfhnfnmgaaGreatDoor.Ax
open Go.RowKit
set_option linter.unusedSimpArgs false
attribute [local go_sem] ty3 ty4 ty9 ty5 ty26 ty77 ty43 ty67 ty65
set_option linter.unusedVariables false
set_option maxRecDepth 100000
theorem takeK_t {l:List Vl} {s:ByteArray} {k:Nat} (h:takeB l s k=true):takeK l s k=k + 1:=by unfold takeK;rw [h];rfl
theorem takeK_f {l:List Vl} {s:ByteArray} {k:Nat} (h:takeB l s k=false):takeK l s k=k:=by unfold takeK;rw [h];rfl
def needI (l:List Vl) (en:Int) (s:ByteArray) (vs:List Value) (j:Int) (kn:Nat):St:=⟨[(8,litI .i64 j),(7,litI .i64 1),(6,.one (.t false (.sl (rS [s])))),(0,.one (.optr 1000 0))],[(1000,.var 67 (.t false (.sl (rVs l)) :: .t false (.lit (.int .i64 (kn:Int))) :: .t false (.lit (.int .i64 en)) :: lits vs))]⟩
set_option maxHeartbeats 4000000 in
theorem pneed_l (l:List Vl) (hl:l.length≤4000) (en:Int) (k:Nat) (s:ByteArray) (ht:takeB l s k=true):SpL Tryz.prog 113 [.one (.optr 1000 0),.one (.t false (.sl (rS [s])))] 67 (paH l en k) (.tup []) (paH l en (k + 1)) 26:=by
 intro vs hlen hone
 have hT:=ptake_l l hl en k s
 rw [ht,takeK_t ht] at hT
 unfold paH at hT ⊢
 (refine ei_ Tryz.func113 Tryz.ntmps113 Tryz.results113 fun X hX=>?_)
 refine au_ an0 ?_
 refine cw_loop (fun m st=>m=1∧st=needI l en s vs 0 k ∨ m=0∧st=needI l en s vs 1 (k + 1)) 1 ⟨_,.inl ⟨rfl,rfl⟩,by unfold needI;exact le_⟩ ?_
 rintro m st (⟨rfl,rfl⟩ | ⟨rfl,rfl⟩)
 ·unfold needI
  have hx:[s][0]?=some s:=rfl
  refine au_ hx ?_
  (refine rn_ 0 an0 fun K hK=>?_;refine rx_ an0 ?_;refine lk_ 1000 an0 (hT) ?_;refine rx_ an0 ?_;refine rwr_nil (hK _ ?_);clear hK K)
  have z4:IntKind.i64.wrap (0 + 1)=1:=by kernel_rfl
  refine au_ z4 ?_
  exact ⟨0,by omega,needI l en s vs 1 (k + 1),.inr ⟨rfl,rfl⟩,by unfold needI;exact le_⟩
 ·unfold needI
  refine au_ an0 ?_
  exact oj_ an0 (.inr rfl)
set_option maxHeartbeats 4000000 in
theorem pneed_p (l:List Vl) (hl:l.length≤4000) (en:Int) (k:Nat) (s:ByteArray) (ht:takeB l s k=false):SpPL Tryz.prog 113 [.one (.optr 1000 0),.one (.t false (.sl (rS [s])))] 67 (paH l en k) (chP l en k) 26:=by
 intro vs hlen hone
 have hF:=pfail_l l en k
 have hT:=ptake_l l hl en k s
 rw [ht,takeK_f ht] at hT
 unfold paH at hT hF ⊢
 (refine ep_ Tryz.func113 Tryz.ntmps113 fun X hX hpn=>?_)
 refine au_ an0 ?_
 refine cw_loop (fun m st=>st=needI l en s vs 0 k) 1 ⟨_,rfl,by unfold needI;exact le_⟩ ?_
 rintro m st rfl
 unfold needI
 have hx:[s][0]?=some s:=rfl
 refine au_ hx ?_
 (refine rn_ 0 an0 fun K hK=>?_;refine rx_ an0 ?_;refine lk_ 1000 an0 (hT) ?_;refine rx_ an0 ?_;refine rwr_nil (hK _ ?_);clear hK K)
 refine au_ an0 ?_
 (refine rn_ 0 an0 fun K hK=>?_;refine rx_ an0 ?_;exact pn_ 1000 an0 (hF) hpn)
end Go.Proofs.YtjdgejfhnfnmgaaGreatDoor.Ax
namespace Go.Proofs.YtjdgejfhnfnmgaaGreatDoor.Ax
open Go.RowKit Go.Sort
set_option linter.unusedSimpArgs false
attribute [local go_sem] extV appD cutOwn appOwn clearOwn bdI mapD putD' keyOk getOr getM putM wholeV litCs asV asC ptrC fnC nilC nilPtr strRows_len runs runsN guardOf exec1 pureV modD rowD ev get St.app St.put St.turn loadC moveC fieldOf indexC lenC lenOk cutC bndOf evAll fieldV convV unV binV binI bitsV moreV intsT eqL eq1 valOf min1 lit1 litInt litI litB litS constV constC cellsV partsOf placesOf buildV fillL toT elemsOf rowsOf baseOf dstOk V.kill V.ment V.ments C.kill C.ment C.ments B.kill setD litRows litRows_append T.isLit callAll calleeV argsV argV viewC viewCs modeOk freeOps V.free C.free V.allF V.allFs C.allF C.allFs B.allF callD leL growB C.flat V.flat B.flat flatL flatB St.flat List.set_cons_zero List.set_cons_succ C.only C.onlys V.only V.onlys B.only renI C.ren C.rens V.ren V.rens B.ren renB renOk nodK Option.getD_some Option.getD_none Option.isSome_some implies_true false_implies C.fit C.fits V.fit V.fit1 V.fits Bool.and_self ite_self exitV resV resL resC outV outV.outs eqB nn cast0 Int.toNat_natCast List.getElem?_map Value.cells Value.oneCell' Nat.lt_irrefl decide_true decide_false and_true true_and and_self and_false false_and not_true_eq_false not_false_eq_true not_true not_false List.size_toArray all_len Nat.zero_add Nat.add_zero List.length_cons List.length_append List.length_replicate List.length_set List.length_nil List.length_map List.map_cons List.map_nil List.take_succ_cons List.take_zero List.take_nil List.drop_succ_cons List.drop_zero List.drop_nil List.cons_append List.nil_append List.append_nil List.all_cons List.all_nil Bool.and_true Bool.true_and Bool.and_false Bool.false_and Bool.not_true Bool.not_false Bool.or_false Bool.or_true Bool.false_or Bool.true_or List.filter_cons List.filter_nil List.contains_cons List.contains_nil beq_self_eq_true List.getElem?_cons_zero List.getElem?_cons_succ List.getElem?_nil Option.map_some Option.map_none Option.toList_some Option.toList_none List.isEmpty_cons List.isEmpty_nil Bool.false_eq_true Bool.true_eq_false List.getElem?_toArray List.not_mem_nil List.mem_cons or_false forall_eq List.mem_singleton forall_const Option.toArray addF if_true if_false dstsOf Oper.looksAt Op.operands Call.operands pick edge B.ment Region.binds List.any_cons List.any_nil List.filterMap_cons List.filterMap_nil ne_eq Bool.or_self List.isEmpty_iff Array.toList_append List.append_toArray Array.append_empty Option.bind_some Option.bind_none List.push_toArray argSv ioD modeIO staysOk callIO calleeIO argsIO valIO cellsIO cellIO butB zLe cLe csLe vLe vsLe bLe insLe renIOk nbOk anyText anyGc aliveF mK kdN klAt klAt.atL dstNe edgesOf foSl inL C.ids C.idss V.ids V.idss NDst klOf dropS true_or or_true or_self ty3 ty4 ty9 ty5 ty24 ty116 ty87 ty32
set_option linter.unusedVariables false
set_option maxRecDepth 100000
theorem sp_by {P:Program} {f:FuncId} (hen:Enters P f) {args:List A} (vs:List Value) (ha:litAs args=some vs) {res:V} (h:∀ w,GW w→Calls P f vs.toArray w fun e w'=>∃ x,e=.returned x∧Below w.heap.size w w'∧∀ (ok:Bool→Nat→Prop) (ρ:Nat→R),RdV w' ok ρ res x):Sp P f args res [] where
 enters:=hen
 calls w S hS us hG hus:=by
  rw [litAs_rd ha hus]
  refine (h w hG).mono fun e w'=>?_
  rintro ⟨x,rfl,hb,hx⟩
  exact ⟨x,deadR,rfl,hb,(by intro _ _ _ h;cases h),(by intro _ _ _ _ _ h;cases h),fun _ _=>rfl,hx _ _,(by intro _ _ h;cases h)⟩
theorem below_bytes (w:World) (e:TypeId) (t:ByteArray):Below w.heap.size w (Lib.bytesWorld w e t):=by
 unfold Lib.bytesWorld
 generalize Lib.bytesCells w e t=cs
 have h1:(w.drew.alloc (.cells cs e)).heap=w.heap.push (.cells cs e):=rfl
 unfold World.freeze
 refine ⟨rfl,rfl,rfl,?_,fun b hb=>?_⟩
 ·rw [if_neg (by decide)]
  show _≤Array.size _
  rw [Array.size_modify,h1,Array.size_push]
  omega
 ·rw [if_neg (by decide)]
  show (Array.modify _ _ _)[b]?=_
  rw [Array.getElem?_modify,h1,Array.getElem?_push,if_neg (show ¬ (w.heap.size=b) by omega),if_neg (show ¬ (b=w.heap.size) by omega)]
end Go.Proofs.YtjdgejfhnfnmgaaGreatDoor.Ax
namespace Go.Proofs.YtjdgejfhnfnmgaaGreatDoor.Ax
open Go.RowKit Go.Sort
set_option linter.unusedSimpArgs false
attribute [local go_sem] ty3 ty4 ty9 ty5 ty26 ty77 ty43 ty67 ty65 ty116 ty87
set_option linter.unusedVariables false
set_option maxRecDepth 100000
theorem atoid_sp (s:ByteArray) (h0:s.data.toList ≠ []) (hd:s.data.toList.all digitB=true) (hz:s.size≤9):Sp Tryz.prog 166 [.one (.lit (.string s))] (.tup [.one (.t true (.lit (.int .i64 (numL s.data.toList)))),.one .junk]) [] :=
 sp_by (enters_of Tryz.func166 (by kernel_rfl) rfl) [.string s] rfl fun w hG=>by
  refine (Tryz.strconv_Atoi s _ (by omega) (atoi_num h0 hd) w).mono fun e w'=>?_
  rintro ⟨rfl,t,rfl⟩
  refine ⟨_,rfl,below_bytes w _ t,fun ok ρ=>?_⟩
  unfold RdV
  refine ⟨#[_,_],rfl,?_⟩
  unfold RdVs RdVs RdVs RdV RdC RdT
  exact ⟨⟨rfl,rfl⟩,rfl,trivial⟩
set_option maxHeartbeats 4000000 in
theorem pnumber_l (l:List Vl) (hl:GoodL l) (en:Int) (k:Nat) (h:kindP l 2 k=true):SpL Tryz.prog 156 [.one (.optr 1000 0)] 67 (paH l en k) (.one (.t true (.lit (.int .i64 (numL (txP l k).data.toList))))) (paH l en (k + 1)) 26:=by
 intro vs hlen hone
 have hll:=hl.len
 have hKi:=pkind_l l en k 2
 rw [h] at hKi
 unfold kindP at h
 unfold txP
 unfold paH at hKi ⊢
 by_cases hlt:k < l.length
 ·obtain ⟨t,ht⟩:∃ t,l[k]?=some t:=⟨_,List.getElem?_eq_getElem hlt⟩
  rw [ht] at h ⊢
  dsimp only at h ⊢
  have htk:=hl.tok t (List.mem_of_getElem? ht)
  obtain ⟨x,r,hs,_⟩:=tok_facts htk
  obtain ⟨hz,hd⟩:=(tok_num htk).2.1 (by simpa using h)
  have hA:=atoid_sp t.s (by rw [hs];simp) hd hz
  generalize numL t.s.data.toList=n at *
  have j2:(k:Int) < (l.length:Int):=by omega
  have j3:(0:Int)≤(k:Int):=by omega
  have e2:IntKind.i64.wrap ((k:Int) + 1)=((k + 1:Nat):Int):=by rw [IntWalk.i64_in _ (by omega)];rfl
  (refine ei_ Tryz.func156 Tryz.ntmps156 Tryz.results156 fun X hX=>?_)
  refine gs_ ?_
  refine au_ an0 ?_
  (refine rn_ 0 an0 fun K hK=>?_;refine rx_ an0 ?_;refine lk_ 1000 an0 (hKi) ?_;refine rx_ an0 ?_;refine rwr_nil (hK _ ?_);clear hK K)
  refine au_ (an5 ht hlt j2 j3 e2) ?_
  exact oj_ an0 (.inl rfl)
 ·rw [List.getElem?_eq_none (by omega)] at h
  cases h
set_option maxHeartbeats 4000000 in
theorem pnumber_p (l:List Vl) (en:Int) (k:Nat) (h:kindP l 2 k=false):SpPL Tryz.prog 156 [.one (.optr 1000 0)] 67 (paH l en k) (chP l en k) 26:=by
 intro vs hlen hone
 have hKi:=pkind_l l en k 2
 have hF:=pfail_l l en k
 rw [h] at hKi
 unfold paH at hKi hF ⊢
 (refine ep_ Tryz.func156 Tryz.ntmps156 fun X hX hpn=>?_)
 refine gs_ ?_
 refine au_ an0 ?_
 (refine rn_ 0 an0 fun K hK=>?_;refine rx_ an0 ?_;refine lk_ 1000 an0 (hKi) ?_;refine rx_ an0 ?_;refine rwr_nil (hK _ ?_);clear hK K)
 refine au_ an0 ?_
 (refine rn_ 0 an0 fun K hK=>?_;refine rx_ an0 ?_;exact pn_ 1000 an0 (hF) hpn)
end Go.Proofs.YtjdgejfhnfnmgaaGreatDoor.Ax
namespace Go.Proofs.YtjdgejfhnfnmgaaGreatDoor.Ax
open Go.RowKit Go.Sort
set_option linter.unusedSimpArgs false
attribute [local go_sem] ty3 ty4 ty9 ty5 ty26 ty77 ty43 ty67 ty65
set_option linter.unusedVariables false
set_option maxRecDepth 100000
def oneK (l:List Vl) (k:Nat) (L:List ByteArray):Nat:=cond (decide (oneP l k L 0 < 0)) k (k + 1)
theorem oneP_ge:∀ {l:List Vl} {k:Nat} {L:List ByteArray} {i:Nat},¬ oneP l k L i=-1→0≤oneP l k L i
 | l,k,[],i,h=>absurd rfl h
 | l,k,s :: r,i,h=>by
  unfold oneP at h ⊢
  split
  ·omega
  ·rename_i hn
   rw [if_neg hn] at h
   exact oneP_ge h
def idxI (l:List Vl) (en:Int) (L:List ByteArray) (vs:List Value) (k j:Nat):St:=⟨[(8,litI .i64 j),(7,litI .i64 L.length),(0,.one (.t false (.sl (rS L)))),(1,.one (.fn (148 + 1024) [.optr 1000 0]))],[(1000,.var 67 (.t false (.sl (rVs l)) :: .t false (.lit (.int .i64 (k:Int))) :: .t false (.lit (.int .i64 en)) :: lits vs))]⟩
set_option maxHeartbeats 4000000 in
theorem pindex_io (l:List Vl) (hl:l.length≤4000) (en:Int) (k:Nat) (L:List ByteArray) (hL:L.length≤1000) (vs:List Value) (hlen:vs.length=26) (hone:∀ v ∈ vs,v.oneCell'=true) :
  SpIO Tryz.prog 136 [.one (.t false (.sl (rS L))),.one (.fn (148 + 1024) [.optr 1000 0])] [(1000,.var 67 (paH l en k++lits vs))] (.one (.t true (.lit (.int .i64 (oneP l k L 0))))) [(1000,.var 67 (paH l en (oneK l k L)++lits vs))] [1000]:=by
 unfold oneK
 (refine ei_ Tryz.func136 Tryz.ntmps136 Tryz.results136 fun X hX=>?_)
 refine au_ an0 ?_
 refine cw_loop (fun m st=>∃ j,j≤L.length∧m=L.length - j∧oneP l k (L.drop j) j=oneP l k L 0∧st=idxI l en L vs k j) L.length ⟨_,⟨0,Nat.zero_le _,rfl,rfl,rfl⟩,by unfold idxI paH;exact le_⟩ ?_
 rintro m st ⟨j,hj,rfl,hf,rfl⟩
 unfold idxI
 by_cases hlt:j < L.length
 ·have e1:decide ((j:Int) < (L.length:Int))=true:=by simp;omega
  obtain ⟨x,hx⟩:∃ x,L[j]?=some x:=⟨_,List.getElem?_eq_getElem hlt⟩
  have e4:IntKind.i64.wrap ((j:Int) + 1)=((j + 1:Nat):Int):=by rw [IntWalk.i64_in _ (by omega)];rfl
  have j2:(j:Int) < (L.length:Int):=by omega
  have j3:(0:Int)≤(j:Int):=by omega
  rw [drop_eq _ _ _ hx,oneP] at hf
  have hT:=ptake_l l hl en k x
  cases hb:takeB l x k with
  | true =>
   rw [hb,takeK_t hb] at hT
   rw [if_pos hb] at hf
   rw [← hf,decide_eq_false (by omega),cond_false]
   unfold paH at hT ⊢
   refine au_ (an5 e1 hx hlt j2 j3) ?_
   (refine rn_ 0 (an4 hx hlt j2 j3) fun K hK=>?_;refine rx_ (an4 hx hlt j2 j3) ?_;refine lk_ 1000 (an4 hx hlt j2 j3) (hT) ?_;refine rx_ (an4 hx hlt j2 j3) ?_;refine rwr_nil (hK _ ?_);clear hK K)
   refine au_ an0 ?_
   exact oi_ an0 (.inl rfl)
  | false =>
   rw [hb,takeK_f hb] at hT
   rw [if_neg (by rw [hb];decide)] at hf
   unfold paH at hT ⊢
   refine au_ (an5 e1 hx hlt j2 j3) ?_
   (refine rn_ 0 (an4 hx hlt j2 j3) fun K hK=>?_;refine rx_ (an4 hx hlt j2 j3) ?_;refine lk_ 1000 (an4 hx hlt j2 j3) (hT) ?_;refine rx_ (an4 hx hlt j2 j3) ?_;refine rwr_nil (hK _ ?_);clear hK K)
   refine au_ e4 ?_
   exact ⟨L.length - (j + 1),by omega,idxI l en L vs k (j + 1),⟨j + 1,by omega,rfl,hf,rfl⟩,by unfold idxI;exact le_⟩
 ·have e1:decide ((j:Int) < (L.length:Int))=false:=by simp;omega
  rw [List.drop_eq_nil_of_le (by omega),oneP] at hf
  rw [← hf,decide_eq_true (by omega),cond_true]
  unfold paH
  refine au_ e1 ?_
  exact oi_ an0 (.inl rfl)
set_option maxHeartbeats 4000000 in
theorem pindex_l (l:List Vl) (hl:l.length≤4000) (en:Int) (k:Nat) (L:List ByteArray) (hL:L.length≤1000) :
  SpL Tryz.prog 136 [.one (.t false (.sl (rS L))),.one (.fn (148 + 1024) [.optr 1000 0])] 67 (paH l en k) (.one (.t true (.lit (.int .i64 (oneP l k L 0))))) (paH l en (oneK l k L)) 26 :=
 fun vs hlen hone=>pindex_io l hl en k L hL vs hlen hone
set_option maxHeartbeats 4000000 in
theorem pone_l (l:List Vl) (hl:l.length≤4000) (en:Int) (k:Nat) (L:List ByteArray) (hL:L.length≤1000) (h:¬ oneP l k L 0=-1) :
  SpL Tryz.prog 109 [.one (.optr 1000 0),.one (.t false (.sl (rS L)))] 67 (paH l en k) (.one (.t true (.lit (.int .i64 (oneP l k L 0))))) (paH l en (k + 1)) 26:=by
 intro vs hlen hone
 have hI:=pindex_l l hl en k L hL
 have h0:=oneP_ge h
 unfold oneK at hI
 rw [decide_eq_false (by omega),cond_false] at hI
 generalize oneP l k L 0=i at *
 have e1:decide (i < 0)=false:=by simp;omega
 unfold paH at hI ⊢
 (refine ei_ Tryz.func109 Tryz.ntmps109 Tryz.results109 fun X hX=>?_)
 refine gs_ ?_
 refine au_ an0 ?_
 (refine rn_ 0 an0 fun K hK=>?_;refine rx_ an0 ?_;refine lk_ 1000 an0 (hI) ?_;refine rx_ an0 ?_;refine rwr_nil (hK _ ?_);clear hK K)
 refine au_ e1 ?_
 exact oj_ an0 (.inl rfl)
set_option maxHeartbeats 4000000 in
theorem pone_p (l:List Vl) (hl:l.length≤4000) (en:Int) (k:Nat) (L:List ByteArray) (hL:L.length≤1000) (h:oneP l k L 0=-1) :
  SpPL Tryz.prog 109 [.one (.optr 1000 0),.one (.t false (.sl (rS L)))] 67 (paH l en k) (chP l en k) 26:=by
 intro vs hlen hone
 have hI:=pindex_l l hl en k L hL
 have hF:=pfail_l l en k
 unfold oneK at hI
 rw [h,decide_eq_true (by decide),cond_true] at hI
 have e1:decide ((-1:Int) < 0)=true:=by decide
 unfold paH at hI hF ⊢
 (refine ep_ Tryz.func109 Tryz.ntmps109 fun X hX hpn=>?_)
 refine gs_ ?_
 refine au_ an0 ?_
 (refine rn_ 0 an0 fun K hK=>?_;refine rx_ an0 ?_;refine lk_ 1000 an0 (hI) ?_;refine rx_ an0 ?_;refine rwr_nil (hK _ ?_);clear hK K)
 refine au_ e1 ?_
 (refine rn_ 0 an0 fun K hK=>?_;refine rx_ an0 ?_;exact pn_ 1000 an0 (hF) hpn)
end Go.Proofs.YtjdgejfhnfnmgaaGreatDoor.Ax
namespace Go.Proofs.YtjdgejfhnfnmgaaGreatDoor.Ax
open Go.RowKit Go.Sort
set_option linter.unusedSimpArgs false
attribute [local go_sem] ty3 ty4 ty9 ty5 ty26 ty24 ty77 ty43 ty67 ty65
set_option linter.unusedVariables false
set_option maxRecDepth 100000
theorem kindP_some {l:List Vl} {n:Int} {k:Nat} (h:kindP l n k=true):∃ t,k < l.length∧l[k]?=some t∧t.k=n:=by
 unfold kindP at h
 cases ht:l[k]? with
 | none=>rw [ht] at h;cases h
 | some t=>rw [ht] at h;exact ⟨t,(List.getElem?_eq_some_iff.1 ht).1,rfl,by simpa using h⟩
set_option maxHeartbeats 8000000 in
theorem pv_l (l:List Vl) (hl:GoodL l) (en:Int) (k:Nat) (v:Vl) (k2:Nat) (h:vP l k=.yes v k2):SpL Tryz.prog 154 [.one (.optr 1000 0)] 67 (paH l en k) (.tup [vV v,.one (.t true (.lit (.bool true)))]) (paH l en k2) 26:=by
 intro vs hlen hone
 have hll:=hl.len
 have hll4:l.length≤4000:=by omega
 have hT1:=ptake_l l hll4 en k wTrue
 have hT2:=ptake_l l hll4 en k wFalse
 have hT3:=ptake_l l hll4 en k wNull
 have hK3:=pkind_l l en k 3
 have hT4:=ptake_l l hll4 en k ⟨#[45]⟩
 have hK2:=pkind_l l en k 2
 have hF:=pfail_l l en (k + 1)
 have hNy:=fun h=>pnumber_l l hl en k h
 have hNz:=fun h=>pnumber_l l hl en (k + 1) h
 have hNb:=fun h=>pnumber_p l en (k + 1) h
 have hTr:Sp Tryz.prog 164 [.one (.lit (.bool true))] (vV ⟨3,1,⟨#[]⟩⟩) []:=truth_sp true
 have hFa:Sp Tryz.prog 164 [.one (.lit (.bool false))] (vV ⟨3,0,⟨#[]⟩⟩) []:=truth_sp false
 unfold vV at hTr hFa
 unfold vP at h
 unfold vV
 unfold paH at hT1 hT2 hT3 hT4 hK3 hK2 hF hNy hNz hNb ⊢
 unfold wTrue at hT1
 unfold wFalse at hT2
 unfold wNull at hT3
 (refine ei_ Tryz.func154 Tryz.ntmps154 Tryz.results154 fun X hX=>?_)
 refine gs_ ?_
 refine au_ an0 ?_
 cases b1:takeB l wTrue k with
 | true =>
  rw [if_pos b1] at h
  cases h
  unfold wTrue at b1
  rw [b1,takeK_t b1] at hT1
  (refine rn_ 0 an0 fun K hK=>?_;refine rx_ an0 ?_;refine lk_ 1000 an0 (hT1) ?_;refine rx_ an0 ?_;refine rwr_nil (hK _ ?_);clear hK K)
  refine au_ an0 ?_
  exact oj_ an0 (.inl rfl)
 | false =>
  rw [if_neg (by rw [b1];decide)] at h
  unfold wTrue at b1
  rw [b1,takeK_f b1] at hT1
  (refine rn_ 0 an0 fun K hK=>?_;refine rx_ an0 ?_;refine lk_ 1000 an0 (hT1) ?_;refine rx_ an0 ?_;refine rwr_nil (hK _ ?_);clear hK K)
  refine au_ an0 ?_
  cases b2:takeB l wFalse k with
  | true =>
   rw [if_pos b2] at h
   cases h
   unfold wFalse at b2
   rw [b2,takeK_t b2] at hT2
   (refine rn_ 0 an0 fun K hK=>?_;refine rx_ an0 ?_;refine lk_ 1000 an0 (hT2) ?_;refine rx_ an0 ?_;refine rwr_nil (hK _ ?_);clear hK K)
   refine au_ an0 ?_
   exact oj_ an0 (.inl rfl)
  | false =>
   rw [if_neg (by rw [b2];decide)] at h
   unfold wFalse at b2
   rw [b2,takeK_f b2] at hT2
   (refine rn_ 0 an0 fun K hK=>?_;refine rx_ an0 ?_;refine lk_ 1000 an0 (hT2) ?_;refine rx_ an0 ?_;refine rwr_nil (hK _ ?_);clear hK K)
   refine au_ an0 ?_
   cases b3:takeB l wNull k with
   | true =>
    rw [if_pos b3] at h
    cases h
    unfold wNull at b3
    rw [b3,takeK_t b3] at hT3
    (refine rn_ 0 an0 fun K hK=>?_;refine rx_ an0 ?_;refine lk_ 1000 an0 (hT3) ?_;refine rx_ an0 ?_;refine rwr_nil (hK _ ?_);clear hK K)
    refine au_ an0 ?_
    exact oj_ an0 (.inl rfl)
   | false =>
    rw [if_neg (by rw [b3];decide)] at h
    unfold wNull at b3
    rw [b3,takeK_f b3] at hT3
    (refine rn_ 0 an0 fun K hK=>?_;refine rx_ an0 ?_;refine lk_ 1000 an0 (hT3) ?_;refine rx_ an0 ?_;refine rwr_nil (hK _ ?_);clear hK K)
    refine au_ an0 ?_
    cases b4:kindP l 3 k with
    | true =>
     rw [if_pos b4] at h
     cases h
     obtain ⟨t,hlt,ht,htk⟩:=kindP_some b4
     obtain ⟨hz1,hz2⟩:=(tok_num (hl.tok t (List.mem_of_getElem? ht))).2.2.2 htk
     have j2:(k:Int) < (l.length:Int):=by omega
     have j3:(0:Int)≤(k:Int):=by omega
     have e2:IntKind.i64.wrap ((k:Int) + 1)=((k + 1:Nat):Int):=by rw [IntWalk.i64_in _ (by omega)];rfl
     have e3:IntKind.i64.wrap ((t.s.size:Int) - 1)=((t.s.size - 1:Nat):Int):=by rw [IntWalk.i64_in _ (by omega)];omega
     have e4:(0:Int)≤1∧(1:Int)≤((t.s.size - 1:Nat):Int)∧((t.s.size - 1:Nat):Int)≤(t.s.size:Int):=by omega
     rw [b4] at hK3
     have e5:txP l k=t.s:=by unfold txP;rw [ht]
     rw [e5]
     unfold unq
     (refine rn_ 0 an0 fun K hK=>?_;refine rx_ an0 ?_;refine lk_ 1000 an0 (hK3) ?_;refine rx_ an0 ?_;refine rwr_nil (hK _ ?_);clear hK K)
     refine au_ (an2 (an5 ht hlt j2 j3 e2) (an2 e3 e4)) ?_
     exact oj_ an0 (.inl rfl)
    | false =>
     rw [if_neg (by rw [b4];decide)] at h
     rw [b4] at hK3
     (refine rn_ 0 an0 fun K hK=>?_;refine rx_ an0 ?_;refine lk_ 1000 an0 (hK3) ?_;refine rx_ an0 ?_;refine rwr_nil (hK _ ?_);clear hK K)
     refine au_ an0 ?_
     cases b5:takeB l ⟨#[45]⟩ k with
     | true =>
      rw [if_pos b5] at h
      split at h
      ·cases h
      ·rename_i n0
       split at h
       ·rename_i b7
        cases h
        obtain ⟨t2,hlt,ht2,hk2⟩:=kindP_some b7
        obtain ⟨hz,hd⟩:=(tok_num (hl.tok t2 (List.mem_of_getElem? ht2))).2.1 hk2
        have hN:=hNz b7
        have e9:txP l (k + 1)=t2.s:=by unfold txP;rw [ht2]
        rw [e9] at hN ⊢
        have hb:=numL_small hd (by exact hz) _ (Nat.le_refl _)
        rw [List.take_length] at hb
        generalize numL t2.s.data.toList=n at *
        have e8:IntKind.i64.wrap (0 - n)=-n:=by rw [IntWalk.i64_in _ (by omega)];omega
        have q0:(t2.s.toList==(⟨#[48]⟩:ByteArray).toList)=false:=by
         unfold takeB strEq at n0
         rw [ht2] at n0
         exact Bool.eq_false_iff.2 n0
        have e1:decide (((k + 1:Nat):Int) < (l.length:Int))=true:=by simp;omega
        have j2:((k + 1:Nat):Int) < (l.length:Int):=by omega
        have j3:(0:Int)≤((k + 1:Nat):Int):=by omega
        rw [b5,takeK_t b5] at hT4
        (refine rn_ 0 an0 fun K hK=>?_;refine rx_ an0 ?_;refine lk_ 1000 an0 (hT4) ?_;refine rx_ an0 ?_;refine rwr_nil (hK _ ?_);clear hK K)
        refine au_ (an2 (an5 e1 ht2 hlt j2 j3) q0) ?_
        (refine rn_ 0 e8 fun K hK=>?_;refine rx_ e8 ?_;refine lk_ 1000 e8 (hN) ?_;refine rx_ e8 ?_;refine rwr_nil (hK _ ?_);clear hK K)
        refine au_ an0 ?_
        exact oj_ an0 (.inl rfl)
       ·cases h
     | false =>
      rw [if_neg (by rw [b5];decide)] at h
      rw [b5,takeK_f b5] at hT4
      (refine rn_ 0 an0 fun K hK=>?_;refine rx_ an0 ?_;refine lk_ 1000 an0 (hT4) ?_;refine rx_ an0 ?_;refine rwr_nil (hK _ ?_);clear hK K)
      refine au_ an0 ?_
      cases b6:kindP l 2 k with
      | true =>
       rw [if_pos b6] at h
       cases h
       rw [b6] at hK2
       have hN:=hNy b6
       (refine rn_ 0 an0 fun K hK=>?_;refine rx_ an0 ?_;refine lk_ 1000 an0 (hK2) ?_;refine rx_ an0 ?_;refine rwr_nil (hK _ ?_);clear hK K)
       refine au_ an0 ?_
       (refine rn_ 0 an0 fun K hK=>?_;refine rx_ an0 ?_;refine lk_ 1000 an0 (hN) ?_;refine rx_ an0 ?_;refine rwr_nil (hK _ ?_);clear hK K)
       refine au_ an0 ?_
       exact oj_ an0 (.inl rfl)
      | false =>
       rw [if_neg (by rw [b6];decide)] at h
       cases h
set_option maxHeartbeats 8000000 in
theorem pv_n (l:List Vl) (hl:GoodL l) (en:Int) (k:Nat) (h:vP l k=.no):SpL Tryz.prog 154 [.one (.optr 1000 0)] 67 (paH l en k) (.tup [vV ⟨0,0,⟨#[]⟩⟩,.one (.t true (.lit (.bool false)))]) (paH l en k) 26:=by
 intro vs hlen hone
 have hll:=hl.len
 have hll4:l.length≤4000:=by omega
 have hT1:=ptake_l l hll4 en k wTrue
 have hT2:=ptake_l l hll4 en k wFalse
 have hT3:=ptake_l l hll4 en k wNull
 have hK3:=pkind_l l en k 3
 have hT4:=ptake_l l hll4 en k ⟨#[45]⟩
 have hK2:=pkind_l l en k 2
 have hF:=pfail_l l en (k + 1)
 have hNy:=fun h=>pnumber_l l hl en k h
 have hNz:=fun h=>pnumber_l l hl en (k + 1) h
 have hNb:=fun h=>pnumber_p l en (k + 1) h
 unfold vP at h
 unfold vV
 unfold paH at hT1 hT2 hT3 hT4 hK3 hK2 hF hNy hNz hNb ⊢
 unfold wTrue at hT1
 unfold wFalse at hT2
 unfold wNull at hT3
 (refine ei_ Tryz.func154 Tryz.ntmps154 Tryz.results154 fun X hX=>?_)
 refine gs_ ?_
 refine au_ an0 ?_
 cases b1:takeB l wTrue k with
 | true =>
  rw [if_pos b1] at h
  cases h
 | false =>
  rw [if_neg (by rw [b1];decide)] at h
  unfold wTrue at b1
  rw [b1,takeK_f b1] at hT1
  (refine rn_ 0 an0 fun K hK=>?_;refine rx_ an0 ?_;refine lk_ 1000 an0 (hT1) ?_;refine rx_ an0 ?_;refine rwr_nil (hK _ ?_);clear hK K)
  refine au_ an0 ?_
  cases b2:takeB l wFalse k with
  | true =>
   rw [if_pos b2] at h
   cases h
  | false =>
   rw [if_neg (by rw [b2];decide)] at h
   unfold wFalse at b2
   rw [b2,takeK_f b2] at hT2
   (refine rn_ 0 an0 fun K hK=>?_;refine rx_ an0 ?_;refine lk_ 1000 an0 (hT2) ?_;refine rx_ an0 ?_;refine rwr_nil (hK _ ?_);clear hK K)
   refine au_ an0 ?_
   cases b3:takeB l wNull k with
   | true =>
    rw [if_pos b3] at h
    cases h
   | false =>
    rw [if_neg (by rw [b3];decide)] at h
    unfold wNull at b3
    rw [b3,takeK_f b3] at hT3
    (refine rn_ 0 an0 fun K hK=>?_;refine rx_ an0 ?_;refine lk_ 1000 an0 (hT3) ?_;refine rx_ an0 ?_;refine rwr_nil (hK _ ?_);clear hK K)
    refine au_ an0 ?_
    cases b4:kindP l 3 k with
    | true =>
     rw [if_pos b4] at h
     cases h
    | false =>
     rw [if_neg (by rw [b4];decide)] at h
     rw [b4] at hK3
     (refine rn_ 0 an0 fun K hK=>?_;refine rx_ an0 ?_;refine lk_ 1000 an0 (hK3) ?_;refine rx_ an0 ?_;refine rwr_nil (hK _ ?_);clear hK K)
     refine au_ an0 ?_
     cases b5:takeB l ⟨#[45]⟩ k with
     | true =>
      rw [if_pos b5] at h
      split at h
      ·cases h
      ·split at h <;> cases h
     | false =>
      rw [if_neg (by rw [b5];decide)] at h
      rw [b5,takeK_f b5] at hT4
      (refine rn_ 0 an0 fun K hK=>?_;refine rx_ an0 ?_;refine lk_ 1000 an0 (hT4) ?_;refine rx_ an0 ?_;refine rwr_nil (hK _ ?_);clear hK K)
      refine au_ an0 ?_
      cases b6:kindP l 2 k with
      | true =>
       rw [if_pos b6] at h
       cases h
      | false =>
       rw [if_neg (by rw [b6];decide)] at h
       rw [b6] at hK2
       (refine rn_ 0 an0 fun K hK=>?_;refine rx_ an0 ?_;refine lk_ 1000 an0 (hK2) ?_;refine rx_ an0 ?_;refine rwr_nil (hK _ ?_);clear hK K)
       refine au_ an0 ?_
       exact oj_ an0 (.inl rfl)
set_option maxHeartbeats 8000000 in
theorem pv_p (l:List Vl) (hl:GoodL l) (en:Int) (k:Nat) (k2:Nat) (h:vP l k=.bad k2):SpPL Tryz.prog 154 [.one (.optr 1000 0)] 67 (paH l en k) (chP l en k2) 26:=by
 intro vs hlen hone
 have hll:=hl.len
 have hll4:l.length≤4000:=by omega
 have hT1:=ptake_l l hll4 en k wTrue
 have hT2:=ptake_l l hll4 en k wFalse
 have hT3:=ptake_l l hll4 en k wNull
 have hK3:=pkind_l l en k 3
 have hT4:=ptake_l l hll4 en k ⟨#[45]⟩
 have hK2:=pkind_l l en k 2
 have hF:=pfail_l l en (k + 1)
 have hNy:=fun h=>pnumber_l l hl en k h
 have hNz:=fun h=>pnumber_l l hl en (k + 1) h
 have hNb:=fun h=>pnumber_p l en (k + 1) h
 unfold vP at h
 unfold paH at hT1 hT2 hT3 hT4 hK3 hK2 hF hNy hNz hNb ⊢
 unfold wTrue at hT1
 unfold wFalse at hT2
 unfold wNull at hT3
 (refine ep_ Tryz.func154 Tryz.ntmps154 fun X hX hpn=>?_)
 refine gs_ ?_
 refine au_ an0 ?_
 cases b1:takeB l wTrue k with
 | true =>
  rw [if_pos b1] at h
  cases h
 | false =>
  rw [if_neg (by rw [b1];decide)] at h
  unfold wTrue at b1
  rw [b1,takeK_f b1] at hT1
  (refine rn_ 0 an0 fun K hK=>?_;refine rx_ an0 ?_;refine lk_ 1000 an0 (hT1) ?_;refine rx_ an0 ?_;refine rwr_nil (hK _ ?_);clear hK K)
  refine au_ an0 ?_
  cases b2:takeB l wFalse k with
  | true =>
   rw [if_pos b2] at h
   cases h
  | false =>
   rw [if_neg (by rw [b2];decide)] at h
   unfold wFalse at b2
   rw [b2,takeK_f b2] at hT2
   (refine rn_ 0 an0 fun K hK=>?_;refine rx_ an0 ?_;refine lk_ 1000 an0 (hT2) ?_;refine rx_ an0 ?_;refine rwr_nil (hK _ ?_);clear hK K)
   refine au_ an0 ?_
   cases b3:takeB l wNull k with
   | true =>
    rw [if_pos b3] at h
    cases h
   | false =>
    rw [if_neg (by rw [b3];decide)] at h
    unfold wNull at b3
    rw [b3,takeK_f b3] at hT3
    (refine rn_ 0 an0 fun K hK=>?_;refine rx_ an0 ?_;refine lk_ 1000 an0 (hT3) ?_;refine rx_ an0 ?_;refine rwr_nil (hK _ ?_);clear hK K)
    refine au_ an0 ?_
    cases b4:kindP l 3 k with
    | true =>
     rw [if_pos b4] at h
     cases h
    | false =>
     rw [if_neg (by rw [b4];decide)] at h
     rw [b4] at hK3
     (refine rn_ 0 an0 fun K hK=>?_;refine rx_ an0 ?_;refine lk_ 1000 an0 (hK3) ?_;refine rx_ an0 ?_;refine rwr_nil (hK _ ?_);clear hK K)
     refine au_ an0 ?_
     cases b5:takeB l ⟨#[45]⟩ k with
     | true =>
      rw [if_pos b5] at h
      rw [b5,takeK_t b5] at hT4
      (refine rn_ 0 an0 fun K hK=>?_;refine rx_ an0 ?_;refine lk_ 1000 an0 (hT4) ?_;refine rx_ an0 ?_;refine rwr_nil (hK _ ?_);clear hK K)
      have j3:(0:Int)≤((k + 1:Nat):Int):=by omega
      by_cases hlt:k + 1 < l.length
      ·obtain ⟨t2,ht2⟩:∃ t,l[k + 1]?=some t:=⟨_,List.getElem?_eq_getElem hlt⟩
       have e1:decide (((k + 1:Nat):Int) < (l.length:Int))=true:=by simp;omega
       have j2:((k + 1:Nat):Int) < (l.length:Int):=by omega
       split at h
       ·rename_i n0
        cases h
        have q0:(t2.s.toList==(⟨#[48]⟩:ByteArray).toList)=true:=by
         unfold takeB strEq at n0
         rw [ht2] at n0
         exact n0
        refine au_ (an2 (an5 e1 ht2 hlt j2 j3) q0) ?_
        (refine rn_ 0 an0 fun K hK=>?_;refine rx_ an0 ?_;exact pn_ 1000 an0 (hF) hpn)
       ·rename_i n0
        split at h
        ·cases h
        ·rename_i b7
         cases h
         have hN:=hNb (Bool.eq_false_iff.2 b7)
         have q0:(t2.s.toList==(⟨#[48]⟩:ByteArray).toList)=false:=by
          unfold takeB strEq at n0
          rw [ht2] at n0
          exact Bool.eq_false_iff.2 n0
         refine au_ (an2 (an5 e1 ht2 hlt j2 j3) q0) ?_
         (refine rn_ 0 an0 fun K hK=>?_;refine rx_ an0 ?_;exact pn_ 1000 an0 (hN) hpn)
      ·have e1:decide (((k + 1:Nat):Int) < (l.length:Int))=false:=by simp;omega
       have n1:takeB l ⟨#[48]⟩ (k + 1)=false:=by unfold takeB;rw [List.getElem?_eq_none (by omega)]
       have n2:kindP l 2 (k + 1)=false:=by unfold kindP;rw [List.getElem?_eq_none (by omega)]
       rw [if_neg (by rw [n1];decide),if_neg (by rw [n2];decide)] at h
       cases h
       have hN:=hNb n2
       refine au_ e1 ?_
       (refine rn_ 0 an0 fun K hK=>?_;refine rx_ an0 ?_;exact pn_ 1000 an0 (hN) hpn)
     | false =>
      rw [if_neg (by rw [b5];decide)] at h
      rw [b5,takeK_f b5] at hT4
      (refine rn_ 0 an0 fun K hK=>?_;refine rx_ an0 ?_;refine lk_ 1000 an0 (hT4) ?_;refine rx_ an0 ?_;refine rwr_nil (hK _ ?_);clear hK K)
      refine au_ an0 ?_
      cases b6:kindP l 2 k with
      | true =>
       rw [if_pos b6] at h
       cases h
      | false =>
       rw [if_neg (by rw [b6];decide)] at h
       cases h
end Go.Proofs.YtjdgejfhnfnmgaaGreatDoor.Ax
