/-  -/
import Derived.Test.YtjdgejfhnfnmgaaGreatDoorP20
import Derived.Test.YtjdgejfhnfnmgaaGreatDoorP28
import Derived.Test.YtjdgejfhnfnmgaaGreatDoorP30
import Derived.Test.YtjdgejfhnfnmgaaGreatDoorP21
namespace Go.Proofs.YtjdgejfhnfnmgaaGreatDoor.Ax
open Go.RowKit Go.Sort
set_option linter.unusedSimpArgs false
attribute [local go_sem] ty3 ty4 ty9 ty5 ty26 ty24 ty29 ty27 ty54 ty22 ty25 ty31 ty77 ty43 ty69 ty101 crC seC wOpen wShut
set_option linter.unusedVariables false
set_option maxRecDepth 100000
theorem cw_meetB {P:Program} {X:Cx} {st:St} {Q:Exit→St→Prop} {c y:Code} {n:Nat} (S:St→Prop) (h1:CW P X c (inBlk n (thenX (HS X S) Q)) st) (h2:∀ s,S s→CW P X y Q s):CW P X c (inBlk n (thenX (fun s=>CW P X y Q s) Q)) st:=fun ρ a w hH =>
 wp_mono (h1 ρ a w hH) fun e a' w' ⟨s,ρ',hq,hH'⟩=>by
  cases e with
  | normal =>
   obtain ⟨sM,ρ2,h3,h4⟩:=hq ρ' a' w' hH'
   exact ⟨sM,ρ2,h2 sM h3,h4⟩
  | exit i =>
   simp only [inBlk] at hq
   split at hq
   ·rename_i hi
    obtain ⟨sM,ρ2,h3,h4⟩:=hq ρ' a' w' hH'
    exact ⟨sM,ρ2,by simp only [inBlk];rw [if_pos hi];exact h2 sM h3,h4⟩
   ·rename_i hi
    exact ⟨s,ρ',by simp only [inBlk];rw [if_neg hi];exact hq,hH'⟩
  | _=>exact ⟨s,ρ',hq,hH'⟩
def rtS (l:List Vl) (en:Int) (a:Nat) (b:Bool) (nm:ByteArray) (c4:C) (more:List (Nat × V)) (bl:List (Nat × B)):St:=⟨more++[(0,.one (.optr 1000 0))],(1000,.var 69 ([.t false (.sl (rVs l)),.t false (.lit (.int .i64 a)),.t false (.lit (.int .i64 en)),.t false (.lit (.bool b))]++crC 1 nm c4 .nil)) :: bl⟩
attribute [local go_sem] rtS
def rtI (l:List Vl) (en:Int) (nm:ByteArray) (FR:List Col × RS) (m:Nat) (st:St):Prop :=
 (∃ (R:List Col) (a f:Nat),m=f + 1∧R.length + m≤4000∧a≤l.length∧l.length≤a + f∧(R++(colQ l ⟨a,false⟩).1 :: (moreQ l (colQ l) f (colQ l ⟨a,false⟩).2).1,(moreQ l (colQ l) f (colQ l ⟨a,false⟩).2).2)=FR∧st=rtS l en a false nm (.own 73 R.length) [(2,.one (.t true (.lit (.bool true))))] [(73,.arr 54 2 true (rCs R))]) ∨
 ∃ (R:List Col) (a:Nat) (b mo:Bool),a≤l.length∧(R,(⟨a,b⟩:RS))=FR∧(mo=false ∨ mo=true∧b=true)∧st=rtS l en a b nm (.own 73 R.length) [(2,.one (.t true (.lit (.bool mo))))] [(73,.arr 54 2 true (rCs R))]
theorem rtI_start {l:List Vl} (hl:l.length≤2000) {en:Int} {nm:ByteArray} {FR:List Col × RS} {a:Nat} {b:Bool} (q:a≤l.length) (h:someQ l (colQ l) ⟨a,b⟩=FR):rtI l en nm FR (l.length + 2) (rtS l en a b nm (.own 73 ([]:List Col).length) [(2,.one (.t true (.lit (.bool true))))] [(73,.arr 54 2 true (rCs ([]:List Col)))]):=by
 unfold someQ at h
 cases b with
 | false =>
  rw [if_neg Bool.false_ne_true] at h
  exact .inl ⟨[],a,l.length + 1,rfl,by simp;omega,q,by omega,h,rfl⟩
 | true =>
  rw [if_pos rfl] at h
  exact .inr ⟨[],a,true,true,q,h,.inr ⟨rfl,rfl⟩,rfl⟩
set_option maxHeartbeats 32000000 in
theorem rcreate_io (l:List Vl) (hl:GoodL l) (en:Int) (r:RS) (q0:r.at_≤l.length):SpIO Tryz.prog 69 [.one (.optr 1000 0)] [(1000,.var 69 (rdH l en r++zC))] (.tup []) [(1000,.var 69 (rdH l en (createQ l r).2++cmC (createQ l r).1))] [1000]:=by
 have hll:=hl.len
 obtain ⟨a0,b0⟩:=r
 dsimp only at q0
 generalize hr:createQ l ⟨a0,b0⟩=out
 unfold createQ at hr
 unfold rdH zC
 dsimp only
 (refine ei_ Tryz.func69 Tryz.ntmps69 Tryz.results69 fun X hX=>?_)
 refine gs_ ?_
 (have hC:=rtake_l l (by omega) en ⟨a0,b0⟩ q0 ⟨#[105,110,100,101,120]⟩;have hL:=takeQ_len (l:=l) (s:=⟨#[105,110,100,101,120]⟩) (r:=⟨a0,b0⟩) q0 (by decide);generalize takeQ l ⟨#[105,110,100,101,120]⟩ ⟨a0,b0⟩=xx at hr hC hL;obtain ⟨t,a1,b1⟩:=xx;(try dsimp only at hr hC hL);unfold rdH at hC;(try dsimp only at hC);(try simp only [vE_eta,vV] at hC);refine rn_ 0 an0 fun K hK=>?_;refine rx_ an0 ?_;refine lk_ 1000 an0 hC ?_;refine rx_ an0 ?_;refine rwr_nil (hK _ ?_);have q1:=hL;clear hC hK K hL;cases t <;> ((first | rw [if_pos rfl] at hr | rw [if_neg Bool.false_ne_true] at hr) <;> (try dsimp only at hr)))
 ·unfold tableQ at hr
  refine gs_ ?_
  (have hC:=rneed_l l (by omega) en ⟨a1,b1⟩ q1 ⟨#[116,97,98,108,101]⟩;have hL:=needQ_len (l:=l) (s:=⟨#[116,97,98,108,101]⟩) (r:=⟨a1,b1⟩) q1 (by decide);generalize needQ l ⟨#[116,97,98,108,101]⟩ ⟨a1,b1⟩=xx at hr hC hL;obtain ⟨a2,b2⟩:=xx;(try dsimp only at hr hC hL);unfold rdH at hC;(try dsimp only at hC);(try simp only [vE_eta,vV] at hC);refine rn_ 0 an0 fun K hK=>?_;refine rx_ an0 ?_;refine lk_ 1000 an0 hC ?_;refine rx_ an0 ?_;refine rwr_nil (hK _ ?_);have q2:=hL;clear hC hK K hL)
  refine au_ an0 ?_
  (have hC:=rname_l l (by omega) en ⟨a2,b2⟩ q2 (by have:=txQ_size hl ⟨a2,b2⟩;unfold maxLen;omega);have hL:=nameQ_len (l:=l) (r:=⟨a2,b2⟩) q2;have hG:=nameQ_ge (l:=l) (r:=⟨a2,b2⟩);generalize nameQ l ⟨a2,b2⟩=xx at hr hC hL hG;obtain ⟨nm,a3,b3⟩:=xx;(try dsimp only at hr hC hL hG);unfold rdH at hC;(try dsimp only at hC);(try simp only [vE_eta,vV] at hC);refine rn_ 0 an0 fun K hK=>?_;refine rx_ an0 ?_;refine lk_ 1000 an0 hC ?_;refine rx_ an0 ?_;refine rwr_nil (hK _ ?_);have q3:=hL;have g3:=hG;clear hG;clear hC hK K hL)
  refine gs_ ?_
  (have hC:=rneed_l l (by omega) en ⟨a3,b3⟩ q3 wOpen;have hL:=needQ_len (l:=l) (s:=wOpen) (r:=⟨a3,b3⟩) q3 (by decide);generalize needQ l wOpen ⟨a3,b3⟩=xx at hr hC hL;obtain ⟨a4,b4⟩:=xx;(try dsimp only at hr hC hL);unfold rdH at hC;(try dsimp only at hC);(try simp only [vE_eta,vV] at hC);refine rn_ 0 an0 fun K hK=>?_;refine rx_ an0 ?_;refine lk_ 1000 an0 hC ?_;refine rx_ an0 ?_;refine rwr_nil (hK _ ?_);have qL:=hL;clear hC hK K hL)
  generalize hF:someQ l (colQ l) ⟨a4,b4⟩=FR at hr
  refine gs_ ?_
  (refine rn_ 8 an0 fun K hK=>?_;refine rr_ an0 ?_)
  ((first | refine rwr_nil (hK _ ?_) | refine de_ (hK _ ?_));clear hK K)
  refine gs_ ?_
  refine gb_ 1000 8 73 54 2 ?_
  refine cw_meetB (fun sM=>∃ (R:List Col) (a:Nat) (b:Bool),a≤l.length∧FR=(R,⟨a,b⟩)∧sM=rtS l en a b nm (.t true (.sl (rCs R))) [] []) ?_ ?_
  ·clear hr
   refine cw_loop (rtI l en nm FR) (l.length + 2) ⟨_,rtI_start hll qL hF,by unfold rtS;exact le_⟩ ?_
   clear hF
   rintro m st (⟨R,a,f,rfl,hm1,qa,hm2,hr,rfl⟩ | ⟨R,a,b,mo,qa,hr,hmo,rfl⟩)
   ·have h1:R.length + 1≤maxLen:=by unfold maxLen;omega
    have h2:(R.length + 1) * 24≤140737488355328:=by omega
    unfold rtS
    unfold colQ at hr
    dsimp only at hr
    refine au_ an0 ?_
    (have hC:=rname_l l (by omega) en ⟨a,false⟩ qa (by have:=txQ_size hl ⟨a,false⟩;unfold maxLen;omega);have hL:=nameQ_len (l:=l) (r:=⟨a,false⟩) qa;have hG:=nameQ_ge (l:=l) (r:=⟨a,false⟩);generalize nameQ l ⟨a,false⟩=xx at hr hC hL hG;obtain ⟨cn,a5,b5⟩:=xx;(try dsimp only at hr hC hL hG);unfold rdH at hC;(try dsimp only at hC);(try simp only [vE_eta,vV] at hC);refine rn_ 0 an0 fun K hK=>?_;refine rx_ an0 ?_;refine lk_ 1000 an0 hC ?_;refine rx_ an0 ?_;refine rwr_nil (hK _ ?_);have q5:=hL;have g5:=hG;clear hG;clear hC hK K hL)
    refine gs_ ?_
    (have hC:=rtype_l l hll en ⟨a5,b5⟩ q5;have hL:=typeQ_len (l:=l) (r:=⟨a5,b5⟩) q5;have hG:=typeQ_ge (l:=l) (r:=⟨a5,b5⟩);generalize typeQ l ⟨a5,b5⟩=xx at hr hC hL hG;obtain ⟨ct,a6,b6⟩:=xx;(try dsimp only at hr hC hL hG);unfold rdH at hC;(try dsimp only at hC);(try simp only [vE_eta,vV] at hC);refine rn_ 0 an0 fun K hK=>?_;refine rx_ an0 ?_;refine lk_ 1000 an0 hC ?_;refine rx_ an0 ?_;refine rwr_nil (hK _ ?_);have q6:=hL;have g6:=hG;clear hG;clear hC hK K hL)
    refine au_ (an4 litC_ lenC_ h1 h2) ?_
    rw [moreQ_eq (by dsimp only;omega)] at hr
    (have hC:=rtake_l l (by omega) en ⟨a6,b6⟩ q6 ⟨#[44]⟩;have hL:=takeQ_len (l:=l) (s:=⟨#[44]⟩) (r:=⟨a6,b6⟩) q6 (by decide);have ht:=takeQ_true (l:=l) (s:=⟨#[44]⟩) (r:=⟨a6,b6⟩);generalize takeQ l ⟨#[44]⟩ ⟨a6,b6⟩=xx at hr hC hL ht;obtain ⟨t,a9,b9⟩:=xx;(try dsimp only at hr hC hL ht);unfold rdH at hC;(try dsimp only at hC);(try simp only [vE_eta,vV] at hC);refine rn_ 0 an0 fun K hK=>?_;refine rx_ an0 ?_;refine lk_ 1000 an0 hC ?_;refine rx_ an0 ?_;refine rwr_nil (hK _ ?_);have q9:=hL;clear hC hK K hL;cases t <;> ((first | rw [if_pos rfl] at hr | rw [if_neg Bool.false_ne_true] at hr) <;> (try dsimp only at hr)))
    ·refine gs_ ?_
     exact ⟨f,by omega,_,.inr ⟨R++[⟨cn,ct⟩],a9,b9,false,q9,hr,.inl rfl,rfl⟩,lf_ (an2 litC_ lenC_)⟩
    ·have ht:=ht rfl
     injection ht with ha hb
     subst hb
     refine gs_ ?_
     refine ⟨f,by omega,_,.inl ⟨R++[⟨cn,ct⟩],a9,f - 1,by omega,by simp;omega,q9,by omega,?_,rfl⟩,lf_ (an2 litC_ lenC_)⟩
     simp only [List.append_assoc,List.cons_append,List.nil_append]
     exact hr
   ·unfold rtS
    rcases hmo with rfl | ⟨rfl,rfl⟩
    all_goals
     refine au_ an0 ?_
     refine hs_meltb 1000 8 73 ?_
     subst hr
     exact hs_fit (an2 litC_ lenC_) ⟨_,_,_,qa,rfl,rfl⟩
  ·rintro sM ⟨R,a5,b5,q5,rfl,rfl⟩
   clear hF
   unfold rtS
   dsimp only at hr
   refine gs_ ?_
   (have hC:=rneed_l l (by omega) en ⟨a5,b5⟩ q5 wShut;have hL:=needQ_len (l:=l) (s:=wShut) (r:=⟨a5,b5⟩) q5 (by decide);generalize needQ l wShut ⟨a5,b5⟩=xx at hr hC hL;obtain ⟨a6,b6⟩:=xx;(try dsimp only at hr hC hL);unfold rdH at hC;(try dsimp only at hC);(try simp only [vE_eta,vV] at hC);refine rn_ 0 an0 fun K hK=>?_;refine rx_ an0 ?_;refine lk_ 1000 an0 hC ?_;refine rx_ an0 ?_;refine rwr_nil (hK _ ?_);have q6:=hL;clear hC hK K hL)
   refine au_ an0 ?_
   (subst hr;(try simp only [vE_eta,vV,cmC,zE,zCm,Ex.k,Ex.vk,Ex.nm,Ex.ar,List.map_cons,List.map_nil,rE_eta,Vl.zero]))
   exact oj_ an0 (.inr rfl)
 ·unfold indexQ at hr
  refine au_ an0 ?_
  (have hC:=rname_l l (by omega) en ⟨a1,b1⟩ q1 (by have:=txQ_size hl ⟨a1,b1⟩;unfold maxLen;omega);have hL:=nameQ_len (l:=l) (r:=⟨a1,b1⟩) q1;have hG:=nameQ_ge (l:=l) (r:=⟨a1,b1⟩);generalize nameQ l ⟨a1,b1⟩=xx at hr hC hL hG;obtain ⟨nm,a2,b2⟩:=xx;(try dsimp only at hr hC hL hG);unfold rdH at hC;(try dsimp only at hC);(try simp only [vE_eta,vV] at hC);refine rn_ 0 an0 fun K hK=>?_;refine rx_ an0 ?_;refine lk_ 1000 an0 hC ?_;refine rx_ an0 ?_;refine rwr_nil (hK _ ?_);have q2:=hL;have g2:=hG;clear hG;clear hC hK K hL)
  refine gs_ ?_
  (have hC:=rneed_l l (by omega) en ⟨a2,b2⟩ q2 ⟨#[111,110]⟩;have hL:=needQ_len (l:=l) (s:=⟨#[111,110]⟩) (r:=⟨a2,b2⟩) q2 (by decide);generalize needQ l ⟨#[111,110]⟩ ⟨a2,b2⟩=xx at hr hC hL;obtain ⟨a3,b3⟩:=xx;(try dsimp only at hr hC hL);unfold rdH at hC;(try dsimp only at hC);(try simp only [vE_eta,vV] at hC);refine rn_ 0 an0 fun K hK=>?_;refine rx_ an0 ?_;refine lk_ 1000 an0 hC ?_;refine rx_ an0 ?_;refine rwr_nil (hK _ ?_);have q3:=hL;clear hC hK K hL)
  refine gs_ ?_
  (have hC:=rname_l l (by omega) en ⟨a3,b3⟩ q3 (by have:=txQ_size hl ⟨a3,b3⟩;unfold maxLen;omega);have hL:=nameQ_len (l:=l) (r:=⟨a3,b3⟩) q3;have hG:=nameQ_ge (l:=l) (r:=⟨a3,b3⟩);generalize nameQ l ⟨a3,b3⟩=xx at hr hC hL hG;obtain ⟨o,a4,b4⟩:=xx;(try dsimp only at hr hC hL hG);unfold rdH at hC;(try dsimp only at hC);(try simp only [vE_eta,vV] at hC);refine rn_ 0 an0 fun K hK=>?_;refine rx_ an0 ?_;refine lk_ 1000 an0 hC ?_;refine rx_ an0 ?_;refine rwr_nil (hK _ ?_);have q4:=hL;have g4:=hG;clear hG;clear hC hK K hL)
  refine gs_ ?_
  (have hC:=rneed_l l (by omega) en ⟨a4,b4⟩ q4 wOpen;have hL:=needQ_len (l:=l) (s:=wOpen) (r:=⟨a4,b4⟩) q4 (by decide);generalize needQ l wOpen ⟨a4,b4⟩=xx at hr hC hL;obtain ⟨a5,b5⟩:=xx;(try dsimp only at hr hC hL);unfold rdH at hC;(try dsimp only at hC);(try simp only [vE_eta,vV] at hC);refine rn_ 0 an0 fun K hK=>?_;refine rx_ an0 ?_;refine lk_ 1000 an0 hC ?_;refine rx_ an0 ?_;refine rwr_nil (hK _ ?_);have q5:=hL;clear hC hK K hL)
  refine gs_ ?_
  (have hC:=rname_l l (by omega) en ⟨a5,b5⟩ q5 (by have:=txQ_size hl ⟨a5,b5⟩;unfold maxLen;omega);have hL:=nameQ_len (l:=l) (r:=⟨a5,b5⟩) q5;have hG:=nameQ_ge (l:=l) (r:=⟨a5,b5⟩);generalize nameQ l ⟨a5,b5⟩=xx at hr hC hL hG;obtain ⟨cl,a6,b6⟩:=xx;(try dsimp only at hr hC hL hG);unfold rdH at hC;(try dsimp only at hC);(try simp only [vE_eta,vV] at hC);refine rn_ 0 an0 fun K hK=>?_;refine rx_ an0 ?_;refine lk_ 1000 an0 hC ?_;refine rx_ an0 ?_;refine rwr_nil (hK _ ?_);have q6:=hL;have g6:=hG;clear hG;clear hC hK K hL)
  refine gs_ ?_
  (have hC:=rneed_l l (by omega) en ⟨a6,b6⟩ q6 wShut;have hL:=needQ_len (l:=l) (s:=wShut) (r:=⟨a6,b6⟩) q6 (by decide);generalize needQ l wShut ⟨a6,b6⟩=xx at hr hC hL;obtain ⟨a7,b7⟩:=xx;(try dsimp only at hr hC hL);unfold rdH at hC;(try dsimp only at hC);(try simp only [vE_eta,vV] at hC);refine rn_ 0 an0 fun K hK=>?_;refine rx_ an0 ?_;refine lk_ 1000 an0 hC ?_;refine rx_ an0 ?_;refine rwr_nil (hK _ ?_);have q7:=hL;clear hC hK K hL)
  refine au_ an0 ?_
  (subst hr;(try simp only [vE_eta,vV,cmC,zE,zCm,Ex.k,Ex.vk,Ex.nm,Ex.ar,List.map_cons,List.map_nil,rE_eta,Vl.zero]))
  exact oj_ an0 (.inl rfl)
end Go.Proofs.YtjdgejfhnfnmgaaGreatDoor.Ax
namespace Go.Proofs.YtjdgejfhnfnmgaaGreatDoor.Ax
open Go.RowKit
set_option linter.unusedSimpArgs false
attribute [local go_sem] extV appD cutOwn appOwn clearOwn bdI mapD putD' keyOk getOr getM putM wholeV litCs asV asC ptrC fnC nilC nilPtr strRows_len runs runsN guardOf exec1 pureV modD rowD ev get St.app St.put St.turn loadC moveC fieldOf indexC lenC lenOk cutC bndOf evAll fieldV convV unV binV binI bitsV moreV intsT eqL eq1 valOf min1 lit1 litInt litI litB litS constV constC cellsV partsOf placesOf buildV fillL toT elemsOf rowsOf baseOf dstOk V.kill V.ment V.ments C.kill C.ment C.ments B.kill setD litRows litRows_append T.isLit callAll calleeV argsV argV viewC viewCs modeOk freeOps V.free C.free V.allF V.allFs C.allF C.allFs B.allF callD leL growB C.flat V.flat B.flat flatL flatB St.flat List.set_cons_zero List.set_cons_succ C.only C.onlys V.only V.onlys B.only renI C.ren C.rens V.ren V.rens B.ren renB renOk nodK Option.getD_some Option.getD_none Option.isSome_some implies_true false_implies C.fit C.fits V.fit V.fit1 V.fits Bool.and_self ite_self exitV resV resL resC outV outV.outs eqB nn cast0 Int.toNat_natCast List.getElem?_map Value.cells Value.oneCell' Nat.lt_irrefl decide_true decide_false and_true true_and and_self and_false false_and not_true_eq_false not_false_eq_true not_true not_false List.size_toArray all_len Nat.zero_add Nat.add_zero List.length_cons List.length_append List.length_replicate List.length_set List.length_nil List.length_map List.map_cons List.map_nil List.take_succ_cons List.take_zero List.take_nil List.drop_succ_cons List.drop_zero List.drop_nil List.cons_append List.nil_append List.append_nil List.all_cons List.all_nil Bool.and_true Bool.true_and Bool.and_false Bool.false_and Bool.not_true Bool.not_false Bool.or_false Bool.or_true Bool.false_or Bool.true_or List.filter_cons List.filter_nil List.contains_cons List.contains_nil beq_self_eq_true List.getElem?_cons_zero List.getElem?_cons_succ List.getElem?_nil Option.map_some Option.map_none Option.toList_some Option.toList_none List.isEmpty_cons List.isEmpty_nil Bool.false_eq_true Bool.true_eq_false List.getElem?_toArray List.not_mem_nil List.mem_cons or_false forall_eq List.mem_singleton forall_const Option.toArray addF if_true if_false dstsOf Oper.looksAt Op.operands Call.operands pick edge B.ment Region.binds List.any_cons List.any_nil List.filterMap_cons List.filterMap_nil ne_eq Bool.or_self List.isEmpty_iff Array.toList_append List.append_toArray Array.append_empty Option.bind_some Option.bind_none List.push_toArray
set_option linter.unusedVariables false
def DWA (P:Program) (X:Cx) (ops:Array Oper) (st0:St) (K:St→Prop) (A:List (Nat × List (Nat × B))) (c:Cd):Prop:=DBA P X ops st0 A c→DG P X ops st0 K
def noI (j:Nat):List Lf→List Lf
 | []=>[]
 | x :: l=>match Nat.beq x.i j with
  | true=>noI j l
  | false=>x :: noI j l
theorem noI_mem {j:Nat} {x:Lf}:∀ {l:List Lf},x ∈ l→x ∈ noI j l ∨ j=x.i
 | y :: l,h=>by
  unfold noI
  rcases List.mem_cons.1 h with rfl | h
  ·split
   ·rename_i hb;exact .inr (Nat.eq_of_beq_eq_true hb).symm
   ·exact .inl List.mem_cons_self
  ·rcases noI_mem (j:=j) h with h | h
   ·refine .inl ?_
    split
    ·exact h
    ·exact List.mem_cons_of_mem _ h
   ·exact .inr h
def noA:List (Nat × List (Nat × B))→List Lf→List Lf
 | [],F=>F
 | a :: A,F=>noA A (noI a.1 F)
theorem noA_mem {x:Lf}:∀ {A:List (Nat × List (Nat × B))} {F:List Lf},x ∈ F→x ∈ noA A F ∨ ∃ a ∈ A,a.1=x.i
 | [],F,h=>.inl h
 | a :: A,F,h=>by
  unfold noA
  rcases noI_mem (j:=a.1) h with h | h
  ·rcases noA_mem (A:=A) h with h | ⟨b,hb,he⟩
   ·exact .inl h
   ·exact .inr ⟨b,List.mem_cons_of_mem _ hb,he⟩
  ·exact .inr ⟨a,List.mem_cons_self,h⟩
def altOk (b:Nat) (B2:B):List (Nat × List (Nat × B))→Prop
 | []=>True
 | a :: A=>a.2=[(b,B2)]∧altOk b B2 A
theorem altOk_mem {b:Nat} {B2:B} {a:Nat × List (Nat × B)}:∀ {A:List (Nat × List (Nat × B))},altOk b B2 A→a ∈ A→a.2=[(b,B2)]
 | x :: A,h,ha=>by
  rcases List.mem_cons.1 ha with rfl | ha
  ·exact h.1
  ·exact altOk_mem h.2 ha
section
variable {P:Program} {X:Cx} {ops:Array Oper} {st0 S:St} {l:List Oper} {o:Oper} {k:Nat} {F:List Lf} {E:List Le} {pr:List (Nat × Nat)} {K:St→Prop}
theorem dal_ (B2:List (Nat × B)) {f:Prop} (hf:f) {r:Cd} {d:Nat} {v:V} (h:DWA P X ops st0 K [(k,B2)] r) (hdd:o.dst=some d:=by exact rfl)
  (hg1:f→guardOf ⟨rdT S.sl (Oper.looksAt ops o),S.bl⟩ ops o=some true:=by intro hf;simp only [go_sem,hf] <;> fail) (hg2:f→guardOf ⟨rdT S.sl (Oper.looksAt ops o),B2⟩ ops o=some true:=by intro hf;simp only [go_sem,hf] <;> fail)
  (hx1:f→exec1 P ⟨rdT S.sl (Oper.looksAt ops o),S.bl⟩ o=some (.pure v):=by intro hf;simp only [go_sem,hf];exact rfl) (hx2:f→exec1 P ⟨rdT S.sl (Oper.looksAt ops o),B2⟩ o=some (.pure v):=by intro hf;simp only [go_sem,hf] <;> fail) (hd:dstOk X.n o.dst=true:=by rw [hX];rfl)
  (hr:f→(⟨l,k + 1,S.put (some d) v,⟨k,idsT (rdT S.sl (Oper.looksAt ops o))++v.ids,fstB S.bl++(fstB B2++[])⟩ :: F,E,pairF k (idsT (rdT S.sl (Oper.looksAt ops o))++v.ids) (fstB S.bl++(fstB B2++[])) pr E⟩:Cd)=r:=by intro hf;simp (maxSteps:=5000000) only [go_sem,hf,hX];exact rfl):DW P X ops st0 K ⟨o :: l,k,S,F,E,pr⟩:=fun hb=>by
 have hr:=hr hf
 subst hr
 rw [hdd] at hd
 refine h (dba_fl (alt:=[B2]) (on:=true) (R:=⟨rdT S.sl (Oper.looksAt ops o),S.bl⟩) (fun _ h=>h) (fun _ h=>h) hb hdd (by simpa [dstOk] using hd) (fun t u h=>rdT_get h) (fun t b h=>h) fun bl hbl=>?_)
 rcases List.mem_cons.1 hbl with rfl | hbl
 ·exact .inl ⟨rfl,hg1 hf,_,.inl rfl,(exec1_runs (hx1 hf)).step⟩
 ·rw [List.mem_singleton.1 hbl]
  exact .inl ⟨rfl,hg2 hf,_,.inl rfl,(exec1_runs (hx2 hf)).step⟩
theorem dam_ (B2:List (Nat × B)) {f:Prop} (hf:f) {A:List (Nat × List (Nat × B))} {r:Cd} {d:Nat} {v:V} (h:DWA P X ops st0 K ((k,B2) :: A) r) (hdd:o.dst=some d:=by exact rfl)
  (hg1:f→guardOf ⟨rdT S.sl (Oper.looksAt ops o),S.bl⟩ ops o=some true:=by intro hf;simp only [go_sem,hf] <;> fail) (hg2:f→guardOf ⟨rdT S.sl (Oper.looksAt ops o),B2⟩ ops o=some true:=by intro hf;simp only [go_sem,hf] <;> fail)
  (hx1:f→exec1 P ⟨rdT S.sl (Oper.looksAt ops o),S.bl⟩ o=some (.pure v):=by intro hf;simp only [go_sem,hf];exact rfl) (hx2:f→exec1 P ⟨rdT S.sl (Oper.looksAt ops o),B2⟩ o=some (.pure v):=by intro hf;simp only [go_sem,hf] <;> fail) (hd:dstOk X.n o.dst=true:=by rw [hX];rfl)
  (hr:f→(⟨l,k + 1,S.put (some d) v,⟨k,idsT (rdT S.sl (Oper.looksAt ops o))++v.ids,fstB S.bl++(fstB B2++[])⟩ :: F,E,pairF k (idsT (rdT S.sl (Oper.looksAt ops o))++v.ids) (fstB S.bl++(fstB B2++[])) pr E⟩:Cd)=r:=by intro hf;simp (maxSteps:=5000000) only [go_sem,hf,hX];exact rfl):DWA P X ops st0 K A ⟨o :: l,k,S,F,E,pr⟩:=fun hb=>by
 have hr:=hr hf
 subst hr
 rw [hdd] at hd
 refine h (dba_fl (alt:=[B2]) (on:=true) (R:=⟨rdT S.sl (Oper.looksAt ops o),S.bl⟩) (fun _ h=>h) (fun _ h=>h) hb hdd (by simpa [dstOk] using hd) (fun t u h=>rdT_get h) (fun t b h=>h) fun bl hbl=>?_)
 rcases List.mem_cons.1 hbl with rfl | hbl
 ·exact .inl ⟨rfl,hg1 hf,_,.inl rfl,(exec1_runs (hx1 hf)).step⟩
 ·rw [List.mem_singleton.1 hbl]
  exact .inl ⟨rfl,hg2 hf,_,.inl rfl,(exec1_runs (hx2 hf)).step⟩
theorem dav_ {f:Prop} (hf:f) {A:List (Nat × List (Nat × B))} {r:Cd} {d:Nat} {v:V} (h:DWA P X ops st0 K A r) (hdd:o.dst=some d:=by exact rfl)
  (hg:f→guardOf ⟨rdT S.sl (Oper.looksAt ops o),[]⟩ ops o=some true:=by intro hf;simp only [go_sem,hf] <;> fail) (hx:f→exec1 P ⟨rdT S.sl (Oper.looksAt ops o),[]⟩ o=some (.pure v):=by intro hf;simp only [go_sem,hf];exact rfl) (hd:dstOk X.n o.dst=true:=by rw [hX];rfl)
  (hr:f→(⟨l,k + 1,S.put (some d) v,⟨k,idsT (rdT S.sl (Oper.looksAt ops o))++v.ids,[]⟩ :: F,E,pairF k (idsT (rdT S.sl (Oper.looksAt ops o))++v.ids) [] pr E⟩:Cd)=r:=by intro hf;simp (maxSteps:=5000000) only [go_sem,hf,hX];exact rfl):DWA P X ops st0 K A ⟨o :: l,k,S,F,E,pr⟩:=fun hb=>by
 have hr:=hr hf
 subst hr
 rw [hdd] at hd
 refine h (dba_fl (alt:=[]) (on:=true) (R:=⟨rdT S.sl (Oper.looksAt ops o),[]⟩) (fun _ h=>h) (fun _ h=>h) hb hdd (by simpa [dstOk] using hd) (fun t u h=>rdT_get h) (fun t b h=>by cases h) fun bl hbl=>?_)
 rw [List.mem_singleton.1 hbl]
 exact .inl ⟨rfl,hg hf,_,.inl rfl,(exec1_runs (hx hf)).step⟩
theorem dalk_ (b:Nat) {f:Prop} (hf:f) {A:List (Nat × List (Nat × B))} {B2:B} {r:Cd} {c:Call} {cv:Operand} {g:FuncId} {args args2 as_:List V} {e:TypeId} {hc hc2 ho ho2 cells tl:List C} {mk:Bool} {m:Nat} {res res2:V} (hsp:SpL P g args e hc res ho m) (h:DW P X ops st0 K r)
  (hop:o.op=.call c:=by exact rfl) (hcal:c.callee=.value cv:=by exact rfl) (ha:V.onlys [1000] args=true:=by rfl) (hn:C.onlys [1000] hc=true:=by rfl) (ha2:V.rens [(1000,b)] args=args2:=by exact rfl) (hc2':C.rens [(1000,b)] hc=hc2:=by exact rfl) (ho2':C.rens [(1000,b)] ho=ho2:=by exact rfl) (hr2:res.ren [(1000,b)]=res2:=by exact rfl)
  (hcl:f→callIO [b] ⟨rdT S.sl (Oper.looksAt ops o),S.bl⟩ 40 cv c.args.toList=some (g,mk,as_):=by intro hf;simp only [go_sem,hf] <;> exact rfl) (hle:f→vsLe args2 as_:=by intro hf;simp only [go_sem,hf] <;> fail) (hb:get b S.bl=some (.var e cells):=by simp only [go_sem];exact rfl) (hl:cells.drop hc.length=tl:=by simp only [List.length_cons,List.length_nil,Nat.reduceAdd,List.drop_succ_cons,List.drop_zero];exact rfl) (hk:tl.length=m:=by first | rfl | (unfold lits;rw [List.length_map];assumption)) (hcs:f→csLe hc2 (cells.take hc.length):=by intro hf;simp only [go_sem,List.length_cons,List.length_nil,List.take_succ_cons,List.take_zero,hf] <;> fail) (hon:C.onlys [b] hc2=true:=by rfl) (hm:(mk || (res2.allF && C.allFs ho2))=true:=by rfl)
  (hg:f→guardOf ⟨rdT S.sl (Oper.looksAt ops o),S.bl⟩ ops o=some true:=by intro hf;simp only [go_sem,hf] <;> fail) (hd:dstOk X.n o.dst=true:=by rw [hX];rfl) (hA:altOk b B2 A:=by repeat (first | exact trivial | refine ⟨rfl,?_⟩)) (hB:f→B.var e (ho2++tl)=B2:=by intro hf;simp only [go_sem,hf] <;> exact rfl)
  (hr:f→(⟨l,k + 1,S.appD (.mod res2 [b] [] [(b,.var e (ho2++tl))]) o.dst,F,⟨k,xOf S.bl (.mod res2 [b] [] [(b,.var e (ho2++tl))]),[]⟩ :: E,pairE k (xOf S.bl (.mod res2 [b] [] [(b,.var e (ho2++tl))])) [] pr (noA A F)⟩:Cd)=r:=by intro hf;simp (maxSteps:=5000000) only [go_sem,hf,hX];exact rfl):DWA P X ops st0 K A ⟨o :: l,k,S,F,E,pr⟩:=fun hb'=>by
 have hr:=hr hf
 subst hr
 have hB:=hB hf
 refine h (dba_ef (G:=noA A F) (R:=⟨rdT S.sl (Oper.looksAt ops o),S.bl⟩) hb' (fun x hx=>noA_mem hx) (fun a ha=>?_) hd (fun t u h=>rdT_get h) (fun t b h=>h) (.inl ⟨hg hf,Step.p (lock_step (st:=⟨rdT S.sl (Oper.looksAt ops o),S.bl⟩) b hsp hop hcal ha hn ha2 hc2' ho2' hr2 (hcl hf) (hle hf) hb hl hk (hcs hf) hon hm)⟩))
 rw [altOk_mem hA ha]
 refine ⟨rfl,fun t b' h=>?_⟩
 subst hB
 rw [appD_bl]
 exact get_append_some h
end
end Go.Proofs.YtjdgejfhnfnmgaaGreatDoor.Ax
