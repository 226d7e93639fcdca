/-  -/
import Derived.Test.YtjdgejfhnfnmgaaGreatDoorP20
import Derived.Test.YtjdgejfhnfnmgaaGreatDoorP28
import Derived.Test.YtjdgejfhnfnmgaaGreatDoorP30
import Derived.Test.YtjdgejfhnfnmgaaGreatDoorP31
namespace Go.Proofs.YtjdgejfhnfnmgaaGreatDoor.Ax
open Go.RowKit Go.Sort
set_option linter.unusedSimpArgs false
attribute [local go_sem] ty3 ty4 ty9 ty5 ty26 ty24 ty29 ty27 ty54 ty22 ty25 ty31 ty77 ty43 ty69 ty101 crC seC wOpen wShut
set_option linter.unusedVariables false
set_option maxRecDepth 100000
def rsS (l:List Vl) (en:Int) (a:Nat) (b:Bool) (c1 c10:C) (more:List (Nat × V)) (bl:List (Nat × B)):St:=⟨more++[(0,.one (.optr 1000 0))],(1000,.var 69 ([.t false (.sl (rVs l)),.t false (.lit (.int .i64 a)),.t false (.lit (.int .i64 en)),.t false (.lit (.bool b))]++seC c1 c10)) :: bl⟩
attribute [local go_sem] rsS
def rsI (l:List Vl) (en:Int) (FR:List ByteArray × RS) (m:Nat) (st:St):Prop :=
 (∃ (R:List ByteArray) (a f:Nat),m=f + 1∧R.length + m≤4000∧a≤l.length∧l.length≤a + f∧(R++(nameQ l ⟨a,false⟩).1 :: (moreQ l (nameQ l) f (nameQ l ⟨a,false⟩).2).1,(moreQ l (nameQ l) f (nameQ l ⟨a,false⟩).2).2)=FR∧st=rsS l en a false (.t false (.lit (.string .empty))) (.own 29 R.length) [(2,.one (.t true (.lit (.bool true))))] [(29,.arr 9 1 true (rS R))]) ∨
 ∃ (R:List ByteArray) (a:Nat) (b mo:Bool),a≤l.length∧(R,(⟨a,b⟩:RS))=FR∧(mo=false ∨ mo=true∧b=true)∧st=rsS l en a b (.t false (.lit (.string .empty))) (.own 29 R.length) [(2,.one (.t true (.lit (.bool mo))))] [(29,.arr 9 1 true (rS R))]
theorem rsI_start {l:List Vl} (hl:l.length≤2000) {en:Int} {FR:List ByteArray × RS} {a:Nat} {b:Bool} (q:a≤l.length) (h:someQ l (nameQ l) ⟨a,b⟩=FR):rsI l en FR (l.length + 2) (rsS l en a b (.t false (.lit (.string .empty))) (.own 29 ([]:List ByteArray).length) [(2,.one (.t true (.lit (.bool true))))] [(29,.arr 9 1 true (rS ([]:List ByteArray)))]):=by
 unfold someQ at h
 cases b with
 | false =>
  rw [if_neg Bool.false_ne_true] at h
  exact .inl ⟨[],a,l.length + 1,rfl,by simp;omega,q,by omega,h,rfl⟩
 | true =>
  rw [if_pos rfl] at h
  exact .inr ⟨[],a,true,true,q,h,.inr ⟨rfl,rfl⟩,rfl⟩
attribute [local go_sem] litS_ lenS_
set_option maxHeartbeats 32000000 in
theorem rselect_io (l:List Vl) (hl:GoodL l) (en:Int) (r:RS) (q0:r.at_≤l.length):SpIO Tryz.prog 76 [.one (.optr 1000 0)] [(1000,.var 69 (rdH l en r++zC))] (.tup []) [(1000,.var 69 (rdH l en (selectQ l r).2++cmC (selectQ l r).1))] [1000]:=by
 have hll:=hl.len
 obtain ⟨a0,b0⟩:=r
 dsimp only at q0
 generalize hr:selectQ l ⟨a0,b0⟩=out
 unfold selectQ at hr
 generalize hF:fieldsQ l ⟨a0,b0⟩=FR at hr
 unfold fieldsQ at hF
 unfold rdH zC
 dsimp only
 (refine ei_ Tryz.func76 Tryz.ntmps76 Tryz.results76 fun X hX=>?_)
 refine gs_ ?_
 refine au_ an0 ?_
 refine cw_meet2S (fun sM=>∃ (R:List ByteArray) (a:Nat) (b:Bool),a≤l.length∧FR=(R,⟨a,b⟩)∧sM=rsS l en a b (.t false (.lit (.string .empty))) (.t true (.sl (rS R))) [] []) ?_ ?_
 ·clear hr
  have hr:=hF
  clear hF
  (have hC:=rtake_l l (by omega) en ⟨a0,b0⟩ q0 ⟨#[42]⟩;have hL:=takeQ_len (l:=l) (s:=⟨#[42]⟩) (r:=⟨a0,b0⟩) q0 (by decide);generalize takeQ l ⟨#[42]⟩ ⟨a0,b0⟩=xx at hr hC hL;obtain ⟨t,a1,b1⟩:=xx;(try dsimp only at hr hC hL);unfold rdH at hC;(try dsimp only at hC);(try simp only [vE_eta,vV] at hC);refine rn_ 0 an0 fun K hK=>?_;refine rx_ an0 ?_;refine lk_ 1000 an0 hC ?_;refine rx_ an0 ?_;refine rwr_nil (hK _ ?_);have qL:=hL;clear hC hK K hL;cases t <;> ((first | rw [if_pos rfl] at hr | rw [if_neg Bool.false_ne_true] at hr) <;> (try dsimp only at hr)))
  ·have hF:=hr
   clear hr
   refine gs_ ?_
   (refine rn_ 8 an0 fun K hK=>?_;refine rr_ an0 ?_)
   ((first | refine rwr_nil (hK _ ?_) | refine de_ (hK _ ?_));clear hK K)
   refine gs_ ?_
   refine gb_ 1000 14 29 9 1 ?_
   refine cw_loop (rsI l en FR) (l.length + 2) ⟨_,rsI_start hll qL hF,by unfold rsS;exact le_⟩ ?_
   clear hF
   rintro m st (⟨R,a,f,rfl,hm1,qa,hm2,hr,rfl⟩ | ⟨R,a,b,mo,qa,hr,hmo,rfl⟩)
   ·have h1:R.length + 1≤maxLen:=by unfold maxLen;omega
    have h2:(R.length + 1) * 16≤140737488355328:=by omega
    unfold rsS
    refine au_ an0 ?_
    (have hC:=rname_l l (by omega) en ⟨a,false⟩ qa (by have:=txQ_size hl ⟨a,false⟩;unfold maxLen;omega);have hL:=nameQ_len (l:=l) (r:=⟨a,false⟩) qa;have hG:=nameQ_ge (l:=l) (r:=⟨a,false⟩);generalize nameQ l ⟨a,false⟩=xx at hr hC hL hG;obtain ⟨fn,a6,b6⟩:=xx;(try dsimp only at hr hC hL hG);unfold rdH at hC;(try dsimp only at hC);(try simp only [vE_eta,vV] at hC);refine dr_ 2 (an2 h1 h2) fun K hK=>?_;refine dal_ [(1000,.var 69 ([.t false (.sl (rVs l)),.t false (.lit (.int .i64 a6)),.t false (.lit (.int .i64 en)),.t false (.lit (.bool b6))]++seC (.t false (.lit (.string .empty))) (.own 29 R.length)))] (an2 h1 h2) ?_;refine dam_ [(1000,.var 69 ([.t false (.sl (rVs l)),.t false (.lit (.int .i64 a6)),.t false (.lit (.int .i64 en)),.t false (.lit (.bool b6))]++seC (.t false (.lit (.string .empty))) (.own 29 R.length)))] (an2 h1 h2) ?_;refine dam_ [(1000,.var 69 ([.t false (.sl (rVs l)),.t false (.lit (.int .i64 a6)),.t false (.lit (.int .i64 en)),.t false (.lit (.bool b6))]++seC (.t false (.lit (.string .empty))) (.own 29 R.length)))] (an2 h1 h2) ?_;refine dam_ [(1000,.var 69 ([.t false (.sl (rVs l)),.t false (.lit (.int .i64 a6)),.t false (.lit (.int .i64 en)),.t false (.lit (.bool b6))]++seC (.t false (.lit (.string .empty))) (.own 29 R.length)))] (an2 h1 h2) ?_;refine dav_ (an2 h1 h2) ?_;refine dalk_ 1000 (an2 h1 h2) hC ?_;refine dx_ (an2 h1 h2) ?_;refine de_ (hK _ ?_);have q6:=hL;have g6:=hG;clear hG;clear hC hK K hL)
    rw [moreQ_eq (by dsimp only;omega)] at hr
    (have hC:=rtake_l l (by omega) en ⟨a6,b6⟩ q6 ⟨#[44]⟩;have hL:=takeQ_len (l:=l) (s:=⟨#[44]⟩) (r:=⟨a6,b6⟩) q6 (by decide);have ht:=takeQ_true (l:=l) (s:=⟨#[44]⟩) (r:=⟨a6,b6⟩);generalize takeQ l ⟨#[44]⟩ ⟨a6,b6⟩=xx at hr hC hL ht;obtain ⟨t,a9,b9⟩:=xx;(try dsimp only at hr hC hL ht);unfold rdH at hC;(try dsimp only at hC);(try simp only [vE_eta,vV] at hC);refine rn_ 0 an0 fun K hK=>?_;refine rx_ an0 ?_;refine lk_ 1000 an0 hC ?_;refine rx_ an0 ?_;refine rwr_nil (hK _ ?_);have q9:=hL;clear hC hK K hL;cases t <;> ((first | rw [if_pos rfl] at hr | rw [if_neg Bool.false_ne_true] at hr) <;> (try dsimp only at hr)))
    ·refine gs_ ?_
     exact ⟨f,by omega,_,.inr ⟨R++[fn],a9,b9,false,q9,hr,.inl rfl,rfl⟩,lf_ (an2 litS_ lenS_)⟩
    ·have ht:=ht rfl
     injection ht with ha hb
     subst hb
     refine gs_ ?_
     refine ⟨f,by omega,_,.inl ⟨R++[fn],a9,f - 1,by omega,by simp;omega,q9,by omega,?_,rfl⟩,lf_ (an2 litS_ lenS_)⟩
     simp only [List.append_assoc,List.cons_append,List.nil_append]
     exact hr
   ·unfold rsS
    rcases hmo with rfl | ⟨rfl,rfl⟩
    all_goals
     refine au_ an0 ?_
     refine hs_meltb 1000 14 29 ?_
     subst hr
     exact hs_fit (an2 litS_ lenS_) ⟨_,_,_,qa,rfl,rfl⟩
  ·refine gs_ ?_
   subst hr
   exact hs_fit an0 ⟨_,_,_,qL,rfl,rfl⟩
 ·rintro sM ⟨fs,a2,b2,q2,rfl,rfl⟩
  clear hF
  unfold rsS
  dsimp only at hr
  refine gs_ ?_
  (have hC:=rneed_l l (by omega) en ⟨a2,b2⟩ q2 ⟨#[102,114,111,109]⟩;have hL:=needQ_len (l:=l) (s:=⟨#[102,114,111,109]⟩) (r:=⟨a2,b2⟩) q2 (by decide);generalize needQ l ⟨#[102,114,111,109]⟩ ⟨a2,b2⟩=xx at hr hC hL;obtain ⟨a3,b3⟩:=xx;(try dsimp only at hr hC hL);unfold rdH at hC;(try dsimp only at hC);(try simp only [vE_eta,vV] at hC);refine rn_ 0 an0 fun K hK=>?_;refine rx_ an0 ?_;refine lk_ 1000 an0 hC ?_;refine rx_ an0 ?_;refine rwr_nil (hK _ ?_);have q3:=hL;clear hC hK K hL)
  refine gs_ ?_
  (have hC:=rname_l l (by omega) en ⟨a3,b3⟩ q3 (by have:=txQ_size hl ⟨a3,b3⟩;unfold maxLen;omega);have hL:=nameQ_len (l:=l) (r:=⟨a3,b3⟩) q3;have hG:=nameQ_ge (l:=l) (r:=⟨a3,b3⟩);generalize nameQ l ⟨a3,b3⟩=xx at hr hC hL hG;obtain ⟨nm,a4,b4⟩:=xx;(try dsimp only at hr hC hL hG);unfold rdH at hC;(try dsimp only at hC);(try simp only [vE_eta,vV] at hC);refine rn_ 0 an0 fun K hK=>?_;refine rx_ an0 ?_;refine lk_ 1000 an0 hC ?_;refine rx_ an0 ?_;refine rwr_nil (hK _ ?_);have q4:=hL;have g4:=hG;clear hG;clear hC hK K hL)
  unfold selectW at hr
  refine gs_ ?_
  (have hC:=rwhere_io l hl en ⟨a4,b4⟩ q4 (.t true (.lit (.int .i64 13))) (.t true (.lit (.string nm))) (.t false (.lit (.string .empty))) (.t false (.lit (.string .empty))) .nil (.t false (.lit (.int .i64 0))) (.t false (.lit (.int .i64 0))) (.t false (.lit (.int .i64 0))) (.t false (.lit (.string .empty))) .nil (.t true (.sl (rS fs))) (.t false (.lit (.int .i64 0))) (.t false (.lit (.int .i64 0))) (.t false (.lit (.int .i64 0))) (.t false (.lit (.string .empty))) (.t false (.lit (.string .empty))) .nil (.t false (.lit (.string .empty))) (.t false (.lit (.int .i64 0))) rfl;have hL:=whereQ_len (l:=l) (r:=⟨a4,b4⟩) q4;generalize whereQ l ⟨a4,b4⟩=xx at hr hC hL;obtain ⟨w,a5,b5⟩:=xx;(try dsimp only at hr hC hL);unfold rdH at hC;(try dsimp only at hC);refine rn_ 0 an0 fun K hK=>?_;refine rx_ an0 ?_;refine qio_ an0 (SpIO.ren hC [(1000,1000)] rfl) ?_;refine rx_ an0 ?_;refine rwr_nil (hK _ ?_);have q5:=hL;clear hC hK K hL)
  unfold orderQ limitQ at hr
  refine gs_ ?_
  (have hC:=rtake_l l (by omega) en ⟨a5,b5⟩ q5 ⟨#[111,114,100,101,114]⟩;have hL:=takeQ_len (l:=l) (s:=⟨#[111,114,100,101,114]⟩) (r:=⟨a5,b5⟩) q5 (by decide);generalize takeQ l ⟨#[111,114,100,101,114]⟩ ⟨a5,b5⟩=xx at hr hC hL;obtain ⟨t,a6,b6⟩:=xx;(try dsimp only at hr hC hL);unfold rdH at hC;(try dsimp only at hC);(try simp only [vE_eta,vV] at hC);refine rn_ 0 an0 fun K hK=>?_;refine rx_ an0 ?_;refine lk_ 1000 an0 hC ?_;refine rx_ an0 ?_;refine rwr_nil (hK _ ?_);have q6:=hL;clear hC hK K hL;cases t <;> ((first | rw [if_pos rfl] at hr | rw [if_neg Bool.false_ne_true] at hr) <;> (try dsimp only at hr)))
  ·refine au_ an0 ?_
   (have hC:=rtake_l l (by omega) en ⟨a6,b6⟩ q6 ⟨#[108,105,109,105,116]⟩;have hL:=takeQ_len (l:=l) (s:=⟨#[108,105,109,105,116]⟩) (r:=⟨a6,b6⟩) q6 (by decide);generalize takeQ l ⟨#[108,105,109,105,116]⟩ ⟨a6,b6⟩=xx at hr hC hL;obtain ⟨t,a7,b7⟩:=xx;(try dsimp only at hr hC hL);unfold rdH at hC;(try dsimp only at hC);(try simp only [vE_eta,vV] at hC);refine rn_ 0 an0 fun K hK=>?_;refine rx_ an0 ?_;refine lk_ 1000 an0 hC ?_;refine rx_ an0 ?_;refine rwr_nil (hK _ ?_);have q7:=hL;clear hC hK K hL;cases t <;> ((first | rw [if_pos rfl] at hr | rw [if_neg Bool.false_ne_true] at hr) <;> (try dsimp only at hr)))
   ·refine au_ an0 ?_
    (subst hr;(try simp only [vE_eta,vV,cmC,zE,zCm,Ex.k,Ex.vk,Ex.nm,Ex.ar,List.map_cons,List.map_nil,rE_eta,Vl.zero]))
    exact oj_ an0 (.inr rfl)
   ·refine gs_ ?_
    (have hC:=rnumber_l l hl en ⟨a7,b7⟩ q7;have hL:=numQ_len (l:=l) (r:=⟨a7,b7⟩) q7;have hG:=numQ_ge (l:=l) (r:=⟨a7,b7⟩);generalize numQ l ⟨a7,b7⟩=xx at hr hC hL hG;obtain ⟨n,a8,b8⟩:=xx;(try dsimp only at hr hC hL hG);unfold rdH at hC;(try dsimp only at hC);(try simp only [vE_eta,vV] at hC);refine rn_ 0 an0 fun K hK=>?_;refine rx_ an0 ?_;refine lk_ 1000 an0 hC ?_;refine rx_ an0 ?_;refine rwr_nil (hK _ ?_);have q8:=hL;have g8:=hG;clear hG;clear hC hK K hL)
    refine au_ an0 ?_
    (subst hr;(try simp only [vE_eta,vV,cmC,zE,zCm,Ex.k,Ex.vk,Ex.nm,Ex.ar,List.map_cons,List.map_nil,rE_eta,Vl.zero]))
    exact oj_ an0 (.inr rfl)
  ·refine gs_ ?_
   (have hC:=rneed_l l (by omega) en ⟨a6,b6⟩ q6 ⟨#[98,121]⟩;have hL:=needQ_len (l:=l) (s:=⟨#[98,121]⟩) (r:=⟨a6,b6⟩) q6 (by decide);generalize needQ l ⟨#[98,121]⟩ ⟨a6,b6⟩=xx at hr hC hL;obtain ⟨a7,b7⟩:=xx;(try dsimp only at hr hC hL);unfold rdH at hC;(try dsimp only at hC);(try simp only [vE_eta,vV] at hC);refine rn_ 0 an0 fun K hK=>?_;refine rx_ an0 ?_;refine lk_ 1000 an0 hC ?_;refine rx_ an0 ?_;refine rwr_nil (hK _ ?_);have q7:=hL;clear hC hK K hL)
   refine gs_ ?_
   (have hC:=rname_l l (by omega) en ⟨a7,b7⟩ q7 (by have:=txQ_size hl ⟨a7,b7⟩;unfold maxLen;omega);have hL:=nameQ_len (l:=l) (r:=⟨a7,b7⟩) q7;have hG:=nameQ_ge (l:=l) (r:=⟨a7,b7⟩);generalize nameQ l ⟨a7,b7⟩=xx at hr hC hL hG;obtain ⟨od,a8,b8⟩:=xx;(try dsimp only at hr hC hL hG);unfold rdH at hC;(try dsimp only at hC);(try simp only [vE_eta,vV] at hC);refine rn_ 0 an0 fun K hK=>?_;refine rx_ an0 ?_;refine lk_ 1000 an0 hC ?_;refine rx_ an0 ?_;refine rwr_nil (hK _ ?_);have q8:=hL;have g8:=hG;clear hG;clear hC hK K hL)
   refine au_ an0 ?_
   (have hC:=rtake_l l (by omega) en ⟨a8,b8⟩ q8 ⟨#[108,105,109,105,116]⟩;have hL:=takeQ_len (l:=l) (s:=⟨#[108,105,109,105,116]⟩) (r:=⟨a8,b8⟩) q8 (by decide);generalize takeQ l ⟨#[108,105,109,105,116]⟩ ⟨a8,b8⟩=xx at hr hC hL;obtain ⟨t,a9,b9⟩:=xx;(try dsimp only at hr hC hL);unfold rdH at hC;(try dsimp only at hC);(try simp only [vE_eta,vV] at hC);refine rn_ 0 an0 fun K hK=>?_;refine rx_ an0 ?_;refine lk_ 1000 an0 hC ?_;refine rx_ an0 ?_;refine rwr_nil (hK _ ?_);have q9:=hL;clear hC hK K hL;cases t <;> ((first | rw [if_pos rfl] at hr | rw [if_neg Bool.false_ne_true] at hr) <;> (try dsimp only at hr)))
   ·refine au_ an0 ?_
    (subst hr;(try simp only [vE_eta,vV,cmC,zE,zCm,Ex.k,Ex.vk,Ex.nm,Ex.ar,List.map_cons,List.map_nil,rE_eta,Vl.zero]))
    exact oj_ an0 (.inr rfl)
   ·refine gs_ ?_
    (have hC:=rnumber_l l hl en ⟨a9,b9⟩ q9;have hL:=numQ_len (l:=l) (r:=⟨a9,b9⟩) q9;have hG:=numQ_ge (l:=l) (r:=⟨a9,b9⟩);generalize numQ l ⟨a9,b9⟩=xx at hr hC hL hG;obtain ⟨n,a10,b10⟩:=xx;(try dsimp only at hr hC hL hG);unfold rdH at hC;(try dsimp only at hC);(try simp only [vE_eta,vV] at hC);refine rn_ 0 an0 fun K hK=>?_;refine rx_ an0 ?_;refine lk_ 1000 an0 hC ?_;refine rx_ an0 ?_;refine rwr_nil (hK _ ?_);have q10:=hL;have g10:=hG;clear hG;clear hC hK K hL)
    refine au_ an0 ?_
    (subst hr;(try simp only [vE_eta,vV,cmC,zE,zCm,Ex.k,Ex.vk,Ex.nm,Ex.ar,List.map_cons,List.map_nil,rE_eta,Vl.zero]))
    exact oj_ an0 (.inr rfl)
end Go.Proofs.YtjdgejfhnfnmgaaGreatDoor.Ax
namespace Go.Proofs.YtjdgejfhnfnmgaaGreatDoor.Ax
open Go.RowKit Go.Sort
set_option linter.unusedSimpArgs false
attribute [local go_sem] ty3 ty4 ty9 ty5 ty26 ty24 ty29 ty27 ty54 ty22 ty25 ty31 ty77 ty43 ty69 ty101 crC seC wOpen wShut
set_option linter.unusedVariables false
set_option maxRecDepth 100000
def rnS (l:List Vl) (en:Int) (a:Nat) (b:Bool) (nm:ByteArray) (c9:C) (more:List (Nat × V)) (bl:List (Nat × B)):St:=⟨more++[(0,.one (.optr 1000 0))],(1000,.var 69 ([.t false (.sl (rVs l)),.t false (.lit (.int .i64 a)),.t false (.lit (.int .i64 en)),.t false (.lit (.bool b))]++crC 10 nm .nil c9)) :: bl⟩
attribute [local go_sem] rnS
def rnI (l:List Vl) (en:Int) (nm:ByteArray) (FR:List Vl × RS) (m:Nat) (st:St):Prop :=
 (∃ (R:List Vl) (a f:Nat),m=f + 1∧R.length + m≤4000∧a≤l.length∧l.length≤a + f∧(R++(vQ l ⟨a,false⟩).1 :: (moreQ l (vQ l) f (vQ l ⟨a,false⟩).2).1,(moreQ l (vQ l) f (vQ l ⟨a,false⟩).2).2)=FR∧st=rnS l en a false nm (.own 79 R.length) [(2,.one (.t true (.lit (.bool true))))] [(79,.arr 24 3 true (rVs R))]) ∨
 ∃ (R:List Vl) (a:Nat) (b mo:Bool),a≤l.length∧(R,(⟨a,b⟩:RS))=FR∧(mo=false ∨ mo=true∧b=true)∧st=rnS l en a b nm (.own 79 R.length) [(2,.one (.t true (.lit (.bool mo))))] [(79,.arr 24 3 true (rVs R))]
theorem rnI_start {l:List Vl} (hl:l.length≤2000) {en:Int} {nm:ByteArray} {FR:List Vl × RS} {a:Nat} {b:Bool} (q:a≤l.length) (h:someQ l (vQ l) ⟨a,b⟩=FR):rnI l en nm FR (l.length + 2) (rnS l en a b nm (.own 79 ([]:List Vl).length) [(2,.one (.t true (.lit (.bool true))))] [(79,.arr 24 3 true (rVs ([]:List Vl)))]):=by
 unfold someQ at h
 cases b with
 | false =>
  rw [if_neg Bool.false_ne_true] at h
  exact .inl ⟨[],a,l.length + 1,rfl,by simp;omega,q,by omega,h,rfl⟩
 | true =>
  rw [if_pos rfl] at h
  exact .inr ⟨[],a,true,true,q,h,.inr ⟨rfl,rfl⟩,rfl⟩
theorem cmdW_cons (l:List Vl) (s:ByteArray) (f:RS→Cm × RS) (ps:List (ByteArray × (RS→Cm × RS))) (e:ByteArray × (RS→Cm × RS)) (r:RS):cmdW l ((s,f) :: ps) e r=if (takeQ l s r).1=true then f (takeQ l s r).2 else cmdW l ps e (takeQ l s r).2:=rfl
theorem cmdW_nil (l:List Vl) (s:ByteArray) (f:RS→Cm × RS) (r:RS):cmdW l [] (s,f) r=f (needQ l s r):=rfl
attribute [local go_sem] litV_ lenV_
set_option maxHeartbeats 64000000 in
theorem rcmd_io (l:List Vl) (hl:GoodL l) (en:Int) (r:RS) (q0:r.at_≤l.length):SpIO Tryz.prog 42 [.one (.optr 1000 0)] [(1000,.var 69 (rdH l en r++zC))] (.tup []) [(1000,.var 69 (rdH l en (cmdQ l r).2++cmC (cmdQ l r).1))] [1000]:=by
 have hll:=hl.len
 obtain ⟨a0,b0⟩:=r
 dsimp only at q0
 generalize hr:cmdQ l ⟨a0,b0⟩=out
 unfold cmdQ at hr
 unfold rdH zC
 dsimp only
 (refine ei_ Tryz.func42 Tryz.ntmps42 Tryz.results42 fun X hX=>?_)
 rw [cmdW_cons] at hr
 refine gs_ ?_
 (have hC:=rtake_l l (by omega) en ⟨a0,b0⟩ q0 ⟨#[99,114,101,97,116,101]⟩;have hL:=takeQ_len (l:=l) (s:=⟨#[99,114,101,97,116,101]⟩) (r:=⟨a0,b0⟩) q0 (by decide);generalize takeQ l ⟨#[99,114,101,97,116,101]⟩ ⟨a0,b0⟩=xx at hr hC hL;obtain ⟨t,a1,b1⟩:=xx;(try dsimp only at hr hC hL);unfold rdH at hC;(try dsimp only at hC);(try simp only [vE_eta,vV] at hC);refine rn_ 0 an0 fun K hK=>?_;refine rx_ an0 ?_;refine lk_ 1000 an0 hC ?_;refine rx_ an0 ?_;refine rwr_nil (hK _ ?_);have q1:=hL;clear hC hK K hL;cases t <;> ((first | rw [if_pos rfl] at hr | rw [if_neg Bool.false_ne_true] at hr) <;> (try dsimp only at hr)))
 ·rw [cmdW_cons] at hr
  refine gs_ ?_
  (have hC:=rtake_l l (by omega) en ⟨a1,b1⟩ q1 ⟨#[100,114,111,112]⟩;have hL:=takeQ_len (l:=l) (s:=⟨#[100,114,111,112]⟩) (r:=⟨a1,b1⟩) q1 (by decide);generalize takeQ l ⟨#[100,114,111,112]⟩ ⟨a1,b1⟩=xx at hr hC hL;obtain ⟨t,a2,b2⟩:=xx;(try dsimp only at hr hC hL);unfold rdH at hC;(try dsimp only at hC);(try simp only [vE_eta,vV] at hC);refine rn_ 0 an0 fun K hK=>?_;refine rx_ an0 ?_;refine lk_ 1000 an0 hC ?_;refine rx_ an0 ?_;refine rwr_nil (hK _ ?_);have q2:=hL;clear hC hK K hL;cases t <;> ((first | rw [if_pos rfl] at hr | rw [if_neg Bool.false_ne_true] at hr) <;> (try dsimp only at hr)))
  ·rw [cmdW_cons] at hr
   refine gs_ ?_
   (have hC:=rtake_l l (by omega) en ⟨a2,b2⟩ q2 ⟨#[97,108,116,101,114]⟩;have hL:=takeQ_len (l:=l) (s:=⟨#[97,108,116,101,114]⟩) (r:=⟨a2,b2⟩) q2 (by decide);generalize takeQ l ⟨#[97,108,116,101,114]⟩ ⟨a2,b2⟩=xx at hr hC hL;obtain ⟨t,a3,b3⟩:=xx;(try dsimp only at hr hC hL);unfold rdH at hC;(try dsimp only at hC);(try simp only [vE_eta,vV] at hC);refine rn_ 0 an0 fun K hK=>?_;refine rx_ an0 ?_;refine lk_ 1000 an0 hC ?_;refine rx_ an0 ?_;refine rwr_nil (hK _ ?_);have q3:=hL;clear hC hK K hL;cases t <;> ((first | rw [if_pos rfl] at hr | rw [if_neg Bool.false_ne_true] at hr) <;> (try dsimp only at hr)))
   ·rw [cmdW_cons] at hr
    refine gs_ ?_
    (have hC:=rtake_l l (by omega) en ⟨a3,b3⟩ q3 ⟨#[105,110,115,101,114,116]⟩;have hL:=takeQ_len (l:=l) (s:=⟨#[105,110,115,101,114,116]⟩) (r:=⟨a3,b3⟩) q3 (by decide);generalize takeQ l ⟨#[105,110,115,101,114,116]⟩ ⟨a3,b3⟩=xx at hr hC hL;obtain ⟨t,a4,b4⟩:=xx;(try dsimp only at hr hC hL);unfold rdH at hC;(try dsimp only at hC);(try simp only [vE_eta,vV] at hC);refine rn_ 0 an0 fun K hK=>?_;refine rx_ an0 ?_;refine lk_ 1000 an0 hC ?_;refine rx_ an0 ?_;refine rwr_nil (hK _ ?_);have q4:=hL;clear hC hK K hL;cases t <;> ((first | rw [if_pos rfl] at hr | rw [if_neg Bool.false_ne_true] at hr) <;> (try dsimp only at hr)))
    ·rw [cmdW_cons] at hr
     refine gs_ ?_
     (have hC:=rtake_l l (by omega) en ⟨a4,b4⟩ q4 ⟨#[100,101,108,101,116,101]⟩;have hL:=takeQ_len (l:=l) (s:=⟨#[100,101,108,101,116,101]⟩) (r:=⟨a4,b4⟩) q4 (by decide);generalize takeQ l ⟨#[100,101,108,101,116,101]⟩ ⟨a4,b4⟩=xx at hr hC hL;obtain ⟨t,a5,b5⟩:=xx;(try dsimp only at hr hC hL);unfold rdH at hC;(try dsimp only at hC);(try simp only [vE_eta,vV] at hC);refine rn_ 0 an0 fun K hK=>?_;refine rx_ an0 ?_;refine lk_ 1000 an0 hC ?_;refine rx_ an0 ?_;refine rwr_nil (hK _ ?_);have q5:=hL;clear hC hK K hL;cases t <;> ((first | rw [if_pos rfl] at hr | rw [if_neg Bool.false_ne_true] at hr) <;> (try dsimp only at hr)))
     ·rw [cmdW_cons] at hr
      refine gs_ ?_
      (have hC:=rtake_l l (by omega) en ⟨a5,b5⟩ q5 ⟨#[117,112,100,97,116,101]⟩;have hL:=takeQ_len (l:=l) (s:=⟨#[117,112,100,97,116,101]⟩) (r:=⟨a5,b5⟩) q5 (by decide);generalize takeQ l ⟨#[117,112,100,97,116,101]⟩ ⟨a5,b5⟩=xx at hr hC hL;obtain ⟨t,a6,b6⟩:=xx;(try dsimp only at hr hC hL);unfold rdH at hC;(try dsimp only at hC);(try simp only [vE_eta,vV] at hC);refine rn_ 0 an0 fun K hK=>?_;refine rx_ an0 ?_;refine lk_ 1000 an0 hC ?_;refine rx_ an0 ?_;refine rwr_nil (hK _ ?_);have q6:=hL;clear hC hK K hL;cases t <;> ((first | rw [if_pos rfl] at hr | rw [if_neg Bool.false_ne_true] at hr) <;> (try dsimp only at hr)))
      ·rw [cmdW_cons] at hr
       refine gs_ ?_
       (have hC:=rtake_l l (by omega) en ⟨a6,b6⟩ q6 ⟨#[115,101,108,101,99,116]⟩;have hL:=takeQ_len (l:=l) (s:=⟨#[115,101,108,101,99,116]⟩) (r:=⟨a6,b6⟩) q6 (by decide);generalize takeQ l ⟨#[115,101,108,101,99,116]⟩ ⟨a6,b6⟩=xx at hr hC hL;obtain ⟨t,a7,b7⟩:=xx;(try dsimp only at hr hC hL);unfold rdH at hC;(try dsimp only at hC);(try simp only [vE_eta,vV] at hC);refine rn_ 0 an0 fun K hK=>?_;refine rx_ an0 ?_;refine lk_ 1000 an0 hC ?_;refine rx_ an0 ?_;refine rwr_nil (hK _ ?_);have q7:=hL;clear hC hK K hL;cases t <;> ((first | rw [if_pos rfl] at hr | rw [if_neg Bool.false_ne_true] at hr) <;> (try dsimp only at hr)))
       ·rw [cmdW_cons] at hr
        refine gs_ ?_
        (have hC:=rtake_l l (by omega) en ⟨a7,b7⟩ q7 ⟨#[98,101,103,105,110]⟩;have hL:=takeQ_len (l:=l) (s:=⟨#[98,101,103,105,110]⟩) (r:=⟨a7,b7⟩) q7 (by decide);generalize takeQ l ⟨#[98,101,103,105,110]⟩ ⟨a7,b7⟩=xx at hr hC hL;obtain ⟨t,a8,b8⟩:=xx;(try dsimp only at hr hC hL);unfold rdH at hC;(try dsimp only at hC);(try simp only [vE_eta,vV] at hC);refine rn_ 0 an0 fun K hK=>?_;refine rx_ an0 ?_;refine lk_ 1000 an0 hC ?_;refine rx_ an0 ?_;refine rwr_nil (hK _ ?_);have q8:=hL;clear hC hK K hL;cases t <;> ((first | rw [if_pos rfl] at hr | rw [if_neg Bool.false_ne_true] at hr) <;> (try dsimp only at hr)))
        ·rw [cmdW_cons] at hr
         refine gs_ ?_
         (have hC:=rtake_l l (by omega) en ⟨a8,b8⟩ q8 ⟨#[99,111,109,109,105,116]⟩;have hL:=takeQ_len (l:=l) (s:=⟨#[99,111,109,109,105,116]⟩) (r:=⟨a8,b8⟩) q8 (by decide);generalize takeQ l ⟨#[99,111,109,109,105,116]⟩ ⟨a8,b8⟩=xx at hr hC hL;obtain ⟨t,a9,b9⟩:=xx;(try dsimp only at hr hC hL);unfold rdH at hC;(try dsimp only at hC);(try simp only [vE_eta,vV] at hC);refine rn_ 0 an0 fun K hK=>?_;refine rx_ an0 ?_;refine lk_ 1000 an0 hC ?_;refine rx_ an0 ?_;refine rwr_nil (hK _ ?_);have q9:=hL;clear hC hK K hL;cases t <;> ((first | rw [if_pos rfl] at hr | rw [if_neg Bool.false_ne_true] at hr) <;> (try dsimp only at hr)))
         ·rw [cmdW_nil] at hr
          refine gs_ ?_
          (have hC:=rneed_l l (by omega) en ⟨a9,b9⟩ q9 ⟨#[114,111,108,108,98,97,99,107]⟩;have hL:=needQ_len (l:=l) (s:=⟨#[114,111,108,108,98,97,99,107]⟩) (r:=⟨a9,b9⟩) q9 (by decide);generalize needQ l ⟨#[114,111,108,108,98,97,99,107]⟩ ⟨a9,b9⟩=xx at hr hC hL;obtain ⟨y,z⟩:=xx;(try dsimp only at hr hC hL);unfold rdH at hC;(try dsimp only at hC);(try simp only [vE_eta,vV] at hC);refine rn_ 0 an0 fun K hK=>?_;refine rx_ an0 ?_;refine lk_ 1000 an0 hC ?_;refine rx_ an0 ?_;refine rwr_nil (hK _ ?_);have q:=hL;clear hC hK K hL)
          refine au_ an0 ?_
          (subst hr;(try simp only [vE_eta,vV,cmC,zE,zCm,Ex.k,Ex.vk,Ex.nm,Ex.ar,List.map_cons,List.map_nil,rE_eta,Vl.zero]))
          exact oj_ an0 (.inr rfl)
         ·refine au_ an0 ?_
          (subst hr;(try simp only [vE_eta,vV,cmC,zE,zCm,Ex.k,Ex.vk,Ex.nm,Ex.ar,List.map_cons,List.map_nil,rE_eta,Vl.zero]))
          exact oj_ an0 (.inr rfl)
        ·refine au_ an0 ?_
         (subst hr;(try simp only [vE_eta,vV,cmC,zE,zCm,Ex.k,Ex.vk,Ex.nm,Ex.ar,List.map_cons,List.map_nil,rE_eta,Vl.zero]))
         exact oj_ an0 (.inr rfl)
       ·refine gs_ ?_
        (have hC:=rselect_io l hl en ⟨a7,b7⟩ q7;generalize selectQ l ⟨a7,b7⟩=xx at hr hC;obtain ⟨c,y,z⟩:=xx;(try dsimp only at hr hC);unfold rdH zC cmC at hC;(try dsimp only at hC);refine rn_ 0 an0 fun K hK=>?_;refine rx_ an0 ?_;refine qio_ an0 (SpIO.ren hC [(1000,1000)] rfl) ?_;refine rx_ an0 ?_;refine rwr_nil (hK _ ?_);clear hC hK K)
        refine au_ an0 ?_
        (subst hr;(try simp only [vE_eta,vV,cmC,zE,zCm,Ex.k,Ex.vk,Ex.nm,Ex.ar,List.map_cons,List.map_nil,rE_eta,Vl.zero]))
        exact oj_ an0 (.inr rfl)
      ·unfold updateQ at hr
       refine au_ an0 ?_
       (have hC:=rname_l l (by omega) en ⟨a6,b6⟩ q6 (by have:=txQ_size hl ⟨a6,b6⟩;unfold maxLen;omega);have hL:=nameQ_len (l:=l) (r:=⟨a6,b6⟩) q6;have hG:=nameQ_ge (l:=l) (r:=⟨a6,b6⟩);generalize nameQ l ⟨a6,b6⟩=xx at hr hC hL hG;obtain ⟨nm,a21,b21⟩:=xx;(try dsimp only at hr hC hL hG);unfold rdH at hC;(try dsimp only at hC);(try simp only [vE_eta,vV] at hC);refine rn_ 0 an0 fun K hK=>?_;refine rx_ an0 ?_;refine lk_ 1000 an0 hC ?_;refine rx_ an0 ?_;refine rwr_nil (hK _ ?_);have q21:=hL;have g21:=hG;clear hG;clear hC hK K hL)
       refine gs_ ?_
       (have hC:=rneed_l l (by omega) en ⟨a21,b21⟩ q21 ⟨#[115,101,116]⟩;have hL:=needQ_len (l:=l) (s:=⟨#[115,101,116]⟩) (r:=⟨a21,b21⟩) q21 (by decide);generalize needQ l ⟨#[115,101,116]⟩ ⟨a21,b21⟩=xx at hr hC hL;obtain ⟨a22,b22⟩:=xx;(try dsimp only at hr hC hL);unfold rdH at hC;(try dsimp only at hC);(try simp only [vE_eta,vV] at hC);refine rn_ 0 an0 fun K hK=>?_;refine rx_ an0 ?_;refine lk_ 1000 an0 hC ?_;refine rx_ an0 ?_;refine rwr_nil (hK _ ?_);have q22:=hL;clear hC hK K hL)
       refine gs_ ?_
       (have hC:=rname_l l (by omega) en ⟨a22,b22⟩ q22 (by have:=txQ_size hl ⟨a22,b22⟩;unfold maxLen;omega);have hL:=nameQ_len (l:=l) (r:=⟨a22,b22⟩) q22;have hG:=nameQ_ge (l:=l) (r:=⟨a22,b22⟩);generalize nameQ l ⟨a22,b22⟩=xx at hr hC hL hG;obtain ⟨cl,a23,b23⟩:=xx;(try dsimp only at hr hC hL hG);unfold rdH at hC;(try dsimp only at hC);(try simp only [vE_eta,vV] at hC);refine rn_ 0 an0 fun K hK=>?_;refine rx_ an0 ?_;refine lk_ 1000 an0 hC ?_;refine rx_ an0 ?_;refine rwr_nil (hK _ ?_);have q23:=hL;have g23:=hG;clear hG;clear hC hK K hL)
       refine gs_ ?_
       (have hC:=rneed_l l (by omega) en ⟨a23,b23⟩ q23 ⟨#[61]⟩;have hL:=needQ_len (l:=l) (s:=⟨#[61]⟩) (r:=⟨a23,b23⟩) q23 (by decide);generalize needQ l ⟨#[61]⟩ ⟨a23,b23⟩=xx at hr hC hL;obtain ⟨a24,b24⟩:=xx;(try dsimp only at hr hC hL);unfold rdH at hC;(try dsimp only at hC);(try simp only [vE_eta,vV] at hC);refine rn_ 0 an0 fun K hK=>?_;refine rx_ an0 ?_;refine lk_ 1000 an0 hC ?_;refine rx_ an0 ?_;refine rwr_nil (hK _ ?_);have q24:=hL;clear hC hK K hL)
       unfold updateE at hr
       refine gs_ ?_
       (have hC:=rexpr0 l hl en ⟨a24,b24⟩ q24;have hL:=exQ_len (l:=l) 60 (r:=⟨a24,b24⟩) q24;generalize exQ l 60 ⟨a24,b24⟩=xx at hr hC hL;obtain ⟨e,a25,b25⟩:=xx;(try dsimp only at hr hC hL);unfold rdH at hC;(try dsimp only at hC);(try simp only [vE_eta,vV] at hC);refine rn_ 0 an0 fun K hK=>?_;refine rx_ an0 ?_;refine lk_ 1000 an0 hC ?_;refine rx_ an0 ?_;refine rwr_nil (hK _ ?_);have q25:=hL;clear hC hK K hL)
       refine gs_ ?_
       (have hC:=rwhere_io l hl en ⟨a25,b25⟩ q25 (.t true (.lit (.int .i64 12))) (.t true (.lit (.string nm))) (.t false (.lit (.string .empty))) (.t true (.lit (.string cl))) .nil (.t false (.lit (.int .i64 0))) (.t false (.lit (.int .i64 0))) (.t false (.lit (.int .i64 0))) (.t false (.lit (.string .empty))) .nil .nil (.t true (.lit (.int .i64 e.k))) (.t true (.lit (.int .i64 e.vk.k))) (.t true (.lit (.int .i64 e.vk.n))) (.t true (.lit (.string e.vk.s))) (.t true (.lit (.string e.nm))) (.t true (.sl (e.ar.map rE))) (.t false (.lit (.string .empty))) (.t false (.lit (.int .i64 0))) rfl;have hL:=whereQ_len (l:=l) (r:=⟨a25,b25⟩) q25;generalize whereQ l ⟨a25,b25⟩=xx at hr hC hL;obtain ⟨w,a26,b26⟩:=xx;(try dsimp only at hr hC hL);unfold rdH at hC;(try dsimp only at hC);refine rn_ 0 an0 fun K hK=>?_;refine rx_ an0 ?_;refine qio_ an0 (SpIO.ren hC [(1000,1000)] rfl) ?_;refine rx_ an0 ?_;refine rwr_nil (hK _ ?_);have q26:=hL;clear hC hK K hL)
       refine au_ an0 ?_
       (subst hr;(try simp only [vE_eta,vV,cmC,zE,zCm,Ex.k,Ex.vk,Ex.nm,Ex.ar,List.map_cons,List.map_nil,rE_eta,Vl.zero]))
       exact oj_ an0 (.inr rfl)
     ·unfold deleteQ at hr
      refine au_ an0 ?_
      (have hC:=rneed_l l (by omega) en ⟨a5,b5⟩ q5 ⟨#[102,114,111,109]⟩;have hL:=needQ_len (l:=l) (s:=⟨#[102,114,111,109]⟩) (r:=⟨a5,b5⟩) q5 (by decide);generalize needQ l ⟨#[102,114,111,109]⟩ ⟨a5,b5⟩=xx at hr hC hL;obtain ⟨a21,b21⟩:=xx;(try dsimp only at hr hC hL);unfold rdH at hC;(try dsimp only at hC);(try simp only [vE_eta,vV] at hC);refine rn_ 0 an0 fun K hK=>?_;refine rx_ an0 ?_;refine lk_ 1000 an0 hC ?_;refine rx_ an0 ?_;refine rwr_nil (hK _ ?_);have q21:=hL;clear hC hK K hL)
      refine gs_ ?_
      (have hC:=rname_l l (by omega) en ⟨a21,b21⟩ q21 (by have:=txQ_size hl ⟨a21,b21⟩;unfold maxLen;omega);have hL:=nameQ_len (l:=l) (r:=⟨a21,b21⟩) q21;have hG:=nameQ_ge (l:=l) (r:=⟨a21,b21⟩);generalize nameQ l ⟨a21,b21⟩=xx at hr hC hL hG;obtain ⟨nm,a22,b22⟩:=xx;(try dsimp only at hr hC hL hG);unfold rdH at hC;(try dsimp only at hC);(try simp only [vE_eta,vV] at hC);refine rn_ 0 an0 fun K hK=>?_;refine rx_ an0 ?_;refine lk_ 1000 an0 hC ?_;refine rx_ an0 ?_;refine rwr_nil (hK _ ?_);have q22:=hL;have g22:=hG;clear hG;clear hC hK K hL)
      refine gs_ ?_
      (have hC:=rwhere_io l hl en ⟨a22,b22⟩ q22 (.t true (.lit (.int .i64 11))) (.t true (.lit (.string nm))) (.t false (.lit (.string .empty))) (.t false (.lit (.string .empty))) .nil (.t false (.lit (.int .i64 0))) (.t false (.lit (.int .i64 0))) (.t false (.lit (.int .i64 0))) (.t false (.lit (.string .empty))) .nil .nil (.t false (.lit (.int .i64 0))) (.t false (.lit (.int .i64 0))) (.t false (.lit (.int .i64 0))) (.t false (.lit (.string .empty))) (.t false (.lit (.string .empty))) .nil (.t false (.lit (.string .empty))) (.t false (.lit (.int .i64 0))) rfl;have hL:=whereQ_len (l:=l) (r:=⟨a22,b22⟩) q22;generalize whereQ l ⟨a22,b22⟩=xx at hr hC hL;obtain ⟨w,a23,b23⟩:=xx;(try dsimp only at hr hC hL);unfold rdH at hC;(try dsimp only at hC);refine rn_ 0 an0 fun K hK=>?_;refine rx_ an0 ?_;refine qio_ an0 (SpIO.ren hC [(1000,1000)] rfl) ?_;refine rx_ an0 ?_;refine rwr_nil (hK _ ?_);have q23:=hL;clear hC hK K hL)
      refine au_ an0 ?_
      (subst hr;(try simp only [vE_eta,vV,cmC,zE,zCm,Ex.k,Ex.vk,Ex.nm,Ex.ar,List.map_cons,List.map_nil,rE_eta,Vl.zero]))
      exact oj_ an0 (.inr rfl)
    ·unfold insertQ at hr
     refine au_ an0 ?_
     (have hC:=rneed_l l (by omega) en ⟨a4,b4⟩ q4 ⟨#[105,110,116,111]⟩;have hL:=needQ_len (l:=l) (s:=⟨#[105,110,116,111]⟩) (r:=⟨a4,b4⟩) q4 (by decide);generalize needQ l ⟨#[105,110,116,111]⟩ ⟨a4,b4⟩=xx at hr hC hL;obtain ⟨a21,b21⟩:=xx;(try dsimp only at hr hC hL);unfold rdH at hC;(try dsimp only at hC);(try simp only [vE_eta,vV] at hC);refine rn_ 0 an0 fun K hK=>?_;refine rx_ an0 ?_;refine lk_ 1000 an0 hC ?_;refine rx_ an0 ?_;refine rwr_nil (hK _ ?_);have q21:=hL;clear hC hK K hL)
     refine gs_ ?_
     (have hC:=rname_l l (by omega) en ⟨a21,b21⟩ q21 (by have:=txQ_size hl ⟨a21,b21⟩;unfold maxLen;omega);have hL:=nameQ_len (l:=l) (r:=⟨a21,b21⟩) q21;have hG:=nameQ_ge (l:=l) (r:=⟨a21,b21⟩);generalize nameQ l ⟨a21,b21⟩=xx at hr hC hL hG;obtain ⟨nm,a22,b22⟩:=xx;(try dsimp only at hr hC hL hG);unfold rdH at hC;(try dsimp only at hC);(try simp only [vE_eta,vV] at hC);refine rn_ 0 an0 fun K hK=>?_;refine rx_ an0 ?_;refine lk_ 1000 an0 hC ?_;refine rx_ an0 ?_;refine rwr_nil (hK _ ?_);have q22:=hL;have g22:=hG;clear hG;clear hC hK K hL)
     refine gs_ ?_
     (have hC:=rneed_l l (by omega) en ⟨a22,b22⟩ q22 ⟨#[118,97,108,117,101,115]⟩;have hL:=needQ_len (l:=l) (s:=⟨#[118,97,108,117,101,115]⟩) (r:=⟨a22,b22⟩) q22 (by decide);generalize needQ l ⟨#[118,97,108,117,101,115]⟩ ⟨a22,b22⟩=xx at hr hC hL;obtain ⟨a23,b23⟩:=xx;(try dsimp only at hr hC hL);unfold rdH at hC;(try dsimp only at hC);(try simp only [vE_eta,vV] at hC);refine rn_ 0 an0 fun K hK=>?_;refine rx_ an0 ?_;refine lk_ 1000 an0 hC ?_;refine rx_ an0 ?_;refine rwr_nil (hK _ ?_);have q23:=hL;clear hC hK K hL)
     refine gs_ ?_
     (have hC:=rneed_l l (by omega) en ⟨a23,b23⟩ q23 wOpen;have hL:=needQ_len (l:=l) (s:=wOpen) (r:=⟨a23,b23⟩) q23 (by decide);generalize needQ l wOpen ⟨a23,b23⟩=xx at hr hC hL;obtain ⟨a24,b24⟩:=xx;(try dsimp only at hr hC hL);unfold rdH at hC;(try dsimp only at hC);(try simp only [vE_eta,vV] at hC);refine rn_ 0 an0 fun K hK=>?_;refine rx_ an0 ?_;refine lk_ 1000 an0 hC ?_;refine rx_ an0 ?_;refine rwr_nil (hK _ ?_);have qL:=hL;clear hC hK K hL)
     generalize hF:someQ l (vQ l) ⟨a24,b24⟩=FR at hr
     refine gs_ ?_
     (refine rn_ 8 an0 fun K hK=>?_;refine rr_ an0 ?_)
     ((first | refine rwr_nil (hK _ ?_) | refine de_ (hK _ ?_));clear hK K)
     refine gs_ ?_
     refine gb_ 1000 13 79 24 3 ?_
     refine cw_meetB (fun sM=>∃ (R:List Vl) (a:Nat) (b:Bool),a≤l.length∧FR=(R,⟨a,b⟩)∧sM=rnS l en a b nm (.t true (.sl (rVs R))) [] []) ?_ ?_
     ·clear hr
      refine cw_loop (rnI l en nm FR) (l.length + 2) ⟨_,rnI_start hll qL hF,by unfold rnS;exact le_⟩ ?_
      clear hF
      rintro m st (⟨R,a,f,rfl,hm1,qa,hm2,hr,rfl⟩ | ⟨R,a,b,mo,qa,hr,hmo,rfl⟩)
      ·have h1:R.length + 1≤maxLen:=by unfold maxLen;omega
       have h2:(R.length + 1) * 32≤140737488355328:=by omega
       unfold rnS
       refine au_ an0 ?_
       (have hC:=rv_l l hl en ⟨a,false⟩ qa;have hL:=vQ_len (l:=l) (r:=⟨a,false⟩) qa;have hG:=vQ_ge (l:=l) (r:=⟨a,false⟩);generalize vQ l ⟨a,false⟩=xx at hr hC hL hG;obtain ⟨v,a6,b6⟩:=xx;(try dsimp only at hr hC hL hG);unfold rdH at hC;(try dsimp only at hC);(try simp only [vE_eta,vV] at hC);refine dr_ 2 (an2 h1 h2) fun K hK=>?_;refine dal_ [(1000,.var 69 ([.t false (.sl (rVs l)),.t false (.lit (.int .i64 a6)),.t false (.lit (.int .i64 en)),.t false (.lit (.bool b6))]++crC 10 nm .nil (.own 79 R.length)))] (an2 h1 h2) ?_;refine dam_ [(1000,.var 69 ([.t false (.sl (rVs l)),.t false (.lit (.int .i64 a6)),.t false (.lit (.int .i64 en)),.t false (.lit (.bool b6))]++crC 10 nm .nil (.own 79 R.length)))] (an2 h1 h2) ?_;refine dam_ [(1000,.var 69 ([.t false (.sl (rVs l)),.t false (.lit (.int .i64 a6)),.t false (.lit (.int .i64 en)),.t false (.lit (.bool b6))]++crC 10 nm .nil (.own 79 R.length)))] (an2 h1 h2) ?_;refine dam_ [(1000,.var 69 ([.t false (.sl (rVs l)),.t false (.lit (.int .i64 a6)),.t false (.lit (.int .i64 en)),.t false (.lit (.bool b6))]++crC 10 nm .nil (.own 79 R.length)))] (an2 h1 h2) ?_;refine dav_ (an2 h1 h2) ?_;refine dalk_ 1000 (an2 h1 h2) hC ?_;refine dx_ (an2 h1 h2) ?_;refine de_ (hK _ ?_);have q6:=hL;have g6:=hG;clear hG;clear hC hK K hL)
       rw [moreQ_eq (by dsimp only;omega)] at hr
       (have hC:=rtake_l l (by omega) en ⟨a6,b6⟩ q6 ⟨#[44]⟩;have hL:=takeQ_len (l:=l) (s:=⟨#[44]⟩) (r:=⟨a6,b6⟩) q6 (by decide);have ht:=takeQ_true (l:=l) (s:=⟨#[44]⟩) (r:=⟨a6,b6⟩);generalize takeQ l ⟨#[44]⟩ ⟨a6,b6⟩=xx at hr hC hL ht;obtain ⟨t,a9,b9⟩:=xx;(try dsimp only at hr hC hL ht);unfold rdH at hC;(try dsimp only at hC);(try simp only [vE_eta,vV] at hC);refine rn_ 0 an0 fun K hK=>?_;refine rx_ an0 ?_;refine lk_ 1000 an0 hC ?_;refine rx_ an0 ?_;refine rwr_nil (hK _ ?_);have q9:=hL;clear hC hK K hL;cases t <;> ((first | rw [if_pos rfl] at hr | rw [if_neg Bool.false_ne_true] at hr) <;> (try dsimp only at hr)))
       ·refine gs_ ?_
        exact ⟨f,by omega,_,.inr ⟨R++[v],a9,b9,false,q9,hr,.inl rfl,rfl⟩,lf_ (an2 litV_ lenV_)⟩
       ·have ht:=ht rfl
        injection ht with ha hb
        subst hb
        refine gs_ ?_
        refine ⟨f,by omega,_,.inl ⟨R++[v],a9,f - 1,by omega,by simp;omega,q9,by omega,?_,rfl⟩,lf_ (an2 litV_ lenV_)⟩
        simp only [List.append_assoc,List.cons_append,List.nil_append]
        exact hr
      ·unfold rnS
       rcases hmo with rfl | ⟨rfl,rfl⟩
       all_goals
        refine au_ an0 ?_
        refine hs_meltb 1000 13 79 ?_
        subst hr
        exact hs_fit (an2 litV_ lenV_) ⟨_,_,_,qa,rfl,rfl⟩
     ·rintro sM ⟨R,a5,b5,q5,rfl,rfl⟩
      clear hF
      unfold rnS
      dsimp only at hr
      refine gs_ ?_
      (have hC:=rneed_l l (by omega) en ⟨a5,b5⟩ q5 wShut;have hL:=needQ_len (l:=l) (s:=wShut) (r:=⟨a5,b5⟩) q5 (by decide);generalize needQ l wShut ⟨a5,b5⟩=xx at hr hC hL;obtain ⟨a6,b6⟩:=xx;(try dsimp only at hr hC hL);unfold rdH at hC;(try dsimp only at hC);(try simp only [vE_eta,vV] at hC);refine rn_ 0 an0 fun K hK=>?_;refine rx_ an0 ?_;refine lk_ 1000 an0 hC ?_;refine rx_ an0 ?_;refine rwr_nil (hK _ ?_);have q6:=hL;clear hC hK K hL)
      refine au_ an0 ?_
      (subst hr;(try simp only [vE_eta,vV,cmC,zE,zCm,Ex.k,Ex.vk,Ex.nm,Ex.ar,List.map_cons,List.map_nil,rE_eta,Vl.zero]))
      exact oj_ an0 (.inr rfl)
   ·refine gs_ ?_
    (have hC:=ralter_io l hl en ⟨a3,b3⟩ q3;generalize alterQ l ⟨a3,b3⟩=xx at hr hC;obtain ⟨c,y,z⟩:=xx;(try dsimp only at hr hC);unfold rdH zC cmC at hC;(try dsimp only at hC);refine rn_ 0 an0 fun K hK=>?_;refine rx_ an0 ?_;refine qio_ an0 (SpIO.ren hC [(1000,1000)] rfl) ?_;refine rx_ an0 ?_;refine rwr_nil (hK _ ?_);clear hC hK K)
    refine au_ an0 ?_
    (subst hr;(try simp only [vE_eta,vV,cmC,zE,zCm,Ex.k,Ex.vk,Ex.nm,Ex.ar,List.map_cons,List.map_nil,rE_eta,Vl.zero]))
    exact oj_ an0 (.inr rfl)
  ·unfold dropQ at hr
   refine au_ an0 ?_
   (have hC:=rtake_l l (by omega) en ⟨a2,b2⟩ q2 ⟨#[105,110,100,101,120]⟩;have hL:=takeQ_len (l:=l) (s:=⟨#[105,110,100,101,120]⟩) (r:=⟨a2,b2⟩) q2 (by decide);generalize takeQ l ⟨#[105,110,100,101,120]⟩ ⟨a2,b2⟩=xx at hr hC hL;obtain ⟨t,a21,b21⟩:=xx;(try dsimp only at hr hC hL);unfold rdH at hC;(try dsimp only at hC);(try simp only [vE_eta,vV] at hC);refine rn_ 0 an0 fun K hK=>?_;refine rx_ an0 ?_;refine lk_ 1000 an0 hC ?_;refine rx_ an0 ?_;refine rwr_nil (hK _ ?_);have q21:=hL;clear hC hK K hL;cases t <;> ((first | rw [if_pos rfl] at hr | rw [if_neg Bool.false_ne_true] at hr) <;> (try dsimp only at hr)))
   ·refine gs_ ?_
    (have hC:=rneed_l l (by omega) en ⟨a21,b21⟩ q21 ⟨#[116,97,98,108,101]⟩;have hL:=needQ_len (l:=l) (s:=⟨#[116,97,98,108,101]⟩) (r:=⟨a21,b21⟩) q21 (by decide);generalize needQ l ⟨#[116,97,98,108,101]⟩ ⟨a21,b21⟩=xx at hr hC hL;obtain ⟨a22,b22⟩:=xx;(try dsimp only at hr hC hL);unfold rdH at hC;(try dsimp only at hC);(try simp only [vE_eta,vV] at hC);refine rn_ 0 an0 fun K hK=>?_;refine rx_ an0 ?_;refine lk_ 1000 an0 hC ?_;refine rx_ an0 ?_;refine rwr_nil (hK _ ?_);have q22:=hL;clear hC hK K hL)
    refine au_ an0 ?_
    (have hC:=rname_l l (by omega) en ⟨a22,b22⟩ q22 (by have:=txQ_size hl ⟨a22,b22⟩;unfold maxLen;omega);have hL:=nameQ_len (l:=l) (r:=⟨a22,b22⟩) q22;have hG:=nameQ_ge (l:=l) (r:=⟨a22,b22⟩);generalize nameQ l ⟨a22,b22⟩=xx at hr hC hL hG;obtain ⟨nm,a23,b23⟩:=xx;(try dsimp only at hr hC hL hG);unfold rdH at hC;(try dsimp only at hC);(try simp only [vE_eta,vV] at hC);refine rn_ 0 an0 fun K hK=>?_;refine rx_ an0 ?_;refine lk_ 1000 an0 hC ?_;refine rx_ an0 ?_;refine rwr_nil (hK _ ?_);have q23:=hL;have g23:=hG;clear hG;clear hC hK K hL)
    refine au_ an0 ?_
    (subst hr;(try simp only [vE_eta,vV,cmC,zE,zCm,Ex.k,Ex.vk,Ex.nm,Ex.ar,List.map_cons,List.map_nil,rE_eta,Vl.zero]))
    exact oj_ an0 (.inr rfl)
   ·refine gs_ ?_
    (have hC:=rname_l l (by omega) en ⟨a21,b21⟩ q21 (by have:=txQ_size hl ⟨a21,b21⟩;unfold maxLen;omega);have hL:=nameQ_len (l:=l) (r:=⟨a21,b21⟩) q21;have hG:=nameQ_ge (l:=l) (r:=⟨a21,b21⟩);generalize nameQ l ⟨a21,b21⟩=xx at hr hC hL hG;obtain ⟨nm,a22,b22⟩:=xx;(try dsimp only at hr hC hL hG);unfold rdH at hC;(try dsimp only at hC);(try simp only [vE_eta,vV] at hC);refine rn_ 0 an0 fun K hK=>?_;refine rx_ an0 ?_;refine lk_ 1000 an0 hC ?_;refine rx_ an0 ?_;refine rwr_nil (hK _ ?_);have q22:=hL;have g22:=hG;clear hG;clear hC hK K hL)
    refine au_ an0 ?_
    (subst hr;(try simp only [vE_eta,vV,cmC,zE,zCm,Ex.k,Ex.vk,Ex.nm,Ex.ar,List.map_cons,List.map_nil,rE_eta,Vl.zero]))
    exact oj_ an0 (.inr rfl)
 ·refine gs_ ?_
  (have hC:=rcreate_io l hl en ⟨a1,b1⟩ q1;generalize createQ l ⟨a1,b1⟩=xx at hr hC;obtain ⟨c,y,z⟩:=xx;(try dsimp only at hr hC);unfold rdH zC cmC at hC;(try dsimp only at hC);refine rn_ 0 an0 fun K hK=>?_;refine rx_ an0 ?_;refine qio_ an0 (SpIO.ren hC [(1000,1000)] rfl) ?_;refine rx_ an0 ?_;refine rwr_nil (hK _ ?_);clear hC hK K)
  refine au_ an0 ?_
  (subst hr;(try simp only [vE_eta,vV,cmC,zE,zCm,Ex.k,Ex.vk,Ex.nm,Ex.ar,List.map_cons,List.map_nil,rE_eta,Vl.zero]))
  exact oj_ an0 (.inr rfl)
end Go.Proofs.YtjdgejfhnfnmgaaGreatDoor.Ax
