/-  -/
import Derived.Test.YtjdgejfhnfnmgaaGreatDoorS19
import Derived.Test.YtjdgejfhnfnmgaaGreatDoorS29
import Derived.Test.YtjdgejfhnfnmgaaGreatDoorS30
import Derived.Test.YtjdgejfhnfnmgaaGreatDoorS18
namespace Go.Proofs.YtjdgejfhnfnmgaaGreatDoor.Ax
open Go.RowKit
set_option linter.unusedSimpArgs false
attribute [local go_sem] ty3 ty4 ty9 ty5 ty26 ty24 ty29 ty27 ty77 ty43 ty69 ty101
set_option linter.unusedVariables false
set_option maxRecDepth 100000
def vE (e:Ex):V:=.agg ((rE e).map (C.t true))
theorem sign_rowQ (j:Nat) (hj:j < 7):([[T.lit (.string ⟨#[97,110,100]⟩)],[T.lit (.string ⟨#[111,114]⟩)],[T.lit (.string ⟨#[43]⟩)],[T.lit (.string ⟨#[45]⟩)],[T.lit (.string ⟨#[124,124]⟩)],[T.lit (.string ⟨#[60]⟩)],[T.lit (.string ⟨#[61]⟩)]]:List (List T))[j]?=some [T.lit (.string (wAnd7.getD j ⟨#[]⟩))]:=by
 obtain rfl | rfl | rfl | rfl | rfl | rfl | rfl:j=0 ∨ j=1 ∨ j=2 ∨ j=3 ∨ j=4 ∨ j=5 ∨ j=6:=by omega
 all_goals rfl
theorem signK_one (u:ByteArray):∀ i,i≤7→signK u i=0 ∨ ∃ j:Nat,j < 7∧signK u i=5 + (j:Int)
 | 0,_=>.inl rfl
 | i + 1,h=>by
  rw [signK]
  split
  ·exact .inr ⟨i,by omega,rfl⟩
  ·exact signK_one u i (by omega)
set_option maxHeartbeats 8000000 in
theorem rexpr_leaf (l:List Vl) (hl:GoodL l) (en:Int) (r:RS) (hr:r.at_≤l.length) (deep:Int) (h1:strEq (txQ l r) wOpen=false) (h2:strEq (txQ l r) wNot=false) :
  SpL Tryz.prog 75 [.one (.optr 1000 0),.one (.t false (.lit (.int .i64 deep)))] 69 (rdH l en r) (vE (if isVB (txQ l r)=true then .mk 1 (vQ l r).1 .empty [] else .mk 2 Vl.zero (nameQ l r).1 [])) (rdH l en (if isVB (txQ l r)=true then (vQ l r).2 else (nameQ l r).2)) 26:=by
 intro vs hlen hone
 have hT:=rtext_l l en r
 have hI:=risv_l l en r
 have hV:=rv_l l hl en r hr
 have hNa:=rname_l l (by have:=hl.len;omega) en r hr (by have:=txQ_size hl r;unfold maxLen;omega)
 generalize txQ l r=u at *
 generalize vQ l r=qv at *
 generalize nameQ l r=qn at *
 unfold strEq wOpen at h1
 unfold strEq wNot at h2
 obtain ⟨at_,bad⟩:=r
 obtain ⟨⟨vk,vn,vs_⟩,⟨at1,bad1⟩⟩:=qv
 obtain ⟨nm,⟨at2,bad2⟩⟩:=qn
 unfold vV rdH at hV
 unfold vE
 unfold rdH at hT hI hNa ⊢
 dsimp only at hT hI hV hNa ⊢
 cases hb:isVB u with
 | true =>
  rw [if_pos rfl,if_pos rfl,rE_mk]
  rw [hb] at hI
  clear hNa
  (refine ei_ Tryz.func75 Tryz.ntmps75 Tryz.results75 fun X hX=>?_)
  refine gs_ ?_
  refine au_ an0 ?_
  (refine rn_ 0 an0 fun K hK=>?_;refine rx_ an0 ?_;refine lk_ 1000 an0 (hT) ?_;refine rx_ an0 ?_;refine rwr_nil (hK _ ?_);clear hK K)
  refine au_ (an2 h1 h2) ?_
  (refine rn_ 0 an0 fun K hK=>?_;refine rx_ an0 ?_;refine lk_ 1000 an0 (hI) ?_;refine rx_ an0 ?_;refine rwr_nil (hK _ ?_);clear hK K)
  refine au_ an0 ?_
  (refine rn_ 0 an0 fun K hK=>?_;refine rx_ an0 ?_;refine lk_ 1000 an0 (hV) ?_;refine rx_ an0 ?_;refine rwr_nil (hK _ ?_);clear hK K)
  refine au_ an0 ?_
  exact oj_ an0 (.inl rfl)
 | false =>
  rw [if_neg Bool.false_ne_true,if_neg Bool.false_ne_true,rE_mk]
  rw [hb] at hI
  unfold Vl.zero
  clear hV
  (refine ei_ Tryz.func75 Tryz.ntmps75 Tryz.results75 fun X hX=>?_)
  refine gs_ ?_
  refine au_ an0 ?_
  (refine rn_ 0 an0 fun K hK=>?_;refine rx_ an0 ?_;refine lk_ 1000 an0 (hT) ?_;refine rx_ an0 ?_;refine rwr_nil (hK _ ?_);clear hK K)
  refine au_ (an2 h1 h2) ?_
  (refine rn_ 0 an0 fun K hK=>?_;refine rx_ an0 ?_;refine lk_ 1000 an0 (hI) ?_;refine rx_ an0 ?_;refine rwr_nil (hK _ ?_);clear hK K)
  refine au_ an0 ?_
  (refine rn_ 0 an0 fun K hK=>?_;refine rx_ an0 ?_;refine lk_ 1000 an0 (hNa) ?_;refine rx_ an0 ?_;refine rwr_nil (hK _ ?_);clear hK K)
  refine au_ an0 ?_
  exact oj_ an0 (.inl rfl)
theorem takeQ_len {l:List Vl} {s:ByteArray} {r:RS} (hr:r.at_≤l.length) (hs:s.size ≠ 0):(takeQ l s r).2.at_≤l.length:=takeQ_le hr hs
theorem needQ_len {l:List Vl} {s:ByteArray} {r:RS} (hr:r.at_≤l.length) (hs:s.size ≠ 0):(needQ l s r).at_≤l.length:=needQ_le (takeQ_le hr hs) hr
theorem nameQ_len {l:List Vl} {r:RS} (hr:r.at_≤l.length):(nameQ l r).2.at_≤l.length:=by
 unfold nameQ
 split
 ·rename_i h
  have h0:txQ l r ≠ ⟨#[]⟩:=by
   intro h2
   rw [h2] at h
   cases h
  exact (txQ_lt h0).2
 ·exact hr
theorem numQ_len {l:List Vl} {r:RS} (hr:r.at_≤l.length):(numQ l r).2.at_≤l.length:=by
 unfold numQ
 split
 ·rename_i h
  exact (txQ_lt (digF_ne h)).2
 ·exact hr
theorem strEq_none {s:ByteArray} (hs:s.size ≠ 0):strEq ⟨#[]⟩ s=false:=by
 rw [Bool.eq_false_iff]
 intro h
 have:=strEq_iff.1 h
 subst this
 exact hs rfl
theorem isVB_none:isVB ⟨#[]⟩=false:=by
 unfold isVB
 rw [strEq_none (by decide),strEq_none (by decide),strEq_none (by decide),strEq_none (by decide)]
 rfl
theorem vQ_len {l:List Vl} {r:RS} (hr:r.at_≤l.length):(vQ l r).2.at_≤l.length:=by
 unfold vQ
 by_cases h:isVB (txQ l r)=false
 ·rw [if_pos h];exact hr
 ·rw [if_neg h]
  have h0:txQ l r ≠ ⟨#[]⟩:=by
   intro h2
   rw [h2] at h
   exact h isVB_none
  have hlt:r.at_ + 1≤l.length:=(txQ_lt h0).2
  repeat' split
  all_goals first
   | exact hlt
   | exact numQ_len hlt
   | exact numQ_len hr
theorem exQ_len {l:List Vl}:∀ (f:Nat) {r:RS},r.at_≤l.length→(exQ l f r).2.at_≤l.length
 | 0,r,hr=>by
  unfold exQ
  split
  ·exact hr
  ·split
   ·exact vQ_len hr
   ·exact nameQ_len hr
 | f + 1,r,hr=>by
  unfold exQ
  split
  ·rename_i h
   have h0:txQ l r ≠ ⟨#[]⟩:=by
    intro h2
    rw [h2,strEq_none (by decide)] at h
    cases h
   exact exQ_len f (r:=⟨r.at_ + 1,r.bad⟩) (txQ_lt h0).2
  ·split
   ·rename_i h
    have h0:txQ l r ≠ ⟨#[]⟩:=by
     intro h2
     rw [h2,strEq_none (by decide)] at h
     cases h
    have h1:=exQ_len f (r:=⟨r.at_ + 1,r.bad⟩) (txQ_lt h0).2
    have h2:=takeQ_len (s:=wIs) h1 (by decide)
    dsimp only
    split
    ·exact needQ_len (needQ_len h2 (by decide)) (by decide)
    ·refine needQ_len (exQ_len f ?_) (by decide)
     split
     ·exact h2
     ·obtain h3 | ⟨j,hj,h3⟩:=signK_one (txQ l (takeQ l wIs (exQ l f ⟨r.at_ + 1,r.bad⟩).2).2) 7 (Nat.le_refl _)
      ·rename_i h4;exact absurd h3 h4
      ·refine needQ_len h2 ?_
       unfold signQ
       rw [h3,show (5 + (j:Int) - 5).toNat=j by omega]
       obtain rfl | rfl | rfl | rfl | rfl | rfl | rfl:j=0 ∨ j=1 ∨ j=2 ∨ j=3 ∨ j=4 ∨ j=5 ∨ j=6:=by omega
       all_goals decide
   ·split
    ·exact vQ_len hr
    ·exact nameQ_len hr
set_option maxHeartbeats 16000000 in
theorem rexpr_not (l:List Vl) (hl:GoodL l) (en:Int) (at_:Nat) (hat:at_ < l.length) (deep:Int) (hd:0≤deep∧deep < 60) (h2:strEq (txQ l ⟨at_,false⟩) wNot=true) (e:Ex) (r1:RS)
  (ih:SpL Tryz.prog 75 [.one (.optr 1000 0),.one (.t false (.lit (.int .i64 (deep + 1))))] 69 (rdH l en ⟨at_ + 1,false⟩) (vE e) (rdH l en r1) 26) :
  SpL Tryz.prog 75 [.one (.optr 1000 0),.one (.t false (.lit (.int .i64 deep)))] 69 (rdH l en ⟨at_,false⟩) (vE (.mk 3 Vl.zero .empty [e])) (rdH l en r1) 26:=by
 intro vs hlen hone
 have hT:=rtext_l l en ⟨at_,false⟩
 have hll:=hl.len
 obtain ⟨ke,ve,ne,ae⟩:=e
 obtain ⟨at1,bad1⟩:=r1
 have hu:=strEq_iff.1 h2
 rw [hu] at hT
 have g1:(wNot.toList==(⟨#[40]⟩:ByteArray).toList)=false:=by rw [Bool.eq_false_iff];intro h;cases strEq_iff.1 h
 have g2:(wNot.toList==(⟨#[110,111,116]⟩:ByteArray).toList)=true:=beq_self_eq_true _
 have g3:(deep==60)=false:=by simp;omega
 have e1:IntKind.i64.wrap ((at_:Int) + 1)=((at_ + 1:Nat):Int):=by rw [IntWalk.i64_in _ (by omega)];rfl
 have e2:IntKind.i64.wrap (deep + 1)=deep + 1:=IntWalk.i64_in _ (by omega)
 unfold vE at ih ⊢
 unfold rdH at hT ih ⊢
 dsimp only at hT ih ⊢
 rw [rE_mk,show [Ex.mk ke ve ne ae].map rE=[rE (.mk ke ve ne ae)] from rfl,rE_mk]
 rw [rE_mk] at ih
 unfold Vl.zero
 generalize wNot=u at *
 have f1:(1:Nat)≤maxLen:=by decide
 have f2:(1 * 48:Nat)≤140737488355328:=by decide
 (refine ei_ Tryz.func75 Tryz.ntmps75 Tryz.results75 fun X hX=>?_)
 refine gs_ ?_
 refine au_ an0 ?_
 (refine rn_ 0 an0 fun K hK=>?_;refine rx_ an0 ?_;refine lk_ 1000 an0 (hT) ?_;refine rx_ an0 ?_;refine rwr_nil (hK _ ?_);clear hK K)
 refine au_ (an4 g1 g2 g3 e1) ?_
 (refine rn_ 0 e2 fun K hK=>?_;refine rx_ e2 ?_;refine lk_ 1000 e2 (ih) ?_;refine rx_ e2 ?_;refine rwr_nil (hK _ ?_);clear hK K)
 refine au_ an0 ?_
 refine ex_meltb 4 5 46 ?_
 exact oj_ an0 (.inl rfl)
set_option maxHeartbeats 16000000 in
theorem rexpr_is (l:List Vl) (hl:GoodL l) (en:Int) (at_:Nat) (hat:at_ < l.length) (deep:Int) (hd:0≤deep∧deep < 60) (h1:strEq (txQ l ⟨at_,false⟩) wOpen=true) (e:Ex) (r1 r2 r3 r4:RS)
  (ih:SpL Tryz.prog 75 [.one (.optr 1000 0),.one (.t false (.lit (.int .i64 (deep + 1))))] 69 (rdH l en ⟨at_ + 1,false⟩) (vE e) (rdH l en r1) 26)
  (hTk:SpL Tryz.prog 68 [.one (.optr 1000 0),.one (.t false (.lit (.string wIs)))] 69 (rdH l en r1) (.one (.t true (.lit (.bool true)))) (rdH l en r2) 26)
  (hN1:SpL Tryz.prog 70 [.one (.optr 1000 0),.one (.t false (.lit (.string wNull)))] 69 (rdH l en r2) (.tup []) (rdH l en r3) 26)
  (hN2:SpL Tryz.prog 70 [.one (.optr 1000 0),.one (.t false (.lit (.string wShut)))] 69 (rdH l en r3) (.tup []) (rdH l en r4) 26) :
  SpL Tryz.prog 75 [.one (.optr 1000 0),.one (.t false (.lit (.int .i64 deep)))] 69 (rdH l en ⟨at_,false⟩) (vE (.mk 4 Vl.zero .empty [e])) (rdH l en r4) 26:=by
 intro vs hlen hone
 have hT:=rtext_l l en ⟨at_,false⟩
 have hll:=hl.len
 obtain ⟨ke,ve,ne,ae⟩:=e
 obtain ⟨at1,bad1⟩:=r1
 obtain ⟨at2,bad2⟩:=r2
 obtain ⟨at3,bad3⟩:=r3
 obtain ⟨at4,bad4⟩:=r4
 have hu:=strEq_iff.1 h1
 rw [hu] at hT
 have g1:(wOpen.toList==(⟨#[40]⟩:ByteArray).toList)=true:=beq_self_eq_true _
 have g2:(wOpen.toList==(⟨#[110,111,116]⟩:ByteArray).toList)=false:=by rw [Bool.eq_false_iff];intro h;cases strEq_iff.1 h
 have g3:(deep==60)=false:=by simp;omega
 have e1:IntKind.i64.wrap ((at_:Int) + 1)=((at_ + 1:Nat):Int):=by rw [IntWalk.i64_in _ (by omega)];rfl
 have e2:IntKind.i64.wrap (deep + 1)=deep + 1:=IntWalk.i64_in _ (by omega)
 unfold vE at ih ⊢
 unfold rdH at hT ih hTk hN1 hN2 ⊢
 dsimp only at hT ih hTk hN1 hN2 ⊢
 rw [rE_mk,show [Ex.mk ke ve ne ae].map rE=[rE (.mk ke ve ne ae)] from rfl,rE_mk]
 rw [rE_mk] at ih
 unfold Vl.zero
 unfold wIs at hTk
 unfold wNull at hN1
 unfold wShut at hN2
 generalize wOpen=u at *
 (refine ei_ Tryz.func75 Tryz.ntmps75 Tryz.results75 fun X hX=>?_)
 refine gs_ ?_
 refine au_ an0 ?_
 (refine rn_ 0 an0 fun K hK=>?_;refine rx_ an0 ?_;refine lk_ 1000 an0 (hT) ?_;refine rx_ an0 ?_;refine rwr_nil (hK _ ?_);clear hK K)
 refine au_ (an4 g1 g2 g3 e1) ?_
 (refine rn_ 0 e2 fun K hK=>?_;refine rx_ e2 ?_;refine lk_ 1000 e2 (ih) ?_;refine rx_ e2 ?_;refine rwr_nil (hK _ ?_);clear hK K)
 refine gs_ ?_
 (refine rn_ 0 an0 fun K hK=>?_;refine rx_ an0 ?_;refine lk_ 1000 an0 (hTk) ?_;refine rx_ an0 ?_;refine rwr_nil (hK _ ?_);clear hK K)
 refine gs_ ?_
 (refine rn_ 0 an0 fun K hK=>?_;refine rx_ an0 ?_;refine lk_ 1000 an0 (hN1) ?_;refine rx_ an0 ?_;refine rwr_nil (hK _ ?_);clear hK K)
 refine gs_ ?_
 (refine rn_ 0 an0 fun K hK=>?_;refine rx_ an0 ?_;refine lk_ 1000 an0 (hN2) ?_;refine rx_ an0 ?_;refine rwr_nil (hK _ ?_);clear hK K)
 refine au_ an0 ?_
 refine ex_meltb 4 5 69 ?_
 exact oj_ an0 (.inl rfl)
set_option maxHeartbeats 16000000 in
theorem rexpr_bin (l:List Vl) (hl:GoodL l) (en:Int) (at_:Nat) (hat:at_ < l.length) (deep:Int) (hd:0≤deep∧deep < 60) (h1:strEq (txQ l ⟨at_,false⟩) wOpen=true) (e e':Ex) (r1 r2 r3 r4 r5:RS)
  (ih:SpL Tryz.prog 75 [.one (.optr 1000 0),.one (.t false (.lit (.int .i64 (deep + 1))))] 69 (rdH l en ⟨at_ + 1,false⟩) (vE e) (rdH l en r1) 26)
  (hTk:SpL Tryz.prog 68 [.one (.optr 1000 0),.one (.t false (.lit (.string wIs)))] 69 (rdH l en r1) (.one (.t true (.lit (.bool false)))) (rdH l en r2) 26)
  (h3:r3=if signQ (txQ l r2)=0 then ⟨r2.at_,true⟩ else needQ l (wAnd7.getD (signQ (txQ l r2) - 5).toNat ⟨#[]⟩) r2) (hr2:r2.at_≤l.length)
  (ih2:SpL Tryz.prog 75 [.one (.optr 1000 0),.one (.t false (.lit (.int .i64 (deep + 1))))] 69 (rdH l en r3) (vE e') (rdH l en r4) 26)
  (hN2:SpL Tryz.prog 70 [.one (.optr 1000 0),.one (.t false (.lit (.string wShut)))] 69 (rdH l en r4) (.tup []) (rdH l en r5) 26) :
  SpL Tryz.prog 75 [.one (.optr 1000 0),.one (.t false (.lit (.int .i64 deep)))] 69 (rdH l en ⟨at_,false⟩) (vE (.mk (signQ (txQ l r2)) Vl.zero .empty [e,e'])) (rdH l en r5) 26:=by
 intro vs hlen hone
 have hT:=rtext_l l en ⟨at_,false⟩
 have hT2:=rtext_l l en r2
 have hNs:=fun s=>rneed_l l (by have:=hl.len;omega) en r2 hr2 s
 have hll:=hl.len
 obtain ⟨ke,ve,ne,ae⟩:=e
 obtain ⟨kf,vf,nf,af⟩:=e'
 have hu:=strEq_iff.1 h1
 rw [hu] at hT
 have hsg:=signK_one (txQ l r2) 7 (Nat.le_refl _)
 unfold signQ at h3 ⊢
 generalize hw:txQ l r2=w at *
 have g1:(wOpen.toList==(⟨#[40]⟩:ByteArray).toList)=true:=beq_self_eq_true _
 have g2:(wOpen.toList==(⟨#[110,111,116]⟩:ByteArray).toList)=false:=by rw [Bool.eq_false_iff];intro h;cases strEq_iff.1 h
 have g3:(deep==60)=false:=by simp;omega
 have e1:IntKind.i64.wrap ((at_:Int) + 1)=((at_ + 1:Nat):Int):=by rw [IntWalk.i64_in _ (by omega)];rfl
 have e2:IntKind.i64.wrap (deep + 1)=deep + 1:=IntWalk.i64_in _ (by omega)
 obtain ⟨at1,bad1⟩:=r1
 obtain ⟨at2,bad2⟩:=r2
 obtain ⟨at4,bad4⟩:=r4
 obtain ⟨at5,bad5⟩:=r5
 unfold vE at ih ih2 ⊢
 unfold rdH at hT hT2 ih hTk ih2 hN2 ⊢
 dsimp only at hT hT2 ih hTk ih2 hN2 h3 ⊢
 rw [rE_mk,show [Ex.mk ke ve ne ae,Ex.mk kf vf nf af].map rE=[rE (.mk ke ve ne ae),rE (.mk kf vf nf af)] from rfl,rE_mk,rE_mk]
 rw [rE_mk] at ih ih2
 unfold Vl.zero
 unfold wIs at hTk
 unfold wShut at hN2
 generalize wOpen=u at *
 (refine ei_ Tryz.func75 Tryz.ntmps75 Tryz.results75 fun X hX=>?_)
 refine gs_ ?_
 refine au_ an0 ?_
 (refine rn_ 0 an0 fun K hK=>?_;refine rx_ an0 ?_;refine lk_ 1000 an0 (hT) ?_;refine rx_ an0 ?_;refine rwr_nil (hK _ ?_);clear hK K)
 refine au_ (an4 g1 g2 g3 e1) ?_
 (refine rn_ 0 e2 fun K hK=>?_;refine rx_ e2 ?_;refine lk_ 1000 e2 (ih) ?_;refine rx_ e2 ?_;refine rwr_nil (hK _ ?_);clear hK K)
 refine gs_ ?_
 (refine rn_ 0 an0 fun K hK=>?_;refine rx_ an0 ?_;refine lk_ 1000 an0 (hTk) ?_;refine rx_ an0 ?_;refine rwr_nil (hK _ ?_);clear hK K)
 refine au_ an0 ?_
 refine cw_loop (fun m st=>∃ (k:Nat),k≤7∧m=7 - k∧st=⟨[(10,litI .i64 k),(9,.one (.own 71 7)),(8,litI .i64 (signK w k)),(7,.one (.optr 7 0)),(4,.one (.optr 4 0)),(0,.one (.optr 1000 0)),(1,.one (.t false (.lit (.int .i64 deep))))],[(71,.arr 9 1 true [[T.lit (.string ⟨#[97,110,100]⟩)],[T.lit (.string ⟨#[111,114]⟩)],[T.lit (.string ⟨#[43]⟩)],[T.lit (.string ⟨#[45]⟩)],[T.lit (.string ⟨#[124,124]⟩)],[T.lit (.string ⟨#[60]⟩)],[T.lit (.string ⟨#[61]⟩)]]),(7,.var 29 [.t true (.lit (.int .i64 ke)),.t true (.lit (.int .i64 ve.k)),.t true (.lit (.int .i64 ve.n)),.t true (.lit (.string ve.s)),.t true (.lit (.string ne)),.t true (.sl (ae.map rE))]),(4,.var 29 [.t true (.lit (.int .i64 0)),.t true (.lit (.int .i64 0)),.t true (.lit (.int .i64 0)),.t true (.lit (.string .empty)),.t true (.lit (.string .empty)),.nil]),(1000,.var 69 ([.t false (.sl (rVs l)),.t false (.lit (.int .i64 at2)),.t false (.lit (.int .i64 en)),.t false (.lit (.bool bad2))]++lits vs))]⟩) 7 ⟨_,⟨0,by decide,rfl,rfl⟩,le_⟩ ?_
 rintro m st ⟨k,hk,rfl,rfl⟩
 by_cases hlt:k < 7
 ·have z1:decide ((k:Int) < 7)=true:=by simp;omega
  have z4:IntKind.i64.wrap ((k:Int) + 1)=((k + 1:Nat):Int):=by rw [IntWalk.i64_in _ (by omega)];rfl
  have z5:IntKind.i64.wrap (5 + (k:Int))=5 + (k:Int):=IntWalk.i64_in _ (by omega)
  have j2:(k:Int) < 7:=by omega
  have j3:(0:Int)≤(k:Int):=by omega
  have hrow:=sign_rowQ k hlt
  have hsk:signK w (k + 1)=if strEq w (wAnd7.getD k ⟨#[]⟩)=true then 5 + (k:Int) else signK w k:=rfl
  generalize wAnd7.getD k ⟨#[]⟩=sg at *
  generalize hsk1:signK w (k + 1)=sk1 at *
  generalize signK w k=sk0 at *
  unfold strEq at hsk
  cases hc:(w.toList==sg.toList) with
  | true =>
   rw [hc,if_pos rfl] at hsk
   refine au_ z1 ?_
   (refine dr_ 0 (an5 hc hrow hlt j2 j3) fun K hK=>?_;refine dx_ (an5 hc hrow hlt j2 j3) ?_;refine dlk_ 1000 (an5 hc hrow hlt j2 j3) (hT2) ?_;refine dx_ (an5 hc hrow hlt j2 j3) ?_;refine de_ (hK _ ?_);clear hK K)
   refine au_ (an2 z4 z5) ?_
   exact ⟨7 - (k + 1),by omega,_,⟨k + 1,by omega,rfl,rfl⟩,lf_ (an2 hsk1 hsk)⟩
  | false =>
   rw [hc,if_neg Bool.false_ne_true] at hsk
   refine au_ z1 ?_
   (refine dr_ 0 (an5 hc hrow hlt j2 j3) fun K hK=>?_;refine dx_ (an5 hc hrow hlt j2 j3) ?_;refine dlk_ 1000 (an5 hc hrow hlt j2 j3) (hT2) ?_;refine dx_ (an5 hc hrow hlt j2 j3) ?_;refine de_ (hK _ ?_);clear hK K)
   refine au_ (an2 z4 z5) ?_
   exact ⟨7 - (k + 1),by omega,_,⟨k + 1,by omega,rfl,rfl⟩,lf_ (an2 hsk1 hsk)⟩
 ·obtain rfl:k=7:=by omega
  rcases hsg with hs0 | ⟨j,hj,hsj⟩
  ·rw [hs0] at h3 ⊢
   rw [if_pos rfl] at h3
   subst h3
   dsimp only at ih2
   refine au_ an0 ?_
   (refine rn_ 0 e2 fun K hK=>?_;refine rx_ e2 ?_;refine lk_ 1000 e2 (ih2) ?_;refine rx_ e2 ?_;refine rwr_nil (hK _ ?_);clear hK K)
   refine gs_ ?_
   (refine rn_ 0 an0 fun K hK=>?_;refine rx_ an0 ?_;refine lk_ 1000 an0 (hN2) ?_;refine rx_ an0 ?_;refine rwr_nil (hK _ ?_);clear hK K)
   refine au_ an0 ?_
   refine ex_meltb 4 5 106 ?_
   exact oj_ an0 (.inl rfl)
  ·have hz:((5:Int) + (j:Int)==0)=false:=by simp;omega
   rw [hsj] at h3 ⊢
   rw [if_neg (by omega),show ((5:Int) + (j:Int) - 5).toNat=j by omega] at h3
   have hN:=hNs (wAnd7.getD j ⟨#[]⟩)
   rw [← h3] at hN
   have hrow:=sign_rowQ j hj
   generalize wAnd7.getD j ⟨#[]⟩=sg at *
   obtain ⟨at3,bad3⟩:=r3
   unfold rdH at hN
   dsimp only at hN ih2
   have z5:IntKind.i64.wrap (5 + (j:Int) - 5)=(j:Int):=by rw [IntWalk.i64_in _ (by omega)];omega
   have j2:(j:Int) < 7:=by omega
   have j3:(0:Int)≤(j:Int):=by omega
   generalize hfj:(5:Int) + (j:Int)=fj at *
   refine au_ hz ?_
   (refine rn_ 0 (an5 z5 hrow hj j2 j3) fun K hK=>?_;refine rx_ (an5 z5 hrow hj j2 j3) ?_;refine lk_ 1000 (an5 z5 hrow hj j2 j3) (hN) ?_;refine rx_ (an5 z5 hrow hj j2 j3) ?_;refine rwr_nil (hK _ ?_);clear hK K)
   refine gs_ ?_
   (refine rn_ 0 e2 fun K hK=>?_;refine rx_ e2 ?_;refine lk_ 1000 e2 (ih2) ?_;refine rx_ e2 ?_;refine rwr_nil (hK _ ?_);clear hK K)
   refine gs_ ?_
   (refine rn_ 0 an0 fun K hK=>?_;refine rx_ an0 ?_;refine lk_ 1000 an0 (hN2) ?_;refine rx_ an0 ?_;refine rwr_nil (hK _ ?_);clear hK K)
   refine au_ an0 ?_
   refine ex_meltb 4 5 106 ?_
   exact oj_ an0 (.inl rfl)
end Go.Proofs.YtjdgejfhnfnmgaaGreatDoor.Ax
namespace Go.Proofs.YtjdgejfhnfnmgaaGreatDoor.Ax
open Go.RowKit Go.Sort
set_option linter.unusedSimpArgs false
attribute [local go_sem] extV appD cutOwn appOwn clearOwn bdI mapD putD' keyOk getOr getM putM wholeV litCs asV asC ptrC fnC nilC nilPtr strRows_len runs runsN guardOf exec1 pureV modD rowD ev get St.app St.put St.turn loadC moveC fieldOf indexC lenC lenOk cutC bndOf evAll fieldV convV unV binV binI bitsV moreV intsT eqL eq1 valOf min1 lit1 litInt litI litB litS constV constC cellsV partsOf placesOf buildV fillL toT elemsOf rowsOf baseOf dstOk V.kill V.ment V.ments C.kill C.ment C.ments B.kill setD litRows litRows_append T.isLit callAll calleeV argsV argV viewC viewCs modeOk freeOps V.free C.free V.allF V.allFs C.allF C.allFs B.allF callD leL growSt growB C.flat V.flat B.flat flatL flatB St.flat List.set_cons_zero List.set_cons_succ C.only C.onlys V.only V.onlys B.only renI C.ren C.rens V.ren V.rens B.ren renB renOk nodK Option.getD_some Option.getD_none Option.isSome_some implies_true false_implies C.fit C.fits V.fit V.fit1 V.fits Bool.and_self ite_self exitV resV resL resC outV outV.outs eqB nn cast0 Int.toNat_natCast List.getElem?_map Value.cells Value.oneCell' Nat.lt_irrefl decide_true decide_false and_true true_and and_self and_false false_and not_true_eq_false not_false_eq_true not_true not_false List.size_toArray all_len Nat.zero_add Nat.add_zero List.length_cons List.length_append List.length_replicate List.length_set List.length_nil List.length_map List.map_cons List.map_nil List.take_succ_cons List.take_zero List.take_nil List.drop_succ_cons List.drop_zero List.drop_nil List.cons_append List.nil_append List.append_nil List.all_cons List.all_nil Bool.and_true Bool.true_and Bool.and_false Bool.false_and Bool.not_true Bool.not_false Bool.or_false Bool.or_true Bool.false_or Bool.true_or List.filter_cons List.filter_nil List.contains_cons List.contains_nil beq_self_eq_true List.getElem?_cons_zero List.getElem?_cons_succ List.getElem?_nil Option.map_some Option.map_none Option.toList_some Option.toList_none List.isEmpty_cons List.isEmpty_nil Bool.false_eq_true Bool.true_eq_false List.getElem?_toArray List.not_mem_nil List.mem_cons or_false forall_eq List.mem_singleton forall_const Option.toArray tailF addF flSl dKeeps flFree closF notF if_true if_false dstsOf Oper.looksAt Op.operands Call.operands pick stOf goneOf slOf blOf keepB' edge B.ment Region.binds tailOk clos List.any_cons List.any_nil List.filterMap_cons List.filterMap_nil ne_eq Bool.or_self List.isEmpty_iff Array.toList_append List.append_toArray Array.append_empty Option.bind_some Option.bind_none List.push_toArray argSv ioD modeIO staysOk callIO calleeIO argsIO valIO cellsIO cellIO butB zLe cLe csLe vLe vsLe bLe insLe renIOk nbOk anyText anyGc aliveF mK kdN klAt klAt.atL dstNe edgesOf foSl inL C.ids C.idss V.ids V.idss NDst klOf dropS true_or or_true or_self ty3 ty4 ty9 ty5 ty26 ty24 ty29 ty27 ty54 ty77 ty43 ty67 ty65
set_option linter.unusedVariables false
set_option maxRecDepth 100000
section
variable {P:Program} {X:Cx} {st:St} {α:Type} {rs:Array ResultVar} {res:α→V} {outs:α→Nat→List (Nat × B)} {stays:List Nat} {c:Code}
def outQ (P:Program) (X:Cx) (rs:Array ResultVar) (r:PR α) (res:α→V) (outs:α→Nat→List (Nat × B)) (stays:List Nat):Exit→St→Prop
 | .panic ch,_=>X.pan ch
 | e,st=>match r with
  | .ok a k=>exitIO P X rs (res a) (outs a k) stays e st
  | .bad _=>∀ ρ a w,¬ Hold X st ρ a w
theorem cw_imp {Q Q':Exit→St→Prop} (h:CW P X c Q st) (hq:∀ e s,Q e s→Q' e s):CW P X c Q' st:=fun ρ a w hH=>wp_mono (h ρ a w hH) fun e a' w' ⟨s,ρ',hq',hH'⟩=>⟨s,ρ',hq e s hq',hH'⟩
theorem outQ_io {a:α} {k:Nat} {e:Exit} {s:St} (h:outQ P X rs (.ok a k) res outs stays e s):exitIO P X rs (res a) (outs a k) stays e s:=by
 cases e <;> exact h
theorem cw_pan {k:Nat} (h:CW P X c (outQ P X rs (.bad k:PR α) res outs stays) st):CW P X c (exitPan X) st:=fun ρ a w hH=>wp_mono (h ρ a w hH) fun e a' w' ⟨s,ρ',hq',hH'⟩=>⟨s,ρ',by
 cases e with
 | panic c=>exact hq'
 | _=>exact hq' ρ' a' w' hH',hH'⟩
theorem outQ_stop {r:PR α} {t:Nat} {e:Exit} (h:get t st.sl=some stopV:=by rfl) (he:e=.normal ∨ e=.ret:=by first | exact .inl rfl | exact .inr rfl):outQ P X rs r res outs stays e st:=by
 cases r with
 | ok a k=>rcases he with rfl | rfl <;> exact fun ρ a w hH=>(hold_stop hH h).elim
 | bad k=>rcases he with rfl | rfl <;> exact fun ρ a w hH=>hold_stop hH h
def SpQ (P:Program) (g:FuncId) (args:List V) (ins:List (Nat × B)) (r:PR α) (res:α→V) (outs:α→Nat→List (Nat × B)) (stays:List Nat) (ch:Nat→List PanicEntry):Prop:=match r with
 | .ok a k=>SpIO P g args ins (res a) (outs a k) stays
 | .bad k=>SpPan P g args ins (ch k)
theorem eq_ {r:PR α} {f:FuncId} {fn:Func} {as_:List V} {ins:List (Nat × B)} {ch:Nat→List PanicEntry} {sl:List (Nat × V)} {n:Nat} (hf:P.funcs[f]?=some fn) (hn:fn.ntmps=n) (hr:fn.results=rs) (h:∀ X:Cx,X.n=n→(∀ k,r=.bad k→X.pan (ch k))→CW P X c (outQ P X rs r res outs stays) ⟨sl,ins⟩)
  (hg : (fn.name == "runtime.NumGoroutine") = false := by kernel_rfl) (hb : fn.body = some c := by rfl) (hs : argSv 0 as_ = sl := by simp only [argSv, Nat.reduceAdd]; exact rfl) (hl : (as_.length ≤ n) = True := by simp only [List.map_cons, List.map_nil, List.length_cons, List.length_nil, Nat.reduceAdd, Nat.reduceLeDiff]) : SpQ P f as_ ins r res outs stays ch := by
 cases r with
 | ok a k=>exact ei_ hf hn hr (fun X hX=>cw_imp (h X hX (by intro k hk;cases hk)) fun _ _=>outQ_io) hg hb hs hl
 | bad k=>exact ep_ hf hn (fun X hX hp=>cw_pan (h X hX (fun k' hk=>by cases hk;exact hp))) hg hb hs hl
theorem SpQ.ok {f:FuncId} {as_:List V} {ins:List (Nat × B)} {ch:Nat→List PanicEntry} {a:α} {k:Nat} (h:SpQ P f as_ ins (.ok a k) res outs stays ch):SpIO P f as_ ins (res a) (outs a k) stays:=h
theorem SpQ.bad {f:FuncId} {as_:List V} {ins:List (Nat × B)} {ch:Nat→List PanicEntry} {k:Nat} (h:SpQ P f as_ ins (.bad k) res outs stays ch):SpPan P f as_ ins (ch k):=h
theorem okq_ {a:α} {k:Nat} {e:Exit} (he:∀ c,e ≠ .panic c) (h:exitIO P X rs (res a) (outs a k) stays e st):outQ P X rs (.ok a k) res outs stays e st:=by
 cases e with
 | panic c=>exact absurd rfl (he c)
 | _=>exact h
theorem SpPan.ren {f:FuncId} {args:List V} {ins:List (Nat × B)} {ch:List PanicEntry} (h:SpPan P f args ins ch) (σ:List (Nat × Nat)) (hok:renIOk σ args ins [] []=true) :
  SpPan P f (V.rens σ args) (renB σ ins) ch where
 enters:=h.enters
 calls w S F hS ρ hF hinj hdead hins vs hG hvs:=by
  unfold renIOk at hok
  simp only [Bool.and_eq_true,List.all_eq_true,List.contains_eq_mem,decide_eq_true_eq] at hok
  obtain ⟨⟨⟨⟨⟨⟨hn,hki⟩,hko⟩,hks⟩,hnod⟩,hao⟩,hio⟩:=hok
  have hdi:∀ p ∈ ins,∃ j,get p.1 σ=some j:=fun p hp=>get_dom (hki p.1 (List.mem_map.2 ⟨p,hp,rfl⟩))
  have hokf:∀ (ρ₁:Nat→R) z b,okOf (Cx.io w S F hS ρ₁ 0) ρ w z b→okOf (Cx.io w S F hS (fwdR σ ρ) 0) (fwdR σ ρ) w z b:=fun _ z b hb=>⟨hb.1,hb.2.1,fun id b' cap hid=>by
   obtain ⟨k,_,h2⟩:=fwdR_lie hid
   exact hb.2.2 k b' cap h2⟩
  refine (h.calls w S F hS (fwdR σ ρ) (fun id b cap hid=>?_) (fun i j b c d hi hj=>?_) (fun id hid=>?_) (fun id b hg=>?_) vs hG (RdVs.unren (fun z t x hr=>hr.mono fun b hb=>⟨hokf _ z b hb,rfl⟩) hao hvs)).mono ?_
  ·obtain ⟨k,_,h2⟩:=fwdR_lie hid
   exact hF k b cap h2
  ·obtain ⟨k,h1,h2⟩:=fwdR_lie hi
   obtain ⟨l,h3,h4⟩:=fwdR_lie hj
   have:=hinj k l b c d h2 h4
   subst this
   exact ren_inj hn h1 h3
  ·unfold fwdR
   split
   ·rename_i j hj
    refine hdead j fun hm=>hid ?_
    obtain ⟨p,h1,h2⟩:=renB_mem hm
    obtain ⟨j',hj'⟩:=hdi p h1
    rw [renI_get hj'] at h2
    subst h2
    rw [ren_inj hn hj hj']
    exact List.mem_map.2 ⟨p,h1,rfl⟩
   ·rfl
  ·have:=hins _ _ (get_renB hn hdi hg)
   exact HasB.unren (hdi _ (get_mem hg)) (hio _ (get_mem hg)) this
  ·rintro e w' hp
   refine ⟨hp.1,hp.2.1,fun c hc=>hp.2.2 c ⟨hc.1,fun i cap hi=>?_⟩⟩
   obtain ⟨j,_,hj⟩:=fwdR_lie hi
   exact hc.2 j cap hj
theorem SpQ.ren {r:PR α} {f:FuncId} {args:List V} {ins:List (Nat × B)} {ch:Nat→List PanicEntry} (h:SpQ P f args ins r res outs stays ch) (σ:List (Nat × Nat)) (hok:∀ a k,renIOk σ args ins (outs a k) stays=true) (hok2:renIOk σ args ins [] []=true) :
  SpQ P f (V.rens σ args) (renB σ ins) r (fun a=>(res a).ren σ) (fun a k=>renB σ (outs a k)) (stays.map (renI σ)) ch:=by
 cases r with
 | ok a k=>exact SpIO.ren h σ (hok a k)
 | bad k=>exact SpPan.ren h σ hok2
theorem qio_ {st0:St} {K:St→Prop} {l:List Oper} {ops:Array Oper} {o:Oper} {f:Prop} (hf:f) {c:Call} {cv:Operand} {g:FuncId} {args as_:List V} {ins outs:List (Nat × B)} {v:V} {mk:Bool} (hsp:SpIO P g args ins v outs stays) (h:RWr P X ops K (l,st0))
  (hop:o.op=.call c:=by exact rfl) (hcal:c.callee=.value cv:=by exact rfl)
  (hcl:f→callIO (ins.map (·.1)) st 40 cv c.args.toList=some (g,mk,as_):=by intro hf;simp only [go_sem,hf] <;> exact rfl) (hle:f→vsLe args as_:=by intro hf;simp only [go_sem,hf] <;> fail) (hins:f→insLe st.bl ins:=by intro hf;simp only [go_sem,hf] <;> fail) (hon:f→ins.all (fun p=>p.2.only (ins.map (·.1)))=true:=by intro hf;simp only [go_sem,hf] <;> fail) (hm:f→(mk || (v.allF && outs.all fun p=>p.2.allF))=true:=by intro hf;first | rfl | (simp only [go_sem,hf] <;> fail))
  (hg:f→guardOf st ops o=some true:=by intro hf;simp only [go_sem,hf] <;> fail) (hd:dstOk X.n o.dst=true:=by rw [hX];rfl) (hd2:staysOk X.n (ins.map (·.1)) (outs.map (·.1)) stays=true:=by rw [hX];rfl)
  (hr:f→st.app (ioD (ins.map (·.1)) v outs stays) o.dst=st0:=by intro hf;simp (maxSteps:=5000000) only [go_sem,hf,hX];exact rfl):RWr P X ops K (o :: l,st):=by
 have hr:=hr hf
 subst hr
 have hm:=hm hf
 rw [Bool.or_eq_true,Bool.and_eq_true,List.all_eq_true] at hm
 exact rw_step (callIO_step (n:=40) hop hcal (hcl hf) hsp (hle hf) (hins hf) (hon hf) hm hd2) (hg hf) hd h
theorem pio_ {K:St→Prop} {l:List Oper} {ops:Array Oper} {o:Oper} {f:Prop} (hf:f) {d:Nat} {c:Call} {cv:Operand} {g:FuncId} {args as_:List V} {ins:List (Nat × B)} {ch:List PanicEntry} {mk:Bool} (hsp:SpPan P g args ins ch) (hpan:X.pan ch)
  (hop:o.op=.call c:=by exact rfl) (hcal:c.callee=.value cv:=by exact rfl) (hdd:o.dst=some d:=by exact rfl)
  (hcl:f→callIO (ins.map (·.1)) st 40 cv c.args.toList=some (g,mk,as_):=by intro hf;simp only [go_sem,hf] <;> exact rfl) (hle:f→vsLe args as_:=by intro hf;simp only [go_sem,hf] <;> fail) (hins:f→insLe st.bl ins:=by intro hf;simp only [go_sem,hf] <;> fail) (hon:f→ins.all (fun p=>p.2.only (ins.map (·.1)))=true:=by intro hf;simp only [go_sem,hf] <;> fail)
  (hg:f→guardOf st ops o=some true:=by intro hf;simp only [go_sem,hf] <;> fail) (hd:dstOk X.n o.dst=true:=by rw [hX];rfl):RWr P X ops K (o :: l,st) :=
 rw_stepP (panIO_step hop hcal (hcl hf) hsp (hle hf) (hins hf) (hon hf) hpan) (hg hf) hd (rw_stop (t:=d) (by rw [hdd];show get d (st.put (some d) stopV).sl=_;simp [St.put,get]))
end
def SpR {α:Type} (P:Program) (g:FuncId) (args:List V) (l:List Vl) (en:Int) (k:Nat) (r:PR α) (res:α→V):Prop:=match r with
 | .ok a k2=>SpL P g args 67 (paH l en k) (res a) (paH l en k2) 26
 | .bad k2=>SpPL P g args 67 (paH l en k) (chP l en k2) 26
section
variable {P:Program} {g:FuncId} {args:List V} {α:Type} {l:List Vl} {en:Int} {k:Nat} {r:PR α} {res:α→V}
theorem SpR.ok {a:α} {k2:Nat} (h:SpR P g args l en k (.ok a k2) res):SpL P g args 67 [.t false (.sl (rVs l)),.t false (.lit (.int .i64 k)),.t false (.lit (.int .i64 en))] (res a) [.t false (.sl (rVs l)),.t false (.lit (.int .i64 k2)),.t false (.lit (.int .i64 en))] 26:=h
theorem SpR.bad {k2:Nat} (h:SpR P g args l en k (.bad k2) res):SpPL P g args 67 [.t false (.sl (rVs l)),.t false (.lit (.int .i64 k)),.t false (.lit (.int .i64 en))] (chP l en k2) 26:=h
theorem SpR.mk (h:∀ vs:List Value,vs.length=26→(∀ v ∈ vs,v.oneCell'=true)→SpQ P g args [(1000,.var 67 ([.t false (.sl (rVs l)),.t false (.lit (.int .i64 k)),.t false (.lit (.int .i64 en))]++lits vs))] r res (fun _ k2=>[(1000,.var 67 ([.t false (.sl (rVs l)),.t false (.lit (.int .i64 k2)),.t false (.lit (.int .i64 en))]++lits vs))]) [1000] (chP l en)):SpR P g args l en k r res:=by
 cases r <;> exact h
end
theorem vE_eta (e:Ex):vE e=.agg [.t true (.lit (.int .i64 e.k)),.t true (.lit (.int .i64 e.vk.k)),.t true (.lit (.int .i64 e.vk.n)),.t true (.lit (.string e.vk.s)),.t true (.lit (.string e.nm)),.t true (.sl (e.ar.map rE))]:=by
 cases e
 unfold vE
 rw [rE_mk]
 rfl
theorem rE_eta (e:Ex):rE e=[.lit (.int .i64 e.k),.lit (.int .i64 e.vk.k),.lit (.int .i64 e.vk.n),.lit (.string e.vk.s),.lit (.string e.nm),.sl (e.ar.map rE)]:=by
 cases e
 rw [rE_mk]
 rfl
def vCol (c:Col):V:=.agg [.t true (.lit (.string c.name)),.t true (.lit (.int .i64 c.ty))]
theorem pname_r (l:List Vl) (hl:GoodL l) (en:Int) (k:Nat):SpR Tryz.prog 111 [.one (.optr 1000 0)] l en k (nameR l k) (fun s=>.one (.t true (.lit (.string s)))):=by
 unfold nameR
 cases h:nameP l k with
 | true=>exact pname_l l hl en k h
 | false=>exact pname_p l hl en k h
theorem pneed_r (l:List Vl) (hl:GoodL l) (en:Int) (k:Nat) (s:ByteArray):SpR Tryz.prog 113 [.one (.optr 1000 0),.one (.t false (.sl (rS [s])))] l en k (needR l s k) (fun _=>.tup []):=by
 have:=hl.len
 unfold needR
 cases h:takeB l s k with
 | true=>exact pneed_l l (by omega) en k s h
 | false=>exact pneed_p l (by omega) en k s h
theorem pone_r (l:List Vl) (hl:GoodL l) (en:Int) (k:Nat) (L:List ByteArray) (hL:L.length≤1000):SpR Tryz.prog 109 [.one (.optr 1000 0),.one (.t false (.sl (rS L)))] l en k (wordR l L k) (fun i=>.one (.t true (.lit (.int .i64 i)))):=by
 have:=hl.len
 unfold wordR
 cases h:decide (oneP l k L 0=-1) with
 | true=>exact pone_p l (by omega) en k L hL (of_decide_eq_true h)
 | false=>exact pone_l l (by omega) en k L hL (of_decide_eq_false h)
theorem pnumber_r (l:List Vl) (hl:GoodL l) (en:Int) (k:Nat):SpR Tryz.prog 156 [.one (.optr 1000 0)] l en k (numR l k) (fun n=>.one (.t true (.lit (.int .i64 n)))):=by
 unfold numR
 cases h:kindP l 2 k with
 | true=>exact pnumber_l l hl en k h
 | false=>exact pnumber_p l en k h
theorem pmust_r (l:List Vl) (hl:GoodL l) (en:Int) (k:Nat):SpR Tryz.prog 116 [.one (.optr 1000 0)] l en k (mustR l k) vV:=by
 unfold mustR
 cases h:vP l k with
 | yes v k2=>exact pmust_l l hl en k v k2 h
 | bad k2=>exact pmust_p l hl en k k2 h
 | no=>exact pmust_n l hl en k h
theorem typR_eq (l:List Vl) (k:Nat):typR l k=bif decide (oneP l k wTypes 0=-1) then .bad k else .ok (1 + oneP l k wTypes 0) (k + 1):=by
 unfold typR wordR
 show PR.bind (bif decide (oneP l k wTypes 0=-1) then _ else _) _=_
 cases decide (oneP l k wTypes 0=-1) <;> rfl
theorem ptyp_r (l:List Vl) (hl:GoodL l) (en:Int) (k:Nat):SpR Tryz.prog 153 [.one (.optr 1000 0)] l en k (typR l k) (fun n=>.one (.t true (.lit (.int .i64 n)))):=by
 have:=hl.len
 rw [typR_eq]
 cases h:decide (oneP l k wTypes 0=-1) with
 | true=>exact ptyp_p l (by omega) en k (of_decide_eq_true h)
 | false=>exact ptyp_l l (by omega) en k (of_decide_eq_false h)
theorem pcolumn_r (l:List Vl) (hl:GoodL l) (en:Int) (k:Nat):SpR Tryz.prog 150 [.one (.optr 1000 0)] l en k (colR l k) vCol:=by
 unfold colR nameR
 cases h1:nameP l k with
 | false=>exact pcolumn_p l hl en k h1
 | true =>
  show SpR _ _ _ _ _ _ (PR.bind (typR l (k + 1)) _) _
  rw [typR_eq]
  cases h2:decide (oneP l (k + 1) wTypes 0=-1) with
  | true=>exact pcolumn_q l hl en k h1 (of_decide_eq_true h2)
  | false=>exact pcolumn_l l hl en k h1 (of_decide_eq_false h2)
end Go.Proofs.YtjdgejfhnfnmgaaGreatDoor.Ax
