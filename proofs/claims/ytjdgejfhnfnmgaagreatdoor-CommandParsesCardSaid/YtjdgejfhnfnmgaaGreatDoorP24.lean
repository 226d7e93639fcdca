/-  -/
import Derived.Test.YtjdgejfhnfnmgaaGreatDoorP20
import Derived.Test.YtjdgejfhnfnmgaaGreatDoorP23
namespace Go.Proofs.YtjdgejfhnfnmgaaGreatDoor.Ax
open Go.RowKit
set_option linter.unusedSimpArgs false
attribute [local go_sem] ty3 ty4 ty9 ty5 ty26 ty24 ty29 ty27 ty77 ty43 ty69 ty101
set_option linter.unusedVariables false
set_option maxRecDepth 100000
def vE (e:Ex):V:=.agg ((rE e).map (C.t true))
theorem sign_rowQ (j:Nat) (hj:j < 7):([[T.lit (.string ⟨#[97,110,100]⟩)],[T.lit (.string ⟨#[111,114]⟩)],[T.lit (.string ⟨#[43]⟩)],[T.lit (.string ⟨#[45]⟩)],[T.lit (.string ⟨#[124,124]⟩)],[T.lit (.string ⟨#[60]⟩)],[T.lit (.string ⟨#[61]⟩)]]:List (List T))[j]?=some [T.lit (.string (wAnd7.getD j ⟨#[]⟩))]:=by
 obtain rfl | rfl | rfl | rfl | rfl | rfl | rfl:j=0 ∨ j=1 ∨ j=2 ∨ j=3 ∨ j=4 ∨ j=5 ∨ j=6:=by omega
 all_goals rfl
theorem signK_one (u:ByteArray):∀ i,i≤7→signK u i=0 ∨ ∃ j:Nat,j < 7∧signK u i=5 + (j:Int)
 | 0,_=>.inl rfl
 | i + 1,h=>by
  rw [signK]
  split
  ·exact .inr ⟨i,by omega,rfl⟩
  ·exact signK_one u i (by omega)
set_option maxHeartbeats 8000000 in
theorem rexpr_leaf (l:List Vl) (hl:GoodL l) (en:Int) (r:RS) (hr:r.at_≤l.length) (deep:Int) (h1:strEq (txQ l r) wOpen=false) (h2:strEq (txQ l r) wNot=false) :
  SpL Tryz.prog 75 [.one (.optr 1000 0),.one (.t false (.lit (.int .i64 deep)))] 69 (rdH l en r) (vE (if isVB (txQ l r)=true then .mk 1 (vQ l r).1 .empty [] else .mk 2 Vl.zero (nameQ l r).1 [])) (rdH l en (if isVB (txQ l r)=true then (vQ l r).2 else (nameQ l r).2)) 26:=by
 intro vs hlen hone
 have hT:=rtext_l l en r
 have hI:=risv_l l en r
 have hV:=rv_l l hl en r hr
 have hNa:=rname_l l (by have:=hl.len;omega) en r hr (by have:=txQ_size hl r;unfold maxLen;omega)
 generalize txQ l r=u at *
 generalize vQ l r=qv at *
 generalize nameQ l r=qn at *
 unfold strEq wOpen at h1
 unfold strEq wNot at h2
 obtain ⟨at_,bad⟩:=r
 obtain ⟨⟨vk,vn,vs_⟩,⟨at1,bad1⟩⟩:=qv
 obtain ⟨nm,⟨at2,bad2⟩⟩:=qn
 unfold vV rdH at hV
 unfold vE
 unfold rdH at hT hI hNa ⊢
 dsimp only at hT hI hV hNa ⊢
 cases hb:isVB u with
 | true =>
  rw [if_pos rfl,if_pos rfl,rE_mk]
  rw [hb] at hI
  clear hNa
  (refine ei_ Tryz.func75 Tryz.ntmps75 Tryz.results75 fun X hX=>?_)
  refine gs_ ?_
  refine au_ an0 ?_
  (refine rn_ 0 an0 fun K hK=>?_;refine rx_ an0 ?_;refine lk_ 1000 an0 (hT) ?_;refine rx_ an0 ?_;refine rwr_nil (hK _ ?_);clear hK K)
  refine au_ (an2 h1 h2) ?_
  (refine rn_ 0 an0 fun K hK=>?_;refine rx_ an0 ?_;refine lk_ 1000 an0 (hI) ?_;refine rx_ an0 ?_;refine rwr_nil (hK _ ?_);clear hK K)
  refine au_ an0 ?_
  (refine rn_ 0 an0 fun K hK=>?_;refine rx_ an0 ?_;refine lk_ 1000 an0 (hV) ?_;refine rx_ an0 ?_;refine rwr_nil (hK _ ?_);clear hK K)
  refine au_ an0 ?_
  exact oj_ an0 (.inl rfl)
 | false =>
  rw [if_neg Bool.false_ne_true,if_neg Bool.false_ne_true,rE_mk]
  rw [hb] at hI
  unfold Vl.zero
  clear hV
  (refine ei_ Tryz.func75 Tryz.ntmps75 Tryz.results75 fun X hX=>?_)
  refine gs_ ?_
  refine au_ an0 ?_
  (refine rn_ 0 an0 fun K hK=>?_;refine rx_ an0 ?_;refine lk_ 1000 an0 (hT) ?_;refine rx_ an0 ?_;refine rwr_nil (hK _ ?_);clear hK K)
  refine au_ (an2 h1 h2) ?_
  (refine rn_ 0 an0 fun K hK=>?_;refine rx_ an0 ?_;refine lk_ 1000 an0 (hI) ?_;refine rx_ an0 ?_;refine rwr_nil (hK _ ?_);clear hK K)
  refine au_ an0 ?_
  (refine rn_ 0 an0 fun K hK=>?_;refine rx_ an0 ?_;refine lk_ 1000 an0 (hNa) ?_;refine rx_ an0 ?_;refine rwr_nil (hK _ ?_);clear hK K)
  refine au_ an0 ?_
  exact oj_ an0 (.inl rfl)
theorem takeQ_len {l:List Vl} {s:ByteArray} {r:RS} (hr:r.at_≤l.length) (hs:s.size ≠ 0):(takeQ l s r).2.at_≤l.length:=takeQ_le hr hs
theorem needQ_len {l:List Vl} {s:ByteArray} {r:RS} (hr:r.at_≤l.length) (hs:s.size ≠ 0):(needQ l s r).at_≤l.length:=needQ_le (takeQ_le hr hs) hr
theorem nameQ_len {l:List Vl} {r:RS} (hr:r.at_≤l.length):(nameQ l r).2.at_≤l.length:=by
 unfold nameQ
 split
 ·rename_i h
  have h0:txQ l r ≠ ⟨#[]⟩:=by
   intro h2
   rw [h2] at h
   cases h
  exact (txQ_lt h0).2
 ·exact hr
theorem numQ_len {l:List Vl} {r:RS} (hr:r.at_≤l.length):(numQ l r).2.at_≤l.length:=by
 unfold numQ
 split
 ·rename_i h
  exact (txQ_lt (digF_ne h)).2
 ·exact hr
theorem strEq_none {s:ByteArray} (hs:s.size ≠ 0):strEq ⟨#[]⟩ s=false:=by
 rw [Bool.eq_false_iff]
 intro h
 have:=strEq_iff.1 h
 subst this
 exact hs rfl
theorem isVB_none:isVB ⟨#[]⟩=false:=by
 unfold isVB
 rw [strEq_none (by decide),strEq_none (by decide),strEq_none (by decide),strEq_none (by decide)]
 rfl
theorem vQ_len {l:List Vl} {r:RS} (hr:r.at_≤l.length):(vQ l r).2.at_≤l.length:=by
 unfold vQ
 by_cases h:isVB (txQ l r)=false
 ·rw [if_pos h];exact hr
 ·rw [if_neg h]
  have h0:txQ l r ≠ ⟨#[]⟩:=by
   intro h2
   rw [h2] at h
   exact h isVB_none
  have hlt:r.at_ + 1≤l.length:=(txQ_lt h0).2
  repeat' split
  all_goals first
   | exact hlt
   | exact numQ_len hlt
   | exact numQ_len hr
theorem exQ_len {l:List Vl}:∀ (f:Nat) {r:RS},r.at_≤l.length→(exQ l f r).2.at_≤l.length
 | 0,r,hr=>by
  unfold exQ
  split
  ·exact hr
  ·split
   ·exact vQ_len hr
   ·exact nameQ_len hr
 | f + 1,r,hr=>by
  unfold exQ
  split
  ·rename_i h
   have h0:txQ l r ≠ ⟨#[]⟩:=by
    intro h2
    rw [h2,strEq_none (by decide)] at h
    cases h
   exact exQ_len f (r:=⟨r.at_ + 1,r.bad⟩) (txQ_lt h0).2
  ·split
   ·rename_i h
    have h0:txQ l r ≠ ⟨#[]⟩:=by
     intro h2
     rw [h2,strEq_none (by decide)] at h
     cases h
    have h1:=exQ_len f (r:=⟨r.at_ + 1,r.bad⟩) (txQ_lt h0).2
    have h2:=takeQ_len (s:=wIs) h1 (by decide)
    dsimp only
    split
    ·exact needQ_len (needQ_len h2 (by decide)) (by decide)
    ·refine needQ_len (exQ_len f ?_) (by decide)
     split
     ·exact h2
     ·obtain h3 | ⟨j,hj,h3⟩:=signK_one (txQ l (takeQ l wIs (exQ l f ⟨r.at_ + 1,r.bad⟩).2).2) 7 (Nat.le_refl _)
      ·rename_i h4;exact absurd h3 h4
      ·refine needQ_len h2 ?_
       unfold signQ
       rw [h3,show (5 + (j:Int) - 5).toNat=j by omega]
       obtain rfl | rfl | rfl | rfl | rfl | rfl | rfl:j=0 ∨ j=1 ∨ j=2 ∨ j=3 ∨ j=4 ∨ j=5 ∨ j=6:=by omega
       all_goals decide
   ·split
    ·exact vQ_len hr
    ·exact nameQ_len hr
set_option maxHeartbeats 16000000 in
theorem rexpr_not (l:List Vl) (hl:GoodL l) (en:Int) (at_:Nat) (hat:at_ < l.length) (deep:Int) (hd:0≤deep∧deep < 60) (h2:strEq (txQ l ⟨at_,false⟩) wNot=true) (e:Ex) (r1:RS)
  (ih:SpL Tryz.prog 75 [.one (.optr 1000 0),.one (.t false (.lit (.int .i64 (deep + 1))))] 69 (rdH l en ⟨at_ + 1,false⟩) (vE e) (rdH l en r1) 26) :
  SpL Tryz.prog 75 [.one (.optr 1000 0),.one (.t false (.lit (.int .i64 deep)))] 69 (rdH l en ⟨at_,false⟩) (vE (.mk 3 Vl.zero .empty [e])) (rdH l en r1) 26:=by
 intro vs hlen hone
 have hT:=rtext_l l en ⟨at_,false⟩
 have hll:=hl.len
 obtain ⟨ke,ve,ne,ae⟩:=e
 obtain ⟨at1,bad1⟩:=r1
 have hu:=strEq_iff.1 h2
 rw [hu] at hT
 have g1:(wNot.toList==(⟨#[40]⟩:ByteArray).toList)=false:=by rw [Bool.eq_false_iff];intro h;cases strEq_iff.1 h
 have g2:(wNot.toList==(⟨#[110,111,116]⟩:ByteArray).toList)=true:=beq_self_eq_true _
 have g3:(deep==60)=false:=by simp;omega
 have e1:IntKind.i64.wrap ((at_:Int) + 1)=((at_ + 1:Nat):Int):=by rw [IntWalk.i64_in _ (by omega)];rfl
 have e2:IntKind.i64.wrap (deep + 1)=deep + 1:=IntWalk.i64_in _ (by omega)
 unfold vE at ih ⊢
 unfold rdH at hT ih ⊢
 dsimp only at hT ih ⊢
 rw [rE_mk,show [Ex.mk ke ve ne ae].map rE=[rE (.mk ke ve ne ae)] from rfl,rE_mk]
 rw [rE_mk] at ih
 unfold Vl.zero
 generalize wNot=u at *
 have f1:(1:Nat)≤maxLen:=by decide
 have f2:(1 * 48:Nat)≤140737488355328:=by decide
 (refine ei_ Tryz.func75 Tryz.ntmps75 Tryz.results75 fun X hX=>?_)
 refine gs_ ?_
 refine au_ an0 ?_
 (refine rn_ 0 an0 fun K hK=>?_;refine rx_ an0 ?_;refine lk_ 1000 an0 (hT) ?_;refine rx_ an0 ?_;refine rwr_nil (hK _ ?_);clear hK K)
 refine au_ (an4 g1 g2 g3 e1) ?_
 (refine rn_ 0 e2 fun K hK=>?_;refine rx_ e2 ?_;refine lk_ 1000 e2 (ih) ?_;refine rx_ e2 ?_;refine rwr_nil (hK _ ?_);clear hK K)
 refine au_ an0 ?_
 refine ex_meltb 4 5 46 ?_
 exact oj_ an0 (.inl rfl)
set_option maxHeartbeats 16000000 in
theorem rexpr_is (l:List Vl) (hl:GoodL l) (en:Int) (at_:Nat) (hat:at_ < l.length) (deep:Int) (hd:0≤deep∧deep < 60) (h1:strEq (txQ l ⟨at_,false⟩) wOpen=true) (e:Ex) (r1 r2 r3 r4:RS)
  (ih:SpL Tryz.prog 75 [.one (.optr 1000 0),.one (.t false (.lit (.int .i64 (deep + 1))))] 69 (rdH l en ⟨at_ + 1,false⟩) (vE e) (rdH l en r1) 26)
  (hTk:SpL Tryz.prog 68 [.one (.optr 1000 0),.one (.t false (.lit (.string wIs)))] 69 (rdH l en r1) (.one (.t true (.lit (.bool true)))) (rdH l en r2) 26)
  (hN1:SpL Tryz.prog 70 [.one (.optr 1000 0),.one (.t false (.lit (.string wNull)))] 69 (rdH l en r2) (.tup []) (rdH l en r3) 26)
  (hN2:SpL Tryz.prog 70 [.one (.optr 1000 0),.one (.t false (.lit (.string wShut)))] 69 (rdH l en r3) (.tup []) (rdH l en r4) 26) :
  SpL Tryz.prog 75 [.one (.optr 1000 0),.one (.t false (.lit (.int .i64 deep)))] 69 (rdH l en ⟨at_,false⟩) (vE (.mk 4 Vl.zero .empty [e])) (rdH l en r4) 26:=by
 intro vs hlen hone
 have hT:=rtext_l l en ⟨at_,false⟩
 have hll:=hl.len
 obtain ⟨ke,ve,ne,ae⟩:=e
 obtain ⟨at1,bad1⟩:=r1
 obtain ⟨at2,bad2⟩:=r2
 obtain ⟨at3,bad3⟩:=r3
 obtain ⟨at4,bad4⟩:=r4
 have hu:=strEq_iff.1 h1
 rw [hu] at hT
 have g1:(wOpen.toList==(⟨#[40]⟩:ByteArray).toList)=true:=beq_self_eq_true _
 have g2:(wOpen.toList==(⟨#[110,111,116]⟩:ByteArray).toList)=false:=by rw [Bool.eq_false_iff];intro h;cases strEq_iff.1 h
 have g3:(deep==60)=false:=by simp;omega
 have e1:IntKind.i64.wrap ((at_:Int) + 1)=((at_ + 1:Nat):Int):=by rw [IntWalk.i64_in _ (by omega)];rfl
 have e2:IntKind.i64.wrap (deep + 1)=deep + 1:=IntWalk.i64_in _ (by omega)
 unfold vE at ih ⊢
 unfold rdH at hT ih hTk hN1 hN2 ⊢
 dsimp only at hT ih hTk hN1 hN2 ⊢
 rw [rE_mk,show [Ex.mk ke ve ne ae].map rE=[rE (.mk ke ve ne ae)] from rfl,rE_mk]
 rw [rE_mk] at ih
 unfold Vl.zero
 unfold wIs at hTk
 unfold wNull at hN1
 unfold wShut at hN2
 generalize wOpen=u at *
 (refine ei_ Tryz.func75 Tryz.ntmps75 Tryz.results75 fun X hX=>?_)
 refine gs_ ?_
 refine au_ an0 ?_
 (refine rn_ 0 an0 fun K hK=>?_;refine rx_ an0 ?_;refine lk_ 1000 an0 (hT) ?_;refine rx_ an0 ?_;refine rwr_nil (hK _ ?_);clear hK K)
 refine au_ (an4 g1 g2 g3 e1) ?_
 (refine rn_ 0 e2 fun K hK=>?_;refine rx_ e2 ?_;refine lk_ 1000 e2 (ih) ?_;refine rx_ e2 ?_;refine rwr_nil (hK _ ?_);clear hK K)
 refine gs_ ?_
 (refine rn_ 0 an0 fun K hK=>?_;refine rx_ an0 ?_;refine lk_ 1000 an0 (hTk) ?_;refine rx_ an0 ?_;refine rwr_nil (hK _ ?_);clear hK K)
 refine gs_ ?_
 (refine rn_ 0 an0 fun K hK=>?_;refine rx_ an0 ?_;refine lk_ 1000 an0 (hN1) ?_;refine rx_ an0 ?_;refine rwr_nil (hK _ ?_);clear hK K)
 refine gs_ ?_
 (refine rn_ 0 an0 fun K hK=>?_;refine rx_ an0 ?_;refine lk_ 1000 an0 (hN2) ?_;refine rx_ an0 ?_;refine rwr_nil (hK _ ?_);clear hK K)
 refine au_ an0 ?_
 refine ex_meltb 4 5 69 ?_
 exact oj_ an0 (.inl rfl)
set_option maxHeartbeats 16000000 in
theorem rexpr_bin (l:List Vl) (hl:GoodL l) (en:Int) (at_:Nat) (hat:at_ < l.length) (deep:Int) (hd:0≤deep∧deep < 60) (h1:strEq (txQ l ⟨at_,false⟩) wOpen=true) (e e':Ex) (r1 r2 r3 r4 r5:RS)
  (ih:SpL Tryz.prog 75 [.one (.optr 1000 0),.one (.t false (.lit (.int .i64 (deep + 1))))] 69 (rdH l en ⟨at_ + 1,false⟩) (vE e) (rdH l en r1) 26)
  (hTk:SpL Tryz.prog 68 [.one (.optr 1000 0),.one (.t false (.lit (.string wIs)))] 69 (rdH l en r1) (.one (.t true (.lit (.bool false)))) (rdH l en r2) 26)
  (h3:r3=if signQ (txQ l r2)=0 then ⟨r2.at_,true⟩ else needQ l (wAnd7.getD (signQ (txQ l r2) - 5).toNat ⟨#[]⟩) r2) (hr2:r2.at_≤l.length)
  (ih2:SpL Tryz.prog 75 [.one (.optr 1000 0),.one (.t false (.lit (.int .i64 (deep + 1))))] 69 (rdH l en r3) (vE e') (rdH l en r4) 26)
  (hN2:SpL Tryz.prog 70 [.one (.optr 1000 0),.one (.t false (.lit (.string wShut)))] 69 (rdH l en r4) (.tup []) (rdH l en r5) 26) :
  SpL Tryz.prog 75 [.one (.optr 1000 0),.one (.t false (.lit (.int .i64 deep)))] 69 (rdH l en ⟨at_,false⟩) (vE (.mk (signQ (txQ l r2)) Vl.zero .empty [e,e'])) (rdH l en r5) 26:=by
 intro vs hlen hone
 have hT:=rtext_l l en ⟨at_,false⟩
 have hT2:=rtext_l l en r2
 have hNs:=fun s=>rneed_l l (by have:=hl.len;omega) en r2 hr2 s
 have hll:=hl.len
 obtain ⟨ke,ve,ne,ae⟩:=e
 obtain ⟨kf,vf,nf,af⟩:=e'
 have hu:=strEq_iff.1 h1
 rw [hu] at hT
 have hsg:=signK_one (txQ l r2) 7 (Nat.le_refl _)
 unfold signQ at h3 ⊢
 generalize hw:txQ l r2=w at *
 have g1:(wOpen.toList==(⟨#[40]⟩:ByteArray).toList)=true:=beq_self_eq_true _
 have g2:(wOpen.toList==(⟨#[110,111,116]⟩:ByteArray).toList)=false:=by rw [Bool.eq_false_iff];intro h;cases strEq_iff.1 h
 have g3:(deep==60)=false:=by simp;omega
 have e1:IntKind.i64.wrap ((at_:Int) + 1)=((at_ + 1:Nat):Int):=by rw [IntWalk.i64_in _ (by omega)];rfl
 have e2:IntKind.i64.wrap (deep + 1)=deep + 1:=IntWalk.i64_in _ (by omega)
 obtain ⟨at1,bad1⟩:=r1
 obtain ⟨at2,bad2⟩:=r2
 obtain ⟨at4,bad4⟩:=r4
 obtain ⟨at5,bad5⟩:=r5
 unfold vE at ih ih2 ⊢
 unfold rdH at hT hT2 ih hTk ih2 hN2 ⊢
 dsimp only at hT hT2 ih hTk ih2 hN2 h3 ⊢
 rw [rE_mk,show [Ex.mk ke ve ne ae,Ex.mk kf vf nf af].map rE=[rE (.mk ke ve ne ae),rE (.mk kf vf nf af)] from rfl,rE_mk,rE_mk]
 rw [rE_mk] at ih ih2
 unfold Vl.zero
 unfold wIs at hTk
 unfold wShut at hN2
 generalize wOpen=u at *
 (refine ei_ Tryz.func75 Tryz.ntmps75 Tryz.results75 fun X hX=>?_)
 refine gs_ ?_
 refine au_ an0 ?_
 (refine rn_ 0 an0 fun K hK=>?_;refine rx_ an0 ?_;refine lk_ 1000 an0 (hT) ?_;refine rx_ an0 ?_;refine rwr_nil (hK _ ?_);clear hK K)
 refine au_ (an4 g1 g2 g3 e1) ?_
 (refine rn_ 0 e2 fun K hK=>?_;refine rx_ e2 ?_;refine lk_ 1000 e2 (ih) ?_;refine rx_ e2 ?_;refine rwr_nil (hK _ ?_);clear hK K)
 refine gs_ ?_
 (refine rn_ 0 an0 fun K hK=>?_;refine rx_ an0 ?_;refine lk_ 1000 an0 (hTk) ?_;refine rx_ an0 ?_;refine rwr_nil (hK _ ?_);clear hK K)
 refine au_ an0 ?_
 refine cw_loop (fun m st=>∃ (k:Nat),k≤7∧m=7 - k∧st=⟨[(10,litI .i64 k),(9,.one (.own 71 7)),(8,litI .i64 (signK w k)),(7,.one (.optr 7 0)),(4,.one (.optr 4 0)),(0,.one (.optr 1000 0)),(1,.one (.t false (.lit (.int .i64 deep))))],[(71,.arr 9 1 true [[T.lit (.string ⟨#[97,110,100]⟩)],[T.lit (.string ⟨#[111,114]⟩)],[T.lit (.string ⟨#[43]⟩)],[T.lit (.string ⟨#[45]⟩)],[T.lit (.string ⟨#[124,124]⟩)],[T.lit (.string ⟨#[60]⟩)],[T.lit (.string ⟨#[61]⟩)]]),(7,.var 29 [.t true (.lit (.int .i64 ke)),.t true (.lit (.int .i64 ve.k)),.t true (.lit (.int .i64 ve.n)),.t true (.lit (.string ve.s)),.t true (.lit (.string ne)),.t true (.sl (ae.map rE))]),(4,.var 29 [.t true (.lit (.int .i64 0)),.t true (.lit (.int .i64 0)),.t true (.lit (.int .i64 0)),.t true (.lit (.string .empty)),.t true (.lit (.string .empty)),.nil]),(1000,.var 69 ([.t false (.sl (rVs l)),.t false (.lit (.int .i64 at2)),.t false (.lit (.int .i64 en)),.t false (.lit (.bool bad2))]++lits vs))]⟩) 7 ⟨_,⟨0,by decide,rfl,rfl⟩,le_⟩ ?_
 rintro m st ⟨k,hk,rfl,rfl⟩
 by_cases hlt:k < 7
 ·have z1:decide ((k:Int) < 7)=true:=by simp;omega
  have z4:IntKind.i64.wrap ((k:Int) + 1)=((k + 1:Nat):Int):=by rw [IntWalk.i64_in _ (by omega)];rfl
  have z5:IntKind.i64.wrap (5 + (k:Int))=5 + (k:Int):=IntWalk.i64_in _ (by omega)
  have j2:(k:Int) < 7:=by omega
  have j3:(0:Int)≤(k:Int):=by omega
  have hrow:=sign_rowQ k hlt
  have hsk:signK w (k + 1)=if strEq w (wAnd7.getD k ⟨#[]⟩)=true then 5 + (k:Int) else signK w k:=rfl
  generalize wAnd7.getD k ⟨#[]⟩=sg at *
  generalize hsk1:signK w (k + 1)=sk1 at *
  generalize signK w k=sk0 at *
  unfold strEq at hsk
  cases hc:(w.toList==sg.toList) with
  | true =>
   rw [hc,if_pos rfl] at hsk
   refine au_ z1 ?_
   (refine dr_ 0 (an5 hc hrow hlt j2 j3) fun K hK=>?_;refine dx_ (an5 hc hrow hlt j2 j3) ?_;refine dlk_ 1000 (an5 hc hrow hlt j2 j3) (hT2) ?_;refine dx_ (an5 hc hrow hlt j2 j3) ?_;refine de_ (hK _ ?_);clear hK K)
   refine au_ (an2 z4 z5) ?_
   exact ⟨7 - (k + 1),by omega,_,⟨k + 1,by omega,rfl,rfl⟩,lf_ (an2 hsk1 hsk)⟩
  | false =>
   rw [hc,if_neg Bool.false_ne_true] at hsk
   refine au_ z1 ?_
   (refine dr_ 0 (an5 hc hrow hlt j2 j3) fun K hK=>?_;refine dx_ (an5 hc hrow hlt j2 j3) ?_;refine dlk_ 1000 (an5 hc hrow hlt j2 j3) (hT2) ?_;refine dx_ (an5 hc hrow hlt j2 j3) ?_;refine de_ (hK _ ?_);clear hK K)
   refine au_ (an2 z4 z5) ?_
   exact ⟨7 - (k + 1),by omega,_,⟨k + 1,by omega,rfl,rfl⟩,lf_ (an2 hsk1 hsk)⟩
 ·obtain rfl:k=7:=by omega
  rcases hsg with hs0 | ⟨j,hj,hsj⟩
  ·rw [hs0] at h3 ⊢
   rw [if_pos rfl] at h3
   subst h3
   dsimp only at ih2
   refine au_ an0 ?_
   (refine rn_ 0 e2 fun K hK=>?_;refine rx_ e2 ?_;refine lk_ 1000 e2 (ih2) ?_;refine rx_ e2 ?_;refine rwr_nil (hK _ ?_);clear hK K)
   refine gs_ ?_
   (refine rn_ 0 an0 fun K hK=>?_;refine rx_ an0 ?_;refine lk_ 1000 an0 (hN2) ?_;refine rx_ an0 ?_;refine rwr_nil (hK _ ?_);clear hK K)
   refine au_ an0 ?_
   refine ex_meltb 4 5 106 ?_
   exact oj_ an0 (.inl rfl)
  ·have hz:((5:Int) + (j:Int)==0)=false:=by simp;omega
   rw [hsj] at h3 ⊢
   rw [if_neg (by omega),show ((5:Int) + (j:Int) - 5).toNat=j by omega] at h3
   have hN:=hNs (wAnd7.getD j ⟨#[]⟩)
   rw [← h3] at hN
   have hrow:=sign_rowQ j hj
   generalize wAnd7.getD j ⟨#[]⟩=sg at *
   obtain ⟨at3,bad3⟩:=r3
   unfold rdH at hN
   dsimp only at hN ih2
   have z5:IntKind.i64.wrap (5 + (j:Int) - 5)=(j:Int):=by rw [IntWalk.i64_in _ (by omega)];omega
   have j2:(j:Int) < 7:=by omega
   have j3:(0:Int)≤(j:Int):=by omega
   generalize hfj:(5:Int) + (j:Int)=fj at *
   refine au_ hz ?_
   (refine rn_ 0 (an5 z5 hrow hj j2 j3) fun K hK=>?_;refine rx_ (an5 z5 hrow hj j2 j3) ?_;refine lk_ 1000 (an5 z5 hrow hj j2 j3) (hN) ?_;refine rx_ (an5 z5 hrow hj j2 j3) ?_;refine rwr_nil (hK _ ?_);clear hK K)
   refine gs_ ?_
   (refine rn_ 0 e2 fun K hK=>?_;refine rx_ e2 ?_;refine lk_ 1000 e2 (ih2) ?_;refine rx_ e2 ?_;refine rwr_nil (hK _ ?_);clear hK K)
   refine gs_ ?_
   (refine rn_ 0 an0 fun K hK=>?_;refine rx_ an0 ?_;refine lk_ 1000 an0 (hN2) ?_;refine rx_ an0 ?_;refine rwr_nil (hK _ ?_);clear hK K)
   refine au_ an0 ?_
   refine ex_meltb 4 5 106 ?_
   exact oj_ an0 (.inl rfl)
end Go.Proofs.YtjdgejfhnfnmgaaGreatDoor.Ax
namespace Go.Proofs.YtjdgejfhnfnmgaaGreatDoor.Ax
open Go.RowKit
set_option linter.unusedSimpArgs false
attribute [local go_sem] ty3 ty4 ty9 ty5 ty26 ty24 ty29 ty27 ty54 ty22 ty25 ty31 ty77 ty43 ty69 ty101
set_option linter.unusedVariables false
set_option maxRecDepth 100000
set_option maxHeartbeats 16000000 in
theorem rexpr_deep (l:List Vl) (en:Int) (r:RS) (h:(strEq (txQ l r) wOpen || strEq (txQ l r) wNot)=true) :
  SpL Tryz.prog 75 [.one (.optr 1000 0),.one (.t false (.lit (.int .i64 60)))] 69 (rdH l en r) (vE (.mk 0 Vl.zero .empty [])) (rdH l en ⟨r.at_,true⟩) 26:=by
 intro vs hlen hone
 have hT:=rtext_l l en r
 generalize txQ l r=u at *
 obtain ⟨at_,bad⟩:=r
 unfold vE
 unfold rdH at hT ⊢
 dsimp only at hT ⊢
 rw [rE_mk]
 unfold Vl.zero
 unfold strEq wOpen wNot at h
 cases g1:(u.toList==(⟨#[40]⟩:ByteArray).toList) with
 | true =>
  (refine ei_ Tryz.func75 Tryz.ntmps75 Tryz.results75 fun X hX=>?_)
  refine gs_ ?_
  refine au_ an0 ?_
  (refine rn_ 0 an0 fun K hK=>?_;refine rx_ an0 ?_;refine lk_ 1000 an0 (hT) ?_;refine rx_ an0 ?_;refine rwr_nil (hK _ ?_);clear hK K)
  refine au_ g1 ?_
  exact oj_ an0 (.inl rfl)
 | false =>
  rw [g1,Bool.false_or] at h
  (refine ei_ Tryz.func75 Tryz.ntmps75 Tryz.results75 fun X hX=>?_)
  refine gs_ ?_
  refine au_ an0 ?_
  (refine rn_ 0 an0 fun K hK=>?_;refine rx_ an0 ?_;refine lk_ 1000 an0 (hT) ?_;refine rx_ an0 ?_;refine rwr_nil (hK _ ?_);clear hK K)
  refine au_ (an2 g1 h) ?_
  exact oj_ an0 (.inl rfl)
theorem rexpr_l (l:List Vl) (hl:GoodL l) (en:Int):∀ (f:Nat),f≤60→∀ r:RS,r.at_≤l.length→SpL Tryz.prog 75 [.one (.optr 1000 0),.one (.t false (.lit (.int .i64 (60 - (f:Int)))))] 69 (rdH l en r) (vE (exQ l f r).1) (rdH l en (exQ l f r).2) 26:=by
 intro f
 induction f with
 | zero =>
  intro _ r hr
  show SpL _ _ [_,.one (.t false (.lit (.int .i64 60)))] _ _ _ _ _
  unfold exQ
  by_cases h:(strEq (txQ l r) wOpen || strEq (txQ l r) wNot)=true
  ·rw [if_pos h]
   exact rexpr_deep l en r h
  ·rw [if_neg h]
   rw [Bool.not_eq_true,Bool.or_eq_false_iff] at h
   have:=rexpr_leaf l hl en r hr 60 h.1 h.2
   cases hb:isVB (txQ l r) with
   | true=>rw [hb,if_pos rfl,if_pos rfl] at this;rw [if_pos rfl];exact this
   | false=>rw [hb,if_neg Bool.false_ne_true,if_neg Bool.false_ne_true] at this;rw [if_neg Bool.false_ne_true];exact this
 | succ f ih =>
  intro hf r hr
  have hd:(60 - ((f + 1:Nat):Int)) + 1=60 - (f:Int):=by omega
  have ih:=ih (by omega)
  rw [← hd] at ih
  unfold exQ
  by_cases h2:strEq (txQ l r) wNot=true
  ·rw [if_pos h2]
   have h0:txQ l r ≠ ⟨#[]⟩:=by
    intro h3
    rw [h3,strEq_none (by decide)] at h2
    cases h2
   obtain ⟨hb,hlt⟩:=txQ_lt h0
   obtain ⟨at_,bad⟩:=r
   dsimp only at hb hlt
   subst hb
   exact rexpr_not l hl en at_ hlt _ ⟨by omega,by omega⟩ h2 _ _ (ih ⟨at_ + 1,false⟩ hlt)
  ·rw [if_neg h2]
   by_cases h1:strEq (txQ l r) wOpen=true
   ·rw [if_pos h1]
    have h0:txQ l r ≠ ⟨#[]⟩:=by
     intro h3
     rw [h3,strEq_none (by decide)] at h1
     cases h1
    obtain ⟨hb,hlt⟩:=txQ_lt h0
    obtain ⟨at_,bad⟩:=r
    dsimp only at hb hlt
    subst hb
    have ih1:=ih ⟨at_ + 1,false⟩ hlt
    have q1:=exQ_len f (r:=⟨at_ + 1,false⟩) hlt
    have hT:=rtake_l l (by have:=hl.len;omega) en (exQ l f ⟨at_ + 1,false⟩).2 q1 wIs
    have q2:=takeQ_len (s:=wIs) q1 (by decide)
    dsimp only
    generalize exQ l f ⟨at_ + 1,false⟩=a at *
    obtain ⟨e,r1⟩:=a
    dsimp only at *
    generalize takeQ l wIs r1=t at *
    obtain ⟨tb,r2⟩:=t
    dsimp only at *
    cases tb with
    | true =>
     rw [if_pos rfl]
     have hN1:=rneed_l l (by have:=hl.len;omega) en r2 q2 wNull
     have q3:=needQ_len (s:=wNull) q2 (by decide)
     have hN2:=rneed_l l (by have:=hl.len;omega) en (needQ l wNull r2) q3 wShut
     exact rexpr_is l hl en at_ hlt _ ⟨by omega,by omega⟩ h1 e r1 r2 _ _ ih1 hT hN1 hN2
    | false =>
     rw [if_neg Bool.false_ne_true]
     obtain ⟨r3,hr3⟩:∃ r3:RS,r3=if signQ (txQ l r2)=0 then ⟨r2.at_,true⟩ else needQ l (wAnd7.getD (signQ (txQ l r2) - 5).toNat ⟨#[]⟩) r2:=⟨_,rfl⟩
     have q3:r3.at_≤l.length:=by
      rw [hr3]
      split
      ·exact q2
      ·obtain h3 | ⟨j,hj,h3⟩:=signK_one (txQ l r2) 7 (Nat.le_refl _)
       ·rename_i h4;exact absurd h3 h4
       ·refine needQ_len q2 ?_
        unfold signQ
        rw [h3,show (5 + (j:Int) - 5).toNat=j by omega]
        obtain rfl | rfl | rfl | rfl | rfl | rfl | rfl:j=0 ∨ j=1 ∨ j=2 ∨ j=3 ∨ j=4 ∨ j=5 ∨ j=6:=by omega
        all_goals decide
     rw [← hr3]
     have ih2:=ih r3 q3
     have q4:=exQ_len f q3
     have hN2:=rneed_l l (by have:=hl.len;omega) en (exQ l f r3).2 q4 wShut
     exact rexpr_bin l hl en at_ hlt _ ⟨by omega,by omega⟩ h1 e _ r1 r2 r3 _ _ ih1 hT hr3 q2 ih2 hN2
   ·rw [if_neg h1]
    rw [Bool.not_eq_true] at h1 h2
    have:=rexpr_leaf l hl en r hr (60 - ((f + 1:Nat):Int)) h1 h2
    cases hb:isVB (txQ l r) with
    | true=>rw [hb,if_pos rfl,if_pos rfl] at this;rw [if_pos rfl];exact this
    | false=>rw [hb,if_neg Bool.false_ne_true,if_neg Bool.false_ne_true] at this;rw [if_neg Bool.false_ne_true];exact this
end Go.Proofs.YtjdgejfhnfnmgaaGreatDoor.Ax
namespace Go.Proofs.YtjdgejfhnfnmgaaGreatDoor.Ax
open Go.RowKit
set_option linter.unusedSimpArgs false
attribute [local go_sem] ty3 ty4 ty9 ty5 ty26 ty24 ty29 ty27 ty54 ty22 ty25 ty31 ty77 ty43 ty69 ty101
set_option linter.unusedVariables false
set_option maxRecDepth 100000
theorem C.kill_nil (c:C):C.kill [] c=c:=by unfold C.kill;rw [C.ment_nil];rfl
theorem C.fit2_self (c:C):C.fit2 c c=c:=by
 cases c with
 | t z x =>
  cases x with
  | sl rows=>cases rows <;> (unfold C.fit2 C.fit;cases z <;> rfl)
  | _=>unfold C.fit2 C.fit;cases z <;> simp
 | _=>rfl
attribute [go_sem high] C.kill_nil C.fit2_self
end Go.Proofs.YtjdgejfhnfnmgaaGreatDoor.Ax
namespace Go.Proofs.YtjdgejfhnfnmgaaGreatDoor.Ax
open Go.RowKit
set_option linter.unusedSimpArgs false
attribute [local go_sem] ty3 ty4 ty9 ty5 ty26 ty24 ty29 ty27 ty54 ty22 ty25 ty31 ty77 ty43 ty69 ty101
set_option linter.unusedVariables false
set_option maxRecDepth 100000
def zC:List C:=[.t false (.lit (.int .i64 0)),.t false (.lit (.string .empty)),.t false (.lit (.string .empty)),.t false (.lit (.string .empty)),.nil,.t false (.lit (.int .i64 0)),.t false (.lit (.int .i64 0)),.t false (.lit (.int .i64 0)),.t false (.lit (.string .empty)),.nil,.nil,.t false (.lit (.int .i64 0)),.t false (.lit (.int .i64 0)),.t false (.lit (.int .i64 0)),.t false (.lit (.string .empty)),.t false (.lit (.string .empty)),.nil,.t false (.lit (.bool false)),.t false (.lit (.int .i64 0)),.t false (.lit (.int .i64 0)),.t false (.lit (.int .i64 0)),.t false (.lit (.string .empty)),.t false (.lit (.string .empty)),.nil,.t false (.lit (.string .empty)),.t false (.lit (.int .i64 0))]
end Go.Proofs.YtjdgejfhnfnmgaaGreatDoor.Ax
