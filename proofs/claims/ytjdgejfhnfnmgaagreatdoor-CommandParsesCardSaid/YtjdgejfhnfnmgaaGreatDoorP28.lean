/-  -/
import Derived.Test.YtjdgejfhnfnmgaaGreatDoorP20
import Derived.Test.YtjdgejfhnfnmgaaGreatDoorP27
import Derived.Test.YtjdgejfhnfnmgaaGreatDoorP24
import Derived.Test.YtjdgejfhnfnmgaaGreatDoorP19
namespace Go.Proofs.YtjdgejfhnfnmgaaGreatDoor.Ax
open Go.RowKit Go.Sort
set_option linter.unusedSimpArgs false
attribute [local go_sem] ty3 ty4 ty9 ty5 ty26 ty24 ty29 ty27 ty77 ty43 ty67 ty65 wIs wNull wShut wOpen wNot wAnd7
set_option linter.unusedVariables false
set_option maxRecDepth 100000
theorem takeB_at {l:List Vl} {s:ByteArray} {k:Nat} {t:Vl} (h:l[k]?=some t):takeB l s k=strEq t.s s:=by unfold takeB;rw [h]
set_option maxHeartbeats 16000000 in
theorem pexpr_leaf (l:List Vl) (hl:GoodL l) (en:Int) (d:Int) (k:Nat) (h1:takeB l wOpen k=false) (h2:takeB l wNot k=false) :
  SpR Tryz.prog 118 [.one (.optr 1000 0),.one (.t false (.lit (.int .i64 d)))] l en k (leafR l k) vE:=by
 have hll:=hl.len
 have hT1:=ptake_l l (by omega) en k wOpen
 rw [h1,takeK_f h1] at hT1
 have hT2:=ptake_l l (by omega) en k wNot
 rw [h2,takeK_f h2] at hT2
 unfold paH at hT1 hT2
 refine SpR.mk fun vs hlen hone=>?_
 generalize hr:leafR l k=r
 unfold leafR at hr
 by_cases hlt:k < l.length
 case' pos =>
  obtain ⟨t,ht⟩:∃ t,l[k]?=some t:=⟨_,List.getElem?_eq_getElem hlt⟩
  have e1:decide ((k:Int) < (l.length:Int))=true:=by simp;omega
  have j2:(k:Int) < (l.length:Int):=by omega
  have j3:(0:Int)≤(k:Int):=by omega
  rw [takeB_at ht] at h1 h2
  unfold strEq wOpen at h1
  unfold strEq wNot at h2
  (refine eq_ Tryz.func118 Tryz.ntmps118 Tryz.results118 fun X hX hpq=>?_)
  refine gs_ ?_
  refine au_ (an2 (an5 e1 ht hlt j2 j3) (an2 h1 h2)) ?_
 case' neg =>
  have e1:decide ((k:Int) < (l.length:Int))=false:=by simp;omega
  (refine eq_ Tryz.func118 Tryz.ntmps118 Tryz.results118 fun X hX hpq=>?_)
  refine gs_ ?_
  refine au_ e1 ?_
 all_goals
  (refine rn_ 0 an0 fun K hK=>?_;refine rx_ an0 ?_;refine lk_ 1000 an0 (hT1) ?_;refine rx_ an0 ?_;refine rwr_nil (hK _ ?_);clear hK K)
  refine au_ an0 ?_
  (refine rn_ 0 an0 fun K hK=>?_;refine rx_ an0 ?_;refine lk_ 1000 an0 (hT2) ?_;refine rx_ an0 ?_;refine rwr_nil (hK _ ?_);clear hK K)
  refine au_ an0 ?_
  rcases hv:vP l k with _ | ⟨v,k2⟩ | ⟨k2⟩
  ·rw [hv] at hr
   dsimp only at hr
   have hV:=pv_n l hl en k hv
   unfold vV paH at hV
   (refine rn_ 0 an0 fun K hK=>?_;refine rx_ an0 ?_;refine lk_ 1000 an0 (hV) ?_;refine rx_ an0 ?_;refine rwr_nil (hK _ ?_);clear hK K)
   refine au_ an0 ?_
   (rcases hq:nameR l k with ⟨s,k2⟩ | ⟨k2⟩;rotate_left;(focus (have hC:=pname_r l hl en k;rw [hq] at hr hC;subst hr;have hC:=SpR.bad hC;have hpn:=hpq _ rfl;refine rn_ 0 an0 fun K hK=>?_;refine rx_ an0 ?_;exact pn_ 1000 an0 hC hpn));have hC:=pname_r l hl en k;rw [hq] at hr hC;(try dsimp only [PR.bind] at hr);have hC:=SpR.ok hC;(try simp only [vE_eta,vV,vCol] at hC);refine rn_ 0 an0 fun K hK=>?_;refine rx_ an0 ?_;refine lk_ 1000 an0 hC ?_;refine rx_ an0 ?_;refine rwr_nil (hK _ ?_);clear hC hK K)
   refine au_ an0 ?_
   (subst hr;refine okq_ (by intro c h;cases h) ?_;(try simp only [vE_eta,vV,vCol,Ex.k,Ex.vk,Ex.nm,Ex.ar,List.map_cons,List.map_nil,rE_eta,Vl.zero]))
   exact oj_ an0 (.inl rfl)
  ·rw [hv] at hr
   dsimp only at hr
   have hV:=pv_l l hl en k v k2 hv
   unfold vV paH at hV
   (refine rn_ 0 an0 fun K hK=>?_;refine rx_ an0 ?_;refine lk_ 1000 an0 (hV) ?_;refine rx_ an0 ?_;refine rwr_nil (hK _ ?_);clear hK K)
   refine au_ an0 ?_
   (subst hr;refine okq_ (by intro c h;cases h) ?_;(try simp only [vE_eta,vV,vCol,Ex.k,Ex.vk,Ex.nm,Ex.ar,List.map_cons,List.map_nil,rE_eta,Vl.zero]))
   exact oj_ an0 (.inl rfl)
  ·rw [hv] at hr
   dsimp only at hr
   subst hr
   have hV:=pv_p l hl en k k2 hv
   unfold paH at hV
   have hpn:=hpq _ rfl
   (refine rn_ 0 an0 fun K hK=>?_;refine rx_ an0 ?_;exact pn_ 1000 an0 (hV) hpn)
set_option maxHeartbeats 16000000 in
theorem pexpr_deep (l:List Vl) (hl:GoodL l) (en:Int) (k:Nat) (h:(takeB l wOpen k || takeB l wNot k)=true) :
  SpPL Tryz.prog 118 [.one (.optr 1000 0),.one (.t false (.lit (.int .i64 60)))] 67 (paH l en k) (chP l en k) 26:=by
 intro vs hlen hone
 have hF:=pfail_l l en k
 have hlt:k < l.length:=by
  rw [Bool.or_eq_true] at h
  rcases h with h | h
  ·exact takeB_lt h
  ·exact takeB_lt h
 obtain ⟨t,ht⟩:∃ t,l[k]?=some t:=⟨_,List.getElem?_eq_getElem hlt⟩
 have e1:decide ((k:Int) < (l.length:Int))=true:=by simp;omega
 have j2:(k:Int) < (l.length:Int):=by omega
 have j3:(0:Int)≤(k:Int):=by omega
 rw [takeB_at ht,takeB_at ht] at h
 unfold strEq wOpen wNot at h
 unfold paH at hF ⊢
 cases g1:(t.s.toList==(⟨#[40]⟩:ByteArray).toList) with
 | true =>
  (refine ep_ Tryz.func118 Tryz.ntmps118 fun X hX hpn=>?_)
  refine gs_ ?_
  refine au_ (an2 (an5 e1 ht hlt j2 j3) g1) ?_
  (refine rn_ 0 an0 fun K hK=>?_;refine rx_ an0 ?_;exact pn_ 1000 an0 (hF) hpn)
 | false =>
  rw [g1,Bool.false_or] at h
  (refine ep_ Tryz.func118 Tryz.ntmps118 fun X hX hpn=>?_)
  refine gs_ ?_
  refine au_ (an2 (an5 e1 ht hlt j2 j3) (an2 g1 h)) ?_
  (refine rn_ 0 an0 fun K hK=>?_;refine rx_ an0 ?_;exact pn_ 1000 an0 (hF) hpn)
set_option maxHeartbeats 16000000 in
theorem pexpr_open (l:List Vl) (hl:GoodL l) (en:Int) (d:Int) (hd:0≤d∧d < 60) (k:Nat) (h1:takeB l wOpen k=true) (R:PR Ex)
  (hP:SpR Tryz.prog 155 [.one (.optr 1000 0),.one (.t false (.lit (.int .i64 (d + 1))))] l en (k + 1) R vE) :
  SpR Tryz.prog 118 [.one (.optr 1000 0),.one (.t false (.lit (.int .i64 d)))] l en k (R.bind fun e k=>(needR l wShut k).bind fun _ k=>.ok e k) vE:=by
 have hll:=hl.len
 have hT1:=ptake_l l (by omega) en k wOpen
 rw [h1,takeK_t h1] at hT1
 unfold paH at hT1
 refine SpR.mk fun vs hlen hone=>?_
 generalize hr:(R.bind fun e k=>(needR l wShut k).bind fun _ k=>.ok e k)=r
 have hlt:=takeB_lt h1
 obtain ⟨t,ht⟩:∃ t,l[k]?=some t:=⟨_,List.getElem?_eq_getElem hlt⟩
 have e1:decide ((k:Int) < (l.length:Int))=true:=by simp;omega
 have j2:(k:Int) < (l.length:Int):=by omega
 have j3:(0:Int)≤(k:Int):=by omega
 have e2:IntKind.i64.wrap (d + 1)=d + 1:=IntWalk.i64_in _ (by omega)
 have e3:(d==60)=false:=by simp;omega
 rw [takeB_at ht] at h1
 unfold strEq wOpen at h1
 (refine eq_ Tryz.func118 Tryz.ntmps118 Tryz.results118 fun X hX hpq=>?_)
 refine gs_ ?_
 refine au_ (an2 (an5 e1 ht hlt j2 j3) (an2 h1 e3)) ?_
 (refine rn_ 0 an0 fun K hK=>?_;refine rx_ an0 ?_;refine lk_ 1000 an0 (hT1) ?_;refine rx_ an0 ?_;refine rwr_nil (hK _ ?_);clear hK K)
 refine au_ an0 ?_
 (rcases hq:R with ⟨e,k2⟩ | ⟨k2⟩;rotate_left;(focus (have hC:=hP;rw [hq] at hr hC;subst hr;have hC:=SpR.bad hC;have hpn:=hpq _ rfl;refine rn_ 0 e2 fun K hK=>?_;refine rx_ e2 ?_;exact pn_ 1000 e2 hC hpn));have hC:=hP;rw [hq] at hr hC;(try dsimp only [PR.bind] at hr);have hC:=SpR.ok hC;(try simp only [vE_eta,vV,vCol] at hC);refine rn_ 0 e2 fun K hK=>?_;refine rx_ e2 ?_;refine lk_ 1000 e2 hC ?_;refine rx_ e2 ?_;refine rwr_nil (hK _ ?_);clear hC hK K)
 refine gs_ ?_
 (rcases hq:needR l wShut k2 with ⟨u,k3⟩ | ⟨k3⟩;rotate_left;(focus (have hC:=pneed_r l hl en k2 wShut;rw [hq] at hr hC;subst hr;have hC:=SpR.bad hC;have hpn:=hpq _ rfl;refine rn_ 0 an0 fun K hK=>?_;refine rx_ an0 ?_;refine rwr_melt 63 63 ?_;exact pn_ 1000 an0 hC hpn));have hC:=pneed_r l hl en k2 wShut;rw [hq] at hr hC;(try dsimp only [PR.bind] at hr);have hC:=SpR.ok hC;(try simp only [vE_eta,vV,vCol] at hC);refine rn_ 0 an0 fun K hK=>?_;refine rx_ an0 ?_;refine rwr_melt 63 63 ?_;refine lk_ 1000 an0 hC ?_;refine rx_ an0 ?_;refine rwr_nil (hK _ ?_);clear hC hK K)
 refine au_ an0 ?_
 (subst hr;refine okq_ (by intro c h;cases h) ?_;(try simp only [vE_eta,vV,vCol,Ex.k,Ex.vk,Ex.nm,Ex.ar,List.map_cons,List.map_nil,rE_eta,Vl.zero]))
 exact oj_ an0 (.inl rfl)
set_option maxHeartbeats 16000000 in
theorem pexpr_not (l:List Vl) (hl:GoodL l) (en:Int) (d:Int) (hd:0≤d∧d < 60) (k:Nat) (h1:takeB l wOpen k=false) (h2:takeB l wNot k=true) (R:PR Ex)
  (hE:SpR Tryz.prog 118 [.one (.optr 1000 0),.one (.t false (.lit (.int .i64 (d + 1))))] l en (k + 1) R vE) :
  SpR Tryz.prog 118 [.one (.optr 1000 0),.one (.t false (.lit (.int .i64 d)))] l en k (R.bind fun e k=>.ok (Ex.mk 3 Vl.zero .empty [e]) k) vE:=by
 have hll:=hl.len
 have hT1:=ptake_l l (by omega) en k wOpen
 rw [h1,takeK_f h1] at hT1
 have hT2:=ptake_l l (by omega) en k wNot
 rw [h2,takeK_t h2] at hT2
 unfold paH at hT1 hT2
 refine SpR.mk fun vs hlen hone=>?_
 generalize hr:(R.bind fun e k=>.ok (Ex.mk 3 Vl.zero .empty [e]) k)=r
 have hlt:=takeB_lt h2
 obtain ⟨t,ht⟩:∃ t,l[k]?=some t:=⟨_,List.getElem?_eq_getElem hlt⟩
 have e1:decide ((k:Int) < (l.length:Int))=true:=by simp;omega
 have j2:(k:Int) < (l.length:Int):=by omega
 have j3:(0:Int)≤(k:Int):=by omega
 have e2:IntKind.i64.wrap (d + 1)=d + 1:=IntWalk.i64_in _ (by omega)
 have e3:(d==60)=false:=by simp;omega
 have f1:(1:Nat)≤maxLen:=by decide
 have f2:(1 * 48:Nat)≤140737488355328:=by decide
 rw [takeB_at ht] at h1 h2
 unfold strEq wOpen at h1
 unfold strEq wNot at h2
 (refine eq_ Tryz.func118 Tryz.ntmps118 Tryz.results118 fun X hX hpq=>?_)
 refine gs_ ?_
 refine au_ (an2 (an5 e1 ht hlt j2 j3) (an3 h1 h2 e3)) ?_
 (refine rn_ 0 an0 fun K hK=>?_;refine rx_ an0 ?_;refine lk_ 1000 an0 (hT1) ?_;refine rx_ an0 ?_;refine rwr_nil (hK _ ?_);clear hK K)
 refine au_ an0 ?_
 (refine rn_ 0 an0 fun K hK=>?_;refine rx_ an0 ?_;refine lk_ 1000 an0 (hT2) ?_;refine rx_ an0 ?_;refine rwr_nil (hK _ ?_);clear hK K)
 refine au_ an0 ?_
 (rcases hq:R with ⟨e,k2⟩ | ⟨k2⟩;rotate_left;(focus (have hC:=hE;rw [hq] at hr hC;subst hr;have hC:=SpR.bad hC;have hpn:=hpq _ rfl;refine rn_ 0 e2 fun K hK=>?_;refine rx_ e2 ?_;exact pn_ 1000 e2 hC hpn));have hC:=hE;rw [hq] at hr hC;(try dsimp only [PR.bind] at hr);have hC:=SpR.ok hC;(try simp only [vE_eta,vV,vCol] at hC);refine rn_ 0 e2 fun K hK=>?_;refine rx_ e2 ?_;refine lk_ 1000 e2 hC ?_;refine rx_ e2 ?_;refine rwr_nil (hK _ ?_);clear hC hK K)
 refine au_ an0 ?_
 (subst hr;refine okq_ (by intro c h;cases h) ?_;(try simp only [vE_eta,vV,vCol,Ex.k,Ex.vk,Ex.nm,Ex.ar,List.map_cons,List.map_nil,rE_eta,Vl.zero]))
 refine ex_meltb 4 5 74 ?_
 exact oj_ an0 (.inl rfl)
theorem pexpr_r (l:List Vl) (hl:GoodL l) (en:Int):∀ (f:Nat),f≤60→∀ k:Nat,SpR Tryz.prog 118 [.one (.optr 1000 0),.one (.t false (.lit (.int .i64 (60 - (f:Int)))))] l en k (exR l f k) vE
 | 0,_,k=>by
  unfold exR
  show SpR _ _ [_,.one (.t false (.lit (.int .i64 60)))] _ _ _ _ _
  cases h:(takeB l wOpen k || takeB l wNot k) with
  | true=>exact pexpr_deep l hl en k h
  | false =>
   rw [Bool.or_eq_false_iff] at h
   exact pexpr_leaf l hl en 60 k h.1 h.2
 | f + 1,hf,k=>by
  have hd:(60 - ((f + 1:Nat):Int)) + 1=60 - (f:Int):=by omega
  have ih:=pexpr_r l hl en f (by omega)
  unfold exR
  cases h1:takeB l wOpen k with
  | true =>
   have hP:=ppair_r l hl en _ _ ih (k + 1)
   rw [← hd] at hP
   exact pexpr_open l hl en _ ⟨by omega,by omega⟩ k h1 _ hP
  | false =>
   cases h2:takeB l wNot k with
   | true =>
    have hE:=ih (k + 1)
    rw [← hd] at hE
    exact pexpr_not l hl en _ ⟨by omega,by omega⟩ k h1 h2 _ hE
   | false=>exact pexpr_leaf l hl en _ k h1 h2
theorem pexpr0 (l:List Vl) (hl:GoodL l) (en:Int) (k:Nat):SpR Tryz.prog 118 [.one (.optr 1000 0),.one (.t false (.lit (.int .i64 0)))] l en k (exR l 60 k) vE:=pexpr_r l hl en 60 (Nat.le_refl _) k
end Go.Proofs.YtjdgejfhnfnmgaaGreatDoor.Ax
namespace Go.Proofs.YtjdgejfhnfnmgaaGreatDoor.Ax
open Go.RowKit Go.Sort
set_option linter.unusedSimpArgs false
attribute [local go_sem] ty3 ty4 ty9 ty5 ty26 ty24 ty29 ty27 ty54 ty22 ty25 ty31 ty77 ty43 ty67 ty65
set_option linter.unusedVariables false
set_option maxRecDepth 100000
attribute [local go_sem ↓] C.fit2_self C.kill_nil
def cmC (c:Cm):List C:=[.t true (.lit (.int .i64 c.k)),.t true (.lit (.string c.name)),.t true (.lit (.string c.other)),.t true (.lit (.string c.column)),.t true (.sl (rCs c.cols)),.t true (.lit (.int .i64 c.ty)),.t true (.lit (.int .i64 c.v.k)),.t true (.lit (.int .i64 c.v.n)),.t true (.lit (.string c.v.s)),.t true (.sl (rVs c.vals)),.t true (.sl (rS c.fields)),.t true (.lit (.int .i64 c.ex.k)),.t true (.lit (.int .i64 c.ex.vk.k)),.t true (.lit (.int .i64 c.ex.vk.n)),.t true (.lit (.string c.ex.vk.s)),.t true (.lit (.string c.ex.nm)),.t true (.sl (c.ex.ar.map rE)),.t true (.lit (.bool c.all)),.t true (.lit (.int .i64 c.wh.k)),.t true (.lit (.int .i64 c.wh.vk.k)),.t true (.lit (.int .i64 c.wh.vk.n)),.t true (.lit (.string c.wh.vk.s)),.t true (.lit (.string c.wh.nm)),.t true (.sl (c.wh.ar.map rE)),.t true (.lit (.string c.order)),.t true (.lit (.int .i64 c.limit))]
set_option maxHeartbeats 16000000 in
theorem pwhere_q (l:List Vl) (hl:GoodL l) (en:Int) (k:Nat) (c0 c1 c2 c3 c4 c5 c6 c7 c8 c9 c10 c11 c12 c13 c14 c15 c16 c24 c25:C) (hon:C.onlys [1000] [c0,c1,c2,c3,c4,c5,c6,c7,c8,c9,c10,c11,c12,c13,c14,c15,c16,c24,c25]=true) :
  SpQ Tryz.prog 117 [.one (.optr 1000 0)] [(1000,.var 67 ([.t false (.sl (rVs l)),.t false (.lit (.int .i64 k)),.t false (.lit (.int .i64 en))]++[c0,c1,c2,c3,c4,c5,c6,c7,c8,c9,c10,c11,c12,c13,c14,c15,c16,.t false (.lit (.bool false)),.t false (.lit (.int .i64 0)),.t false (.lit (.int .i64 0)),.t false (.lit (.int .i64 0)),.t false (.lit (.string .empty)),.t false (.lit (.string .empty)),.nil,c24,c25]))]
   (whereR l k) (fun _=>.tup []) (fun w k2=>[(1000,.var 67 ([.t false (.sl (rVs l)),.t false (.lit (.int .i64 k2)),.t false (.lit (.int .i64 en))]++[c0,c1,c2,c3,c4,c5,c6,c7,c8,c9,c10,c11,c12,c13,c14,c15,c16,.t true (.lit (.bool w.1)),.t true (.lit (.int .i64 w.2.k)),.t true (.lit (.int .i64 w.2.vk.k)),.t true (.lit (.int .i64 w.2.vk.n)),.t true (.lit (.string w.2.vk.s)),.t true (.lit (.string w.2.nm)),.t true (.sl (w.2.ar.map rE)),c24,c25]))]) [1000] (chP l en):=by
 have hll:=hl.len
 simp only [C.onlys,Bool.and_eq_true] at hon
 obtain ⟨o0,o1,o2,o3,o4,o5,o6,o7,o8,o9,o10,o11,o12,o13,o14,o15,o16,o23,o24,_⟩:=hon
 generalize hr:whereR l k=r
 unfold whereR at hr
 (refine eq_ Tryz.func117 Tryz.ntmps117 Tryz.results117 fun X hX hpq=>?_)
 refine gs_ ?_
 refine au_ an0 ?_
 (have hT:=ptake_l l (by omega) en (k) (⟨#[119,104,101,114,101]⟩);rcases hb:takeB l (⟨#[119,104,101,114,101]⟩) (k) with _ | _ <;> (first | rw [takeK_f hb,hb] at hT | rw [takeK_t hb,hb] at hT) <;> (rw [hb] at hr;dsimp only [cond] at hr;unfold paH at hT;refine rn_ 0 an0 fun K hK=>?_;refine rx_ an0 ?_;refine lk_ 1000 an0 hT ?_;refine rx_ an0 ?_;refine rwr_nil (hK _ ?_);clear hK K hT hb))
 ·refine au_ an0 ?_
  (subst hr;refine okq_ (by intro c h;cases h) ?_;(try simp only [vE_eta,vV,vCol,cmC,zE,zCm,Ex.k,Ex.vk,Ex.nm,Ex.ar,List.map_cons,List.map_nil,rE_eta,Vl.zero]))
  exact oj_ (an3 (an7 o0 o1 o2 o3 o4 o5 o6) (an7 o7 o8 o9 o10 o11 o12 o13) (an5 o14 o15 o16 o23 o24)) (.inr rfl)
 ·refine au_ an0 ?_
  (rcases hq:exR l 60 (k + 1) with ⟨e,k3⟩ | ⟨k3⟩;rotate_left;(focus (have hC:=pexpr0 l hl en (k + 1);rw [hq] at hr hC;subst hr;have hC:=SpR.bad hC;have hpn:=hpq _ rfl;refine rn_ 0 an0 fun K hK=>?_;refine rx_ an0 ?_;exact pn_ 1000 an0 hC hpn));have hC:=pexpr0 l hl en (k + 1);rw [hq] at hr hC;(try dsimp only [PR.bind] at hr);have hC:=SpR.ok hC;(try simp only [vE_eta,vV,vCol] at hC);refine rn_ 0 an0 fun K hK=>?_;refine rx_ an0 ?_;refine lk_ 1000 an0 hC ?_;refine rx_ an0 ?_;refine rwr_nil (hK _ ?_);clear hC hK K)
  refine au_ an0 ?_
  (subst hr;refine okq_ (by intro c h;cases h) ?_;(try simp only [vE_eta,vV,vCol,cmC,zE,zCm,Ex.k,Ex.vk,Ex.nm,Ex.ar,List.map_cons,List.map_nil,rE_eta,Vl.zero]))
  exact oj_ (an3 (an7 o0 o1 o2 o3 o4 o5 o6) (an7 o7 o8 o9 o10 o11 o12 o13) (an5 o14 o15 o16 o23 o24)) (.inr rfl)
end Go.Proofs.YtjdgejfhnfnmgaaGreatDoor.Ax
namespace Go.Proofs.YtjdgejfhnfnmgaaGreatDoor.Ax
open Go.RowKit
set_option linter.unusedSimpArgs false
attribute [local go_sem] ty3 ty4 ty9 ty5 ty26 ty24 ty29 ty27 ty54 ty22 ty25 ty31 ty77 ty43 ty69 ty101
set_option linter.unusedVariables false
set_option maxRecDepth 100000
theorem typeQ_len {l:List Vl} {r:RS} (hr:r.at_≤l.length):(typeQ l r).2.at_≤l.length:=by
 unfold typeQ
 have h1:=takeQ_len (s:=⟨#[105,110,116]⟩) hr (by decide)
 have h2:=takeQ_len (s:=⟨#[116,101,120,116]⟩) h1 (by decide)
 have h3:=needQ_len (s:=⟨#[98,111,111,108]⟩) h2 (by decide)
 split
 ·exact h1
 ·split
  ·exact h2
  ·exact h3
theorem takeQ_ge {l:List Vl} {s:ByteArray} {r:RS}:r.at_≤(takeQ l s r).2.at_:=by
 unfold takeQ
 split
 ·exact Nat.le_refl _
 ·split
  ·exact Nat.le_succ _
  ·exact Nat.le_refl _
theorem needQ_ge {l:List Vl} {s:ByteArray} {r:RS}:r.at_≤(needQ l s r).at_:=by
 unfold needQ
 split
 ·exact takeQ_ge
 ·exact Nat.le_refl _
theorem nameQ_ge {l:List Vl} {r:RS}:r.at_≤(nameQ l r).2.at_:=by
 unfold nameQ
 split
 ·exact Nat.le_succ _
 ·exact Nat.le_refl _
theorem numQ_ge {l:List Vl} {r:RS}:r.at_≤(numQ l r).2.at_:=by
 unfold numQ
 split
 ·exact Nat.le_succ _
 ·exact Nat.le_refl _
theorem vQ_ge {l:List Vl} {r:RS}:r.at_≤(vQ l r).2.at_:=by
 unfold vQ
 repeat' split
 all_goals first
  | exact Nat.le_refl _
  | exact Nat.le_succ _
  | exact numQ_ge
  | exact Nat.le_trans (Nat.le_succ r.at_) (numQ_ge (l:=l) (r:=⟨r.at_ + 1,_⟩))
theorem typeQ_ge {l:List Vl} {r:RS}:r.at_≤(typeQ l r).2.at_:=by
 unfold typeQ
 have h1:=takeQ_ge (l:=l) (s:=⟨#[105,110,116]⟩) (r:=r)
 have h2:=takeQ_ge (l:=l) (s:=⟨#[116,101,120,116]⟩) (r:=(takeQ l ⟨#[105,110,116]⟩ r).2)
 have h3:=needQ_ge (l:=l) (s:=⟨#[98,111,111,108]⟩) (r:=(takeQ l ⟨#[116,101,120,116]⟩ (takeQ l ⟨#[105,110,116]⟩ r).2).2)
 split
 ·exact h1
 ·split
  ·exact Nat.le_trans h1 h2
  ·exact Nat.le_trans (Nat.le_trans h1 h2) h3
theorem takeQ_true {l:List Vl} {s:ByteArray} {r:RS}:(takeQ l s r).1=true→(takeQ l s r).2=⟨r.at_ + 1,false⟩:=by
 unfold takeQ
 split
 ·intro h;cases h
 ·split
  ·intro _;rfl
  ·intro h;cases h
theorem moreQ_eq {α:Type} {l:List Vl} {E:RS→α × RS} {f:Nat} {r:RS} (h:l.length≤r.at_ + f):moreQ l E f r=if (takeQ l ⟨#[44]⟩ r).1=true then ((E (takeQ l ⟨#[44]⟩ r).2).1 :: (moreQ l E (f - 1) (E (takeQ l ⟨#[44]⟩ r).2).2).1,(moreQ l E (f - 1) (E (takeQ l ⟨#[44]⟩ r).2).2).2) else ([],(takeQ l ⟨#[44]⟩ r).2):=by
 cases f with
 | succ f=>rfl
 | zero =>
  have e:takeQ l ⟨#[44]⟩ r=(false,r):=by
   unfold takeQ
   rw [txQ_none (List.getElem?_eq_none (by omega)),show strEq ⟨#[]⟩ ⟨#[44]⟩=false by kernel_rfl]
   split <;> rfl
  rw [e]
  rfl
theorem whereQ_len {l:List Vl} {r:RS} (hr:r.at_≤l.length):(whereQ l r).2.at_≤l.length:=by
 unfold whereQ
 have h1:=takeQ_len (s:=⟨#[119,104,101,114,101]⟩) hr (by decide)
 split
 ·exact exQ_len 60 h1
 ·exact h1
theorem rexpr0 (l:List Vl) (hl:GoodL l) (en:Int) (r:RS) (hr:r.at_≤l.length):SpL Tryz.prog 75 [.one (.optr 1000 0),.one (.t false (.lit (.int .i64 0)))] 69 (rdH l en r) (vE (exQ l 60 r).1) (rdH l en (exQ l 60 r).2) 26:=by
 have h:=rexpr_l l hl en 60 (Nat.le_refl _) r hr
 rw [show (60 - ((60:Nat):Int))=0 from rfl] at h
 exact h
attribute [local go_sem ↓] C.fit2_self C.kill_nil
set_option maxHeartbeats 16000000 in
theorem rwhere_io (l:List Vl) (hl:GoodL l) (en:Int) (r:RS) (q0:r.at_≤l.length) (c0 c1 c2 c3 c4 c5 c6 c7 c8 c9 c10 c11 c12 c13 c14 c15 c16 c24 c25:C) (hon:C.onlys [1000] [c0,c1,c2,c3,c4,c5,c6,c7,c8,c9,c10,c11,c12,c13,c14,c15,c16,c24,c25]=true) :
  SpIO Tryz.prog 74 [.one (.optr 1000 0)] [(1000,.var 69 (rdH l en r++[c0,c1,c2,c3,c4,c5,c6,c7,c8,c9,c10,c11,c12,c13,c14,c15,c16,.t false (.lit (.bool false)),.t false (.lit (.int .i64 0)),.t false (.lit (.int .i64 0)),.t false (.lit (.int .i64 0)),.t false (.lit (.string .empty)),.t false (.lit (.string .empty)),.nil,c24,c25]))] (.tup [])
   [(1000,.var 69 (rdH l en (whereQ l r).2++[c0,c1,c2,c3,c4,c5,c6,c7,c8,c9,c10,c11,c12,c13,c14,c15,c16,.t true (.lit (.bool (whereQ l r).1.1)),.t true (.lit (.int .i64 (whereQ l r).1.2.k)),.t true (.lit (.int .i64 (whereQ l r).1.2.vk.k)),.t true (.lit (.int .i64 (whereQ l r).1.2.vk.n)),.t true (.lit (.string (whereQ l r).1.2.vk.s)),.t true (.lit (.string (whereQ l r).1.2.nm)),.t true (.sl ((whereQ l r).1.2.ar.map rE)),c24,c25]))] [1000]:=by
 have hll:=hl.len
 simp only [C.onlys,Bool.and_eq_true] at hon
 obtain ⟨o0,o1,o2,o3,o4,o5,o6,o7,o8,o9,o10,o11,o12,o13,o14,o15,o16,o23,o24,_⟩:=hon
 obtain ⟨a0,b0⟩:=r
 dsimp only at q0
 generalize hr:whereQ l ⟨a0,b0⟩=out
 unfold whereQ at hr
 unfold rdH
 dsimp only
 (refine ei_ Tryz.func74 Tryz.ntmps74 Tryz.results74 fun X hX=>?_)
 refine au_ an0 ?_
 (have hC:=rtake_l l (by omega) en ⟨a0,b0⟩ q0 ⟨#[119,104,101,114,101]⟩;have hL:=takeQ_len (l:=l) (s:=⟨#[119,104,101,114,101]⟩) (r:=⟨a0,b0⟩) q0 (by decide);generalize takeQ l ⟨#[119,104,101,114,101]⟩ ⟨a0,b0⟩=xx at hr hC hL;obtain ⟨t,a1,b1⟩:=xx;(try dsimp only at hr hC hL);unfold rdH at hC;(try dsimp only at hC);(try simp only [vE_eta,vV] at hC);refine rn_ 0 an0 fun K hK=>?_;refine rx_ an0 ?_;refine lk_ 1000 an0 hC ?_;refine rx_ an0 ?_;refine rwr_nil (hK _ ?_);have q1:=hL;clear hC hK K hL;cases t <;> ((first | rw [if_pos rfl] at hr | rw [if_neg Bool.false_ne_true] at hr) <;> (try dsimp only at hr)))
 ·refine au_ an0 ?_
  (subst hr;(try simp only [vE_eta,vV,cmC,zE,zCm,Ex.k,Ex.vk,Ex.nm,Ex.ar,List.map_cons,List.map_nil,rE_eta,Vl.zero]))
  exact oj_ (an3 (an7 o0 o1 o2 o3 o4 o5 o6) (an7 o7 o8 o9 o10 o11 o12 o13) (an5 o14 o15 o16 o23 o24)) (.inr rfl)
 ·refine au_ an0 ?_
  (have hC:=rexpr0 l hl en ⟨a1,b1⟩ q1;have hL:=exQ_len (l:=l) 60 (r:=⟨a1,b1⟩) q1;generalize exQ l 60 ⟨a1,b1⟩=xx at hr hC hL;obtain ⟨e,a2,b2⟩:=xx;(try dsimp only at hr hC hL);unfold rdH at hC;(try dsimp only at hC);(try simp only [vE_eta,vV] at hC);refine rn_ 0 an0 fun K hK=>?_;refine rx_ an0 ?_;refine lk_ 1000 an0 hC ?_;refine rx_ an0 ?_;refine rwr_nil (hK _ ?_);have q2:=hL;clear hC hK K hL)
  refine au_ an0 ?_
  (subst hr;(try simp only [vE_eta,vV,cmC,zE,zCm,Ex.k,Ex.vk,Ex.nm,Ex.ar,List.map_cons,List.map_nil,rE_eta,Vl.zero]))
  exact oj_ (an3 (an7 o0 o1 o2 o3 o4 o5 o6) (an7 o7 o8 o9 o10 o11 o12 o13) (an5 o14 o15 o16 o23 o24)) (.inr rfl)
set_option maxHeartbeats 32000000 in
theorem ralter_io (l:List Vl) (hl:GoodL l) (en:Int) (r:RS) (q0:r.at_≤l.length):SpIO Tryz.prog 72 [.one (.optr 1000 0)] [(1000,.var 69 (rdH l en r++zC))] (.tup []) [(1000,.var 69 (rdH l en (alterQ l r).2++cmC (alterQ l r).1))] [1000]:=by
 have hll:=hl.len
 obtain ⟨a0,b0⟩:=r
 dsimp only at q0
 generalize hr:alterQ l ⟨a0,b0⟩=out
 unfold alterQ at hr
 unfold rdH zC
 dsimp only
 (refine ei_ Tryz.func72 Tryz.ntmps72 Tryz.results72 fun X hX=>?_)
 refine gs_ ?_
 (have hC:=rneed_l l (by omega) en ⟨a0,b0⟩ q0 ⟨#[116,97,98,108,101]⟩;have hL:=needQ_len (l:=l) (s:=⟨#[116,97,98,108,101]⟩) (r:=⟨a0,b0⟩) q0 (by decide);generalize needQ l ⟨#[116,97,98,108,101]⟩ ⟨a0,b0⟩=xx at hr hC hL;obtain ⟨a1,b1⟩:=xx;(try dsimp only at hr hC hL);unfold rdH at hC;(try dsimp only at hC);(try simp only [vE_eta,vV] at hC);refine rn_ 0 an0 fun K hK=>?_;refine rx_ an0 ?_;refine lk_ 1000 an0 hC ?_;refine rx_ an0 ?_;refine rwr_nil (hK _ ?_);have q1:=hL;clear hC hK K hL)
 refine gs_ ?_
 (have hC:=rname_l l (by omega) en ⟨a1,b1⟩ q1 (by have:=txQ_size hl ⟨a1,b1⟩;unfold maxLen;omega);have hL:=nameQ_len (l:=l) (r:=⟨a1,b1⟩) q1;have hG:=nameQ_ge (l:=l) (r:=⟨a1,b1⟩);generalize nameQ l ⟨a1,b1⟩=xx at hr hC hL hG;obtain ⟨nm,a2,b2⟩:=xx;(try dsimp only at hr hC hL hG);unfold rdH at hC;(try dsimp only at hC);(try simp only [vE_eta,vV] at hC);refine rn_ 0 an0 fun K hK=>?_;refine rx_ an0 ?_;refine lk_ 1000 an0 hC ?_;refine rx_ an0 ?_;refine rwr_nil (hK _ ?_);have q2:=hL;have g2:=hG;clear hG;clear hC hK K hL)
 unfold alterW at hr
 refine gs_ ?_
 (have hC:=rtake_l l (by omega) en ⟨a2,b2⟩ q2 ⟨#[97,100,100]⟩;have hL:=takeQ_len (l:=l) (s:=⟨#[97,100,100]⟩) (r:=⟨a2,b2⟩) q2 (by decide);generalize takeQ l ⟨#[97,100,100]⟩ ⟨a2,b2⟩=xx at hr hC hL;obtain ⟨t,a3,b3⟩:=xx;(try dsimp only at hr hC hL);unfold rdH at hC;(try dsimp only at hC);(try simp only [vE_eta,vV] at hC);refine rn_ 0 an0 fun K hK=>?_;refine rx_ an0 ?_;refine lk_ 1000 an0 hC ?_;refine rx_ an0 ?_;refine rwr_nil (hK _ ?_);have q3:=hL;clear hC hK K hL;cases t <;> ((first | rw [if_pos rfl] at hr | rw [if_neg Bool.false_ne_true] at hr) <;> (try dsimp only at hr)))
 ·refine gs_ ?_
  (have hC:=rtake_l l (by omega) en ⟨a3,b3⟩ q3 ⟨#[100,114,111,112]⟩;have hL:=takeQ_len (l:=l) (s:=⟨#[100,114,111,112]⟩) (r:=⟨a3,b3⟩) q3 (by decide);generalize takeQ l ⟨#[100,114,111,112]⟩ ⟨a3,b3⟩=xx at hr hC hL;obtain ⟨t,a4,b4⟩:=xx;(try dsimp only at hr hC hL);unfold rdH at hC;(try dsimp only at hC);(try simp only [vE_eta,vV] at hC);refine rn_ 0 an0 fun K hK=>?_;refine rx_ an0 ?_;refine lk_ 1000 an0 hC ?_;refine rx_ an0 ?_;refine rwr_nil (hK _ ?_);have q4:=hL;clear hC hK K hL;cases t <;> ((first | rw [if_pos rfl] at hr | rw [if_neg Bool.false_ne_true] at hr) <;> (try dsimp only at hr)))
  ·refine gs_ ?_
   (have hC:=rtake_l l (by omega) en ⟨a4,b4⟩ q4 ⟨#[114,101,110,97,109,101]⟩;have hL:=takeQ_len (l:=l) (s:=⟨#[114,101,110,97,109,101]⟩) (r:=⟨a4,b4⟩) q4 (by decide);generalize takeQ l ⟨#[114,101,110,97,109,101]⟩ ⟨a4,b4⟩=xx at hr hC hL;obtain ⟨t,a5,b5⟩:=xx;(try dsimp only at hr hC hL);unfold rdH at hC;(try dsimp only at hC);(try simp only [vE_eta,vV] at hC);refine rn_ 0 an0 fun K hK=>?_;refine rx_ an0 ?_;refine lk_ 1000 an0 hC ?_;refine rx_ an0 ?_;refine rwr_nil (hK _ ?_);have q5:=hL;clear hC hK K hL;cases t <;> ((first | rw [if_pos rfl] at hr | rw [if_neg Bool.false_ne_true] at hr) <;> (try dsimp only at hr)))
   ·unfold alterRet at hr
    refine gs_ ?_
    (have hC:=rneed_l l (by omega) en ⟨a5,b5⟩ q5 ⟨#[114,101,116,121,112,101]⟩;have hL:=needQ_len (l:=l) (s:=⟨#[114,101,116,121,112,101]⟩) (r:=⟨a5,b5⟩) q5 (by decide);generalize needQ l ⟨#[114,101,116,121,112,101]⟩ ⟨a5,b5⟩=xx at hr hC hL;obtain ⟨a6,b6⟩:=xx;(try dsimp only at hr hC hL);unfold rdH at hC;(try dsimp only at hC);(try simp only [vE_eta,vV] at hC);refine rn_ 0 an0 fun K hK=>?_;refine rx_ an0 ?_;refine lk_ 1000 an0 hC ?_;refine rx_ an0 ?_;refine rwr_nil (hK _ ?_);have q6:=hL;clear hC hK K hL)
    refine au_ an0 ?_
    (have hC:=rname_l l (by omega) en ⟨a6,b6⟩ q6 (by have:=txQ_size hl ⟨a6,b6⟩;unfold maxLen;omega);have hL:=nameQ_len (l:=l) (r:=⟨a6,b6⟩) q6;have hG:=nameQ_ge (l:=l) (r:=⟨a6,b6⟩);generalize nameQ l ⟨a6,b6⟩=xx at hr hC hL hG;obtain ⟨cl,a7,b7⟩:=xx;(try dsimp only at hr hC hL hG);unfold rdH at hC;(try dsimp only at hC);(try simp only [vE_eta,vV] at hC);refine rn_ 0 an0 fun K hK=>?_;refine rx_ an0 ?_;refine lk_ 1000 an0 hC ?_;refine rx_ an0 ?_;refine rwr_nil (hK _ ?_);have q7:=hL;have g7:=hG;clear hG;clear hC hK K hL)
    refine gs_ ?_
    (have hC:=rtype_l l hll en ⟨a7,b7⟩ q7;have hL:=typeQ_len (l:=l) (r:=⟨a7,b7⟩) q7;have hG:=typeQ_ge (l:=l) (r:=⟨a7,b7⟩);generalize typeQ l ⟨a7,b7⟩=xx at hr hC hL hG;obtain ⟨ty,a8,b8⟩:=xx;(try dsimp only at hr hC hL hG);unfold rdH at hC;(try dsimp only at hC);(try simp only [vE_eta,vV] at hC);refine rn_ 0 an0 fun K hK=>?_;refine rx_ an0 ?_;refine lk_ 1000 an0 hC ?_;refine rx_ an0 ?_;refine rwr_nil (hK _ ?_);have q8:=hL;have g8:=hG;clear hG;clear hC hK K hL)
    refine au_ an0 ?_
    (subst hr;(try simp only [vE_eta,vV,cmC,zE,zCm,Ex.k,Ex.vk,Ex.nm,Ex.ar,List.map_cons,List.map_nil,rE_eta,Vl.zero]))
    exact oj_ an0 (.inr rfl)
   ·unfold alterRen at hr
    refine gs_ ?_
    (have hC:=rtake_l l (by omega) en ⟨a5,b5⟩ q5 ⟨#[116,111]⟩;have hL:=takeQ_len (l:=l) (s:=⟨#[116,111]⟩) (r:=⟨a5,b5⟩) q5 (by decide);generalize takeQ l ⟨#[116,111]⟩ ⟨a5,b5⟩=xx at hr hC hL;obtain ⟨t,a6,b6⟩:=xx;(try dsimp only at hr hC hL);unfold rdH at hC;(try dsimp only at hC);(try simp only [vE_eta,vV] at hC);refine rn_ 0 an0 fun K hK=>?_;refine rx_ an0 ?_;refine lk_ 1000 an0 hC ?_;refine rx_ an0 ?_;refine rwr_nil (hK _ ?_);have q6:=hL;clear hC hK K hL;cases t <;> ((first | rw [if_pos rfl] at hr | rw [if_neg Bool.false_ne_true] at hr) <;> (try dsimp only at hr)))
    ·refine au_ an0 ?_
     (have hC:=rname_l l (by omega) en ⟨a6,b6⟩ q6 (by have:=txQ_size hl ⟨a6,b6⟩;unfold maxLen;omega);have hL:=nameQ_len (l:=l) (r:=⟨a6,b6⟩) q6;have hG:=nameQ_ge (l:=l) (r:=⟨a6,b6⟩);generalize nameQ l ⟨a6,b6⟩=xx at hr hC hL hG;obtain ⟨cl,a7,b7⟩:=xx;(try dsimp only at hr hC hL hG);unfold rdH at hC;(try dsimp only at hC);(try simp only [vE_eta,vV] at hC);refine rn_ 0 an0 fun K hK=>?_;refine rx_ an0 ?_;refine lk_ 1000 an0 hC ?_;refine rx_ an0 ?_;refine rwr_nil (hK _ ?_);have q7:=hL;have g7:=hG;clear hG;clear hC hK K hL)
     refine gs_ ?_
     (have hC:=rneed_l l (by omega) en ⟨a7,b7⟩ q7 ⟨#[116,111]⟩;have hL:=needQ_len (l:=l) (s:=⟨#[116,111]⟩) (r:=⟨a7,b7⟩) q7 (by decide);generalize needQ l ⟨#[116,111]⟩ ⟨a7,b7⟩=xx at hr hC hL;obtain ⟨a8,b8⟩:=xx;(try dsimp only at hr hC hL);unfold rdH at hC;(try dsimp only at hC);(try simp only [vE_eta,vV] at hC);refine rn_ 0 an0 fun K hK=>?_;refine rx_ an0 ?_;refine lk_ 1000 an0 hC ?_;refine rx_ an0 ?_;refine rwr_nil (hK _ ?_);have q8:=hL;clear hC hK K hL)
     refine gs_ ?_
     (have hC:=rname_l l (by omega) en ⟨a8,b8⟩ q8 (by have:=txQ_size hl ⟨a8,b8⟩;unfold maxLen;omega);have hL:=nameQ_len (l:=l) (r:=⟨a8,b8⟩) q8;have hG:=nameQ_ge (l:=l) (r:=⟨a8,b8⟩);generalize nameQ l ⟨a8,b8⟩=xx at hr hC hL hG;obtain ⟨o,a9,b9⟩:=xx;(try dsimp only at hr hC hL hG);unfold rdH at hC;(try dsimp only at hC);(try simp only [vE_eta,vV] at hC);refine rn_ 0 an0 fun K hK=>?_;refine rx_ an0 ?_;refine lk_ 1000 an0 hC ?_;refine rx_ an0 ?_;refine rwr_nil (hK _ ?_);have q9:=hL;have g9:=hG;clear hG;clear hC hK K hL)
     refine au_ an0 ?_
     (subst hr;(try simp only [vE_eta,vV,cmC,zE,zCm,Ex.k,Ex.vk,Ex.nm,Ex.ar,List.map_cons,List.map_nil,rE_eta,Vl.zero]))
     exact oj_ an0 (.inr rfl)
    ·refine au_ an0 ?_
     (have hC:=rname_l l (by omega) en ⟨a6,b6⟩ q6 (by have:=txQ_size hl ⟨a6,b6⟩;unfold maxLen;omega);have hL:=nameQ_len (l:=l) (r:=⟨a6,b6⟩) q6;have hG:=nameQ_ge (l:=l) (r:=⟨a6,b6⟩);generalize nameQ l ⟨a6,b6⟩=xx at hr hC hL hG;obtain ⟨o,a7,b7⟩:=xx;(try dsimp only at hr hC hL hG);unfold rdH at hC;(try dsimp only at hC);(try simp only [vE_eta,vV] at hC);refine rn_ 0 an0 fun K hK=>?_;refine rx_ an0 ?_;refine lk_ 1000 an0 hC ?_;refine rx_ an0 ?_;refine rwr_nil (hK _ ?_);have q7:=hL;have g7:=hG;clear hG;clear hC hK K hL)
     refine au_ an0 ?_
     (subst hr;(try simp only [vE_eta,vV,cmC,zE,zCm,Ex.k,Ex.vk,Ex.nm,Ex.ar,List.map_cons,List.map_nil,rE_eta,Vl.zero]))
     exact oj_ an0 (.inr rfl)
  ·unfold alterDrop at hr
   refine au_ an0 ?_
   (have hC:=rname_l l (by omega) en ⟨a4,b4⟩ q4 (by have:=txQ_size hl ⟨a4,b4⟩;unfold maxLen;omega);have hL:=nameQ_len (l:=l) (r:=⟨a4,b4⟩) q4;have hG:=nameQ_ge (l:=l) (r:=⟨a4,b4⟩);generalize nameQ l ⟨a4,b4⟩=xx at hr hC hL hG;obtain ⟨cl,a5,b5⟩:=xx;(try dsimp only at hr hC hL hG);unfold rdH at hC;(try dsimp only at hC);(try simp only [vE_eta,vV] at hC);refine rn_ 0 an0 fun K hK=>?_;refine rx_ an0 ?_;refine lk_ 1000 an0 hC ?_;refine rx_ an0 ?_;refine rwr_nil (hK _ ?_);have q5:=hL;have g5:=hG;clear hG;clear hC hK K hL)
   refine au_ an0 ?_
   (subst hr;(try simp only [vE_eta,vV,cmC,zE,zCm,Ex.k,Ex.vk,Ex.nm,Ex.ar,List.map_cons,List.map_nil,rE_eta,Vl.zero]))
   exact oj_ an0 (.inr rfl)
 ·unfold alterAdd at hr
  refine au_ an0 ?_
  (have hC:=rname_l l (by omega) en ⟨a3,b3⟩ q3 (by have:=txQ_size hl ⟨a3,b3⟩;unfold maxLen;omega);have hL:=nameQ_len (l:=l) (r:=⟨a3,b3⟩) q3;have hG:=nameQ_ge (l:=l) (r:=⟨a3,b3⟩);generalize nameQ l ⟨a3,b3⟩=xx at hr hC hL hG;obtain ⟨cl,a4,b4⟩:=xx;(try dsimp only at hr hC hL hG);unfold rdH at hC;(try dsimp only at hC);(try simp only [vE_eta,vV] at hC);refine rn_ 0 an0 fun K hK=>?_;refine rx_ an0 ?_;refine lk_ 1000 an0 hC ?_;refine rx_ an0 ?_;refine rwr_nil (hK _ ?_);have q4:=hL;have g4:=hG;clear hG;clear hC hK K hL)
  refine gs_ ?_
  (have hC:=rtype_l l hll en ⟨a4,b4⟩ q4;have hL:=typeQ_len (l:=l) (r:=⟨a4,b4⟩) q4;have hG:=typeQ_ge (l:=l) (r:=⟨a4,b4⟩);generalize typeQ l ⟨a4,b4⟩=xx at hr hC hL hG;obtain ⟨ty,a5,b5⟩:=xx;(try dsimp only at hr hC hL hG);unfold rdH at hC;(try dsimp only at hC);(try simp only [vE_eta,vV] at hC);refine rn_ 0 an0 fun K hK=>?_;refine rx_ an0 ?_;refine lk_ 1000 an0 hC ?_;refine rx_ an0 ?_;refine rwr_nil (hK _ ?_);have q5:=hL;have g5:=hG;clear hG;clear hC hK K hL)
  refine gs_ ?_
  (have hC:=rneed_l l (by omega) en ⟨a5,b5⟩ q5 ⟨#[100,101,102,97,117,108,116]⟩;have hL:=needQ_len (l:=l) (s:=⟨#[100,101,102,97,117,108,116]⟩) (r:=⟨a5,b5⟩) q5 (by decide);generalize needQ l ⟨#[100,101,102,97,117,108,116]⟩ ⟨a5,b5⟩=xx at hr hC hL;obtain ⟨a6,b6⟩:=xx;(try dsimp only at hr hC hL);unfold rdH at hC;(try dsimp only at hC);(try simp only [vE_eta,vV] at hC);refine rn_ 0 an0 fun K hK=>?_;refine rx_ an0 ?_;refine lk_ 1000 an0 hC ?_;refine rx_ an0 ?_;refine rwr_nil (hK _ ?_);have q6:=hL;clear hC hK K hL)
  refine gs_ ?_
  (have hC:=rv_l l hl en ⟨a6,b6⟩ q6;have hL:=vQ_len (l:=l) (r:=⟨a6,b6⟩) q6;have hG:=vQ_ge (l:=l) (r:=⟨a6,b6⟩);generalize vQ l ⟨a6,b6⟩=xx at hr hC hL hG;obtain ⟨v,a7,b7⟩:=xx;(try dsimp only at hr hC hL hG);unfold rdH at hC;(try dsimp only at hC);(try simp only [vE_eta,vV] at hC);refine rn_ 0 an0 fun K hK=>?_;refine rx_ an0 ?_;refine lk_ 1000 an0 hC ?_;refine rx_ an0 ?_;refine rwr_nil (hK _ ?_);have q7:=hL;have g7:=hG;clear hG;clear hC hK K hL)
  refine au_ an0 ?_
  (subst hr;(try simp only [vE_eta,vV,cmC,zE,zCm,Ex.k,Ex.vk,Ex.nm,Ex.ar,List.map_cons,List.map_nil,rE_eta,Vl.zero]))
  exact oj_ an0 (.inr rfl)
end Go.Proofs.YtjdgejfhnfnmgaaGreatDoor.Ax
