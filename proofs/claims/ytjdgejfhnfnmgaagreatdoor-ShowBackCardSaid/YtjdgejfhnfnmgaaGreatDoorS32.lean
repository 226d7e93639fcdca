/-  -/
import Derived.Test.YtjdgejfhnfnmgaaGreatDoorS19
import Derived.Test.YtjdgejfhnfnmgaaGreatDoorS31
namespace Go.Proofs.YtjdgejfhnfnmgaaGreatDoor.Ax
open Go.RowKit Go.Sort
set_option linter.unusedSimpArgs false
attribute [local go_sem] ty3 ty4 ty9 ty5 ty26 ty24 ty29 ty27 ty77 ty43 ty67 ty65 wIs wNull wShut wOpen wNot wAnd7
set_option linter.unusedVariables false
set_option maxRecDepth 100000
theorem takeB_lt {l:List Vl} {s:ByteArray} {k:Nat} (h:takeB l s k=true):k < l.length:=by
 unfold takeB at h
 cases ht:l[k]? with
 | none=>rw [ht] at h;cases h
 | some t=>exact (List.getElem?_eq_some_iff.1 ht).1
theorem wordR_seven {l:List Vl} {k:Nat} {i:Int} {k2:Nat} (h:wordR l wAnd7 k=.ok i k2):0≤i∧i < 7:=by
 unfold wordR at h
 cases hd:decide (oneP l k wAnd7 0=-1) with
 | true=>rw [hd] at h;cases h
 | false =>
  rw [hd] at h
  cases h
  refine ⟨oneP_ge (of_decide_eq_false hd),?_⟩
  have hd:=of_decide_eq_false hd
  rcases oneP_le (l:=l) (k:=k) (L:=wAnd7) (i:=0) with ⟨h1,h2⟩ | h1
  ·have:wAnd7.length=7:=rfl
   omega
  ·omega
set_option maxHeartbeats 16000000 in
theorem ppair_r (l:List Vl) (hl:GoodL l) (en:Int) (d:Int) (E:Nat→PR Ex) (hE:∀ k,SpR Tryz.prog 118 [.one (.optr 1000 0),.one (.t false (.lit (.int .i64 d)))] l en k (E k) vE) (k:Nat) :
  SpR Tryz.prog 155 [.one (.optr 1000 0),.one (.t false (.lit (.int .i64 d)))] l en k (pairR l E k) vE:=by
 have hll:=hl.len
 refine SpR.mk fun vs hlen hone=>?_
 generalize hr:pairR l E k=r
 unfold pairR at hr
 have f1:(1:Nat)≤maxLen:=by decide
 have f2:(1 * 48:Nat)≤140737488355328:=by decide
 (refine eq_ Tryz.func155 Tryz.ntmps155 Tryz.results155 fun X hX hpq=>?_)
 refine gs_ ?_
 refine au_ an0 ?_
 (rcases hq:E k with ⟨a,k2⟩ | ⟨k2⟩;rotate_left;(focus (have hC:=hE k;rw [hq] at hr hC;subst hr;have hC:=SpR.bad hC;have hpn:=hpq _ rfl;refine rn_ 0 an0 fun K hK=>?_;refine rx_ an0 ?_;exact pn_ 1000 an0 hC hpn));have hC:=hE k;rw [hq] at hr hC;(try dsimp only [PR.bind] at hr);have hC:=SpR.ok hC;(try simp only [vE_eta,vV,vCol] at hC);refine rn_ 0 an0 fun K hK=>?_;refine rx_ an0 ?_;refine lk_ 1000 an0 hC ?_;refine rx_ an0 ?_;refine rwr_nil (hK _ ?_);clear hC hK K)
 refine gs_ ?_
 (have hT:=ptake_l l (by omega) en (k2) (wIs);rcases hb:takeB l (wIs) (k2) with _ | _ <;> (first | rw [takeK_f hb,hb] at hT | rw [takeK_t hb,hb] at hT) <;> (rw [hb] at hr;dsimp only [cond] at hr;unfold paH at hT;refine rn_ 0 an0 fun K hK=>?_;refine rx_ an0 ?_;refine lk_ 1000 an0 hT ?_;refine rx_ an0 ?_;refine rwr_nil (hK _ ?_);clear hK K hT hb))
 ·refine gs_ ?_
  (rcases hq:wordR l wAnd7 k2 with ⟨i,k3⟩ | ⟨k3⟩;rotate_left;(focus (have hC:=pone_r l hl en k2 wAnd7 (by decide);rw [hq] at hr hC;subst hr;have hC:=SpR.bad hC;have hpn:=hpq _ rfl;refine rn_ 0 an0 fun K hK=>?_;refine rx_ an0 ?_;refine rwr_melt 20 20 ?_;exact pn_ 1000 an0 hC hpn));have hC:=pone_r l hl en k2 wAnd7 (by decide);rw [hq] at hr hC;(try dsimp only [PR.bind] at hr);have hC:=SpR.ok hC;(try simp only [vE_eta,vV,vCol] at hC);refine rn_ 0 an0 fun K hK=>?_;refine rx_ an0 ?_;refine rwr_melt 20 20 ?_;refine lk_ 1000 an0 hC ?_;refine rx_ an0 ?_;refine rwr_nil (hK _ ?_);clear hC hK K)
  have h7:=wordR_seven hq
  have e1:IntKind.i64.wrap (5 + i)=5 + i:=by rw [IntWalk.i64_in _ (by omega)]
  refine gs_ ?_
  (rcases hq:E k3 with ⟨b,k4⟩ | ⟨k4⟩;rotate_left;(focus (have hC:=hE k3;rw [hq] at hr hC;subst hr;have hC:=SpR.bad hC;have hpn:=hpq _ rfl;refine rn_ 0 an0 fun K hK=>?_;refine rx_ an0 ?_;exact pn_ 1000 an0 hC hpn));have hC:=hE k3;rw [hq] at hr hC;(try dsimp only [PR.bind] at hr);have hC:=SpR.ok hC;(try simp only [vE_eta,vV,vCol] at hC);refine rn_ 0 an0 fun K hK=>?_;refine rx_ an0 ?_;refine lk_ 1000 an0 hC ?_;refine rx_ an0 ?_;refine rwr_nil (hK _ ?_);clear hC hK K)
  generalize hj:5 + i=j at *
  refine au_ (an2 hj e1) ?_
  (subst hr;refine okq_ (by intro c h;cases h) ?_;(try simp only [vE_eta,vV,vCol,Ex.k,Ex.vk,Ex.nm,Ex.ar,List.map_cons,List.map_nil,rE_eta,Vl.zero]))
  refine ex_meltb 4 5 29 ?_
  exact oj_ an0 (.inl rfl)
 ·refine gs_ ?_
  (rcases hq:needR l wNull (k2 + 1) with ⟨u,k3⟩ | ⟨k3⟩;rotate_left;(focus (have hC:=pneed_r l hl en (k2 + 1) wNull;rw [hq] at hr hC;subst hr;have hC:=SpR.bad hC;have hpn:=hpq _ rfl;refine rn_ 0 an0 fun K hK=>?_;refine rx_ an0 ?_;refine rwr_melt 14 14 ?_;exact pn_ 1000 an0 hC hpn));have hC:=pneed_r l hl en (k2 + 1) wNull;rw [hq] at hr hC;(try dsimp only [PR.bind] at hr);have hC:=SpR.ok hC;(try simp only [vE_eta,vV,vCol] at hC);refine rn_ 0 an0 fun K hK=>?_;refine rx_ an0 ?_;refine rwr_melt 14 14 ?_;refine lk_ 1000 an0 hC ?_;refine rx_ an0 ?_;refine rwr_nil (hK _ ?_);clear hC hK K)
  refine au_ an0 ?_
  (subst hr;refine okq_ (by intro c h;cases h) ?_;(try simp only [vE_eta,vV,vCol,Ex.k,Ex.vk,Ex.nm,Ex.ar,List.map_cons,List.map_nil,rE_eta,Vl.zero]))
  refine ex_meltb 4 5 17 ?_
  exact oj_ an0 (.inl rfl)
end Go.Proofs.YtjdgejfhnfnmgaaGreatDoor.Ax
namespace Go.Proofs.YtjdgejfhnfnmgaaGreatDoor.Ax
open Go.RowKit Go.Sort
set_option linter.unusedSimpArgs false
attribute [local go_sem] ty3 ty4 ty9 ty5 ty26 ty24 ty29 ty27 ty77 ty43 ty67 ty65 wIs wNull wShut wOpen wNot wAnd7
set_option linter.unusedVariables false
set_option maxRecDepth 100000
theorem takeB_at {l:List Vl} {s:ByteArray} {k:Nat} {t:Vl} (h:l[k]?=some t):takeB l s k=strEq t.s s:=by unfold takeB;rw [h]
set_option maxHeartbeats 16000000 in
theorem pexpr_leaf (l:List Vl) (hl:GoodL l) (en:Int) (d:Int) (k:Nat) (h1:takeB l wOpen k=false) (h2:takeB l wNot k=false) :
  SpR Tryz.prog 118 [.one (.optr 1000 0),.one (.t false (.lit (.int .i64 d)))] l en k (leafR l k) vE:=by
 have hll:=hl.len
 have hT1:=ptake_l l (by omega) en k wOpen
 rw [h1,takeK_f h1] at hT1
 have hT2:=ptake_l l (by omega) en k wNot
 rw [h2,takeK_f h2] at hT2
 unfold paH at hT1 hT2
 refine SpR.mk fun vs hlen hone=>?_
 generalize hr:leafR l k=r
 unfold leafR at hr
 by_cases hlt:k < l.length
 case' pos =>
  obtain ⟨t,ht⟩:∃ t,l[k]?=some t:=⟨_,List.getElem?_eq_getElem hlt⟩
  have e1:decide ((k:Int) < (l.length:Int))=true:=by simp;omega
  have j2:(k:Int) < (l.length:Int):=by omega
  have j3:(0:Int)≤(k:Int):=by omega
  rw [takeB_at ht] at h1 h2
  unfold strEq wOpen at h1
  unfold strEq wNot at h2
  (refine eq_ Tryz.func118 Tryz.ntmps118 Tryz.results118 fun X hX hpq=>?_)
  refine gs_ ?_
  refine au_ (an2 (an5 e1 ht hlt j2 j3) (an2 h1 h2)) ?_
 case' neg =>
  have e1:decide ((k:Int) < (l.length:Int))=false:=by simp;omega
  (refine eq_ Tryz.func118 Tryz.ntmps118 Tryz.results118 fun X hX hpq=>?_)
  refine gs_ ?_
  refine au_ e1 ?_
 all_goals
  (refine rn_ 0 an0 fun K hK=>?_;refine rx_ an0 ?_;refine lk_ 1000 an0 (hT1) ?_;refine rx_ an0 ?_;refine rwr_nil (hK _ ?_);clear hK K)
  refine au_ an0 ?_
  (refine rn_ 0 an0 fun K hK=>?_;refine rx_ an0 ?_;refine lk_ 1000 an0 (hT2) ?_;refine rx_ an0 ?_;refine rwr_nil (hK _ ?_);clear hK K)
  refine au_ an0 ?_
  rcases hv:vP l k with _ | ⟨v,k2⟩ | ⟨k2⟩
  ·rw [hv] at hr
   dsimp only at hr
   have hV:=pv_n l hl en k hv
   unfold vV paH at hV
   (refine rn_ 0 an0 fun K hK=>?_;refine rx_ an0 ?_;refine lk_ 1000 an0 (hV) ?_;refine rx_ an0 ?_;refine rwr_nil (hK _ ?_);clear hK K)
   refine au_ an0 ?_
   (rcases hq:nameR l k with ⟨s,k2⟩ | ⟨k2⟩;rotate_left;(focus (have hC:=pname_r l hl en k;rw [hq] at hr hC;subst hr;have hC:=SpR.bad hC;have hpn:=hpq _ rfl;refine rn_ 0 an0 fun K hK=>?_;refine rx_ an0 ?_;exact pn_ 1000 an0 hC hpn));have hC:=pname_r l hl en k;rw [hq] at hr hC;(try dsimp only [PR.bind] at hr);have hC:=SpR.ok hC;(try simp only [vE_eta,vV,vCol] at hC);refine rn_ 0 an0 fun K hK=>?_;refine rx_ an0 ?_;refine lk_ 1000 an0 hC ?_;refine rx_ an0 ?_;refine rwr_nil (hK _ ?_);clear hC hK K)
   refine au_ an0 ?_
   (subst hr;refine okq_ (by intro c h;cases h) ?_;(try simp only [vE_eta,vV,vCol,Ex.k,Ex.vk,Ex.nm,Ex.ar,List.map_cons,List.map_nil,rE_eta,Vl.zero]))
   exact oj_ an0 (.inl rfl)
  ·rw [hv] at hr
   dsimp only at hr
   have hV:=pv_l l hl en k v k2 hv
   unfold vV paH at hV
   (refine rn_ 0 an0 fun K hK=>?_;refine rx_ an0 ?_;refine lk_ 1000 an0 (hV) ?_;refine rx_ an0 ?_;refine rwr_nil (hK _ ?_);clear hK K)
   refine au_ an0 ?_
   (subst hr;refine okq_ (by intro c h;cases h) ?_;(try simp only [vE_eta,vV,vCol,Ex.k,Ex.vk,Ex.nm,Ex.ar,List.map_cons,List.map_nil,rE_eta,Vl.zero]))
   exact oj_ an0 (.inl rfl)
  ·rw [hv] at hr
   dsimp only at hr
   subst hr
   have hV:=pv_p l hl en k k2 hv
   unfold paH at hV
   have hpn:=hpq _ rfl
   (refine rn_ 0 an0 fun K hK=>?_;refine rx_ an0 ?_;exact pn_ 1000 an0 (hV) hpn)
set_option maxHeartbeats 16000000 in
theorem pexpr_deep (l:List Vl) (hl:GoodL l) (en:Int) (k:Nat) (h:(takeB l wOpen k || takeB l wNot k)=true) :
  SpPL Tryz.prog 118 [.one (.optr 1000 0),.one (.t false (.lit (.int .i64 60)))] 67 (paH l en k) (chP l en k) 26:=by
 intro vs hlen hone
 have hF:=pfail_l l en k
 have hlt:k < l.length:=by
  rw [Bool.or_eq_true] at h
  rcases h with h | h
  ·exact takeB_lt h
  ·exact takeB_lt h
 obtain ⟨t,ht⟩:∃ t,l[k]?=some t:=⟨_,List.getElem?_eq_getElem hlt⟩
 have e1:decide ((k:Int) < (l.length:Int))=true:=by simp;omega
 have j2:(k:Int) < (l.length:Int):=by omega
 have j3:(0:Int)≤(k:Int):=by omega
 rw [takeB_at ht,takeB_at ht] at h
 unfold strEq wOpen wNot at h
 unfold paH at hF ⊢
 cases g1:(t.s.toList==(⟨#[40]⟩:ByteArray).toList) with
 | true =>
  (refine ep_ Tryz.func118 Tryz.ntmps118 fun X hX hpn=>?_)
  refine gs_ ?_
  refine au_ (an2 (an5 e1 ht hlt j2 j3) g1) ?_
  (refine rn_ 0 an0 fun K hK=>?_;refine rx_ an0 ?_;exact pn_ 1000 an0 (hF) hpn)
 | false =>
  rw [g1,Bool.false_or] at h
  (refine ep_ Tryz.func118 Tryz.ntmps118 fun X hX hpn=>?_)
  refine gs_ ?_
  refine au_ (an2 (an5 e1 ht hlt j2 j3) (an2 g1 h)) ?_
  (refine rn_ 0 an0 fun K hK=>?_;refine rx_ an0 ?_;exact pn_ 1000 an0 (hF) hpn)
set_option maxHeartbeats 16000000 in
theorem pexpr_open (l:List Vl) (hl:GoodL l) (en:Int) (d:Int) (hd:0≤d∧d < 60) (k:Nat) (h1:takeB l wOpen k=true) (R:PR Ex)
  (hP:SpR Tryz.prog 155 [.one (.optr 1000 0),.one (.t false (.lit (.int .i64 (d + 1))))] l en (k + 1) R vE) :
  SpR Tryz.prog 118 [.one (.optr 1000 0),.one (.t false (.lit (.int .i64 d)))] l en k (R.bind fun e k=>(needR l wShut k).bind fun _ k=>.ok e k) vE:=by
 have hll:=hl.len
 have hT1:=ptake_l l (by omega) en k wOpen
 rw [h1,takeK_t h1] at hT1
 unfold paH at hT1
 refine SpR.mk fun vs hlen hone=>?_
 generalize hr:(R.bind fun e k=>(needR l wShut k).bind fun _ k=>.ok e k)=r
 have hlt:=takeB_lt h1
 obtain ⟨t,ht⟩:∃ t,l[k]?=some t:=⟨_,List.getElem?_eq_getElem hlt⟩
 have e1:decide ((k:Int) < (l.length:Int))=true:=by simp;omega
 have j2:(k:Int) < (l.length:Int):=by omega
 have j3:(0:Int)≤(k:Int):=by omega
 have e2:IntKind.i64.wrap (d + 1)=d + 1:=IntWalk.i64_in _ (by omega)
 have e3:(d==60)=false:=by simp;omega
 rw [takeB_at ht] at h1
 unfold strEq wOpen at h1
 (refine eq_ Tryz.func118 Tryz.ntmps118 Tryz.results118 fun X hX hpq=>?_)
 refine gs_ ?_
 refine au_ (an2 (an5 e1 ht hlt j2 j3) (an2 h1 e3)) ?_
 (refine rn_ 0 an0 fun K hK=>?_;refine rx_ an0 ?_;refine lk_ 1000 an0 (hT1) ?_;refine rx_ an0 ?_;refine rwr_nil (hK _ ?_);clear hK K)
 refine au_ an0 ?_
 (rcases hq:R with ⟨e,k2⟩ | ⟨k2⟩;rotate_left;(focus (have hC:=hP;rw [hq] at hr hC;subst hr;have hC:=SpR.bad hC;have hpn:=hpq _ rfl;refine rn_ 0 e2 fun K hK=>?_;refine rx_ e2 ?_;exact pn_ 1000 e2 hC hpn));have hC:=hP;rw [hq] at hr hC;(try dsimp only [PR.bind] at hr);have hC:=SpR.ok hC;(try simp only [vE_eta,vV,vCol] at hC);refine rn_ 0 e2 fun K hK=>?_;refine rx_ e2 ?_;refine lk_ 1000 e2 hC ?_;refine rx_ e2 ?_;refine rwr_nil (hK _ ?_);clear hC hK K)
 refine gs_ ?_
 (rcases hq:needR l wShut k2 with ⟨u,k3⟩ | ⟨k3⟩;rotate_left;(focus (have hC:=pneed_r l hl en k2 wShut;rw [hq] at hr hC;subst hr;have hC:=SpR.bad hC;have hpn:=hpq _ rfl;refine rn_ 0 an0 fun K hK=>?_;refine rx_ an0 ?_;refine rwr_melt 63 63 ?_;exact pn_ 1000 an0 hC hpn));have hC:=pneed_r l hl en k2 wShut;rw [hq] at hr hC;(try dsimp only [PR.bind] at hr);have hC:=SpR.ok hC;(try simp only [vE_eta,vV,vCol] at hC);refine rn_ 0 an0 fun K hK=>?_;refine rx_ an0 ?_;refine rwr_melt 63 63 ?_;refine lk_ 1000 an0 hC ?_;refine rx_ an0 ?_;refine rwr_nil (hK _ ?_);clear hC hK K)
 refine au_ an0 ?_
 (subst hr;refine okq_ (by intro c h;cases h) ?_;(try simp only [vE_eta,vV,vCol,Ex.k,Ex.vk,Ex.nm,Ex.ar,List.map_cons,List.map_nil,rE_eta,Vl.zero]))
 exact oj_ an0 (.inl rfl)
set_option maxHeartbeats 16000000 in
theorem pexpr_not (l:List Vl) (hl:GoodL l) (en:Int) (d:Int) (hd:0≤d∧d < 60) (k:Nat) (h1:takeB l wOpen k=false) (h2:takeB l wNot k=true) (R:PR Ex)
  (hE:SpR Tryz.prog 118 [.one (.optr 1000 0),.one (.t false (.lit (.int .i64 (d + 1))))] l en (k + 1) R vE) :
  SpR Tryz.prog 118 [.one (.optr 1000 0),.one (.t false (.lit (.int .i64 d)))] l en k (R.bind fun e k=>.ok (Ex.mk 3 Vl.zero .empty [e]) k) vE:=by
 have hll:=hl.len
 have hT1:=ptake_l l (by omega) en k wOpen
 rw [h1,takeK_f h1] at hT1
 have hT2:=ptake_l l (by omega) en k wNot
 rw [h2,takeK_t h2] at hT2
 unfold paH at hT1 hT2
 refine SpR.mk fun vs hlen hone=>?_
 generalize hr:(R.bind fun e k=>.ok (Ex.mk 3 Vl.zero .empty [e]) k)=r
 have hlt:=takeB_lt h2
 obtain ⟨t,ht⟩:∃ t,l[k]?=some t:=⟨_,List.getElem?_eq_getElem hlt⟩
 have e1:decide ((k:Int) < (l.length:Int))=true:=by simp;omega
 have j2:(k:Int) < (l.length:Int):=by omega
 have j3:(0:Int)≤(k:Int):=by omega
 have e2:IntKind.i64.wrap (d + 1)=d + 1:=IntWalk.i64_in _ (by omega)
 have e3:(d==60)=false:=by simp;omega
 have f1:(1:Nat)≤maxLen:=by decide
 have f2:(1 * 48:Nat)≤140737488355328:=by decide
 rw [takeB_at ht] at h1 h2
 unfold strEq wOpen at h1
 unfold strEq wNot at h2
 (refine eq_ Tryz.func118 Tryz.ntmps118 Tryz.results118 fun X hX hpq=>?_)
 refine gs_ ?_
 refine au_ (an2 (an5 e1 ht hlt j2 j3) (an3 h1 h2 e3)) ?_
 (refine rn_ 0 an0 fun K hK=>?_;refine rx_ an0 ?_;refine lk_ 1000 an0 (hT1) ?_;refine rx_ an0 ?_;refine rwr_nil (hK _ ?_);clear hK K)
 refine au_ an0 ?_
 (refine rn_ 0 an0 fun K hK=>?_;refine rx_ an0 ?_;refine lk_ 1000 an0 (hT2) ?_;refine rx_ an0 ?_;refine rwr_nil (hK _ ?_);clear hK K)
 refine au_ an0 ?_
 (rcases hq:R with ⟨e,k2⟩ | ⟨k2⟩;rotate_left;(focus (have hC:=hE;rw [hq] at hr hC;subst hr;have hC:=SpR.bad hC;have hpn:=hpq _ rfl;refine rn_ 0 e2 fun K hK=>?_;refine rx_ e2 ?_;exact pn_ 1000 e2 hC hpn));have hC:=hE;rw [hq] at hr hC;(try dsimp only [PR.bind] at hr);have hC:=SpR.ok hC;(try simp only [vE_eta,vV,vCol] at hC);refine rn_ 0 e2 fun K hK=>?_;refine rx_ e2 ?_;refine lk_ 1000 e2 hC ?_;refine rx_ e2 ?_;refine rwr_nil (hK _ ?_);clear hC hK K)
 refine au_ an0 ?_
 (subst hr;refine okq_ (by intro c h;cases h) ?_;(try simp only [vE_eta,vV,vCol,Ex.k,Ex.vk,Ex.nm,Ex.ar,List.map_cons,List.map_nil,rE_eta,Vl.zero]))
 refine ex_meltb 4 5 74 ?_
 exact oj_ an0 (.inl rfl)
theorem pexpr_r (l:List Vl) (hl:GoodL l) (en:Int):∀ (f:Nat),f≤60→∀ k:Nat,SpR Tryz.prog 118 [.one (.optr 1000 0),.one (.t false (.lit (.int .i64 (60 - (f:Int)))))] l en k (exR l f k) vE
 | 0,_,k=>by
  unfold exR
  show SpR _ _ [_,.one (.t false (.lit (.int .i64 60)))] _ _ _ _ _
  cases h:(takeB l wOpen k || takeB l wNot k) with
  | true=>exact pexpr_deep l hl en k h
  | false =>
   rw [Bool.or_eq_false_iff] at h
   exact pexpr_leaf l hl en 60 k h.1 h.2
 | f + 1,hf,k=>by
  have hd:(60 - ((f + 1:Nat):Int)) + 1=60 - (f:Int):=by omega
  have ih:=pexpr_r l hl en f (by omega)
  unfold exR
  cases h1:takeB l wOpen k with
  | true =>
   have hP:=ppair_r l hl en _ _ ih (k + 1)
   rw [← hd] at hP
   exact pexpr_open l hl en _ ⟨by omega,by omega⟩ k h1 _ hP
  | false =>
   cases h2:takeB l wNot k with
   | true =>
    have hE:=ih (k + 1)
    rw [← hd] at hE
    exact pexpr_not l hl en _ ⟨by omega,by omega⟩ k h1 h2 _ hE
   | false=>exact pexpr_leaf l hl en _ k h1 h2
theorem pexpr0 (l:List Vl) (hl:GoodL l) (en:Int) (k:Nat):SpR Tryz.prog 118 [.one (.optr 1000 0),.one (.t false (.lit (.int .i64 0)))] l en k (exR l 60 k) vE:=pexpr_r l hl en 60 (Nat.le_refl _) k
end Go.Proofs.YtjdgejfhnfnmgaaGreatDoor.Ax
namespace Go.Proofs.YtjdgejfhnfnmgaaGreatDoor.Ax
open Go.RowKit
set_option linter.unusedSimpArgs false
attribute [local go_sem] ty3 ty4 ty9 ty5 ty26 ty24 ty29 ty27 ty54 ty22 ty25 ty31 ty77 ty43 ty69 ty101
set_option linter.unusedVariables false
set_option maxRecDepth 100000
set_option maxHeartbeats 16000000 in
theorem rexpr_deep (l:List Vl) (en:Int) (r:RS) (h:(strEq (txQ l r) wOpen || strEq (txQ l r) wNot)=true) :
  SpL Tryz.prog 75 [.one (.optr 1000 0),.one (.t false (.lit (.int .i64 60)))] 69 (rdH l en r) (vE (.mk 0 Vl.zero .empty [])) (rdH l en ⟨r.at_,true⟩) 26:=by
 intro vs hlen hone
 have hT:=rtext_l l en r
 generalize txQ l r=u at *
 obtain ⟨at_,bad⟩:=r
 unfold vE
 unfold rdH at hT ⊢
 dsimp only at hT ⊢
 rw [rE_mk]
 unfold Vl.zero
 unfold strEq wOpen wNot at h
 cases g1:(u.toList==(⟨#[40]⟩:ByteArray).toList) with
 | true =>
  (refine ei_ Tryz.func75 Tryz.ntmps75 Tryz.results75 fun X hX=>?_)
  refine gs_ ?_
  refine au_ an0 ?_
  (refine rn_ 0 an0 fun K hK=>?_;refine rx_ an0 ?_;refine lk_ 1000 an0 (hT) ?_;refine rx_ an0 ?_;refine rwr_nil (hK _ ?_);clear hK K)
  refine au_ g1 ?_
  exact oj_ an0 (.inl rfl)
 | false =>
  rw [g1,Bool.false_or] at h
  (refine ei_ Tryz.func75 Tryz.ntmps75 Tryz.results75 fun X hX=>?_)
  refine gs_ ?_
  refine au_ an0 ?_
  (refine rn_ 0 an0 fun K hK=>?_;refine rx_ an0 ?_;refine lk_ 1000 an0 (hT) ?_;refine rx_ an0 ?_;refine rwr_nil (hK _ ?_);clear hK K)
  refine au_ (an2 g1 h) ?_
  exact oj_ an0 (.inl rfl)
theorem rexpr_l (l:List Vl) (hl:GoodL l) (en:Int):∀ (f:Nat),f≤60→∀ r:RS,r.at_≤l.length→SpL Tryz.prog 75 [.one (.optr 1000 0),.one (.t false (.lit (.int .i64 (60 - (f:Int)))))] 69 (rdH l en r) (vE (exQ l f r).1) (rdH l en (exQ l f r).2) 26:=by
 intro f
 induction f with
 | zero =>
  intro _ r hr
  show SpL _ _ [_,.one (.t false (.lit (.int .i64 60)))] _ _ _ _ _
  unfold exQ
  by_cases h:(strEq (txQ l r) wOpen || strEq (txQ l r) wNot)=true
  ·rw [if_pos h]
   exact rexpr_deep l en r h
  ·rw [if_neg h]
   rw [Bool.not_eq_true,Bool.or_eq_false_iff] at h
   have:=rexpr_leaf l hl en r hr 60 h.1 h.2
   cases hb:isVB (txQ l r) with
   | true=>rw [hb,if_pos rfl,if_pos rfl] at this;rw [if_pos rfl];exact this
   | false=>rw [hb,if_neg Bool.false_ne_true,if_neg Bool.false_ne_true] at this;rw [if_neg Bool.false_ne_true];exact this
 | succ f ih =>
  intro hf r hr
  have hd:(60 - ((f + 1:Nat):Int)) + 1=60 - (f:Int):=by omega
  have ih:=ih (by omega)
  rw [← hd] at ih
  unfold exQ
  by_cases h2:strEq (txQ l r) wNot=true
  ·rw [if_pos h2]
   have h0:txQ l r ≠ ⟨#[]⟩:=by
    intro h3
    rw [h3,strEq_none (by decide)] at h2
    cases h2
   obtain ⟨hb,hlt⟩:=txQ_lt h0
   obtain ⟨at_,bad⟩:=r
   dsimp only at hb hlt
   subst hb
   exact rexpr_not l hl en at_ hlt _ ⟨by omega,by omega⟩ h2 _ _ (ih ⟨at_ + 1,false⟩ hlt)
  ·rw [if_neg h2]
   by_cases h1:strEq (txQ l r) wOpen=true
   ·rw [if_pos h1]
    have h0:txQ l r ≠ ⟨#[]⟩:=by
     intro h3
     rw [h3,strEq_none (by decide)] at h1
     cases h1
    obtain ⟨hb,hlt⟩:=txQ_lt h0
    obtain ⟨at_,bad⟩:=r
    dsimp only at hb hlt
    subst hb
    have ih1:=ih ⟨at_ + 1,false⟩ hlt
    have q1:=exQ_len f (r:=⟨at_ + 1,false⟩) hlt
    have hT:=rtake_l l (by have:=hl.len;omega) en (exQ l f ⟨at_ + 1,false⟩).2 q1 wIs
    have q2:=takeQ_len (s:=wIs) q1 (by decide)
    dsimp only
    generalize exQ l f ⟨at_ + 1,false⟩=a at *
    obtain ⟨e,r1⟩:=a
    dsimp only at *
    generalize takeQ l wIs r1=t at *
    obtain ⟨tb,r2⟩:=t
    dsimp only at *
    cases tb with
    | true =>
     rw [if_pos rfl]
     have hN1:=rneed_l l (by have:=hl.len;omega) en r2 q2 wNull
     have q3:=needQ_len (s:=wNull) q2 (by decide)
     have hN2:=rneed_l l (by have:=hl.len;omega) en (needQ l wNull r2) q3 wShut
     exact rexpr_is l hl en at_ hlt _ ⟨by omega,by omega⟩ h1 e r1 r2 _ _ ih1 hT hN1 hN2
    | false =>
     rw [if_neg Bool.false_ne_true]
     obtain ⟨r3,hr3⟩:∃ r3:RS,r3=if signQ (txQ l r2)=0 then ⟨r2.at_,true⟩ else needQ l (wAnd7.getD (signQ (txQ l r2) - 5).toNat ⟨#[]⟩) r2:=⟨_,rfl⟩
     have q3:r3.at_≤l.length:=by
      rw [hr3]
      split
      ·exact q2
      ·obtain h3 | ⟨j,hj,h3⟩:=signK_one (txQ l r2) 7 (Nat.le_refl _)
       ·rename_i h4;exact absurd h3 h4
       ·refine needQ_len q2 ?_
        unfold signQ
        rw [h3,show (5 + (j:Int) - 5).toNat=j by omega]
        obtain rfl | rfl | rfl | rfl | rfl | rfl | rfl:j=0 ∨ j=1 ∨ j=2 ∨ j=3 ∨ j=4 ∨ j=5 ∨ j=6:=by omega
        all_goals decide
     rw [← hr3]
     have ih2:=ih r3 q3
     have q4:=exQ_len f q3
     have hN2:=rneed_l l (by have:=hl.len;omega) en (exQ l f r3).2 q4 wShut
     exact rexpr_bin l hl en at_ hlt _ ⟨by omega,by omega⟩ h1 e _ r1 r2 r3 _ _ ih1 hT hr3 q2 ih2 hN2
   ·rw [if_neg h1]
    rw [Bool.not_eq_true] at h1 h2
    have:=rexpr_leaf l hl en r hr (60 - ((f + 1:Nat):Int)) h1 h2
    cases hb:isVB (txQ l r) with
    | true=>rw [hb,if_pos rfl,if_pos rfl] at this;rw [if_pos rfl];exact this
    | false=>rw [hb,if_neg Bool.false_ne_true,if_neg Bool.false_ne_true] at this;rw [if_neg Bool.false_ne_true];exact this
end Go.Proofs.YtjdgejfhnfnmgaaGreatDoor.Ax
namespace Go.Proofs.YtjdgejfhnfnmgaaGreatDoor.Ax
open Go.RowKit
set_option linter.unusedSimpArgs false
attribute [local go_sem] ty3 ty4 ty9 ty5 ty26 ty24 ty29 ty27 ty54 ty22 ty25 ty31 ty77 ty43 ty69 ty101
set_option linter.unusedVariables false
set_option maxRecDepth 100000
theorem C.kill_nil (c:C):C.kill [] c=c:=by unfold C.kill;rw [C.ment_nil];rfl
theorem C.fit2_self (c:C):C.fit2 c c=c:=by
 cases c with
 | t z x =>
  cases x with
  | sl rows=>cases rows <;> (unfold C.fit2 C.fit;cases z <;> rfl)
  | _=>unfold C.fit2 C.fit;cases z <;> simp
 | _=>rfl
attribute [go_sem high] C.kill_nil C.fit2_self
set_option maxHeartbeats 16000000 in
theorem rwhere_yes (l:List Vl) (hl:GoodL l) (en:Int) (r r2 r3:RS) (hr:r.at_≤l.length) (c0 c1 c2 c3 c4 c5 c6 c7 c8 c9 c10 c11 c12 c13 c14 c15 c16 ca w0 w1 w2 w3 w4 w5 c24 c25:C) (hon:C.onlys [1000] [c0,c1,c2,c3,c4,c5,c6,c7,c8,c9,c10,c11,c12,c13,c14,c15,c16,w0,w1,w2,w3,w4,w5,c24,c25]=true)
  (h:takeQ l ⟨#[119,104,101,114,101]⟩ r=(true,r2)) (ke:Int) (ve:Vl) (ne:ByteArray) (ae:List Ex) (hx:exQ l 60 r2=(.mk ke ve ne ae,r3)) :
  SpIO Tryz.prog 74 [.one (.optr 1000 0)] [(1000,.var 69 (rdH l en r++[c0,c1,c2,c3,c4,c5,c6,c7,c8,c9,c10,c11,c12,c13,c14,c15,c16,ca,w0,w1,w2,w3,w4,w5,c24,c25]))] (.tup []) [(1000,.var 69 (rdH l en r3++[c0,c1,c2,c3,c4,c5,c6,c7,c8,c9,c10,c11,c12,c13,c14,c15,c16,.t true (.lit (.bool false)),.t true (.lit (.int .i64 ke)),.t true (.lit (.int .i64 ve.k)),.t true (.lit (.int .i64 ve.n)),.t true (.lit (.string ve.s)),.t true (.lit (.string ne)),.t true (.sl (ae.map rE)),c24,c25]))] [1000]:=by
 have hT:=rtake_l l (by have:=hl.len;omega) en r hr ⟨#[119,104,101,114,101]⟩
 have q2:=takeQ_len (s:=⟨#[119,104,101,114,101]⟩) hr (by decide)
 rw [h] at hT q2
 have hE:=rexpr_l l hl en 60 (Nat.le_refl _) r2 q2
 rw [hx] at hE
 simp only [C.onlys,Bool.and_eq_true] at hon
 obtain ⟨o0,o1,o2,o3,o4,o5,o6,o7,o8,o9,o10,o11,o12,o13,o14,o15,o16,o17,o18,o19,o20,o21,o22,o23,o24,_⟩:=hon
 obtain ⟨at_,bad⟩:=r
 obtain ⟨at2,bad2⟩:=r2
 obtain ⟨at3,bad3⟩:=r3
 unfold vE at hE
 unfold rdH at hT hE ⊢
 dsimp only at hT hE ⊢
 rw [rE_mk,show (60 - ((60:Nat):Int))=0 from rfl] at hE
 (refine ei_ Tryz.func74 Tryz.ntmps74 Tryz.results74 fun X hX=>?_)
 refine au_ an0 ?_
 (refine rn_ 0 an0 fun K hK=>?_;refine rx_ an0 ?_;refine lk_ 1000 an0 (hT) ?_;refine rx_ an0 ?_;refine rwr_nil (hK _ ?_);clear hK K)
 refine au_ an0 ?_
 (refine rn_ 0 an0 fun K hK=>?_;refine rx_ an0 ?_;refine lk_ 1000 an0 (hE) ?_;refine rx_ an0 ?_;refine rwr_nil (hK _ ?_);clear hK K)
 refine au_ an0 ?_
 exact oi_ (an4 (an7 o0 o1 o2 o3 o4 o5 o6) (an7 o7 o8 o9 o10 o11 o12 o13) (an7 o14 o15 o16 o17 o18 o19 o20) (an4 o21 o22 o23 o24)) (.inr rfl)
end Go.Proofs.YtjdgejfhnfnmgaaGreatDoor.Ax
namespace Go.Proofs.YtjdgejfhnfnmgaaGreatDoor.Ax
open Go.RowKit Go.Sort
set_option linter.unusedSimpArgs false
attribute [local go_sem] ty3 ty4 ty9 ty5 ty26 ty24 ty29 ty27 ty54 ty22 ty25 ty31 ty77 ty43 ty67 ty65
set_option linter.unusedVariables false
set_option maxRecDepth 100000
attribute [local go_sem ↓] C.fit2_self C.kill_nil
def cmC (c:Cm):List C:=[.t true (.lit (.int .i64 c.k)),.t true (.lit (.string c.name)),.t true (.lit (.string c.other)),.t true (.lit (.string c.column)),.t true (.sl (rCs c.cols)),.t true (.lit (.int .i64 c.ty)),.t true (.lit (.int .i64 c.v.k)),.t true (.lit (.int .i64 c.v.n)),.t true (.lit (.string c.v.s)),.t true (.sl (rVs c.vals)),.t true (.sl (rS c.fields)),.t true (.lit (.int .i64 c.ex.k)),.t true (.lit (.int .i64 c.ex.vk.k)),.t true (.lit (.int .i64 c.ex.vk.n)),.t true (.lit (.string c.ex.vk.s)),.t true (.lit (.string c.ex.nm)),.t true (.sl (c.ex.ar.map rE)),.t true (.lit (.bool c.all)),.t true (.lit (.int .i64 c.wh.k)),.t true (.lit (.int .i64 c.wh.vk.k)),.t true (.lit (.int .i64 c.wh.vk.n)),.t true (.lit (.string c.wh.vk.s)),.t true (.lit (.string c.wh.nm)),.t true (.sl (c.wh.ar.map rE)),.t true (.lit (.string c.order)),.t true (.lit (.int .i64 c.limit))]
set_option maxHeartbeats 16000000 in
theorem pwhere_q (l:List Vl) (hl:GoodL l) (en:Int) (k:Nat) (c0 c1 c2 c3 c4 c5 c6 c7 c8 c9 c10 c11 c12 c13 c14 c15 c16 c24 c25:C) (hon:C.onlys [1000] [c0,c1,c2,c3,c4,c5,c6,c7,c8,c9,c10,c11,c12,c13,c14,c15,c16,c24,c25]=true) :
  SpQ Tryz.prog 117 [.one (.optr 1000 0)] [(1000,.var 67 ([.t false (.sl (rVs l)),.t false (.lit (.int .i64 k)),.t false (.lit (.int .i64 en))]++[c0,c1,c2,c3,c4,c5,c6,c7,c8,c9,c10,c11,c12,c13,c14,c15,c16,.t false (.lit (.bool false)),.t false (.lit (.int .i64 0)),.t false (.lit (.int .i64 0)),.t false (.lit (.int .i64 0)),.t false (.lit (.string .empty)),.t false (.lit (.string .empty)),.nil,c24,c25]))]
   (whereR l k) (fun _=>.tup []) (fun w k2=>[(1000,.var 67 ([.t false (.sl (rVs l)),.t false (.lit (.int .i64 k2)),.t false (.lit (.int .i64 en))]++[c0,c1,c2,c3,c4,c5,c6,c7,c8,c9,c10,c11,c12,c13,c14,c15,c16,.t true (.lit (.bool w.1)),.t true (.lit (.int .i64 w.2.k)),.t true (.lit (.int .i64 w.2.vk.k)),.t true (.lit (.int .i64 w.2.vk.n)),.t true (.lit (.string w.2.vk.s)),.t true (.lit (.string w.2.nm)),.t true (.sl (w.2.ar.map rE)),c24,c25]))]) [1000] (chP l en):=by
 have hll:=hl.len
 simp only [C.onlys,Bool.and_eq_true] at hon
 obtain ⟨o0,o1,o2,o3,o4,o5,o6,o7,o8,o9,o10,o11,o12,o13,o14,o15,o16,o23,o24,_⟩:=hon
 generalize hr:whereR l k=r
 unfold whereR at hr
 (refine eq_ Tryz.func117 Tryz.ntmps117 Tryz.results117 fun X hX hpq=>?_)
 refine gs_ ?_
 refine au_ an0 ?_
 (have hT:=ptake_l l (by omega) en (k) (⟨#[119,104,101,114,101]⟩);rcases hb:takeB l (⟨#[119,104,101,114,101]⟩) (k) with _ | _ <;> (first | rw [takeK_f hb,hb] at hT | rw [takeK_t hb,hb] at hT) <;> (rw [hb] at hr;dsimp only [cond] at hr;unfold paH at hT;refine rn_ 0 an0 fun K hK=>?_;refine rx_ an0 ?_;refine lk_ 1000 an0 hT ?_;refine rx_ an0 ?_;refine rwr_nil (hK _ ?_);clear hK K hT hb))
 ·refine au_ an0 ?_
  (subst hr;refine okq_ (by intro c h;cases h) ?_;(try simp only [vE_eta,vV,vCol,cmC,zE,zCm,Ex.k,Ex.vk,Ex.nm,Ex.ar,List.map_cons,List.map_nil,rE_eta,Vl.zero]))
  exact oj_ (an3 (an7 o0 o1 o2 o3 o4 o5 o6) (an7 o7 o8 o9 o10 o11 o12 o13) (an5 o14 o15 o16 o23 o24)) (.inr rfl)
 ·refine au_ an0 ?_
  (rcases hq:exR l 60 (k + 1) with ⟨e,k3⟩ | ⟨k3⟩;rotate_left;(focus (have hC:=pexpr0 l hl en (k + 1);rw [hq] at hr hC;subst hr;have hC:=SpR.bad hC;have hpn:=hpq _ rfl;refine rn_ 0 an0 fun K hK=>?_;refine rx_ an0 ?_;exact pn_ 1000 an0 hC hpn));have hC:=pexpr0 l hl en (k + 1);rw [hq] at hr hC;(try dsimp only [PR.bind] at hr);have hC:=SpR.ok hC;(try simp only [vE_eta,vV,vCol] at hC);refine rn_ 0 an0 fun K hK=>?_;refine rx_ an0 ?_;refine lk_ 1000 an0 hC ?_;refine rx_ an0 ?_;refine rwr_nil (hK _ ?_);clear hC hK K)
  refine au_ an0 ?_
  (subst hr;refine okq_ (by intro c h;cases h) ?_;(try simp only [vE_eta,vV,vCol,cmC,zE,zCm,Ex.k,Ex.vk,Ex.nm,Ex.ar,List.map_cons,List.map_nil,rE_eta,Vl.zero]))
  exact oj_ (an3 (an7 o0 o1 o2 o3 o4 o5 o6) (an7 o7 o8 o9 o10 o11 o12 o13) (an5 o14 o15 o16 o23 o24)) (.inr rfl)
end Go.Proofs.YtjdgejfhnfnmgaaGreatDoor.Ax
