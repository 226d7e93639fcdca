/-  -/
import Derived.Test.YtjdgejfhnfnmgaaGreatDoorP20
import Derived.Test.YtjdgejfhnfnmgaaGreatDoorP28
import Derived.Test.YtjdgejfhnfnmgaaGreatDoorP24
import Derived.Test.YtjdgejfhnfnmgaaGreatDoorP17
import Derived.Test.YtjdgejfhnfnmgaaGreatDoorP13
namespace Go.Proofs.YtjdgejfhnfnmgaaGreatDoor.Ax
open Go.RowKit Go.Sort
set_option linter.unusedSimpArgs false
attribute [local go_sem] ty3 ty4 ty9 ty5 ty26 ty24 ty29 ty27 ty54 ty22 ty25 ty31 ty77 ty43 ty67 ty65
set_option linter.unusedVariables false
set_option maxRecDepth 100000
theorem wordR_lt {l:List Vl} {L:List ByteArray} {k:Nat} {i:Int} {k2:Nat} (h:wordR l L k=.ok i k2):0≤i∧i < L.length:=by
 unfold wordR at h
 cases hd:decide (oneP l k L 0=-1) with
 | true=>rw [hd] at h;cases h
 | false =>
  rw [hd] at h
  cases h
  have hd:=of_decide_eq_false hd
  refine ⟨oneP_ge hd,?_⟩
  rcases oneP_le (l:=l) (k:=k) (L:=L) (i:=0) with ⟨h1,h2⟩ | h1
  ·omega
  ·omega
set_option maxHeartbeats 32000000 in
theorem palter_q (l:List Vl) (hl:GoodL l) (en:Int) (k:Nat) :
  SpQ Tryz.prog 112 [.one (.optr 1000 0)] [(1000,.var 67 ([.t false (.sl (rVs l)),.t false (.lit (.int .i64 k)),.t false (.lit (.int .i64 en))]++zC))]
   (alterR l k) (fun _=>.tup []) (fun c k2=>[(1000,.var 67 ([.t false (.sl (rVs l)),.t false (.lit (.int .i64 k2)),.t false (.lit (.int .i64 en))]++cmC c))]) [1000] (chP l en):=by
 have hll:=hl.len
 generalize hr:alterR l k=r
 unfold alterR at hr
 unfold zC
 (refine eq_ Tryz.func112 Tryz.ntmps112 Tryz.results112 fun X hX hpq=>?_)
 refine gs_ ?_
 (rcases hq:needR l ⟨#[116,97,98,108,101]⟩ k with ⟨u,k1⟩ | ⟨k1⟩;rotate_left;(focus (have hC:=pneed_r l hl en k ⟨#[116,97,98,108,101]⟩;rw [hq] at hr hC;subst hr;have hC:=SpR.bad hC;have hpn:=hpq _ rfl;refine rn_ 0 an0 fun K hK=>?_;refine rx_ an0 ?_;refine rwr_melt 4 4 ?_;exact pn_ 1000 an0 hC hpn));have hC:=pneed_r l hl en k ⟨#[116,97,98,108,101]⟩;rw [hq] at hr hC;(try dsimp only [PR.bind] at hr);have hC:=SpR.ok hC;(try simp only [vE_eta,vV,vCol] at hC);refine rn_ 0 an0 fun K hK=>?_;refine rx_ an0 ?_;refine rwr_melt 4 4 ?_;refine lk_ 1000 an0 hC ?_;refine rx_ an0 ?_;refine rwr_nil (hK _ ?_);clear hC hK K)
 refine gs_ ?_
 (rcases hq:nameR l k1 with ⟨nm,k2⟩ | ⟨k2⟩;rotate_left;(focus (have hC:=pname_r l hl en k1;rw [hq] at hr hC;subst hr;have hC:=SpR.bad hC;have hpn:=hpq _ rfl;refine rn_ 0 an0 fun K hK=>?_;refine rx_ an0 ?_;exact pn_ 1000 an0 hC hpn));have hC:=pname_r l hl en k1;rw [hq] at hr hC;(try dsimp only [PR.bind] at hr);have hC:=SpR.ok hC;(try simp only [vE_eta,vV,vCol] at hC);refine rn_ 0 an0 fun K hK=>?_;refine rx_ an0 ?_;refine lk_ 1000 an0 hC ?_;refine rx_ an0 ?_;refine rwr_nil (hK _ ?_);clear hC hK K)
 refine gs_ ?_
 (rcases hq:wordR l [⟨#[97,100,100]⟩,⟨#[100,114,111,112]⟩,⟨#[114,101,110,97,109,101]⟩,⟨#[114,101,116,121,112,101]⟩] k2 with ⟨i,k3⟩ | ⟨k3⟩;rotate_left;(focus (have hC:=pone_r l hl en k2 [⟨#[97,100,100]⟩,⟨#[100,114,111,112]⟩,⟨#[114,101,110,97,109,101]⟩,⟨#[114,101,116,121,112,101]⟩] (by decide);rw [hq] at hr hC;subst hr;have hC:=SpR.bad hC;have hpn:=hpq _ rfl;refine rn_ 0 an0 fun K hK=>?_;refine rx_ an0 ?_;refine rwr_melt 13 13 ?_;exact pn_ 1000 an0 hC hpn));have hC:=pone_r l hl en k2 [⟨#[97,100,100]⟩,⟨#[100,114,111,112]⟩,⟨#[114,101,110,97,109,101]⟩,⟨#[114,101,116,121,112,101]⟩] (by decide);rw [hq] at hr hC;(try dsimp only [PR.bind] at hr);have hC:=SpR.ok hC;(try simp only [vE_eta,vV,vCol] at hC);refine rn_ 0 an0 fun K hK=>?_;refine rx_ an0 ?_;refine rwr_melt 13 13 ?_;refine lk_ 1000 an0 hC ?_;refine rx_ an0 ?_;refine rwr_nil (hK _ ?_);clear hC hK K)
 have h4:=wordR_lt hq
 have h4:0≤i∧i < 4:=h4
 cases c0:(i==0) with
 | true =>
  rw [c0] at hr
  dsimp only [cond] at hr
  refine au_ c0 ?_
  (rcases hq:colR l k3 with ⟨x,k4⟩ | ⟨k4⟩;rotate_left;(focus (have hC:=pcolumn_r l hl en k3;rw [hq] at hr hC;subst hr;have hC:=SpR.bad hC;have hpn:=hpq _ rfl;refine rn_ 0 an0 fun K hK=>?_;refine rx_ an0 ?_;exact pn_ 1000 an0 hC hpn));have hC:=pcolumn_r l hl en k3;rw [hq] at hr hC;(try dsimp only [PR.bind] at hr);have hC:=SpR.ok hC;(try simp only [vE_eta,vV,vCol] at hC);refine rn_ 0 an0 fun K hK=>?_;refine rx_ an0 ?_;refine lk_ 1000 an0 hC ?_;refine rx_ an0 ?_;refine rwr_nil (hK _ ?_);clear hC hK K)
  refine gs_ ?_
  (rcases hq:needR l ⟨#[100,101,102,97,117,108,116]⟩ k4 with ⟨u2,k5⟩ | ⟨k5⟩;rotate_left;(focus (have hC:=pneed_r l hl en k4 ⟨#[100,101,102,97,117,108,116]⟩;rw [hq] at hr hC;subst hr;have hC:=SpR.bad hC;have hpn:=hpq _ rfl;refine rn_ 0 an0 fun K hK=>?_;refine rx_ an0 ?_;refine rwr_melt 20 20 ?_;exact pn_ 1000 an0 hC hpn));have hC:=pneed_r l hl en k4 ⟨#[100,101,102,97,117,108,116]⟩;rw [hq] at hr hC;(try dsimp only [PR.bind] at hr);have hC:=SpR.ok hC;(try simp only [vE_eta,vV,vCol] at hC);refine rn_ 0 an0 fun K hK=>?_;refine rx_ an0 ?_;refine rwr_melt 20 20 ?_;refine lk_ 1000 an0 hC ?_;refine rx_ an0 ?_;refine rwr_nil (hK _ ?_);clear hC hK K)
  refine au_ an0 ?_
  (rcases hq:mustR l k5 with ⟨v,k6⟩ | ⟨k6⟩;rotate_left;(focus (have hC:=pmust_r l hl en k5;rw [hq] at hr hC;subst hr;have hC:=SpR.bad hC;have hpn:=hpq _ rfl;refine rn_ 0 an0 fun K hK=>?_;refine rx_ an0 ?_;exact pn_ 1000 an0 hC hpn));have hC:=pmust_r l hl en k5;rw [hq] at hr hC;(try dsimp only [PR.bind] at hr);have hC:=SpR.ok hC;(try simp only [vE_eta,vV,vCol] at hC);refine rn_ 0 an0 fun K hK=>?_;refine rx_ an0 ?_;refine lk_ 1000 an0 hC ?_;refine rx_ an0 ?_;refine rwr_nil (hK _ ?_);clear hC hK K)
  refine au_ an0 ?_
  (subst hr;refine okq_ (by intro c h;cases h) ?_;(try simp only [vE_eta,vV,vCol,cmC,zE,zCm,Ex.k,Ex.vk,Ex.nm,Ex.ar,List.map_cons,List.map_nil,rE_eta,Vl.zero]))
  exact oj_ an0 (.inr rfl)
 | false =>
  rw [c0] at hr
  dsimp only [cond] at hr
  cases c1:(i==1) with
  | true =>
   rw [c1] at hr
   dsimp only [cond] at hr
   refine au_ (an2 c0 c1) ?_
   (rcases hq:nameR l k3 with ⟨cl,k4⟩ | ⟨k4⟩;rotate_left;(focus (have hC:=pname_r l hl en k3;rw [hq] at hr hC;subst hr;have hC:=SpR.bad hC;have hpn:=hpq _ rfl;refine rn_ 0 an0 fun K hK=>?_;refine rx_ an0 ?_;exact pn_ 1000 an0 hC hpn));have hC:=pname_r l hl en k3;rw [hq] at hr hC;(try dsimp only [PR.bind] at hr);have hC:=SpR.ok hC;(try simp only [vE_eta,vV,vCol] at hC);refine rn_ 0 an0 fun K hK=>?_;refine rx_ an0 ?_;refine lk_ 1000 an0 hC ?_;refine rx_ an0 ?_;refine rwr_nil (hK _ ?_);clear hC hK K)
   refine au_ an0 ?_
   (subst hr;refine okq_ (by intro c h;cases h) ?_;(try simp only [vE_eta,vV,vCol,cmC,zE,zCm,Ex.k,Ex.vk,Ex.nm,Ex.ar,List.map_cons,List.map_nil,rE_eta,Vl.zero]))
   exact oj_ an0 (.inr rfl)
  | false =>
   rw [c1] at hr
   dsimp only [cond] at hr
   cases c2:(i==2) with
   | true =>
    rw [c2] at hr
    dsimp only [cond] at hr
    refine au_ (an3 c0 c1 c2) ?_
    (have hT:=ptake_l l (by omega) en (k3) (⟨#[116,111]⟩);rcases hb:takeB l (⟨#[116,111]⟩) (k3) with _ | _ <;> (first | rw [takeK_f hb,hb] at hT | rw [takeK_t hb,hb] at hT) <;> (rw [hb] at hr;dsimp only [cond] at hr;unfold paH at hT;refine rn_ 0 an0 fun K hK=>?_;refine rx_ an0 ?_;refine lk_ 1000 an0 hT ?_;refine rx_ an0 ?_;refine rwr_nil (hK _ ?_);clear hK K hT hb))
    ·refine au_ an0 ?_
     (rcases hq:nameR l k3 with ⟨cl,k4⟩ | ⟨k4⟩;rotate_left;(focus (have hC:=pname_r l hl en k3;rw [hq] at hr hC;subst hr;have hC:=SpR.bad hC;have hpn:=hpq _ rfl;refine rn_ 0 an0 fun K hK=>?_;refine rx_ an0 ?_;exact pn_ 1000 an0 hC hpn));have hC:=pname_r l hl en k3;rw [hq] at hr hC;(try dsimp only [PR.bind] at hr);have hC:=SpR.ok hC;(try simp only [vE_eta,vV,vCol] at hC);refine rn_ 0 an0 fun K hK=>?_;refine rx_ an0 ?_;refine lk_ 1000 an0 hC ?_;refine rx_ an0 ?_;refine rwr_nil (hK _ ?_);clear hC hK K)
     refine gs_ ?_
     (rcases hq:needR l ⟨#[116,111]⟩ k4 with ⟨u2,k5⟩ | ⟨k5⟩;rotate_left;(focus (have hC:=pneed_r l hl en k4 ⟨#[116,111]⟩;rw [hq] at hr hC;subst hr;have hC:=SpR.bad hC;have hpn:=hpq _ rfl;refine rn_ 0 an0 fun K hK=>?_;refine rx_ an0 ?_;refine rwr_melt 76 76 ?_;exact pn_ 1000 an0 hC hpn));have hC:=pneed_r l hl en k4 ⟨#[116,111]⟩;rw [hq] at hr hC;(try dsimp only [PR.bind] at hr);have hC:=SpR.ok hC;(try simp only [vE_eta,vV,vCol] at hC);refine rn_ 0 an0 fun K hK=>?_;refine rx_ an0 ?_;refine rwr_melt 76 76 ?_;refine lk_ 1000 an0 hC ?_;refine rx_ an0 ?_;refine rwr_nil (hK _ ?_);clear hC hK K)
     refine gs_ ?_
     (rcases hq:nameR l k5 with ⟨ot,k6⟩ | ⟨k6⟩;rotate_left;(focus (have hC:=pname_r l hl en k5;rw [hq] at hr hC;subst hr;have hC:=SpR.bad hC;have hpn:=hpq _ rfl;refine rn_ 0 an0 fun K hK=>?_;refine rx_ an0 ?_;exact pn_ 1000 an0 hC hpn));have hC:=pname_r l hl en k5;rw [hq] at hr hC;(try dsimp only [PR.bind] at hr);have hC:=SpR.ok hC;(try simp only [vE_eta,vV,vCol] at hC);refine rn_ 0 an0 fun K hK=>?_;refine rx_ an0 ?_;refine lk_ 1000 an0 hC ?_;refine rx_ an0 ?_;refine rwr_nil (hK _ ?_);clear hC hK K)
     refine au_ an0 ?_
     (subst hr;refine okq_ (by intro c h;cases h) ?_;(try simp only [vE_eta,vV,vCol,cmC,zE,zCm,Ex.k,Ex.vk,Ex.nm,Ex.ar,List.map_cons,List.map_nil,rE_eta,Vl.zero]))
     exact oj_ an0 (.inr rfl)
    ·refine au_ an0 ?_
     (rcases hq:nameR l (k3 + 1) with ⟨ot,k4⟩ | ⟨k4⟩;rotate_left;(focus (have hC:=pname_r l hl en (k3 + 1);rw [hq] at hr hC;subst hr;have hC:=SpR.bad hC;have hpn:=hpq _ rfl;refine rn_ 0 an0 fun K hK=>?_;refine rx_ an0 ?_;exact pn_ 1000 an0 hC hpn));have hC:=pname_r l hl en (k3 + 1);rw [hq] at hr hC;(try dsimp only [PR.bind] at hr);have hC:=SpR.ok hC;(try simp only [vE_eta,vV,vCol] at hC);refine rn_ 0 an0 fun K hK=>?_;refine rx_ an0 ?_;refine lk_ 1000 an0 hC ?_;refine rx_ an0 ?_;refine rwr_nil (hK _ ?_);clear hC hK K)
     refine au_ an0 ?_
     (subst hr;refine okq_ (by intro c h;cases h) ?_;(try simp only [vE_eta,vV,vCol,cmC,zE,zCm,Ex.k,Ex.vk,Ex.nm,Ex.ar,List.map_cons,List.map_nil,rE_eta,Vl.zero]))
     exact oj_ an0 (.inr rfl)
   | false =>
    rw [c2] at hr
    dsimp only [cond] at hr
    have c3:(i==3)=true:=by
     simp only [beq_eq_false_iff_ne,ne_eq,beq_iff_eq] at *
     omega
    refine au_ (an4 c0 c1 c2 c3) ?_
    (rcases hq:nameR l k3 with ⟨cl,k4⟩ | ⟨k4⟩;rotate_left;(focus (have hC:=pname_r l hl en k3;rw [hq] at hr hC;subst hr;have hC:=SpR.bad hC;have hpn:=hpq _ rfl;refine rn_ 0 an0 fun K hK=>?_;refine rx_ an0 ?_;exact pn_ 1000 an0 hC hpn));have hC:=pname_r l hl en k3;rw [hq] at hr hC;(try dsimp only [PR.bind] at hr);have hC:=SpR.ok hC;(try simp only [vE_eta,vV,vCol] at hC);refine rn_ 0 an0 fun K hK=>?_;refine rx_ an0 ?_;refine lk_ 1000 an0 hC ?_;refine rx_ an0 ?_;refine rwr_nil (hK _ ?_);clear hC hK K)
    refine gs_ ?_
    (rcases hq:typR l k4 with ⟨ty,k5⟩ | ⟨k5⟩;rotate_left;(focus (have hC:=ptyp_r l hl en k4;rw [hq] at hr hC;subst hr;have hC:=SpR.bad hC;have hpn:=hpq _ rfl;refine rn_ 0 an0 fun K hK=>?_;refine rx_ an0 ?_;exact pn_ 1000 an0 hC hpn));have hC:=ptyp_r l hl en k4;rw [hq] at hr hC;(try dsimp only [PR.bind] at hr);have hC:=SpR.ok hC;(try simp only [vE_eta,vV,vCol] at hC);refine rn_ 0 an0 fun K hK=>?_;refine rx_ an0 ?_;refine lk_ 1000 an0 hC ?_;refine rx_ an0 ?_;refine rwr_nil (hK _ ?_);clear hC hK K)
    refine au_ an0 ?_
    (subst hr;refine okq_ (by intro c h;cases h) ?_;(try simp only [vE_eta,vV,vCol,cmC,zE,zCm,Ex.k,Ex.vk,Ex.nm,Ex.ar,List.map_cons,List.map_nil,rE_eta,Vl.zero]))
    exact oj_ an0 (.inr rfl)
end Go.Proofs.YtjdgejfhnfnmgaaGreatDoor.Ax
namespace Go.Proofs.YtjdgejfhnfnmgaaGreatDoor.Ax
open Go.RowKit Go.Sort
set_option linter.unusedSimpArgs false
attribute [local go_sem] ty3 ty4 ty9 ty5 ty26 ty24 ty29 ty27 ty54 ty22 ty25 ty31 ty77 ty43 ty67 ty65 wOpen wShut
set_option linter.unusedVariables false
set_option maxRecDepth 100000
def crC (k:Int) (nm:ByteArray) (c4 c9:C):List C:=[.t true (.lit (.int .i64 k)),.t true (.lit (.string nm)),.t false (.lit (.string .empty)),.t false (.lit (.string .empty)),c4,.t false (.lit (.int .i64 0)),.t false (.lit (.int .i64 0)),.t false (.lit (.int .i64 0)),.t false (.lit (.string .empty)),c9,.nil,.t false (.lit (.int .i64 0)),.t false (.lit (.int .i64 0)),.t false (.lit (.int .i64 0)),.t false (.lit (.string .empty)),.t false (.lit (.string .empty)),.nil,.t false (.lit (.bool false)),.t false (.lit (.int .i64 0)),.t false (.lit (.int .i64 0)),.t false (.lit (.int .i64 0)),.t false (.lit (.string .empty)),.t false (.lit (.string .empty)),.nil,.t false (.lit (.string .empty)),.t false (.lit (.int .i64 0))]
attribute [local go_sem] crC
theorem SpQ.reout {P:Program} {α:Type} {r:PR α} {res:α→V} {outs:α→Nat→List (Nat × B)} {stays:List Nat} {f:FuncId} {args:List V} {ins:List (Nat × B)} {ch:Nat→List PanicEntry} (h:SpQ P f args ins r res outs stays ch) (σ:List (Nat × Nat)) (hok:∀ a k,(renOk σ && ((outs a k).map (·.1)).all (fun i=>(σ.map (·.1)).contains i) && stays.all (fun i=>decide (get i σ=some i)) && nodK (outs a k))=true) :
  SpQ P f args ins r (fun a=>(res a).ren σ) (fun a k=>renB σ (outs a k)) stays ch:=by
 cases r with
 | ok a k=>exact SpIO.reout h σ (hok a k)
 | bad k=>exact h
set_option maxHeartbeats 16000000 in
theorem pcol1_q0 (l:List Vl) (hl:GoodL l) (en:Int) (k:Nat) (nm:ByteArray) (R:List Col) (hR:R.length≤4000) :
  SpQ Tryz.prog 149 [.one (.optr 1001 0)] [(1000,.var 67 ([.t false (.sl (rVs l)),.t false (.lit (.int .i64 k)),.t false (.lit (.int .i64 en))]++crC 1 nm (.own 1002 R.length) .nil)),(1001,.var 65 [.optr 1000 0]),(1002,.arr 54 2 true (rCs R))]
   (colR l k) (fun _=>.tup []) (fun c k2=>[(1000,.var 67 ([.t false (.sl (rVs l)),.t false (.lit (.int .i64 k2)),.t false (.lit (.int .i64 en))]++crC 1 nm (.own 12 (R.length + 1)) .nil)),(1001,.var 65 [.optr 1000 0]),(12,.arr 54 2 true (rCs R++[[.lit (.string c.name),.lit (.int .i64 c.ty)]]))]) [1000,1001] (chP l en):=by
 have hll:=hl.len
 have h1:R.length + 1≤maxLen:=by unfold maxLen;omega
 have h2:(R.length + 1) * 24≤140737488355328:=by omega
 generalize hr:colR l k=r
 (refine eq_ Tryz.func149 Tryz.ntmps149 Tryz.results149 fun X hX hpq=>?_)
 refine gs_ ?_
 (rcases hq:colR l k with ⟨c,k2⟩ | ⟨k2⟩;rotate_left;(focus (have hC:=pcolumn_r l hl en k;rw [hq] at hr hC;subst hr;have hC:=SpR.bad hC;have hpn:=hpq _ rfl;refine rn_ 0 an0 fun K hK=>?_;refine rx_ an0 ?_;exact pn_ 1000 an0 hC hpn));have hC:=pcolumn_r l hl en k;rw [hq] at hr hC;(try dsimp only [PR.bind] at hr);have hC:=SpR.ok hC;(try simp only [vE_eta,vV,vCol] at hC);refine rn_ 0 an0 fun K hK=>?_;refine rx_ an0 ?_;refine lk_ 1000 an0 hC ?_;refine rx_ an0 ?_;refine rwr_nil (hK _ ?_);clear hC hK K)
 refine au_ (an4 litC_ lenC_ h1 h2) ?_
 (subst hr;refine okq_ (by intro c h;cases h) ?_;(try simp only [vE_eta,vV,vCol,Ex.k,Ex.vk,Ex.nm,Ex.ar,List.map_cons,List.map_nil,rE_eta,Vl.zero]))
 exact oj_ (an2 litC_ lenC_) (.inr rfl)
theorem pcol1_q (l:List Vl) (hl:GoodL l) (en:Int) (k:Nat) (nm:ByteArray) (R:List Col) (hR:R.length≤4000) :
  SpQ Tryz.prog 149 [.one (.optr 1001 0)] [(1000,.var 67 ([.t false (.sl (rVs l)),.t false (.lit (.int .i64 k)),.t false (.lit (.int .i64 en))]++crC 1 nm (.own 1002 R.length) .nil)),(1001,.var 65 [.optr 1000 0]),(1002,.arr 54 2 true (rCs R))]
   (colR l k) (fun _=>.tup []) (fun c k2=>[(1000,.var 67 ([.t false (.sl (rVs l)),.t false (.lit (.int .i64 k2)),.t false (.lit (.int .i64 en))]++crC 1 nm (.own 1002 (R.length + 1)) .nil)),(1001,.var 65 [.optr 1000 0]),(1002,.arr 54 2 true (rCs R++[[.lit (.string c.name),.lit (.int .i64 c.ty)]]))]) [1000,1001] (chP l en) :=
 (pcol1_q0 l hl en k nm R hR).reout [(1000,1000),(1001,1001),(12,1002)] fun _ _=>rfl
set_option maxHeartbeats 16000000 in
theorem plistC_q0 (l:List Vl) (hl:GoodL l) (en:Int) (k:Nat) (nm:ByteArray) :
  SpQ Tryz.prog 114 [.one (.optr 1000 0),.one (.fn 149 [.optr 1001 0])] [(1000,.var 67 ([.t false (.sl (rVs l)),.t false (.lit (.int .i64 k)),.t false (.lit (.int .i64 en))]++crC 1 nm (.own 1002 0) .nil)),(1001,.var 65 [.optr 1000 0]),(1002,.arr 54 2 true [])]
   (listR l (colR l) k) (fun _=>.tup []) (fun R k2=>[(1000,.var 67 ([.t false (.sl (rVs l)),.t false (.lit (.int .i64 k2)),.t false (.lit (.int .i64 en))]++crC 1 nm (.own 15 R.length) .nil)),(1001,.var 65 [.optr 1000 0]),(15,.arr 54 2 true (rCs R))]) [1000,1001] (chP l en):=by
 have hll:=hl.len
 generalize hr:listR l (colR l) k=r
 unfold listR someR at hr
 simp only [PR.bind_assoc] at hr
 (refine eq_ Tryz.func114 Tryz.ntmps114 Tryz.results114 fun X hX hpq=>?_)
 refine gs_ ?_
 (rcases hq:needR l wOpen k with ⟨u,k1⟩ | ⟨k1⟩;rotate_left;(focus (have hC:=pneed_r l hl en k wOpen;rw [hq] at hr hC;subst hr;have hC:=SpR.bad hC;have hpn:=hpq _ rfl;refine rn_ 0 an0 fun K hK=>?_;refine rx_ an0 ?_;refine rwr_melt 5 5 ?_;exact pn_ 1000 an0 hC hpn));have hC:=pneed_r l hl en k wOpen;rw [hq] at hr hC;(try dsimp only [PR.bind] at hr);have hC:=SpR.ok hC;(try simp only [vE_eta,vV,vCol] at hC);refine rn_ 0 an0 fun K hK=>?_;refine rx_ an0 ?_;refine rwr_melt 5 5 ?_;refine lk_ 1000 an0 hC ?_;refine rx_ an0 ?_;refine rwr_nil (hK _ ?_);clear hC hK K)
 refine gs_ ?_
 (rcases hq:colR l k1 with ⟨c,k2⟩ | ⟨k2⟩;rotate_left;(focus (have hC:=pcol1_q0 l hl en k1 nm [] (by decide);rw [hq] at hr hC;subst hr;have hC:=SpPan.ren (SpQ.bad hC) [(1000,1000),(1001,1001),(1002,1002),(12,15)] rfl;have hpn:=hpq _ rfl;refine rn_ 0 an0 fun K hK=>?_;refine rx_ an0 ?_;exact pio_ an0 hC hpn));have hC:=pcol1_q0 l hl en k1 nm [] (by decide);rw [hq] at hr hC;(try dsimp only [PR.bind] at hr);have hC:=SpQ.ok hC;(try simp only [vE_eta,vV,vCol] at hC);refine rn_ 0 an0 fun K hK=>?_;refine rx_ an0 ?_;refine qio_ an0 (SpIO.ren hC [(1000,1000),(1001,1001),(1002,1002),(12,15)] rfl) ?_;refine rx_ an0 ?_;refine rwr_nil (hK _ ?_);clear hC hK K)
 refine gs_ ?_
 refine cw_loop (fun m st=>∃ (R:List Col) (k:Nat),R.length + m≤4000∧l.length + 1≤k + m∧((moreR l (colR l) m k).bind fun a k=>(needR l wShut k).bind fun _ k=>.ok (R++a) k)=r∧st=⟨[(0,.one (.optr 1000 0)),(1,.one (.fn 149 [.optr 1001 0]))],[(1000,.var 67 ([.t false (.sl (rVs l)),.t false (.lit (.int .i64 k)),.t false (.lit (.int .i64 en))]++crC 1 nm (.own 15 R.length) .nil)),(1001,.var 65 [.optr 1000 0]),(15,.arr 54 2 true (rCs R))]⟩) (l.length + 1) ⟨_,⟨[c],k2,by simp;omega,by omega,hr,rfl⟩,le_⟩ ?_
 clear hr
 rintro m st ⟨R,k,hm1,hm2,hr,rfl⟩
 rw [moreR_eq l _ m k hm2] at hr
 refine au_ an0 ?_
 (have hT:=ptake_l l (by omega) en (k) (⟨#[44]⟩);rcases hb:takeB l (⟨#[44]⟩) (k) with _ | _ <;> (first | rw [takeK_f hb,hb] at hT | rw [takeK_t hb,hb] at hT) <;> (rw [hb] at hr;dsimp only [cond] at hr;unfold paH at hT;refine rn_ 0 an0 fun K hK=>?_;refine rx_ an0 ?_;refine lk_ 1000 an0 hT ?_;refine rx_ an0 ?_;refine rwr_nil (hK _ ?_);clear hK K hT))
 ·dsimp only [PR.bind] at hr
  simp only [List.append_nil] at hr
  refine gs_ ?_
  (rcases hq:needR l wShut k with ⟨u,k3⟩ | ⟨k3⟩;rotate_left;(focus (have hC:=pneed_r l hl en k wShut;rw [hq] at hr hC;subst hr;have hC:=SpR.bad hC;have hpn:=hpq _ rfl;refine rn_ 0 an0 fun K hK=>?_;refine rx_ an0 ?_;refine rwr_melt 14 14 ?_;exact pn_ 1000 an0 hC hpn));have hC:=pneed_r l hl en k wShut;rw [hq] at hr hC;(try dsimp only [PR.bind] at hr);have hC:=SpR.ok hC;(try simp only [vE_eta,vV,vCol] at hC);refine rn_ 0 an0 fun K hK=>?_;refine rx_ an0 ?_;refine rwr_melt 14 14 ?_;refine lk_ 1000 an0 hC ?_;refine rx_ an0 ?_;refine rwr_nil (hK _ ?_);clear hC hK K)
  refine au_ an0 ?_
  (subst hr;refine okq_ (by intro c h;cases h) ?_;(try simp only [vE_eta,vV,vCol,Ex.k,Ex.vk,Ex.nm,Ex.ar,List.map_cons,List.map_nil,rE_eta,Vl.zero]))
  exact oj_ (an2 litC_ lenC_) (.inr rfl)
 ·have hlt:=takeB_lt hb
  simp only [PR.bind_assoc] at hr
  refine gs_ ?_
  (rcases hq:colR l (k + 1) with ⟨c,k3⟩ | ⟨k3⟩;rotate_left;(focus (have hC:=pcol1_q l hl en (k + 1) nm R (by omega);rw [hq] at hr hC;subst hr;have hC:=SpPan.ren (SpQ.bad hC) [(1000,1000),(1001,1001),(1002,15)] rfl;have hpn:=hpq _ rfl;refine rn_ 0 an0 fun K hK=>?_;refine rx_ an0 ?_;exact pio_ an0 hC hpn));have hC:=pcol1_q l hl en (k + 1) nm R (by omega);rw [hq] at hr hC;(try dsimp only [PR.bind] at hr);have hC:=SpQ.ok hC;(try simp only [vE_eta,vV,vCol] at hC);refine rn_ 0 an0 fun K hK=>?_;refine rx_ an0 ?_;refine qio_ an0 (SpIO.ren hC [(1000,1000),(1001,1001),(1002,15)] rfl) ?_;refine rx_ an0 ?_;refine rwr_nil (hK _ ?_);clear hC hK K)
  have hge:=colR_ge hq
  have hr:((moreR l (colR l) (m - 1) k3).bind fun a k=>(needR l wShut k).bind fun _ k=>.ok (R++[c]++a) k)=r:=by
   simp only [List.append_assoc,List.cons_append,List.nil_append]
   exact hr
  refine gs_ ?_
  exact ⟨m - 1,by omega,_,⟨R++[c],k3,by simp;omega,by omega,hr,rfl⟩,le_⟩
theorem plistC_q (l:List Vl) (hl:GoodL l) (en:Int) (k:Nat) (nm:ByteArray) :
  SpQ Tryz.prog 114 [.one (.optr 1000 0),.one (.fn 149 [.optr 1001 0])] [(1000,.var 67 ([.t false (.sl (rVs l)),.t false (.lit (.int .i64 k)),.t false (.lit (.int .i64 en))]++crC 1 nm (.own 1002 0) .nil)),(1001,.var 65 [.optr 1000 0]),(1002,.arr 54 2 true [])]
   (listR l (colR l) k) (fun _=>.tup []) (fun R k2=>[(1000,.var 67 ([.t false (.sl (rVs l)),.t false (.lit (.int .i64 k2)),.t false (.lit (.int .i64 en))]++crC 1 nm (.own 1002 R.length) .nil)),(1001,.var 65 [.optr 1000 0]),(1002,.arr 54 2 true (rCs R))]) [1000,1001] (chP l en) :=
 (plistC_q0 l hl en k nm).reout [(1000,1000),(1001,1001),(15,1002)] fun _ _=>rfl
end Go.Proofs.YtjdgejfhnfnmgaaGreatDoor.Ax
namespace Go.Proofs.YtjdgejfhnfnmgaaGreatDoor.Ax
open Go.RowKit Go.Sort
set_option linter.unusedSimpArgs false
attribute [local go_sem] ty3 ty4 ty9 ty5 ty26 ty24 ty29 ty27 ty54 ty22 ty25 ty31 ty77 ty43 ty67 ty65 crC wOpen wShut
set_option linter.unusedVariables false
set_option maxRecDepth 100000
set_option maxHeartbeats 16000000 in
theorem pval1_q0 (l:List Vl) (hl:GoodL l) (en:Int) (k:Nat) (nm:ByteArray) (R:List Vl) (hR:R.length≤4000) :
  SpQ Tryz.prog 115 [.one (.optr 1001 0)] [(1000,.var 67 ([.t false (.sl (rVs l)),.t false (.lit (.int .i64 k)),.t false (.lit (.int .i64 en))]++crC 10 nm .nil (.own 1002 R.length))),(1001,.var 65 [.optr 1000 0]),(1002,.arr 24 3 true (rVs R))]
   (mustR l k) (fun _=>.tup []) (fun c k2=>[(1000,.var 67 ([.t false (.sl (rVs l)),.t false (.lit (.int .i64 k2)),.t false (.lit (.int .i64 en))]++crC 10 nm .nil (.own 12 (R.length + 1)))),(1001,.var 65 [.optr 1000 0]),(12,.arr 24 3 true (rVs R++[[.lit (.int .i64 c.k),.lit (.int .i64 c.n),.lit (.string c.s)]]))]) [1000,1001] (chP l en):=by
 have hll:=hl.len
 have h1:R.length + 1≤maxLen:=by unfold maxLen;omega
 have h2:(R.length + 1) * 32≤140737488355328:=by omega
 generalize hr:mustR l k=r
 (refine eq_ Tryz.func115 Tryz.ntmps115 Tryz.results115 fun X hX hpq=>?_)
 refine gs_ ?_
 (rcases hq:mustR l k with ⟨c,k2⟩ | ⟨k2⟩;rotate_left;(focus (have hC:=pmust_r l hl en k;rw [hq] at hr hC;subst hr;have hC:=SpR.bad hC;have hpn:=hpq _ rfl;refine rn_ 0 an0 fun K hK=>?_;refine rx_ an0 ?_;exact pn_ 1000 an0 hC hpn));have hC:=pmust_r l hl en k;rw [hq] at hr hC;(try dsimp only [PR.bind] at hr);have hC:=SpR.ok hC;(try simp only [vE_eta,vV,vCol] at hC);refine rn_ 0 an0 fun K hK=>?_;refine rx_ an0 ?_;refine lk_ 1000 an0 hC ?_;refine rx_ an0 ?_;refine rwr_nil (hK _ ?_);clear hC hK K)
 refine au_ (an4 litV_ lenV_ h1 h2) ?_
 (subst hr;refine okq_ (by intro c h;cases h) ?_;(try simp only [vE_eta,vV,vCol,Ex.k,Ex.vk,Ex.nm,Ex.ar,List.map_cons,List.map_nil,rE_eta,Vl.zero]))
 exact oj_ (an2 litV_ lenV_) (.inr rfl)
theorem pval1_q (l:List Vl) (hl:GoodL l) (en:Int) (k:Nat) (nm:ByteArray) (R:List Vl) (hR:R.length≤4000) :
  SpQ Tryz.prog 115 [.one (.optr 1001 0)] [(1000,.var 67 ([.t false (.sl (rVs l)),.t false (.lit (.int .i64 k)),.t false (.lit (.int .i64 en))]++crC 10 nm .nil (.own 1002 R.length))),(1001,.var 65 [.optr 1000 0]),(1002,.arr 24 3 true (rVs R))]
   (mustR l k) (fun _=>.tup []) (fun c k2=>[(1000,.var 67 ([.t false (.sl (rVs l)),.t false (.lit (.int .i64 k2)),.t false (.lit (.int .i64 en))]++crC 10 nm .nil (.own 1002 (R.length + 1)))),(1001,.var 65 [.optr 1000 0]),(1002,.arr 24 3 true (rVs R++[[.lit (.int .i64 c.k),.lit (.int .i64 c.n),.lit (.string c.s)]]))]) [1000,1001] (chP l en) :=
 (pval1_q0 l hl en k nm R hR).reout [(1000,1000),(1001,1001),(12,1002)] fun _ _=>rfl
set_option maxHeartbeats 16000000 in
theorem plistV_q0 (l:List Vl) (hl:GoodL l) (en:Int) (k:Nat) (nm:ByteArray) :
  SpQ Tryz.prog 114 [.one (.optr 1000 0),.one (.fn 115 [.optr 1001 0])] [(1000,.var 67 ([.t false (.sl (rVs l)),.t false (.lit (.int .i64 k)),.t false (.lit (.int .i64 en))]++crC 10 nm .nil (.own 1002 0))),(1001,.var 65 [.optr 1000 0]),(1002,.arr 24 3 true [])]
   (listR l (mustR l) k) (fun _=>.tup []) (fun R k2=>[(1000,.var 67 ([.t false (.sl (rVs l)),.t false (.lit (.int .i64 k2)),.t false (.lit (.int .i64 en))]++crC 10 nm .nil (.own 15 R.length))),(1001,.var 65 [.optr 1000 0]),(15,.arr 24 3 true (rVs R))]) [1000,1001] (chP l en):=by
 have hll:=hl.len
 generalize hr:listR l (mustR l) k=r
 unfold listR someR at hr
 simp only [PR.bind_assoc] at hr
 (refine eq_ Tryz.func114 Tryz.ntmps114 Tryz.results114 fun X hX hpq=>?_)
 refine gs_ ?_
 (rcases hq:needR l wOpen k with ⟨u,k1⟩ | ⟨k1⟩;rotate_left;(focus (have hC:=pneed_r l hl en k wOpen;rw [hq] at hr hC;subst hr;have hC:=SpR.bad hC;have hpn:=hpq _ rfl;refine rn_ 0 an0 fun K hK=>?_;refine rx_ an0 ?_;refine rwr_melt 5 5 ?_;exact pn_ 1000 an0 hC hpn));have hC:=pneed_r l hl en k wOpen;rw [hq] at hr hC;(try dsimp only [PR.bind] at hr);have hC:=SpR.ok hC;(try simp only [vE_eta,vV,vCol] at hC);refine rn_ 0 an0 fun K hK=>?_;refine rx_ an0 ?_;refine rwr_melt 5 5 ?_;refine lk_ 1000 an0 hC ?_;refine rx_ an0 ?_;refine rwr_nil (hK _ ?_);clear hC hK K)
 refine gs_ ?_
 (rcases hq:mustR l k1 with ⟨c,k2⟩ | ⟨k2⟩;rotate_left;(focus (have hC:=pval1_q0 l hl en k1 nm [] (by decide);rw [hq] at hr hC;subst hr;have hC:=SpPan.ren (SpQ.bad hC) [(1000,1000),(1001,1001),(1002,1002),(12,15)] rfl;have hpn:=hpq _ rfl;refine rn_ 0 an0 fun K hK=>?_;refine rx_ an0 ?_;exact pio_ an0 hC hpn));have hC:=pval1_q0 l hl en k1 nm [] (by decide);rw [hq] at hr hC;(try dsimp only [PR.bind] at hr);have hC:=SpQ.ok hC;(try simp only [vE_eta,vV,vCol] at hC);refine rn_ 0 an0 fun K hK=>?_;refine rx_ an0 ?_;refine qio_ an0 (SpIO.ren hC [(1000,1000),(1001,1001),(1002,1002),(12,15)] rfl) ?_;refine rx_ an0 ?_;refine rwr_nil (hK _ ?_);clear hC hK K)
 refine gs_ ?_
 refine cw_loop (fun m st=>∃ (R:List Vl) (k:Nat),R.length + m≤4000∧l.length + 1≤k + m∧((moreR l (mustR l) m k).bind fun a k=>(needR l wShut k).bind fun _ k=>.ok (R++a) k)=r∧st=⟨[(0,.one (.optr 1000 0)),(1,.one (.fn 115 [.optr 1001 0]))],[(1000,.var 67 ([.t false (.sl (rVs l)),.t false (.lit (.int .i64 k)),.t false (.lit (.int .i64 en))]++crC 10 nm .nil (.own 15 R.length))),(1001,.var 65 [.optr 1000 0]),(15,.arr 24 3 true (rVs R))]⟩) (l.length + 1) ⟨_,⟨[c],k2,by simp;omega,by omega,hr,rfl⟩,le_⟩ ?_
 clear hr
 rintro m st ⟨R,k,hm1,hm2,hr,rfl⟩
 rw [moreR_eq l _ m k hm2] at hr
 refine au_ an0 ?_
 (have hT:=ptake_l l (by omega) en (k) (⟨#[44]⟩);rcases hb:takeB l (⟨#[44]⟩) (k) with _ | _ <;> (first | rw [takeK_f hb,hb] at hT | rw [takeK_t hb,hb] at hT) <;> (rw [hb] at hr;dsimp only [cond] at hr;unfold paH at hT;refine rn_ 0 an0 fun K hK=>?_;refine rx_ an0 ?_;refine lk_ 1000 an0 hT ?_;refine rx_ an0 ?_;refine rwr_nil (hK _ ?_);clear hK K hT))
 ·dsimp only [PR.bind] at hr
  simp only [List.append_nil] at hr
  refine gs_ ?_
  (rcases hq:needR l wShut k with ⟨u,k3⟩ | ⟨k3⟩;rotate_left;(focus (have hC:=pneed_r l hl en k wShut;rw [hq] at hr hC;subst hr;have hC:=SpR.bad hC;have hpn:=hpq _ rfl;refine rn_ 0 an0 fun K hK=>?_;refine rx_ an0 ?_;refine rwr_melt 14 14 ?_;exact pn_ 1000 an0 hC hpn));have hC:=pneed_r l hl en k wShut;rw [hq] at hr hC;(try dsimp only [PR.bind] at hr);have hC:=SpR.ok hC;(try simp only [vE_eta,vV,vCol] at hC);refine rn_ 0 an0 fun K hK=>?_;refine rx_ an0 ?_;refine rwr_melt 14 14 ?_;refine lk_ 1000 an0 hC ?_;refine rx_ an0 ?_;refine rwr_nil (hK _ ?_);clear hC hK K)
  refine au_ an0 ?_
  (subst hr;refine okq_ (by intro c h;cases h) ?_;(try simp only [vE_eta,vV,vCol,Ex.k,Ex.vk,Ex.nm,Ex.ar,List.map_cons,List.map_nil,rE_eta,Vl.zero]))
  exact oj_ (an2 litV_ lenV_) (.inr rfl)
 ·have hlt:=takeB_lt hb
  simp only [PR.bind_assoc] at hr
  refine gs_ ?_
  (rcases hq:mustR l (k + 1) with ⟨c,k3⟩ | ⟨k3⟩;rotate_left;(focus (have hC:=pval1_q l hl en (k + 1) nm R (by omega);rw [hq] at hr hC;subst hr;have hC:=SpPan.ren (SpQ.bad hC) [(1000,1000),(1001,1001),(1002,15)] rfl;have hpn:=hpq _ rfl;refine rn_ 0 an0 fun K hK=>?_;refine rx_ an0 ?_;exact pio_ an0 hC hpn));have hC:=pval1_q l hl en (k + 1) nm R (by omega);rw [hq] at hr hC;(try dsimp only [PR.bind] at hr);have hC:=SpQ.ok hC;(try simp only [vE_eta,vV,vCol] at hC);refine rn_ 0 an0 fun K hK=>?_;refine rx_ an0 ?_;refine qio_ an0 (SpIO.ren hC [(1000,1000),(1001,1001),(1002,15)] rfl) ?_;refine rx_ an0 ?_;refine rwr_nil (hK _ ?_);clear hC hK K)
  have hge:=mustR_ge hq
  have hr:((moreR l (mustR l) (m - 1) k3).bind fun a k=>(needR l wShut k).bind fun _ k=>.ok (R++[c]++a) k)=r:=by
   simp only [List.append_assoc,List.cons_append,List.nil_append]
   exact hr
  refine gs_ ?_
  exact ⟨m - 1,by omega,_,⟨R++[c],k3,by simp;omega,by omega,hr,rfl⟩,le_⟩
theorem plistV_q (l:List Vl) (hl:GoodL l) (en:Int) (k:Nat) (nm:ByteArray) :
  SpQ Tryz.prog 114 [.one (.optr 1000 0),.one (.fn 115 [.optr 1001 0])] [(1000,.var 67 ([.t false (.sl (rVs l)),.t false (.lit (.int .i64 k)),.t false (.lit (.int .i64 en))]++crC 10 nm .nil (.own 1002 0))),(1001,.var 65 [.optr 1000 0]),(1002,.arr 24 3 true [])]
   (listR l (mustR l) k) (fun _=>.tup []) (fun R k2=>[(1000,.var 67 ([.t false (.sl (rVs l)),.t false (.lit (.int .i64 k2)),.t false (.lit (.int .i64 en))]++crC 10 nm .nil (.own 1002 R.length))),(1001,.var 65 [.optr 1000 0]),(1002,.arr 24 3 true (rVs R))]) [1000,1001] (chP l en) :=
 (plistV_q0 l hl en k nm).reout [(1000,1000),(1001,1001),(15,1002)] fun _ _=>rfl
end Go.Proofs.YtjdgejfhnfnmgaaGreatDoor.Ax
