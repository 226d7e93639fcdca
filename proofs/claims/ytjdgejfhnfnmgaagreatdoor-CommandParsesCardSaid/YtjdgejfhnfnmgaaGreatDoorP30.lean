/-  -/
import Derived.Test.YtjdgejfhnfnmgaaGreatDoorP20
import Derived.Test.YtjdgejfhnfnmgaaGreatDoorP29
namespace Go.Proofs.YtjdgejfhnfnmgaaGreatDoor
def brackR (l:List Vl) (k:Nat):PR ByteArray:=(needR l wOpen k).bind fun _ k=>(nameR l k).bind fun c k=>(needR l wShut k).bind fun _ k=>.ok c k
theorem createR_eq (l:List Vl) (k:Nat):createR l k=(wordR l [⟨#[116,97,98,108,101]⟩,⟨#[105,110,100,101,120]⟩] k).bind fun i k=>bif i==0 then (nameR l k).bind fun nm k=>(listR l (colR l) k).bind fun r k=>.ok { zCm with k:=1,name:=nm,cols:=r } k
 else (nameR l k).bind fun nm k=>(needR l ⟨#[111,110]⟩ k).bind fun _ k=>(nameR l k).bind fun o k=>(brackR l k).bind fun c k=>.ok { zCm with k:=8,name:=nm,other:=o,column:=c } k:=by
 unfold createR brackR
 simp only [PR.bind_assoc]
 congr 1
 funext i k
 cases (i==0) <;> rfl
end Go.Proofs.YtjdgejfhnfnmgaaGreatDoor
namespace Go.Proofs.YtjdgejfhnfnmgaaGreatDoor.Ax
open Go.RowKit Go.Sort
set_option linter.unusedSimpArgs false
attribute [local go_sem] ty3 ty4 ty9 ty5 ty26 ty24 ty29 ty27 ty54 ty22 ty25 ty31 ty77 ty43 ty67 ty65 crC wOpen wShut stopV
set_option linter.unusedVariables false
set_option maxRecDepth 100000
theorem gb_ {P:Program} {X:Cx} {st st2:St} {c:Code} {Q:Exit→St→Prop} (b j id:Nat) (e:TypeId) (size:Nat) {e0:TypeId} {cells:List C} (h:CW P X c Q st2) (hb:get b (st.turn [id] [id] []).bl=some (.var e0 cells):=by simp only [go_sem];exact rfl) (hj:cells[j]?=some .nil:=by rfl) (hs:growB st b e0 cells j id e size=st2:=by simp only [go_sem,growB,List.set_cons_succ,List.set_cons_zero];exact rfl) (hid0:id < X.n:=by rw [hX];decide):CW P X c Q st:=by
 subst hs
 exact cw_growb b j id e size hb hj h hid0
def ixC (nm o:ByteArray) (c3:C):List C:=[.t true (.lit (.int .i64 8)),.t true (.lit (.string nm)),.t true (.lit (.string o)),c3,.nil,.t false (.lit (.int .i64 0)),.t false (.lit (.int .i64 0)),.t false (.lit (.int .i64 0)),.t false (.lit (.string .empty)),.nil,.nil,.t false (.lit (.int .i64 0)),.t false (.lit (.int .i64 0)),.t false (.lit (.int .i64 0)),.t false (.lit (.string .empty)),.t false (.lit (.string .empty)),.nil,.t false (.lit (.bool false)),.t false (.lit (.int .i64 0)),.t false (.lit (.int .i64 0)),.t false (.lit (.int .i64 0)),.t false (.lit (.string .empty)),.t false (.lit (.string .empty)),.nil,.t false (.lit (.string .empty)),.t false (.lit (.int .i64 0))]
attribute [local go_sem] ixC
set_option maxHeartbeats 16000000 in
theorem pcol2_q (l:List Vl) (hl:GoodL l) (en:Int) (k:Nat) (nm o:ByteArray) :
  SpQ Tryz.prog 152 [.one (.optr 1001 0)] [(1000,.var 67 ([.t false (.sl (rVs l)),.t false (.lit (.int .i64 k)),.t false (.lit (.int .i64 en))]++ixC nm o (.t false (.lit (.string .empty))))),(1001,.var 65 [.optr 1000 0])]
   (nameR l k) (fun _=>.tup []) (fun c k2=>[(1000,.var 67 ([.t false (.sl (rVs l)),.t false (.lit (.int .i64 k2)),.t false (.lit (.int .i64 en))]++ixC nm o (.t true (.lit (.string c))))),(1001,.var 65 [.optr 1000 0])]) [1000,1001] (chP l en):=by
 have hll:=hl.len
 generalize hr:nameR l k=r
 (refine eq_ Tryz.func152 Tryz.ntmps152 Tryz.results152 fun X hX hpq=>?_)
 refine gs_ ?_
 (rcases hq:nameR l k with ⟨c,k2⟩ | ⟨k2⟩;rotate_left;(focus (have hC:=pname_r l hl en k;rw [hq] at hr hC;subst hr;have hC:=SpR.bad hC;have hpn:=hpq _ rfl;refine dr_ 0 an0 fun K hK=>?_;refine dx_ an0 ?_;refine dpn_ 1000 an0 hC hpn ?_;refine dx_ an0 ?_;refine de_ (hK _ ?_);clear hK K;refine gs_ ?_;first | exact cw_stop (t:=3) | exact outQ_stop (t:=3) | exact hs_stop (t:=3)));have hC:=pname_r l hl en k;rw [hq] at hr hC;(try dsimp only [PR.bind] at hr);have hC:=SpR.ok hC;(try simp only [vE_eta,vV,vCol] at hC);refine dr_ 0 an0 fun K hK=>?_;refine dx_ an0 ?_;refine dlk_ 1000 an0 hC ?_;refine dx_ an0 ?_;refine de_ (hK _ ?_);clear hC hK K)
 refine au_ an0 ?_
 (subst hr;refine okq_ (by intro c h;cases h) ?_;(try simp only [vE_eta,vV,vCol,Ex.k,Ex.vk,Ex.nm,Ex.ar,List.map_cons,List.map_nil,rE_eta,Vl.zero]))
 exact oj_ an0 (.inr rfl)
set_option maxHeartbeats 16000000 in
theorem plist2_q (l:List Vl) (hl:GoodL l) (en:Int) (k:Nat) (nm o:ByteArray) :
  SpQ Tryz.prog 151 [.one (.optr 1000 0),.one (.fn 152 [.optr 1001 0])] [(1000,.var 67 ([.t false (.sl (rVs l)),.t false (.lit (.int .i64 k)),.t false (.lit (.int .i64 en))]++ixC nm o (.t false (.lit (.string .empty))))),(1001,.var 65 [.optr 1000 0])]
   (brackR l k) (fun _=>.tup []) (fun c k2=>[(1000,.var 67 ([.t false (.sl (rVs l)),.t false (.lit (.int .i64 k2)),.t false (.lit (.int .i64 en))]++ixC nm o (.t true (.lit (.string c))))),(1001,.var 65 [.optr 1000 0])]) [1000,1001] (chP l en):=by
 have hll:=hl.len
 generalize hr:brackR l k=r
 unfold brackR at hr
 (refine eq_ Tryz.func151 Tryz.ntmps151 Tryz.results151 fun X hX hpq=>?_)
 refine gs_ ?_
 (rcases hq:needR l wOpen k with ⟨u,k1⟩ | ⟨k1⟩;rotate_left;(focus (have hC:=pneed_r l hl en k wOpen;rw [hq] at hr hC;subst hr;have hC:=SpR.bad hC;have hpn:=hpq _ rfl;refine rn_ 0 an0 fun K hK=>?_;refine rx_ an0 ?_;refine rwr_melt 5 5 ?_;exact pn_ 1000 an0 hC hpn));have hC:=pneed_r l hl en k wOpen;rw [hq] at hr hC;(try dsimp only [PR.bind] at hr);have hC:=SpR.ok hC;(try simp only [vE_eta,vV,vCol] at hC);refine rn_ 0 an0 fun K hK=>?_;refine rx_ an0 ?_;refine rwr_melt 5 5 ?_;refine lk_ 1000 an0 hC ?_;refine rx_ an0 ?_;refine rwr_nil (hK _ ?_);clear hC hK K)
 refine gs_ ?_
 (rcases hq:nameR l k1 with ⟨c,k2⟩ | ⟨k2⟩;rotate_left;(focus (have hC:=pcol2_q l hl en k1 nm o;rw [hq] at hr hC;subst hr;have hC:=SpPan.ren (SpQ.bad hC) [(1000,1000),(1001,1001)] rfl;have hpn:=hpq _ rfl;refine rn_ 0 an0 fun K hK=>?_;refine rx_ an0 ?_;exact pio_ an0 hC hpn));have hC:=pcol2_q l hl en k1 nm o;rw [hq] at hr hC;(try dsimp only [PR.bind] at hr);have hC:=SpQ.ok hC;(try simp only [vE_eta,vV,vCol] at hC);refine rn_ 0 an0 fun K hK=>?_;refine rx_ an0 ?_;refine qio_ an0 (SpIO.ren hC [(1000,1000),(1001,1001)] rfl) ?_;refine rx_ an0 ?_;refine rwr_nil (hK _ ?_);clear hC hK K)
 refine gs_ ?_
 (rcases hq:needR l wShut k2 with ⟨u2,k3⟩ | ⟨k3⟩;rotate_left;(focus (have hC:=pneed_r l hl en k2 wShut;rw [hq] at hr hC;subst hr;have hC:=SpR.bad hC;have hpn:=hpq _ rfl;refine rn_ 0 an0 fun K hK=>?_;refine rx_ an0 ?_;refine rwr_melt 10 10 ?_;exact pn_ 1000 an0 hC hpn));have hC:=pneed_r l hl en k2 wShut;rw [hq] at hr hC;(try dsimp only [PR.bind] at hr);have hC:=SpR.ok hC;(try simp only [vE_eta,vV,vCol] at hC);refine rn_ 0 an0 fun K hK=>?_;refine rx_ an0 ?_;refine rwr_melt 10 10 ?_;refine lk_ 1000 an0 hC ?_;refine rx_ an0 ?_;refine rwr_nil (hK _ ?_);clear hC hK K)
 refine au_ an0 ?_
 (subst hr;refine okq_ (by intro c h;cases h) ?_;(try simp only [vE_eta,vV,vCol,Ex.k,Ex.vk,Ex.nm,Ex.ar,List.map_cons,List.map_nil,rE_eta,Vl.zero]))
 exact oj_ an0 (.inr rfl)
set_option maxHeartbeats 16000000 in
theorem pcreate_q (l:List Vl) (hl:GoodL l) (en:Int) (k:Nat) :
  SpQ Tryz.prog 110 [.one (.optr 1000 0)] [(1000,.var 67 ([.t false (.sl (rVs l)),.t false (.lit (.int .i64 k)),.t false (.lit (.int .i64 en))]++zC))]
   (createR l k) (fun _=>.tup []) (fun c k2=>[(1000,.var 67 ([.t false (.sl (rVs l)),.t false (.lit (.int .i64 k2)),.t false (.lit (.int .i64 en))]++cmC c))]) [1000] (chP l en):=by
 have hll:=hl.len
 generalize hr:createR l k=r
 rw [createR_eq] at hr
 unfold zC
 (refine eq_ Tryz.func110 Tryz.ntmps110 Tryz.results110 fun X hX hpq=>?_)
 refine gs_ ?_
 refine au_ an0 ?_
 (rcases hq:wordR l [⟨#[116,97,98,108,101]⟩,⟨#[105,110,100,101,120]⟩] k with ⟨i,k1⟩ | ⟨k1⟩;rotate_left;(focus (have hC:=pone_r l hl en k [⟨#[116,97,98,108,101]⟩,⟨#[105,110,100,101,120]⟩] (by decide);rw [hq] at hr hC;subst hr;have hC:=SpR.bad hC;have hpn:=hpq _ rfl;refine rn_ 0 an0 fun K hK=>?_;refine rx_ an0 ?_;refine rwr_melt 3 3 ?_;exact pn_ 1000 an0 hC hpn));have hC:=pone_r l hl en k [⟨#[116,97,98,108,101]⟩,⟨#[105,110,100,101,120]⟩] (by decide);rw [hq] at hr hC;(try dsimp only [PR.bind] at hr);have hC:=SpR.ok hC;(try simp only [vE_eta,vV,vCol] at hC);refine rn_ 0 an0 fun K hK=>?_;refine rx_ an0 ?_;refine rwr_melt 3 3 ?_;refine lk_ 1000 an0 hC ?_;refine rx_ an0 ?_;refine rwr_nil (hK _ ?_);clear hC hK K)
 cases c0:(i==0) with
 | true =>
  rw [c0] at hr
  dsimp only [cond] at hr
  refine au_ c0 ?_
  (rcases hq:nameR l k1 with ⟨nm,k2⟩ | ⟨k2⟩;rotate_left;(focus (have hC:=pname_r l hl en k1;rw [hq] at hr hC;subst hr;have hC:=SpR.bad hC;have hpn:=hpq _ rfl;refine dr_ 0 an0 fun K hK=>?_;refine dx_ an0 ?_;refine dpn_ 1000 an0 hC hpn ?_;refine dx_ an0 ?_;refine de_ (hK _ ?_);clear hK K;refine gs_ ?_;first | exact cw_stop (t:=9) | exact outQ_stop (t:=9) | exact hs_stop (t:=9)));have hC:=pname_r l hl en k1;rw [hq] at hr hC;(try dsimp only [PR.bind] at hr);have hC:=SpR.ok hC;(try simp only [vE_eta,vV,vCol] at hC);refine dr_ 0 an0 fun K hK=>?_;refine dx_ an0 ?_;refine dlk_ 1000 an0 hC ?_;refine dx_ an0 ?_;refine de_ (hK _ ?_);clear hC hK K)
  refine gs_ ?_
  refine gb_ 1000 7 40 54 2 ?_
  (rcases hq:listR l (colR l) k2 with ⟨R,k3⟩ | ⟨k3⟩;rotate_left;(focus (have hC:=plistC_q l hl en k2 nm;rw [hq] at hr hC;subst hr;have hC:=SpPan.ren (SpQ.bad hC) [(1000,1000),(1001,1),(1002,40)] rfl;have hpn:=hpq _ rfl;refine rn_ 0 an0 fun K hK=>?_;refine rx_ an0 ?_;exact pio_ an0 hC hpn));have hC:=plistC_q l hl en k2 nm;rw [hq] at hr hC;(try dsimp only [PR.bind] at hr);have hC:=SpQ.ok hC;(try simp only [vE_eta,vV,vCol] at hC);refine rn_ 0 an0 fun K hK=>?_;refine rx_ an0 ?_;refine qio_ an0 (SpIO.ren hC [(1000,1000),(1001,1),(1002,40)] rfl) ?_;refine rx_ an0 ?_;refine rwr_nil (hK _ ?_);clear hC hK K)
  refine au_ an0 ?_
  (subst hr;refine okq_ (by intro c h;cases h) ?_;(try simp only [vE_eta,vV,vCol,cmC,zE,zCm,Ex.k,Ex.vk,Ex.nm,Ex.ar,List.map_cons,List.map_nil,rE_eta,Vl.zero]))
  refine ex_meltb 1000 7 40 ?_
  exact oj_ an0 (.inl rfl)
 | false =>
  rw [c0] at hr
  dsimp only [cond] at hr
  refine au_ c0 ?_
  (rcases hq:nameR l k1 with ⟨nm,k2⟩ | ⟨k2⟩;rotate_left;(focus (have hC:=pname_r l hl en k1;rw [hq] at hr hC;subst hr;have hC:=SpR.bad hC;have hpn:=hpq _ rfl;refine dr_ 0 an0 fun K hK=>?_;refine dx_ an0 ?_;refine dpn_ 1000 an0 hC hpn ?_;refine dx_ an0 ?_;refine de_ (hK _ ?_);clear hK K;refine gs_ ?_;first | exact cw_stop (t:=22) | exact outQ_stop (t:=22) | exact hs_stop (t:=22)));have hC:=pname_r l hl en k1;rw [hq] at hr hC;(try dsimp only [PR.bind] at hr);have hC:=SpR.ok hC;(try simp only [vE_eta,vV,vCol] at hC);refine dr_ 0 an0 fun K hK=>?_;refine dx_ an0 ?_;refine dlk_ 1000 an0 hC ?_;refine dx_ an0 ?_;refine de_ (hK _ ?_);clear hC hK K)
  refine gs_ ?_
  (rcases hq:needR l ⟨#[111,110]⟩ k2 with ⟨u,k3⟩ | ⟨k3⟩;rotate_left;(focus (have hC:=pneed_r l hl en k2 ⟨#[111,110]⟩;rw [hq] at hr hC;subst hr;have hC:=SpR.bad hC;have hpn:=hpq _ rfl;refine rn_ 0 an0 fun K hK=>?_;refine rx_ an0 ?_;refine rwr_melt 30 30 ?_;exact pn_ 1000 an0 hC hpn));have hC:=pneed_r l hl en k2 ⟨#[111,110]⟩;rw [hq] at hr hC;(try dsimp only [PR.bind] at hr);have hC:=SpR.ok hC;(try simp only [vE_eta,vV,vCol] at hC);refine rn_ 0 an0 fun K hK=>?_;refine rx_ an0 ?_;refine rwr_melt 30 30 ?_;refine lk_ 1000 an0 hC ?_;refine rx_ an0 ?_;refine rwr_nil (hK _ ?_);clear hC hK K)
  refine gs_ ?_
  (rcases hq:nameR l k3 with ⟨o,k4⟩ | ⟨k4⟩;rotate_left;(focus (have hC:=pname_r l hl en k3;rw [hq] at hr hC;subst hr;have hC:=SpR.bad hC;have hpn:=hpq _ rfl;refine dr_ 0 an0 fun K hK=>?_;refine dx_ an0 ?_;refine dpn_ 1000 an0 hC hpn ?_;refine dx_ an0 ?_;refine de_ (hK _ ?_);clear hK K;refine gs_ ?_;first | exact cw_stop (t:=34) | exact outQ_stop (t:=34) | exact hs_stop (t:=34)));have hC:=pname_r l hl en k3;rw [hq] at hr hC;(try dsimp only [PR.bind] at hr);have hC:=SpR.ok hC;(try simp only [vE_eta,vV,vCol] at hC);refine dr_ 0 an0 fun K hK=>?_;refine dx_ an0 ?_;refine dlk_ 1000 an0 hC ?_;refine dx_ an0 ?_;refine de_ (hK _ ?_);clear hC hK K)
  refine gs_ ?_
  (rcases hq:brackR l k4 with ⟨c,k5⟩ | ⟨k5⟩;rotate_left;(focus (have hC:=plist2_q l hl en k4 nm o;rw [hq] at hr hC;subst hr;have hC:=SpPan.ren (SpQ.bad hC) [(1000,1000),(1001,1)] rfl;have hpn:=hpq _ rfl;refine rn_ 0 an0 fun K hK=>?_;refine rx_ an0 ?_;exact pio_ an0 hC hpn));have hC:=plist2_q l hl en k4 nm o;rw [hq] at hr hC;(try dsimp only [PR.bind] at hr);have hC:=SpQ.ok hC;(try simp only [vE_eta,vV,vCol] at hC);refine rn_ 0 an0 fun K hK=>?_;refine rx_ an0 ?_;refine qio_ an0 (SpIO.ren hC [(1000,1000),(1001,1)] rfl) ?_;refine rx_ an0 ?_;refine rwr_nil (hK _ ?_);clear hC hK K)
  refine au_ an0 ?_
  (subst hr;refine okq_ (by intro c h;cases h) ?_;(try simp only [vE_eta,vV,vCol,cmC,zE,zCm,Ex.k,Ex.vk,Ex.nm,Ex.ar,List.map_cons,List.map_nil,rE_eta,Vl.zero]))
  exact oj_ an0 (.inr rfl)
end Go.Proofs.YtjdgejfhnfnmgaaGreatDoor.Ax
namespace Go.Proofs.YtjdgejfhnfnmgaaGreatDoor.Ax
open Go.RowKit Go.Sort
set_option linter.unusedSimpArgs false
attribute [local go_sem] ty3 ty4 ty9 ty5 ty26 ty24 ty29 ty27 ty54 ty22 ty25 ty31 ty77 ty43 ty67 ty65
set_option linter.unusedVariables false
set_option maxRecDepth 100000
def HS (X:Cx) (S:St→Prop) (s:St):Prop:=∀ ρ a w,Hold X s ρ a w→∃ sM ρ',S sM∧Hold X sM ρ' a w
section
variable {P:Program} {X:Cx} {st st2 s sM:St} {Q:Exit→St→Prop} {c y:Code} {S:St→Prop}
theorem cw_meetS (S:St→Prop) (h1:CW P X c (thenX (HS X S) Q) st) (h2:∀ s,S s→CW P X y Q s):CW P X c (thenX (fun s=>CW P X y Q s) Q) st:=fun ρ a w hH =>
 wp_mono (h1 ρ a w hH) fun e a' w' ⟨s,ρ',hq,hH'⟩=>by
  cases e with
  | normal =>
   obtain ⟨sM,ρ2,h3,h4⟩:=hq ρ' a' w' hH'
   exact ⟨sM,ρ2,h2 sM h3,h4⟩
  | _=>exact ⟨s,ρ',hq,hH'⟩
theorem cw_meet2S {c1 c2:Code} (S:St→Prop) (h1:CW P X c1 (thenX (fun s=>CW P X c2 (thenX (HS X S) Q) s) (thenX (HS X S) Q)) st) (h2:∀ s,S s→CW P X y Q s):CW P X c1 (thenX (fun s=>CW P X c2 (thenX (fun s=>CW P X y Q s) Q) s) (thenX (fun s=>CW P X y Q s) Q)) st:=fun ρ a w hH =>
 wp_mono (h1 ρ a w hH) fun e a' w' ⟨s,ρ',hq,hH'⟩=>by
  cases e with
  | normal=>exact ⟨s,ρ',cw_meetS S hq h2,hH'⟩
  | _=>exact ⟨s,ρ',hq,hH'⟩
theorem hs_fit {f:Prop} (hf:f) (hS:S sM) (h:f→fitL s.bl sM.bl=some sM.bl:=by intro hf;simp only [go_sem,hf,hX];try rfl) (h2:f→leL sM.sl s.sl:=by intro hf;simp only [go_sem,hf,hX] <;> ((repeat' apply And.intro) <;> rfl)):HS X S s:=fun ρ a w hH=>by
 refine ⟨sM,ρ,hS,(hold_fit hH (h hf)).le ⟨fun t v hv=>?_,fun t b hb=>?_⟩⟩
 ·exact leL_get (h2 hf) hv
 ·exact get_append_some hb
theorem hs_stop {t:Nat} (h:get t s.sl=some stopV:=by rfl):HS X S s:=fun ρ a w hH=>(hold_stop hH h).elim
theorem hs_meltb (b j id:Nat) {e e0:TypeId} {cells:List C} {size len:Nat} {z:Bool} {rows:List (List T)} (h:HS X S st2) (hv:get b st.bl=some (.var e0 cells):=by simp only [go_sem];exact rfl) (ht:cells[j]?=some (.own id len):=by simp only [go_sem];exact rfl) (hb:get id st.bl=some (.arr e size z rows):=by simp only [go_sem];exact rfl) (hl:rows.length=len:=by first | rfl | assumption | simp only [go_sem]) (hs:meltB st b e0 cells j id z rows=st2:=by simp only [go_sem,List.set_cons_succ,List.set_cons_zero];exact rfl) (hne:id ≠ b:=by decide):HS X S st:=by
 subst hs
 exact fun ρ a w hH=>h _ a w (hH.meltb b j id hv ht hb hl hne)
end
def seC (c1 c10:C):List C:=[.t true (.lit (.int .i64 13)),c1,.t false (.lit (.string .empty)),.t false (.lit (.string .empty)),.nil,.t false (.lit (.int .i64 0)),.t false (.lit (.int .i64 0)),.t false (.lit (.int .i64 0)),.t false (.lit (.string .empty)),.nil,c10,.t false (.lit (.int .i64 0)),.t false (.lit (.int .i64 0)),.t false (.lit (.int .i64 0)),.t false (.lit (.string .empty)),.t false (.lit (.string .empty)),.nil,.t false (.lit (.bool false)),.t false (.lit (.int .i64 0)),.t false (.lit (.int .i64 0)),.t false (.lit (.int .i64 0)),.t false (.lit (.string .empty)),.t false (.lit (.string .empty)),.nil,.t false (.lit (.string .empty)),.t false (.lit (.int .i64 0))]
attribute [local go_sem] seC
def seS (l:List Vl) (en:Int) (k:Nat) (c10:C) (more:List (Nat × V)) (bl:List (Nat × B)):St:=⟨more++[(0,.one (.optr 1000 0))],(1000,.var 67 ([.t false (.sl (rVs l)),.t false (.lit (.int .i64 k)),.t false (.lit (.int .i64 en))]++seC (.t false (.lit (.string .empty))) c10)) :: bl⟩
attribute [local go_sem] seS
set_option maxHeartbeats 32000000 in
theorem pselects_q (l:List Vl) (hl:GoodL l) (en:Int) (k:Nat) :
  SpQ Tryz.prog 119 [.one (.optr 1000 0)] [(1000,.var 67 ([.t false (.sl (rVs l)),.t false (.lit (.int .i64 k)),.t false (.lit (.int .i64 en))]++zC))]
   (selectsR l k) (fun _=>.tup []) (fun c k2=>[(1000,.var 67 ([.t false (.sl (rVs l)),.t false (.lit (.int .i64 k2)),.t false (.lit (.int .i64 en))]++cmC c))]) [1000] (chP l en):=by
 have hll:=hl.len
 generalize hr:selectsR l k=r
 unfold selectsR at hr
 generalize hF:fieldsR l k=FR at hr
 unfold fieldsR someR at hF
 unfold zC
 (refine eq_ Tryz.func119 Tryz.ntmps119 Tryz.results119 fun X hX hpq=>?_)
 refine gs_ ?_
 refine au_ an0 ?_
 refine cw_meet2S (fun sM=>∃ fs k2,FR=.ok fs k2∧sM=seS l en k2 (.t true (.sl (rS fs))) [] []) ?_ ?_
 ·have hpq:∀ k,FR=.bad k→X.pan (chP l en k):=fun k h=>hpq k (by rw [← hr,h];rfl)
  clear hr
  have hr:=hF
  clear hF
  (have hT:=ptake_l l (by omega) en (k) (⟨#[42]⟩);rcases hb:takeB l (⟨#[42]⟩) (k) with _ | _ <;> (first | rw [takeK_f hb,hb] at hT | rw [takeK_t hb,hb] at hT) <;> (rw [hb] at hr;dsimp only [cond] at hr;unfold paH at hT;refine rn_ 0 an0 fun K hK=>?_;refine rx_ an0 ?_;refine lk_ 1000 an0 hT ?_;refine rx_ an0 ?_;refine rwr_nil (hK _ ?_);clear hK K hT hb))
  ·refine gs_ ?_
   (refine rn_ 8 an0 fun K hK=>?_;refine rr_ an0 ?_)
   ((first | refine rwr_nil (hK _ ?_) | refine de_ (hK _ ?_));clear hK K)
   refine gs_ ?_
   refine gb_ 1000 13 24 9 1 ?_
   refine cw_loop (fun m st=>(∃ (R:List ByteArray) (k f:Nat),m=f + 1∧R.length + m≤4000∧l.length≤k + f∧((nameR l k).bind fun a k=>(moreR l (nameR l) f k).bind fun r k=>.ok (R++a :: r) k)=FR∧st=seS l en k (.own 24 R.length) [(2,.one (.t true (.lit (.bool true))))] [(24,.arr 9 1 true (rS R))]) ∨ ∃ (R:List ByteArray) (k:Nat),m=0∧.ok R k=FR∧st=seS l en k (.own 24 R.length) [(2,.one (.t true (.lit (.bool false))))] [(24,.arr 9 1 true (rS R))]) (l.length + 2) ⟨_,.inl ⟨[],k,l.length + 1,rfl,by simp;omega,by omega,hr,rfl⟩,by unfold seS;exact le_⟩ ?_
   clear hr
   rintro m st (⟨R,k,f,rfl,hm1,hm2,hr,rfl⟩ | ⟨R,k,rfl,hr,rfl⟩)
   ·have h1:R.length + 1≤maxLen:=by unfold maxLen;omega
    have h2:(R.length + 1) * 16≤140737488355328:=by omega
    unfold seS
    refine au_ an0 ?_
    (rcases hq:nameR l k with ⟨s,k2⟩ | ⟨k2⟩;rotate_left;(focus (have hC:=pname_r l hl en k;rw [hq] at hr hC;subst hr;have hC:=SpR.bad hC;have hpn:=hpq _ rfl;refine rn_ 0 an0 fun K hK=>?_;refine rx_ an0 ?_;exact pn_ 1000 an0 hC hpn));have hC:=pname_r l hl en k;rw [hq] at hr hC;(try dsimp only [PR.bind] at hr);have hC:=SpR.ok hC;(try simp only [vE_eta,vV,vCol] at hC);refine rn_ 0 an0 fun K hK=>?_;refine rx_ an0 ?_;refine lk_ 1000 an0 hC ?_;refine rx_ an0 ?_;refine rwr_nil (hK _ ?_);clear hC hK K)
    have hge:=nameR_ge hq
    refine au_ (an4 litS_ lenS_ h1 h2) ?_
    rw [moreR_eq l _ f k2 (by omega)] at hr
    (have hT:=ptake_l l (by omega) en (k2) (⟨#[44]⟩);rcases hb:takeB l (⟨#[44]⟩) (k2) with _ | _ <;> (first | rw [takeK_f hb,hb] at hT | rw [takeK_t hb,hb] at hT) <;> (rw [hb] at hr;dsimp only [cond] at hr;unfold paH at hT;refine rn_ 0 an0 fun K hK=>?_;refine rx_ an0 ?_;refine lk_ 1000 an0 hT ?_;refine rx_ an0 ?_;refine rwr_nil (hK _ ?_);clear hK K hT))
    ·refine gs_ ?_
     exact ⟨0,by omega,_,.inr ⟨R++[s],k2,rfl,hr,rfl⟩,lf_ (an2 litS_ lenS_)⟩
    ·have hlt:=takeB_lt hb
     have hr:(((nameR l (k2 + 1)).bind fun a k=>(moreR l (nameR l) (f - 1) k).bind fun r k=>.ok (a :: r) k).bind fun r k=>.ok (R++s :: r) k)=FR:=hr
     simp only [PR.bind_assoc] at hr
     have hr:((nameR l (k2 + 1)).bind fun a k=>(moreR l (nameR l) (f - 1) k).bind fun r k=>.ok (R++[s]++a :: r) k)=FR:=by
      simp only [List.append_assoc,List.cons_append,List.nil_append]
      exact hr
     refine gs_ ?_
     exact ⟨f,by omega,_,.inl ⟨R++[s],k2 + 1,f - 1,by omega,by simp;omega,by omega,hr,rfl⟩,lf_ (an2 litS_ lenS_)⟩
   ·unfold seS
    refine au_ an0 ?_
    refine hs_meltb 1000 13 24 ?_
    subst hr
    exact hs_fit (an2 litS_ lenS_) ⟨_,_,rfl,rfl⟩
  ·refine gs_ ?_
   subst hr
   exact hs_fit an0 ⟨_,_,rfl,rfl⟩
 ·rintro sM ⟨fs,k2,rfl,rfl⟩
  unfold seS
  dsimp only [PR.bind] at hr
  clear hF
  refine au_ an0 ?_
  (rcases hq:needR l ⟨#[102,114,111,109]⟩ k2 with ⟨u,k3⟩ | ⟨k3⟩;rotate_left;(focus (have hC:=pneed_r l hl en k2 ⟨#[102,114,111,109]⟩;rw [hq] at hr hC;subst hr;have hC:=SpR.bad hC;have hpn:=hpq _ rfl;refine rn_ 0 an0 fun K hK=>?_;refine rx_ an0 ?_;refine rwr_melt 29 29 ?_;exact pn_ 1000 an0 hC hpn));have hC:=pneed_r l hl en k2 ⟨#[102,114,111,109]⟩;rw [hq] at hr hC;(try dsimp only [PR.bind] at hr);have hC:=SpR.ok hC;(try simp only [vE_eta,vV,vCol] at hC);refine rn_ 0 an0 fun K hK=>?_;refine rx_ an0 ?_;refine rwr_melt 29 29 ?_;refine lk_ 1000 an0 hC ?_;refine rx_ an0 ?_;refine rwr_nil (hK _ ?_);clear hC hK K)
  refine gs_ ?_
  (rcases hq:nameR l k3 with ⟨nm,k4⟩ | ⟨k4⟩;rotate_left;(focus (have hC:=pname_r l hl en k3;rw [hq] at hr hC;subst hr;have hC:=SpR.bad hC;have hpn:=hpq _ rfl;refine rn_ 0 an0 fun K hK=>?_;refine rx_ an0 ?_;exact pn_ 1000 an0 hC hpn));have hC:=pname_r l hl en k3;rw [hq] at hr hC;(try dsimp only [PR.bind] at hr);have hC:=SpR.ok hC;(try simp only [vE_eta,vV,vCol] at hC);refine rn_ 0 an0 fun K hK=>?_;refine rx_ an0 ?_;refine lk_ 1000 an0 hC ?_;refine rx_ an0 ?_;refine rwr_nil (hK _ ?_);clear hC hK K)
  refine gs_ ?_
  (rcases hq:whereR l k4 with ⟨w,k5⟩ | ⟨k5⟩;rotate_left;(focus (have hC:=pwhere_q l hl en k4 (.t true (.lit (.int .i64 13))) (.t true (.lit (.string nm))) (.t false (.lit (.string .empty))) (.t false (.lit (.string .empty))) .nil (.t false (.lit (.int .i64 0))) (.t false (.lit (.int .i64 0))) (.t false (.lit (.int .i64 0))) (.t false (.lit (.string .empty))) .nil (.t true (.sl (rS fs))) (.t false (.lit (.int .i64 0))) (.t false (.lit (.int .i64 0))) (.t false (.lit (.int .i64 0))) (.t false (.lit (.string .empty))) (.t false (.lit (.string .empty))) .nil (.t false (.lit (.string .empty))) (.t false (.lit (.int .i64 0))) rfl;rw [hq] at hr hC;subst hr;have hC:=SpPan.ren (SpQ.bad hC) [(1000,1000)] rfl;have hpn:=hpq _ rfl;refine rn_ 0 an0 fun K hK=>?_;refine rx_ an0 ?_;exact pio_ an0 hC hpn));have hC:=pwhere_q l hl en k4 (.t true (.lit (.int .i64 13))) (.t true (.lit (.string nm))) (.t false (.lit (.string .empty))) (.t false (.lit (.string .empty))) .nil (.t false (.lit (.int .i64 0))) (.t false (.lit (.int .i64 0))) (.t false (.lit (.int .i64 0))) (.t false (.lit (.string .empty))) .nil (.t true (.sl (rS fs))) (.t false (.lit (.int .i64 0))) (.t false (.lit (.int .i64 0))) (.t false (.lit (.int .i64 0))) (.t false (.lit (.string .empty))) (.t false (.lit (.string .empty))) .nil (.t false (.lit (.string .empty))) (.t false (.lit (.int .i64 0))) rfl;rw [hq] at hr hC;(try dsimp only [PR.bind] at hr);have hC:=SpQ.ok hC;(try simp only [vE_eta,vV,vCol] at hC);refine rn_ 0 an0 fun K hK=>?_;refine rx_ an0 ?_;refine qio_ an0 (SpIO.ren hC [(1000,1000)] rfl) ?_;refine rx_ an0 ?_;refine rwr_nil (hK _ ?_);clear hC hK K)
  refine gs_ ?_
  unfold orderR limitR at hr
  (have hT:=ptake_l l (by omega) en (k5) (⟨#[111,114,100,101,114]⟩);rcases hb:takeB l (⟨#[111,114,100,101,114]⟩) (k5) with _ | _ <;> (first | rw [takeK_f hb,hb] at hT | rw [takeK_t hb,hb] at hT) <;> (rw [hb] at hr;dsimp only [cond] at hr;unfold paH at hT;refine rn_ 0 an0 fun K hK=>?_;refine rx_ an0 ?_;refine lk_ 1000 an0 hT ?_;refine rx_ an0 ?_;refine rwr_nil (hK _ ?_);clear hK K hT hb))
  ·refine au_ an0 ?_
   (have hT:=ptake_l l (by omega) en (k5) (⟨#[108,105,109,105,116]⟩);rcases hb:takeB l (⟨#[108,105,109,105,116]⟩) (k5) with _ | _ <;> (first | rw [takeK_f hb,hb] at hT | rw [takeK_t hb,hb] at hT) <;> (rw [hb] at hr;dsimp only [cond] at hr;unfold paH at hT;refine rn_ 0 an0 fun K hK=>?_;refine rx_ an0 ?_;refine lk_ 1000 an0 hT ?_;refine rx_ an0 ?_;refine rwr_nil (hK _ ?_);clear hK K hT hb))
   ·refine au_ an0 ?_
    (subst hr;refine okq_ (by intro c h;cases h) ?_;(try simp only [vE_eta,vV,vCol,cmC,zE,zCm,Ex.k,Ex.vk,Ex.nm,Ex.ar,List.map_cons,List.map_nil,rE_eta,Vl.zero]))
    exact oj_ an0 (.inr rfl)
   ·refine au_ an0 ?_
    (rcases hq:numR l (k5 + 1) with ⟨n,k6⟩ | ⟨k6⟩;rotate_left;(focus (have hC:=pnumber_r l hl en (k5 + 1);rw [hq] at hr hC;subst hr;have hC:=SpR.bad hC;have hpn:=hpq _ rfl;refine rn_ 0 an0 fun K hK=>?_;refine rx_ an0 ?_;exact pn_ 1000 an0 hC hpn));have hC:=pnumber_r l hl en (k5 + 1);rw [hq] at hr hC;(try dsimp only [PR.bind] at hr);have hC:=SpR.ok hC;(try simp only [vE_eta,vV,vCol] at hC);refine rn_ 0 an0 fun K hK=>?_;refine rx_ an0 ?_;refine lk_ 1000 an0 hC ?_;refine rx_ an0 ?_;refine rwr_nil (hK _ ?_);clear hC hK K)
    refine au_ an0 ?_
    (subst hr;refine okq_ (by intro c h;cases h) ?_;(try simp only [vE_eta,vV,vCol,cmC,zE,zCm,Ex.k,Ex.vk,Ex.nm,Ex.ar,List.map_cons,List.map_nil,rE_eta,Vl.zero]))
    exact oj_ an0 (.inr rfl)
  ·refine au_ an0 ?_
   (rcases hq:needR l ⟨#[98,121]⟩ (k5 + 1) with ⟨u2,k6⟩ | ⟨k6⟩;rotate_left;(focus (have hC:=pneed_r l hl en (k5 + 1) ⟨#[98,121]⟩;rw [hq] at hr hC;subst hr;have hC:=SpR.bad hC;have hpn:=hpq _ rfl;refine rn_ 0 an0 fun K hK=>?_;refine rx_ an0 ?_;refine rwr_melt 42 42 ?_;exact pn_ 1000 an0 hC hpn));have hC:=pneed_r l hl en (k5 + 1) ⟨#[98,121]⟩;rw [hq] at hr hC;(try dsimp only [PR.bind] at hr);have hC:=SpR.ok hC;(try simp only [vE_eta,vV,vCol] at hC);refine rn_ 0 an0 fun K hK=>?_;refine rx_ an0 ?_;refine rwr_melt 42 42 ?_;refine lk_ 1000 an0 hC ?_;refine rx_ an0 ?_;refine rwr_nil (hK _ ?_);clear hC hK K)
   refine gs_ ?_
   (rcases hq:nameR l k6 with ⟨od,k7⟩ | ⟨k7⟩;rotate_left;(focus (have hC:=pname_r l hl en k6;rw [hq] at hr hC;subst hr;have hC:=SpR.bad hC;have hpn:=hpq _ rfl;refine rn_ 0 an0 fun K hK=>?_;refine rx_ an0 ?_;exact pn_ 1000 an0 hC hpn));have hC:=pname_r l hl en k6;rw [hq] at hr hC;(try dsimp only [PR.bind] at hr);have hC:=SpR.ok hC;(try simp only [vE_eta,vV,vCol] at hC);refine rn_ 0 an0 fun K hK=>?_;refine rx_ an0 ?_;refine lk_ 1000 an0 hC ?_;refine rx_ an0 ?_;refine rwr_nil (hK _ ?_);clear hC hK K)
   refine au_ an0 ?_
   (have hT:=ptake_l l (by omega) en (k7) (⟨#[108,105,109,105,116]⟩);rcases hb:takeB l (⟨#[108,105,109,105,116]⟩) (k7) with _ | _ <;> (first | rw [takeK_f hb,hb] at hT | rw [takeK_t hb,hb] at hT) <;> (rw [hb] at hr;dsimp only [cond] at hr;unfold paH at hT;refine rn_ 0 an0 fun K hK=>?_;refine rx_ an0 ?_;refine lk_ 1000 an0 hT ?_;refine rx_ an0 ?_;refine rwr_nil (hK _ ?_);clear hK K hT hb))
   ·refine au_ an0 ?_
    (subst hr;refine okq_ (by intro c h;cases h) ?_;(try simp only [vE_eta,vV,vCol,cmC,zE,zCm,Ex.k,Ex.vk,Ex.nm,Ex.ar,List.map_cons,List.map_nil,rE_eta,Vl.zero]))
    exact oj_ an0 (.inr rfl)
   ·refine au_ an0 ?_
    (rcases hq:numR l (k7 + 1) with ⟨n,k8⟩ | ⟨k8⟩;rotate_left;(focus (have hC:=pnumber_r l hl en (k7 + 1);rw [hq] at hr hC;subst hr;have hC:=SpR.bad hC;have hpn:=hpq _ rfl;refine rn_ 0 an0 fun K hK=>?_;refine rx_ an0 ?_;exact pn_ 1000 an0 hC hpn));have hC:=pnumber_r l hl en (k7 + 1);rw [hq] at hr hC;(try dsimp only [PR.bind] at hr);have hC:=SpR.ok hC;(try simp only [vE_eta,vV,vCol] at hC);refine rn_ 0 an0 fun K hK=>?_;refine rx_ an0 ?_;refine lk_ 1000 an0 hC ?_;refine rx_ an0 ?_;refine rwr_nil (hK _ ?_);clear hC hK K)
    refine au_ an0 ?_
    (subst hr;refine okq_ (by intro c h;cases h) ?_;(try simp only [vE_eta,vV,vCol,cmC,zE,zCm,Ex.k,Ex.vk,Ex.nm,Ex.ar,List.map_cons,List.map_nil,rE_eta,Vl.zero]))
    exact oj_ an0 (.inr rfl)
end Go.Proofs.YtjdgejfhnfnmgaaGreatDoor.Ax
