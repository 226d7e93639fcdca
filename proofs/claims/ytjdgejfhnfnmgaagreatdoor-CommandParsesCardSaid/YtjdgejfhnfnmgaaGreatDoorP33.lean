/-  -/
import Derived.Test.YtjdgejfhnfnmgaaGreatDoorP20
import Derived.Test.YtjdgejfhnfnmgaaGreatDoorP30
namespace Go.Proofs.YtjdgejfhnfnmgaaGreatDoor
def bodyK (l:List Vl) (k:Nat):PR Cm:=(wordR l wCmds k).bind fun i k=>bodyR l i k
def cmdK (l:List Vl) (k:Nat):PR Cm:=(bodyK l k).bind fun c k=>bif decide (k < l.length) then .bad k else .ok c k
theorem cmdR_eq (l:List Vl):cmdR l=cmdK l 0:=by
 unfold cmdR cmdK bodyK
 rw [PR.bind_assoc]
end Go.Proofs.YtjdgejfhnfnmgaaGreatDoor
namespace Go.Proofs.YtjdgejfhnfnmgaaGreatDoor.Ax
open Go.RowKit Go.Sort
set_option linter.unusedSimpArgs false
attribute [local go_sem] ty3 ty4 ty9 ty5 ty26 ty24 ty29 ty27 ty54 ty22 ty25 ty31 ty77 ty43 ty67 ty65 wCmds zC cmC zCm zE crC stopV
set_option linter.unusedVariables false
set_option maxRecDepth 100000
def stop6:V:=.agg [.t true (.lit (.agg #[])),.t true (.lit (.agg #[])),.t true (.lit (.agg #[])),.t true (.lit (.agg #[])),.t true (.lit (.agg #[])),.t true (.lit (.agg #[]))]
attribute [local go_sem] stop6
def cdS (l:List Vl) (en:Int) (k:Nat) (c:Cm):St:=⟨[(1,.one (.optr 1 0))],[(1,.var 65 [.optr 1000 0]),(1000,.var 67 ([.t false (.sl (rVs l)),.t false (.lit (.int .i64 k)),.t false (.lit (.int .i64 en))]++cmC c))]⟩
attribute [local go_sem] cdS
section
variable {P:Program} {X:Cx} {st st0 S s:St} {Q:Exit→St→Prop} {c:Code} {l:List Oper} {ops:Array Oper} {o:Oper} {K:St→Prop} {k:Nat} {F:List Lf} {E:List Le} {pr:List (Nat × Nat)} {ρ:Nat→R} {a:Act} {w:World}
theorem stepP_any {D:Delta} (h:StepP P X st o (.pure stopV)):StepP P X st o D:=fun hd ρ a w hH K Q hK hQ=>h hd ρ a w hH K Q (fun x ρ' w' ho=>(stop_no ho.2.2).elim) hQ
theorem hold_stop6 (hH:Hold X st ρ a w) {t:Nat} (h:get t st.sl=some stop6):False:=by
 obtain ⟨x,_,h2⟩:=hH.slots t _ h
 unfold stop6 RdV at h2
 obtain ⟨xs,_,h3⟩:=h2
 obtain ⟨y,_,h5⟩:=rdCs_at (j:=0) h3 rfl
 unfold RdC RdT at h5
 have:=h5.2
 cases this
theorem cw_stop6 {t:Nat} (h:get t st.sl=some stop6:=by rfl):CW P X c Q st:=fun ρ a w hH=>(hold_stop6 hH h).elim
theorem dpn6_ (b:Nat) {f:Prop} (hf:f) {r:Cd} {c:Call} {cv:Operand} {g:FuncId} {args args2 as_:List V} {e:TypeId} {hc hc2 cells tl:List C} {ch:List PanicEntry} {mk:Bool} {m:Nat} (hsp:SpPL P g args e hc ch m) (hpan:X.pan ch) (h:DW P X ops st0 K r)
  (hop:o.op=.call c:=by exact rfl) (hcal:c.callee=.value cv:=by exact rfl) (ha:V.onlys [1000] args=true:=by rfl) (hn:C.onlys [1000] hc=true:=by rfl) (ha2:V.rens [(1000,b)] args=args2:=by exact rfl) (hc2':C.rens [(1000,b)] hc=hc2:=by exact rfl)
  (hcl:f→callIO [b] ⟨rdT S.sl (Oper.looksAt ops o),S.bl⟩ 40 cv c.args.toList=some (g,mk,as_):=by intro hf;simp only [go_sem,hf] <;> exact rfl) (hle:f→vsLe args2 as_:=by intro hf;simp only [go_sem,hf] <;> fail) (hb:get b S.bl=some (.var e cells):=by simp only [go_sem];exact rfl) (hl:cells.drop hc.length=tl:=by simp only [List.length_cons,List.length_nil,Nat.reduceAdd,List.drop_succ_cons,List.drop_zero];exact rfl) (hk:tl.length=m:=by first | rfl | (unfold lits;rw [List.length_map];assumption)) (hcs:f→csLe hc2 (cells.take hc.length):=by intro hf;simp only [go_sem,List.length_cons,List.length_nil,List.take_succ_cons,List.take_zero,hf] <;> fail) (hon:C.onlys [b] hc2=true:=by rfl)
  (hg:f→guardOf ⟨rdT S.sl (Oper.looksAt ops o),S.bl⟩ ops o=some true:=by intro hf;simp only [go_sem,hf] <;> fail) (hd:dstOk X.n o.dst=true:=by rw [hX];rfl) (hr:f→contD P X.n 0 ops l k (nextE k S F E pr o.dst (.pure stop6))=r:=by intro hf;simp (maxSteps:=5000000) only [go_sem,hf,hX];exact rfl):DW P X ops st0 K ⟨o :: l,k,S,F,E,pr⟩:=fun hb'=>by
 have hr:=hr hf
 subst hr
 exact dw_run (m:=0) h (db_ef (R:=⟨rdT S.sl (Oper.looksAt ops o),S.bl⟩) hb' hd (fun t u h=>rdT_get h) (fun t b h=>h) (.inl ⟨hg hf,stepP_any <| pan_step (st:=⟨rdT S.sl (Oper.looksAt ops o),S.bl⟩) b hsp hop hcal ha hn ha2 hc2' (hcl hf) (hle hf) hb hl hk (hcs hf) hon hpan⟩))
end
set_option maxHeartbeats 64000000 in
theorem pcommand_q (l:List Vl) (hl:GoodL l) (en:Int) (k:Nat) :
  SpQ Tryz.prog 65 [.one (.optr 1000 0)] [(1000,.var 67 ([.t false (.sl (rVs l)),.t false (.lit (.int .i64 k)),.t false (.lit (.int .i64 en))]++zC))]
   (cmdK l k) (fun _=>.tup []) (fun c k2=>[(1000,.var 67 ([.t false (.sl (rVs l)),.t false (.lit (.int .i64 k2)),.t false (.lit (.int .i64 en))]++cmC c))]) [1000] (chP l en):=by
 have hll:=hl.len
 generalize hr:cmdK l k=r
 unfold cmdK at hr
 unfold zC
 (refine eq_ Tryz.func65 Tryz.ntmps65 Tryz.results65 fun X hX hpq=>?_)
 refine gs_ ?_
 refine au_ an0 ?_
 generalize hF:bodyK l k=FR at hr
 unfold bodyK at hF
 refine cw_meet2S (fun sM=>∃ c k2,FR=.ok c k2∧sM=cdS l en k2 c) ?_ ?_
 ·have hpq:∀ k,FR=.bad k→X.pan (chP l en k):=fun k h=>hpq k (by rw [← hr,h];rfl)
  clear hr
  have hr:=hF
  clear hF
  (rcases hq:wordR l wCmds k with ⟨i,k1⟩ | ⟨k1⟩;rotate_left;(focus (have hC:=pone_r l hl en k wCmds (by decide);rw [hq] at hr hC;subst hr;have hC:=SpR.bad hC;have hpn:=hpq _ rfl;refine rn_ 0 an0 fun K hK=>?_;refine rx_ an0 ?_;refine rwr_melt 3 3 ?_;exact pn_ 1000 an0 hC hpn));have hC:=pone_r l hl en k wCmds (by decide);rw [hq] at hr hC;(try dsimp only [PR.bind] at hr);have hC:=SpR.ok hC;(try simp only [vE_eta,vV,vCol] at hC);refine rn_ 0 an0 fun K hK=>?_;refine rx_ an0 ?_;refine rwr_melt 3 3 ?_;refine lk_ 1000 an0 hC ?_;refine rx_ an0 ?_;refine rwr_nil (hK _ ?_);clear hC hK K)
  have h10:=wordR_lt hq
  have h10:0≤i∧i < 10:=h10
  refine gs_ ?_
  obtain rfl | rfl | rfl | rfl | rfl | rfl | rfl | rfl | rfl | rfl:i=0 ∨ i=1 ∨ i=2 ∨ i=3 ∨ i=4 ∨ i=5 ∨ i=6 ∨ i=7 ∨ i=8 ∨ i=9:=by omega
  ·have hr:createR l k1=FR:=hr
   refine au_ an0 ?_
   (rcases hq:createR l k1 with ⟨c,k2⟩ | ⟨k2⟩;rotate_left;(focus (have hC:=pcreate_q l hl en k1;rw [hq] at hr hC;subst hr;have hC:=SpPan.ren (SpQ.bad hC) [(1000,1000)] rfl;have hpn:=hpq _ rfl;refine rn_ 0 an0 fun K hK=>?_;refine rx_ an0 ?_;exact pio_ an0 hC hpn));have hC:=pcreate_q l hl en k1;rw [hq] at hr hC;(try dsimp only [PR.bind] at hr);have hC:=SpQ.ok hC;(try simp only [vE_eta,vV,vCol] at hC);refine rn_ 0 an0 fun K hK=>?_;refine rx_ an0 ?_;refine qio_ an0 (SpIO.ren hC [(1000,1000)] rfl) ?_;refine rx_ an0 ?_;refine rwr_nil (hK _ ?_);clear hC hK K)
   refine gs_ ?_
   subst hr
   exact hs_fit an0 ⟨_,_,rfl,rfl⟩
  ·have hr:dropR l k1=FR:=hr
   unfold dropR at hr
   refine au_ an0 ?_
   (rcases hq:wordR l [⟨#[116,97,98,108,101]⟩,⟨#[105,110,100,101,120]⟩] k1 with ⟨j,k2⟩ | ⟨k2⟩;rotate_left;(focus (have hC:=pone_r l hl en k1 [⟨#[116,97,98,108,101]⟩,⟨#[105,110,100,101,120]⟩] (by decide);rw [hq] at hr hC;subst hr;have hC:=SpR.bad hC;have hpn:=hpq _ rfl;refine rn_ 0 an0 fun K hK=>?_;refine rx_ an0 ?_;refine rwr_melt 16 16 ?_;exact pn_ 1000 an0 hC hpn));have hC:=pone_r l hl en k1 [⟨#[116,97,98,108,101]⟩,⟨#[105,110,100,101,120]⟩] (by decide);rw [hq] at hr hC;(try dsimp only [PR.bind] at hr);have hC:=SpR.ok hC;(try simp only [vE_eta,vV,vCol] at hC);refine rn_ 0 an0 fun K hK=>?_;refine rx_ an0 ?_;refine rwr_melt 16 16 ?_;refine lk_ 1000 an0 hC ?_;refine rx_ an0 ?_;refine rwr_nil (hK _ ?_);clear hC hK K)
   cases c1:(j==1) with
   | true =>
    rw [c1] at hr
    dsimp only [cond] at hr
    refine au_ c1 ?_
    (rcases hq:nameR l k2 with ⟨nm,k3⟩ | ⟨k3⟩;rotate_left;(focus (have hC:=pname_r l hl en k2;rw [hq] at hr hC;subst hr;have hC:=SpR.bad hC;have hpn:=hpq _ rfl;refine dr_ 0 an0 fun K hK=>?_;refine dx_ an0 ?_;refine dpn_ 1000 an0 hC hpn ?_;refine dx_ an0 ?_;refine de_ (hK _ ?_);clear hK K;refine gs_ ?_;first | exact cw_stop (t:=25) | exact outQ_stop (t:=25) | exact hs_stop (t:=25)));have hC:=pname_r l hl en k2;rw [hq] at hr hC;(try dsimp only [PR.bind] at hr);have hC:=SpR.ok hC;(try simp only [vE_eta,vV,vCol] at hC);refine dr_ 0 an0 fun K hK=>?_;refine dx_ an0 ?_;refine dlk_ 1000 an0 hC ?_;refine dx_ an0 ?_;refine de_ (hK _ ?_);clear hC hK K)
    refine gs_ ?_
    subst hr
    exact hs_fit an0 ⟨_,_,rfl,rfl⟩
   | false =>
    rw [c1] at hr
    dsimp only [cond] at hr
    refine au_ c1 ?_
    (rcases hq:nameR l k2 with ⟨nm,k3⟩ | ⟨k3⟩;rotate_left;(focus (have hC:=pname_r l hl en k2;rw [hq] at hr hC;subst hr;have hC:=SpR.bad hC;have hpn:=hpq _ rfl;refine dr_ 0 an0 fun K hK=>?_;refine dx_ an0 ?_;refine dpn_ 1000 an0 hC hpn ?_;refine dx_ an0 ?_;refine de_ (hK _ ?_);clear hK K;refine gs_ ?_;first | exact cw_stop (t:=25) | exact outQ_stop (t:=25) | exact hs_stop (t:=25)));have hC:=pname_r l hl en k2;rw [hq] at hr hC;(try dsimp only [PR.bind] at hr);have hC:=SpR.ok hC;(try simp only [vE_eta,vV,vCol] at hC);refine dr_ 0 an0 fun K hK=>?_;refine dx_ an0 ?_;refine dlk_ 1000 an0 hC ?_;refine dx_ an0 ?_;refine de_ (hK _ ?_);clear hC hK K)
    refine gs_ ?_
    subst hr
    exact hs_fit an0 ⟨_,_,rfl,rfl⟩
  ·have hr:alterR l k1=FR:=hr
   refine au_ an0 ?_
   (rcases hq:alterR l k1 with ⟨c,k2⟩ | ⟨k2⟩;rotate_left;(focus (have hC:=palter_q l hl en k1;rw [hq] at hr hC;subst hr;have hC:=SpPan.ren (SpQ.bad hC) [(1000,1000)] rfl;have hpn:=hpq _ rfl;refine rn_ 0 an0 fun K hK=>?_;refine rx_ an0 ?_;exact pio_ an0 hC hpn));have hC:=palter_q l hl en k1;rw [hq] at hr hC;(try dsimp only [PR.bind] at hr);have hC:=SpQ.ok hC;(try simp only [vE_eta,vV,vCol] at hC);refine rn_ 0 an0 fun K hK=>?_;refine rx_ an0 ?_;refine qio_ an0 (SpIO.ren hC [(1000,1000)] rfl) ?_;refine rx_ an0 ?_;refine rwr_nil (hK _ ?_);clear hC hK K)
   refine gs_ ?_
   subst hr
   exact hs_fit an0 ⟨_,_,rfl,rfl⟩
  ·have hr:insertR l k1=FR:=hr
   unfold insertR at hr
   refine au_ an0 ?_
   (rcases hq:needR l ⟨#[105,110,116,111]⟩ k1 with ⟨u,k2⟩ | ⟨k2⟩;rotate_left;(focus (have hC:=pneed_r l hl en k1 ⟨#[105,110,116,111]⟩;rw [hq] at hr hC;subst hr;have hC:=SpR.bad hC;have hpn:=hpq _ rfl;refine rn_ 0 an0 fun K hK=>?_;refine rx_ an0 ?_;refine rwr_melt 36 36 ?_;exact pn_ 1000 an0 hC hpn));have hC:=pneed_r l hl en k1 ⟨#[105,110,116,111]⟩;rw [hq] at hr hC;(try dsimp only [PR.bind] at hr);have hC:=SpR.ok hC;(try simp only [vE_eta,vV,vCol] at hC);refine rn_ 0 an0 fun K hK=>?_;refine rx_ an0 ?_;refine rwr_melt 36 36 ?_;refine lk_ 1000 an0 hC ?_;refine rx_ an0 ?_;refine rwr_nil (hK _ ?_);clear hC hK K)
   refine gs_ ?_
   (rcases hq:nameR l k2 with ⟨nm,k3⟩ | ⟨k3⟩;rotate_left;(focus (have hC:=pname_r l hl en k2;rw [hq] at hr hC;subst hr;have hC:=SpR.bad hC;have hpn:=hpq _ rfl;refine dr_ 0 an0 fun K hK=>?_;refine dx_ an0 ?_;refine dpn_ 1000 an0 hC hpn ?_;refine dx_ an0 ?_;refine de_ (hK _ ?_);clear hK K;refine gs_ ?_;first | exact cw_stop (t:=41) | exact outQ_stop (t:=41) | exact hs_stop (t:=41)));have hC:=pname_r l hl en k2;rw [hq] at hr hC;(try dsimp only [PR.bind] at hr);have hC:=SpR.ok hC;(try simp only [vE_eta,vV,vCol] at hC);refine dr_ 0 an0 fun K hK=>?_;refine dx_ an0 ?_;refine dlk_ 1000 an0 hC ?_;refine dx_ an0 ?_;refine de_ (hK _ ?_);clear hC hK K)
   refine gs_ ?_
   (rcases hq:needR l ⟨#[118,97,108,117,101,115]⟩ k3 with ⟨u2,k4⟩ | ⟨k4⟩;rotate_left;(focus (have hC:=pneed_r l hl en k3 ⟨#[118,97,108,117,101,115]⟩;rw [hq] at hr hC;subst hr;have hC:=SpR.bad hC;have hpn:=hpq _ rfl;refine rn_ 0 an0 fun K hK=>?_;refine rx_ an0 ?_;refine rwr_melt 49 49 ?_;exact pn_ 1000 an0 hC hpn));have hC:=pneed_r l hl en k3 ⟨#[118,97,108,117,101,115]⟩;rw [hq] at hr hC;(try dsimp only [PR.bind] at hr);have hC:=SpR.ok hC;(try simp only [vE_eta,vV,vCol] at hC);refine rn_ 0 an0 fun K hK=>?_;refine rx_ an0 ?_;refine rwr_melt 49 49 ?_;refine lk_ 1000 an0 hC ?_;refine rx_ an0 ?_;refine rwr_nil (hK _ ?_);clear hC hK K)
   refine gs_ ?_
   refine gb_ 1000 12 130 24 3 ?_
   (rcases hq:listR l (mustR l) k4 with ⟨R,k5⟩ | ⟨k5⟩;rotate_left;(focus (have hC:=plistV_q l hl en k4 nm;rw [hq] at hr hC;subst hr;have hC:=SpPan.ren (SpQ.bad hC) [(1000,1000),(1001,1),(1002,130)] rfl;have hpn:=hpq _ rfl;refine rn_ 0 an0 fun K hK=>?_;refine rx_ an0 ?_;exact pio_ an0 hC hpn));have hC:=plistV_q l hl en k4 nm;rw [hq] at hr hC;(try dsimp only [PR.bind] at hr);have hC:=SpQ.ok hC;(try simp only [vE_eta,vV,vCol] at hC);refine rn_ 0 an0 fun K hK=>?_;refine rx_ an0 ?_;refine qio_ an0 (SpIO.ren hC [(1000,1000),(1001,1),(1002,130)] rfl) ?_;refine rx_ an0 ?_;refine rwr_nil (hK _ ?_);clear hC hK K)
   refine gs_ ?_
   refine hs_meltb 1000 12 130 ?_
   subst hr
   exact hs_fit (an2 litV_ lenV_) ⟨_,_,rfl,rfl⟩
  ·have hr:deleteR l k1=FR:=hr
   unfold deleteR at hr
   refine au_ an0 ?_
   (rcases hq:needR l ⟨#[102,114,111,109]⟩ k1 with ⟨u,k2⟩ | ⟨k2⟩;rotate_left;(focus (have hC:=pneed_r l hl en k1 ⟨#[102,114,111,109]⟩;rw [hq] at hr hC;subst hr;have hC:=SpR.bad hC;have hpn:=hpq _ rfl;refine rn_ 0 an0 fun K hK=>?_;refine rx_ an0 ?_;refine rwr_melt 57 57 ?_;exact pn_ 1000 an0 hC hpn));have hC:=pneed_r l hl en k1 ⟨#[102,114,111,109]⟩;rw [hq] at hr hC;(try dsimp only [PR.bind] at hr);have hC:=SpR.ok hC;(try simp only [vE_eta,vV,vCol] at hC);refine rn_ 0 an0 fun K hK=>?_;refine rx_ an0 ?_;refine rwr_melt 57 57 ?_;refine lk_ 1000 an0 hC ?_;refine rx_ an0 ?_;refine rwr_nil (hK _ ?_);clear hC hK K)
   refine gs_ ?_
   (rcases hq:nameR l k2 with ⟨nm,k3⟩ | ⟨k3⟩;rotate_left;(focus (have hC:=pname_r l hl en k2;rw [hq] at hr hC;subst hr;have hC:=SpR.bad hC;have hpn:=hpq _ rfl;refine dr_ 0 an0 fun K hK=>?_;refine dx_ an0 ?_;refine dpn_ 1000 an0 hC hpn ?_;refine dx_ an0 ?_;refine de_ (hK _ ?_);clear hK K;refine gs_ ?_;first | exact cw_stop (t:=62) | exact outQ_stop (t:=62) | exact hs_stop (t:=62)));have hC:=pname_r l hl en k2;rw [hq] at hr hC;(try dsimp only [PR.bind] at hr);have hC:=SpR.ok hC;(try simp only [vE_eta,vV,vCol] at hC);refine dr_ 0 an0 fun K hK=>?_;refine dx_ an0 ?_;refine dlk_ 1000 an0 hC ?_;refine dx_ an0 ?_;refine de_ (hK _ ?_);clear hC hK K)
   refine gs_ ?_
   (rcases hq:whereR l k3 with ⟨w,k4⟩ | ⟨k4⟩;rotate_left;(focus (have hC:=pwhere_q l hl en k3 (.t true (.lit (.int .i64 11))) (.t true (.lit (.string nm))) (.t false (.lit (.string .empty))) (.t false (.lit (.string .empty))) .nil (.t false (.lit (.int .i64 0))) (.t false (.lit (.int .i64 0))) (.t false (.lit (.int .i64 0))) (.t false (.lit (.string .empty))) .nil .nil (.t false (.lit (.int .i64 0))) (.t false (.lit (.int .i64 0))) (.t false (.lit (.int .i64 0))) (.t false (.lit (.string .empty))) (.t false (.lit (.string .empty))) .nil (.t false (.lit (.string .empty))) (.t false (.lit (.int .i64 0))) rfl;rw [hq] at hr hC;subst hr;have hC:=SpPan.ren (SpQ.bad hC) [(1000,1000)] rfl;have hpn:=hpq _ rfl;refine rn_ 0 an0 fun K hK=>?_;refine rx_ an0 ?_;exact pio_ an0 hC hpn));have hC:=pwhere_q l hl en k3 (.t true (.lit (.int .i64 11))) (.t true (.lit (.string nm))) (.t false (.lit (.string .empty))) (.t false (.lit (.string .empty))) .nil (.t false (.lit (.int .i64 0))) (.t false (.lit (.int .i64 0))) (.t false (.lit (.int .i64 0))) (.t false (.lit (.string .empty))) .nil .nil (.t false (.lit (.int .i64 0))) (.t false (.lit (.int .i64 0))) (.t false (.lit (.int .i64 0))) (.t false (.lit (.string .empty))) (.t false (.lit (.string .empty))) .nil (.t false (.lit (.string .empty))) (.t false (.lit (.int .i64 0))) rfl;rw [hq] at hr hC;(try dsimp only [PR.bind] at hr);have hC:=SpQ.ok hC;(try simp only [vE_eta,vV,vCol] at hC);refine rn_ 0 an0 fun K hK=>?_;refine rx_ an0 ?_;refine qio_ an0 (SpIO.ren hC [(1000,1000)] rfl) ?_;refine rx_ an0 ?_;refine rwr_nil (hK _ ?_);clear hC hK K)
   refine gs_ ?_
   subst hr
   exact hs_fit an0 ⟨_,_,rfl,rfl⟩
  ·have hr:updateR l k1=FR:=hr
   unfold updateR at hr
   refine au_ an0 ?_
   (rcases hq:nameR l k1 with ⟨nm,k2⟩ | ⟨k2⟩;rotate_left;(focus (have hC:=pname_r l hl en k1;rw [hq] at hr hC;subst hr;have hC:=SpR.bad hC;have hpn:=hpq _ rfl;refine dr_ 0 an0 fun K hK=>?_;refine dx_ an0 ?_;refine dpn_ 1000 an0 hC hpn ?_;refine dx_ an0 ?_;refine de_ (hK _ ?_);clear hK K;refine gs_ ?_;first | exact cw_stop (t:=76) | exact outQ_stop (t:=76) | exact hs_stop (t:=76)));have hC:=pname_r l hl en k1;rw [hq] at hr hC;(try dsimp only [PR.bind] at hr);have hC:=SpR.ok hC;(try simp only [vE_eta,vV,vCol] at hC);refine dr_ 0 an0 fun K hK=>?_;refine dx_ an0 ?_;refine dlk_ 1000 an0 hC ?_;refine dx_ an0 ?_;refine de_ (hK _ ?_);clear hC hK K)
   refine gs_ ?_
   (rcases hq:needR l ⟨#[115,101,116]⟩ k2 with ⟨u,k3⟩ | ⟨k3⟩;rotate_left;(focus (have hC:=pneed_r l hl en k2 ⟨#[115,101,116]⟩;rw [hq] at hr hC;subst hr;have hC:=SpR.bad hC;have hpn:=hpq _ rfl;refine rn_ 0 an0 fun K hK=>?_;refine rx_ an0 ?_;refine rwr_melt 84 84 ?_;exact pn_ 1000 an0 hC hpn));have hC:=pneed_r l hl en k2 ⟨#[115,101,116]⟩;rw [hq] at hr hC;(try dsimp only [PR.bind] at hr);have hC:=SpR.ok hC;(try simp only [vE_eta,vV,vCol] at hC);refine rn_ 0 an0 fun K hK=>?_;refine rx_ an0 ?_;refine rwr_melt 84 84 ?_;refine lk_ 1000 an0 hC ?_;refine rx_ an0 ?_;refine rwr_nil (hK _ ?_);clear hC hK K)
   refine gs_ ?_
   (rcases hq:nameR l k3 with ⟨cl,k4⟩ | ⟨k4⟩;rotate_left;(focus (have hC:=pname_r l hl en k3;rw [hq] at hr hC;subst hr;have hC:=SpR.bad hC;have hpn:=hpq _ rfl;refine dr_ 0 an0 fun K hK=>?_;refine dx_ an0 ?_;refine dpn_ 1000 an0 hC hpn ?_;refine dx_ an0 ?_;refine de_ (hK _ ?_);clear hK K;refine gs_ ?_;first | exact cw_stop (t:=88) | exact outQ_stop (t:=88) | exact hs_stop (t:=88)));have hC:=pname_r l hl en k3;rw [hq] at hr hC;(try dsimp only [PR.bind] at hr);have hC:=SpR.ok hC;(try simp only [vE_eta,vV,vCol] at hC);refine dr_ 0 an0 fun K hK=>?_;refine dx_ an0 ?_;refine dlk_ 1000 an0 hC ?_;refine dx_ an0 ?_;refine de_ (hK _ ?_);clear hC hK K)
   refine gs_ ?_
   (rcases hq:needR l ⟨#[61]⟩ k4 with ⟨u2,k5⟩ | ⟨k5⟩;rotate_left;(focus (have hC:=pneed_r l hl en k4 ⟨#[61]⟩;rw [hq] at hr hC;subst hr;have hC:=SpR.bad hC;have hpn:=hpq _ rfl;refine rn_ 0 an0 fun K hK=>?_;refine rx_ an0 ?_;refine rwr_melt 93 93 ?_;exact pn_ 1000 an0 hC hpn));have hC:=pneed_r l hl en k4 ⟨#[61]⟩;rw [hq] at hr hC;(try dsimp only [PR.bind] at hr);have hC:=SpR.ok hC;(try simp only [vE_eta,vV,vCol] at hC);refine rn_ 0 an0 fun K hK=>?_;refine rx_ an0 ?_;refine rwr_melt 93 93 ?_;refine lk_ 1000 an0 hC ?_;refine rx_ an0 ?_;refine rwr_nil (hK _ ?_);clear hC hK K)
   refine gs_ ?_
   (rcases hq:exR l 60 k5 with ⟨e,k6⟩ | ⟨k6⟩;rotate_left;(focus (have hC:=pexpr0 l hl en k5;rw [hq] at hr hC;subst hr;have hC:=SpR.bad hC;have hpn:=hpq _ rfl;refine dr_ 0 an0 fun K hK=>?_;refine dx_ an0 ?_;refine dpn6_ 1000 an0 hC hpn ?_;refine dx_ an0 ?_;refine de_ (hK _ ?_);clear hK K;refine gs_ ?_;first | exact cw_stop6 (t:=97) | exact outQ_stop (t:=97) | exact hs_stop (t:=97)));have hC:=pexpr0 l hl en k5;rw [hq] at hr hC;(try dsimp only [PR.bind] at hr);have hC:=SpR.ok hC;(try simp only [vE_eta,vV,vCol] at hC);refine dr_ 0 an0 fun K hK=>?_;refine dx_ an0 ?_;refine dlk_ 1000 an0 hC ?_;refine dx_ an0 ?_;refine de_ (hK _ ?_);clear hC hK K)
   refine gs_ ?_
   (rcases hq:whereR l k6 with ⟨w,k7⟩ | ⟨k7⟩;rotate_left;(focus (have hC:=pwhere_q l hl en k6 (.t true (.lit (.int .i64 12))) (.t true (.lit (.string nm))) (.t false (.lit (.string .empty))) (.t true (.lit (.string cl))) .nil (.t false (.lit (.int .i64 0))) (.t false (.lit (.int .i64 0))) (.t false (.lit (.int .i64 0))) (.t false (.lit (.string .empty))) .nil .nil (.t true (.lit (.int .i64 e.k))) (.t true (.lit (.int .i64 e.vk.k))) (.t true (.lit (.int .i64 e.vk.n))) (.t true (.lit (.string e.vk.s))) (.t true (.lit (.string e.nm))) (.t true (.sl (e.ar.map rE))) (.t false (.lit (.string .empty))) (.t false (.lit (.int .i64 0))) rfl;rw [hq] at hr hC;subst hr;have hC:=SpPan.ren (SpQ.bad hC) [(1000,1000)] rfl;have hpn:=hpq _ rfl;refine rn_ 0 an0 fun K hK=>?_;refine rx_ an0 ?_;exact pio_ an0 hC hpn));have hC:=pwhere_q l hl en k6 (.t true (.lit (.int .i64 12))) (.t true (.lit (.string nm))) (.t false (.lit (.string .empty))) (.t true (.lit (.string cl))) .nil (.t false (.lit (.int .i64 0))) (.t false (.lit (.int .i64 0))) (.t false (.lit (.int .i64 0))) (.t false (.lit (.string .empty))) .nil .nil (.t true (.lit (.int .i64 e.k))) (.t true (.lit (.int .i64 e.vk.k))) (.t true (.lit (.int .i64 e.vk.n))) (.t true (.lit (.string e.vk.s))) (.t true (.lit (.string e.nm))) (.t true (.sl (e.ar.map rE))) (.t false (.lit (.string .empty))) (.t false (.lit (.int .i64 0))) rfl;rw [hq] at hr hC;(try dsimp only [PR.bind] at hr);have hC:=SpQ.ok hC;(try simp only [vE_eta,vV,vCol] at hC);refine rn_ 0 an0 fun K hK=>?_;refine rx_ an0 ?_;refine qio_ an0 (SpIO.ren hC [(1000,1000)] rfl) ?_;refine rx_ an0 ?_;refine rwr_nil (hK _ ?_);clear hC hK K)
   refine gs_ ?_
   subst hr
   exact hs_fit an0 ⟨_,_,rfl,rfl⟩
  ·have hr:selectsR l k1=FR:=hr
   refine au_ an0 ?_
   (rcases hq:selectsR l k1 with ⟨c,k2⟩ | ⟨k2⟩;rotate_left;(focus (have hC:=pselects_q l hl en k1;rw [hq] at hr hC;subst hr;have hC:=SpPan.ren (SpQ.bad hC) [(1000,1000)] rfl;have hpn:=hpq _ rfl;refine rn_ 0 an0 fun K hK=>?_;refine rx_ an0 ?_;exact pio_ an0 hC hpn));have hC:=pselects_q l hl en k1;rw [hq] at hr hC;(try dsimp only [PR.bind] at hr);have hC:=SpQ.ok hC;(try simp only [vE_eta,vV,vCol] at hC);refine rn_ 0 an0 fun K hK=>?_;refine rx_ an0 ?_;refine qio_ an0 (SpIO.ren hC [(1000,1000)] rfl) ?_;refine rx_ an0 ?_;refine rwr_nil (hK _ ?_);clear hC hK K)
   refine gs_ ?_
   subst hr
   exact hs_fit an0 ⟨_,_,rfl,rfl⟩
  ·have hr:PR.ok { zCm with k:=14 } k1=FR:=hr
   refine au_ an0 ?_
   refine gs_ ?_
   subst hr
   exact hs_fit an0 ⟨_,_,rfl,rfl⟩
  ·have hr:PR.ok { zCm with k:=15 } k1=FR:=hr
   refine au_ an0 ?_
   refine gs_ ?_
   subst hr
   exact hs_fit an0 ⟨_,_,rfl,rfl⟩
  ·have hr:PR.ok { zCm with k:=16 } k1=FR:=hr
   refine au_ an0 ?_
   refine gs_ ?_
   subst hr
   exact hs_fit an0 ⟨_,_,rfl,rfl⟩
 ·rintro sM ⟨c,k2,rfl,rfl⟩
  clear hF
  dsimp only [PR.bind] at hr
  have hF:=pfail_l l en k2
  unfold paH at hF
  unfold cdS
  cases hd:decide (k2 < l.length) with
  | true =>
   rw [hd] at hr
   dsimp only [cond] at hr
   subst hr
   have e1:decide ((k2:Int) < (l.length:Int))=true:=by simp at hd ⊢;omega
   have hpn:=hpq _ rfl
   refine au_ e1 ?_
   (refine rn_ 0 an0 fun K hK=>?_;refine rx_ an0 ?_;exact pn_ 1000 an0 (hF) hpn)
  | false =>
   rw [hd] at hr
   dsimp only [cond] at hr
   have e1:decide ((k2:Int) < (l.length:Int))=false:=by simp at hd ⊢;omega
   refine au_ e1 ?_
   (subst hr;refine okq_ (by intro c h;cases h) ?_;(try simp only [vE_eta,vV,vCol,cmC,zE,zCm,Ex.k,Ex.vk,Ex.nm,Ex.ar,List.map_cons,List.map_nil,rE_eta,Vl.zero]))
   exact oj_ an0 (.inr rfl)
end Go.Proofs.YtjdgejfhnfnmgaaGreatDoor.Ax
