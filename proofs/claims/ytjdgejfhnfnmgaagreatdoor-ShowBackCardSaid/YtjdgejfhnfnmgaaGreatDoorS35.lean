/-  -/
import Derived.Test.YtjdgejfhnfnmgaaGreatDoorS19
import Derived.Test.YtjdgejfhnfnmgaaGreatDoorS34
import Derived.Recover
namespace Go.Proofs.YtjdgejfhnfnmgaaGreatDoor
def bodyK (l:List Vl) (k:Nat):PR Cm:=(wordR l wCmds k).bind fun i k=>bodyR l i k
def cmdK (l:List Vl) (k:Nat):PR Cm:=(bodyK l k).bind fun c k=>bif decide (k < l.length) then .bad k else .ok c k
theorem cmdR_eq (l:List Vl):cmdR l=cmdK l 0:=by
 unfold cmdR cmdK bodyK
 rw [PR.bind_assoc]
end Go.Proofs.YtjdgejfhnfnmgaaGreatDoor
namespace Go.Proofs.YtjdgejfhnfnmgaaGreatDoor.Ax
open Go.RowKit Go.Sort
set_option linter.unusedSimpArgs false
attribute [local go_sem] ty3 ty4 ty9 ty5 ty26 ty24 ty29 ty27 ty54 ty22 ty25 ty31 ty77 ty43 ty67 ty65 wCmds zC cmC zCm zE crC stopV
set_option linter.unusedVariables false
set_option maxRecDepth 100000
def stop6:V:=.agg [.t true (.lit (.agg #[])),.t true (.lit (.agg #[])),.t true (.lit (.agg #[])),.t true (.lit (.agg #[])),.t true (.lit (.agg #[])),.t true (.lit (.agg #[]))]
attribute [local go_sem] stop6
def cdS (l:List Vl) (en:Int) (k:Nat) (c:Cm):St:=⟨[(1,.one (.optr 1 0))],[(1,.var 65 [.optr 1000 0]),(1000,.var 67 ([.t false (.sl (rVs l)),.t false (.lit (.int .i64 k)),.t false (.lit (.int .i64 en))]++cmC c))]⟩
attribute [local go_sem] cdS
section
variable {P:Program} {X:Cx} {st st0 S s:St} {Q:Exit→St→Prop} {c:Code} {l:List Oper} {ops:Array Oper} {o:Oper} {K:St→Prop} {k:Nat} {F:List Lf} {E:List Le} {pr:List (Nat × Nat)} {ρ:Nat→R} {a:Act} {w:World}
theorem stepP_any {D:Delta} (h:StepP P X st o (.pure stopV)):StepP P X st o D:=fun hd ρ a w hH K Q hK hQ=>h hd ρ a w hH K Q (fun x ρ' w' ho=>(stop_no ho.2.2).elim) hQ
theorem hold_stop6 (hH:Hold X st ρ a w) {t:Nat} (h:get t st.sl=some stop6):False:=by
 obtain ⟨x,_,h2⟩:=hH.slots t _ h
 unfold stop6 RdV at h2
 obtain ⟨xs,_,h3⟩:=h2
 obtain ⟨y,_,h5⟩:=rdCs_at (j:=0) h3 rfl
 unfold RdC RdT at h5
 have:=h5.2
 cases this
theorem cw_stop6 {t:Nat} (h:get t st.sl=some stop6:=by rfl):CW P X c Q st:=fun ρ a w hH=>(hold_stop6 hH h).elim
theorem dpn6_ (b:Nat) {f:Prop} (hf:f) {r:Cd} {c:Call} {cv:Operand} {g:FuncId} {args args2 as_:List V} {e:TypeId} {hc hc2 cells tl:List C} {ch:List PanicEntry} {mk:Bool} {m:Nat} (hsp:SpPL P g args e hc ch m) (hpan:X.pan ch) (h:DW P X ops st0 K r)
  (hop:o.op=.call c:=by exact rfl) (hcal:c.callee=.value cv:=by exact rfl) (ha:V.onlys [1000] args=true:=by rfl) (hn:C.onlys [1000] hc=true:=by rfl) (ha2:V.rens [(1000,b)] args=args2:=by exact rfl) (hc2':C.rens [(1000,b)] hc=hc2:=by exact rfl)
  (hcl:f→callIO [b] ⟨rdT S.sl (Oper.looksAt ops o),S.bl⟩ 40 cv c.args.toList=some (g,mk,as_):=by intro hf;simp only [go_sem,hf] <;> exact rfl) (hle:f→vsLe args2 as_:=by intro hf;simp only [go_sem,hf] <;> fail) (hb:get b S.bl=some (.var e cells):=by simp only [go_sem];exact rfl) (hl:cells.drop hc.length=tl:=by simp only [List.length_cons,List.length_nil,Nat.reduceAdd,List.drop_succ_cons,List.drop_zero];exact rfl) (hk:tl.length=m:=by first | rfl | (unfold lits;rw [List.length_map];assumption)) (hcs:f→csLe hc2 (cells.take hc.length):=by intro hf;simp only [go_sem,List.length_cons,List.length_nil,List.take_succ_cons,List.take_zero,hf] <;> fail) (hon:C.onlys [b] hc2=true:=by rfl)
  (hg:f→guardOf ⟨rdT S.sl (Oper.looksAt ops o),S.bl⟩ ops o=some true:=by intro hf;simp only [go_sem,hf] <;> fail) (hd:dstOk X.n o.dst=true:=by rw [hX];rfl) (hr:f→contD P X.n 0 ops l k (nextE k S F E pr o.dst (.pure stop6))=r:=by intro hf;simp (maxSteps:=5000000) only [go_sem,hf,hX];exact rfl):DW P X ops st0 K ⟨o :: l,k,S,F,E,pr⟩:=fun hb'=>by
 have hr:=hr hf
 subst hr
 exact dw_run (m:=0) h (db_ef (R:=⟨rdT S.sl (Oper.looksAt ops o),S.bl⟩) hb' hd (fun t u h=>rdT_get h) (fun t b h=>h) (.inl ⟨hg hf,stepP_any <| pan_step (st:=⟨rdT S.sl (Oper.looksAt ops o),S.bl⟩) b hsp hop hcal ha hn ha2 hc2' (hcl hf) (hle hf) hb hl hk (hcs hf) hon hpan⟩))
end
set_option maxHeartbeats 64000000 in
theorem pcommand_q (l:List Vl) (hl:GoodL l) (en:Int) (k:Nat) :
  SpQ Tryz.prog 65 [.one (.optr 1000 0)] [(1000,.var 67 ([.t false (.sl (rVs l)),.t false (.lit (.int .i64 k)),.t false (.lit (.int .i64 en))]++zC))]
   (cmdK l k) (fun _=>.tup []) (fun c k2=>[(1000,.var 67 ([.t false (.sl (rVs l)),.t false (.lit (.int .i64 k2)),.t false (.lit (.int .i64 en))]++cmC c))]) [1000] (chP l en):=by
 have hll:=hl.len
 generalize hr:cmdK l k=r
 unfold cmdK at hr
 unfold zC
 (refine eq_ Tryz.func65 Tryz.ntmps65 Tryz.results65 fun X hX hpq=>?_)
 refine gs_ ?_
 refine au_ an0 ?_
 generalize hF:bodyK l k=FR at hr
 unfold bodyK at hF
 refine cw_meet2S (fun sM=>∃ c k2,FR=.ok c k2∧sM=cdS l en k2 c) ?_ ?_
 ·have hpq:∀ k,FR=.bad k→X.pan (chP l en k):=fun k h=>hpq k (by rw [← hr,h];rfl)
  clear hr
  have hr:=hF
  clear hF
  (rcases hq:wordR l wCmds k with ⟨i,k1⟩ | ⟨k1⟩;rotate_left;(focus (have hC:=pone_r l hl en k wCmds (by decide);rw [hq] at hr hC;subst hr;have hC:=SpR.bad hC;have hpn:=hpq _ rfl;refine rn_ 0 an0 fun K hK=>?_;refine rx_ an0 ?_;refine rwr_melt 3 3 ?_;exact pn_ 1000 an0 hC hpn));have hC:=pone_r l hl en k wCmds (by decide);rw [hq] at hr hC;(try dsimp only [PR.bind] at hr);have hC:=SpR.ok hC;(try simp only [vE_eta,vV,vCol] at hC);refine rn_ 0 an0 fun K hK=>?_;refine rx_ an0 ?_;refine rwr_melt 3 3 ?_;refine lk_ 1000 an0 hC ?_;refine rx_ an0 ?_;refine rwr_nil (hK _ ?_);clear hC hK K)
  have h10:=wordR_lt hq
  have h10:0≤i∧i < 10:=h10
  refine gs_ ?_
  obtain rfl | rfl | rfl | rfl | rfl | rfl | rfl | rfl | rfl | rfl:i=0 ∨ i=1 ∨ i=2 ∨ i=3 ∨ i=4 ∨ i=5 ∨ i=6 ∨ i=7 ∨ i=8 ∨ i=9:=by omega
  ·have hr:createR l k1=FR:=hr
   refine au_ an0 ?_
   (rcases hq:createR l k1 with ⟨c,k2⟩ | ⟨k2⟩;rotate_left;(focus (have hC:=pcreate_q l hl en k1;rw [hq] at hr hC;subst hr;have hC:=SpPan.ren (SpQ.bad hC) [(1000,1000)] rfl;have hpn:=hpq _ rfl;refine rn_ 0 an0 fun K hK=>?_;refine rx_ an0 ?_;exact pio_ an0 hC hpn));have hC:=pcreate_q l hl en k1;rw [hq] at hr hC;(try dsimp only [PR.bind] at hr);have hC:=SpQ.ok hC;(try simp only [vE_eta,vV,vCol] at hC);refine rn_ 0 an0 fun K hK=>?_;refine rx_ an0 ?_;refine qio_ an0 (SpIO.ren hC [(1000,1000)] rfl) ?_;refine rx_ an0 ?_;refine rwr_nil (hK _ ?_);clear hC hK K)
   refine gs_ ?_
   subst hr
   exact hs_fit an0 ⟨_,_,rfl,rfl⟩
  ·have hr:dropR l k1=FR:=hr
   unfold dropR at hr
   refine au_ an0 ?_
   (rcases hq:wordR l [⟨#[116,97,98,108,101]⟩,⟨#[105,110,100,101,120]⟩] k1 with ⟨j,k2⟩ | ⟨k2⟩;rotate_left;(focus (have hC:=pone_r l hl en k1 [⟨#[116,97,98,108,101]⟩,⟨#[105,110,100,101,120]⟩] (by decide);rw [hq] at hr hC;subst hr;have hC:=SpR.bad hC;have hpn:=hpq _ rfl;refine rn_ 0 an0 fun K hK=>?_;refine rx_ an0 ?_;refine rwr_melt 16 16 ?_;exact pn_ 1000 an0 hC hpn));have hC:=pone_r l hl en k1 [⟨#[116,97,98,108,101]⟩,⟨#[105,110,100,101,120]⟩] (by decide);rw [hq] at hr hC;(try dsimp only [PR.bind] at hr);have hC:=SpR.ok hC;(try simp only [vE_eta,vV,vCol] at hC);refine rn_ 0 an0 fun K hK=>?_;refine rx_ an0 ?_;refine rwr_melt 16 16 ?_;refine lk_ 1000 an0 hC ?_;refine rx_ an0 ?_;refine rwr_nil (hK _ ?_);clear hC hK K)
   cases c1:(j==1) with
   | true =>
    rw [c1] at hr
    dsimp only [cond] at hr
    refine au_ c1 ?_
    (rcases hq:nameR l k2 with ⟨nm,k3⟩ | ⟨k3⟩;rotate_left;(focus (have hC:=pname_r l hl en k2;rw [hq] at hr hC;subst hr;have hC:=SpR.bad hC;have hpn:=hpq _ rfl;refine dr_ 0 an0 fun K hK=>?_;refine dx_ an0 ?_;refine dpn_ 1000 an0 hC hpn ?_;refine dx_ an0 ?_;refine de_ (hK _ ?_);clear hK K;refine gs_ ?_;first | exact cw_stop (t:=25) | exact outQ_stop (t:=25) | exact hs_stop (t:=25)));have hC:=pname_r l hl en k2;rw [hq] at hr hC;(try dsimp only [PR.bind] at hr);have hC:=SpR.ok hC;(try simp only [vE_eta,vV,vCol] at hC);refine dr_ 0 an0 fun K hK=>?_;refine dx_ an0 ?_;refine dlk_ 1000 an0 hC ?_;refine dx_ an0 ?_;refine de_ (hK _ ?_);clear hC hK K)
    refine gs_ ?_
    subst hr
    exact hs_fit an0 ⟨_,_,rfl,rfl⟩
   | false =>
    rw [c1] at hr
    dsimp only [cond] at hr
    refine au_ c1 ?_
    (rcases hq:nameR l k2 with ⟨nm,k3⟩ | ⟨k3⟩;rotate_left;(focus (have hC:=pname_r l hl en k2;rw [hq] at hr hC;subst hr;have hC:=SpR.bad hC;have hpn:=hpq _ rfl;refine dr_ 0 an0 fun K hK=>?_;refine dx_ an0 ?_;refine dpn_ 1000 an0 hC hpn ?_;refine dx_ an0 ?_;refine de_ (hK _ ?_);clear hK K;refine gs_ ?_;first | exact cw_stop (t:=25) | exact outQ_stop (t:=25) | exact hs_stop (t:=25)));have hC:=pname_r l hl en k2;rw [hq] at hr hC;(try dsimp only [PR.bind] at hr);have hC:=SpR.ok hC;(try simp only [vE_eta,vV,vCol] at hC);refine dr_ 0 an0 fun K hK=>?_;refine dx_ an0 ?_;refine dlk_ 1000 an0 hC ?_;refine dx_ an0 ?_;refine de_ (hK _ ?_);clear hC hK K)
    refine gs_ ?_
    subst hr
    exact hs_fit an0 ⟨_,_,rfl,rfl⟩
  ·have hr:alterR l k1=FR:=hr
   refine au_ an0 ?_
   (rcases hq:alterR l k1 with ⟨c,k2⟩ | ⟨k2⟩;rotate_left;(focus (have hC:=palter_q l hl en k1;rw [hq] at hr hC;subst hr;have hC:=SpPan.ren (SpQ.bad hC) [(1000,1000)] rfl;have hpn:=hpq _ rfl;refine rn_ 0 an0 fun K hK=>?_;refine rx_ an0 ?_;exact pio_ an0 hC hpn));have hC:=palter_q l hl en k1;rw [hq] at hr hC;(try dsimp only [PR.bind] at hr);have hC:=SpQ.ok hC;(try simp only [vE_eta,vV,vCol] at hC);refine rn_ 0 an0 fun K hK=>?_;refine rx_ an0 ?_;refine qio_ an0 (SpIO.ren hC [(1000,1000)] rfl) ?_;refine rx_ an0 ?_;refine rwr_nil (hK _ ?_);clear hC hK K)
   refine gs_ ?_
   subst hr
   exact hs_fit an0 ⟨_,_,rfl,rfl⟩
  ·have hr:insertR l k1=FR:=hr
   unfold insertR at hr
   refine au_ an0 ?_
   (rcases hq:needR l ⟨#[105,110,116,111]⟩ k1 with ⟨u,k2⟩ | ⟨k2⟩;rotate_left;(focus (have hC:=pneed_r l hl en k1 ⟨#[105,110,116,111]⟩;rw [hq] at hr hC;subst hr;have hC:=SpR.bad hC;have hpn:=hpq _ rfl;refine rn_ 0 an0 fun K hK=>?_;refine rx_ an0 ?_;refine rwr_melt 36 36 ?_;exact pn_ 1000 an0 hC hpn));have hC:=pneed_r l hl en k1 ⟨#[105,110,116,111]⟩;rw [hq] at hr hC;(try dsimp only [PR.bind] at hr);have hC:=SpR.ok hC;(try simp only [vE_eta,vV,vCol] at hC);refine rn_ 0 an0 fun K hK=>?_;refine rx_ an0 ?_;refine rwr_melt 36 36 ?_;refine lk_ 1000 an0 hC ?_;refine rx_ an0 ?_;refine rwr_nil (hK _ ?_);clear hC hK K)
   refine gs_ ?_
   (rcases hq:nameR l k2 with ⟨nm,k3⟩ | ⟨k3⟩;rotate_left;(focus (have hC:=pname_r l hl en k2;rw [hq] at hr hC;subst hr;have hC:=SpR.bad hC;have hpn:=hpq _ rfl;refine dr_ 0 an0 fun K hK=>?_;refine dx_ an0 ?_;refine dpn_ 1000 an0 hC hpn ?_;refine dx_ an0 ?_;refine de_ (hK _ ?_);clear hK K;refine gs_ ?_;first | exact cw_stop (t:=41) | exact outQ_stop (t:=41) | exact hs_stop (t:=41)));have hC:=pname_r l hl en k2;rw [hq] at hr hC;(try dsimp only [PR.bind] at hr);have hC:=SpR.ok hC;(try simp only [vE_eta,vV,vCol] at hC);refine dr_ 0 an0 fun K hK=>?_;refine dx_ an0 ?_;refine dlk_ 1000 an0 hC ?_;refine dx_ an0 ?_;refine de_ (hK _ ?_);clear hC hK K)
   refine gs_ ?_
   (rcases hq:needR l ⟨#[118,97,108,117,101,115]⟩ k3 with ⟨u2,k4⟩ | ⟨k4⟩;rotate_left;(focus (have hC:=pneed_r l hl en k3 ⟨#[118,97,108,117,101,115]⟩;rw [hq] at hr hC;subst hr;have hC:=SpR.bad hC;have hpn:=hpq _ rfl;refine rn_ 0 an0 fun K hK=>?_;refine rx_ an0 ?_;refine rwr_melt 49 49 ?_;exact pn_ 1000 an0 hC hpn));have hC:=pneed_r l hl en k3 ⟨#[118,97,108,117,101,115]⟩;rw [hq] at hr hC;(try dsimp only [PR.bind] at hr);have hC:=SpR.ok hC;(try simp only [vE_eta,vV,vCol] at hC);refine rn_ 0 an0 fun K hK=>?_;refine rx_ an0 ?_;refine rwr_melt 49 49 ?_;refine lk_ 1000 an0 hC ?_;refine rx_ an0 ?_;refine rwr_nil (hK _ ?_);clear hC hK K)
   refine gs_ ?_
   refine gb_ 1000 12 130 24 3 ?_
   (rcases hq:listR l (mustR l) k4 with ⟨R,k5⟩ | ⟨k5⟩;rotate_left;(focus (have hC:=plistV_q l hl en k4 nm;rw [hq] at hr hC;subst hr;have hC:=SpPan.ren (SpQ.bad hC) [(1000,1000),(1001,1),(1002,130)] rfl;have hpn:=hpq _ rfl;refine rn_ 0 an0 fun K hK=>?_;refine rx_ an0 ?_;exact pio_ an0 hC hpn));have hC:=plistV_q l hl en k4 nm;rw [hq] at hr hC;(try dsimp only [PR.bind] at hr);have hC:=SpQ.ok hC;(try simp only [vE_eta,vV,vCol] at hC);refine rn_ 0 an0 fun K hK=>?_;refine rx_ an0 ?_;refine qio_ an0 (SpIO.ren hC [(1000,1000),(1001,1),(1002,130)] rfl) ?_;refine rx_ an0 ?_;refine rwr_nil (hK _ ?_);clear hC hK K)
   refine gs_ ?_
   refine hs_meltb 1000 12 130 ?_
   subst hr
   exact hs_fit (an2 litV_ lenV_) ⟨_,_,rfl,rfl⟩
  ·have hr:deleteR l k1=FR:=hr
   unfold deleteR at hr
   refine au_ an0 ?_
   (rcases hq:needR l ⟨#[102,114,111,109]⟩ k1 with ⟨u,k2⟩ | ⟨k2⟩;rotate_left;(focus (have hC:=pneed_r l hl en k1 ⟨#[102,114,111,109]⟩;rw [hq] at hr hC;subst hr;have hC:=SpR.bad hC;have hpn:=hpq _ rfl;refine rn_ 0 an0 fun K hK=>?_;refine rx_ an0 ?_;refine rwr_melt 57 57 ?_;exact pn_ 1000 an0 hC hpn));have hC:=pneed_r l hl en k1 ⟨#[102,114,111,109]⟩;rw [hq] at hr hC;(try dsimp only [PR.bind] at hr);have hC:=SpR.ok hC;(try simp only [vE_eta,vV,vCol] at hC);refine rn_ 0 an0 fun K hK=>?_;refine rx_ an0 ?_;refine rwr_melt 57 57 ?_;refine lk_ 1000 an0 hC ?_;refine rx_ an0 ?_;refine rwr_nil (hK _ ?_);clear hC hK K)
   refine gs_ ?_
   (rcases hq:nameR l k2 with ⟨nm,k3⟩ | ⟨k3⟩;rotate_left;(focus (have hC:=pname_r l hl en k2;rw [hq] at hr hC;subst hr;have hC:=SpR.bad hC;have hpn:=hpq _ rfl;refine dr_ 0 an0 fun K hK=>?_;refine dx_ an0 ?_;refine dpn_ 1000 an0 hC hpn ?_;refine dx_ an0 ?_;refine de_ (hK _ ?_);clear hK K;refine gs_ ?_;first | exact cw_stop (t:=62) | exact outQ_stop (t:=62) | exact hs_stop (t:=62)));have hC:=pname_r l hl en k2;rw [hq] at hr hC;(try dsimp only [PR.bind] at hr);have hC:=SpR.ok hC;(try simp only [vE_eta,vV,vCol] at hC);refine dr_ 0 an0 fun K hK=>?_;refine dx_ an0 ?_;refine dlk_ 1000 an0 hC ?_;refine dx_ an0 ?_;refine de_ (hK _ ?_);clear hC hK K)
   refine gs_ ?_
   (rcases hq:whereR l k3 with ⟨w,k4⟩ | ⟨k4⟩;rotate_left;(focus (have hC:=pwhere_q l hl en k3 (.t true (.lit (.int .i64 11))) (.t true (.lit (.string nm))) (.t false (.lit (.string .empty))) (.t false (.lit (.string .empty))) .nil (.t false (.lit (.int .i64 0))) (.t false (.lit (.int .i64 0))) (.t false (.lit (.int .i64 0))) (.t false (.lit (.string .empty))) .nil .nil (.t false (.lit (.int .i64 0))) (.t false (.lit (.int .i64 0))) (.t false (.lit (.int .i64 0))) (.t false (.lit (.string .empty))) (.t false (.lit (.string .empty))) .nil (.t false (.lit (.string .empty))) (.t false (.lit (.int .i64 0))) rfl;rw [hq] at hr hC;subst hr;have hC:=SpPan.ren (SpQ.bad hC) [(1000,1000)] rfl;have hpn:=hpq _ rfl;refine rn_ 0 an0 fun K hK=>?_;refine rx_ an0 ?_;exact pio_ an0 hC hpn));have hC:=pwhere_q l hl en k3 (.t true (.lit (.int .i64 11))) (.t true (.lit (.string nm))) (.t false (.lit (.string .empty))) (.t false (.lit (.string .empty))) .nil (.t false (.lit (.int .i64 0))) (.t false (.lit (.int .i64 0))) (.t false (.lit (.int .i64 0))) (.t false (.lit (.string .empty))) .nil .nil (.t false (.lit (.int .i64 0))) (.t false (.lit (.int .i64 0))) (.t false (.lit (.int .i64 0))) (.t false (.lit (.string .empty))) (.t false (.lit (.string .empty))) .nil (.t false (.lit (.string .empty))) (.t false (.lit (.int .i64 0))) rfl;rw [hq] at hr hC;(try dsimp only [PR.bind] at hr);have hC:=SpQ.ok hC;(try simp only [vE_eta,vV,vCol] at hC);refine rn_ 0 an0 fun K hK=>?_;refine rx_ an0 ?_;refine qio_ an0 (SpIO.ren hC [(1000,1000)] rfl) ?_;refine rx_ an0 ?_;refine rwr_nil (hK _ ?_);clear hC hK K)
   refine gs_ ?_
   subst hr
   exact hs_fit an0 ⟨_,_,rfl,rfl⟩
  ·have hr:updateR l k1=FR:=hr
   unfold updateR at hr
   refine au_ an0 ?_
   (rcases hq:nameR l k1 with ⟨nm,k2⟩ | ⟨k2⟩;rotate_left;(focus (have hC:=pname_r l hl en k1;rw [hq] at hr hC;subst hr;have hC:=SpR.bad hC;have hpn:=hpq _ rfl;refine dr_ 0 an0 fun K hK=>?_;refine dx_ an0 ?_;refine dpn_ 1000 an0 hC hpn ?_;refine dx_ an0 ?_;refine de_ (hK _ ?_);clear hK K;refine gs_ ?_;first | exact cw_stop (t:=76) | exact outQ_stop (t:=76) | exact hs_stop (t:=76)));have hC:=pname_r l hl en k1;rw [hq] at hr hC;(try dsimp only [PR.bind] at hr);have hC:=SpR.ok hC;(try simp only [vE_eta,vV,vCol] at hC);refine dr_ 0 an0 fun K hK=>?_;refine dx_ an0 ?_;refine dlk_ 1000 an0 hC ?_;refine dx_ an0 ?_;refine de_ (hK _ ?_);clear hC hK K)
   refine gs_ ?_
   (rcases hq:needR l ⟨#[115,101,116]⟩ k2 with ⟨u,k3⟩ | ⟨k3⟩;rotate_left;(focus (have hC:=pneed_r l hl en k2 ⟨#[115,101,116]⟩;rw [hq] at hr hC;subst hr;have hC:=SpR.bad hC;have hpn:=hpq _ rfl;refine rn_ 0 an0 fun K hK=>?_;refine rx_ an0 ?_;refine rwr_melt 84 84 ?_;exact pn_ 1000 an0 hC hpn));have hC:=pneed_r l hl en k2 ⟨#[115,101,116]⟩;rw [hq] at hr hC;(try dsimp only [PR.bind] at hr);have hC:=SpR.ok hC;(try simp only [vE_eta,vV,vCol] at hC);refine rn_ 0 an0 fun K hK=>?_;refine rx_ an0 ?_;refine rwr_melt 84 84 ?_;refine lk_ 1000 an0 hC ?_;refine rx_ an0 ?_;refine rwr_nil (hK _ ?_);clear hC hK K)
   refine gs_ ?_
   (rcases hq:nameR l k3 with ⟨cl,k4⟩ | ⟨k4⟩;rotate_left;(focus (have hC:=pname_r l hl en k3;rw [hq] at hr hC;subst hr;have hC:=SpR.bad hC;have hpn:=hpq _ rfl;refine dr_ 0 an0 fun K hK=>?_;refine dx_ an0 ?_;refine dpn_ 1000 an0 hC hpn ?_;refine dx_ an0 ?_;refine de_ (hK _ ?_);clear hK K;refine gs_ ?_;first | exact cw_stop (t:=88) | exact outQ_stop (t:=88) | exact hs_stop (t:=88)));have hC:=pname_r l hl en k3;rw [hq] at hr hC;(try dsimp only [PR.bind] at hr);have hC:=SpR.ok hC;(try simp only [vE_eta,vV,vCol] at hC);refine dr_ 0 an0 fun K hK=>?_;refine dx_ an0 ?_;refine dlk_ 1000 an0 hC ?_;refine dx_ an0 ?_;refine de_ (hK _ ?_);clear hC hK K)
   refine gs_ ?_
   (rcases hq:needR l ⟨#[61]⟩ k4 with ⟨u2,k5⟩ | ⟨k5⟩;rotate_left;(focus (have hC:=pneed_r l hl en k4 ⟨#[61]⟩;rw [hq] at hr hC;subst hr;have hC:=SpR.bad hC;have hpn:=hpq _ rfl;refine rn_ 0 an0 fun K hK=>?_;refine rx_ an0 ?_;refine rwr_melt 93 93 ?_;exact pn_ 1000 an0 hC hpn));have hC:=pneed_r l hl en k4 ⟨#[61]⟩;rw [hq] at hr hC;(try dsimp only [PR.bind] at hr);have hC:=SpR.ok hC;(try simp only [vE_eta,vV,vCol] at hC);refine rn_ 0 an0 fun K hK=>?_;refine rx_ an0 ?_;refine rwr_melt 93 93 ?_;refine lk_ 1000 an0 hC ?_;refine rx_ an0 ?_;refine rwr_nil (hK _ ?_);clear hC hK K)
   refine gs_ ?_
   (rcases hq:exR l 60 k5 with ⟨e,k6⟩ | ⟨k6⟩;rotate_left;(focus (have hC:=pexpr0 l hl en k5;rw [hq] at hr hC;subst hr;have hC:=SpR.bad hC;have hpn:=hpq _ rfl;refine dr_ 0 an0 fun K hK=>?_;refine dx_ an0 ?_;refine dpn6_ 1000 an0 hC hpn ?_;refine dx_ an0 ?_;refine de_ (hK _ ?_);clear hK K;refine gs_ ?_;first | exact cw_stop6 (t:=97) | exact outQ_stop (t:=97) | exact hs_stop (t:=97)));have hC:=pexpr0 l hl en k5;rw [hq] at hr hC;(try dsimp only [PR.bind] at hr);have hC:=SpR.ok hC;(try simp only [vE_eta,vV,vCol] at hC);refine dr_ 0 an0 fun K hK=>?_;refine dx_ an0 ?_;refine dlk_ 1000 an0 hC ?_;refine dx_ an0 ?_;refine de_ (hK _ ?_);clear hC hK K)
   refine gs_ ?_
   (rcases hq:whereR l k6 with ⟨w,k7⟩ | ⟨k7⟩;rotate_left;(focus (have hC:=pwhere_q l hl en k6 (.t true (.lit (.int .i64 12))) (.t true (.lit (.string nm))) (.t false (.lit (.string .empty))) (.t true (.lit (.string cl))) .nil (.t false (.lit (.int .i64 0))) (.t false (.lit (.int .i64 0))) (.t false (.lit (.int .i64 0))) (.t false (.lit (.string .empty))) .nil .nil (.t true (.lit (.int .i64 e.k))) (.t true (.lit (.int .i64 e.vk.k))) (.t true (.lit (.int .i64 e.vk.n))) (.t true (.lit (.string e.vk.s))) (.t true (.lit (.string e.nm))) (.t true (.sl (e.ar.map rE))) (.t false (.lit (.string .empty))) (.t false (.lit (.int .i64 0))) rfl;rw [hq] at hr hC;subst hr;have hC:=SpPan.ren (SpQ.bad hC) [(1000,1000)] rfl;have hpn:=hpq _ rfl;refine rn_ 0 an0 fun K hK=>?_;refine rx_ an0 ?_;exact pio_ an0 hC hpn));have hC:=pwhere_q l hl en k6 (.t true (.lit (.int .i64 12))) (.t true (.lit (.string nm))) (.t false (.lit (.string .empty))) (.t true (.lit (.string cl))) .nil (.t false (.lit (.int .i64 0))) (.t false (.lit (.int .i64 0))) (.t false (.lit (.int .i64 0))) (.t false (.lit (.string .empty))) .nil .nil (.t true (.lit (.int .i64 e.k))) (.t true (.lit (.int .i64 e.vk.k))) (.t true (.lit (.int .i64 e.vk.n))) (.t true (.lit (.string e.vk.s))) (.t true (.lit (.string e.nm))) (.t true (.sl (e.ar.map rE))) (.t false (.lit (.string .empty))) (.t false (.lit (.int .i64 0))) rfl;rw [hq] at hr hC;(try dsimp only [PR.bind] at hr);have hC:=SpQ.ok hC;(try simp only [vE_eta,vV,vCol] at hC);refine rn_ 0 an0 fun K hK=>?_;refine rx_ an0 ?_;refine qio_ an0 (SpIO.ren hC [(1000,1000)] rfl) ?_;refine rx_ an0 ?_;refine rwr_nil (hK _ ?_);clear hC hK K)
   refine gs_ ?_
   subst hr
   exact hs_fit an0 ⟨_,_,rfl,rfl⟩
  ·have hr:selectsR l k1=FR:=hr
   refine au_ an0 ?_
   (rcases hq:selectsR l k1 with ⟨c,k2⟩ | ⟨k2⟩;rotate_left;(focus (have hC:=pselects_q l hl en k1;rw [hq] at hr hC;subst hr;have hC:=SpPan.ren (SpQ.bad hC) [(1000,1000)] rfl;have hpn:=hpq _ rfl;refine rn_ 0 an0 fun K hK=>?_;refine rx_ an0 ?_;exact pio_ an0 hC hpn));have hC:=pselects_q l hl en k1;rw [hq] at hr hC;(try dsimp only [PR.bind] at hr);have hC:=SpQ.ok hC;(try simp only [vE_eta,vV,vCol] at hC);refine rn_ 0 an0 fun K hK=>?_;refine rx_ an0 ?_;refine qio_ an0 (SpIO.ren hC [(1000,1000)] rfl) ?_;refine rx_ an0 ?_;refine rwr_nil (hK _ ?_);clear hC hK K)
   refine gs_ ?_
   subst hr
   exact hs_fit an0 ⟨_,_,rfl,rfl⟩
  ·have hr:PR.ok { zCm with k:=14 } k1=FR:=hr
   refine au_ an0 ?_
   refine gs_ ?_
   subst hr
   exact hs_fit an0 ⟨_,_,rfl,rfl⟩
  ·have hr:PR.ok { zCm with k:=15 } k1=FR:=hr
   refine au_ an0 ?_
   refine gs_ ?_
   subst hr
   exact hs_fit an0 ⟨_,_,rfl,rfl⟩
  ·have hr:PR.ok { zCm with k:=16 } k1=FR:=hr
   refine au_ an0 ?_
   refine gs_ ?_
   subst hr
   exact hs_fit an0 ⟨_,_,rfl,rfl⟩
 ·rintro sM ⟨c,k2,rfl,rfl⟩
  clear hF
  dsimp only [PR.bind] at hr
  have hF:=pfail_l l en k2
  unfold paH at hF
  unfold cdS
  cases hd:decide (k2 < l.length) with
  | true =>
   rw [hd] at hr
   dsimp only [cond] at hr
   subst hr
   have e1:decide ((k2:Int) < (l.length:Int))=true:=by simp at hd ⊢;omega
   have hpn:=hpq _ rfl
   refine au_ e1 ?_
   (refine rn_ 0 an0 fun K hK=>?_;refine rx_ an0 ?_;exact pn_ 1000 an0 (hF) hpn)
  | false =>
   rw [hd] at hr
   dsimp only [cond] at hr
   have e1:decide ((k2:Int) < (l.length:Int))=false:=by simp at hd ⊢;omega
   refine au_ e1 ?_
   (subst hr;refine okq_ (by intro c h;cases h) ?_;(try simp only [vE_eta,vV,vCol,cmC,zE,zCm,Ex.k,Ex.vk,Ex.nm,Ex.ar,List.map_cons,List.map_nil,rE_eta,Vl.zero]))
   exact oj_ an0 (.inr rfl)
end Go.Proofs.YtjdgejfhnfnmgaaGreatDoor.Ax
namespace Go.Proofs.YtjdgejfhnfnmgaaGreatDoor.Ax
open Go.RowKit Go.Sort
set_option linter.unusedSimpArgs false
attribute [local go_sem] extV appD cutOwn appOwn clearOwn bdI mapD putD' keyOk getOr getM putM wholeV litCs asV asC ptrC fnC nilC nilPtr strRows_len runs runsN guardOf exec1 pureV modD rowD ev get St.app St.put St.turn loadC moveC fieldOf indexC lenC lenOk cutC bndOf evAll fieldV convV unV binV binI bitsV moreV intsT eqL eq1 valOf min1 lit1 litInt litI litB litS constV constC cellsV partsOf placesOf buildV fillL toT elemsOf rowsOf baseOf dstOk V.kill V.ment V.ments C.kill C.ment C.ments B.kill setD litRows litRows_append T.isLit callAll calleeV argsV argV viewC viewCs modeOk freeOps V.free C.free V.allF V.allFs C.allF C.allFs B.allF callD leL growSt growB C.flat V.flat B.flat flatL flatB St.flat List.set_cons_zero List.set_cons_succ C.only C.onlys V.only V.onlys B.only renI C.ren C.rens V.ren V.rens B.ren renB renOk nodK Option.getD_some Option.getD_none Option.isSome_some implies_true false_implies C.fit C.fits V.fit V.fit1 V.fits Bool.and_self ite_self exitV resV resL resC outV outV.outs eqB nn cast0 Int.toNat_natCast List.getElem?_map Value.cells Value.oneCell' Nat.lt_irrefl decide_true decide_false and_true true_and and_self and_false false_and not_true_eq_false not_false_eq_true not_true not_false List.size_toArray all_len Nat.zero_add Nat.add_zero List.length_cons List.length_append List.length_replicate List.length_set List.length_nil List.length_map List.map_cons List.map_nil List.take_succ_cons List.take_zero List.take_nil List.drop_succ_cons List.drop_zero List.drop_nil List.cons_append List.nil_append List.append_nil List.all_cons List.all_nil Bool.and_true Bool.true_and Bool.and_false Bool.false_and Bool.not_true Bool.not_false Bool.or_false Bool.or_true Bool.false_or Bool.true_or List.filter_cons List.filter_nil List.contains_cons List.contains_nil beq_self_eq_true List.getElem?_cons_zero List.getElem?_cons_succ List.getElem?_nil Option.map_some Option.map_none Option.toList_some Option.toList_none List.isEmpty_cons List.isEmpty_nil Bool.false_eq_true Bool.true_eq_false List.getElem?_toArray List.not_mem_nil List.mem_cons or_false forall_eq List.mem_singleton forall_const Option.toArray tailF addF flSl dKeeps flFree closF notF if_true if_false dstsOf Oper.looksAt Op.operands Call.operands pick stOf goneOf slOf blOf keepB' edge B.ment Region.binds tailOk clos List.any_cons List.any_nil List.filterMap_cons List.filterMap_nil ne_eq Bool.or_self List.isEmpty_iff Array.toList_append List.append_toArray Array.append_empty Option.bind_some Option.bind_none List.push_toArray argSv ioD modeIO staysOk callIO calleeIO argsIO valIO cellsIO cellIO butB zLe cLe csLe vLe vsLe bLe insLe renIOk nbOk anyText anyGc aliveF mK kdN klAt klAt.atL dstNe edgesOf foSl inL C.ids C.idss V.ids V.idss NDst klOf dropS true_or or_true or_self ty3 ty4 ty9 ty5 ty26 ty24 ty29 ty27 ty54 ty22 ty25 ty31 ty32 ty77 ty43 ty67 ty65
set_option linter.unusedVariables false
set_option maxRecDepth 100000
theorem wpList_defers {P:Program} {ops:Array Oper} {Q:Exit→Act→World→Prop} {ds:List Deferred}:∀ (l:List Oper) (a:Act) (w:World),wpList P ops Q l a w→wpList P ops (fun e a' w'=>∃ a0:Act,a'=⟨a0.tmps,a0.defers++ds⟩∧Q e a0 w') l ⟨a.tmps,a.defers++ds⟩ w
 | [],a,w,h=>by unfold wpList at h ⊢;exact ⟨a,rfl,h⟩
 | o :: l,a,w,h=>by
  have ih:=wpList_defers (P:=P) (ops:=ops) (Q:=Q) (ds:=ds) l
  have hput:∀ v,(⟨a.tmps,a.defers++ds⟩:Act).put o.dst v=⟨(a.put o.dst v).tmps,(a.put o.dst v).defers++ds⟩:=fun v=>by
   unfold Act.put
   cases o.dst <;> rfl
  have hev:(⟨a.tmps,a.defers++ds⟩:Act).eval=a.eval:=by funext x;cases x <;> rfl
  unfold wpList at h ⊢
  by_cases hw:Region.wanted o (yielded ops a.tmps)=true
  ·rw [if_pos hw] at h
   rw [if_pos hw]
   rcases h with h | ⟨h1,h2⟩
   ·left
    unfold Oper.wp at h ⊢
    rw [hev]
    generalize (execOp a.eval o).run P w=r at h ⊢
    cases r with
    | ok n w' =>
     cases n with
     | value v =>
      rw [Oper.upon_value] at h ⊢
      rw [hput]
      exact ih _ _ h
     | skip =>
      rw [Oper.upon_skip] at h ⊢
      rw [hput]
      exact ih _ _ h
     | defer d =>
      rw [Oper.upon_defer] at h ⊢
      have e:({ (⟨a.tmps,a.defers++ds⟩:Act) with defers:=d :: (a.defers++ds) }:Act).put o.dst undef=⟨(({ a with defers:=d :: a.defers }:Act).put o.dst undef).tmps,(({ a with defers:=d :: a.defers }:Act).put o.dst undef).defers++ds⟩:=by
       unfold Act.put
       cases o.dst <;> rfl
      rw [e]
      exact ih _ _ h
     | enter f args =>
      rw [Oper.upon_enter] at h ⊢
      refine h.mono fun e w'' he=>?_
      cases e with
      | returned v=>dsimp only at he ⊢;rw [hput];exact ih _ _ he
      | panicked ch=>exact ⟨a,rfl,he⟩
      | outgrown =>
       obtain ⟨a0,w0,hq⟩:=he
       exact ⟨⟨a0.tmps,a0.defers++ds⟩,w0,a0,rfl,hq⟩
     | row r args =>
      rw [Oper.upon_row] at h ⊢
      refine h.mono fun v w'' he=>?_
      rw [hput]
      exact ih _ _ he
     | _=>exact h.elim
    | halt x w' =>
     cases x with
     | panic v=>exact ⟨a,rfl,h⟩
     | _=>exact h.elim
   ·right
    refine ⟨?_,?_⟩
    ·unfold Oper.asks at h1 ⊢
     rw [hev]
     exact h1
    ·obtain ⟨a0,w0,hq⟩:=h2
     exact ⟨⟨a0.tmps,a0.defers++ds⟩,w0,a0,rfl,hq⟩
  ·rw [if_neg hw] at h
   rw [if_neg hw,hput]
   exact ih _ _ h
theorem pidle_d (p0 p1 p2:Addr) (w:World) :
  CallsD Tryz.prog 64 #[.pointer (some p0),.pointer (some p1),.pointer (some p2)] .returning w fun e u' w'=>e=.returned (.tuple #[])∧u'=.returning∧w'=w:=by
 refine callsD_of_wpS Tryz.func64 rfl fun c₀ cs hu=>?_
 apply wpS_seq
 apply wpS_region
 simp [wpOpsS,go_sem,recoverD,hu,Tryz.ntmps64,Exit.thenS]
 apply wpS_seq
 apply wpS_region
 simp [wpOpsS,go_sem,hu,Exit.thenS]
 refine wpS_cond (t:=false) (by simp [Act.eval,Array.replicate]) ?_
 simp only [Bool.false_eq_true,if_false]
 refine wpS_of_wp (wp_skip ?_)
 cases c₀
 simp_all [bodyPostS,results,Tryz.results64]
theorem rwr_assert {P:Program} {X:Cx} {st st2:St} {ops:Array Oper} {K:St→Prop} {l:List Oper} {o:Oper} {t:Nat} {T S:TypeId} {v:Value} {z:Bool} {y:TypeDesc} (hop:o.op=.typeAssert (.tmp t) S T true) (hv:get t st.sl=some (.one (.t z (.lit (.iface T v))))) (hy:P.underlying T=some y) (hni:∀ m,y ≠ .interface m) (hone:v.oneCell'=true) (hg:guardOf st ops o=some true) (hd:dstOk X.n o.dst=true) (hs:st.app (.pure (.tup [.one (.t true (.lit v)),.one (.t true (.lit (.bool true)))])) o.dst=st2) (h:RWr P X ops K (l,st2)):RWr P X ops K (o :: l,st):=by
 subst hs
 exact rw_step (D:=.pure (.tup [.one (.t true (.lit v)),.one (.t true (.lit (.bool true)))])) (fun _ ρ a w hH K Q hK=>by
  obtain ⟨x,hx1,hx2⟩:=hH.slots _ _ hv
  unfold RdV RdC RdT at hx2
  obtain ⟨rfl,_⟩:=hx2
  have he:a.eval (.tmp t)=.iface T v:=by simp [Act.eval,hx1]
  have hrun:(execOp a.eval o).run P w=.ok (.value (.tuple #[v,.bool true])) w:=by
   simp only [execOp,hop,he,Instr.typeAssert,Sem.run_bind,run_underlying hy,Result.andThen_ok]
   cases y <;> first
    | exact absurd rfl (hni _)
    | simp
  unfold Oper.wp
  rw [hrun,Oper.upon_value]
  refine hK _ ρ w ⟨rfl,rfl,?_⟩
  unfold RdV
  refine ⟨_,rfl,?_⟩
  unfold RdVs RdVs RdVs RdV RdC RdT
  exact ⟨⟨rfl,hone⟩,⟨rfl,rfl⟩,trivial⟩) hg hd h
def zK:List C:=[.t true (.lit (.int .i64 0)),.t true (.lit (.string .empty)),.t true (.lit (.string .empty)),.t true (.lit (.string .empty)),.nil,.t true (.lit (.int .i64 0)),.t true (.lit (.int .i64 0)),.t true (.lit (.int .i64 0)),.t true (.lit (.string .empty)),.nil,.nil,.t true (.lit (.int .i64 0)),.t true (.lit (.int .i64 0)),.t true (.lit (.int .i64 0)),.t true (.lit (.string .empty)),.t true (.lit (.string .empty)),.nil,.t true (.lit (.bool false)),.t true (.lit (.int .i64 0)),.t true (.lit (.int .i64 0)),.t true (.lit (.int .i64 0)),.t true (.lit (.string .empty)),.t true (.lit (.string .empty)),.nil,.t true (.lit (.string .empty)),.t true (.lit (.int .i64 0))]
def litC:C→Bool
 | .t _ (.lit _)=>true
 | .nil=>true
 | _=>false
theorem litC_rd {w w':World} {ok ok':Bool→Nat→Prop} {ρ ρ':Nat→R} {c:C} {x:Value} (hc:litC c=true) (h:RdC w ok ρ c x):RdC w' ok' ρ' c x:=by
 cases c with
 | t z y =>
  cases y with
  | lit v=>unfold RdC RdT at h ⊢;exact h
  | _=>cases hc
 | nil=>unfold RdC at h ⊢;exact h
 | _=>cases hc
theorem litAll_rd {w w':World} {ok ok':Bool→Nat→Prop} {ρ ρ':Nat→R}:∀ {cs:List C} {xs:List Value},cs.all litC=true→RdCs w ok ρ cs xs→RdCs w' ok' ρ' cs xs
 | [],[],_,_=>by unfold RdCs;trivial
 | [],_ :: _,_,h=>by unfold RdCs at h;exact h.elim
 | _ :: _,[],_,h=>by unfold RdCs at h;exact h.elim
 | c :: cs,x :: xs,hc,h=>by
  rw [List.all_cons,Bool.and_eq_true] at hc
  unfold RdCs at h ⊢
  exact ⟨litC_rd hc.1 h.1,litAll_rd hc.2 h.2⟩
theorem cw_out {P:Program} {X:Cx} {st:St} {ρ:Nat→R} {a:Act} {w:World} {c:Code} {Q:Exit→Act→World→Prop} (Q':Exit→St→Prop) (hH:Hold X st ρ a w) (h1:CW P X c Q' st) (h2:∀ e a' w' s ρ',Q' e s→Hold X s ρ' a' w'→Q e a' w'):c.wp P Q a w:=wp_mono (h1 ρ a w hH) fun e a' w' ⟨s,ρ',h3,h4⟩=>h2 e a' w' s ρ' h3 h4
def VarIs (w:World) (b:Nat) (T:TypeId) (cs:List C):Prop:=∃ xs:Array Value,w.heap[b]?=some (.cells xs T)∧RdCs w (fun _ _=>False) (fun _=>.dead) cs xs.toList
theorem VarIs.has {w:World} {b cap:Nat} {T:TypeId} {cs:List C} (h:VarIs w b T cs) (hl:cs.all litC=true) {X:Cx} {ρ:Nat→R} {id:Nat} (hr:ρ id=.lie b cap):HasB X w ρ id (.var T cs):=by
 obtain ⟨xs,h1,h2⟩:=h
 unfold HasB
 exact ⟨b,cap,hr,xs,h1,litAll_rd hl h2⟩
theorem HasB.varIs {w:World} {b cap:Nat} {T:TypeId} {cs:List C} {X:Cx} {ρ:Nat→R} {id:Nat} (h:HasB X w ρ id (.var T cs)) (hl:cs.all litC=true) (hr:ρ id=.lie b cap):VarIs w b T cs:=by
 unfold HasB at h
 obtain ⟨b',cap',h1,xs,h2,h3⟩:=h
 rw [hr] at h1
 cases h1
 exact ⟨xs,h2,litAll_rd hl h3⟩
def catchQ (X:Cx) (n:Int):Exit→St→Prop
 | .normal,s=>get 1000 s.bl=some (.var 31 zK)∧get 1001 s.bl=some (.var 3 [.t true (.lit (.int .i64 n))])∧get 1002 s.bl=some (.var 32 [.t true (.lit (.int .i64 1))])
 | .panic ch,_=>X.pan ch
 | _,_=>False
theorem pcatch_d (b0 b1 b2:Nat) (n:Int) (older:List PanicEntry) (w:World) (hG:GW w) (hb0:b0 < w.heap.size) (hb1:b1 < w.heap.size) (hb2:b2 < w.heap.size) (hn0:NG≤b0) (hn1:NG≤b1) (hn2:NG≤b2) (h01:b0 ≠ b1) (h02:b0 ≠ b2) (h12:b1 ≠ b2)
  (c0:VarIs w b0 31 zK) (c1:VarIs w b1 3 [.t true (.lit (.int .i64 0))]) (c2:VarIs w b2 32 [.t true (.lit (.int .i64 0))]) :
  CallsD Tryz.prog 64 #[.pointer (some ⟨b0,0,none⟩),.pointer (some ⟨b1,0,none⟩),.pointer (some ⟨b2,0,none⟩)] (.panicking ({ v:=.iface 96 (.int .i64 n),recovered:=false } :: older)) w fun e u' w'=>e=.returned (.tuple #[])∧u'=.panicking ({ v:=.iface 96 (.int .i64 n),recovered:=true } :: older)∧Below 0 w w'∧(∀ b,b < w.heap.size→b ≠ b0→b ≠ b1→b ≠ b2→w'.heap[b]?=w.heap[b]?)∧VarIs w' b0 31 zK∧VarIs w' b1 3 [.t true (.lit (.int .i64 n))]∧VarIs w' b2 32 [.t true (.lit (.int .i64 1))]:=by
 refine callsD_of_wpS Tryz.func64 rfl fun c₀ cs hu=>?_
 apply wpS_seq
 apply wpS_region
 simp [wpOpsS,go_sem,recoverD,hu,Tryz.ntmps64,Exit.thenS]
 apply wpS_seq
 apply wpS_region
 simp [wpOpsS,go_sem,hu,Exit.thenS]
 refine wpS_cond (t:=true) (by simp [Act.eval,Array.replicate]) ?_
 simp only [if_true]
 refine wpS_of_wp ?_
 obtain ⟨ρ,hρ⟩:∃ ρ:Nat→R,ρ=fun i=>if i=1000 then .lie b0 26 else if i=1001 then .lie b1 1 else if i=1002 then .lie b2 1 else .dead:=⟨_,rfl⟩
 have hlie:∀ id b cap,ρ id=.lie b cap→(id=1000∧b=b0) ∨ (id=1001∧b=b1) ∨ (id=1002∧b=b2):=fun id b cap h=>by
  rw [hρ] at h
  dsimp only at h
  split at h
  ·cases h;exact .inl ⟨by assumption,rfl⟩
  ·split at h
   ·cases h;exact .inr (.inl ⟨by assumption,rfl⟩)
   ·split at h
    ·cases h;exact .inr (.inr ⟨by assumption,rfl⟩)
    ·cases h
 have hr0:ρ 1000=.lie b0 26:=by rw [hρ];rfl
 have hr1:ρ 1001=.lie b1 1:=by rw [hρ];rfl
 have hr2:ρ 1002=.lie b2 1:=by rw [hρ];rfl
 clear hρ
 obtain ⟨X,hXd⟩:∃ X,X=Cx.io w (fun _=>False) (fun b=>b=b0 ∨ b=b1 ∨ b=b2) (by intro _ h;exact h.elim) ρ 19:=⟨_,rfl⟩
 have hX:X.n=19:=by rw [hXd];rfl
 have hH:Hold X ⟨[(3,.one (.t true (.lit (.iface 96 (.int .i64 n))))),(0,.one (.optr 1000 0)),(1,.one (.optr 1001 0)),(2,.one (.optr 1002 0))],[(1000,.var 31 zK),(1001,.var 3 [.t true (.lit (.int .i64 0))]),(1002,.var 32 [.t true (.lit (.int .i64 0))])]⟩ ρ { tmps:=#[Value.pointer (some ⟨b0,0,none⟩),Value.pointer (some ⟨b1,0,none⟩),Value.pointer (some ⟨b2,0,none⟩)]++((((Array.replicate 16 undef).setIfInBounds 3 (Value.iface 96 (Value.int IntKind.i64 n))).setIfInBounds 0 (Value.iface 96 (Value.int IntKind.i64 n))).setIfInBounds 4 (Value.iface 96 (Value.int IntKind.i64 n))).setIfInBounds 5 (Value.bool true),defers:=[] } w:=by
  subst hXd
  refine ⟨rfl,by simp [Cx.io],Below.refl _ _,fun _ _=>rfl,fun id b cap hid=>?_,fun i j b c d hi hj=>?_,fun _ _=>.inl rfl,fun t v hv=>?_,fun id B hB=>?_,fun b hb=>⟨Nat.lt_of_lt_of_le hb (gw_ng hG),fun id cap hid=>?_⟩,hG⟩
  ·have h:=hlie id b cap hid
   refine ⟨.inr ?_,fun hk=>hk.2 id cap hid,?_⟩
   ·rcases h with ⟨_,rfl⟩ | ⟨_,rfl⟩ | ⟨_,rfl⟩
    ·exact .inl rfl
    ·exact .inr (.inl rfl)
    ·exact .inr (.inr rfl)
   ·rcases h with ⟨_,rfl⟩ | ⟨_,rfl⟩ | ⟨_,rfl⟩ <;> assumption
  ·have h1:=hlie i b c hi
   have h2:=hlie j b d hj
   rcases h1 with ⟨rfl,h1⟩ | ⟨rfl,h1⟩ | ⟨rfl,h1⟩ <;> rcases h2 with ⟨rfl,h2⟩ | ⟨rfl,h2⟩ | ⟨rfl,h2⟩ <;> first
    | rfl
    | (exfalso;omega)
  ·simp only [get] at hv
   split at hv
   ·rename_i ht;subst ht;cases hv
    exact ⟨.iface 96 (.int .i64 n),by simp [Array.replicate],by unfold RdV RdC RdT;exact ⟨rfl,rfl⟩⟩
   ·split at hv
    ·rename_i ht;subst ht;cases hv
     exact ⟨.pointer (some ⟨b0,0,none⟩),by simp,by unfold RdV RdC;rw [hr0]⟩
    ·split at hv
     ·rename_i ht;subst ht;cases hv
      exact ⟨.pointer (some ⟨b1,0,none⟩),by simp,by unfold RdV RdC;rw [hr1]⟩
     ·split at hv
      ·rename_i ht;subst ht;cases hv
       exact ⟨.pointer (some ⟨b2,0,none⟩),by simp,by unfold RdV RdC;rw [hr2]⟩
      ·cases hv
  ·simp only [get] at hB
   split at hB
   ·rename_i ht;subst ht;cases hB
    exact c0.has rfl hr0
   ·split at hB
    ·rename_i ht;subst ht;cases hB
     exact c1.has rfl hr1
    ·split at hB
     ·rename_i ht;subst ht;cases hB
      exact c2.has rfl hr2
     ·cases hB
  ·have:=hlie id b cap hid
   omega
 refine cw_out (catchQ X n) hH ?_ ?_
 ·refine gs_ ?_
  refine rn_ 0 an0 fun K hK=>?_
  refine rx_ an0 ?_
  refine rwr_assert rfl rfl Tryz.underlying96 (by intro m h;cases h) rfl (by simp only [go_sem]) (by rw [hX];rfl) (by simp only [go_sem,hX];exact rfl) ?_
  refine rx_ an0 ?_
  refine rwr_nil (hK _ ?_)
  clear hK K
  refine au_ an0 ?_
  exact ⟨rfl,rfl,rfl⟩
 ·rintro e a' w' s ρ' hq hH'
  cases e with
  | normal =>
   obtain ⟨g0,g1,g2⟩:=hq
   have k0:=hH'.blocks _ _ g0
   have k1:=hH'.blocks _ _ g1
   have k2:=hH'.blocks _ _ g2
   have q0:ρ' 1000=.lie b0 26:=((hH'.pin 1000 (by rw [hX];decide)).resolve_right k0.alive).trans (by subst hXd;exact hr0)
   have q1:ρ' 1001=.lie b1 1:=((hH'.pin 1001 (by rw [hX];decide)).resolve_right k1.alive).trans (by subst hXd;exact hr1)
   have q2:ρ' 1002=.lie b2 1:=((hH'.pin 1002 (by rw [hX];decide)).resolve_right k2.alive).trans (by subst hXd;exact hr2)
   have kb:=hH'.below
   have kk:=hH'.keep
   subst hXd
   refine ⟨hH'.defers,_,rfl,.tuple #[],by simp [results,Tryz.results64],rfl,rfl,kb,fun b hb e0 e1 e2=>kk b ⟨hb,fun id cap hid=>?_⟩,k0.varIs rfl q0,k1.varIs rfl q1,k2.varIs rfl q2⟩
   have:=hlie id b cap hid
   omega
  | panic ch =>
   subst hXd
   exact hq.elim
  | _=>exact hq.elim
end Go.Proofs.YtjdgejfhnfnmgaaGreatDoor.Ax
