/-  -/
import Derived.Test.YtjdgejfhnfnmgaaGreatDoorP20
import Derived.Test.YtjdgejfhnfnmgaaGreatDoorP32
import Derived.Test.YtjdgejfhnfnmgaaGreatDoorP38
import Derived.Test.YtjdgejfhnfnmgaaGreatDoorP36
namespace Go.Proofs.YtjdgejfhnfnmgaaGreatDoor.Ax
open Go.RowKit
set_option linter.unusedSimpArgs false
attribute [local go_sem] ty3 ty4 ty9 ty5 ty26 ty24 ty29 ty27 ty54 ty22 ty25 ty31 ty32 ty77 ty43 ty69 ty101 meltSt
set_option linter.unusedVariables false
set_option maxRecDepth 100000
set_option maxHeartbeats 4000000 in
theorem rhere_l (l:List Vl) (en:Int) (r:RS):SpL Tryz.prog 43 [.one (.optr 1000 0)] 69 (rdH l en r) (.one (.t true (.lit (.int .i64 (hereP l en r.at_))))) (rdH l en r) 26:=by
 intro vs hlen hone
 obtain ⟨at_,bad⟩:=r
 unfold rdH hereP
 dsimp only
 by_cases hlt:at_ < l.length
 ·obtain ⟨t,ht⟩:∃ t,l[at_]?=some t:=⟨_,List.getElem?_eq_getElem hlt⟩
  have e1:decide ((at_:Int) < (l.length:Int))=true:=by simp;omega
  have j2:(at_:Int) < (l.length:Int):=by omega
  have j3:(0:Int)≤(at_:Int):=by omega
  rw [ht]
  (refine ei_ Tryz.func43 Tryz.ntmps43 Tryz.results43 fun X hX=>?_)
  refine au_ (an5 e1 ht hlt j2 j3) ?_
  exact oj_ an0 (.inl rfl)
 ·have e1:decide ((at_:Int) < (l.length:Int))=false:=by simp;omega
  rw [List.getElem?_eq_none (by omega)]
  (refine ei_ Tryz.func43 Tryz.ntmps43 Tryz.results43 fun X hX=>?_)
  refine au_ e1 ?_
  exact oj_ an0 (.inl rfl)
set_option maxHeartbeats 16000000 in
theorem parseof_sp (s:ByteArray) (hs:s.size≤maxLen):Sp Tryz.prog 15 [.one (.lit (.string s))] (vParse (parseP s)) []:=by
 have hS:=(rscan_sp s hs).ren [(0,11)] rfl rfl rfl rfl
 have hgl:=scanS_good (s:=s)
 unfold parseP
 generalize scanS s=x at *
 obtain ⟨l,at_,e⟩:=x
 dsimp only at hS hgl ⊢
 by_cases he:e=0
 ·subst he
  have hl:=hgl rfl
  rw [if_pos rfl]
  have hb:=cmd_both hl
  have hC:=rcmd_io l hl s.size ⟨0,false⟩ (Nat.zero_le _)
  have hH:=fun k b=>rhere_l l s.size ⟨k,b⟩
  have hgd:=fun c k h=>cmd_good (c:=c) (k:=k) hl h
  have hR:(rVs l).length=l.length:=List.length_map _
  have hz:((0:Nat):Int)=0:=rfl
  unfold zC at hC
  cases hc:cmdR l with
  | ok c k =>
   obtain ⟨e3,hk⟩:=hb.1 c k hc
   have hK:=rcheck_csp c (hgd c k hc)
   rw [rCm_eta] at hK
   rw [e3] at hC
   unfold rdH cmC at hC
   dsimp only at hC
   rw [hz] at hC
   have e4:decide ((k:Int) < (l.length:Int))=false:=by simp;omega
   clear hH hb hgd hgl
   by_cases hck:checkP c=0
   ·rw [hck] at hK
    dsimp only
    rw [if_pos hck]
    unfold vParse cmC
    dsimp only
    ((refine en_ Tryz.func15 Tryz.ntmps15 Tryz.results15 fun X hX=>?_);refine gs_ ?_;(refine rn_ 8 an0 fun K hK=>?_;refine rr_ an0 ?_);((first | refine rwr_nil (hK _ ?_) | refine de_ (hK _ ?_));clear hK K);refine gs_ ?_;(refine rn_ 8 an0 fun K hK=>?_;refine rr_ an0 ?_);(refine ca_ an0 ?_ (hsp:=hS);refine rr_ an0 ?_);((first | refine rwr_nil (hK _ ?_) | refine de_ (hK _ ?_));clear hK K);refine gs_ ?_;refine cw_melt 5 11 rfl rfl (by first | exact List.length_map _ | rfl) ?_;refine au_ (an2 hR hz) ?_;(refine rn_ 8 (an2 hz hR) fun K hK=>?_;refine rr_ (an2 hz hR) ?_);(refine rwr_io 40 (SpIO.ren (hC) [(1000,8)] rfl) rfl rfl (by simp only [go_sem,meltSt,hX];exact rfl) (by simp only [go_sem,meltSt,hX]) (by simp only [go_sem,meltSt,hX]) (by simp only [go_sem,meltSt,hX]) (by simp only [go_sem,meltSt,hX]) rfl (by rw [hX];rfl) ?_;simp only [go_sem,meltSt,hX]);((first | refine rwr_nil (hK _ ?_) | refine de_ (hK _ ?_));clear hK K))
    refine au_ (an3 hR hz e4) ?_
    exact op_ an0 (.inl rfl)
   ·dsimp only
    rw [if_neg hck]
    generalize checkP c=q at *
    have e1:(q != 0)=true:=by simp;omega
    have e2:(q==0)=false:=by simp;omega
    unfold vParse cmC zCm zE
    dsimp only
    ((refine en_ Tryz.func15 Tryz.ntmps15 Tryz.results15 fun X hX=>?_);refine gs_ ?_;(refine rn_ 8 an0 fun K hK=>?_;refine rr_ an0 ?_);((first | refine rwr_nil (hK _ ?_) | refine de_ (hK _ ?_));clear hK K);refine gs_ ?_;(refine rn_ 8 an0 fun K hK=>?_;refine rr_ an0 ?_);(refine ca_ an0 ?_ (hsp:=hS);refine rr_ an0 ?_);((first | refine rwr_nil (hK _ ?_) | refine de_ (hK _ ?_));clear hK K);refine gs_ ?_;refine cw_melt 5 11 rfl rfl (by first | exact List.length_map _ | rfl) ?_;refine au_ (an2 hR hz) ?_;(refine rn_ 8 (an2 hz hR) fun K hK=>?_;refine rr_ (an2 hz hR) ?_);(refine rwr_io 40 (SpIO.ren (hC) [(1000,8)] rfl) rfl rfl (by simp only [go_sem,meltSt,hX];exact rfl) (by simp only [go_sem,meltSt,hX]) (by simp only [go_sem,meltSt,hX]) (by simp only [go_sem,meltSt,hX]) (by simp only [go_sem,meltSt,hX]) rfl (by rw [hX];rfl) ?_;simp only [go_sem,meltSt,hX]);((first | refine rwr_nil (hK _ ?_) | refine de_ (hK _ ?_));clear hK K))
    refine au_ (an5 hR hz e4 e1 e2) ?_
    exact op_ an0 (.inl rfl)
  | bad k =>
   have hb:=hb.2 k hc
   clear hgd hgl hc
   generalize cmdQ l ⟨0,false⟩=x at *
   obtain ⟨c,k2,b⟩:=x
   dsimp only at hb hC
   obtain ⟨rfl,hb⟩:=hb
   have hH:=hH k2 b
   unfold rdH cmC at hC
   unfold rdH at hH
   dsimp only at hC hH
   rw [hz] at hC
   unfold vParse cmC zCm zE
   dsimp only
   cases b with
   | true =>
    ((refine en_ Tryz.func15 Tryz.ntmps15 Tryz.results15 fun X hX=>?_);refine gs_ ?_;(refine rn_ 8 an0 fun K hK=>?_;refine rr_ an0 ?_);((first | refine rwr_nil (hK _ ?_) | refine de_ (hK _ ?_));clear hK K);refine gs_ ?_;(refine rn_ 8 an0 fun K hK=>?_;refine rr_ an0 ?_);(refine ca_ an0 ?_ (hsp:=hS);refine rr_ an0 ?_);((first | refine rwr_nil (hK _ ?_) | refine de_ (hK _ ?_));clear hK K);refine gs_ ?_;refine cw_melt 5 11 rfl rfl (by first | exact List.length_map _ | rfl) ?_;refine au_ (an2 hR hz) ?_;(refine rn_ 8 (an2 hz hR) fun K hK=>?_;refine rr_ (an2 hz hR) ?_);(refine rwr_io 40 (SpIO.ren (hC) [(1000,8)] rfl) rfl rfl (by simp only [go_sem,meltSt,hX];exact rfl) (by simp only [go_sem,meltSt,hX]) (by simp only [go_sem,meltSt,hX]) (by simp only [go_sem,meltSt,hX]) (by simp only [go_sem,meltSt,hX]) rfl (by rw [hX];rfl) ?_;simp only [go_sem,meltSt,hX]);((first | refine rwr_nil (hK _ ?_) | refine de_ (hK _ ?_));clear hK K))
    refine au_ (an2 hR hz) ?_
    (refine rn_ 0 (an2 hR hz) fun K hK=>?_;refine rx_ (an2 hR hz) ?_;refine lk_ 8 (an2 hR hz) (hH) ?_;refine rx_ (an2 hR hz) ?_;refine rwr_nil (hK _ ?_);clear hK K)
    refine au_ (an2 hR hz) ?_
    exact op_ an0 (.inl rfl)
   | false =>
    have e4:decide ((k2:Int) < (l.length:Int))=true:=by
     simp
     exact hb.resolve_left Bool.false_ne_true
    ((refine en_ Tryz.func15 Tryz.ntmps15 Tryz.results15 fun X hX=>?_);refine gs_ ?_;(refine rn_ 8 an0 fun K hK=>?_;refine rr_ an0 ?_);((first | refine rwr_nil (hK _ ?_) | refine de_ (hK _ ?_));clear hK K);refine gs_ ?_;(refine rn_ 8 an0 fun K hK=>?_;refine rr_ an0 ?_);(refine ca_ an0 ?_ (hsp:=hS);refine rr_ an0 ?_);((first | refine rwr_nil (hK _ ?_) | refine de_ (hK _ ?_));clear hK K);refine gs_ ?_;refine cw_melt 5 11 rfl rfl (by first | exact List.length_map _ | rfl) ?_;refine au_ (an2 hR hz) ?_;(refine rn_ 8 (an2 hz hR) fun K hK=>?_;refine rr_ (an2 hz hR) ?_);(refine rwr_io 40 (SpIO.ren (hC) [(1000,8)] rfl) rfl rfl (by simp only [go_sem,meltSt,hX];exact rfl) (by simp only [go_sem,meltSt,hX]) (by simp only [go_sem,meltSt,hX]) (by simp only [go_sem,meltSt,hX]) (by simp only [go_sem,meltSt,hX]) rfl (by rw [hX];rfl) ?_;simp only [go_sem,meltSt,hX]);((first | refine rwr_nil (hK _ ?_) | refine de_ (hK _ ?_));clear hK K))
    refine au_ (an3 hR hz e4) ?_
    (refine rn_ 0 (an2 hR hz) fun K hK=>?_;refine rx_ (an2 hR hz) ?_;refine lk_ 8 (an2 hR hz) (hH) ?_;refine rx_ (an2 hR hz) ?_;refine rwr_nil (hK _ ?_);clear hK K)
    refine au_ (an2 hR hz) ?_
    exact op_ an0 (.inl rfl)
 ·rw [if_neg he]
  have e1:((e:Int) != 0)=true:=by simp;omega
  have e2:((e:Int)==0)=false:=by simp;omega
  unfold vParse cmC zCm zE
  dsimp only
  (refine en_ Tryz.func15 Tryz.ntmps15 Tryz.results15 fun X hX=>?_)
  refine gs_ ?_
  (refine rn_ 8 an0 fun K hK=>?_;refine rr_ an0 ?_)
  ((first | refine rwr_nil (hK _ ?_) | refine de_ (hK _ ?_));clear hK K)
  refine gs_ ?_
  (refine rn_ 8 an0 fun K hK=>?_;refine rr_ an0 ?_)
  (refine ca_ an0 ?_ (hsp:=hS);refine rr_ an0 ?_)
  ((first | refine rwr_nil (hK _ ?_) | refine de_ (hK _ ?_));clear hK K)
  refine au_ (an2 e1 e2) ?_
  exact op_ an0 (.inl rfl)
end Go.Proofs.YtjdgejfhnfnmgaaGreatDoor.Ax
namespace Go.Proofs.YtjdgejfhnfnmgaaGreatDoor.Ax
open Go.RowKit
set_option linter.unusedSimpArgs false
attribute [local go_sem] ty3 ty4 ty9 ty5 ty26 ty24 ty29 ty27 ty54 ty22 ty25 ty31 ty32
set_option linter.unusedVariables false
set_option maxRecDepth 100000
theorem small_parseP:parseP smallT=(smallC,0,0):=by kernel_rfl
set_option maxHeartbeats 16000000 in
theorem cbegun_sp:Sp Tryz.prog 16 [] (.one (.t true (.lit (.bool true)))) []:=by
 have h1:=parse_sp smallT (by decide)
 rw [small_parseP] at h1
 have h2:=ccheck_sp smallC small_goodCm
 rw [small_check] at h2
 unfold vParse at h1
 rw [cmC_map] at h1
 unfold smallT at h1
 unfold smallC smallE smallW at h1 h2
 rw [rCm_mk] at h1 h2
 simp only [List.map_cons,List.map_nil,Vl.zero,rCs,rVs,rS] at h1 h2
 generalize hq:List.map rE smallAE=q1 at *
 generalize hw:List.map rE smallAW=q2 at *
 have e1:((⟨#[97]⟩:ByteArray).toList==(⟨#[97]⟩:ByteArray).toList)=true:=beq_self_eq_true _
 (refine en_ Tryz.func16 Tryz.ntmps16 Tryz.results16 fun X hX=>?_)
 refine gs_ ?_
 refine au_ e1 ?_
 exact oq_ an0
end Go.Proofs.YtjdgejfhnfnmgaaGreatDoor.Ax
namespace Go.Proofs.YtjdgejfhnfnmgaaGreatDoor.Ax
open Go.RowKit
theorem parseP_ok {s:ByteArray} (h:(parseP s).2.2=0):checkP (parseP s).1=0∧goodCm (parseP s).1:=by
 unfold parseP at h ⊢
 by_cases he:(scanS s).2.2=0
 ·rw [if_pos he] at h ⊢
  cases hc:cmdR (scanS s).1 with
  | ok c k =>
   rw [hc] at h
   dsimp only at h ⊢
   by_cases hk:checkP c=0
   ·rw [if_pos hk]
    exact ⟨hk,cmd_good (scanS_good he) hc⟩
   ·rw [if_neg hk] at h
    exact absurd h hk
  | bad k =>
   rw [hc] at h
   cases h
 ·rw [if_neg he] at h
  dsimp only at h
  omega
theorem parseP_zero {s:ByteArray} (h:¬ (parseP s).2.2=0):(parseP s).1=zCm:=by
 unfold parseP at h ⊢
 by_cases he:(scanS s).2.2=0
 ·rw [if_pos he] at h ⊢
  cases hc:cmdR (scanS s).1 with
  | ok c k =>
   rw [hc] at h
   dsimp only at h ⊢
   by_cases hk:checkP c=0
   ·rw [if_pos hk] at h
    exact absurd rfl h
   ·rw [if_neg hk]
  | bad k=>rfl
 ·rw [if_neg he]
theorem parseP_good (s:ByteArray):goodCm (parseP s).1:=by
 by_cases h:(parseP s).2.2=0
 ·exact (parseP_ok h).2
 ·rw [parseP_zero h];exact zCm_good
end Go.Proofs.YtjdgejfhnfnmgaaGreatDoor.Ax
namespace Go.Proofs.YtjdgejfhnfnmgaaGreatDoor.Ax
open Go.RowKit
set_option linter.unusedSimpArgs false
attribute [local go_sem] ty3 ty4 ty9 feq24 ty24 ty25 feq54 ty54 ty22 ty26 ty27 ty29 ty31 List.append_eq
set_option linter.unusedVariables false
set_option maxRecDepth 100000
theorem sameC_ref (c d:Cm):sameC c d=((c.k==d.k) && ((c.name.toList==d.name.toList) && ((c.other.toList==d.other.toList) && ((c.column.toList==d.column.toList) && ((c.ty==d.ty) && (c.v.same d.v && ((c.all==d.all) && ((c.order.toList==d.order.toList) && ((c.limit==d.limit) && (sameE c.ex d.ex && (sameE c.wh d.wh && (eqBy Vl.same c.vals d.vals && (eqBy colEq c.cols d.cols && eqBy strEq c.fields d.fields))))))))))))):=by
 unfold sameC
 simp only [Bool.and_assoc]
 cases c.k==d.k <;> cases c.name.toList==d.name.toList <;> try rfl
 all_goals
  cases sameE c.ex d.ex <;> cases sameE c.wh d.wh <;> cases eqBy colEq c.cols d.cols <;> cases eqBy strEq c.fields d.fields <;> cases eqBy Vl.same c.vals d.vals <;> simp only [Bool.and_false,Bool.false_and,Bool.and_true,Bool.true_and]
set_option maxHeartbeats 16000000 in
theorem samecmd_sp (c d:Cm) (hc:c.cols.length≤maxLen) (hv:c.vals.length≤maxLen) (hf:c.fields.length≤maxLen) (he:goodE c.ex) (hw:goodE c.wh) :
  Sp Tryz.prog 13 [.agg (rCm c),.agg (rCm d)] (.one (.t true (.lit (.bool (sameC c d))))) []:=by
 rw [sameC_ref]
 have hQ1:=samee_sp c.ex he d.ex
 have hQ2:=samee_sp c.wh hw d.wh
 have hQ4:=samevalues_sp c.vals d.vals hv
 have hS:=rsame_sp c.v d.v
 obtain ⟨k,name,other,column,cols,ty,v,vals,fields,⟨k1,v1,n1,a1⟩,all,⟨k2,v2,n2,a2⟩,order,limit⟩:=c
 obtain ⟨k',name',other',column',cols',ty',v',vals',fields',⟨k1',v1',n1',a1'⟩,all',⟨k2',v2',n2',a2'⟩,order',limit'⟩:=d
 dsimp only at *
 rw [rCm_mk,rCm_mk]
 rw [rE_mk,rE_mk] at hQ1 hQ2
 unfold maxLen at hc hf
 generalize sameE (.mk k1 v1 n1 a1) (.mk k1' v1' n1' a1')=b1 at *
 generalize sameE (.mk k2 v2 n2 a2) (.mk k2' v2' n2' a2')=b2 at *
 generalize eqBy Vl.same vals vals'=b4 at *
 generalize v.same v'=b6 at *
 (refine en_ Tryz.func13 Tryz.ntmps13 Tryz.results13 fun X hX=>?_)
 (refine gs_ ?_)
 (refine rn_ 8 an0 fun K hK=>?_;refine rr_ an0 ?_)
 ((first | refine rwr_nil (hK _ ?_) | refine de_ (hK _ ?_));clear hK K)
 (refine gs_ ?_)
 cases e1:(k==k')
 ·rw [Bool.false_and]
  have e1n:(k != k')=true:=by rw [bne,e1];rfl
  (refine rn_ 8 (an2 e1 e1n) fun K hK=>?_)
  (refine rw_goN (k:=8) ?_;(refine sm_ (an2 e1 e1n) ?_))
  (refine rr_ (an2 e1 e1n) ?_)
  ((first | refine rwr_nil (hK _ ?_) | refine de_ (hK _ ?_));clear hK K)
  (refine go_ an0 ?_)
  (first | exact oq_ an0 | refine ou_ an0 ?_)
 rw [Bool.true_and]
 have e1n:(k != k')=false:=by rw [bne,e1];rfl
 cases e2:(name.toList==name'.toList)
 ·rw [Bool.false_and]
  (refine rn_ 8 (an3 e1 e1n e2) fun K hK=>?_)
  (refine rw_goN (k:=8) ?_;(refine sm_ (an3 e1 e1n e2) ?_))
  (refine rr_ (an3 e1 e1n e2) ?_)
  ((first | refine rwr_nil (hK _ ?_) | refine de_ (hK _ ?_));clear hK K)
  (refine go_ an0 ?_)
  (first | exact oq_ an0 | refine ou_ an0 ?_)
 rw [Bool.true_and]
 cases e3:(other.toList==other'.toList)
 ·rw [Bool.false_and]
  (refine rn_ 8 (an4 e1 e1n e2 e3) fun K hK=>?_)
  (refine rw_goN (k:=8) ?_;(refine sm_ (an4 e1 e1n e2 e3) ?_))
  (refine rr_ (an4 e1 e1n e2 e3) ?_)
  ((first | refine rwr_nil (hK _ ?_) | refine de_ (hK _ ?_));clear hK K)
  (refine go_ an0 ?_)
  (first | exact oq_ an0 | refine ou_ an0 ?_)
 rw [Bool.true_and]
 cases e4:(column.toList==column'.toList)
 ·rw [Bool.false_and]
  (refine rn_ 8 (an5 e1 e1n e2 e3 e4) fun K hK=>?_)
  (refine rw_goN (k:=8) ?_;(refine sm_ (an5 e1 e1n e2 e3 e4) ?_))
  (refine rr_ (an5 e1 e1n e2 e3 e4) ?_)
  ((first | refine rwr_nil (hK _ ?_) | refine de_ (hK _ ?_));clear hK K)
  (refine go_ an0 ?_)
  (first | exact oq_ an0 | refine ou_ an0 ?_)
 rw [Bool.true_and]
 cases e5:(ty==ty')
 ·rw [Bool.false_and]
  have e5n:(ty != ty')=true:=by rw [bne,e5];rfl
  (refine rn_ 8 (an7 e1 e1n e2 e3 e4 e5 e5n) fun K hK=>?_)
  (refine rw_goN (k:=8) ?_;(refine sm_ (an7 e1 e1n e2 e3 e4 e5 e5n) ?_))
  (refine rr_ (an7 e1 e1n e2 e3 e4 e5 e5n) ?_)
  ((first | refine rwr_nil (hK _ ?_) | refine de_ (hK _ ?_));clear hK K)
  (refine go_ an0 ?_)
  (first | exact oq_ an0 | refine ou_ an0 ?_)
 rw [Bool.true_and]
 have e5n:(ty != ty')=false:=by rw [bne,e5];rfl
 cases b6
 ·rw [Bool.false_and]
  (refine rn_ 8 (an7 e1 e1n e2 e3 e4 e5 e5n) fun K hK=>?_)
  (refine rw_goN (k:=8) ?_;(refine sm_ (an7 e1 e1n e2 e3 e4 e5 e5n) ?_))
  (refine rr_ (an7 e1 e1n e2 e3 e4 e5 e5n) ?_)
  (refine ca_ (an7 e1 e1n e2 e3 e4 e5 e5n) ?_ (hsp:=hS);refine rr_ (an7 e1 e1n e2 e3 e4 e5 e5n) ?_)
  (refine rr_ (an7 e1 e1n e2 e3 e4 e5 e5n) ?_)
  ((first | refine rwr_nil (hK _ ?_) | refine de_ (hK _ ?_));clear hK K)
  (refine go_ an0 ?_)
  (first | exact oq_ an0 | refine ou_ an0 ?_)
 rw [Bool.true_and]
 cases e7:(all==all')
 ·rw [Bool.false_and]
  have e7n:(all != all')=true:=by rw [bne,e7];rfl
  (refine rn_ 8 (an2 (an7 e1 e1n e2 e3 e4 e5 e5n) (an2 e7 e7n)) fun K hK=>?_)
  (refine rw_goN (k:=8) ?_;(refine sm_ (an2 (an7 e1 e1n e2 e3 e4 e5 e5n) (an2 e7 e7n)) ?_))
  (refine rr_ (an2 (an7 e1 e1n e2 e3 e4 e5 e5n) (an2 e7 e7n)) ?_)
  (refine ca_ (an2 (an7 e1 e1n e2 e3 e4 e5 e5n) (an2 e7 e7n)) ?_ (hsp:=hS);refine rr_ (an2 (an7 e1 e1n e2 e3 e4 e5 e5n) (an2 e7 e7n)) ?_)
  (refine rr_ (an2 (an7 e1 e1n e2 e3 e4 e5 e5n) (an2 e7 e7n)) ?_)
  ((first | refine rwr_nil (hK _ ?_) | refine de_ (hK _ ?_));clear hK K)
  (refine go_ an0 ?_)
  (first | exact oq_ an0 | refine ou_ an0 ?_)
 rw [Bool.true_and]
 have e7n:(all != all')=false:=by rw [bne,e7];rfl
 cases e8:(order.toList==order'.toList)
 ·rw [Bool.false_and]
  (refine rn_ 8 (an2 (an7 e1 e1n e2 e3 e4 e5 e5n) (an3 e7 e7n e8)) fun K hK=>?_)
  (refine rw_goN (k:=8) ?_;(refine sm_ (an2 (an7 e1 e1n e2 e3 e4 e5 e5n) (an3 e7 e7n e8)) ?_))
  (refine rr_ (an2 (an7 e1 e1n e2 e3 e4 e5 e5n) (an3 e7 e7n e8)) ?_)
  (refine ca_ (an2 (an7 e1 e1n e2 e3 e4 e5 e5n) (an3 e7 e7n e8)) ?_ (hsp:=hS);refine rr_ (an2 (an7 e1 e1n e2 e3 e4 e5 e5n) (an3 e7 e7n e8)) ?_)
  (refine rr_ (an2 (an7 e1 e1n e2 e3 e4 e5 e5n) (an3 e7 e7n e8)) ?_)
  ((first | refine rwr_nil (hK _ ?_) | refine de_ (hK _ ?_));clear hK K)
  (refine go_ an0 ?_)
  (first | exact oq_ an0 | refine ou_ an0 ?_)
 rw [Bool.true_and]
 cases e9:(limit==limit')
 ·rw [Bool.false_and]
  have e9n:(limit != limit')=true:=by rw [bne,e9];rfl
  (refine rn_ 8 (an2 (an7 e1 e1n e2 e3 e4 e5 e5n) (an5 e7 e7n e8 e9 e9n)) fun K hK=>?_)
  (refine rw_goN (k:=8) ?_;(refine sm_ (an2 (an7 e1 e1n e2 e3 e4 e5 e5n) (an5 e7 e7n e8 e9 e9n)) ?_))
  (refine rr_ (an2 (an7 e1 e1n e2 e3 e4 e5 e5n) (an5 e7 e7n e8 e9 e9n)) ?_)
  (refine ca_ (an2 (an7 e1 e1n e2 e3 e4 e5 e5n) (an5 e7 e7n e8 e9 e9n)) ?_ (hsp:=hS);refine rr_ (an2 (an7 e1 e1n e2 e3 e4 e5 e5n) (an5 e7 e7n e8 e9 e9n)) ?_)
  (refine rr_ (an2 (an7 e1 e1n e2 e3 e4 e5 e5n) (an5 e7 e7n e8 e9 e9n)) ?_)
  ((first | refine rwr_nil (hK _ ?_) | refine de_ (hK _ ?_));clear hK K)
  (refine go_ an0 ?_)
  (first | exact oq_ an0 | refine ou_ an0 ?_)
 rw [Bool.true_and]
 have e9n:(limit != limit')=false:=by rw [bne,e9];rfl
 cases b1
 ·rw [Bool.false_and]
  (refine rn_ 8 (an2 (an7 e1 e1n e2 e3 e4 e5 e5n) (an5 e7 e7n e8 e9 e9n)) fun K hK=>?_)
  (refine rw_goN (k:=8) ?_;(refine sm_ (an2 (an7 e1 e1n e2 e3 e4 e5 e5n) (an5 e7 e7n e8 e9 e9n)) ?_))
  (refine rr_ (an2 (an7 e1 e1n e2 e3 e4 e5 e5n) (an5 e7 e7n e8 e9 e9n)) ?_)
  (refine ca_ (an2 (an7 e1 e1n e2 e3 e4 e5 e5n) (an5 e7 e7n e8 e9 e9n)) ?_ (hsp:=hS);refine rr_ (an2 (an7 e1 e1n e2 e3 e4 e5 e5n) (an5 e7 e7n e8 e9 e9n)) ?_)
  (refine rr_ (an2 (an7 e1 e1n e2 e3 e4 e5 e5n) (an5 e7 e7n e8 e9 e9n)) ?_)
  (refine ca_ (an2 (an7 e1 e1n e2 e3 e4 e5 e5n) (an5 e7 e7n e8 e9 e9n)) ?_ (hsp:=hQ1);refine rr_ (an2 (an7 e1 e1n e2 e3 e4 e5 e5n) (an5 e7 e7n e8 e9 e9n)) ?_)
  (refine rr_ (an2 (an7 e1 e1n e2 e3 e4 e5 e5n) (an5 e7 e7n e8 e9 e9n)) ?_)
  ((first | refine rwr_nil (hK _ ?_) | refine de_ (hK _ ?_));clear hK K)
  (refine go_ an0 ?_)
  (first | exact oq_ an0 | refine ou_ an0 ?_)
 rw [Bool.true_and]
 cases b2
 ·rw [Bool.false_and]
  (refine rn_ 8 (an2 (an7 e1 e1n e2 e3 e4 e5 e5n) (an5 e7 e7n e8 e9 e9n)) fun K hK=>?_)
  (refine rw_goN (k:=8) ?_;(refine sm_ (an2 (an7 e1 e1n e2 e3 e4 e5 e5n) (an5 e7 e7n e8 e9 e9n)) ?_))
  (refine rr_ (an2 (an7 e1 e1n e2 e3 e4 e5 e5n) (an5 e7 e7n e8 e9 e9n)) ?_)
  (refine ca_ (an2 (an7 e1 e1n e2 e3 e4 e5 e5n) (an5 e7 e7n e8 e9 e9n)) ?_ (hsp:=hS);refine rr_ (an2 (an7 e1 e1n e2 e3 e4 e5 e5n) (an5 e7 e7n e8 e9 e9n)) ?_)
  (refine rr_ (an2 (an7 e1 e1n e2 e3 e4 e5 e5n) (an5 e7 e7n e8 e9 e9n)) ?_)
  (refine ca_ (an2 (an7 e1 e1n e2 e3 e4 e5 e5n) (an5 e7 e7n e8 e9 e9n)) ?_ (hsp:=hQ1);refine rr_ (an2 (an7 e1 e1n e2 e3 e4 e5 e5n) (an5 e7 e7n e8 e9 e9n)) ?_)
  (refine rr_ (an2 (an7 e1 e1n e2 e3 e4 e5 e5n) (an5 e7 e7n e8 e9 e9n)) ?_)
  (refine ca_ (an2 (an7 e1 e1n e2 e3 e4 e5 e5n) (an5 e7 e7n e8 e9 e9n)) ?_ (hsp:=hQ2);refine rr_ (an2 (an7 e1 e1n e2 e3 e4 e5 e5n) (an5 e7 e7n e8 e9 e9n)) ?_)
  (refine rr_ (an2 (an7 e1 e1n e2 e3 e4 e5 e5n) (an5 e7 e7n e8 e9 e9n)) ?_)
  ((first | refine rwr_nil (hK _ ?_) | refine de_ (hK _ ?_));clear hK K)
  (refine go_ an0 ?_)
  (first | exact oq_ an0 | refine ou_ an0 ?_)
 rw [Bool.true_and]
 (refine rn_ 8 (an2 (an7 e1 e1n e2 e3 e4 e5 e5n) (an5 e7 e7n e8 e9 e9n)) fun K hK=>?_)
 (refine rw_goN (k:=8) ?_;(refine sm_ (an2 (an7 e1 e1n e2 e3 e4 e5 e5n) (an5 e7 e7n e8 e9 e9n)) ?_))
 (refine rr_ (an2 (an7 e1 e1n e2 e3 e4 e5 e5n) (an5 e7 e7n e8 e9 e9n)) ?_)
 (refine ca_ (an2 (an7 e1 e1n e2 e3 e4 e5 e5n) (an5 e7 e7n e8 e9 e9n)) ?_ (hsp:=hS);refine rr_ (an2 (an7 e1 e1n e2 e3 e4 e5 e5n) (an5 e7 e7n e8 e9 e9n)) ?_)
 (refine rr_ (an2 (an7 e1 e1n e2 e3 e4 e5 e5n) (an5 e7 e7n e8 e9 e9n)) ?_)
 (refine ca_ (an2 (an7 e1 e1n e2 e3 e4 e5 e5n) (an5 e7 e7n e8 e9 e9n)) ?_ (hsp:=hQ1);refine rr_ (an2 (an7 e1 e1n e2 e3 e4 e5 e5n) (an5 e7 e7n e8 e9 e9n)) ?_)
 (refine rr_ (an2 (an7 e1 e1n e2 e3 e4 e5 e5n) (an5 e7 e7n e8 e9 e9n)) ?_)
 (refine ca_ (an2 (an7 e1 e1n e2 e3 e4 e5 e5n) (an5 e7 e7n e8 e9 e9n)) ?_ (hsp:=hQ2);refine rr_ (an2 (an7 e1 e1n e2 e3 e4 e5 e5n) (an5 e7 e7n e8 e9 e9n)) ?_)
 (refine rr_ (an2 (an7 e1 e1n e2 e3 e4 e5 e5n) (an5 e7 e7n e8 e9 e9n)) ?_)
 ((first | refine rwr_nil (hK _ ?_) | refine de_ (hK _ ?_));clear hK K)
 (refine gs_ ?_)
 by_cases hcl:cols.length=cols'.length
 rotate_left
 ·have g1:((cols.length:Int) != (cols'.length:Int))=true:=by simp;omega
  rw [eqBy_not hcl,Bool.false_and,Bool.and_false]
  (refine go_ g1 ?_)
  (first | exact oq_ an0 | refine ou_ an0 ?_)
 have g1:((cols.length:Int) != (cols'.length:Int))=false:=by simp [hcl]
 by_cases hfl:fields.length=fields'.length
 rotate_left
 ·have g2:((fields.length:Int) != (fields'.length:Int))=true:=by simp;omega
  rw [eqBy_not hfl,Bool.and_false,Bool.and_false]
  (refine go_ (an2 g1 g2) ?_)
  (first | exact oq_ an0 | refine ou_ an0 ?_)
 have g2:((fields.length:Int) != (fields'.length:Int))=false:=by simp [hfl]
 cases b4
 ·rw [Bool.false_and]
  (refine rn_ 8 (an2 g1 g2) fun K hK=>?_;refine rr_ (an2 g1 g2) ?_)
  (refine ca_ (an2 g1 g2) ?_ (hsp:=hQ4);refine rr_ (an2 g1 g2) ?_)
  (refine rr_ (an2 g1 g2) ?_)
  ((first | refine rwr_nil (hK _ ?_) | refine de_ (hK _ ?_));clear hK K)
  (refine go_ an0 ?_)
  (first | exact oq_ an0 | refine ou_ an0 ?_)
 rw [Bool.true_and]
 (refine rn_ 8 (an2 g1 g2) fun K hK=>?_;refine rr_ (an2 g1 g2) ?_)
 (refine ca_ (an2 g1 g2) ?_ (hsp:=hQ4);refine rr_ (an2 g1 g2) ?_)
 (refine rr_ (an2 g1 g2) ?_)
 ((first | refine rwr_nil (hK _ ?_) | refine de_ (hK _ ?_));clear hK K)
 (refine go_ an0 ?_)
 have hVB:∃ VB:List (Nat × B),VB=[(2,.var 31 [.t false (.lit (.int .i64 k)),.t false (.lit (.string name)),.t false (.lit (.string other)),.t false (.lit (.string column)),.t false (.sl (rCs cols)),.t false (.lit (.int .i64 ty)),.t false (.lit (.int .i64 v.k)),.t false (.lit (.int .i64 v.n)),.t false (.lit (.string v.s)),.t false (.sl (rVs vals)),.t false (.sl (rS fields)),.t false (.lit (.int .i64 k1)),.t false (.lit (.int .i64 v1.k)),.t false (.lit (.int .i64 v1.n)),.t false (.lit (.string v1.s)),.t false (.lit (.string n1)),.t false (.sl (a1.map rE)),.t false (.lit (.bool all)),.t false (.lit (.int .i64 k2)),.t false (.lit (.int .i64 v2.k)),.t false (.lit (.int .i64 v2.n)),.t false (.lit (.string v2.s)),.t false (.lit (.string n2)),.t false (.sl (a2.map rE)),.t false (.lit (.string order)),.t false (.lit (.int .i64 limit))]),(3,.var 31 [.t false (.lit (.int .i64 k')),.t false (.lit (.string name')),.t false (.lit (.string other')),.t false (.lit (.string column')),.t false (.sl (rCs cols')),.t false (.lit (.int .i64 ty')),.t false (.lit (.int .i64 v'.k)),.t false (.lit (.int .i64 v'.n)),.t false (.lit (.string v'.s)),.t false (.sl (rVs vals')),.t false (.sl (rS fields')),.t false (.lit (.int .i64 k1')),.t false (.lit (.int .i64 v1'.k)),.t false (.lit (.int .i64 v1'.n)),.t false (.lit (.string v1'.s)),.t false (.lit (.string n1')),.t false (.sl (a1'.map rE)),.t false (.lit (.bool all')),.t false (.lit (.int .i64 k2')),.t false (.lit (.int .i64 v2'.k)),.t false (.lit (.int .i64 v2'.n)),.t false (.lit (.string v2'.s)),.t false (.lit (.string n2')),.t false (.sl (a2'.map rE)),.t false (.lit (.string order')),.t false (.lit (.int .i64 limit'))])]:=⟨_,rfl⟩
 obtain ⟨VB,hVB⟩:=hVB
 refine cw_loop (fun m s=>∃ i:Nat,i≤cols.length∧m=cols.length - i∧eqBy colEq (cols.drop i) (cols'.drop i)=eqBy colEq cols cols'∧s=⟨[(5,litI .i64 i),(2,.one (.optr 2 0)),(3,.one (.optr 3 0))],[(2,.var 31 [.t false (.lit (.int .i64 k)),.t false (.lit (.string name)),.t false (.lit (.string other)),.t false (.lit (.string column)),.t false (.sl (rCs cols)),.t false (.lit (.int .i64 ty)),.t false (.lit (.int .i64 v.k)),.t false (.lit (.int .i64 v.n)),.t false (.lit (.string v.s)),.t false (.sl (rVs vals)),.t false (.sl (rS fields)),.t false (.lit (.int .i64 k1)),.t false (.lit (.int .i64 v1.k)),.t false (.lit (.int .i64 v1.n)),.t false (.lit (.string v1.s)),.t false (.lit (.string n1)),.t false (.sl (a1.map rE)),.t false (.lit (.bool all)),.t false (.lit (.int .i64 k2)),.t false (.lit (.int .i64 v2.k)),.t false (.lit (.int .i64 v2.n)),.t false (.lit (.string v2.s)),.t false (.lit (.string n2)),.t false (.sl (a2.map rE)),.t false (.lit (.string order)),.t false (.lit (.int .i64 limit))]),(3,.var 31 [.t false (.lit (.int .i64 k')),.t false (.lit (.string name')),.t false (.lit (.string other')),.t false (.lit (.string column')),.t false (.sl (rCs cols')),.t false (.lit (.int .i64 ty')),.t false (.lit (.int .i64 v'.k)),.t false (.lit (.int .i64 v'.n)),.t false (.lit (.string v'.s)),.t false (.sl (rVs vals')),.t false (.sl (rS fields')),.t false (.lit (.int .i64 k1')),.t false (.lit (.int .i64 v1'.k)),.t false (.lit (.int .i64 v1'.n)),.t false (.lit (.string v1'.s)),.t false (.lit (.string n1')),.t false (.sl (a1'.map rE)),.t false (.lit (.bool all')),.t false (.lit (.int .i64 k2')),.t false (.lit (.int .i64 v2'.k)),.t false (.lit (.int .i64 v2'.n)),.t false (.lit (.string v2'.s)),.t false (.lit (.string n2')),.t false (.sl (a2'.map rE)),.t false (.lit (.string order')),.t false (.lit (.int .i64 limit'))])]⟩) cols.length ⟨_,⟨0,Nat.zero_le _,rfl,rfl,rfl⟩,le_⟩ ?_
 rintro m s ⟨i,hi,rfl,hfe,rfl⟩
 by_cases hlt:i < cols.length
 ·have f1:decide ((i:Int) < (cols.length:Int))=true:=by simp;omega
  obtain ⟨x,hx⟩:∃ x,cols[i]?=some x:=⟨_,List.getElem?_eq_getElem hlt⟩
  obtain ⟨y,hy⟩:∃ y,cols'[i]?=some y:=⟨_,List.getElem?_eq_getElem (by omega)⟩
  have f2:IntKind.i64.wrap ((i:Int) + 1)=((i + 1:Nat):Int):=by rw [IntWalk.i64_in _ (by omega)];rfl
  have hlt':i < cols'.length:=by omega
  have j1:(i:Int) < (cols.length:Int):=by omega
  have j2:(i:Int) < (cols'.length:Int):=by omega
  have j3:(0:Int)≤(i:Int):=by omega
  rw [eqBy_drop hx hy] at hfe
  have hp:(!((x.name.toList==y.name.toList) && (x.ty==y.ty)))=!(colEq x y):=rfl
  generalize colEq x y=bb at *
  (refine go_ f1 ?_)
  (refine dr_ 0 an0 fun K hK=>?_)
  (refine dd_ (an2 (an7 hx hy hlt hlt' j1 j2 j3) hp) ?_)
  (refine de_ (hK _ ?_);clear hK K)
  cases bb
  ·rw [← hfe,Bool.false_and]
   try rw [Bool.false_and]
   (refine go_ an0 ?_)
   (first | exact oq_ an0 | refine ou_ an0 ?_)
  ·rw [Bool.true_and] at hfe
   (refine go_ f2 ?_)
   exact ⟨cols.length - (i + 1),by omega,_,⟨i + 1,by omega,rfl,hfe,rfl⟩,le_⟩
 ·have f1:decide ((i:Int) < (cols.length:Int))=false:=by simp;omega
  rw [List.drop_eq_nil_of_le (by omega),List.drop_eq_nil_of_le (by omega),eqBy] at hfe
  rw [← hfe]
  try rw [Bool.true_and]
  (refine go_ f1 ?_)
  refine cw_loop (fun m s=>∃ i:Nat,i≤fields.length∧m=fields.length - i∧eqBy strEq (fields.drop i) (fields'.drop i)=eqBy strEq fields fields'∧s=⟨[(6,litI .i64 i),(2,.one (.optr 2 0)),(3,.one (.optr 3 0))],[(2,.var 31 [.t false (.lit (.int .i64 k)),.t false (.lit (.string name)),.t false (.lit (.string other)),.t false (.lit (.string column)),.t false (.sl (rCs cols)),.t false (.lit (.int .i64 ty)),.t false (.lit (.int .i64 v.k)),.t false (.lit (.int .i64 v.n)),.t false (.lit (.string v.s)),.t false (.sl (rVs vals)),.t false (.sl (rS fields)),.t false (.lit (.int .i64 k1)),.t false (.lit (.int .i64 v1.k)),.t false (.lit (.int .i64 v1.n)),.t false (.lit (.string v1.s)),.t false (.lit (.string n1)),.t false (.sl (a1.map rE)),.t false (.lit (.bool all)),.t false (.lit (.int .i64 k2)),.t false (.lit (.int .i64 v2.k)),.t false (.lit (.int .i64 v2.n)),.t false (.lit (.string v2.s)),.t false (.lit (.string n2)),.t false (.sl (a2.map rE)),.t false (.lit (.string order)),.t false (.lit (.int .i64 limit))]),(3,.var 31 [.t false (.lit (.int .i64 k')),.t false (.lit (.string name')),.t false (.lit (.string other')),.t false (.lit (.string column')),.t false (.sl (rCs cols')),.t false (.lit (.int .i64 ty')),.t false (.lit (.int .i64 v'.k)),.t false (.lit (.int .i64 v'.n)),.t false (.lit (.string v'.s)),.t false (.sl (rVs vals')),.t false (.sl (rS fields')),.t false (.lit (.int .i64 k1')),.t false (.lit (.int .i64 v1'.k)),.t false (.lit (.int .i64 v1'.n)),.t false (.lit (.string v1'.s)),.t false (.lit (.string n1')),.t false (.sl (a1'.map rE)),.t false (.lit (.bool all')),.t false (.lit (.int .i64 k2')),.t false (.lit (.int .i64 v2'.k)),.t false (.lit (.int .i64 v2'.n)),.t false (.lit (.string v2'.s)),.t false (.lit (.string n2')),.t false (.sl (a2'.map rE)),.t false (.lit (.string order')),.t false (.lit (.int .i64 limit'))])]⟩) fields.length ⟨_,⟨0,Nat.zero_le _,rfl,rfl,rfl⟩,le_⟩ ?_
  rintro m s ⟨i,hi,rfl,hfe,rfl⟩
  by_cases hlt:i < fields.length
  ·have f1:decide ((i:Int) < (fields.length:Int))=true:=by simp;omega
   obtain ⟨x,hx⟩:∃ x,fields[i]?=some x:=⟨_,List.getElem?_eq_getElem hlt⟩
   obtain ⟨y,hy⟩:∃ y,fields'[i]?=some y:=⟨_,List.getElem?_eq_getElem (by omega)⟩
   have f2:IntKind.i64.wrap ((i:Int) + 1)=((i + 1:Nat):Int):=by rw [IntWalk.i64_in _ (by omega)];rfl
   have hlt':i < fields'.length:=by omega
   have j1:(i:Int) < (fields.length:Int):=by omega
   have j2:(i:Int) < (fields'.length:Int):=by omega
   have j3:(0:Int)≤(i:Int):=by omega
   rw [eqBy_drop hx hy] at hfe
   have hp:(!(x.toList==y.toList))=!(strEq x y):=rfl
   generalize strEq x y=bb at *
   (refine go_ f1 ?_)
   (refine dr_ 0 an0 fun K hK=>?_)
   (refine dd_ (an2 (an7 hx hy hlt hlt' j1 j2 j3) hp) ?_)
   (refine de_ (hK _ ?_);clear hK K)
   cases bb
   ·rw [← hfe,Bool.false_and]
    try rw [Bool.false_and]
    (refine go_ an0 ?_)
    (first | exact oq_ an0 | refine ou_ an0 ?_)
   ·rw [Bool.true_and] at hfe
    (refine go_ f2 ?_)
    exact ⟨fields.length - (i + 1),by omega,_,⟨i + 1,by omega,rfl,hfe,rfl⟩,le_⟩
  ·have f1:decide ((i:Int) < (fields.length:Int))=false:=by simp;omega
   rw [List.drop_eq_nil_of_le (by omega),List.drop_eq_nil_of_le (by omega),eqBy] at hfe
   rw [← hfe]
   try rw [Bool.true_and]
   (refine go_ f1 ?_)
   (first | exact oq_ an0 | refine ou_ an0 ?_)
end Go.Proofs.YtjdgejfhnfnmgaaGreatDoor.Ax
