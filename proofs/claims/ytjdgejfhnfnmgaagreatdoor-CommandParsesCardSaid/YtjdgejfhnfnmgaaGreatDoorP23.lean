/-  -/
import Derived.Test.YtjdgejfhnfnmgaaGreatDoorP20
import Derived.Test.YtjdgejfhnfnmgaaGreatDoorP22
namespace Go.Proofs.YtjdgejfhnfnmgaaGreatDoor.Ax
open Go.RowKit
set_option linter.unusedSimpArgs false
attribute [local go_sem] ty3 ty4 ty9 ty5 ty24 ty77 ty43 ty69 ty101
set_option linter.unusedVariables false
set_option maxRecDepth 100000
theorem u8iR (c:UInt8):IntKind.i64.wrap (c.toNat:Int)=(c.toNat:Int):=IntWalk.i64_in _ (by have:=c.toNat_lt;omega)
theorem isdigitR_sp (c:UInt8):Sp Tryz.prog 122 [.one (.lit (.int .u8 c.toNat))] (.one (.t true (.lit (.bool (digitB c))))) []:=by
 have hb:=between_sp (c.toNat:Int) 48 57
 have e1:=u8iR c
 unfold digitB
 (refine en_ Tryz.func122 Tryz.ntmps122 Tryz.results122 fun X hX=>?_)
 refine au_ e1 ?_
 exact oq_ an0
theorem fst_get {u:ByteArray} {c:UInt8} (h:fst8 u=some c):u[0]?=some c∧0 < u.size:=by
 unfold fst8 at h
 have h1:0 < u.data.toList.length:=by
  cases hu:u.data.toList with
  | nil=>rw [hu] at h;cases h
  | cons x r=>simp
 have h2:0 < u.size:=h1
 refine ⟨?_,h2⟩
 rw [getElem?_pos u 0 h2]
 rw [List.head?_eq_getElem?,List.getElem?_eq_getElem h1] at h
 rw [← h]
 rfl
theorem get_list (u:ByteArray) (i:Nat):u[i]?=u.data.toList[i]?:=by
 by_cases h:i < u.size
 ·rw [getElem?_pos u i h,List.getElem?_eq_getElem (show i < u.data.toList.length from h)]
  rfl
 ·rw [getElem?_neg u i h,List.getElem?_eq_none (show u.data.toList.length≤i by show u.size≤i;omega)]
theorem fst_none {u:ByteArray} (h:fst8 u=none):u=⟨#[]⟩:=by
 unfold fst8 at h
 rw [List.head?_eq_none_iff] at h
 exact ByteArray.ext (Array.ext' h)
set_option maxHeartbeats 4000000 in
theorem rnumber_l (l:List Vl) (hl:GoodL l) (en:Int) (r:RS) (hr:r.at_≤l.length):SpL Tryz.prog 127 [.one (.optr 1000 0)] 69 (rdH l en r) (.one (.t true (.lit (.int .i64 (numQ l r).1)))) (rdH l en (numQ l r).2) 26:=by
 intro vs hlen hone
 have hT:=rtext_l l en r
 have hll:=hl.len
 have hnum:=@txQ_num l hl r
 unfold numQ
 generalize txQ l r=u at *
 obtain ⟨at_,bad⟩:=r
 dsimp only at hr hnum
 unfold rdH at hT ⊢
 dsimp only at hT ⊢
 cases hf:fst8 u with
 | none =>
  obtain rfl:=fst_none hf
  rw [if_neg (by decide)]
  have e0:((⟨#[]⟩:ByteArray).toList==(⟨#[]⟩:ByteArray).toList)=true:=beq_self_eq_true _
  (refine ei_ Tryz.func127 Tryz.ntmps127 Tryz.results127 fun X hX=>?_)
  refine gs_ ?_
  refine au_ an0 ?_
  (refine rn_ 0 an0 fun K hK=>?_;refine rx_ an0 ?_;refine lk_ 1000 an0 (hT) ?_;refine rx_ an0 ?_;refine rwr_nil (hK _ ?_);clear hK K)
  refine au_ e0 ?_
  exact oj_ an0 (.inl rfl)
 | some c =>
  obtain ⟨h0,hz⟩:=fst_get hf
  have hD:=isdigitR_sp c
  have e0:(u.toList==(⟨#[]⟩:ByteArray).toList)=false:=by
   rw [Bool.eq_false_iff]
   intro h
   have:=strEq_iff.1 h
   subst this
   exact absurd hz (by decide)
  cases hd:digitB c with
  | false =>
   rw [hd] at hD
   rw [if_neg (by unfold digF;rw [hf];dsimp only;rw [hd];decide)]
   (refine ei_ Tryz.func127 Tryz.ntmps127 Tryz.results127 fun X hX=>?_)
   refine gs_ ?_
   refine au_ an0 ?_
   (refine rn_ 0 an0 fun K hK=>?_;refine rx_ an0 ?_;refine lk_ 1000 an0 (hT) ?_;refine rx_ an0 ?_;refine rwr_nil (hK _ ?_);clear hK K)
   refine au_ (an2 e0 h0) ?_
   exact oj_ an0 (.inl rfl)
  | true =>
   rw [hd] at hD
   have hdf:digF u=true:=by unfold digF;rw [hf];exact hd
   rw [if_pos hdf]
   obtain ⟨n1,n2,n3,n4⟩:=hnum hdf
   subst n3
   have e1:IntKind.i64.wrap ((at_:Int) + 1)=((at_ + 1:Nat):Int):=by rw [IntWalk.i64_in _ (by omega)];rfl
   (refine ei_ Tryz.func127 Tryz.ntmps127 Tryz.results127 fun X hX=>?_)
   refine gs_ ?_
   refine au_ an0 ?_
   (refine rn_ 0 an0 fun K hK=>?_;refine rx_ an0 ?_;refine lk_ 1000 an0 (hT) ?_;refine rx_ an0 ?_;refine rwr_nil (hK _ ?_);clear hK K)
   refine au_ (an2 e0 h0) ?_
   have hul:u.data.toList.length=u.size:=rfl
   refine cw_loop (fun m st=>∃ (k:Nat),k≤u.size∧m=u.size - k∧st=⟨[(5,litI .i64 k),(4,litI .i64 (numL (u.data.toList.take k))),(3,.one (.t true (.lit (.string u)))),(0,.one (.optr 1000 0))],[(1000,.var 69 ([.t false (.sl (rVs l)),.t false (.lit (.int .i64 at_)),.t false (.lit (.int .i64 en)),.t false (.lit (.bool false))]++lits vs))]⟩) u.size ⟨_,⟨0,Nat.zero_le _,rfl,rfl⟩,le_⟩ ?_
   rintro m st ⟨k,hk,rfl,rfl⟩
   by_cases hlt:k < u.size
   ·have z1:decide ((k:Int) < (u.size:Int))=true:=by simp;omega
    obtain ⟨x,hx⟩:∃ x,u.data.toList[k]?=some x:=⟨_,List.getElem?_eq_getElem hlt⟩
    have hx2:u[k]?=some x:=by rw [get_list];exact hx
    have z4:IntKind.i64.wrap ((k:Int) + 1)=((k + 1:Nat):Int):=by rw [IntWalk.i64_in _ (by omega)];rfl
    have j2:(k:Int) < (u.size:Int):=by omega
    have j3:(0:Int)≤(k:Int):=by omega
    obtain ⟨b1,b2⟩:=numL_small n2 (by omega) k (by omega)
    have b3:=x.toNat_lt
    have hs:=numL_step hx
    generalize numL (u.data.toList.take k)=v at *
    obtain ⟨v',hv'⟩:∃ v',numL (u.data.toList.take (k + 1))=v':=⟨_,rfl⟩
    rw [hv'] at hs
    have g1:IntKind.i64.wrap (10 * v)=10 * v:=IntWalk.i64_in _ (by omega)
    have g2:=u8iR x
    have g3:IntKind.i64.wrap (10 * v + (x.toNat:Int))=10 * v + (x.toNat:Int):=IntWalk.i64_in _ (by omega)
    have g4:IntKind.i64.wrap (10 * v + (x.toNat:Int) - 48)=v':=by rw [IntWalk.i64_in _ (by omega)];omega
    refine au_ (an2 (an5 z1 hx2 hlt j2 j3) (an5 z4 g1 g2 g3 g4)) ?_
    exact ⟨u.size - (k + 1),by omega,_,⟨k + 1,by omega,rfl,rfl⟩,lf_ hv'⟩
   ·obtain rfl:k=u.size:=by omega
    have z1:decide ((u.size:Int) < (u.size:Int))=false:=by simp
    have ht:u.data.toList.take u.size=u.data.toList:=List.take_of_length_le (Nat.le_of_eq hul)
    rw [ht]
    refine au_ (an2 z1 e1) ?_
    exact oj_ an0 (.inl rfl)
set_option maxHeartbeats 4000000 in
theorem risv_l (l:List Vl) (en:Int) (r:RS):SpL Tryz.prog 125 [.one (.optr 1000 0)] 69 (rdH l en r) (.one (.t true (.lit (.bool (isVB (txQ l r)))))) (rdH l en r) 26:=by
 intro vs hlen hone
 have hT:=rtext_l l en r
 generalize txQ l r=u at *
 obtain ⟨at_,bad⟩:=r
 unfold rdH at hT ⊢
 dsimp only at hT ⊢
 cases hf:fst8 u with
 | none =>
  obtain rfl:=fst_none hf
  have e0:((⟨#[]⟩:ByteArray).toList==(⟨#[]⟩:ByteArray).toList)=true:=beq_self_eq_true _
  have e1:((⟨#[]⟩:ByteArray).toList==wTrue.toList)=false:=by rw [Bool.eq_false_iff];intro h;cases strEq_iff.1 h
  have e2:((⟨#[]⟩:ByteArray).toList==wFalse.toList)=false:=by rw [Bool.eq_false_iff];intro h;cases strEq_iff.1 h
  have e3:((⟨#[]⟩:ByteArray).toList==wNull.toList)=false:=by rw [Bool.eq_false_iff];intro h;cases strEq_iff.1 h
  have e4:((⟨#[]⟩:ByteArray).toList==(⟨#[45]⟩:ByteArray).toList)=false:=by rw [Bool.eq_false_iff];intro h;cases strEq_iff.1 h
  have e5:isVB ⟨#[]⟩=false:=by unfold isVB strEq;rw [e1,e2,e3,e4];rfl
  have e6:((⟨#[]⟩:ByteArray).toList != (⟨#[]⟩:ByteArray).toList)=false:=by unfold bne;rw [e0];rfl
  rw [e5]
  unfold wTrue at e1
  unfold wFalse at e2
  unfold wNull at e3
  (refine ei_ Tryz.func125 Tryz.ntmps125 Tryz.results125 fun X hX=>?_)
  refine gs_ ?_
  refine au_ an0 ?_
  (refine rn_ 0 an0 fun K hK=>?_;refine rx_ an0 ?_;refine lk_ 1000 an0 (hT) ?_;refine rx_ an0 ?_;refine rwr_nil (hK _ ?_);clear hK K)
  refine au_ (an6 e0 e1 e2 e3 e4 e6) ?_
  exact oj_ an0 (.inl rfl)
 | some c =>
  obtain ⟨h0,hz⟩:=fst_get hf
  have hD:=isdigitR_sp c
  have e0:(u.toList==(⟨#[]⟩:ByteArray).toList)=false:=by
   rw [Bool.eq_false_iff]
   intro h
   have:=strEq_iff.1 h
   subst this
   exact absurd hz (by decide)
  have e6:(u.toList != (⟨#[]⟩:ByteArray).toList)=true:=by unfold bne;rw [e0];rfl
  have hv:isVB u=((u.toList==wTrue.toList) || ((u.toList==wFalse.toList) || ((u.toList==wNull.toList) || ((u.toList==(⟨#[45]⟩:ByteArray).toList) || (digitB c || ((c.toNat:Int)==39)))))):=by
   unfold isVB digF quoF strEq
   rw [hf]
   dsimp only
   have:(c==39)=((c.toNat:Int)==39):=by
    rw [Bool.eq_iff_iff,beq_iff_eq,beq_iff_eq]
    constructor
    ·rintro rfl;rfl
    ·intro h
     apply UInt8.toNat_inj.1
     show c.toNat=39
     omega
   rw [this]
  rw [hv]
  clear hv
  generalize digitB c=dc at *
  unfold wTrue wFalse wNull
  (refine ei_ Tryz.func125 Tryz.ntmps125 Tryz.results125 fun X hX=>?_)
  refine gs_ ?_
  refine au_ an0 ?_
  (refine rn_ 0 an0 fun K hK=>?_;refine rx_ an0 ?_;refine lk_ 1000 an0 (hT) ?_;refine rx_ an0 ?_;refine rwr_nil (hK _ ?_);clear hK K)
  cases e1:(u.toList==(⟨#[116,114,117,101]⟩:ByteArray).toList) with
  | true =>
   refine au_ (an4 e0 e6 h0 e1) ?_
   exact oj_ an0 (.inl rfl)
  | false =>
   cases e2:(u.toList==(⟨#[102,97,108,115,101]⟩:ByteArray).toList) with
   | true =>
    refine au_ (an5 e0 e6 h0 e1 e2) ?_
    exact oj_ an0 (.inl rfl)
   | false =>
    cases e3:(u.toList==(⟨#[110,117,108,108]⟩:ByteArray).toList) with
    | true =>
     refine au_ (an6 e0 e6 h0 e1 e2 e3) ?_
     exact oj_ an0 (.inl rfl)
    | false =>
     cases e4:(u.toList==(⟨#[45]⟩:ByteArray).toList) with
     | true =>
      refine au_ (an7 e0 e6 h0 e1 e2 e3 e4) ?_
      exact oj_ an0 (.inl rfl)
     | false =>
      cases dc with
      | true =>
       refine au_ (an7 e0 e6 h0 e1 e2 e3 e4) ?_
       exact oj_ an0 (.inl rfl)
      | false =>
       refine au_ (an7 e0 e6 h0 e1 e2 e3 e4) ?_
       trace_state
       exact oj_ an0 (.inl rfl)
end Go.Proofs.YtjdgejfhnfnmgaaGreatDoor.Ax
namespace Go.Proofs.YtjdgejfhnfnmgaaGreatDoor.Ax
open Go.RowKit
set_option linter.unusedSimpArgs false
attribute [local go_sem] ty3 ty4 ty9 ty5 ty24 ty77 ty43 ty69 ty101
set_option linter.unusedVariables false
set_option maxRecDepth 100000
def vV (v:Vl):V:=.agg [.t true (.lit (.int .i64 v.k)),.t true (.lit (.int .i64 v.n)),.t true (.lit (.string v.s))]
theorem truthofR_sp (b:Bool):Sp Tryz.prog 126 [.one (.lit (.bool b))] (vV ⟨3,if b=true then 1 else 0,⟨#[]⟩⟩) []:=by
 unfold vV
 cases b with
 | true =>
  (refine en_ Tryz.func126 Tryz.ntmps126 Tryz.results126 fun X hX=>?_)
  refine au_ an0 ?_
  exact oq_ an0
 | false =>
  (refine en_ Tryz.func126 Tryz.ntmps126 Tryz.results126 fun X hX=>?_)
  refine au_ an0 ?_
  exact oq_ an0
theorem unq_slice {u:ByteArray} (h:2≤u.size):u.extract 1 (u.size - 1)=unq u:=rfl
set_option maxHeartbeats 8000000 in
theorem rv_l (l:List Vl) (hl:GoodL l) (en:Int) (r:RS) (hr:r.at_≤l.length):SpL Tryz.prog 73 [.one (.optr 1000 0)] 69 (rdH l en r) (vV (vQ l r).1) (rdH l en (vQ l r).2) 26:=by
 intro vs hlen hone
 have hT:=rtext_l l en r
 have hI:=risv_l l en r
 have hNu:=rnumber_l l hl en r hr
 have hll:=hl.len
 have hne:=@txQ_lt l r
 have hqu:=@txQ_quo l hl r
 have hT2:=rtext_l l en ⟨r.at_ + 1,r.bad⟩
 have hN1:=fun h=>rnumber_l l hl en ⟨r.at_ + 1,true⟩ h
 have hN2:=fun h=>rnumber_l l hl en ⟨r.at_ + 1,r.bad⟩ h
 unfold vQ
 generalize txQ l r=u at *
 generalize txQ l ⟨r.at_ + 1,r.bad⟩=u2 at *
 obtain ⟨at_,bad⟩:=r
 dsimp only at hr hne hqu hN1 hN2
 unfold vV
 cases hiv:isVB u with
 | false =>
  rw [if_pos rfl]
  rw [hiv] at hI
  unfold rdH at hT hI ⊢
  dsimp only at hT hI ⊢
  clear hT2 hNu hN1 hN2
  (refine ei_ Tryz.func73 Tryz.ntmps73 Tryz.results73 fun X hX=>?_)
  refine gs_ ?_
  refine au_ an0 ?_
  (refine rn_ 0 an0 fun K hK=>?_;refine rx_ an0 ?_;refine lk_ 1000 an0 (hT) ?_;refine rx_ an0 ?_;refine rwr_nil (hK _ ?_);clear hK K)
  refine gs_ ?_
  (refine rn_ 0 an0 fun K hK=>?_;refine rx_ an0 ?_;refine lk_ 1000 an0 (hI) ?_;refine rx_ an0 ?_;refine rwr_nil (hK _ ?_);clear hK K)
  refine au_ an0 ?_
  exact oj_ an0 (.inl rfl)
 | true =>
  have hu0:u ≠ ⟨#[]⟩:=by
   rintro rfl
   have:isVB ⟨#[]⟩=false:=by
    have e1:((⟨#[]⟩:ByteArray).toList==wTrue.toList)=false:=by rw [Bool.eq_false_iff];intro h;cases strEq_iff.1 h
    have e2:((⟨#[]⟩:ByteArray).toList==wFalse.toList)=false:=by rw [Bool.eq_false_iff];intro h;cases strEq_iff.1 h
    have e3:((⟨#[]⟩:ByteArray).toList==wNull.toList)=false:=by rw [Bool.eq_false_iff];intro h;cases strEq_iff.1 h
    have e4:((⟨#[]⟩:ByteArray).toList==(⟨#[45]⟩:ByteArray).toList)=false:=by rw [Bool.eq_false_iff];intro h;cases strEq_iff.1 h
    unfold isVB strEq;rw [e1,e2,e3,e4];rfl
   rw [this] at hiv
   cases hiv
  obtain ⟨n3,n4⟩:=hne hu0
  subst n3
  have e1:IntKind.i64.wrap ((at_:Int) + 1)=((at_ + 1:Nat):Int):=by rw [IntWalk.i64_in _ (by omega)];rfl
  rw [if_neg (by decide)]
  rw [hiv] at hI
  unfold strEq wTrue wFalse wNull
  cases g1:(u.toList==(⟨#[116,114,117,101]⟩:ByteArray).toList) with
  | true =>
   rw [if_pos rfl]
   have hTr:=truthofR_sp true
   unfold vV at hTr
   rw [if_pos rfl] at hTr
   unfold rdH at hT hI ⊢
   dsimp only at hT hI ⊢
   clear hT2 hNu hN1 hN2
   (refine ei_ Tryz.func73 Tryz.ntmps73 Tryz.results73 fun X hX=>?_)
   refine gs_ ?_
   refine au_ an0 ?_
   (refine rn_ 0 an0 fun K hK=>?_;refine rx_ an0 ?_;refine lk_ 1000 an0 (hT) ?_;refine rx_ an0 ?_;refine rwr_nil (hK _ ?_);clear hK K)
   refine gs_ ?_
   (refine rn_ 0 an0 fun K hK=>?_;refine rx_ an0 ?_;refine lk_ 1000 an0 (hI) ?_;refine rx_ an0 ?_;refine rwr_nil (hK _ ?_);clear hK K)
   refine au_ (an2 g1 e1) ?_
   exact oj_ an0 (.inl rfl)
  | false =>
   rw [if_neg Bool.false_ne_true]
   cases g2:(u.toList==(⟨#[102,97,108,115,101]⟩:ByteArray).toList) with
   | true =>
    rw [if_pos rfl]
    have hTr:=truthofR_sp false
    unfold vV at hTr
    rw [if_neg Bool.false_ne_true] at hTr
    unfold rdH at hT hI ⊢
    dsimp only at hT hI ⊢
    clear hT2 hNu hN1 hN2
    (refine ei_ Tryz.func73 Tryz.ntmps73 Tryz.results73 fun X hX=>?_)
    refine gs_ ?_
    refine au_ an0 ?_
    (refine rn_ 0 an0 fun K hK=>?_;refine rx_ an0 ?_;refine lk_ 1000 an0 (hT) ?_;refine rx_ an0 ?_;refine rwr_nil (hK _ ?_);clear hK K)
    refine gs_ ?_
    (refine rn_ 0 an0 fun K hK=>?_;refine rx_ an0 ?_;refine lk_ 1000 an0 (hI) ?_;refine rx_ an0 ?_;refine rwr_nil (hK _ ?_);clear hK K)
    refine au_ (an3 g1 g2 e1) ?_
    exact oj_ an0 (.inl rfl)
   | false =>
    rw [if_neg Bool.false_ne_true]
    cases g3:(u.toList==(⟨#[110,117,108,108]⟩:ByteArray).toList) with
    | true =>
     rw [if_pos rfl]
     unfold rdH at hT hI ⊢
     dsimp only at hT hI ⊢
     clear hT2 hNu hN1 hN2
     (refine ei_ Tryz.func73 Tryz.ntmps73 Tryz.results73 fun X hX=>?_)
     refine gs_ ?_
     refine au_ an0 ?_
     (refine rn_ 0 an0 fun K hK=>?_;refine rx_ an0 ?_;refine lk_ 1000 an0 (hT) ?_;refine rx_ an0 ?_;refine rwr_nil (hK _ ?_);clear hK K)
     refine gs_ ?_
     (refine rn_ 0 an0 fun K hK=>?_;refine rx_ an0 ?_;refine lk_ 1000 an0 (hI) ?_;refine rx_ an0 ?_;refine rwr_nil (hK _ ?_);clear hK K)
     refine au_ (an4 g1 g2 g3 e1) ?_
     exact oj_ an0 (.inl rfl)
    | false =>
     rw [if_neg Bool.false_ne_true]
     cases g4:(u.toList==(⟨#[45]⟩:ByteArray).toList) with
     | true =>
      rw [if_pos rfl]
      cases g5:(u2.toList==(⟨#[48]⟩:ByteArray).toList) with
      | true =>
       rw [if_pos rfl]
       have hN:=hN1 (by omega)
       have hnb:(numQ l ⟨at_ + 1,true⟩).1=0:=by unfold numQ;rw [txQ_bad rfl];rfl
       rw [hnb] at hN ⊢
       generalize numQ l ⟨at_ + 1,true⟩=q at *
       obtain ⟨nv,⟨at2,bad2⟩⟩:=q
       unfold rdH at hT hI hT2 hN ⊢
       dsimp only at hT hI hT2 hN ⊢
       clear hNu hN1 hN2
       (refine ei_ Tryz.func73 Tryz.ntmps73 Tryz.results73 fun X hX=>?_)
       refine gs_ ?_
       refine au_ an0 ?_
       (refine rn_ 0 an0 fun K hK=>?_;refine rx_ an0 ?_;refine lk_ 1000 an0 (hT) ?_;refine rx_ an0 ?_;refine rwr_nil (hK _ ?_);clear hK K)
       refine gs_ ?_
       (refine rn_ 0 an0 fun K hK=>?_;refine rx_ an0 ?_;refine lk_ 1000 an0 (hI) ?_;refine rx_ an0 ?_;refine rwr_nil (hK _ ?_);clear hK K)
       refine au_ (an5 g1 g2 g3 g4 e1) ?_
       (refine rn_ 0 g5 fun K hK=>?_;refine rx_ g5 ?_;refine lk_ 1000 g5 (hT2) ?_;refine rx_ g5 ?_;refine rwr_nil (hK _ ?_);clear hK K)
       refine au_ an0 ?_
       (refine rn_ 0 an0 fun K hK=>?_;refine rx_ an0 ?_;refine lk_ 1000 an0 (hN) ?_;refine rx_ an0 ?_;refine rwr_nil (hK _ ?_);clear hK K)
       refine au_ an0 ?_
       exact oj_ an0 (.inl rfl)
      | false =>
       rw [if_neg Bool.false_ne_true]
       have hN:=hN2 (by omega)
       have hnr:IntKind.i64.wrap (0 - (numQ l ⟨at_ + 1,false⟩).1)=-(numQ l ⟨at_ + 1,false⟩).1:=by
        rw [Int.zero_sub]
        refine IntWalk.i64_in _ ?_
        unfold numQ
        split
        ·rename_i hdg
         obtain ⟨s1,s2,_⟩:=txQ_num hl hdg
         have:=numL_small s2 s1 _ (Nat.le_refl _)
         rw [List.take_length] at this
         dsimp only
         omega
        ·dsimp only;omega
       generalize numQ l ⟨at_ + 1,false⟩=q at *
       obtain ⟨nv,⟨at2,bad2⟩⟩:=q
       unfold rdH at hT hI hT2 hN ⊢
       dsimp only at hT hI hT2 hN hnr ⊢
       clear hNu hN1 hN2
       (refine ei_ Tryz.func73 Tryz.ntmps73 Tryz.results73 fun X hX=>?_)
       refine gs_ ?_
       refine au_ an0 ?_
       (refine rn_ 0 an0 fun K hK=>?_;refine rx_ an0 ?_;refine lk_ 1000 an0 (hT) ?_;refine rx_ an0 ?_;refine rwr_nil (hK _ ?_);clear hK K)
       refine gs_ ?_
       (refine rn_ 0 an0 fun K hK=>?_;refine rx_ an0 ?_;refine lk_ 1000 an0 (hI) ?_;refine rx_ an0 ?_;refine rwr_nil (hK _ ?_);clear hK K)
       refine au_ (an5 g1 g2 g3 g4 e1) ?_
       (refine rn_ 0 g5 fun K hK=>?_;refine rx_ g5 ?_;refine lk_ 1000 g5 (hT2) ?_;refine rx_ g5 ?_;refine rwr_nil (hK _ ?_);clear hK K)
       refine au_ an0 ?_
       (refine rn_ 0 hnr fun K hK=>?_;refine rx_ hnr ?_;refine lk_ 1000 hnr (hN) ?_;refine rx_ hnr ?_;refine rwr_nil (hK _ ?_);clear hK K)
       refine au_ hnr ?_
       exact oj_ an0 (.inl rfl)
     | false =>
      rw [if_neg Bool.false_ne_true]
      cases hf:fst8 u with
      | none=>exact absurd (fst_none hf) hu0
      | some c =>
       obtain ⟨h0,hz⟩:=fst_get hf
       cases g6:((c.toNat:Int)==39) with
       | true =>
        have hq:quoF u=true:=by
         unfold quoF
         rw [hf]
         show (c==39)=true
         rw [beq_iff_eq]
         apply UInt8.toNat_inj.1
         show c.toNat=39
         have:=eq_of_beq g6
         omega
        rw [if_pos hq]
        obtain ⟨s1,s2,_⟩:=hqu hq
        have e2:IntKind.i64.wrap ((u.size:Int) - 1)=((u.size - 1:Nat):Int):=by rw [IntWalk.i64_in _ (by omega)];omega
        have e3:(1:Int)≤((u.size - 1:Nat):Int):=by omega
        have e4:((u.size - 1:Nat):Int)≤(u.size:Int):=by omega
        have e5:=unq_slice s1
        unfold rdH at hT hI ⊢
        dsimp only at hT hI ⊢
        clear hT2 hNu hN1 hN2
        (refine ei_ Tryz.func73 Tryz.ntmps73 Tryz.results73 fun X hX=>?_)
        refine gs_ ?_
        refine au_ an0 ?_
        (refine rn_ 0 an0 fun K hK=>?_;refine rx_ an0 ?_;refine lk_ 1000 an0 (hT) ?_;refine rx_ an0 ?_;refine rwr_nil (hK _ ?_);clear hK K)
        refine gs_ ?_
        (refine rn_ 0 an0 fun K hK=>?_;refine rx_ an0 ?_;refine lk_ 1000 an0 (hI) ?_;refine rx_ an0 ?_;refine rwr_nil (hK _ ?_);clear hK K)
        refine au_ (an3 (an6 g1 g2 g3 g4 g6 e1) h0 (an4 e2 e3 e4 e5)) ?_
        exact oj_ an0 (.inl rfl)
       | false =>
        have hq:quoF u=false:=by
         unfold quoF
         rw [hf]
         show (c==39)=false
         rw [beq_eq_false_iff_ne]
         rintro rfl
         cases g6
        rw [if_neg (by rw [hq];decide)]
        generalize numQ l ⟨at_,false⟩=q at *
        obtain ⟨nv,⟨at2,bad2⟩⟩:=q
        unfold rdH at hT hI hNu ⊢
        dsimp only at hT hI hNu ⊢
        clear hT2 hN1 hN2
        (refine ei_ Tryz.func73 Tryz.ntmps73 Tryz.results73 fun X hX=>?_)
        refine gs_ ?_
        refine au_ an0 ?_
        (refine rn_ 0 an0 fun K hK=>?_;refine rx_ an0 ?_;refine lk_ 1000 an0 (hT) ?_;refine rx_ an0 ?_;refine rwr_nil (hK _ ?_);clear hK K)
        refine gs_ ?_
        (refine rn_ 0 an0 fun K hK=>?_;refine rx_ an0 ?_;refine lk_ 1000 an0 (hI) ?_;refine rx_ an0 ?_;refine rwr_nil (hK _ ?_);clear hK K)
        refine au_ (an2 (an5 g1 g2 g3 g4 g6) h0) ?_
        (refine rn_ 0 an0 fun K hK=>?_;refine rx_ an0 ?_;refine lk_ 1000 an0 (hNu) ?_;refine rx_ an0 ?_;refine rwr_nil (hK _ ?_);clear hK K)
        refine au_ an0 ?_
        exact oj_ an0 (.inl rfl)
set_option maxHeartbeats 8000000 in
theorem rtype_l (l:List Vl) (hl:l.length≤2000) (en:Int) (r:RS) (hr:r.at_≤l.length):SpL Tryz.prog 124 [.one (.optr 1000 0)] 69 (rdH l en r) (.one (.t true (.lit (.int .i64 (typeQ l r).1)))) (rdH l en (typeQ l r).2) 26:=by
 intro vs hlen hone
 have h1:=rtake_l l (by omega) en r hr ⟨#[105,110,116]⟩
 have q1:=takeQ_le (s:=⟨#[105,110,116]⟩) hr (by decide)
 unfold typeQ
 generalize takeQ l ⟨#[105,110,116]⟩ r=k1 at *
 obtain ⟨b1,r1⟩:=k1
 dsimp only at h1 q1 ⊢
 have h2:=rtake_l l (by omega) en r1 q1 ⟨#[116,101,120,116]⟩
 have q2:=takeQ_le (s:=⟨#[116,101,120,116]⟩) q1 (by decide)
 generalize takeQ l ⟨#[116,101,120,116]⟩ r1=k2 at *
 obtain ⟨b2,r2⟩:=k2
 dsimp only at h2 q2 ⊢
 have h3:=rneed_l l (by omega) en r2 q2 ⟨#[98,111,111,108]⟩
 generalize needQ l ⟨#[98,111,111,108]⟩ r2=r3 at *
 obtain ⟨at0,bad0⟩:=r
 obtain ⟨at1,bad1⟩:=r1
 obtain ⟨at2,bad2⟩:=r2
 obtain ⟨at3,bad3⟩:=r3
 unfold rdH at h1 h2 h3 ⊢
 dsimp only at h1 h2 h3 ⊢
 cases b1 with
 | true =>
  rw [if_pos rfl]
  clear h2 h3
  (refine ei_ Tryz.func124 Tryz.ntmps124 Tryz.results124 fun X hX=>?_)
  refine gs_ ?_
  refine au_ an0 ?_
  (refine rn_ 0 an0 fun K hK=>?_;refine rx_ an0 ?_;refine lk_ 1000 an0 (h1) ?_;refine rx_ an0 ?_;refine rwr_nil (hK _ ?_);clear hK K)
  refine au_ an0 ?_
  exact oj_ an0 (.inl rfl)
 | false =>
  rw [if_neg Bool.false_ne_true]
  cases b2 with
  | true =>
   rw [if_pos rfl]
   (refine ei_ Tryz.func124 Tryz.ntmps124 Tryz.results124 fun X hX=>?_)
   refine gs_ ?_
   refine au_ an0 ?_
   (refine rn_ 0 an0 fun K hK=>?_;refine rx_ an0 ?_;refine lk_ 1000 an0 (h1) ?_;refine rx_ an0 ?_;refine rwr_nil (hK _ ?_);clear hK K)
   refine gs_ ?_
   (refine rn_ 0 an0 fun K hK=>?_;refine rx_ an0 ?_;refine lk_ 1000 an0 (h2) ?_;refine rx_ an0 ?_;refine rwr_nil (hK _ ?_);clear hK K)
   refine au_ an0 ?_
   exact oj_ an0 (.inl rfl)
  | false =>
   rw [if_neg Bool.false_ne_true]
   (refine ei_ Tryz.func124 Tryz.ntmps124 Tryz.results124 fun X hX=>?_)
   refine gs_ ?_
   refine au_ an0 ?_
   (refine rn_ 0 an0 fun K hK=>?_;refine rx_ an0 ?_;refine lk_ 1000 an0 (h1) ?_;refine rx_ an0 ?_;refine rwr_nil (hK _ ?_);clear hK K)
   refine gs_ ?_
   (refine rn_ 0 an0 fun K hK=>?_;refine rx_ an0 ?_;refine lk_ 1000 an0 (h2) ?_;refine rx_ an0 ?_;refine rwr_nil (hK _ ?_);clear hK K)
   refine gs_ ?_
   (refine rn_ 0 an0 fun K hK=>?_;refine rx_ an0 ?_;refine lk_ 1000 an0 (h3) ?_;refine rx_ an0 ?_;refine rwr_nil (hK _ ?_);clear hK K)
   refine au_ an0 ?_
   exact oj_ an0 (.inl rfl)
end Go.Proofs.YtjdgejfhnfnmgaaGreatDoor.Ax
