/-  -/
import Derived.Test.YtjdgejfhnfnmgaaGreatDoorS19
import Derived.Test.YtjdgejfhnfnmgaaGreatDoorS29
namespace Go.Proofs.YtjdgejfhnfnmgaaGreatDoor.Ax
open Go.RowKit Go.Sort
set_option linter.unusedSimpArgs false
attribute [local go_sem] ty3 ty4 ty9 ty5 ty26 ty24 ty77 ty43 ty67 ty65
set_option linter.unusedVariables false
set_option maxRecDepth 100000
theorem kindP_some {l:List Vl} {n:Int} {k:Nat} (h:kindP l n k=true):∃ t,k < l.length∧l[k]?=some t∧t.k=n:=by
 unfold kindP at h
 cases ht:l[k]? with
 | none=>rw [ht] at h;cases h
 | some t=>rw [ht] at h;exact ⟨t,(List.getElem?_eq_some_iff.1 ht).1,rfl,by simpa using h⟩
set_option maxHeartbeats 8000000 in
theorem pv_l (l:List Vl) (hl:GoodL l) (en:Int) (k:Nat) (v:Vl) (k2:Nat) (h:vP l k=.yes v k2):SpL Tryz.prog 154 [.one (.optr 1000 0)] 67 (paH l en k) (.tup [vV v,.one (.t true (.lit (.bool true)))]) (paH l en k2) 26:=by
 intro vs hlen hone
 have hll:=hl.len
 have hll4:l.length≤4000:=by omega
 have hT1:=ptake_l l hll4 en k wTrue
 have hT2:=ptake_l l hll4 en k wFalse
 have hT3:=ptake_l l hll4 en k wNull
 have hK3:=pkind_l l en k 3
 have hT4:=ptake_l l hll4 en k ⟨#[45]⟩
 have hK2:=pkind_l l en k 2
 have hF:=pfail_l l en (k + 1)
 have hNy:=fun h=>pnumber_l l hl en k h
 have hNz:=fun h=>pnumber_l l hl en (k + 1) h
 have hNb:=fun h=>pnumber_p l en (k + 1) h
 have hTr:Sp Tryz.prog 164 [.one (.lit (.bool true))] (vV ⟨3,1,⟨#[]⟩⟩) []:=truth_sp true
 have hFa:Sp Tryz.prog 164 [.one (.lit (.bool false))] (vV ⟨3,0,⟨#[]⟩⟩) []:=truth_sp false
 unfold vV at hTr hFa
 unfold vP at h
 unfold vV
 unfold paH at hT1 hT2 hT3 hT4 hK3 hK2 hF hNy hNz hNb ⊢
 unfold wTrue at hT1
 unfold wFalse at hT2
 unfold wNull at hT3
 (refine ei_ Tryz.func154 Tryz.ntmps154 Tryz.results154 fun X hX=>?_)
 refine gs_ ?_
 refine au_ an0 ?_
 cases b1:takeB l wTrue k with
 | true =>
  rw [if_pos b1] at h
  cases h
  unfold wTrue at b1
  rw [b1,takeK_t b1] at hT1
  (refine rn_ 0 an0 fun K hK=>?_;refine rx_ an0 ?_;refine lk_ 1000 an0 (hT1) ?_;refine rx_ an0 ?_;refine rwr_nil (hK _ ?_);clear hK K)
  refine au_ an0 ?_
  exact oj_ an0 (.inl rfl)
 | false =>
  rw [if_neg (by rw [b1];decide)] at h
  unfold wTrue at b1
  rw [b1,takeK_f b1] at hT1
  (refine rn_ 0 an0 fun K hK=>?_;refine rx_ an0 ?_;refine lk_ 1000 an0 (hT1) ?_;refine rx_ an0 ?_;refine rwr_nil (hK _ ?_);clear hK K)
  refine au_ an0 ?_
  cases b2:takeB l wFalse k with
  | true =>
   rw [if_pos b2] at h
   cases h
   unfold wFalse at b2
   rw [b2,takeK_t b2] at hT2
   (refine rn_ 0 an0 fun K hK=>?_;refine rx_ an0 ?_;refine lk_ 1000 an0 (hT2) ?_;refine rx_ an0 ?_;refine rwr_nil (hK _ ?_);clear hK K)
   refine au_ an0 ?_
   exact oj_ an0 (.inl rfl)
  | false =>
   rw [if_neg (by rw [b2];decide)] at h
   unfold wFalse at b2
   rw [b2,takeK_f b2] at hT2
   (refine rn_ 0 an0 fun K hK=>?_;refine rx_ an0 ?_;refine lk_ 1000 an0 (hT2) ?_;refine rx_ an0 ?_;refine rwr_nil (hK _ ?_);clear hK K)
   refine au_ an0 ?_
   cases b3:takeB l wNull k with
   | true =>
    rw [if_pos b3] at h
    cases h
    unfold wNull at b3
    rw [b3,takeK_t b3] at hT3
    (refine rn_ 0 an0 fun K hK=>?_;refine rx_ an0 ?_;refine lk_ 1000 an0 (hT3) ?_;refine rx_ an0 ?_;refine rwr_nil (hK _ ?_);clear hK K)
    refine au_ an0 ?_
    exact oj_ an0 (.inl rfl)
   | false =>
    rw [if_neg (by rw [b3];decide)] at h
    unfold wNull at b3
    rw [b3,takeK_f b3] at hT3
    (refine rn_ 0 an0 fun K hK=>?_;refine rx_ an0 ?_;refine lk_ 1000 an0 (hT3) ?_;refine rx_ an0 ?_;refine rwr_nil (hK _ ?_);clear hK K)
    refine au_ an0 ?_
    cases b4:kindP l 3 k with
    | true =>
     rw [if_pos b4] at h
     cases h
     obtain ⟨t,hlt,ht,htk⟩:=kindP_some b4
     obtain ⟨hz1,hz2⟩:=(tok_num (hl.tok t (List.mem_of_getElem? ht))).2.2.2 htk
     have j2:(k:Int) < (l.length:Int):=by omega
     have j3:(0:Int)≤(k:Int):=by omega
     have e2:IntKind.i64.wrap ((k:Int) + 1)=((k + 1:Nat):Int):=by rw [IntWalk.i64_in _ (by omega)];rfl
     have e3:IntKind.i64.wrap ((t.s.size:Int) - 1)=((t.s.size - 1:Nat):Int):=by rw [IntWalk.i64_in _ (by omega)];omega
     have e4:(0:Int)≤1∧(1:Int)≤((t.s.size - 1:Nat):Int)∧((t.s.size - 1:Nat):Int)≤(t.s.size:Int):=by omega
     rw [b4] at hK3
     have e5:txP l k=t.s:=by unfold txP;rw [ht]
     rw [e5]
     unfold unq
     (refine rn_ 0 an0 fun K hK=>?_;refine rx_ an0 ?_;refine lk_ 1000 an0 (hK3) ?_;refine rx_ an0 ?_;refine rwr_nil (hK _ ?_);clear hK K)
     refine au_ (an2 (an5 ht hlt j2 j3 e2) (an2 e3 e4)) ?_
     exact oj_ an0 (.inl rfl)
    | false =>
     rw [if_neg (by rw [b4];decide)] at h
     rw [b4] at hK3
     (refine rn_ 0 an0 fun K hK=>?_;refine rx_ an0 ?_;refine lk_ 1000 an0 (hK3) ?_;refine rx_ an0 ?_;refine rwr_nil (hK _ ?_);clear hK K)
     refine au_ an0 ?_
     cases b5:takeB l ⟨#[45]⟩ k with
     | true =>
      rw [if_pos b5] at h
      split at h
      ·cases h
      ·rename_i n0
       split at h
       ·rename_i b7
        cases h
        obtain ⟨t2,hlt,ht2,hk2⟩:=kindP_some b7
        obtain ⟨hz,hd⟩:=(tok_num (hl.tok t2 (List.mem_of_getElem? ht2))).2.1 hk2
        have hN:=hNz b7
        have e9:txP l (k + 1)=t2.s:=by unfold txP;rw [ht2]
        rw [e9] at hN ⊢
        have hb:=numL_small hd (by exact hz) _ (Nat.le_refl _)
        rw [List.take_length] at hb
        generalize numL t2.s.data.toList=n at *
        have e8:IntKind.i64.wrap (0 - n)=-n:=by rw [IntWalk.i64_in _ (by omega)];omega
        have q0:(t2.s.toList==(⟨#[48]⟩:ByteArray).toList)=false:=by
         unfold takeB strEq at n0
         rw [ht2] at n0
         exact Bool.eq_false_iff.2 n0
        have e1:decide (((k + 1:Nat):Int) < (l.length:Int))=true:=by simp;omega
        have j2:((k + 1:Nat):Int) < (l.length:Int):=by omega
        have j3:(0:Int)≤((k + 1:Nat):Int):=by omega
        rw [b5,takeK_t b5] at hT4
        (refine rn_ 0 an0 fun K hK=>?_;refine rx_ an0 ?_;refine lk_ 1000 an0 (hT4) ?_;refine rx_ an0 ?_;refine rwr_nil (hK _ ?_);clear hK K)
        refine au_ (an2 (an5 e1 ht2 hlt j2 j3) q0) ?_
        (refine rn_ 0 e8 fun K hK=>?_;refine rx_ e8 ?_;refine lk_ 1000 e8 (hN) ?_;refine rx_ e8 ?_;refine rwr_nil (hK _ ?_);clear hK K)
        refine au_ an0 ?_
        exact oj_ an0 (.inl rfl)
       ·cases h
     | false =>
      rw [if_neg (by rw [b5];decide)] at h
      rw [b5,takeK_f b5] at hT4
      (refine rn_ 0 an0 fun K hK=>?_;refine rx_ an0 ?_;refine lk_ 1000 an0 (hT4) ?_;refine rx_ an0 ?_;refine rwr_nil (hK _ ?_);clear hK K)
      refine au_ an0 ?_
      cases b6:kindP l 2 k with
      | true =>
       rw [if_pos b6] at h
       cases h
       rw [b6] at hK2
       have hN:=hNy b6
       (refine rn_ 0 an0 fun K hK=>?_;refine rx_ an0 ?_;refine lk_ 1000 an0 (hK2) ?_;refine rx_ an0 ?_;refine rwr_nil (hK _ ?_);clear hK K)
       refine au_ an0 ?_
       (refine rn_ 0 an0 fun K hK=>?_;refine rx_ an0 ?_;refine lk_ 1000 an0 (hN) ?_;refine rx_ an0 ?_;refine rwr_nil (hK _ ?_);clear hK K)
       refine au_ an0 ?_
       exact oj_ an0 (.inl rfl)
      | false =>
       rw [if_neg (by rw [b6];decide)] at h
       cases h
set_option maxHeartbeats 8000000 in
theorem pv_n (l:List Vl) (hl:GoodL l) (en:Int) (k:Nat) (h:vP l k=.no):SpL Tryz.prog 154 [.one (.optr 1000 0)] 67 (paH l en k) (.tup [vV ⟨0,0,⟨#[]⟩⟩,.one (.t true (.lit (.bool false)))]) (paH l en k) 26:=by
 intro vs hlen hone
 have hll:=hl.len
 have hll4:l.length≤4000:=by omega
 have hT1:=ptake_l l hll4 en k wTrue
 have hT2:=ptake_l l hll4 en k wFalse
 have hT3:=ptake_l l hll4 en k wNull
 have hK3:=pkind_l l en k 3
 have hT4:=ptake_l l hll4 en k ⟨#[45]⟩
 have hK2:=pkind_l l en k 2
 have hF:=pfail_l l en (k + 1)
 have hNy:=fun h=>pnumber_l l hl en k h
 have hNz:=fun h=>pnumber_l l hl en (k + 1) h
 have hNb:=fun h=>pnumber_p l en (k + 1) h
 unfold vP at h
 unfold vV
 unfold paH at hT1 hT2 hT3 hT4 hK3 hK2 hF hNy hNz hNb ⊢
 unfold wTrue at hT1
 unfold wFalse at hT2
 unfold wNull at hT3
 (refine ei_ Tryz.func154 Tryz.ntmps154 Tryz.results154 fun X hX=>?_)
 refine gs_ ?_
 refine au_ an0 ?_
 cases b1:takeB l wTrue k with
 | true =>
  rw [if_pos b1] at h
  cases h
 | false =>
  rw [if_neg (by rw [b1];decide)] at h
  unfold wTrue at b1
  rw [b1,takeK_f b1] at hT1
  (refine rn_ 0 an0 fun K hK=>?_;refine rx_ an0 ?_;refine lk_ 1000 an0 (hT1) ?_;refine rx_ an0 ?_;refine rwr_nil (hK _ ?_);clear hK K)
  refine au_ an0 ?_
  cases b2:takeB l wFalse k with
  | true =>
   rw [if_pos b2] at h
   cases h
  | false =>
   rw [if_neg (by rw [b2];decide)] at h
   unfold wFalse at b2
   rw [b2,takeK_f b2] at hT2
   (refine rn_ 0 an0 fun K hK=>?_;refine rx_ an0 ?_;refine lk_ 1000 an0 (hT2) ?_;refine rx_ an0 ?_;refine rwr_nil (hK _ ?_);clear hK K)
   refine au_ an0 ?_
   cases b3:takeB l wNull k with
   | true =>
    rw [if_pos b3] at h
    cases h
   | false =>
    rw [if_neg (by rw [b3];decide)] at h
    unfold wNull at b3
    rw [b3,takeK_f b3] at hT3
    (refine rn_ 0 an0 fun K hK=>?_;refine rx_ an0 ?_;refine lk_ 1000 an0 (hT3) ?_;refine rx_ an0 ?_;refine rwr_nil (hK _ ?_);clear hK K)
    refine au_ an0 ?_
    cases b4:kindP l 3 k with
    | true =>
     rw [if_pos b4] at h
     cases h
    | false =>
     rw [if_neg (by rw [b4];decide)] at h
     rw [b4] at hK3
     (refine rn_ 0 an0 fun K hK=>?_;refine rx_ an0 ?_;refine lk_ 1000 an0 (hK3) ?_;refine rx_ an0 ?_;refine rwr_nil (hK _ ?_);clear hK K)
     refine au_ an0 ?_
     cases b5:takeB l ⟨#[45]⟩ k with
     | true =>
      rw [if_pos b5] at h
      split at h
      ·cases h
      ·split at h <;> cases h
     | false =>
      rw [if_neg (by rw [b5];decide)] at h
      rw [b5,takeK_f b5] at hT4
      (refine rn_ 0 an0 fun K hK=>?_;refine rx_ an0 ?_;refine lk_ 1000 an0 (hT4) ?_;refine rx_ an0 ?_;refine rwr_nil (hK _ ?_);clear hK K)
      refine au_ an0 ?_
      cases b6:kindP l 2 k with
      | true =>
       rw [if_pos b6] at h
       cases h
      | false =>
       rw [if_neg (by rw [b6];decide)] at h
       rw [b6] at hK2
       (refine rn_ 0 an0 fun K hK=>?_;refine rx_ an0 ?_;refine lk_ 1000 an0 (hK2) ?_;refine rx_ an0 ?_;refine rwr_nil (hK _ ?_);clear hK K)
       refine au_ an0 ?_
       exact oj_ an0 (.inl rfl)
set_option maxHeartbeats 8000000 in
theorem pv_p (l:List Vl) (hl:GoodL l) (en:Int) (k:Nat) (k2:Nat) (h:vP l k=.bad k2):SpPL Tryz.prog 154 [.one (.optr 1000 0)] 67 (paH l en k) (chP l en k2) 26:=by
 intro vs hlen hone
 have hll:=hl.len
 have hll4:l.length≤4000:=by omega
 have hT1:=ptake_l l hll4 en k wTrue
 have hT2:=ptake_l l hll4 en k wFalse
 have hT3:=ptake_l l hll4 en k wNull
 have hK3:=pkind_l l en k 3
 have hT4:=ptake_l l hll4 en k ⟨#[45]⟩
 have hK2:=pkind_l l en k 2
 have hF:=pfail_l l en (k + 1)
 have hNy:=fun h=>pnumber_l l hl en k h
 have hNz:=fun h=>pnumber_l l hl en (k + 1) h
 have hNb:=fun h=>pnumber_p l en (k + 1) h
 unfold vP at h
 unfold paH at hT1 hT2 hT3 hT4 hK3 hK2 hF hNy hNz hNb ⊢
 unfold wTrue at hT1
 unfold wFalse at hT2
 unfold wNull at hT3
 (refine ep_ Tryz.func154 Tryz.ntmps154 fun X hX hpn=>?_)
 refine gs_ ?_
 refine au_ an0 ?_
 cases b1:takeB l wTrue k with
 | true =>
  rw [if_pos b1] at h
  cases h
 | false =>
  rw [if_neg (by rw [b1];decide)] at h
  unfold wTrue at b1
  rw [b1,takeK_f b1] at hT1
  (refine rn_ 0 an0 fun K hK=>?_;refine rx_ an0 ?_;refine lk_ 1000 an0 (hT1) ?_;refine rx_ an0 ?_;refine rwr_nil (hK _ ?_);clear hK K)
  refine au_ an0 ?_
  cases b2:takeB l wFalse k with
  | true =>
   rw [if_pos b2] at h
   cases h
  | false =>
   rw [if_neg (by rw [b2];decide)] at h
   unfold wFalse at b2
   rw [b2,takeK_f b2] at hT2
   (refine rn_ 0 an0 fun K hK=>?_;refine rx_ an0 ?_;refine lk_ 1000 an0 (hT2) ?_;refine rx_ an0 ?_;refine rwr_nil (hK _ ?_);clear hK K)
   refine au_ an0 ?_
   cases b3:takeB l wNull k with
   | true =>
    rw [if_pos b3] at h
    cases h
   | false =>
    rw [if_neg (by rw [b3];decide)] at h
    unfold wNull at b3
    rw [b3,takeK_f b3] at hT3
    (refine rn_ 0 an0 fun K hK=>?_;refine rx_ an0 ?_;refine lk_ 1000 an0 (hT3) ?_;refine rx_ an0 ?_;refine rwr_nil (hK _ ?_);clear hK K)
    refine au_ an0 ?_
    cases b4:kindP l 3 k with
    | true =>
     rw [if_pos b4] at h
     cases h
    | false =>
     rw [if_neg (by rw [b4];decide)] at h
     rw [b4] at hK3
     (refine rn_ 0 an0 fun K hK=>?_;refine rx_ an0 ?_;refine lk_ 1000 an0 (hK3) ?_;refine rx_ an0 ?_;refine rwr_nil (hK _ ?_);clear hK K)
     refine au_ an0 ?_
     cases b5:takeB l ⟨#[45]⟩ k with
     | true =>
      rw [if_pos b5] at h
      rw [b5,takeK_t b5] at hT4
      (refine rn_ 0 an0 fun K hK=>?_;refine rx_ an0 ?_;refine lk_ 1000 an0 (hT4) ?_;refine rx_ an0 ?_;refine rwr_nil (hK _ ?_);clear hK K)
      have j3:(0:Int)≤((k + 1:Nat):Int):=by omega
      by_cases hlt:k + 1 < l.length
      ·obtain ⟨t2,ht2⟩:∃ t,l[k + 1]?=some t:=⟨_,List.getElem?_eq_getElem hlt⟩
       have e1:decide (((k + 1:Nat):Int) < (l.length:Int))=true:=by simp;omega
       have j2:((k + 1:Nat):Int) < (l.length:Int):=by omega
       split at h
       ·rename_i n0
        cases h
        have q0:(t2.s.toList==(⟨#[48]⟩:ByteArray).toList)=true:=by
         unfold takeB strEq at n0
         rw [ht2] at n0
         exact n0
        refine au_ (an2 (an5 e1 ht2 hlt j2 j3) q0) ?_
        (refine rn_ 0 an0 fun K hK=>?_;refine rx_ an0 ?_;exact pn_ 1000 an0 (hF) hpn)
       ·rename_i n0
        split at h
        ·cases h
        ·rename_i b7
         cases h
         have hN:=hNb (Bool.eq_false_iff.2 b7)
         have q0:(t2.s.toList==(⟨#[48]⟩:ByteArray).toList)=false:=by
          unfold takeB strEq at n0
          rw [ht2] at n0
          exact Bool.eq_false_iff.2 n0
         refine au_ (an2 (an5 e1 ht2 hlt j2 j3) q0) ?_
         (refine rn_ 0 an0 fun K hK=>?_;refine rx_ an0 ?_;exact pn_ 1000 an0 (hN) hpn)
      ·have e1:decide (((k + 1:Nat):Int) < (l.length:Int))=false:=by simp;omega
       have n1:takeB l ⟨#[48]⟩ (k + 1)=false:=by unfold takeB;rw [List.getElem?_eq_none (by omega)]
       have n2:kindP l 2 (k + 1)=false:=by unfold kindP;rw [List.getElem?_eq_none (by omega)]
       rw [if_neg (by rw [n1];decide),if_neg (by rw [n2];decide)] at h
       cases h
       have hN:=hNb n2
       refine au_ e1 ?_
       (refine rn_ 0 an0 fun K hK=>?_;refine rx_ an0 ?_;exact pn_ 1000 an0 (hN) hpn)
     | false =>
      rw [if_neg (by rw [b5];decide)] at h
      rw [b5,takeK_f b5] at hT4
      (refine rn_ 0 an0 fun K hK=>?_;refine rx_ an0 ?_;refine lk_ 1000 an0 (hT4) ?_;refine rx_ an0 ?_;refine rwr_nil (hK _ ?_);clear hK K)
      refine au_ an0 ?_
      cases b6:kindP l 2 k with
      | true =>
       rw [if_pos b6] at h
       cases h
      | false =>
       rw [if_neg (by rw [b6];decide)] at h
       cases h
end Go.Proofs.YtjdgejfhnfnmgaaGreatDoor.Ax
namespace Go.Proofs.YtjdgejfhnfnmgaaGreatDoor.Ax
open Go.RowKit Go.Sort
set_option linter.unusedSimpArgs false
attribute [local go_sem] ty3 ty4 ty9 ty5 ty26 ty24 ty77 ty43 ty67 ty65
set_option linter.unusedVariables false
set_option maxRecDepth 100000
set_option maxHeartbeats 4000000 in
theorem pmust_l (l:List Vl) (hl:GoodL l) (en:Int) (k:Nat) (v:Vl) (k2:Nat) (h:vP l k=.yes v k2):SpL Tryz.prog 116 [.one (.optr 1000 0)] 67 (paH l en k) (vV v) (paH l en k2) 26:=by
 intro vs hlen hone
 have hV:=pv_l l hl en k v k2 h
 obtain ⟨vk,vn,vt⟩:=v
 unfold vV at hV ⊢
 unfold paH at hV ⊢
 (refine ei_ Tryz.func116 Tryz.ntmps116 Tryz.results116 fun X hX=>?_)
 refine gs_ ?_
 refine au_ an0 ?_
 (refine rn_ 0 an0 fun K hK=>?_;refine rx_ an0 ?_;refine lk_ 1000 an0 (hV) ?_;refine rx_ an0 ?_;refine rwr_nil (hK _ ?_);clear hK K)
 refine au_ an0 ?_
 exact oj_ an0 (.inl rfl)
set_option maxHeartbeats 4000000 in
theorem pmust_n (l:List Vl) (hl:GoodL l) (en:Int) (k:Nat) (h:vP l k=.no):SpPL Tryz.prog 116 [.one (.optr 1000 0)] 67 (paH l en k) (chP l en k) 26:=by
 intro vs hlen hone
 have hV:=pv_n l hl en k h
 have hF:=pfail_l l en k
 unfold vV at hV
 unfold paH at hV hF ⊢
 (refine ep_ Tryz.func116 Tryz.ntmps116 fun X hX hpn=>?_)
 refine gs_ ?_
 refine au_ an0 ?_
 (refine rn_ 0 an0 fun K hK=>?_;refine rx_ an0 ?_;refine lk_ 1000 an0 (hV) ?_;refine rx_ an0 ?_;refine rwr_nil (hK _ ?_);clear hK K)
 refine au_ an0 ?_
 (refine rn_ 0 an0 fun K hK=>?_;refine rx_ an0 ?_;exact pn_ 1000 an0 (hF) hpn)
set_option maxHeartbeats 4000000 in
theorem pmust_p (l:List Vl) (hl:GoodL l) (en:Int) (k:Nat) (k2:Nat) (h:vP l k=.bad k2):SpPL Tryz.prog 116 [.one (.optr 1000 0)] 67 (paH l en k) (chP l en k2) 26:=by
 intro vs hlen hone
 have hV:=pv_p l hl en k k2 h
 unfold paH at hV ⊢
 (refine ep_ Tryz.func116 Tryz.ntmps116 fun X hX hpn=>?_)
 refine gs_ ?_
 refine au_ an0 ?_
 (refine rn_ 0 an0 fun K hK=>?_;refine rx_ an0 ?_;exact pn_ 1000 an0 (hV) hpn)
end Go.Proofs.YtjdgejfhnfnmgaaGreatDoor.Ax
namespace Go.Proofs.YtjdgejfhnfnmgaaGreatDoor.Ax
open Go.RowKit Go.Sort
set_option linter.unusedSimpArgs false
attribute [local go_sem] ty3 ty4 ty9 ty5 ty26 ty24 ty77 ty43 ty67 ty65
set_option linter.unusedVariables false
set_option maxRecDepth 100000
theorem Hold.meltT {X:Cx} {st:St} {ρ:Nat→R} {a:Act} {w:World} (hH:Hold X st ρ a w) (t id:Nat) {e:TypeId} {size len:Nat} {z:Bool} {rows:List (List T)} (ht:get t st.sl=some (.one (.own id len))) (hb:get id st.bl=some (.arr e size z rows)) (hl:rows.length=len):Hold X (meltSt st t id z rows) (updR ρ id .dead) a w:=by
 have hT:=hH.turn (evo_dead hH (id:=id)) (nb:=[]) (by intro id b h;cases h)
 refine ⟨hT.defers,hT.size,hT.below,hT.keep,hT.ge,hT.inj,hT.pin,fun t' v hv=>?_,hT.blocks,hT.gk,hT.gw⟩
 simp only [meltSt,get] at hv
 split at hv
 ·rename_i htt
  subst htt
  injection hv with hv
  subst hv
  obtain ⟨x,h1,h2⟩:=hH.slots _ _ ht
  refine ⟨x,h1,?_⟩
  unfold RdV at h2 ⊢
  unfold RdC
  exact row_melt hH hb hl h2
 ·exact hT.slots t' v hv
theorem rwr_melt {P:Program} {X:Cx} {ops:Array Oper} {K:St→Prop} {l:List Oper} {st st2:St} (t id:Nat) {e:TypeId} {size len:Nat} {z:Bool} {rows:List (List T)} (h:RWr P X ops K (l,st2)) (ht:get t st.sl=some (.one (.own id len)):=by simp only [go_sem];exact rfl) (hb:get id st.bl=some (.arr e size z rows):=by simp only [go_sem];exact rfl) (hl:rows.length=len:=by first | rfl | assumption | simp only [go_sem]) (hs:meltSt st t id z rows=st2:=by simp only [go_sem,meltSt];exact rfl):RWr P X ops K (l,st):=by
 subst hs
 exact fun ρ a w hH=>h _ a w (hH.meltT t id ht hb hl)
def wTypes:List ByteArray:=[⟨#[105,110,116]⟩,⟨#[116,101,120,116]⟩,⟨#[98,111,111,108]⟩]
theorem oneP_le:∀ {l:List Vl} {k:Nat} {L:List ByteArray} {i:Nat},oneP l k L i < (i:Int) + L.length∧-1≤oneP l k L i ∨ oneP l k L i=-1
 | l,k,[],i=>.inr rfl
 | l,k,s :: r,i=>by
  unfold oneP
  split
  ·left;simp only [List.length_cons];omega
  ·rcases oneP_le (l:=l) (k:=k) (L:=r) (i:=i + 1) with ⟨h1,h2⟩ | h1
   ·left;simp only [List.length_cons];omega
   ·exact .inr h1
set_option maxHeartbeats 4000000 in
theorem ptyp_l (l:List Vl) (hl:l.length≤4000) (en:Int) (k:Nat) (h:¬ oneP l k wTypes 0=-1):SpL Tryz.prog 153 [.one (.optr 1000 0)] 67 (paH l en k) (.one (.t true (.lit (.int .i64 (1 + oneP l k wTypes 0))))) (paH l en (k + 1)) 26:=by
 intro vs hlen hone
 have hO:=pone_l l hl en k wTypes (by decide) h
 have h0:=oneP_ge h
 have h1:oneP l k wTypes 0 < 3:=by
  rcases oneP_le (l:=l) (k:=k) (L:=wTypes) (i:=0) with ⟨h1,h2⟩ | h1
  ·have:wTypes.length=3:=rfl
   omega
  ·omega
 generalize oneP l k wTypes 0=i at *
 have e1:IntKind.i64.wrap (1 + i)=1 + i:=by rw [IntWalk.i64_in _ (by omega)]
 unfold wTypes at hO
 unfold paH at hO ⊢
 (refine ei_ Tryz.func153 Tryz.ntmps153 Tryz.results153 fun X hX=>?_)
 refine gs_ ?_
 refine au_ an0 ?_
 refine rn_ 0 an0 fun K hK=>?_
 refine rx_ an0 ?_
 refine rwr_melt 4 4 ?_
 (refine lk_ 1000 e1 (hO) ?_;refine rx_ e1 ?_)
 refine rx_ e1 ?_
 refine rwr_nil (hK _ ?_)
 clear hK K
 refine au_ an0 ?_
 exact oj_ an0 (.inl rfl)
set_option maxHeartbeats 4000000 in
theorem ptyp_p (l:List Vl) (hl:l.length≤4000) (en:Int) (k:Nat) (h:oneP l k wTypes 0=-1):SpPL Tryz.prog 153 [.one (.optr 1000 0)] 67 (paH l en k) (chP l en k) 26:=by
 intro vs hlen hone
 have hO:=pone_p l hl en k wTypes (by decide) h
 unfold wTypes at hO
 unfold paH at hO ⊢
 (refine ep_ Tryz.func153 Tryz.ntmps153 fun X hX hpn=>?_)
 refine gs_ ?_
 refine au_ an0 ?_
 refine rn_ 0 an0 fun K hK=>?_
 refine rx_ an0 ?_
 refine rwr_melt 4 4 ?_
 exact pn_ 1000 an0 hO hpn
end Go.Proofs.YtjdgejfhnfnmgaaGreatDoor.Ax
namespace Go.Proofs.YtjdgejfhnfnmgaaGreatDoor.Ax
open Go.RowKit Go.Sort
set_option linter.unusedSimpArgs false
attribute [local go_sem] ty3 ty4 ty9 ty5 ty26 ty24 ty54 ty77 ty43 ty67 ty65
set_option linter.unusedVariables false
set_option maxRecDepth 100000
set_option maxHeartbeats 4000000 in
theorem pcolumn_l (l:List Vl) (hl:GoodL l) (en:Int) (k:Nat) (h1:nameP l k=true) (h2:¬ oneP l (k + 1) wTypes 0=-1):SpL Tryz.prog 150 [.one (.optr 1000 0)] 67 (paH l en k) (.agg [.t true (.lit (.string (txP l k))),.t true (.lit (.int .i64 (1 + oneP l (k + 1) wTypes 0)))]) (paH l en (k + 2)) 26:=by
 intro vs hlen hone
 have hll:=hl.len
 have hN:=pname_l l hl en k h1
 have hT:=ptyp_l l (by omega) en (k + 1) h2
 generalize txP l k=s at *
 generalize 1 + oneP l (k + 1) wTypes 0=i at *
 unfold paH at hN hT ⊢
 (refine ei_ Tryz.func150 Tryz.ntmps150 Tryz.results150 fun X hX=>?_)
 refine gs_ ?_
 refine au_ an0 ?_
 (refine rn_ 0 an0 fun K hK=>?_;refine rx_ an0 ?_;refine lk_ 1000 an0 (hN) ?_;refine rx_ an0 ?_;refine rwr_nil (hK _ ?_);clear hK K)
 refine gs_ ?_
 (refine rn_ 0 an0 fun K hK=>?_;refine rx_ an0 ?_;refine lk_ 1000 an0 (hT) ?_;refine rx_ an0 ?_;refine rwr_nil (hK _ ?_);clear hK K)
 refine au_ an0 ?_
 exact oj_ an0 (.inl rfl)
set_option maxHeartbeats 4000000 in
theorem pcolumn_p (l:List Vl) (hl:GoodL l) (en:Int) (k:Nat) (h1:nameP l k=false):SpPL Tryz.prog 150 [.one (.optr 1000 0)] 67 (paH l en k) (chP l en k) 26:=by
 intro vs hlen hone
 have hN:=pname_p l hl en k h1
 unfold paH at hN ⊢
 (refine ep_ Tryz.func150 Tryz.ntmps150 fun X hX hpn=>?_)
 refine gs_ ?_
 refine au_ an0 ?_
 (refine rn_ 0 an0 fun K hK=>?_;refine rx_ an0 ?_;exact pn_ 1000 an0 (hN) hpn)
set_option maxHeartbeats 4000000 in
theorem pcolumn_q (l:List Vl) (hl:GoodL l) (en:Int) (k:Nat) (h1:nameP l k=true) (h2:oneP l (k + 1) wTypes 0=-1):SpPL Tryz.prog 150 [.one (.optr 1000 0)] 67 (paH l en k) (chP l en (k + 1)) 26:=by
 intro vs hlen hone
 have hll:=hl.len
 have hN:=pname_l l hl en k h1
 have hT:=ptyp_p l (by omega) en (k + 1) h2
 generalize txP l k=s at *
 unfold paH at hN hT ⊢
 (refine ep_ Tryz.func150 Tryz.ntmps150 fun X hX hpn=>?_)
 refine gs_ ?_
 refine au_ an0 ?_
 (refine rn_ 0 an0 fun K hK=>?_;refine rx_ an0 ?_;refine lk_ 1000 an0 (hN) ?_;refine rx_ an0 ?_;refine rwr_nil (hK _ ?_);clear hK K)
 refine gs_ ?_
 (refine rn_ 0 an0 fun K hK=>?_;refine rx_ an0 ?_;exact pn_ 1000 an0 (hT) hpn)
end Go.Proofs.YtjdgejfhnfnmgaaGreatDoor.Ax
