/-  -/
import Derived.Test.YtjdgejfhnfnmgaaGreatDoorS19
import Derived.Test.YtjdgejfhnfnmgaaGreatDoorS28
import Derived.Test.YtjdgejfhnfnmgaaGreatDoorS17
import Derived.Test.YtjdgejfhnfnmgaaGreatDoorS21
import Derived.Test.YtjdgejfhnfnmgaaGreatDoorS20
namespace Go.Proofs.YtjdgejfhnfnmgaaGreatDoor.Ax
open Go.RowKit
set_option linter.unusedSimpArgs false
attribute [local go_sem] ty3 ty4 ty9 ty5 ty77 ty43 ty67 ty65
set_option linter.unusedVariables false
set_option maxRecDepth 100000
def paH (l:List Vl) (en:Int) (k:Nat):List C:=[.t false (.sl (rVs l)),.t false (.lit (.int .i64 k)),.t false (.lit (.int .i64 en))]
def chP (l:List Vl) (en:Int) (k:Nat):List PanicEntry:=[{ v:=.iface 96 (.int .i64 (hereP l en k)),recovered:=false }]
set_option maxHeartbeats 4000000 in
theorem pfail_l (l:List Vl) (en:Int) (k:Nat):SpPL Tryz.prog 120 [.one (.optr 1000 0)] 67 (paH l en k) (chP l en k) 26:=by
 intro vs hlen hone
 unfold paH
 by_cases hlt:k < l.length
 ·obtain ⟨t,ht⟩:∃ t,l[k]?=some t:=⟨_,List.getElem?_eq_getElem hlt⟩
  have e1:decide ((k:Int) < (l.length:Int))=true:=by simp;omega
  have j2:(k:Int) < (l.length:Int):=by omega
  have j3:(0:Int)≤(k:Int):=by omega
  unfold chP hereP
  rw [ht]
  refine ep_ Tryz.func120 Tryz.ntmps120 fun X hX hp=>?_
  refine au_ (an5 e1 ht hlt j2 j3) ?_
  refine rn_ 1 an0 fun K hK=>?_
  exact rwr_throw (a0:=28) rfl hp (hy:=Tryz.underlying96) (hni:=by intro m h;cases h)
 ·have e1:decide ((k:Int) < (l.length:Int))=false:=by simp;omega
  unfold chP hereP
  rw [List.getElem?_eq_none (by omega)]
  refine ep_ Tryz.func120 Tryz.ntmps120 fun X hX hp=>?_
  refine au_ e1 ?_
  refine rn_ 1 an0 fun K hK=>?_
  exact rwr_throw (a0:=28) rfl hp (hy:=Tryz.underlying96) (hni:=by intro m h;cases h)
def takeK (l:List Vl) (s:ByteArray) (k:Nat):Nat:=cond (takeB l s k) (k + 1) k
set_option maxHeartbeats 4000000 in
theorem ptake_l (l:List Vl) (hl:l.length≤4000) (en:Int) (k:Nat) (s:ByteArray):SpL Tryz.prog 148 [.one (.optr 1000 0),.one (.t false (.lit (.string s)))] 67 (paH l en k) (.one (.t true (.lit (.bool (takeB l s k))))) (paH l en (takeK l s k)) 26:=by
 intro vs hlen hone
 unfold takeK takeB
 unfold paH
 by_cases hlt:k < l.length
 ·obtain ⟨t,ht⟩:∃ t,l[k]?=some t:=⟨_,List.getElem?_eq_getElem hlt⟩
  have e1:decide ((l.length:Int)≤(k:Int))=false:=by simp;omega
  have j2:(k:Int) < (l.length:Int):=by omega
  have j3:(0:Int)≤(k:Int):=by omega
  have e2:IntKind.i64.wrap ((k:Int) + 1)=((k + 1:Nat):Int):=by rw [IntWalk.i64_in _ (by omega)];rfl
  rw [ht]
  dsimp only
  unfold strEq
  cases hq:(t.s.toList==s.toList) with
  | true =>
   have hq2:(t.s.toList != s.toList)=false:=by unfold bne;rw [hq];rfl
   rw [cond_true]
   (refine ei_ Tryz.func148 Tryz.ntmps148 Tryz.results148 fun X hX=>?_)
   refine au_ (an2 (an5 e1 ht hlt j2 j3) (an3 hq hq2 e2)) ?_
   exact oj_ an0 (.inl rfl)
  | false =>
   have hq2:(t.s.toList != s.toList)=true:=by unfold bne;rw [hq];rfl
   rw [cond_false]
   (refine ei_ Tryz.func148 Tryz.ntmps148 Tryz.results148 fun X hX=>?_)
   refine au_ (an2 (an5 e1 ht hlt j2 j3) (an2 hq hq2)) ?_
   exact oj_ an0 (.inl rfl)
 ·have e1:decide ((l.length:Int)≤(k:Int))=true:=by simp;omega
  rw [List.getElem?_eq_none (by omega)]
  dsimp only
  rw [cond_false]
  (refine ei_ Tryz.func148 Tryz.ntmps148 Tryz.results148 fun X hX=>?_)
  refine au_ e1 ?_
  exact oj_ an0 (.inl rfl)
set_option maxHeartbeats 4000000 in
theorem pkind_l (l:List Vl) (en:Int) (k:Nat) (n:Int):SpL Tryz.prog 165 [.one (.optr 1000 0),.one (.t false (.lit (.int .i64 n)))] 67 (paH l en k) (.one (.t true (.lit (.bool (kindP l n k))))) (paH l en k) 26:=by
 intro vs hlen hone
 unfold kindP
 unfold paH
 by_cases hlt:k < l.length
 ·obtain ⟨t,ht⟩:∃ t,l[k]?=some t:=⟨_,List.getElem?_eq_getElem hlt⟩
  have e1:decide ((k:Int) < (l.length:Int))=true:=by simp;omega
  have j2:(k:Int) < (l.length:Int):=by omega
  have j3:(0:Int)≤(k:Int):=by omega
  rw [ht]
  dsimp only
  (refine ei_ Tryz.func165 Tryz.ntmps165 Tryz.results165 fun X hX=>?_)
  refine au_ (an5 e1 ht hlt j2 j3) ?_
  exact oj_ an0 (.inl rfl)
 ·have e1:decide ((k:Int) < (l.length:Int))=false:=by simp;omega
  rw [List.getElem?_eq_none (by omega)]
  (refine ei_ Tryz.func165 Tryz.ntmps165 Tryz.results165 fun X hX=>?_)
  refine au_ e1 ?_
  exact oj_ an0 (.inl rfl)
set_option maxHeartbeats 4000000 in
theorem pname_l (l:List Vl) (hl:GoodL l) (en:Int) (k:Nat) (h:nameP l k=true):SpL Tryz.prog 111 [.one (.optr 1000 0)] 67 (paH l en k) (.one (.t true (.lit (.string (txP l k))))) (paH l en (k + 1)) 26:=by
 intro vs hlen hone
 have hll:=hl.len
 unfold nameP at h
 unfold txP paH
 by_cases hlt:k < l.length
 ·obtain ⟨t,ht⟩:∃ t,l[k]?=some t:=⟨_,List.getElem?_eq_getElem hlt⟩
  obtain ⟨_,_,_,hz,_⟩:=tok_facts (hl.tok t (List.mem_of_getElem? ht))
  have hN:=cname_sp t.s (by unfold maxLen;omega)
  rw [ht] at h ⊢
  dsimp only at h ⊢
  rw [h] at hN
  have e1:decide ((l.length:Int)≤(k:Int))=false:=by simp;omega
  have j2:(k:Int) < (l.length:Int):=by omega
  have j3:(0:Int)≤(k:Int):=by omega
  have e2:IntKind.i64.wrap ((k:Int) + 1)=((k + 1:Nat):Int):=by rw [IntWalk.i64_in _ (by omega)];rfl
  have e3:IntKind.i64.wrap (((k + 1:Nat):Int) - 1)=(k:Int):=by rw [IntWalk.i64_in _ (by omega)];omega
  (refine ei_ Tryz.func111 Tryz.ntmps111 Tryz.results111 fun X hX=>?_)
  refine au_ (an2 (an5 e1 ht hlt j2 j3) (an2 e2 e3)) ?_
  exact oj_ an0 (.inl rfl)
 ·rw [List.getElem?_eq_none (by omega)] at h
  cases h
set_option maxHeartbeats 4000000 in
theorem pname_p (l:List Vl) (hl:GoodL l) (en:Int) (k:Nat) (h:nameP l k=false):SpPL Tryz.prog 111 [.one (.optr 1000 0)] 67 (paH l en k) (chP l en k) 26:=by
 intro vs hlen hone
 have hF:=pfail_l l en k
 unfold nameP at h
 unfold paH at hF ⊢
 by_cases hlt:k < l.length
 ·obtain ⟨t,ht⟩:∃ t,l[k]?=some t:=⟨_,List.getElem?_eq_getElem hlt⟩
  obtain ⟨_,_,_,hz,_⟩:=tok_facts (hl.tok t (List.mem_of_getElem? ht))
  have hN:=cname_sp t.s (by unfold maxLen;omega)
  rw [ht] at h
  dsimp only at h
  rw [h] at hN
  have e1:decide ((l.length:Int)≤(k:Int))=false:=by simp;omega
  have j2:(k:Int) < (l.length:Int):=by omega
  have j3:(0:Int)≤(k:Int):=by omega
  (refine ep_ Tryz.func111 Tryz.ntmps111 fun X hX hpn=>?_)
  refine au_ (an5 e1 ht hlt j2 j3) ?_
  (refine rn_ 0 an0 fun K hK=>?_;refine rx_ an0 ?_;exact pn_ 1000 an0 (hF) hpn)
 ·have e1:decide ((l.length:Int)≤(k:Int))=true:=by simp;omega
  (refine ep_ Tryz.func111 Tryz.ntmps111 fun X hX hpn=>?_)
  refine au_ e1 ?_
  (refine rn_ 0 an0 fun K hK=>?_;refine rx_ an0 ?_;exact pn_ 1000 an0 (hF) hpn)
end Go.Proofs.YtjdgejfhnfnmgaaGreatDoor.Ax
namespace Go.Proofs.YtjdgejfhnfnmgaaGreatDoor.Ax
open Go.RowKit
set_option linter.unusedSimpArgs false
attribute [local go_sem] ty3 ty4 ty9 ty5 ty26 ty77 ty43 ty67 ty65
set_option linter.unusedVariables false
set_option maxRecDepth 100000
theorem takeK_t {l:List Vl} {s:ByteArray} {k:Nat} (h:takeB l s k=true):takeK l s k=k + 1:=by unfold takeK;rw [h];rfl
theorem takeK_f {l:List Vl} {s:ByteArray} {k:Nat} (h:takeB l s k=false):takeK l s k=k:=by unfold takeK;rw [h];rfl
def needI (l:List Vl) (en:Int) (s:ByteArray) (vs:List Value) (j:Int) (kn:Nat):St:=⟨[(8,litI .i64 j),(7,litI .i64 1),(6,.one (.t false (.sl (rS [s])))),(0,.one (.optr 1000 0))],[(1000,.var 67 (.t false (.sl (rVs l)) :: .t false (.lit (.int .i64 (kn:Int))) :: .t false (.lit (.int .i64 en)) :: lits vs))]⟩
set_option maxHeartbeats 4000000 in
theorem pneed_l (l:List Vl) (hl:l.length≤4000) (en:Int) (k:Nat) (s:ByteArray) (ht:takeB l s k=true):SpL Tryz.prog 113 [.one (.optr 1000 0),.one (.t false (.sl (rS [s])))] 67 (paH l en k) (.tup []) (paH l en (k + 1)) 26:=by
 intro vs hlen hone
 have hT:=ptake_l l hl en k s
 rw [ht,takeK_t ht] at hT
 unfold paH at hT ⊢
 (refine ei_ Tryz.func113 Tryz.ntmps113 Tryz.results113 fun X hX=>?_)
 refine au_ an0 ?_
 refine cw_loop (fun m st=>m=1∧st=needI l en s vs 0 k ∨ m=0∧st=needI l en s vs 1 (k + 1)) 1 ⟨_,.inl ⟨rfl,rfl⟩,by unfold needI;exact le_⟩ ?_
 rintro m st (⟨rfl,rfl⟩ | ⟨rfl,rfl⟩)
 ·unfold needI
  have hx:[s][0]?=some s:=rfl
  refine au_ hx ?_
  (refine rn_ 0 an0 fun K hK=>?_;refine rx_ an0 ?_;refine lk_ 1000 an0 (hT) ?_;refine rx_ an0 ?_;refine rwr_nil (hK _ ?_);clear hK K)
  have z4:IntKind.i64.wrap (0 + 1)=1:=by kernel_rfl
  refine au_ z4 ?_
  exact ⟨0,by omega,needI l en s vs 1 (k + 1),.inr ⟨rfl,rfl⟩,by unfold needI;exact le_⟩
 ·unfold needI
  refine au_ an0 ?_
  exact oj_ an0 (.inr rfl)
set_option maxHeartbeats 4000000 in
theorem pneed_p (l:List Vl) (hl:l.length≤4000) (en:Int) (k:Nat) (s:ByteArray) (ht:takeB l s k=false):SpPL Tryz.prog 113 [.one (.optr 1000 0),.one (.t false (.sl (rS [s])))] 67 (paH l en k) (chP l en k) 26:=by
 intro vs hlen hone
 have hF:=pfail_l l en k
 have hT:=ptake_l l hl en k s
 rw [ht,takeK_f ht] at hT
 unfold paH at hT hF ⊢
 (refine ep_ Tryz.func113 Tryz.ntmps113 fun X hX hpn=>?_)
 refine au_ an0 ?_
 refine cw_loop (fun m st=>st=needI l en s vs 0 k) 1 ⟨_,rfl,by unfold needI;exact le_⟩ ?_
 rintro m st rfl
 unfold needI
 have hx:[s][0]?=some s:=rfl
 refine au_ hx ?_
 (refine rn_ 0 an0 fun K hK=>?_;refine rx_ an0 ?_;refine lk_ 1000 an0 (hT) ?_;refine rx_ an0 ?_;refine rwr_nil (hK _ ?_);clear hK K)
 refine au_ an0 ?_
 (refine rn_ 0 an0 fun K hK=>?_;refine rx_ an0 ?_;exact pn_ 1000 an0 (hF) hpn)
end Go.Proofs.YtjdgejfhnfnmgaaGreatDoor.Ax
namespace Go.Proofs.YtjdgejfhnfnmgaaGreatDoor.Ax
open Go.RowKit Go.Sort
set_option linter.unusedSimpArgs false
attribute [local go_sem] ty3 ty4 ty9 ty5 ty26 ty77 ty43 ty67 ty65 ty116 ty87
set_option linter.unusedVariables false
set_option maxRecDepth 100000
theorem atoid_sp (s:ByteArray) (h0:s.data.toList ≠ []) (hd:s.data.toList.all digitB=true) (hz:s.size≤9):Sp Tryz.prog 166 [.one (.lit (.string s))] (.tup [.one (.t true (.lit (.int .i64 (numL s.data.toList)))),.one .junk]) [] :=
 sp_by (enters_of Tryz.func166 (by kernel_rfl) rfl) [.string s] rfl fun w hG=>by
  refine (Tryz.strconv_Atoi s _ (by omega) (atoi_num h0 hd) w).mono fun e w'=>?_
  rintro ⟨rfl,t,rfl⟩
  refine ⟨_,rfl,below_bytes w _ t,fun ok ρ=>?_⟩
  unfold RdV
  refine ⟨#[_,_],rfl,?_⟩
  unfold RdVs RdVs RdVs RdV RdC RdT
  exact ⟨⟨rfl,rfl⟩,rfl,trivial⟩
set_option maxHeartbeats 4000000 in
theorem pnumber_l (l:List Vl) (hl:GoodL l) (en:Int) (k:Nat) (h:kindP l 2 k=true):SpL Tryz.prog 156 [.one (.optr 1000 0)] 67 (paH l en k) (.one (.t true (.lit (.int .i64 (numL (txP l k).data.toList))))) (paH l en (k + 1)) 26:=by
 intro vs hlen hone
 have hll:=hl.len
 have hKi:=pkind_l l en k 2
 rw [h] at hKi
 unfold kindP at h
 unfold txP
 unfold paH at hKi ⊢
 by_cases hlt:k < l.length
 ·obtain ⟨t,ht⟩:∃ t,l[k]?=some t:=⟨_,List.getElem?_eq_getElem hlt⟩
  rw [ht] at h ⊢
  dsimp only at h ⊢
  have htk:=hl.tok t (List.mem_of_getElem? ht)
  obtain ⟨x,r,hs,_⟩:=tok_facts htk
  obtain ⟨hz,hd⟩:=(tok_num htk).2.1 (by simpa using h)
  have hA:=atoid_sp t.s (by rw [hs];simp) hd hz
  generalize numL t.s.data.toList=n at *
  have j2:(k:Int) < (l.length:Int):=by omega
  have j3:(0:Int)≤(k:Int):=by omega
  have e2:IntKind.i64.wrap ((k:Int) + 1)=((k + 1:Nat):Int):=by rw [IntWalk.i64_in _ (by omega)];rfl
  (refine ei_ Tryz.func156 Tryz.ntmps156 Tryz.results156 fun X hX=>?_)
  refine gs_ ?_
  refine au_ an0 ?_
  (refine rn_ 0 an0 fun K hK=>?_;refine rx_ an0 ?_;refine lk_ 1000 an0 (hKi) ?_;refine rx_ an0 ?_;refine rwr_nil (hK _ ?_);clear hK K)
  refine au_ (an5 ht hlt j2 j3 e2) ?_
  exact oj_ an0 (.inl rfl)
 ·rw [List.getElem?_eq_none (by omega)] at h
  cases h
set_option maxHeartbeats 4000000 in
theorem pnumber_p (l:List Vl) (en:Int) (k:Nat) (h:kindP l 2 k=false):SpPL Tryz.prog 156 [.one (.optr 1000 0)] 67 (paH l en k) (chP l en k) 26:=by
 intro vs hlen hone
 have hKi:=pkind_l l en k 2
 have hF:=pfail_l l en k
 rw [h] at hKi
 unfold paH at hKi hF ⊢
 (refine ep_ Tryz.func156 Tryz.ntmps156 fun X hX hpn=>?_)
 refine gs_ ?_
 refine au_ an0 ?_
 (refine rn_ 0 an0 fun K hK=>?_;refine rx_ an0 ?_;refine lk_ 1000 an0 (hKi) ?_;refine rx_ an0 ?_;refine rwr_nil (hK _ ?_);clear hK K)
 refine au_ an0 ?_
 (refine rn_ 0 an0 fun K hK=>?_;refine rx_ an0 ?_;exact pn_ 1000 an0 (hF) hpn)
end Go.Proofs.YtjdgejfhnfnmgaaGreatDoor.Ax
namespace Go.Proofs.YtjdgejfhnfnmgaaGreatDoor.Ax
open Go.RowKit Go.Sort
set_option linter.unusedSimpArgs false
attribute [local go_sem] ty3 ty4 ty9 ty5 ty26 ty77 ty43 ty67 ty65
set_option linter.unusedVariables false
set_option maxRecDepth 100000
def oneK (l:List Vl) (k:Nat) (L:List ByteArray):Nat:=cond (decide (oneP l k L 0 < 0)) k (k + 1)
theorem oneP_ge:∀ {l:List Vl} {k:Nat} {L:List ByteArray} {i:Nat},¬ oneP l k L i=-1→0≤oneP l k L i
 | l,k,[],i,h=>absurd rfl h
 | l,k,s :: r,i,h=>by
  unfold oneP at h ⊢
  split
  ·omega
  ·rename_i hn
   rw [if_neg hn] at h
   exact oneP_ge h
def idxI (l:List Vl) (en:Int) (L:List ByteArray) (vs:List Value) (k j:Nat):St:=⟨[(8,litI .i64 j),(7,litI .i64 L.length),(0,.one (.t false (.sl (rS L)))),(1,.one (.fn (148 + 1024) [.optr 1000 0]))],[(1000,.var 67 (.t false (.sl (rVs l)) :: .t false (.lit (.int .i64 (k:Int))) :: .t false (.lit (.int .i64 en)) :: lits vs))]⟩
set_option maxHeartbeats 4000000 in
theorem pindex_io (l:List Vl) (hl:l.length≤4000) (en:Int) (k:Nat) (L:List ByteArray) (hL:L.length≤1000) (vs:List Value) (hlen:vs.length=26) (hone:∀ v ∈ vs,v.oneCell'=true) :
  SpIO Tryz.prog 136 [.one (.t false (.sl (rS L))),.one (.fn (148 + 1024) [.optr 1000 0])] [(1000,.var 67 (paH l en k++lits vs))] (.one (.t true (.lit (.int .i64 (oneP l k L 0))))) [(1000,.var 67 (paH l en (oneK l k L)++lits vs))] [1000]:=by
 unfold oneK
 (refine ei_ Tryz.func136 Tryz.ntmps136 Tryz.results136 fun X hX=>?_)
 refine au_ an0 ?_
 refine cw_loop (fun m st=>∃ j,j≤L.length∧m=L.length - j∧oneP l k (L.drop j) j=oneP l k L 0∧st=idxI l en L vs k j) L.length ⟨_,⟨0,Nat.zero_le _,rfl,rfl,rfl⟩,by unfold idxI paH;exact le_⟩ ?_
 rintro m st ⟨j,hj,rfl,hf,rfl⟩
 unfold idxI
 by_cases hlt:j < L.length
 ·have e1:decide ((j:Int) < (L.length:Int))=true:=by simp;omega
  obtain ⟨x,hx⟩:∃ x,L[j]?=some x:=⟨_,List.getElem?_eq_getElem hlt⟩
  have e4:IntKind.i64.wrap ((j:Int) + 1)=((j + 1:Nat):Int):=by rw [IntWalk.i64_in _ (by omega)];rfl
  have j2:(j:Int) < (L.length:Int):=by omega
  have j3:(0:Int)≤(j:Int):=by omega
  rw [drop_eq _ _ _ hx,oneP] at hf
  have hT:=ptake_l l hl en k x
  cases hb:takeB l x k with
  | true =>
   rw [hb,takeK_t hb] at hT
   rw [if_pos hb] at hf
   rw [← hf,decide_eq_false (by omega),cond_false]
   unfold paH at hT ⊢
   refine au_ (an5 e1 hx hlt j2 j3) ?_
   (refine rn_ 0 (an4 hx hlt j2 j3) fun K hK=>?_;refine rx_ (an4 hx hlt j2 j3) ?_;refine lk_ 1000 (an4 hx hlt j2 j3) (hT) ?_;refine rx_ (an4 hx hlt j2 j3) ?_;refine rwr_nil (hK _ ?_);clear hK K)
   refine au_ an0 ?_
   exact oi_ an0 (.inl rfl)
  | false =>
   rw [hb,takeK_f hb] at hT
   rw [if_neg (by rw [hb];decide)] at hf
   unfold paH at hT ⊢
   refine au_ (an5 e1 hx hlt j2 j3) ?_
   (refine rn_ 0 (an4 hx hlt j2 j3) fun K hK=>?_;refine rx_ (an4 hx hlt j2 j3) ?_;refine lk_ 1000 (an4 hx hlt j2 j3) (hT) ?_;refine rx_ (an4 hx hlt j2 j3) ?_;refine rwr_nil (hK _ ?_);clear hK K)
   refine au_ e4 ?_
   exact ⟨L.length - (j + 1),by omega,idxI l en L vs k (j + 1),⟨j + 1,by omega,rfl,hf,rfl⟩,by unfold idxI;exact le_⟩
 ·have e1:decide ((j:Int) < (L.length:Int))=false:=by simp;omega
  rw [List.drop_eq_nil_of_le (by omega),oneP] at hf
  rw [← hf,decide_eq_true (by omega),cond_true]
  unfold paH
  refine au_ e1 ?_
  exact oi_ an0 (.inl rfl)
set_option maxHeartbeats 4000000 in
theorem pindex_l (l:List Vl) (hl:l.length≤4000) (en:Int) (k:Nat) (L:List ByteArray) (hL:L.length≤1000) :
  SpL Tryz.prog 136 [.one (.t false (.sl (rS L))),.one (.fn (148 + 1024) [.optr 1000 0])] 67 (paH l en k) (.one (.t true (.lit (.int .i64 (oneP l k L 0))))) (paH l en (oneK l k L)) 26 :=
 fun vs hlen hone=>pindex_io l hl en k L hL vs hlen hone
set_option maxHeartbeats 4000000 in
theorem pone_l (l:List Vl) (hl:l.length≤4000) (en:Int) (k:Nat) (L:List ByteArray) (hL:L.length≤1000) (h:¬ oneP l k L 0=-1) :
  SpL Tryz.prog 109 [.one (.optr 1000 0),.one (.t false (.sl (rS L)))] 67 (paH l en k) (.one (.t true (.lit (.int .i64 (oneP l k L 0))))) (paH l en (k + 1)) 26:=by
 intro vs hlen hone
 have hI:=pindex_l l hl en k L hL
 have h0:=oneP_ge h
 unfold oneK at hI
 rw [decide_eq_false (by omega),cond_false] at hI
 generalize oneP l k L 0=i at *
 have e1:decide (i < 0)=false:=by simp;omega
 unfold paH at hI ⊢
 (refine ei_ Tryz.func109 Tryz.ntmps109 Tryz.results109 fun X hX=>?_)
 refine gs_ ?_
 refine au_ an0 ?_
 (refine rn_ 0 an0 fun K hK=>?_;refine rx_ an0 ?_;refine lk_ 1000 an0 (hI) ?_;refine rx_ an0 ?_;refine rwr_nil (hK _ ?_);clear hK K)
 refine au_ e1 ?_
 exact oj_ an0 (.inl rfl)
set_option maxHeartbeats 4000000 in
theorem pone_p (l:List Vl) (hl:l.length≤4000) (en:Int) (k:Nat) (L:List ByteArray) (hL:L.length≤1000) (h:oneP l k L 0=-1) :
  SpPL Tryz.prog 109 [.one (.optr 1000 0),.one (.t false (.sl (rS L)))] 67 (paH l en k) (chP l en k) 26:=by
 intro vs hlen hone
 have hI:=pindex_l l hl en k L hL
 have hF:=pfail_l l en k
 unfold oneK at hI
 rw [h,decide_eq_true (by decide),cond_true] at hI
 have e1:decide ((-1:Int) < 0)=true:=by decide
 unfold paH at hI hF ⊢
 (refine ep_ Tryz.func109 Tryz.ntmps109 fun X hX hpn=>?_)
 refine gs_ ?_
 refine au_ an0 ?_
 (refine rn_ 0 an0 fun K hK=>?_;refine rx_ an0 ?_;refine lk_ 1000 an0 (hI) ?_;refine rx_ an0 ?_;refine rwr_nil (hK _ ?_);clear hK K)
 refine au_ e1 ?_
 (refine rn_ 0 an0 fun K hK=>?_;refine rx_ an0 ?_;exact pn_ 1000 an0 (hF) hpn)
end Go.Proofs.YtjdgejfhnfnmgaaGreatDoor.Ax
namespace Go.Proofs.YtjdgejfhnfnmgaaGreatDoor.Ax
open Go.RowKit
set_option linter.unusedSimpArgs false
attribute [local go_sem] ty3 ty4 ty9 ty5 ty24 ty77 ty43 ty69 ty101
set_option linter.unusedVariables false
set_option maxRecDepth 100000
def vV (v:Vl):V:=.agg [.t true (.lit (.int .i64 v.k)),.t true (.lit (.int .i64 v.n)),.t true (.lit (.string v.s))]
theorem truthofR_sp (b:Bool):Sp Tryz.prog 126 [.one (.lit (.bool b))] (vV ⟨3,if b=true then 1 else 0,⟨#[]⟩⟩) []:=by
 unfold vV
 cases b with
 | true =>
  (refine en_ Tryz.func126 Tryz.ntmps126 Tryz.results126 fun X hX=>?_)
  refine au_ an0 ?_
  exact oq_ an0
 | false =>
  (refine en_ Tryz.func126 Tryz.ntmps126 Tryz.results126 fun X hX=>?_)
  refine au_ an0 ?_
  exact oq_ an0
theorem unq_slice {u:ByteArray} (h:2≤u.size):u.extract 1 (u.size - 1)=unq u:=rfl
set_option maxHeartbeats 8000000 in
theorem rv_l (l:List Vl) (hl:GoodL l) (en:Int) (r:RS) (hr:r.at_≤l.length):SpL Tryz.prog 73 [.one (.optr 1000 0)] 69 (rdH l en r) (vV (vQ l r).1) (rdH l en (vQ l r).2) 26:=by
 intro vs hlen hone
 have hT:=rtext_l l en r
 have hI:=risv_l l en r
 have hNu:=rnumber_l l hl en r hr
 have hll:=hl.len
 have hne:=@txQ_lt l r
 have hqu:=@txQ_quo l hl r
 have hT2:=rtext_l l en ⟨r.at_ + 1,r.bad⟩
 have hN1:=fun h=>rnumber_l l hl en ⟨r.at_ + 1,true⟩ h
 have hN2:=fun h=>rnumber_l l hl en ⟨r.at_ + 1,r.bad⟩ h
 unfold vQ
 generalize txQ l r=u at *
 generalize txQ l ⟨r.at_ + 1,r.bad⟩=u2 at *
 obtain ⟨at_,bad⟩:=r
 dsimp only at hr hne hqu hN1 hN2
 unfold vV
 cases hiv:isVB u with
 | false =>
  rw [if_pos rfl]
  rw [hiv] at hI
  unfold rdH at hT hI ⊢
  dsimp only at hT hI ⊢
  clear hT2 hNu hN1 hN2
  (refine ei_ Tryz.func73 Tryz.ntmps73 Tryz.results73 fun X hX=>?_)
  refine gs_ ?_
  refine au_ an0 ?_
  (refine rn_ 0 an0 fun K hK=>?_;refine rx_ an0 ?_;refine lk_ 1000 an0 (hT) ?_;refine rx_ an0 ?_;refine rwr_nil (hK _ ?_);clear hK K)
  refine gs_ ?_
  (refine rn_ 0 an0 fun K hK=>?_;refine rx_ an0 ?_;refine lk_ 1000 an0 (hI) ?_;refine rx_ an0 ?_;refine rwr_nil (hK _ ?_);clear hK K)
  refine au_ an0 ?_
  exact oj_ an0 (.inl rfl)
 | true =>
  have hu0:u ≠ ⟨#[]⟩:=by
   rintro rfl
   have:isVB ⟨#[]⟩=false:=by
    have e1:((⟨#[]⟩:ByteArray).toList==wTrue.toList)=false:=by rw [Bool.eq_false_iff];intro h;cases strEq_iff.1 h
    have e2:((⟨#[]⟩:ByteArray).toList==wFalse.toList)=false:=by rw [Bool.eq_false_iff];intro h;cases strEq_iff.1 h
    have e3:((⟨#[]⟩:ByteArray).toList==wNull.toList)=false:=by rw [Bool.eq_false_iff];intro h;cases strEq_iff.1 h
    have e4:((⟨#[]⟩:ByteArray).toList==(⟨#[45]⟩:ByteArray).toList)=false:=by rw [Bool.eq_false_iff];intro h;cases strEq_iff.1 h
    unfold isVB strEq;rw [e1,e2,e3,e4];rfl
   rw [this] at hiv
   cases hiv
  obtain ⟨n3,n4⟩:=hne hu0
  subst n3
  have e1:IntKind.i64.wrap ((at_:Int) + 1)=((at_ + 1:Nat):Int):=by rw [IntWalk.i64_in _ (by omega)];rfl
  rw [if_neg (by decide)]
  rw [hiv] at hI
  unfold strEq wTrue wFalse wNull
  cases g1:(u.toList==(⟨#[116,114,117,101]⟩:ByteArray).toList) with
  | true =>
   rw [if_pos rfl]
   have hTr:=truthofR_sp true
   unfold vV at hTr
   rw [if_pos rfl] at hTr
   unfold rdH at hT hI ⊢
   dsimp only at hT hI ⊢
   clear hT2 hNu hN1 hN2
   (refine ei_ Tryz.func73 Tryz.ntmps73 Tryz.results73 fun X hX=>?_)
   refine gs_ ?_
   refine au_ an0 ?_
   (refine rn_ 0 an0 fun K hK=>?_;refine rx_ an0 ?_;refine lk_ 1000 an0 (hT) ?_;refine rx_ an0 ?_;refine rwr_nil (hK _ ?_);clear hK K)
   refine gs_ ?_
   (refine rn_ 0 an0 fun K hK=>?_;refine rx_ an0 ?_;refine lk_ 1000 an0 (hI) ?_;refine rx_ an0 ?_;refine rwr_nil (hK _ ?_);clear hK K)
   refine au_ (an2 g1 e1) ?_
   exact oj_ an0 (.inl rfl)
  | false =>
   rw [if_neg Bool.false_ne_true]
   cases g2:(u.toList==(⟨#[102,97,108,115,101]⟩:ByteArray).toList) with
   | true =>
    rw [if_pos rfl]
    have hTr:=truthofR_sp false
    unfold vV at hTr
    rw [if_neg Bool.false_ne_true] at hTr
    unfold rdH at hT hI ⊢
    dsimp only at hT hI ⊢
    clear hT2 hNu hN1 hN2
    (refine ei_ Tryz.func73 Tryz.ntmps73 Tryz.results73 fun X hX=>?_)
    refine gs_ ?_
    refine au_ an0 ?_
    (refine rn_ 0 an0 fun K hK=>?_;refine rx_ an0 ?_;refine lk_ 1000 an0 (hT) ?_;refine rx_ an0 ?_;refine rwr_nil (hK _ ?_);clear hK K)
    refine gs_ ?_
    (refine rn_ 0 an0 fun K hK=>?_;refine rx_ an0 ?_;refine lk_ 1000 an0 (hI) ?_;refine rx_ an0 ?_;refine rwr_nil (hK _ ?_);clear hK K)
    refine au_ (an3 g1 g2 e1) ?_
    exact oj_ an0 (.inl rfl)
   | false =>
    rw [if_neg Bool.false_ne_true]
    cases g3:(u.toList==(⟨#[110,117,108,108]⟩:ByteArray).toList) with
    | true =>
     rw [if_pos rfl]
     unfold rdH at hT hI ⊢
     dsimp only at hT hI ⊢
     clear hT2 hNu hN1 hN2
     (refine ei_ Tryz.func73 Tryz.ntmps73 Tryz.results73 fun X hX=>?_)
     refine gs_ ?_
     refine au_ an0 ?_
     (refine rn_ 0 an0 fun K hK=>?_;refine rx_ an0 ?_;refine lk_ 1000 an0 (hT) ?_;refine rx_ an0 ?_;refine rwr_nil (hK _ ?_);clear hK K)
     refine gs_ ?_
     (refine rn_ 0 an0 fun K hK=>?_;refine rx_ an0 ?_;refine lk_ 1000 an0 (hI) ?_;refine rx_ an0 ?_;refine rwr_nil (hK _ ?_);clear hK K)
     refine au_ (an4 g1 g2 g3 e1) ?_
     exact oj_ an0 (.inl rfl)
    | false =>
     rw [if_neg Bool.false_ne_true]
     cases g4:(u.toList==(⟨#[45]⟩:ByteArray).toList) with
     | true =>
      rw [if_pos rfl]
      cases g5:(u2.toList==(⟨#[48]⟩:ByteArray).toList) with
      | true =>
       rw [if_pos rfl]
       have hN:=hN1 (by omega)
       have hnb:(numQ l ⟨at_ + 1,true⟩).1=0:=by unfold numQ;rw [txQ_bad rfl];rfl
       rw [hnb] at hN ⊢
       generalize numQ l ⟨at_ + 1,true⟩=q at *
       obtain ⟨nv,⟨at2,bad2⟩⟩:=q
       unfold rdH at hT hI hT2 hN ⊢
       dsimp only at hT hI hT2 hN ⊢
       clear hNu hN1 hN2
       (refine ei_ Tryz.func73 Tryz.ntmps73 Tryz.results73 fun X hX=>?_)
       refine gs_ ?_
       refine au_ an0 ?_
       (refine rn_ 0 an0 fun K hK=>?_;refine rx_ an0 ?_;refine lk_ 1000 an0 (hT) ?_;refine rx_ an0 ?_;refine rwr_nil (hK _ ?_);clear hK K)
       refine gs_ ?_
       (refine rn_ 0 an0 fun K hK=>?_;refine rx_ an0 ?_;refine lk_ 1000 an0 (hI) ?_;refine rx_ an0 ?_;refine rwr_nil (hK _ ?_);clear hK K)
       refine au_ (an5 g1 g2 g3 g4 e1) ?_
       (refine rn_ 0 g5 fun K hK=>?_;refine rx_ g5 ?_;refine lk_ 1000 g5 (hT2) ?_;refine rx_ g5 ?_;refine rwr_nil (hK _ ?_);clear hK K)
       refine au_ an0 ?_
       (refine rn_ 0 an0 fun K hK=>?_;refine rx_ an0 ?_;refine lk_ 1000 an0 (hN) ?_;refine rx_ an0 ?_;refine rwr_nil (hK _ ?_);clear hK K)
       refine au_ an0 ?_
       exact oj_ an0 (.inl rfl)
      | false =>
       rw [if_neg Bool.false_ne_true]
       have hN:=hN2 (by omega)
       have hnr:IntKind.i64.wrap (0 - (numQ l ⟨at_ + 1,false⟩).1)=-(numQ l ⟨at_ + 1,false⟩).1:=by
        rw [Int.zero_sub]
        refine IntWalk.i64_in _ ?_
        unfold numQ
        split
        ·rename_i hdg
         obtain ⟨s1,s2,_⟩:=txQ_num hl hdg
         have:=numL_small s2 s1 _ (Nat.le_refl _)
         rw [List.take_length] at this
         dsimp only
         omega
        ·dsimp only;omega
       generalize numQ l ⟨at_ + 1,false⟩=q at *
       obtain ⟨nv,⟨at2,bad2⟩⟩:=q
       unfold rdH at hT hI hT2 hN ⊢
       dsimp only at hT hI hT2 hN hnr ⊢
       clear hNu hN1 hN2
       (refine ei_ Tryz.func73 Tryz.ntmps73 Tryz.results73 fun X hX=>?_)
       refine gs_ ?_
       refine au_ an0 ?_
       (refine rn_ 0 an0 fun K hK=>?_;refine rx_ an0 ?_;refine lk_ 1000 an0 (hT) ?_;refine rx_ an0 ?_;refine rwr_nil (hK _ ?_);clear hK K)
       refine gs_ ?_
       (refine rn_ 0 an0 fun K hK=>?_;refine rx_ an0 ?_;refine lk_ 1000 an0 (hI) ?_;refine rx_ an0 ?_;refine rwr_nil (hK _ ?_);clear hK K)
       refine au_ (an5 g1 g2 g3 g4 e1) ?_
       (refine rn_ 0 g5 fun K hK=>?_;refine rx_ g5 ?_;refine lk_ 1000 g5 (hT2) ?_;refine rx_ g5 ?_;refine rwr_nil (hK _ ?_);clear hK K)
       refine au_ an0 ?_
       (refine rn_ 0 hnr fun K hK=>?_;refine rx_ hnr ?_;refine lk_ 1000 hnr (hN) ?_;refine rx_ hnr ?_;refine rwr_nil (hK _ ?_);clear hK K)
       refine au_ hnr ?_
       exact oj_ an0 (.inl rfl)
     | false =>
      rw [if_neg Bool.false_ne_true]
      cases hf:fst8 u with
      | none=>exact absurd (fst_none hf) hu0
      | some c =>
       obtain ⟨h0,hz⟩:=fst_get hf
       cases g6:((c.toNat:Int)==39) with
       | true =>
        have hq:quoF u=true:=by
         unfold quoF
         rw [hf]
         show (c==39)=true
         rw [beq_iff_eq]
         apply UInt8.toNat_inj.1
         show c.toNat=39
         have:=eq_of_beq g6
         omega
        rw [if_pos hq]
        obtain ⟨s1,s2,_⟩:=hqu hq
        have e2:IntKind.i64.wrap ((u.size:Int) - 1)=((u.size - 1:Nat):Int):=by rw [IntWalk.i64_in _ (by omega)];omega
        have e3:(1:Int)≤((u.size - 1:Nat):Int):=by omega
        have e4:((u.size - 1:Nat):Int)≤(u.size:Int):=by omega
        have e5:=unq_slice s1
        unfold rdH at hT hI ⊢
        dsimp only at hT hI ⊢
        clear hT2 hNu hN1 hN2
        (refine ei_ Tryz.func73 Tryz.ntmps73 Tryz.results73 fun X hX=>?_)
        refine gs_ ?_
        refine au_ an0 ?_
        (refine rn_ 0 an0 fun K hK=>?_;refine rx_ an0 ?_;refine lk_ 1000 an0 (hT) ?_;refine rx_ an0 ?_;refine rwr_nil (hK _ ?_);clear hK K)
        refine gs_ ?_
        (refine rn_ 0 an0 fun K hK=>?_;refine rx_ an0 ?_;refine lk_ 1000 an0 (hI) ?_;refine rx_ an0 ?_;refine rwr_nil (hK _ ?_);clear hK K)
        refine au_ (an3 (an6 g1 g2 g3 g4 g6 e1) h0 (an4 e2 e3 e4 e5)) ?_
        exact oj_ an0 (.inl rfl)
       | false =>
        have hq:quoF u=false:=by
         unfold quoF
         rw [hf]
         show (c==39)=false
         rw [beq_eq_false_iff_ne]
         rintro rfl
         cases g6
        rw [if_neg (by rw [hq];decide)]
        generalize numQ l ⟨at_,false⟩=q at *
        obtain ⟨nv,⟨at2,bad2⟩⟩:=q
        unfold rdH at hT hI hNu ⊢
        dsimp only at hT hI hNu ⊢
        clear hT2 hN1 hN2
        (refine ei_ Tryz.func73 Tryz.ntmps73 Tryz.results73 fun X hX=>?_)
        refine gs_ ?_
        refine au_ an0 ?_
        (refine rn_ 0 an0 fun K hK=>?_;refine rx_ an0 ?_;refine lk_ 1000 an0 (hT) ?_;refine rx_ an0 ?_;refine rwr_nil (hK _ ?_);clear hK K)
        refine gs_ ?_
        (refine rn_ 0 an0 fun K hK=>?_;refine rx_ an0 ?_;refine lk_ 1000 an0 (hI) ?_;refine rx_ an0 ?_;refine rwr_nil (hK _ ?_);clear hK K)
        refine au_ (an2 (an5 g1 g2 g3 g4 g6) h0) ?_
        (refine rn_ 0 an0 fun K hK=>?_;refine rx_ an0 ?_;refine lk_ 1000 an0 (hNu) ?_;refine rx_ an0 ?_;refine rwr_nil (hK _ ?_);clear hK K)
        refine au_ an0 ?_
        exact oj_ an0 (.inl rfl)
end Go.Proofs.YtjdgejfhnfnmgaaGreatDoor.Ax
