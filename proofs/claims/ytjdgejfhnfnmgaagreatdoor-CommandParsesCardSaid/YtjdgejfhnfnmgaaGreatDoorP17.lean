/-  -/
import Derived.Test.YtjdgejfhnfnmgaaGreatDoorP16
import Derived.Test.YtjdgejfhnfnmgaaGreatDoorP12
import Derived.Test.YtjdgejfhnfnmgaaGreatDoorP13
import Derived.Lib.Atoi
import Derived.Lib.ItoaMem
import Derived.Lib.AtoiTie
import Derived.Lib.AtoiAllCases
namespace Go.Proofs.YtjdgejfhnfnmgaaGreatDoor
open Go.RowKit
theorem scan_blank (f:Nat) (x:UInt8) (l:List UInt8) (p:Nat) (h:blankB x=true):scanF (f + 1) (x :: l) p=scanF (f + 1) l (p + 1):=by
 have e:runN blankB (x :: l)=runN blankB l + 1:=by rw [runN,if_pos h]
 rw [scanF,scanF,e,List.drop_succ_cons,show p + (runN blankB l + 1)=p + 1 + runN blankB l from by omega]
theorem or_three (a b c:Bool) (h:(a || b || c)=true):a=true ∨ (a=false∧b=true) ∨ (a=false∧b=false∧c=true):=by
 cases a <;> cases b <;> cases c <;> simp_all
theorem blank_not (x:UInt8) (l:List UInt8) (h:¬ blankB x=true):runN blankB (x :: l)=0:=by rw [runN,if_neg h]
theorem wrongat_any (s:ByteArray) (p:Nat) (w:World) (hp:p < s.size) (hs:s.size≤2000) :
  Calls Tryz.prog 67 #[.int .i64 (tokA s[p] (s.data.toList.drop (p + 1))).1,.string (s.extract p (p + (tokA s[p] (s.data.toList.drop (p + 1))).2))] w fun e w'=>e=.returned (.int .i64 (tokL s[p] (s.data.toList.drop (p + 1))).2.2)∧w=w':=by
 have hnl:=tokA_len s[p] (s.data.toList.drop (p + 1))
 rw [List.length_drop,Array.length_toList,show s.data.size=s.size from rfl] at hnl
 rw [← wrong_tok]
 have hsz:(s.extract p (p + (tokA s[p] (s.data.toList.drop (p + 1))).2)).size=(tokA s[p] (s.data.toList.drop (p + 1))).2:=by rw [ByteArray.size_extract];omega
 refine wrong_any _ _ _ _ w (tokA_kind _ _) hsz (by unfold maxLen;omega) ?_
 intro h
 rw [ByteArray.getElem_extract]
 rfl
def ScanOfPost (T:List Vl × Nat × Nat) (w:World) (e:Ending) (w':World):Prop :=
 ∃ v,e=.returned (.tuple #[v,.int .i64 T.2.1,.int .i64 T.2.2])∧w'.ownsRow w.heap.size 77 3 v T.1.length (cellsV T.1)∧Below w.heap.size w w'
set_option maxHeartbeats 4000000 in
theorem scanof_any (s:ByteArray) (w:World) (hs:s.size≤maxLen) :
  Calls Tryz.prog 41 #[.string s] w (ScanOfPost (scanS s) w):=by
 unfold maxLen at hs
 by_cases h2:2000 < s.size
 ·have HT:Hid (scanS s=([],0,2)):=Lib.hid (by rw [scanS,if_pos h2])
  go_enter Tryz.func41,Tryz.ntmps41
  go_wp2_with fail
  go_ret3
  rw [HT.out]
  exact ⟨_,rfl,World.ownsRow_nil _ _ _ _,Below.refl _ _⟩
 have HS:Hid (comb [] (scanF (s.size + 1) s.data.toList 0)=scanS s):=Lib.hid (by
  rw [scanS,if_neg h2,scanF_norm])
 have hs2:s.size≤2000:=by omega
 go_enter Tryz.func41,Tryz.ntmps41
 go_wp2_with fail
 go_loopg [5,6] s.size (fun m v u wr=>∃ (vs:List Vl) (p f:Nat),u=.int .i64 p∧m=s.size - p∧s.size - p < f∧p≤s.size∧vs.length≤p∧wr.ownsRow w.heap.size 77 3 v vs.length (cellsV vs) ∧
   comb vs (scanF f (s.data.toList.drop p) p)=scanS s∧Below w.heap.size w wr)
 case atStart=>exact ⟨[],0,s.size + 1,rfl,rfl,by omega,Nat.zero_le _,Nat.zero_le _,World.ownsRow_nil _ _ _ _,HS.out,Below.refl _ _⟩
 case round =>
  obtain ⟨vs,p,f,rfl,rfl,hf,hp,hvp,hown,hT,hb⟩:=hrel
  obtain ⟨f,rfl⟩:∃ f',f=f' + 1:=⟨f - 1,by omega⟩
  by_cases hlt:p < s.size
  ·have hx:=drop_at s p hlt
   rw [hx] at hT
   have hB:blankB s[p]=(((s[p].toNat:Int)==32) || ((s[p].toNat:Int)==9) || ((s[p].toNat:Int)==10)):=rfl
   by_cases hbl:blankB s[p]=true
   ·rw [scan_blank _ _ _ _ hbl] at hT
    rw [hbl] at hB
    have HT:=Lib.hid hT
    have HB:=Lib.hid hB
    clear hT hB hbl hx HS
    have h3:=or_three _ _ _ HB.out.symm
    rcases h3 with h1 | ⟨h1,h3⟩ | ⟨h1,h3,h4⟩
    all_goals
     go_wp2_with fail
     go_roundg (s.size - (p + 1))
     case rel=>exact ⟨vs,p + 1,f + 1,rfl,rfl,by omega,by omega,by omega,hown,HT.out,hb⟩
     case measure=>omega
   ·have hbn:=blank_not s[p] (s.data.toList.drop (p + 1)) hbl
    rw [show blankB s[p]=false by simpa using hbl] at hB
    have hB':((s[p].toNat:Int)==32)=false∧((s[p].toNat:Int)==9)=false∧((s[p].toNat:Int)==10)=false:=by
     have:=hB.symm
     simp only [Bool.or_eq_false_iff] at this
     exact ⟨this.1.1,this.1.2,this.2⟩
    obtain ⟨h32,h9,h10⟩:=hB'
    have hdq:(s[p] :: s.data.toList.drop (p + 1)).drop (runN blankB (s[p] :: s.data.toList.drop (p + 1)))=s[p] :: s.data.toList.drop (p + 1):=by rw [hbn];rfl
    have hA:=at_any s p wr hlt hs2
    have hw:=wrongat_any s p wr hlt hs2
    by_cases h0:(tokL s[p] (s.data.toList.drop (p + 1))).2.2=0
    ·have hst:=scan_step f _ p _ _ vs hdq h0
     obtain ⟨hn1,hn2⟩:=tokL_pos _ _ h0
     rw [hT,hbn,Nat.add_zero,← hx,List.drop_drop] at hst
     rw [h0] at hw
     have hts:=tok_same _ _ h0
     rw [hts] at hA hw
     rw [List.length_drop,Array.length_toList,show s.data.size=s.size from rfl] at hn2
     have HST:=Lib.hid hst
     have HA:=Lib.hid hA
     have HW:=Lib.hid hw
     clear hT HS hdq hx hst hA hbn hts hbl hB hw
     generalize tokL s[p] (s.data.toList.drop (p + 1))=t at *
     obtain ⟨tk,tn,te⟩:=t
     simp only at h0 hn1 hn2 HST HA HW
     subst h0
     obtain ⟨q,hq⟩:∃ q,q=p + tn:=⟨_,rfl⟩
     have hqi:(p:Int) + (tn:Int)=(q:Int):=by omega
     have hpq:p≤q:=by omega
     have hpq2:p < q:=by omega
     have hqs:q≤s.size:=by omega
     have HQ:=Lib.hid hq
     rw [← hq] at HW HST
     clear hq
     go_wp2_with fail
     refine HA.out.mono ?_
     rintro e w1 ⟨rfl,rfl⟩
     go_wp2_with fail
     refine HW.out.mono ?_
     rintro e w1 ⟨rfl,rfl⟩
     go_wp2_with (at_builtin;refine wpList_app rfl (.tmp 53) (.tmp 63) elTok rfl hown rfl rfl (by simp) (by simp) rfl (by unfold maxLen;omega) (by omega) (by first | exact hb.size | (simp;omega)) ?_;intro v3 w3 hown3 hl3 hat3)
     go_roundg (s.size - q)
     case rel=>exact ⟨vs++[⟨(tk:Int),(p:Int),bs (List.take tn (List.drop p s.data.toList))⟩],q,f,rfl,rfl,by omega,hqs,by simp;omega,own_vals hown3 _ (by rw [HQ.out,extract_mid s p tn]),by rw [HQ.out] at HST ⊢;exact HST.out.symm,hb.trans (hl3.below.mono (by first | exact Nat.le_refl _ | exact hb.size))⟩
     case measure=>omega
    ·have hst:=scan_bad f _ p _ _ vs hdq h0
     rw [hT,hbn,Nat.add_zero] at hst
     have hnl:=tokA_len s[p] (s.data.toList.drop (p + 1))
     rw [List.length_drop,Array.length_toList,show s.data.size=s.size from rfl] at hnl
     have HST:=Lib.hid hst
     have HA:=Lib.hid hA
     have HW:=Lib.hid hw
     clear hT HS hdq hx hst hA hbn hbl hB hw
     generalize tokL s[p] (s.data.toList.drop (p + 1))=t at *
     generalize tokA s[p] (s.data.toList.drop (p + 1))=u at *
     obtain ⟨tk,tn,te⟩:=t
     obtain ⟨uk,un⟩:=u
     simp only at h0 HST HA HW hnl
     have hte:((te:Int) != 0)=true:=by rw [bne_iff_ne];omega
     obtain ⟨q,hq⟩:∃ q,q=p + un:=⟨_,rfl⟩
     have hqi:(p:Int) + (un:Int)=(q:Int):=by omega
     have hpq:p≤q:=by omega
     have hqs:q≤s.size:=by omega
     rw [← hq] at HW
     have H0:=Lib.hid h0
     clear hq h0
     go_wp2_with fail
     refine HA.out.mono ?_
     rintro e w1 ⟨rfl,rfl⟩
     go_wp2_with fail
     refine HW.out.mono ?_
     rintro e w1 ⟨rfl,rfl⟩
     go_wp2_with fail
     go_ret3
     rw [HST.out]
     exact ⟨_,rfl,World.ownsRow_nil _ _ _ _,hb⟩
  ·have hqq:p=s.size:=by omega
   have hld:decide (p < s.size)=false:=by simp;omega
   have hnil:s.data.toList.drop p=[]:=List.drop_eq_nil_of_le (by rw [Array.length_toList];exact Nat.le_of_eq hqq.symm)
   have hst:=scan_end f _ p vs (show (s.data.toList.drop p).drop (runN blankB (s.data.toList.drop p))=[] by rw [hnil];rfl)
   rw [hT] at hst
   have HST:=Lib.hid hst
   clear hT HS hst hqq hnil
   go_wp2_with fail
   go_ret3
   rw [HST.out]
   exact ⟨_,rfl,hown,hb⟩
end Go.Proofs.YtjdgejfhnfnmgaaGreatDoor
namespace Go.Proofs.YtjdgejfhnfnmgaaGreatDoor
open Go.RowKit
theorem tokB_at (k:Int) (s:ByteArray) (h:0 < s.size):tokB k s=(decide (s.size≤2000) && !(k==0) && (((tokA s[0] (s.data.toList.drop 1)).1:Int)==k) && decide ((tokA s[0] (s.data.toList.drop 1)).2=s.size) && decide ((tokL s[0] (s.data.toList.drop 1)).2.2=0)):=by
 have hx:=drop_at s 0 h
 rw [List.drop_zero] at hx
 unfold tokB
 rw [hx]
 rfl
set_option maxHeartbeats 2000000 in
theorem istok_any (k:Int) (s:ByteArray) (w:World) (hs:s.size≤maxLen) :
  Calls Tryz.prog 60 #[.int .i64 k,.string s] w fun e w'=>e=.returned (.bool (tokB k s))∧w=w':=by
 unfold maxLen at hs
 by_cases h0:s.size=0
 ·have hl:s.data.toList=[]:=List.eq_nil_of_length_eq_zero (by rw [size_list];exact h0)
  have HT:Hid (tokB k s=false):=Lib.hid (by unfold tokB;rw [hl])
  have e1:s.toList.isEmpty=true:=by rw [ByteArray.toList_eq,hl];rfl
  have e2:s.toList=[]:=by rw [ByteArray.toList_eq,hl]
  clear hl
  go_enter Tryz.func60,Tryz.ntmps60
  go_wp2_with fail
  go_ret
  exact ⟨by rw [HT.out];rfl,rfl⟩
 have hpos:0 < s.size:=by omega
 have hB:=tokB_at k s hpos
 have e1:s.toList.isEmpty=false:=by
  rw [ByteArray.toList_eq]
  rcases h:s.data.toList with _ | _
  ·have:=size_list s;rw [h] at this;simp at this;omega
  ·rfl
 clear h0
 by_cases h2:2000 < s.size
 ·have HT:=Lib.hid (show tokB k s=false by rw [hB,decide_eq_false (by omega)];simp)
  clear hB
  go_enter Tryz.func60,Tryz.ntmps60
  go_wp2_with fail
  go_ret
  exact ⟨by rw [HT.out];rfl,rfl⟩
 rcases hk:(k==0) with _ | _
 ·have hA:=at_any s 0 w hpos (by omega)
  have hW:=wrongat_any s 0 w hpos (by omega)
  rw [decide_eq_true (by omega:s.size≤2000),hk] at hB
  simp only [Bool.true_and,Bool.not_false,Nat.zero_add] at hB hA hW
  have h9:tokL s[0] (s.data.toList.drop 1)=tokL s[0] (s.data.toList.drop 1):=rfl
  have hnl:=tokA_len s[0] (s.data.toList.drop 1)
  rw [List.length_drop,size_list] at hnl
  generalize tokA s[0] (s.data.toList.drop 1)=t at *
  generalize tokL s[0] (s.data.toList.drop 1)=u at *
  obtain ⟨tk,tn⟩:=t
  obtain ⟨uk,un,ue⟩:=u
  simp only at hB hA hW hnl
  rcases h1:((tk:Int)==k) with _ | _
  ·rw [h1,Bool.false_and,Bool.false_and] at hB
   have HT:=Lib.hid hB
   have HA:=Lib.hid hA
   clear hB hA hW
   go_enter Tryz.func60,Tryz.ntmps60
   go_wp2_with fail
   refine HA.out.mono ?_
   rintro e w1 ⟨rfl,rfl⟩
   go_wp2_with fail
   go_ret
   exact ⟨by rw [HT.out];rfl,rfl⟩
  rw [h1,Bool.true_and] at hB
  obtain rfl:(tk:Int)=k:=by simpa using h1
  by_cases hn:tn=s.size
  ·rw [decide_eq_true hn,Bool.true_and] at hB
   have hn':((tn:Int)==(s.size:Int))=true:=by rw [hn];simp
   have hex:s.extract 0 tn=s:=by rw [hn];rw [ByteArray.extract_zero_size]
   rw [hex] at hW
   rw [show decide (ue=0)=((ue:Int)==0) by rw [Bool.eq_iff_iff,beq_iff_eq,decide_eq_true_eq];omega] at hB
   have HT:=Lib.hid hB
   have HA:=Lib.hid hA
   have HW:=Lib.hid hW
   clear hB hA hW hn hex h1
   go_enter Tryz.func60,Tryz.ntmps60
   go_wp2_with fail
   refine HA.out.mono ?_
   rintro e w1 ⟨rfl,rfl⟩
   go_wp2_with fail
   refine HW.out.mono ?_
   rintro e w1 ⟨rfl,rfl⟩
   go_wp2_with fail
   go_ret
   exact ⟨by rw [HT.out];rfl,rfl⟩
  ·rw [decide_eq_false hn,Bool.false_and] at hB
   have hn':((tn:Int)==(s.size:Int))=false:=by rw [beq_eq_false_iff_ne];omega
   have HT:=Lib.hid hB
   have HA:=Lib.hid hA
   clear hB hA hW hn h1
   go_enter Tryz.func60,Tryz.ntmps60
   go_wp2_with fail
   refine HA.out.mono ?_
   rintro e w1 ⟨rfl,rfl⟩
   go_wp2_with fail
   go_ret
   exact ⟨by rw [HT.out];rfl,rfl⟩
 ·obtain rfl:k=0:=by simpa using hk
  have HT:=Lib.hid (show tokB 0 s=false by rw [hB];simp)
  clear hB
  go_enter Tryz.func60,Tryz.ntmps60
  go_wp2_with fail
  go_ret
  exact ⟨by rw [HT.out];rfl,rfl⟩
end Go.Proofs.YtjdgejfhnfnmgaaGreatDoor
namespace Go.Proofs.YtjdgejfhnfnmgaaGreatDoor
open Go.RowKit
def hereP (l:List Vl) (en:Int) (k:Nat):Int:=match l[k]? with
 | some t=>t.n
 | none=>en
def txP (l:List Vl) (k:Nat):ByteArray:=match l[k]? with
 | some t=>t.s
 | none=>⟨#[]⟩
theorem txP_txQ (l:List Vl) (k:Nat):txQ l ⟨k,false⟩=txP l k:=by
 unfold txQ txP
 rw [if_neg Bool.false_ne_true]
 rfl
def takeB (l:List Vl) (s:ByteArray) (k:Nat):Bool:=match l[k]? with
 | some t=>strEq t.s s
 | none=>false
def nameP (l:List Vl) (k:Nat):Bool:=match l[k]? with
 | some t=>nameB t.s
 | none=>false
def kindP (l:List Vl) (n:Int) (k:Nat):Bool:=match l[k]? with
 | some t=>t.k==n
 | none=>false
end Go.Proofs.YtjdgejfhnfnmgaaGreatDoor
namespace Go.Proofs.YtjdgejfhnfnmgaaGreatDoor
open Go.RowKit
theorem dec_numF:∀ (l:List UInt8) (acc:Nat),l.all digitB=true→∃ m:Nat,Lib.decFrom acc l=some m∧(m:Int)=l.foldl (fun n c=>10 * n + (c.toNat:Int) - 48) (acc:Int)
 | [],acc,_=>⟨acc,rfl,rfl⟩
 | c :: l,acc,h=>by
  rw [List.all_cons,Bool.and_eq_true] at h
  have hc:=h.1
  unfold digitB at hc
  simp only [Bool.and_eq_true,decide_eq_true_eq] at hc
  obtain ⟨m,h1,h2⟩:=dec_numF l (acc * 10 + (c.toNat - 48)) h.2
  refine ⟨m,?_,?_⟩
  ·unfold Lib.decFrom Lib.digitVal
   rw [if_pos (by omega)]
   exact h1
  ·rw [h2,List.foldl_cons]
   congr 1
   omega
theorem atoi_num {s:ByteArray} (h0:s.data.toList ≠ []) (hd:s.data.toList.all digitB=true):Lib.atoi s.data.toList=some (numL s.data.toList):=by
 cases hs:s.data.toList with
 | nil=>exact absurd hs h0
 | cons c r =>
  rw [hs] at hd
  obtain ⟨m,h1,h2⟩:=dec_numF (c :: r) 0 hd
  rw [List.all_cons,Bool.and_eq_true] at hd
  have hc:=hd.1
  unfold digitB at hc
  simp only [Bool.and_eq_true,decide_eq_true_eq] at hc
  have n1:(c==45)=false:=by
   rw [beq_eq_false_iff_ne];rintro rfl
   have:(45:UInt8).toNat=45:=rfl
   omega
  have n2:(c==43)=false:=by
   rw [beq_eq_false_iff_ne];rintro rfl
   have:(43:UInt8).toNat=43:=rfl
   omega
  have e1:Lib.decNat (c :: r)=some m:=by
   unfold Lib.decNat
   rw [if_neg (by simp),h1]
  rw [Lib.atoi,if_neg (by rw [n1];decide),if_neg (by rw [n2];decide),e1,Option.map_some,h2]
  rfl
inductive VP where
 | no
 | yes (v:Vl) (k:Nat)
 | bad (k:Nat)
def vP (l:List Vl) (k:Nat):VP :=
 if takeB l wTrue k=true then .yes ⟨3,1,⟨#[]⟩⟩ (k + 1)
 else if takeB l wFalse k=true then .yes ⟨3,0,⟨#[]⟩⟩ (k + 1)
 else if takeB l wNull k=true then .yes ⟨0,0,⟨#[]⟩⟩ (k + 1)
 else if kindP l 3 k=true then .yes ⟨2,0,unq (txP l k)⟩ (k + 1)
 else if takeB l ⟨#[45]⟩ k=true then
  if takeB l ⟨#[48]⟩ (k + 1)=true then .bad (k + 1)
  else if kindP l 2 (k + 1)=true then .yes ⟨1,-(numL (txP l (k + 1)).data.toList),⟨#[]⟩⟩ (k + 2)
  else .bad (k + 1)
 else if kindP l 2 k=true then .yes ⟨1,numL (txP l k).data.toList,⟨#[]⟩⟩ (k + 1)
 else .no
def oneP (l:List Vl) (k:Nat):List ByteArray→Nat→Int
 | [],_=>-1
 | s :: r,i=>if takeB l s k=true then (i:Int) else oneP l k r (i + 1)
end Go.Proofs.YtjdgejfhnfnmgaaGreatDoor
namespace Go.Proofs.YtjdgejfhnfnmgaaGreatDoor
open Go.RowKit
end Go.Proofs.YtjdgejfhnfnmgaaGreatDoor
namespace Go.Proofs.YtjdgejfhnfnmgaaGreatDoor
open Go.RowKit
inductive PR (α:Type) where
 | ok (a:α) (k:Nat)
 | bad (k:Nat)
def PR.bind {α β:Type}:PR α→(α→Nat→PR β)→PR β
 | .ok a k,f=>f a k
 | .bad k,_=>.bad k
def nameR (l:List Vl) (k:Nat):PR ByteArray:=bif nameP l k then .ok (txP l k) (k + 1) else .bad k
def needR (l:List Vl) (s:ByteArray) (k:Nat):PR Unit:=bif takeB l s k then .ok () (k + 1) else .bad k
def wordR (l:List Vl) (L:List ByteArray) (k:Nat):PR Int:=bif decide (oneP l k L 0=-1) then .bad k else .ok (oneP l k L 0) (k + 1)
def numR (l:List Vl) (k:Nat):PR Int:=bif kindP l 2 k then .ok (numL (txP l k).data.toList) (k + 1) else .bad k
def mustR (l:List Vl) (k:Nat):PR Vl:=match vP l k with
 | .yes v k2=>.ok v k2
 | .bad k2=>.bad k2
 | .no=>.bad k
def typR (l:List Vl) (k:Nat):PR Int:=(wordR l [⟨#[105,110,116]⟩,⟨#[116,101,120,116]⟩,⟨#[98,111,111,108]⟩] k).bind fun i k=>.ok (1 + i) k
def colR (l:List Vl) (k:Nat):PR Col:=(nameR l k).bind fun s k=>(typR l k).bind fun t k=>.ok ⟨s,t⟩ k
def leafR (l:List Vl) (k:Nat):PR Ex:=match vP l k with
 | .yes v k2=>.ok (.mk 1 v .empty []) k2
 | .bad k2=>.bad k2
 | .no=>(nameR l k).bind fun s k=>.ok (.mk 2 Vl.zero s []) k
def pairR (l:List Vl) (E:Nat→PR Ex) (k:Nat):PR Ex:=(E k).bind fun a k =>
 bif takeB l wIs k then (needR l wNull (k + 1)).bind fun _ k=>.ok (.mk 4 Vl.zero .empty [a]) k
 else (wordR l wAnd7 k).bind fun i k=>(E k).bind fun b k=>.ok (.mk (5 + i) Vl.zero .empty [a,b]) k
def exR (l:List Vl):Nat→Nat→PR Ex
 | 0,k=>bif takeB l wOpen k || takeB l wNot k then .bad k else leafR l k
 | f + 1,k =>
  bif takeB l wOpen k then (pairR l (exR l f) (k + 1)).bind fun e k=>(needR l wShut k).bind fun _ k=>.ok e k
  else bif takeB l wNot k then (exR l f (k + 1)).bind fun e k=>.ok (.mk 3 Vl.zero .empty [e]) k
  else leafR l k
def Ex.vk:Ex→Vl | .mk _ v _ _=>v
def Ex.nm:Ex→ByteArray | .mk _ _ n _=>n
def Ex.ar:Ex→List Ex | .mk _ _ _ a=>a
def zE:Ex:=.mk 0 Vl.zero .empty []
def zCm:Cm:=⟨0,.empty,.empty,.empty,[],0,Vl.zero,[],[],zE,false,zE,.empty,0⟩
def whereR (l:List Vl) (k:Nat):PR (Bool × Ex):=bif takeB l ⟨#[119,104,101,114,101]⟩ k then (exR l 60 (k + 1)).bind fun e k=>.ok (false,e) k else .ok (true,zE) k
def moreR {α:Type} (l:List Vl) (E:Nat→PR α):Nat→Nat→PR (List α)
 | 0,k=>.ok [] k
 | f + 1,k=>bif takeB l ⟨#[44]⟩ k then (E (k + 1)).bind fun a k=>(moreR l E f k).bind fun r k=>.ok (a :: r) k else .ok [] k
def someR {α:Type} (l:List Vl) (E:Nat→PR α) (k:Nat):PR (List α):=(E k).bind fun a k=>(moreR l E (l.length + 1) k).bind fun r k=>.ok (a :: r) k
def listR {α:Type} (l:List Vl) (E:Nat→PR α) (k:Nat):PR (List α):=(needR l wOpen k).bind fun _ k=>(someR l E k).bind fun r k=>(needR l wShut k).bind fun _ k=>.ok r k
def alterR (l:List Vl) (k:Nat):PR Cm:=(needR l ⟨#[116,97,98,108,101]⟩ k).bind fun _ k=>(nameR l k).bind fun nm k=>(wordR l [⟨#[97,100,100]⟩,⟨#[100,114,111,112]⟩,⟨#[114,101,110,97,109,101]⟩,⟨#[114,101,116,121,112,101]⟩] k).bind fun i k =>
 bif i==0 then (colR l k).bind fun x k=>(needR l ⟨#[100,101,102,97,117,108,116]⟩ k).bind fun _ k=>(mustR l k).bind fun v k=>.ok { zCm with k:=3,name:=nm,column:=x.name,ty:=x.ty,v:=v } k
 else bif i==1 then (nameR l k).bind fun c k=>.ok { zCm with k:=4,name:=nm,column:=c } k
 else bif i==2 then
  bif takeB l ⟨#[116,111]⟩ k then (nameR l (k + 1)).bind fun o k=>.ok { zCm with k:=7,name:=nm,other:=o } k
  else (nameR l k).bind fun c k=>(needR l ⟨#[116,111]⟩ k).bind fun _ k=>(nameR l k).bind fun o k=>.ok { zCm with k:=5,name:=nm,column:=c,other:=o } k
 else (nameR l k).bind fun c k=>(typR l k).bind fun t k=>.ok { zCm with k:=6,name:=nm,column:=c,ty:=t } k
def createR (l:List Vl) (k:Nat):PR Cm:=(wordR l [⟨#[116,97,98,108,101]⟩,⟨#[105,110,100,101,120]⟩] k).bind fun i k=>(nameR l k).bind fun nm k =>
 bif i==0 then (listR l (colR l) k).bind fun r k=>.ok { zCm with k:=1,name:=nm,cols:=r } k
 else (needR l ⟨#[111,110]⟩ k).bind fun _ k=>(nameR l k).bind fun o k=>(needR l wOpen k).bind fun _ k=>(nameR l k).bind fun c k=>(needR l wShut k).bind fun _ k=>.ok { zCm with k:=8,name:=nm,other:=o,column:=c } k
def fieldsR (l:List Vl) (k:Nat):PR (List ByteArray):=bif takeB l ⟨#[42]⟩ k then .ok [] (k + 1) else someR l (nameR l) k
def orderR (l:List Vl) (k:Nat):PR ByteArray:=bif takeB l ⟨#[111,114,100,101,114]⟩ k then (needR l ⟨#[98,121]⟩ (k + 1)).bind fun _ k=>nameR l k else .ok .empty k
def limitR (l:List Vl) (k:Nat):PR Int:=bif takeB l ⟨#[108,105,109,105,116]⟩ k then numR l (k + 1) else .ok (-1) k
def selectsR (l:List Vl) (k:Nat):PR Cm:=(fieldsR l k).bind fun fs k=>(needR l ⟨#[102,114,111,109]⟩ k).bind fun _ k=>(nameR l k).bind fun nm k=>(whereR l k).bind fun w k=>(orderR l k).bind fun o k=>(limitR l k).bind fun n k =>
 .ok { zCm with k:=13,name:=nm,fields:=fs,all:=w.1,wh:=w.2,order:=o,limit:=n } k
def wCmds:List ByteArray:=[⟨#[99,114,101,97,116,101]⟩,⟨#[100,114,111,112]⟩,⟨#[97,108,116,101,114]⟩,⟨#[105,110,115,101,114,116]⟩,⟨#[100,101,108,101,116,101]⟩,⟨#[117,112,100,97,116,101]⟩,⟨#[115,101,108,101,99,116]⟩,⟨#[98,101,103,105,110]⟩,⟨#[99,111,109,109,105,116]⟩,⟨#[114,111,108,108,98,97,99,107]⟩]
def insertR (l:List Vl) (k:Nat):PR Cm:=(needR l ⟨#[105,110,116,111]⟩ k).bind fun _ k=>(nameR l k).bind fun nm k=>(needR l ⟨#[118,97,108,117,101,115]⟩ k).bind fun _ k=>(listR l (mustR l) k).bind fun r k=>.ok { zCm with k:=10,name:=nm,vals:=r } k
def deleteR (l:List Vl) (k:Nat):PR Cm:=(needR l ⟨#[102,114,111,109]⟩ k).bind fun _ k=>(nameR l k).bind fun nm k=>(whereR l k).bind fun w k=>.ok { zCm with k:=11,name:=nm,all:=w.1,wh:=w.2 } k
def updateR (l:List Vl) (k:Nat):PR Cm:=(nameR l k).bind fun nm k=>(needR l ⟨#[115,101,116]⟩ k).bind fun _ k=>(nameR l k).bind fun c k=>(needR l ⟨#[61]⟩ k).bind fun _ k=>(exR l 60 k).bind fun e k=>(whereR l k).bind fun w k=>.ok { zCm with k:=12,name:=nm,column:=c,ex:=e,all:=w.1,wh:=w.2 } k
def dropR (l:List Vl) (k:Nat):PR Cm:=(wordR l [⟨#[116,97,98,108,101]⟩,⟨#[105,110,100,101,120]⟩] k).bind fun i k=>(nameR l k).bind fun nm k=>.ok { zCm with k:=bif i==1 then 9 else 2,name:=nm } k
def bodyR (l:List Vl) (i:Int) (k:Nat):PR Cm :=
 bif i==0 then createR l k
 else bif i==1 then dropR l k
 else bif i==2 then alterR l k
 else bif i==3 then insertR l k
 else bif i==4 then deleteR l k
 else bif i==5 then updateR l k
 else bif i==6 then selectsR l k
 else bif i==7 then .ok { zCm with k:=14 } k
 else bif i==8 then .ok { zCm with k:=15 } k
 else .ok { zCm with k:=16 } k
def cmdR (l:List Vl):PR Cm:=(wordR l wCmds 0).bind fun i k=>(bodyR l i k).bind fun c k=>bif decide (k < l.length) then .bad k else .ok c k
end Go.Proofs.YtjdgejfhnfnmgaaGreatDoor
namespace Go.Proofs.YtjdgejfhnfnmgaaGreatDoor
open Go.RowKit
theorem PR.bind_assoc {α β γ:Type} (x:PR α) (f:α→Nat→PR β) (g:β→Nat→PR γ):(x.bind f).bind g=x.bind fun a k=>(f a k).bind g:=by cases x <;> rfl
theorem PR.bind_ok {α β:Type} {x:PR α} {f:α→Nat→PR β} {b:β} {k:Nat} (h:x.bind f=.ok b k):∃ a k',x=.ok a k'∧f a k'=.ok b k:=by
 cases x with
 | ok a k'=>exact ⟨a,k',rfl,h⟩
 | bad k'=>cases h
theorem takeB_end {l:List Vl} {s:ByteArray} {k:Nat} (h:l.length≤k):takeB l s k=false:=by unfold takeB;rw [List.getElem?_eq_none h]
theorem moreR_eq {α:Type} (l:List Vl) (E:Nat→PR α) (m k:Nat) (hm:l.length + 1≤k + m):moreR l E m k=bif takeB l ⟨#[44]⟩ k then (E (k + 1)).bind fun a k=>(moreR l E (m - 1) k).bind fun r k=>.ok (a :: r) k else .ok [] k:=by
 cases m with
 | zero=>rw [takeB_end (by omega)];rfl
 | succ m=>rfl
theorem nameR_ge {l:List Vl} {k:Nat} {s:ByteArray} {k2:Nat} (h:nameR l k=.ok s k2):k < k2:=by
 unfold nameR at h
 cases hb:nameP l k with
 | true=>rw [hb] at h;cases h;omega
 | false=>rw [hb] at h;cases h
theorem wordR_ge {l:List Vl} {L:List ByteArray} {k:Nat} {i:Int} {k2:Nat} (h:wordR l L k=.ok i k2):k < k2:=by
 unfold wordR at h
 cases hb:decide (oneP l k L 0=-1) with
 | true=>rw [hb] at h;cases h
 | false=>rw [hb] at h;cases h;omega
theorem colR_ge {l:List Vl} {k:Nat} {c:Col} {k2:Nat} (h:colR l k=.ok c k2):k < k2:=by
 obtain ⟨s,k3,h1,h2⟩:=PR.bind_ok h
 obtain ⟨t,k4,h3,h4⟩:=PR.bind_ok h2
 obtain ⟨i,k5,h5,h6⟩:=PR.bind_ok h3
 have:=nameR_ge h1
 have:=wordR_ge h5
 cases h6
 cases h4
 omega
theorem vP_ge {l:List Vl} {k:Nat} {v:Vl} {k2:Nat} (h:vP l k=.yes v k2):k < k2:=by
 unfold vP at h
 repeat' split at h
 all_goals first
  | (cases h;omega)
  | cases h
theorem mustR_ge {l:List Vl} {k:Nat} {v:Vl} {k2:Nat} (h:mustR l k=.ok v k2):k < k2:=by
 unfold mustR at h
 split at h
 ·rename_i hv;cases h;exact vP_ge hv
 ·cases h
 ·cases h
end Go.Proofs.YtjdgejfhnfnmgaaGreatDoor
namespace Go.Proofs.YtjdgejfhnfnmgaaGreatDoor
open Go.RowKit
structure Sim {α:Type} (P:Nat→PR α) (Q:RS→α × RS):Prop where
 run:∀ k,(∀ a k2,P k=.ok a k2→Q ⟨k,false⟩=(a,⟨k2,false⟩))∧∀ k2,P k=.bad k2→(Q ⟨k,false⟩).2=⟨k2,true⟩
 stay:∀ k,(Q ⟨k,true⟩).2=⟨k,true⟩
theorem Sim.ret {α:Type} (a:α):Sim (fun k=>.ok a k) (fun r=>(a,r)):=⟨fun k=>⟨fun b k2 h=>(by cases h;rfl),fun k2 h=>by cases h⟩,fun k=>rfl⟩
theorem Sim.bind {α β:Type} {P:Nat→PR α} {Q:RS→α × RS} {P':α→Nat→PR β} {Q':α→RS→β × RS} (h:Sim P Q) (h':∀ a,Sim (P' a) (Q' a)):Sim (fun k=>(P k).bind P') (fun r=>Q' (Q r).1 (Q r).2):=by
 refine ⟨fun k=>?_,fun k=>?_⟩
 ·obtain ⟨h1,h2⟩:=h.run k
  cases hp:P k with
  | ok a k2 =>
   dsimp only [PR.bind]
   rw [h1 a k2 hp]
   exact (h' a).run k2
  | bad k2 =>
   dsimp only [PR.bind]
   rw [h2 k2 hp]
   exact ⟨fun _ _ h=>(by cases h),fun k3 h=>by cases h;exact (h' _).stay k2⟩
 ·rw [h.stay k]
  exact (h' _).stay k
theorem Sim.map {α β:Type} {P:Nat→PR α} {Q:RS→α × RS} (f:α→β) (h:Sim P Q):Sim (fun k=>(P k).bind fun a k=>.ok (f a) k) (fun r=>(f (Q r).1,(Q r).2)):=h.bind fun a=>Sim.ret (f a)
theorem take_q {l:List Vl} {s:ByteArray} (hs:strEq ⟨#[]⟩ s=false) (k:Nat):takeQ l s ⟨k,false⟩=bif takeB l s k then (true,⟨k + 1,false⟩) else (false,⟨k,false⟩):=by
 unfold takeQ
 rw [if_neg Bool.false_ne_true,txP_txQ]
 unfold txP takeB
 cases l[k]? with
 | none=>rw [if_neg (by rw [hs];exact Bool.false_ne_true)];rfl
 | some t =>
  dsimp only
  cases strEq t.s s with
  | true=>rw [if_pos rfl];rfl
  | false=>rw [if_neg Bool.false_ne_true];rfl
theorem take_b {l:List Vl} {s:ByteArray} (k:Nat):takeQ l s ⟨k,true⟩=(false,⟨k,true⟩):=by unfold takeQ;rw [if_pos rfl]
theorem Sim.take {α:Type} {l:List Vl} {s:ByteArray} {P1 P2:Nat→PR α} {Q1 Q2:RS→α × RS} (hs:strEq ⟨#[]⟩ s=false) (h1:Sim P1 Q1) (h2:Sim P2 Q2) :
  Sim (fun k=>bif takeB l s k then P1 (k + 1) else P2 k) (fun r=>if (takeQ l s r).1=true then Q1 (takeQ l s r).2 else Q2 (takeQ l s r).2):=by
 refine ⟨fun k=>?_,fun k=>?_⟩
 ·rw [take_q hs]
  cases takeB l s k with
  | true=>exact h1.run (k + 1)
  | false=>exact h2.run k
 ·rw [take_b,if_neg Bool.false_ne_true]
  exact h2.stay k
theorem sim_need {l:List Vl} {s:ByteArray} (hs:strEq ⟨#[]⟩ s=false):Sim (needR l s) (fun r=>((),needQ l s r)):=by
 refine ⟨fun k=>?_,fun k=>?_⟩
 ·unfold needR needQ
  rw [take_q hs]
  cases takeB l s k with
  | true=>exact ⟨fun a k2 h=>(by cases h;rfl),fun _ h=>by cases h⟩
  | false=>exact ⟨fun _ _ h=>(by cases h),fun k2 h=>by cases h;rfl⟩
 ·unfold needQ
  rw [take_b]
  rfl
theorem sim_name {l:List Vl}:Sim (nameR l) (nameQ l):=by
 have h0:nameB ⟨#[]⟩=false:=by kernel_rfl
 refine ⟨fun k=>?_,fun k=>?_⟩
 ·unfold nameR nameQ
  rw [txP_txQ]
  have e:nameP l k=nameB (txP l k):=by
   unfold nameP txP
   cases l[k]? with
   | none=>exact h0.symm
   | some t=>rfl
  rw [e]
  cases nameB (txP l k) with
  | true=>exact ⟨fun a k2 h=>(by cases h;rfl),fun _ h=>by cases h⟩
  | false=>exact ⟨fun _ _ h=>(by cases h),fun k2 h=>by cases h;rfl⟩
 ·unfold nameQ
  rw [txQ_bad rfl,h0,if_neg Bool.false_ne_true]
theorem kind2_dig {l:List Vl} (hl:GoodL l) (k:Nat):kindP l 2 k=digF (txP l k):=by
 unfold kindP txP
 cases h:l[k]? with
 | none=>rfl
 | some t =>
  have:=tok_num (hl.tok t (List.mem_of_getElem? h))
  dsimp only
  cases hd:digF t.s with
  | true=>rw [this.1.1 hd];rfl
  | false =>
   rw [beq_eq_false_iff_ne]
   intro hk
   rw [this.1.2 hk] at hd
   cases hd
theorem kind3_quo {l:List Vl} (hl:GoodL l) (k:Nat):kindP l 3 k=quoF (txP l k):=by
 unfold kindP txP
 cases h:l[k]? with
 | none=>rfl
 | some t =>
  have:=tok_num (hl.tok t (List.mem_of_getElem? h))
  dsimp only
  cases hd:quoF t.s with
  | true=>rw [this.2.2.1.1 hd];rfl
  | false =>
   rw [beq_eq_false_iff_ne]
   intro hk
   rw [this.2.2.1.2 hk] at hd
   cases hd
theorem sim_num {l:List Vl} (hl:GoodL l):Sim (numR l) (numQ l):=by
 refine ⟨fun k=>?_,fun k=>?_⟩
 ·unfold numR numQ
  rw [txP_txQ,kind2_dig hl]
  cases digF (txP l k) with
  | true=>exact ⟨fun a k2 h=>(by cases h;rfl),fun _ h=>by cases h⟩
  | false=>exact ⟨fun _ _ h=>(by cases h),fun k2 h=>by cases h;rfl⟩
 ·unfold numQ
  rw [txQ_bad rfl]
  rfl
theorem take_tx {l:List Vl} {s:ByteArray} (hs:strEq ⟨#[]⟩ s=false) (k:Nat):takeB l s k=strEq (txP l k) s:=by
 unfold takeB txP
 cases l[k]? with
 | none=>exact hs.symm
 | some t=>rfl
theorem sim_typ {l:List Vl}:Sim (typR l) (typeQ l):=by
 refine ⟨fun k=>?_,fun k=>?_⟩
 ·unfold typR wordR oneP oneP oneP oneP typeQ
  rw [take_q (by kernel_rfl)]
  cases h1:takeB l ⟨#[105,110,116]⟩ k with
  | true=>exact ⟨fun a k2 h=>(by cases h;rfl),fun _ h=>by cases h⟩
  | false =>
   simp only [cond_false,if_neg Bool.false_ne_true]
   rw [take_q (by kernel_rfl)]
   cases h2:takeB l ⟨#[116,101,120,116]⟩ k with
   | true=>exact ⟨fun a k2 h=>(by cases h;rfl),fun _ h=>by cases h⟩
   | false =>
    simp only [cond_false,if_neg Bool.false_ne_true]
    unfold needQ
    rw [take_q (by kernel_rfl)]
    cases h3:takeB l ⟨#[98,111,111,108]⟩ k with
    | true=>exact ⟨fun a k2 h=>(by cases h;rfl),fun _ h=>by cases h⟩
    | false=>exact ⟨fun _ _ h=>(by cases h),fun k2 h=>by cases h;rfl⟩
 ·unfold typeQ needQ
  rw [take_b,take_b,take_b]
  rfl
end Go.Proofs.YtjdgejfhnfnmgaaGreatDoor
