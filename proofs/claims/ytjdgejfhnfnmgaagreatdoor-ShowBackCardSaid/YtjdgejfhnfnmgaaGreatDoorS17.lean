/-  -/
import Derived.Test.YtjdgejfhnfnmgaaGreatDoorS16
import Derived.Test.YtjdgejfhnfnmgaaGreatDoorS12
import Derived.Test.YtjdgejfhnfnmgaaGreatDoorS14
import Derived.Lib.Join
import Derived.Lib.Atoi
namespace Go.Proofs.YtjdgejfhnfnmgaaGreatDoor
open Go.RowKit
theorem scan_blank (f:Nat) (x:UInt8) (l:List UInt8) (p:Nat) (h:blankB x=true):scanF (f + 1) (x :: l) p=scanF (f + 1) l (p + 1):=by
 have e:runN blankB (x :: l)=runN blankB l + 1:=by rw [runN,if_pos h]
 rw [scanF,scanF,e,List.drop_succ_cons,show p + (runN blankB l + 1)=p + 1 + runN blankB l from by omega]
theorem or_three (a b c:Bool) (h:(a || b || c)=true):a=true ∨ (a=false∧b=true) ∨ (a=false∧b=false∧c=true):=by
 cases a <;> cases b <;> cases c <;> simp_all
theorem blank_not (x:UInt8) (l:List UInt8) (h:¬ blankB x=true):runN blankB (x :: l)=0:=by rw [runN,if_neg h]
theorem wrongat_any (s:ByteArray) (p:Nat) (w:World) (hp:p < s.size) (hs:s.size≤2000) :
  Calls Tryz.prog 67 #[.int .i64 (tokA s[p] (s.data.toList.drop (p + 1))).1,.string (s.extract p (p + (tokA s[p] (s.data.toList.drop (p + 1))).2))] w fun e w'=>e=.returned (.int .i64 (tokL s[p] (s.data.toList.drop (p + 1))).2.2)∧w=w':=by
 have hnl:=tokA_len s[p] (s.data.toList.drop (p + 1))
 rw [List.length_drop,Array.length_toList,show s.data.size=s.size from rfl] at hnl
 rw [← wrong_tok]
 have hsz:(s.extract p (p + (tokA s[p] (s.data.toList.drop (p + 1))).2)).size=(tokA s[p] (s.data.toList.drop (p + 1))).2:=by rw [ByteArray.size_extract];omega
 refine wrong_any _ _ _ _ w (tokA_kind _ _) hsz (by unfold maxLen;omega) ?_
 intro h
 rw [ByteArray.getElem_extract]
 rfl
def ScanOfPost (T:List Vl × Nat × Nat) (w:World) (e:Ending) (w':World):Prop :=
 ∃ v,e=.returned (.tuple #[v,.int .i64 T.2.1,.int .i64 T.2.2])∧w'.ownsRow w.heap.size 77 3 v T.1.length (cellsV T.1)∧Below w.heap.size w w'
set_option maxHeartbeats 4000000 in
theorem scanof_any (s:ByteArray) (w:World) (hs:s.size≤maxLen) :
  Calls Tryz.prog 41 #[.string s] w (ScanOfPost (scanS s) w):=by
 unfold maxLen at hs
 by_cases h2:2000 < s.size
 ·have HT:Hid (scanS s=([],0,2)):=Lib.hid (by rw [scanS,if_pos h2])
  go_enter Tryz.func41,Tryz.ntmps41
  go_wp2_with fail
  go_ret3
  rw [HT.out]
  exact ⟨_,rfl,World.ownsRow_nil _ _ _ _,Below.refl _ _⟩
 have HS:Hid (comb [] (scanF (s.size + 1) s.data.toList 0)=scanS s):=Lib.hid (by
  rw [scanS,if_neg h2,scanF_norm])
 have hs2:s.size≤2000:=by omega
 go_enter Tryz.func41,Tryz.ntmps41
 go_wp2_with fail
 go_loopg [5,6] s.size (fun m v u wr=>∃ (vs:List Vl) (p f:Nat),u=.int .i64 p∧m=s.size - p∧s.size - p < f∧p≤s.size∧vs.length≤p∧wr.ownsRow w.heap.size 77 3 v vs.length (cellsV vs) ∧
   comb vs (scanF f (s.data.toList.drop p) p)=scanS s∧Below w.heap.size w wr)
 case atStart=>exact ⟨[],0,s.size + 1,rfl,rfl,by omega,Nat.zero_le _,Nat.zero_le _,World.ownsRow_nil _ _ _ _,HS.out,Below.refl _ _⟩
 case round =>
  obtain ⟨vs,p,f,rfl,rfl,hf,hp,hvp,hown,hT,hb⟩:=hrel
  obtain ⟨f,rfl⟩:∃ f',f=f' + 1:=⟨f - 1,by omega⟩
  by_cases hlt:p < s.size
  ·have hx:=drop_at s p hlt
   rw [hx] at hT
   have hB:blankB s[p]=(((s[p].toNat:Int)==32) || ((s[p].toNat:Int)==9) || ((s[p].toNat:Int)==10)):=rfl
   by_cases hbl:blankB s[p]=true
   ·rw [scan_blank _ _ _ _ hbl] at hT
    rw [hbl] at hB
    have HT:=Lib.hid hT
    have HB:=Lib.hid hB
    clear hT hB hbl hx HS
    have h3:=or_three _ _ _ HB.out.symm
    rcases h3 with h1 | ⟨h1,h3⟩ | ⟨h1,h3,h4⟩
    all_goals
     go_wp2_with fail
     go_roundg (s.size - (p + 1))
     case rel=>exact ⟨vs,p + 1,f + 1,rfl,rfl,by omega,by omega,by omega,hown,HT.out,hb⟩
     case measure=>omega
   ·have hbn:=blank_not s[p] (s.data.toList.drop (p + 1)) hbl
    rw [show blankB s[p]=false by simpa using hbl] at hB
    have hB':((s[p].toNat:Int)==32)=false∧((s[p].toNat:Int)==9)=false∧((s[p].toNat:Int)==10)=false:=by
     have:=hB.symm
     simp only [Bool.or_eq_false_iff] at this
     exact ⟨this.1.1,this.1.2,this.2⟩
    obtain ⟨h32,h9,h10⟩:=hB'
    have hdq:(s[p] :: s.data.toList.drop (p + 1)).drop (runN blankB (s[p] :: s.data.toList.drop (p + 1)))=s[p] :: s.data.toList.drop (p + 1):=by rw [hbn];rfl
    have hA:=at_any s p wr hlt hs2
    have hw:=wrongat_any s p wr hlt hs2
    by_cases h0:(tokL s[p] (s.data.toList.drop (p + 1))).2.2=0
    ·have hst:=scan_step f _ p _ _ vs hdq h0
     obtain ⟨hn1,hn2⟩:=tokL_pos _ _ h0
     rw [hT,hbn,Nat.add_zero,← hx,List.drop_drop] at hst
     rw [h0] at hw
     have hts:=tok_same _ _ h0
     rw [hts] at hA hw
     rw [List.length_drop,Array.length_toList,show s.data.size=s.size from rfl] at hn2
     have HST:=Lib.hid hst
     have HA:=Lib.hid hA
     have HW:=Lib.hid hw
     clear hT HS hdq hx hst hA hbn hts hbl hB hw
     generalize tokL s[p] (s.data.toList.drop (p + 1))=t at *
     obtain ⟨tk,tn,te⟩:=t
     simp only at h0 hn1 hn2 HST HA HW
     subst h0
     obtain ⟨q,hq⟩:∃ q,q=p + tn:=⟨_,rfl⟩
     have hqi:(p:Int) + (tn:Int)=(q:Int):=by omega
     have hpq:p≤q:=by omega
     have hpq2:p < q:=by omega
     have hqs:q≤s.size:=by omega
     have HQ:=Lib.hid hq
     rw [← hq] at HW HST
     clear hq
     go_wp2_with fail
     refine HA.out.mono ?_
     rintro e w1 ⟨rfl,rfl⟩
     go_wp2_with fail
     refine HW.out.mono ?_
     rintro e w1 ⟨rfl,rfl⟩
     go_wp2_with (at_builtin;refine wpList_app rfl (.tmp 53) (.tmp 63) elTok rfl hown rfl rfl (by simp) (by simp) rfl (by unfold maxLen;omega) (by omega) (by first | exact hb.size | (simp;omega)) ?_;intro v3 w3 hown3 hl3 hat3)
     go_roundg (s.size - q)
     case rel=>exact ⟨vs++[⟨(tk:Int),(p:Int),bs (List.take tn (List.drop p s.data.toList))⟩],q,f,rfl,rfl,by omega,hqs,by simp;omega,own_vals hown3 _ (by rw [HQ.out,extract_mid s p tn]),by rw [HQ.out] at HST ⊢;exact HST.out.symm,hb.trans (hl3.below.mono (by first | exact Nat.le_refl _ | exact hb.size))⟩
     case measure=>omega
    ·have hst:=scan_bad f _ p _ _ vs hdq h0
     rw [hT,hbn,Nat.add_zero] at hst
     have hnl:=tokA_len s[p] (s.data.toList.drop (p + 1))
     rw [List.length_drop,Array.length_toList,show s.data.size=s.size from rfl] at hnl
     have HST:=Lib.hid hst
     have HA:=Lib.hid hA
     have HW:=Lib.hid hw
     clear hT HS hdq hx hst hA hbn hbl hB hw
     generalize tokL s[p] (s.data.toList.drop (p + 1))=t at *
     generalize tokA s[p] (s.data.toList.drop (p + 1))=u at *
     obtain ⟨tk,tn,te⟩:=t
     obtain ⟨uk,un⟩:=u
     simp only at h0 HST HA HW hnl
     have hte:((te:Int) != 0)=true:=by rw [bne_iff_ne];omega
     obtain ⟨q,hq⟩:∃ q,q=p + un:=⟨_,rfl⟩
     have hqi:(p:Int) + (un:Int)=(q:Int):=by omega
     have hpq:p≤q:=by omega
     have hqs:q≤s.size:=by omega
     rw [← hq] at HW
     have H0:=Lib.hid h0
     clear hq h0
     go_wp2_with fail
     refine HA.out.mono ?_
     rintro e w1 ⟨rfl,rfl⟩
     go_wp2_with fail
     refine HW.out.mono ?_
     rintro e w1 ⟨rfl,rfl⟩
     go_wp2_with fail
     go_ret3
     rw [HST.out]
     exact ⟨_,rfl,World.ownsRow_nil _ _ _ _,hb⟩
  ·have hqq:p=s.size:=by omega
   have hld:decide (p < s.size)=false:=by simp;omega
   have hnil:s.data.toList.drop p=[]:=List.drop_eq_nil_of_le (by rw [Array.length_toList];exact Nat.le_of_eq hqq.symm)
   have hst:=scan_end f _ p vs (show (s.data.toList.drop p).drop (runN blankB (s.data.toList.drop p))=[] by rw [hnil];rfl)
   rw [hT] at hst
   have HST:=Lib.hid hst
   clear hT HS hst hqq hnil
   go_wp2_with fail
   go_ret3
   rw [HST.out]
   exact ⟨_,rfl,hown,hb⟩
end Go.Proofs.YtjdgejfhnfnmgaaGreatDoor
namespace Go.Proofs.YtjdgejfhnfnmgaaGreatDoor
open Go.RowKit
theorem tokB_at (k:Int) (s:ByteArray) (h:0 < s.size):tokB k s=(decide (s.size≤2000) && !(k==0) && (((tokA s[0] (s.data.toList.drop 1)).1:Int)==k) && decide ((tokA s[0] (s.data.toList.drop 1)).2=s.size) && decide ((tokL s[0] (s.data.toList.drop 1)).2.2=0)):=by
 have hx:=drop_at s 0 h
 rw [List.drop_zero] at hx
 unfold tokB
 rw [hx]
 rfl
set_option maxHeartbeats 2000000 in
theorem istok_any (k:Int) (s:ByteArray) (w:World) (hs:s.size≤maxLen) :
  Calls Tryz.prog 60 #[.int .i64 k,.string s] w fun e w'=>e=.returned (.bool (tokB k s))∧w=w':=by
 unfold maxLen at hs
 by_cases h0:s.size=0
 ·have hl:s.data.toList=[]:=List.eq_nil_of_length_eq_zero (by rw [size_list];exact h0)
  have HT:Hid (tokB k s=false):=Lib.hid (by unfold tokB;rw [hl])
  have e1:s.toList.isEmpty=true:=by rw [ByteArray.toList_eq,hl];rfl
  have e2:s.toList=[]:=by rw [ByteArray.toList_eq,hl]
  clear hl
  go_enter Tryz.func60,Tryz.ntmps60
  go_wp2_with fail
  go_ret
  exact ⟨by rw [HT.out];rfl,rfl⟩
 have hpos:0 < s.size:=by omega
 have hB:=tokB_at k s hpos
 have e1:s.toList.isEmpty=false:=by
  rw [ByteArray.toList_eq]
  rcases h:s.data.toList with _ | _
  ·have:=size_list s;rw [h] at this;simp at this;omega
  ·rfl
 clear h0
 by_cases h2:2000 < s.size
 ·have HT:=Lib.hid (show tokB k s=false by rw [hB,decide_eq_false (by omega)];simp)
  clear hB
  go_enter Tryz.func60,Tryz.ntmps60
  go_wp2_with fail
  go_ret
  exact ⟨by rw [HT.out];rfl,rfl⟩
 rcases hk:(k==0) with _ | _
 ·have hA:=at_any s 0 w hpos (by omega)
  have hW:=wrongat_any s 0 w hpos (by omega)
  rw [decide_eq_true (by omega:s.size≤2000),hk] at hB
  simp only [Bool.true_and,Bool.not_false,Nat.zero_add] at hB hA hW
  have h9:tokL s[0] (s.data.toList.drop 1)=tokL s[0] (s.data.toList.drop 1):=rfl
  have hnl:=tokA_len s[0] (s.data.toList.drop 1)
  rw [List.length_drop,size_list] at hnl
  generalize tokA s[0] (s.data.toList.drop 1)=t at *
  generalize tokL s[0] (s.data.toList.drop 1)=u at *
  obtain ⟨tk,tn⟩:=t
  obtain ⟨uk,un,ue⟩:=u
  simp only at hB hA hW hnl
  rcases h1:((tk:Int)==k) with _ | _
  ·rw [h1,Bool.false_and,Bool.false_and] at hB
   have HT:=Lib.hid hB
   have HA:=Lib.hid hA
   clear hB hA hW
   go_enter Tryz.func60,Tryz.ntmps60
   go_wp2_with fail
   refine HA.out.mono ?_
   rintro e w1 ⟨rfl,rfl⟩
   go_wp2_with fail
   go_ret
   exact ⟨by rw [HT.out];rfl,rfl⟩
  rw [h1,Bool.true_and] at hB
  obtain rfl:(tk:Int)=k:=by simpa using h1
  by_cases hn:tn=s.size
  ·rw [decide_eq_true hn,Bool.true_and] at hB
   have hn':((tn:Int)==(s.size:Int))=true:=by rw [hn];simp
   have hex:s.extract 0 tn=s:=by rw [hn];rw [ByteArray.extract_zero_size]
   rw [hex] at hW
   rw [show decide (ue=0)=((ue:Int)==0) by rw [Bool.eq_iff_iff,beq_iff_eq,decide_eq_true_eq];omega] at hB
   have HT:=Lib.hid hB
   have HA:=Lib.hid hA
   have HW:=Lib.hid hW
   clear hB hA hW hn hex h1
   go_enter Tryz.func60,Tryz.ntmps60
   go_wp2_with fail
   refine HA.out.mono ?_
   rintro e w1 ⟨rfl,rfl⟩
   go_wp2_with fail
   refine HW.out.mono ?_
   rintro e w1 ⟨rfl,rfl⟩
   go_wp2_with fail
   go_ret
   exact ⟨by rw [HT.out];rfl,rfl⟩
  ·rw [decide_eq_false hn,Bool.false_and] at hB
   have hn':((tn:Int)==(s.size:Int))=false:=by rw [beq_eq_false_iff_ne];omega
   have HT:=Lib.hid hB
   have HA:=Lib.hid hA
   clear hB hA hW hn h1
   go_enter Tryz.func60,Tryz.ntmps60
   go_wp2_with fail
   refine HA.out.mono ?_
   rintro e w1 ⟨rfl,rfl⟩
   go_wp2_with fail
   go_ret
   exact ⟨by rw [HT.out];rfl,rfl⟩
 ·obtain rfl:k=0:=by simpa using hk
  have HT:=Lib.hid (show tokB 0 s=false by rw [hB];simp)
  clear hB
  go_enter Tryz.func60,Tryz.ntmps60
  go_wp2_with fail
  go_ret
  exact ⟨by rw [HT.out];rfl,rfl⟩
end Go.Proofs.YtjdgejfhnfnmgaaGreatDoor
namespace Go.Proofs.YtjdgejfhnfnmgaaGreatDoor
open Go.RowKit
def Gx.ok:Gx→Prop
 | .val v=>v.chk=0
 | .col nm=>nameB nm=true
 | .un k x=>(k=3 ∨ k=4)∧x.ok
 | .bin k x y=>(5≤k∧k≤11)∧x.ok∧y.ok
theorem exprB_gx (e:Ex):exprB e=true→∃ g:Gx,g.ex=e∧g.ok:=by
 induction e using Ex.ind with
 | h k v nm ar ih =>
  intro h
  rw [exprB] at h
  simp only [Bool.and_eq_true,Bool.or_eq_true,Bool.not_eq_true',beq_iff_eq,beq_eq_false_iff_ne,ne_eq] at h
  obtain ⟨h1,h2,h3,h4⟩:=h
  obtain ⟨p1,p2,p3⟩:=plain_inv h1
  unfold argsK at p1
  match ar,ih,h4,p1 with
  | [],_,_,p1 =>
   have hk:k=1 ∨ k=2:=by
    simp only [List.length_nil] at p1
    repeat' split at p1
    all_goals omega
   rcases hk with rfl | rfl
   ·exact ⟨.val v,by rw [Gx.ex,p2 (by omega)],h3⟩
   ·exact ⟨.col nm,by rw [Gx.ex,p3 (by omega)],h2.resolve_left (fun h=>h rfl)⟩
  | [x],ih,h4,p1 =>
   have hk:k=3 ∨ k=4:=by
    simp only [List.length_cons,List.length_nil] at p1
    repeat' split at p1
    all_goals omega
   rw [exprsB,exprsB,Bool.and_true] at h4
   obtain ⟨g,rfl,hg⟩:=ih x (by simp) h4
   exact ⟨.un k g,by rw [Gx.ex,p2 (by omega),p3 (by omega)],hk,hg⟩
  | [x,y],ih,h4,p1 =>
   have hk:5≤k∧k≤11:=by
    simp only [List.length_cons,List.length_nil] at p1
    repeat' split at p1
    all_goals omega
   rw [exprsB,exprsB,exprsB,Bool.and_true,Bool.and_eq_true] at h4
   obtain ⟨g,rfl,hg⟩:=ih x (by simp) h4.1
   obtain ⟨g',rfl,hg'⟩:=ih y (by simp) h4.2
   exact ⟨.bin k g g',by rw [Gx.ex,p2 (by omega),p3 (by omega)],hk,hg,hg'⟩
  | x :: y :: z :: l,_,_,p1 =>
   simp only [List.length_cons] at p1
   repeat' split at p1
   all_goals omega
def signs7:List ByteArray:=[⟨#[97,110,100]⟩,⟨#[111,114]⟩,⟨#[43]⟩,⟨#[45]⟩,⟨#[124,124]⟩,⟨#[60]⟩,⟨#[61]⟩]
def signT (k:Int):ByteArray:=signs7.getD (k - 5).toNat .empty
def gN:Gx→Nat
 | .val _=>1
 | .col _=>1
 | .un _ x=>1 + gN x
 | .bin _ x y=>1 + gN x + gN y
theorem sizeE_gN (g:Gx):∀ m:Int,0≤m→sizeE g.ex m≤m→sizeE g.ex m=gN g:=by
 induction g with
 | val v=>intro m _ _;rw [Gx.ex,sizeE,sizeL];rfl
 | col nm=>intro m _ _;rw [Gx.ex,sizeE,sizeL];rfl
 | un k x ih =>
  intro m h0 h
  rw [Gx.ex,sizeE,sizeL] at h ⊢
  by_cases hm:m < 1
  ·rw [if_pos hm] at h;omega
  ·rw [if_neg hm,sizeL] at h ⊢
   rw [ih (m - 1) (by omega) (by omega),gN]
   omega
 | bin k x y ih1 ih2 =>
  intro m h0 h
  rw [Gx.ex,sizeE,sizeL] at h ⊢
  by_cases hm:m < 1
  ·rw [if_pos hm] at h;omega
  ·rw [if_neg hm,sizeL] at h ⊢
   by_cases hn:m < 1 + sizeE x.ex (m - 1)
   ·rw [if_pos hn] at h;omega
   ·rw [if_neg hn,sizeL] at h ⊢
    have e1:=ih1 (m - 1) (by omega) (by omega)
    rw [e1] at h hn ⊢
    have e2:=ih2 (m - (1 + gN x)) (by omega) (by omega)
    rw [e2,gN]
    omega
end Go.Proofs.YtjdgejfhnfnmgaaGreatDoor
namespace Go.Proofs.YtjdgejfhnfnmgaaGreatDoor
open Go.RowKit
def commaL (l:List ByteArray):List UInt8:=Lib.join (l.map fun s=>s.data.toList) [44,32]
theorem comma_take {l:List ByteArray} {k:Nat} {s:ByteArray} (h:l[k]?=some s):commaL (l.take (k + 1))=commaL (l.take k)++(if k=0 then [] else [44,32])++s.data.toList:=by
 unfold commaL
 cases l with
 | nil=>simp at h
 | cons x r =>
  cases k with
  | zero =>
   simp only [List.getElem?_cons_zero,Option.some.injEq] at h
   subst h
   rw [if_pos rfl]
   show Lib.join [x.data.toList] [44,32]=Lib.join [] [44,32]++[]++x.data.toList
   rw [Lib.join_one,Lib.join_nil]
   rfl
  | succ k =>
   rw [List.getElem?_cons_succ] at h
   rw [if_neg (by omega),List.take_succ_cons,List.take_succ_cons,List.map_cons,List.map_cons,Lib.join_cons,Lib.join_cons,List.map_take,List.map_take,
    Lib.joinTail_take_succ [44,32] (r.map fun s=>s.data.toList) k s.data.toList (by rw [List.getElem?_map,h];rfl)]
   simp only [List.append_assoc]
end Go.Proofs.YtjdgejfhnfnmgaaGreatDoor
namespace Go.Proofs.YtjdgejfhnfnmgaaGreatDoor
open Go.RowKit
structure RS where
 at_:Nat
 bad:Bool
def txQ (l:List Vl) (r:RS):ByteArray:=if r.bad=true then ⟨#[]⟩ else match l[r.at_]? with
 | some t=>t.s
 | none=>⟨#[]⟩
def takeQ (l:List Vl) (s:ByteArray) (r:RS):Bool × RS:=if r.bad=true then (false,r) else if strEq (txQ l r) s=true then (true,⟨r.at_ + 1,false⟩) else (false,r)
def needQ (l:List Vl) (s:ByteArray) (r:RS):RS:=if (takeQ l s r).1=true then (takeQ l s r).2 else ⟨r.at_,true⟩
def nameQ (l:List Vl) (r:RS):ByteArray × RS:=if nameB (txQ l r)=true then (txQ l r,⟨r.at_ + 1,r.bad⟩) else (⟨#[]⟩,⟨r.at_,true⟩)
theorem txQ_bad {l:List Vl} {r:RS} (h:r.bad=true):txQ l r=⟨#[]⟩:=by unfold txQ;rw [if_pos h]
theorem txQ_some {l:List Vl} {r:RS} {t:Vl} (h:r.bad=false) (ht:l[r.at_]?=some t):txQ l r=t.s:=by unfold txQ;rw [if_neg (by rw [h];decide),ht]
theorem txQ_none {l:List Vl} {r:RS} (ht:l[r.at_]?=none):txQ l r=⟨#[]⟩:=by
 unfold txQ
 split
 ·rfl
 ·rw [ht]
theorem strEq_iff {a b:ByteArray}:strEq a b=true ↔ a=b:=by
 unfold strEq
 rw [ByteArray.toList_eq,ByteArray.toList_eq,beq_iff_eq]
 constructor
 ·intro h
  exact ByteArray.ext (Array.ext' h)
 ·intro h;rw [h]
def fst8 (u:ByteArray):Option UInt8:=u.data.toList.head?
def digF (u:ByteArray):Bool:=match fst8 u with
 | some c=>digitB c
 | none=>false
def quoF (u:ByteArray):Bool:=match fst8 u with
 | some c=>c==39
 | none=>false
def numL (l:List UInt8):Int:=l.foldl (fun n c=>10 * n + (c.toNat:Int) - 48) 0
def numQ (l:List Vl) (r:RS):Int × RS:=if digF (txQ l r)=true then (numL (txQ l r).data.toList,⟨r.at_ + 1,r.bad⟩) else (0,⟨r.at_,true⟩)
def wTrue:ByteArray:=⟨#[116,114,117,101]⟩
def wFalse:ByteArray:=⟨#[102,97,108,115,101]⟩
def wNull:ByteArray:=⟨#[110,117,108,108]⟩
def isVB (u:ByteArray):Bool:=strEq u wTrue || (strEq u wFalse || (strEq u wNull || (strEq u ⟨#[45]⟩ || (digF u || quoF u))))
def unq (u:ByteArray):ByteArray:=u.extract 1 (u.size - 1)
def vQ (l:List Vl) (r:RS):Vl × RS :=
 if isVB (txQ l r)=false then (⟨0,0,⟨#[]⟩⟩,⟨r.at_,true⟩)
 else if strEq (txQ l r) wTrue=true then (⟨3,1,⟨#[]⟩⟩,⟨r.at_ + 1,r.bad⟩)
 else if strEq (txQ l r) wFalse=true then (⟨3,0,⟨#[]⟩⟩,⟨r.at_ + 1,r.bad⟩)
 else if strEq (txQ l r) wNull=true then (⟨0,0,⟨#[]⟩⟩,⟨r.at_ + 1,r.bad⟩)
 else if strEq (txQ l r) ⟨#[45]⟩=true then
  (⟨1,-(numQ l (if strEq (txQ l ⟨r.at_ + 1,r.bad⟩) ⟨#[48]⟩=true then ⟨r.at_ + 1,true⟩ else ⟨r.at_ + 1,r.bad⟩)).1,⟨#[]⟩⟩,(numQ l (if strEq (txQ l ⟨r.at_ + 1,r.bad⟩) ⟨#[48]⟩=true then ⟨r.at_ + 1,true⟩ else ⟨r.at_ + 1,r.bad⟩)).2)
 else if quoF (txQ l r)=true then (⟨2,0,unq (txQ l r)⟩,⟨r.at_ + 1,r.bad⟩)
 else (⟨1,(numQ l r).1,⟨#[]⟩⟩,(numQ l r).2)
def wAnd7:List ByteArray:=[⟨#[97,110,100]⟩,⟨#[111,114]⟩,⟨#[43]⟩,⟨#[45]⟩,⟨#[124,124]⟩,⟨#[60]⟩,⟨#[61]⟩]
def signK (u:ByteArray):Nat→Int
 | 0=>0
 | i + 1=>if strEq u (wAnd7.getD i ⟨#[]⟩)=true then 5 + (i:Int) else signK u i
def signQ (u:ByteArray):Int:=signK u 7
def wOpen:ByteArray:=⟨#[40]⟩
def wShut:ByteArray:=⟨#[41]⟩
def wNot:ByteArray:=⟨#[110,111,116]⟩
def wIs:ByteArray:=⟨#[105,115]⟩
def exQ (l:List Vl):Nat→RS→Ex × RS
 | 0,r =>
  if (strEq (txQ l r) wOpen || strEq (txQ l r) wNot)=true then (.mk 0 Vl.zero .empty [],⟨r.at_,true⟩)
  else if isVB (txQ l r)=true then (.mk 1 (vQ l r).1 .empty [],(vQ l r).2)
  else (.mk 2 Vl.zero (nameQ l r).1 [],(nameQ l r).2)
 | f + 1,r =>
  if strEq (txQ l r) wNot=true then
   (.mk 3 Vl.zero .empty [(exQ l f ⟨r.at_ + 1,r.bad⟩).1],(exQ l f ⟨r.at_ + 1,r.bad⟩).2)
  else if strEq (txQ l r) wOpen=true then
   let a:=exQ l f ⟨r.at_ + 1,r.bad⟩
   let t:=takeQ l wIs a.2
   if t.1=true then (.mk 4 Vl.zero .empty [a.1],needQ l wShut (needQ l wNull t.2))
   else
    let k:=signQ (txQ l t.2)
    let r3:RS:=if k=0 then ⟨t.2.at_,true⟩ else needQ l (wAnd7.getD (k - 5).toNat ⟨#[]⟩) t.2
    let b:=exQ l f r3
    (.mk k Vl.zero .empty [a.1,b.1],needQ l wShut b.2)
  else if isVB (txQ l r)=true then (.mk 1 (vQ l r).1 .empty [],(vQ l r).2)
  else (.mk 2 Vl.zero (nameQ l r).1 [],(nameQ l r).2)
theorem needQ_le {l:List Vl} {s:ByteArray} {r:RS} (h:(takeQ l s r).2.at_≤l.length) (hr:r.at_≤l.length):(needQ l s r).at_≤l.length:=by
 unfold needQ
 split
 ·exact h
 ·exact hr
structure GoodL (l:List Vl):Prop where
 len:l.length≤2000
 tok:∀ t ∈ l,tokB t.k t.s=true
theorem tok_facts {k:Int} {s:ByteArray} (h:tokB k s=true):∃ x r,s.data.toList=x :: r∧s.size≤2000∧(tokA x r).1=k∧(tokA x r).2=s.size∧(tokL x r).2.2=0:=by
 unfold tokB at h
 split at h
 ·cases h
 ·rename_i x r hs
  simp only [Bool.and_eq_true,decide_eq_true_eq,beq_iff_eq] at h
  exact ⟨x,r,hs,h.1.1.1.1,h.1.1.2,h.1.2,h.2⟩
theorem letter_digit {x:UInt8} (h:letterB x=true):digitB x=false∧(x==39)=false:=by
 unfold letterB at h
 unfold digitB
 simp only [Bool.and_eq_true,decide_eq_true_eq] at h
 constructor
 ·simp only [Bool.and_eq_false_iff,decide_eq_false_iff_not];omega
 ·rw [beq_eq_false_iff_ne]
  rintro rfl
  have:(39:UInt8).toNat=39:=rfl
  omega
theorem digit_quo {x:UInt8} (h:digitB x=true):(x==39)=false:=by
 unfold digitB at h
 simp only [Bool.and_eq_true,decide_eq_true_eq] at h
 rw [beq_eq_false_iff_ne]
 rintro rfl
 have:(39:UInt8).toNat=39:=rfl
 omega
theorem fst8_of {s:ByteArray} {x:UInt8} {r:List UInt8} (h:s.data.toList=x :: r):fst8 s=some x:=by unfold fst8;rw [h];rfl
theorem tok_num {k:Int} {s:ByteArray} (h:tokB k s=true):(digF s=true ↔ k=2)∧(k=2→s.size≤9∧s.data.toList.all digitB=true)∧(quoF s=true ↔ k=3)∧(k=3→2≤s.size∧s.size≤22):=by
 obtain ⟨x,r,hs,hz,h1,h2,h3⟩:=tok_facts h
 have hsz:s.size=r.length + 1:=by
  have:s.data.toList.length=s.size:=rfl
  rw [hs,List.length_cons] at this
  omega
 unfold digF quoF
 rw [fst8_of hs]
 dsimp only
 unfold tokA at h1 h2
 unfold tokL at h3
 by_cases c1:letterB x=true
 ·rw [if_pos c1] at h1 h2
  obtain ⟨d1,d2⟩:=letter_digit c1
  rw [d1,d2]
  dsimp only at h1
  exact ⟨⟨fun h=>(by cases h),fun h=>(by omega)⟩,fun h=>(by omega),⟨fun h=>(by cases h),fun h=>(by omega)⟩,fun h=>(by omega)⟩
 ·rw [if_neg c1] at h1 h2 h3
  by_cases c2:digitB x=true
  ·rw [if_pos c2] at h1 h2 h3
   dsimp only at h1 h2 h3
   rw [c2,digit_quo c2]
   refine ⟨⟨fun _=>(by omega),fun _=>rfl⟩,fun _=>⟨?_,?_⟩,⟨fun h=>(by cases h),fun h=>(by omega)⟩,fun h=>(by omega)⟩
   ·split at h3
    ·cases h3
    ·omega
   ·rw [hs,List.all_cons,c2,Bool.true_and]
    have hr:runN digitB r=r.length:=by omega
    have key:∀ l:List UInt8,runN digitB l=l.length→l.all digitB=true:=by
     intro l
     induction l with
     | nil=>intro _;rfl
     | cons y l ih =>
      intro hl
      rw [runN] at hl
      split at hl
      ·rename_i hy
       rw [List.all_cons,hy,Bool.true_and]
       exact ih (by rw [List.length_cons] at hl;omega)
      ·rw [List.length_cons] at hl;omega
    exact key r hr
  ·rw [if_neg c2] at h1 h2 h3
   rw [Bool.not_eq_true] at c2
   rw [c2]
   by_cases c3:x=39
   ·rw [if_pos c3] at h1 h2 h3
    subst c3
    split at h1
    ·rename_i hq
     rw [if_pos hq] at h2 h3
     dsimp only at h1 h2 h3
     refine ⟨⟨fun h=>(by cases h),fun h=>(by omega)⟩,fun h=>(by omega),⟨fun _=>(by omega),fun _=>rfl⟩,fun _=>⟨by omega,?_⟩⟩
     split at h3
     ·cases h3
     ·omega
    ·rename_i hq
     rw [if_neg hq] at h3
     cases h3
   ·rw [if_neg c3] at h1 h2 h3
    have c4:(x==39)=false:=by rw [beq_eq_false_iff_ne];exact c3
    rw [c4]
    have hk:k ≠ 2∧k ≠ 3:=by
     split at h1
     ·dsimp only at h1;omega
     ·split at h1
      ·dsimp only at h1;omega
      ·dsimp only at h1;omega
    exact ⟨⟨fun h=>(by cases h),fun h=>absurd h hk.1⟩,fun h=>absurd h hk.1,⟨fun h=>(by cases h),fun h=>absurd h hk.2⟩,fun h=>absurd h hk.2⟩
theorem txQ_mem {l:List Vl} {r:RS} (h:txQ l r ≠ ⟨#[]⟩):r.bad=false∧∃ t,l[r.at_]?=some t∧txQ l r=t.s:=by
 unfold txQ at h ⊢
 split at h
 ·exact absurd rfl h
 ·rename_i hb
  rw [if_neg hb]
  rw [Bool.not_eq_true] at hb
  refine ⟨hb,?_⟩
  split at h
  ·rename_i t ht;exact ⟨t,ht,rfl⟩
  ·exact absurd rfl h
theorem txQ_size {l:List Vl} (hl:GoodL l) (r:RS):(txQ l r).size≤2000:=by
 by_cases h:txQ l r=⟨#[]⟩
 ·rw [h];decide
 ·obtain ⟨_,t,h1,h2⟩:=txQ_mem h
  obtain ⟨x,s,h3,h4,_⟩:=tok_facts (hl.tok t (List.mem_of_getElem? h1))
  rw [h2]
  exact h4
theorem digF_ne {u:ByteArray} (h:digF u=true):u ≠ ⟨#[]⟩:=by rintro rfl;cases h
theorem quoF_ne {u:ByteArray} (h:quoF u=true):u ≠ ⟨#[]⟩:=by rintro rfl;cases h
theorem txQ_num {l:List Vl} (hl:GoodL l) {r:RS} (h:digF (txQ l r)=true):(txQ l r).size≤9∧(txQ l r).data.toList.all digitB=true∧r.bad=false∧r.at_ < l.length:=by
 obtain ⟨h0,t,h1,h2⟩:=txQ_mem (digF_ne h)
 rw [h2] at h ⊢
 obtain ⟨g1,g2,_⟩:=tok_num (hl.tok t (List.mem_of_getElem? h1))
 exact ⟨(g2 (g1.1 h)).1,(g2 (g1.1 h)).2,h0,(List.getElem?_eq_some_iff.1 h1).1⟩
theorem txQ_quo {l:List Vl} (hl:GoodL l) {r:RS} (h:quoF (txQ l r)=true):2≤(txQ l r).size∧(txQ l r).size≤22∧r.bad=false∧r.at_ < l.length:=by
 obtain ⟨h0,t,h1,h2⟩:=txQ_mem (quoF_ne h)
 rw [h2] at h ⊢
 obtain ⟨_,_,g1,g2⟩:=tok_num (hl.tok t (List.mem_of_getElem? h1))
 exact ⟨(g2 (g1.1 h)).1,(g2 (g1.1 h)).2,h0,(List.getElem?_eq_some_iff.1 h1).1⟩
theorem txQ_lt {l:List Vl} {r:RS} (h:txQ l r ≠ ⟨#[]⟩):r.bad=false∧r.at_ < l.length:=by
 obtain ⟨h0,t,h1,h2⟩:=txQ_mem h
 exact ⟨h0,(List.getElem?_eq_some_iff.1 h1).1⟩
theorem numL_step {l:List UInt8} {i:Nat} {c:UInt8} (h:l[i]?=some c):numL (l.take (i + 1))=10 * numL (l.take i) + (c.toNat:Int) - 48:=by
 obtain ⟨hk,rfl⟩:=List.getElem?_eq_some_iff.1 h
 unfold numL
 rw [List.take_succ_eq_append_getElem hk,List.foldl_append]
 rfl
theorem numL_range {l:List UInt8} (h:l.all digitB=true):∀ i,i≤l.length→0≤numL (l.take i)∧numL (l.take i) < 10 ^ i
 | 0,_=>by rw [List.take_zero];exact ⟨by decide,by decide⟩
 | i + 1,hi=>by
  obtain ⟨c,hc⟩:∃ c,l[i]?=some c:=⟨_,List.getElem?_eq_getElem (by omega)⟩
  obtain ⟨h1,h2⟩:=numL_range h i (by omega)
  have hd:=List.all_eq_true.1 h c (List.mem_of_getElem? hc)
  unfold digitB at hd
  simp only [Bool.and_eq_true,decide_eq_true_eq] at hd
  rw [numL_step hc,Int.pow_succ]
  omega
theorem numL_small {l:List UInt8} (h:l.all digitB=true) (hl:l.length≤9) (i:Nat) (hi:i≤l.length):0≤numL (l.take i)∧numL (l.take i) < 1000000000:=by
 obtain ⟨h1,h2⟩:=numL_range h i hi
 refine ⟨h1,Int.lt_of_lt_of_le h2 ?_⟩
 have:(10:Int) ^ i≤10 ^ 9:=by
  have:(10:Nat) ^ i≤10 ^ 9:=Nat.pow_le_pow_right (by decide) (by omega)
  exact_mod_cast this
 exact this
end Go.Proofs.YtjdgejfhnfnmgaaGreatDoor
namespace Go.Proofs.YtjdgejfhnfnmgaaGreatDoor
open Go.RowKit
def hereP (l:List Vl) (en:Int) (k:Nat):Int:=match l[k]? with
 | some t=>t.n
 | none=>en
def txP (l:List Vl) (k:Nat):ByteArray:=match l[k]? with
 | some t=>t.s
 | none=>⟨#[]⟩
def takeB (l:List Vl) (s:ByteArray) (k:Nat):Bool:=match l[k]? with
 | some t=>strEq t.s s
 | none=>false
def nameP (l:List Vl) (k:Nat):Bool:=match l[k]? with
 | some t=>nameB t.s
 | none=>false
def kindP (l:List Vl) (n:Int) (k:Nat):Bool:=match l[k]? with
 | some t=>t.k==n
 | none=>false
end Go.Proofs.YtjdgejfhnfnmgaaGreatDoor
namespace Go.Proofs.YtjdgejfhnfnmgaaGreatDoor
open Go.RowKit
theorem dec_numF:∀ (l:List UInt8) (acc:Nat),l.all digitB=true→∃ m:Nat,Lib.decFrom acc l=some m∧(m:Int)=l.foldl (fun n c=>10 * n + (c.toNat:Int) - 48) (acc:Int)
 | [],acc,_=>⟨acc,rfl,rfl⟩
 | c :: l,acc,h=>by
  rw [List.all_cons,Bool.and_eq_true] at h
  have hc:=h.1
  unfold digitB at hc
  simp only [Bool.and_eq_true,decide_eq_true_eq] at hc
  obtain ⟨m,h1,h2⟩:=dec_numF l (acc * 10 + (c.toNat - 48)) h.2
  refine ⟨m,?_,?_⟩
  ·unfold Lib.decFrom Lib.digitVal
   rw [if_pos (by omega)]
   exact h1
  ·rw [h2,List.foldl_cons]
   congr 1
   omega
theorem atoi_num {s:ByteArray} (h0:s.data.toList ≠ []) (hd:s.data.toList.all digitB=true):Lib.atoi s.data.toList=some (numL s.data.toList):=by
 cases hs:s.data.toList with
 | nil=>exact absurd hs h0
 | cons c r =>
  rw [hs] at hd
  obtain ⟨m,h1,h2⟩:=dec_numF (c :: r) 0 hd
  rw [List.all_cons,Bool.and_eq_true] at hd
  have hc:=hd.1
  unfold digitB at hc
  simp only [Bool.and_eq_true,decide_eq_true_eq] at hc
  have n1:(c==45)=false:=by
   rw [beq_eq_false_iff_ne];rintro rfl
   have:(45:UInt8).toNat=45:=rfl
   omega
  have n2:(c==43)=false:=by
   rw [beq_eq_false_iff_ne];rintro rfl
   have:(43:UInt8).toNat=43:=rfl
   omega
  have e1:Lib.decNat (c :: r)=some m:=by
   unfold Lib.decNat
   rw [if_neg (by simp),h1]
  rw [Lib.atoi,if_neg (by rw [n1];decide),if_neg (by rw [n2];decide),e1,Option.map_some,h2]
  rfl
inductive VP where
 | no
 | yes (v:Vl) (k:Nat)
 | bad (k:Nat)
def vP (l:List Vl) (k:Nat):VP :=
 if takeB l wTrue k=true then .yes ⟨3,1,⟨#[]⟩⟩ (k + 1)
 else if takeB l wFalse k=true then .yes ⟨3,0,⟨#[]⟩⟩ (k + 1)
 else if takeB l wNull k=true then .yes ⟨0,0,⟨#[]⟩⟩ (k + 1)
 else if kindP l 3 k=true then .yes ⟨2,0,unq (txP l k)⟩ (k + 1)
 else if takeB l ⟨#[45]⟩ k=true then
  if takeB l ⟨#[48]⟩ (k + 1)=true then .bad (k + 1)
  else if kindP l 2 (k + 1)=true then .yes ⟨1,-(numL (txP l (k + 1)).data.toList),⟨#[]⟩⟩ (k + 2)
  else .bad (k + 1)
 else if kindP l 2 k=true then .yes ⟨1,numL (txP l k).data.toList,⟨#[]⟩⟩ (k + 1)
 else .no
def oneP (l:List Vl) (k:Nat):List ByteArray→Nat→Int
 | [],_=>-1
 | s :: r,i=>if takeB l s k=true then (i:Int) else oneP l k r (i + 1)
end Go.Proofs.YtjdgejfhnfnmgaaGreatDoor
