/-  -/
import Derived.Test.YtjdgejfhnfnmgaaGreatDoorP0
import Derived.Test.YtjdgejfhnfnmgaaGreatDoorP15
import Derived.Test.YtjdgejfhnfnmgaaGreatDoorP12
import Derived.Test.YtjdgejfhnfnmgaaGreatDoorP13
import Derived.BigQuiet
import Derived.Handy
import Derived.Deep.QuietTactic
import Derived.Deep.LoopGhost
import Derived.Lib.IndexLaws
namespace Go.Proofs.YtjdgejfhnfnmgaaGreatDoor
open Go.RowKit
theorem elTok:ElT Tryz.prog 43 77 (.agg #[.int .i64 0,.int .i64 0,.string ⟨#[]⟩]) 3 32:=elT_mk Tryz.underlying43 (by kernel_rfl) rfl (by decide)
end Go.Proofs.YtjdgejfhnfnmgaaGreatDoor
namespace Go.Proofs.YtjdgejfhnfnmgaaGreatDoor
open Go.RowKit
def ScanPost (T:List Vl × Nat × Nat) (w:World) (e:Ending) (w':World):Prop :=
 ∃ v,e=.returned (.tuple #[v,.int .i64 T.2.1,.int .i64 T.2.2])∧w'.ownsRow (w.heap.size + 1) 77 3 v T.1.length (cellsV T.1)∧Below w.heap.size w w'
set_option maxHeartbeats 4000000 in
theorem scan_any (s:ByteArray) (w:World) (hs:s.size≤maxLen) :
  Calls Tryz.prog 19 #[.string s] w (ScanPost (scanS s) w):=by
 unfold maxLen at hs
 by_cases h2:2000 < s.size
 ·have HT:Hid (scanS s=([],0,2)):=Lib.hid (by rw [scanS,if_pos h2])
  go_enter Tryz.func19,Tryz.ntmps19
  go_wp2_with fail
  go_ret3
  rw [HT.out]
  exact ⟨_,rfl,World.ownsRow_nil _ _ _ _,Below.refl _ _⟩
 have HS:Hid (comb [] (scanF (s.size + 1) s.data.toList 0)=scanS s):=Lib.hid (by
  rw [scanS,if_neg h2,scanF_norm])
 have hg0:Blk (w.alloc (.cells #[.string s,.int .i64 0] 80)) w.heap.size 80 #[.string s,.int .i64 ((0:Nat):Int)]:=Blk.fresh w _ _
 go_enter Tryz.func19,Tryz.ntmps19
 go_wp2_with fail
 refine (skip_any s 0 w.heap.size _ (Nat.zero_le _) (by omega) hg0).mono ?_
 rintro e w1 ⟨rfl,hg1,ht1⟩
 have hw1:=ht1.size
 simp only [World.size_alloc] at hw1
 go_wp2_with fail
 go_loopg [6] (s.size + 1) (fun m v wr=>∃ (vs:List Vl) (p f:Nat),m=s.size - p + 1∧s.size - p < f∧p≤s.size∧vs.length≤p∧wr.ownsRow (w.heap.size + 1) 77 3 v vs.length (cellsV vs) ∧
   comb vs (scanF f (s.data.toList.drop p) p)=scanS s∧Blk wr w.heap.size 80 #[.string s,.int .i64 ((p + runN blankB (s.data.toList.drop p):Nat):Int)]∧Below w.heap.size w wr∧w.heap.size + 1≤wr.heap.size)
 case atStart=>exact ⟨[],0,s.size + 1,rfl,by omega,Nat.zero_le _,Nat.zero_le _,World.ownsRow_nil _ _ _ _,HS.out,hg1,below_turn (below_two _) ht1 (Nat.le_refl _) (by simp),hw1⟩
 case round =>
  obtain ⟨vs,p,f,rfl,hf,hp,hvp,hown,hT,hg,hb,hz⟩:=hrel
  obtain ⟨f,rfl⟩:∃ f',f=f' + 1:=⟨f - 1,by omega⟩
  obtain ⟨q,hq⟩:∃ q,q=p + runN blankB (s.data.toList.drop p):=⟨_,rfl⟩
  have hqs:q≤s.size:=by
   have:=runN_le blankB (s.data.toList.drop p)
   rw [List.length_drop,Array.length_toList,show s.data.size=s.size from rfl] at this
   omega
  have hpq:p≤q:=by omega
  have hdq:(s.data.toList.drop p).drop (runN blankB (s.data.toList.drop p))=s.data.toList.drop q:=by rw [List.drop_drop,hq]
  obtain ⟨d0,d1,_,_,hgl⟩:=hg.two
  by_cases hlt:q < s.size
  ·have hx:=drop_at s q hlt
   rw [hx] at hdq
   have hC:=token_any s q w.heap.size wr hlt (by omega) (by rw [hq];exact hg)
   rw [← hq] at hg d1
   by_cases h0:(tokL s[q] (s.data.toList.drop (q + 1))).2.2=0
   ·have hst:=scan_step f _ p _ _ vs hdq h0
    obtain ⟨hn1,hn2⟩:=tokL_pos _ _ h0
    rw [hT,← hq,← hx,List.drop_drop] at hst
    rw [List.length_drop,Array.length_toList,show s.data.size=s.size from rfl] at hn2
    have HST:=Lib.hid hst
    have HC:=Lib.hid hC
    clear hT HS hdq hx hst hC hq
    generalize tokL s[q] (s.data.toList.drop (q + 1))=t at *
    obtain ⟨tk,tn,te⟩:=t
    simp only at h0 hn1 hn2 HST HC
    subst h0
    go_wp2_with fail
    refine HC.out.mono ?_
    rintro e w2 ⟨u,j,rfl,hjs,hg2,ht2,_,hu⟩
    obtain ⟨rfl,rfl⟩:=hu rfl
    clear hu
    have hown2:=hown.kept ht2 (.inr (by intro e;have:=(hown.lt _ e).1;omega))
    have z2:=ht2.size
    dsimp only at hjs hg2 ⊢
    have hvl:vs.length < 2001:=by omega
    have HSK:=Lib.hid (fun W hG=>skip_any s (q + tn) w.heap.size W hjs (by omega) hG)
    go_wp2_with (at_builtin;refine wpList_app rfl (.tmp 36) (.tmp 38) elTok rfl (hown2.alloc _) rfl rfl (by simp) (by simp) rfl (by unfold maxLen;omega) (by omega) (by first | omega | (simp;omega)) ?_;intro v3 w3 hown3 hl3 hat3)
    have hg3:Blk w3 w.heap.size 80 #[.string s,.int .i64 ((q + tn:Nat):Int)]:=(hl3.blk _ (by rw [World.size_alloc];omega) (fun e=>by have:=(hown.lt _ e).1;omega)).trans (hg2.alloc _)
    have hz3:=hl3.below.size
    simp only [World.size_alloc] at hz3
    refine (HSK.out w3 hg3).mono ?_
    rintro e w4 ⟨rfl,hg4,ht4⟩
    have z4:=ht4.size
    have hown4:=hown3.kept ht4 (.inr (by intro e;have:=(hown3.lt _ e).1;omega))
    have hbw:=(below_turn hb ht2 (Nat.le_refl _) (by omega)).alloc (by omega) (.cells #[.int .i64 (tk:Int),.int .i64 (q:Int),.string (s.extract q (q + tn))] 77)
    have hb3:=hbw.trans (hl3.below.mono (by omega))
    go_wp2_with fail
    go_roundg (s.size - (q + tn) + 1)
    case rel=>exact ⟨vs++[⟨(tk:Int),(q:Int),bs (List.take tn (List.drop q s.data.toList))⟩],q + tn,f,rfl,by omega,hjs,by simp;omega,own_vals hown4 _ (by rw [extract_mid s q tn]),HST.out.symm,hg4,below_turn hb3 ht4 (Nat.le_refl _) (by omega),by omega⟩
    case measure=>omega
   ·have hst:=scan_bad f _ p _ _ vs hdq h0
    rw [hT,← hq] at hst
    have HST:=Lib.hid hst
    have HC:=Lib.hid hC
    clear hT HS hdq hx hst hC hq
    generalize tokL s[q] (s.data.toList.drop (q + 1))=t at *
    obtain ⟨tk,tn,te⟩:=t
    simp only at h0 HST HC
    have hte:((te:Int) != 0)=true:=by rw [bne_iff_ne];omega
    have H0:=Lib.hid h0
    clear h0
    go_wp2_with fail
    refine HC.out.mono ?_
    rintro e w2 ⟨u,j,rfl,hjs,hg2,ht2,hat,_⟩
    obtain ⟨uk,ua,us⟩:=u
    simp only at hat
    subst hat
    go_wp2_with fail
    go_quiet (fail)
    go_wp2_with fail
    go_ret3
    rw [HST.out]
    exact ⟨_,rfl,World.ownsRow_nil _ _ _ _,below_drewN ((below_turn hb ht2 (Nat.le_refl _) (by omega)).alloc (by have:=ht2.size;omega) _) _⟩
  ·have hqq:q=s.size:=by omega
   have hld:decide (q < s.size)=false:=by simp;omega
   have hst:=scan_end f _ p vs (by rw [hdq];exact List.drop_eq_nil_of_le (by rw [Array.length_toList];exact Nat.le_of_eq hqq.symm))
   rw [hT] at hst
   have HST:=Lib.hid hst
   rw [← hq] at hg d1
   clear hT HS hdq hst hq hqq
   go_wp2_with fail
   go_ret3
   rw [HST.out]
   exact ⟨_,rfl,hown,hb⟩
end Go.Proofs.YtjdgejfhnfnmgaaGreatDoor
namespace Go.Proofs.YtjdgejfhnfnmgaaGreatDoor
open Go.RowKit
theorem oneB_false {k:Int} {s:ByteArray} {T:List Vl × Nat × Nat} (hT:scanS s=T) (h:¬ T.2.2=0 ∨ ¬ T.1.length=1):oneB k s=false:=by
 rw [← Bool.not_eq_true]
 intro h1
 obtain ⟨t,p,h2,_,_⟩:=oneB_of h1
 rw [← hT,h2] at h
 simp at h
theorem oneB_one {k:Int} {s:ByteArray} {t:Vl} {p:Nat} (hT:scanS s=([t],p,0)):oneB k s=((t.k==k) && (t.s.toList==s.toList)):=by
 unfold oneB
 rw [hT]
 rfl
set_option maxHeartbeats 2000000 in
theorem one_any (k:Int) (s:ByteArray) (w:World) (hs:s.size≤maxLen) :
  Calls Tryz.prog 54 #[.int .i64 k,.string s] w fun e w'=>e=.returned (.bool (oneB k s))∧Below w.heap.size w w':=by
 have HC:=Lib.hid (fun W=>scan_any s W hs)
 have HT:Hid (scanS s=scanS s):=Lib.hid rfl
 have HF:=Lib.hid (fun T h1 h2=>@oneB_false k s T h1 h2)
 have HO:=Lib.hid (fun t p h=>@oneB_one k s t p h)
 generalize hT:scanS s=T at HC HT
 have HT:=Lib.hid hT
 clear hT
 obtain ⟨vs,p,e⟩:=T
 by_cases he:e=0
 ·subst he
  by_cases hn:vs.length=1
  ·obtain ⟨t,rfl⟩:∃ t,vs=[t]:=by
    rcases vs with _ | ⟨t,_ | _⟩
    ·simp at hn
    ·exact ⟨t,rfl⟩
    ·simp at hn
   obtain ⟨tk,tn,ts⟩:=t
   clear hn
   obtain rfl:p=0:=by
    have:=(scanS_one s (by rw [HT.out])).2
    rw [HT.out] at this
    exact this
   have HR:=Lib.hid (HO.out _ _ HT.out)
   simp only at HR
   rcases h1:(tk==k) with _ | _
   ·rw [h1,Bool.false_and] at HR
    go_enter Tryz.func54,Tryz.ntmps54
    go_wp2_with fail
    refine (HC.out w).mono ?_
    rintro e w1 ⟨v,rfl,hown,hb⟩
    dsimp only at hown ⊢
    obtain ⟨g,cap,rfl,hg1,hg2⟩:=hown.form Nat.zero_lt_one
    have c0:w1.cell? ⟨g,0,none⟩=some (.int .i64 tk):=hown.cellAt 0 (show 0 < 3 by decide)
    have c2:w1.cell? ⟨g,2,none⟩=some (.string ts):=hown.cellAt 2 (show 2 < 3 by decide)
    go_wp2_with fail
    go_ret
    exact ⟨by rw [HR.out];rfl,hb⟩
   ·rw [h1,Bool.true_and] at HR
    go_enter Tryz.func54,Tryz.ntmps54
    go_wp2_with fail
    refine (HC.out w).mono ?_
    rintro e w1 ⟨v,rfl,hown,hb⟩
    dsimp only at hown ⊢
    obtain ⟨g,cap,rfl,hg1,hg2⟩:=hown.form Nat.zero_lt_one
    have c0:w1.cell? ⟨g,0,none⟩=some (.int .i64 tk):=hown.cellAt 0 (show 0 < 3 by decide)
    have c2:w1.cell? ⟨g,2,none⟩=some (.string ts):=hown.cellAt 2 (show 2 < 3 by decide)
    go_wp2_with fail
    go_ret
    exact ⟨by rw [HR.out];rfl,hb⟩
  ·have HR:=Lib.hid (HF.out _ HT.out (.inr hn))
   have hl:((vs.length:Int)==1)=false:=by rw [beq_eq_false_iff_ne];omega
   clear hn
   go_enter Tryz.func54,Tryz.ntmps54
   go_wp2_with fail
   refine (HC.out w).mono ?_
   rintro e w1 ⟨v,rfl,hown,hb⟩
   dsimp only at hown ⊢
   obtain ⟨A1,c1,rfl,hrd1,hn1⟩:=rd_of_own hown
   go_wp2_with fail
   go_ret
   exact ⟨by rw [HR.out];rfl,hb⟩
 ·have HR:=Lib.hid (HF.out _ HT.out (.inl he))
  have hl:((e:Int)==0)=false:=by rw [beq_eq_false_iff_ne];omega
  clear he
  go_enter Tryz.func54,Tryz.ntmps54
  go_wp2_with fail
  refine (HC.out w).mono ?_
  rintro e w1 ⟨v,rfl,hown,hb⟩
  dsimp only at hown ⊢
  go_wp2_with fail
  go_ret
  exact ⟨by rw [HR.out];rfl,hb⟩
end Go.Proofs.YtjdgejfhnfnmgaaGreatDoor
namespace Go.Proofs.YtjdgejfhnfnmgaaGreatDoor
open Go.RowKit
theorem isletter_any (c:UInt8) (w:World) :
  Calls Tryz.prog 121 #[.int .u8 c.toNat] w fun e w'=>e=.returned (.bool (letterB c))∧w=w':=by
 have hu:(c.toNat:Int)≤255:=by have:=c.toNat_lt;omega
 go_enter Tryz.func121,Tryz.ntmps121
 go_wp2_with (go_at_call 23;refine (between_any _ _ _ _).mono ?_;rintro e w' ⟨rfl,rfl⟩)
 go_ret
 exact ⟨rfl,rfl⟩
theorem isdigit_any (c:UInt8) (w:World) :
  Calls Tryz.prog 122 #[.int .u8 c.toNat] w fun e w'=>e=.returned (.bool (digitB c))∧w=w':=by
 have hu:(c.toNat:Int)≤255:=by have:=c.toNat_lt;omega
 go_enter Tryz.func122,Tryz.ntmps122
 go_wp2_with (go_at_call 23;refine (between_any _ _ _ _).mono ?_;rintro e w' ⟨rfl,rfl⟩)
 go_ret
 exact ⟨rfl,rfl⟩
def AtPost (T:Nat × Nat) (w:World) (e:Ending) (w':World):Prop:=e=.returned (.tuple #[.int .i64 T.1,.int .i64 T.2])∧w=w'
set_option maxHeartbeats 2000000 in
theorem at_letter (s:ByteArray) (p:Nat) (w:World) (hp:p < s.size) (hs:s.size≤2000) (hl:letterB s[p]=true) :
  Calls Tryz.prog 66 #[.string s,.int .i64 p] w (AtPost (tokA s[p] (s.data.toList.drop (p + 1))) w):=by
 have hR:=runN_le wordB (s.data.toList.drop (p + 1))
 rw [List.length_drop,Array.length_toList,show s.data.size=s.size from rfl] at hR
 have HD:=Lib.hid (fun k (h:k < s.size)=>drop_at s k h)
 have HT:=Lib.hid (show tokA s[p] (s.data.toList.drop (p + 1))=(1,runN wordB (s.data.toList.drop (p + 1)) + 1) by rw [tokA,if_pos hl])
 have HL:=Lib.hid (isletter_any s[p])
 rw [hl] at HL
 obtain ⟨z,hz⟩:∃ z,z=runN wordB (s.data.toList.drop (p + 1)) + 1:=⟨_,rfl⟩
 have hz1:1≤z:=by omega
 have hz2:p + z≤s.size:=by omega
 have HN:=Lib.hid hz
 rw [← hz] at HT
 clear hz hR hl
 go_enter Tryz.func66,Tryz.ntmps66
 go_wp2_with fail
 refine (HL.out w).mono ?_
 rintro e w1 ⟨rfl,rfl⟩
 go_wp2_with fail
 go_loopg [7] (z - 1) (fun m v wr=>∃ j:Nat,v=.int .i64 j∧m=z - j∧1≤j∧j≤z∧j + runN wordB (s.data.toList.drop (p + j))=z∧w=wr)
 case atStart=>exact ⟨1,rfl,rfl,Nat.le_refl _,hz1,by rw [HN.out];omega,rfl⟩
 case round =>
  obtain ⟨j,rfl,rfl,h1,hjz,hrun,rfl⟩:=hrel
  have HRN:=Lib.hid hrun
  clear hrun
  by_cases hlt:p + j < s.size
  ·have HC:=Lib.hid (isletter_any s[p + j])
   have HE:=Lib.hid (isdigit_any s[p + j])
   have hq:wordB s[p + j]=(letterB s[p + j] || digitB s[p + j]):=rfl
   have hk:=HRN.out
   rw [HD.out _ hlt,runN] at hk
   by_cases hab:wordB s[p + j]=true
   ·rw [if_pos hab] at hk
    rw [hab] at hq
    have HK:=Lib.hid (show j + 1≤z∧(j + 1) + runN wordB (s.data.toList.drop (p + (j + 1)))=z from by rw [show p + (j + 1)=p + j + 1 from rfl];omega)
    have HQ:=Lib.hid hq
    clear hab hk hq
    generalize letterB s[p + j]=a at *
    generalize digitB s[p + j]=b at *
    cases a
    ·obtain rfl:b=true:=by simpa using HQ.out.symm
     go_wp2_with fail
     refine (HC.out w).mono ?_
     rintro e w1 ⟨rfl,rfl⟩
     go_wp2_with fail
     refine (HE.out w).mono ?_
     rintro e w1 ⟨rfl,rfl⟩
     go_wp2_with fail
     go_roundg (z - (j + 1))
     case rel=>exact ⟨j + 1,rfl,rfl,by omega,HK.out.1,HK.out.2,rfl⟩
     case measure=>have:=HK.out.1;omega
    ·go_wp2_with fail
     refine (HC.out w).mono ?_
     rintro e w1 ⟨rfl,rfl⟩
     go_wp2_with fail
     go_roundg (z - (j + 1))
     case rel=>exact ⟨j + 1,rfl,rfl,by omega,HK.out.1,HK.out.2,rfl⟩
     case measure=>have:=HK.out.1;omega
   ·rw [if_neg hab] at hk
    have hq2:wordB s[p + j]=false:=by simpa using hab
    rw [hq2] at hq
    have HQ:=Lib.hid hq
    obtain rfl:j=z:=by omega
    clear hab hk hq hq2
    generalize letterB s[p + j]=a at *
    generalize digitB s[p + j]=b at *
    obtain ⟨rfl,rfl⟩:a=false∧b=false:=Bool.or_eq_false_iff.1 HQ.out.symm
    go_wp2_with fail
    refine (HC.out w).mono ?_
    rintro e w1 ⟨rfl,rfl⟩
    go_wp2_with fail
    refine (HE.out w).mono ?_
    rintro e w1 ⟨rfl,rfl⟩
    go_wp2_with fail
    go_ret2
    rw [HT.out]
    exact ⟨rfl,rfl⟩
  ·have hk:j=z:=by
    have:=HRN.out
    rw [List.drop_eq_nil_of_le (by rw [Array.length_toList,show s.data.size=s.size from rfl];omega)] at this
    simp only [runN] at this
    omega
   subst hk
   go_wp2_with fail
   go_ret2
   rw [HT.out]
   exact ⟨rfl,rfl⟩
set_option maxHeartbeats 2000000 in
theorem at_digit (s:ByteArray) (p:Nat) (w:World) (hp:p < s.size) (hs:s.size≤2000) (hl:letterB s[p]=false) (hd:digitB s[p]=true) :
  Calls Tryz.prog 66 #[.string s,.int .i64 p] w (AtPost (tokA s[p] (s.data.toList.drop (p + 1))) w):=by
 have hR:=runN_le digitB (s.data.toList.drop (p + 1))
 rw [List.length_drop,Array.length_toList,show s.data.size=s.size from rfl] at hR
 have HD:=Lib.hid (fun k (h:k < s.size)=>drop_at s k h)
 have HT:=Lib.hid (show tokA s[p] (s.data.toList.drop (p + 1))=(2,runN digitB (s.data.toList.drop (p + 1)) + 1) by rw [tokA,if_neg (by simp [hl]),if_pos hd])
 have HL:=Lib.hid (isletter_any s[p])
 rw [hl] at HL
 have HG:=Lib.hid (isdigit_any s[p])
 rw [hd] at HG
 obtain ⟨z,hz⟩:∃ z,z=runN digitB (s.data.toList.drop (p + 1)) + 1:=⟨_,rfl⟩
 have hz1:1≤z:=by omega
 have hz2:p + z≤s.size:=by omega
 have HN:=Lib.hid hz
 rw [← hz] at HT
 clear hz hR hl hd
 go_enter Tryz.func66,Tryz.ntmps66
 go_wp2_with fail
 refine (HL.out w).mono ?_
 rintro e w1 ⟨rfl,rfl⟩
 go_wp2_with fail
 refine (HG.out w).mono ?_
 rintro e w1 ⟨rfl,rfl⟩
 go_wp2_with fail
 go_loopg [7] (z - 1) (fun m v wr=>∃ j:Nat,v=.int .i64 j∧m=z - j∧1≤j∧j≤z∧j + runN digitB (s.data.toList.drop (p + j))=z∧w=wr)
 case atStart=>exact ⟨1,rfl,rfl,Nat.le_refl _,hz1,by rw [HN.out];omega,rfl⟩
 case round =>
  obtain ⟨j,rfl,rfl,h1,hjz,hrun,rfl⟩:=hrel
  have HRN:=Lib.hid hrun
  clear hrun
  by_cases hlt:p + j < s.size
  ·have HC:=Lib.hid (isdigit_any s[p + j])
   have hk:=HRN.out
   rw [HD.out _ hlt,runN] at hk
   by_cases hab:digitB s[p + j]=true
   ·rw [if_pos hab] at hk
    have HK:=Lib.hid (show j + 1≤z∧(j + 1) + runN digitB (s.data.toList.drop (p + (j + 1)))=z from by rw [show p + (j + 1)=p + j + 1 from rfl];omega)
    rw [hab] at HC
    clear hab hk
    go_wp2_with fail
    refine (HC.out w).mono ?_
    rintro e w1 ⟨rfl,rfl⟩
    go_wp2_with fail
    go_roundg (z - (j + 1))
    case rel=>exact ⟨j + 1,rfl,rfl,by omega,HK.out.1,HK.out.2,rfl⟩
    case measure=>have:=HK.out.1;omega
   ·rw [if_neg hab] at hk
    rw [show digitB s[p + j]=false by simpa using hab] at HC
    obtain rfl:j=z:=by omega
    clear hab hk
    go_wp2_with fail
    refine (HC.out w).mono ?_
    rintro e w1 ⟨rfl,rfl⟩
    go_wp2_with fail
    go_ret2
    rw [HT.out]
    exact ⟨rfl,rfl⟩
  ·have hk:j=z:=by
    have:=HRN.out
    rw [List.drop_eq_nil_of_le (by rw [Array.length_toList,show s.data.size=s.size from rfl];omega)] at this
    simp only [runN] at this
    omega
   subst hk
   go_wp2_with fail
   go_ret2
   rw [HT.out]
   exact ⟨rfl,rfl⟩
set_option maxHeartbeats 2000000 in
theorem at_quote (s:ByteArray) (p:Nat) (w:World) (hp:p < s.size) (hs:s.size≤2000) (hl:letterB s[p]=false) (hd:digitB s[p]=false) (h39:s[p]=39) :
  Calls Tryz.prog 66 #[.string s,.int .i64 p] w (AtPost (tokA s[p] (s.data.toList.drop (p + 1))) w):=by
 have hR:=runN_le quotB (s.data.toList.drop (p + 1))
 rw [List.length_drop,Array.length_toList,show s.data.size=s.size from rfl] at hR
 have HD:=Lib.hid (fun k (h:k < s.size)=>drop_at s k h)
 have HT:=Lib.hid (show tokA s[p] (s.data.toList.drop (p + 1))=(if quotEnds (s.data.toList.drop (p + 1))=true then (3,runN quotB (s.data.toList.drop (p + 1)) + 1 + 1) else (0,0)) by rw [tokA,if_neg (by simp [hl]),if_neg (by simp [hd]),if_pos h39];rfl)
 have HL:=Lib.hid (isletter_any s[p])
 rw [hl] at HL
 have HG:=Lib.hid (isdigit_any s[p])
 rw [hd] at HG
 have h39':((s[p].toNat:Int)==39)=true:=by rw [h39];rfl
 have hqe:quotEnds (s.data.toList.drop (p + 1))=match s.data.toList.drop (p + (runN quotB (s.data.toList.drop (p + 1)) + 1)) with | x :: _=>x==39 | []=>false:=by
  unfold quotEnds quotN
  rw [List.drop_drop,show p + 1 + runN quotB (s.data.toList.drop (p + 1))=p + (runN quotB (s.data.toList.drop (p + 1)) + 1) from by omega]
  generalize s.data.toList.drop (p + (runN quotB (s.data.toList.drop (p + 1)) + 1))=L
  cases L <;> rfl
 obtain ⟨z,hz⟩:∃ z,z=runN quotB (s.data.toList.drop (p + 1)) + 1:=⟨_,rfl⟩
 have hz1:1≤z:=by omega
 have hz2:p + z≤s.size:=by omega
 have HN:=Lib.hid hz
 rw [← hz] at HT hqe
 have HQE:=Lib.hid hqe
 clear hz hR hl hd h39 hqe
 generalize quotEnds (s.data.toList.drop (p + 1))=qe at *
 go_enter Tryz.func66,Tryz.ntmps66
 go_wp2_with fail
 refine (HL.out w).mono ?_
 rintro e w1 ⟨rfl,rfl⟩
 go_wp2_with fail
 refine (HG.out w).mono ?_
 rintro e w1 ⟨rfl,rfl⟩
 go_wp2_with fail
 go_loopg [7] (z - 1) (fun m v wr=>∃ j:Nat,v=.int .i64 j∧m=z - j∧1≤j∧j≤z∧j + runN quotB (s.data.toList.drop (p + j))=z∧w=wr)
 case atStart=>exact ⟨1,rfl,rfl,Nat.le_refl _,hz1,by rw [HN.out];omega,rfl⟩
 case round =>
  obtain ⟨j,rfl,rfl,h1,hjz,hrun,rfl⟩:=hrel
  have HRN:=Lib.hid hrun
  clear hrun
  by_cases hlt:p + j < s.size
  ·have HC:=Lib.hid (isquot_any s[p + j])
   have hk:=HRN.out
   rw [HD.out _ hlt,runN] at hk
   by_cases hab:quotB s[p + j]=true
   ·rw [if_pos hab] at hk
    have HK:=Lib.hid (show j + 1≤z∧(j + 1) + runN quotB (s.data.toList.drop (p + (j + 1)))=z from by rw [show p + (j + 1)=p + j + 1 from rfl];omega)
    rw [hab] at HC
    clear hab hk
    go_wp2_with fail
    refine (HC.out w).mono ?_
    rintro e w1 ⟨rfl,rfl⟩
    go_wp2_with fail
    go_roundg (z - (j + 1))
    case rel=>exact ⟨j + 1,rfl,rfl,by omega,HK.out.1,HK.out.2,rfl⟩
    case measure=>have:=HK.out.1;omega
   ·rw [if_neg hab] at hk
    rw [show quotB s[p + j]=false by simpa using hab] at HC
    obtain rfl:j=z:=by omega
    have hq:=HQE.out
    rw [HD.out _ hlt] at hq
    simp only at hq
    clear hab hk
    by_cases he:s[p + j]=39
    ·have hq2:((s[p + j].toNat:Int)==39)=true:=by rw [he];rfl
     have hq3:qe=true:=by rw [hq,he];rfl
     subst hq3
     clear hq he
     go_wp2_with fail
     refine (HC.out w).mono ?_
     rintro e w1 ⟨rfl,rfl⟩
     go_wp2_with fail
     go_ret2
     rw [HT.out]
     exact ⟨rfl,rfl⟩
    ·have hq2:((s[p + j].toNat:Int)==39)=false:=by rw [beq_eq_false_iff_ne];exact fun h=>he (UInt8.toNat_inj.1 (by rw [show (39:UInt8).toNat=39 from rfl];omega))
     have hq3:qe=false:=by rw [hq];simpa using he
     subst hq3
     clear hq he
     go_wp2_with fail
     refine (HC.out w).mono ?_
     rintro e w1 ⟨rfl,rfl⟩
     go_wp2_with fail
     go_ret2
     rw [HT.out]
     exact ⟨rfl,rfl⟩
  ·have hnil:s.data.toList.drop (p + j)=[]:=List.drop_eq_nil_of_le (by rw [Array.length_toList,show s.data.size=s.size from rfl];omega)
   have hk:j=z:=by
    have:=HRN.out
    rw [hnil] at this
    simp only [runN] at this
    omega
   subst hk
   have hq:=HQE.out
   rw [hnil] at hq
   simp only at hq
   subst hq
   clear hnil
   go_wp2_with fail
   go_ret2
   rw [HT.out]
   exact ⟨rfl,rfl⟩
theorem sign1_cases (x:UInt8):sign1 x=decide (x ∈ [40,41,44,59,42,61,60,43,45]):=by
 by_cases h:x ∈ [40,41,44,59,42,61,60,43,45]
 ·simp only [List.mem_cons,List.not_mem_nil,or_false] at h
  rcases h with rfl | rfl | rfl | rfl | rfl | rfl | rfl | rfl | rfl <;> kernel_rfl
 ·rw [decide_eq_false h]
  cases hs:sign1 x
  ·rfl
  ·exfalso
   simp only [sign1,decide_eq_true_eq] at hs
   obtain ⟨o,ho⟩:=Int.eq_ofNat_of_zero_le hs
   exact h (List.mem_of_getElem? (Lib.indexByte_some ho).1)
def signFrom (x:UInt8) (i:Nat):Bool:=decide (x ∈ (⟨#[40,41,44,59,42,61,60,43,45]⟩:ByteArray).data.toList.drop i)
theorem sign_step (x:UInt8) (i:Nat) (h:i < (⟨#[40,41,44,59,42,61,60,43,45]⟩:ByteArray).size):signFrom x i=(((((⟨#[40,41,44,59,42,61,60,43,45]⟩:ByteArray)[i]).toNat:Int)==(x.toNat:Int)) || signFrom x (i + 1)):=by
 unfold signFrom
 rw [drop_at _ i h,Bool.eq_iff_iff,decide_eq_true_eq,Bool.or_eq_true,decide_eq_true_eq,beq_iff_eq,List.mem_cons]
 generalize (⟨#[40,41,44,59,42,61,60,43,45]⟩:ByteArray)[i]=y
 refine or_congr ⟨fun h=>by rw [h],fun h=>UInt8.toNat_inj.1 (by omega)⟩ Iff.rfl
theorem sign_end (x:UInt8):signFrom x 9=false:=by simp [signFrom]
theorem barsAt (s:ByteArray) (p:Nat) (hp:p < s.size):bars (s[p] :: s.data.toList.drop (p + 1))=(if h:p + 1 < s.size then ((s[p].toNat:Int)==124) && ((s[p + 1].toNat:Int)==124) else false):=by
 have key:∀ a:UInt8,(a==124)=((a.toNat:Int)==124):=fun a=>by
  by_cases h:a=124
  ·subst h;rfl
  ·rw [beq_eq_false_iff_ne.2 h,eq_comm,beq_eq_false_iff_ne];exact fun h2=>h (UInt8.toNat_inj.1 (by rw [show (124:UInt8).toNat=124 from rfl];omega))
 by_cases h:p + 1 < s.size
 ·rw [dif_pos h,drop_at s (p + 1) h,← key,← key]
  unfold bars Lib.hasPrefix
  simp only [List.isPrefixOf,Bool.and_true]
  rw [BEq.comm (a:=(124:UInt8)),BEq.comm (a:=(124:UInt8))]
 ·rw [dif_neg h,List.drop_eq_nil_of_le (by rw [Array.length_toList,show s.data.size=s.size from rfl];omega)]
  unfold bars Lib.hasPrefix
  simp [List.isPrefixOf]
set_option maxHeartbeats 2000000 in
theorem at_sign (s:ByteArray) (p:Nat) (w:World) (hp:p < s.size) (hs:s.size≤2000) (hl:letterB s[p]=false) (hd:digitB s[p]=false) (h39:¬ s[p]=39) :
  Calls Tryz.prog 66 #[.string s,.int .i64 p] w (AtPost (tokA s[p] (s.data.toList.drop (p + 1))) w):=by
 have HT:=Lib.hid (show tokA s[p] (s.data.toList.drop (p + 1))=(if bars (s[p] :: s.data.toList.drop (p + 1))=true then (4,2) else if signFrom s[p] 0=true then (4,1) else (0,0)) by rw [tokA,if_neg (by simp [hl]),if_neg (by simp [hd]),if_neg h39,sign1_cases];rfl)
 have HB:=barsAt s p hp
 have HL:=Lib.hid (isletter_any s[p])
 rw [hl] at HL
 have HG:=Lib.hid (isdigit_any s[p])
 rw [hd] at HG
 have h0:((s[p].toNat:Int)==39)=false:=by rw [beq_eq_false_iff_ne];exact fun h=>h39 (UInt8.toNat_inj.1 (by rw [show (39:UInt8).toNat=39 from rfl];omega))
 clear hl hd h39
 generalize bars (s[p] :: s.data.toList.drop (p + 1))=bb at *
 have HS:Hid (signFrom s[p] 0=signFrom s[p] 0):=Lib.hid rfl
 by_cases hb:bb=true
 ·subst hb
  have hps:p + 1 < s.size:=by
   by_cases h:p + 1 < s.size
   ·exact h
   ·rw [dif_neg h] at HB;cases HB
  rw [dif_pos hps] at HB
  obtain ⟨hb1,hb2⟩:=Bool.and_eq_true_iff.1 HB.symm
  clear HB
  go_enter Tryz.func66,Tryz.ntmps66
  go_wp2_with fail
  refine (HL.out w).mono ?_
  rintro e w1 ⟨rfl,rfl⟩
  go_wp2_with fail
  refine (HG.out w).mono ?_
  rintro e w1 ⟨rfl,rfl⟩
  go_wp2_with fail
  go_ret2
  rw [HT.out]
  exact ⟨rfl,rfl⟩
 ·obtain rfl:bb=false:=by simpa using hb
  have h3:((s[p].toNat:Int)==124)=false ∨ (((s[p].toNat:Int)==124)=true∧¬ p + 1 < s.size) ∨ (((s[p].toNat:Int)==124)=true∧∃ h:p + 1 < s.size,((s[p + 1].toNat:Int)==124)=false):=by
   rcases h124:((s[p].toNat:Int)==124) with _ | _
   ·exact .inl rfl
   ·by_cases h:p + 1 < s.size
    ·rw [dif_pos h,h124] at HB
     exact .inr (.inr ⟨rfl,h,HB.symm⟩)
    ·exact .inr (.inl ⟨rfl,h⟩)
  clear HB hb
  rcases h3 with h1 | ⟨h1,h2⟩ | ⟨h1,h2,h4⟩
  all_goals
   go_enter Tryz.func66,Tryz.ntmps66
   go_wp2_with fail
   refine (HL.out w).mono ?_
   rintro e w1 ⟨rfl,rfl⟩
   go_wp2_with fail
   refine (HG.out w).mono ?_
   rintro e w1 ⟨rfl,rfl⟩
   go_wp2_with fail
  all_goals
   go_loopg [9] 9 (fun m v wr=>∃ i:Nat,v=.int .i64 i∧m=9 - i∧i≤9∧signFrom s[p] i=signFrom s[p] 0∧w=wr)
   case atStart=>exact ⟨0,rfl,rfl,by omega,rfl,rfl⟩
   case round =>
    obtain ⟨i,rfl,rfl,hi,hsf,rfl⟩:=hrel
    have HSF:=Lib.hid hsf
    clear hsf HS
    by_cases hi9:i < 9
    ·have hst:=sign_step s[p] i hi9
     rcases hx:((((⟨#[40,41,44,59,42,61,60,43,45]⟩:ByteArray)[i]).toNat:Int)==(s[p].toNat:Int)) with _ | _
     ·rw [hx,Bool.false_or] at hst
      have HST:=Lib.hid hst
      clear hst
      go_wp2_with fail
      go_roundg (9 - (i + 1))
      case rel=>exact ⟨i + 1,rfl,rfl,by omega,HST.out.symm.trans HSF.out,rfl⟩
      case measure=>omega
     ·rw [hx,Bool.true_or,HSF.out] at hst
      have HST:=Lib.hid hst
      clear hst
      go_wp2_with fail
      go_ret2
      rw [HT.out,HST.out]
      exact ⟨rfl,rfl⟩
    ·obtain rfl:i=9:=by omega
     rw [sign_end] at HSF
     go_wp2_with fail
     go_ret2
     rw [HT.out,← HSF.out]
     exact ⟨rfl,rfl⟩
theorem at_any (s:ByteArray) (p:Nat) (w:World) (hp:p < s.size) (hs:s.size≤2000) :
  Calls Tryz.prog 66 #[.string s,.int .i64 p] w (AtPost (tokA s[p] (s.data.toList.drop (p + 1))) w):=by
 rcases hl:letterB s[p] with _ | _
 ·rcases hd:digitB s[p] with _ | _
  ·by_cases h39:s[p]=39
   ·exact at_quote s p w hp hs hl hd h39
   ·exact at_sign s p w hp hs hl hd h39
  ·exact at_digit s p w hp hs hl hd
 ·exact at_letter s p w hp hs hl
end Go.Proofs.YtjdgejfhnfnmgaaGreatDoor
namespace Go.Proofs.YtjdgejfhnfnmgaaGreatDoor
open Go.RowKit
set_option maxHeartbeats 2000000 in
theorem wrong_any (k n:Nat) (x:UInt8) (t:ByteArray) (w:World) (hk:k≤4) (hn:t.size=n) (hm:n≤maxLen) (hx:∀ h:0 < t.size,t[0]=x) :
  Calls Tryz.prog 67 #[.int .i64 k,.string t] w fun e w'=>e=.returned (.int .i64 (wrongA k n x))∧w=w':=by
 unfold maxLen at hm
 obtain rfl | rfl | rfl | rfl | rfl:k=0 ∨ k=1 ∨ k=2 ∨ k=3 ∨ k=4:=by omega
 ·go_enter Tryz.func67,Tryz.ntmps67
  go_wp2
  go_ret
  exact ⟨rfl,rfl⟩
 ·by_cases h:12 < n
  all_goals
   have HT:Hid (wrongA 1 n x=_):=Lib.hid (by simp only [wrongA,h];rfl)
   subst hn
   go_enter Tryz.func67,Tryz.ntmps67
   go_wp2
   go_ret
   rw [HT.out]
   exact ⟨rfl,rfl⟩
 ·by_cases h:9 < n
  ·have HT:Hid (wrongA 2 n x=2):=Lib.hid (by simp [wrongA,h])
   subst hn
   go_enter Tryz.func67,Tryz.ntmps67
   go_wp2
   go_ret
   rw [HT.out]
   exact ⟨rfl,rfl⟩
  ·by_cases h1:1 < n
   ·have hx0:=hx (by omega)
    by_cases hx1:x=48
    ·have HT:Hid (wrongA 2 n x=1):=Lib.hid (by simp [wrongA,h,h1,hx1])
     subst hn
     have hx2:((t[0].toNat:Int)==48)=true:=by rw [hx0,hx1];rfl
     clear hx0 hx hx1
     go_enter Tryz.func67,Tryz.ntmps67
     go_wp2
     go_ret
     rw [HT.out]
     exact ⟨rfl,rfl⟩
    ·have HT:Hid (wrongA 2 n x=0):=Lib.hid (by simp [wrongA,h,h1,hx1])
     subst hn
     have hx2:((t[0].toNat:Int)==48)=false:=by rw [hx0,beq_eq_false_iff_ne];exact fun h=>hx1 (UInt8.toNat_inj.1 (by rw [show (48:UInt8).toNat=48 from rfl];omega))
     clear hx0 hx hx1
     go_enter Tryz.func67,Tryz.ntmps67
     go_wp2
     go_ret
     rw [HT.out]
     exact ⟨rfl,rfl⟩
   ·have HT:Hid (wrongA 2 n x=0):=Lib.hid (by simp [wrongA,h,h1])
    subst hn
    clear hx
    go_enter Tryz.func67,Tryz.ntmps67
    go_wp2
    go_ret
    rw [HT.out]
    exact ⟨rfl,rfl⟩
 ·by_cases h:22 < n
  all_goals
   have HT:Hid (wrongA 3 n x=_):=Lib.hid (by simp only [wrongA,h];rfl)
   subst hn
   go_enter Tryz.func67,Tryz.ntmps67
   go_wp2
   go_ret
   rw [HT.out]
   exact ⟨rfl,rfl⟩
 ·have HT:Hid (wrongA 4 n x=0):=Lib.hid (by simp [wrongA])
  subst hn
  go_enter Tryz.func67,Tryz.ntmps67
  go_wp2
  go_ret
  rw [HT.out]
  exact ⟨rfl,rfl⟩
end Go.Proofs.YtjdgejfhnfnmgaaGreatDoor
