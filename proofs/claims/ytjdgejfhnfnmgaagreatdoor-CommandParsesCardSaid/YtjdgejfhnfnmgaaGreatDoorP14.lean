/-  -/
import Derived.Test.YtjdgejfhnfnmgaaGreatDoorP13
import Derived.Test.YtjdgejfhnfnmgaaGreatDoorP0
import Derived.StillTailTactics
import Derived.Test.YtjdgejfhnfnmgaaGreatDoorRows
import Derived.Test.YtjdgejfhnfnmgaaGreatDoorP7
import Derived.Test.YtjdgejfhnfnmgaaGreatDoorP12
import Derived.BigQuiet
import Derived.Deep.QuietTactic
import Derived.Handy
import Derived.Deep.LoopGhost
namespace Go.Proofs.YtjdgejfhnfnmgaaGreatDoor
open Go.RowKit
set_option maxHeartbeats 1000000 in
theorem rsame_any (a b:Vl) (w:World) :
  Calls Tryz.prog 26 #[a.val,b.val] w fun e w'=>e=.returned (.bool (a.same b))∧Below w.heap.size w w':=by
 obtain ⟨k,n,s⟩:=a
 obtain ⟨k',n',s'⟩:=b
 dsimp only [Vl.val,Vl.same]
 by_cases h1:k=k'
 ·subst h1
  by_cases h2:n=n'
  ·subst h2
   go_enter Tryz.func26,Tryz.ntmps26
   go_wp2
   go_ret
   exact ⟨by simp,((Below.refl _ _).alloc (Nat.le_refl _) _).alloc (by simp) _⟩
  ·have h2':(n==n')=false:=by simp [h2]
   clear h2
   go_enter Tryz.func26,Tryz.ntmps26
   go_wp2
   go_ret
   exact ⟨by simp [h2'],((Below.refl _ _).alloc (Nat.le_refl _) _).alloc (by simp) _⟩
 ·have h1':(k==k')=false:=by simp [h1]
  clear h1
  go_enter Tryz.func26,Tryz.ntmps26
  go_wp2
  go_ret
  exact ⟨by simp [h1'],((Below.refl _ _).alloc (Nat.le_refl _) _).alloc (by simp) _⟩
end Go.Proofs.YtjdgejfhnfnmgaaGreatDoor
namespace Go.Proofs.YtjdgejfhnfnmgaaGreatDoor
open Go.RowKit
end Go.Proofs.YtjdgejfhnfnmgaaGreatDoor
namespace Go.Proofs.YtjdgejfhnfnmgaaGreatDoor.Ax
open Go.RowKit Go.Deep
section
variable {w:World} {ok:Nat→Prop}
theorem RdL.len':∀ {ts:List T} {cs:List Value},RdL w ok ts cs→cs.length=ts.length
 | [],[],_=>rfl
 | _ :: _,_ :: _,h=>by unfold RdL at h;rw [List.length_cons,List.length_cons,RdL.len' h.2]
 | [],_ :: _,h=>by unfold RdL at h;exact h.elim
 | _ :: _,[],h=>by unfold RdL at h;exact h.elim
end
section
variable {P:Program} {N:Nat} {t:TypeId}
end
theorem Sp.law {P:Program} {f:FuncId} {args:List A} {w:World} {vs:List Value} (h:Sp P f args (.one (.t true (.lit (.bool true)))) []) (hG:GW w) (hvs:RdAs w (fun b=>b < w.heap.size) args vs):Calls P f vs.toArray w fun e w'=>e=.returned (.bool true)∧Below w.heap.size w w' :=
 (h.calls w (fun b=>b < w.heap.size) (fun _ h=>h) vs hG hvs).mono fun e w'=>by
  rintro ⟨x,ρ,rfl,hb,_,_,_,hx,_⟩
  unfold RdV RdC RdT at hx
  exact ⟨by rw [hx.1],hb⟩
section
variable {w:World} {ok:Nat→Prop}
theorem rdAs_nil:RdAs w ok [] []:=by unfold RdAs;trivial
theorem rdAs_cons {a:A} {as_:List A} {v:Value} {vs:List Value} (h:RdA w ok a v) (h':RdAs w ok as_ vs):RdAs w ok (a :: as_) (v :: vs):=by unfold RdAs;exact ⟨h,h'⟩
theorem rdA_lit {v:Value} (h:v.oneCell'=true):RdA w ok (.one (.lit v)) v:=by unfold RdA RdT;exact ⟨rfl,h⟩
end
end Go.Proofs.YtjdgejfhnfnmgaaGreatDoor.Ax
namespace Go.Proofs.YtjdgejfhnfnmgaaGreatDoor.Ax
open Go.RowKit
def goodV (v:Vl):Prop:=(-9223372036854775808≤v.k∧v.k≤9223372036854775807)∧(-9223372036854775808≤v.n∧v.n≤9223372036854775807)∧v.s.size≤140737488351232
end Go.Proofs.YtjdgejfhnfnmgaaGreatDoor.Ax
namespace Go.Proofs.YtjdgejfhnfnmgaaGreatDoor.Ax
open Go.RowKit
inductive goodE:Ex→Prop
 | mk {k:Int} {v:Vl} {nm:ByteArray} {ar:List Ex} (hk:-9223372036854775808≤k∧k≤9223372036854775807) (hv:goodV v) (hn:nm.size≤140737488351232) (hl:ar.length * 80≤140737488351232∧ar.length≤maxLen) (ha:∀ a ∈ ar,goodE a):goodE (.mk k v nm ar)
end Go.Proofs.YtjdgejfhnfnmgaaGreatDoor.Ax
namespace Go.Proofs.YtjdgejfhnfnmgaaGreatDoor
open Go.RowKit
theorem letter_any (c:UInt8) (w:World) :
  Calls Tryz.prog 91 #[.int .u8 c.toNat] w fun e w'=>e=.returned (.bool (letterB c))∧w=w':=by
 by_cases h1:97≤(c.toNat:Int) <;> by_cases h2:(c.toNat:Int)≤122
 all_goals
  try (exfalso;omega)
 all_goals
  go_enter Tryz.func91,Tryz.ntmps91
  go_wp2
  go_ret
  exact ⟨by simp [letterB,h1,h2],rfl⟩
theorem digit_any (c:UInt8) (w:World) :
  Calls Tryz.prog 93 #[.int .u8 c.toNat] w fun e w'=>e=.returned (.bool (digitB c))∧w=w':=by
 by_cases h1:48≤(c.toNat:Int) <;> by_cases h2:(c.toNat:Int)≤57
 all_goals
  try (exfalso;omega)
 all_goals
  go_enter Tryz.func93,Tryz.ntmps93
  go_wp2
  go_ret
  exact ⟨by simp [digitB,h1,h2],rfl⟩
theorem tquot1_any (c:UInt8) (w:World) :
  Calls Tryz.prog 139 #[.int .u8 c.toNat] w fun e w'=>e=.returned (.bool (quotB c))∧w=w':=by
 by_cases h1:32≤(c.toNat:Int) <;> by_cases h2:(c.toNat:Int)≤126 <;> by_cases h3:(c.toNat:Int)=39
 all_goals
  try (exfalso;omega)
 all_goals
  have H3:=Lib.hid h3
  try have h4:((c.toNat:Int) != 39)=true:=by simpa using h3
  try have h4:((c.toNat:Int) != 39)=false:=by simpa using h3
  clear h3
  go_enter Tryz.func139,Tryz.ntmps139
  go_wp2
  go_ret
  exact ⟨by simp [quotB,h1,h2,H3.out],rfl⟩
theorem blank_any (c:UInt8) (w:World) :
  Calls Tryz.prog 90 #[.int .u8 c.toNat] w fun e w'=>e=.returned (.bool (blankB c))∧w=w':=by
 have hb:blankB c=(((c.toNat:Int)==32) || ((c.toNat:Int)==9) || ((c.toNat:Int)==10)):=rfl
 have HB:=Lib.hid hb
 clear hb
 rcases h1:((c.toNat:Int)==32) with _ | _ <;> rcases h2:((c.toNat:Int)==9) with _ | _ <;> rcases h3:((c.toNat:Int)==10) with _ | _
 all_goals
  rw [h1,h2,h3] at HB
  go_enter Tryz.func90,Tryz.ntmps90
  go_wp2
  go_ret
  exact ⟨by rw [HB.out];rfl,rfl⟩
theorem word_any (c:UInt8) (w:World) :
  Calls Tryz.prog 92 #[.int .u8 c.toNat] w fun e w'=>e=.returned (.bool (wordB c))∧w=w':=by
 have HB:Hid (wordB c=(letterB c || digitB c)):=Lib.hid rfl
 have H1:=Lib.hid (letter_any c)
 have H2:=Lib.hid (digit_any c)
 generalize letterB c=a at *
 generalize digitB c=b at *
 cases a
 ·go_enter Tryz.func92,Tryz.ntmps92
  go_wp2_with fail
  refine (H1.out w).mono ?_
  rintro e w1 ⟨rfl,rfl⟩
  go_wp2_with fail
  refine (H2.out w).mono ?_
  rintro e w1 ⟨rfl,rfl⟩
  go_wp2_with fail
  go_ret
  exact ⟨by rw [HB.out];simp,rfl⟩
 ·go_enter Tryz.func92,Tryz.ntmps92
  go_wp2_with fail
  refine (H1.out w).mono ?_
  rintro e w1 ⟨rfl,rfl⟩
  go_wp2_with fail
  go_ret
  exact ⟨by rw [HB.out];simp,rfl⟩
end Go.Proofs.YtjdgejfhnfnmgaaGreatDoor
namespace Go.Proofs.YtjdgejfhnfnmgaaGreatDoor
open Go.RowKit
set_option maxHeartbeats 2000000 in
theorem run_blank (s:ByteArray) (p g:Nat) (w:World) (hp:p≤s.size) (hs:s.size≤9223372036854775807) (hg:Blk w g 80 #[.string s,.int .i64 p]) :
  Calls Tryz.prog 89 #[.pointer (some ⟨g,0,none⟩),.func (.func 90) #[] #[]] w fun e w'=>e=.returned (.string (s.extract p (p + runN blankB (s.data.toList.drop p)))) ∧
   Blk w' g 80 #[.string s,.int .i64 ((p + runN blankB (s.data.toList.drop p):Nat):Int)]∧w.grownBy w' (some g):=by
 obtain ⟨c0,c1,f0,f1,hgl⟩:=hg.two
 have hR:=runN_le blankB (s.data.toList.drop p)
 rw [List.length_drop,Array.length_toList,show s.data.size=s.size from rfl] at hR
 have HD:=Lib.hid (fun k (h:k < s.size)=>drop_at s k h)
 obtain ⟨z,hz⟩:∃ z,z=p + runN blankB (s.data.toList.drop p):=⟨_,rfl⟩
 have hz1:p≤z:=by omega
 have hz2:z≤s.size:=by omega
 have HN:=Lib.hid hz
 rw [← hz]
 clear hz hR
 go_enter Tryz.func89,Tryz.ntmps89
 go_wp2_with fail
 go_loopg [] (z - p) (fun m wr=>∃ j:Nat,m=z - j∧p≤j∧j≤z∧j + runN blankB (s.data.toList.drop j)=z∧Blk wr g 80 #[.string s,.int .i64 j]∧w.grownBy wr (some g))
 case atStart=>exact ⟨p,rfl,Nat.le_refl _,hz1,HN.out.symm,hg,World.grownBy.refl _ _⟩
 case round =>
  clear c0 c1 f0 f1 hgl
  obtain ⟨j,rfl,hpj,hjz,hrun,hg,ht⟩:=hrel
  obtain ⟨c0,c1,f0,f1,hgl⟩:=hg.two
  have HRN:=Lib.hid hrun
  clear hrun
  by_cases hlt:j < s.size
  ·have HC:=Lib.hid (fun W=>blank_any s[j] W)
   by_cases hq:blankB s[j]=true
   ·have hk1:j + 1≤z∧(j + 1) + runN blankB (s.data.toList.drop (j + 1))=z:=by
     have h1:=HRN.out
     rw [HD.out j hlt,runN,if_pos hq] at h1
     omega
    have HK:=Lib.hid hk1
    rw [hq] at HC
    clear hq hk1
    go_wp2_with fail
    go_quiet ((go_at_call 90;exact Calls.quiet_of_same ((HC.out _).mono fun _ _ h=>⟨h.1,h.2.symm⟩)))
    go_wp2_with fail
    go_roundg (z - (j + 1))
    case rel=>exact ⟨j + 1,rfl,by omega,HK.out.1,HK.out.2,by rw [show ((j + 1:Nat):Int)=(j:Int) + 1 from by omega];exact (hg.put 1 _),turn_drewN (turn_put ht 1 _) _⟩
    case measure=>have:=HK.out.1;omega
   ·have hq':blankB s[j]=false:=by simpa using hq
    have hk0:j=z:=by
     have h1:=HRN.out
     rw [HD.out j hlt,runN,if_neg hq] at h1
     omega
    rw [hq'] at HC
    clear hq hq'
    subst hk0
    go_wp2_with fail
    go_quiet ((go_at_call 90;exact Calls.quiet_of_same ((HC.out _).mono fun _ _ h=>⟨h.1,h.2.symm⟩)))
    go_wp2_with fail
    go_quiet (fail)
    go_wp2_with fail
    go_ret
    exact ⟨rfl,hg,turn_drewN (turn_drewN ht _) _⟩
  ·have hk0:j=z:=by omega
   subst hk0
   have hld:decide (j < s.size)=false:=by simpa using hlt
   go_wp2_with fail
   go_quiet (fail)
   go_wp2_with fail
   go_quiet (fail)
   go_wp2_with fail
   go_ret
   exact ⟨rfl,hg,turn_drewN (turn_drewN ht _) _⟩
set_option maxHeartbeats 2000000 in
theorem run_word (s:ByteArray) (p g:Nat) (w:World) (hp:p≤s.size) (hs:s.size≤9223372036854775807) (hg:Blk w g 80 #[.string s,.int .i64 p]) :
  Calls Tryz.prog 89 #[.pointer (some ⟨g,0,none⟩),.func (.func 92) #[] #[]] w fun e w'=>e=.returned (.string (s.extract p (p + runN wordB (s.data.toList.drop p)))) ∧
   Blk w' g 80 #[.string s,.int .i64 ((p + runN wordB (s.data.toList.drop p):Nat):Int)]∧w.grownBy w' (some g):=by
 obtain ⟨c0,c1,f0,f1,hgl⟩:=hg.two
 have hR:=runN_le wordB (s.data.toList.drop p)
 rw [List.length_drop,Array.length_toList,show s.data.size=s.size from rfl] at hR
 have HD:=Lib.hid (fun k (h:k < s.size)=>drop_at s k h)
 obtain ⟨z,hz⟩:∃ z,z=p + runN wordB (s.data.toList.drop p):=⟨_,rfl⟩
 have hz1:p≤z:=by omega
 have hz2:z≤s.size:=by omega
 have HN:=Lib.hid hz
 rw [← hz]
 clear hz hR
 go_enter Tryz.func89,Tryz.ntmps89
 go_wp2_with fail
 go_loopg [] (z - p) (fun m wr=>∃ j:Nat,m=z - j∧p≤j∧j≤z∧j + runN wordB (s.data.toList.drop j)=z∧Blk wr g 80 #[.string s,.int .i64 j]∧w.grownBy wr (some g))
 case atStart=>exact ⟨p,rfl,Nat.le_refl _,hz1,HN.out.symm,hg,World.grownBy.refl _ _⟩
 case round =>
  clear c0 c1 f0 f1 hgl
  obtain ⟨j,rfl,hpj,hjz,hrun,hg,ht⟩:=hrel
  obtain ⟨c0,c1,f0,f1,hgl⟩:=hg.two
  have HRN:=Lib.hid hrun
  clear hrun
  by_cases hlt:j < s.size
  ·have HC:=Lib.hid (fun W=>word_any s[j] W)
   by_cases hq:wordB s[j]=true
   ·have hk1:j + 1≤z∧(j + 1) + runN wordB (s.data.toList.drop (j + 1))=z:=by
     have h1:=HRN.out
     rw [HD.out j hlt,runN,if_pos hq] at h1
     omega
    have HK:=Lib.hid hk1
    rw [hq] at HC
    clear hq hk1
    go_wp2_with fail
    go_quiet ((go_at_call 92;exact Calls.quiet_of_same ((HC.out _).mono fun _ _ h=>⟨h.1,h.2.symm⟩)))
    go_wp2_with fail
    go_roundg (z - (j + 1))
    case rel=>exact ⟨j + 1,rfl,by omega,HK.out.1,HK.out.2,by rw [show ((j + 1:Nat):Int)=(j:Int) + 1 from by omega];exact (hg.put 1 _),turn_drewN (turn_put ht 1 _) _⟩
    case measure=>have:=HK.out.1;omega
   ·have hq':wordB s[j]=false:=by simpa using hq
    have hk0:j=z:=by
     have h1:=HRN.out
     rw [HD.out j hlt,runN,if_neg hq] at h1
     omega
    rw [hq'] at HC
    clear hq hq'
    subst hk0
    go_wp2_with fail
    go_quiet ((go_at_call 92;exact Calls.quiet_of_same ((HC.out _).mono fun _ _ h=>⟨h.1,h.2.symm⟩)))
    go_wp2_with fail
    go_quiet (fail)
    go_wp2_with fail
    go_ret
    exact ⟨rfl,hg,turn_drewN (turn_drewN ht _) _⟩
  ·have hk0:j=z:=by omega
   subst hk0
   have hld:decide (j < s.size)=false:=by simpa using hlt
   go_wp2_with fail
   go_quiet (fail)
   go_wp2_with fail
   go_quiet (fail)
   go_wp2_with fail
   go_ret
   exact ⟨rfl,hg,turn_drewN (turn_drewN ht _) _⟩
set_option maxHeartbeats 2000000 in
theorem run_digit (s:ByteArray) (p g:Nat) (w:World) (hp:p≤s.size) (hs:s.size≤9223372036854775807) (hg:Blk w g 80 #[.string s,.int .i64 p]) :
  Calls Tryz.prog 89 #[.pointer (some ⟨g,0,none⟩),.func (.func 93) #[] #[]] w fun e w'=>e=.returned (.string (s.extract p (p + runN digitB (s.data.toList.drop p)))) ∧
   Blk w' g 80 #[.string s,.int .i64 ((p + runN digitB (s.data.toList.drop p):Nat):Int)]∧w.grownBy w' (some g):=by
 obtain ⟨c0,c1,f0,f1,hgl⟩:=hg.two
 have hR:=runN_le digitB (s.data.toList.drop p)
 rw [List.length_drop,Array.length_toList,show s.data.size=s.size from rfl] at hR
 have HD:=Lib.hid (fun k (h:k < s.size)=>drop_at s k h)
 obtain ⟨z,hz⟩:∃ z,z=p + runN digitB (s.data.toList.drop p):=⟨_,rfl⟩
 have hz1:p≤z:=by omega
 have hz2:z≤s.size:=by omega
 have HN:=Lib.hid hz
 rw [← hz]
 clear hz hR
 go_enter Tryz.func89,Tryz.ntmps89
 go_wp2_with fail
 go_loopg [] (z - p) (fun m wr=>∃ j:Nat,m=z - j∧p≤j∧j≤z∧j + runN digitB (s.data.toList.drop j)=z∧Blk wr g 80 #[.string s,.int .i64 j]∧w.grownBy wr (some g))
 case atStart=>exact ⟨p,rfl,Nat.le_refl _,hz1,HN.out.symm,hg,World.grownBy.refl _ _⟩
 case round =>
  clear c0 c1 f0 f1 hgl
  obtain ⟨j,rfl,hpj,hjz,hrun,hg,ht⟩:=hrel
  obtain ⟨c0,c1,f0,f1,hgl⟩:=hg.two
  have HRN:=Lib.hid hrun
  clear hrun
  by_cases hlt:j < s.size
  ·have HC:=Lib.hid (fun W=>digit_any s[j] W)
   by_cases hq:digitB s[j]=true
   ·have hk1:j + 1≤z∧(j + 1) + runN digitB (s.data.toList.drop (j + 1))=z:=by
     have h1:=HRN.out
     rw [HD.out j hlt,runN,if_pos hq] at h1
     omega
    have HK:=Lib.hid hk1
    rw [hq] at HC
    clear hq hk1
    go_wp2_with fail
    go_quiet ((go_at_call 93;exact Calls.quiet_of_same ((HC.out _).mono fun _ _ h=>⟨h.1,h.2.symm⟩)))
    go_wp2_with fail
    go_roundg (z - (j + 1))
    case rel=>exact ⟨j + 1,rfl,by omega,HK.out.1,HK.out.2,by rw [show ((j + 1:Nat):Int)=(j:Int) + 1 from by omega];exact (hg.put 1 _),turn_drewN (turn_put ht 1 _) _⟩
    case measure=>have:=HK.out.1;omega
   ·have hq':digitB s[j]=false:=by simpa using hq
    have hk0:j=z:=by
     have h1:=HRN.out
     rw [HD.out j hlt,runN,if_neg hq] at h1
     omega
    rw [hq'] at HC
    clear hq hq'
    subst hk0
    go_wp2_with fail
    go_quiet ((go_at_call 93;exact Calls.quiet_of_same ((HC.out _).mono fun _ _ h=>⟨h.1,h.2.symm⟩)))
    go_wp2_with fail
    go_quiet (fail)
    go_wp2_with fail
    go_ret
    exact ⟨rfl,hg,turn_drewN (turn_drewN ht _) _⟩
  ·have hk0:j=z:=by omega
   subst hk0
   have hld:decide (j < s.size)=false:=by simpa using hlt
   go_wp2_with fail
   go_quiet (fail)
   go_wp2_with fail
   go_quiet (fail)
   go_wp2_with fail
   go_ret
   exact ⟨rfl,hg,turn_drewN (turn_drewN ht _) _⟩
set_option maxHeartbeats 2000000 in
theorem run_quot (s:ByteArray) (p g:Nat) (w:World) (hp:p≤s.size) (hs:s.size≤9223372036854775807) (hg:Blk w g 80 #[.string s,.int .i64 p]) :
  Calls Tryz.prog 89 #[.pointer (some ⟨g,0,none⟩),.func (.func 139) #[] #[]] w fun e w'=>e=.returned (.string (s.extract p (p + runN quotB (s.data.toList.drop p)))) ∧
   Blk w' g 80 #[.string s,.int .i64 ((p + runN quotB (s.data.toList.drop p):Nat):Int)]∧w.grownBy w' (some g):=by
 obtain ⟨c0,c1,f0,f1,hgl⟩:=hg.two
 have hR:=runN_le quotB (s.data.toList.drop p)
 rw [List.length_drop,Array.length_toList,show s.data.size=s.size from rfl] at hR
 have HD:=Lib.hid (fun k (h:k < s.size)=>drop_at s k h)
 obtain ⟨z,hz⟩:∃ z,z=p + runN quotB (s.data.toList.drop p):=⟨_,rfl⟩
 have hz1:p≤z:=by omega
 have hz2:z≤s.size:=by omega
 have HN:=Lib.hid hz
 rw [← hz]
 clear hz hR
 go_enter Tryz.func89,Tryz.ntmps89
 go_wp2_with fail
 go_loopg [] (z - p) (fun m wr=>∃ j:Nat,m=z - j∧p≤j∧j≤z∧j + runN quotB (s.data.toList.drop j)=z∧Blk wr g 80 #[.string s,.int .i64 j]∧w.grownBy wr (some g))
 case atStart=>exact ⟨p,rfl,Nat.le_refl _,hz1,HN.out.symm,hg,World.grownBy.refl _ _⟩
 case round =>
  clear c0 c1 f0 f1 hgl
  obtain ⟨j,rfl,hpj,hjz,hrun,hg,ht⟩:=hrel
  obtain ⟨c0,c1,f0,f1,hgl⟩:=hg.two
  have HRN:=Lib.hid hrun
  clear hrun
  by_cases hlt:j < s.size
  ·have HC:=Lib.hid (fun W=>tquot1_any s[j] W)
   by_cases hq:quotB s[j]=true
   ·have hk1:j + 1≤z∧(j + 1) + runN quotB (s.data.toList.drop (j + 1))=z:=by
     have h1:=HRN.out
     rw [HD.out j hlt,runN,if_pos hq] at h1
     omega
    have HK:=Lib.hid hk1
    rw [hq] at HC
    clear hq hk1
    go_wp2_with fail
    go_quiet ((go_at_call 139;exact Calls.quiet_of_same ((HC.out _).mono fun _ _ h=>⟨h.1,h.2.symm⟩)))
    go_wp2_with fail
    go_roundg (z - (j + 1))
    case rel=>exact ⟨j + 1,rfl,by omega,HK.out.1,HK.out.2,by rw [show ((j + 1:Nat):Int)=(j:Int) + 1 from by omega];exact (hg.put 1 _),turn_drewN (turn_put ht 1 _) _⟩
    case measure=>have:=HK.out.1;omega
   ·have hq':quotB s[j]=false:=by simpa using hq
    have hk0:j=z:=by
     have h1:=HRN.out
     rw [HD.out j hlt,runN,if_neg hq] at h1
     omega
    rw [hq'] at HC
    clear hq hq'
    subst hk0
    go_wp2_with fail
    go_quiet ((go_at_call 139;exact Calls.quiet_of_same ((HC.out _).mono fun _ _ h=>⟨h.1,h.2.symm⟩)))
    go_wp2_with fail
    go_quiet (fail)
    go_wp2_with fail
    go_ret
    exact ⟨rfl,hg,turn_drewN (turn_drewN ht _) _⟩
  ·have hk0:j=z:=by omega
   subst hk0
   have hld:decide (j < s.size)=false:=by simpa using hlt
   go_wp2_with fail
   go_quiet (fail)
   go_wp2_with fail
   go_quiet (fail)
   go_wp2_with fail
   go_ret
   exact ⟨rfl,hg,turn_drewN (turn_drewN ht _) _⟩
end Go.Proofs.YtjdgejfhnfnmgaaGreatDoor
namespace Go.Proofs.YtjdgejfhnfnmgaaGreatDoor
open Go.RowKit
set_option maxHeartbeats 1000000 in
theorem skip_any (s:ByteArray) (p g:Nat) (w:World) (hp:p≤s.size) (hs:s.size≤9223372036854775807) (hg:Blk w g 80 #[.string s,.int .i64 p]) :
  Calls Tryz.prog 52 #[.pointer (some ⟨g,0,none⟩)] w fun e w'=>e=.returned (.tuple #[]) ∧
   Blk w' g 80 #[.string s,.int .i64 ((p + runN blankB (s.data.toList.drop p):Nat):Int)]∧w.grownBy w' (some g):=by
 go_enter Tryz.func52,Tryz.ntmps52
 go_wp2_with fail
 refine (run_blank s p g w hp hs hg).mono ?_
 rintro e w1 ⟨rfl,hg1,ht1⟩
 go_wp2_with fail
 go_end0
 exact ⟨rfl,hg1,ht1⟩
theorem quotEnds_at (s:ByteArray) (p n:Nat) (hn:n=runN quotB (s.data.toList.drop (p + 1))):quotEnds (s.data.toList.drop (p + 1))=if h:p + 1 + n < s.size then s[p + 1 + n]==39 else false:=by
 simp only [quotEnds,quotN,← hn,List.drop_drop]
 split
 ·rename_i x l hx
  have hlt:p + 1 + n < s.size:=by
   rcases Nat.lt_or_ge (p + 1 + n) s.size with h | h
   ·exact h
   ·rw [drop_off s (p + 1 + n) (by omega)] at hx;cases hx
  rw [dif_pos hlt]
  rw [drop_at s (p + 1 + n) hlt] at hx
  injection hx with h1 _
  rw [h1]
 ·rename_i hx
  rw [dif_neg]
  intro hlt
  rw [drop_at s (p + 1 + n) hlt] at hx
  cases hx
theorem quoted_text (s:ByteArray) (p n:Nat) (hp:p < s.size) (h39:s[p]=39) (hz:p + 1 + n < s.size) (hzz:s[p + 1 + n]=39) :
  (⟨#[39]⟩++s.extract (p + 1) (p + 1 + n))++⟨#[39]⟩=s.extract p (p + 1 + n + 1):=by
 have e1:(⟨#[39]⟩:ByteArray)=bs [39]:=rfl
 rw [e1,extract_mid s (p + 1) n,bs_append,bs_append,show p + 1 + n + 1=p + (n + 2) by omega,extract_mid s p (n + 2)]
 congr 1
 rw [drop_at s p hp,h39,List.take_succ_cons]
 simp only [List.cons_append,List.cons.injEq,true_and]
 rw [List.take_add_one,List.getElem?_drop,List.getElem?_eq_getElem (by simpa using hz)]
 have:s.data.toList[p + 1 + n]'(by simpa using hz)=39:=hzz
 rw [this]
 rfl
theorem bars_text (s:ByteArray) (p:Nat) (hp:p < s.size) (h:bars (s[p] :: s.data.toList.drop (p + 1))=true):p + 2≤s.size∧s.extract p (p + 2)=⟨#[124,124]⟩:=by
 rw [← drop_at s p hp] at h
 have h1:[124,124] <+: s.data.toList.drop p:=List.isPrefixOf_iff_prefix.1 h
 obtain ⟨r,hr⟩:=h1
 have hl:(s.data.toList.drop p).length=s.size - p:=by rw [List.length_drop,Array.length_toList];rfl
 rw [← hr] at hl
 simp at hl
 refine ⟨by omega,?_⟩
 rw [extract_mid s p 2,← hr]
 rfl
def QuotedPost (s:ByteArray) (p g:Nat) (w:World) (e:Ending) (w':World):Prop :=
 ∃ (t:ByteArray) (x:Nat) (j:Nat),e=.returned (.tuple #[.string t,.int .i64 x])∧j≤s.size∧Blk w' g 80 #[.string s,.int .i64 j]∧w.grownBy w' (some g) ∧
  (quotEnds (s.data.toList.drop (p + 1))=false→x=1) ∧
  (quotEnds (s.data.toList.drop (p + 1))=true→j=p + (quotN (s.data.toList.drop (p + 1)) + 2)∧x=(if 20 < quotN (s.data.toList.drop (p + 1)) then 2 else 0)∧(x=0→t=s.extract p (p + (quotN (s.data.toList.drop (p + 1)) + 2))))
set_option maxHeartbeats 2000000 in
theorem quoted_any (s:ByteArray) (p g:Nat) (w:World) (hp:p < s.size) (h39:s[p]=39) (hs:s.size≤2000) (hg:Blk w g 80 #[.string s,.int .i64 p]) :
  Calls Tryz.prog 94 #[.pointer (some ⟨g,0,none⟩)] w (QuotedPost s p g w):=by
 obtain ⟨c0,c1,f0,f1,hgl⟩:=hg.two
 have hR:=runN_le quotB (s.data.toList.drop (p + 1))
 rw [List.length_drop,Array.length_toList,show s.data.size=s.size from rfl] at hR
 obtain ⟨n,hn⟩:∃ n,n=runN quotB (s.data.toList.drop (p + 1)):=⟨_,rfl⟩
 have HE:=Lib.hid (quotEnds_at s p n hn)
 have HQ:Hid (quotN (s.data.toList.drop (p + 1))=n):=Lib.hid hn.symm
 have HX:=Lib.hid (fun hz hzz=>quoted_text s p n hp h39 hz hzz)
 have HC:=Lib.hid (run_quot s (p + 1) g (w.setCell ⟨g,1,none⟩ (.int .i64 ((p:Int) + 1))) (by omega) (by omega) (by exact (hg.put 1 (.int .i64 ((p:Int) + 1)))))
 rw [← hn] at HC hR
 obtain ⟨T,hT⟩:∃ T,T=s.extract (p + 1) (p + 1 + n):=⟨_,rfl⟩
 have hT1:T.size=n:=by rw [hT,ByteArray.size_extract];omega
 have hT2:T.size≤n:=by omega
 have hT3:n≤T.size:=by omega
 rw [← hT] at HC HX
 clear hT hT1 hn h39
 go_enter Tryz.func94,Tryz.ntmps94
 go_wp2_with fail
 refine HC.out.mono ?_
 rintro e w1 ⟨rfl,hg1,ht1⟩
 have ht1:=(turn_put (World.grownBy.refl w (some g)) 1 (.int .i64 ((p:Int) + 1))).trans ht1
 obtain ⟨d0,d1,e0,e1,hgl1⟩:=hg1.two
 clear c0 c1 f0 f1
 obtain ⟨z,hz⟩:∃ z,z=p + 1 + n:=⟨_,rfl⟩
 rw [← hz] at hg1 d1 HE HX
 have hz1:p + 1 + n≤z:=by omega
 have hz2:z≤p + 1 + n:=by omega
 clear hz
 by_cases hzs:z < s.size
 ·have hb:((z:Int)==(s.size:Int))=false:=by rw [beq_eq_false_iff_ne];omega
  by_cases hq:s[z].toNat=39
  ·have hb2:((s[z].toNat:Int) != 39)=false:=by simp [hq]
   have hE:quotEnds (s.data.toList.drop (p + 1))=true:=by rw [HE.out,dif_pos hzs,beq_iff_eq];exact UInt8.toNat_inj.1 hq
   have hqq:s[z]=39:=UInt8.toNat_inj.1 hq
   have HX:=Lib.hid (HX.out hzs hqq)
   have HEE:=Lib.hid hE
   clear hq hE hqq HE
   by_cases h20:20 < n
   all_goals
    go_wp2_with fail
    go_quiet (fail)
    go_wp2_with fail
    go_ret2
   ·refine ⟨_,2,z + 1,rfl,by omega,by exact (hg1.put 1 _),turn_drewN (turn_put ht1 1 _) _,(fun h=>by rw [HEE.out] at h;cases h),fun _=>⟨by rw [HQ.out];omega,by rw [HQ.out,if_pos h20],(fun h=>by cases h)⟩⟩
   ·refine ⟨_,0,z + 1,rfl,by omega,by exact (hg1.put 1 _),turn_drewN (turn_put ht1 1 _) _,(fun h=>by rw [HEE.out] at h;cases h),fun _=>⟨by rw [HQ.out];omega,by rw [HQ.out,if_neg h20],fun _=>?_⟩⟩
    rw [HQ.out,show p + (n + 2)=z + 1 by omega,← HX.out]
  ·have hb2:((s[z].toNat:Int) != 39)=true:=by simp;omega
   have hE:quotEnds (s.data.toList.drop (p + 1))=false:=by rw [HE.out,dif_pos hzs,beq_eq_false_iff_ne];exact fun h=>hq (by rw [h];rfl)
   have HEE:=Lib.hid hE
   clear hq hE HE
   go_wp2_with fail
   go_quiet (fail)
   go_wp2_with fail
   go_ret2
   exact ⟨_,1,z,rfl,by omega,hg1,turn_drewN ht1 _,fun _=>rfl,fun h=>by rw [HEE.out] at h;cases h⟩
 ·have hb:((z:Int)==(s.size:Int))=true:=by rw [beq_iff_eq];omega
  have hE:quotEnds (s.data.toList.drop (p + 1))=false:=by rw [HE.out,dif_neg hzs]
  have HEE:=Lib.hid hE
  clear hE HE
  go_wp2_with fail
  go_quiet (fail)
  go_wp2_with fail
  go_ret2
  exact ⟨_,1,z,rfl,by omega,hg1,turn_drewN ht1 _,fun _=>rfl,fun h=>by rw [HEE.out] at h;cases h⟩
end Go.Proofs.YtjdgejfhnfnmgaaGreatDoor
