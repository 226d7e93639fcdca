/-  -/
import Derived.Test.YtjdgejfhnfnmgaaGreatDoorS17
import Derived.Test.YtjdgejfhnfnmgaaGreatDoorS16
import Derived.Test.YtjdgejfhnfnmgaaGreatDoorS1
import Derived.Test.YtjdgejfhnfnmgaaGreatDoorShelf
import Derived.BigQuiet
import Derived.Handy
import Derived.Deep.QuietTactic
import Derived.Deep.LoopGhost
import Derived.Test.YtjdgejfhnfnmgaaGreatDoorRows
import Derived.Stop.LaidErr
import Derived.Lib.LaidTab
import Derived.MakeChecks
namespace Go.Proofs.YtjdgejfhnfnmgaaGreatDoor
open Go.RowKit
inductive PR (α:Type) where
 | ok (a:α) (k:Nat)
 | bad (k:Nat)
def PR.bind {α β:Type}:PR α→(α→Nat→PR β)→PR β
 | .ok a k,f=>f a k
 | .bad k,_=>.bad k
def nameR (l:List Vl) (k:Nat):PR ByteArray:=bif nameP l k then .ok (txP l k) (k + 1) else .bad k
def needR (l:List Vl) (s:ByteArray) (k:Nat):PR Unit:=bif takeB l s k then .ok () (k + 1) else .bad k
def wordR (l:List Vl) (L:List ByteArray) (k:Nat):PR Int:=bif decide (oneP l k L 0=-1) then .bad k else .ok (oneP l k L 0) (k + 1)
def numR (l:List Vl) (k:Nat):PR Int:=bif kindP l 2 k then .ok (numL (txP l k).data.toList) (k + 1) else .bad k
def mustR (l:List Vl) (k:Nat):PR Vl:=match vP l k with
 | .yes v k2=>.ok v k2
 | .bad k2=>.bad k2
 | .no=>.bad k
def typR (l:List Vl) (k:Nat):PR Int:=(wordR l [⟨#[105,110,116]⟩,⟨#[116,101,120,116]⟩,⟨#[98,111,111,108]⟩] k).bind fun i k=>.ok (1 + i) k
def colR (l:List Vl) (k:Nat):PR Col:=(nameR l k).bind fun s k=>(typR l k).bind fun t k=>.ok ⟨s,t⟩ k
def leafR (l:List Vl) (k:Nat):PR Ex:=match vP l k with
 | .yes v k2=>.ok (.mk 1 v .empty []) k2
 | .bad k2=>.bad k2
 | .no=>(nameR l k).bind fun s k=>.ok (.mk 2 Vl.zero s []) k
def pairR (l:List Vl) (E:Nat→PR Ex) (k:Nat):PR Ex:=(E k).bind fun a k =>
 bif takeB l wIs k then (needR l wNull (k + 1)).bind fun _ k=>.ok (.mk 4 Vl.zero .empty [a]) k
 else (wordR l wAnd7 k).bind fun i k=>(E k).bind fun b k=>.ok (.mk (5 + i) Vl.zero .empty [a,b]) k
def exR (l:List Vl):Nat→Nat→PR Ex
 | 0,k=>bif takeB l wOpen k || takeB l wNot k then .bad k else leafR l k
 | f + 1,k =>
  bif takeB l wOpen k then (pairR l (exR l f) (k + 1)).bind fun e k=>(needR l wShut k).bind fun _ k=>.ok e k
  else bif takeB l wNot k then (exR l f (k + 1)).bind fun e k=>.ok (.mk 3 Vl.zero .empty [e]) k
  else leafR l k
def Ex.vk:Ex→Vl | .mk _ v _ _=>v
def Ex.nm:Ex→ByteArray | .mk _ _ n _=>n
def Ex.ar:Ex→List Ex | .mk _ _ _ a=>a
def zE:Ex:=.mk 0 Vl.zero .empty []
def zCm:Cm:=⟨0,.empty,.empty,.empty,[],0,Vl.zero,[],[],zE,false,zE,.empty,0⟩
def whereR (l:List Vl) (k:Nat):PR (Bool × Ex):=bif takeB l ⟨#[119,104,101,114,101]⟩ k then (exR l 60 (k + 1)).bind fun e k=>.ok (false,e) k else .ok (true,zE) k
def moreR {α:Type} (l:List Vl) (E:Nat→PR α):Nat→Nat→PR (List α)
 | 0,k=>.ok [] k
 | f + 1,k=>bif takeB l ⟨#[44]⟩ k then (E (k + 1)).bind fun a k=>(moreR l E f k).bind fun r k=>.ok (a :: r) k else .ok [] k
def someR {α:Type} (l:List Vl) (E:Nat→PR α) (k:Nat):PR (List α):=(E k).bind fun a k=>(moreR l E (l.length + 1) k).bind fun r k=>.ok (a :: r) k
def listR {α:Type} (l:List Vl) (E:Nat→PR α) (k:Nat):PR (List α):=(needR l wOpen k).bind fun _ k=>(someR l E k).bind fun r k=>(needR l wShut k).bind fun _ k=>.ok r k
def alterR (l:List Vl) (k:Nat):PR Cm:=(needR l ⟨#[116,97,98,108,101]⟩ k).bind fun _ k=>(nameR l k).bind fun nm k=>(wordR l [⟨#[97,100,100]⟩,⟨#[100,114,111,112]⟩,⟨#[114,101,110,97,109,101]⟩,⟨#[114,101,116,121,112,101]⟩] k).bind fun i k =>
 bif i==0 then (colR l k).bind fun x k=>(needR l ⟨#[100,101,102,97,117,108,116]⟩ k).bind fun _ k=>(mustR l k).bind fun v k=>.ok { zCm with k:=3,name:=nm,column:=x.name,ty:=x.ty,v:=v } k
 else bif i==1 then (nameR l k).bind fun c k=>.ok { zCm with k:=4,name:=nm,column:=c } k
 else bif i==2 then
  bif takeB l ⟨#[116,111]⟩ k then (nameR l (k + 1)).bind fun o k=>.ok { zCm with k:=7,name:=nm,other:=o } k
  else (nameR l k).bind fun c k=>(needR l ⟨#[116,111]⟩ k).bind fun _ k=>(nameR l k).bind fun o k=>.ok { zCm with k:=5,name:=nm,column:=c,other:=o } k
 else (nameR l k).bind fun c k=>(typR l k).bind fun t k=>.ok { zCm with k:=6,name:=nm,column:=c,ty:=t } k
def createR (l:List Vl) (k:Nat):PR Cm:=(wordR l [⟨#[116,97,98,108,101]⟩,⟨#[105,110,100,101,120]⟩] k).bind fun i k=>(nameR l k).bind fun nm k =>
 bif i==0 then (listR l (colR l) k).bind fun r k=>.ok { zCm with k:=1,name:=nm,cols:=r } k
 else (needR l ⟨#[111,110]⟩ k).bind fun _ k=>(nameR l k).bind fun o k=>(needR l wOpen k).bind fun _ k=>(nameR l k).bind fun c k=>(needR l wShut k).bind fun _ k=>.ok { zCm with k:=8,name:=nm,other:=o,column:=c } k
def fieldsR (l:List Vl) (k:Nat):PR (List ByteArray):=bif takeB l ⟨#[42]⟩ k then .ok [] (k + 1) else someR l (nameR l) k
def orderR (l:List Vl) (k:Nat):PR ByteArray:=bif takeB l ⟨#[111,114,100,101,114]⟩ k then (needR l ⟨#[98,121]⟩ (k + 1)).bind fun _ k=>nameR l k else .ok .empty k
def limitR (l:List Vl) (k:Nat):PR Int:=bif takeB l ⟨#[108,105,109,105,116]⟩ k then numR l (k + 1) else .ok (-1) k
def selectsR (l:List Vl) (k:Nat):PR Cm:=(fieldsR l k).bind fun fs k=>(needR l ⟨#[102,114,111,109]⟩ k).bind fun _ k=>(nameR l k).bind fun nm k=>(whereR l k).bind fun w k=>(orderR l k).bind fun o k=>(limitR l k).bind fun n k =>
 .ok { zCm with k:=13,name:=nm,fields:=fs,all:=w.1,wh:=w.2,order:=o,limit:=n } k
def wCmds:List ByteArray:=[⟨#[99,114,101,97,116,101]⟩,⟨#[100,114,111,112]⟩,⟨#[97,108,116,101,114]⟩,⟨#[105,110,115,101,114,116]⟩,⟨#[100,101,108,101,116,101]⟩,⟨#[117,112,100,97,116,101]⟩,⟨#[115,101,108,101,99,116]⟩,⟨#[98,101,103,105,110]⟩,⟨#[99,111,109,109,105,116]⟩,⟨#[114,111,108,108,98,97,99,107]⟩]
def insertR (l:List Vl) (k:Nat):PR Cm:=(needR l ⟨#[105,110,116,111]⟩ k).bind fun _ k=>(nameR l k).bind fun nm k=>(needR l ⟨#[118,97,108,117,101,115]⟩ k).bind fun _ k=>(listR l (mustR l) k).bind fun r k=>.ok { zCm with k:=10,name:=nm,vals:=r } k
def deleteR (l:List Vl) (k:Nat):PR Cm:=(needR l ⟨#[102,114,111,109]⟩ k).bind fun _ k=>(nameR l k).bind fun nm k=>(whereR l k).bind fun w k=>.ok { zCm with k:=11,name:=nm,all:=w.1,wh:=w.2 } k
def updateR (l:List Vl) (k:Nat):PR Cm:=(nameR l k).bind fun nm k=>(needR l ⟨#[115,101,116]⟩ k).bind fun _ k=>(nameR l k).bind fun c k=>(needR l ⟨#[61]⟩ k).bind fun _ k=>(exR l 60 k).bind fun e k=>(whereR l k).bind fun w k=>.ok { zCm with k:=12,name:=nm,column:=c,ex:=e,all:=w.1,wh:=w.2 } k
def dropR (l:List Vl) (k:Nat):PR Cm:=(wordR l [⟨#[116,97,98,108,101]⟩,⟨#[105,110,100,101,120]⟩] k).bind fun i k=>(nameR l k).bind fun nm k=>.ok { zCm with k:=bif i==1 then 9 else 2,name:=nm } k
def bodyR (l:List Vl) (i:Int) (k:Nat):PR Cm :=
 bif i==0 then createR l k
 else bif i==1 then dropR l k
 else bif i==2 then alterR l k
 else bif i==3 then insertR l k
 else bif i==4 then deleteR l k
 else bif i==5 then updateR l k
 else bif i==6 then selectsR l k
 else bif i==7 then .ok { zCm with k:=14 } k
 else bif i==8 then .ok { zCm with k:=15 } k
 else .ok { zCm with k:=16 } k
def cmdR (l:List Vl):PR Cm:=(wordR l wCmds 0).bind fun i k=>(bodyR l i k).bind fun c k=>bif decide (k < l.length) then .bad k else .ok c k
end Go.Proofs.YtjdgejfhnfnmgaaGreatDoor
namespace Go.Proofs.YtjdgejfhnfnmgaaGreatDoor
open Go.RowKit
theorem PR.bind_assoc {α β γ:Type} (x:PR α) (f:α→Nat→PR β) (g:β→Nat→PR γ):(x.bind f).bind g=x.bind fun a k=>(f a k).bind g:=by cases x <;> rfl
theorem PR.bind_ok {α β:Type} {x:PR α} {f:α→Nat→PR β} {b:β} {k:Nat} (h:x.bind f=.ok b k):∃ a k',x=.ok a k'∧f a k'=.ok b k:=by
 cases x with
 | ok a k'=>exact ⟨a,k',rfl,h⟩
 | bad k'=>cases h
theorem takeB_end {l:List Vl} {s:ByteArray} {k:Nat} (h:l.length≤k):takeB l s k=false:=by unfold takeB;rw [List.getElem?_eq_none h]
theorem moreR_eq {α:Type} (l:List Vl) (E:Nat→PR α) (m k:Nat) (hm:l.length + 1≤k + m):moreR l E m k=bif takeB l ⟨#[44]⟩ k then (E (k + 1)).bind fun a k=>(moreR l E (m - 1) k).bind fun r k=>.ok (a :: r) k else .ok [] k:=by
 cases m with
 | zero=>rw [takeB_end (by omega)];rfl
 | succ m=>rfl
theorem nameR_ge {l:List Vl} {k:Nat} {s:ByteArray} {k2:Nat} (h:nameR l k=.ok s k2):k < k2:=by
 unfold nameR at h
 cases hb:nameP l k with
 | true=>rw [hb] at h;cases h;omega
 | false=>rw [hb] at h;cases h
theorem wordR_ge {l:List Vl} {L:List ByteArray} {k:Nat} {i:Int} {k2:Nat} (h:wordR l L k=.ok i k2):k < k2:=by
 unfold wordR at h
 cases hb:decide (oneP l k L 0=-1) with
 | true=>rw [hb] at h;cases h
 | false=>rw [hb] at h;cases h;omega
theorem colR_ge {l:List Vl} {k:Nat} {c:Col} {k2:Nat} (h:colR l k=.ok c k2):k < k2:=by
 obtain ⟨s,k3,h1,h2⟩:=PR.bind_ok h
 obtain ⟨t,k4,h3,h4⟩:=PR.bind_ok h2
 obtain ⟨i,k5,h5,h6⟩:=PR.bind_ok h3
 have:=nameR_ge h1
 have:=wordR_ge h5
 cases h6
 cases h4
 omega
theorem vP_ge {l:List Vl} {k:Nat} {v:Vl} {k2:Nat} (h:vP l k=.yes v k2):k < k2:=by
 unfold vP at h
 repeat' split at h
 all_goals first
  | (cases h;omega)
  | cases h
theorem mustR_ge {l:List Vl} {k:Nat} {v:Vl} {k2:Nat} (h:mustR l k=.ok v k2):k < k2:=by
 unfold mustR at h
 split at h
 ·rename_i hv;cases h;exact vP_ge hv
 ·cases h
 ·cases h
end Go.Proofs.YtjdgejfhnfnmgaaGreatDoor
namespace Go.Proofs.YtjdgejfhnfnmgaaGreatDoor
open Go.RowKit
end Go.Proofs.YtjdgejfhnfnmgaaGreatDoor
namespace Go.Proofs.YtjdgejfhnfnmgaaGreatDoor
open Go.RowKit
end Go.Proofs.YtjdgejfhnfnmgaaGreatDoor
namespace Go.Proofs.YtjdgejfhnfnmgaaGreatDoor
open Go.RowKit
end Go.Proofs.YtjdgejfhnfnmgaaGreatDoor
namespace Go.Proofs.YtjdgejfhnfnmgaaGreatDoor
open Go.RowKit
end Go.Proofs.YtjdgejfhnfnmgaaGreatDoor
namespace Go.Proofs.YtjdgejfhnfnmgaaGreatDoor.Ax
open Go.RowKit
theorem tab_data:(Rows.laid_internal_strconv_uint64pow10:DataW Unit)=Lib.tabData .u64 Lib.pow10Tab:=by rfl
abbrev laidL5 : List (String × DataW Unit) := [("math/bits.deBruijn32tab", Rows.laid_math_bits_deBruijn32tab), ("math/bits.deBruijn64tab", Rows.laid_math_bits_deBruijn64tab), ("internal/strconv.uint64pow10", Rows.laid_internal_strconv_uint64pow10), ("strconv.ErrRange", Rows.laid_strconv_ErrRange), ("strconv.ErrSyntax", Rows.laid_strconv_ErrSyntax)]
theorem gw_of_laid5 {W:World} (h:laidMetH Tryz.prog laidL5 W):GW W:=by
 rw [MakeChecks.laidMetH_plain _ _ _ (by kernel_rfl)] at h
 have h3:=h.tail.tail
 rw [show (Rows.laid_internal_strconv_uint64pow10:DataW Unit)=Lib.tabData .u64 Lib.pow10Tab from tab_data] at h3
 have hT : Lib.TabIs Tryz.prog W "internal/strconv.uint64pow10" .u64 Lib.pow10Tab :=
  Lib.tabIs_of_head (g:=1) (t:=161) (e:=149) (n:=20) (by kernel_rfl) (by kernel_rfl) (by kernel_rfl) (by kernel_rfl) (by kernel_rfl) (by kernel_rfl) h3
 have hlt:∀ {name:String} {g:Nat} {cs:Array Value},Tryz.prog.globalNamed name=some g→W.var? Tryz.prog name=some cs→g < W.heap.size:=fun {name g cs} hg hv=>by
  unfold World.var? at hv
  rw [hg] at hv
  simp only [Option.bind_some] at hv
  split at hv
  ·rename_i h
   exact (Array.getElem?_eq_some_iff.1 h).1
  ·cases hv
 have g1:=hlt (g:=1) (by kernel_rfl) hT
 exact ⟨by unfold NG;omega,hT⟩
end Go.Proofs.YtjdgejfhnfnmgaaGreatDoor.Ax
