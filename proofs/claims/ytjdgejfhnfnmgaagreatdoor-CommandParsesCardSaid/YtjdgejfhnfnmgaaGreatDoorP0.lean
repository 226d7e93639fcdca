/-  -/
import Derived.WalkKit
import Derived.Lib.Strings
import Derived.Deep.Draws
import Derived.Deep.AppendLies
import Derived.Maps.AppendAt
import Derived.Lib.Hide
import Derived.Test.YtjdgejfhnfnmgaaGreatDoorRows
import Derived.Laws.BytesArg
import Derived.Lib.AppendStr
import Derived.OwnWalk
import Derived.Laws.BitsAllLaws
import Derived.Laws.BitsLemmas
import Derived.ProofKit
import Derived.OpenShut
import Derived.ChangeOld
import Derived.ChangeArms
import Derived.Below
import Derived.Deep.Slices
import Derived.SizedLaws
namespace Go.Proofs.YtjdgejfhnfnmgaaGreatDoor
open Go.RowKit
structure Vl where
 k:Int
 n:Int
 s:ByteArray
abbrev Vl.cells (v:Vl):List Value:=[.int .i64 v.k,.int .i64 v.n,.string v.s]
abbrev Vl.val (v:Vl):Value:=.agg #[.int .i64 v.k,.int .i64 v.n,.string v.s]
def Vl.zero:Vl:=⟨0,0,.empty⟩
def quotB (c:UInt8):Bool:=decide (32≤(c.toNat:Int)) && decide ((c.toNat:Int)≤126) && !((c.toNat:Int)==39)
def quotS (s:ByteArray):Bool:=s.data.toList.all quotB && decide (s.size≤20)
def isInt (n:Int):Bool:=decide (-999999999≤n) && decide (n≤999999999)
def emptyS (s:ByteArray):Bool:=s.toList.isEmpty
def Vl.fine (v:Vl):Bool :=
 if v.k=0 then (v.n==0) && emptyS v.s
 else if v.k=1 then isInt v.n && emptyS v.s
 else if v.k=2 then (v.n==0) && quotS v.s
 else (decide (0≤v.n) && decide (v.n≤1)) && emptyS v.s
def Vl.chk (v:Vl):Int:=if 0≤v.k∧v.k≤3 then (if v.fine=true then 0 else 3) else 7
def Vl.same (a b:Vl):Bool:=(a.k==b.k) && (a.n==b.n) && (a.s.toList==b.s.toList)
theorem Vl.same_iff (a b:Vl):a.same b=true ↔ a=b:=by
 obtain ⟨k,n,s⟩:=a
 obtain ⟨k',n',s'⟩:=b
 simp only [Vl.same,Bool.and_eq_true,beq_iff_eq,Vl.mk.injEq,ByteArray.toList_eq,and_assoc]
 refine and_congr_right fun _=>and_congr_right fun _=>⟨fun h=>?_,fun h=>by rw [h]⟩
 obtain ⟨⟨l⟩⟩:=s
 obtain ⟨⟨l'⟩⟩:=s'
 simp only at h
 rw [h]
def le4 (x:Int):List UInt8:=[UInt8.ofNat (x % 256).toNat,UInt8.ofNat (x / 256 % 256).toNat,UInt8.ofNat (x / 256 / 256 % 256).toNat,UInt8.ofNat (x / 256 / 256 / 256 % 256).toNat]
def Vl.enc (v:Vl):List UInt8 :=
 UInt8.ofNat v.k.toNat :: (if v.k=1 then le4 (v.n + 999999999) else if v.k=2 then UInt8.ofNat v.s.size :: v.s.data.toList else if v.k=3 then [UInt8.ofNat v.n.toNat] else [])
def bs (l:List UInt8):ByteArray:=⟨l.toArray⟩
theorem bs_size (l:List UInt8):(bs l).size=l.length:=by simp [bs,ByteArray.size]
theorem bs_data (l:List UInt8):(bs l).data.toList=l:=rfl
theorem bs_append (l r:List UInt8):bs l++bs r=bs (l++r):=ByteArray.mk_append_mk l r
theorem bs_of (s:ByteArray):s=bs s.data.toList:=rfl
theorem emptyS_eq (s:ByteArray) (h:emptyS s=true):s=.empty:=by
 rw [bs_of s]
 have:s.data.toList=[]:=by simpa [emptyS,ByteArray.toList_eq] using h
 rw [this];rfl
theorem Vl.right {v:Vl} (h:v.chk=0) :
  v=⟨0,0,.empty⟩ ∨ (∃ n,v=⟨1,n,.empty⟩∧-999999999≤n∧n≤999999999) ∨ (∃ s,v=⟨2,0,s⟩∧s.size≤20∧s.data.toList.all quotB=true) ∨ (∃ n,v=⟨3,n,.empty⟩∧0≤n∧n≤1):=by
 obtain ⟨k,n,s⟩:=v
 simp only [Vl.chk] at h
 split at h
 ·split at h
  ·rename_i hk hf
   simp only [Vl.fine] at hf
   have h4:k=0 ∨ k=1 ∨ k=2 ∨ k=3:=by omega
   rcases h4 with rfl | rfl | rfl | rfl
   ·simp at hf;left;rw [emptyS_eq s hf.2,hf.1]
   ·simp [isInt] at hf;right;left;exact ⟨n,by rw [emptyS_eq s hf.2],hf.1.1,hf.1.2⟩
   ·simp [quotS] at hf;right;right;left;exact ⟨s,by rw [hf.1],by omega,by simpa using hf.2.1⟩
   ·simp at hf;right;right;right;exact ⟨n,by rw [emptyS_eq s hf.2],hf.1.1,hf.1.2⟩
  ·cases h
 ·cases h
theorem extract_mid (S:ByteArray) (a n:Nat):S.extract a (a + n)=bs ((S.data.toList.drop a).take n):=by
 rw [bs_of (S.extract a (a + n)),Lib.extract_data]
 simp
theorem extract_end (S:ByteArray) (n:Nat):S.extract n S.size=bs (S.data.toList.drop n):=by
 rw [bs_of (S.extract n S.size),Lib.extract_data,List.take_of_length_le]
 simp
def cellsV (vs:List Vl):List Value:=vs.flatMap Vl.cells
theorem cellsV_len (vs:List Vl):(cellsV vs).length=vs.length * 3:=by
 induction vs with
 | nil=>rfl
 | cons x l ih=>simp only [cellsV,List.flatMap_cons,List.length_append] at *;simp [Vl.cells] at *;omega
theorem cellsV_snoc (vs:List Vl) (v:Vl):cellsV (vs++[v])=cellsV vs++v.cells:=by simp [cellsV]
theorem drop_at (s:ByteArray) (p:Nat) (h:p < s.size):s.data.toList.drop p=s[p] :: s.data.toList.drop (p + 1):=by
 rw [List.drop_eq_getElem_cons (by simpa using h)];rfl
theorem drop_off (s:ByteArray) (p:Nat) (h:¬ p < s.size):s.data.toList.drop p=[]:=List.drop_eq_nil_of_le (by simp;omega)
end Go.Proofs.YtjdgejfhnfnmgaaGreatDoor
namespace Go.Proofs.YtjdgejfhnfnmgaaGreatDoor
open Go.RowKit
theorem add_add' (a:Addr) (i j:Nat):(a.add i).add j=a.add (i + j):=by
 unfold Addr.add
 by_cases hi:i=0 <;> by_cases hj:j=0 <;> simp [hi,hj,Nat.add_assoc]
def Rd (w:World) (B size:Nat) (A:Option Addr) (n:Nat) (xs:List Value):Prop :=
 xs.length=n * size∧(n=0 ∨ ∃ b o,A=some ⟨b,o,none⟩∧b < B∧∀ j u,xs[j]?=some u→w.cell? ⟨b,o + j,none⟩=some u)
section
variable {w w':World} {B B' size n:Nat} {A:Option Addr} {xs:List Value}
theorem Rd.nil:Rd w B size A 0 []:=⟨by simp,.inl rfl⟩
theorem Rd.keep (h:Rd w B size A n xs) (hk:∀ p:Addr,p.block < B→w'.cell? p=w.cell? p):Rd w' B size A n xs :=
 ⟨h.1,h.2.imp id fun ⟨b,o,e,hb,hc⟩=>⟨b,o,e,hb,fun j u hu=>(hk _ hb).trans (hc j u hu)⟩⟩
theorem Rd.more (h:Rd w B size A n xs) (hB:B≤B'):Rd w B' size A n xs:=⟨h.1,h.2.imp id fun ⟨b,o,e,hb,hc⟩=>⟨b,o,e,by omega,hc⟩⟩
theorem Rd.below (h:Rd w B size A n xs) (hb:Below B w w'):Rd w' B size A n xs:=h.keep fun _ hp=>hb.cell hp
theorem Rd.at_ (h:Rd w B size A n xs) (hn:0 < n):∃ b o,A=some ⟨b,o,none⟩∧b < B∧∀ j u,xs[j]?=some u→w.cell? ⟨b,o + j,none⟩=some u:=by
 rcases h.2 with h | h
 ·omega
 ·exact h
end
theorem below_two {w:World} (o:Obj):Below w.heap.size w (w.alloc o):=(Below.refl _ _).alloc (Nat.le_refl _) o
theorem drop_eq {α:Type} (l:List α) (k:Nat) (x:α) (h:l[k]?=some x):l.drop k=x :: l.drop (k + 1):=by
 obtain ⟨hk,rfl⟩:=List.getElem?_eq_some_iff.1 h
 exact List.drop_eq_getElem_cons hk
def RdV (w:World) (B:Nat) (A:Option Addr) (n:Nat) (vs:List Vl):Prop:=Rd w B 3 A n (vs.flatMap Vl.cells)
theorem flat3_get {α:Type} (f:α→List Value) (hf:∀ x,(f x).length=3) (l:List α) (i j:Nat) (hj:j < 3):(l.flatMap f)[3 * i + j]?=(l[i]?).bind fun x=>(f x)[j]?:=by
 induction l generalizing i with
 | nil=>simp
 | cons x l ih =>
  rw [List.flatMap_cons]
  cases i with
  | zero=>simp [List.getElem?_append,hf,hj]
  | succ i =>
   rw [List.getElem?_append_right (by rw [hf];omega),hf,show 3 * (i + 1) + j - 3=3 * i + j by omega,ih i]
   simp
theorem RdV.len {w:World} {B n:Nat} {A:Option Addr} {vs:List Vl} (h:RdV w B A n vs):vs.length=n:=by
 have:=h.1
 have e:(vs.flatMap Vl.cells).length=vs.length * 3:=by
  clear this h
  induction vs with
  | nil=>rfl
  | cons x l ih=>simp [List.flatMap_cons,Vl.cells] at *;omega
 omega
theorem RdV.at_ {w:World} {B n:Nat} {A:Option Addr} {vs:List Vl} (h:RdV w B A n vs) (k:Nat) (v:Vl) (hk:vs[k]?=some v) :
  ∃ b o,A=some ⟨b,o,none⟩∧b < B∧w.cell? ⟨b,o + k * 3,none⟩=some (.int .i64 v.k)∧w.cell? ⟨b,o + k * 3 + 1,none⟩=some (.int .i64 v.n)∧w.cell? ⟨b,o + k * 3 + 2,none⟩=some (.string v.s):=by
 have hl:=h.len
 have hkn:k < n:=by
  rw [← hl]
  rcases Nat.lt_or_ge k vs.length with h | h
  ·exact h
  ·rw [List.getElem?_eq_none h] at hk;cases hk
 obtain ⟨b,o,e,hb,hc⟩:=Rd.at_ h (by omega)
 have g:=fun j (hj:j < 3) u (hu:(v.cells)[j]?=some u)=>hc (3 * k + j) u (by rw [flat3_get _ (fun _=>rfl) _ _ _ hj,hk];exact hu)
 have e3:3 * k=k * 3:=Nat.mul_comm _ _
 rw [e3] at g
 exact ⟨b,o,e,hb,g 0 (by omega) _ rfl,g 1 (by omega) _ rfl,g 2 (by omega) _ rfl⟩
def Blk (w:World) (g:Nat) (t:TypeId) (cs:Array Value):Prop:=w.heap[g]?=some (.cells cs t (0,0))
section
variable {w w':World} {g:Nat} {t:TypeId} {cs:Array Value}
theorem Blk.lt (h:Blk w g t cs):g < w.heap.size:=by
 rcases Nat.lt_or_ge g w.heap.size with hlt | hge
 ·exact hlt
 ·unfold Blk at h;rw [Array.getElem?_eq_none hge] at h;cases h
theorem Blk.cell (h:Blk w g t cs) (i:Nat):w.cell? ⟨g,i,none⟩=cs[i]?:=cell_of_row w g i cs t (0,0) h
theorem Blk.free (h:Blk w g t cs) (i:Nat):w.frozen? ⟨g,i,none⟩=false:=frozen_of_row w g i cs t h
theorem Blk.fresh (w:World) (t:TypeId) (cs:Array Value):Blk (w.alloc (.cells cs t)) w.heap.size t cs:=heap_alloc_new w _
theorem Blk.alloc (h:Blk w g t cs) (o:Obj):Blk (w.alloc o) g t cs:=(Below.heap_alloc w o g h.lt).trans h
theorem Blk.put (h:Blk w g t cs) (i:Nat) (u:Value):Blk (w.setCell ⟨g,i,none⟩ u) g t (cs.setIfInBounds i u):=heap_setCell_same w g i cs t u h
theorem Blk.far (h:Blk w g t cs) {p:Addr} (hp:g ≠ p.block) (u:Value):Blk (w.setCell p u) g t cs:=(Below.heap_setCell w p u g hp).trans h
theorem Blk.below {B:Nat} (h:Blk w g t cs) (hb:Below B w w') (hg:g < B):Blk w' g t cs:=(hb.block g hg).trans h
theorem Blk.turn (h:Blk w g t cs) {k:Nat} (hb:w.grownBy w' (some k)) (hg:g ≠ k):Blk w' g t cs:=(hb.block g h.lt (fun e=>hg (by injection e))).trans h
end
theorem Blk.two {w:World} {g:Nat} {t:TypeId} {a b:Value} (h:Blk w g t #[a,b]):w.cell? ⟨g,0,none⟩=some a∧w.cell? ⟨g,1,none⟩=some b∧w.frozen? ⟨g,0,none⟩=false∧w.frozen? ⟨g,1,none⟩=false∧g < w.heap.size :=
 ⟨h.cell 0,h.cell 1,h.free 0,h.free 1,h.lt⟩
theorem Blk.three {w:World} {g:Nat} {t:TypeId} {a b c:Value} (h:Blk w g t #[a,b,c]):w.cell? ⟨g,0,none⟩=some a∧w.cell? ⟨g,1,none⟩=some b∧w.cell? ⟨g,2,none⟩=some c ∧
  w.frozen? ⟨g,0,none⟩=false∧w.frozen? ⟨g,1,none⟩=false∧w.frozen? ⟨g,2,none⟩=false∧g < w.heap.size :=
 ⟨h.cell 0,h.cell 1,h.cell 2,h.free 0,h.free 1,h.free 2,h.lt⟩
theorem turn_alloc {a w:World} {row:Option Nat} (h:a.grownBy w row) (o:Obj):a.grownBy (w.alloc o) row :=
 ⟨h.os,h.tape,h.output,Nat.le_trans h.size (by simp),fun i hi hne=>(Below.heap_alloc w o i (Nat.lt_of_lt_of_le hi h.size)).trans (h.block i hi hne)⟩
theorem turn_set {a w:World} {g:Nat} (h:a.grownBy w (some g)) {p:Addr} (hp:p.block=g ∨ a.heap.size≤p.block) (u:Value):a.grownBy (w.setCell p u) (some g) :=
 ⟨h.os,h.tape,h.output,by simpa [World.setCell] using h.size,fun i hi hne=>(Below.heap_setCell w p u i (by
  rintro rfl
  rcases hp with hp | hp
  ·exact hne (by rw [hp])
  ·omega)).trans (h.block i hi hne)⟩
theorem turn_put {a w:World} {g:Nat} (h:a.grownBy w (some g)) (i:Nat) (u:Value):a.grownBy (w.setCell ⟨g,i,none⟩ u) (some g):=turn_set h (.inl rfl) u
theorem turn_drewN {a w:World} {row:Option Nat} (h:a.grownBy w row) (n:Nat):a.grownBy (w.drewN n) row:=⟨h.os,h.tape,h.output,h.size,h.block⟩
theorem below_drewN {B:Nat} {a w:World} (h:Below B a w) (n:Nat):Below B a (w.drewN n):=⟨h.os,h.tape,h.output,h.size,h.block⟩
theorem below_turn {B g:Nat} {a b w:World} (h:Below B a b) (hb:b.grownBy w (some g)) (hg:B≤g) (hB:B≤b.heap.size):Below B a w:=h.grown hb hB (fun k e=>by injection e with e;omega)
end Go.Proofs.YtjdgejfhnfnmgaaGreatDoor
namespace Go.Proofs.YtjdgejfhnfnmgaaGreatDoor
open Go.RowKit
attribute [go_sem] bs_size
@[go_sem] theorem wrap64_u8 (x:UInt8):wrap64 (x.toNat:Int)=x.toNat:=IntWalk.wrap64_in _ (by have:=x.toNat_lt;omega)
section
variable {P:Program} {w:World} {ops:Array Oper} {rest:List Oper} {o:Oper} {a:Act} {Q:Exit→Act→World→Prop}
end
def conv1Else (P:Program) (src dst:TypeId) (b c:Nat) (W:World):Result Value:=(convert src dst (.slice (some ⟨b,0,none⟩) 1 c)).run P W
def conv1K (els:Result Value) (W:World):Option Value→Result Value
 | some (.int .u8 n)=>.ok (.string (bs [UInt8.ofNat n.toNat])) W
 | _=>els
@[go_sem] theorem conv1K_some (els:Result Value) (W:World) (n:Int):conv1K els W (some (.int .u8 n))=.ok (.string (bs [UInt8.ofNat n.toNat])) W:=rfl
theorem conv1_eq {P:Program} (src dst e:TypeId) (hs:P.underlying src=some (.slice e)) (he:P.underlying e=some (.int .u8)) (hd:P.underlying dst=some .string) (W:World) (b c:Nat) :
  (convert src dst (.slice (some ⟨b,0,none⟩) 1 c)).run P W=conv1K (conv1Else P src dst b c W) W (W.cell? ⟨b,0,none⟩):=by
 rcases h:W.cell? ⟨b,0,none⟩ with _ | v
 ·rfl
 ·cases v with
  | int k n =>
   cases k
   case u8 =>
    rw [run_convert_bytes_arg (P := P) W src e hs he b 0 1 c [n] rfl (fun i hi => by obtain rfl : i = 0 := by omega
                                                                                     simpa using h) dst hd]
    rfl
   all_goals rfl
  | _=>rfl
@[go_sem] theorem conv1 (W:World) (b c:Nat):(convert 87 9 (.slice (some ⟨b,0,none⟩) 1 c)).run Tryz.prog W=conv1K (conv1Else Tryz.prog 87 9 b c W) W (W.cell? ⟨b,0,none⟩) :=
 conv1_eq _ _ _ Tryz.underlying87 Tryz.underlying5 Tryz.underlying9 W b c
structure ElT (P:Program) (t e:TypeId) (z:Value) (size bytes:Nat):Prop where
 ht:P.underlying t=some (.slice e)
 hi:∃ i,P.info? e=some i∧i.zero=some z∧i.size=size∧i.bytes=bytes
 hzs:z.cells.size=size
 hsz:0 < size
theorem elT_mk {P:Program} {t e:TypeId} {z:Value} {size bytes:Nat} (ht:P.underlying t=some (.slice e)) (h:(P.info? e).map (fun i=>(i.zero,i.size,i.bytes))=some (some z,size,bytes)) (hzs:z.cells.size=size) (hsz:0 < size):ElT P t e z size bytes :=
 ⟨ht,by obtain ⟨i,h1,h2,h3,h4⟩:=info_parts h;exact ⟨i,h1,h2,h3,h4⟩,hzs,hsz⟩
structure Left (w0 w':World) (base:Nat) (v:Value):Prop where
 below:Below base w0 w'
 far:∀ p:Addr,p.block < w0.heap.size→v.ownBlock ≠ some p.block→w'.cell? p=w0.cell? p
 farz:∀ p:Addr,p.block < w0.heap.size→v.ownBlock ≠ some p.block→w'.frozen? p=w0.frozen? p
 blk:∀ g,g < w0.heap.size→v.ownBlock ≠ some g→w'.heap[g]?=w0.heap[g]?
theorem Left.new {w0 w1:World} {base:Nat} {v:Value} {cs:Array Value} {t:TypeId} (h:Left (w0.alloc (.cells cs t)) w1 base v) (hne:v.ownBlock ≠ some w0.heap.size) (j:Nat):w1.cell? ⟨w0.heap.size,j,none⟩=cs[j]? :=
 (h.far ⟨w0.heap.size,j,none⟩ (by simp) hne).trans (cell_of_row _ _ _ _ _ _ (heap_alloc_new w0 _))
theorem rd_of_own {w:World} {base:Nat} {e:TypeId} {size n:Nat} {v:Value} {xs:List Value} (h:w.ownsRow base e size v n xs):∃ A c,v=.slice A n c∧Rd w w.heap.size size A n xs∧n≤maxLen:=by
 rcases h.2 with ⟨rfl,rfl⟩ | ⟨g,cap,cur,rfl,_,hh,hnc,hcm,hcs,ht⟩
 ·exact ⟨none,0,rfl,⟨h.1,.inl rfl⟩,Nat.zero_le _⟩
 ·refine ⟨_,_,rfl,⟨h.1,.inr ⟨g,0,rfl,Blk.lt (t:=e) (cs:=cur) hh,fun j u hu=>?_⟩⟩,Nat.le_trans hnc hcm⟩
  rw [Nat.zero_add,cell_of_row w g j cur e (0,0) hh]
  rw [← ht,List.getElem?_take] at hu
  split at hu
  ·simpa using hu
  ·cases hu
theorem own_vals {w:World} {base:Nat} {e:TypeId} {v:Value} {n:Nat} {vs:List Vl} {cs:List Value} (h:w.ownsRow base e 3 v n (cellsV vs++cs)) (u:Vl) (hcs:cs=u.cells):w.ownsRow base e 3 v (vs++[u]).length (cellsV (vs++[u])):=by
 subst hcs
 rw [cellsV_snoc]
 have hn:(vs++[u]).length=n:=by
  have:=h.1
  rw [List.length_append,cellsV_len] at this
  simp at this ⊢
  omega
 rw [hn]
 exact h
theorem left_of {w0 w1 w':World} {base:Nat} {e:TypeId} {size n:Nat} {v:Value} {xs:List Value} (hown:w0.ownsRow base e size v n xs) (hbase:base≤w0.heap.size)
  (h0:∀ row,w0.grownBy w1 row) (hg:w1.grownBy w' v.ownBlock):Left w0 w' base v:=by
 have hgg:=(h0 v.ownBlock).trans hg
 have hb:=hown.lt
 refine ⟨(Below.refl _ _).grown hgg hbase (fun k hk=>(hb k hk).1),fun p hp hne=>World.cell?_of_block (hgg.block _ hp (fun e=>hne e.symm)),fun p hp hne=>World.frozen?_of_block (hgg.block _ hp (fun e=>hne e.symm)),fun g hp hne=>hgg.block _ hp (fun e=>hne e.symm)⟩
section
variable {P:Program} {w0:World} {ops:Array Oper} {rest:List Oper} {o:Oper} {a:Act} {Q:Exit→Act→World→Prop}
theorem wpList_app (hgd:o.guard=none) (s x:Operand) {t e:TypeId} {z:Value} {size bytes:Nat} (E:ElT P t e z size bytes)
  (ho:o.op=.call { callee:=.builtin .append,args:=#[s,x],argTypes:=#[t,t] })
  {base:Nat} {v:Value} {n:Nat} {xs:List Value} (hown:w0.ownsRow base e size v n xs) (hs:a.eval s=v)
  {cs:List Value} {te:TypeId} {g m c:Nat} (hx:a.eval x=.slice (some ⟨g,0,none⟩) m c) (hg:g=w0.heap.size) (hl:cs.length=m * size) (h1:(cs.all fun u=>u.oneCell')=true)
  (h63:n + m≤maxLen) (hbytes:(n + m) * bytes≤140737488355328) (hbase:base≤w0.heap.size)
  (h:∀ v' w',w'.ownsRow base e size v' (n + m) (xs++cs)→Left w0 w' base v→(v'.ownBlock=v.ownBlock ∨ v'.ownBlock=some (w0.heap.size + 1))→wpList P ops Q rest (a.put o.dst v') w'):wpList P ops Q (o :: rest) a (w0.alloc (.cells cs.toArray te)):=by
 obtain ⟨i,hi,hz,hz1,hz2⟩:=E.hi
 subst hg
 have hnb:(w0.alloc (.cells cs.toArray te)).heap[w0.heap.size]?=some (.cells cs.toArray te (0,0)):=heap_alloc_new w0 _
 refine wpList_append_own_at _ hgd s x t ho base e i z size bytes E.ht hi hz hz1 hz2 E.hzs E.hsz v n xs hs (hown.alloc _) ⟨w0.heap.size,0,none⟩ m c cs hx hl ?_ (by simpa using h1) h63 hbytes (by simp;omega) ?_
 ·intro j u hj
  have:=World.news_of_block hnb j u (by simpa using hj)
  exact this
 ·intro v' w' hown' hg _ hat
  exact h v' w' hown' (left_of hown hbase (fun row=>World.grownBy_alloc _ _ _) hg) (by simpa using hat)
end
end Go.Proofs.YtjdgejfhnfnmgaaGreatDoor
namespace Go.Proofs.YtjdgejfhnfnmgaaGreatDoor
open Go.RowKit Go.Deep
structure Rep (α:Type) where
 size:Nat
 R:World→Nat→Nat→α→List Value→Prop
 len:∀ {w:World} {L B:Nat} {x:α} {cs:List Value},R w L B x cs→cs.length=size
 keep:∀ {w w':World} {L B:Nat} {x:α} {cs:List Value},R w L B x cs→(∀ p:Addr,L≤p.block→p.block < B→w'.cell? p=w.cell? p)→R w' L B x cs
 more:∀ {w:World} {L L' B B':Nat} {x:α} {cs:List Value},R w L B x cs→L'≤L→B≤B'→R w L' B' x cs
 one:∀ {w:World} {L B:Nat} {x:α} {cs:List Value},R w L B x cs→(cs.all fun u=>u.oneCell')=true
def Rep.row {α:Type} (ρ:Rep α) (w:World) (L B:Nat) (A:Option Addr) (n:Nat) (l:List α):Prop :=
 l.length=n∧(n=0 ∨ ∃ b o,A=some ⟨b,o,none⟩∧(L≤b∧b < B)∧∀ k x,l[k]?=some x→∃ cs,ρ.R w L B x cs∧∀ j u,cs[j]?=some u→w.cell? ⟨b,o + k * ρ.size + j,none⟩=some u)
section
variable {α β:Type} {ρ:Rep α} {σ:Rep β} {w w':World} {L L' B B' n:Nat} {A:Option Addr} {l:List α} {x:α} {cs:List Value}
theorem Rep.below (h:ρ.R w L B x cs) (hb:Below B w w'):ρ.R w' L B x cs:=ρ.keep h fun _ _ hp=>hb.cell hp
theorem Rep.row.nil:ρ.row w L B A 0 []:=⟨rfl,.inl rfl⟩
theorem Rep.row.keep (h:ρ.row w L B A n l) (hk:∀ p:Addr,L≤p.block→p.block < B→w'.cell? p=w.cell? p):ρ.row w' L B A n l :=
 ⟨h.1,h.2.imp id fun ⟨b,o,e,hb,hc⟩=>⟨b,o,e,hb,fun k x hx=>by
  obtain ⟨cs,h1,h2⟩:=hc k x hx
  exact ⟨cs,ρ.keep h1 hk,fun j u hu=>(hk _ hb.1 hb.2).trans (h2 j u hu)⟩⟩⟩
theorem Rep.row.wide (h:ρ.row w L B A n l) (hL:L'≤L) (hB:B≤B'):ρ.row w L' B' A n l :=
 ⟨h.1,h.2.imp id fun ⟨b,o,e,hb,hc⟩=>⟨b,o,e,by omega,fun k x hx=>by
  obtain ⟨cs,h1,h2⟩:=hc k x hx
  exact ⟨cs,ρ.more h1 hL hB,h2⟩⟩⟩
theorem Rep.row.more (h:ρ.row w L B A n l) (hB:B≤B'):ρ.row w L B' A n l:=h.wide (Nat.le_refl _) hB
theorem Rep.row.put (h:ρ.row w L B A n l) {p:Addr} (hp:p.block < L) (u:Value):ρ.row (w.setCell p u) L B A n l :=
 h.keep fun q hq _=>World.cell?_of_block (Below.heap_setCell _ _ _ _ (by omega))
theorem Rep.row.below (h:ρ.row w L B A n l) (hb:Below B w w'):ρ.row w' L B A n l:=h.keep fun _ _ hp=>hb.cell hp
theorem Rep.row.on (h:ρ.row w L w.heap.size A n l) (hb:Below w.heap.size w w'):ρ.row w' L w'.heap.size A n l:=(h.below hb).more hb.size
theorem Rep.row.at_ (h:ρ.row w L B A n l) (k:Nat) (hk:l[k]?=some x):∃ b o cs,A=some ⟨b,o,none⟩∧(L≤b∧b < B)∧ρ.R w L B x cs∧∀ j u,cs[j]?=some u→w.cell? ⟨b,o + k * ρ.size + j,none⟩=some u:=by
 have hl:=h.1
 have hkn:k < n:=by
  rw [← hl]
  rcases Nat.lt_or_ge k l.length with h | h
  ·exact h
  ·rw [List.getElem?_eq_none h] at hk;cases hk
 rcases h.2 with h | ⟨b,o,e,hb,hc⟩
 ·omega
 ·obtain ⟨cs,h1,h2⟩:=hc k x hk
  exact ⟨b,o,cs,e,hb,h1,h2⟩
theorem Rep.row.part (h:ρ.row w L B A n l) (i j:Nat) (hij:i≤j) (hj:j≤n):ρ.row w L B (A.map fun a=>⟨a.block,a.off + i * ρ.size,a.spot⟩) (j - i) ((l.drop i).take (j - i)):=by
 refine ⟨by rw [List.length_take,List.length_drop,h.1];omega,?_⟩
 rcases h.2 with h0 | ⟨b,o,rfl,hb,hc⟩
 ·exact .inl (by omega)
 ·refine .inr ⟨b,o + i * ρ.size,rfl,hb,fun k x hx=>?_⟩
  rw [List.getElem?_take] at hx
  split at hx
  ·rw [List.getElem?_drop] at hx
   obtain ⟨cs,h1,h2⟩:=hc _ x hx
   refine ⟨cs,h1,fun m u hu=>?_⟩
   have:=h2 m u hu
   rw [Nat.add_mul] at this
   rw [← this]
   congr 2
   omega
  ·cases hx
end
def Rep.flat {α:Type} (f:α→List Value) (n:Nat) (h:∀ x,(f x).length=n) (h1:∀ x,((f x).all fun u=>u.oneCell')=true):Rep α :=
 { size:=n,R:=fun _ _ _ x cs=>cs=f x,len:=fun e=>by rw [e,h],keep:=fun e _=>e,more:=fun e _ _=>e,one:=fun e=>by rw [e,h1] }
def Rep.slice {α:Type} (ρ:Rep α):Rep (List α) :=
 { size:=1,R:=fun w L B l cs=>∃ A n c,cs=[.slice A n c]∧ρ.row w L B A n l,len:=fun ⟨_,_,_,e,_⟩=>by rw [e];rfl,
   keep:=fun ⟨A,n,c,e,h⟩ hk=>⟨A,n,c,e,h.keep hk⟩,more:=fun ⟨A,n,c,e,h⟩ hL hB=>⟨A,n,c,e,h.wide hL hB⟩,one:=fun ⟨_,_,_,e,_⟩=>by rw [e];rfl }
def Rep.and {α β:Type} (ρ:Rep α) (σ:Rep β):Rep (α × β) :=
 { size:=ρ.size + σ.size,R:=fun w L B x cs=>∃ a b,cs=a++b∧ρ.R w L B x.1 a∧σ.R w L B x.2 b,
   len:=fun ⟨a,b,e,h1,h2⟩=>by rw [e,List.length_append,ρ.len h1,σ.len h2],
   keep:=fun ⟨a,b,e,h1,h2⟩ hk=>⟨a,b,e,ρ.keep h1 hk,σ.keep h2 hk⟩,more:=fun ⟨a,b,e,h1,h2⟩ hL hB=>⟨a,b,e,ρ.more h1 hL hB,σ.more h2 hL hB⟩,
   one:=fun ⟨a,b,e,h1,h2⟩=>by rw [e,List.all_append,ρ.one h1,σ.one h2];rfl }
def Rep.by {α β:Type} (ρ:Rep β) (f:α→β):Rep α :=
 { size:=ρ.size,R:=fun w L B x cs=>ρ.R w L B (f x) cs,len:=fun h=>ρ.len h,keep:=fun h hk=>ρ.keep h hk,more:=fun h hL hB=>ρ.more h hL hB,one:=fun h=>ρ.one h }
def repInt:Rep Int:=Rep.flat (fun n=>[.int .i64 n]) 1 (fun _=>rfl) fun _=>rfl
def repStr:Rep ByteArray:=Rep.flat (fun s=>[.string s]) 1 (fun _=>rfl) fun _=>rfl
def repBool:Rep Bool:=Rep.flat (fun b=>[.bool b]) 1 (fun _=>rfl) fun _=>rfl
inductive RepAll {α:Type} (ρ:Rep α) (w:World) (L B:Nat):List α→List Value→Prop
 | nil:RepAll ρ w L B [] []
 | cons {x:α} {l:List α} {a b:List Value}:ρ.R w L B x a→RepAll ρ w L B l b→RepAll ρ w L B (x :: l) (a++b)
section
variable {α:Type} {ρ:Rep α} {w w':World} {L L' B B':Nat} {l r:List α} {cs ds:List Value}
theorem RepAll.len (h:RepAll ρ w L B l cs):cs.length=l.length * ρ.size:=by
 induction h with
 | nil=>simp
 | cons h1 _ ih=>rw [List.length_append,ρ.len h1,ih,List.length_cons,Nat.succ_mul];omega
theorem RepAll.append (h:RepAll ρ w L B l cs) (h':RepAll ρ w L B r ds):RepAll ρ w L B (l++r) (cs++ds):=by
 induction h with
 | nil=>exact h'
 | cons h1 _ ih=>rw [List.cons_append,List.append_assoc];exact .cons h1 ih
theorem RepAll.keep (h:RepAll ρ w L B l cs) (hk:∀ p:Addr,L≤p.block→p.block < B→w'.cell? p=w.cell? p):RepAll ρ w' L B l cs:=by
 induction h with
 | nil=>exact .nil
 | cons h1 _ ih=>exact .cons (ρ.keep h1 hk) ih
theorem RepAll.more (h:RepAll ρ w L B l cs) (hL:L'≤L) (hB:B≤B'):RepAll ρ w L' B' l cs:=by
 induction h with
 | nil=>exact .nil
 | cons h1 _ ih=>exact .cons (ρ.more h1 hL hB) ih
theorem RepAll.at_ (h:RepAll ρ w L B l cs) (k:Nat) (x:α) (hx:l[k]?=some x):∃ a,ρ.R w L B x a∧∀ j u,a[j]?=some u→cs[k * ρ.size + j]?=some u:=by
 induction h generalizing k with
 | nil=>simp at hx
 | @cons y l a b h1 h2 ih =>
  cases k with
  | zero =>
   simp at hx
   subst hx
   refine ⟨a,h1,fun j u hu=>?_⟩
   rw [Nat.zero_mul,Nat.zero_add,List.getElem?_append_left (by
    rcases Nat.lt_or_ge j a.length with h | h
    ·exact h
    ·rw [List.getElem?_eq_none h] at hu;cases hu)]
   exact hu
  | succ k =>
   obtain ⟨a',h3,h4⟩:=ih k (by simpa using hx)
   refine ⟨a',h3,fun j u hu=>?_⟩
   rw [Nat.succ_mul,List.getElem?_append_right (by rw [ρ.len h1];omega),ρ.len h1,show k * ρ.size + ρ.size + j - ρ.size=k * ρ.size + j by omega]
   exact h4 j u hu
theorem RepAll.flat {α:Type} {f:α→List Value} {n:Nat} {h:∀ x,(f x).length=n} {h1:∀ x,((f x).all fun u=>u.oneCell')=true} {w:World} {L B:Nat} (l:List α):RepAll (Rep.flat f n h h1) w L B l (l.flatMap f):=by
 induction l with
 | nil=>exact .nil
 | cons x l ih=>rw [List.flatMap_cons];exact .cons rfl ih
theorem RepAll.one (h:RepAll ρ w L B l cs):(cs.all fun u=>u.oneCell')=true:=by
 induction h with
 | nil=>rfl
 | cons h1 _ ih=>rw [List.all_append,ρ.one h1,ih];rfl
theorem Rep.row.of_own {base:Nat} {e:TypeId} {n:Nat} {v:Value} (h:w.ownsRow base e ρ.size v n cs) (hr:RepAll ρ w L w.heap.size l cs) (hL:L≤base) (hs:0 < ρ.size):∃ A c,v=.slice A n c∧ρ.row w L w.heap.size A n l∧n≤maxLen∧n≤c:=by
 have hl:l.length=n:=by
  have h1:=h.1
  rw [hr.len] at h1
  exact Nat.eq_of_mul_eq_mul_right hs h1
 rcases h.2 with ⟨rfl,rfl⟩ | ⟨g,cap,cur,rfl,hbg,hh,hnc,hcm,hcs,ht⟩
 ·exact ⟨none,0,rfl,⟨hl,.inl rfl⟩,Nat.zero_le _,Nat.le_refl _⟩
 ·refine ⟨_,_,rfl,⟨hl,.inr ⟨g,0,rfl,⟨Nat.le_trans hL hbg,Blk.lt (t:=e) (cs:=cur) hh⟩,fun k x hx=>?_⟩⟩,Nat.le_trans hnc hcm,hnc⟩
  obtain ⟨a,h1,h2⟩:=hr.at_ k x hx
  refine ⟨a,h1,fun j u hu=>?_⟩
  have hu2:=h2 j u hu
  rw [Nat.zero_add,cell_of_row w g _ cur e (0,0) hh]
  rw [← ht,List.getElem?_take] at hu2
  split at hu2
  ·simpa using hu2
  ·cases hu2
end
structure Opens {α:Type} (P:Program) (N:Nat) (ρ:Rep α) (t:TypeId) (good:α→Prop):Prop where
 cells:P.cellsOf t=ρ.size
 opens:∀ {H:Type} {enc:TypeId × Value→H} {w:World} {base:Nat} {spare:Nat→Bool} {held:Bool} {fuel:Nat} {cs:List Value} {x:DataW H × List MemPlace},
  fuel≤N→DataW.trod enc P w base spare held fuel t cs=some x→(DataW.weights P t x.1).all (·≤reachBytes)=true→∃ y,ρ.R w 0 w.heap.size y cs∧good y
section
variable {P:Program} {N:Nat} {t:TypeId}
theorem Opens.int (hu:P.underlying t=some (.int .i64)) (hc:P.cellsOf t=1):Opens P N repInt t fun n=>-9223372036854775808≤n∧n≤9223372036854775807 where
 cells:=hc
 opens _ h _:=by
  obtain ⟨n,rfl,_,hw⟩:=DataW.trod_int hu h
  refine ⟨n,rfl,?_⟩
  simp only [Lit.wf,Bool.and_eq_true,decide_eq_true_eq] at hw
  exact hw
theorem Opens.str (hu:P.underlying t=some .string) (hc:P.cellsOf t=1):Opens P N repStr t fun s=>s.size≤140737488351232 where
 cells:=hc
 opens _ h hw:=by
  obtain ⟨s,rfl,hx,hs⟩:=DataW.trod_string hu h
  refine ⟨s,rfl,?_⟩
  rw [hx] at hw
  simp only [DataW.weights,List.all_cons,List.all_nil,Bool.and_true,Array.length_toList] at hw
  exact of_decide_eq_true hw
theorem Opens.bool (hu:P.underlying t=some .bool) (hc:P.cellsOf t=1):Opens P N repBool t fun _=>True where
 cells:=hc
 opens _ h _:=by
  obtain ⟨b,rfl,_⟩:=DataW.trod_bool hu h
  exact ⟨b,rfl,trivial⟩
theorem weightsAll_mem {H:Type} {e:TypeId} {l:List (DataW H)} {d:DataW H} (hd:d ∈ l) (h:(DataW.weightsAll P e l).all (·≤reachBytes)=true):(DataW.weights P e d).all (·≤reachBytes)=true:=by
 induction l with
 | nil=>cases hd
 | cons y l ih =>
  rw [DataW.weightsAll,List.all_append,Bool.and_eq_true] at h
  cases hd with
  | head=>exact h.1
  | tail _ hd=>exact ih hd h.2
theorem Opens.slice {α:Type} {ρ:Rep α} {e:TypeId} {good:α→Prop} {by_:Nat} (hu:P.underlying t=some (.slice e)) (hc:P.cellsOf t=1) (hb:P.bytesOf e=by_) (hs:0 < ρ.size) (O:∀ M,M < N→Opens P M ρ e good) (hce:P.cellsOf e=ρ.size) :
  Opens P N ρ.slice t fun l=>l.length * by_≤140737488351232∧l.length≤maxLen∧∀ x ∈ l,good x where
 cells:=hc
 opens:=by
  intro H enc w base spare held fuel cs x hN h hw
  have hlt:=DataW.trod_lt fuel t cs x h
  rcases DataW.trod_slice hu h with ⟨rfl,_⟩ | ⟨a,len,cap,elems,rest,m,rfl,rfl,hx,hba,hl,hm,hlen,hel,_,_⟩
  ·exact ⟨[],⟨none,0,0,rfl,Rep.row.nil⟩,by simp [maxLen]⟩
  ·have O':=O m (by omega)
   rw [hx] at hw
   simp only [DataW.weights,hu,List.all_cons,List.all_append,Bool.and_eq_true,hb,List.length_map] at hw
   obtain ⟨hw1',hw2,_⟩:=hw
   have hw1:(elems.length + rest.length) * by_≤140737488351232:=of_decide_eq_true hw1'
   clear hw1'
   have hv:∀ i,i < len→∃ y:α,(∃ cs',ρ.R w 0 w.heap.size y cs'∧∀ j u,cs'[j]?=some u→w.cell? (a.add (i * ρ.size + j))=some u)∧good y:=fun i hi=>by
    have h1:=hel i hi
    rw [List.getElem?_eq_getElem (by omega)] at h1
    obtain ⟨cs',h2,h3⟩:=Option.bind_eq_some_iff.1 h1
    obtain ⟨y,h4,h5⟩:=O'.opens (Nat.le_refl _) h3 (weightsAll_mem (List.mem_map.2 ⟨_,List.getElem_mem _,rfl⟩) hw2)
    obtain ⟨_,hl',hg⟩:=World.cells?_some h2
    rw [hce] at hl' hg
    exact ⟨y,⟨cs',h4,fun j u hu=>by
     have hj:j < ρ.size:=by
      rw [← hl']
      rcases Nat.lt_or_ge j cs'.length with h | h
      ·exact h
      ·rw [List.getElem?_eq_none h] at hu;cases hu
     rw [← add_add',hg j hj,hu]⟩,h5⟩
   rcases Nat.eq_zero_or_pos len with h0 | h0
   ·subst h0
    exact ⟨[],⟨some a,0,cap,rfl,Rep.row.nil⟩,by simp [maxLen]⟩
   ·obtain ⟨y0,⟨cs0,hr0,hc0⟩,_⟩:=hv 0 h0
    have hl0:=ρ.len hr0
    have hsp:a.spot=none:=by
     have:=hc0 0 _ (List.getElem?_eq_getElem (by omega))
     exact (by simpa [Addr.add] using World.cell?_spot this)
    obtain ⟨b,o,s⟩:=a
    simp only at hsp
    subst hsp
    have hadd:∀ i,(⟨b,o,none⟩:Addr).add i=⟨b,o + i,none⟩:=fun i=>by unfold Addr.add;split <;> simp_all
    obtain ⟨f,hf⟩:=@choose_lt α ⟨y0⟩ len _ hv
    refine ⟨(List.range len).map f,⟨_,len,cap,rfl,by simp,.inr ⟨b,o,rfl,⟨Nat.zero_le _,?_⟩,fun k x hx=>?_⟩⟩,?_,?_,?_⟩
    ·refine hlt (.cell b o) ?_
     rw [hx]
     refine List.mem_append_left _ ?_
     rw [hce]
     simp only [MemPlace.row,List.mem_map,List.mem_range]
     refine ⟨0,?_,by simp⟩
     exact Nat.mul_pos (by omega) hs
    ·have hk:k < len:=by
      rcases Nat.lt_or_ge k len with h | h
      ·exact h
      ·rw [List.getElem?_eq_none (by simpa using h)] at hx;cases hx
     rw [List.getElem?_map,List.getElem?_range hk] at hx
     simp only [Option.map_some,Option.some.injEq] at hx
     subst hx
     obtain ⟨⟨cs',h1,h2⟩,_⟩:=hf k hk
     exact ⟨cs',h1,fun j u hu=>by have:=h2 j u hu;rwa [hadd,← Nat.add_assoc] at this⟩
    ·rw [List.length_map,List.length_range]
     rw [hlen] at hw1
     rw [Nat.add_mul] at hw1
     omega
    ·rw [List.length_map,List.length_range];omega
    ·intro y hy
     obtain ⟨i,hi,rfl⟩:=List.mem_map.1 hy
     exact (hf i (List.mem_range.1 hi)).2
def PartsOk {H:Type} (P:Program) (enc:TypeId × Value→H) (w:World) (base:Nat) (spare:Nat→Bool) (held:Bool) (n:Nat):List TypeId→List Value→List (DataW H × List MemPlace)→Prop
 | [],cs,[]=>cs=[]
 | t :: ts,cs,x :: xs=>DataW.trod enc P w base spare held n t (cs.take (P.cellsOf t))=some x∧PartsOk P enc w base spare held n ts (cs.drop (P.cellsOf t)) xs
 | _,_,_=>False
structure OpensParts {α:Type} (P:Program) (N:Nat) (ρ:Rep α) (ts:List TypeId) (good:α→Prop):Prop where
 cells:(ts.map P.cellsOf).sum=ρ.size
 opens:∀ {H:Type} {enc:TypeId × Value→H} {w:World} {base:Nat} {spare:Nat→Bool} {held:Bool} {fuel:Nat} {cs:List Value} {xs:List (DataW H × List MemPlace)},
  fuel≤N→PartsOk P enc w base spare held fuel ts cs xs→(DataW.weightsEach P ts (xs.map (·.1))).all (·≤reachBytes)=true→∃ y,ρ.R w 0 w.heap.size y cs∧good y
theorem OpensParts.one {α:Type} {ρ:Rep α} {good:α→Prop} (O:Opens P N ρ t good):OpensParts P N ρ [t] good where
 cells:=by simp [O.cells]
 opens:=by
  intro H enc w base spare held fuel cs xs hN h hw
  match xs,h with
  | [x],⟨h1,h2⟩ =>
   have h2:cs.drop (P.cellsOf t)=[]:=h2
   simp only [List.map_cons,List.map_nil,DataW.weightsEach,List.append_nil] at hw
   have e:cs.take (P.cellsOf t)=cs:=by
    have:=List.take_append_drop (P.cellsOf t) cs
    rw [h2,List.append_nil] at this
    exact this
   rw [e] at h1
   exact O.opens hN h1 hw
theorem OpensParts.cons {α β:Type} {ρ:Rep α} {σ:Rep β} {ts:List TypeId} {good:α→Prop} {good':β→Prop} (O:Opens P N ρ t good) (O':OpensParts P N σ ts good'):OpensParts P N (ρ.and σ) (t :: ts) fun x=>good x.1∧good' x.2 where
 cells:=by rw [List.map_cons,List.sum_cons,O.cells,O'.cells];rfl
 opens:=by
  intro H enc w base spare held fuel cs xs hN h hw
  match xs,h with
  | x :: xs,⟨h1,h2⟩ =>
   simp only [List.map_cons,DataW.weightsEach,List.all_append,Bool.and_eq_true] at hw
   obtain ⟨y,a1,a2⟩:=O.opens hN h1 hw.1
   obtain ⟨z,b1,b2⟩:=O'.opens hN h2 hw.2
   exact ⟨(y,z),⟨_,_,(List.take_append_drop _ _).symm,a1,b1⟩,a2,b2⟩
def offsOk (P:Program):Nat→List Field→Bool
 | _,[]=>true
 | o,f :: fs=>f.offset==o && offsOk P (o + P.cellsOf f.type) fs
theorem parts_of {H:Type} {enc:TypeId × Value→H} {w:World} {base:Nat} {spare:Nat→Bool} {held:Bool} {n:Nat}:∀ (fs:List Field) (o:Nat) (cs0:List Value) (xs:List (DataW H × List MemPlace)),
  offsOk P o fs=true→cs0.length=o + ((fs.map (·.type)).map P.cellsOf).sum→xs.length=fs.length→(∀ (i:Nat) (f:Field),fs[i]?=some f→DataW.trod enc P w base spare held n f.type ((cs0.drop f.offset).take (P.cellsOf f.type))=xs[i]?) →
  PartsOk P enc w base spare held n (fs.map (·.type)) (cs0.drop o) xs
 | [],o,cs0,xs,_,hl,hx,_=>by
  obtain rfl:xs=[]:=List.eq_nil_of_length_eq_zero hx
  show cs0.drop o=[]
  simp at hl
  exact List.drop_eq_nil_of_le (by omega)
 | f :: fs,o,cs0,xs,ho,hl,hx,hf=>by
  simp only [offsOk,Bool.and_eq_true,beq_iff_eq] at ho
  match xs,hx with
  | x :: xs,hx =>
   simp only [List.map_cons,List.sum_cons] at hl
   refine ⟨?_,?_⟩
   ·have:=hf 0 f rfl
    rw [ho.1] at this
    simpa using this
   ·rw [List.drop_drop]
    exact parts_of fs _ cs0 xs ho.2 (by simp only at hl ⊢;omega) (by simpa using hx) fun i g hg=>by simpa using hf (i + 1) g (by simpa using hg)
theorem Opens.struct {α:Type} {ρ:Rep α} {good:α→Prop} {fs:Array Field} {ts:List TypeId} (hu:P.underlying t=some (.struct fs)) (hts:fs.toList.map (·.type)=ts) (ho:offsOk P 0 fs.toList=true) (hc:P.cellsOf t=(ts.map P.cellsOf).sum) (hcr:P.cellsOf t=ρ.size) (O:∀ M,M < N→OpensParts P M ρ ts good):Opens P N ρ t good where
 cells:=hcr
 opens:=by
  intro H enc w base spare held fuel cs x hN h hw
  obtain ⟨xs,n,rfl,hx,hlen,hxl,hf⟩:=DataW.trod_struct hu h
  subst hts
  have hp:=parts_of (P:=P) (n:=n) (enc:=enc) (w:=w) (base:=base) (spare:=spare) (held:=held) fs.toList 0 cs xs ho (by rw [hlen,hc];omega) (by simpa using hxl) fun i f hfi=>hf i f (by simpa using hfi)
  rw [List.drop_zero] at hp
  rw [hx] at hw
  simp only [DataW.weights,hu] at hw
  exact (O n (by omega)).opens (Nat.le_refl _) hp hw
theorem Opens.by {α β:Type} {ρ:Rep β} {good:β→Prop} (O:Opens P N ρ t good) (f:α→β) (g:β→α) (h:∀ y,f (g y)=y) {good':α→Prop} (hg:∀ y,good y→good' (g y)):Opens P N (ρ.by f) t good' where
 cells:=O.cells
 opens:=by
  intro H enc w base spare held fuel cs x hN ht hw
  obtain ⟨y,h1,h2⟩:=O.opens hN ht hw
  refine ⟨g y,?_,hg y h2⟩
  show ρ.R w 0 w.heap.size (f (g y)) cs
  rw [h]
  exact h1
end
end Go.Proofs.YtjdgejfhnfnmgaaGreatDoor
