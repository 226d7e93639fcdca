/-  -/
import Derived.Test.YtjdgejfhnfnmgaaGreatDoorP0
import Derived.Lib.Bytealg
import Derived.Lib.Strings
import Derived.Lib.Join
namespace Go.Proofs.YtjdgejfhnfnmgaaGreatDoor
open Go.RowKit
set_option linter.unusedVariables false
instance:DecidableEq Vl:=fun a b=>decidable_of_iff _ (Vl.same_iff a b)
def placeF {α:Type} (p:α→Bool):List α→Nat→Int
 | [],_=>-1
 | x :: l,i=>if p x=true then (i:Int) else placeF p l (i + 1)
structure Col where
 name:ByteArray
 ty:Int
def isCol (nm:ByteArray) (c:Col):Bool:=c.name.toList==nm.toList
def findC (cols:List Col) (nm:ByteArray):Int:=placeF (isCol nm) cols 0
inductive Ex where
 | mk (k:Int) (v:Vl) (nm:ByteArray) (args:List Ex)
theorem Ex.ind {P:Ex→Prop} (h:∀ k v nm ar,(∀ a ∈ ar,P a)→P (.mk k v nm ar)):∀ e,P e
 | .mk k v nm ar=>h k v nm ar fun a ha=>Ex.ind h a
termination_by e=>SizeOf.sizeOf e
decreasing_by have:=List.sizeOf_lt_of_mem ha;simp;omega
mutual
def sizeE:Ex→Int→Int
 | .mk _ _ _ ar,m=>sizeL ar m 1
def sizeL:List Ex→Int→Int→Int
 | [],_,n=>n
 | x :: l,m,n=>if m < n then n else sizeL l m (n + sizeE x (m - n))
end
mutual
theorem sizeE_le:∀ (e:Ex) (m:Int),0≤m→1≤sizeE e m∧sizeE e m≤m + 1
 | .mk _ _ _ ar,m,h=>by rw [sizeE];exact sizeL_le ar m 1 (by omega) (by omega)
theorem sizeL_le:∀ (l:List Ex) (m n:Int),1≤n→n≤m + 1→1≤sizeL l m n∧sizeL l m n≤m + 1
 | [],m,n,h1,h2=>by rw [sizeL];omega
 | x :: l,m,n,h1,h2=>by
  rw [sizeL]
  split
  ·omega
  ·have:=sizeE_le x (m - n) (by omega)
   exact sizeL_le l m _ (by omega) (by omega)
end
def argsK (k:Int):Int:=if k < 1 ∨ 11 < k then -1 else if k≤2 then 0 else if k≤4 then 1 else 2
def plainB (k:Int) (v:Vl) (nm:ByteArray) (n:Nat):Bool:=((n:Int)==argsK k) && ((k==2 || emptyS nm) && (k==1 || v.same Vl.zero))
def truth (b:Bool):Vl:=⟨3,if b then 1 else 0,.empty⟩
inductive Gx where
 | val (v:Vl)
 | col (nm:ByteArray)
 | un (k:Int) (x:Gx)
 | bin (k:Int) (x y:Gx)
def Gx.ex:Gx→Ex
 | .val v=>.mk 1 v .empty []
 | .col nm=>.mk 2 Vl.zero nm []
 | .un k x=>.mk k Vl.zero .empty [x.ex]
 | .bin k x y=>.mk k Vl.zero .empty [x.ex,y.ex]
def Gx.right (cols:List Col):Gx→Prop
 | .val v=>v.chk=0
 | .col nm=>0≤findC cols nm
 | .un k x=>(k=3 ∨ k=4)∧x.right cols
 | .bin k x y=>(5≤k∧k≤11)∧x.right cols∧y.right cols
end Go.Proofs.YtjdgejfhnfnmgaaGreatDoor
namespace Go.Proofs.YtjdgejfhnfnmgaaGreatDoor
open Go.RowKit
def letterB (c:UInt8):Bool:=decide (97≤(c.toNat:Int)) && decide ((c.toNat:Int)≤122)
def digitB (c:UInt8):Bool:=decide (48≤(c.toNat:Int)) && decide ((c.toNat:Int)≤57)
def blankB (c:UInt8):Bool:=((c.toNat:Int)==32) || ((c.toNat:Int)==9) || ((c.toNat:Int)==10)
def wordB (c:UInt8):Bool:=letterB c || digitB c
structure Tk where
 k:Int
 at_:Int
 s:ByteArray
abbrev Tk.cells (t:Tk):List Value:=[.int .i64 t.k,.int .i64 t.at_,.string t.s]
abbrev Tk.val (t:Tk):Value:=.agg #[.int .i64 t.k,.int .i64 t.at_,.string t.s]
theorem drop_eq' {α:Type} (l:List α) (k:Nat) (x:α) (h:l[k]?=some x):l.drop k=x :: l.drop (k + 1):=by
 obtain ⟨hk,rfl⟩:=List.getElem?_eq_some_iff.1 h
 exact List.drop_eq_getElem_cons hk
def runN (q:UInt8→Bool):List UInt8→Nat
 | []=>0
 | x :: l=>if q x=true then runN q l + 1 else 0
theorem runN_le (q:UInt8→Bool) (l:List UInt8):runN q l≤l.length:=by
 induction l with
 | nil=>simp [runN]
 | cons x l ih=>simp only [runN];split <;> simp;omega
def quotN (l:List UInt8):Nat:=runN quotB l
def quotEnds (l:List UInt8):Bool:=match l.drop (quotN l) with | x :: _=>x==39 | []=>false
def sign1 (c:UInt8):Bool:=decide (0≤Lib.indexByte [40,41,44,59,42,61,60,43,45] c)
def bars (l:List UInt8):Bool:=Lib.hasPrefix l [124,124]
def tokL (x:UInt8) (l:List UInt8):Nat × Nat × Nat :=
 if letterB x=true then (1,runN wordB l + 1,if 12 < runN wordB l + 1 then 2 else 0)
 else if digitB x=true then (2,runN digitB l + 1,if 9 < runN digitB l + 1 then 2 else if 1 < runN digitB l + 1∧x=48 then 1 else 0)
 else if x=39 then (if quotEnds l=true then (3,quotN l + 2,if 20 < quotN l then 2 else 0) else (3,1,1))
 else if bars (x :: l)=true then (4,2,0)
 else if sign1 x=true then (4,1,0)
 else (4,0,1)
end Go.Proofs.YtjdgejfhnfnmgaaGreatDoor
namespace Go.Proofs.YtjdgejfhnfnmgaaGreatDoor
open Go.RowKit
def scanF:Nat→List UInt8→Nat→List Vl × Nat × Nat
 | 0,_,_=>([],0,0)
 | f + 1,l,p =>
  match l.drop (runN blankB l) with
  | []=>([],0,0)
  | x :: r =>
   if (tokL x r).2.2=0 then
    (if (scanF f ((x :: r).drop (tokL x r).2.1) (p + runN blankB l + (tokL x r).2.1)).2.2=0 then
     (⟨(tokL x r).1,(p + runN blankB l:Nat),bs ((x :: r).take (tokL x r).2.1)⟩ :: (scanF f ((x :: r).drop (tokL x r).2.1) (p + runN blankB l + (tokL x r).2.1)).1,0,0)
    else ([],(scanF f ((x :: r).drop (tokL x r).2.1) (p + runN blankB l + (tokL x r).2.1)).2))
   else ([],p + runN blankB l,(tokL x r).2.2)
def scanS (s:ByteArray):List Vl × Nat × Nat:=if 2000 < s.size then ([],0,2) else scanF (s.size + 1) s.data.toList 0
def comb (vs:List Vl) (r:List Vl × Nat × Nat):List Vl × Nat × Nat:=if r.2.2=0 then (vs++r.1,0,0) else ([],r.2)
theorem tokL_pos (x:UInt8) (r:List UInt8) (h:(tokL x r).2.2=0):0 < (tokL x r).2.1∧(tokL x r).2.1≤r.length + 1:=by
 have h1:=runN_le wordB r
 have h2:=runN_le digitB r
 have h3:=runN_le quotB r
 unfold tokL at h ⊢
 split at h
 ·rename_i hl;rw [if_pos hl];simp only;omega
 rename_i hl
 split at h
 ·rename_i hd;rw [if_neg hl,if_pos hd];simp only;omega
 rename_i hd
 split at h
 ·rename_i h39
  split at h
  ·rename_i hq
   rw [if_neg hl,if_neg hd,if_pos h39,if_pos hq]
   simp only [quotN]
   have:runN quotB r < r.length:=by
    unfold quotEnds quotN at hq
    rcases Nat.lt_or_ge (runN quotB r) r.length with h | h
    ·exact h
    ·rw [List.drop_eq_nil_of_le h] at hq;cases hq
   omega
  ·cases h
 rename_i h39
 split at h
 ·rename_i hb
  rw [if_neg hl,if_neg hd,if_neg h39,if_pos hb]
  have:[124,124] <+: x :: r:=List.isPrefixOf_iff_prefix.1 hb
  have:=this.length_le
  simp at this ⊢
  omega
 rename_i hb
 split at h
 ·rename_i hs;rw [if_neg hl,if_neg hd,if_neg h39,if_neg hb,if_pos hs];simp
 ·cases h
theorem scan_step (f:Nat) (l:List UInt8) (p:Nat) (x:UInt8) (r:List UInt8) (vs:List Vl) (hl:l.drop (runN blankB l)=x :: r) (h0:(tokL x r).2.2=0) :
  comb vs (scanF (f + 1) l p)=comb (vs++[⟨(tokL x r).1,(p + runN blankB l:Nat),bs ((x :: r).take (tokL x r).2.1)⟩]) (scanF f ((x :: r).drop (tokL x r).2.1) (p + runN blankB l + (tokL x r).2.1)):=by
 rw [scanF,hl]
 simp only
 rw [if_pos h0]
 simp only [comb]
 split
 ·simp
 ·simp
theorem scan_bad (f:Nat) (l:List UInt8) (p:Nat) (x:UInt8) (r:List UInt8) (vs:List Vl) (hl:l.drop (runN blankB l)=x :: r) (h0:¬ (tokL x r).2.2=0) :
  comb vs (scanF (f + 1) l p)=([],p + runN blankB l,(tokL x r).2.2):=by
 rw [scanF,hl]
 simp only
 rw [if_neg h0]
 simp [comb,h0]
theorem scan_end (f:Nat) (l:List UInt8) (p:Nat) (vs:List Vl) (hl:l.drop (runN blankB l)=[]):comb vs (scanF (f + 1) l p)=(vs,0,0):=by
 rw [scanF,hl]
 simp [comb]
theorem scanF_norm (f:Nat) (l:List UInt8) (p:Nat):comb [] (scanF f l p)=scanF f l p:=by
 cases f with
 | zero=>simp [scanF,comb]
 | succ f =>
  rw [scanF]
  split
  ·simp [comb]
  ·split
   ·split
    ·simp [comb]
    ·rename_i h;simp [comb,h]
   ·rename_i h;simp [comb,h]
end Go.Proofs.YtjdgejfhnfnmgaaGreatDoor
namespace Go.Proofs.YtjdgejfhnfnmgaaGreatDoor
open Go.RowKit
def tokA (x:UInt8) (l:List UInt8):Nat × Nat :=
 if letterB x=true then (1,runN wordB l + 1)
 else if digitB x=true then (2,runN digitB l + 1)
 else if x=39 then (if quotEnds l=true then (3,quotN l + 2) else (0,0))
 else if bars (x :: l)=true then (4,2)
 else if sign1 x=true then (4,1)
 else (0,0)
def wrongA (k n:Nat) (x:UInt8):Nat :=
 if k=0 then 1 else if (k=1∧12 < n) ∨ (k=2∧9 < n) ∨ (k=3∧22 < n) then 2 else if k=2∧1 < n∧x=48 then 1 else 0
theorem tokA_kind (x:UInt8) (r:List UInt8):(tokA x r).1≤4:=by
 unfold tokA
 repeat' split
 all_goals simp
theorem tokA_len (x:UInt8) (r:List UInt8):(tokA x r).2≤r.length + 1:=by
 have h1:=runN_le wordB r
 have h2:=runN_le digitB r
 unfold tokA
 split
 ·simp only;omega
 split
 ·simp only;omega
 split
 ·split
  ·rename_i hq
   have:runN quotB r < r.length:=by
    unfold quotEnds quotN at hq
    rcases Nat.lt_or_ge (runN quotB r) r.length with h | h
    ·exact h
    ·rw [List.drop_eq_nil_of_le h] at hq;cases hq
   simp only [quotN];omega
  ·simp
 split
 ·rename_i hb
  have:[124,124] <+: x :: r:=List.isPrefixOf_iff_prefix.1 hb
  have:=this.length_le
  simp at this ⊢
  omega
 split <;> simp
theorem wrong_tok (x:UInt8) (r:List UInt8):wrongA (tokA x r).1 (tokA x r).2 x=(tokL x r).2.2:=by
 unfold tokA tokL
 split
 ·simp only [wrongA];repeat' split
  all_goals (first | rfl | omega | (simp_all;done) | (simp_all;omega))
 split
 ·simp only [wrongA];repeat' split
  all_goals (first | rfl | omega | (simp_all;done) | (simp_all;omega))
 split
 ·split
  ·simp only [wrongA];repeat' split
   all_goals (first | rfl | omega | (simp_all;done) | (simp_all;omega))
  ·rfl
 split
 ·simp [wrongA]
 split
 ·simp [wrongA]
 ·simp [wrongA]
theorem tok_same (x:UInt8) (r:List UInt8) (h:(tokL x r).2.2=0):tokA x r=((tokL x r).1,(tokL x r).2.1):=by
 unfold tokL at h
 unfold tokA tokL
 repeat' split
 all_goals first | rfl | (exfalso;simp_all)
theorem tokL_kind (x:UInt8) (r:List UInt8):(tokL x r).1 ≠ 0:=by
 unfold tokL
 repeat' split
 all_goals simp
theorem tokA_blank (x:UInt8) (r:List UInt8) (h:blankB x=true):tokA x r=(0,0):=by
 have h3:x=32 ∨ x=9 ∨ x=10:=by
  simp only [blankB,Bool.or_eq_true,beq_iff_eq] at h
  rcases h with (h | h) | h
  ·exact .inl (UInt8.toNat_inj.1 (by rw [show (32:UInt8).toNat=32 from rfl];omega))
  ·exact .inr (.inl (UInt8.toNat_inj.1 (by rw [show (9:UInt8).toNat=9 from rfl];omega)))
  ·exact .inr (.inr (UInt8.toNat_inj.1 (by rw [show (10:UInt8).toNat=10 from rfl];omega)))
 rcases h3 with rfl | rfl | rfl
 all_goals
  unfold tokA
  rw [if_neg (by decide),if_neg (by decide),if_neg (by decide),if_neg (by simp [bars,Lib.hasPrefix,List.isPrefixOf]),if_neg (by decide)]
def oneB (k:Int) (s:ByteArray):Bool:=match scanS s with | ([t],_,0)=>(t.k==k) && (t.s.toList==s.toList) | _=>false
def tokB (k:Int) (s:ByteArray):Bool:=match s.data.toList with
 | []=>false
 | x :: r=>decide (s.size≤2000) && !(k==0) && (((tokA x r).1:Int)==k) && decide ((tokA x r).2=s.size) && decide ((tokL x r).2.2=0)
theorem oneB_of {k:Int} {s:ByteArray} (h:oneB k s=true):∃ t p,scanS s=([t],p,0)∧t.k=k∧t.s=s:=by
 unfold oneB at h
 split at h
 ·rename_i t p heq
  simp only [Bool.and_eq_true,beq_iff_eq] at h
  refine ⟨t,p,heq,h.1,?_⟩
  have h2:=h.2
  rw [ByteArray.toList_eq,ByteArray.toList_eq] at h2
  obtain ⟨k',n,⟨⟨l⟩⟩⟩:=t
  obtain ⟨⟨l'⟩⟩:=s
  simp only at h2 ⊢
  rw [h2]
 ·cases h
theorem oneB_intro {k:Int} {s:ByteArray} {t:Vl} {p:Nat} (h:scanS s=([t],p,0)) (hk:t.k=k) (hs:t.s=s):oneB k s=true:=by
 unfold oneB
 rw [h]
 simp [hk,hs]
theorem scan_front (f:Nat) (l:List UInt8) (p:Nat) (x:UInt8) (r:List UInt8) (hl:l.drop (runN blankB l)=x :: r) :
  scanF (f + 1) l p=if (tokL x r).2.2=0 then comb [⟨(tokL x r).1,(p + runN blankB l:Nat),bs ((x :: r).take (tokL x r).2.1)⟩] (scanF f ((x :: r).drop (tokL x r).2.1) (p + runN blankB l + (tokL x r).2.1)) else ([],p + runN blankB l,(tokL x r).2.2):=by
 split
 ·rename_i h0
  rw [← scanF_norm (f + 1),scan_step f l p x r [] hl h0]
  rfl
 ·rename_i h0
  rw [← scanF_norm (f + 1),scan_bad f l p x r [] hl h0]
theorem one_tok (k:Int) (s:ByteArray):oneB k s=tokB k s:=by
 have hsz:s.size=s.data.toList.length:=by rw [Array.length_toList];rfl
 rw [Bool.eq_iff_iff]
 unfold tokB
 by_cases h2:2000 < s.size
 ·constructor
  ·intro h
   obtain ⟨t,p,h,_,_⟩:=oneB_of h
   rw [scanS,if_pos h2] at h
   simp at h
  ·intro h
   split at h
   ·cases h
   ·simp only [Bool.and_eq_true,decide_eq_true_eq] at h;omega
 have hS:scanS s=scanF (s.size + 1) s.data.toList 0:=by rw [scanS,if_neg h2]
 rcases hl:s.data.toList with _ | ⟨x,r⟩
 ·constructor
  ·intro h
   obtain ⟨t,p,h,_,_⟩:=oneB_of h
   rw [hS,hl] at h
   simp [scanF] at h
  ·intro h;cases h
 rw [hl] at hsz hS
 simp only [List.length_cons] at hsz
 dsimp only
 have hb:bs (x :: r)=s:=by rw [← hl];obtain ⟨⟨l⟩⟩:=s;rfl
 by_cases hbl:blankB x=true
 ·simp only [tokA_blank _ _ hbl]
  constructor
  ·intro h
   exfalso
   obtain ⟨t,p,h,_,hts⟩:=oneB_of h
   rw [hS] at h
   have hr:runN blankB (x :: r)=runN blankB r + 1:=by rw [runN,if_pos hbl]
   have hle:=runN_le blankB r
   rcases hd:(x :: r).drop (runN blankB (x :: r)) with _ | ⟨y,r'⟩
   ·rw [← scanF_norm,scan_end _ _ _ _ hd] at h
    simp at h
   ·rw [scan_front _ _ _ _ _ hd] at h
    split at h
    ·simp only [comb] at h
     split at h
     ·simp only [List.singleton_append,Prod.mk.injEq,List.cons.injEq] at h
      obtain ⟨⟨rfl,_⟩,_⟩:=h
      simp only at hts
      have:=congrArg ByteArray.size hts
      have e:=congrArg List.length hd
      rw [List.length_drop,hr] at e
      simp only [List.length_cons] at e
      rw [bs_size,List.length_take,List.length_cons] at this
      omega
     ·simp at h
    ·simp at h
  ·intro h
   simp only [Bool.and_eq_true,Bool.not_eq_true',beq_eq_false_iff_ne,decide_eq_true_eq,beq_iff_eq] at h
   obtain ⟨⟨⟨⟨_,h0⟩,h1⟩,_⟩,_⟩:=h
   omega
 ·have hr:runN blankB (x :: r)=0:=by rw [runN,if_neg hbl]
  have hd:(x :: r).drop (runN blankB (x :: r))=x :: r:=by rw [hr];rfl
  have hF:=scan_front s.size _ 0 _ _ hd
  rw [← hS] at hF
  by_cases h0:(tokL x r).2.2=0
  ·rw [if_pos h0] at hF
   rw [tok_same _ _ h0]
   obtain ⟨hn1,hn2⟩:=tokL_pos _ _ h0
   have hk:=tokL_kind x r
   have htk:((x :: r).take (tokL x r).2.1).length=(tokL x r).2.1:=by rw [List.length_take,List.length_cons];omega
   constructor
   ·intro h
    obtain ⟨t,p,h,h3,h4⟩:=oneB_of h
    rw [hF,comb] at h
    split at h
    ·simp only [List.singleton_append,Prod.mk.injEq,List.cons.injEq] at h
     obtain ⟨⟨rfl,_⟩,_⟩:=h
     simp only at h3 h4
     have:=congrArg ByteArray.size h4
     rw [bs_size,htk] at this
     simp only [h0,Bool.and_eq_true,Bool.not_eq_true',beq_eq_false_iff_ne,decide_eq_true_eq,beq_iff_eq]
     exact ⟨⟨⟨⟨by omega,by omega⟩,h3⟩,this⟩,trivial⟩
    ·simp at h
   ·intro h
    simp only [Bool.and_eq_true,Bool.not_eq_true',beq_eq_false_iff_ne,decide_eq_true_eq,beq_iff_eq] at h
    obtain ⟨⟨⟨⟨_,_⟩,h1⟩,h3⟩,_⟩:=h
    have hdn:(x :: r).drop (tokL x r).2.1=[]:=List.drop_eq_nil_of_le (by rw [List.length_cons];omega)
    have htn:(x :: r).take (tokL x r).2.1=x :: r:=List.take_of_length_le (by rw [List.length_cons];omega)
    rw [hdn,htn] at hF
    have hnil:∀ p,scanF s.size [] p=([],0,0):=by
     intro p
     obtain ⟨z,hz⟩:∃ z,s.size=z + 1:=⟨s.size - 1,by omega⟩
     rw [hz,scanF];rfl
    rw [hnil] at hF
    exact oneB_intro (p:=0) (by rw [hF];rfl) h1 hb
  ·rw [if_neg h0] at hF
   simp only [h0,decide_false,Bool.and_false]
   constructor
   ·intro h
    obtain ⟨t,p,h,_,_⟩:=oneB_of h
    rw [hF] at h
    simp at h
   ·intro h;cases h
end Go.Proofs.YtjdgejfhnfnmgaaGreatDoor
namespace Go.Proofs.YtjdgejfhnfnmgaaGreatDoor
open Go.RowKit
def wordsL:List ByteArray:=[⟨#[99,114,101,97,116,101]⟩,⟨#[116,97,98,108,101]⟩,⟨#[100,114,111,112]⟩,⟨#[97,108,116,101,114]⟩,⟨#[97,100,100]⟩,⟨#[100,101,102,97,117,108,116]⟩,⟨#[114,101,110,97,109,101]⟩,⟨#[116,111]⟩,⟨#[114,101,116,121,112,101]⟩,⟨#[105,110,100,101,120]⟩,⟨#[111,110]⟩,⟨#[105,110,115,101,114,116]⟩,⟨#[105,110,116,111]⟩,⟨#[118,97,108,117,101,115]⟩,⟨#[100,101,108,101,116,101]⟩,⟨#[102,114,111,109]⟩,⟨#[119,104,101,114,101]⟩,⟨#[117,112,100,97,116,101]⟩,⟨#[115,101,116]⟩,⟨#[115,101,108,101,99,116]⟩,⟨#[111,114,100,101,114]⟩,⟨#[98,121]⟩,⟨#[108,105,109,105,116]⟩,⟨#[98,101,103,105,110]⟩,⟨#[99,111,109,109,105,116]⟩,⟨#[114,111,108,108,98,97,99,107]⟩,⟨#[105,110,116]⟩,⟨#[116,101,120,116]⟩,⟨#[98,111,111,108]⟩,⟨#[116,114,117,101]⟩,⟨#[102,97,108,115,101]⟩,⟨#[110,117,108,108]⟩,⟨#[110,111,116]⟩,⟨#[105,115]⟩,⟨#[97,110,100]⟩,⟨#[111,114]⟩]
def isWordB (s:ByteArray):Bool:=wordsL.any fun x=>x.toList==s.toList
def nameB (s:ByteArray):Bool:=tokB 1 s && !isWordB s
mutual
def exprB:Ex→Bool
 | .mk k v nm ar=>plainB k v nm ar.length && ((!(k==2) || nameB nm) && ((v.chk==0) && exprsB ar))
def exprsB:List Ex→Bool
 | []=>true
 | x :: l=>exprB x && exprsB l
end
def Ex.k:Ex→Int | .mk k _ _ _=>k
def noneB:Ex→Bool
 | .mk k v nm ar=>(k==0) && (v.same Vl.zero && (emptyS nm && ((ar.length:Int)==0)))
mutual
def sameE:Ex→Ex→Bool
 | .mk k v nm ar,.mk k' v' nm' ar'=>(k==k') && ((nm.toList==nm'.toList) && (v.same v' && sameEs ar ar'))
def sameEs:List Ex→List Ex→Bool
 | [],[]=>true
 | x :: l,y :: m=>sameE x y && sameEs l m
 | _,_=>false
end
theorem sameEs_len:∀ (l m:List Ex),sameEs l m=true→l.length=m.length
 | [],[],_=>rfl
 | x :: l,y :: m,h=>by
  rw [sameEs,Bool.and_eq_true] at h
  rw [List.length_cons,List.length_cons,sameEs_len l m h.2]
 | [],_ :: _,h=>by rw [sameEs] at h;cases h;all_goals simp
 | _ :: _,[],h=>by rw [sameEs] at h;cases h;all_goals simp
theorem exprsB_any:∀ l:List Ex,exprsB l=!(l.any fun x=>!exprB x)
 | []=>rfl
 | x :: l=>by
  rw [exprsB,List.any_cons,exprsB_any l]
  cases exprB x <;> simp
structure Cm where
 k:Int
 name:ByteArray
 other:ByteArray
 column:ByteArray
 cols:List Col
 ty:Int
 v:Vl
 vals:List Vl
 fields:List ByteArray
 ex:Ex
 all:Bool
 wh:Ex
 order:ByteArray
 limit:Int
def eqBy {α:Type} (p:α→α→Bool):List α→List α→Bool
 | [],[]=>true
 | a :: l,b :: m=>p a b && eqBy p l m
 | _,_=>false
theorem eqBy_len {α:Type} (p:α→α→Bool):∀ (l m:List α),eqBy p l m=true→l.length=m.length
 | [],[],_=>rfl
 | x :: l,y :: m,h=>by
  rw [eqBy,Bool.and_eq_true] at h
  rw [List.length_cons,List.length_cons,eqBy_len p l m h.2]
 | [],_ :: _,h=>by simp [eqBy] at h
 | _ :: _,[],h=>by simp [eqBy] at h
theorem eqBy_not {α:Type} {p:α→α→Bool} {l m:List α} (h:¬ l.length=m.length):eqBy p l m=false:=by
 rw [Bool.eq_false_iff]
 exact fun g=>h (eqBy_len p l m g)
theorem eqBy_drop {α:Type} {p:α→α→Bool} {l m:List α} {i:Nat} {x y:α} (hx:l[i]?=some x) (hy:m[i]?=some y):eqBy p (l.drop i) (m.drop i)=(p x y && eqBy p (l.drop (i + 1)) (m.drop (i + 1))):=by
 rw [drop_eq' _ _ _ hx,drop_eq' _ _ _ hy,eqBy]
def colEq (a b:Col):Bool:=(a.name.toList==b.name.toList) && (a.ty==b.ty)
def strEq (a b:ByteArray):Bool:=a.toList==b.toList
def sameC (c d:Cm):Bool :=
 (c.k==d.k) && (c.name.toList==d.name.toList) && (c.other.toList==d.other.toList) && (c.column.toList==d.column.toList) && (c.ty==d.ty) && c.v.same d.v && (c.all==d.all) && (c.order.toList==d.order.toList) && (c.limit==d.limit) &&
 sameE c.ex d.ex && sameE c.wh d.wh && eqBy colEq c.cols d.cols && eqBy strEq c.fields d.fields && eqBy Vl.same c.vals d.vals
def namedB (s:ByteArray) (must:Bool):Bool:=if must=true then nameB s else emptyS s
def kName (k:Int):Bool:=decide (1≤k) && decide (k≤13)
def kOther (k:Int):Bool:=(k==5) || ((k==7) || (k==8))
def kColumn (k:Int):Bool:=(decide (3≤k) && decide (k≤6)) || ((k==8) || (k==12))
def kType (k:Int):Bool:=(k==3) || (k==6)
def kWhere (k:Int):Bool:=decide (11≤k) && decide (k≤13)
end Go.Proofs.YtjdgejfhnfnmgaaGreatDoor
namespace Go.Proofs.YtjdgejfhnfnmgaaGreatDoor
open Go.RowKit
def Gx.ok:Gx→Prop
 | .val v=>v.chk=0
 | .col nm=>nameB nm=true
 | .un k x=>(k=3 ∨ k=4)∧x.ok
 | .bin k x y=>(5≤k∧k≤11)∧x.ok∧y.ok
end Go.Proofs.YtjdgejfhnfnmgaaGreatDoor
namespace Go.Proofs.YtjdgejfhnfnmgaaGreatDoor
open Go.RowKit
end Go.Proofs.YtjdgejfhnfnmgaaGreatDoor
namespace Go.Proofs.YtjdgejfhnfnmgaaGreatDoor
open Go.RowKit
theorem runN_take (q:UInt8→Bool) (l:List UInt8) (j:Nat):runN q (l.take j)=min j (runN q l):=by
 induction l generalizing j with
 | nil=>simp [runN]
 | cons x l ih =>
  cases j with
  | zero=>simp [runN]
  | succ j =>
   simp only [List.take_succ_cons,runN,ih]
   split
   ·omega
   ·simp
theorem quot_lt {l:List UInt8} (h:quotEnds l=true):quotN l < l.length:=by
 unfold quotEnds at h
 rcases Nat.lt_or_ge (quotN l) l.length with h2 | h2
 ·exact h2
 ·rw [List.drop_eq_nil_of_le h2] at h;cases h
def Beh (S:List UInt8):Prop:=S=[] ∨ ∃ S',S=32 :: S'
theorem Beh.run {S:List UInt8} (h:Beh S) (q:UInt8→Bool) (hq:q 32=false):runN q S=0:=by
 rcases h with rfl | ⟨S',rfl⟩
 ·rfl
 ·rw [runN,if_neg (by simp [hq])]
theorem bars_two (x y:UInt8) (S:List UInt8):bars (x :: y :: S)=(x==124 && y==124):=by
 unfold bars Lib.hasPrefix
 simp only [List.isPrefixOf,Bool.and_true]
 rw [BEq.comm (a:=(124:UInt8)),BEq.comm (a:=(124:UInt8))]
theorem bars_one (x:UInt8):bars [x]=false:=by
 unfold bars Lib.hasPrefix
 simp [List.isPrefixOf]
theorem tokL_take (x:UInt8) (r:List UInt8) (h0:(tokL x r).2.2=0):tokL x (r.take ((tokL x r).2.1 - 1))=tokL x r:=by
 unfold tokL at h0 ⊢
 by_cases hl:letterB x=true
 ·simp only [if_pos hl,Nat.add_sub_cancel,runN_take,Nat.min_self]
 simp only [if_neg hl] at h0 ⊢
 by_cases hd:digitB x=true
 ·simp only [if_pos hd,Nat.add_sub_cancel,runN_take,Nat.min_self]
 simp only [if_neg hd] at h0 ⊢
 by_cases h39:x=39
 ·simp only [if_pos h39] at h0 ⊢
  by_cases hq:quotEnds r=true
  ·have hlt:=quot_lt hq
   simp only [if_pos hq,show quotN r + 2 - 1=quotN r + 1 from rfl]
   have e:quotN (r.take (quotN r + 1))=quotN r:=by
    rw [quotN,runN_take]
    show min (quotN r + 1) (quotN r)=_
    omega
   have e2:quotEnds (r.take (quotN r + 1))=true:=by
    rw [← hq]
    unfold quotEnds
    rw [e,List.drop_take]
    obtain ⟨y,z,hyz⟩:∃ y z,r.drop (quotN r)=y :: z:=⟨_,_,List.drop_eq_getElem_cons hlt⟩
    rw [hyz,show quotN r + 1 - quotN r=1 from by omega];rfl
   rw [if_pos e2,e]
  ·rw [if_neg hq] at h0;simp at h0
 simp only [if_neg h39] at h0 ⊢
 by_cases hb:bars (x :: r)=true
 ·simp only [if_pos hb] at h0 ⊢
  rcases r with _ | ⟨y,z⟩
  ·rw [bars_one] at hb;cases hb
  ·rw [bars_two] at hb
   rw [if_pos (by simp only [List.take_succ_cons,List.take_zero,show 2 - 1=1 from rfl];rw [bars_two];exact hb)]
 simp only [if_neg hb] at h0 ⊢
 by_cases hs:sign1 x=true
 ·simp only [if_pos hs,Nat.sub_self,List.take_zero,bars_one,Bool.false_eq_true,if_false]
 ·simp only [if_neg hs] at h0;simp at h0
theorem tokB_of (x:UInt8) (r:List UInt8) (h0:(tokL x r).2.2=0) (hsz:(tokL x r).2.1≤2000):oneB (tokL x r).1 (bs ((x :: r).take (tokL x r).2.1))=true:=by
 obtain ⟨h1,h2⟩:=tokL_pos x r h0
 obtain ⟨m,hm⟩:∃ m,(tokL x r).2.1=m + 1:=⟨(tokL x r).2.1 - 1,by omega⟩
 have ht:=tokL_take x r h0
 rw [one_tok]
 unfold tokB
 have hl:(bs ((x :: r).take (tokL x r).2.1)).data.toList=x :: r.take ((tokL x r).2.1 - 1):=by
  rw [hm];rfl
 have hs:(bs ((x :: r).take (tokL x r).2.1)).size=(tokL x r).2.1:=by rw [bs_size,List.length_take,List.length_cons];omega
 rw [hl,hs]
 dsimp only
 rw [tok_same x (r.take ((tokL x r).2.1 - 1)) (by rw [ht];exact h0),ht]
 have hk:=tokL_kind x r
 simp only [Bool.and_eq_true,Bool.not_eq_true',beq_eq_false_iff_ne,decide_eq_true_eq,beq_iff_eq]
 exact ⟨⟨⟨⟨hsz,by omega⟩,trivial⟩,trivial⟩,h0⟩
def allOne (vs:List Vl):Bool:=vs.all fun v=>oneB v.k v.s
theorem size_list (s:ByteArray):s.data.toList.length=s.size:=by rw [Array.length_toList];rfl
theorem scanF_both {f:Nat} {l:List UInt8} {p:Nat} {ts:List Vl} {q e:Nat} (h:scanF f l p=(ts,q,e)):(e=0→q=0)∧(¬ e=0→ts=[]):=by
 cases f with
 | zero=>simp [scanF] at h;obtain ⟨rfl,rfl,rfl⟩:=h;simp
 | succ f =>
  rw [scanF] at h
  split at h
  ·simp at h;obtain ⟨rfl,rfl,rfl⟩:=h;simp
  ·split at h
   ·split at h
    ·simp only [Prod.mk.injEq] at h
     obtain ⟨_,rfl,rfl⟩:=h
     simp
    ·rename_i h2
     simp only [Prod.mk.injEq] at h
     obtain ⟨rfl,h⟩:=h
     refine ⟨fun h3=>absurd ?_ h2,fun _=>rfl⟩
     rw [h];exact h3
   ·rename_i h2
    simp only [Prod.mk.injEq] at h
    obtain ⟨rfl,rfl,rfl⟩:=h
    exact ⟨fun h3=>absurd h3 h2,fun _=>rfl⟩
theorem scanF_zero {f:Nat} {l:List UInt8} {p:Nat} {ts:List Vl} {q:Nat} (h:scanF f l p=(ts,q,0)):q=0:=(scanF_both h).1 rfl
theorem scanF_one (f:Nat) (l:List UInt8) (p:Nat) (hl:l.length≤2000) (ts:List Vl) (h:scanF f l p=(ts,0,0)):allOne ts=true∧ts.length≤l.length:=by
 induction f generalizing l p ts with
 | zero=>simp [scanF] at h;subst h;simp [allOne]
 | succ f ih =>
  rcases hd:l.drop (runN blankB l) with _ | ⟨x,r⟩
  ·rw [← scanF_norm,scan_end _ _ _ _ hd] at h
   simp at h;subst h;simp [allOne]
  ·have hlr:r.length + 1≤l.length:=by
    have:=congrArg List.length hd
    rw [List.length_drop,List.length_cons] at this;omega
   rw [scan_front _ _ _ _ _ hd] at h
   split at h
   ·rename_i h0
    obtain ⟨h1,h2⟩:=tokL_pos x r h0
    rcases hF:scanF f ((x :: r).drop (tokL x r).2.1) (p + runN blankB l + (tokL x r).2.1) with ⟨us,q,e⟩
    rw [hF,comb] at h
    split at h
    ·rename_i he
     simp only at he
     subst he
     simp only [List.singleton_append,Prod.mk.injEq,and_true] at h
     have hq:q=0:=scanF_zero hF
     subst hq
     obtain ⟨a1,a2⟩:=ih _ _ (by rw [List.length_drop,List.length_cons];omega) us hF
     rw [List.length_drop,List.length_cons] at a2
     subst h
     refine ⟨?_,by rw [List.length_cons];omega⟩
     simp only [allOne,List.all_cons,Bool.and_eq_true] at a1 ⊢
     exact ⟨tokB_of x r h0 (by omega),a1⟩
    ·rename_i he;simp at h;exact absurd h.2.2 he
   ·rename_i h0;simp at h;exact absurd h.2.2 h0
theorem scanS_one (s:ByteArray) (h:(scanS s).2.2=0):allOne (scanS s).1=true∧(scanS s).2.1=0:=by
 unfold scanS at h ⊢
 split at h
 ·cases h
 ·rename_i h2
  rw [if_neg h2]
  rcases hF:scanF (s.size + 1) s.data.toList 0 with ⟨ts,q,e⟩
  rw [hF] at h
  simp only at h
  subst h
  have:=scanF_zero hF
  subst this
  exact ⟨(scanF_one _ _ _ (by rw [size_list];omega) _ hF).1,rfl⟩
end Go.Proofs.YtjdgejfhnfnmgaaGreatDoor
