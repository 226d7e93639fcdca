/-  -/
import Derived.Test.YtjdgejfhnfnmgaaGreatDoorP12
import Derived.Test.YtjdgejfhnfnmgaaGreatDoorPxTy
import Derived.Test.YtjdgejfhnfnmgaaGreatDoorP7
import Derived.Test.YtjdgejfhnfnmgaaGreatDoorRows
import Derived.Test.YtjdgejfhnfnmgaaGreatDoorP0
import Derived.Lib.Hide
import Derived.WalkKit
namespace Go.Proofs.YtjdgejfhnfnmgaaGreatDoor
open Go.RowKit
structure RS where
 at_:Nat
 bad:Bool
def txQ (l:List Vl) (r:RS):ByteArray:=if r.bad=true then ⟨#[]⟩ else match l[r.at_]? with
 | some t=>t.s
 | none=>⟨#[]⟩
def takeQ (l:List Vl) (s:ByteArray) (r:RS):Bool × RS:=if r.bad=true then (false,r) else if strEq (txQ l r) s=true then (true,⟨r.at_ + 1,false⟩) else (false,r)
def needQ (l:List Vl) (s:ByteArray) (r:RS):RS:=if (takeQ l s r).1=true then (takeQ l s r).2 else ⟨r.at_,true⟩
def nameQ (l:List Vl) (r:RS):ByteArray × RS:=if nameB (txQ l r)=true then (txQ l r,⟨r.at_ + 1,r.bad⟩) else (⟨#[]⟩,⟨r.at_,true⟩)
theorem txQ_bad {l:List Vl} {r:RS} (h:r.bad=true):txQ l r=⟨#[]⟩:=by unfold txQ;rw [if_pos h]
theorem txQ_some {l:List Vl} {r:RS} {t:Vl} (h:r.bad=false) (ht:l[r.at_]?=some t):txQ l r=t.s:=by unfold txQ;rw [if_neg (by rw [h];decide),ht]
theorem txQ_none {l:List Vl} {r:RS} (ht:l[r.at_]?=none):txQ l r=⟨#[]⟩:=by
 unfold txQ
 split
 ·rfl
 ·rw [ht]
theorem strEq_iff {a b:ByteArray}:strEq a b=true ↔ a=b:=by
 unfold strEq
 rw [ByteArray.toList_eq,ByteArray.toList_eq,beq_iff_eq]
 constructor
 ·intro h
  exact ByteArray.ext (Array.ext' h)
 ·intro h;rw [h]
def fst8 (u:ByteArray):Option UInt8:=u.data.toList.head?
def digF (u:ByteArray):Bool:=match fst8 u with
 | some c=>digitB c
 | none=>false
def quoF (u:ByteArray):Bool:=match fst8 u with
 | some c=>c==39
 | none=>false
def numL (l:List UInt8):Int:=l.foldl (fun n c=>10 * n + (c.toNat:Int) - 48) 0
def numQ (l:List Vl) (r:RS):Int × RS:=if digF (txQ l r)=true then (numL (txQ l r).data.toList,⟨r.at_ + 1,r.bad⟩) else (0,⟨r.at_,true⟩)
def wTrue:ByteArray:=⟨#[116,114,117,101]⟩
def wFalse:ByteArray:=⟨#[102,97,108,115,101]⟩
def wNull:ByteArray:=⟨#[110,117,108,108]⟩
def isVB (u:ByteArray):Bool:=strEq u wTrue || (strEq u wFalse || (strEq u wNull || (strEq u ⟨#[45]⟩ || (digF u || quoF u))))
def unq (u:ByteArray):ByteArray:=u.extract 1 (u.size - 1)
def vQ (l:List Vl) (r:RS):Vl × RS :=
 if isVB (txQ l r)=false then (⟨0,0,⟨#[]⟩⟩,⟨r.at_,true⟩)
 else if strEq (txQ l r) wTrue=true then (⟨3,1,⟨#[]⟩⟩,⟨r.at_ + 1,r.bad⟩)
 else if strEq (txQ l r) wFalse=true then (⟨3,0,⟨#[]⟩⟩,⟨r.at_ + 1,r.bad⟩)
 else if strEq (txQ l r) wNull=true then (⟨0,0,⟨#[]⟩⟩,⟨r.at_ + 1,r.bad⟩)
 else if strEq (txQ l r) ⟨#[45]⟩=true then
  (⟨1,-(numQ l (if strEq (txQ l ⟨r.at_ + 1,r.bad⟩) ⟨#[48]⟩=true then ⟨r.at_ + 1,true⟩ else ⟨r.at_ + 1,r.bad⟩)).1,⟨#[]⟩⟩,(numQ l (if strEq (txQ l ⟨r.at_ + 1,r.bad⟩) ⟨#[48]⟩=true then ⟨r.at_ + 1,true⟩ else ⟨r.at_ + 1,r.bad⟩)).2)
 else if quoF (txQ l r)=true then (⟨2,0,unq (txQ l r)⟩,⟨r.at_ + 1,r.bad⟩)
 else (⟨1,(numQ l r).1,⟨#[]⟩⟩,(numQ l r).2)
def typeQ (l:List Vl) (r:RS):Int × RS :=
 if (takeQ l ⟨#[105,110,116]⟩ r).1=true then (1,(takeQ l ⟨#[105,110,116]⟩ r).2)
 else if (takeQ l ⟨#[116,101,120,116]⟩ (takeQ l ⟨#[105,110,116]⟩ r).2).1=true then (2,(takeQ l ⟨#[116,101,120,116]⟩ (takeQ l ⟨#[105,110,116]⟩ r).2).2)
 else (3,needQ l ⟨#[98,111,111,108]⟩ (takeQ l ⟨#[116,101,120,116]⟩ (takeQ l ⟨#[105,110,116]⟩ r).2).2)
def wAnd7:List ByteArray:=[⟨#[97,110,100]⟩,⟨#[111,114]⟩,⟨#[43]⟩,⟨#[45]⟩,⟨#[124,124]⟩,⟨#[60]⟩,⟨#[61]⟩]
def signK (u:ByteArray):Nat→Int
 | 0=>0
 | i + 1=>if strEq u (wAnd7.getD i ⟨#[]⟩)=true then 5 + (i:Int) else signK u i
def signQ (u:ByteArray):Int:=signK u 7
def wOpen:ByteArray:=⟨#[40]⟩
def wShut:ByteArray:=⟨#[41]⟩
def wNot:ByteArray:=⟨#[110,111,116]⟩
def wIs:ByteArray:=⟨#[105,115]⟩
def exQ (l:List Vl):Nat→RS→Ex × RS
 | 0,r =>
  if (strEq (txQ l r) wOpen || strEq (txQ l r) wNot)=true then (.mk 0 Vl.zero .empty [],⟨r.at_,true⟩)
  else if isVB (txQ l r)=true then (.mk 1 (vQ l r).1 .empty [],(vQ l r).2)
  else (.mk 2 Vl.zero (nameQ l r).1 [],(nameQ l r).2)
 | f + 1,r =>
  if strEq (txQ l r) wNot=true then
   (.mk 3 Vl.zero .empty [(exQ l f ⟨r.at_ + 1,r.bad⟩).1],(exQ l f ⟨r.at_ + 1,r.bad⟩).2)
  else if strEq (txQ l r) wOpen=true then
   let a:=exQ l f ⟨r.at_ + 1,r.bad⟩
   let t:=takeQ l wIs a.2
   if t.1=true then (.mk 4 Vl.zero .empty [a.1],needQ l wShut (needQ l wNull t.2))
   else
    let k:=signQ (txQ l t.2)
    let r3:RS:=if k=0 then ⟨t.2.at_,true⟩ else needQ l (wAnd7.getD (k - 5).toNat ⟨#[]⟩) t.2
    let b:=exQ l f r3
    (.mk k Vl.zero .empty [a.1,b.1],needQ l wShut b.2)
  else if isVB (txQ l r)=true then (.mk 1 (vQ l r).1 .empty [],(vQ l r).2)
  else (.mk 2 Vl.zero (nameQ l r).1 [],(nameQ l r).2)
theorem needQ_le {l:List Vl} {s:ByteArray} {r:RS} (h:(takeQ l s r).2.at_≤l.length) (hr:r.at_≤l.length):(needQ l s r).at_≤l.length:=by
 unfold needQ
 split
 ·exact h
 ·exact hr
structure GoodL (l:List Vl):Prop where
 len:l.length≤2000
 tok:∀ t ∈ l,tokB t.k t.s=true
theorem tok_facts {k:Int} {s:ByteArray} (h:tokB k s=true):∃ x r,s.data.toList=x :: r∧s.size≤2000∧(tokA x r).1=k∧(tokA x r).2=s.size∧(tokL x r).2.2=0:=by
 unfold tokB at h
 split at h
 ·cases h
 ·rename_i x r hs
  simp only [Bool.and_eq_true,decide_eq_true_eq,beq_iff_eq] at h
  exact ⟨x,r,hs,h.1.1.1.1,h.1.1.2,h.1.2,h.2⟩
theorem letter_digit {x:UInt8} (h:letterB x=true):digitB x=false∧(x==39)=false:=by
 unfold letterB at h
 unfold digitB
 simp only [Bool.and_eq_true,decide_eq_true_eq] at h
 constructor
 ·simp only [Bool.and_eq_false_iff,decide_eq_false_iff_not];omega
 ·rw [beq_eq_false_iff_ne]
  rintro rfl
  have:(39:UInt8).toNat=39:=rfl
  omega
theorem digit_quo {x:UInt8} (h:digitB x=true):(x==39)=false:=by
 unfold digitB at h
 simp only [Bool.and_eq_true,decide_eq_true_eq] at h
 rw [beq_eq_false_iff_ne]
 rintro rfl
 have:(39:UInt8).toNat=39:=rfl
 omega
theorem fst8_of {s:ByteArray} {x:UInt8} {r:List UInt8} (h:s.data.toList=x :: r):fst8 s=some x:=by unfold fst8;rw [h];rfl
theorem tok_num {k:Int} {s:ByteArray} (h:tokB k s=true):(digF s=true ↔ k=2)∧(k=2→s.size≤9∧s.data.toList.all digitB=true)∧(quoF s=true ↔ k=3)∧(k=3→2≤s.size∧s.size≤22):=by
 obtain ⟨x,r,hs,hz,h1,h2,h3⟩:=tok_facts h
 have hsz:s.size=r.length + 1:=by
  have:s.data.toList.length=s.size:=rfl
  rw [hs,List.length_cons] at this
  omega
 unfold digF quoF
 rw [fst8_of hs]
 dsimp only
 unfold tokA at h1 h2
 unfold tokL at h3
 by_cases c1:letterB x=true
 ·rw [if_pos c1] at h1 h2
  obtain ⟨d1,d2⟩:=letter_digit c1
  rw [d1,d2]
  dsimp only at h1
  exact ⟨⟨fun h=>(by cases h),fun h=>(by omega)⟩,fun h=>(by omega),⟨fun h=>(by cases h),fun h=>(by omega)⟩,fun h=>(by omega)⟩
 ·rw [if_neg c1] at h1 h2 h3
  by_cases c2:digitB x=true
  ·rw [if_pos c2] at h1 h2 h3
   dsimp only at h1 h2 h3
   rw [c2,digit_quo c2]
   refine ⟨⟨fun _=>(by omega),fun _=>rfl⟩,fun _=>⟨?_,?_⟩,⟨fun h=>(by cases h),fun h=>(by omega)⟩,fun h=>(by omega)⟩
   ·split at h3
    ·cases h3
    ·omega
   ·rw [hs,List.all_cons,c2,Bool.true_and]
    have hr:runN digitB r=r.length:=by omega
    have key:∀ l:List UInt8,runN digitB l=l.length→l.all digitB=true:=by
     intro l
     induction l with
     | nil=>intro _;rfl
     | cons y l ih =>
      intro hl
      rw [runN] at hl
      split at hl
      ·rename_i hy
       rw [List.all_cons,hy,Bool.true_and]
       exact ih (by rw [List.length_cons] at hl;omega)
      ·rw [List.length_cons] at hl;omega
    exact key r hr
  ·rw [if_neg c2] at h1 h2 h3
   rw [Bool.not_eq_true] at c2
   rw [c2]
   by_cases c3:x=39
   ·rw [if_pos c3] at h1 h2 h3
    subst c3
    split at h1
    ·rename_i hq
     rw [if_pos hq] at h2 h3
     dsimp only at h1 h2 h3
     refine ⟨⟨fun h=>(by cases h),fun h=>(by omega)⟩,fun h=>(by omega),⟨fun _=>(by omega),fun _=>rfl⟩,fun _=>⟨by omega,?_⟩⟩
     split at h3
     ·cases h3
     ·omega
    ·rename_i hq
     rw [if_neg hq] at h3
     cases h3
   ·rw [if_neg c3] at h1 h2 h3
    have c4:(x==39)=false:=by rw [beq_eq_false_iff_ne];exact c3
    rw [c4]
    have hk:k ≠ 2∧k ≠ 3:=by
     split at h1
     ·dsimp only at h1;omega
     ·split at h1
      ·dsimp only at h1;omega
      ·dsimp only at h1;omega
    exact ⟨⟨fun h=>(by cases h),fun h=>absurd h hk.1⟩,fun h=>absurd h hk.1,⟨fun h=>(by cases h),fun h=>absurd h hk.2⟩,fun h=>absurd h hk.2⟩
theorem txQ_mem {l:List Vl} {r:RS} (h:txQ l r ≠ ⟨#[]⟩):r.bad=false∧∃ t,l[r.at_]?=some t∧txQ l r=t.s:=by
 unfold txQ at h ⊢
 split at h
 ·exact absurd rfl h
 ·rename_i hb
  rw [if_neg hb]
  rw [Bool.not_eq_true] at hb
  refine ⟨hb,?_⟩
  split at h
  ·rename_i t ht;exact ⟨t,ht,rfl⟩
  ·exact absurd rfl h
theorem txQ_size {l:List Vl} (hl:GoodL l) (r:RS):(txQ l r).size≤2000:=by
 by_cases h:txQ l r=⟨#[]⟩
 ·rw [h];decide
 ·obtain ⟨_,t,h1,h2⟩:=txQ_mem h
  obtain ⟨x,s,h3,h4,_⟩:=tok_facts (hl.tok t (List.mem_of_getElem? h1))
  rw [h2]
  exact h4
theorem digF_ne {u:ByteArray} (h:digF u=true):u ≠ ⟨#[]⟩:=by rintro rfl;cases h
theorem quoF_ne {u:ByteArray} (h:quoF u=true):u ≠ ⟨#[]⟩:=by rintro rfl;cases h
theorem txQ_num {l:List Vl} (hl:GoodL l) {r:RS} (h:digF (txQ l r)=true):(txQ l r).size≤9∧(txQ l r).data.toList.all digitB=true∧r.bad=false∧r.at_ < l.length:=by
 obtain ⟨h0,t,h1,h2⟩:=txQ_mem (digF_ne h)
 rw [h2] at h ⊢
 obtain ⟨g1,g2,_⟩:=tok_num (hl.tok t (List.mem_of_getElem? h1))
 exact ⟨(g2 (g1.1 h)).1,(g2 (g1.1 h)).2,h0,(List.getElem?_eq_some_iff.1 h1).1⟩
theorem txQ_quo {l:List Vl} (hl:GoodL l) {r:RS} (h:quoF (txQ l r)=true):2≤(txQ l r).size∧(txQ l r).size≤22∧r.bad=false∧r.at_ < l.length:=by
 obtain ⟨h0,t,h1,h2⟩:=txQ_mem (quoF_ne h)
 rw [h2] at h ⊢
 obtain ⟨_,_,g1,g2⟩:=tok_num (hl.tok t (List.mem_of_getElem? h1))
 exact ⟨(g2 (g1.1 h)).1,(g2 (g1.1 h)).2,h0,(List.getElem?_eq_some_iff.1 h1).1⟩
theorem txQ_lt {l:List Vl} {r:RS} (h:txQ l r ≠ ⟨#[]⟩):r.bad=false∧r.at_ < l.length:=by
 obtain ⟨h0,t,h1,h2⟩:=txQ_mem h
 exact ⟨h0,(List.getElem?_eq_some_iff.1 h1).1⟩
theorem numL_step {l:List UInt8} {i:Nat} {c:UInt8} (h:l[i]?=some c):numL (l.take (i + 1))=10 * numL (l.take i) + (c.toNat:Int) - 48:=by
 obtain ⟨hk,rfl⟩:=List.getElem?_eq_some_iff.1 h
 unfold numL
 rw [List.take_succ_eq_append_getElem hk,List.foldl_append]
 rfl
theorem numL_range {l:List UInt8} (h:l.all digitB=true):∀ i,i≤l.length→0≤numL (l.take i)∧numL (l.take i) < 10 ^ i
 | 0,_=>by rw [List.take_zero];exact ⟨by decide,by decide⟩
 | i + 1,hi=>by
  obtain ⟨c,hc⟩:∃ c,l[i]?=some c:=⟨_,List.getElem?_eq_getElem (by omega)⟩
  obtain ⟨h1,h2⟩:=numL_range h i (by omega)
  have hd:=List.all_eq_true.1 h c (List.mem_of_getElem? hc)
  unfold digitB at hd
  simp only [Bool.and_eq_true,decide_eq_true_eq] at hd
  rw [numL_step hc,Int.pow_succ]
  omega
theorem numL_small {l:List UInt8} (h:l.all digitB=true) (hl:l.length≤9) (i:Nat) (hi:i≤l.length):0≤numL (l.take i)∧numL (l.take i) < 1000000000:=by
 obtain ⟨h1,h2⟩:=numL_range h i hi
 refine ⟨h1,Int.lt_of_lt_of_le h2 ?_⟩
 have:(10:Int) ^ i≤10 ^ 9:=by
  have:(10:Nat) ^ i≤10 ^ 9:=Nat.pow_le_pow_right (by decide) (by omega)
  exact_mod_cast this
 exact this
end Go.Proofs.YtjdgejfhnfnmgaaGreatDoor
namespace Go.Proofs.YtjdgejfhnfnmgaaGreatDoor.Ax
open Go.RowKit
set_option linter.unusedSimpArgs false
attribute [local go_sem] extV appD cutOwn appOwn clearOwn bdI mapD putD' keyOk getOr getM putM wholeV litCs asV asC ptrC fnC nilC nilPtr strRows_len runs runsN guardOf exec1 pureV modD rowD ev get St.app St.put St.turn loadC moveC fieldOf indexC lenC lenOk cutC bndOf evAll fieldV convV unV binV binI bitsV moreV intsT eqL eq1 valOf min1 lit1 litInt litI litB litS constV constC cellsV partsOf placesOf buildV fillL toT elemsOf rowsOf baseOf dstOk V.kill V.ment V.ments C.kill C.ment C.ments B.kill setD litRows litRows_append T.isLit callAll calleeV argsV argV viewC viewCs modeOk freeOps V.free C.free V.allF V.allFs C.allF C.allFs B.allF callD leL growB C.flat V.flat B.flat flatL flatB St.flat List.set_cons_zero List.set_cons_succ C.only C.onlys V.only V.onlys B.only renI C.ren C.rens V.ren V.rens B.ren renB renOk nodK Option.getD_some Option.getD_none Option.isSome_some implies_true false_implies C.fit C.fits V.fit V.fit1 V.fits Bool.and_self ite_self exitV resV resL resC outV outV.outs eqB nn cast0 Int.toNat_natCast List.getElem?_map Value.cells Value.oneCell' Nat.lt_irrefl decide_true decide_false and_true true_and and_self and_false false_and not_true_eq_false not_false_eq_true not_true not_false List.size_toArray all_len Nat.zero_add Nat.add_zero List.length_cons List.length_append List.length_replicate List.length_set List.length_nil List.length_map List.map_cons List.map_nil List.take_succ_cons List.take_zero List.take_nil List.drop_succ_cons List.drop_zero List.drop_nil List.cons_append List.nil_append List.append_nil List.all_cons List.all_nil Bool.and_true Bool.true_and Bool.and_false Bool.false_and Bool.not_true Bool.not_false Bool.or_false Bool.or_true Bool.false_or Bool.true_or List.filter_cons List.filter_nil List.contains_cons List.contains_nil beq_self_eq_true List.getElem?_cons_zero List.getElem?_cons_succ List.getElem?_nil Option.map_some Option.map_none Option.toList_some Option.toList_none List.isEmpty_cons List.isEmpty_nil Bool.false_eq_true Bool.true_eq_false List.getElem?_toArray List.not_mem_nil List.mem_cons or_false forall_eq List.mem_singleton forall_const Option.toArray addF if_true if_false dstsOf Oper.looksAt Op.operands Call.operands pick edge B.ment Region.binds List.any_cons List.any_nil List.filterMap_cons List.filterMap_nil ne_eq Bool.or_self List.isEmpty_iff Array.toList_append List.append_toArray Array.append_empty Option.bind_some Option.bind_none List.push_toArray
abbrev rV1 (v:Vl):List T:=[.lit (.int .i64 v.k),.lit (.int .i64 v.n),.lit (.string v.s)]
abbrev aV1 (v:Vl):A:=.agg (rV1 v)
abbrev vV1 (z z' z'':Bool) (v:Vl):V:=.agg [.t z (.lit (.int .i64 v.k)),.t z' (.lit (.int .i64 v.n)),.t z'' (.lit (.string v.s))]
abbrev vVt (v:Vl):V:=vV1 true true true v
abbrev rVs (l:List Vl):List (List T):=l.map rV1
theorem litV_ (l:List Vl):litRows (rVs l)=true:=litRows_map fun _=>rfl
theorem lenV_ (l:List Vl):(∀ r ∈ rVs l,r.length=3)=True:=all_len fun _=>rfl
theorem nilE:(⟨#[]⟩:ByteArray).toList=[]:=ByteArray.toList_mk []
theorem isE (s:ByteArray):(s.toList==(⟨#[]⟩:ByteArray).toList)=emptyS s:=by
 rw [nilE]
 unfold emptyS
 cases s.toList <;> rfl
theorem sameZ (v:Vl):((v.k==0) && ((v.n==0) && emptyS v.s))=v.same Vl.zero:=by
 unfold Vl.same Vl.zero emptyS
 rw [show ByteArray.empty=(⟨#[]⟩:ByteArray) from rfl,nilE,Bool.and_assoc]
 cases v.s.toList <;> rfl
end Go.Proofs.YtjdgejfhnfnmgaaGreatDoor.Ax
namespace Go.Proofs.YtjdgejfhnfnmgaaGreatDoor.Ax
open Go.RowKit
set_option linter.unusedSimpArgs false
attribute [local go_sem] extV appD cutOwn appOwn clearOwn bdI mapD putD' keyOk getOr getM putM wholeV litCs asV asC ptrC fnC nilC nilPtr strRows_len runs runsN guardOf exec1 pureV modD rowD ev get St.app St.put St.turn loadC moveC fieldOf indexC lenC lenOk cutC bndOf evAll fieldV convV unV binV binI bitsV moreV intsT eqL eq1 valOf min1 lit1 litInt litI litB litS constV constC cellsV partsOf placesOf buildV fillL toT elemsOf rowsOf baseOf dstOk V.kill V.ment V.ments C.kill C.ment C.ments B.kill setD litRows litRows_append T.isLit callAll calleeV argsV argV viewC viewCs modeOk freeOps V.free C.free V.allF V.allFs C.allF C.allFs B.allF callD leL growB C.flat V.flat B.flat flatL flatB St.flat List.set_cons_zero List.set_cons_succ C.only C.onlys V.only V.onlys B.only renI C.ren C.rens V.ren V.rens B.ren renB renOk nodK Option.getD_some Option.getD_none Option.isSome_some implies_true false_implies C.fit C.fits V.fit V.fit1 V.fits Bool.and_self ite_self exitV resV resL resC outV outV.outs eqB nn cast0 Int.toNat_natCast List.getElem?_map Value.cells Value.oneCell' Nat.lt_irrefl decide_true decide_false and_true true_and and_self and_false false_and not_true_eq_false not_false_eq_true not_true not_false List.size_toArray all_len Nat.zero_add Nat.add_zero List.length_cons List.length_append List.length_replicate List.length_set List.length_nil List.length_map List.map_cons List.map_nil List.take_succ_cons List.take_zero List.take_nil List.drop_succ_cons List.drop_zero List.drop_nil List.cons_append List.nil_append List.append_nil List.all_cons List.all_nil Bool.and_true Bool.true_and Bool.and_false Bool.false_and Bool.not_true Bool.not_false Bool.or_false Bool.or_true Bool.false_or Bool.true_or List.filter_cons List.filter_nil List.contains_cons List.contains_nil beq_self_eq_true List.getElem?_cons_zero List.getElem?_cons_succ List.getElem?_nil Option.map_some Option.map_none Option.toList_some Option.toList_none List.isEmpty_cons List.isEmpty_nil Bool.false_eq_true Bool.true_eq_false List.getElem?_toArray List.not_mem_nil List.mem_cons or_false forall_eq List.mem_singleton forall_const Option.toArray addF if_true if_false dstsOf Oper.looksAt Op.operands Call.operands pick edge B.ment Region.binds List.any_cons List.any_nil List.filterMap_cons List.filterMap_nil ne_eq Bool.or_self List.isEmpty_iff Array.toList_append List.append_toArray Array.append_empty Option.bind_some Option.bind_none List.push_toArray
abbrev rC1 (c:Col):List T:=[.lit (.string c.name),.lit (.int .i64 c.ty)]
abbrev rCs (l:List Col):List (List T):=l.map rC1
theorem litC_ (l:List Col):litRows (rCs l)=true:=litRows_map fun _=>rfl
theorem lenC_ (l:List Col):(∀ r ∈ rCs l,r.length=2)=True:=all_len fun _=>rfl
mutual
def rE:Ex→List T
 | .mk k v nm ar=>[.lit (.int .i64 k),.lit (.int .i64 v.k),.lit (.int .i64 v.n),.lit (.string v.s),.lit (.string nm),.sl (rEs ar)]
def rEs:List Ex→List (List T)
 | []=>[]
 | x :: l=>rE x :: rEs l
end
theorem rEs_map:∀ l:List Ex,rEs l=l.map rE
 | []=>by rw [rEs];rfl
 | x :: l=>by rw [rEs,rEs_map l,List.map_cons]
theorem rE_mk (k:Int) (v:Vl) (nm:ByteArray) (ar:List Ex):rE (.mk k v nm ar)=[.lit (.int .i64 k),.lit (.int .i64 v.k),.lit (.int .i64 v.n),.lit (.string v.s),.lit (.string nm),.sl (ar.map rE)]:=by
 rw [rE,rEs_map]
end Go.Proofs.YtjdgejfhnfnmgaaGreatDoor.Ax
namespace Go.Proofs.YtjdgejfhnfnmgaaGreatDoor
open Go.RowKit
theorem within_any (n a b:Int) (w:World) :
  Calls Tryz.prog 79 #[.int .i64 n,.int .i64 a,.int .i64 b] w fun e w'=>e=.returned (.bool (decide (a≤n) && decide (n≤b)))∧w=w':=by
 by_cases h1:a≤n <;> by_cases h2:n≤b
 all_goals
  go_enter Tryz.func79,Tryz.ntmps79
  go_wp2
  go_ret
  exact ⟨by simp [h1,h2],rfl⟩
theorem vint_any (n:Int) (w:World) :
  Calls Tryz.prog 131 #[.int .i64 n] w fun e w'=>e=.returned (.bool (isInt n))∧w=w':=by
 go_enter Tryz.func131,Tryz.ntmps131
 go_wp2_with (go_at_call 79;refine (within_any _ _ _ _).mono ?_;rintro e w' ⟨rfl,rfl⟩)
 go_ret
 exact ⟨rfl,rfl⟩
theorem tquot_any (c:UInt8) (w:World) :
  Calls Tryz.prog 139 #[.int .u8 c.toNat] w fun e w'=>e=.returned (.bool (quotB c))∧w=w':=by
 by_cases h1:32≤(c.toNat:Int) <;> by_cases h2:(c.toNat:Int)≤126 <;> by_cases h3:(c.toNat:Int)=39
 all_goals
  try (exfalso;omega)
 all_goals
  have H3:=Lib.hid h3
  try have h4:((c.toNat:Int) != 39)=true:=by simpa using h3
  try have h4:((c.toNat:Int) != 39)=false:=by simpa using h3
  clear h3
  go_enter Tryz.func139,Tryz.ntmps139
  go_wp2
  go_ret
  exact ⟨by simp [quotB,h1,h2,H3.out],rfl⟩
theorem all_take_snoc (s:ByteArray) (k:Nat) (h:k < s.size) (hq:((s.data.toList.take k).all quotB)=true):((s.data.toList.take (k + 1)).all quotB)=quotB s[k]:=by
 have e:s.data.toList.take (k + 1)=s.data.toList.take k++[s[k]]:=by
  rw [List.take_succ_eq_append_getElem (by simpa using h)];rfl
 rw [e,List.all_append,hq];simp
theorem all_false (s:ByteArray) (k:Nat) (h:k < s.size) (hq:quotB s[k]=false):s.data.toList.all quotB=false:=by
 rw [List.all_eq_false]
 exact ⟨s[k],by simp [ByteArray.getElem_eq_getElem_data,Array.getElem_mem],by simp [hq]⟩
theorem vquot_any (s:ByteArray) (w:World) (hs:s.size≤maxLen) :
  Calls Tryz.prog 132 #[.string s] w fun e w'=>e=.returned (.bool (quotS s))∧w=w':=by
 unfold maxLen at hs
 go_enter Tryz.func132,Tryz.ntmps132
 go_wp2
 go_loop [6] (fun i=>∃ k:Nat,k≤s.size∧((s.data.toList.take k).all quotB)=true∧i=.int .i64 k) (fun i=>s.size - (intOf i).toNat)
 case atStart=>exact ⟨0,Nat.zero_le _,rfl,rfl⟩
 case round =>
  obtain ⟨k,hk,hq,rfl⟩:=hrel
  have HQ:=Lib.hid hq
  clear hq
  by_cases hlt:k < s.size
  ·by_cases hb:quotB s[k]=true
   ·go_wp2_with (go_at_call 139;refine (tquot_any _ _).mono ?_;rintro e w' ⟨rfl,rfl⟩)
    go_round
    case rel=>exact ⟨k + 1,by omega,by rw [all_take_snoc s k hlt HQ.out];exact hb,by go_num⟩
    case measure=>simp [intOf];omega
   ·have hb':quotB s[k]=false:=by simpa using hb
    clear hb
    go_wp2_with (go_at_call 139;refine (tquot_any _ _).mono ?_;rintro e w' ⟨rfl,rfl⟩)
    go_ret
    exact ⟨by simp [quotS,all_false s k hlt hb'],rfl⟩
  ·go_wp2
   go_ret
   have e:s.data.toList.all quotB=true:=by
    have:=HQ.out;rwa [List.take_of_length_le (by simp;omega)] at this
   exact ⟨by simp only [quotS,e,Bool.true_and];simp;omega,rfl⟩
set_option maxHeartbeats 1000000 in
theorem vcheck_any (v:Vl) (w:World) (hs:v.s.size≤maxLen) :
  Calls Tryz.prog 81 #[v.val] w fun e w'=>e=.returned (.int .i64 v.chk)∧Below w.heap.size w w':=by
 obtain ⟨k,n,s⟩:=v
 dsimp only [Vl.val] at hs ⊢
 by_cases hk:k=0 ∨ k=1 ∨ k=2 ∨ k=3
 ·rcases hk with rfl | rfl | rfl | rfl
  all_goals
   go_enter Tryz.func81,Tryz.ntmps81
   go_wp2_with (first | (go_at_call 79;refine (within_any _ _ _ _).mono ?_;rintro e w' ⟨rfl,rfl⟩) | (go_at_call 131;refine (vint_any _ _).mono ?_;rintro e w' ⟨rfl,rfl⟩) | (go_at_call 132;refine (vquot_any _ _ hs).mono ?_;rintro e w' ⟨rfl,rfl⟩))
  all_goals
   go_ret
   refine ⟨?_,below_two _⟩
   simp_all [Vl.chk,Vl.fine,emptyS]
   try omega
 ·have h0:¬ k=0:=by omega
  have h1:¬ k=1:=by omega
  have h2:¬ k=2:=by omega
  have h3:¬ k=3:=by omega
  clear hk
  go_enter Tryz.func81,Tryz.ntmps81
  go_wp2
  go_ret
  exact ⟨by simp [Vl.chk];omega,below_two _⟩
end Go.Proofs.YtjdgejfhnfnmgaaGreatDoor
namespace Go.Proofs.YtjdgejfhnfnmgaaGreatDoor
open Go.RowKit
theorem between_any (n a b:Int) (w:World) :
  Calls Tryz.prog 23 #[.int .i64 n,.int .i64 a,.int .i64 b] w fun e w'=>e=.returned (.bool (decide (a≤n) && decide (n≤b)))∧w=w':=by
 by_cases h1:a≤n <;> by_cases h2:n≤b
 all_goals
  go_enter Tryz.func23,Tryz.ntmps23
  go_wp2
  go_ret
  exact ⟨by simp [h1,h2],rfl⟩
end Go.Proofs.YtjdgejfhnfnmgaaGreatDoor
namespace Go.Proofs.YtjdgejfhnfnmgaaGreatDoor
open Go.RowKit
theorem isquot_any (c:UInt8) (w:World) :
  Calls Tryz.prog 59 #[.int .u8 c.toNat] w fun e w'=>e=.returned (.bool (quotB c))∧w=w':=by
 by_cases h1:32≤(c.toNat:Int) <;> by_cases h2:(c.toNat:Int)≤126 <;> by_cases h3:(c.toNat:Int)=39
 all_goals
  try (exfalso;omega)
 all_goals
  have hu:(c.toNat:Int)≤255:=by have:=c.toNat_lt;omega
  have H3:=Lib.hid h3
  try have h4:((c.toNat:Int) != 39)=true:=by simpa using h3
  try have h4:((c.toNat:Int) != 39)=false:=by simpa using h3
  clear h3
  go_enter Tryz.func59,Tryz.ntmps59
  go_wp2_with (go_at_call 23;refine (between_any _ _ _ _).mono ?_;rintro e w' ⟨rfl,rfl⟩)
  go_ret
  exact ⟨by simp [quotB,h1,h2,H3.out],rfl⟩
end Go.Proofs.YtjdgejfhnfnmgaaGreatDoor
namespace Go.Proofs.YtjdgejfhnfnmgaaGreatDoor
open Go.RowKit
theorem isint_any (n:Int) (w:World) :
  Calls Tryz.prog 58 #[.int .i64 n] w fun e w'=>e=.returned (.bool (isInt n))∧w=w':=by
 go_enter Tryz.func58,Tryz.ntmps58
 go_wp2_with (go_at_call 23;refine (between_any _ _ _ _).mono ?_;rintro e w' ⟨rfl,rfl⟩)
 go_ret
 exact ⟨rfl,rfl⟩
theorem all_take_step (s:ByteArray) (k:Nat) (h:k < s.size):((s.data.toList.take (k + 1)).all quotB)=(((s.data.toList.take k).all quotB) && quotB s[k]):=by
 have e:s.data.toList.take (k + 1)=s.data.toList.take k++[s[k]]:=by
  rw [List.take_succ_eq_append_getElem (by simpa using h)];rfl
 rw [e,List.all_append];simp
theorem all_take_false (s:ByteArray) (k:Nat) (h:((s.data.toList.take k).all quotB)=false):s.data.toList.all quotB=false:=by
 rw [← Bool.not_eq_true] at h ⊢
 intro h1
 apply h
 rw [List.all_eq_true] at h1 ⊢
 exact fun x hx=>h1 x (List.mem_of_mem_take hx)
set_option maxHeartbeats 1000000 in
theorem rcheck_any (v:Vl) (w:World) (hs:v.s.size≤maxLen) :
  Calls Tryz.prog 25 #[v.val] w fun e w'=>e=.returned (.int .i64 v.chk)∧Below w.heap.size w w':=by
 obtain ⟨k,n,s⟩:=v
 dsimp only [Vl.val] at hs ⊢
 by_cases hk:k=0 ∨ k=1 ∨ k=3
 ·rcases hk with rfl | rfl | rfl
  all_goals
   go_enter Tryz.func25,Tryz.ntmps25
   go_wp2_with (first | (go_at_call 23;refine (between_any _ _ _ _).mono ?_;rintro e w' ⟨rfl,rfl⟩) | (go_at_call 58;refine (isint_any _ _).mono ?_;rintro e w' ⟨rfl,rfl⟩))
  all_goals
   go_ret
   refine ⟨?_,below_two _⟩
   simp_all [Vl.chk,Vl.fine,emptyS]
   try omega
 ·by_cases h2:k=2
  ·subst h2
   clear hk
   by_cases hb:n=0∧s.size≤20
   ·obtain ⟨rfl,h20⟩:=hb
    have H20:=Lib.hid h20
    have hs1:=h20
    clear hs
    go_enter Tryz.func25,Tryz.ntmps25
    go_wp2_with (first | (go_at_call 23;refine (between_any _ _ _ _).mono ?_;rintro e w' ⟨rfl,rfl⟩) | (go_at_call 58;refine (isint_any _ _).mono ?_;rintro e w' ⟨rfl,rfl⟩))
    go_loop [3,4] (fun b i=>∃ j:Nat,j≤s.size∧i=.int .i64 j∧b=.bool ((s.data.toList.take j).all quotB)) (fun _ i=>s.size - (intOf i).toNat)
    case atStart=>exact ⟨0,Nat.zero_le _,rfl,by simp;omega⟩
    case round =>
     obtain ⟨j,hj,rfl,rfl⟩:=hrel
     by_cases hlt:j < s.size
     ·have HS:=Lib.hid (all_take_step s j hlt)
      have HF:=Lib.hid (all_take_false s j)
      by_cases hq:((s.data.toList.take j).all quotB)=true
      ·rw [hq]
       have HQ:=Lib.hid hq
       clear hq
       go_wp2_with (go_at_call 59;refine (isquot_any _ _).mono ?_;rintro e w' ⟨rfl,rfl⟩)
       go_round
       case rel=>exact ⟨j + 1,by omega,by go_num,by rw [HS.out,HQ.out];rfl⟩
       case measure=>simp [intOf];omega
      ·have hq':((s.data.toList.take j).all quotB)=false:=by simpa using hq
       rw [hq']
       have HQ:=Lib.hid (HF.out hq')
       clear hq hq' HF HS
       go_wp2
       go_ret
       refine ⟨?_,below_two _⟩
       simp [Vl.chk,Vl.fine,quotS,HQ.out]
     ·have hq:((s.data.toList.take j).all quotB)=s.data.toList.all quotB:=by rw [List.take_of_length_le (by simp;omega)]
      rw [hq]
      clear hq
      go_wp2
      all_goals
       go_ret
       refine ⟨?_,below_two _⟩
       simp_all [Vl.chk,Vl.fine,quotS,H20.out]
   ·have hf:(⟨2,n,s⟩:Vl).chk=3:=by
     simp only [Vl.chk,Vl.fine,quotS]
     have:¬ (n=0∧s.size≤20):=hb
     by_cases hn:n=0
     ·have:¬ s.size≤20:=fun h=>this ⟨hn,h⟩
      simp [hn,this]
     ·simp [hn]
    have HF:=Lib.hid hf
    clear hf
    by_cases hn:n=0
    ·subst hn
     have h20:¬ (s.size:Int)≤20:=fun h=>hb ⟨rfl,by omega⟩
     clear hb
     go_enter Tryz.func25,Tryz.ntmps25
     go_wp2_with (first | (go_at_call 23;refine (between_any _ _ _ _).mono ?_;rintro e w' ⟨rfl,rfl⟩) | (go_at_call 58;refine (isint_any _ _).mono ?_;rintro e w' ⟨rfl,rfl⟩))
     go_loop [3,4] (fun b i=>b=.bool false∧i=.int .i64 0) (fun _ i=>0)
     case atStart=>exact ⟨by simp;omega,rfl⟩
     case round =>
      obtain ⟨rfl,rfl⟩:=hrel
      go_wp2
      all_goals
       go_ret
       exact ⟨by rw [HF.out];rfl,below_two _⟩
    ·have hn1:(n==0)=false:=by simp [hn]
     clear hb hn
     go_enter Tryz.func25,Tryz.ntmps25
     go_wp2_with (first | (go_at_call 23;refine (between_any _ _ _ _).mono ?_;rintro e w' ⟨rfl,rfl⟩) | (go_at_call 58;refine (isint_any _ _).mono ?_;rintro e w' ⟨rfl,rfl⟩))
     go_loop [3,4] (fun b i=>b=.bool false∧i=.int .i64 0) (fun _ i=>0)
     case atStart=>exact ⟨rfl,rfl⟩
     case round =>
      obtain ⟨rfl,rfl⟩:=hrel
      go_wp2
      all_goals
       go_ret
       exact ⟨by rw [HF.out];rfl,below_two _⟩
  have hf:(⟨k,n,s⟩:Vl).chk=7:=by
   simp only [Vl.chk]
   rw [if_neg (by omega)]
  have hb:(decide (0≤k) && decide (k≤3))=false:=by simp;omega
  have HF:=Lib.hid hf
  clear hf hk h2
  go_enter Tryz.func25,Tryz.ntmps25
  go_wp2_with (first | (go_at_call 23;refine (between_any _ _ _ _).mono ?_;rintro e w' ⟨rfl,rfl⟩) | (go_at_call 58;refine (isint_any _ _).mono ?_;rintro e w' ⟨rfl,rfl⟩))
  go_ret
  exact ⟨by rw [HF.out];rfl,below_two _⟩
end Go.Proofs.YtjdgejfhnfnmgaaGreatDoor
