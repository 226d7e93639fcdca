/-  -/
import Derived.Test.YtjdgejfhnfnmgaaGreatDoorS1
import Derived.Test.YtjdgejfhnfnmgaaGreatDoorShelf
import Derived.Shelf.Strings.BuilderK
import Derived.WalkKit
import Derived.Test.YtjdgejfhnfnmgaaGreatDoorS0
import Derived.Lib.Bytealg
import Derived.Test.YtjdgejfhnfnmgaaGreatDoorSxTy
import Derived.Test.YtjdgejfhnfnmgaaGreatDoorS7
import Derived.Test.YtjdgejfhnfnmgaaGreatDoorRows
import Derived.Lib.Hide
import Derived.StillTailTactics
import Derived.Lib.ItoaMem
import Derived.Lib.AtoiTie
import Derived.Lib.AtoiAllCases
namespace Go.Proofs.YtjdgejfhnfnmgaaGreatDoor
open Go.Shelf Go.RowKit
section
variable {P:Program} {ρ:Ren}
set_option maxHeartbeats 2000000 in
set_option maxRecDepth 100000 in
theorem str_some {T:TypeId} (L:Lays.n169 P ρ) (X:Builder.Extra P ρ) (b g cap:Nat) (p:Value) (l:List UInt8) (w:World) (hbk:w.heap[b]?=some (.cells #[p,.slice (some ⟨g,0,none⟩) l.length cap] T (0,0)))
  (hown:w.ownsRow 0 (ρ.t 5) 1 (.slice (some ⟨g,0,none⟩) l.length cap) l.length (Lib.byteCells l)) (h0:l ≠ []) :
  Calls P (ρ.f 169) #[.pointer (some ⟨b,0,none⟩)] w fun e w'=>e=.returned (.string ⟨l.toArray⟩)∧w'=w.drew.freeze ⟨g,0,none⟩ l.length:=by
 have hl0:l.length ≠ 0:=by simpa using h0
 obtain ⟨cur,hg,hnc,hcm,hcs,htake⟩:∃ cur,w.heap[g]?=some (.cells cur (ρ.t 5) (0,0))∧l.length≤cap∧cap≤maxLen∧cur.size=cap * 1∧cur.toList.take (l.length * 1)=Lib.byteCells l:=by
  rcases hown.2 with ⟨h,_⟩ | ⟨g',cap',cur,hv,_,r⟩
  ·cases h
  ·cases hv
   exact ⟨cur,r⟩
 have c1:w.drew.cell? ⟨b,1,none⟩=some (.slice (some ⟨g,0,none⟩) l.length cap):=by
  have:w.drew.heap[b]?=some (.cells #[p,.slice (some ⟨g,0,none⟩) l.length cap] T (0,0)):=hbk
  rw [Lib.cell_of_heap this];rfl
 have hSD:(Builtin.unsafeSliceData_ #[(ρ.t 37)] (ρ.t 127) #[.slice (some ⟨g,0,none⟩) l.length cap]).run P w.drew=.ok (.pointer (some ⟨g,0,none⟩)) w.drew :=
  Lib.run_unsafeSliceData_row _ _ _ _ _ _ (by omega)
 have hUS:(Builtin.unsafeString_ #[(ρ.t 127),(ρ.t 3)] (ρ.t 9) #[.pointer (some ⟨g,0,none⟩),.int .i64 l.length]).run P w.drew=.ok (.string ⟨l.toArray⟩) (w.drew.freeze ⟨g,0,none⟩ l.length):=by
  refine Lib.run_unsafeString_row w.drew (ρ.t 127) (ρ.t 3) (ρ.t 9) (ρ.t 5) L.t127 X.cellsByte g cur.size (by have hg':w.drew.heap[g]?=some (.cells cur (ρ.t 5) (0,0)):=hg;simp [World.shape?,hg']) l h0 (by omega) (by unfold maxLen at hcm;omega) ?_
  intro j x hx
  have:=hown.cells (g:=g) rfl j (.int .u8 x.toNat) (by simp [Lib.byteCells,hx])
  exact this
 have mixed:=L.mixed
 have t72:=L.t72;have a72:=L.a72;have z72:=L.z72;have v72:=L.v72;have u72:=run_underlying L.t72
 have t70:=L.t70;have a70:=L.a70;have z70:=L.z70;have v70:=L.v70;have u70:=run_underlying L.t70
 have t37:=L.t37;have a37:=L.a37;have z37:=L.z37;have v37:=L.v37;have u37:=run_underlying L.t37
 have t127:=L.t127;have a127:=L.a127;have z127:=L.z127;have v127:=L.v127;have u127:=run_underlying L.t127
 have t3:=L.t3;have a3:=L.a3;have z3:=L.z3;have v3:=L.v3;have u3:=run_underlying L.t3
 have t9:=L.t9;have a9:=L.a9;have z9:=L.z9;have v9:=L.v9;have u9:=run_underlying L.t9
 have t5:=X.t5;have a5:=X.a5;have z5:=X.z5;have v5:=X.v5;have u5:=run_underlying X.t5
 go_enter L.f169,Body.n169_ntmps ρ
 go_wp2
 go_region_o
 all_goals (go_wp2;go_ret;exact ⟨rfl,rfl⟩)
end
set_option maxHeartbeats 1000000 in
set_option maxRecDepth 100000 in
theorem cc_used (b:Nat) (w:World) (h0:w.cell? ⟨b,0,none⟩=some (.pointer (some ⟨b,0,none⟩))) :
  Calls Tryz.prog 142 #[.pointer (some ⟨b,0,none⟩)] w fun e w'=>e=.returned (.tuple #[])∧w'=w:=by
 obtain ⟨j,hj⟩:∃ j,Tryz.prog.info? 89=some j:=⟨_,rfl⟩
 go_enter Tryz.func142,Tryz.ntmps142
 go_wp2
 rw [Lib.run_neq_ptr_same w _ Tryz.underlying86 hj]
 go_wp2
 go_end0
 exact ⟨rfl,rfl⟩
set_option maxHeartbeats 1000000 in
set_option maxRecDepth 100000 in
theorem cc_fresh {T:TypeId} (b:Nat) (w:World) (h0:w.cell? ⟨b,0,none⟩=some (.pointer none)) (hsh:w.shape? b=some (T,2)) (hl:liesAt Tryz.prog Tryz.prog.depth T (2 / Tryz.prog.cellsOf T) 0 89 1=true) (hfz:w.frozen? ⟨b,0,none⟩=false) :
  Calls Tryz.prog 142 #[.pointer (some ⟨b,0,none⟩)] w fun e w'=>e=.returned (.tuple #[])∧w'=w.setCell ⟨b,0,none⟩ (.pointer (some ⟨b,0,none⟩)):=by
 obtain ⟨j,hj,hjs⟩:∃ j,Tryz.prog.info? 89=some j∧j.size=2:=⟨_,rfl,rfl⟩
 go_enter Tryz.func142,Tryz.ntmps142
 go_wp2
 rw [Lib.run_to_unsafe w ⟨b,0,none⟩ Tryz.underlying86 Tryz.underlying143 hj (by rw [hjs];decide) hsh (Nat.zero_lt_succ 1)]
 simp only [Result.andThen]
 rw [Oper.upon_value]
 go_wp2
 rw [run_callFunc_extern Tryz.func160 (by kernel_rfl) (by kernel_rfl) (by kernel_rfl) (e:=Extern.AbiNoEscape.same) (by kernel_rfl)]
 rw [Lib.run_noEscape]
 simp only [Result.andThen]
 rw [Oper.upon_value]
 go_wp2
 rw [Lib.run_from_unsafe w ⟨b,0,none⟩ Tryz.underlying143 Tryz.underlying86 hj hsh hl]
 simp only [Result.andThen]
 rw [Oper.upon_value]
 go_wp2
 go_end0
 exact ⟨rfl,rfl⟩
end Go.Proofs.YtjdgejfhnfnmgaaGreatDoor
namespace Go.Proofs.YtjdgejfhnfnmgaaGreatDoor
open Go.RowKit
set_option linter.unusedVariables false
instance:DecidableEq Vl:=fun a b=>decidable_of_iff _ (Vl.same_iff a b)
def placeF {α:Type} (p:α→Bool):List α→Nat→Int
 | [],_=>-1
 | x :: l,i=>if p x=true then (i:Int) else placeF p l (i + 1)
structure Col where
 name:ByteArray
 ty:Int
def isCol (nm:ByteArray) (c:Col):Bool:=c.name.toList==nm.toList
def findC (cols:List Col) (nm:ByteArray):Int:=placeF (isCol nm) cols 0
inductive Ex where
 | mk (k:Int) (v:Vl) (nm:ByteArray) (args:List Ex)
theorem Ex.ind {P:Ex→Prop} (h:∀ k v nm ar,(∀ a ∈ ar,P a)→P (.mk k v nm ar)):∀ e,P e
 | .mk k v nm ar=>h k v nm ar fun a ha=>Ex.ind h a
termination_by e=>SizeOf.sizeOf e
decreasing_by have:=List.sizeOf_lt_of_mem ha;simp;omega
mutual
def sizeE:Ex→Int→Int
 | .mk _ _ _ ar,m=>sizeL ar m 1
def sizeL:List Ex→Int→Int→Int
 | [],_,n=>n
 | x :: l,m,n=>if m < n then n else sizeL l m (n + sizeE x (m - n))
end
mutual
theorem sizeE_le:∀ (e:Ex) (m:Int),0≤m→1≤sizeE e m∧sizeE e m≤m + 1
 | .mk _ _ _ ar,m,h=>by rw [sizeE];exact sizeL_le ar m 1 (by omega) (by omega)
theorem sizeL_le:∀ (l:List Ex) (m n:Int),1≤n→n≤m + 1→1≤sizeL l m n∧sizeL l m n≤m + 1
 | [],m,n,h1,h2=>by rw [sizeL];omega
 | x :: l,m,n,h1,h2=>by
  rw [sizeL]
  split
  ·omega
  ·have:=sizeE_le x (m - n) (by omega)
   exact sizeL_le l m _ (by omega) (by omega)
end
def argsK (k:Int):Int:=if k < 1 ∨ 11 < k then -1 else if k≤2 then 0 else if k≤4 then 1 else 2
def plainB (k:Int) (v:Vl) (nm:ByteArray) (n:Nat):Bool:=((n:Int)==argsK k) && ((k==2 || emptyS nm) && (k==1 || v.same Vl.zero))
def truth (b:Bool):Vl:=⟨3,if b then 1 else 0,.empty⟩
inductive Gx where
 | val (v:Vl)
 | col (nm:ByteArray)
 | un (k:Int) (x:Gx)
 | bin (k:Int) (x y:Gx)
def Gx.ex:Gx→Ex
 | .val v=>.mk 1 v .empty []
 | .col nm=>.mk 2 Vl.zero nm []
 | .un k x=>.mk k Vl.zero .empty [x.ex]
 | .bin k x y=>.mk k Vl.zero .empty [x.ex,y.ex]
def Gx.right (cols:List Col):Gx→Prop
 | .val v=>v.chk=0
 | .col nm=>0≤findC cols nm
 | .un k x=>(k=3 ∨ k=4)∧x.right cols
 | .bin k x y=>(5≤k∧k≤11)∧x.right cols∧y.right cols
theorem plain_inv {k:Int} {v:Vl} {nm:ByteArray} {n:Nat} (h:plainB k v nm n=true):(n:Int)=argsK k∧(k ≠ 2→nm=.empty)∧(k ≠ 1→v=Vl.zero):=by
 simp only [plainB,Bool.and_eq_true,Bool.or_eq_true,beq_iff_eq,Vl.same_iff] at h
 exact ⟨h.1,fun g=>emptyS_eq _ (h.2.1.resolve_left g),fun g=>h.2.2.resolve_left g⟩
end Go.Proofs.YtjdgejfhnfnmgaaGreatDoor
namespace Go.Proofs.YtjdgejfhnfnmgaaGreatDoor.Ax
open Go.RowKit
set_option linter.unusedSimpArgs false
attribute [local go_sem] extV appD cutOwn appOwn clearOwn bdI mapD putD' keyOk getOr getM putM wholeV litCs asV asC ptrC fnC nilC nilPtr strRows_len runs runsN guardOf exec1 pureV modD rowD ev get St.app St.put St.turn loadC moveC fieldOf indexC lenC lenOk cutC bndOf evAll fieldV convV unV binV binI bitsV moreV intsT eqL eq1 valOf min1 lit1 litInt litI litB litS constV constC cellsV partsOf placesOf buildV fillL toT elemsOf rowsOf baseOf dstOk V.kill V.ment V.ments C.kill C.ment C.ments B.kill setD litRows litRows_append T.isLit callAll calleeV argsV argV viewC viewCs modeOk freeOps V.free C.free V.allF V.allFs C.allF C.allFs B.allF callD leL growSt growB C.flat V.flat B.flat flatL flatB St.flat List.set_cons_zero List.set_cons_succ C.only C.onlys V.only V.onlys B.only renI C.ren C.rens V.ren V.rens B.ren renB renOk nodK Option.getD_some Option.getD_none Option.isSome_some implies_true false_implies C.fit C.fits V.fit V.fit1 V.fits Bool.and_self ite_self exitV resV resL resC outV outV.outs eqB nn cast0 Int.toNat_natCast List.getElem?_map Value.cells Value.oneCell' Nat.lt_irrefl decide_true decide_false and_true true_and and_self and_false false_and not_true_eq_false not_false_eq_true not_true not_false List.size_toArray all_len Nat.zero_add Nat.add_zero List.length_cons List.length_append List.length_replicate List.length_set List.length_nil List.length_map List.map_cons List.map_nil List.take_succ_cons List.take_zero List.take_nil List.drop_succ_cons List.drop_zero List.drop_nil List.cons_append List.nil_append List.append_nil List.all_cons List.all_nil Bool.and_true Bool.true_and Bool.and_false Bool.false_and Bool.not_true Bool.not_false Bool.or_false Bool.or_true Bool.false_or Bool.true_or List.filter_cons List.filter_nil List.contains_cons List.contains_nil beq_self_eq_true List.getElem?_cons_zero List.getElem?_cons_succ List.getElem?_nil Option.map_some Option.map_none Option.toList_some Option.toList_none List.isEmpty_cons List.isEmpty_nil Bool.false_eq_true Bool.true_eq_false List.getElem?_toArray List.not_mem_nil List.mem_cons or_false forall_eq List.mem_singleton forall_const Option.toArray tailF addF flSl dKeeps flFree closF notF if_true if_false dstsOf Oper.looksAt Op.operands Call.operands pick stOf goneOf slOf blOf keepB' edge B.ment Region.binds tailOk clos List.any_cons List.any_nil List.filterMap_cons List.filterMap_nil ne_eq Bool.or_self List.isEmpty_iff Array.toList_append List.append_toArray Array.append_empty Option.bind_some Option.bind_none List.push_toArray
abbrev rV1 (v:Vl):List T:=[.lit (.int .i64 v.k),.lit (.int .i64 v.n),.lit (.string v.s)]
abbrev aV1 (v:Vl):A:=.agg (rV1 v)
abbrev vV1 (z z' z'':Bool) (v:Vl):V:=.agg [.t z (.lit (.int .i64 v.k)),.t z' (.lit (.int .i64 v.n)),.t z'' (.lit (.string v.s))]
abbrev vVt (v:Vl):V:=vV1 true true true v
abbrev rVs (l:List Vl):List (List T):=l.map rV1
theorem litV_ (l:List Vl):litRows (rVs l)=true:=litRows_map fun _=>rfl
theorem lenV_ (l:List Vl):(∀ r ∈ rVs l,r.length=3)=True:=all_len fun _=>rfl
theorem nilE:(⟨#[]⟩:ByteArray).toList=[]:=ByteArray.toList_mk []
theorem isE (s:ByteArray):(s.toList==(⟨#[]⟩:ByteArray).toList)=emptyS s:=by
 rw [nilE]
 unfold emptyS
 cases s.toList <;> rfl
theorem sameZ (v:Vl):((v.k==0) && ((v.n==0) && emptyS v.s))=v.same Vl.zero:=by
 unfold Vl.same Vl.zero emptyS
 rw [show ByteArray.empty=(⟨#[]⟩:ByteArray) from rfl,nilE,Bool.and_assoc]
 cases v.s.toList <;> rfl
end Go.Proofs.YtjdgejfhnfnmgaaGreatDoor.Ax
namespace Go.Proofs.YtjdgejfhnfnmgaaGreatDoor
open Go.RowKit
theorem within_any (n a b:Int) (w:World) :
  Calls Tryz.prog 79 #[.int .i64 n,.int .i64 a,.int .i64 b] w fun e w'=>e=.returned (.bool (decide (a≤n) && decide (n≤b)))∧w=w':=by
 by_cases h1:a≤n <;> by_cases h2:n≤b
 all_goals
  go_enter Tryz.func79,Tryz.ntmps79
  go_wp2
  go_ret
  exact ⟨by simp [h1,h2],rfl⟩
theorem vint_any (n:Int) (w:World) :
  Calls Tryz.prog 131 #[.int .i64 n] w fun e w'=>e=.returned (.bool (isInt n))∧w=w':=by
 go_enter Tryz.func131,Tryz.ntmps131
 go_wp2_with (go_at_call 79;refine (within_any _ _ _ _).mono ?_;rintro e w' ⟨rfl,rfl⟩)
 go_ret
 exact ⟨rfl,rfl⟩
theorem tquot_any (c:UInt8) (w:World) :
  Calls Tryz.prog 139 #[.int .u8 c.toNat] w fun e w'=>e=.returned (.bool (quotB c))∧w=w':=by
 by_cases h1:32≤(c.toNat:Int) <;> by_cases h2:(c.toNat:Int)≤126 <;> by_cases h3:(c.toNat:Int)=39
 all_goals
  try (exfalso;omega)
 all_goals
  have H3:=Lib.hid h3
  try have h4:((c.toNat:Int) != 39)=true:=by simpa using h3
  try have h4:((c.toNat:Int) != 39)=false:=by simpa using h3
  clear h3
  go_enter Tryz.func139,Tryz.ntmps139
  go_wp2
  go_ret
  exact ⟨by simp [quotB,h1,h2,H3.out],rfl⟩
theorem all_take_snoc (s:ByteArray) (k:Nat) (h:k < s.size) (hq:((s.data.toList.take k).all quotB)=true):((s.data.toList.take (k + 1)).all quotB)=quotB s[k]:=by
 have e:s.data.toList.take (k + 1)=s.data.toList.take k++[s[k]]:=by
  rw [List.take_succ_eq_append_getElem (by simpa using h)];rfl
 rw [e,List.all_append,hq];simp
theorem all_false (s:ByteArray) (k:Nat) (h:k < s.size) (hq:quotB s[k]=false):s.data.toList.all quotB=false:=by
 rw [List.all_eq_false]
 exact ⟨s[k],by simp [ByteArray.getElem_eq_getElem_data,Array.getElem_mem],by simp [hq]⟩
theorem vquot_any (s:ByteArray) (w:World) (hs:s.size≤maxLen) :
  Calls Tryz.prog 132 #[.string s] w fun e w'=>e=.returned (.bool (quotS s))∧w=w':=by
 unfold maxLen at hs
 go_enter Tryz.func132,Tryz.ntmps132
 go_wp2
 go_loop [6] (fun i=>∃ k:Nat,k≤s.size∧((s.data.toList.take k).all quotB)=true∧i=.int .i64 k) (fun i=>s.size - (intOf i).toNat)
 case atStart=>exact ⟨0,Nat.zero_le _,rfl,rfl⟩
 case round =>
  obtain ⟨k,hk,hq,rfl⟩:=hrel
  have HQ:=Lib.hid hq
  clear hq
  by_cases hlt:k < s.size
  ·by_cases hb:quotB s[k]=true
   ·go_wp2_with (go_at_call 139;refine (tquot_any _ _).mono ?_;rintro e w' ⟨rfl,rfl⟩)
    go_round
    case rel=>exact ⟨k + 1,by omega,by rw [all_take_snoc s k hlt HQ.out];exact hb,by go_num⟩
    case measure=>simp [intOf];omega
   ·have hb':quotB s[k]=false:=by simpa using hb
    clear hb
    go_wp2_with (go_at_call 139;refine (tquot_any _ _).mono ?_;rintro e w' ⟨rfl,rfl⟩)
    go_ret
    exact ⟨by simp [quotS,all_false s k hlt hb'],rfl⟩
  ·go_wp2
   go_ret
   have e:s.data.toList.all quotB=true:=by
    have:=HQ.out;rwa [List.take_of_length_le (by simp;omega)] at this
   exact ⟨by simp only [quotS,e,Bool.true_and];simp;omega,rfl⟩
set_option maxHeartbeats 1000000 in
theorem vcheck_any (v:Vl) (w:World) (hs:v.s.size≤maxLen) :
  Calls Tryz.prog 81 #[v.val] w fun e w'=>e=.returned (.int .i64 v.chk)∧Below w.heap.size w w':=by
 obtain ⟨k,n,s⟩:=v
 dsimp only [Vl.val] at hs ⊢
 by_cases hk:k=0 ∨ k=1 ∨ k=2 ∨ k=3
 ·rcases hk with rfl | rfl | rfl | rfl
  all_goals
   go_enter Tryz.func81,Tryz.ntmps81
   go_wp2_with (first | (go_at_call 79;refine (within_any _ _ _ _).mono ?_;rintro e w' ⟨rfl,rfl⟩) | (go_at_call 131;refine (vint_any _ _).mono ?_;rintro e w' ⟨rfl,rfl⟩) | (go_at_call 132;refine (vquot_any _ _ hs).mono ?_;rintro e w' ⟨rfl,rfl⟩))
  all_goals
   go_ret
   refine ⟨?_,below_two _⟩
   simp_all [Vl.chk,Vl.fine,emptyS]
   try omega
 ·have h0:¬ k=0:=by omega
  have h1:¬ k=1:=by omega
  have h2:¬ k=2:=by omega
  have h3:¬ k=3:=by omega
  clear hk
  go_enter Tryz.func81,Tryz.ntmps81
  go_wp2
  go_ret
  exact ⟨by simp [Vl.chk];omega,below_two _⟩
end Go.Proofs.YtjdgejfhnfnmgaaGreatDoor
namespace Go.Proofs.YtjdgejfhnfnmgaaGreatDoor
open Go.RowKit
theorem between_any (n a b:Int) (w:World) :
  Calls Tryz.prog 23 #[.int .i64 n,.int .i64 a,.int .i64 b] w fun e w'=>e=.returned (.bool (decide (a≤n) && decide (n≤b)))∧w=w':=by
 by_cases h1:a≤n <;> by_cases h2:n≤b
 all_goals
  go_enter Tryz.func23,Tryz.ntmps23
  go_wp2
  go_ret
  exact ⟨by simp [h1,h2],rfl⟩
end Go.Proofs.YtjdgejfhnfnmgaaGreatDoor
namespace Go.Proofs.YtjdgejfhnfnmgaaGreatDoor
open Go.RowKit
theorem isquot_any (c:UInt8) (w:World) :
  Calls Tryz.prog 59 #[.int .u8 c.toNat] w fun e w'=>e=.returned (.bool (quotB c))∧w=w':=by
 by_cases h1:32≤(c.toNat:Int) <;> by_cases h2:(c.toNat:Int)≤126 <;> by_cases h3:(c.toNat:Int)=39
 all_goals
  try (exfalso;omega)
 all_goals
  have hu:(c.toNat:Int)≤255:=by have:=c.toNat_lt;omega
  have H3:=Lib.hid h3
  try have h4:((c.toNat:Int) != 39)=true:=by simpa using h3
  try have h4:((c.toNat:Int) != 39)=false:=by simpa using h3
  clear h3
  go_enter Tryz.func59,Tryz.ntmps59
  go_wp2_with (go_at_call 23;refine (between_any _ _ _ _).mono ?_;rintro e w' ⟨rfl,rfl⟩)
  go_ret
  exact ⟨by simp [quotB,h1,h2,H3.out],rfl⟩
end Go.Proofs.YtjdgejfhnfnmgaaGreatDoor
namespace Go.Proofs.YtjdgejfhnfnmgaaGreatDoor
open Go.RowKit
theorem isint_any (n:Int) (w:World) :
  Calls Tryz.prog 58 #[.int .i64 n] w fun e w'=>e=.returned (.bool (isInt n))∧w=w':=by
 go_enter Tryz.func58,Tryz.ntmps58
 go_wp2_with (go_at_call 23;refine (between_any _ _ _ _).mono ?_;rintro e w' ⟨rfl,rfl⟩)
 go_ret
 exact ⟨rfl,rfl⟩
theorem all_take_step (s:ByteArray) (k:Nat) (h:k < s.size):((s.data.toList.take (k + 1)).all quotB)=(((s.data.toList.take k).all quotB) && quotB s[k]):=by
 have e:s.data.toList.take (k + 1)=s.data.toList.take k++[s[k]]:=by
  rw [List.take_succ_eq_append_getElem (by simpa using h)];rfl
 rw [e,List.all_append];simp
theorem all_take_false (s:ByteArray) (k:Nat) (h:((s.data.toList.take k).all quotB)=false):s.data.toList.all quotB=false:=by
 rw [← Bool.not_eq_true] at h ⊢
 intro h1
 apply h
 rw [List.all_eq_true] at h1 ⊢
 exact fun x hx=>h1 x (List.mem_of_mem_take hx)
set_option maxHeartbeats 1000000 in
theorem rcheck_any (v:Vl) (w:World) (hs:v.s.size≤maxLen) :
  Calls Tryz.prog 25 #[v.val] w fun e w'=>e=.returned (.int .i64 v.chk)∧Below w.heap.size w w':=by
 obtain ⟨k,n,s⟩:=v
 dsimp only [Vl.val] at hs ⊢
 by_cases hk:k=0 ∨ k=1 ∨ k=3
 ·rcases hk with rfl | rfl | rfl
  all_goals
   go_enter Tryz.func25,Tryz.ntmps25
   go_wp2_with (first | (go_at_call 23;refine (between_any _ _ _ _).mono ?_;rintro e w' ⟨rfl,rfl⟩) | (go_at_call 58;refine (isint_any _ _).mono ?_;rintro e w' ⟨rfl,rfl⟩))
  all_goals
   go_ret
   refine ⟨?_,below_two _⟩
   simp_all [Vl.chk,Vl.fine,emptyS]
   try omega
 ·by_cases h2:k=2
  ·subst h2
   clear hk
   by_cases hb:n=0∧s.size≤20
   ·obtain ⟨rfl,h20⟩:=hb
    have H20:=Lib.hid h20
    have hs1:=h20
    clear hs
    go_enter Tryz.func25,Tryz.ntmps25
    go_wp2_with (first | (go_at_call 23;refine (between_any _ _ _ _).mono ?_;rintro e w' ⟨rfl,rfl⟩) | (go_at_call 58;refine (isint_any _ _).mono ?_;rintro e w' ⟨rfl,rfl⟩))
    go_loop [3,4] (fun b i=>∃ j:Nat,j≤s.size∧i=.int .i64 j∧b=.bool ((s.data.toList.take j).all quotB)) (fun _ i=>s.size - (intOf i).toNat)
    case atStart=>exact ⟨0,Nat.zero_le _,rfl,by simp;omega⟩
    case round =>
     obtain ⟨j,hj,rfl,rfl⟩:=hrel
     by_cases hlt:j < s.size
     ·have HS:=Lib.hid (all_take_step s j hlt)
      have HF:=Lib.hid (all_take_false s j)
      by_cases hq:((s.data.toList.take j).all quotB)=true
      ·rw [hq]
       have HQ:=Lib.hid hq
       clear hq
       go_wp2_with (go_at_call 59;refine (isquot_any _ _).mono ?_;rintro e w' ⟨rfl,rfl⟩)
       go_round
       case rel=>exact ⟨j + 1,by omega,by go_num,by rw [HS.out,HQ.out];rfl⟩
       case measure=>simp [intOf];omega
      ·have hq':((s.data.toList.take j).all quotB)=false:=by simpa using hq
       rw [hq']
       have HQ:=Lib.hid (HF.out hq')
       clear hq hq' HF HS
       go_wp2
       go_ret
       refine ⟨?_,below_two _⟩
       simp [Vl.chk,Vl.fine,quotS,HQ.out]
     ·have hq:((s.data.toList.take j).all quotB)=s.data.toList.all quotB:=by rw [List.take_of_length_le (by simp;omega)]
      rw [hq]
      clear hq
      go_wp2
      all_goals
       go_ret
       refine ⟨?_,below_two _⟩
       simp_all [Vl.chk,Vl.fine,quotS,H20.out]
   ·have hf:(⟨2,n,s⟩:Vl).chk=3:=by
     simp only [Vl.chk,Vl.fine,quotS]
     have:¬ (n=0∧s.size≤20):=hb
     by_cases hn:n=0
     ·have:¬ s.size≤20:=fun h=>this ⟨hn,h⟩
      simp [hn,this]
     ·simp [hn]
    have HF:=Lib.hid hf
    clear hf
    by_cases hn:n=0
    ·subst hn
     have h20:¬ (s.size:Int)≤20:=fun h=>hb ⟨rfl,by omega⟩
     clear hb
     go_enter Tryz.func25,Tryz.ntmps25
     go_wp2_with (first | (go_at_call 23;refine (between_any _ _ _ _).mono ?_;rintro e w' ⟨rfl,rfl⟩) | (go_at_call 58;refine (isint_any _ _).mono ?_;rintro e w' ⟨rfl,rfl⟩))
     go_loop [3,4] (fun b i=>b=.bool false∧i=.int .i64 0) (fun _ i=>0)
     case atStart=>exact ⟨by simp;omega,rfl⟩
     case round =>
      obtain ⟨rfl,rfl⟩:=hrel
      go_wp2
      all_goals
       go_ret
       exact ⟨by rw [HF.out];rfl,below_two _⟩
    ·have hn1:(n==0)=false:=by simp [hn]
     clear hb hn
     go_enter Tryz.func25,Tryz.ntmps25
     go_wp2_with (first | (go_at_call 23;refine (between_any _ _ _ _).mono ?_;rintro e w' ⟨rfl,rfl⟩) | (go_at_call 58;refine (isint_any _ _).mono ?_;rintro e w' ⟨rfl,rfl⟩))
     go_loop [3,4] (fun b i=>b=.bool false∧i=.int .i64 0) (fun _ i=>0)
     case atStart=>exact ⟨rfl,rfl⟩
     case round =>
      obtain ⟨rfl,rfl⟩:=hrel
      go_wp2
      all_goals
       go_ret
       exact ⟨by rw [HF.out];rfl,below_two _⟩
  have hf:(⟨k,n,s⟩:Vl).chk=7:=by
   simp only [Vl.chk]
   rw [if_neg (by omega)]
  have hb:(decide (0≤k) && decide (k≤3))=false:=by simp;omega
  have HF:=Lib.hid hf
  clear hf hk h2
  go_enter Tryz.func25,Tryz.ntmps25
  go_wp2_with (first | (go_at_call 23;refine (between_any _ _ _ _).mono ?_;rintro e w' ⟨rfl,rfl⟩) | (go_at_call 58;refine (isint_any _ _).mono ?_;rintro e w' ⟨rfl,rfl⟩))
  go_ret
  exact ⟨by rw [HF.out];rfl,below_two _⟩
end Go.Proofs.YtjdgejfhnfnmgaaGreatDoor
namespace Go.Proofs.YtjdgejfhnfnmgaaGreatDoor
open Go.RowKit
set_option maxHeartbeats 1000000 in
theorem rsame_any (a b:Vl) (w:World) :
  Calls Tryz.prog 26 #[a.val,b.val] w fun e w'=>e=.returned (.bool (a.same b))∧Below w.heap.size w w':=by
 obtain ⟨k,n,s⟩:=a
 obtain ⟨k',n',s'⟩:=b
 dsimp only [Vl.val,Vl.same]
 by_cases h1:k=k'
 ·subst h1
  by_cases h2:n=n'
  ·subst h2
   go_enter Tryz.func26,Tryz.ntmps26
   go_wp2
   go_ret
   exact ⟨by simp,((Below.refl _ _).alloc (Nat.le_refl _) _).alloc (by simp) _⟩
  ·have h2':(n==n')=false:=by simp [h2]
   clear h2
   go_enter Tryz.func26,Tryz.ntmps26
   go_wp2
   go_ret
   exact ⟨by simp [h2'],((Below.refl _ _).alloc (Nat.le_refl _) _).alloc (by simp) _⟩
 ·have h1':(k==k')=false:=by simp [h1]
  clear h1
  go_enter Tryz.func26,Tryz.ntmps26
  go_wp2
  go_ret
  exact ⟨by simp [h1'],((Below.refl _ _).alloc (Nat.le_refl _) _).alloc (by simp) _⟩
end Go.Proofs.YtjdgejfhnfnmgaaGreatDoor
namespace Go.Proofs.YtjdgejfhnfnmgaaGreatDoor
open Go.RowKit
def digS (n:Int):ByteArray:=bs (Lib.itoa n)
theorem dig_small {u:Nat} (h:u < 10):Lib.decDigits u=[UInt8.ofNat (48 + u)]:=by rw [Lib.decDigits,dif_pos h]
theorem dig_big {u:Nat} (h:¬ u < 10):Lib.decDigits u=Lib.decDigits (u / 10)++[UInt8.ofNat (48 + u % 10)]:=by rw [Lib.decDigits,dif_neg h]
theorem decFrom_append:∀ (l:List UInt8) (a:Nat) (c:UInt8),Lib.decFrom a (l++[c])=(Lib.decFrom a l).bind fun n=>(Lib.digitVal c).map fun d=>n * 10 + d
 | [],a,c=>by
  rw [List.nil_append,Lib.decFrom,Lib.decFrom]
  cases Lib.digitVal c <;> rfl
 | b :: l,a,c=>by
  rw [List.cons_append,Lib.decFrom,Lib.decFrom]
  cases Lib.digitVal b with
  | none=>rfl
  | some d=>exact decFrom_append l _ c
theorem digitVal_of {d:Nat} (h:d < 10):Lib.digitVal (UInt8.ofNat (48 + d))=some d:=by
 have e:(UInt8.ofNat (48 + d)).toNat=48 + d:=by rw [UInt8.toNat_ofNat'];omega
 unfold Lib.digitVal
 rw [e,if_pos (by omega)]
 congr 1
 omega
theorem dec_digits (u:Nat):Lib.decFrom 0 (Lib.decDigits u)=some u:=by
 induction u using Nat.strongRecOn with
 | _ u ih =>
  by_cases h:u < 10
  ·rw [dig_small h,Lib.decFrom,digitVal_of h]
   simp [Lib.decFrom]
  ·rw [dig_big h,decFrom_append,ih (u / 10) (by omega),digitVal_of (by omega)]
   simp only [Option.bind_some,Option.map_some]
   congr 1
   omega
theorem digits_ne (u:Nat):Lib.decDigits u ≠ []:=by
 by_cases h:u < 10
 ·rw [dig_small h];simp
 ·rw [dig_big h];simp
theorem digits_len (u:Nat) (k:Nat) (hk:1≤k):(Lib.decDigits u).length≤k ↔ u < 10 ^ k:=by
 induction k generalizing u with
 | zero=>omega
 | succ k ih =>
  by_cases h:u < 10
  ·rw [dig_small h]
   have:1≤10 ^ k:=Nat.one_le_pow _ _ (by decide)
   rw [Nat.pow_succ]
   simp
   omega
  ·rw [dig_big h,List.length_append,List.length_singleton,Nat.pow_succ]
   cases k with
   | zero =>
    have:=List.length_pos_iff.2 (digits_ne (u / 10))
    omega
   | succ k =>
    have:=ih (u / 10) (by omega)
    omega
theorem digits_head (u:Nat) (h:u ≠ 0):∃ d r,Lib.decDigits u=UInt8.ofNat (48 + d) :: r∧1≤d∧d < 10:=by
 induction u using Nat.strongRecOn with
 | _ u ih =>
  by_cases h1:u < 10
  ·exact ⟨u,[],dig_small h1,by omega,h1⟩
  ·obtain ⟨d,r,e,h2,h3⟩:=ih (u / 10) (by omega) (by omega)
   exact ⟨d,r++[UInt8.ofNat (48 + u % 10)],by rw [dig_big h1,e];rfl,h2,h3⟩
theorem digits_all (u:Nat):∀ c ∈ Lib.decDigits u,48≤c.toNat∧c.toNat≤57:=by
 induction u using Nat.strongRecOn with
 | _ u ih =>
  have e:∀ d,d < 10→(UInt8.ofNat (48 + d)).toNat=48 + d:=fun d hd=>by rw [UInt8.toNat_ofNat'];omega
  by_cases h:u < 10
  ·rw [dig_small h]
   intro c hc
   rw [List.mem_singleton] at hc
   subst hc
   rw [e u h];omega
  ·rw [dig_big h]
   intro c hc
   rcases List.mem_append.1 hc with hc | hc
   ·exact ih (u / 10) (by omega) c hc
   ·rw [List.mem_singleton] at hc
    subst hc
    rw [e _ (by omega)];omega
abbrev trueS:ByteArray:=⟨#[116,114,117,101]⟩
abbrev falseS:ByteArray:=⟨#[102,97,108,115,101]⟩
end Go.Proofs.YtjdgejfhnfnmgaaGreatDoor
namespace Go.Proofs.YtjdgejfhnfnmgaaGreatDoor
open Go.RowKit
end Go.Proofs.YtjdgejfhnfnmgaaGreatDoor
namespace Go.Proofs.YtjdgejfhnfnmgaaGreatDoor.Ax
open Go.RowKit
set_option linter.unusedSimpArgs false
attribute [local go_sem] extV appD cutOwn appOwn clearOwn bdI mapD putD' keyOk getOr getM putM wholeV litCs asV asC ptrC fnC nilC nilPtr strRows_len runs runsN guardOf exec1 pureV modD rowD ev get St.app St.put St.turn loadC moveC fieldOf indexC lenC lenOk cutC bndOf evAll fieldV convV unV binV binI bitsV moreV intsT eqL eq1 valOf min1 lit1 litInt litI litB litS constV constC cellsV partsOf placesOf buildV fillL toT elemsOf rowsOf baseOf dstOk V.kill V.ment V.ments C.kill C.ment C.ments B.kill setD litRows litRows_append T.isLit callAll calleeV argsV argV viewC viewCs modeOk freeOps V.free C.free V.allF V.allFs C.allF C.allFs B.allF callD leL growSt growB C.flat V.flat B.flat flatL flatB St.flat List.set_cons_zero List.set_cons_succ C.only C.onlys V.only V.onlys B.only renI C.ren C.rens V.ren V.rens B.ren renB renOk nodK Option.getD_some Option.getD_none Option.isSome_some implies_true false_implies C.fit C.fits V.fit V.fit1 V.fits Bool.and_self ite_self exitV resV resL resC outV outV.outs eqB nn cast0 Int.toNat_natCast List.getElem?_map Value.cells Value.oneCell' Nat.lt_irrefl decide_true decide_false and_true true_and and_self and_false false_and not_true_eq_false not_false_eq_true not_true not_false List.size_toArray all_len Nat.zero_add Nat.add_zero List.length_cons List.length_append List.length_replicate List.length_set List.length_nil List.length_map List.map_cons List.map_nil List.take_succ_cons List.take_zero List.take_nil List.drop_succ_cons List.drop_zero List.drop_nil List.cons_append List.nil_append List.append_nil List.all_cons List.all_nil Bool.and_true Bool.true_and Bool.and_false Bool.false_and Bool.not_true Bool.not_false Bool.or_false Bool.or_true Bool.false_or Bool.true_or List.filter_cons List.filter_nil List.contains_cons List.contains_nil beq_self_eq_true List.getElem?_cons_zero List.getElem?_cons_succ List.getElem?_nil Option.map_some Option.map_none Option.toList_some Option.toList_none List.isEmpty_cons List.isEmpty_nil Bool.false_eq_true Bool.true_eq_false List.getElem?_toArray List.not_mem_nil List.mem_cons or_false forall_eq List.mem_singleton forall_const Option.toArray tailF addF flSl dKeeps flFree closF notF if_true if_false dstsOf Oper.looksAt Op.operands Call.operands pick stOf goneOf slOf blOf keepB' edge B.ment Region.binds tailOk clos List.any_cons List.any_nil List.filterMap_cons List.filterMap_nil ne_eq Bool.or_self List.isEmpty_iff Array.toList_append List.append_toArray Array.append_empty Option.bind_some Option.bind_none List.push_toArray
abbrev rC1 (c:Col):List T:=[.lit (.string c.name),.lit (.int .i64 c.ty)]
abbrev rCs (l:List Col):List (List T):=l.map rC1
theorem litC_ (l:List Col):litRows (rCs l)=true:=litRows_map fun _=>rfl
theorem lenC_ (l:List Col):(∀ r ∈ rCs l,r.length=2)=True:=all_len fun _=>rfl
mutual
def rE:Ex→List T
 | .mk k v nm ar=>[.lit (.int .i64 k),.lit (.int .i64 v.k),.lit (.int .i64 v.n),.lit (.string v.s),.lit (.string nm),.sl (rEs ar)]
def rEs:List Ex→List (List T)
 | []=>[]
 | x :: l=>rE x :: rEs l
end
theorem rEs_map:∀ l:List Ex,rEs l=l.map rE
 | []=>by rw [rEs];rfl
 | x :: l=>by rw [rEs,rEs_map l,List.map_cons]
theorem rE_mk (k:Int) (v:Vl) (nm:ByteArray) (ar:List Ex):rE (.mk k v nm ar)=[.lit (.int .i64 k),.lit (.int .i64 v.k),.lit (.int .i64 v.n),.lit (.string v.s),.lit (.string nm),.sl (ar.map rE)]:=by
 rw [rE,rEs_map]
theorem rE_len (e:Ex):(rE e).length=6:=by obtain ⟨k,v,nm,ar⟩:=e;rw [rE_mk];rfl
theorem rE_val (v:Vl):rE (Gx.val v).ex=[.lit (.int .i64 1),.lit (.int .i64 v.k),.lit (.int .i64 v.n),.lit (.string v.s),.lit (.string .empty),.sl []]:=by rw [Gx.ex,rE_mk];rfl
theorem rE_col (nm:ByteArray):rE (Gx.col nm).ex=[.lit (.int .i64 2),.lit (.int .i64 0),.lit (.int .i64 0),.lit (.string .empty),.lit (.string nm),.sl []]:=by rw [Gx.ex,rE_mk];rfl
theorem rE_un (k:Int) (x:Gx):rE (Gx.un k x).ex=[.lit (.int .i64 k),.lit (.int .i64 0),.lit (.int .i64 0),.lit (.string .empty),.lit (.string .empty),.sl [rE x.ex]]:=by rw [Gx.ex,rE_mk];rfl
theorem rE_bin (k:Int) (x y:Gx):rE (Gx.bin k x y).ex=[.lit (.int .i64 k),.lit (.int .i64 0),.lit (.int .i64 0),.lit (.string .empty),.lit (.string .empty),.sl [rE x.ex,rE y.ex]]:=by rw [Gx.ex,rE_mk];rfl
end Go.Proofs.YtjdgejfhnfnmgaaGreatDoor.Ax
namespace Go.Proofs.YtjdgejfhnfnmgaaGreatDoor
open Go.RowKit
theorem weights_of_each {H:Type} {P:Program} {ts:List TypeId} {ds:List (DataW H)} (h:(DataW.weightsEach P ts ds).all (·≤reachBytes)=true) {j:Nat} {t:TypeId} {d:DataW H} (ht:ts[j]?=some t) (hd:ds[j]?=some d):(DataW.weights P t d).all (·≤reachBytes)=true :=
 List.all_eq_true.2 fun x hx=>List.all_eq_true.1 h _ (DataW.weights_mem_each ht hd x hx)
end Go.Proofs.YtjdgejfhnfnmgaaGreatDoor
