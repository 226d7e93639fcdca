/-  -/
import Derived.Test.YtjdgejfhnfnmgaaGreatDoorT18
import Derived.Test.YtjdgejfhnfnmgaaGreatDoorAxTy
import Derived.Test.YtjdgejfhnfnmgaaGreatDoorT9
import Derived.Test.YtjdgejfhnfnmgaaGreatDoorT17
import Derived.Test.YtjdgejfhnfnmgaaGreatDoorRows
import Derived.Test.YtjdgejfhnfnmgaaGreatDoorT0
import Derived.Lib.Hide
import Derived.WalkKit
import Derived.StillTailTactics
import Derived.Test.YtjdgejfhnfnmgaaGreatDoorT15
import Derived.Test.YtjdgejfhnfnmgaaGreatDoorT1
namespace Go.Proofs.YtjdgejfhnfnmgaaGreatDoor
open Go.RowKit
def fst8 (u : ByteArray) : Option UInt8 := u.data.toList.head?
def digF (u : ByteArray) : Bool := match fst8 u with
 | some c => digitB c
 | none => false
def quoF (u : ByteArray) : Bool := match fst8 u with
 | some c => c == 39
 | none => false
def numL (l : List UInt8) : Int := l.foldl (fun n c => 10 * n + (c.toNat : Int) - 48) 0
def wTrue : ByteArray := ⟨#[116, 114, 117, 101]⟩
def wFalse : ByteArray := ⟨#[102, 97, 108, 115, 101]⟩
def wNull : ByteArray := ⟨#[110, 117, 108, 108]⟩
def unq (u : ByteArray) : ByteArray := u.extract 1 (u.size - 1)
def wAnd7 : List ByteArray := [⟨#[97, 110, 100]⟩, ⟨#[111, 114]⟩, ⟨#[43]⟩, ⟨#[45]⟩, ⟨#[124, 124]⟩, ⟨#[60]⟩, ⟨#[61]⟩]
def wOpen : ByteArray := ⟨#[40]⟩
def wShut : ByteArray := ⟨#[41]⟩
def wNot : ByteArray := ⟨#[110, 111, 116]⟩
def wIs : ByteArray := ⟨#[105, 115]⟩
structure GoodL (l : List Vl) : Prop where
 len : l.length ≤ 2000
 tok : ∀ t ∈ l, tokB t.k t.s = true
theorem tok_facts {k : Int} {s : ByteArray} (h : tokB k s = true) : ∃ x r, s.data.toList = x :: r ∧ s.size ≤ 2000 ∧ (tokA x r).1 = k ∧ (tokA x r).2 = s.size ∧ (tokL x r).2.2 = 0 := by
 unfold tokB at h
 split at h
 ·cases h
 ·rename_i x r hs
  simp only [Bool.and_eq_true, decide_eq_true_eq, beq_iff_eq] at h
  exact ⟨x, r, hs, h.1.1.1.1, h.1.1.2, h.1.2, h.2⟩
theorem letter_digit {x : UInt8} (h : letterB x = true) : digitB x = false ∧ (x == 39) = false := by
 unfold letterB at h
 unfold digitB
 simp only [Bool.and_eq_true, decide_eq_true_eq] at h
 constructor
 ·simp only [Bool.and_eq_false_iff, decide_eq_false_iff_not]; omega
 ·rw [beq_eq_false_iff_ne]
  rintro rfl
  have : (39 : UInt8).toNat = 39 := rfl
  omega
theorem digit_quo {x : UInt8} (h : digitB x = true) : (x == 39) = false := by
 unfold digitB at h
 simp only [Bool.and_eq_true, decide_eq_true_eq] at h
 rw [beq_eq_false_iff_ne]
 rintro rfl
 have : (39 : UInt8).toNat = 39 := rfl
 omega
theorem fst8_of {s : ByteArray} {x : UInt8} {r : List UInt8} (h : s.data.toList = x :: r) : fst8 s = some x := by unfold fst8; rw [h]; rfl
theorem tok_num {k : Int} {s : ByteArray} (h : tokB k s = true) : (digF s = true ↔ k = 2) ∧ (k = 2 → s.size ≤ 9 ∧ s.data.toList.all digitB = true) ∧ (quoF s = true ↔ k = 3) ∧ (k = 3 → 2 ≤ s.size ∧ s.size ≤ 22) := by
 obtain ⟨x, r, hs, hz, h1, h2, h3⟩ := tok_facts h
 have hsz : s.size = r.length + 1 := by
  have : s.data.toList.length = s.size := rfl
  rw [hs, List.length_cons] at this
  omega
 unfold digF quoF
 rw [fst8_of hs]
 dsimp only
 unfold tokA at h1 h2
 unfold tokL at h3
 by_cases c1 : letterB x = true
 ·rw [if_pos c1] at h1 h2
  obtain ⟨d1, d2⟩ := letter_digit c1
  rw [d1, d2]
  dsimp only at h1
  exact ⟨⟨fun h => (by cases h), fun h => (by omega)⟩, fun h => (by omega), ⟨fun h => (by cases h), fun h => (by omega)⟩, fun h => (by omega)⟩
 ·rw [if_neg c1] at h1 h2 h3
  by_cases c2 : digitB x = true
  ·rw [if_pos c2] at h1 h2 h3
   dsimp only at h1 h2 h3
   rw [c2, digit_quo c2]
   refine ⟨⟨fun _ => (by omega), fun _ => rfl⟩, fun _ => ⟨?_, ?_⟩, ⟨fun h => (by cases h), fun h => (by omega)⟩, fun h => (by omega)⟩
   ·split at h3
    ·cases h3
    ·omega
   ·rw [hs, List.all_cons, c2, Bool.true_and]
    have hr : runN digitB r = r.length := by omega
    have key : ∀ l : List UInt8, runN digitB l = l.length → l.all digitB = true := by
     intro l
     induction l with
     | nil => intro _; rfl
     | cons y l ih =>
      intro hl
      rw [runN] at hl
      split at hl
      ·rename_i hy
       rw [List.all_cons, hy, Bool.true_and]
       exact ih (by rw [List.length_cons] at hl; omega)
      ·rw [List.length_cons] at hl; omega
    exact key r hr
  ·rw [if_neg c2] at h1 h2 h3
   rw [Bool.not_eq_true] at c2
   rw [c2]
   by_cases c3 : x = 39
   ·rw [if_pos c3] at h1 h2 h3
    subst c3
    split at h1
    ·rename_i hq
     rw [if_pos hq] at h2 h3
     dsimp only at h1 h2 h3
     refine ⟨⟨fun h => (by cases h), fun h => (by omega)⟩, fun h => (by omega), ⟨fun _ => (by omega), fun _ => rfl⟩, fun _ => ⟨by omega, ?_⟩⟩
     split at h3
     ·cases h3
     ·omega
    ·rename_i hq
     rw [if_neg hq] at h3
     cases h3
   ·rw [if_neg c3] at h1 h2 h3
    have c4 : (x == 39) = false := by rw [beq_eq_false_iff_ne]; exact c3
    rw [c4]
    have hk : k ≠ 2 ∧ k ≠ 3 := by
     split at h1
     ·dsimp only at h1; omega
     ·split at h1
      ·dsimp only at h1; omega
      ·dsimp only at h1; omega
    exact ⟨⟨fun h => (by cases h), fun h => absurd h hk.1⟩, fun h => absurd h hk.1, ⟨fun h => (by cases h), fun h => absurd h hk.2⟩, fun h => absurd h hk.2⟩
theorem numL_step {l : List UInt8} {i : Nat} {c : UInt8} (h : l[i]? = some c) : numL (l.take (i + 1)) = 10 * numL (l.take i) + (c.toNat : Int) - 48 := by
 obtain ⟨hk, rfl⟩ := List.getElem?_eq_some_iff.1 h
 unfold numL
 rw [List.take_succ_eq_append_getElem hk, List.foldl_append]
 rfl
theorem numL_range {l : List UInt8} (h : l.all digitB = true) : ∀ i, i ≤ l.length → 0 ≤ numL (l.take i) ∧ numL (l.take i) < 10 ^ i
 | 0, _ => by rw [List.take_zero]; exact ⟨by decide, by decide⟩
 | i + 1, hi => by
  obtain ⟨c, hc⟩ : ∃ c, l[i]? = some c := ⟨_, List.getElem?_eq_getElem (by omega)⟩
  obtain ⟨h1, h2⟩ := numL_range h i (by omega)
  have hd := List.all_eq_true.1 h c (List.mem_of_getElem? hc)
  unfold digitB at hd
  simp only [Bool.and_eq_true, decide_eq_true_eq] at hd
  rw [numL_step hc, Int.pow_succ]
  omega
theorem numL_small {l : List UInt8} (h : l.all digitB = true) (hl : l.length ≤ 9) (i : Nat) (hi : i ≤ l.length) : 0 ≤ numL (l.take i) ∧ numL (l.take i) < 1000000000 := by
 obtain ⟨h1, h2⟩ := numL_range h i hi
 refine ⟨h1, Int.lt_of_lt_of_le h2 ?_⟩
 have : (10 : Int) ^ i ≤ 10 ^ 9 := by
  have : (10 : Nat) ^ i ≤ 10 ^ 9 := Nat.pow_le_pow_right (by decide) (by omega)
  exact_mod_cast this
 exact this
end Go.Proofs.YtjdgejfhnfnmgaaGreatDoor
namespace Go.Proofs.YtjdgejfhnfnmgaaGreatDoor
open Go.RowKit
def hereP (l : List Vl) (en : Int) (k : Nat) : Int := match l[k]? with
 | some t => t.n
 | none => en
def txP (l : List Vl) (k : Nat) : ByteArray := match l[k]? with
 | some t => t.s
 | none => ⟨#[]⟩
def takeB (l : List Vl) (s : ByteArray) (k : Nat) : Bool := match l[k]? with
 | some t => strEq t.s s
 | none => false
def nameP (l : List Vl) (k : Nat) : Bool := match l[k]? with
 | some t => nameB t.s
 | none => false
def kindP (l : List Vl) (n : Int) (k : Nat) : Bool := match l[k]? with
 | some t => t.k == n
 | none => false
end Go.Proofs.YtjdgejfhnfnmgaaGreatDoor
namespace Go.Proofs.YtjdgejfhnfnmgaaGreatDoor.Ax
open Go.RowKit
set_option linter.unusedSimpArgs false
attribute [local go_sem] extV appD cutOwn appOwn clearOwn bdI mapD putD' keyOk getOr getM putM wholeV litCs asV asC ptrC fnC nilC nilPtr strRows_len runs runsN guardOf exec1 pureV modD rowD ev get St.app St.put St.turn loadC moveC fieldOf indexC lenC lenOk cutC bndOf evAll fieldV convV unV binV binI bitsV moreV intsT eqL eq1 valOf min1 lit1 litInt litI litB litS constV constC cellsV partsOf placesOf buildV fillL toT elemsOf rowsOf baseOf dstOk V.kill V.ment V.ments C.kill C.ment C.ments B.kill setD litRows litRows_append T.isLit callAll calleeV argsV argV viewC viewCs modeOk freeOps V.free C.free V.allF V.allFs C.allF C.allFs B.allF callD leL growB C.flat V.flat B.flat flatL flatB St.flat List.set_cons_zero List.set_cons_succ C.only C.onlys V.only V.onlys B.only renI C.ren C.rens V.ren V.rens B.ren renB renOk nodK Option.getD_some Option.getD_none Option.isSome_some implies_true false_implies C.fit C.fits V.fit V.fit1 V.fits Bool.and_self ite_self exitV resV resL resC outV outV.outs eqB nn cast0 Int.toNat_natCast List.getElem?_map Value.cells Value.oneCell' Nat.lt_irrefl decide_true decide_false and_true true_and and_self and_false false_and not_true_eq_false not_false_eq_true not_true not_false List.size_toArray all_len Nat.zero_add Nat.add_zero List.length_cons List.length_append List.length_replicate List.length_set List.length_nil List.length_map List.map_cons List.map_nil List.take_succ_cons List.take_zero List.take_nil List.drop_succ_cons List.drop_zero List.drop_nil List.cons_append List.nil_append List.append_nil List.all_cons List.all_nil Bool.and_true Bool.true_and Bool.and_false Bool.false_and Bool.not_true Bool.not_false Bool.or_false Bool.or_true Bool.false_or Bool.true_or List.filter_cons List.filter_nil List.contains_cons List.contains_nil beq_self_eq_true List.getElem?_cons_zero List.getElem?_cons_succ List.getElem?_nil Option.map_some Option.map_none Option.toList_some Option.toList_none List.isEmpty_cons List.isEmpty_nil Bool.false_eq_true Bool.true_eq_false List.getElem?_toArray List.not_mem_nil List.mem_cons or_false forall_eq List.mem_singleton forall_const Option.toArray addF if_true if_false dstsOf Oper.looksAt Op.operands Call.operands pick edge B.ment Region.binds List.any_cons List.any_nil List.filterMap_cons List.filterMap_nil ne_eq Bool.or_self List.isEmpty_iff Array.toList_append List.append_toArray Array.append_empty Option.bind_some Option.bind_none List.push_toArray
abbrev rV1 (v : Vl) : List T := [.lit (.int .i64 v.k), .lit (.int .i64 v.n), .lit (.string v.s)]
abbrev aV1 (v : Vl) : A := .agg (rV1 v)
abbrev vV1 (z z' z'' : Bool) (v : Vl) : V := .agg [.t z (.lit (.int .i64 v.k)), .t z' (.lit (.int .i64 v.n)), .t z'' (.lit (.string v.s))]
abbrev vVt (v : Vl) : V := vV1 true true true v
abbrev rVs (l : List Vl) : List (List T) := l.map rV1
theorem litV_ (l : List Vl) : litRows (rVs l) = true := litRows_map fun _ => rfl
theorem lenV_ (l : List Vl) : (∀ r ∈ rVs l, r.length = 3) = True := all_len fun _ => rfl
theorem nilE : (⟨#[]⟩ : ByteArray).toList = [] := ByteArray.toList_mk []
theorem isE (s : ByteArray) : (s.toList == (⟨#[]⟩ : ByteArray).toList) = emptyS s := by
 rw [nilE]
 unfold emptyS
 cases s.toList <;> rfl
theorem sameZ (v : Vl) : ((v.k == 0) && ((v.n == 0) && emptyS v.s)) = v.same Vl.zero := by
 unfold Vl.same Vl.zero emptyS
 rw [show ByteArray.empty = (⟨#[]⟩ : ByteArray) from rfl, nilE, Bool.and_assoc]
 cases v.s.toList <;> rfl
end Go.Proofs.YtjdgejfhnfnmgaaGreatDoor.Ax
namespace Go.Proofs.YtjdgejfhnfnmgaaGreatDoor.Ax
open Go.RowKit
set_option linter.unusedSimpArgs false
attribute [local go_sem] extV appD cutOwn appOwn clearOwn bdI mapD putD' keyOk getOr getM putM wholeV litCs asV asC ptrC fnC nilC nilPtr strRows_len runs runsN guardOf exec1 pureV modD rowD ev get St.app St.put St.turn loadC moveC fieldOf indexC lenC lenOk cutC bndOf evAll fieldV convV unV binV binI bitsV moreV intsT eqL eq1 valOf min1 lit1 litInt litI litB litS constV constC cellsV partsOf placesOf buildV fillL toT elemsOf rowsOf baseOf dstOk V.kill V.ment V.ments C.kill C.ment C.ments B.kill setD litRows litRows_append T.isLit callAll calleeV argsV argV viewC viewCs modeOk freeOps V.free C.free V.allF V.allFs C.allF C.allFs B.allF callD leL growB C.flat V.flat B.flat flatL flatB St.flat List.set_cons_zero List.set_cons_succ C.only C.onlys V.only V.onlys B.only renI C.ren C.rens V.ren V.rens B.ren renB renOk nodK Option.getD_some Option.getD_none Option.isSome_some implies_true false_implies C.fit C.fits V.fit V.fit1 V.fits Bool.and_self ite_self exitV resV resL resC outV outV.outs eqB nn cast0 Int.toNat_natCast List.getElem?_map Value.cells Value.oneCell' Nat.lt_irrefl decide_true decide_false and_true true_and and_self and_false false_and not_true_eq_false not_false_eq_true not_true not_false List.size_toArray all_len Nat.zero_add Nat.add_zero List.length_cons List.length_append List.length_replicate List.length_set List.length_nil List.length_map List.map_cons List.map_nil List.take_succ_cons List.take_zero List.take_nil List.drop_succ_cons List.drop_zero List.drop_nil List.cons_append List.nil_append List.append_nil List.all_cons List.all_nil Bool.and_true Bool.true_and Bool.and_false Bool.false_and Bool.not_true Bool.not_false Bool.or_false Bool.or_true Bool.false_or Bool.true_or List.filter_cons List.filter_nil List.contains_cons List.contains_nil beq_self_eq_true List.getElem?_cons_zero List.getElem?_cons_succ List.getElem?_nil Option.map_some Option.map_none Option.toList_some Option.toList_none List.isEmpty_cons List.isEmpty_nil Bool.false_eq_true Bool.true_eq_false List.getElem?_toArray List.not_mem_nil List.mem_cons or_false forall_eq List.mem_singleton forall_const Option.toArray addF if_true if_false dstsOf Oper.looksAt Op.operands Call.operands pick edge B.ment Region.binds List.any_cons List.any_nil List.filterMap_cons List.filterMap_nil ne_eq Bool.or_self List.isEmpty_iff Array.toList_append List.append_toArray Array.append_empty Option.bind_some Option.bind_none List.push_toArray
abbrev rC1 (c : Col) : List T := [.lit (.string c.name), .lit (.int .i64 c.ty)]
abbrev rCs (l : List Col) : List (List T) := l.map rC1
theorem litC_ (l : List Col) : litRows (rCs l) = true := litRows_map fun _ => rfl
theorem lenC_ (l : List Col) : (∀ r ∈ rCs l, r.length = 2) = True := all_len fun _ => rfl
mutual
def rE : Ex → List T
 | .mk k v nm ar => [.lit (.int .i64 k), .lit (.int .i64 v.k), .lit (.int .i64 v.n), .lit (.string v.s), .lit (.string nm), .sl (rEs ar)]
def rEs : List Ex → List (List T)
 | [] => []
 | x :: l => rE x :: rEs l
end
theorem rEs_map : ∀ l : List Ex, rEs l = l.map rE
 | [] => by rw [rEs]; rfl
 | x :: l => by rw [rEs, rEs_map l, List.map_cons]
theorem rE_mk (k : Int) (v : Vl) (nm : ByteArray) (ar : List Ex) : rE (.mk k v nm ar) = [.lit (.int .i64 k), .lit (.int .i64 v.k), .lit (.int .i64 v.n), .lit (.string v.s), .lit (.string nm), .sl (ar.map rE)] := by
 rw [rE, rEs_map]
end Go.Proofs.YtjdgejfhnfnmgaaGreatDoor.Ax
namespace Go.Proofs.YtjdgejfhnfnmgaaGreatDoor
open Go.RowKit
theorem within_any (n a b : Int) (w : World) :
  Calls Tryz.prog 79 #[.int .i64 n, .int .i64 a, .int .i64 b] w fun e w' => e = .returned (.bool (decide (a ≤ n) && decide (n ≤ b))) ∧ w = w' := by
 by_cases h1 : a ≤ n <;> by_cases h2 : n ≤ b
 all_goals
  go_enter Tryz.func79, Tryz.ntmps79
  go_wp2
  go_ret
  exact ⟨by simp [h1, h2], rfl⟩
theorem vint_any (n : Int) (w : World) :
  Calls Tryz.prog 131 #[.int .i64 n] w fun e w' => e = .returned (.bool (isInt n)) ∧ w = w' := by
 go_enter Tryz.func131, Tryz.ntmps131
 go_wp2_with (go_at_call 79; refine (within_any _ _ _ _).mono ?_; rintro e w' ⟨rfl, rfl⟩)
 go_ret
 exact ⟨rfl, rfl⟩
theorem tquot_any (c : UInt8) (w : World) :
  Calls Tryz.prog 139 #[.int .u8 c.toNat] w fun e w' => e = .returned (.bool (quotB c)) ∧ w = w' := by
 by_cases h1 : 32 ≤ (c.toNat : Int) <;> by_cases h2 : (c.toNat : Int) ≤ 126 <;> by_cases h3 : (c.toNat : Int) = 39
 all_goals
  try (exfalso; omega)
 all_goals
  have H3 := Lib.hid h3
  try have h4 : ((c.toNat : Int) != 39) = true := by simpa using h3
  try have h4 : ((c.toNat : Int) != 39) = false := by simpa using h3
  clear h3
  go_enter Tryz.func139, Tryz.ntmps139
  go_wp2
  go_ret
  exact ⟨by simp [quotB, h1, h2, H3.out], rfl⟩
theorem all_take_snoc (s : ByteArray) (k : Nat) (h : k < s.size) (hq : ((s.data.toList.take k).all quotB) = true) : ((s.data.toList.take (k + 1)).all quotB) = quotB s[k] := by
 have e : s.data.toList.take (k + 1) = s.data.toList.take k ++ [s[k]] := by
  rw [List.take_succ_eq_append_getElem (by simpa using h)]; rfl
 rw [e, List.all_append, hq]; simp
theorem all_false (s : ByteArray) (k : Nat) (h : k < s.size) (hq : quotB s[k] = false) : s.data.toList.all quotB = false := by
 rw [List.all_eq_false]
 exact ⟨s[k], by simp [ByteArray.getElem_eq_getElem_data, Array.getElem_mem], by simp [hq]⟩
theorem vquot_any (s : ByteArray) (w : World) (hs : s.size ≤ maxLen) :
  Calls Tryz.prog 132 #[.string s] w fun e w' => e = .returned (.bool (quotS s)) ∧ w = w' := by
 unfold maxLen at hs
 go_enter Tryz.func132, Tryz.ntmps132
 go_wp2
 go_loop [6] (fun i => ∃ k : Nat, k ≤ s.size ∧ ((s.data.toList.take k).all quotB) = true ∧ i = .int .i64 k) (fun i => s.size - (intOf i).toNat)
 case atStart => exact ⟨0, Nat.zero_le _, rfl, rfl⟩
 case round =>
  obtain ⟨k, hk, hq, rfl⟩ := hrel
  have HQ := Lib.hid hq
  clear hq
  by_cases hlt : k < s.size
  ·by_cases hb : quotB s[k] = true
   ·go_wp2_with (go_at_call 139; refine (tquot_any _ _).mono ?_; rintro e w' ⟨rfl, rfl⟩)
    go_round
    case rel => exact ⟨k + 1, by omega, by rw [all_take_snoc s k hlt HQ.out]; exact hb, by go_num⟩
    case measure => simp [intOf]; omega
   ·have hb' : quotB s[k] = false := by simpa using hb
    clear hb
    go_wp2_with (go_at_call 139; refine (tquot_any _ _).mono ?_; rintro e w' ⟨rfl, rfl⟩)
    go_ret
    exact ⟨by simp [quotS, all_false s k hlt hb'], rfl⟩
  ·go_wp2
   go_ret
   have e : s.data.toList.all quotB = true := by
    have := HQ.out; rwa [List.take_of_length_le (by simp; omega)] at this
   exact ⟨by simp only [quotS, e, Bool.true_and]; simp; omega, rfl⟩
set_option maxHeartbeats 1000000 in
theorem vcheck_any (v : Vl) (w : World) (hs : v.s.size ≤ maxLen) :
  Calls Tryz.prog 81 #[v.val] w fun e w' => e = .returned (.int .i64 v.chk) ∧ Below w.heap.size w w' := by
 obtain ⟨k, n, s⟩ := v
 dsimp only [Vl.val] at hs ⊢
 by_cases hk : k = 0 ∨ k = 1 ∨ k = 2 ∨ k = 3
 ·rcases hk with rfl | rfl | rfl | rfl
  all_goals
   go_enter Tryz.func81, Tryz.ntmps81
   go_wp2_with (first | (go_at_call 79; refine (within_any _ _ _ _).mono ?_; rintro e w' ⟨rfl, rfl⟩) | (go_at_call 131; refine (vint_any _ _).mono ?_; rintro e w' ⟨rfl, rfl⟩) | (go_at_call 132; refine (vquot_any _ _ hs).mono ?_; rintro e w' ⟨rfl, rfl⟩))
  all_goals
   go_ret
   refine ⟨?_, below_two _⟩
   simp_all [Vl.chk, Vl.fine, emptyS]
   try omega
 ·have h0 : ¬ k = 0 := by omega
  have h1 : ¬ k = 1 := by omega
  have h2 : ¬ k = 2 := by omega
  have h3 : ¬ k = 3 := by omega
  clear hk
  go_enter Tryz.func81, Tryz.ntmps81
  go_wp2
  go_ret
  exact ⟨by simp [Vl.chk]; omega, below_two _⟩
end Go.Proofs.YtjdgejfhnfnmgaaGreatDoor
namespace Go.Proofs.YtjdgejfhnfnmgaaGreatDoor
open Go.RowKit
end Go.Proofs.YtjdgejfhnfnmgaaGreatDoor
namespace Go.Proofs.YtjdgejfhnfnmgaaGreatDoor
open Go.RowKit
end Go.Proofs.YtjdgejfhnfnmgaaGreatDoor
namespace Go.Proofs.YtjdgejfhnfnmgaaGreatDoor
open Go.RowKit
end Go.Proofs.YtjdgejfhnfnmgaaGreatDoor
namespace Go.Proofs.YtjdgejfhnfnmgaaGreatDoor
open Go.RowKit
set_option maxHeartbeats 1000000 in
theorem rsame_any (a b : Vl) (w : World) :
  Calls Tryz.prog 26 #[a.val, b.val] w fun e w' => e = .returned (.bool (a.same b)) ∧ Below w.heap.size w w' := by
 obtain ⟨k, n, s⟩ := a
 obtain ⟨k', n', s'⟩ := b
 dsimp only [Vl.val, Vl.same]
 by_cases h1 : k = k'
 ·subst h1
  by_cases h2 : n = n'
  ·subst h2
   go_enter Tryz.func26, Tryz.ntmps26
   go_wp2
   go_ret
   exact ⟨by simp, ((Below.refl _ _).alloc (Nat.le_refl _) _).alloc (by simp) _⟩
  ·have h2' : (n == n') = false := by simp [h2]
   clear h2
   go_enter Tryz.func26, Tryz.ntmps26
   go_wp2
   go_ret
   exact ⟨by simp [h2'], ((Below.refl _ _).alloc (Nat.le_refl _) _).alloc (by simp) _⟩
 ·have h1' : (k == k') = false := by simp [h1]
  clear h1
  go_enter Tryz.func26, Tryz.ntmps26
  go_wp2
  go_ret
  exact ⟨by simp [h1'], ((Below.refl _ _).alloc (Nat.le_refl _) _).alloc (by simp) _⟩
end Go.Proofs.YtjdgejfhnfnmgaaGreatDoor
namespace Go.Proofs.YtjdgejfhnfnmgaaGreatDoor.Ax
open Go.RowKit
set_option linter.unusedSimpArgs false
attribute [local go_sem] ty3 ty4 ty9 ty24 ty32 ty137
set_option maxRecDepth 100000
theorem vcheck_sp (v : Vl) (hs : v.s.size ≤ maxLen) : Sp Tryz.prog 81 [aV1 v] (.one (.t true (.lit (.int .i64 v.chk)))) [] :=
 sp_lits (enters_of Tryz.func81 (by kernel_rfl) rfl) [v.val] _ rfl rfl fun w => (vcheck_any v w hs).mono fun _ _ h => h
theorem rsame_sp (a b : Vl) : Sp Tryz.prog 26 [aV1 a, aV1 b] (.one (.t true (.lit (.bool (a.same b))))) [] :=
 sp_lits (enters_of Tryz.func26 (by kernel_rfl) rfl) [a.val, b.val] _ rfl rfl fun w => (rsame_any a b w).mono fun _ _ h => h
theorem truth_sp (b : Bool) : Sp Tryz.prog 164 [.one (.lit (.bool b))] (vVt (truth b)) [] := by
 cases b
 all_goals
  (refine en_ Tryz.func164 Tryz.ntmps164 Tryz.results164 fun X hX => ?_)
  (refine go_ an0 ?_)
  (first | exact oq_ an0 | refine ou_ an0 ?_)
  try rfl
end Go.Proofs.YtjdgejfhnfnmgaaGreatDoor.Ax
namespace Go.Proofs.YtjdgejfhnfnmgaaGreatDoor
open Go.RowKit
end Go.Proofs.YtjdgejfhnfnmgaaGreatDoor
namespace Go.Proofs.YtjdgejfhnfnmgaaGreatDoor.Ax
open Go.RowKit Go.Deep
section
variable {w : World} {ok : Nat → Prop}
theorem RdL.len' : ∀ {ts : List T} {cs : List Value}, RdL w ok ts cs → cs.length = ts.length
 | [], [], _ => rfl
 | _ :: _, _ :: _, h => by unfold RdL at h; rw [List.length_cons, List.length_cons, RdL.len' h.2]
 | [], _ :: _, h => by unfold RdL at h; exact h.elim
 | _ :: _, [], h => by unfold RdL at h; exact h.elim
end
section
variable {P : Program} {N : Nat} {t : TypeId}
end
theorem Sp.law {P : Program} {f : FuncId} {args : List A} {w : World} {vs : List Value} (h : Sp P f args (.one (.t true (.lit (.bool true)))) []) (hG : GW w) (hvs : RdAs w (fun b => b < w.heap.size) args vs) : Calls P f vs.toArray w fun e w' => e = .returned (.bool true) ∧ Below w.heap.size w w' :=
 (h.calls w (fun b => b < w.heap.size) (fun _ h => h) vs hG hvs).mono fun e w' => by
  rintro ⟨x, ρ, rfl, hb, _, _, _, hx, _⟩
  unfold RdV RdC RdT at hx
  exact ⟨by rw [hx.1], hb⟩
section
variable {w : World} {ok : Nat → Prop}
theorem rdAs_nil : RdAs w ok [] [] := by unfold RdAs; trivial
theorem rdAs_cons {a : A} {as_ : List A} {v : Value} {vs : List Value} (h : RdA w ok a v) (h' : RdAs w ok as_ vs) : RdAs w ok (a :: as_) (v :: vs) := by unfold RdAs; exact ⟨h, h'⟩
theorem rdA_lit {v : Value} (h : v.oneCell' = true) : RdA w ok (.one (.lit v)) v := by unfold RdA RdT; exact ⟨rfl, h⟩
end
end Go.Proofs.YtjdgejfhnfnmgaaGreatDoor.Ax
namespace Go.Proofs.YtjdgejfhnfnmgaaGreatDoor.Ax
open Go.RowKit
def goodV (v : Vl) : Prop := (-9223372036854775808 ≤ v.k ∧ v.k ≤ 9223372036854775807) ∧ (-9223372036854775808 ≤ v.n ∧ v.n ≤ 9223372036854775807) ∧ v.s.size ≤ 140737488351232
end Go.Proofs.YtjdgejfhnfnmgaaGreatDoor.Ax
namespace Go.Proofs.YtjdgejfhnfnmgaaGreatDoor.Ax
open Go.RowKit
inductive goodE : Ex → Prop
 | mk {k : Int} {v : Vl} {nm : ByteArray} {ar : List Ex} (hk : -9223372036854775808 ≤ k ∧ k ≤ 9223372036854775807) (hv : goodV v) (hn : nm.size ≤ 140737488351232) (hl : ar.length * 80 ≤ 140737488351232 ∧ ar.length ≤ maxLen) (ha : ∀ a ∈ ar, goodE a) : goodE (.mk k v nm ar)
end Go.Proofs.YtjdgejfhnfnmgaaGreatDoor.Ax
