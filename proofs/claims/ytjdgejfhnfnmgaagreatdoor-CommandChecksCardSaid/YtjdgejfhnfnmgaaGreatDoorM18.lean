/-  -/
import Derived.Test.YtjdgejfhnfnmgaaGreatDoorM17
import Derived.Test.YtjdgejfhnfnmgaaGreatDoorAxTy
import Derived.Test.YtjdgejfhnfnmgaaGreatDoorM8
import Derived.Test.YtjdgejfhnfnmgaaGreatDoorM16
import Derived.Test.YtjdgejfhnfnmgaaGreatDoorRows
import Derived.Test.YtjdgejfhnfnmgaaGreatDoorM0
import Derived.Lib.Hide
import Derived.WalkKit
import Derived.StillTailTactics
import Derived.Test.YtjdgejfhnfnmgaaGreatDoorAxW
import Derived.Test.YtjdgejfhnfnmgaaGreatDoorM1
namespace Go.Proofs.YtjdgejfhnfnmgaaGreatDoor
open Go.RowKit
def hereP (l : List Vl) (en : Int) (k : Nat) : Int := match l[k]? with
 | some t => t.n
 | none => en
def txP (l : List Vl) (k : Nat) : ByteArray := match l[k]? with
 | some t => t.s
 | none => ⟨#[]⟩
def takeB (l : List Vl) (s : ByteArray) (k : Nat) : Bool := match l[k]? with
 | some t => strEq t.s s
 | none => false
def nameP (l : List Vl) (k : Nat) : Bool := match l[k]? with
 | some t => nameB t.s
 | none => false
def kindP (l : List Vl) (n : Int) (k : Nat) : Bool := match l[k]? with
 | some t => t.k == n
 | none => false
end Go.Proofs.YtjdgejfhnfnmgaaGreatDoor
namespace Go.Proofs.YtjdgejfhnfnmgaaGreatDoor.Ax
open Go.RowKit
set_option linter.unusedSimpArgs false
attribute [local go_sem] extV appD cutOwn appOwn clearOwn bdI mapD putD' keyOk getOr getM putM wholeV litCs asV asC ptrC fnC nilC nilPtr strRows_len runs runsN guardOf exec1 pureV modD rowD ev get St.app St.put St.turn loadC moveC fieldOf indexC lenC lenOk cutC bndOf evAll fieldV convV unV binV binI bitsV moreV intsT eqL eq1 valOf min1 lit1 litInt litI litB litS constV constC cellsV partsOf placesOf buildV fillL toT elemsOf rowsOf baseOf dstOk V.kill V.ment V.ments C.kill C.ment C.ments B.kill setD litRows litRows_append T.isLit callAll calleeV argsV argV viewC viewCs modeOk freeOps V.free C.free V.allF V.allFs C.allF C.allFs B.allF callD leL growB C.flat V.flat B.flat flatL flatB St.flat List.set_cons_zero List.set_cons_succ C.only C.onlys V.only V.onlys B.only renI C.ren C.rens V.ren V.rens B.ren renB renOk nodK Option.getD_some Option.getD_none Option.isSome_some implies_true false_implies C.fit C.fits V.fit V.fit1 V.fits Bool.and_self ite_self exitV resV resL resC outV outV.outs eqB nn cast0 Int.toNat_natCast List.getElem?_map Value.cells Value.oneCell' Nat.lt_irrefl decide_true decide_false and_true true_and and_self and_false false_and not_true_eq_false not_false_eq_true not_true not_false List.size_toArray all_len Nat.zero_add Nat.add_zero List.length_cons List.length_append List.length_replicate List.length_set List.length_nil List.length_map List.map_cons List.map_nil List.take_succ_cons List.take_zero List.take_nil List.drop_succ_cons List.drop_zero List.drop_nil List.cons_append List.nil_append List.append_nil List.all_cons List.all_nil Bool.and_true Bool.true_and Bool.and_false Bool.false_and Bool.not_true Bool.not_false Bool.or_false Bool.or_true Bool.false_or Bool.true_or List.filter_cons List.filter_nil List.contains_cons List.contains_nil beq_self_eq_true List.getElem?_cons_zero List.getElem?_cons_succ List.getElem?_nil Option.map_some Option.map_none Option.toList_some Option.toList_none List.isEmpty_cons List.isEmpty_nil Bool.false_eq_true Bool.true_eq_false List.getElem?_toArray List.not_mem_nil List.mem_cons or_false forall_eq List.mem_singleton forall_const Option.toArray addF if_true if_false dstsOf Oper.looksAt Op.operands Call.operands pick edge B.ment Region.binds List.any_cons List.any_nil List.filterMap_cons List.filterMap_nil ne_eq Bool.or_self List.isEmpty_iff Array.toList_append List.append_toArray Array.append_empty Option.bind_some Option.bind_none List.push_toArray
abbrev rV1 (v : Vl) : List T := [.lit (.int .i64 v.k), .lit (.int .i64 v.n), .lit (.string v.s)]
abbrev aV1 (v : Vl) : A := .agg (rV1 v)
abbrev vV1 (z z' z'' : Bool) (v : Vl) : V := .agg [.t z (.lit (.int .i64 v.k)), .t z' (.lit (.int .i64 v.n)), .t z'' (.lit (.string v.s))]
abbrev vVt (v : Vl) : V := vV1 true true true v
abbrev rVs (l : List Vl) : List (List T) := l.map rV1
theorem litV_ (l : List Vl) : litRows (rVs l) = true := litRows_map fun _ => rfl
theorem lenV_ (l : List Vl) : (∀ r ∈ rVs l, r.length = 3) = True := all_len fun _ => rfl
theorem nilE : (⟨#[]⟩ : ByteArray).toList = [] := ByteArray.toList_mk []
theorem isE (s : ByteArray) : (s.toList == (⟨#[]⟩ : ByteArray).toList) = emptyS s := by
 rw [nilE]
 unfold emptyS
 cases s.toList <;> rfl
theorem sameZ (v : Vl) : ((v.k == 0) && ((v.n == 0) && emptyS v.s)) = v.same Vl.zero := by
 unfold Vl.same Vl.zero emptyS
 rw [show ByteArray.empty = (⟨#[]⟩ : ByteArray) from rfl, nilE, Bool.and_assoc]
 cases v.s.toList <;> rfl
end Go.Proofs.YtjdgejfhnfnmgaaGreatDoor.Ax
namespace Go.Proofs.YtjdgejfhnfnmgaaGreatDoor.Ax
open Go.RowKit
set_option linter.unusedSimpArgs false
attribute [local go_sem] extV appD cutOwn appOwn clearOwn bdI mapD putD' keyOk getOr getM putM wholeV litCs asV asC ptrC fnC nilC nilPtr strRows_len runs runsN guardOf exec1 pureV modD rowD ev get St.app St.put St.turn loadC moveC fieldOf indexC lenC lenOk cutC bndOf evAll fieldV convV unV binV binI bitsV moreV intsT eqL eq1 valOf min1 lit1 litInt litI litB litS constV constC cellsV partsOf placesOf buildV fillL toT elemsOf rowsOf baseOf dstOk V.kill V.ment V.ments C.kill C.ment C.ments B.kill setD litRows litRows_append T.isLit callAll calleeV argsV argV viewC viewCs modeOk freeOps V.free C.free V.allF V.allFs C.allF C.allFs B.allF callD leL growB C.flat V.flat B.flat flatL flatB St.flat List.set_cons_zero List.set_cons_succ C.only C.onlys V.only V.onlys B.only renI C.ren C.rens V.ren V.rens B.ren renB renOk nodK Option.getD_some Option.getD_none Option.isSome_some implies_true false_implies C.fit C.fits V.fit V.fit1 V.fits Bool.and_self ite_self exitV resV resL resC outV outV.outs eqB nn cast0 Int.toNat_natCast List.getElem?_map Value.cells Value.oneCell' Nat.lt_irrefl decide_true decide_false and_true true_and and_self and_false false_and not_true_eq_false not_false_eq_true not_true not_false List.size_toArray all_len Nat.zero_add Nat.add_zero List.length_cons List.length_append List.length_replicate List.length_set List.length_nil List.length_map List.map_cons List.map_nil List.take_succ_cons List.take_zero List.take_nil List.drop_succ_cons List.drop_zero List.drop_nil List.cons_append List.nil_append List.append_nil List.all_cons List.all_nil Bool.and_true Bool.true_and Bool.and_false Bool.false_and Bool.not_true Bool.not_false Bool.or_false Bool.or_true Bool.false_or Bool.true_or List.filter_cons List.filter_nil List.contains_cons List.contains_nil beq_self_eq_true List.getElem?_cons_zero List.getElem?_cons_succ List.getElem?_nil Option.map_some Option.map_none Option.toList_some Option.toList_none List.isEmpty_cons List.isEmpty_nil Bool.false_eq_true Bool.true_eq_false List.getElem?_toArray List.not_mem_nil List.mem_cons or_false forall_eq List.mem_singleton forall_const Option.toArray addF if_true if_false dstsOf Oper.looksAt Op.operands Call.operands pick edge B.ment Region.binds List.any_cons List.any_nil List.filterMap_cons List.filterMap_nil ne_eq Bool.or_self List.isEmpty_iff Array.toList_append List.append_toArray Array.append_empty Option.bind_some Option.bind_none List.push_toArray
abbrev rC1 (c : Col) : List T := [.lit (.string c.name), .lit (.int .i64 c.ty)]
abbrev rCs (l : List Col) : List (List T) := l.map rC1
theorem litC_ (l : List Col) : litRows (rCs l) = true := litRows_map fun _ => rfl
theorem lenC_ (l : List Col) : (∀ r ∈ rCs l, r.length = 2) = True := all_len fun _ => rfl
mutual
def rE : Ex → List T
 | .mk k v nm ar => [.lit (.int .i64 k), .lit (.int .i64 v.k), .lit (.int .i64 v.n), .lit (.string v.s), .lit (.string nm), .sl (rEs ar)]
def rEs : List Ex → List (List T)
 | [] => []
 | x :: l => rE x :: rEs l
end
theorem rEs_map : ∀ l : List Ex, rEs l = l.map rE
 | [] => by rw [rEs]; rfl
 | x :: l => by rw [rEs, rEs_map l, List.map_cons]
theorem rE_mk (k : Int) (v : Vl) (nm : ByteArray) (ar : List Ex) : rE (.mk k v nm ar) = [.lit (.int .i64 k), .lit (.int .i64 v.k), .lit (.int .i64 v.n), .lit (.string v.s), .lit (.string nm), .sl (ar.map rE)] := by
 rw [rE, rEs_map]
theorem rE_len (e : Ex) : (rE e).length = 6 := by obtain ⟨k, v, nm, ar⟩ := e; rw [rE_mk]; rfl
end Go.Proofs.YtjdgejfhnfnmgaaGreatDoor.Ax
namespace Go.Proofs.YtjdgejfhnfnmgaaGreatDoor
open Go.RowKit
theorem within_any (n a b : Int) (w : World) :
  Calls Tryz.prog 79 #[.int .i64 n, .int .i64 a, .int .i64 b] w fun e w' => e = .returned (.bool (decide (a ≤ n) && decide (n ≤ b))) ∧ w = w' := by
 by_cases h1 : a ≤ n <;> by_cases h2 : n ≤ b
 all_goals
  go_enter Tryz.func79, Tryz.ntmps79
  go_wp2
  go_ret
  exact ⟨by simp [h1, h2], rfl⟩
theorem vint_any (n : Int) (w : World) :
  Calls Tryz.prog 131 #[.int .i64 n] w fun e w' => e = .returned (.bool (isInt n)) ∧ w = w' := by
 go_enter Tryz.func131, Tryz.ntmps131
 go_wp2_with (go_at_call 79; refine (within_any _ _ _ _).mono ?_; rintro e w' ⟨rfl, rfl⟩)
 go_ret
 exact ⟨rfl, rfl⟩
theorem tquot_any (c : UInt8) (w : World) :
  Calls Tryz.prog 139 #[.int .u8 c.toNat] w fun e w' => e = .returned (.bool (quotB c)) ∧ w = w' := by
 by_cases h1 : 32 ≤ (c.toNat : Int) <;> by_cases h2 : (c.toNat : Int) ≤ 126 <;> by_cases h3 : (c.toNat : Int) = 39
 all_goals
  try (exfalso; omega)
 all_goals
  have H3 := Lib.hid h3
  try have h4 : ((c.toNat : Int) != 39) = true := by simpa using h3
  try have h4 : ((c.toNat : Int) != 39) = false := by simpa using h3
  clear h3
  go_enter Tryz.func139, Tryz.ntmps139
  go_wp2
  go_ret
  exact ⟨by simp [quotB, h1, h2, H3.out], rfl⟩
theorem all_take_snoc (s : ByteArray) (k : Nat) (h : k < s.size) (hq : ((s.data.toList.take k).all quotB) = true) : ((s.data.toList.take (k + 1)).all quotB) = quotB s[k] := by
 have e : s.data.toList.take (k + 1) = s.data.toList.take k ++ [s[k]] := by
  rw [List.take_succ_eq_append_getElem (by simpa using h)]; rfl
 rw [e, List.all_append, hq]; simp
theorem all_false (s : ByteArray) (k : Nat) (h : k < s.size) (hq : quotB s[k] = false) : s.data.toList.all quotB = false := by
 rw [List.all_eq_false]
 exact ⟨s[k], by simp [ByteArray.getElem_eq_getElem_data, Array.getElem_mem], by simp [hq]⟩
theorem vquot_any (s : ByteArray) (w : World) (hs : s.size ≤ maxLen) :
  Calls Tryz.prog 132 #[.string s] w fun e w' => e = .returned (.bool (quotS s)) ∧ w = w' := by
 unfold maxLen at hs
 go_enter Tryz.func132, Tryz.ntmps132
 go_wp2
 go_loop [6] (fun i => ∃ k : Nat, k ≤ s.size ∧ ((s.data.toList.take k).all quotB) = true ∧ i = .int .i64 k) (fun i => s.size - (intOf i).toNat)
 case atStart => exact ⟨0, Nat.zero_le _, rfl, rfl⟩
 case round =>
  obtain ⟨k, hk, hq, rfl⟩ := hrel
  have HQ := Lib.hid hq
  clear hq
  by_cases hlt : k < s.size
  ·by_cases hb : quotB s[k] = true
   ·go_wp2_with (go_at_call 139; refine (tquot_any _ _).mono ?_; rintro e w' ⟨rfl, rfl⟩)
    go_round
    case rel => exact ⟨k + 1, by omega, by rw [all_take_snoc s k hlt HQ.out]; exact hb, by go_num⟩
    case measure => simp [intOf]; omega
   ·have hb' : quotB s[k] = false := by simpa using hb
    clear hb
    go_wp2_with (go_at_call 139; refine (tquot_any _ _).mono ?_; rintro e w' ⟨rfl, rfl⟩)
    go_ret
    exact ⟨by simp [quotS, all_false s k hlt hb'], rfl⟩
  ·go_wp2
   go_ret
   have e : s.data.toList.all quotB = true := by
    have := HQ.out; rwa [List.take_of_length_le (by simp; omega)] at this
   exact ⟨by simp only [quotS, e, Bool.true_and]; simp; omega, rfl⟩
set_option maxHeartbeats 1000000 in
theorem vcheck_any (v : Vl) (w : World) (hs : v.s.size ≤ maxLen) :
  Calls Tryz.prog 81 #[v.val] w fun e w' => e = .returned (.int .i64 v.chk) ∧ Below w.heap.size w w' := by
 obtain ⟨k, n, s⟩ := v
 dsimp only [Vl.val] at hs ⊢
 by_cases hk : k = 0 ∨ k = 1 ∨ k = 2 ∨ k = 3
 ·rcases hk with rfl | rfl | rfl | rfl
  all_goals
   go_enter Tryz.func81, Tryz.ntmps81
   go_wp2_with (first | (go_at_call 79; refine (within_any _ _ _ _).mono ?_; rintro e w' ⟨rfl, rfl⟩) | (go_at_call 131; refine (vint_any _ _).mono ?_; rintro e w' ⟨rfl, rfl⟩) | (go_at_call 132; refine (vquot_any _ _ hs).mono ?_; rintro e w' ⟨rfl, rfl⟩))
  all_goals
   go_ret
   refine ⟨?_, below_two _⟩
   simp_all [Vl.chk, Vl.fine, emptyS]
   try omega
 ·have h0 : ¬ k = 0 := by omega
  have h1 : ¬ k = 1 := by omega
  have h2 : ¬ k = 2 := by omega
  have h3 : ¬ k = 3 := by omega
  clear hk
  go_enter Tryz.func81, Tryz.ntmps81
  go_wp2
  go_ret
  exact ⟨by simp [Vl.chk]; omega, below_two _⟩
end Go.Proofs.YtjdgejfhnfnmgaaGreatDoor
namespace Go.Proofs.YtjdgejfhnfnmgaaGreatDoor
open Go.RowKit
theorem between_any (n a b : Int) (w : World) :
  Calls Tryz.prog 23 #[.int .i64 n, .int .i64 a, .int .i64 b] w fun e w' => e = .returned (.bool (decide (a ≤ n) && decide (n ≤ b))) ∧ w = w' := by
 by_cases h1 : a ≤ n <;> by_cases h2 : n ≤ b
 all_goals
  go_enter Tryz.func23, Tryz.ntmps23
  go_wp2
  go_ret
  exact ⟨by simp [h1, h2], rfl⟩
end Go.Proofs.YtjdgejfhnfnmgaaGreatDoor
namespace Go.Proofs.YtjdgejfhnfnmgaaGreatDoor
open Go.RowKit
theorem isquot_any (c : UInt8) (w : World) :
  Calls Tryz.prog 59 #[.int .u8 c.toNat] w fun e w' => e = .returned (.bool (quotB c)) ∧ w = w' := by
 by_cases h1 : 32 ≤ (c.toNat : Int) <;> by_cases h2 : (c.toNat : Int) ≤ 126 <;> by_cases h3 : (c.toNat : Int) = 39
 all_goals
  try (exfalso; omega)
 all_goals
  have hu : (c.toNat : Int) ≤ 255 := by have := c.toNat_lt; omega
  have H3 := Lib.hid h3
  try have h4 : ((c.toNat : Int) != 39) = true := by simpa using h3
  try have h4 : ((c.toNat : Int) != 39) = false := by simpa using h3
  clear h3
  go_enter Tryz.func59, Tryz.ntmps59
  go_wp2_with (go_at_call 23; refine (between_any _ _ _ _).mono ?_; rintro e w' ⟨rfl, rfl⟩)
  go_ret
  exact ⟨by simp [quotB, h1, h2, H3.out], rfl⟩
end Go.Proofs.YtjdgejfhnfnmgaaGreatDoor
namespace Go.Proofs.YtjdgejfhnfnmgaaGreatDoor
open Go.RowKit
theorem isint_any (n : Int) (w : World) :
  Calls Tryz.prog 58 #[.int .i64 n] w fun e w' => e = .returned (.bool (isInt n)) ∧ w = w' := by
 go_enter Tryz.func58, Tryz.ntmps58
 go_wp2_with (go_at_call 23; refine (between_any _ _ _ _).mono ?_; rintro e w' ⟨rfl, rfl⟩)
 go_ret
 exact ⟨rfl, rfl⟩
theorem all_take_step (s : ByteArray) (k : Nat) (h : k < s.size) : ((s.data.toList.take (k + 1)).all quotB) = (((s.data.toList.take k).all quotB) && quotB s[k]) := by
 have e : s.data.toList.take (k + 1) = s.data.toList.take k ++ [s[k]] := by
  rw [List.take_succ_eq_append_getElem (by simpa using h)]; rfl
 rw [e, List.all_append]; simp
theorem all_take_false (s : ByteArray) (k : Nat) (h : ((s.data.toList.take k).all quotB) = false) : s.data.toList.all quotB = false := by
 rw [← Bool.not_eq_true] at h ⊢
 intro h1
 apply h
 rw [List.all_eq_true] at h1 ⊢
 exact fun x hx => h1 x (List.mem_of_mem_take hx)
set_option maxHeartbeats 1000000 in
theorem rcheck_any (v : Vl) (w : World) (hs : v.s.size ≤ maxLen) :
  Calls Tryz.prog 25 #[v.val] w fun e w' => e = .returned (.int .i64 v.chk) ∧ Below w.heap.size w w' := by
 obtain ⟨k, n, s⟩ := v
 dsimp only [Vl.val] at hs ⊢
 by_cases hk : k = 0 ∨ k = 1 ∨ k = 3
 ·rcases hk with rfl | rfl | rfl
  all_goals
   go_enter Tryz.func25, Tryz.ntmps25
   go_wp2_with (first | (go_at_call 23; refine (between_any _ _ _ _).mono ?_; rintro e w' ⟨rfl, rfl⟩) | (go_at_call 58; refine (isint_any _ _).mono ?_; rintro e w' ⟨rfl, rfl⟩))
  all_goals
   go_ret
   refine ⟨?_, below_two _⟩
   simp_all [Vl.chk, Vl.fine, emptyS]
   try omega
 ·by_cases h2 : k = 2
  ·subst h2
   clear hk
   by_cases hb : n = 0 ∧ s.size ≤ 20
   ·obtain ⟨rfl, h20⟩ := hb
    have H20 := Lib.hid h20
    have hs1 := h20
    clear hs
    go_enter Tryz.func25, Tryz.ntmps25
    go_wp2_with (first | (go_at_call 23; refine (between_any _ _ _ _).mono ?_; rintro e w' ⟨rfl, rfl⟩) | (go_at_call 58; refine (isint_any _ _).mono ?_; rintro e w' ⟨rfl, rfl⟩))
    go_loop [3, 4] (fun b i => ∃ j : Nat, j ≤ s.size ∧ i = .int .i64 j ∧ b = .bool ((s.data.toList.take j).all quotB)) (fun _ i => s.size - (intOf i).toNat)
    case atStart => exact ⟨0, Nat.zero_le _, rfl, by simp; omega⟩
    case round =>
     obtain ⟨j, hj, rfl, rfl⟩ := hrel
     by_cases hlt : j < s.size
     ·have HS := Lib.hid (all_take_step s j hlt)
      have HF := Lib.hid (all_take_false s j)
      by_cases hq : ((s.data.toList.take j).all quotB) = true
      ·rw [hq]
       have HQ := Lib.hid hq
       clear hq
       go_wp2_with (go_at_call 59; refine (isquot_any _ _).mono ?_; rintro e w' ⟨rfl, rfl⟩)
       go_round
       case rel => exact ⟨j + 1, by omega, by go_num, by rw [HS.out, HQ.out]; rfl⟩
       case measure => simp [intOf]; omega
      ·have hq' : ((s.data.toList.take j).all quotB) = false := by simpa using hq
       rw [hq']
       have HQ := Lib.hid (HF.out hq')
       clear hq hq' HF HS
       go_wp2
       go_ret
       refine ⟨?_, below_two _⟩
       simp [Vl.chk, Vl.fine, quotS, HQ.out]
     ·have hq : ((s.data.toList.take j).all quotB) = s.data.toList.all quotB := by rw [List.take_of_length_le (by simp; omega)]
      rw [hq]
      clear hq
      go_wp2
      all_goals
       go_ret
       refine ⟨?_, below_two _⟩
       simp_all [Vl.chk, Vl.fine, quotS, H20.out]
   ·have hf : (⟨2, n, s⟩ : Vl).chk = 3 := by
     simp only [Vl.chk, Vl.fine, quotS]
     have : ¬ (n = 0 ∧ s.size ≤ 20) := hb
     by_cases hn : n = 0
     ·have : ¬ s.size ≤ 20 := fun h => this ⟨hn, h⟩
      simp [hn, this]
     ·simp [hn]
    have HF := Lib.hid hf
    clear hf
    by_cases hn : n = 0
    ·subst hn
     have h20 : ¬ (s.size : Int) ≤ 20 := fun h => hb ⟨rfl, by omega⟩
     clear hb
     go_enter Tryz.func25, Tryz.ntmps25
     go_wp2_with (first | (go_at_call 23; refine (between_any _ _ _ _).mono ?_; rintro e w' ⟨rfl, rfl⟩) | (go_at_call 58; refine (isint_any _ _).mono ?_; rintro e w' ⟨rfl, rfl⟩))
     go_loop [3, 4] (fun b i => b = .bool false ∧ i = .int .i64 0) (fun _ i => 0)
     case atStart => exact ⟨by simp; omega, rfl⟩
     case round =>
      obtain ⟨rfl, rfl⟩ := hrel
      go_wp2
      all_goals
       go_ret
       exact ⟨by rw [HF.out]; rfl, below_two _⟩
    ·have hn1 : (n == 0) = false := by simp [hn]
     clear hb hn
     go_enter Tryz.func25, Tryz.ntmps25
     go_wp2_with (first | (go_at_call 23; refine (between_any _ _ _ _).mono ?_; rintro e w' ⟨rfl, rfl⟩) | (go_at_call 58; refine (isint_any _ _).mono ?_; rintro e w' ⟨rfl, rfl⟩))
     go_loop [3, 4] (fun b i => b = .bool false ∧ i = .int .i64 0) (fun _ i => 0)
     case atStart => exact ⟨rfl, rfl⟩
     case round =>
      obtain ⟨rfl, rfl⟩ := hrel
      go_wp2
      all_goals
       go_ret
       exact ⟨by rw [HF.out]; rfl, below_two _⟩
  have hf : (⟨k, n, s⟩ : Vl).chk = 7 := by
   simp only [Vl.chk]
   rw [if_neg (by omega)]
  have hb : (decide (0 ≤ k) && decide (k ≤ 3)) = false := by simp; omega
  have HF := Lib.hid hf
  clear hf hk h2
  go_enter Tryz.func25, Tryz.ntmps25
  go_wp2_with (first | (go_at_call 23; refine (between_any _ _ _ _).mono ?_; rintro e w' ⟨rfl, rfl⟩) | (go_at_call 58; refine (isint_any _ _).mono ?_; rintro e w' ⟨rfl, rfl⟩))
  go_ret
  exact ⟨by rw [HF.out]; rfl, below_two _⟩
end Go.Proofs.YtjdgejfhnfnmgaaGreatDoor
namespace Go.Proofs.YtjdgejfhnfnmgaaGreatDoor
open Go.RowKit
set_option maxHeartbeats 1000000 in
theorem rsame_any (a b : Vl) (w : World) :
  Calls Tryz.prog 26 #[a.val, b.val] w fun e w' => e = .returned (.bool (a.same b)) ∧ Below w.heap.size w w' := by
 obtain ⟨k, n, s⟩ := a
 obtain ⟨k', n', s'⟩ := b
 dsimp only [Vl.val, Vl.same]
 by_cases h1 : k = k'
 ·subst h1
  by_cases h2 : n = n'
  ·subst h2
   go_enter Tryz.func26, Tryz.ntmps26
   go_wp2
   go_ret
   exact ⟨by simp, ((Below.refl _ _).alloc (Nat.le_refl _) _).alloc (by simp) _⟩
  ·have h2' : (n == n') = false := by simp [h2]
   clear h2
   go_enter Tryz.func26, Tryz.ntmps26
   go_wp2
   go_ret
   exact ⟨by simp [h2'], ((Below.refl _ _).alloc (Nat.le_refl _) _).alloc (by simp) _⟩
 ·have h1' : (k == k') = false := by simp [h1]
  clear h1
  go_enter Tryz.func26, Tryz.ntmps26
  go_wp2
  go_ret
  exact ⟨by simp [h1'], ((Below.refl _ _).alloc (Nat.le_refl _) _).alloc (by simp) _⟩
end Go.Proofs.YtjdgejfhnfnmgaaGreatDoor
namespace Go.Proofs.YtjdgejfhnfnmgaaGreatDoor.Ax
open Go.RowKit
set_option linter.unusedSimpArgs false
attribute [local go_sem] ty3 ty4 ty9 ty24 ty32 ty137
set_option maxRecDepth 100000
theorem vcheck_sp (v : Vl) (hs : v.s.size ≤ maxLen) : Sp Tryz.prog 81 [aV1 v] (.one (.t true (.lit (.int .i64 v.chk)))) [] :=
 sp_lits (enters_of Tryz.func81 (by kernel_rfl) rfl) [v.val] _ rfl rfl fun w => (vcheck_any v w hs).mono fun _ _ h => h
theorem rcheck_sp (v : Vl) (hs : v.s.size ≤ maxLen) : Sp Tryz.prog 25 [aV1 v] (.one (.t true (.lit (.int .i64 v.chk)))) [] :=
 sp_lits (enters_of Tryz.func25 (by kernel_rfl) rfl) [v.val] _ rfl rfl fun w => (rcheck_any v w hs).mono fun _ _ h => h
theorem rsame_sp (a b : Vl) : Sp Tryz.prog 26 [aV1 a, aV1 b] (.one (.t true (.lit (.bool (a.same b))))) [] :=
 sp_lits (enters_of Tryz.func26 (by kernel_rfl) rfl) [a.val, b.val] _ rfl rfl fun w => (rsame_any a b w).mono fun _ _ h => h
theorem between_sp (n a b : Int) : Sp Tryz.prog 23 [.one (.lit (.int .i64 n)), .one (.lit (.int .i64 a)), .one (.lit (.int .i64 b))] (.one (.t true (.lit (.bool (decide (a ≤ n) && decide (n ≤ b)))))) [] :=
 sp_lits (enters_of Tryz.func23 (by kernel_rfl) rfl) [.int .i64 n, .int .i64 a, .int .i64 b] _ rfl rfl fun w => (between_any n a b w).mono fun _ _ h => ⟨h.1, h.2 ▸ Below.refl _ _⟩
theorem truth_sp (b : Bool) : Sp Tryz.prog 164 [.one (.lit (.bool b))] (vVt (truth b)) [] := by
 cases b
 all_goals
  (refine en_ Tryz.func164 Tryz.ntmps164 Tryz.results164 fun X hX => ?_)
  (refine go_ an0 ?_)
  (first | exact oq_ an0 | refine ou_ an0 ?_)
  try rfl
end Go.Proofs.YtjdgejfhnfnmgaaGreatDoor.Ax
namespace Go.Proofs.YtjdgejfhnfnmgaaGreatDoor
open Go.RowKit
theorem weights_of_each {H : Type} {P : Program} {ts : List TypeId} {ds : List (DataW H)} (h : (DataW.weightsEach P ts ds).all (· ≤ reachBytes) = true) {j : Nat} {t : TypeId} {d : DataW H} (ht : ts[j]? = some t) (hd : ds[j]? = some d) : (DataW.weights P t d).all (· ≤ reachBytes) = true :=
 List.all_eq_true.2 fun x hx => List.all_eq_true.1 h _ (DataW.weights_mem_each ht hd x hx)
end Go.Proofs.YtjdgejfhnfnmgaaGreatDoor
