/- Plain functions that say what expressions answer. Values, by what is known: their trees. The references' between. The references' between and IsQuotable. The references' checks of values. The references' comparisons of values. Values, by what is known: small functions. -/
import Derived.Test.YtnjjpblgcgikaaaDoorBase
import Derived.Lib.Bytealg
import Derived.Test.YtnjjpblgcgikaaaDoorAxTy
import Derived.Test.YtnjjpblgcgikaaaDoorAxG5
import Derived.WalkKit
import Derived.Lib.Hide
import Derived.Test.YtnjjpblgcgikaaaDoorRows
import Derived.StillTailTactics
namespace Go.Proofs.YtnjjpblgcgikaaaDoor
open Go.RowKit
set_option linter.unusedVariables false
instance : DecidableEq Vl := fun a b => decidable_of_iff _ (Vl.same_iff a b)
/-- the first place of what is so; -1: there is none -/
def placeF {α : Type} (p : α → Bool) : List α → Nat → Int
  | [], _ => -1
  | x :: l, i => if p x = true then (i : Int) else placeF p l (i + 1)
/-- A column: its name, its kind. -/
structure Col where
  name : ByteArray
  ty : Int
def isCol (nm : ByteArray) (c : Col) : Bool := c.name.toList == nm.toList
def findC (cols : List Col) (nm : ByteArray) : Int := placeF (isCol nm) cols 0
def truth (b : Bool) : Vl := ⟨3, if b then 1 else 0, .empty⟩
/-- An expression of the right form. -/
inductive Gx where
  | val (v : Vl)
  | col (nm : ByteArray)
  | un (k : Int) (x : Gx)
  | bin (k : Int) (x y : Gx)
def Gx.right (cols : List Col) : Gx → Prop
  | .val v => v.chk = 0
  | .col nm => 0 ≤ findC cols nm
  | .un k x => (k = 3 ∨ k = 4) ∧ x.right cols
  | .bin k x y => (5 ≤ k ∧ k ≤ 11) ∧ x.right cols ∧ y.right cols
def fitsL : List Col → List Vl → Bool
  | c :: l, v :: r => if v.k = 0 ∨ v.k = c.ty then fitsL l r else false
  | _, _ => true
def rowE (cols : List Col) (row : List Vl) : Int :=
  if row.length ≠ cols.length then 1 else if firstErr (row.map Vl.chk) ≠ 0 then firstErr (row.map Vl.chk) else if fitsL cols row = true then 0 else 4
end Go.Proofs.YtnjjpblgcgikaaaDoor
namespace Go.Proofs.YtnjjpblgcgikaaaDoor.Ax
open Go.RowKit
set_option linter.unusedSimpArgs false
attribute [local go_sem] extV appD cutOwn appOwn clearOwn bdI mapD putD' keyOk getOr getM putM wholeV litCs asV asC ptrC fnC nilC nilPtr strRows_len runs runsN guardOf exec1 pureV modD rowD ev get St.app St.put St.turn loadC moveC fieldOf indexC lenC lenOk cutC bndOf evAll fieldV convV unV binV binI bitsV moreV intsT eqL eq1 valOf min1 lit1 litInt litI litB litS constV constC cellsV partsOf placesOf buildV fillL toT elemsOf rowsOf baseOf dstOk V.kill V.ment V.ments C.kill C.ment C.ments B.kill setD litRows litRows_append T.isLit callAll calleeV argsV argV viewC viewCs modeOk freeOps V.free C.free V.allF V.allFs C.allF C.allFs B.allF callD leL growSt C.flat V.flat B.flat flatL flatB St.flat List.set_cons_zero List.set_cons_succ C.only C.onlys V.only V.onlys B.only renI C.ren C.rens V.ren V.rens B.ren renB renOk nodK Option.getD_some Option.getD_none Option.isSome_some implies_true false_implies C.fit C.fits V.fit V.fit1 V.fits Bool.and_self ite_self exitV resV resL resC outV outV.outs eqB nn cast0 Int.toNat_natCast List.getElem?_map Value.cells Value.oneCell' Nat.lt_irrefl decide_true decide_false and_true true_and and_self and_false false_and not_true_eq_false not_false_eq_true not_true not_false List.size_toArray all_len Nat.zero_add Nat.add_zero List.length_cons List.length_append List.length_replicate List.length_set List.length_nil List.length_map List.map_cons List.map_nil List.take_succ_cons List.take_zero List.take_nil List.drop_succ_cons List.drop_zero List.drop_nil List.cons_append List.nil_append List.append_nil List.all_cons List.all_nil Bool.and_true Bool.true_and Bool.and_false Bool.false_and Bool.not_true Bool.not_false Bool.or_false Bool.or_true Bool.false_or Bool.true_or List.filter_cons List.filter_nil List.contains_cons List.contains_nil beq_self_eq_true List.getElem?_cons_zero List.getElem?_cons_succ List.getElem?_nil Option.map_some Option.map_none Option.toList_some Option.toList_none List.isEmpty_cons List.isEmpty_nil Bool.false_eq_true Bool.true_eq_false List.getElem?_toArray List.not_mem_nil List.mem_cons or_false forall_eq List.mem_singleton forall_const Option.toArray tailF addF flSl dKeeps flFree closF notF if_true if_false plans inD cleanSt dstsOf Oper.looksAt Op.operands Call.operands dnOf insN insAll prods pick stOf goneOf slOf blOf keepB' entD addB edge B.ment Region.binds tailOk clos List.any_cons List.any_nil List.filterMap_cons List.filterMap_nil ne_eq Bool.or_self List.isEmpty_iff Array.toList_append List.append_toArray Array.append_empty Option.bind_some Option.bind_none List.push_toArray
abbrev rV1 (v : Vl) : List T := [.lit (.int .i64 v.k), .lit (.int .i64 v.n), .lit (.string v.s)]
abbrev aV1 (v : Vl) : A := .agg (rV1 v)
abbrev vV1 (z z' z'' : Bool) (v : Vl) : V := .agg [.t z (.lit (.int .i64 v.k)), .t z' (.lit (.int .i64 v.n)), .t z'' (.lit (.string v.s))]
abbrev vVt (v : Vl) : V := vV1 true true true v
abbrev rVs (l : List Vl) : List (List T) := l.map rV1
theorem litV_ (l : List Vl) : litRows (rVs l) = true := litRows_map fun _ => rfl
theorem lenV_ (l : List Vl) : (∀ r ∈ rVs l, r.length = 3) = True := all_len fun _ => rfl
theorem nilE : (⟨#[]⟩ : ByteArray).toList = [] := ByteArray.toList_mk []
theorem isE (s : ByteArray) : (s.toList == (⟨#[]⟩ : ByteArray).toList) = emptyS s := by
  rw [nilE]
  unfold emptyS
  cases s.toList <;> rfl
theorem sameZ (v : Vl) : ((v.k == 0) && ((v.n == 0) && emptyS v.s)) = v.same Vl.zero := by
  unfold Vl.same Vl.zero emptyS
  rw [show ByteArray.empty = (⟨#[]⟩ : ByteArray) from rfl, nilE, Bool.and_assoc]
  cases v.s.toList <;> rfl
end Go.Proofs.YtnjjpblgcgikaaaDoor.Ax
namespace Go.Proofs.YtnjjpblgcgikaaaDoor
open Go.RowKit
theorem between_any (n a b : Int) (w : World) :
    Calls Tryd.prog 31 #[.int .i64 n, .int .i64 a, .int .i64 b] w fun e w' => e = .returned (.bool (decide (a ≤ n) && decide (n ≤ b))) ∧ w = w' := by
  by_cases h1 : a ≤ n <;> by_cases h2 : n ≤ b
  all_goals
    go_enter Tryd.func31, Tryd.ntmps31
    go_wp2
    go_ret
    exact ⟨by simp [h1, h2], rfl⟩
end Go.Proofs.YtnjjpblgcgikaaaDoor
namespace Go.Proofs.YtnjjpblgcgikaaaDoor
open Go.RowKit
theorem isquot_any (c : UInt8) (w : World) :
    Calls Tryd.prog 42 #[.int .u8 c.toNat] w fun e w' => e = .returned (.bool (quotB c)) ∧ w = w' := by
  by_cases h1 : 32 ≤ (c.toNat : Int) <;> by_cases h2 : (c.toNat : Int) ≤ 126 <;> by_cases h3 : (c.toNat : Int) = 39
  all_goals
    try (exfalso; omega)
  all_goals
    have hu : (c.toNat : Int) ≤ 255 := by have := c.toNat_lt; omega
    have H3 := Lib.hid h3
    try have h4 : ((c.toNat : Int) != 39) = true := by simpa using h3
    try have h4 : ((c.toNat : Int) != 39) = false := by simpa using h3
    clear h3
    go_enter Tryd.func42, Tryd.ntmps42
    go_wp2_with (go_at_call 31; refine (between_any _ _ _ _).mono ?_; rintro e w' ⟨rfl, rfl⟩)
    go_ret
    exact ⟨by simp [quotB, h1, h2, H3.out], rfl⟩
end Go.Proofs.YtnjjpblgcgikaaaDoor
namespace Go.Proofs.YtnjjpblgcgikaaaDoor
open Go.RowKit
theorem isint_any (n : Int) (w : World) :
    Calls Tryd.prog 41 #[.int .i64 n] w fun e w' => e = .returned (.bool (isInt n)) ∧ w = w' := by
  go_enter Tryd.func41, Tryd.ntmps41
  go_wp2_with (go_at_call 31; refine (between_any _ _ _ _).mono ?_; rintro e w' ⟨rfl, rfl⟩)
  go_ret
  exact ⟨rfl, rfl⟩
theorem all_take_step (s : ByteArray) (k : Nat) (h : k < s.size) : ((s.data.toList.take (k + 1)).all quotB) = (((s.data.toList.take k).all quotB) && quotB s[k]) := by
  have e : s.data.toList.take (k + 1) = s.data.toList.take k ++ [s[k]] := by
    rw [List.take_succ_eq_append_getElem (by simpa using h)]; rfl
  rw [e, List.all_append]; simp
theorem all_take_false (s : ByteArray) (k : Nat) (h : ((s.data.toList.take k).all quotB) = false) : s.data.toList.all quotB = false := by
  rw [← Bool.not_eq_true] at h ⊢
  intro h1
  apply h
  rw [List.all_eq_true] at h1 ⊢
  exact fun x hx => h1 x (List.mem_of_mem_take hx)
set_option maxHeartbeats 1000000 in
theorem rcheck_any (v : Vl) (w : World) (hs : v.s.size ≤ maxLen) :
    Calls Tryd.prog 21 #[v.val] w fun e w' => e = .returned (.int .i64 v.chk) ∧ Below w.heap.size w w' := by
  obtain ⟨k, n, s⟩ := v
  dsimp only [Vl.val] at hs ⊢
  by_cases hk : k = 0 ∨ k = 1 ∨ k = 3
  · rcases hk with rfl | rfl | rfl
    all_goals
      go_enter Tryd.func21, Tryd.ntmps21
      go_wp2_with (first | (go_at_call 31; refine (between_any _ _ _ _).mono ?_; rintro e w' ⟨rfl, rfl⟩) | (go_at_call 41; refine (isint_any _ _).mono ?_; rintro e w' ⟨rfl, rfl⟩))
    all_goals
      go_ret
      refine ⟨?_, below_two _⟩
      simp_all [Vl.chk, Vl.fine, emptyS]
      try omega
  · by_cases h2 : k = 2
    · subst h2
      clear hk
      by_cases hb : n = 0 ∧ s.size ≤ 20
      · obtain ⟨rfl, h20⟩ := hb
        have H20 := Lib.hid h20
        have hs1 := h20
        clear hs
        go_enter Tryd.func21, Tryd.ntmps21
        go_wp2_with (first | (go_at_call 31; refine (between_any _ _ _ _).mono ?_; rintro e w' ⟨rfl, rfl⟩) | (go_at_call 41; refine (isint_any _ _).mono ?_; rintro e w' ⟨rfl, rfl⟩))
        go_loop [3, 4] (fun b i => ∃ j : Nat, j ≤ s.size ∧ i = .int .i64 j ∧ b = .bool ((s.data.toList.take j).all quotB)) (fun _ i => s.size - (intOf i).toNat)
        case atStart => exact ⟨0, Nat.zero_le _, rfl, by simp; omega⟩
        case round =>
          obtain ⟨j, hj, rfl, rfl⟩ := hrel
          by_cases hlt : j < s.size
          · have HS := Lib.hid (all_take_step s j hlt)
            have HF := Lib.hid (all_take_false s j)
            by_cases hq : ((s.data.toList.take j).all quotB) = true
            · rw [hq]
              have HQ := Lib.hid hq
              clear hq
              go_wp2_with (go_at_call 42; refine (isquot_any _ _).mono ?_; rintro e w' ⟨rfl, rfl⟩)
              go_round
              case rel => exact ⟨j + 1, by omega, by go_num, by rw [HS.out, HQ.out]; rfl⟩
              case measure => simp [intOf]; omega
            · have hq' : ((s.data.toList.take j).all quotB) = false := by simpa using hq
              rw [hq']
              have HQ := Lib.hid (HF.out hq')
              clear hq hq' HF HS
              go_wp2
              go_ret
              refine ⟨?_, below_two _⟩
              simp [Vl.chk, Vl.fine, quotS, HQ.out]
          · have hq : ((s.data.toList.take j).all quotB) = s.data.toList.all quotB := by rw [List.take_of_length_le (by simp; omega)]
            rw [hq]
            clear hq
            go_wp2
            all_goals
              go_ret
              refine ⟨?_, below_two _⟩
              simp_all [Vl.chk, Vl.fine, quotS, H20.out]
      · have hf : (⟨2, n, s⟩ : Vl).chk = 3 := by
          simp only [Vl.chk, Vl.fine, quotS]
          have : ¬ (n = 0 ∧ s.size ≤ 20) := hb
          by_cases hn : n = 0
          · have : ¬ s.size ≤ 20 := fun h => this ⟨hn, h⟩
            simp [hn, this]
          · simp [hn]
        have HF := Lib.hid hf
        clear hf
        by_cases hn : n = 0
        · subst hn
          have h20 : ¬ (s.size : Int) ≤ 20 := fun h => hb ⟨rfl, by omega⟩
          clear hb
          go_enter Tryd.func21, Tryd.ntmps21
          go_wp2_with (first | (go_at_call 31; refine (between_any _ _ _ _).mono ?_; rintro e w' ⟨rfl, rfl⟩) | (go_at_call 41; refine (isint_any _ _).mono ?_; rintro e w' ⟨rfl, rfl⟩))
          go_loop [3, 4] (fun b i => b = .bool false ∧ i = .int .i64 0) (fun _ i => 0)
          case atStart => exact ⟨by simp; omega, rfl⟩
          case round =>
            obtain ⟨rfl, rfl⟩ := hrel
            go_wp2
            all_goals
              go_ret
              exact ⟨by rw [HF.out]; rfl, below_two _⟩
        · have hn1 : (n == 0) = false := by simp [hn]
          clear hb hn
          go_enter Tryd.func21, Tryd.ntmps21
          go_wp2_with (first | (go_at_call 31; refine (between_any _ _ _ _).mono ?_; rintro e w' ⟨rfl, rfl⟩) | (go_at_call 41; refine (isint_any _ _).mono ?_; rintro e w' ⟨rfl, rfl⟩))
          go_loop [3, 4] (fun b i => b = .bool false ∧ i = .int .i64 0) (fun _ i => 0)
          case atStart => exact ⟨rfl, rfl⟩
          case round =>
            obtain ⟨rfl, rfl⟩ := hrel
            go_wp2
            all_goals
              go_ret
              exact ⟨by rw [HF.out]; rfl, below_two _⟩
    have hf : (⟨k, n, s⟩ : Vl).chk = 7 := by
      simp only [Vl.chk]
      rw [if_neg (by omega)]
    have hb : (decide (0 ≤ k) && decide (k ≤ 3)) = false := by simp; omega
    have HF := Lib.hid hf
    clear hf hk h2
    go_enter Tryd.func21, Tryd.ntmps21
    go_wp2_with (first | (go_at_call 31; refine (between_any _ _ _ _).mono ?_; rintro e w' ⟨rfl, rfl⟩) | (go_at_call 41; refine (isint_any _ _).mono ?_; rintro e w' ⟨rfl, rfl⟩))
    go_ret
    exact ⟨by rw [HF.out]; rfl, below_two _⟩
end Go.Proofs.YtnjjpblgcgikaaaDoor
namespace Go.Proofs.YtnjjpblgcgikaaaDoor
open Go.RowKit
set_option maxHeartbeats 1000000 in
theorem rsame_any (a b : Vl) (w : World) :
    Calls Tryd.prog 27 #[a.val, b.val] w fun e w' => e = .returned (.bool (a.same b)) ∧ Below w.heap.size w w' := by
  obtain ⟨k, n, s⟩ := a
  obtain ⟨k', n', s'⟩ := b
  dsimp only [Vl.val, Vl.same]
  by_cases h1 : k = k'
  · subst h1
    by_cases h2 : n = n'
    · subst h2
      go_enter Tryd.func27, Tryd.ntmps27
      go_wp2
      go_ret
      exact ⟨by simp, ((Below.refl _ _).alloc (Nat.le_refl _) _).alloc (by simp) _⟩
    · have h2' : (n == n') = false := by simp [h2]
      clear h2
      go_enter Tryd.func27, Tryd.ntmps27
      go_wp2
      go_ret
      exact ⟨by simp [h2'], ((Below.refl _ _).alloc (Nat.le_refl _) _).alloc (by simp) _⟩
  · have h1' : (k == k') = false := by simp [h1]
    clear h1
    go_enter Tryd.func27, Tryd.ntmps27
    go_wp2
    go_ret
    exact ⟨by simp [h1'], ((Below.refl _ _).alloc (Nat.le_refl _) _).alloc (by simp) _⟩
end Go.Proofs.YtnjjpblgcgikaaaDoor
namespace Go.Proofs.YtnjjpblgcgikaaaDoor.Ax
open Go.RowKit
set_option linter.unusedSimpArgs false
attribute [local go_sem] extV appD cutOwn appOwn clearOwn bdI mapD putD' keyOk getOr getM putM wholeV litCs asV asC ptrC fnC nilC nilPtr strRows_len runs runsN guardOf exec1 pureV modD rowD ev get St.app St.put St.turn loadC moveC fieldOf indexC lenC lenOk cutC bndOf evAll fieldV convV unV binV binI bitsV moreV intsT eqL eq1 valOf min1 lit1 litInt litI litB litS constV constC cellsV partsOf placesOf buildV fillL toT elemsOf rowsOf baseOf dstOk V.kill V.ment V.ments C.kill C.ment C.ments B.kill setD litRows litRows_append T.isLit callAll calleeV argsV argV viewC viewCs modeOk freeOps V.free C.free V.allF V.allFs C.allF C.allFs B.allF callD leL growSt C.flat V.flat B.flat flatL flatB St.flat List.set_cons_zero List.set_cons_succ C.only C.onlys V.only V.onlys B.only renI C.ren C.rens V.ren V.rens B.ren renB renOk nodK Option.getD_some Option.getD_none Option.isSome_some implies_true false_implies C.fit C.fits V.fit V.fit1 V.fits Bool.and_self ite_self exitV resV resL resC outV outV.outs eqB nn cast0 Int.toNat_natCast List.getElem?_map Value.cells Value.oneCell' Nat.lt_irrefl decide_true decide_false and_true true_and and_self and_false false_and not_true_eq_false not_false_eq_true not_true not_false List.size_toArray all_len Nat.zero_add Nat.add_zero List.length_cons List.length_append List.length_replicate List.length_set List.length_nil List.length_map List.map_cons List.map_nil List.take_succ_cons List.take_zero List.take_nil List.drop_succ_cons List.drop_zero List.drop_nil List.cons_append List.nil_append List.append_nil List.all_cons List.all_nil Bool.and_true Bool.true_and Bool.and_false Bool.false_and Bool.not_true Bool.not_false Bool.or_false Bool.or_true Bool.false_or Bool.true_or List.filter_cons List.filter_nil List.contains_cons List.contains_nil beq_self_eq_true List.getElem?_cons_zero List.getElem?_cons_succ List.getElem?_nil Option.map_some Option.map_none Option.toList_some Option.toList_none List.isEmpty_cons List.isEmpty_nil Bool.false_eq_true Bool.true_eq_false List.getElem?_toArray List.not_mem_nil List.mem_cons or_false forall_eq List.mem_singleton forall_const Option.toArray tailF addF flSl dKeeps flFree closF notF if_true if_false plans inD cleanSt dstsOf Oper.looksAt Op.operands Call.operands dnOf insN insAll prods pick stOf goneOf slOf blOf keepB' entD addB edge B.ment Region.binds tailOk clos List.any_cons List.any_nil List.filterMap_cons List.filterMap_nil ne_eq Bool.or_self List.isEmpty_iff Array.toList_append List.append_toArray Array.append_empty Option.bind_some Option.bind_none List.push_toArray ty3 ty4 ty9 ty39 ty24 ty85
set_option maxRecDepth 100000
theorem vcheck_sp (v : Vl) (hs : v.s.size ≤ maxLen) : Sp Tryd.prog 26 [aV1 v] (.one (.t true (.lit (.int .i64 v.chk)))) [] :=
  sp_lits (enters_of Tryd.func26 (by kernel_rfl) rfl) [v.val] _ rfl rfl fun w => (vcheck_any v w hs).mono fun _ _ h => h
theorem rcheck_sp (v : Vl) (hs : v.s.size ≤ maxLen) : Sp Tryd.prog 21 [aV1 v] (.one (.t true (.lit (.int .i64 v.chk)))) [] :=
  sp_lits (enters_of Tryd.func21 (by kernel_rfl) rfl) [v.val] _ rfl rfl fun w => (rcheck_any v w hs).mono fun _ _ h => h
theorem rsame_sp (a b : Vl) : Sp Tryd.prog 27 [aV1 a, aV1 b] (.one (.t true (.lit (.bool (a.same b))))) [] :=
  sp_lits (enters_of Tryd.func27 (by kernel_rfl) rfl) [a.val, b.val] _ rfl rfl fun w => (rsame_any a b w).mono fun _ _ h => h
theorem between_sp (n a b : Int) : Sp Tryd.prog 31 [.one (.lit (.int .i64 n)), .one (.lit (.int .i64 a)), .one (.lit (.int .i64 b))] (.one (.t true (.lit (.bool (decide (a ≤ n) && decide (n ≤ b)))))) [] :=
  sp_lits (enters_of Tryd.func31 (by kernel_rfl) rfl) [.int .i64 n, .int .i64 a, .int .i64 b] _ rfl rfl fun w => (between_any n a b w).mono fun _ _ h => ⟨h.1, h.2 ▸ Below.refl _ _⟩
theorem truth_sp (b : Bool) : Sp Tryd.prog 68 [.one (.lit (.bool b))] (vVt (truth b)) [] := by
  cases b
  all_goals
    (refine sp_of Tryd.func68 (by kernel_rfl) rfl (by simp [Tryd.ntmps68]) fun X hX => ?_; rw [Tryd.ntmps68] at hX; simp only [argSl, List.map_cons, List.map_nil, Nat.reduceAdd])
    (repeat (first | refine cw_seq' ?_ | refine cw_block ?_ | refine cw_true rfl ?_ | refine cw_false rfl ?_ | refine cw_exit ?_ | refine cw_ret ?_ | refine cw_skip ?_ | (refine cw_region_k fun K hK => ?_; simp (maxSteps := 1000000) only [go_sem, Nat.reduceAdd, Nat.reduceSub, Nat.reduceMul, Nat.reduceLT, Nat.reduceLeDiff, Nat.reduceEqDiff, Nat.reduceBEq, Int.reduceToNat, Int.reduceLE, Int.reduceLT, Int.reduceEq, ↓reduceIte, reduceCtorEq, hX]; refine rwr_nil (hK _ ?_); clear hK K) | refine then_mk ?_ | refine then_exit ?_ | refine then_ret ?_ | refine blk_mk ?_ | refine blk_ret ?_ | refine blk_same ?_ | refine blk_ne (by decide) ?_))
    (first | refine exit_retf ?_ | refine exit_normalf ?_); rw [Tryd.results68]; simp only [go_sem, Nat.reduceAdd, Nat.reduceSub, Nat.reduceMul, Nat.reduceLT, Nat.reduceLeDiff, Nat.reduceEqDiff, Nat.reduceBEq, Int.reduceToNat, Int.reduceLE, Int.reduceLT, Int.reduceEq, ↓reduceIte, reduceCtorEq, hX]
    try rfl
theorem truthof_sp (b : Bool) : Sp Tryd.prog 46 [.one (.lit (.bool b))] (vVt (truth b)) [] := by
  cases b
  all_goals
    (refine sp_of Tryd.func46 (by kernel_rfl) rfl (by simp [Tryd.ntmps46]) fun X hX => ?_; rw [Tryd.ntmps46] at hX; simp only [argSl, List.map_cons, List.map_nil, Nat.reduceAdd])
    (repeat (first | refine cw_seq' ?_ | refine cw_block ?_ | refine cw_true rfl ?_ | refine cw_false rfl ?_ | refine cw_exit ?_ | refine cw_ret ?_ | refine cw_skip ?_ | (refine cw_region_k fun K hK => ?_; simp (maxSteps := 1000000) only [go_sem, Nat.reduceAdd, Nat.reduceSub, Nat.reduceMul, Nat.reduceLT, Nat.reduceLeDiff, Nat.reduceEqDiff, Nat.reduceBEq, Int.reduceToNat, Int.reduceLE, Int.reduceLT, Int.reduceEq, ↓reduceIte, reduceCtorEq, hX]; refine rwr_nil (hK _ ?_); clear hK K) | refine then_mk ?_ | refine then_exit ?_ | refine then_ret ?_ | refine blk_mk ?_ | refine blk_ret ?_ | refine blk_same ?_ | refine blk_ne (by decide) ?_))
    (first | refine exit_retf ?_ | refine exit_normalf ?_); rw [Tryd.results46]; simp only [go_sem, Nat.reduceAdd, Nat.reduceSub, Nat.reduceMul, Nat.reduceLT, Nat.reduceLeDiff, Nat.reduceEqDiff, Nat.reduceBEq, Int.reduceToNat, Int.reduceLE, Int.reduceLT, Int.reduceEq, ↓reduceIte, reduceCtorEq, hX]
    try rfl
end Go.Proofs.YtnjjpblgcgikaaaDoor.Ax
