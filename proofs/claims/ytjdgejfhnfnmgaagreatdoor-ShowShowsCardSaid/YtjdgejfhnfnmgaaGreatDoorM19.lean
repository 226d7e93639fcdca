/-  -/
import Derived.Test.YtjdgejfhnfnmgaaGreatDoorAxTy
import Derived.Test.YtjdgejfhnfnmgaaGreatDoorAxG5
import Derived.Test.YtjdgejfhnfnmgaaGreatDoorM18
import Derived.Test.YtjdgejfhnfnmgaaGreatDoorRows
import Derived.Test.YtjdgejfhnfnmgaaGreatDoorM0
import Derived.Lib.Hide
import Derived.Test.YtjdgejfhnfnmgaaGreatDoorM16
import Derived.StillTailTactics
import Derived.Test.YtjdgejfhnfnmgaaGreatDoorAxW
namespace Go.Proofs.YtjdgejfhnfnmgaaGreatDoor.Ax
open Go.RowKit
set_option linter.unusedSimpArgs false
attribute [local go_sem] extV appD cutOwn appOwn clearOwn bdI mapD putD' keyOk getOr getM putM wholeV litCs asV asC ptrC fnC nilC nilPtr strRows_len runs runsN guardOf exec1 pureV modD rowD ev get St.app St.put St.turn loadC moveC fieldOf indexC lenC lenOk cutC bndOf evAll fieldV convV unV binV binI bitsV moreV intsT eqL eq1 valOf min1 lit1 litInt litI litB litS constV constC cellsV partsOf placesOf buildV fillL toT elemsOf rowsOf baseOf dstOk V.kill V.ment V.ments C.kill C.ment C.ments B.kill setD litRows litRows_append T.isLit callAll calleeV argsV argV viewC viewCs modeOk freeOps V.free C.free V.allF V.allFs C.allF C.allFs B.allF callD leL growSt C.flat V.flat B.flat flatL flatB St.flat List.set_cons_zero List.set_cons_succ C.only C.onlys V.only V.onlys B.only renI C.ren C.rens V.ren V.rens B.ren renB renOk nodK Option.getD_some Option.getD_none Option.isSome_some implies_true false_implies C.fit C.fits V.fit V.fit1 V.fits Bool.and_self ite_self exitV resV resL resC outV outV.outs eqB nn cast0 Int.toNat_natCast List.getElem?_map Value.cells Value.oneCell' Nat.lt_irrefl decide_true decide_false and_true true_and and_self and_false false_and not_true_eq_false not_false_eq_true not_true not_false List.size_toArray all_len Nat.zero_add Nat.add_zero List.length_cons List.length_append List.length_replicate List.length_set List.length_nil List.length_map List.map_cons List.map_nil List.take_succ_cons List.take_zero List.take_nil List.drop_succ_cons List.drop_zero List.drop_nil List.cons_append List.nil_append List.append_nil List.all_cons List.all_nil Bool.and_true Bool.true_and Bool.and_false Bool.false_and Bool.not_true Bool.not_false Bool.or_false Bool.or_true Bool.false_or Bool.true_or List.filter_cons List.filter_nil List.contains_cons List.contains_nil beq_self_eq_true List.getElem?_cons_zero List.getElem?_cons_succ List.getElem?_nil Option.map_some Option.map_none Option.toList_some Option.toList_none List.isEmpty_cons List.isEmpty_nil Bool.false_eq_true Bool.true_eq_false List.getElem?_toArray List.not_mem_nil List.mem_cons or_false forall_eq List.mem_singleton forall_const Option.toArray tailF addF flSl dKeeps flFree closF notF if_true if_false plans inD cleanSt dstsOf Oper.looksAt Op.operands Call.operands dnOf insN insAll prods pick stOf goneOf slOf blOf keepB' entD addB edge B.ment Region.binds tailOk clos List.any_cons List.any_nil List.filterMap_cons List.filterMap_nil ne_eq Bool.or_self List.isEmpty_iff Array.toList_append List.append_toArray Array.append_empty Option.bind_some Option.bind_none List.push_toArray
abbrev rC1 (c : Col) : List T := [.lit (.string c.name), .lit (.int .i64 c.ty)]
abbrev rCs (l : List Col) : List (List T) := l.map rC1
mutual
def rE : Ex → List T
 | .mk k v nm ar => [.lit (.int .i64 k), .lit (.int .i64 v.k), .lit (.int .i64 v.n), .lit (.string v.s), .lit (.string nm), .sl (rEs ar)]
def rEs : List Ex → List (List T)
 | [] => []
 | x :: l => rE x :: rEs l
end
theorem rEs_map : ∀ l : List Ex, rEs l = l.map rE
 | [] => by rw [rEs]; rfl
 | x :: l => by rw [rEs, rEs_map l, List.map_cons]
theorem rE_mk (k : Int) (v : Vl) (nm : ByteArray) (ar : List Ex) : rE (.mk k v nm ar) = [.lit (.int .i64 k), .lit (.int .i64 v.k), .lit (.int .i64 v.n), .lit (.string v.s), .lit (.string nm), .sl (ar.map rE)] := by
 rw [rE, rEs_map]
theorem rE_len (e : Ex) : (rE e).length = 6 := by obtain ⟨k, v, nm, ar⟩ := e; rw [rE_mk]; rfl
theorem rE_val (v : Vl) : rE (Gx.val v).ex = [.lit (.int .i64 1), .lit (.int .i64 v.k), .lit (.int .i64 v.n), .lit (.string v.s), .lit (.string .empty), .sl []] := by rw [Gx.ex, rE_mk]; rfl
theorem rE_col (nm : ByteArray) : rE (Gx.col nm).ex = [.lit (.int .i64 2), .lit (.int .i64 0), .lit (.int .i64 0), .lit (.string .empty), .lit (.string nm), .sl []] := by rw [Gx.ex, rE_mk]; rfl
theorem rE_un (k : Int) (x : Gx) : rE (Gx.un k x).ex = [.lit (.int .i64 k), .lit (.int .i64 0), .lit (.int .i64 0), .lit (.string .empty), .lit (.string .empty), .sl [rE x.ex]] := by rw [Gx.ex, rE_mk]; rfl
theorem rE_bin (k : Int) (x y : Gx) : rE (Gx.bin k x y).ex = [.lit (.int .i64 k), .lit (.int .i64 0), .lit (.int .i64 0), .lit (.string .empty), .lit (.string .empty), .sl [rE x.ex, rE y.ex]] := by rw [Gx.ex, rE_mk]; rfl
end Go.Proofs.YtjdgejfhnfnmgaaGreatDoor.Ax
namespace Go.Proofs.YtjdgejfhnfnmgaaGreatDoor
open Go.RowKit
theorem within_any (n a b : Int) (w : World) :
  Calls Tryz.prog 79 #[.int .i64 n, .int .i64 a, .int .i64 b] w fun e w' => e = .returned (.bool (decide (a ≤ n) && decide (n ≤ b))) ∧ w = w' := by
 by_cases h1 : a ≤ n <;> by_cases h2 : n ≤ b
 all_goals
  go_enter Tryz.func79, Tryz.ntmps79
  go_wp2
  go_ret
  exact ⟨by simp [h1, h2], rfl⟩
theorem vint_any (n : Int) (w : World) :
  Calls Tryz.prog 131 #[.int .i64 n] w fun e w' => e = .returned (.bool (isInt n)) ∧ w = w' := by
 go_enter Tryz.func131, Tryz.ntmps131
 go_wp2_with (go_at_call 79; refine (within_any _ _ _ _).mono ?_; rintro e w' ⟨rfl, rfl⟩)
 go_ret
 exact ⟨rfl, rfl⟩
theorem all_take_snoc (s : ByteArray) (k : Nat) (h : k < s.size) (hq : ((s.data.toList.take k).all quotB) = true) : ((s.data.toList.take (k + 1)).all quotB) = quotB s[k] := by
 have e : s.data.toList.take (k + 1) = s.data.toList.take k ++ [s[k]] := by
  rw [List.take_succ_eq_append_getElem (by simpa using h)]; rfl
 rw [e, List.all_append, hq]; simp
theorem all_false (s : ByteArray) (k : Nat) (h : k < s.size) (hq : quotB s[k] = false) : s.data.toList.all quotB = false := by
 rw [List.all_eq_false]
 exact ⟨s[k], by simp [ByteArray.getElem_eq_getElem_data, Array.getElem_mem], by simp [hq]⟩
theorem vquot_any (s : ByteArray) (w : World) (hs : s.size ≤ maxLen) :
  Calls Tryz.prog 132 #[.string s] w fun e w' => e = .returned (.bool (quotS s)) ∧ w = w' := by
 unfold maxLen at hs
 go_enter Tryz.func132, Tryz.ntmps132
 go_wp2
 go_loop [6] (fun i => ∃ k : Nat, k ≤ s.size ∧ ((s.data.toList.take k).all quotB) = true ∧ i = .int .i64 k) (fun i => s.size - (intOf i).toNat)
 case atStart => exact ⟨0, Nat.zero_le _, rfl, rfl⟩
 case round =>
  obtain ⟨k, hk, hq, rfl⟩ := hrel
  have HQ := Lib.hid hq
  clear hq
  by_cases hlt : k < s.size
  ·by_cases hb : quotB s[k] = true
   ·go_wp2_with (go_at_call 139; refine (tquot_any _ _).mono ?_; rintro e w' ⟨rfl, rfl⟩)
    go_round
    case rel => exact ⟨k + 1, by omega, by rw [all_take_snoc s k hlt HQ.out]; exact hb, by go_num⟩
    case measure => simp [intOf]; omega
   ·have hb' : quotB s[k] = false := by simpa using hb
    clear hb
    go_wp2_with (go_at_call 139; refine (tquot_any _ _).mono ?_; rintro e w' ⟨rfl, rfl⟩)
    go_ret
    exact ⟨by simp [quotS, all_false s k hlt hb'], rfl⟩
  ·go_wp2
   go_ret
   have e : s.data.toList.all quotB = true := by
    have := HQ.out; rwa [List.take_of_length_le (by simp; omega)] at this
   exact ⟨by simp only [quotS, e, Bool.true_and]; simp; omega, rfl⟩
set_option maxHeartbeats 1000000 in
theorem vcheck_any (v : Vl) (w : World) (hs : v.s.size ≤ maxLen) :
  Calls Tryz.prog 81 #[v.val] w fun e w' => e = .returned (.int .i64 v.chk) ∧ Below w.heap.size w w' := by
 obtain ⟨k, n, s⟩ := v
 dsimp only [Vl.val] at hs ⊢
 by_cases hk : k = 0 ∨ k = 1 ∨ k = 2 ∨ k = 3
 ·rcases hk with rfl | rfl | rfl | rfl
  all_goals
   go_enter Tryz.func81, Tryz.ntmps81
   go_wp2_with (first | (go_at_call 79; refine (within_any _ _ _ _).mono ?_; rintro e w' ⟨rfl, rfl⟩) | (go_at_call 131; refine (vint_any _ _).mono ?_; rintro e w' ⟨rfl, rfl⟩) | (go_at_call 132; refine (vquot_any _ _ hs).mono ?_; rintro e w' ⟨rfl, rfl⟩))
  all_goals
   go_ret
   refine ⟨?_, below_two _⟩
   simp_all [Vl.chk, Vl.fine, emptyS]
   try omega
 ·have h0 : ¬ k = 0 := by omega
  have h1 : ¬ k = 1 := by omega
  have h2 : ¬ k = 2 := by omega
  have h3 : ¬ k = 3 := by omega
  clear hk
  go_enter Tryz.func81, Tryz.ntmps81
  go_wp2
  go_ret
  exact ⟨by simp [Vl.chk]; omega, below_two _⟩
end Go.Proofs.YtjdgejfhnfnmgaaGreatDoor
namespace Go.Proofs.YtjdgejfhnfnmgaaGreatDoor
open Go.RowKit
theorem isint_any (n : Int) (w : World) :
  Calls Tryz.prog 58 #[.int .i64 n] w fun e w' => e = .returned (.bool (isInt n)) ∧ w = w' := by
 go_enter Tryz.func58, Tryz.ntmps58
 go_wp2_with (go_at_call 23; refine (between_any _ _ _ _).mono ?_; rintro e w' ⟨rfl, rfl⟩)
 go_ret
 exact ⟨rfl, rfl⟩
theorem all_take_step (s : ByteArray) (k : Nat) (h : k < s.size) : ((s.data.toList.take (k + 1)).all quotB) = (((s.data.toList.take k).all quotB) && quotB s[k]) := by
 have e : s.data.toList.take (k + 1) = s.data.toList.take k ++ [s[k]] := by
  rw [List.take_succ_eq_append_getElem (by simpa using h)]; rfl
 rw [e, List.all_append]; simp
theorem all_take_false (s : ByteArray) (k : Nat) (h : ((s.data.toList.take k).all quotB) = false) : s.data.toList.all quotB = false := by
 rw [← Bool.not_eq_true] at h ⊢
 intro h1
 apply h
 rw [List.all_eq_true] at h1 ⊢
 exact fun x hx => h1 x (List.mem_of_mem_take hx)
set_option maxHeartbeats 1000000 in
theorem rcheck_any (v : Vl) (w : World) (hs : v.s.size ≤ maxLen) :
  Calls Tryz.prog 25 #[v.val] w fun e w' => e = .returned (.int .i64 v.chk) ∧ Below w.heap.size w w' := by
 obtain ⟨k, n, s⟩ := v
 dsimp only [Vl.val] at hs ⊢
 by_cases hk : k = 0 ∨ k = 1 ∨ k = 3
 ·rcases hk with rfl | rfl | rfl
  all_goals
   go_enter Tryz.func25, Tryz.ntmps25
   go_wp2_with (first | (go_at_call 23; refine (between_any _ _ _ _).mono ?_; rintro e w' ⟨rfl, rfl⟩) | (go_at_call 58; refine (isint_any _ _).mono ?_; rintro e w' ⟨rfl, rfl⟩))
  all_goals
   go_ret
   refine ⟨?_, below_two _⟩
   simp_all [Vl.chk, Vl.fine, emptyS]
   try omega
 ·by_cases h2 : k = 2
  ·subst h2
   clear hk
   by_cases hb : n = 0 ∧ s.size ≤ 20
   ·obtain ⟨rfl, h20⟩ := hb
    have H20 := Lib.hid h20
    have hs1 := h20
    clear hs
    go_enter Tryz.func25, Tryz.ntmps25
    go_wp2_with (first | (go_at_call 23; refine (between_any _ _ _ _).mono ?_; rintro e w' ⟨rfl, rfl⟩) | (go_at_call 58; refine (isint_any _ _).mono ?_; rintro e w' ⟨rfl, rfl⟩))
    go_loop [3, 4] (fun b i => ∃ j : Nat, j ≤ s.size ∧ i = .int .i64 j ∧ b = .bool ((s.data.toList.take j).all quotB)) (fun _ i => s.size - (intOf i).toNat)
    case atStart => exact ⟨0, Nat.zero_le _, rfl, by simp; omega⟩
    case round =>
     obtain ⟨j, hj, rfl, rfl⟩ := hrel
     by_cases hlt : j < s.size
     ·have HS := Lib.hid (all_take_step s j hlt)
      have HF := Lib.hid (all_take_false s j)
      by_cases hq : ((s.data.toList.take j).all quotB) = true
      ·rw [hq]
       have HQ := Lib.hid hq
       clear hq
       go_wp2_with (go_at_call 59; refine (isquot_any _ _).mono ?_; rintro e w' ⟨rfl, rfl⟩)
       go_round
       case rel => exact ⟨j + 1, by omega, by go_num, by rw [HS.out, HQ.out]; rfl⟩
       case measure => simp [intOf]; omega
      ·have hq' : ((s.data.toList.take j).all quotB) = false := by simpa using hq
       rw [hq']
       have HQ := Lib.hid (HF.out hq')
       clear hq hq' HF HS
       go_wp2
       go_ret
       refine ⟨?_, below_two _⟩
       simp [Vl.chk, Vl.fine, quotS, HQ.out]
     ·have hq : ((s.data.toList.take j).all quotB) = s.data.toList.all quotB := by rw [List.take_of_length_le (by simp; omega)]
      rw [hq]
      clear hq
      go_wp2
      all_goals
       go_ret
       refine ⟨?_, below_two _⟩
       simp_all [Vl.chk, Vl.fine, quotS, H20.out]
   ·have hf : (⟨2, n, s⟩ : Vl).chk = 3 := by
     simp only [Vl.chk, Vl.fine, quotS]
     have : ¬ (n = 0 ∧ s.size ≤ 20) := hb
     by_cases hn : n = 0
     ·have : ¬ s.size ≤ 20 := fun h => this ⟨hn, h⟩
      simp [hn, this]
     ·simp [hn]
    have HF := Lib.hid hf
    clear hf
    by_cases hn : n = 0
    ·subst hn
     have h20 : ¬ (s.size : Int) ≤ 20 := fun h => hb ⟨rfl, by omega⟩
     clear hb
     go_enter Tryz.func25, Tryz.ntmps25
     go_wp2_with (first | (go_at_call 23; refine (between_any _ _ _ _).mono ?_; rintro e w' ⟨rfl, rfl⟩) | (go_at_call 58; refine (isint_any _ _).mono ?_; rintro e w' ⟨rfl, rfl⟩))
     go_loop [3, 4] (fun b i => b = .bool false ∧ i = .int .i64 0) (fun _ i => 0)
     case atStart => exact ⟨by simp; omega, rfl⟩
     case round =>
      obtain ⟨rfl, rfl⟩ := hrel
      go_wp2
      all_goals
       go_ret
       exact ⟨by rw [HF.out]; rfl, below_two _⟩
    ·have hn1 : (n == 0) = false := by simp [hn]
     clear hb hn
     go_enter Tryz.func25, Tryz.ntmps25
     go_wp2_with (first | (go_at_call 23; refine (between_any _ _ _ _).mono ?_; rintro e w' ⟨rfl, rfl⟩) | (go_at_call 58; refine (isint_any _ _).mono ?_; rintro e w' ⟨rfl, rfl⟩))
     go_loop [3, 4] (fun b i => b = .bool false ∧ i = .int .i64 0) (fun _ i => 0)
     case atStart => exact ⟨rfl, rfl⟩
     case round =>
      obtain ⟨rfl, rfl⟩ := hrel
      go_wp2
      all_goals
       go_ret
       exact ⟨by rw [HF.out]; rfl, below_two _⟩
  have hf : (⟨k, n, s⟩ : Vl).chk = 7 := by
   simp only [Vl.chk]
   rw [if_neg (by omega)]
  have hb : (decide (0 ≤ k) && decide (k ≤ 3)) = false := by simp; omega
  have HF := Lib.hid hf
  clear hf hk h2
  go_enter Tryz.func25, Tryz.ntmps25
  go_wp2_with (first | (go_at_call 23; refine (between_any _ _ _ _).mono ?_; rintro e w' ⟨rfl, rfl⟩) | (go_at_call 58; refine (isint_any _ _).mono ?_; rintro e w' ⟨rfl, rfl⟩))
  go_ret
  exact ⟨by rw [HF.out]; rfl, below_two _⟩
end Go.Proofs.YtjdgejfhnfnmgaaGreatDoor
namespace Go.Proofs.YtjdgejfhnfnmgaaGreatDoor
open Go.RowKit
set_option maxHeartbeats 1000000 in
theorem rsame_any (a b : Vl) (w : World) :
  Calls Tryz.prog 26 #[a.val, b.val] w fun e w' => e = .returned (.bool (a.same b)) ∧ Below w.heap.size w w' := by
 obtain ⟨k, n, s⟩ := a
 obtain ⟨k', n', s'⟩ := b
 dsimp only [Vl.val, Vl.same]
 by_cases h1 : k = k'
 ·subst h1
  by_cases h2 : n = n'
  ·subst h2
   go_enter Tryz.func26, Tryz.ntmps26
   go_wp2
   go_ret
   exact ⟨by simp, ((Below.refl _ _).alloc (Nat.le_refl _) _).alloc (by simp) _⟩
  ·have h2' : (n == n') = false := by simp [h2]
   clear h2
   go_enter Tryz.func26, Tryz.ntmps26
   go_wp2
   go_ret
   exact ⟨by simp [h2'], ((Below.refl _ _).alloc (Nat.le_refl _) _).alloc (by simp) _⟩
 ·have h1' : (k == k') = false := by simp [h1]
  clear h1
  go_enter Tryz.func26, Tryz.ntmps26
  go_wp2
  go_ret
  exact ⟨by simp [h1'], ((Below.refl _ _).alloc (Nat.le_refl _) _).alloc (by simp) _⟩
end Go.Proofs.YtjdgejfhnfnmgaaGreatDoor
namespace Go.Proofs.YtjdgejfhnfnmgaaGreatDoor.Ax
open Go.RowKit
set_option linter.unusedSimpArgs false
attribute [local go_sem] ty3 ty4 ty9 ty24 ty32 ty137
set_option maxRecDepth 100000
theorem vcheck_sp (v : Vl) (hs : v.s.size ≤ maxLen) : Sp Tryz.prog 81 [aV1 v] (.one (.t true (.lit (.int .i64 v.chk)))) [] :=
 sp_lits (enters_of Tryz.func81 (by kernel_rfl) rfl) [v.val] _ rfl rfl fun w => (vcheck_any v w hs).mono fun _ _ h => h
theorem rcheck_sp (v : Vl) (hs : v.s.size ≤ maxLen) : Sp Tryz.prog 25 [aV1 v] (.one (.t true (.lit (.int .i64 v.chk)))) [] :=
 sp_lits (enters_of Tryz.func25 (by kernel_rfl) rfl) [v.val] _ rfl rfl fun w => (rcheck_any v w hs).mono fun _ _ h => h
theorem rsame_sp (a b : Vl) : Sp Tryz.prog 26 [aV1 a, aV1 b] (.one (.t true (.lit (.bool (a.same b))))) [] :=
 sp_lits (enters_of Tryz.func26 (by kernel_rfl) rfl) [a.val, b.val] _ rfl rfl fun w => (rsame_any a b w).mono fun _ _ h => h
theorem between_sp (n a b : Int) : Sp Tryz.prog 23 [.one (.lit (.int .i64 n)), .one (.lit (.int .i64 a)), .one (.lit (.int .i64 b))] (.one (.t true (.lit (.bool (decide (a ≤ n) && decide (n ≤ b)))))) [] :=
 sp_lits (enters_of Tryz.func23 (by kernel_rfl) rfl) [.int .i64 n, .int .i64 a, .int .i64 b] _ rfl rfl fun w => (between_any n a b w).mono fun _ _ h => ⟨h.1, h.2 ▸ Below.refl _ _⟩
end Go.Proofs.YtjdgejfhnfnmgaaGreatDoor.Ax
namespace Go.Proofs.YtjdgejfhnfnmgaaGreatDoor
open Go.RowKit
theorem weights_of_each {H : Type} {P : Program} {ts : List TypeId} {ds : List (DataW H)} (h : (DataW.weightsEach P ts ds).all (· ≤ reachBytes) = true) {j : Nat} {t : TypeId} {d : DataW H} (ht : ts[j]? = some t) (hd : ds[j]? = some d) : (DataW.weights P t d).all (· ≤ reachBytes) = true :=
 List.all_eq_true.2 fun x hx => List.all_eq_true.1 h _ (DataW.weights_mem_each ht hd x hx)
end Go.Proofs.YtjdgejfhnfnmgaaGreatDoor
namespace Go.Proofs.YtjdgejfhnfnmgaaGreatDoor.Ax
open Go.RowKit Go.Deep
section
variable {w : World} {ok : Nat → Prop}
theorem RdL.len' : ∀ {ts : List T} {cs : List Value}, RdL w ok ts cs → cs.length = ts.length
 | [], [], _ => rfl
 | _ :: _, _ :: _, h => by unfold RdL at h; rw [List.length_cons, List.length_cons, RdL.len' h.2]
 | [], _ :: _, h => by unfold RdL at h; exact h.elim
 | _ :: _, [], h => by unfold RdL at h; exact h.elim
theorem rdRow_of {b : Nat} : ∀ {ts : List T} {cs : List Value} {o : Nat}, RdL w ok ts cs → (∀ j u, cs[j]? = some u → w.cell? ⟨b, o + j, none⟩ = some u) → RdRow w ok b o ts
 | [], _, _, _, _ => by unfold RdRow; trivial
 | t :: ts, [], _, h, _ => by unfold RdL at h; exact h.elim
 | t :: ts, c :: cs, o, h, hc => by
  unfold RdL at h
  unfold RdRow
  exact ⟨⟨c, hc 0 c rfl, h.1⟩, rdRow_of h.2 fun j u hu => by have := hc (j + 1) u (by simpa using hu); rwa [show o + 1 + j = o + (j + 1) by omega]⟩
theorem rdRows_of {b s : Nat} : ∀ {rows : List (List T)} {o : Nat}, (∀ k r, rows[k]? = some r → r.length = s ∧ ∃ cs, RdL w ok r cs ∧ ∀ j u, cs[j]? = some u → w.cell? ⟨b, o + k * s + j, none⟩ = some u) → RdRows w ok s b o rows
 | [], _, _ => by unfold RdRows; trivial
 | r :: rs, o, h => by
  obtain ⟨h1, cs, h2, h3⟩ := h 0 r rfl
  unfold RdRows
  refine ⟨h1, rdRow_of h2 fun j u hu => by have := h3 j u hu; rwa [Nat.zero_mul, Nat.add_zero] at this, rdRows_of fun k r hr => ?_⟩
  obtain ⟨g1, cs, g2, g3⟩ := h (k + 1) r (by simpa using hr)
  refine ⟨g1, cs, g2, fun j u hu => ?_⟩
  have := g3 j u hu
  rwa [Nat.succ_mul, show o + (k * s + s) + j = o + s + k * s + j by omega] at this
end
structure OpensE {α : Type} (P : Program) (N : Nat) (sz : Nat) (f : α → List T) (t : TypeId) (good : α → Prop) : Prop where
 cells : P.cellsOf t = sz
 len : ∀ y, (f y).length = sz
 opens : ∀ {H : Type} {enc : TypeId × Value → H} {w : World} {base : Nat} {spare : Nat → Bool} {held : Bool} {fuel : Nat} {cs : List Value} {x : DataW H × List MemPlace},
  fuel ≤ N → DataW.trod enc P w base spare held fuel t cs = some x → (DataW.weights P t x.1).all (· ≤ reachBytes) = true → ∃ y, RdL w (fun b => b < w.heap.size) (f y) cs ∧ good y
section
variable {P : Program} {N : Nat} {t : TypeId}
theorem rdL_one {w : World} {ok : Nat → Prop} {v : Value} (h : v.oneCell' = true) : RdL w ok [.lit v] [v] := by
 unfold RdL RdT RdL
 exact ⟨⟨rfl, h⟩, trivial⟩
theorem oeInt (hu : P.underlying t = some (.int .i64)) (hc : P.cellsOf t = 1) : OpensE P N 1 (fun n => [.lit (.int .i64 n)]) t fun n => -9223372036854775808 ≤ n ∧ n ≤ 9223372036854775807 where
 cells := hc
 len _ := rfl
 opens _ h _ := by
  obtain ⟨n, rfl, _, hw⟩ := DataW.trod_int hu h
  refine ⟨n, rdL_one rfl, ?_⟩
  simp only [Lit.wf, Bool.and_eq_true, decide_eq_true_eq] at hw
  exact hw
theorem oeStr (hu : P.underlying t = some .string) (hc : P.cellsOf t = 1) : OpensE P N 1 (fun s => [.lit (.string s)]) t fun s => s.size ≤ 140737488351232 where
 cells := hc
 len _ := rfl
 opens _ h hw := by
  obtain ⟨s, rfl, hx, hs⟩ := DataW.trod_string hu h
  refine ⟨s, rdL_one rfl, ?_⟩
  rw [hx] at hw
  simp only [DataW.weights, List.all_cons, List.all_nil, Bool.and_true, Array.length_toList] at hw
  exact of_decide_eq_true hw
theorem oeBool (hu : P.underlying t = some .bool) (hc : P.cellsOf t = 1) : OpensE P N 1 (fun b => [.lit (.bool b)]) t fun _ => True where
 cells := hc
 len _ := rfl
 opens _ h _ := by
  obtain ⟨b, rfl, _⟩ := DataW.trod_bool hu h
  exact ⟨b, rdL_one rfl, trivial⟩
theorem oeSlice {α : Type} {f : α → List T} {sz : Nat} {e : TypeId} {good : α → Prop} {by_ : Nat} (hu : P.underlying t = some (.slice e)) (hc : P.cellsOf t = 1) (hb : P.bytesOf e = by_) (hs : 0 < sz) (O : ∀ M, M < N → OpensE P M sz f e good) (hce : P.cellsOf e = sz) :
  OpensE P N 1 (fun l : List α => [.sl (l.map f)]) t fun l => l.length * by_ ≤ 140737488351232 ∧ l.length ≤ maxLen ∧ ∀ x ∈ l, good x where
 cells := hc
 len _ := rfl
 opens := by
  intro H enc w base spare held fuel cs x hN h hw
  have hlt := DataW.trod_lt fuel t cs x h
  rcases DataW.trod_slice hu h with ⟨rfl, _⟩ | ⟨a, len, cap, elems, rest, m, rfl, rfl, hx, hba, hl, hm, hlen, hel, _, _⟩
  ·refine ⟨[], ?_, by simp [maxLen]⟩
   unfold RdL RdT RdL
   exact ⟨⟨none, 0, 0, rfl, rfl, Nat.le_refl _, .inl rfl⟩, trivial⟩
  ·have O' := O m (by omega)
   rw [hx] at hw
   simp only [DataW.weights, hu, List.all_cons, List.all_append, Bool.and_eq_true, hb, List.length_map] at hw
   obtain ⟨hw1', hw2, _⟩ := hw
   have hw1 : (elems.length + rest.length) * by_ ≤ 140737488351232 := of_decide_eq_true hw1'
   clear hw1'
   have hv : ∀ i, i < len → ∃ y : α, (∃ cs', RdL w (fun b => b < w.heap.size) (f y) cs' ∧ ∀ j u, cs'[j]? = some u → w.cell? (a.add (i * sz + j)) = some u) ∧ good y := fun i hi => by
    have h1 := hel i hi
    rw [List.getElem?_eq_getElem (by omega)] at h1
    obtain ⟨cs', h2, h3⟩ := Option.bind_eq_some_iff.1 h1
    obtain ⟨y, h4, h5⟩ := O'.opens (Nat.le_refl _) h3 (weightsAll_mem (List.mem_map.2 ⟨_, List.getElem_mem _, rfl⟩) hw2)
    obtain ⟨_, hl', hg⟩ := World.cells?_some h2
    rw [hce] at hl' hg
    exact ⟨y, ⟨cs', h4, fun j u hu => by
     have hj : j < sz := by
      rw [← hl']
      rcases Nat.lt_or_ge j cs'.length with h | h
      ·exact h
      ·rw [List.getElem?_eq_none h] at hu; cases hu
     rw [← add_add', hg j hj, hu]⟩, h5⟩
   rcases Nat.eq_zero_or_pos len with h0 | h0
   ·subst h0
    refine ⟨[], ?_, by simp [maxLen]⟩
    unfold RdL RdT RdL
    exact ⟨⟨some a, 0, cap, rfl, rfl, hl, .inl rfl⟩, trivial⟩
   ·obtain ⟨y0, ⟨cs0, hr0, hc0⟩, _⟩ := hv 0 h0
    have hl0 : cs0.length = sz := by rw [hr0.len', (O m (by omega)).len]
    have hsp : a.spot = none := by
     have := hc0 0 _ (List.getElem?_eq_getElem (by omega))
     exact (by simpa [Addr.add] using World.cell?_spot this)
    obtain ⟨b, o, s⟩ := a
    simp only at hsp
    subst hsp
    have hadd : ∀ i, (⟨b, o, none⟩ : Addr).add i = ⟨b, o + i, none⟩ := fun i => by unfold Addr.add; split <;> simp_all
    obtain ⟨g, hf⟩ := @choose_lt α ⟨y0⟩ len _ hv
    have hbl : b < w.heap.size := by
     refine hlt (.cell b o) ?_
     rw [hx]
     refine List.mem_append_left _ ?_
     rw [hce]
     simp only [MemPlace.row, List.mem_map, List.mem_range]
     refine ⟨0, ?_, by simp⟩
     exact Nat.mul_pos (by omega) hs
    refine ⟨(List.range len).map g, ?_, ?_, ?_, ?_⟩
    ·unfold RdL RdT RdL
     refine ⟨⟨_, len, cap, rfl, by simp, hl, .inr ⟨b, o, sz, rfl, hbl, rdRows_of fun k x hx => ?_⟩⟩, trivial⟩
     have hk : k < len := by
      rcases Nat.lt_or_ge k len with h | h
      ·exact h
      ·rw [List.getElem?_eq_none (by simpa using h)] at hx; cases hx
     rw [List.getElem?_map, List.getElem?_map, List.getElem?_range hk] at hx
     simp only [Option.map_some, Option.some.injEq] at hx
     subst hx
     obtain ⟨⟨cs', h1, h2⟩, _⟩ := hf k hk
     exact ⟨(O m (by omega)).len _, cs', h1, fun j u hu => by have := h2 j u hu; rwa [hadd, ← Nat.add_assoc] at this⟩
    ·rw [List.length_map, List.length_range]
     rw [hlen] at hw1
     rw [Nat.add_mul] at hw1
     omega
    ·rw [List.length_map, List.length_range]; omega
    ·intro y hy
     obtain ⟨i, hi, rfl⟩ := List.mem_map.1 hy
     exact (hf i (List.mem_range.1 hi)).2
structure OeParts {α : Type} (P : Program) (N : Nat) (sz : Nat) (f : α → List T) (ts : List TypeId) (good : α → Prop) : Prop where
 cells : (ts.map P.cellsOf).sum = sz
 len : ∀ y, (f y).length = sz
 opens : ∀ {H : Type} {enc : TypeId × Value → H} {w : World} {base : Nat} {spare : Nat → Bool} {held : Bool} {fuel : Nat} {cs : List Value} {xs : List (DataW H × List MemPlace)},
  fuel ≤ N → PartsOk P enc w base spare held fuel ts cs xs → (DataW.weightsEach P ts (xs.map (·.1))).all (· ≤ reachBytes) = true → ∃ y, RdL w (fun b => b < w.heap.size) (f y) cs ∧ good y
theorem oeOne {α : Type} {f : α → List T} {sz : Nat} {good : α → Prop} (O : OpensE P N sz f t good) : OeParts P N sz f [t] good where
 cells := by simp [O.cells]
 len := O.len
 opens := by
  intro H enc w base spare held fuel cs xs hN h hw
  match xs, h with
  | [x], ⟨h1, h2⟩ =>
   have h2 : cs.drop (P.cellsOf t) = [] := h2
   simp only [List.map_cons, List.map_nil, DataW.weightsEach, List.append_nil] at hw
   have e : cs.take (P.cellsOf t) = cs := by
    have := List.take_append_drop (P.cellsOf t) cs
    rw [h2, List.append_nil] at this
    exact this
   rw [e] at h1
   exact O.opens hN h1 hw
theorem oeCons {α β : Type} {f : α → List T} {g : β → List T} {sz sz' : Nat} {ts : List TypeId} {good : α → Prop} {good' : β → Prop} (O : OpensE P N sz f t good) (O' : OeParts P N sz' g ts good') : OeParts P N (sz + sz') (fun x : α × β => f x.1 ++ g x.2) (t :: ts) fun x => good x.1 ∧ good' x.2 where
 cells := by rw [List.map_cons, List.sum_cons, O.cells, O'.cells]
 len y := by rw [List.length_append, O.len, O'.len]
 opens := by
  intro H enc w base spare held fuel cs xs hN h hw
  match xs, h with
  | x :: xs, ⟨h1, h2⟩ =>
   simp only [List.map_cons, DataW.weightsEach, List.all_append, Bool.and_eq_true] at hw
   obtain ⟨y, a1, a2⟩ := O.opens hN h1 hw.1
   obtain ⟨z, b1, b2⟩ := O'.opens hN h2 hw.2
   refine ⟨(y, z), ?_, a2, b2⟩
   rw [← List.take_append_drop (P.cellsOf t) cs]
   exact a1.append b1
theorem oeStruct {α : Type} {f : α → List T} {sz : Nat} {good : α → Prop} {fs : Array Field} {ts : List TypeId} (hu : P.underlying t = some (.struct fs)) (hts : fs.toList.map (·.type) = ts) (ho : offsOk P 0 fs.toList = true) (hc : P.cellsOf t = (ts.map P.cellsOf).sum) (hcr : P.cellsOf t = sz) (hlen : ∀ y, (f y).length = sz) (O : ∀ M, M < N → OeParts P M sz f ts good) : OpensE P N sz f t good where
 cells := hcr
 len := hlen
 opens := by
  intro H enc w base spare held fuel cs x hN h hw
  obtain ⟨xs, n, rfl, hx, hln, hxl, hf⟩ := DataW.trod_struct hu h
  subst hts
  have hp := parts_of (P := P) (n := n) (enc := enc) (w := w) (base := base) (spare := spare) (held := held) fs.toList 0 cs xs ho (by rw [hln, hc]; omega) (by simpa using hxl) fun i f hfi => hf i f (by simpa using hfi)
  rw [List.drop_zero] at hp
  rw [hx] at hw
  simp only [DataW.weights, hu] at hw
  exact (O n (by omega)).opens (Nat.le_refl _) hp hw
theorem oeTo {α β : Type} {f : α → List T} {sz : Nat} {good : α → Prop} (O : OpensE P N sz f t good) (m : α → β) {f' : β → List T} {good' : β → Prop} (hf : ∀ x, f' (m x) = f x) (hl : ∀ y, (f' y).length = sz) (hg : ∀ x, good x → good' (m x)) : OpensE P N sz f' t good' where
 cells := O.cells
 len := hl
 opens := by
  intro H enc w base spare held fuel cs x hN ht hw
  obtain ⟨y, h1, h2⟩ := O.opens hN ht hw
  exact ⟨m y, by rw [hf]; exact h1, hg y h2⟩
theorem oeArg {α : Type} {f : α → List T} {sz : Nat} {good : α → Prop} (O : ∀ N, OpensE P N sz f t good) {H : Type} {enc : TypeId × Value → H} {w : World} {base : Nat} {spare : Nat → Bool} {held : Bool} {cs : List Value} {x : DataW H × List MemPlace}
  (h : ∃ fuel, DataW.trod enc P w base spare held fuel t cs = some x) (hw : (DataW.weights P t x.1).all (· ≤ reachBytes) = true) : ∃ y, RdL w (fun b => b < w.heap.size) (f y) cs ∧ good y := by
 obtain ⟨fuel, hf⟩ := h
 exact (O fuel).opens (Nat.le_refl _) hf hw
end
theorem Sp.law {P : Program} {f : FuncId} {args : List A} {w : World} {vs : List Value} (h : Sp P f args (.one (.t true (.lit (.bool true)))) []) (hG : GW w) (hvs : RdAs w (fun b => b < w.heap.size) args vs) : Calls P f vs.toArray w fun e w' => e = .returned (.bool true) ∧ Below w.heap.size w w' :=
 (h.calls w (fun b => b < w.heap.size) (fun _ h => h) vs hG hvs).mono fun e w' => by
  rintro ⟨x, ρ, rfl, hb, _, _, _, hx, _⟩
  unfold RdV RdC RdT at hx
  exact ⟨by rw [hx.1], hb⟩
section
variable {w : World} {ok : Nat → Prop}
theorem rdAs_nil : RdAs w ok [] [] := by unfold RdAs; trivial
theorem rdAs_cons {a : A} {as_ : List A} {v : Value} {vs : List Value} (h : RdA w ok a v) (h' : RdAs w ok as_ vs) : RdAs w ok (a :: as_) (v :: vs) := by unfold RdAs; exact ⟨h, h'⟩
theorem rdA_agg {ts : List T} {cs : Array Value} (h : RdL w ok ts (Value.agg cs).cells.toList) : RdA w ok (.agg ts) (.agg cs) := by unfold RdA; exact ⟨cs, rfl, h⟩
end
end Go.Proofs.YtjdgejfhnfnmgaaGreatDoor.Ax
namespace Go.Proofs.YtjdgejfhnfnmgaaGreatDoor.Ax
open Go.RowKit
theorem opensStrE (N : Nat) : OpensE Tryz.prog N 1 (fun s => [.lit (.string s)]) 9 fun s => s.size ≤ 140737488351232 := oeStr Tryz.underlying9 (by kernel_rfl)
theorem opensIntE (N : Nat) : OpensE Tryz.prog N 1 (fun n => [.lit (.int .i64 n)]) 3 fun n => -9223372036854775808 ≤ n ∧ n ≤ 9223372036854775807 := oeInt Tryz.underlying3 (by kernel_rfl)
def goodV (v : Vl) : Prop := (-9223372036854775808 ≤ v.k ∧ v.k ≤ 9223372036854775807) ∧ (-9223372036854775808 ≤ v.n ∧ v.n ≤ 9223372036854775807) ∧ v.s.size ≤ 140737488351232
theorem opensVlE (N : Nat) : OpensE Tryz.prog N 3 rV1 24 goodV :=
 oeTo (oeStruct (f := fun x : Int × Int × ByteArray => [.lit (.int .i64 x.1)] ++ ([.lit (.int .i64 x.2.1)] ++ [.lit (.string x.2.2)])) (sz := 1 + (1 + 1)) Tryz.underlying24 (ts := [3, 3, 9]) rfl (by kernel_rfl) (by kernel_rfl) (by kernel_rfl) (fun _ => rfl) (fun M _ => oeCons (opensIntE M) (oeCons (opensIntE M) (oeOne (opensStrE M)))))
  (fun x => (⟨x.1, x.2.1, x.2.2⟩ : Vl)) (fun _ => rfl) (fun _ => rfl) (fun _ h => h)
theorem opensVlsE (N : Nat) : OpensE Tryz.prog N 1 (fun l => [.sl (rVs l)]) 25 fun l => l.length * 32 ≤ 140737488351232 ∧ l.length ≤ maxLen ∧ ∀ x ∈ l, goodV x :=
 oeSlice Tryz.underlying25 (by kernel_rfl) (by kernel_rfl) (by decide) (fun M _ => opensVlE M) (by kernel_rfl)
def goodC (c : Col) : Prop := c.name.size ≤ 140737488351232 ∧ (-9223372036854775808 ≤ c.ty ∧ c.ty ≤ 9223372036854775807)
end Go.Proofs.YtjdgejfhnfnmgaaGreatDoor.Ax
