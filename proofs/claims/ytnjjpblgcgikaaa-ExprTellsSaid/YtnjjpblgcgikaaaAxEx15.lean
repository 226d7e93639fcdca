/- Expressions, by what is known: the document's values are the program's. -/
import Derived.Test.YtnjjpblgcgikaaaAxEx6
import Derived.Test.YtnjjpblgcgikaaaAxEx12
import Derived.Test.YtnjjpblgcgikaaaAxEx13
import Derived.Test.YtnjjpblgcgikaaaAxEx14
namespace Go.Proofs.Ytnjjpblgcgikaaa.Ax
open Go.RowKit

set_option linter.unusedSimpArgs false
attribute [local go_sem] runs runsN guardOf exec1 pureV modD rowD ev get St.app St.put St.turn loadC moveC fieldOf indexC lenC lenOk cutC bndOf evAll fieldV convV unV binV binI bitsV moreV intsT eqL eq1 valOf min1 lit1 litInt litI litB litS constV constC cellsV partsOf placesOf buildV fillL toT elemsOf rowsOf baseOf dstOk V.kill V.ment V.ments C.kill C.ment C.ments B.kill setD litRows litRows_append T.isLit callAll calleeV argsV argV viewC viewCs modeOk freeOps V.free C.free V.allF V.allFs C.allF C.allFs B.allF callD leL growSt growB C.flat V.flat B.flat flatL flatB St.flat List.set_cons_zero List.set_cons_succ C.only C.onlys V.only V.onlys B.only renI C.ren C.rens V.ren V.rens B.ren renB renOk nodK Option.getD_some Option.getD_none Option.isSome_some implies_true false_implies C.fit C.fits V.fit V.fit1 V.fits Bool.and_self ite_self exitV resV resL resC outV outV.outs eqB nn cast0 Int.toNat_natCast List.getElem?_map Value.cells Value.oneCell' Nat.lt_irrefl decide_true decide_false and_true true_and and_self and_false false_and not_true_eq_false not_false_eq_true not_true not_false List.size_toArray all_len Nat.zero_add Nat.add_zero List.length_cons List.length_append List.length_replicate List.length_set List.length_nil List.length_map List.map_cons List.map_nil List.take_succ_cons List.take_zero List.take_nil List.drop_succ_cons List.drop_zero List.drop_nil List.cons_append List.nil_append List.append_nil List.all_cons List.all_nil Bool.and_true Bool.true_and Bool.and_false Bool.false_and Bool.not_true Bool.not_false Bool.or_false Bool.or_true Bool.false_or Bool.true_or List.filter_cons List.filter_nil List.contains_cons List.contains_nil beq_self_eq_true List.getElem?_cons_zero List.getElem?_cons_succ List.getElem?_nil Option.map_some Option.map_none Option.toList_some Option.toList_none List.isEmpty_cons List.isEmpty_nil Bool.false_eq_true Bool.true_eq_false List.getElem?_toArray List.not_mem_nil List.mem_cons or_false forall_eq List.mem_singleton forall_const Option.toArray flsOf flOf flDist flRd flChk flLe tailF addF flSl dKeeps flFree closF notF if_true if_false plans stepE inD cleanSt dstsOf Oper.looksAt Op.operands Call.operands dnOf insN insAll prods pick stOf goneOf slOf blOf keepB' entD addB edge B.ment Region.binds idsOf tailOk clos List.any_cons List.any_nil List.filterMap_cons List.filterMap_nil ne_eq Bool.or_self List.isEmpty_iff Array.toList_append List.append_toArray Array.append_empty Option.bind_some Option.bind_none List.push_toArray
set_option maxRecDepth 100000
theorem fine0 {v : Vl} (h : v.chk = 0) (hk : v.k = 0) : v = Vl.zero := by
  unfold Vl.chk at h
  rw [if_pos (by omega)] at h
  split at h
  · rename_i h2
    unfold Vl.fine at h2
    rw [if_pos hk] at h2
    simp only [Bool.and_eq_true, beq_iff_eq] at h2
    obtain ⟨k, n, s⟩ := v
    simp only at hk h2
    rw [hk, h2.1, emptyS_eq _ h2.2]; rfl
  · cases h
theorem zeroB {v : Vl} (h : v.chk = 0) : (v.k == 0) = decide (v = Vl.zero) := by
  by_cases c : v.k = 0
  · rw [fine0 h c]; simp [Vl.zero]
  · have : v ≠ Vl.zero := fun h' => c (by rw [h']; rfl)
    simp [c, this]
theorem noB_eq {v : Vl} (h : v.chk = 0) : noB v = decide (v = truth false) := by
  unfold noB
  by_cases c : v.k = 3 ∧ v.n = 0
  · have h2 := (fine3 h c.1).2
    obtain ⟨k, n, s⟩ := v
    simp only at c h2
    rw [c.1, c.2, emptyS_eq _ h2]; simp [truth]
  · have : v ≠ truth false := fun h' => c (by rw [h']; exact ⟨rfl, rfl⟩)
    simp [c, this]
theorem yesB_eq {v : Vl} (h : v.chk = 0) : yesB v = decide (v = truth true) := by
  unfold yesB
  by_cases c : v.k = 3 ∧ v.n = 1
  · have h2 := (fine3 h c.1).2
    obtain ⟨k, n, s⟩ := v
    simp only at c h2
    rw [c.1, c.2, emptyS_eq _ h2]; simp [truth]
  · have : v ≠ truth true := fun h' => c (by rw [h']; exact ⟨rfl, rfl⟩)
    simp [c, this]
theorem quot_all {v : Vl} (h : v.chk = 0) : v.s.data.toList.all quotB = true := by
  have hs : ∀ s : ByteArray, emptyS s = true → s.data.toList.all quotB = true := fun s h => by rw [emptyS_eq _ h]; rfl
  unfold Vl.chk at h
  split at h
  · split at h
    · rename_i h1 h2
      unfold Vl.fine at h2
      repeat' split at h2
      all_goals simp only [Bool.and_eq_true] at h2
      · exact hs _ h2.2
      · exact hs _ h2.2
      · have := h2.2
        unfold quotS at this
        simp only [Bool.and_eq_true] at this
        exact this.1
      · exact hs _ h2.2
    · cases h
  · cases h
theorem made_int (n : Int) : madeV ⟨1, n, .empty⟩ = if isInt n = true then ⟨1, n, .empty⟩ else Vl.zero := by
  have : (⟨1, n, .empty⟩ : Vl).chk = if isInt n = true then 0 else 3 := by
    simp [Vl.chk, Vl.fine, isE0]
  unfold madeV
  rw [this]
  by_cases c : isInt n = true
  · rw [if_pos c, if_pos rfl, if_pos c]
  · rw [if_neg c, if_neg (by decide), if_neg c]
theorem made_cat {a b : Vl} (ha : a.chk = 0) (hb : b.chk = 0) : madeV ⟨2, 0, a.s ++ b.s⟩ = if 20 < a.s.size + b.s.size then Vl.zero else ⟨2, 0, a.s ++ b.s⟩ := by
  have h1 : quotS (a.s ++ b.s) = decide (a.s.size + b.s.size ≤ 20) := by
    unfold quotS
    rw [ByteArray.size_append, ByteArray.data_append, Array.toList_append, List.all_append, quot_all ha, quot_all hb]; rfl
  have : (⟨2, 0, a.s ++ b.s⟩ : Vl).chk = if a.s.size + b.s.size ≤ 20 then 0 else 3 := by
    simp [Vl.chk, Vl.fine, h1]
  unfold madeV
  rw [this]
  by_cases c : a.s.size + b.s.size ≤ 20
  · rw [if_pos c, if_pos rfl, if_neg (by omega)]
  · rw [if_neg c, if_neg (by decide), if_pos (by omega)]
theorem cmp_zero : ∀ a b : List UInt8, Lib.compareBytes a b = 0 ↔ a = b
  | [], [] => by simp [Lib.compareBytes]
  | [], _ :: _ => by simp [Lib.compareBytes]
  | _ :: _, [] => by simp [Lib.compareBytes]
  | x :: a, y :: b => by
    have ih := cmp_zero a b
    rw [Lib.compareBytes]
    by_cases h1 : x < y
    · rw [if_pos h1]
      have : x ≠ y := fun h => UInt8.lt_irrefl y (h ▸ h1)
      simp [this]
    rw [if_neg h1]
    by_cases h2 : y < x
    · rw [if_pos h2]
      have : x ≠ y := fun h => UInt8.lt_irrefl y (h ▸ h2)
      simp [this]
    rw [if_neg h2]
    have : x = y := UInt8.le_antisymm (UInt8.not_lt.1 h2) (UInt8.not_lt.1 h1)
    rw [ih, this]
    simp
theorem ord_zero (a b : Vl) : (ordV a b == 0) = decide (a = b) := by
  rw [Bool.eq_iff_iff, beq_iff_eq, decide_eq_true_eq]
  obtain ⟨k, n, s⟩ := a
  obtain ⟨k', n', s'⟩ := b
  unfold ordV
  simp only [Vl.mk.injEq]
  by_cases h1 : k = k'
  · rw [if_neg (by simpa using h1)]
    by_cases h2 : n = n'
    · rw [if_neg (by simpa using h2), cmp_zero]
      constructor
      · intro h; exact ⟨h1, h2, ByteArray.ext (Array.toList_inj.1 h)⟩
      · intro h; rw [h.2.2]
    · rw [if_pos h2]
      constructor
      · intro h; split at h <;> cases h
      · intro h; exact absurd h.2.1 h2
  · rw [if_pos h1]
    constructor
    · intro h; split at h <;> cases h
    · intro h; exact absurd h.1 h1
theorem ref_un (k : Int) (a : Vl) (hk : k = 3 ∨ k = 4) (ha : a.chk = 0) : refV k a a = valN k [a] := by
  rw [refV, valN, Bool.or_self, zeroB ha]
  rcases hk with rfl | rfl
  · rw [if_neg (by decide), if_neg (by simp), if_neg (by simp)]
    by_cases c : a = Vl.zero
    · rw [if_pos (by simp [c]), if_neg (by decide), if_pos c]
    · rw [if_neg (by simp [c]), if_neg (by decide), if_neg c]; rfl
  · rw [if_pos rfl, if_pos rfl]
theorem ref_bin (k : Int) (a b : Vl) (hk : 5 ≤ k ∧ k ≤ 11) (ha : a.chk = 0) (hb : b.chk = 0) : refV k a b = valN k [a, b] := by
  rw [refV, valN, zeroB ha, zeroB hb, noB_eq ha, noB_eq hb, yesB_eq ha, yesB_eq hb, if_neg (by omega)]
  have hz : (decide (a = Vl.zero) || decide (b = Vl.zero)) = decide (a = Vl.zero ∨ b = Vl.zero) := by simp
  rw [hz]
  by_cases c5 : k = 5
  · subst c5
    rw [if_pos rfl, if_neg (show ¬ (((5 : Int) == 6) && _) = true by simp)]
    by_cases c1 : a = truth false ∨ b = truth false
    · rw [if_pos (by simpa using c1), if_pos c1]
    · rw [if_neg (by simpa using c1), if_neg c1]
      by_cases c2 : a = Vl.zero ∨ b = Vl.zero
      · rw [if_pos (decide_eq_true c2), if_pos c2]
      · rw [if_neg (by simpa using c2), if_neg c2]; rfl
  rw [if_neg (by simp [c5]), if_neg c5]
  by_cases c6 : k = 6
  · subst c6
    rw [if_pos rfl]
    by_cases c1 : a = truth true ∨ b = truth true
    · rw [if_pos (by simpa using c1), if_pos c1]
    · rw [if_neg (by simpa using c1), if_neg c1]
      by_cases c2 : a = Vl.zero ∨ b = Vl.zero
      · rw [if_pos (decide_eq_true c2), if_pos c2]
      · rw [if_neg (by simpa using c2), if_neg c2]; rfl
  rw [if_neg (by simp [c6]), if_neg c6]
  by_cases c2 : a = Vl.zero ∨ b = Vl.zero
  · rw [if_pos (decide_eq_true c2), if_pos c2]
  rw [if_neg (by simpa using c2), if_neg c2]
  unfold restV sumV
  rw [if_neg (by omega), if_neg c5, if_neg c6]
  obtain rfl | rfl | rfl | rfl | rfl : k = 7 ∨ k = 8 ∨ k = 9 ∨ k = 10 ∨ k = 11 := by omega
  · simp [made_int]
  · simp [made_int]
  · simp [made_cat ha hb]
  · simp
  · simp [ord_zero]
theorem valueof_sp (cols : List Col) (row : List Vl) (hl : cols.length ≤ maxLen) (hr : row.length = cols.length) (hv : ∀ v ∈ row, v.chk = 0) (g : Gx) (hg : g.right cols) : Sp Try.prog 12 [.one (.sl (rCs cols)), .one (.sl (rVs row)), .agg (rE g.ex)] (vVt (valG cols row g)) [] := by
  induction g with
  | val v =>
    rw [rE_val, valG]
    (refine sp_of Try.func12 (by kernel_rfl) rfl (by simp [Try.ntmps12]) fun X hX => ?_; rw [Try.ntmps12] at hX; simp only [argSl, List.map_cons, List.map_nil, Nat.reduceAdd])
    (repeat (first | refine cw_seq' ?_ | refine cw_block ?_ | refine cw_true rfl ?_ | refine cw_false rfl ?_ | refine cw_exit ?_ | refine cw_ret ?_ | refine cw_skip ?_ | (refine cw_region_k fun K hK => ?_; simp only [go_sem, Nat.reduceAdd, Nat.reduceSub, Nat.reduceMul, Nat.reduceLT, Nat.reduceLeDiff, Nat.reduceEqDiff, Nat.reduceBEq, Int.reduceToNat, Int.reduceLE, Int.reduceLT, Int.reduceEq, ↓reduceIte, reduceCtorEq, ty3, ty4, ty9, ty22, ty46, ty26, ty28, ty25, feq25, ty23, ty31, hX]; refine rwr_nil (hK _ ?_); clear hK K) | refine then_mk ?_ | refine then_exit ?_ | refine then_ret ?_ | refine blk_mk ?_ | refine blk_ret ?_ | refine blk_same ?_ | refine blk_ne (by decide) ?_))
    (first | refine exit_retf ?_ | refine exit_normalf ?_); rw [Try.results12]; simp only [go_sem, Nat.reduceAdd, Nat.reduceSub, Nat.reduceMul, Nat.reduceLT, Nat.reduceLeDiff, Nat.reduceEqDiff, Nat.reduceBEq, Int.reduceToNat, Int.reduceLE, Int.reduceLT, Int.reduceEq, ↓reduceIte, reduceCtorEq, ty3, ty4, ty9, ty22, ty46, ty26, ty28, ty25, feq25, ty23, ty31, hX]
    try rfl
  | col nm =>
    obtain ⟨j, c, h1, h2, h3⟩ := findC_at hg
    have H := columnat_sp cols nm hl
    obtain ⟨x, hx⟩ : ∃ x, row[j]? = some x := ⟨_, List.getElem?_eq_getElem (by have := (List.getElem?_eq_some_iff.1 h1).1; omega)⟩
    have h4 : valAt cols row nm = x := by unfold valAt; rw [h2, Int.toNat_natCast, hx]
    rw [rE_col, valG, h4]
    rw [h2] at H
    (refine sp_of Try.func12 (by kernel_rfl) rfl (by simp [Try.ntmps12]) fun X hX => ?_; rw [Try.ntmps12] at hX; simp only [argSl, List.map_cons, List.map_nil, Nat.reduceAdd])
    (repeat (first | refine cw_seq' ?_ | refine cw_block ?_ | refine cw_true rfl ?_ | refine cw_false rfl ?_ | refine cw_exit ?_ | refine cw_ret ?_ | refine cw_skip ?_ | (refine cw_region_k fun K hK => ?_; simp only [go_sem, Nat.reduceAdd, Nat.reduceSub, Nat.reduceMul, Nat.reduceLT, Nat.reduceLeDiff, Nat.reduceEqDiff, Nat.reduceBEq, Int.reduceToNat, Int.reduceLE, Int.reduceLT, Int.reduceEq, ↓reduceIte, reduceCtorEq, ty3, ty4, ty9, ty22, ty46, ty26, ty28, ty25, feq25, ty23, ty31, hX]; refine rwr_nil (hK _ ?_); clear hK K) | refine then_mk ?_ | refine then_exit ?_ | refine then_ret ?_ | refine blk_mk ?_ | refine blk_ret ?_ | refine blk_same ?_ | refine blk_ne (by decide) ?_))
    (refine cw_region_k fun K hK => ?_; simp only [go_sem, Nat.reduceAdd, Nat.reduceSub, Nat.reduceMul, Nat.reduceLT, Nat.reduceLeDiff, Nat.reduceEqDiff, Nat.reduceBEq, Int.reduceToNat, Int.reduceLE, Int.reduceLT, Int.reduceEq, ↓reduceIte, reduceCtorEq, ty3, ty4, ty9, ty22, ty46, ty26, ty28, ty25, feq25, ty23, ty31, hX])
    (refine rwr_call 9 (H) rfl rfl (by simp only [go_sem, Nat.reduceAdd, Nat.reduceSub, Nat.reduceMul, Nat.reduceLT, Nat.reduceLeDiff, Nat.reduceEqDiff, Nat.reduceBEq, Int.reduceToNat, Int.reduceLE, Int.reduceLT, Int.reduceEq, ↓reduceIte, reduceCtorEq, ty3, ty4, ty9, ty22, ty46, ty26, ty28, ty25, feq25, ty23, ty31, hx, hX]) (by exact mode_r rfl) rfl (by rw [hX]; rfl) ?_; simp only [go_sem, Nat.reduceAdd, Nat.reduceSub, Nat.reduceMul, Nat.reduceLT, Nat.reduceLeDiff, Nat.reduceEqDiff, Nat.reduceBEq, Int.reduceToNat, Int.reduceLE, Int.reduceLT, Int.reduceEq, ↓reduceIte, reduceCtorEq, ty3, ty4, ty9, ty22, ty46, ty26, ty28, ty25, feq25, ty23, ty31, hx, hX])
    (refine rwr_nil (hK _ ?_); clear hK K)
    (repeat (first | refine cw_seq' ?_ | refine cw_block ?_ | refine cw_true rfl ?_ | refine cw_false rfl ?_ | refine cw_exit ?_ | refine cw_ret ?_ | refine cw_skip ?_ | (refine cw_region_k fun K hK => ?_; simp only [go_sem, Nat.reduceAdd, Nat.reduceSub, Nat.reduceMul, Nat.reduceLT, Nat.reduceLeDiff, Nat.reduceEqDiff, Nat.reduceBEq, Int.reduceToNat, Int.reduceLE, Int.reduceLT, Int.reduceEq, ↓reduceIte, reduceCtorEq, ty3, ty4, ty9, ty22, ty46, ty26, ty28, ty25, feq25, ty23, ty31, hX]; refine rwr_nil (hK _ ?_); clear hK K) | refine then_mk ?_ | refine then_exit ?_ | refine then_ret ?_ | refine blk_mk ?_ | refine blk_ret ?_ | refine blk_same ?_ | refine blk_ne (by decide) ?_))
    (first | refine exit_retf ?_ | refine exit_normalf ?_); rw [Try.results12]; simp only [go_sem, Nat.reduceAdd, Nat.reduceSub, Nat.reduceMul, Nat.reduceLT, Nat.reduceLeDiff, Nat.reduceEqDiff, Nat.reduceBEq, Int.reduceToNat, Int.reduceLE, Int.reduceLT, Int.reduceEq, ↓reduceIte, reduceCtorEq, ty3, ty4, ty9, ty22, ty46, ty26, ty28, ty25, feq25, ty23, ty31, hX]
    try rfl
  | un k x ih =>
    have hx := valG_chk cols row hv _ hg.2
    rw [rE_un, val_un, ← ref_un k _ hg.1 hx]
    exact valofn_sp cols row k [x] x x (.inl ⟨by have := hg.1; omega, by have := hg.1; omega, rfl, rfl⟩) (fun y hy => by
      obtain rfl : y = x := by simpa using hy
      exact ih hg.2) (fun y hy => by
      obtain rfl : y = x := by simpa using hy
      exact hx)
  | bin k x y ih ih' =>
    have hx := valG_chk cols row hv _ hg.2.1
    have hy := valG_chk cols row hv _ hg.2.2
    rw [rE_bin, val_bin, ← ref_bin k _ _ hg.1 hx hy]
    exact valofn_sp cols row k [x, y] x y (.inr ⟨hg.1.1, hg.1.2, rfl⟩) (fun z hz => by
      rcases List.mem_cons.1 hz with rfl | hz
      · exact ih hg.2.1
      · obtain rfl : z = y := by simpa using hz
        exact ih' hg.2.2) (fun z hz => by
      rcases List.mem_cons.1 hz with rfl | hz
      · exact hx
      · obtain rfl : z = y := by simpa using hz
        exact hy)
theorem istrue_sp (cols : List Col) (row : List Vl) (hl : cols.length ≤ maxLen) (hr : row.length = cols.length) (hv : ∀ v ∈ row, v.chk = 0) (g : Gx) (hg : g.right cols) : Sp Try.prog 14 [.one (.sl (rCs cols)), .one (.sl (rVs row)), .agg (rE g.ex)] (.one (.t true (.lit (.bool (decide (valG cols row g = truth true)))))) [] := by
  have H1 := valueof_sp cols row hl hr hv g hg
  have H2 := rsame_sp (valG cols row g) (truth true)
  rw [show (valG cols row g).same (truth true) = decide (valG cols row g = truth true) by rw [Bool.eq_iff_iff, Vl.same_iff, decide_eq_true_eq]] at H2
  obtain ⟨k, v, nm, ar, hx⟩ := ex_mk g.ex
  rw [hx, rE_mk] at H1 ⊢
  (refine sp_of Try.func14 (by kernel_rfl) rfl (by simp [Try.ntmps14]) fun X hX => ?_; rw [Try.ntmps14] at hX; simp only [argSl, List.map_cons, List.map_nil, Nat.reduceAdd])
  (repeat (first | refine cw_seq' ?_ | refine cw_block ?_ | refine cw_true rfl ?_ | refine cw_false rfl ?_ | refine cw_exit ?_ | refine cw_ret ?_ | refine cw_skip ?_ | (refine cw_region_k fun K hK => ?_; simp only [go_sem, Nat.reduceAdd, Nat.reduceSub, Nat.reduceMul, Nat.reduceLT, Nat.reduceLeDiff, Nat.reduceEqDiff, Nat.reduceBEq, Int.reduceToNat, Int.reduceLE, Int.reduceLT, Int.reduceEq, ↓reduceIte, reduceCtorEq, ty3, ty4, ty9, ty22, ty46, ty26, ty28, ty25, feq25, ty23, ty31, hX]; refine rwr_nil (hK _ ?_); clear hK K) | refine then_mk ?_ | refine then_exit ?_ | refine then_ret ?_ | refine blk_mk ?_ | refine blk_ret ?_ | refine blk_same ?_ | refine blk_ne (by decide) ?_))
  (refine cw_region_k fun K hK => ?_; simp only [go_sem, Nat.reduceAdd, Nat.reduceSub, Nat.reduceMul, Nat.reduceLT, Nat.reduceLeDiff, Nat.reduceEqDiff, Nat.reduceBEq, Int.reduceToNat, Int.reduceLE, Int.reduceLT, Int.reduceEq, ↓reduceIte, reduceCtorEq, ty3, ty4, ty9, ty22, ty46, ty26, ty28, ty25, feq25, ty23, ty31, hX])
  (refine rwr_call 9 (H1) rfl rfl (by simp only [go_sem, Nat.reduceAdd, Nat.reduceSub, Nat.reduceMul, Nat.reduceLT, Nat.reduceLeDiff, Nat.reduceEqDiff, Nat.reduceBEq, Int.reduceToNat, Int.reduceLE, Int.reduceLT, Int.reduceEq, ↓reduceIte, reduceCtorEq, ty3, ty4, ty9, ty22, ty46, ty26, ty28, ty25, feq25, ty23, ty31, hX]) (by exact mode_r rfl) rfl (by rw [hX]; rfl) ?_; simp only [go_sem, Nat.reduceAdd, Nat.reduceSub, Nat.reduceMul, Nat.reduceLT, Nat.reduceLeDiff, Nat.reduceEqDiff, Nat.reduceBEq, Int.reduceToNat, Int.reduceLE, Int.reduceLT, Int.reduceEq, ↓reduceIte, reduceCtorEq, ty3, ty4, ty9, ty22, ty46, ty26, ty28, ty25, feq25, ty23, ty31, hX])
  (refine rwr_call 9 (truthof_sp true) rfl rfl (by simp only [go_sem, Nat.reduceAdd, Nat.reduceSub, Nat.reduceMul, Nat.reduceLT, Nat.reduceLeDiff, Nat.reduceEqDiff, Nat.reduceBEq, Int.reduceToNat, Int.reduceLE, Int.reduceLT, Int.reduceEq, ↓reduceIte, reduceCtorEq, ty3, ty4, ty9, ty22, ty46, ty26, ty28, ty25, feq25, ty23, ty31, hX]) (by exact mode_r rfl) rfl (by rw [hX]; rfl) ?_; simp only [go_sem, Nat.reduceAdd, Nat.reduceSub, Nat.reduceMul, Nat.reduceLT, Nat.reduceLeDiff, Nat.reduceEqDiff, Nat.reduceBEq, Int.reduceToNat, Int.reduceLE, Int.reduceLT, Int.reduceEq, ↓reduceIte, reduceCtorEq, ty3, ty4, ty9, ty22, ty46, ty26, ty28, ty25, feq25, ty23, ty31, hX])
  (refine rwr_call 9 (H2) rfl rfl (by simp only [go_sem, Nat.reduceAdd, Nat.reduceSub, Nat.reduceMul, Nat.reduceLT, Nat.reduceLeDiff, Nat.reduceEqDiff, Nat.reduceBEq, Int.reduceToNat, Int.reduceLE, Int.reduceLT, Int.reduceEq, ↓reduceIte, reduceCtorEq, ty3, ty4, ty9, ty22, ty46, ty26, ty28, ty25, feq25, ty23, ty31, hX]) (by exact mode_r rfl) rfl (by rw [hX]; rfl) ?_; simp only [go_sem, Nat.reduceAdd, Nat.reduceSub, Nat.reduceMul, Nat.reduceLT, Nat.reduceLeDiff, Nat.reduceEqDiff, Nat.reduceBEq, Int.reduceToNat, Int.reduceLE, Int.reduceLT, Int.reduceEq, ↓reduceIte, reduceCtorEq, ty3, ty4, ty9, ty22, ty46, ty26, ty28, ty25, feq25, ty23, ty31, hX])
  (refine rwr_nil (hK _ ?_); clear hK K)
  (repeat (first | refine cw_seq' ?_ | refine cw_block ?_ | refine cw_true rfl ?_ | refine cw_false rfl ?_ | refine cw_exit ?_ | refine cw_ret ?_ | refine cw_skip ?_ | (refine cw_region_k fun K hK => ?_; simp only [go_sem, Nat.reduceAdd, Nat.reduceSub, Nat.reduceMul, Nat.reduceLT, Nat.reduceLeDiff, Nat.reduceEqDiff, Nat.reduceBEq, Int.reduceToNat, Int.reduceLE, Int.reduceLT, Int.reduceEq, ↓reduceIte, reduceCtorEq, ty3, ty4, ty9, ty22, ty46, ty26, ty28, ty25, feq25, ty23, ty31, hX]; refine rwr_nil (hK _ ?_); clear hK K) | refine then_mk ?_ | refine then_exit ?_ | refine then_ret ?_ | refine blk_mk ?_ | refine blk_ret ?_ | refine blk_same ?_ | refine blk_ne (by decide) ?_))
  (first | refine exit_retf ?_ | refine exit_normalf ?_); rw [Try.results14]; simp only [go_sem, Nat.reduceAdd, Nat.reduceSub, Nat.reduceMul, Nat.reduceLT, Nat.reduceLeDiff, Nat.reduceEqDiff, Nat.reduceBEq, Int.reduceToNat, Int.reduceLE, Int.reduceLT, Int.reduceEq, ↓reduceIte, reduceCtorEq, ty3, ty4, ty9, ty22, ty46, ty26, ty28, ty25, feq25, ty23, ty31, hX]
theorem kindOfT_sp (cols : List Col) (e : Ex) (hl : cols.length ≤ maxLen) (hc : ∀ c ∈ cols, 1 ≤ c.ty ∧ c.ty ≤ 3) (he : goodE e) : Sp Try.prog 10 [.one (.sl (rCs cols)), .agg (rE e)] (vII (kindE cols e)) [] := by
  have H1 := partsof_sp e 15 (by decide) (by decide)
  have H2 := checkparts_sp cols hl e he
  have H3 : ∀ g : Gx, g.ex = e → g.right cols → Sp Try.prog 27 [.one (.sl (rCs cols)), .agg (rE e)] (.one (.t true (.lit (.int .i64 (refK (kindG cols g)))))) [] := fun g h h' => by rw [← h]; exact kindof_sp cols hl hc g h'
  have H4 := parts_right cols e
  have H5 : ∀ g : Gx, g.ex = e → g.right cols → gOf e = g := fun g h h' => by rw [← h]; exact gOf_ex cols g h'
  unfold kindE
  obtain ⟨k, v, nm, ar, hx⟩ := ex_mk e
  generalize hs : sizeE e 15 = sz at *
  generalize hp : partsE cols e = pt at *
  generalize gOf e = ge at *
  rw [hx, rE_mk] at H1 H2 ⊢
  rw [hx] at H4
  have hr : rE e = rE (.mk k v nm ar) := by rw [hx]
  rw [rE_mk] at hr
  rw [hr] at H3
  (refine sp_of Try.func10 (by kernel_rfl) rfl (by simp [Try.ntmps10]) fun X hX => ?_; rw [Try.ntmps10] at hX; simp only [argSl, List.map_cons, List.map_nil, Nat.reduceAdd])
  (repeat (first | refine cw_seq' ?_ | refine cw_block ?_ | refine cw_true rfl ?_ | refine cw_false rfl ?_ | refine cw_exit ?_ | refine cw_ret ?_ | refine cw_skip ?_ | (refine cw_region_k fun K hK => ?_; simp only [go_sem, Nat.reduceAdd, Nat.reduceSub, Nat.reduceMul, Nat.reduceLT, Nat.reduceLeDiff, Nat.reduceEqDiff, Nat.reduceBEq, Int.reduceToNat, Int.reduceLE, Int.reduceLT, Int.reduceEq, ↓reduceIte, reduceCtorEq, ty3, ty4, ty9, ty22, ty46, ty26, ty28, ty25, feq25, ty23, ty31, hX]; refine rwr_nil (hK _ ?_); clear hK K) | refine then_mk ?_ | refine then_exit ?_ | refine then_ret ?_ | refine blk_mk ?_ | refine blk_ret ?_ | refine blk_same ?_ | refine blk_ne (by decide) ?_))
  (refine cw_region_k fun K hK => ?_; simp only [go_sem, Nat.reduceAdd, Nat.reduceSub, Nat.reduceMul, Nat.reduceLT, Nat.reduceLeDiff, Nat.reduceEqDiff, Nat.reduceBEq, Int.reduceToNat, Int.reduceLE, Int.reduceLT, Int.reduceEq, ↓reduceIte, reduceCtorEq, ty3, ty4, ty9, ty22, ty46, ty26, ty28, ty25, feq25, ty23, ty31, hX])
  (refine rwr_call 9 (H1) rfl rfl (by simp only [go_sem, Nat.reduceAdd, Nat.reduceSub, Nat.reduceMul, Nat.reduceLT, Nat.reduceLeDiff, Nat.reduceEqDiff, Nat.reduceBEq, Int.reduceToNat, Int.reduceLE, Int.reduceLT, Int.reduceEq, ↓reduceIte, reduceCtorEq, ty3, ty4, ty9, ty22, ty46, ty26, ty28, ty25, feq25, ty23, ty31, hX]) (by exact mode_r rfl) rfl (by rw [hX]; rfl) ?_; simp only [go_sem, Nat.reduceAdd, Nat.reduceSub, Nat.reduceMul, Nat.reduceLT, Nat.reduceLeDiff, Nat.reduceEqDiff, Nat.reduceBEq, Int.reduceToNat, Int.reduceLE, Int.reduceLT, Int.reduceEq, ↓reduceIte, reduceCtorEq, ty3, ty4, ty9, ty22, ty46, ty26, ty28, ty25, feq25, ty23, ty31, hX])
  (refine rwr_nil (hK _ ?_); clear hK K)
  (repeat (first | refine cw_seq' ?_ | refine cw_block ?_ | refine cw_true rfl ?_ | refine cw_false rfl ?_ | refine cw_exit ?_ | refine cw_ret ?_ | refine cw_skip ?_ | (refine cw_region_k fun K hK => ?_; simp only [go_sem, Nat.reduceAdd, Nat.reduceSub, Nat.reduceMul, Nat.reduceLT, Nat.reduceLeDiff, Nat.reduceEqDiff, Nat.reduceBEq, Int.reduceToNat, Int.reduceLE, Int.reduceLT, Int.reduceEq, ↓reduceIte, reduceCtorEq, ty3, ty4, ty9, ty22, ty46, ty26, ty28, ty25, feq25, ty23, ty31, hX]; refine rwr_nil (hK _ ?_); clear hK K) | refine then_mk ?_ | refine then_exit ?_ | refine then_ret ?_ | refine blk_mk ?_ | refine blk_ret ?_ | refine blk_same ?_ | refine blk_ne (by decide) ?_))
  refine cw_cond rfl (fun c1 => ?_) (fun c1 => ?_)
  · (repeat (first | refine cw_seq' ?_ | refine cw_block ?_ | refine cw_true rfl ?_ | refine cw_false rfl ?_ | refine cw_exit ?_ | refine cw_ret ?_ | refine cw_skip ?_ | (refine cw_region_k fun K hK => ?_; simp only [go_sem, Nat.reduceAdd, Nat.reduceSub, Nat.reduceMul, Nat.reduceLT, Nat.reduceLeDiff, Nat.reduceEqDiff, Nat.reduceBEq, Int.reduceToNat, Int.reduceLE, Int.reduceLT, Int.reduceEq, ↓reduceIte, reduceCtorEq, ty3, ty4, ty9, ty22, ty46, ty26, ty28, ty25, feq25, ty23, ty31, hX]; refine rwr_nil (hK _ ?_); clear hK K) | refine then_mk ?_ | refine then_exit ?_ | refine then_ret ?_ | refine blk_mk ?_ | refine blk_ret ?_ | refine blk_same ?_ | refine blk_ne (by decide) ?_))
    (first | refine exit_retf ?_ | refine exit_normalf ?_); rw [Try.results10]; simp only [go_sem, Nat.reduceAdd, Nat.reduceSub, Nat.reduceMul, Nat.reduceLT, Nat.reduceLeDiff, Nat.reduceEqDiff, Nat.reduceBEq, Int.reduceToNat, Int.reduceLE, Int.reduceLT, Int.reduceEq, ↓reduceIte, reduceCtorEq, ty3, ty4, ty9, ty22, ty46, ty26, ty28, ty25, feq25, ty23, ty31, hX]
    rw [if_pos (by simp only [decide_eq_true_eq, decide_eq_false_iff_not, bne_iff_ne, bne_eq_false_iff_eq, beq_iff_eq, beq_eq_false_iff_ne, ne_eq] at c1; omega)]
  rw [if_neg (by simp only [decide_eq_true_eq, decide_eq_false_iff_not, bne_iff_ne, bne_eq_false_iff_eq, beq_iff_eq, beq_eq_false_iff_ne, ne_eq] at c1; omega)]
  (repeat (first | refine cw_seq' ?_ | refine cw_block ?_ | refine cw_true rfl ?_ | refine cw_false rfl ?_ | refine cw_exit ?_ | refine cw_ret ?_ | refine cw_skip ?_ | (refine cw_region_k fun K hK => ?_; simp only [go_sem, Nat.reduceAdd, Nat.reduceSub, Nat.reduceMul, Nat.reduceLT, Nat.reduceLeDiff, Nat.reduceEqDiff, Nat.reduceBEq, Int.reduceToNat, Int.reduceLE, Int.reduceLT, Int.reduceEq, ↓reduceIte, reduceCtorEq, ty3, ty4, ty9, ty22, ty46, ty26, ty28, ty25, feq25, ty23, ty31, hX]; refine rwr_nil (hK _ ?_); clear hK K) | refine then_mk ?_ | refine then_exit ?_ | refine then_ret ?_ | refine blk_mk ?_ | refine blk_ret ?_ | refine blk_same ?_ | refine blk_ne (by decide) ?_))
  (refine cw_region_k fun K hK => ?_; simp only [go_sem, Nat.reduceAdd, Nat.reduceSub, Nat.reduceMul, Nat.reduceLT, Nat.reduceLeDiff, Nat.reduceEqDiff, Nat.reduceBEq, Int.reduceToNat, Int.reduceLE, Int.reduceLT, Int.reduceEq, ↓reduceIte, reduceCtorEq, ty3, ty4, ty9, ty22, ty46, ty26, ty28, ty25, feq25, ty23, ty31, hX])
  (refine rwr_call 9 (H2) rfl rfl (by simp only [go_sem, Nat.reduceAdd, Nat.reduceSub, Nat.reduceMul, Nat.reduceLT, Nat.reduceLeDiff, Nat.reduceEqDiff, Nat.reduceBEq, Int.reduceToNat, Int.reduceLE, Int.reduceLT, Int.reduceEq, ↓reduceIte, reduceCtorEq, ty3, ty4, ty9, ty22, ty46, ty26, ty28, ty25, feq25, ty23, ty31, hX]) (by exact mode_r rfl) rfl (by rw [hX]; rfl) ?_; simp only [go_sem, Nat.reduceAdd, Nat.reduceSub, Nat.reduceMul, Nat.reduceLT, Nat.reduceLeDiff, Nat.reduceEqDiff, Nat.reduceBEq, Int.reduceToNat, Int.reduceLE, Int.reduceLT, Int.reduceEq, ↓reduceIte, reduceCtorEq, ty3, ty4, ty9, ty22, ty46, ty26, ty28, ty25, feq25, ty23, ty31, hX])
  (refine rwr_nil (hK _ ?_); clear hK K)
  (repeat (first | refine cw_seq' ?_ | refine cw_block ?_ | refine cw_true rfl ?_ | refine cw_false rfl ?_ | refine cw_exit ?_ | refine cw_ret ?_ | refine cw_skip ?_ | (refine cw_region_k fun K hK => ?_; simp only [go_sem, Nat.reduceAdd, Nat.reduceSub, Nat.reduceMul, Nat.reduceLT, Nat.reduceLeDiff, Nat.reduceEqDiff, Nat.reduceBEq, Int.reduceToNat, Int.reduceLE, Int.reduceLT, Int.reduceEq, ↓reduceIte, reduceCtorEq, ty3, ty4, ty9, ty22, ty46, ty26, ty28, ty25, feq25, ty23, ty31, hX]; refine rwr_nil (hK _ ?_); clear hK K) | refine then_mk ?_ | refine then_exit ?_ | refine then_ret ?_ | refine blk_mk ?_ | refine blk_ret ?_ | refine blk_same ?_ | refine blk_ne (by decide) ?_))
  refine cw_cond rfl (fun c2 => ?_) (fun c2 => ?_)
  · (repeat (first | refine cw_seq' ?_ | refine cw_block ?_ | refine cw_true rfl ?_ | refine cw_false rfl ?_ | refine cw_exit ?_ | refine cw_ret ?_ | refine cw_skip ?_ | (refine cw_region_k fun K hK => ?_; simp only [go_sem, Nat.reduceAdd, Nat.reduceSub, Nat.reduceMul, Nat.reduceLT, Nat.reduceLeDiff, Nat.reduceEqDiff, Nat.reduceBEq, Int.reduceToNat, Int.reduceLE, Int.reduceLT, Int.reduceEq, ↓reduceIte, reduceCtorEq, ty3, ty4, ty9, ty22, ty46, ty26, ty28, ty25, feq25, ty23, ty31, hX]; refine rwr_nil (hK _ ?_); clear hK K) | refine then_mk ?_ | refine then_exit ?_ | refine then_ret ?_ | refine blk_mk ?_ | refine blk_ret ?_ | refine blk_same ?_ | refine blk_ne (by decide) ?_))
    (first | refine exit_retf ?_ | refine exit_normalf ?_); rw [Try.results10]; simp only [go_sem, Nat.reduceAdd, Nat.reduceSub, Nat.reduceMul, Nat.reduceLT, Nat.reduceLeDiff, Nat.reduceEqDiff, Nat.reduceBEq, Int.reduceToNat, Int.reduceLE, Int.reduceLT, Int.reduceEq, ↓reduceIte, reduceCtorEq, ty3, ty4, ty9, ty22, ty46, ty26, ty28, ty25, feq25, ty23, ty31, hX]
    rw [if_pos (by simp only [decide_eq_true_eq, decide_eq_false_iff_not, bne_iff_ne, bne_eq_false_iff_eq, beq_iff_eq, beq_eq_false_iff_ne, ne_eq] at c2; omega)]
  rw [if_neg (by simp only [decide_eq_true_eq, decide_eq_false_iff_not, bne_iff_ne, bne_eq_false_iff_eq, beq_iff_eq, beq_eq_false_iff_ne, ne_eq] at c2; omega)]
  obtain ⟨g, h3, h4⟩ := H4 (by simp only [decide_eq_true_eq, decide_eq_false_iff_not, bne_iff_ne, bne_eq_false_iff_eq, beq_iff_eq, beq_eq_false_iff_ne, ne_eq] at c2; omega)
  rw [← hx] at h3
  have H6 := H3 g h3 h4
  rw [H5 g h3 h4]
  cases hk : kindG cols g with
  | some t =>
    have hg := kindG_le cols hc g h4 t hk
    have e1 : decide (t < 0) = false := by simp; omega
    rw [hk] at H6
    (repeat (first | refine cw_seq' ?_ | refine cw_block ?_ | refine cw_true rfl ?_ | refine cw_false rfl ?_ | refine cw_exit ?_ | refine cw_ret ?_ | refine cw_skip ?_ | (refine cw_region_k fun K hK => ?_; simp only [go_sem, Nat.reduceAdd, Nat.reduceSub, Nat.reduceMul, Nat.reduceLT, Nat.reduceLeDiff, Nat.reduceEqDiff, Nat.reduceBEq, Int.reduceToNat, Int.reduceLE, Int.reduceLT, Int.reduceEq, ↓reduceIte, reduceCtorEq, ty3, ty4, ty9, ty22, ty46, ty26, ty28, ty25, feq25, ty23, ty31, hX]; refine rwr_nil (hK _ ?_); clear hK K) | refine then_mk ?_ | refine then_exit ?_ | refine then_ret ?_ | refine blk_mk ?_ | refine blk_ret ?_ | refine blk_same ?_ | refine blk_ne (by decide) ?_))
    (refine cw_region_k fun K hK => ?_; simp only [go_sem, Nat.reduceAdd, Nat.reduceSub, Nat.reduceMul, Nat.reduceLT, Nat.reduceLeDiff, Nat.reduceEqDiff, Nat.reduceBEq, Int.reduceToNat, Int.reduceLE, Int.reduceLT, Int.reduceEq, ↓reduceIte, reduceCtorEq, ty3, ty4, ty9, ty22, ty46, ty26, ty28, ty25, feq25, ty23, ty31, hX])
    (refine rwr_call 9 (H6) rfl rfl (by simp only [go_sem, Nat.reduceAdd, Nat.reduceSub, Nat.reduceMul, Nat.reduceLT, Nat.reduceLeDiff, Nat.reduceEqDiff, Nat.reduceBEq, Int.reduceToNat, Int.reduceLE, Int.reduceLT, Int.reduceEq, ↓reduceIte, reduceCtorEq, ty3, ty4, ty9, ty22, ty46, ty26, ty28, ty25, feq25, ty23, ty31, refK, hX]) (by exact mode_r rfl) rfl (by rw [hX]; rfl) ?_; simp only [go_sem, Nat.reduceAdd, Nat.reduceSub, Nat.reduceMul, Nat.reduceLT, Nat.reduceLeDiff, Nat.reduceEqDiff, Nat.reduceBEq, Int.reduceToNat, Int.reduceLE, Int.reduceLT, Int.reduceEq, ↓reduceIte, reduceCtorEq, ty3, ty4, ty9, ty22, ty46, ty26, ty28, ty25, feq25, ty23, ty31, refK, hX])
    (refine rwr_nil (hK _ ?_); clear hK K)
    (repeat (first | refine cw_seq' ?_ | refine cw_block ?_ | refine cw_true rfl ?_ | refine cw_false rfl ?_ | refine cw_exit ?_ | refine cw_ret ?_ | refine cw_skip ?_ | (refine cw_region_k fun K hK => ?_; simp only [go_sem, Nat.reduceAdd, Nat.reduceSub, Nat.reduceMul, Nat.reduceLT, Nat.reduceLeDiff, Nat.reduceEqDiff, Nat.reduceBEq, Int.reduceToNat, Int.reduceLE, Int.reduceLT, Int.reduceEq, ↓reduceIte, reduceCtorEq, ty3, ty4, ty9, ty22, ty46, ty26, ty28, ty25, feq25, ty23, ty31, e1, hX]; refine rwr_nil (hK _ ?_); clear hK K) | refine then_mk ?_ | refine then_exit ?_ | refine then_ret ?_ | refine blk_mk ?_ | refine blk_ret ?_ | refine blk_same ?_ | refine blk_ne (by decide) ?_))
    (first | refine exit_retf ?_ | refine exit_normalf ?_); rw [Try.results10]; simp only [go_sem, Nat.reduceAdd, Nat.reduceSub, Nat.reduceMul, Nat.reduceLT, Nat.reduceLeDiff, Nat.reduceEqDiff, Nat.reduceBEq, Int.reduceToNat, Int.reduceLE, Int.reduceLT, Int.reduceEq, ↓reduceIte, reduceCtorEq, ty3, ty4, ty9, ty22, ty46, ty26, ty28, ty25, feq25, ty23, ty31, hX]
  | none =>
    rw [hk] at H6
    simp only [refK] at H6
    (repeat (first | refine cw_seq' ?_ | refine cw_block ?_ | refine cw_true rfl ?_ | refine cw_false rfl ?_ | refine cw_exit ?_ | refine cw_ret ?_ | refine cw_skip ?_ | (refine cw_region_k fun K hK => ?_; simp only [go_sem, Nat.reduceAdd, Nat.reduceSub, Nat.reduceMul, Nat.reduceLT, Nat.reduceLeDiff, Nat.reduceEqDiff, Nat.reduceBEq, Int.reduceToNat, Int.reduceLE, Int.reduceLT, Int.reduceEq, ↓reduceIte, reduceCtorEq, ty3, ty4, ty9, ty22, ty46, ty26, ty28, ty25, feq25, ty23, ty31, hX]; refine rwr_nil (hK _ ?_); clear hK K) | refine then_mk ?_ | refine then_exit ?_ | refine then_ret ?_ | refine blk_mk ?_ | refine blk_ret ?_ | refine blk_same ?_ | refine blk_ne (by decide) ?_))
    (refine cw_region_k fun K hK => ?_; simp only [go_sem, Nat.reduceAdd, Nat.reduceSub, Nat.reduceMul, Nat.reduceLT, Nat.reduceLeDiff, Nat.reduceEqDiff, Nat.reduceBEq, Int.reduceToNat, Int.reduceLE, Int.reduceLT, Int.reduceEq, ↓reduceIte, reduceCtorEq, ty3, ty4, ty9, ty22, ty46, ty26, ty28, ty25, feq25, ty23, ty31, hX])
    (refine rwr_call 9 (H6) rfl rfl (by simp only [go_sem, Nat.reduceAdd, Nat.reduceSub, Nat.reduceMul, Nat.reduceLT, Nat.reduceLeDiff, Nat.reduceEqDiff, Nat.reduceBEq, Int.reduceToNat, Int.reduceLE, Int.reduceLT, Int.reduceEq, ↓reduceIte, reduceCtorEq, ty3, ty4, ty9, ty22, ty46, ty26, ty28, ty25, feq25, ty23, ty31, hX]) (by exact mode_r rfl) rfl (by rw [hX]; rfl) ?_; simp only [go_sem, Nat.reduceAdd, Nat.reduceSub, Nat.reduceMul, Nat.reduceLT, Nat.reduceLeDiff, Nat.reduceEqDiff, Nat.reduceBEq, Int.reduceToNat, Int.reduceLE, Int.reduceLT, Int.reduceEq, ↓reduceIte, reduceCtorEq, ty3, ty4, ty9, ty22, ty46, ty26, ty28, ty25, feq25, ty23, ty31, hX])
    (refine rwr_nil (hK _ ?_); clear hK K)
    (repeat (first | refine cw_seq' ?_ | refine cw_block ?_ | refine cw_true rfl ?_ | refine cw_false rfl ?_ | refine cw_exit ?_ | refine cw_ret ?_ | refine cw_skip ?_ | (refine cw_region_k fun K hK => ?_; simp only [go_sem, Nat.reduceAdd, Nat.reduceSub, Nat.reduceMul, Nat.reduceLT, Nat.reduceLeDiff, Nat.reduceEqDiff, Nat.reduceBEq, Int.reduceToNat, Int.reduceLE, Int.reduceLT, Int.reduceEq, ↓reduceIte, reduceCtorEq, ty3, ty4, ty9, ty22, ty46, ty26, ty28, ty25, feq25, ty23, ty31, hX]; refine rwr_nil (hK _ ?_); clear hK K) | refine then_mk ?_ | refine then_exit ?_ | refine then_ret ?_ | refine blk_mk ?_ | refine blk_ret ?_ | refine blk_same ?_ | refine blk_ne (by decide) ?_))
    (first | refine exit_retf ?_ | refine exit_normalf ?_); rw [Try.results10]; simp only [go_sem, Nat.reduceAdd, Nat.reduceSub, Nat.reduceMul, Nat.reduceLT, Nat.reduceLeDiff, Nat.reduceEqDiff, Nat.reduceBEq, Int.reduceToNat, Int.reduceLE, Int.reduceLT, Int.reduceEq, ↓reduceIte, reduceCtorEq, ty3, ty4, ty9, ty22, ty46, ty26, ty28, ty25, feq25, ty23, ty31, hX]
end Go.Proofs.Ytnjjpblgcgikaaa.Ax
