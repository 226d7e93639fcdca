/- Expressions, by what is known: the law that what comes is of its kind. -/
import Derived.Test.YtnjjpblgcgikaaaAxEx14
import Derived.Test.YtnjjpblgcgikaaaAxEx17
namespace Go.Proofs.Ytnjjpblgcgikaaa.Ax
open Go.RowKit

set_option linter.unusedSimpArgs false
attribute [local go_sem] runs runsN guardOf exec1 pureV modD rowD ev get St.app St.put St.turn loadC moveC fieldOf indexC lenC lenOk cutC bndOf evAll fieldV convV unV binV binI bitsV moreV intsT eqL eq1 valOf min1 lit1 litInt litI litB litS constV constC cellsV partsOf placesOf buildV fillL toT elemsOf rowsOf baseOf dstOk V.kill V.ment V.ments C.kill C.ment C.ments B.kill setD litRows litRows_append T.isLit callAll calleeV argsV argV viewC viewCs modeOk freeOps V.free C.free V.allF V.allFs C.allF C.allFs B.allF callD leL growSt growB C.flat V.flat B.flat flatL flatB St.flat List.set_cons_zero List.set_cons_succ C.only C.onlys V.only V.onlys B.only renI C.ren C.rens V.ren V.rens B.ren renB renOk nodK Option.getD_some Option.getD_none Option.isSome_some implies_true false_implies C.fit C.fits V.fit V.fit1 V.fits Bool.and_self ite_self exitV resV resL resC outV outV.outs eqB nn cast0 Int.toNat_natCast List.getElem?_map Value.cells Value.oneCell' Nat.lt_irrefl decide_true decide_false and_true true_and and_self and_false false_and not_true_eq_false not_false_eq_true not_true not_false List.size_toArray all_len Nat.zero_add Nat.add_zero List.length_cons List.length_append List.length_replicate List.length_set List.length_nil List.length_map List.map_cons List.map_nil List.take_succ_cons List.take_zero List.take_nil List.drop_succ_cons List.drop_zero List.drop_nil List.cons_append List.nil_append List.append_nil List.all_cons List.all_nil Bool.and_true Bool.true_and Bool.and_false Bool.false_and Bool.not_true Bool.not_false Bool.or_false Bool.or_true Bool.false_or Bool.true_or List.filter_cons List.filter_nil List.contains_cons List.contains_nil beq_self_eq_true List.getElem?_cons_zero List.getElem?_cons_succ List.getElem?_nil Option.map_some Option.map_none Option.toList_some Option.toList_none List.isEmpty_cons List.isEmpty_nil Bool.false_eq_true Bool.true_eq_false List.getElem?_toArray List.not_mem_nil List.mem_cons or_false forall_eq List.mem_singleton forall_const Option.toArray flsOf flOf flDist flRd flChk flLe tailF addF flSl dKeeps flFree closF notF if_true if_false plans stepE inD cleanSt dstsOf Oper.looksAt Op.operands Call.operands dnOf insN insAll prods pick stOf goneOf slOf blOf keepB' entD addB edge B.ment Region.binds idsOf tailOk clos List.any_cons List.any_nil List.filterMap_cons List.filterMap_nil ne_eq Bool.or_self List.isEmpty_iff Array.toList_append List.append_toArray Array.append_empty Option.bind_some Option.bind_none List.push_toArray
set_option maxRecDepth 100000
theorem fits_at : ∀ {cols : List Col} {row : List Vl}, fitsL cols row = true → ∀ {j : Nat} {c : Col} {v : Vl}, cols[j]? = some c → row[j]? = some v → v.k = 0 ∨ v.k = c.ty
  | [], _, _, j, c, v, h1, _ => by simp at h1
  | _ :: _, [], _, j, c, v, _, h2 => by simp at h2
  | c' :: cols, v' :: row, h, j, c, v, h1, h2 => by
    rw [fitsL] at h
    split at h
    · rename_i hc
      cases j with
      | zero =>
        simp only [List.getElem?_cons_zero, Option.some.injEq] at h1 h2
        subst h1; subst h2
        exact hc
      | succ j =>
        simp only [List.getElem?_cons_succ] at h1 h2
        exact fits_at h h1 h2
    · cases h
theorem made_k (v : Vl) : (madeV v).k = 0 ∨ (madeV v).k = v.k := by
  unfold madeV
  split
  · exact .inr rfl
  · exact .inl rfl
theorem val_kind (cols : List Col) (row : List Vl) (hr : row.length = cols.length) (hf : fitsL cols row = true) (g : Gx) (hg : g.right cols) (t : Int) (h : kindG cols g = some t) : (valG cols row g).k = 0 ∨ (valG cols row g).k = t := by
  cases g with
  | val v =>
    simp only [kindG, Option.some.injEq] at h
    exact .inr h
  | col nm =>
    obtain ⟨j, c, h1, h2, h3⟩ := findC_at hg
    obtain ⟨x, hx⟩ : ∃ x, row[j]? = some x := ⟨_, List.getElem?_eq_getElem (by have := (List.getElem?_eq_some_iff.1 h1).1; omega)⟩
    have h4 : valAt cols row nm = x := by unfold valAt; rw [h2, Int.toNat_natCast, hx]
    simp only [kindG, Option.some.injEq] at h
    rw [valG, h4, ← h, h3]
    exact fits_at hf h1 hx
  | un k x =>
    rw [kindG] at h
    have ht : t = 3 := by
      repeat' split at h
      all_goals first
        | cases h; done
        | (injection h with h; exact h.symm)
    rw [valG, ht]
    repeat' split
    all_goals first
      | exact .inr rfl
      | exact .inl rfl
  | bin k x y =>
    rw [kindG] at h
    have ht : (takesK k = 0 → t = 3) ∧ (takesK k ≠ 0 → t = takesK k) := by
      repeat' split at h
      all_goals first
        | cases h; done
        | (injection h with h; exact ⟨fun _ => by omega, fun _ => by omega⟩)
    rw [valG]
    generalize valG cols row x = a
    generalize valG cols row y = b
    obtain rfl | rfl | rfl | rfl | rfl | rfl | rfl : k = 5 ∨ k = 6 ∨ k = 7 ∨ k = 8 ∨ k = 9 ∨ k = 10 ∨ k = 11 := by have := hg.1; omega
    · rw [ht.2 (by decide)]
      unfold binG
      rw [if_pos rfl]
      repeat' split
      all_goals first
        | exact .inr rfl
        | exact .inl rfl
    · rw [ht.2 (by decide)]
      unfold binG
      rw [if_neg (by decide), if_pos rfl]
      repeat' split
      all_goals first
        | exact .inr rfl
        | exact .inl rfl
    · rw [ht.2 (by decide)]
      unfold binG
      rw [if_neg (by decide), if_neg (by decide)]
      split
      · exact .inl rfl
      · exact made_k _
    · rw [ht.2 (by decide)]
      unfold binG
      rw [if_neg (by decide), if_neg (by decide)]
      split
      · exact .inl rfl
      · exact made_k _
    · rw [ht.2 (by decide)]
      unfold binG
      rw [if_neg (by decide), if_neg (by decide)]
      split
      · exact .inl rfl
      · exact made_k _
    · rw [ht.1 (by decide)]
      unfold binG
      rw [if_neg (by decide), if_neg (by decide)]
      split
      · exact .inl rfl
      · exact .inr rfl
    · rw [ht.1 (by decide)]
      unfold binG
      rw [if_neg (by decide), if_neg (by decide)]
      split
      · exact .inl rfl
      · exact .inr rfl
theorem zero_of {v : Vl} (h : v.chk = 0) (hk : v.k = 0) : v = Vl.zero := by
  unfold Vl.chk at h
  rw [if_pos (by omega)] at h
  split at h
  · rename_i h2
    unfold Vl.fine at h2
    rw [if_pos hk] at h2
    simp only [Bool.and_eq_true, beq_iff_eq] at h2
    obtain ⟨k, n, s⟩ := v
    simp only at hk h2
    rw [hk, h2.1, emptyS_eq _ h2.2]; rfl
  · cases h
theorem bool_of {v : Vl} (h : v.chk = 0) (hk : v.k = 3) : v.n = 0 ∨ v.n = 1 := by
  unfold Vl.chk at h
  rw [if_pos (by omega)] at h
  split at h
  · rename_i h2
    unfold Vl.fine at h2
    rw [if_neg (by omega), if_neg (by omega), if_neg (by omega)] at h2
    simp only [Bool.and_eq_true, decide_eq_true_eq] at h2
    omega
  · cases h
/-- what an expression's value is, where there is one -/
theorem eval_right {cols : List Col} {row : List Vl} {e : Ex} (h : (evalE cols row e).2 = 0) : (kindE cols e).2 = 0 ∧ rowE cols row = 0 ∧ (evalE cols row e).1 = valG cols row (gOf e) := by
  unfold evalE at h ⊢
  split at h
  · rename_i h1; exact absurd h h1
  rename_i h1
  rw [if_neg h1]
  split at h
  · rename_i h2; exact absurd h h2
  rename_i h2
  rw [if_neg h2]
  exact ⟨by simpa using h1, by simpa using h2, rfl⟩
theorem eval_wrong {cols : List Col} {row : List Vl} {e : Ex} (h : (evalE cols row e).2 ≠ 0) : (evalE cols row e).1 = Vl.zero := by
  unfold evalE at h ⊢
  split at h
  · rename_i h1; rw [if_pos h1]
  rename_i h1
  rw [if_neg h1]
  split at h
  · rename_i h2; rw [if_pos h2]
  · exact absurd rfl h
theorem eval_kind {cols : List Col} {row : List Vl} {e : Ex} (h : (evalE cols row e).2 = 0) : (evalE cols row e).1.chk = 0 ∧ ((evalE cols row e).1.k = 0 ∨ (evalE cols row e).1.k = (kindE cols e).1) := by
  obtain ⟨h1, h2, h3⟩ := eval_right h
  obtain ⟨g, _, g2, rfl, g4⟩ := kind_right h1
  obtain ⟨r1, r2, r3⟩ := row_right h2
  rw [h3]
  exact ⟨valG_chk cols row r2 _ g2, val_kind cols row r1 r3 _ g2 _ g4⟩
abbrev notE (e : Ex) : Ex := .mk 3 Vl.zero .empty [e]
theorem eval_not {cols : List Col} {row : List Vl} {e : Ex} (h : (evalE cols row e).2 = 0) (h' : (evalE cols row (notE e)).2 = 0) :
    (evalE cols row (notE e)).1 = (if (evalE cols row e).1 = Vl.zero then Vl.zero else truth (decide ((evalE cols row e).1.n = 0))) ∧ ((kindE cols e).1 = 0 ∨ (kindE cols e).1 = 3) := by
  obtain ⟨h1, h2, h3⟩ := eval_right h
  obtain ⟨h1', h2', h3'⟩ := eval_right h'
  obtain ⟨g, _, g2, rfl, g4⟩ := kind_right h1
  obtain ⟨g', _, g2', hg', g4'⟩ := kind_right h1'
  have hn : gOf (notE e) = .un 3 (gOf e) := by rw [gOf, gOfL, gOfL]
  rw [hn] at hg' h3'
  subst hg'
  rw [kindG, g4] at g4'
  refine ⟨by rw [h3', h3, valG, if_neg (by decide)], ?_⟩
  simp only at g4'
  by_cases c : (kindE cols e).1 ≠ 0 ∧ (kindE cols e).1 ≠ 3
  · rw [if_pos ⟨trivial, c⟩] at g4'; cases g4'
  · omega
end Go.Proofs.Ytnjjpblgcgikaaa.Ax
