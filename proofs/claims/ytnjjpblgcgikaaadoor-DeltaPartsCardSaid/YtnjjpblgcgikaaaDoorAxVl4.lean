/- Values, by what is known: To, Cast, Order, Key. -/
import Derived.Test.YtnjjpblgcgikaaaDoorAxVl3
namespace Go.Proofs.YtnjjpblgcgikaaaDoor.Ax
open Go.RowKit
set_option linter.unusedSimpArgs false
attribute [local go_sem] extV appD cutOwn appOwn clearOwn bdI mapD putD' keyOk getOr getM putM wholeV litCs asV asC ptrC fnC nilC nilPtr strRows_len runs runsN guardOf exec1 pureV modD rowD ev get St.app St.put St.turn loadC moveC fieldOf indexC lenC lenOk cutC bndOf evAll fieldV convV unV binV binI bitsV moreV intsT eqL eq1 valOf min1 lit1 litInt litI litB litS constV constC cellsV partsOf placesOf buildV fillL toT elemsOf rowsOf baseOf dstOk V.kill V.ment V.ments C.kill C.ment C.ments B.kill setD litRows litRows_append T.isLit callAll calleeV argsV argV viewC viewCs modeOk freeOps V.free C.free V.allF V.allFs C.allF C.allFs B.allF callD leL growSt C.flat V.flat B.flat flatL flatB St.flat List.set_cons_zero List.set_cons_succ C.only C.onlys V.only V.onlys B.only renI C.ren C.rens V.ren V.rens B.ren renB renOk nodK Option.getD_some Option.getD_none Option.isSome_some implies_true false_implies C.fit C.fits V.fit V.fit1 V.fits Bool.and_self ite_self exitV resV resL resC outV outV.outs eqB nn cast0 Int.toNat_natCast List.getElem?_map Value.cells Value.oneCell' Nat.lt_irrefl decide_true decide_false and_true true_and and_self and_false false_and not_true_eq_false not_false_eq_true not_true not_false List.size_toArray all_len Nat.zero_add Nat.add_zero List.length_cons List.length_append List.length_replicate List.length_set List.length_nil List.length_map List.map_cons List.map_nil List.take_succ_cons List.take_zero List.take_nil List.drop_succ_cons List.drop_zero List.drop_nil List.cons_append List.nil_append List.append_nil List.all_cons List.all_nil Bool.and_true Bool.true_and Bool.and_false Bool.false_and Bool.not_true Bool.not_false Bool.or_false Bool.or_true Bool.false_or Bool.true_or List.filter_cons List.filter_nil List.contains_cons List.contains_nil beq_self_eq_true List.getElem?_cons_zero List.getElem?_cons_succ List.getElem?_nil Option.map_some Option.map_none Option.toList_some Option.toList_none List.isEmpty_cons List.isEmpty_nil Bool.false_eq_true Bool.true_eq_false List.getElem?_toArray List.not_mem_nil List.mem_cons or_false forall_eq List.mem_singleton forall_const Option.toArray tailF addF flSl dKeeps flFree closF notF if_true if_false plans inD cleanSt dstsOf Oper.looksAt Op.operands Call.operands dnOf insN insAll prods pick stOf goneOf slOf blOf keepB' entD addB edge B.ment Region.binds tailOk clos List.any_cons List.any_nil List.filterMap_cons List.filterMap_nil ne_eq Bool.or_self List.isEmpty_iff Array.toList_append List.append_toArray Array.append_empty Option.bind_some Option.bind_none List.push_toArray argSv ioD modeIO staysOk callIO calleeIO argsIO valIO cellsIO cellIO butB zLe cLe csLe vLe vsLe bLe insLe renIOk nbOk foE foE.foR foE.foB anyText anyGc aliveF mK kdN klAt klAt.atL looksB remN dstNe nbIds provBl provBs provOf provOf.provH rdsOf idsR provR blsOf dnA edgesOf foSl inL dnE dnF dnH C.ids C.idss V.ids V.idss FHave FHave.rdHave FHave.blHave provF provF.provP findF hsOk NDst klOf dropS true_or or_true or_self ty3 ty4 ty9 ty5 ty39 ty22 ty79 ty82 ty24
set_option linter.unusedVariables false
set_option maxRecDepth 100000
theorem to_some {v u : Vl} {es : List (Int × Value)} {t : Int} (hc : Sp Tryd.prog 58 [aV1 v] (.one (.omap 10)) [(10, mapB es)]) (hg : getM es t = some u.val) : Sp Tryd.prog 39 [aV1 v, .one (.lit (.int .i64 t))] (vVt u) [] := by
  have hc := hc.ren [(10, 6)] rfl rfl rfl rfl
  (refine sp_of Tryd.func39 (by kernel_rfl) rfl (by simp [Tryd.ntmps39]) fun X hX => ?_; rw [Tryd.ntmps39] at hX; simp only [argSl, List.map_cons, List.map_nil, Nat.reduceAdd])
  (repeat (first | refine cw_seq' ?_ | refine cw_block ?_ | refine cw_true rfl ?_ | refine cw_false rfl ?_ | refine cw_exit ?_ | refine cw_skip ?_ | refine then_mk ?_ | refine then_exit ?_ | refine then_ret ?_ | refine blk_mk ?_ | refine blk_ret ?_ | refine blk_same ?_ | refine blk_ne (by decide) ?_))
  (refine cw_region_k fun K hK => ?_; simp (maxSteps := 1000000) only [go_sem, Nat.reduceAdd, Nat.reduceSub, Nat.reduceMul, Nat.reduceLT, Nat.reduceLeDiff, Nat.reduceEqDiff, Nat.reduceBEq, Int.reduceToNat, Int.reduceLE, Int.reduceLT, Int.reduceEq, ↓reduceIte, reduceCtorEq, hX])
  (refine rwr_nil (hK _ ?_); clear hK K)
  (repeat (first | refine cw_seq' ?_ | refine cw_block ?_ | refine cw_true rfl ?_ | refine cw_false rfl ?_ | refine cw_exit ?_ | refine cw_skip ?_ | refine then_mk ?_ | refine then_exit ?_ | refine then_ret ?_ | refine blk_mk ?_ | refine blk_ret ?_ | refine blk_same ?_ | refine blk_ne (by decide) ?_))
  (refine cw_region_k fun K hK => ?_; simp (maxSteps := 1000000) only [go_sem, Nat.reduceAdd, Nat.reduceSub, Nat.reduceMul, Nat.reduceLT, Nat.reduceLeDiff, Nat.reduceEqDiff, Nat.reduceBEq, Int.reduceToNat, Int.reduceLE, Int.reduceLT, Int.reduceEq, ↓reduceIte, reduceCtorEq, hX])
  (refine rwr_call 9 (hc) rfl rfl ?_ (by exact mode_r rfl) rfl (by rw [hX]; rfl) ?_ <;> simp (maxSteps := 1000000) only [go_sem, Nat.reduceAdd, Nat.reduceSub, Nat.reduceMul, Nat.reduceLT, Nat.reduceLeDiff, Nat.reduceEqDiff, Nat.reduceBEq, Int.reduceToNat, Int.reduceLE, Int.reduceLT, Int.reduceEq, ↓reduceIte, reduceCtorEq, hX])
  (refine rwr_run ?_; simp (maxSteps := 1000000) only [go_sem, Nat.reduceAdd, Nat.reduceSub, Nat.reduceMul, Nat.reduceLT, Nat.reduceLeDiff, Nat.reduceEqDiff, Nat.reduceBEq, Int.reduceToNat, Int.reduceLE, Int.reduceLT, Int.reduceEq, ↓reduceIte, reduceCtorEq, hg, hX])
  (refine rwr_nil (hK _ ?_); clear hK K)
  (repeat (first | refine cw_seq' ?_ | refine cw_block ?_ | refine cw_true rfl ?_ | refine cw_false rfl ?_ | refine cw_exit ?_ | refine cw_ret ?_ | refine cw_skip ?_ | (refine cw_region_k fun K hK => ?_; simp (maxSteps := 1000000) only [go_sem, Nat.reduceAdd, Nat.reduceSub, Nat.reduceMul, Nat.reduceLT, Nat.reduceLeDiff, Nat.reduceEqDiff, Nat.reduceBEq, Int.reduceToNat, Int.reduceLE, Int.reduceLT, Int.reduceEq, ↓reduceIte, reduceCtorEq, hX]; refine rwr_nil (hK _ ?_); clear hK K) | refine then_mk ?_ | refine then_exit ?_ | refine then_ret ?_ | refine blk_mk ?_ | refine blk_ret ?_ | refine blk_same ?_ | refine blk_ne (by decide) ?_))
  (first | refine exit_retf ?_ | refine exit_normalf ?_); rw [Tryd.results39]; simp only [go_sem, Nat.reduceAdd, Nat.reduceSub, Nat.reduceMul, Nat.reduceLT, Nat.reduceLeDiff, Nat.reduceEqDiff, Nat.reduceBEq, Int.reduceToNat, Int.reduceLE, Int.reduceLT, Int.reduceEq, ↓reduceIte, reduceCtorEq, hX]
theorem to_none {v : Vl} {es : List (Int × Value)} {t : Int} (hc : Sp Tryd.prog 58 [aV1 v] (.one (.omap 10)) [(10, mapB es)]) (hg : getM es t = none) : Sp Tryd.prog 39 [aV1 v, .one (.lit (.int .i64 t))] (vVt ⟨0, 0, .empty⟩) [] := by
  have hc := hc.ren [(10, 6)] rfl rfl rfl rfl
  (refine sp_of Tryd.func39 (by kernel_rfl) rfl (by simp [Tryd.ntmps39]) fun X hX => ?_; rw [Tryd.ntmps39] at hX; simp only [argSl, List.map_cons, List.map_nil, Nat.reduceAdd])
  (repeat (first | refine cw_seq' ?_ | refine cw_block ?_ | refine cw_true rfl ?_ | refine cw_false rfl ?_ | refine cw_exit ?_ | refine cw_skip ?_ | refine then_mk ?_ | refine then_exit ?_ | refine then_ret ?_ | refine blk_mk ?_ | refine blk_ret ?_ | refine blk_same ?_ | refine blk_ne (by decide) ?_))
  (refine cw_region_k fun K hK => ?_; simp (maxSteps := 1000000) only [go_sem, Nat.reduceAdd, Nat.reduceSub, Nat.reduceMul, Nat.reduceLT, Nat.reduceLeDiff, Nat.reduceEqDiff, Nat.reduceBEq, Int.reduceToNat, Int.reduceLE, Int.reduceLT, Int.reduceEq, ↓reduceIte, reduceCtorEq, hX])
  (refine rwr_nil (hK _ ?_); clear hK K)
  (repeat (first | refine cw_seq' ?_ | refine cw_block ?_ | refine cw_true rfl ?_ | refine cw_false rfl ?_ | refine cw_exit ?_ | refine cw_skip ?_ | refine then_mk ?_ | refine then_exit ?_ | refine then_ret ?_ | refine blk_mk ?_ | refine blk_ret ?_ | refine blk_same ?_ | refine blk_ne (by decide) ?_))
  (refine cw_region_k fun K hK => ?_; simp (maxSteps := 1000000) only [go_sem, Nat.reduceAdd, Nat.reduceSub, Nat.reduceMul, Nat.reduceLT, Nat.reduceLeDiff, Nat.reduceEqDiff, Nat.reduceBEq, Int.reduceToNat, Int.reduceLE, Int.reduceLT, Int.reduceEq, ↓reduceIte, reduceCtorEq, hX])
  (refine rwr_call 9 (hc) rfl rfl ?_ (by exact mode_r rfl) rfl (by rw [hX]; rfl) ?_ <;> simp (maxSteps := 1000000) only [go_sem, Nat.reduceAdd, Nat.reduceSub, Nat.reduceMul, Nat.reduceLT, Nat.reduceLeDiff, Nat.reduceEqDiff, Nat.reduceBEq, Int.reduceToNat, Int.reduceLE, Int.reduceLT, Int.reduceEq, ↓reduceIte, reduceCtorEq, hX])
  (refine rwr_run ?_; simp (maxSteps := 1000000) only [go_sem, Nat.reduceAdd, Nat.reduceSub, Nat.reduceMul, Nat.reduceLT, Nat.reduceLeDiff, Nat.reduceEqDiff, Nat.reduceBEq, Int.reduceToNat, Int.reduceLE, Int.reduceLT, Int.reduceEq, ↓reduceIte, reduceCtorEq, hg, hX])
  (refine rwr_nil (hK _ ?_); clear hK K)
  (repeat (first | refine cw_seq' ?_ | refine cw_block ?_ | refine cw_true rfl ?_ | refine cw_false rfl ?_ | refine cw_exit ?_ | refine cw_ret ?_ | refine cw_skip ?_ | (refine cw_region_k fun K hK => ?_; simp (maxSteps := 1000000) only [go_sem, Nat.reduceAdd, Nat.reduceSub, Nat.reduceMul, Nat.reduceLT, Nat.reduceLeDiff, Nat.reduceEqDiff, Nat.reduceBEq, Int.reduceToNat, Int.reduceLE, Int.reduceLT, Int.reduceEq, ↓reduceIte, reduceCtorEq, hX]; refine rwr_nil (hK _ ?_); clear hK K) | refine then_mk ?_ | refine then_exit ?_ | refine then_ret ?_ | refine blk_mk ?_ | refine blk_ret ?_ | refine blk_same ?_ | refine blk_ne (by decide) ?_))
  (first | refine exit_retf ?_ | refine exit_normalf ?_); rw [Tryd.results39]; simp only [go_sem, Nat.reduceAdd, Nat.reduceSub, Nat.reduceMul, Nat.reduceLT, Nat.reduceLeDiff, Nat.reduceEqDiff, Nat.reduceBEq, Int.reduceToNat, Int.reduceLE, Int.reduceLT, Int.reduceEq, ↓reduceIte, reduceCtorEq, hX]
theorem to_sp (v : Vl) (hv : v.chk = 0) (t : Int) (h1 : 1 ≤ t) (h3 : t ≤ 3) : Sp Tryd.prog 39 [aV1 v, .one (.lit (.int .i64 t))] (vVt (castV v t)) [] := by
  have ht : t = 1 ∨ t = 2 ∨ t = 3 := by omega
  rcases Vl.right hv with rfl | ⟨n, rfl, h0, h1⟩ | ⟨s, rfl, hs, _⟩ | ⟨n, rfl, h0, h1⟩
  · have hz : castV ⟨0, 0, .empty⟩ t = ⟨0, 0, .empty⟩ := by unfold castV; rw [if_pos (.inl rfl)]
    rw [hz]
    refine to_none casts0_sp ?_
    rcases ht with rfl | rfl | rfl <;> rfl
  · have hc := casts1_sp n (by omega) (by omega)
    rcases ht with rfl | rfl | rfl
    · exact to_some hc rfl
    · exact to_some hc rfl
    · exact to_some hc rfl
  · have hc := casts2_sp s (by omega)
    have hT : ∀ b c es, getM (put3 b c es) 3 = if b = true then some (truth c).val else getM es 3 := by
      intro b c es
      unfold put3
      split
      · induction es with
        | nil => rfl
        | cons p es ih =>
          simp only [putM]
          split
          · rfl
          · rename_i hp; simp only [getM]; rw [if_neg hp]; exact ih
      · rfl
    have hN : ∀ b c es k, k ≠ 3 → getM (put3 b c es) k = getM es k := by
      intro b c es k hk
      unfold put3
      split
      · induction es with
        | nil => simp only [putM, getM]; rw [if_neg (fun h => hk h.symm)]
        | cons p es ih =>
          simp only [putM]
          split
          · rename_i hp; simp only [getM]; rw [if_neg (fun h => hk h.symm), if_neg (fun h => hk (h.symm.trans hp))]
          · simp only [getM, ih]
      · rfl
    rcases ht with rfl | rfl | rfl
    · cases hi : intS s with
      | none =>
        have hz : castV ⟨2, 0, s⟩ 1 = ⟨0, 0, .empty⟩ := by unfold castV; simp [hi, Vl.zero]
        rw [hz]
        refine to_none hc ?_
        rw [hN _ _ _ _ (by decide), hN _ _ _ _ (by decide), hi]
        rfl
      | some n =>
        have hz : castV ⟨2, 0, s⟩ 1 = ⟨1, n, .empty⟩ := by unfold castV; simp [hi]
        rw [hz]
        refine to_some hc ?_
        rw [hN _ _ _ _ (by decide), hN _ _ _ _ (by decide), hi]
        rfl
    · refine to_some hc ?_
      rw [hN _ _ _ _ (by decide), hN _ _ _ _ (by decide)]
      cases intS s <;> rfl
    · have hcv : castV ⟨2, 0, s⟩ 3 = if s = trueS then truth true else if s = falseS then truth false else Vl.zero := rfl
      by_cases ht : s = trueS
      · rw [hcv, if_pos ht]
        refine to_some hc ?_
        rw [hT, if_pos (sameS_eq'.2 (by rw [ht]; rfl))]
      · have hbt : ¬ ((boolS true).toList == s.toList) = true := fun h => ht (sameS_eq'.1 h).symm
        by_cases hf : s = falseS
        · rw [hcv, if_neg ht, if_pos hf]
          refine to_some hc ?_
          rw [hT, if_neg hbt, hT, if_pos (sameS_eq'.2 (by rw [hf]; rfl))]
        · have hbf : ¬ ((boolS false).toList == s.toList) = true := fun h => hf (sameS_eq'.1 h).symm
          rw [hcv, if_neg ht, if_neg hf]
          refine to_none hc ?_
          rw [hT, if_neg hbt, hT, if_neg hbf]
          cases intS s <;> rfl
  · have hc := casts3_sp n
    have hn : n = 0 ∨ n = 1 := by omega
    rcases ht with rfl | rfl | rfl
    · exact to_some hc rfl
    · rcases hn with rfl | rfl <;> exact to_some hc rfl
    · exact to_some hc rfl
end Go.Proofs.YtnjjpblgcgikaaaDoor.Ax
