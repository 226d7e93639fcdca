/- Journals, by what is known: JournalOpens. -/
import Derived.Test.YtoghgjobfcnneaaAxJn11
import Derived.Test.YtoghgjobfcnneaaAxDk8
namespace Go.Proofs.Ytoghgjobfcnneaa.Ax
open Go.RowKit
set_option linter.unusedSimpArgs false
attribute [local go_sem] extV appD ptrC fnC nilC nilPtr strRows_len runs runsN guardOf exec1 pureV modD rowD ev get St.app St.put St.turn loadC moveC fieldOf indexC lenC lenOk cutC bndOf evAll fieldV convV unV binV binI bitsV moreV intsT eqL eq1 valOf min1 lit1 litInt litI litB litS constV constC cellsV partsOf placesOf buildV fillL toT elemsOf rowsOf baseOf dstOk V.kill V.ment V.ments C.kill C.ment C.ments B.kill setD litRows litRows_append T.isLit callAll calleeV argsV argV viewC viewCs modeOk freeOps V.free C.free V.allF V.allFs C.allF C.allFs B.allF callD leL growSt growB C.flat V.flat B.flat flatL flatB St.flat List.set_cons_zero List.set_cons_succ C.only C.onlys V.only V.onlys B.only renI C.ren C.rens V.ren V.rens B.ren renB renOk nodK Option.getD_some Option.getD_none Option.isSome_some implies_true false_implies C.fit C.fits V.fit V.fit1 V.fits Bool.and_self ite_self exitV resV resL resC outV outV.outs eqB nn cast0 Int.toNat_natCast List.getElem?_map Value.cells Value.oneCell' Nat.lt_irrefl decide_true decide_false and_true true_and and_self and_false false_and not_true_eq_false not_false_eq_true not_true not_false List.size_toArray all_len Nat.zero_add Nat.add_zero List.length_cons List.length_append List.length_replicate List.length_set List.length_nil List.length_map List.map_cons List.map_nil List.take_succ_cons List.take_zero List.take_nil List.drop_succ_cons List.drop_zero List.drop_nil List.cons_append List.nil_append List.append_nil List.all_cons List.all_nil Bool.and_true Bool.true_and Bool.and_false Bool.false_and Bool.not_true Bool.not_false Bool.or_false Bool.or_true Bool.false_or Bool.true_or List.filter_cons List.filter_nil List.contains_cons List.contains_nil beq_self_eq_true List.getElem?_cons_zero List.getElem?_cons_succ List.getElem?_nil Option.map_some Option.map_none Option.toList_some Option.toList_none List.isEmpty_cons List.isEmpty_nil Bool.false_eq_true Bool.true_eq_false List.getElem?_toArray List.not_mem_nil List.mem_cons or_false forall_eq List.mem_singleton forall_const Option.toArray flsOf flOf flDist flRd flChk flLe tailF addF flSl dKeeps flFree closF notF if_true if_false plans stepE inD cleanSt dstsOf Oper.looksAt Op.operands Call.operands dnOf insN insAll prods pick stOf goneOf slOf blOf keepB' entD addB edge B.ment Region.binds tailOk clos List.any_cons List.any_nil List.filterMap_cons List.filterMap_nil ne_eq Bool.or_self List.isEmpty_iff Array.toList_append List.append_toArray Array.append_empty Option.bind_some Option.bind_none List.push_toArray argSv ioD modeIO staysOk callIO calleeIO argsIO valIO cellsIO cellIO butB zLe cLe csLe vLe vsLe bLe insLe renIOk nbOk foE foE.foR foE.foB anyText anyGc aliveF mK kdN klAt klAt.atL looksB remN dstNe nbIds provBl provBs provOf provOf.provH rdsOf idsR provR blsOf dnA edgesOf foSl inL dnE dnF dnH C.ids C.idss V.ids V.idss FHave FHave.rdHave FHave.blHave provF provF.provP findF hsOk NDst klOf dropS true_or or_true or_self
set_option linter.unusedVariables false
set_option maxRecDepth 100000
abbrev rI (l : List Int) : List (List T) := l.map fun n => [.lit (.int .i64 n)]
theorem jo1 : ((3 : Int) == 3) = true := by decide
theorem jo2 : ((0 : Int) == 0) = true := by decide
theorem jo3 : ((0 : Int) != 0) = false := by decide
theorem jo4 : ((8 : Int) != 0) = true := by decide
theorem jo5 : ((8 : Int) == 8) = true := by decide
theorem jo6 : IntKind.i64.wrap ((0 : Int) + 0) = 0 := by decide
theorem jo7 : decide ((0 : Int) < 0) = false := by decide
theorem opens_bad (sectors : Int) (texts : List ByteArray) (at_ : List Int) (keep : List Bool) (h : sectors < 4 ∨ 400 < sectors) : Sp Try.prog 6 [.one (.lit (.int .i64 sectors)), .one (.sl (rS texts)), .one (.sl (rI at_)), .one (.sl (rB keep))] (.one (.t true (.lit (.bool true)))) [] := by
  have hF := format_sp sectors
  have hf : formatJ sectors = (Dk.none, 3) := by
    unfold formatJ
    rcases h with h | h
    · rw [if_pos h]
    · by_cases h1 : sectors < 4
      · rw [if_pos h1]
      · rw [if_neg h1, if_pos h]
  rw [hf] at hF
  have hF : Sp Try.prog 22 [.one (.lit (.int .i64 sectors))] (.tup [.agg [.t true (.sl []), .t true (.sl [])], .one (.t true (.lit (.int .i64 3)))]) [] := hF
  (refine sp_of Try.func6 (by kernel_rfl) rfl (by simp [Try.ntmps6]) fun X hX => ?_; rw [Try.ntmps6] at hX; simp only [argSl, List.map_cons, List.map_nil, Nat.reduceAdd])
  (repeat (first | refine cw_seq' ?_ | refine cw_block ?_ | refine cw_true rfl ?_ | refine cw_false rfl ?_ | refine cw_exit ?_ | refine cw_skip ?_ | refine then_mk ?_ | refine then_exit ?_ | refine then_ret ?_ | refine blk_mk ?_ | refine blk_ret ?_ | refine blk_same ?_ | refine blk_ne (by decide) ?_))
  (refine cw_region_k fun K hK => ?_; simp (maxSteps := 1000000) only [go_sem, Nat.reduceAdd, Nat.reduceSub, Nat.reduceMul, Nat.reduceLT, Nat.reduceLeDiff, Nat.reduceEqDiff, Nat.reduceBEq, Int.reduceToNat, Int.reduceLE, Int.reduceLT, Int.reduceEq, ↓reduceIte, reduceCtorEq, vDk, aDk, ty3, ty4, ty5, ty9, ty22, ty48, ty23, ty25, ty26, ty27, ty61, ty58, ty42, hX])
  (refine rwr_nil (hK _ ?_); clear hK K)
  (repeat (first | refine cw_seq' ?_ | refine cw_block ?_ | refine cw_true rfl ?_ | refine cw_false rfl ?_ | refine cw_exit ?_ | refine cw_skip ?_ | refine then_mk ?_ | refine then_exit ?_ | refine then_ret ?_ | refine blk_mk ?_ | refine blk_ret ?_ | refine blk_same ?_ | refine blk_ne (by decide) ?_))
  (refine cw_region_k fun K hK => ?_; simp (maxSteps := 1000000) only [go_sem, Nat.reduceAdd, Nat.reduceSub, Nat.reduceMul, Nat.reduceLT, Nat.reduceLeDiff, Nat.reduceEqDiff, Nat.reduceBEq, Int.reduceToNat, Int.reduceLE, Int.reduceLT, Int.reduceEq, ↓reduceIte, reduceCtorEq, vDk, aDk, ty3, ty4, ty5, ty9, ty22, ty48, ty23, ty25, ty26, ty27, ty61, ty58, ty42, hX])
  (refine rwr_call 9 (begun_sp) rfl rfl (by simp (maxSteps := 1000000) only [go_sem, Nat.reduceAdd, Nat.reduceSub, Nat.reduceMul, Nat.reduceLT, Nat.reduceLeDiff, Nat.reduceEqDiff, Nat.reduceBEq, Int.reduceToNat, Int.reduceLE, Int.reduceLT, Int.reduceEq, ↓reduceIte, reduceCtorEq, vDk, aDk, ty3, ty4, ty5, ty9, ty22, ty48, ty23, ty25, ty26, ty27, ty61, ty58, ty42, hX]) (by exact mode_r rfl) rfl (by rw [hX]; rfl) ?_; simp (maxSteps := 1000000) only [go_sem, Nat.reduceAdd, Nat.reduceSub, Nat.reduceMul, Nat.reduceLT, Nat.reduceLeDiff, Nat.reduceEqDiff, Nat.reduceBEq, Int.reduceToNat, Int.reduceLE, Int.reduceLT, Int.reduceEq, ↓reduceIte, reduceCtorEq, vDk, aDk, ty3, ty4, ty5, ty9, ty22, ty48, ty23, ty25, ty26, ty27, ty61, ty58, ty42, hX])
  (refine rwr_call 9 (dbegun_sp) rfl rfl (by simp (maxSteps := 1000000) only [go_sem, Nat.reduceAdd, Nat.reduceSub, Nat.reduceMul, Nat.reduceLT, Nat.reduceLeDiff, Nat.reduceEqDiff, Nat.reduceBEq, Int.reduceToNat, Int.reduceLE, Int.reduceLT, Int.reduceEq, ↓reduceIte, reduceCtorEq, vDk, aDk, ty3, ty4, ty5, ty9, ty22, ty48, ty23, ty25, ty26, ty27, ty61, ty58, ty42, hX]) (by exact mode_r rfl) rfl (by rw [hX]; rfl) ?_; simp (maxSteps := 1000000) only [go_sem, Nat.reduceAdd, Nat.reduceSub, Nat.reduceMul, Nat.reduceLT, Nat.reduceLeDiff, Nat.reduceEqDiff, Nat.reduceBEq, Int.reduceToNat, Int.reduceLE, Int.reduceLT, Int.reduceEq, ↓reduceIte, reduceCtorEq, vDk, aDk, ty3, ty4, ty5, ty9, ty22, ty48, ty23, ty25, ty26, ty27, ty61, ty58, ty42, hX])
  (refine rwr_nil (hK _ ?_); clear hK K)
  (repeat (first | refine cw_seq' ?_ | refine cw_block ?_ | refine cw_true rfl ?_ | refine cw_false rfl ?_ | refine cw_exit ?_ | refine cw_skip ?_ | refine then_mk ?_ | refine then_exit ?_ | refine then_ret ?_ | refine blk_mk ?_ | refine blk_ret ?_ | refine blk_same ?_ | refine blk_ne (by decide) ?_))
  (refine cw_region_k fun K hK => ?_; simp (maxSteps := 1000000) only [go_sem, Nat.reduceAdd, Nat.reduceSub, Nat.reduceMul, Nat.reduceLT, Nat.reduceLeDiff, Nat.reduceEqDiff, Nat.reduceBEq, Int.reduceToNat, Int.reduceLE, Int.reduceLT, Int.reduceEq, ↓reduceIte, reduceCtorEq, vDk, aDk, ty3, ty4, ty5, ty9, ty22, ty48, ty23, ty25, ty26, ty27, ty61, ty58, ty42, hX])
  (refine rwr_call 9 (hF) rfl rfl (by simp (maxSteps := 1000000) only [go_sem, Nat.reduceAdd, Nat.reduceSub, Nat.reduceMul, Nat.reduceLT, Nat.reduceLeDiff, Nat.reduceEqDiff, Nat.reduceBEq, Int.reduceToNat, Int.reduceLE, Int.reduceLT, Int.reduceEq, ↓reduceIte, reduceCtorEq, vDk, aDk, ty3, ty4, ty5, ty9, ty22, ty48, ty23, ty25, ty26, ty27, ty61, ty58, ty42, hX]) (by exact mode_r rfl) rfl (by rw [hX]; rfl) ?_; simp (maxSteps := 1000000) only [go_sem, Nat.reduceAdd, Nat.reduceSub, Nat.reduceMul, Nat.reduceLT, Nat.reduceLeDiff, Nat.reduceEqDiff, Nat.reduceBEq, Int.reduceToNat, Int.reduceLE, Int.reduceLT, Int.reduceEq, ↓reduceIte, reduceCtorEq, vDk, aDk, ty3, ty4, ty5, ty9, ty22, ty48, ty23, ty25, ty26, ty27, ty61, ty58, ty42, hX])
  (refine rwr_nil (hK _ ?_); clear hK K)
  (repeat (first | refine cw_seq' ?_ | refine cw_block ?_ | refine cw_true rfl ?_ | refine cw_false rfl ?_ | refine cw_exit ?_ | refine cw_skip ?_ | refine then_mk ?_ | refine then_exit ?_ | refine then_ret ?_ | refine blk_mk ?_ | refine blk_ret ?_ | refine blk_same ?_ | refine blk_ne (by decide) ?_))
  by_cases h1 : sectors < 4
  · have e1 : decide (sectors < 4) = true := by simpa using h1
    (repeat (first | refine cw_seq' ?_ | refine cw_block ?_ | refine cw_true rfl ?_ | refine cw_false rfl ?_ | refine cw_exit ?_ | refine cw_ret ?_ | refine cw_skip ?_ | (refine cw_region_k fun K hK => ?_; simp (maxSteps := 1000000) only [go_sem, Nat.reduceAdd, Nat.reduceSub, Nat.reduceMul, Nat.reduceLT, Nat.reduceLeDiff, Nat.reduceEqDiff, Nat.reduceBEq, Int.reduceToNat, Int.reduceLE, Int.reduceLT, Int.reduceEq, ↓reduceIte, reduceCtorEq, vDk, aDk, ty3, ty4, ty5, ty9, ty22, ty48, ty23, ty25, ty26, ty27, ty61, ty58, ty42, e1, jo1, jo2, hX]; refine rwr_nil (hK _ ?_); clear hK K) | refine then_mk ?_ | refine then_exit ?_ | refine then_ret ?_ | refine blk_mk ?_ | refine blk_ret ?_ | refine blk_same ?_ | refine blk_ne (by decide) ?_))
    (first | refine exit_retf ?_ | refine exit_normalf ?_); rw [Try.results6]; simp only [go_sem, Nat.reduceAdd, Nat.reduceSub, Nat.reduceMul, Nat.reduceLT, Nat.reduceLeDiff, Nat.reduceEqDiff, Nat.reduceBEq, Int.reduceToNat, Int.reduceLE, Int.reduceLT, Int.reduceEq, ↓reduceIte, reduceCtorEq, vDk, aDk, ty3, ty4, ty5, ty9, ty22, ty48, ty23, ty25, ty26, ty27, ty61, ty58, ty42, hX]
  · have e1 : decide (sectors < 4) = false := by simpa using h1
    have e2 : decide (400 < sectors) = true := by simp; omega
    (repeat (first | refine cw_seq' ?_ | refine cw_block ?_ | refine cw_true rfl ?_ | refine cw_false rfl ?_ | refine cw_exit ?_ | refine cw_ret ?_ | refine cw_skip ?_ | (refine cw_region_k fun K hK => ?_; simp (maxSteps := 1000000) only [go_sem, Nat.reduceAdd, Nat.reduceSub, Nat.reduceMul, Nat.reduceLT, Nat.reduceLeDiff, Nat.reduceEqDiff, Nat.reduceBEq, Int.reduceToNat, Int.reduceLE, Int.reduceLT, Int.reduceEq, ↓reduceIte, reduceCtorEq, vDk, aDk, ty3, ty4, ty5, ty9, ty22, ty48, ty23, ty25, ty26, ty27, ty61, ty58, ty42, e1, e2, jo1, jo2, hX]; refine rwr_nil (hK _ ?_); clear hK K) | refine then_mk ?_ | refine then_exit ?_ | refine then_ret ?_ | refine blk_mk ?_ | refine blk_ret ?_ | refine blk_same ?_ | refine blk_ne (by decide) ?_))
    (first | refine exit_retf ?_ | refine exit_normalf ?_); rw [Try.results6]; simp only [go_sem, Nat.reduceAdd, Nat.reduceSub, Nat.reduceMul, Nat.reduceLT, Nat.reduceLeDiff, Nat.reduceEqDiff, Nat.reduceBEq, Int.reduceToNat, Int.reduceLE, Int.reduceLT, Int.reduceEq, ↓reduceIte, reduceCtorEq, vDk, aDk, ty3, ty4, ty5, ty9, ty22, ty48, ty23, ty25, ty26, ty27, ty61, ty58, ty42, hX]
abbrev stO (n i need : Nat) (texts there kept : List ByteArray) (at_ : List Int) (keep : List Bool) : St :=
  ⟨[(13, litI .i64 i), (0, litI .i64 n), (1, .one (.t false (.sl (rS texts)))), (2, .one (.t false (.sl (rI at_)))), (3, .one (.t false (.sl (rB keep)))), (9, .one (.optr 9 0)), (11, .one (.t false (.sl (rS there)))), (12, litI .i64 need)],
   [(9, .var 25 [.t false (.sl (rS kept)), .t false (.sl [])])]⟩
/-- where a crash is -/
def placeJ (at_ : List Int) (i n : Nat) : Nat := match at_[i]? with
  | some v => if 0 ≤ v ∧ v < n then v.toNat else n - 1
  | none => n - 1
theorem placeJ_lt (at_ : List Int) (i n : Nat) (h : 0 < n) : placeJ at_ i n < n := by
  unfold placeJ
  split
  · split <;> omega
  · omega
set_option maxHeartbeats 20000000 in
theorem opens_good (n : Nat) (texts : List ByteArray) (at_ : List Int) (keep : List Bool) (h4 : 4 ≤ n) (h400 : n ≤ 400) (hA : at_.length ≤ maxLen) (hT : texts.length ≤ maxLen) : Sp Try.prog 6 [.one (.lit (.int .i64 n)), .one (.sl (rS texts)), .one (.sl (rI at_)), .one (.sl (rB keep))] (.one (.t true (.lit (.bool true)))) [] := by
  unfold maxLen at hA hT
  obtain ⟨f1, f2, f3⟩ := JInv.fresh h4 h400
  have hF := format_sp n
  rw [f1] at hF
  generalize (formatJ n).1 = D at f2 f3 hF
  obtain ⟨k0, w0⟩ := D
  simp only at f2 f3
  subst f2
  have hF : Sp Try.prog 22 [.one (.lit (.int .i64 n))] (.tup [.agg [.t true (.sl (rS k0)), .t true (.sl [])], .one (.t true (.lit (.int .i64 0)))]) [] := hF
  have hl0 := f3.len
  have hCk := rcheck_sp ⟨k0, []⟩ (by unfold maxLen; simp only; omega) (Nat.zero_le _)
  rw [f3.check] at hCk
  have hCk : Sp Try.prog 12 [.agg [.sl (rS k0), .sl []]] (.one (.t true (.lit (.int .i64 0)))) [] := hCk
  have e1 : decide ((n : Int) < 4) = false := by simp; omega
  have e2 : decide ((400 : Int) < (n : Int)) = false := by simp; omega
  have e3 : ((k0.length : Int) != (n : Int)) = false := by rw [hl0]; simp
  (refine sp_of Try.func6 (by kernel_rfl) rfl (by simp [Try.ntmps6]) fun X hX => ?_; rw [Try.ntmps6] at hX; simp only [argSl, List.map_cons, List.map_nil, Nat.reduceAdd])
  (repeat (first | refine cw_seq' ?_ | refine cw_block ?_ | refine cw_true rfl ?_ | refine cw_false rfl ?_ | refine cw_exit ?_ | refine cw_skip ?_ | refine then_mk ?_ | refine then_exit ?_ | refine then_ret ?_ | refine blk_mk ?_ | refine blk_ret ?_ | refine blk_same ?_ | refine blk_ne (by decide) ?_))
  (refine cw_region_k fun K hK => ?_; simp (maxSteps := 1000000) only [go_sem, Nat.reduceAdd, Nat.reduceSub, Nat.reduceMul, Nat.reduceLT, Nat.reduceLeDiff, Nat.reduceEqDiff, Nat.reduceBEq, Int.reduceToNat, Int.reduceLE, Int.reduceLT, Int.reduceEq, ↓reduceIte, reduceCtorEq, vDk, aDk, ty3, ty4, ty5, ty9, ty22, ty48, ty23, ty25, ty26, ty27, ty61, ty58, ty42, hX])
  (refine rwr_nil (hK _ ?_); clear hK K)
  (repeat (first | refine cw_seq' ?_ | refine cw_block ?_ | refine cw_true rfl ?_ | refine cw_false rfl ?_ | refine cw_exit ?_ | refine cw_skip ?_ | refine then_mk ?_ | refine then_exit ?_ | refine then_ret ?_ | refine blk_mk ?_ | refine blk_ret ?_ | refine blk_same ?_ | refine blk_ne (by decide) ?_))
  (refine cw_region_k fun K hK => ?_; simp (maxSteps := 1000000) only [go_sem, Nat.reduceAdd, Nat.reduceSub, Nat.reduceMul, Nat.reduceLT, Nat.reduceLeDiff, Nat.reduceEqDiff, Nat.reduceBEq, Int.reduceToNat, Int.reduceLE, Int.reduceLT, Int.reduceEq, ↓reduceIte, reduceCtorEq, vDk, aDk, ty3, ty4, ty5, ty9, ty22, ty48, ty23, ty25, ty26, ty27, ty61, ty58, ty42, hX])
  (refine rwr_call 9 (begun_sp) rfl rfl (by simp (maxSteps := 1000000) only [go_sem, Nat.reduceAdd, Nat.reduceSub, Nat.reduceMul, Nat.reduceLT, Nat.reduceLeDiff, Nat.reduceEqDiff, Nat.reduceBEq, Int.reduceToNat, Int.reduceLE, Int.reduceLT, Int.reduceEq, ↓reduceIte, reduceCtorEq, vDk, aDk, ty3, ty4, ty5, ty9, ty22, ty48, ty23, ty25, ty26, ty27, ty61, ty58, ty42, hX]) (by exact mode_r rfl) rfl (by rw [hX]; rfl) ?_; simp (maxSteps := 1000000) only [go_sem, Nat.reduceAdd, Nat.reduceSub, Nat.reduceMul, Nat.reduceLT, Nat.reduceLeDiff, Nat.reduceEqDiff, Nat.reduceBEq, Int.reduceToNat, Int.reduceLE, Int.reduceLT, Int.reduceEq, ↓reduceIte, reduceCtorEq, vDk, aDk, ty3, ty4, ty5, ty9, ty22, ty48, ty23, ty25, ty26, ty27, ty61, ty58, ty42, hX])
  (refine rwr_call 9 (dbegun_sp) rfl rfl (by simp (maxSteps := 1000000) only [go_sem, Nat.reduceAdd, Nat.reduceSub, Nat.reduceMul, Nat.reduceLT, Nat.reduceLeDiff, Nat.reduceEqDiff, Nat.reduceBEq, Int.reduceToNat, Int.reduceLE, Int.reduceLT, Int.reduceEq, ↓reduceIte, reduceCtorEq, vDk, aDk, ty3, ty4, ty5, ty9, ty22, ty48, ty23, ty25, ty26, ty27, ty61, ty58, ty42, hX]) (by exact mode_r rfl) rfl (by rw [hX]; rfl) ?_; simp (maxSteps := 1000000) only [go_sem, Nat.reduceAdd, Nat.reduceSub, Nat.reduceMul, Nat.reduceLT, Nat.reduceLeDiff, Nat.reduceEqDiff, Nat.reduceBEq, Int.reduceToNat, Int.reduceLE, Int.reduceLT, Int.reduceEq, ↓reduceIte, reduceCtorEq, vDk, aDk, ty3, ty4, ty5, ty9, ty22, ty48, ty23, ty25, ty26, ty27, ty61, ty58, ty42, hX])
  (refine rwr_nil (hK _ ?_); clear hK K)
  (repeat (first | refine cw_seq' ?_ | refine cw_block ?_ | refine cw_true rfl ?_ | refine cw_false rfl ?_ | refine cw_exit ?_ | refine cw_skip ?_ | refine then_mk ?_ | refine then_exit ?_ | refine then_ret ?_ | refine blk_mk ?_ | refine blk_ret ?_ | refine blk_same ?_ | refine blk_ne (by decide) ?_))
  (refine cw_region_k fun K hK => ?_; simp (maxSteps := 1000000) only [go_sem, Nat.reduceAdd, Nat.reduceSub, Nat.reduceMul, Nat.reduceLT, Nat.reduceLeDiff, Nat.reduceEqDiff, Nat.reduceBEq, Int.reduceToNat, Int.reduceLE, Int.reduceLT, Int.reduceEq, ↓reduceIte, reduceCtorEq, vDk, aDk, ty3, ty4, ty5, ty9, ty22, ty48, ty23, ty25, ty26, ty27, ty61, ty58, ty42, hX])
  (refine rwr_call 9 (hF) rfl rfl (by simp (maxSteps := 1000000) only [go_sem, Nat.reduceAdd, Nat.reduceSub, Nat.reduceMul, Nat.reduceLT, Nat.reduceLeDiff, Nat.reduceEqDiff, Nat.reduceBEq, Int.reduceToNat, Int.reduceLE, Int.reduceLT, Int.reduceEq, ↓reduceIte, reduceCtorEq, vDk, aDk, ty3, ty4, ty5, ty9, ty22, ty48, ty23, ty25, ty26, ty27, ty61, ty58, ty42, hX]) (by exact mode_r rfl) rfl (by rw [hX]; rfl) ?_; simp (maxSteps := 1000000) only [go_sem, Nat.reduceAdd, Nat.reduceSub, Nat.reduceMul, Nat.reduceLT, Nat.reduceLeDiff, Nat.reduceEqDiff, Nat.reduceBEq, Int.reduceToNat, Int.reduceLE, Int.reduceLT, Int.reduceEq, ↓reduceIte, reduceCtorEq, vDk, aDk, ty3, ty4, ty5, ty9, ty22, ty48, ty23, ty25, ty26, ty27, ty61, ty58, ty42, hX])
  (refine rwr_nil (hK _ ?_); clear hK K)
  (repeat (first | refine cw_seq' ?_ | refine cw_block ?_ | refine cw_true rfl ?_ | refine cw_false rfl ?_ | refine cw_exit ?_ | refine cw_skip ?_ | refine then_mk ?_ | refine then_exit ?_ | refine then_ret ?_ | refine blk_mk ?_ | refine blk_ret ?_ | refine blk_same ?_ | refine blk_ne (by decide) ?_))
  (refine cw_region_k fun K hK => ?_; simp (maxSteps := 1000000) only [go_sem, Nat.reduceAdd, Nat.reduceSub, Nat.reduceMul, Nat.reduceLT, Nat.reduceLeDiff, Nat.reduceEqDiff, Nat.reduceBEq, Int.reduceToNat, Int.reduceLE, Int.reduceLT, Int.reduceEq, ↓reduceIte, reduceCtorEq, vDk, aDk, ty3, ty4, ty5, ty9, ty22, ty48, ty23, ty25, ty26, ty27, ty61, ty58, ty42, e1, e2, hX])
  (refine rwr_nil (hK _ ?_); clear hK K)
  (repeat (first | refine cw_seq' ?_ | refine cw_block ?_ | refine cw_true rfl ?_ | refine cw_false rfl ?_ | refine cw_exit ?_ | refine cw_skip ?_ | refine then_mk ?_ | refine then_exit ?_ | refine then_ret ?_ | refine blk_mk ?_ | refine blk_ret ?_ | refine blk_same ?_ | refine blk_ne (by decide) ?_))
  (refine cw_region_k fun K hK => ?_; simp (maxSteps := 1000000) only [go_sem, Nat.reduceAdd, Nat.reduceSub, Nat.reduceMul, Nat.reduceLT, Nat.reduceLeDiff, Nat.reduceEqDiff, Nat.reduceBEq, Int.reduceToNat, Int.reduceLE, Int.reduceLT, Int.reduceEq, ↓reduceIte, reduceCtorEq, vDk, aDk, ty3, ty4, ty5, ty9, ty22, ty48, ty23, ty25, ty26, ty27, ty61, ty58, ty42, jo3, e3, jo7, hX])
  (refine rwr_call 9 (hCk) rfl rfl (by simp (maxSteps := 1000000) only [go_sem, Nat.reduceAdd, Nat.reduceSub, Nat.reduceMul, Nat.reduceLT, Nat.reduceLeDiff, Nat.reduceEqDiff, Nat.reduceBEq, Int.reduceToNat, Int.reduceLE, Int.reduceLT, Int.reduceEq, ↓reduceIte, reduceCtorEq, vDk, aDk, ty3, ty4, ty5, ty9, ty22, ty48, ty23, ty25, ty26, ty27, ty61, ty58, ty42, hX]) (by exact mode_r rfl) rfl (by rw [hX]; rfl) ?_; simp (maxSteps := 1000000) only [go_sem, Nat.reduceAdd, Nat.reduceSub, Nat.reduceMul, Nat.reduceLT, Nat.reduceLeDiff, Nat.reduceEqDiff, Nat.reduceBEq, Int.reduceToNat, Int.reduceLE, Int.reduceLT, Int.reduceEq, ↓reduceIte, reduceCtorEq, vDk, aDk, ty3, ty4, ty5, ty9, ty22, ty48, ty23, ty25, ty26, ty27, ty61, ty58, ty42, hX])
  (refine rwr_run ?_; simp (maxSteps := 1000000) only [go_sem, Nat.reduceAdd, Nat.reduceSub, Nat.reduceMul, Nat.reduceLT, Nat.reduceLeDiff, Nat.reduceEqDiff, Nat.reduceBEq, Int.reduceToNat, Int.reduceLE, Int.reduceLT, Int.reduceEq, ↓reduceIte, reduceCtorEq, vDk, aDk, ty3, ty4, ty5, ty9, ty22, ty48, ty23, ty25, ty26, ty27, ty61, ty58, ty42, jo3, e3, jo7, hX])
  (refine rwr_nil (hK _ ?_); clear hK K)
  (repeat (first | refine cw_seq' ?_ | refine cw_block ?_ | refine cw_true rfl ?_ | refine cw_false rfl ?_ | refine cw_exit ?_ | refine cw_ret ?_ | refine cw_skip ?_ | (refine cw_region_k fun K hK => ?_; simp (maxSteps := 1000000) only [go_sem, Nat.reduceAdd, Nat.reduceSub, Nat.reduceMul, Nat.reduceLT, Nat.reduceLeDiff, Nat.reduceEqDiff, Nat.reduceBEq, Int.reduceToNat, Int.reduceLE, Int.reduceLT, Int.reduceEq, ↓reduceIte, reduceCtorEq, vDk, aDk, ty3, ty4, ty5, ty9, ty22, ty48, ty23, ty25, ty26, ty27, ty61, ty58, ty42, hX]; refine rwr_nil (hK _ ?_); clear hK K) | refine then_mk ?_ | refine then_exit ?_ | refine then_ret ?_ | refine blk_mk ?_ | refine blk_ret ?_ | refine blk_same ?_ | refine blk_ne (by decide) ?_))
  refine cw_flat (s := stO n 0 4 texts [] k0 at_ keep) (le_mk2 (by simp only [go_sem, Nat.reduceAdd, Nat.reduceSub, Nat.reduceMul, Nat.reduceLT, Nat.reduceLeDiff, Nat.reduceEqDiff, Nat.reduceBEq, Int.reduceToNat, Int.reduceLE, Int.reduceLT, Int.reduceEq, ↓reduceIte, reduceCtorEq, vDk, aDk, List.map_set, List.map_append, List.map_nil] <;> ((repeat' apply And.intro) <;> rfl))) ?_
  refine cw_loop (fun m s => ∃ i kept turn used there need, i ≤ texts.length ∧ i ≤ 30 ∧ m = texts.length - i ∧ JInv n kept turn used there ∧ turn ≤ i ∧ used + 2 ≤ need ∧ need ≤ 4 + 60 * i ∧ there.length ≤ i ∧ s = stO n i need texts there kept at_ keep) texts.length
    ⟨_, ⟨0, k0, 0, 2, [], 4, Nat.zero_le _, Nat.zero_le _, rfl, f3, Nat.le_refl _, Nat.le_refl _, by omega, Nat.le_refl _, rfl⟩, le_mk2 (by simp only [go_sem, Nat.reduceAdd, Nat.reduceSub, Nat.reduceMul, Nat.reduceLT, Nat.reduceLeDiff, Nat.reduceEqDiff, Nat.reduceBEq, Int.reduceToNat, Int.reduceLE, Int.reduceLT, Int.reduceEq, ↓reduceIte, reduceCtorEq, vDk, aDk, List.map_set, List.map_append, List.map_nil] <;> ((repeat' apply And.intro) <;> rfl))⟩ ?_
  clear hF hCk hl0 f3 e3 f1
  rintro m s ⟨i, kept, turn, used, there, need, hi1, hi2, rfl, hI, ht, hn, hneed, hth, rfl⟩
  by_cases hlt : i < texts.length
  rotate_left
  · have y1 : decide ((i : Int) < (texts.length : Int)) = false := by simp; omega
    (repeat (first | refine cw_seq' ?_ | refine cw_block ?_ | refine cw_true rfl ?_ | refine cw_false rfl ?_ | refine cw_exit ?_ | refine cw_ret ?_ | refine cw_skip ?_ | (refine cw_region_k fun K hK => ?_; simp (maxSteps := 1000000) only [go_sem, Nat.reduceAdd, Nat.reduceSub, Nat.reduceMul, Nat.reduceLT, Nat.reduceLeDiff, Nat.reduceEqDiff, Nat.reduceBEq, Int.reduceToNat, Int.reduceLE, Int.reduceLT, Int.reduceEq, ↓reduceIte, reduceCtorEq, vDk, aDk, ty3, ty4, ty5, ty9, ty22, ty48, ty23, ty25, ty26, ty27, ty61, ty58, ty42, y1, hX]; refine rwr_nil (hK _ ?_); clear hK K) | refine then_mk ?_ | refine then_exit ?_ | refine then_ret ?_ | refine blk_mk ?_ | refine blk_ret ?_ | refine blk_same ?_ | refine blk_ne (by decide) ?_))
    (first | refine exit_retf ?_ | refine exit_normalf ?_); rw [Try.results6]; simp only [go_sem, Nat.reduceAdd, Nat.reduceSub, Nat.reduceMul, Nat.reduceLT, Nat.reduceLeDiff, Nat.reduceEqDiff, Nat.reduceBEq, Int.reduceToNat, Int.reduceLE, Int.reduceLT, Int.reduceEq, ↓reduceIte, reduceCtorEq, vDk, aDk, ty3, ty4, ty5, ty9, ty22, ty48, ty23, ty25, ty26, ty27, ty61, ty58, ty42, hX]
  have y1 : decide ((i : Int) < (texts.length : Int)) = true := by simp; omega
  by_cases h30 : i < 30
  rotate_left
  · have y2 : decide ((i : Int) < 30) = false := by simp; omega
    (repeat (first | refine cw_seq' ?_ | refine cw_block ?_ | refine cw_true rfl ?_ | refine cw_false rfl ?_ | refine cw_exit ?_ | refine cw_ret ?_ | refine cw_skip ?_ | (refine cw_region_k fun K hK => ?_; simp (maxSteps := 1000000) only [go_sem, Nat.reduceAdd, Nat.reduceSub, Nat.reduceMul, Nat.reduceLT, Nat.reduceLeDiff, Nat.reduceEqDiff, Nat.reduceBEq, Int.reduceToNat, Int.reduceLE, Int.reduceLT, Int.reduceEq, ↓reduceIte, reduceCtorEq, vDk, aDk, ty3, ty4, ty5, ty9, ty22, ty48, ty23, ty25, ty26, ty27, ty61, ty58, ty42, y1, y2, hX]; refine rwr_nil (hK _ ?_); clear hK K) | refine then_mk ?_ | refine then_exit ?_ | refine then_ret ?_ | refine blk_mk ?_ | refine blk_ret ?_ | refine blk_same ?_ | refine blk_ne (by decide) ?_))
    (first | refine exit_retf ?_ | refine exit_normalf ?_); rw [Try.results6]; simp only [go_sem, Nat.reduceAdd, Nat.reduceSub, Nat.reduceMul, Nat.reduceLT, Nat.reduceLeDiff, Nat.reduceEqDiff, Nat.reduceBEq, Int.reduceToNat, Int.reduceLE, Int.reduceLT, Int.reduceEq, ↓reduceIte, reduceCtorEq, vDk, aDk, ty3, ty4, ty5, ty9, ty22, ty48, ty23, ty25, ty26, ty27, ty61, ty58, ty42, hX]
  have y2 : decide ((i : Int) < 30) = true := by simp; omega
  have y3 : IntKind.i64.wrap ((i : Int) + 1) = ((i + 1 : Nat) : Int) := by rw [IntWalk.i64_in _ (by omega)]; rfl
  obtain ⟨s, hx⟩ : ∃ x, texts[i]? = some x := ⟨_, List.getElem?_eq_getElem hlt⟩
  (repeat (first | refine cw_seq' ?_ | refine cw_block ?_ | refine cw_true rfl ?_ | refine cw_false rfl ?_ | refine cw_exit ?_ | refine cw_ret ?_ | refine cw_skip ?_ | (refine cw_region_k fun K hK => ?_; simp (maxSteps := 1000000) only [go_sem, Nat.reduceAdd, Nat.reduceSub, Nat.reduceMul, Nat.reduceLT, Nat.reduceLeDiff, Nat.reduceEqDiff, Nat.reduceBEq, Int.reduceToNat, Int.reduceLE, Int.reduceLT, Int.reduceEq, ↓reduceIte, reduceCtorEq, vDk, aDk, ty3, ty4, ty5, ty9, ty22, ty48, ty23, ty25, ty26, ty27, ty61, ty58, ty42, y1, y2, hx, hX]; refine rwr_nil (hK _ ?_); clear hK K) | refine then_mk ?_ | refine then_exit ?_ | refine then_ret ?_ | refine blk_mk ?_ | refine blk_ret ?_ | refine blk_same ?_ | refine blk_ne (by decide) ?_))
  refine cw_cond rfl (fun c1 => ?_) (fun c1 => ?_)
  · (repeat (first | refine cw_seq' ?_ | refine cw_block ?_ | refine cw_true rfl ?_ | refine cw_false rfl ?_ | refine cw_exit ?_ | refine cw_ret ?_ | refine cw_skip ?_ | (refine cw_region_k fun K hK => ?_; simp (maxSteps := 1000000) only [go_sem, Nat.reduceAdd, Nat.reduceSub, Nat.reduceMul, Nat.reduceLT, Nat.reduceLeDiff, Nat.reduceEqDiff, Nat.reduceBEq, Int.reduceToNat, Int.reduceLE, Int.reduceLT, Int.reduceEq, ↓reduceIte, reduceCtorEq, vDk, aDk, ty3, ty4, ty5, ty9, ty22, ty48, ty23, ty25, ty26, ty27, ty61, ty58, ty42, c1, y3, hX]; refine rwr_nil (hK _ ?_); clear hK K) | refine then_mk ?_ | refine then_exit ?_ | refine then_ret ?_ | refine blk_mk ?_ | refine blk_ret ?_ | refine blk_same ?_ | refine blk_ne (by decide) ?_))
    exact ⟨texts.length - (i + 1), by omega, _, ⟨i + 1, kept, turn, used, there, need, by omega, by omega, rfl, hI, by omega, hn, by omega, by omega, rfl⟩, le_mk2 (by simp only [go_sem, Nat.reduceAdd, Nat.reduceSub, Nat.reduceMul, Nat.reduceLT, Nat.reduceLeDiff, Nat.reduceEqDiff, Nat.reduceBEq, Int.reduceToNat, Int.reduceLE, Int.reduceLT, Int.reduceEq, ↓reduceIte, reduceCtorEq, vDk, aDk, List.map_set, List.map_append] <;> ((repeat' apply And.intro) <;> rfl))⟩
  have hs : s.size ≤ 2000 := by have := (by simp only [decide_eq_true_eq, decide_eq_false_iff_not, bne_iff_ne, bne_eq_false_iff_eq, beq_iff_eq, beq_eq_false_iff_ne, ne_eq] at c1; omega); omega
  have hln := hI.len
  have hlen : (⟨kept, []⟩ : Dk).kept.length ≤ maxLen := by unfold maxLen; simp only; omega
  have hAp := append_sp ⟨kept, []⟩ s hlen (Nat.zero_le _)
  have hN := needof_sp s hs
  have hJ : needJ s ≤ 60 := by unfold needJ; omega
  have y4 : IntKind.i64.wrap ((need : Int) + (needJ s : Int)) = ((need + needJ s : Nat) : Int) := by rw [IntWalk.i64_in _ (by omega)]; rfl
  rcases append_law hI s hs (by omega) hn with ⟨a1, a2⟩ | ⟨x, way, a1, hxw, hw0, hw40, hwx, hst, hcr⟩
  · rw [a1] at hAp
    have hAp : Sp Try.prog 19 [.agg [.sl (rS kept), .sl []], .one (.lit (.string s))] (.tup [.agg [.t true (.sl []), .t true (.sl [])], .one (.t true (.sl [])), .one (.t true (.lit (.int .i64 8)))]) [] := hAp
    have y5 : decide ((n : Int) < ((need + needJ s : Nat) : Int)) = true := by simp; omega
    (repeat (first | refine cw_seq' ?_ | refine cw_block ?_ | refine cw_true rfl ?_ | refine cw_false rfl ?_ | refine cw_exit ?_ | refine cw_skip ?_ | refine then_mk ?_ | refine then_exit ?_ | refine then_ret ?_ | refine blk_mk ?_ | refine blk_ret ?_ | refine blk_same ?_ | refine blk_ne (by decide) ?_))
    (refine cw_region_k fun K hK => ?_; simp (maxSteps := 1000000) only [go_sem, Nat.reduceAdd, Nat.reduceSub, Nat.reduceMul, Nat.reduceLT, Nat.reduceLeDiff, Nat.reduceEqDiff, Nat.reduceBEq, Int.reduceToNat, Int.reduceLE, Int.reduceLT, Int.reduceEq, ↓reduceIte, reduceCtorEq, vDk, aDk, ty3, ty4, ty5, ty9, ty22, ty48, ty23, ty25, ty26, ty27, ty61, ty58, ty42, hX])
    (refine rwr_call 9 (hAp) rfl rfl (by simp (maxSteps := 1000000) only [go_sem, Nat.reduceAdd, Nat.reduceSub, Nat.reduceMul, Nat.reduceLT, Nat.reduceLeDiff, Nat.reduceEqDiff, Nat.reduceBEq, Int.reduceToNat, Int.reduceLE, Int.reduceLT, Int.reduceEq, ↓reduceIte, reduceCtorEq, vDk, aDk, ty3, ty4, ty5, ty9, ty22, ty48, ty23, ty25, ty26, ty27, ty61, ty58, ty42, hX]) (by exact mode_r rfl) rfl (by rw [hX]; rfl) ?_; simp (maxSteps := 1000000) only [go_sem, Nat.reduceAdd, Nat.reduceSub, Nat.reduceMul, Nat.reduceLT, Nat.reduceLeDiff, Nat.reduceEqDiff, Nat.reduceBEq, Int.reduceToNat, Int.reduceLE, Int.reduceLT, Int.reduceEq, ↓reduceIte, reduceCtorEq, vDk, aDk, ty3, ty4, ty5, ty9, ty22, ty48, ty23, ty25, ty26, ty27, ty61, ty58, ty42, hX])
    (refine rwr_run ?_; simp (maxSteps := 1000000) only [go_sem, Nat.reduceAdd, Nat.reduceSub, Nat.reduceMul, Nat.reduceLT, Nat.reduceLeDiff, Nat.reduceEqDiff, Nat.reduceBEq, Int.reduceToNat, Int.reduceLE, Int.reduceLT, Int.reduceEq, ↓reduceIte, reduceCtorEq, vDk, aDk, ty3, ty4, ty5, ty9, ty22, ty48, ty23, ty25, ty26, ty27, ty61, ty58, ty42, hX])
    (refine rwr_nil (hK _ ?_); clear hK K)
    (repeat (first | refine cw_seq' ?_ | refine cw_block ?_ | refine cw_true rfl ?_ | refine cw_false rfl ?_ | refine cw_exit ?_ | refine cw_skip ?_ | refine then_mk ?_ | refine then_exit ?_ | refine then_ret ?_ | refine blk_mk ?_ | refine blk_ret ?_ | refine blk_same ?_ | refine blk_ne (by decide) ?_))
    (refine cw_region_k fun K hK => ?_; simp (maxSteps := 1000000) only [go_sem, Nat.reduceAdd, Nat.reduceSub, Nat.reduceMul, Nat.reduceLT, Nat.reduceLeDiff, Nat.reduceEqDiff, Nat.reduceBEq, Int.reduceToNat, Int.reduceLE, Int.reduceLT, Int.reduceEq, ↓reduceIte, reduceCtorEq, vDk, aDk, ty3, ty4, ty5, ty9, ty22, ty48, ty23, ty25, ty26, ty27, ty61, ty58, ty42, jo4, hX])
    (refine rwr_nil (hK _ ?_); clear hK K)
    (repeat (first | refine cw_seq' ?_ | refine cw_block ?_ | refine cw_true rfl ?_ | refine cw_false rfl ?_ | refine cw_exit ?_ | refine cw_skip ?_ | refine then_mk ?_ | refine then_exit ?_ | refine then_ret ?_ | refine blk_mk ?_ | refine blk_ret ?_ | refine blk_same ?_ | refine blk_ne (by decide) ?_))
    (refine cw_region_k fun K hK => ?_; simp (maxSteps := 1000000) only [go_sem, Nat.reduceAdd, Nat.reduceSub, Nat.reduceMul, Nat.reduceLT, Nat.reduceLeDiff, Nat.reduceEqDiff, Nat.reduceBEq, Int.reduceToNat, Int.reduceLE, Int.reduceLT, Int.reduceEq, ↓reduceIte, reduceCtorEq, vDk, aDk, ty3, ty4, ty5, ty9, ty22, ty48, ty23, ty25, ty26, ty27, ty61, ty58, ty42, jo5, y4, hX])
    (refine rwr_call 9 (hN) rfl rfl (by simp (maxSteps := 1000000) only [go_sem, Nat.reduceAdd, Nat.reduceSub, Nat.reduceMul, Nat.reduceLT, Nat.reduceLeDiff, Nat.reduceEqDiff, Nat.reduceBEq, Int.reduceToNat, Int.reduceLE, Int.reduceLT, Int.reduceEq, ↓reduceIte, reduceCtorEq, vDk, aDk, ty3, ty4, ty5, ty9, ty22, ty48, ty23, ty25, ty26, ty27, ty61, ty58, ty42, y4, hX]) (by exact mode_r rfl) rfl (by rw [hX]; rfl) ?_; simp (maxSteps := 1000000) only [go_sem, Nat.reduceAdd, Nat.reduceSub, Nat.reduceMul, Nat.reduceLT, Nat.reduceLeDiff, Nat.reduceEqDiff, Nat.reduceBEq, Int.reduceToNat, Int.reduceLE, Int.reduceLT, Int.reduceEq, ↓reduceIte, reduceCtorEq, vDk, aDk, ty3, ty4, ty5, ty9, ty22, ty48, ty23, ty25, ty26, ty27, ty61, ty58, ty42, y4, hX])
    (refine rwr_run ?_; simp (maxSteps := 1000000) only [go_sem, Nat.reduceAdd, Nat.reduceSub, Nat.reduceMul, Nat.reduceLT, Nat.reduceLeDiff, Nat.reduceEqDiff, Nat.reduceBEq, Int.reduceToNat, Int.reduceLE, Int.reduceLT, Int.reduceEq, ↓reduceIte, reduceCtorEq, vDk, aDk, ty3, ty4, ty5, ty9, ty22, ty48, ty23, ty25, ty26, ty27, ty61, ty58, ty42, y4, y5, jo6, jo2, hX])
    (refine rwr_nil (hK _ ?_); clear hK K)
    (repeat (first | refine cw_seq' ?_ | refine cw_block ?_ | refine cw_true rfl ?_ | refine cw_false rfl ?_ | refine cw_exit ?_ | refine cw_ret ?_ | refine cw_skip ?_ | (refine cw_region_k fun K hK => ?_; simp (maxSteps := 1000000) only [go_sem, Nat.reduceAdd, Nat.reduceSub, Nat.reduceMul, Nat.reduceLT, Nat.reduceLeDiff, Nat.reduceEqDiff, Nat.reduceBEq, Int.reduceToNat, Int.reduceLE, Int.reduceLT, Int.reduceEq, ↓reduceIte, reduceCtorEq, vDk, aDk, ty3, ty4, ty5, ty9, ty22, ty48, ty23, ty25, ty26, ty27, ty61, ty58, ty42, hX]; refine rwr_nil (hK _ ?_); clear hK K) | refine then_mk ?_ | refine then_exit ?_ | refine then_ret ?_ | refine blk_mk ?_ | refine blk_ret ?_ | refine blk_same ?_ | refine blk_ne (by decide) ?_))
    (first | refine exit_retf ?_ | refine exit_normalf ?_); rw [Try.results6]; simp only [go_sem, Nat.reduceAdd, Nat.reduceSub, Nat.reduceMul, Nat.reduceLT, Nat.reduceLeDiff, Nat.reduceEqDiff, Nat.reduceBEq, Int.reduceToNat, Int.reduceLE, Int.reduceLT, Int.reduceEq, ↓reduceIte, reduceCtorEq, vDk, aDk, ty3, ty4, ty5, ty9, ty22, ty48, ty23, ty25, ty26, ty27, ty61, ty58, ty42, hX]
  obtain ⟨xk, xw⟩ := x
  simp only at hxw
  subst hxw
  rw [a1] at hAp
  have hAp : Sp Try.prog 19 [.agg [.sl (rS kept), .sl []], .one (.lit (.string s))] (.tup [.agg [.t true (.sl (rS xk)), .t true (.sl [])], .one (.t true (.sl (rD way))), .one (.t true (.lit (.int .i64 0)))]) [] := hAp
  obtain ⟨wl, hwl⟩ : ∃ b, way[way.length - 1]? = some b := ⟨_, List.getElem?_eq_getElem (by omega)⟩
  have hxk : xk.length ≤ 400 := by
    have h1 : (⟨xk, []⟩ : Dk) = wl := by
      rw [show way.length = (way.length - 1) + 1 by omega, List.getElem?_cons_succ, hwl] at hwx
      injection hwx with hwx
      exact hwx.symm
    obtain ⟨l, h2, t', u', h3⟩ := hcr _ _ hwl []
    rcases h3 with ⟨h3, _⟩ | ⟨h3, _⟩ <;>
    · have h4 := h3.len
      subst h1
      unfold crashD at h2
      split at h2
      · have := congrArg (fun p : Dk × Nat => p.1.kept.length) h2
        simp only [keepD] at this
        rw [keptF_len] at this
        omega
      · have := congrArg (fun p : Dk × Nat => p.2) h2
        simp only at this
        contradiction
  have hWi := wayis_sp ⟨kept, []⟩ ⟨xk, []⟩ way hw0 (by omega) hwx rfl hxk hst
  have hWi : Sp Try.prog 24 [.agg [.sl (rS kept), .sl []], .one (.sl (rD way)), .agg [.sl (rS xk), .sl []]] (.one (.t true (.lit (.bool true)))) [] := hWi
  have hpl := placeJ_lt at_ i way.length hw0
  have y6 : IntKind.i64.wrap ((way.length : Int) - 1) = ((way.length - 1 : Nat) : Int) := by rw [IntWalk.i64_in _ (by omega)]; omega
  (repeat (first | refine cw_seq' ?_ | refine cw_block ?_ | refine cw_true rfl ?_ | refine cw_false rfl ?_ | refine cw_exit ?_ | refine cw_skip ?_ | refine then_mk ?_ | refine then_exit ?_ | refine then_ret ?_ | refine blk_mk ?_ | refine blk_ret ?_ | refine blk_same ?_ | refine blk_ne (by decide) ?_))
  (refine cw_region_k fun K hK => ?_; simp (maxSteps := 1000000) only [go_sem, Nat.reduceAdd, Nat.reduceSub, Nat.reduceMul, Nat.reduceLT, Nat.reduceLeDiff, Nat.reduceEqDiff, Nat.reduceBEq, Int.reduceToNat, Int.reduceLE, Int.reduceLT, Int.reduceEq, ↓reduceIte, reduceCtorEq, vDk, aDk, ty3, ty4, ty5, ty9, ty22, ty48, ty23, ty25, ty26, ty27, ty61, ty58, ty42, hX])
  (refine rwr_call 9 (hAp) rfl rfl (by simp (maxSteps := 1000000) only [go_sem, Nat.reduceAdd, Nat.reduceSub, Nat.reduceMul, Nat.reduceLT, Nat.reduceLeDiff, Nat.reduceEqDiff, Nat.reduceBEq, Int.reduceToNat, Int.reduceLE, Int.reduceLT, Int.reduceEq, ↓reduceIte, reduceCtorEq, vDk, aDk, ty3, ty4, ty5, ty9, ty22, ty48, ty23, ty25, ty26, ty27, ty61, ty58, ty42, hX]) (by exact mode_r rfl) rfl (by rw [hX]; rfl) ?_; simp (maxSteps := 1000000) only [go_sem, Nat.reduceAdd, Nat.reduceSub, Nat.reduceMul, Nat.reduceLT, Nat.reduceLeDiff, Nat.reduceEqDiff, Nat.reduceBEq, Int.reduceToNat, Int.reduceLE, Int.reduceLT, Int.reduceEq, ↓reduceIte, reduceCtorEq, vDk, aDk, ty3, ty4, ty5, ty9, ty22, ty48, ty23, ty25, ty26, ty27, ty61, ty58, ty42, hX])
  (refine rwr_run ?_; simp (maxSteps := 1000000) only [go_sem, Nat.reduceAdd, Nat.reduceSub, Nat.reduceMul, Nat.reduceLT, Nat.reduceLeDiff, Nat.reduceEqDiff, Nat.reduceBEq, Int.reduceToNat, Int.reduceLE, Int.reduceLT, Int.reduceEq, ↓reduceIte, reduceCtorEq, vDk, aDk, ty3, ty4, ty5, ty9, ty22, ty48, ty23, ty25, ty26, ty27, ty61, ty58, ty42, hX])
  (refine rwr_nil (hK _ ?_); clear hK K)
  (repeat (first | refine cw_seq' ?_ | refine cw_block ?_ | refine cw_true rfl ?_ | refine cw_false rfl ?_ | refine cw_exit ?_ | refine cw_skip ?_ | refine then_mk ?_ | refine then_exit ?_ | refine then_ret ?_ | refine blk_mk ?_ | refine blk_ret ?_ | refine blk_same ?_ | refine blk_ne (by decide) ?_))
  (refine cw_region_k fun K hK => ?_; simp (maxSteps := 1000000) only [go_sem, Nat.reduceAdd, Nat.reduceSub, Nat.reduceMul, Nat.reduceLT, Nat.reduceLeDiff, Nat.reduceEqDiff, Nat.reduceBEq, Int.reduceToNat, Int.reduceLE, Int.reduceLT, Int.reduceEq, ↓reduceIte, reduceCtorEq, vDk, aDk, ty3, ty4, ty5, ty9, ty22, ty48, ty23, ty25, ty26, ty27, ty61, ty58, ty42, jo3, hX])
  (refine rwr_nil (hK _ ?_); clear hK K)
  (repeat (first | refine cw_seq' ?_ | refine cw_block ?_ | refine cw_true rfl ?_ | refine cw_false rfl ?_ | refine cw_exit ?_ | refine cw_skip ?_ | refine then_mk ?_ | refine then_exit ?_ | refine then_ret ?_ | refine blk_mk ?_ | refine blk_ret ?_ | refine blk_same ?_ | refine blk_ne (by decide) ?_))
  (refine cw_region_k fun K hK => ?_; simp (maxSteps := 1000000) only [go_sem, Nat.reduceAdd, Nat.reduceSub, Nat.reduceMul, Nat.reduceLT, Nat.reduceLeDiff, Nat.reduceEqDiff, Nat.reduceBEq, Int.reduceToNat, Int.reduceLE, Int.reduceLT, Int.reduceEq, ↓reduceIte, reduceCtorEq, vDk, aDk, ty3, ty4, ty5, ty9, ty22, ty48, ty23, ty25, ty26, ty27, ty61, ty58, ty42, hX])
  (refine rwr_call 9 (hWi) rfl rfl (by simp (maxSteps := 1000000) only [go_sem, Nat.reduceAdd, Nat.reduceSub, Nat.reduceMul, Nat.reduceLT, Nat.reduceLeDiff, Nat.reduceEqDiff, Nat.reduceBEq, Int.reduceToNat, Int.reduceLE, Int.reduceLT, Int.reduceEq, ↓reduceIte, reduceCtorEq, vDk, aDk, ty3, ty4, ty5, ty9, ty22, ty48, ty23, ty25, ty26, ty27, ty61, ty58, ty42, hX]) (by exact mode_r rfl) rfl (by rw [hX]; rfl) ?_; simp (maxSteps := 1000000) only [go_sem, Nat.reduceAdd, Nat.reduceSub, Nat.reduceMul, Nat.reduceLT, Nat.reduceLeDiff, Nat.reduceEqDiff, Nat.reduceBEq, Int.reduceToNat, Int.reduceLE, Int.reduceLT, Int.reduceEq, ↓reduceIte, reduceCtorEq, vDk, aDk, ty3, ty4, ty5, ty9, ty22, ty48, ty23, ty25, ty26, ty27, ty61, ty58, ty42, hX])
  (refine rwr_nil (hK _ ?_); clear hK K)
  (repeat (first | refine cw_seq' ?_ | refine cw_block ?_ | refine cw_true rfl ?_ | refine cw_false rfl ?_ | refine cw_exit ?_ | refine cw_skip ?_ | refine then_mk ?_ | refine then_exit ?_ | refine then_ret ?_ | refine blk_mk ?_ | refine blk_ret ?_ | refine blk_same ?_ | refine blk_ne (by decide) ?_))
  (refine cw_region_k fun K hK => ?_; simp (maxSteps := 1000000) only [go_sem, Nat.reduceAdd, Nat.reduceSub, Nat.reduceMul, Nat.reduceLT, Nat.reduceLeDiff, Nat.reduceEqDiff, Nat.reduceBEq, Int.reduceToNat, Int.reduceLE, Int.reduceLT, Int.reduceEq, ↓reduceIte, reduceCtorEq, vDk, aDk, ty3, ty4, ty5, ty9, ty22, ty48, ty23, ty25, ty26, ty27, ty61, ty58, ty42, y6, hX])
  (refine rwr_nil (hK _ ?_); clear hK K)
  (repeat (first | refine cw_seq' ?_ | refine cw_block ?_ | refine cw_true rfl ?_ | refine cw_false rfl ?_ | refine cw_exit ?_ | refine cw_skip ?_ | refine then_mk ?_ | refine then_exit ?_ | refine then_ret ?_ | refine blk_mk ?_ | refine blk_ret ?_ | refine blk_same ?_ | refine blk_ne (by decide) ?_))
  refine cw_meet2 ⟨[(18, litI .i64 (placeJ at_ i way.length : Nat)), (16, .one (.t false (.sl (rD way)))), (14, litS s), (13, litI .i64 i), (0, litI .i64 n), (1, .one (.t false (.sl (rS texts)))), (2, .one (.t false (.sl (rI at_)))), (3, .one (.t false (.sl (rB keep)))), (9, .one (.optr 9 0)), (11, .one (.t false (.sl (rS there)))), (12, litI .i64 need)],
   [(9, .var 25 [.t false (.sl (rS kept)), .t false (.sl [])])]⟩ ?_ ?_
  · by_cases hat : i < at_.length
    rotate_left
    · have y7 : decide ((i : Int) < (at_.length : Int)) = false := by simp; omega
      have hp : placeJ at_ i way.length = way.length - 1 := by unfold placeJ; rw [List.getElem?_eq_none (by omega)]
      (repeat (first | refine cw_seq' ?_ | refine cw_block ?_ | refine cw_true rfl ?_ | refine cw_false rfl ?_ | refine cw_exit ?_ | refine cw_ret ?_ | refine cw_skip ?_ | (refine cw_region_k fun K hK => ?_; simp (maxSteps := 1000000) only [go_sem, Nat.reduceAdd, Nat.reduceSub, Nat.reduceMul, Nat.reduceLT, Nat.reduceLeDiff, Nat.reduceEqDiff, Nat.reduceBEq, Int.reduceToNat, Int.reduceLE, Int.reduceLT, Int.reduceEq, ↓reduceIte, reduceCtorEq, vDk, aDk, ty3, ty4, ty5, ty9, ty22, ty48, ty23, ty25, ty26, ty27, ty61, ty58, ty42, y7, hX]; refine rwr_nil (hK _ ?_); clear hK K) | refine then_mk ?_ | refine then_exit ?_ | refine then_ret ?_ | refine blk_mk ?_ | refine blk_ret ?_ | refine blk_same ?_ | refine blk_ne (by decide) ?_))
      rw [hp]
      exact le_mk2 (by simp only [go_sem, Nat.reduceAdd, Nat.reduceSub, Nat.reduceMul, Nat.reduceLT, Nat.reduceLeDiff, Nat.reduceEqDiff, Nat.reduceBEq, Int.reduceToNat, Int.reduceLE, Int.reduceLT, Int.reduceEq, ↓reduceIte, reduceCtorEq, vDk, aDk, List.map_set, List.map_append] <;> ((repeat' apply And.intro) <;> rfl))
    have y7 : decide ((i : Int) < (at_.length : Int)) = true := by simp; omega
    obtain ⟨v, hv⟩ : ∃ x, at_[i]? = some x := ⟨_, List.getElem?_eq_getElem hat⟩
    by_cases hv0 : 0 ≤ v
    rotate_left
    · have y8 : decide (0 ≤ v) = false := by simpa using hv0
      have hp : placeJ at_ i way.length = way.length - 1 := by unfold placeJ; rw [hv]; simp only; rw [if_neg (by omega)]
      (repeat (first | refine cw_seq' ?_ | refine cw_block ?_ | refine cw_true rfl ?_ | refine cw_false rfl ?_ | refine cw_exit ?_ | refine cw_ret ?_ | refine cw_skip ?_ | (refine cw_region_k fun K hK => ?_; simp (maxSteps := 1000000) only [go_sem, Nat.reduceAdd, Nat.reduceSub, Nat.reduceMul, Nat.reduceLT, Nat.reduceLeDiff, Nat.reduceEqDiff, Nat.reduceBEq, Int.reduceToNat, Int.reduceLE, Int.reduceLT, Int.reduceEq, ↓reduceIte, reduceCtorEq, vDk, aDk, ty3, ty4, ty5, ty9, ty22, ty48, ty23, ty25, ty26, ty27, ty61, ty58, ty42, y7, hv, y8, hX]; refine rwr_nil (hK _ ?_); clear hK K) | refine then_mk ?_ | refine then_exit ?_ | refine then_ret ?_ | refine blk_mk ?_ | refine blk_ret ?_ | refine blk_same ?_ | refine blk_ne (by decide) ?_))
      rw [hp]
      exact le_mk2 (by simp only [go_sem, Nat.reduceAdd, Nat.reduceSub, Nat.reduceMul, Nat.reduceLT, Nat.reduceLeDiff, Nat.reduceEqDiff, Nat.reduceBEq, Int.reduceToNat, Int.reduceLE, Int.reduceLT, Int.reduceEq, ↓reduceIte, reduceCtorEq, vDk, aDk, List.map_set, List.map_append] <;> ((repeat' apply And.intro) <;> rfl))
    have y8 : decide (0 ≤ v) = true := by simpa using hv0
    by_cases hv1 : v < way.length
    rotate_left
    · have y9 : decide (v < (way.length : Int)) = false := by simpa using hv1
      have hp : placeJ at_ i way.length = way.length - 1 := by unfold placeJ; rw [hv]; simp only; rw [if_neg (by omega)]
      (repeat (first | refine cw_seq' ?_ | refine cw_block ?_ | refine cw_true rfl ?_ | refine cw_false rfl ?_ | refine cw_exit ?_ | refine cw_ret ?_ | refine cw_skip ?_ | (refine cw_region_k fun K hK => ?_; simp (maxSteps := 1000000) only [go_sem, Nat.reduceAdd, Nat.reduceSub, Nat.reduceMul, Nat.reduceLT, Nat.reduceLeDiff, Nat.reduceEqDiff, Nat.reduceBEq, Int.reduceToNat, Int.reduceLE, Int.reduceLT, Int.reduceEq, ↓reduceIte, reduceCtorEq, vDk, aDk, ty3, ty4, ty5, ty9, ty22, ty48, ty23, ty25, ty26, ty27, ty61, ty58, ty42, y7, hv, y8, y9, hX]; refine rwr_nil (hK _ ?_); clear hK K) | refine then_mk ?_ | refine then_exit ?_ | refine then_ret ?_ | refine blk_mk ?_ | refine blk_ret ?_ | refine blk_same ?_ | refine blk_ne (by decide) ?_))
      rw [hp]
      exact le_mk2 (by simp only [go_sem, Nat.reduceAdd, Nat.reduceSub, Nat.reduceMul, Nat.reduceLT, Nat.reduceLeDiff, Nat.reduceEqDiff, Nat.reduceBEq, Int.reduceToNat, Int.reduceLE, Int.reduceLT, Int.reduceEq, ↓reduceIte, reduceCtorEq, vDk, aDk, List.map_set, List.map_append] <;> ((repeat' apply And.intro) <;> rfl))
    · have y9 : decide (v < (way.length : Int)) = true := by simpa using hv1
      have hp : (placeJ at_ i way.length : Int) = v := by unfold placeJ; rw [hv]; simp only; rw [if_pos ⟨hv0, hv1⟩]; omega
      (repeat (first | refine cw_seq' ?_ | refine cw_block ?_ | refine cw_true rfl ?_ | refine cw_false rfl ?_ | refine cw_exit ?_ | refine cw_ret ?_ | refine cw_skip ?_ | (refine cw_region_k fun K hK => ?_; simp (maxSteps := 1000000) only [go_sem, Nat.reduceAdd, Nat.reduceSub, Nat.reduceMul, Nat.reduceLT, Nat.reduceLeDiff, Nat.reduceEqDiff, Nat.reduceBEq, Int.reduceToNat, Int.reduceLE, Int.reduceLT, Int.reduceEq, ↓reduceIte, reduceCtorEq, vDk, aDk, ty3, ty4, ty5, ty9, ty22, ty48, ty23, ty25, ty26, ty27, ty61, ty58, ty42, y7, hv, y8, y9, hX]; refine rwr_nil (hK _ ?_); clear hK K) | refine then_mk ?_ | refine then_exit ?_ | refine then_ret ?_ | refine blk_mk ?_ | refine blk_ret ?_ | refine blk_same ?_ | refine blk_ne (by decide) ?_))
      rw [hp]
      exact le_mk2 (by simp only [go_sem, Nat.reduceAdd, Nat.reduceSub, Nat.reduceMul, Nat.reduceLT, Nat.reduceLeDiff, Nat.reduceEqDiff, Nat.reduceBEq, Int.reduceToNat, Int.reduceLE, Int.reduceLT, Int.reduceEq, ↓reduceIte, reduceCtorEq, vDk, aDk, List.map_set, List.map_append] <;> ((repeat' apply And.intro) <;> rfl))
  generalize placeJ at_ i way.length = k at hpl
  obtain ⟨b, hb⟩ : ∃ b, way[k]? = some b := ⟨_, List.getElem?_eq_getElem hpl⟩
  obtain ⟨l, hcl, t', u', hl⟩ := hcr k b hb keep
  have hbl : b.kept.length ≤ 400 ∧ b.wr.length ≤ 400 := by
    unfold crashD at hcl
    split at hcl
    · rename_i hc
      obtain ⟨_, q1, _, q2, _⟩ := checkD_all b hc
      exact ⟨q1, q2⟩
    · have := congrArg (fun p : Dk × Nat => p.2) hcl
      simp only at this
      contradiction
  have hC := crash_sp b keep (by unfold maxLen; omega) (by unfold maxLen; omega)
  rw [hcl] at hC
  have hC : Sp Try.prog 10 [.agg [.sl (rS b.kept), .sl (rW b.wr)], .one (.sl (rB keep))] (.tup [.agg [.t true (.sl (rS l)), .t true (.sl [])], .one (.t true (.lit (.int .i64 0)))]) [] := hC
  have hll : l.length = n := by rcases hl with ⟨h, _⟩ | ⟨h, _⟩ <;> exact h.len
  have hO := open_sp ⟨l, []⟩ (by unfold maxLen; simp only; omega) (Nat.zero_le _)
  have y10 : there.length ≤ maxLen := by unfold maxLen; omega
  have y11 : there.length * 16 ≤ 140737488355328 := by omega
  have y12 : there.length + 1 ≤ maxLen := by unfold maxLen; omega
  have y13 : (there.length + 1) * 16 ≤ 140737488355328 := by omega
  have y14 : IntKind.i64.wrap ((way.length : Int) - 1) = ((way.length - 1 : Nat) : Int) := by rw [IntWalk.i64_in _ (by omega)]; omega
  obtain ⟨o, ho⟩ : ∃ o, openJ ⟨l, []⟩ = (o, 0) := by
    rcases hl with ⟨h, _⟩ | ⟨h, _⟩ <;>
    · unfold openJ
      rw [if_pos h.check]
      simp only
      rw [h.load]
      exact ⟨_, rfl⟩
  rw [ho] at hO
  have hO : Sp Try.prog 20 [.agg [.sl (rS l), .sl []]] (.tup [.one (.t true (.sl (rS o))), .one (.t true (.lit (.int .i64 0)))]) [] := hO
  (repeat (first | refine cw_seq' ?_ | refine cw_block ?_ | refine cw_true rfl ?_ | refine cw_false rfl ?_ | refine cw_exit ?_ | refine cw_skip ?_ | refine then_mk ?_ | refine then_exit ?_ | refine then_ret ?_ | refine blk_mk ?_ | refine blk_ret ?_ | refine blk_same ?_ | refine blk_ne (by decide) ?_))
  (refine cw_region_k fun K hK => ?_; simp (maxSteps := 1000000) only [go_sem, Nat.reduceAdd, Nat.reduceSub, Nat.reduceMul, Nat.reduceLT, Nat.reduceLeDiff, Nat.reduceEqDiff, Nat.reduceBEq, Int.reduceToNat, Int.reduceLE, Int.reduceLT, Int.reduceEq, ↓reduceIte, reduceCtorEq, vDk, aDk, ty3, ty4, ty5, ty9, ty22, ty48, ty23, ty25, ty26, ty27, ty61, ty58, ty42, hb, hX])
  (refine rwr_call 9 (hC) rfl rfl (by simp (maxSteps := 1000000) only [go_sem, Nat.reduceAdd, Nat.reduceSub, Nat.reduceMul, Nat.reduceLT, Nat.reduceLeDiff, Nat.reduceEqDiff, Nat.reduceBEq, Int.reduceToNat, Int.reduceLE, Int.reduceLT, Int.reduceEq, ↓reduceIte, reduceCtorEq, vDk, aDk, ty3, ty4, ty5, ty9, ty22, ty48, ty23, ty25, ty26, ty27, ty61, ty58, ty42, hb, hX]) (by exact mode_r rfl) rfl (by rw [hX]; rfl) ?_; simp (maxSteps := 1000000) only [go_sem, Nat.reduceAdd, Nat.reduceSub, Nat.reduceMul, Nat.reduceLT, Nat.reduceLeDiff, Nat.reduceEqDiff, Nat.reduceBEq, Int.reduceToNat, Int.reduceLE, Int.reduceLT, Int.reduceEq, ↓reduceIte, reduceCtorEq, vDk, aDk, ty3, ty4, ty5, ty9, ty22, ty48, ty23, ty25, ty26, ty27, ty61, ty58, ty42, hb, hX])
  (refine rwr_run ?_; simp (maxSteps := 1000000) only [go_sem, Nat.reduceAdd, Nat.reduceSub, Nat.reduceMul, Nat.reduceLT, Nat.reduceLeDiff, Nat.reduceEqDiff, Nat.reduceBEq, Int.reduceToNat, Int.reduceLE, Int.reduceLT, Int.reduceEq, ↓reduceIte, reduceCtorEq, vDk, aDk, ty3, ty4, ty5, ty9, ty22, ty48, ty23, ty25, ty26, ty27, ty61, ty58, ty42, hb, hX])
  (refine rwr_nil (hK _ ?_); clear hK K)
  (repeat (first | refine cw_seq' ?_ | refine cw_block ?_ | refine cw_true rfl ?_ | refine cw_false rfl ?_ | refine cw_exit ?_ | refine cw_skip ?_ | refine then_mk ?_ | refine then_exit ?_ | refine then_ret ?_ | refine blk_mk ?_ | refine blk_ret ?_ | refine blk_same ?_ | refine blk_ne (by decide) ?_))
  (refine cw_region_k fun K hK => ?_; simp (maxSteps := 1000000) only [go_sem, Nat.reduceAdd, Nat.reduceSub, Nat.reduceMul, Nat.reduceLT, Nat.reduceLeDiff, Nat.reduceEqDiff, Nat.reduceBEq, Int.reduceToNat, Int.reduceLE, Int.reduceLT, Int.reduceEq, ↓reduceIte, reduceCtorEq, vDk, aDk, ty3, ty4, ty5, ty9, ty22, ty48, ty23, ty25, ty26, ty27, ty61, ty58, ty42, jo3, hX])
  (refine rwr_nil (hK _ ?_); clear hK K)
  (repeat (first | refine cw_seq' ?_ | refine cw_block ?_ | refine cw_true rfl ?_ | refine cw_false rfl ?_ | refine cw_exit ?_ | refine cw_skip ?_ | refine then_mk ?_ | refine then_exit ?_ | refine then_ret ?_ | refine blk_mk ?_ | refine blk_ret ?_ | refine blk_same ?_ | refine blk_ne (by decide) ?_))
  (refine cw_region_k fun K hK => ?_; simp (maxSteps := 1000000) only [go_sem, Nat.reduceAdd, Nat.reduceSub, Nat.reduceMul, Nat.reduceLT, Nat.reduceLeDiff, Nat.reduceEqDiff, Nat.reduceBEq, Int.reduceToNat, Int.reduceLE, Int.reduceLT, Int.reduceEq, ↓reduceIte, reduceCtorEq, vDk, aDk, ty3, ty4, ty5, ty9, ty22, ty48, ty23, ty25, ty26, ty27, ty61, ty58, ty42, hX])
  (refine rwr_call 9 (hO) rfl rfl (by simp (maxSteps := 1000000) only [go_sem, Nat.reduceAdd, Nat.reduceSub, Nat.reduceMul, Nat.reduceLT, Nat.reduceLeDiff, Nat.reduceEqDiff, Nat.reduceBEq, Int.reduceToNat, Int.reduceLE, Int.reduceLT, Int.reduceEq, ↓reduceIte, reduceCtorEq, vDk, aDk, ty3, ty4, ty5, ty9, ty22, ty48, ty23, ty25, ty26, ty27, ty61, ty58, ty42, hX]) (by exact mode_r rfl) rfl (by rw [hX]; rfl) ?_; simp (maxSteps := 1000000) only [go_sem, Nat.reduceAdd, Nat.reduceSub, Nat.reduceMul, Nat.reduceLT, Nat.reduceLeDiff, Nat.reduceEqDiff, Nat.reduceBEq, Int.reduceToNat, Int.reduceLE, Int.reduceLT, Int.reduceEq, ↓reduceIte, reduceCtorEq, vDk, aDk, ty3, ty4, ty5, ty9, ty22, ty48, ty23, ty25, ty26, ty27, ty61, ty58, ty42, hX])
  (refine rwr_run ?_; simp (maxSteps := 1000000) only [go_sem, Nat.reduceAdd, Nat.reduceSub, Nat.reduceMul, Nat.reduceLT, Nat.reduceLeDiff, Nat.reduceEqDiff, Nat.reduceBEq, Int.reduceToNat, Int.reduceLE, Int.reduceLT, Int.reduceEq, ↓reduceIte, reduceCtorEq, vDk, aDk, ty3, ty4, ty5, ty9, ty22, ty48, ty23, ty25, ty26, ty27, ty61, ty58, ty42, hX])
  (refine rwr_nil (hK _ ?_); clear hK K)
  (repeat (first | refine cw_seq' ?_ | refine cw_block ?_ | refine cw_true rfl ?_ | refine cw_false rfl ?_ | refine cw_exit ?_ | refine cw_skip ?_ | refine then_mk ?_ | refine then_exit ?_ | refine then_ret ?_ | refine blk_mk ?_ | refine blk_ret ?_ | refine blk_same ?_ | refine blk_ne (by decide) ?_))
  (refine cw_region_k fun K hK => ?_; simp (maxSteps := 1000000) only [go_sem, Nat.reduceAdd, Nat.reduceSub, Nat.reduceMul, Nat.reduceLT, Nat.reduceLeDiff, Nat.reduceEqDiff, Nat.reduceBEq, Int.reduceToNat, Int.reduceLE, Int.reduceLT, Int.reduceEq, ↓reduceIte, reduceCtorEq, vDk, aDk, ty3, ty4, ty5, ty9, ty22, ty48, ty23, ty25, ty26, ty27, ty61, ty58, ty42, jo3, hX])
  (refine rwr_nil (hK _ ?_); clear hK K)
  (repeat (first | refine cw_seq' ?_ | refine cw_block ?_ | refine cw_true rfl ?_ | refine cw_false rfl ?_ | refine cw_exit ?_ | refine cw_skip ?_ | refine then_mk ?_ | refine then_exit ?_ | refine then_ret ?_ | refine blk_mk ?_ | refine blk_ret ?_ | refine blk_same ?_ | refine blk_ne (by decide) ?_))
  have yr : rS there ++ [[T.lit (Value.string s)]] = rS (there ++ [s]) := by simp [rS]
  (refine cw_region_k fun K hK => ?_; simp (maxSteps := 1000000) only [go_sem, Nat.reduceAdd, Nat.reduceSub, Nat.reduceMul, Nat.reduceLT, Nat.reduceLeDiff, Nat.reduceEqDiff, Nat.reduceBEq, Int.reduceToNat, Int.reduceLE, Int.reduceLT, Int.reduceEq, ↓reduceIte, reduceCtorEq, vDk, aDk, ty3, ty4, ty5, ty9, ty22, ty48, ty23, ty25, ty26, ty27, ty61, ty58, ty42, y10, y11, y12, y13, litS_, lenS_, yr, hX])
  (refine rwr_nil (hK _ ?_); clear hK K)
  refine cw_melt 21 168 (z := true) (rows := rS (there ++ [s])) (len := there.length + 1) rfl rfl (by simp [rS]) ?_
  refine cw_le (s := ⟨[(21, .one (.t true (.sl (rS (there ++ [s]))))), (20, .one (.t true (.sl (rS o)))), (18, litI .i64 k), (16, .one (.t false (.sl (rD way)))), (14, litS s), (13, litI .i64 i), (0, litI .i64 n), (1, .one (.t false (.sl (rS texts)))), (2, .one (.t false (.sl (rI at_)))), (3, .one (.t false (.sl (rB keep)))), (9, .one (.optr 9 0)), (19, .one (.optr 19 0)), (11, .one (.t false (.sl (rS there)))), (12, litI .i64 need)],
   [(19, .var 25 [.t true (.sl (rS l)), .t true (.sl [])]), (9, .var 25 [.t false (.sl (rS kept)), .t false (.sl [])])]⟩) (le_mk2 (by simp only [go_sem, Nat.reduceAdd, Nat.reduceSub, Nat.reduceMul, Nat.reduceLT, Nat.reduceLeDiff, Nat.reduceEqDiff, Nat.reduceBEq, Int.reduceToNat, Int.reduceLE, Int.reduceLT, Int.reduceEq, ↓reduceIte, reduceCtorEq, vDk, aDk, List.map_set, List.map_append, meltSt] <;> ((repeat' apply And.intro) <;> rfl))) ?_
  have hol : o.length ≤ maxLen := by
    have : o.length ≤ there.length + 1 := by
      rcases hl with ⟨h, _⟩ | ⟨h, _⟩ <;>
      · unfold openJ at ho
        rw [if_pos h.check] at ho
        simp only at ho
        rw [h.load] at ho
        have := congrArg (fun p : List ByteArray × Nat => p.1.length) ho
        simp at this
        omega
    unfold maxLen; omega
  have hS1 := sametexts_sp o (there ++ [s]) hol
  rcases hl with ⟨hI', hk', ht', hu'⟩ | ⟨hI', ht', hu'⟩
  · obtain rfl : there = o := by
      unfold openJ at ho
      rw [if_pos hI'.check] at ho
      simp only at ho
      rw [hI'.load] at ho
      exact congrArg (fun p : List ByteArray × Nat => p.1) ho
    rw [show decide (there = there ++ [s]) = false from by simp] at hS1
    have hS2 := sametexts_sp there there hol
    rw [show decide (there = there) = true from by simp] at hS2
    have y15 : ((k : Int) == ((way.length - 1 : Nat) : Int)) = false := by simp; omega
    (repeat (first | refine cw_seq' ?_ | refine cw_block ?_ | refine cw_true rfl ?_ | refine cw_false rfl ?_ | refine cw_exit ?_ | refine cw_skip ?_ | refine then_mk ?_ | refine then_exit ?_ | refine then_ret ?_ | refine blk_mk ?_ | refine blk_ret ?_ | refine blk_same ?_ | refine blk_ne (by decide) ?_))
    (refine cw_region_k fun K hK => ?_; simp (maxSteps := 1000000) only [go_sem, Nat.reduceAdd, Nat.reduceSub, Nat.reduceMul, Nat.reduceLT, Nat.reduceLeDiff, Nat.reduceEqDiff, Nat.reduceBEq, Int.reduceToNat, Int.reduceLE, Int.reduceLT, Int.reduceEq, ↓reduceIte, reduceCtorEq, vDk, aDk, ty3, ty4, ty5, ty9, ty22, ty48, ty23, ty25, ty26, ty27, ty61, ty58, ty42, hX])
    (refine rwr_call 9 (hS1) rfl rfl (by simp (maxSteps := 1000000) only [go_sem, Nat.reduceAdd, Nat.reduceSub, Nat.reduceMul, Nat.reduceLT, Nat.reduceLeDiff, Nat.reduceEqDiff, Nat.reduceBEq, Int.reduceToNat, Int.reduceLE, Int.reduceLT, Int.reduceEq, ↓reduceIte, reduceCtorEq, vDk, aDk, ty3, ty4, ty5, ty9, ty22, ty48, ty23, ty25, ty26, ty27, ty61, ty58, ty42, hX]) (by exact mode_r rfl) rfl (by rw [hX]; rfl) ?_; simp (maxSteps := 1000000) only [go_sem, Nat.reduceAdd, Nat.reduceSub, Nat.reduceMul, Nat.reduceLT, Nat.reduceLeDiff, Nat.reduceEqDiff, Nat.reduceBEq, Int.reduceToNat, Int.reduceLE, Int.reduceLT, Int.reduceEq, ↓reduceIte, reduceCtorEq, vDk, aDk, ty3, ty4, ty5, ty9, ty22, ty48, ty23, ty25, ty26, ty27, ty61, ty58, ty42, hX])
    (refine rwr_run ?_; simp (maxSteps := 1000000) only [go_sem, Nat.reduceAdd, Nat.reduceSub, Nat.reduceMul, Nat.reduceLT, Nat.reduceLeDiff, Nat.reduceEqDiff, Nat.reduceBEq, Int.reduceToNat, Int.reduceLE, Int.reduceLT, Int.reduceEq, ↓reduceIte, reduceCtorEq, vDk, aDk, ty3, ty4, ty5, ty9, ty22, ty48, ty23, ty25, ty26, ty27, ty61, ty58, ty42, hX])
    (refine rwr_nil (hK _ ?_); clear hK K)
    (repeat (first | refine cw_seq' ?_ | refine cw_block ?_ | refine cw_true rfl ?_ | refine cw_false rfl ?_ | refine cw_exit ?_ | refine cw_skip ?_ | refine then_mk ?_ | refine then_exit ?_ | refine then_ret ?_ | refine blk_mk ?_ | refine blk_ret ?_ | refine blk_same ?_ | refine blk_ne (by decide) ?_))
    (refine cw_region_k fun K hK => ?_; simp (maxSteps := 1000000) only [go_sem, Nat.reduceAdd, Nat.reduceSub, Nat.reduceMul, Nat.reduceLT, Nat.reduceLeDiff, Nat.reduceEqDiff, Nat.reduceBEq, Int.reduceToNat, Int.reduceLE, Int.reduceLT, Int.reduceEq, ↓reduceIte, reduceCtorEq, vDk, aDk, ty3, ty4, ty5, ty9, ty22, ty48, ty23, ty25, ty26, ty27, ty61, ty58, ty42, y14, y15, hX])
    (refine rwr_call 9 (hS2) rfl rfl (by simp (maxSteps := 1000000) only [go_sem, Nat.reduceAdd, Nat.reduceSub, Nat.reduceMul, Nat.reduceLT, Nat.reduceLeDiff, Nat.reduceEqDiff, Nat.reduceBEq, Int.reduceToNat, Int.reduceLE, Int.reduceLT, Int.reduceEq, ↓reduceIte, reduceCtorEq, vDk, aDk, ty3, ty4, ty5, ty9, ty22, ty48, ty23, ty25, ty26, ty27, ty61, ty58, ty42, hX]) (by exact mode_r rfl) rfl (by rw [hX]; rfl) ?_; simp (maxSteps := 1000000) only [go_sem, Nat.reduceAdd, Nat.reduceSub, Nat.reduceMul, Nat.reduceLT, Nat.reduceLeDiff, Nat.reduceEqDiff, Nat.reduceBEq, Int.reduceToNat, Int.reduceLE, Int.reduceLT, Int.reduceEq, ↓reduceIte, reduceCtorEq, vDk, aDk, ty3, ty4, ty5, ty9, ty22, ty48, ty23, ty25, ty26, ty27, ty61, ty58, ty42, hX])
    (refine rwr_run ?_; simp (maxSteps := 1000000) only [go_sem, Nat.reduceAdd, Nat.reduceSub, Nat.reduceMul, Nat.reduceLT, Nat.reduceLeDiff, Nat.reduceEqDiff, Nat.reduceBEq, Int.reduceToNat, Int.reduceLE, Int.reduceLT, Int.reduceEq, ↓reduceIte, reduceCtorEq, vDk, aDk, ty3, ty4, ty5, ty9, ty22, ty48, ty23, ty25, ty26, ty27, ty61, ty58, ty42, hX])
    (refine rwr_nil (hK _ ?_); clear hK K)
    (repeat (first | refine cw_seq' ?_ | refine cw_block ?_ | refine cw_true rfl ?_ | refine cw_false rfl ?_ | refine cw_exit ?_ | refine cw_skip ?_ | refine then_mk ?_ | refine then_exit ?_ | refine then_ret ?_ | refine blk_mk ?_ | refine blk_ret ?_ | refine blk_same ?_ | refine blk_ne (by decide) ?_))
    (refine cw_region_k fun K hK => ?_; simp (maxSteps := 1000000) only [go_sem, Nat.reduceAdd, Nat.reduceSub, Nat.reduceMul, Nat.reduceLT, Nat.reduceLeDiff, Nat.reduceEqDiff, Nat.reduceBEq, Int.reduceToNat, Int.reduceLE, Int.reduceLT, Int.reduceEq, ↓reduceIte, reduceCtorEq, vDk, aDk, ty3, ty4, ty5, ty9, ty22, ty48, ty23, ty25, ty26, ty27, ty61, ty58, ty42, hX])
    (refine rwr_nil (hK _ ?_); clear hK K)
    (repeat (first | refine cw_seq' ?_ | refine cw_block ?_ | refine cw_true rfl ?_ | refine cw_false rfl ?_ | refine cw_exit ?_ | refine cw_skip ?_ | refine then_mk ?_ | refine then_exit ?_ | refine then_ret ?_ | refine blk_mk ?_ | refine blk_ret ?_ | refine blk_same ?_ | refine blk_ne (by decide) ?_))
    refine cw_flat (s := ⟨[(13, litI .i64 i), (0, litI .i64 n), (1, .one (.t false (.sl (rS texts)))), (2, .one (.t false (.sl (rI at_)))), (3, .one (.t false (.sl (rB keep)))), (9, .one (.optr 9 0)), (19, .one (.optr 19 0)), (11, .one (.t false (.sl (rS there)))), (12, litI .i64 need)],
      [(19, .var 25 [.t false (.sl (rS l)), .t false (.sl [])]), (9, .var 25 [.t false (.sl (rS kept)), .t false (.sl [])])]⟩) (le_mk2 (by simp only [go_sem, Nat.reduceAdd, Nat.reduceSub, Nat.reduceMul, Nat.reduceLT, Nat.reduceLeDiff, Nat.reduceEqDiff, Nat.reduceBEq, Int.reduceToNat, Int.reduceLE, Int.reduceLT, Int.reduceEq, ↓reduceIte, reduceCtorEq, vDk, aDk, List.map_set, List.map_append] <;> ((repeat' apply And.intro) <;> rfl))) ?_
    (repeat (first | refine cw_seq' ?_ | refine cw_block ?_ | refine cw_true rfl ?_ | refine cw_false rfl ?_ | refine cw_exit ?_ | refine cw_ret ?_ | refine cw_skip ?_ | (refine cw_region_k fun K hK => ?_; simp (maxSteps := 1000000) only [go_sem, Nat.reduceAdd, Nat.reduceSub, Nat.reduceMul, Nat.reduceLT, Nat.reduceLeDiff, Nat.reduceEqDiff, Nat.reduceBEq, Int.reduceToNat, Int.reduceLE, Int.reduceLT, Int.reduceEq, ↓reduceIte, reduceCtorEq, vDk, aDk, ty3, ty4, ty5, ty9, ty22, ty48, ty23, ty25, ty26, ty27, ty61, ty58, ty42, y3, hX]; refine rwr_nil (hK _ ?_); clear hK K) | refine then_mk ?_ | refine then_exit ?_ | refine then_ret ?_ | refine blk_mk ?_ | refine blk_ret ?_ | refine blk_same ?_ | refine blk_ne (by decide) ?_))
    exact ⟨texts.length - (i + 1), by omega, _, ⟨i + 1, l, t', u', there, need, by omega, by omega, rfl, hI', by omega, hu', by omega, by omega, rfl⟩, le_mk2 (by simp only [go_sem, Nat.reduceAdd, Nat.reduceSub, Nat.reduceMul, Nat.reduceLT, Nat.reduceLeDiff, Nat.reduceEqDiff, Nat.reduceBEq, Int.reduceToNat, Int.reduceLE, Int.reduceLT, Int.reduceEq, ↓reduceIte, reduceCtorEq, vDk, aDk, List.map_set, List.map_append] <;> ((repeat' apply And.intro) <;> rfl))⟩
  · obtain rfl : there ++ [s] = o := by
      unfold openJ at ho
      rw [if_pos hI'.check] at ho
      simp only at ho
      rw [hI'.load] at ho
      exact congrArg (fun p : List ByteArray × Nat => p.1) ho
    rw [show decide (there ++ [s] = there ++ [s]) = true from by simp] at hS1
    (repeat (first | refine cw_seq' ?_ | refine cw_block ?_ | refine cw_true rfl ?_ | refine cw_false rfl ?_ | refine cw_exit ?_ | refine cw_skip ?_ | refine then_mk ?_ | refine then_exit ?_ | refine then_ret ?_ | refine blk_mk ?_ | refine blk_ret ?_ | refine blk_same ?_ | refine blk_ne (by decide) ?_))
    (refine cw_region_k fun K hK => ?_; simp (maxSteps := 1000000) only [go_sem, Nat.reduceAdd, Nat.reduceSub, Nat.reduceMul, Nat.reduceLT, Nat.reduceLeDiff, Nat.reduceEqDiff, Nat.reduceBEq, Int.reduceToNat, Int.reduceLE, Int.reduceLT, Int.reduceEq, ↓reduceIte, reduceCtorEq, vDk, aDk, ty3, ty4, ty5, ty9, ty22, ty48, ty23, ty25, ty26, ty27, ty61, ty58, ty42, hX])
    (refine rwr_call 9 (hS1) rfl rfl (by simp (maxSteps := 1000000) only [go_sem, Nat.reduceAdd, Nat.reduceSub, Nat.reduceMul, Nat.reduceLT, Nat.reduceLeDiff, Nat.reduceEqDiff, Nat.reduceBEq, Int.reduceToNat, Int.reduceLE, Int.reduceLT, Int.reduceEq, ↓reduceIte, reduceCtorEq, vDk, aDk, ty3, ty4, ty5, ty9, ty22, ty48, ty23, ty25, ty26, ty27, ty61, ty58, ty42, hX]) (by exact mode_r rfl) rfl (by rw [hX]; rfl) ?_; simp (maxSteps := 1000000) only [go_sem, Nat.reduceAdd, Nat.reduceSub, Nat.reduceMul, Nat.reduceLT, Nat.reduceLeDiff, Nat.reduceEqDiff, Nat.reduceBEq, Int.reduceToNat, Int.reduceLE, Int.reduceLT, Int.reduceEq, ↓reduceIte, reduceCtorEq, vDk, aDk, ty3, ty4, ty5, ty9, ty22, ty48, ty23, ty25, ty26, ty27, ty61, ty58, ty42, hX])
    (refine rwr_run ?_; simp (maxSteps := 1000000) only [go_sem, Nat.reduceAdd, Nat.reduceSub, Nat.reduceMul, Nat.reduceLT, Nat.reduceLeDiff, Nat.reduceEqDiff, Nat.reduceBEq, Int.reduceToNat, Int.reduceLE, Int.reduceLT, Int.reduceEq, ↓reduceIte, reduceCtorEq, vDk, aDk, ty3, ty4, ty5, ty9, ty22, ty48, ty23, ty25, ty26, ty27, ty61, ty58, ty42, hX])
    (refine rwr_nil (hK _ ?_); clear hK K)
    (repeat (first | refine cw_seq' ?_ | refine cw_block ?_ | refine cw_true rfl ?_ | refine cw_false rfl ?_ | refine cw_exit ?_ | refine cw_skip ?_ | refine then_mk ?_ | refine then_exit ?_ | refine then_ret ?_ | refine blk_mk ?_ | refine blk_ret ?_ | refine blk_same ?_ | refine blk_ne (by decide) ?_))
    (refine cw_region_k fun K hK => ?_; simp (maxSteps := 1000000) only [go_sem, Nat.reduceAdd, Nat.reduceSub, Nat.reduceMul, Nat.reduceLT, Nat.reduceLeDiff, Nat.reduceEqDiff, Nat.reduceBEq, Int.reduceToNat, Int.reduceLE, Int.reduceLT, Int.reduceEq, ↓reduceIte, reduceCtorEq, vDk, aDk, ty3, ty4, ty5, ty9, ty22, ty48, ty23, ty25, ty26, ty27, ty61, ty58, ty42, y14, hX])
    (refine rwr_nil (hK _ ?_); clear hK K)
    (repeat (first | refine cw_seq' ?_ | refine cw_block ?_ | refine cw_true rfl ?_ | refine cw_false rfl ?_ | refine cw_exit ?_ | refine cw_skip ?_ | refine then_mk ?_ | refine then_exit ?_ | refine then_ret ?_ | refine blk_mk ?_ | refine blk_ret ?_ | refine blk_same ?_ | refine blk_ne (by decide) ?_))
    (refine cw_region_k fun K hK => ?_; simp (maxSteps := 1000000) only [go_sem, Nat.reduceAdd, Nat.reduceSub, Nat.reduceMul, Nat.reduceLT, Nat.reduceLeDiff, Nat.reduceEqDiff, Nat.reduceBEq, Int.reduceToNat, Int.reduceLE, Int.reduceLT, Int.reduceEq, ↓reduceIte, reduceCtorEq, vDk, aDk, ty3, ty4, ty5, ty9, ty22, ty48, ty23, ty25, ty26, ty27, ty61, ty58, ty42, hX])
    (refine rwr_nil (hK _ ?_); clear hK K)
    (repeat (first | refine cw_seq' ?_ | refine cw_block ?_ | refine cw_true rfl ?_ | refine cw_false rfl ?_ | refine cw_exit ?_ | refine cw_skip ?_ | refine then_mk ?_ | refine then_exit ?_ | refine then_ret ?_ | refine blk_mk ?_ | refine blk_ret ?_ | refine blk_same ?_ | refine blk_ne (by decide) ?_))
    (refine cw_region_k fun K hK => ?_; simp (maxSteps := 1000000) only [go_sem, Nat.reduceAdd, Nat.reduceSub, Nat.reduceMul, Nat.reduceLT, Nat.reduceLeDiff, Nat.reduceEqDiff, Nat.reduceBEq, Int.reduceToNat, Int.reduceLE, Int.reduceLT, Int.reduceEq, ↓reduceIte, reduceCtorEq, vDk, aDk, ty3, ty4, ty5, ty9, ty22, ty48, ty23, ty25, ty26, ty27, ty61, ty58, ty42, hX])
    (refine rwr_nil (hK _ ?_); clear hK K)
    (repeat (first | refine cw_seq' ?_ | refine cw_block ?_ | refine cw_true rfl ?_ | refine cw_false rfl ?_ | refine cw_exit ?_ | refine cw_skip ?_ | refine then_mk ?_ | refine then_exit ?_ | refine then_ret ?_ | refine blk_mk ?_ | refine blk_ret ?_ | refine blk_same ?_ | refine blk_ne (by decide) ?_))
    (refine cw_region_k fun K hK => ?_; simp (maxSteps := 1000000) only [go_sem, Nat.reduceAdd, Nat.reduceSub, Nat.reduceMul, Nat.reduceLT, Nat.reduceLeDiff, Nat.reduceEqDiff, Nat.reduceBEq, Int.reduceToNat, Int.reduceLE, Int.reduceLT, Int.reduceEq, ↓reduceIte, reduceCtorEq, vDk, aDk, ty3, ty4, ty5, ty9, ty22, ty48, ty23, ty25, ty26, ty27, ty61, ty58, ty42, hX])
    (refine rwr_call 9 (hN) rfl rfl (by simp (maxSteps := 1000000) only [go_sem, Nat.reduceAdd, Nat.reduceSub, Nat.reduceMul, Nat.reduceLT, Nat.reduceLeDiff, Nat.reduceEqDiff, Nat.reduceBEq, Int.reduceToNat, Int.reduceLE, Int.reduceLT, Int.reduceEq, ↓reduceIte, reduceCtorEq, vDk, aDk, ty3, ty4, ty5, ty9, ty22, ty48, ty23, ty25, ty26, ty27, ty61, ty58, ty42, y4, hX]) (by exact mode_r rfl) rfl (by rw [hX]; rfl) ?_; simp (maxSteps := 1000000) only [go_sem, Nat.reduceAdd, Nat.reduceSub, Nat.reduceMul, Nat.reduceLT, Nat.reduceLeDiff, Nat.reduceEqDiff, Nat.reduceBEq, Int.reduceToNat, Int.reduceLE, Int.reduceLT, Int.reduceEq, ↓reduceIte, reduceCtorEq, vDk, aDk, ty3, ty4, ty5, ty9, ty22, ty48, ty23, ty25, ty26, ty27, ty61, ty58, ty42, y4, hX])
    (refine rwr_run ?_; simp (maxSteps := 1000000) only [go_sem, Nat.reduceAdd, Nat.reduceSub, Nat.reduceMul, Nat.reduceLT, Nat.reduceLeDiff, Nat.reduceEqDiff, Nat.reduceBEq, Int.reduceToNat, Int.reduceLE, Int.reduceLT, Int.reduceEq, ↓reduceIte, reduceCtorEq, vDk, aDk, ty3, ty4, ty5, ty9, ty22, ty48, ty23, ty25, ty26, ty27, ty61, ty58, ty42, y4, hX])
    (refine rwr_nil (hK _ ?_); clear hK K)
    (repeat (first | refine cw_seq' ?_ | refine cw_block ?_ | refine cw_true rfl ?_ | refine cw_false rfl ?_ | refine cw_exit ?_ | refine cw_skip ?_ | refine then_mk ?_ | refine then_exit ?_ | refine then_ret ?_ | refine blk_mk ?_ | refine blk_ret ?_ | refine blk_same ?_ | refine blk_ne (by decide) ?_))
    refine cw_flat (s := ⟨[(13, litI .i64 i), (0, litI .i64 n), (1, .one (.t false (.sl (rS texts)))), (2, .one (.t false (.sl (rI at_)))), (3, .one (.t false (.sl (rB keep)))), (9, .one (.optr 9 0)), (19, .one (.optr 19 0)), (11, .one (.t false (.sl (rS (there ++ [s]))))), (12, litI .i64 (need + needJ s : Nat))],
      [(19, .var 25 [.t false (.sl (rS l)), .t false (.sl [])]), (9, .var 25 [.t false (.sl (rS kept)), .t false (.sl [])])]⟩) (le_mk2 (by simp only [go_sem, Nat.reduceAdd, Nat.reduceSub, Nat.reduceMul, Nat.reduceLT, Nat.reduceLeDiff, Nat.reduceEqDiff, Nat.reduceBEq, Int.reduceToNat, Int.reduceLE, Int.reduceLT, Int.reduceEq, ↓reduceIte, reduceCtorEq, vDk, aDk, List.map_set, List.map_append] <;> ((repeat' apply And.intro) <;> rfl))) ?_
    (repeat (first | refine cw_seq' ?_ | refine cw_block ?_ | refine cw_true rfl ?_ | refine cw_false rfl ?_ | refine cw_exit ?_ | refine cw_ret ?_ | refine cw_skip ?_ | (refine cw_region_k fun K hK => ?_; simp (maxSteps := 1000000) only [go_sem, Nat.reduceAdd, Nat.reduceSub, Nat.reduceMul, Nat.reduceLT, Nat.reduceLeDiff, Nat.reduceEqDiff, Nat.reduceBEq, Int.reduceToNat, Int.reduceLE, Int.reduceLT, Int.reduceEq, ↓reduceIte, reduceCtorEq, vDk, aDk, ty3, ty4, ty5, ty9, ty22, ty48, ty23, ty25, ty26, ty27, ty61, ty58, ty42, y3, hX]; refine rwr_nil (hK _ ?_); clear hK K) | refine then_mk ?_ | refine then_exit ?_ | refine then_ret ?_ | refine blk_mk ?_ | refine blk_ret ?_ | refine blk_same ?_ | refine blk_ne (by decide) ?_))
    exact ⟨texts.length - (i + 1), by omega, _, ⟨i + 1, l, t', u', there ++ [s], need + needJ s, by omega, by omega, rfl, hI', by omega, hu', by omega, by simp; omega, rfl⟩, le_mk2 (by simp only [go_sem, Nat.reduceAdd, Nat.reduceSub, Nat.reduceMul, Nat.reduceLT, Nat.reduceLeDiff, Nat.reduceEqDiff, Nat.reduceBEq, Int.reduceToNat, Int.reduceLE, Int.reduceLT, Int.reduceEq, ↓reduceIte, reduceCtorEq, vDk, aDk, List.map_set, List.map_append] <;> ((repeat' apply And.intro) <;> rfl))⟩
theorem jopens_sp (sectors : Int) (texts : List ByteArray) (at_ : List Int) (keep : List Bool) (hT : texts.length ≤ maxLen) (hA : at_.length ≤ maxLen) : Sp Try.prog 6 [.one (.lit (.int .i64 sectors)), .one (.sl (rS texts)), .one (.sl (rI at_)), .one (.sl (rB keep))] (.one (.t true (.lit (.bool true)))) [] := by
  by_cases h : sectors < 4 ∨ 400 < sectors
  · exact opens_bad sectors texts at_ keep h
  · obtain ⟨n, rfl⟩ : ∃ n : Nat, sectors = n := ⟨sectors.toNat, by omega⟩
    exact opens_good n texts at_ keep (by omega) (by omega) hA hT
end Go.Proofs.Ytoghgjobfcnneaa.Ax
