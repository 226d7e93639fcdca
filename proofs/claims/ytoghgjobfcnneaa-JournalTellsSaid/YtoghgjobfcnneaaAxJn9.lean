/- Journals, by what is known: what must be in any case; JournalTells. -/
import Derived.Test.YtoghgjobfcnneaaAxJn7
import Derived.Test.YtoghgjobfcnneaaAxJn8
import Derived.Test.YtoghgjobfcnneaaAxDk4
namespace Go.Proofs.Ytoghgjobfcnneaa.Ax
open Go.RowKit


set_option linter.unusedSimpArgs false
attribute [local go_sem] extV appD ptrC fnC nilC nilPtr strRows_len runs runsN guardOf exec1 pureV modD rowD ev get St.app St.put St.turn loadC moveC fieldOf indexC lenC lenOk cutC bndOf evAll fieldV convV unV binV binI bitsV moreV intsT eqL eq1 valOf min1 lit1 litInt litI litB litS constV constC cellsV partsOf placesOf buildV fillL toT elemsOf rowsOf baseOf dstOk V.kill V.ment V.ments C.kill C.ment C.ments B.kill setD litRows litRows_append T.isLit callAll calleeV argsV argV viewC viewCs modeOk freeOps V.free C.free V.allF V.allFs C.allF C.allFs B.allF callD leL growSt growB C.flat V.flat B.flat flatL flatB St.flat List.set_cons_zero List.set_cons_succ C.only C.onlys V.only V.onlys B.only renI C.ren C.rens V.ren V.rens B.ren renB renOk nodK Option.getD_some Option.getD_none Option.isSome_some implies_true false_implies C.fit C.fits V.fit V.fit1 V.fits Bool.and_self ite_self exitV resV resL resC outV outV.outs eqB nn cast0 Int.toNat_natCast List.getElem?_map Value.cells Value.oneCell' Nat.lt_irrefl decide_true decide_false and_true true_and and_self and_false false_and not_true_eq_false not_false_eq_true not_true not_false List.size_toArray all_len Nat.zero_add Nat.add_zero List.length_cons List.length_append List.length_replicate List.length_set List.length_nil List.length_map List.map_cons List.map_nil List.take_succ_cons List.take_zero List.take_nil List.drop_succ_cons List.drop_zero List.drop_nil List.cons_append List.nil_append List.append_nil List.all_cons List.all_nil Bool.and_true Bool.true_and Bool.and_false Bool.false_and Bool.not_true Bool.not_false Bool.or_false Bool.or_true Bool.false_or Bool.true_or List.filter_cons List.filter_nil List.contains_cons List.contains_nil beq_self_eq_true List.getElem?_cons_zero List.getElem?_cons_succ List.getElem?_nil Option.map_some Option.map_none Option.toList_some Option.toList_none List.isEmpty_cons List.isEmpty_nil Bool.false_eq_true Bool.true_eq_false List.getElem?_toArray List.not_mem_nil List.mem_cons or_false forall_eq List.mem_singleton forall_const Option.toArray flsOf flOf flDist flRd flChk flLe tailF addF flSl dKeeps flFree closF notF if_true if_false plans stepE inD cleanSt dstsOf Oper.looksAt Op.operands Call.operands dnOf insN insAll prods pick stOf goneOf slOf blOf keepB' entD addB edge B.ment Region.binds idsOf tailOk clos List.any_cons List.any_nil List.filterMap_cons List.filterMap_nil ne_eq Bool.or_self List.isEmpty_iff Array.toList_append List.append_toArray Array.append_empty Option.bind_some Option.bind_none List.push_toArray argSv ioD modeIO staysOk callIO calleeIO argsIO valIO cellsIO cellIO butB zLe cLe csLe vLe vsLe bLe insLe renIOk nbOk foE foE.foR foE.foB anyText anyGc aliveF mK kdN klAt klAt.atL looksB remN dstNe nbIds provBl provBs provOf provOf.provH rdsOf idsR provR blsOf dnA edgesOf foSl inL dnE dnF dnH C.ids C.idss V.ids V.idss FHave FHave.rdHave FHave.blHave provF provF.provP findF hsOk NDst klOf dropS true_or or_true or_self
set_option maxRecDepth 100000
theorem toList_inj {x y : ByteArray} (h : x.toList = y.toList) : x = y := by
  have hx : x.toList = x.data.toList := bs_toList x.data.toList
  have hy : y.toList = y.data.toList := bs_toList y.data.toList
  rw [hx, hy] at h
  exact ByteArray.ext (Array.ext' h)
theorem sametexts_sp (a b : List ByteArray) (ha : a.length ≤ maxLen) : Sp Try.prog 25 [.one (.sl (rS a)), .one (.sl (rS b))] (.one (.t true (.lit (.bool (decide (a = b)))))) [] := by
  unfold maxLen at ha
  (refine sp_of Try.func25 (by kernel_rfl) rfl (by simp [Try.ntmps25]) fun X hX => ?_; rw [Try.ntmps25] at hX; simp only [argSl, List.map_cons, List.map_nil, Nat.reduceAdd])
  (repeat (first | refine cw_seq' ?_ | refine cw_block ?_ | refine cw_true rfl ?_ | refine cw_false rfl ?_ | refine cw_exit ?_ | refine cw_ret ?_ | refine cw_skip ?_ | (refine cw_region_k fun K hK => ?_; simp (maxSteps := 1000000) only [go_sem, Nat.reduceAdd, Nat.reduceSub, Nat.reduceMul, Nat.reduceLT, Nat.reduceLeDiff, Nat.reduceEqDiff, Nat.reduceBEq, Int.reduceToNat, Int.reduceLE, Int.reduceLT, Int.reduceEq, ↓reduceIte, reduceCtorEq, vDk, aDk, ty3, ty4, ty5, ty9, ty22, ty23, ty25, ty26, ty27, ty61, ty58, ty42, hX]; refine rwr_nil (hK _ ?_); clear hK K) | refine then_mk ?_ | refine then_exit ?_ | refine then_ret ?_ | refine blk_mk ?_ | refine blk_ret ?_ | refine blk_same ?_ | refine blk_ne (by decide) ?_))
  refine cw_cond rfl (fun c1 => ?_) (fun c1 => ?_)
  · have hne : decide (a = b) = false := by
      simp only [bne_iff_ne, ne_eq] at c1
      simp only [decide_eq_false_iff_not]
      rintro rfl; exact c1 rfl
    rw [hne]
    (repeat (first | refine cw_seq' ?_ | refine cw_block ?_ | refine cw_true rfl ?_ | refine cw_false rfl ?_ | refine cw_exit ?_ | refine cw_ret ?_ | refine cw_skip ?_ | (refine cw_region_k fun K hK => ?_; simp (maxSteps := 1000000) only [go_sem, Nat.reduceAdd, Nat.reduceSub, Nat.reduceMul, Nat.reduceLT, Nat.reduceLeDiff, Nat.reduceEqDiff, Nat.reduceBEq, Int.reduceToNat, Int.reduceLE, Int.reduceLT, Int.reduceEq, ↓reduceIte, reduceCtorEq, vDk, aDk, ty3, ty4, ty5, ty9, ty22, ty23, ty25, ty26, ty27, ty61, ty58, ty42, c1, hX]; refine rwr_nil (hK _ ?_); clear hK K) | refine then_mk ?_ | refine then_exit ?_ | refine then_ret ?_ | refine blk_mk ?_ | refine blk_ret ?_ | refine blk_same ?_ | refine blk_ne (by decide) ?_))
    (first | refine exit_retf ?_ | refine exit_normalf ?_); rw [Try.results25]; simp only [go_sem, Nat.reduceAdd, Nat.reduceSub, Nat.reduceMul, Nat.reduceLT, Nat.reduceLeDiff, Nat.reduceEqDiff, Nat.reduceBEq, Int.reduceToNat, Int.reduceLE, Int.reduceLT, Int.reduceEq, ↓reduceIte, reduceCtorEq, vDk, aDk, ty3, ty4, ty5, ty9, ty22, ty23, ty25, ty26, ty27, ty61, ty58, ty42, hX]
  have hab : a.length = b.length := by simp only [bne_eq_false_iff_eq] at c1; omega
  (repeat (first | refine cw_seq' ?_ | refine cw_block ?_ | refine cw_true rfl ?_ | refine cw_false rfl ?_ | refine cw_exit ?_ | refine cw_ret ?_ | refine cw_skip ?_ | (refine cw_region_k fun K hK => ?_; simp (maxSteps := 1000000) only [go_sem, Nat.reduceAdd, Nat.reduceSub, Nat.reduceMul, Nat.reduceLT, Nat.reduceLeDiff, Nat.reduceEqDiff, Nat.reduceBEq, Int.reduceToNat, Int.reduceLE, Int.reduceLT, Int.reduceEq, ↓reduceIte, reduceCtorEq, vDk, aDk, ty3, ty4, ty5, ty9, ty22, ty23, ty25, ty26, ty27, ty61, ty58, ty42, c1, hX]; refine rwr_nil (hK _ ?_); clear hK K) | refine then_mk ?_ | refine then_exit ?_ | refine then_ret ?_ | refine blk_mk ?_ | refine blk_ret ?_ | refine blk_same ?_ | refine blk_ne (by decide) ?_))
  refine cw_loop (fun m s => ∃ k, k ≤ a.length ∧ m = a.length - k ∧ a.take k = b.take k ∧ s = ⟨[(5, litI .i64 k), (0, .one (.t false (.sl (rS a)))), (1, .one (.t false (.sl (rS b))))], []⟩) a.length ⟨_, ⟨0, Nat.zero_le _, rfl, rfl, rfl⟩, le_mk2 (by simp only [go_sem, Nat.reduceAdd, Nat.reduceSub, Nat.reduceMul, Nat.reduceLT, Nat.reduceLeDiff, Nat.reduceEqDiff, Nat.reduceBEq, Int.reduceToNat, Int.reduceLE, Int.reduceLT, Int.reduceEq, ↓reduceIte, reduceCtorEq, vDk, aDk, List.map_set, List.map_append] <;> ((repeat' apply And.intro) <;> rfl))⟩ ?_
  rintro m s ⟨k, hk', rfl, htk, rfl⟩
  by_cases hlt : k < a.length
  · have e1 : decide ((k : Int) < (a.length : Int)) = true := by simp; omega
    have e5 : IntKind.i64.wrap ((k : Int) + 1) = ((k + 1 : Nat) : Int) := by rw [IntWalk.i64_in _ (by omega)]; rfl
    obtain ⟨x, hx⟩ : ∃ x, a[k]? = some x := ⟨_, List.getElem?_eq_getElem hlt⟩
    obtain ⟨y, hy⟩ : ∃ y, b[k]? = some y := ⟨_, List.getElem?_eq_getElem (by omega)⟩
    (repeat (first | refine cw_seq' ?_ | refine cw_block ?_ | refine cw_true rfl ?_ | refine cw_false rfl ?_ | refine cw_exit ?_ | refine cw_ret ?_ | refine cw_skip ?_ | (refine cw_region_k fun K hK => ?_; simp (maxSteps := 1000000) only [go_sem, Nat.reduceAdd, Nat.reduceSub, Nat.reduceMul, Nat.reduceLT, Nat.reduceLeDiff, Nat.reduceEqDiff, Nat.reduceBEq, Int.reduceToNat, Int.reduceLE, Int.reduceLT, Int.reduceEq, ↓reduceIte, reduceCtorEq, vDk, aDk, ty3, ty4, ty5, ty9, ty22, ty23, ty25, ty26, ty27, ty61, ty58, ty42, e1, hX]; refine rwr_nil (hK _ ?_); clear hK K) | refine then_mk ?_ | refine then_exit ?_ | refine then_ret ?_ | refine blk_mk ?_ | refine blk_ret ?_ | refine blk_same ?_ | refine blk_ne (by decide) ?_))
    (refine cw_sq (by kernel_rfl) (by kernel_rfl) (by simp only [dstsOf]; exact rfl) (by simp (maxSteps := 5000000) only [go_sem, Nat.reduceAdd, Nat.reduceSub, Nat.reduceMul, Nat.reduceLT, Nat.reduceLeDiff, Nat.reduceEqDiff, Nat.reduceBEq, Int.reduceToNat, Int.reduceLE, Int.reduceLT, Int.reduceEq, ↓reduceIte, reduceCtorEq, vDk, aDk, ty3, ty4, ty5, ty9, ty22, ty23, ty25, ty26, ty27, ty61, ty58, ty42, hx, hy, hX]; exact rfl) fun K hK => ?_)
    (repeat (refine sb_fl (by simp (maxSteps := 5000000) only [go_sem, Nat.reduceAdd, Nat.reduceSub, Nat.reduceMul, Nat.reduceLT, Nat.reduceLeDiff, Nat.reduceEqDiff, Nat.reduceBEq, Int.reduceToNat, Int.reduceLE, Int.reduceLT, Int.reduceEq, ↓reduceIte, reduceCtorEq, vDk, aDk, ty3, ty4, ty5, ty9, ty22, ty23, ty25, ty26, ty27, ty61, ty58, ty42, hx, hy, hX]; exact rfl) (by rw [hX]; rfl) (by simp only [List.cons_append, List.nil_append]; exact rfl) ?_))
    (refine sb_end (by kernel_rfl) (by simp (maxSteps := 5000000) only [go_sem, Nat.reduceAdd, Nat.reduceSub, Nat.reduceMul, Nat.reduceLT, Nat.reduceLeDiff, Nat.reduceEqDiff, Nat.reduceBEq, Int.reduceToNat, Int.reduceLE, Int.reduceLT, Int.reduceEq, ↓reduceIte, reduceCtorEq, vDk, aDk, ty3, ty4, ty5, ty9, ty22, ty23, ty25, ty26, ty27, ty61, ty58, ty42, hx, hy, hX]) (by simp (maxSteps := 5000000) only [go_sem, Nat.reduceAdd, Nat.reduceSub, Nat.reduceMul, Nat.reduceLT, Nat.reduceLeDiff, Nat.reduceEqDiff, Nat.reduceBEq, Int.reduceToNat, Int.reduceLE, Int.reduceLT, Int.reduceEq, ↓reduceIte, reduceCtorEq, vDk, aDk, ty3, ty4, ty5, ty9, ty22, ty23, ty25, ty26, ty27, ty61, ty58, ty42, hx, hy, hX]) (by simp (maxSteps := 5000000) only [go_sem, Nat.reduceAdd, Nat.reduceSub, Nat.reduceMul, Nat.reduceLT, Nat.reduceLeDiff, Nat.reduceEqDiff, Nat.reduceBEq, Int.reduceToNat, Int.reduceLE, Int.reduceLT, Int.reduceEq, ↓reduceIte, reduceCtorEq, vDk, aDk, ty3, ty4, ty5, ty9, ty22, ty23, ty25, ty26, ty27, ty61, ty58, ty42, hx, hy, hX]) (hK _ ?_); clear hK K; simp (maxSteps := 5000000) only [go_sem, Nat.reduceAdd, Nat.reduceSub, Nat.reduceMul, Nat.reduceLT, Nat.reduceLeDiff, Nat.reduceEqDiff, Nat.reduceBEq, Int.reduceToNat, Int.reduceLE, Int.reduceLT, Int.reduceEq, ↓reduceIte, reduceCtorEq, vDk, aDk, ty3, ty4, ty5, ty9, ty22, ty23, ty25, ty26, ty27, ty61, ty58, ty42, hx, hy, hX])
    (repeat (first | refine cw_seq' ?_ | refine cw_block ?_ | refine cw_true rfl ?_ | refine cw_false rfl ?_ | refine cw_exit ?_ | refine cw_ret ?_ | refine cw_skip ?_ | (refine cw_region_k fun K hK => ?_; simp (maxSteps := 1000000) only [go_sem, Nat.reduceAdd, Nat.reduceSub, Nat.reduceMul, Nat.reduceLT, Nat.reduceLeDiff, Nat.reduceEqDiff, Nat.reduceBEq, Int.reduceToNat, Int.reduceLE, Int.reduceLT, Int.reduceEq, ↓reduceIte, reduceCtorEq, vDk, aDk, ty3, ty4, ty5, ty9, ty22, ty23, ty25, ty26, ty27, ty61, ty58, ty42, hX]; refine rwr_nil (hK _ ?_); clear hK K) | refine then_mk ?_ | refine then_exit ?_ | refine then_ret ?_ | refine blk_mk ?_ | refine blk_ret ?_ | refine blk_same ?_ | refine blk_ne (by decide) ?_))
    refine cw_cond rfl (fun c2 => ?_) (fun c2 => ?_)
    · have hne : decide (a = b) = false := by
        simp only [decide_eq_false_iff_not]
        rintro rfl
        rw [hx] at hy
        injection hy with hy
        subst hy
        simp at c2
      rw [hne]
      (repeat (first | refine cw_seq' ?_ | refine cw_block ?_ | refine cw_true rfl ?_ | refine cw_false rfl ?_ | refine cw_exit ?_ | refine cw_ret ?_ | refine cw_skip ?_ | (refine cw_region_k fun K hK => ?_; simp (maxSteps := 1000000) only [go_sem, Nat.reduceAdd, Nat.reduceSub, Nat.reduceMul, Nat.reduceLT, Nat.reduceLeDiff, Nat.reduceEqDiff, Nat.reduceBEq, Int.reduceToNat, Int.reduceLE, Int.reduceLT, Int.reduceEq, ↓reduceIte, reduceCtorEq, vDk, aDk, ty3, ty4, ty5, ty9, ty22, ty23, ty25, ty26, ty27, ty61, ty58, ty42, c2, hX]; refine rwr_nil (hK _ ?_); clear hK K) | refine then_mk ?_ | refine then_exit ?_ | refine then_ret ?_ | refine blk_mk ?_ | refine blk_ret ?_ | refine blk_same ?_ | refine blk_ne (by decide) ?_))
      (first | refine exit_retf ?_ | refine exit_normalf ?_); rw [Try.results25]; simp only [go_sem, Nat.reduceAdd, Nat.reduceSub, Nat.reduceMul, Nat.reduceLT, Nat.reduceLeDiff, Nat.reduceEqDiff, Nat.reduceBEq, Int.reduceToNat, Int.reduceLE, Int.reduceLT, Int.reduceEq, ↓reduceIte, reduceCtorEq, vDk, aDk, ty3, ty4, ty5, ty9, ty22, ty23, ty25, ty26, ty27, ty61, ty58, ty42, hX]
    · have hxy : x = y := by
        have h1 : x.toList = y.toList := by simpa using c2
        exact toList_inj h1
      subst hxy
      have ht : a.take (k + 1) = b.take (k + 1) := by rw [List.take_add_one, List.take_add_one, htk, hx, hy]
      (repeat (first | refine cw_seq' ?_ | refine cw_block ?_ | refine cw_true rfl ?_ | refine cw_false rfl ?_ | refine cw_exit ?_ | refine cw_ret ?_ | refine cw_skip ?_ | (refine cw_region_k fun K hK => ?_; simp (maxSteps := 1000000) only [go_sem, Nat.reduceAdd, Nat.reduceSub, Nat.reduceMul, Nat.reduceLT, Nat.reduceLeDiff, Nat.reduceEqDiff, Nat.reduceBEq, Int.reduceToNat, Int.reduceLE, Int.reduceLT, Int.reduceEq, ↓reduceIte, reduceCtorEq, vDk, aDk, ty3, ty4, ty5, ty9, ty22, ty23, ty25, ty26, ty27, ty61, ty58, ty42, c2, e5, hX]; refine rwr_nil (hK _ ?_); clear hK K) | refine then_mk ?_ | refine then_exit ?_ | refine then_ret ?_ | refine blk_mk ?_ | refine blk_ret ?_ | refine blk_same ?_ | refine blk_ne (by decide) ?_))
      exact ⟨a.length - (k + 1), by omega, _, ⟨k + 1, by omega, rfl, ht, rfl⟩, le_mk2 (by simp only [go_sem, Nat.reduceAdd, Nat.reduceSub, Nat.reduceMul, Nat.reduceLT, Nat.reduceLeDiff, Nat.reduceEqDiff, Nat.reduceBEq, Int.reduceToNat, Int.reduceLE, Int.reduceLT, Int.reduceEq, ↓reduceIte, reduceCtorEq, vDk, aDk, List.map_set, List.map_append] <;> ((repeat' apply And.intro) <;> rfl))⟩
  · obtain rfl : k = a.length := by omega
    have heq : a = b := by
      rw [List.take_of_length_le (Nat.le_refl _), hab, List.take_of_length_le (Nat.le_refl _)] at htk
      exact htk
    have e1 : decide ((a.length : Int) < (a.length : Int)) = false := by simp
    have hd : decide (a = b) = true := by simpa using heq
    rw [hd]
    (repeat (first | refine cw_seq' ?_ | refine cw_block ?_ | refine cw_true rfl ?_ | refine cw_false rfl ?_ | refine cw_exit ?_ | refine cw_ret ?_ | refine cw_skip ?_ | (refine cw_region_k fun K hK => ?_; simp (maxSteps := 1000000) only [go_sem, Nat.reduceAdd, Nat.reduceSub, Nat.reduceMul, Nat.reduceLT, Nat.reduceLeDiff, Nat.reduceEqDiff, Nat.reduceBEq, Int.reduceToNat, Int.reduceLE, Int.reduceLT, Int.reduceEq, ↓reduceIte, reduceCtorEq, vDk, aDk, ty3, ty4, ty5, ty9, ty22, ty23, ty25, ty26, ty27, ty61, ty58, ty42, e1, hX]; refine rwr_nil (hK _ ?_); clear hK K) | refine then_mk ?_ | refine then_exit ?_ | refine then_ret ?_ | refine blk_mk ?_ | refine blk_ret ?_ | refine blk_same ?_ | refine blk_ne (by decide) ?_))
    (first | refine exit_retf ?_ | refine exit_normalf ?_); rw [Try.results25]; simp only [go_sem, Nat.reduceAdd, Nat.reduceSub, Nat.reduceMul, Nat.reduceLT, Nat.reduceLeDiff, Nat.reduceEqDiff, Nat.reduceBEq, Int.reduceToNat, Int.reduceLE, Int.reduceLT, Int.reduceEq, ↓reduceIte, reduceCtorEq, vDk, aDk, ty3, ty4, ty5, ty9, ty22, ty23, ty25, ty26, ty27, ty61, ty58, ty42, hX]
set_option maxRecDepth 1000000 in
theorem begun_plain : (formatJ 20).2 = 0 ∧ (appendJ (formatJ 20).1 ⟨#[115, 111, 109, 101, 32, 116, 101, 120, 116]⟩).2.2 = 0 ∧ (appendJ (formatJ 20).1 ⟨#[115, 111, 109, 101, 32, 116, 101, 120, 116]⟩).2.1.length = 5 ∧
    (appendJ (formatJ 20).1 ⟨#[115, 111, 109, 101, 32, 116, 101, 120, 116]⟩).1.kept.length ≤ maxLen ∧ (appendJ (formatJ 20).1 ⟨#[115, 111, 109, 101, 32, 116, 101, 120, 116]⟩).1.wr.length ≤ maxLen ∧ openJ (appendJ (formatJ 20).1 ⟨#[115, 111, 109, 101, 32, 116, 101, 120, 116]⟩).1 = ([⟨#[115, 111, 109, 101, 32, 116, 101, 120, 116]⟩], 0) ∧ openJ (formatJ 20).1 = ([], 0) := by
  refine ⟨by decide +kernel, by decide +kernel, by decide +kernel, by decide +kernel, by decide +kernel, by decide +kernel, by decide +kernel⟩
abbrev stJ : ByteArray := ⟨#[115, 111, 109, 101, 32, 116, 101, 120, 116]⟩
theorem begun_sp : Sp Try.prog 21 [] (.one (.t true (.lit (.bool true)))) [] := by
  obtain ⟨b1, b2, b3, hkl2, hwl2, b4, b5⟩ := begun_plain
  have hF := format_sp 20
  have hkl : (formatJ 20).1.kept.length ≤ maxLen := by decide +kernel
  have hwl : (formatJ 20).1.wr.length ≤ maxLen := by decide +kernel
  rw [b1] at hF
  generalize (formatJ 20).1 = D at *
  have hA := append_sp D stJ hkl hwl
  rw [b2] at hA
  have hO2 := open_sp D hkl hwl
  rw [b5] at hO2
  have hO1 := open_sp (appendJ D stJ).1 hkl2 hwl2
  rw [b4] at hO1
  generalize (appendJ D stJ).1 = X1 at *
  generalize (appendJ D stJ).2.1 = way at *
  have hF : Sp Try.prog 22 [.one (.lit (.int .i64 20))] (.tup [vDk true true D, .one (.t true (.lit (.int .i64 0)))]) [] := hF
  have hA : Sp Try.prog 19 [aDk D, .one (.lit (.string stJ))] (.tup [vDk true true X1, .one (.t true (.sl (rD way))), .one (.t true (.lit (.int .i64 0)))]) [] := hA
  have hO2 : Sp Try.prog 20 [aDk D] (.tup [.one (.t true (.sl [])), .one (.t true (.lit (.int .i64 0)))]) [] := hO2
  have hO1 : Sp Try.prog 20 [aDk X1] (.tup [.one (.t true (.sl [[.lit (.string stJ)]])), .one (.t true (.lit (.int .i64 0)))]) [] := hO1
  have hS : Sp Try.prog 25 [.one (.sl [[.lit (.string stJ)]]), .one (.sl [[.lit (.string stJ)]])] (.one (.t true (.lit (.bool true)))) [] := by
    have := sametexts_sp [stJ] [stJ] (by decide)
    rw [show decide ([stJ] = [stJ]) = true from by simp] at this
    exact this
  have z0 : ((0 : Int) == 0) = true := by decide
  have z1 : decide ((0 : Int) < (way.length : Int)) = true := by rw [b3]; decide
  (refine sp_of Try.func21 (by kernel_rfl) rfl (by simp [Try.ntmps21]) fun X hX => ?_; rw [Try.ntmps21] at hX; simp only [argSl, List.map_cons, List.map_nil, Nat.reduceAdd])
  (repeat (first | refine cw_seq' ?_ | refine cw_block ?_ | refine cw_true rfl ?_ | refine cw_false rfl ?_ | refine cw_exit ?_ | refine cw_skip ?_ | refine then_mk ?_ | refine then_exit ?_ | refine then_ret ?_ | refine blk_mk ?_ | refine blk_ret ?_ | refine blk_same ?_ | refine blk_ne (by decide) ?_))
  (refine cw_region_k fun K hK => ?_; simp (maxSteps := 1000000) only [go_sem, Nat.reduceAdd, Nat.reduceSub, Nat.reduceMul, Nat.reduceLT, Nat.reduceLeDiff, Nat.reduceEqDiff, Nat.reduceBEq, Int.reduceToNat, Int.reduceLE, Int.reduceLT, Int.reduceEq, ↓reduceIte, reduceCtorEq, vDk, aDk, ty3, ty4, ty5, ty9, ty22, ty23, ty25, ty26, ty27, ty61, ty58, ty42, hX])
  (refine rwr_nil (hK _ ?_); clear hK K)
  (repeat (first | refine cw_seq' ?_ | refine cw_block ?_ | refine cw_true rfl ?_ | refine cw_false rfl ?_ | refine cw_exit ?_ | refine cw_skip ?_ | refine then_mk ?_ | refine then_exit ?_ | refine then_ret ?_ | refine blk_mk ?_ | refine blk_ret ?_ | refine blk_same ?_ | refine blk_ne (by decide) ?_))
  (refine cw_region_k fun K hK => ?_; simp (maxSteps := 1000000) only [go_sem, Nat.reduceAdd, Nat.reduceSub, Nat.reduceMul, Nat.reduceLT, Nat.reduceLeDiff, Nat.reduceEqDiff, Nat.reduceBEq, Int.reduceToNat, Int.reduceLE, Int.reduceLT, Int.reduceEq, ↓reduceIte, reduceCtorEq, vDk, aDk, ty3, ty4, ty5, ty9, ty22, ty23, ty25, ty26, ty27, ty61, ty58, ty42, hX])
  (refine rwr_call 9 (hF) rfl rfl (by simp (maxSteps := 1000000) only [go_sem, Nat.reduceAdd, Nat.reduceSub, Nat.reduceMul, Nat.reduceLT, Nat.reduceLeDiff, Nat.reduceEqDiff, Nat.reduceBEq, Int.reduceToNat, Int.reduceLE, Int.reduceLT, Int.reduceEq, ↓reduceIte, reduceCtorEq, vDk, aDk, ty3, ty4, ty5, ty9, ty22, ty23, ty25, ty26, ty27, ty61, ty58, ty42, hX]) (by exact mode_r rfl) rfl (by rw [hX]; rfl) ?_; simp (maxSteps := 1000000) only [go_sem, Nat.reduceAdd, Nat.reduceSub, Nat.reduceMul, Nat.reduceLT, Nat.reduceLeDiff, Nat.reduceEqDiff, Nat.reduceBEq, Int.reduceToNat, Int.reduceLE, Int.reduceLT, Int.reduceEq, ↓reduceIte, reduceCtorEq, vDk, aDk, ty3, ty4, ty5, ty9, ty22, ty23, ty25, ty26, ty27, ty61, ty58, ty42, hX])
  (refine rwr_nil (hK _ ?_); clear hK K)
  (repeat (first | refine cw_seq' ?_ | refine cw_block ?_ | refine cw_true rfl ?_ | refine cw_false rfl ?_ | refine cw_exit ?_ | refine cw_skip ?_ | refine then_mk ?_ | refine then_exit ?_ | refine then_ret ?_ | refine blk_mk ?_ | refine blk_ret ?_ | refine blk_same ?_ | refine blk_ne (by decide) ?_))
  (refine cw_region_k fun K hK => ?_; simp (maxSteps := 1000000) only [go_sem, Nat.reduceAdd, Nat.reduceSub, Nat.reduceMul, Nat.reduceLT, Nat.reduceLeDiff, Nat.reduceEqDiff, Nat.reduceBEq, Int.reduceToNat, Int.reduceLE, Int.reduceLT, Int.reduceEq, ↓reduceIte, reduceCtorEq, vDk, aDk, ty3, ty4, ty5, ty9, ty22, ty23, ty25, ty26, ty27, ty61, ty58, ty42, hX])
  (refine rwr_call 9 (hA) rfl rfl (by simp (maxSteps := 1000000) only [go_sem, Nat.reduceAdd, Nat.reduceSub, Nat.reduceMul, Nat.reduceLT, Nat.reduceLeDiff, Nat.reduceEqDiff, Nat.reduceBEq, Int.reduceToNat, Int.reduceLE, Int.reduceLT, Int.reduceEq, ↓reduceIte, reduceCtorEq, vDk, aDk, ty3, ty4, ty5, ty9, ty22, ty23, ty25, ty26, ty27, ty61, ty58, ty42, hX]) (by exact mode_r rfl) rfl (by rw [hX]; rfl) ?_; simp (maxSteps := 1000000) only [go_sem, Nat.reduceAdd, Nat.reduceSub, Nat.reduceMul, Nat.reduceLT, Nat.reduceLeDiff, Nat.reduceEqDiff, Nat.reduceBEq, Int.reduceToNat, Int.reduceLE, Int.reduceLT, Int.reduceEq, ↓reduceIte, reduceCtorEq, vDk, aDk, ty3, ty4, ty5, ty9, ty22, ty23, ty25, ty26, ty27, ty61, ty58, ty42, hX])
  (refine rwr_nil (hK _ ?_); clear hK K)
  (repeat (first | refine cw_seq' ?_ | refine cw_block ?_ | refine cw_true rfl ?_ | refine cw_false rfl ?_ | refine cw_exit ?_ | refine cw_skip ?_ | refine then_mk ?_ | refine then_exit ?_ | refine then_ret ?_ | refine blk_mk ?_ | refine blk_ret ?_ | refine blk_same ?_ | refine blk_ne (by decide) ?_))
  (refine cw_region_k fun K hK => ?_; simp (maxSteps := 1000000) only [go_sem, Nat.reduceAdd, Nat.reduceSub, Nat.reduceMul, Nat.reduceLT, Nat.reduceLeDiff, Nat.reduceEqDiff, Nat.reduceBEq, Int.reduceToNat, Int.reduceLE, Int.reduceLT, Int.reduceEq, ↓reduceIte, reduceCtorEq, vDk, aDk, ty3, ty4, ty5, ty9, ty22, ty23, ty25, ty26, ty27, ty61, ty58, ty42, hX])
  (refine rwr_call 9 (hO1) rfl rfl (by simp (maxSteps := 1000000) only [go_sem, Nat.reduceAdd, Nat.reduceSub, Nat.reduceMul, Nat.reduceLT, Nat.reduceLeDiff, Nat.reduceEqDiff, Nat.reduceBEq, Int.reduceToNat, Int.reduceLE, Int.reduceLT, Int.reduceEq, ↓reduceIte, reduceCtorEq, vDk, aDk, ty3, ty4, ty5, ty9, ty22, ty23, ty25, ty26, ty27, ty61, ty58, ty42, hX]) (by exact mode_r rfl) rfl (by rw [hX]; rfl) ?_; simp (maxSteps := 1000000) only [go_sem, Nat.reduceAdd, Nat.reduceSub, Nat.reduceMul, Nat.reduceLT, Nat.reduceLeDiff, Nat.reduceEqDiff, Nat.reduceBEq, Int.reduceToNat, Int.reduceLE, Int.reduceLT, Int.reduceEq, ↓reduceIte, reduceCtorEq, vDk, aDk, ty3, ty4, ty5, ty9, ty22, ty23, ty25, ty26, ty27, ty61, ty58, ty42, hX])
  (refine rwr_nil (hK _ ?_); clear hK K)
  (repeat (first | refine cw_seq' ?_ | refine cw_block ?_ | refine cw_true rfl ?_ | refine cw_false rfl ?_ | refine cw_exit ?_ | refine cw_skip ?_ | refine then_mk ?_ | refine then_exit ?_ | refine then_ret ?_ | refine blk_mk ?_ | refine blk_ret ?_ | refine blk_same ?_ | refine blk_ne (by decide) ?_))
  (refine cw_region_k fun K hK => ?_; simp (maxSteps := 1000000) only [go_sem, Nat.reduceAdd, Nat.reduceSub, Nat.reduceMul, Nat.reduceLT, Nat.reduceLeDiff, Nat.reduceEqDiff, Nat.reduceBEq, Int.reduceToNat, Int.reduceLE, Int.reduceLT, Int.reduceEq, ↓reduceIte, reduceCtorEq, vDk, aDk, ty3, ty4, ty5, ty9, ty22, ty23, ty25, ty26, ty27, ty61, ty58, ty42, hX])
  (refine rwr_call 9 (hO2) rfl rfl (by simp (maxSteps := 1000000) only [go_sem, Nat.reduceAdd, Nat.reduceSub, Nat.reduceMul, Nat.reduceLT, Nat.reduceLeDiff, Nat.reduceEqDiff, Nat.reduceBEq, Int.reduceToNat, Int.reduceLE, Int.reduceLT, Int.reduceEq, ↓reduceIte, reduceCtorEq, vDk, aDk, ty3, ty4, ty5, ty9, ty22, ty23, ty25, ty26, ty27, ty61, ty58, ty42, hX]) (by exact mode_r rfl) rfl (by rw [hX]; rfl) ?_; simp (maxSteps := 1000000) only [go_sem, Nat.reduceAdd, Nat.reduceSub, Nat.reduceMul, Nat.reduceLT, Nat.reduceLeDiff, Nat.reduceEqDiff, Nat.reduceBEq, Int.reduceToNat, Int.reduceLE, Int.reduceLT, Int.reduceEq, ↓reduceIte, reduceCtorEq, vDk, aDk, ty3, ty4, ty5, ty9, ty22, ty23, ty25, ty26, ty27, ty61, ty58, ty42, hX])
  (refine rwr_nil (hK _ ?_); clear hK K)
  (repeat (first | refine cw_seq' ?_ | refine cw_block ?_ | refine cw_true rfl ?_ | refine cw_false rfl ?_ | refine cw_exit ?_ | refine cw_skip ?_ | refine then_mk ?_ | refine then_exit ?_ | refine then_ret ?_ | refine blk_mk ?_ | refine blk_ret ?_ | refine blk_same ?_ | refine blk_ne (by decide) ?_))
  (refine cw_region_n 10 fun K hK => ?_; simp (maxSteps := 1000000) only [go_sem, Nat.reduceAdd, Nat.reduceSub, Nat.reduceMul, Nat.reduceLT, Nat.reduceLeDiff, Nat.reduceEqDiff, Nat.reduceBEq, Int.reduceToNat, Int.reduceLE, Int.reduceLT, Int.reduceEq, ↓reduceIte, reduceCtorEq, vDk, aDk, ty3, ty4, ty5, ty9, ty22, ty23, ty25, ty26, ty27, ty61, ty58, ty42, z0, hX])
  (refine rwr_run ?_; simp (maxSteps := 1000000) only [go_sem, Nat.reduceAdd, Nat.reduceSub, Nat.reduceMul, Nat.reduceLT, Nat.reduceLeDiff, Nat.reduceEqDiff, Nat.reduceBEq, Int.reduceToNat, Int.reduceLE, Int.reduceLT, Int.reduceEq, ↓reduceIte, reduceCtorEq, vDk, aDk, ty3, ty4, ty5, ty9, ty22, ty23, ty25, ty26, ty27, ty61, ty58, ty42, z0, z1, hX])
  (refine rwr_call 9 (hS) rfl rfl (by simp (maxSteps := 1000000) only [go_sem, Nat.reduceAdd, Nat.reduceSub, Nat.reduceMul, Nat.reduceLT, Nat.reduceLeDiff, Nat.reduceEqDiff, Nat.reduceBEq, Int.reduceToNat, Int.reduceLE, Int.reduceLT, Int.reduceEq, ↓reduceIte, reduceCtorEq, vDk, aDk, ty3, ty4, ty5, ty9, ty22, ty23, ty25, ty26, ty27, ty61, ty58, ty42, hX]) (by exact mode_r rfl) rfl (by rw [hX]; rfl) ?_; simp (maxSteps := 1000000) only [go_sem, Nat.reduceAdd, Nat.reduceSub, Nat.reduceMul, Nat.reduceLT, Nat.reduceLeDiff, Nat.reduceEqDiff, Nat.reduceBEq, Int.reduceToNat, Int.reduceLE, Int.reduceLT, Int.reduceEq, ↓reduceIte, reduceCtorEq, vDk, aDk, ty3, ty4, ty5, ty9, ty22, ty23, ty25, ty26, ty27, ty61, ty58, ty42, hX])
  (refine rwr_nil (hK _ ?_); clear hK K)
  (repeat (first | refine cw_seq' ?_ | refine cw_block ?_ | refine cw_true rfl ?_ | refine cw_false rfl ?_ | refine cw_exit ?_ | refine cw_ret ?_ | refine cw_skip ?_ | (refine cw_region_k fun K hK => ?_; simp (maxSteps := 1000000) only [go_sem, Nat.reduceAdd, Nat.reduceSub, Nat.reduceMul, Nat.reduceLT, Nat.reduceLeDiff, Nat.reduceEqDiff, Nat.reduceBEq, Int.reduceToNat, Int.reduceLE, Int.reduceLT, Int.reduceEq, ↓reduceIte, reduceCtorEq, vDk, aDk, ty3, ty4, ty5, ty9, ty22, ty23, ty25, ty26, ty27, ty61, ty58, ty42, hX]; refine rwr_nil (hK _ ?_); clear hK K) | refine then_mk ?_ | refine then_exit ?_ | refine then_ret ?_ | refine blk_mk ?_ | refine blk_ret ?_ | refine blk_same ?_ | refine blk_ne (by decide) ?_))
  (first | refine exit_retf ?_ | refine exit_normalf ?_); rw [Try.results21]; simp only [go_sem, Nat.reduceAdd, Nat.reduceSub, Nat.reduceMul, Nat.reduceLT, Nat.reduceLeDiff, Nat.reduceEqDiff, Nat.reduceBEq, Int.reduceToNat, Int.reduceLE, Int.reduceLT, Int.reduceEq, ↓reduceIte, reduceCtorEq, vDk, aDk, ty3, ty4, ty5, ty9, ty22, ty23, ty25, ty26, ty27, ty61, ty58, ty42, hX]
theorem tells_plain (d : Dk) (s : ByteArray) : (checkD d ≠ 0 ∧ appendJ d s = (Dk.none, [], checkD d) ∧ openJ d = ([], checkD d)) ∨ (checkD d = 0 ∧ ∃ l f, openJ d = (l, f) ∧ (f = 0 ∨ f = 4 ∧ l = []) ∧ ∃ a w e, appendJ d s = (a, w, e) ∧ (2000 < s.size ∧ e = 2 ∧ a = Dk.none ∧ w = [] ∨ s.size ≤ 2000 ∧ (e = 0 ∨ (e = 4 ∨ e = 8) ∧ a = Dk.none ∧ w = []))) := by
  by_cases hc : checkD d = 0
  · refine .inr ⟨hc, ?_⟩
    unfold openJ appendJ
    rw [if_pos hc, if_pos hc]
    by_cases hs : s.size ≤ 2000
    · rw [if_pos hs]
      cases hl : loadJ d.kept with
      | none => exact ⟨_, _, rfl, .inr ⟨rfl, rfl⟩, _, _, _, rfl, .inr ⟨hs, .inr ⟨.inl rfl, rfl, rfl⟩⟩⟩
      | some p =>
        simp only
        by_cases hu : p.2.1 + 1 + partsJ s.size ≤ d.kept.length
        · rw [if_pos hu]; exact ⟨_, _, rfl, .inl rfl, _, _, _, rfl, .inr ⟨hs, .inl rfl⟩⟩
        · rw [if_neg hu]; exact ⟨_, _, rfl, .inl rfl, _, _, _, rfl, .inr ⟨hs, .inr ⟨.inr rfl, rfl, rfl⟩⟩⟩
    · rw [if_neg hs]
      cases hl : loadJ d.kept with
      | none => exact ⟨_, _, rfl, .inr ⟨rfl, rfl⟩, _, _, _, rfl, .inl ⟨by omega, rfl, rfl, rfl⟩⟩
      | some p => exact ⟨_, _, rfl, .inl rfl, _, _, _, rfl, .inl ⟨by omega, rfl, rfl, rfl⟩⟩
  · refine .inl ⟨hc, ?_, ?_⟩
    · rw [appendJ, if_neg hc]
    · rw [openJ, if_neg hc]
end Go.Proofs.Ytoghgjobfcnneaa.Ax
