/- Deltas, by what is known: the reference's ApplyOf. -/
import Derived.Test.YtnjjpblgcgikaaaDoorAxDl11
import Derived.Test.YtnjjpblgcgikaaaDoorAxG9
namespace Go.Proofs.YtnjjpblgcgikaaaDoor
open Go.RowKit
theorem take_snoc {α : Type} {l : List α} {j : Nat} {v : α} (h : l[j]? = some v) : l.take (j + 1) = l.take j ++ [v] := by
  rw [List.take_add_one, h]; rfl
/-- a list without its element at i, as far as j -/
def delJ (cur : List Vl) (i j : Nat) : List Vl := (cur.take j).take i ++ (cur.take j).drop (i + 1)
theorem delJ_at {cur : List Vl} {i : Nat} (hi : i < cur.length) : delJ cur i (i + 1) = delJ cur i i := by
  unfold delJ
  rw [List.take_take, List.take_take, List.drop_eq_nil_of_le (by rw [List.length_take]; omega), List.drop_eq_nil_of_le (by rw [List.length_take]; omega), Nat.min_eq_left (Nat.le_succ i), Nat.min_self]
theorem delJ_step {cur : List Vl} {i j : Nat} {v : Vl} (hj : cur[j]? = some v) (hne : ¬ j = i) : delJ cur i (j + 1) = delJ cur i j ++ [v] := by
  have hl : (cur.take j).length = j := by
    rw [List.length_take]
    have := (List.getElem?_eq_some_iff.1 hj).1
    omega
  unfold delJ
  rw [take_snoc hj]
  by_cases h : j < i
  · have a1 : (cur.take j ++ [v]).take i = cur.take j ++ [v] := List.take_of_length_le (by rw [List.length_append, hl, List.length_singleton]; omega)
    have a2 : (cur.take j ++ [v]).drop (i + 1) = [] := List.drop_eq_nil_of_le (by rw [List.length_append, hl, List.length_singleton]; omega)
    have a3 : (cur.take j).take i = cur.take j := List.take_of_length_le (by omega)
    have a4 : (cur.take j).drop (i + 1) = [] := List.drop_eq_nil_of_le (by omega)
    rw [a1, a2, a3, a4, List.append_nil, List.append_nil]
  · rw [List.take_append_of_le_length (by omega), List.drop_append_of_le_length (by omega), List.append_assoc]
theorem delJ_all (cur : List Vl) (i : Nat) : delJ cur i cur.length = cur.take i ++ cur.drop (i + 1) := by
  unfold delJ; rw [List.take_length]
theorem delJ_len (cur : List Vl) (i j : Nat) : (delJ cur i j).length ≤ cur.length := by
  unfold delJ
  simp only [List.length_append, List.length_take, List.length_drop]
  omega
def setJ (cur : List Vl) (i j : Nat) (u : Vl) : List Vl := (cur.take j).set i u
theorem setJ_at {cur : List Vl} {i : Nat} {u v : Vl} (hi : cur[i]? = some v) : setJ cur i (i + 1) u = setJ cur i i u ++ [u] := by
  have hl : (cur.take i).length = i := by
    rw [List.length_take]
    have := (List.getElem?_eq_some_iff.1 hi).1
    omega
  unfold setJ
  rw [take_snoc hi, List.set_append, if_neg (by omega), List.set_eq_of_length_le (l := cur.take i) (by omega), hl, Nat.sub_self]
  rfl
theorem setJ_step {cur : List Vl} {i j : Nat} {u v : Vl} (hj : cur[j]? = some v) (hne : ¬ j = i) : setJ cur i (j + 1) u = setJ cur i j u ++ [v] := by
  have hl : (cur.take j).length = j := by
    rw [List.length_take]
    have := (List.getElem?_eq_some_iff.1 hj).1
    omega
  unfold setJ
  rw [take_snoc hj, List.set_append]
  split
  · rfl
  · rw [List.set_eq_of_length_le (l := cur.take j) (by omega), List.set_eq_of_length_le (l := [v]) (by simp; omega)]
theorem setJ_all (cur : List Vl) (i : Nat) (u : Vl) : setJ cur i cur.length u = cur.set i u := by
  unfold setJ; rw [List.take_length]
end Go.Proofs.YtnjjpblgcgikaaaDoor
namespace Go.Proofs.YtnjjpblgcgikaaaDoor.Ax
open Go.RowKit
abbrev rD1c (d : Dl) : List C := [.t false (.lit (.int .i64 d.k)), .t false (.lit (.int .i64 d.at_)), .t false (.lit (.int .i64 d.ty)), .t false (.lit (.int .i64 d.v.k)), .t false (.lit (.int .i64 d.v.n)), .t false (.lit (.string d.v.s))]
set_option linter.unusedSimpArgs false
attribute [local go_sem] extV appD cutOwn appOwn clearOwn bdI mapD putD' keyOk getOr getM putM wholeV litCs asV asC ptrC fnC nilC nilPtr strRows_len runs runsN guardOf exec1 pureV modD rowD ev get St.app St.put St.turn loadC moveC fieldOf indexC lenC lenOk cutC bndOf evAll fieldV convV unV binV binI bitsV moreV intsT eqL eq1 valOf min1 lit1 litInt litI litB litS constV constC cellsV partsOf placesOf buildV fillL toT elemsOf rowsOf baseOf dstOk V.kill V.ment V.ments C.kill C.ment C.ments B.kill setD litRows litRows_append T.isLit callAll calleeV argsV argV viewC viewCs modeOk freeOps V.free C.free V.allF V.allFs C.allF C.allFs B.allF callD leL growSt C.flat V.flat B.flat flatL flatB St.flat List.set_cons_zero List.set_cons_succ C.only C.onlys V.only V.onlys B.only renI C.ren C.rens V.ren V.rens B.ren renB renOk nodK Option.getD_some Option.getD_none Option.isSome_some implies_true false_implies C.fit C.fits V.fit V.fit1 V.fits Bool.and_self ite_self exitV resV resL resC outV outV.outs eqB nn cast0 Int.toNat_natCast List.getElem?_map Value.cells Value.oneCell' Nat.lt_irrefl decide_true decide_false and_true true_and and_self and_false false_and not_true_eq_false not_false_eq_true not_true not_false List.size_toArray all_len Nat.zero_add Nat.add_zero List.length_cons List.length_append List.length_replicate List.length_set List.length_nil List.length_map List.map_cons List.map_nil List.take_succ_cons List.take_zero List.take_nil List.drop_succ_cons List.drop_zero List.drop_nil List.cons_append List.nil_append List.append_nil List.all_cons List.all_nil Bool.and_true Bool.true_and Bool.and_false Bool.false_and Bool.not_true Bool.not_false Bool.or_false Bool.or_true Bool.false_or Bool.true_or List.filter_cons List.filter_nil List.contains_cons List.contains_nil beq_self_eq_true List.getElem?_cons_zero List.getElem?_cons_succ List.getElem?_nil Option.map_some Option.map_none Option.toList_some Option.toList_none List.isEmpty_cons List.isEmpty_nil Bool.false_eq_true Bool.true_eq_false List.getElem?_toArray List.not_mem_nil List.mem_cons or_false forall_eq List.mem_singleton forall_const Option.toArray tailF addF flSl dKeeps flFree closF notF if_true if_false plans inD cleanSt dstsOf Oper.looksAt Op.operands Call.operands dnOf insN insAll prods pick stOf goneOf slOf blOf keepB' entD addB edge B.ment Region.binds tailOk clos List.any_cons List.any_nil List.filterMap_cons List.filterMap_nil ne_eq Bool.or_self List.isEmpty_iff Array.toList_append List.append_toArray Array.append_empty Option.bind_some Option.bind_none List.push_toArray argSv ioD modeIO staysOk callIO calleeIO argsIO valIO cellsIO cellIO butB zLe cLe csLe vLe vsLe bLe insLe renIOk nbOk foE foE.foR foE.foB anyText anyGc aliveF mK kdN klAt klAt.atL looksB remN dstNe nbIds provBl provBs provOf provOf.provH rdsOf idsR provR blsOf dnA edgesOf foSl inL dnE dnF dnH C.ids C.idss V.ids V.idss FHave FHave.rdHave FHave.blHave provF provF.provP findF hsOk NDst klOf dropS true_or or_true or_self ty3 ty4 ty9 ty5 ty39 ty22 ty52 ty23 ty24
set_option linter.unusedVariables false
set_option maxRecDepth 100000
theorem applyof_sp (r : List Vl) (l : List Dl) (hr : r.length ≤ 5) (hl : l.length ≤ maxLen) (hv : ∀ v ∈ r, v.chk = 0) (hw : (allW r.length l).2 = 0) :
    Sp Tryd.prog 12 [.one (.sl (rVs r)), .one (.sl (rDs l))] (.one (.t true (.sl (rVs (rawL r l))))) [] := by
  unfold maxLen at hl
  have b1 : r.length ≤ maxLen := by unfold maxLen; omega
  have b2 : r.length * 32 ≤ 140737488355328 := by omega
  (refine sp_of Tryd.func12 (by kernel_rfl) rfl (by simp [Tryd.ntmps12]) fun X hX => ?_; rw [Tryd.ntmps12] at hX; simp only [argSl, List.map_cons, List.map_nil, Nat.reduceAdd])
  (repeat (first | refine cw_seq' ?_ | refine cw_block ?_ | refine cw_true rfl ?_ | refine cw_false rfl ?_ | refine cw_exit ?_ | refine cw_ret ?_ | refine cw_skip ?_ | (refine cw_region_k fun K hK => ?_; simp (maxSteps := 1000000) only [go_sem, Nat.reduceAdd, Nat.reduceSub, Nat.reduceMul, Nat.reduceLT, Nat.reduceLeDiff, Nat.reduceEqDiff, Nat.reduceBEq, Int.reduceToNat, Int.reduceLE, Int.reduceLT, Int.reduceEq, ↓reduceIte, reduceCtorEq, meltSt, b1, b2, litV_, lenV_, List.length_map, hX]; refine rwr_nil (hK _ ?_); clear hK K) | refine then_mk ?_ | refine then_exit ?_ | refine then_ret ?_ | refine blk_mk ?_ | refine blk_ret ?_ | refine blk_same ?_ | refine blk_ne (by decide) ?_))
  refine cw_melt 5 12 rfl rfl (by simp) ?_
  refine cw_loop (fun m s => ∃ k cur, k ≤ l.length ∧ m = l.length - k ∧ cur.length ≤ 5 ∧ (∀ v ∈ cur, v.chk = 0) ∧ (allW cur.length (l.drop k)).2 = 0 ∧ rawL cur (l.drop k) = rawL r l ∧ s = ⟨[(6, litI .i64 k), (1, .one (.t false (.sl (rDs l)))), (5, .one (.t true (.sl (rVs cur))))], []⟩) l.length ⟨_, ⟨0, r, Nat.zero_le _, rfl, hr, hv, hw, rfl, rfl⟩, le_mk2 (by simp only [go_sem, Nat.reduceAdd, Nat.reduceSub, Nat.reduceMul, Nat.reduceLT, Nat.reduceLeDiff, Nat.reduceEqDiff, Nat.reduceBEq, Int.reduceToNat, Int.reduceLE, Int.reduceLT, Int.reduceEq, ↓reduceIte, reduceCtorEq, meltSt, List.map_set, List.map_append] <;> ((repeat' apply And.intro) <;> rfl))⟩ ?_
  rintro m s ⟨k, cur, hk, rfl, h5, hc, ha, hraw, rfl⟩
  by_cases hlt : k < l.length
  · have e1 : decide ((k : Int) < (l.length : Int)) = true := by simp; omega
    have e4 : IntKind.i64.wrap ((k : Int) + 1) = ((k + 1 : Nat) : Int) := by rw [IntWalk.i64_in _ (by omega)]; rfl
    obtain ⟨d, hd⟩ : ∃ d, l[k]? = some d := ⟨_, List.getElem?_eq_getElem hlt⟩
    have hdr : l.drop k = d :: l.drop (k + 1) := by
      rw [List.drop_eq_getElem_cons hlt]
      rw [List.getElem?_eq_getElem hlt] at hd
      injection hd with hd
      rw [hd]
    rw [hdr] at ha hraw
    unfold allW at ha
    split at ha
    · rename_i h1
      obtain ⟨g1, g2, g3, g4⟩ := oneW_ok h1 (by omega) (by omega)
      have hraw : rawL (rawV cur d) (l.drop (k + 1)) = rawL r l := hraw
      (repeat (first | refine cw_seq' ?_ | refine cw_block ?_ | refine cw_true rfl ?_ | refine cw_false rfl ?_ | refine cw_exit ?_ | refine cw_ret ?_ | refine cw_skip ?_ | (refine cw_region_k fun K hK => ?_; simp (maxSteps := 1000000) only [go_sem, Nat.reduceAdd, Nat.reduceSub, Nat.reduceMul, Nat.reduceLT, Nat.reduceLeDiff, Nat.reduceEqDiff, Nat.reduceBEq, Int.reduceToNat, Int.reduceLE, Int.reduceLT, Int.reduceEq, ↓reduceIte, reduceCtorEq, meltSt, e1, hd, hX]; refine rwr_nil (hK _ ?_); clear hK K) | refine then_mk ?_ | refine then_exit ?_ | refine then_ret ?_ | refine blk_mk ?_ | refine blk_ret ?_ | refine blk_same ?_ | refine blk_ne (by decide) ?_))
      refine cw_grow 8 35 39 3 rfl ?_
      rcases g4 with ⟨g4, g5⟩ | ⟨g4, g5, g6, g7⟩ | ⟨g4, g5, g6, g7, g8, g9⟩
      · have q1 : (d.k == 1) = true := by simp [g4]
        have q2 : (d.k == 2) = false := by simp [g4]
        have q3 : (d.k == 3) = false := by simp [g4]
        rw [g5] at ha
        rw [show rawV cur d = cur ++ [d.v] by unfold rawV; rw [if_pos g4]] at hraw
        refine cw_loop (fun m s => ∃ j n cu, j ≤ cur.length ∧ m = cur.length - j ∧ n = cu.length ∧ cu = cur.take j ∧ s = ⟨[(9, litI .i64 j), (8, .one (.own 35 n)), (7, .one (.optr 7 0)), (6, litI .i64 k), (1, .one (.t false (.sl (rDs l)))), (5, .one (.t true (.sl (rVs cur))))], [(35, .arr 39 3 true (rVs cu)), (7, .var 52 (rD1c d))]⟩) cur.length ⟨_, ⟨0, 0, [], Nat.zero_le _, rfl, rfl, rfl, rfl⟩, le_mk2 (by simp only [go_sem, Nat.reduceAdd, Nat.reduceSub, Nat.reduceMul, Nat.reduceLT, Nat.reduceLeDiff, Nat.reduceEqDiff, Nat.reduceBEq, Int.reduceToNat, Int.reduceLE, Int.reduceLT, Int.reduceEq, ↓reduceIte, reduceCtorEq, meltSt, List.map_set, List.map_append] <;> ((repeat' apply And.intro) <;> rfl))⟩ ?_
        rintro m s ⟨j, n, cu, hj, rfl, rfl, rfl, rfl⟩
        by_cases hjt : j < cur.length
        · have f1 : decide ((j : Int) < (cur.length : Int)) = true := by simp; omega
          have f2 : IntKind.i64.wrap ((j : Int) + 1) = ((j + 1 : Nat) : Int) := by rw [IntWalk.i64_in _ (by omega)]; rfl
          obtain ⟨v, hx⟩ : ∃ v, cur[j]? = some v := ⟨_, List.getElem?_eq_getElem hjt⟩
          have j2 : (j : Int) < (cur.length : Int) := by omega
          have j3 : (0 : Int) ≤ (j : Int) := by omega
          have hlj : (cur.take j).length = j := by rw [List.length_take]; omega
          have b3 : (cur.take j).length + 1 ≤ maxLen := by unfold maxLen; omega
          have b4 : ((cur.take j).length + 1) * 32 ≤ 140737488355328 := by omega
          (repeat (first | refine cw_seq' ?_ | refine cw_block ?_ | refine cw_true rfl ?_ | refine cw_false rfl ?_ | refine cw_exit ?_ | refine cw_ret ?_ | refine cw_skip ?_ | (refine cw_region_k fun K hK => ?_; simp (maxSteps := 1000000) only [go_sem, Nat.reduceAdd, Nat.reduceSub, Nat.reduceMul, Nat.reduceLT, Nat.reduceLeDiff, Nat.reduceEqDiff, Nat.reduceBEq, Int.reduceToNat, Int.reduceLE, Int.reduceLT, Int.reduceEq, ↓reduceIte, reduceCtorEq, meltSt, f1, f2, q2, q3, hx, hjt, j2, j3, b3, b4, litV_, lenV_, Int.toNat_natCast, List.length_map, List.getElem?_map, Option.map_some, hX]; refine rwr_nil (hK _ ?_); clear hK K) | refine then_mk ?_ | refine then_exit ?_ | refine then_ret ?_ | refine blk_mk ?_ | refine blk_ret ?_ | refine blk_same ?_ | refine blk_ne (by decide) ?_))
          exact ⟨cur.length - (j + 1), by omega, _, ⟨j + 1, (cur.take j).length + 1, cur.take j ++ [v], by omega, rfl, by simp, (take_snoc hx).symm, rfl⟩, le_mk2 (by simp only [go_sem, Nat.reduceAdd, Nat.reduceSub, Nat.reduceMul, Nat.reduceLT, Nat.reduceLeDiff, Nat.reduceEqDiff, Nat.reduceBEq, Int.reduceToNat, Int.reduceLE, Int.reduceLT, Int.reduceEq, ↓reduceIte, reduceCtorEq, meltSt, List.map_set, List.map_append, List.map_append, List.map_cons, List.map_nil] <;> ((repeat' apply And.intro) <;> rfl))⟩
        · obtain rfl : j = cur.length := by omega
          have f1 : decide ((cur.length : Int) < (cur.length : Int)) = false := by simp
          rw [List.take_length]
          have b3 : cur.length + 1 ≤ maxLen := by unfold maxLen; omega
          have b4 : (cur.length + 1) * 32 ≤ 140737488355328 := by omega
          (repeat (first | refine cw_seq' ?_ | refine cw_block ?_ | refine cw_true rfl ?_ | refine cw_false rfl ?_ | refine cw_exit ?_ | refine cw_skip ?_ | refine then_mk ?_ | refine then_exit ?_ | refine then_ret ?_ | refine blk_mk ?_ | refine blk_ret ?_ | refine blk_same ?_ | refine blk_ne (by decide) ?_))
          (refine cw_region_k fun K hK => ?_; simp (maxSteps := 1000000) only [go_sem, Nat.reduceAdd, Nat.reduceSub, Nat.reduceMul, Nat.reduceLT, Nat.reduceLeDiff, Nat.reduceEqDiff, Nat.reduceBEq, Int.reduceToNat, Int.reduceLE, Int.reduceLT, Int.reduceEq, ↓reduceIte, reduceCtorEq, meltSt, f1, hX])
          (refine rwr_nil (hK _ ?_); clear hK K)
          (repeat (first | refine cw_seq' ?_ | refine cw_block ?_ | refine cw_true rfl ?_ | refine cw_false rfl ?_ | refine cw_exit ?_ | refine cw_skip ?_ | refine then_mk ?_ | refine then_exit ?_ | refine then_ret ?_ | refine blk_mk ?_ | refine blk_ret ?_ | refine blk_same ?_ | refine blk_ne (by decide) ?_))
          (refine cw_region_k fun K hK => ?_; simp (maxSteps := 1000000) only [go_sem, Nat.reduceAdd, Nat.reduceSub, Nat.reduceMul, Nat.reduceLT, Nat.reduceLeDiff, Nat.reduceEqDiff, Nat.reduceBEq, Int.reduceToNat, Int.reduceLE, Int.reduceLT, Int.reduceEq, ↓reduceIte, reduceCtorEq, meltSt, q1, hX])
          (refine rwr_nil (hK _ ?_); clear hK K)
          (repeat (first | refine cw_seq' ?_ | refine cw_block ?_ | refine cw_true rfl ?_ | refine cw_false rfl ?_ | refine cw_exit ?_ | refine cw_skip ?_ | refine then_mk ?_ | refine then_exit ?_ | refine then_ret ?_ | refine blk_mk ?_ | refine blk_ret ?_ | refine blk_same ?_ | refine blk_ne (by decide) ?_))
          (refine cw_region_k fun K hK => ?_; simp (maxSteps := 1000000) only [go_sem, Nat.reduceAdd, Nat.reduceSub, Nat.reduceMul, Nat.reduceLT, Nat.reduceLeDiff, Nat.reduceEqDiff, Nat.reduceBEq, Int.reduceToNat, Int.reduceLE, Int.reduceLT, Int.reduceEq, ↓reduceIte, reduceCtorEq, meltSt, b3, b4, litV_, lenV_, List.length_map, hX])
          (refine rwr_nil (hK _ ?_); clear hK K)
          (repeat (first | refine cw_seq' ?_ | refine cw_block ?_ | refine cw_true rfl ?_ | refine cw_false rfl ?_ | refine cw_exit ?_ | refine cw_skip ?_ | refine then_mk ?_ | refine then_exit ?_ | refine then_ret ?_ | refine blk_mk ?_ | refine blk_ret ?_ | refine blk_same ?_ | refine blk_ne (by decide) ?_))
          (refine cw_region_k fun K hK => ?_; simp (maxSteps := 1000000) only [go_sem, Nat.reduceAdd, Nat.reduceSub, Nat.reduceMul, Nat.reduceLT, Nat.reduceLeDiff, Nat.reduceEqDiff, Nat.reduceBEq, Int.reduceToNat, Int.reduceLE, Int.reduceLT, Int.reduceEq, ↓reduceIte, reduceCtorEq, meltSt, hX])
          (refine rwr_nil (hK _ ?_); clear hK K)
          (repeat (first | refine cw_seq' ?_ | refine cw_block ?_ | refine cw_true rfl ?_ | refine cw_false rfl ?_ | refine cw_exit ?_ | refine cw_skip ?_ | refine then_mk ?_ | refine then_exit ?_ | refine then_ret ?_ | refine blk_mk ?_ | refine blk_ret ?_ | refine blk_same ?_ | refine blk_ne (by decide) ?_))
          refine cw_melt 5 73 rfl rfl (by simp) ?_
          (repeat (first | refine cw_seq' ?_ | refine cw_block ?_ | refine cw_true rfl ?_ | refine cw_false rfl ?_ | refine cw_exit ?_ | refine cw_ret ?_ | refine cw_skip ?_ | (refine cw_region_k fun K hK => ?_; simp (maxSteps := 1000000) only [go_sem, Nat.reduceAdd, Nat.reduceSub, Nat.reduceMul, Nat.reduceLT, Nat.reduceLeDiff, Nat.reduceEqDiff, Nat.reduceBEq, Int.reduceToNat, Int.reduceLE, Int.reduceLT, Int.reduceEq, ↓reduceIte, reduceCtorEq, meltSt, e4, hX]; refine rwr_nil (hK _ ?_); clear hK K) | refine then_mk ?_ | refine then_exit ?_ | refine then_ret ?_ | refine blk_mk ?_ | refine blk_ret ?_ | refine blk_same ?_ | refine blk_ne (by decide) ?_))
          exact ⟨l.length - (k + 1), by omega, _, ⟨k + 1, cur ++ [d.v], by omega, rfl, by simp; omega, fun v hv => by
            rcases List.mem_append.1 hv with hv | hv
            · exact hc v hv
            · rw [List.mem_singleton.1 hv]; exact g1, by simpa using ha, hraw, rfl⟩, le_mk2 (by simp only [go_sem, Nat.reduceAdd, Nat.reduceSub, Nat.reduceMul, Nat.reduceLT, Nat.reduceLeDiff, Nat.reduceEqDiff, Nat.reduceBEq, Int.reduceToNat, Int.reduceLE, Int.reduceLT, Int.reduceEq, ↓reduceIte, reduceCtorEq, meltSt, List.map_set, List.map_append, List.map_append, List.map_cons, List.map_nil] <;> ((repeat' apply And.intro) <;> rfl))⟩
      · have q1 : (d.k == 1) = false := by simp [g4]
        have q2 : (d.k == 2) = true := by simp [g4]
        have q3 : (d.k == 3) = false := by simp [g4]
        obtain ⟨i, hi⟩ : ∃ i : Nat, d.at_ = (i : Int) := ⟨d.at_.toNat, by omega⟩
        have hit : d.at_.toNat = i := by omega
        rw [show rawV cur d = cur.take i ++ cur.drop (i + 1) by unfold rawV; rw [if_neg (by omega), if_pos g4, hit]] at hraw
        rw [g7, show (cur.length : Int) - 1 = ((cur.take i ++ cur.drop (i + 1)).length : Int) by simp only [List.length_append, List.length_take, List.length_drop]; omega] at ha
        refine cw_loop (fun m s => ∃ j n cu, j ≤ cur.length ∧ m = cur.length - j ∧ n = cu.length ∧ cu = delJ cur i j ∧ s = ⟨[(9, litI .i64 j), (8, .one (.own 35 n)), (7, .one (.optr 7 0)), (6, litI .i64 k), (1, .one (.t false (.sl (rDs l)))), (5, .one (.t true (.sl (rVs cur))))], [(35, .arr 39 3 true (rVs cu)), (7, .var 52 (rD1c d))]⟩) cur.length ⟨_, ⟨0, 0, [], Nat.zero_le _, rfl, rfl, by simp [delJ], rfl⟩, le_mk2 (by simp only [go_sem, Nat.reduceAdd, Nat.reduceSub, Nat.reduceMul, Nat.reduceLT, Nat.reduceLeDiff, Nat.reduceEqDiff, Nat.reduceBEq, Int.reduceToNat, Int.reduceLE, Int.reduceLT, Int.reduceEq, ↓reduceIte, reduceCtorEq, meltSt, List.map_set, List.map_append] <;> ((repeat' apply And.intro) <;> rfl))⟩ ?_
        rintro m s ⟨j, n, cu, hj, rfl, rfl, rfl, rfl⟩
        by_cases hjt : j < cur.length
        · have f1 : decide ((j : Int) < (cur.length : Int)) = true := by simp; omega
          have f2 : IntKind.i64.wrap ((j : Int) + 1) = ((j + 1 : Nat) : Int) := by rw [IntWalk.i64_in _ (by omega)]; rfl
          obtain ⟨v, hx⟩ : ∃ v, cur[j]? = some v := ⟨_, List.getElem?_eq_getElem hjt⟩
          have j2 : (j : Int) < (cur.length : Int) := by omega
          have j3 : (0 : Int) ≤ (j : Int) := by omega
          by_cases hji : j = i
          · have f3 : ((j : Int) == d.at_) = true := by rw [hi]; simp [hji]
            (repeat (first | refine cw_seq' ?_ | refine cw_block ?_ | refine cw_true rfl ?_ | refine cw_false rfl ?_ | refine cw_exit ?_ | refine cw_ret ?_ | refine cw_skip ?_ | (refine cw_region_k fun K hK => ?_; simp (maxSteps := 1000000) only [go_sem, Nat.reduceAdd, Nat.reduceSub, Nat.reduceMul, Nat.reduceLT, Nat.reduceLeDiff, Nat.reduceEqDiff, Nat.reduceBEq, Int.reduceToNat, Int.reduceLE, Int.reduceLT, Int.reduceEq, ↓reduceIte, reduceCtorEq, meltSt, f1, f2, q2, q3, f3, hX]; refine rwr_nil (hK _ ?_); clear hK K) | refine then_mk ?_ | refine then_exit ?_ | refine then_ret ?_ | refine blk_mk ?_ | refine blk_ret ?_ | refine blk_same ?_ | refine blk_ne (by decide) ?_))
            exact ⟨cur.length - (j + 1), by omega, _, ⟨j + 1, (delJ cur i j).length, delJ cur i j, by omega, rfl, rfl, by subst hji; exact (delJ_at hjt).symm, rfl⟩, le_mk2 (by simp only [go_sem, Nat.reduceAdd, Nat.reduceSub, Nat.reduceMul, Nat.reduceLT, Nat.reduceLeDiff, Nat.reduceEqDiff, Nat.reduceBEq, Int.reduceToNat, Int.reduceLE, Int.reduceLT, Int.reduceEq, ↓reduceIte, reduceCtorEq, meltSt, List.map_set, List.map_append] <;> ((repeat' apply And.intro) <;> rfl))⟩
          · have f3 : ((j : Int) == d.at_) = false := by rw [hi]; simp; omega
            have hlj := delJ_len cur i j
            have b3 : (delJ cur i j).length + 1 ≤ maxLen := by unfold maxLen; omega
            have b4 : ((delJ cur i j).length + 1) * 32 ≤ 140737488355328 := by omega
            (repeat (first | refine cw_seq' ?_ | refine cw_block ?_ | refine cw_true rfl ?_ | refine cw_false rfl ?_ | refine cw_exit ?_ | refine cw_ret ?_ | refine cw_skip ?_ | (refine cw_region_k fun K hK => ?_; simp (maxSteps := 1000000) only [go_sem, Nat.reduceAdd, Nat.reduceSub, Nat.reduceMul, Nat.reduceLT, Nat.reduceLeDiff, Nat.reduceEqDiff, Nat.reduceBEq, Int.reduceToNat, Int.reduceLE, Int.reduceLT, Int.reduceEq, ↓reduceIte, reduceCtorEq, meltSt, f1, f2, q2, q3, f3, hx, hjt, j2, j3, b3, b4, litV_, lenV_, Int.toNat_natCast, List.length_map, List.getElem?_map, Option.map_some, hX]; refine rwr_nil (hK _ ?_); clear hK K) | refine then_mk ?_ | refine then_exit ?_ | refine then_ret ?_ | refine blk_mk ?_ | refine blk_ret ?_ | refine blk_same ?_ | refine blk_ne (by decide) ?_))
            exact ⟨cur.length - (j + 1), by omega, _, ⟨j + 1, (delJ cur i j).length + 1, delJ cur i j ++ [v], by omega, rfl, by simp, (delJ_step hx hji).symm, rfl⟩, le_mk2 (by simp only [go_sem, Nat.reduceAdd, Nat.reduceSub, Nat.reduceMul, Nat.reduceLT, Nat.reduceLeDiff, Nat.reduceEqDiff, Nat.reduceBEq, Int.reduceToNat, Int.reduceLE, Int.reduceLT, Int.reduceEq, ↓reduceIte, reduceCtorEq, meltSt, List.map_set, List.map_append, List.map_append, List.map_cons, List.map_nil] <;> ((repeat' apply And.intro) <;> rfl))⟩
        · obtain rfl : j = cur.length := by omega
          have f1 : decide ((cur.length : Int) < (cur.length : Int)) = false := by simp
          rw [delJ_all]
          (repeat (first | refine cw_seq' ?_ | refine cw_block ?_ | refine cw_true rfl ?_ | refine cw_false rfl ?_ | refine cw_exit ?_ | refine cw_skip ?_ | refine then_mk ?_ | refine then_exit ?_ | refine then_ret ?_ | refine blk_mk ?_ | refine blk_ret ?_ | refine blk_same ?_ | refine blk_ne (by decide) ?_))
          (refine cw_region_k fun K hK => ?_; simp (maxSteps := 1000000) only [go_sem, Nat.reduceAdd, Nat.reduceSub, Nat.reduceMul, Nat.reduceLT, Nat.reduceLeDiff, Nat.reduceEqDiff, Nat.reduceBEq, Int.reduceToNat, Int.reduceLE, Int.reduceLT, Int.reduceEq, ↓reduceIte, reduceCtorEq, meltSt, f1, hX])
          (refine rwr_nil (hK _ ?_); clear hK K)
          (repeat (first | refine cw_seq' ?_ | refine cw_block ?_ | refine cw_true rfl ?_ | refine cw_false rfl ?_ | refine cw_exit ?_ | refine cw_skip ?_ | refine then_mk ?_ | refine then_exit ?_ | refine then_ret ?_ | refine blk_mk ?_ | refine blk_ret ?_ | refine blk_same ?_ | refine blk_ne (by decide) ?_))
          (refine cw_region_k fun K hK => ?_; simp (maxSteps := 1000000) only [go_sem, Nat.reduceAdd, Nat.reduceSub, Nat.reduceMul, Nat.reduceLT, Nat.reduceLeDiff, Nat.reduceEqDiff, Nat.reduceBEq, Int.reduceToNat, Int.reduceLE, Int.reduceLT, Int.reduceEq, ↓reduceIte, reduceCtorEq, meltSt, q1, hX])
          (refine rwr_nil (hK _ ?_); clear hK K)
          (repeat (first | refine cw_seq' ?_ | refine cw_block ?_ | refine cw_true rfl ?_ | refine cw_false rfl ?_ | refine cw_exit ?_ | refine cw_skip ?_ | refine then_mk ?_ | refine then_exit ?_ | refine then_ret ?_ | refine blk_mk ?_ | refine blk_ret ?_ | refine blk_same ?_ | refine blk_ne (by decide) ?_))
          (refine cw_region_k fun K hK => ?_; simp (maxSteps := 1000000) only [go_sem, Nat.reduceAdd, Nat.reduceSub, Nat.reduceMul, Nat.reduceLT, Nat.reduceLeDiff, Nat.reduceEqDiff, Nat.reduceBEq, Int.reduceToNat, Int.reduceLE, Int.reduceLT, Int.reduceEq, ↓reduceIte, reduceCtorEq, meltSt, hX])
          (refine rwr_nil (hK _ ?_); clear hK K)
          (repeat (first | refine cw_seq' ?_ | refine cw_block ?_ | refine cw_true rfl ?_ | refine cw_false rfl ?_ | refine cw_exit ?_ | refine cw_skip ?_ | refine then_mk ?_ | refine then_exit ?_ | refine then_ret ?_ | refine blk_mk ?_ | refine blk_ret ?_ | refine blk_same ?_ | refine blk_ne (by decide) ?_))
          refine cw_melt 5 35 rfl rfl (by simp) ?_
          (repeat (first | refine cw_seq' ?_ | refine cw_block ?_ | refine cw_true rfl ?_ | refine cw_false rfl ?_ | refine cw_exit ?_ | refine cw_ret ?_ | refine cw_skip ?_ | (refine cw_region_k fun K hK => ?_; simp (maxSteps := 1000000) only [go_sem, Nat.reduceAdd, Nat.reduceSub, Nat.reduceMul, Nat.reduceLT, Nat.reduceLeDiff, Nat.reduceEqDiff, Nat.reduceBEq, Int.reduceToNat, Int.reduceLE, Int.reduceLT, Int.reduceEq, ↓reduceIte, reduceCtorEq, meltSt, e4, hX]; refine rwr_nil (hK _ ?_); clear hK K) | refine then_mk ?_ | refine then_exit ?_ | refine then_ret ?_ | refine blk_mk ?_ | refine blk_ret ?_ | refine blk_same ?_ | refine blk_ne (by decide) ?_))
          exact ⟨l.length - (k + 1), by omega, _, ⟨k + 1, cur.take i ++ cur.drop (i + 1), by omega, rfl, by simp only [List.length_append, List.length_take, List.length_drop]; omega, fun v hv => by
            rcases List.mem_append.1 hv with hv | hv
            · exact hc v (List.mem_of_mem_take hv)
            · exact hc v (List.mem_of_mem_drop hv), ha, hraw, rfl⟩, le_mk2 (by simp only [go_sem, Nat.reduceAdd, Nat.reduceSub, Nat.reduceMul, Nat.reduceLT, Nat.reduceLeDiff, Nat.reduceEqDiff, Nat.reduceBEq, Int.reduceToNat, Int.reduceLE, Int.reduceLT, Int.reduceEq, ↓reduceIte, reduceCtorEq, meltSt, List.map_set, List.map_append] <;> ((repeat' apply And.intro) <;> rfl))⟩
      · have q1 : (d.k == 1) = false := by simp [g4]
        have q2 : (d.k == 2) = false := by simp [g4]
        have q3 : (d.k == 3) = true := by simp [g4]
        obtain ⟨i, hi⟩ : ∃ i : Nat, d.at_ = (i : Int) := ⟨d.at_.toNat, by omega⟩
        have hit : d.at_.toNat = i := by omega
        obtain ⟨v0, hx0⟩ : ∃ v, cur[i]? = some v := ⟨_, List.getElem?_eq_getElem (by omega)⟩
        have hvc := hc v0 (List.mem_of_getElem? hx0)
        have hcv : (castV v0 d.ty).chk = 0 := castV_chk v0 d.ty hvc g7 g8
        rw [g9] at ha
        rw [show rawV cur d = cur.set i (castV v0 d.ty) by unfold rawV; rw [if_neg (by omega), if_neg (by omega), hit, hx0]] at hraw
        have hT := castof_sp v0 hvc d.ty g7 g8
        refine cw_loop (fun m s => ∃ j n cu, j ≤ cur.length ∧ m = cur.length - j ∧ n = cu.length ∧ cu = setJ cur i j (castV v0 d.ty) ∧ ((¬ j = i + 1 ∧ s = ⟨[(9, litI .i64 j), (8, .one (.own 35 n)), (7, .one (.optr 7 0)), (6, litI .i64 k), (1, .one (.t false (.sl (rDs l)))), (5, .one (.t true (.sl (rVs cur))))], [(35, .arr 39 3 true (rVs cu)), (7, .var 52 (rD1c d))]⟩) ∨ (j = i + 1 ∧ s = ⟨[(9, litI .i64 j), (8, .one (.own 65 n)), (7, .one (.optr 7 0)), (6, litI .i64 k), (1, .one (.t false (.sl (rDs l)))), (5, .one (.t true (.sl (rVs cur))))], [(65, .arr 39 3 true (rVs cu)), (7, .var 52 (rD1c d))]⟩))) cur.length ⟨_, ⟨0, 0, [], Nat.zero_le _, rfl, rfl, by simp [setJ], .inl ⟨by omega, rfl⟩⟩, le_mk2 (by simp only [go_sem, Nat.reduceAdd, Nat.reduceSub, Nat.reduceMul, Nat.reduceLT, Nat.reduceLeDiff, Nat.reduceEqDiff, Nat.reduceBEq, Int.reduceToNat, Int.reduceLE, Int.reduceLT, Int.reduceEq, ↓reduceIte, reduceCtorEq, meltSt, List.map_set, List.map_append] <;> ((repeat' apply And.intro) <;> rfl))⟩ ?_
        rintro m s ⟨j, n, cu, hj, rfl, rfl, rfl, hss⟩
        have hlj : (setJ cur i j (castV v0 d.ty)).length ≤ cur.length := by unfold setJ; rw [List.length_set, List.length_take]; omega
        by_cases hjt : j < cur.length
        · have f1 : decide ((j : Int) < (cur.length : Int)) = true := by simp; omega
          have f2 : IntKind.i64.wrap ((j : Int) + 1) = ((j + 1 : Nat) : Int) := by rw [IntWalk.i64_in _ (by omega)]; rfl
          have j2 : (j : Int) < (cur.length : Int) := by omega
          have j3 : (0 : Int) ≤ (j : Int) := by omega
          have b3 : (setJ cur i j (castV v0 d.ty)).length + 1 ≤ maxLen := by unfold maxLen; omega
          have b4 : ((setJ cur i j (castV v0 d.ty)).length + 1) * 32 ≤ 140737488355328 := by omega
          by_cases hji : j = i
          · subst hji
            have f3 : ((j : Int) == d.at_) = true := by rw [hi]; simp
            rcases hss with ⟨_, rfl⟩ | ⟨h, _⟩
            · (repeat (first | refine cw_seq' ?_ | refine cw_block ?_ | refine cw_true rfl ?_ | refine cw_false rfl ?_ | refine cw_exit ?_ | refine cw_skip ?_ | refine then_mk ?_ | refine then_exit ?_ | refine then_ret ?_ | refine blk_mk ?_ | refine blk_ret ?_ | refine blk_same ?_ | refine blk_ne (by decide) ?_))
              (refine cw_region_k fun K hK => ?_; simp (maxSteps := 1000000) only [go_sem, Nat.reduceAdd, Nat.reduceSub, Nat.reduceMul, Nat.reduceLT, Nat.reduceLeDiff, Nat.reduceEqDiff, Nat.reduceBEq, Int.reduceToNat, Int.reduceLE, Int.reduceLT, Int.reduceEq, ↓reduceIte, reduceCtorEq, meltSt, f1, hX])
              (refine rwr_nil (hK _ ?_); clear hK K)
              (repeat (first | refine cw_seq' ?_ | refine cw_block ?_ | refine cw_true rfl ?_ | refine cw_false rfl ?_ | refine cw_exit ?_ | refine cw_skip ?_ | refine then_mk ?_ | refine then_exit ?_ | refine then_ret ?_ | refine blk_mk ?_ | refine blk_ret ?_ | refine blk_same ?_ | refine blk_ne (by decide) ?_))
              (refine cw_region_k fun K hK => ?_; simp (maxSteps := 1000000) only [go_sem, Nat.reduceAdd, Nat.reduceSub, Nat.reduceMul, Nat.reduceLT, Nat.reduceLeDiff, Nat.reduceEqDiff, Nat.reduceBEq, Int.reduceToNat, Int.reduceLE, Int.reduceLT, Int.reduceEq, ↓reduceIte, reduceCtorEq, meltSt, q2, hX])
              (refine rwr_nil (hK _ ?_); clear hK K)
              (repeat (first | refine cw_seq' ?_ | refine cw_block ?_ | refine cw_true rfl ?_ | refine cw_false rfl ?_ | refine cw_exit ?_ | refine cw_skip ?_ | refine then_mk ?_ | refine then_exit ?_ | refine then_ret ?_ | refine blk_mk ?_ | refine blk_ret ?_ | refine blk_same ?_ | refine blk_ne (by decide) ?_))
              (refine cw_region_k fun K hK => ?_; simp (maxSteps := 1000000) only [go_sem, Nat.reduceAdd, Nat.reduceSub, Nat.reduceMul, Nat.reduceLT, Nat.reduceLeDiff, Nat.reduceEqDiff, Nat.reduceBEq, Int.reduceToNat, Int.reduceLE, Int.reduceLT, Int.reduceEq, ↓reduceIte, reduceCtorEq, meltSt, q3, f3, hX])
              (refine rwr_nil (hK _ ?_); clear hK K)
              (repeat (first | refine cw_seq' ?_ | refine cw_block ?_ | refine cw_true rfl ?_ | refine cw_false rfl ?_ | refine cw_exit ?_ | refine cw_skip ?_ | refine then_mk ?_ | refine then_exit ?_ | refine then_ret ?_ | refine blk_mk ?_ | refine blk_ret ?_ | refine blk_same ?_ | refine blk_ne (by decide) ?_))
              (refine cw_drawn_m 9 (by kernel_rfl) (by kernel_rfl) fun K hK => ?_; simp (maxSteps := 5000000) only [go_sem, Nat.reduceAdd, Nat.reduceSub, Nat.reduceMul, Nat.reduceLT, Nat.reduceLeDiff, Nat.reduceEqDiff, Nat.reduceBEq, Int.reduceToNat, Int.reduceLE, Int.reduceLT, Int.reduceEq, ↓reduceIte, reduceCtorEq, meltSt, hx0, hjt, j2, j3, b3, b4, litV_, lenV_, Int.toNat_natCast, List.length_map, List.getElem?_map, Option.map_some, hX])
              (refine pw_call 9 (hT) rfl rfl (by simp (maxSteps := 5000000) only [go_sem, Nat.reduceAdd, Nat.reduceSub, Nat.reduceMul, Nat.reduceLT, Nat.reduceLeDiff, Nat.reduceEqDiff, Nat.reduceBEq, Int.reduceToNat, Int.reduceLE, Int.reduceLT, Int.reduceEq, ↓reduceIte, reduceCtorEq, meltSt, hx0, hjt, j2, j3, b3, b4, litV_, lenV_, Int.toNat_natCast, List.length_map, List.getElem?_map, Option.map_some, hX]) (by simp (maxSteps := 5000000) only [go_sem, Nat.reduceAdd, Nat.reduceSub, Nat.reduceMul, Nat.reduceLT, Nat.reduceLeDiff, Nat.reduceEqDiff, Nat.reduceBEq, Int.reduceToNat, Int.reduceLE, Int.reduceLT, Int.reduceEq, ↓reduceIte, reduceCtorEq, meltSt, hx0, hjt, j2, j3, b3, b4, litV_, lenV_, Int.toNat_natCast, List.length_map, List.getElem?_map, Option.map_some, hX]) (by simp (maxSteps := 5000000) only [go_sem, Nat.reduceAdd, Nat.reduceSub, Nat.reduceMul, Nat.reduceLT, Nat.reduceLeDiff, Nat.reduceEqDiff, Nat.reduceBEq, Int.reduceToNat, Int.reduceLE, Int.reduceLT, Int.reduceEq, ↓reduceIte, reduceCtorEq, meltSt, hx0, hjt, j2, j3, b3, b4, litV_, lenV_, Int.toNat_natCast, List.length_map, List.getElem?_map, Option.map_some, hX]) (by rw [hX]; rfl) ?_; simp (maxSteps := 5000000) only [go_sem, Nat.reduceAdd, Nat.reduceSub, Nat.reduceMul, Nat.reduceLT, Nat.reduceLeDiff, Nat.reduceEqDiff, Nat.reduceBEq, Int.reduceToNat, Int.reduceLE, Int.reduceLT, Int.reduceEq, ↓reduceIte, reduceCtorEq, meltSt, hx0, hjt, j2, j3, b3, b4, litV_, lenV_, Int.toNat_natCast, List.length_map, List.getElem?_map, Option.map_some, hX])
              (refine pw_tail _ hX (by kernel_rfl) (by kernel_rfl) ?_; simp (maxSteps := 5000000) only [go_sem, Nat.reduceAdd, Nat.reduceSub, Nat.reduceMul, Nat.reduceLT, Nat.reduceLeDiff, Nat.reduceEqDiff, Nat.reduceBEq, Int.reduceToNat, Int.reduceLE, Int.reduceLT, Int.reduceEq, ↓reduceIte, reduceCtorEq, meltSt, hx0, hjt, j2, j3, b3, b4, litV_, lenV_, Int.toNat_natCast, List.length_map, List.getElem?_map, Option.map_some, hX])
              (refine rwr_nil (hK _ ?_); clear hK K)
              (repeat (first | refine cw_seq' ?_ | refine cw_block ?_ | refine cw_true rfl ?_ | refine cw_false rfl ?_ | refine cw_exit ?_ | refine cw_ret ?_ | refine cw_skip ?_ | (refine cw_region_k fun K hK => ?_; simp (maxSteps := 1000000) only [go_sem, Nat.reduceAdd, Nat.reduceSub, Nat.reduceMul, Nat.reduceLT, Nat.reduceLeDiff, Nat.reduceEqDiff, Nat.reduceBEq, Int.reduceToNat, Int.reduceLE, Int.reduceLT, Int.reduceEq, ↓reduceIte, reduceCtorEq, meltSt, f2, hX]; refine rwr_nil (hK _ ?_); clear hK K) | refine then_mk ?_ | refine then_exit ?_ | refine then_ret ?_ | refine blk_mk ?_ | refine blk_ret ?_ | refine blk_same ?_ | refine blk_ne (by decide) ?_))
              exact ⟨cur.length - (j + 1), by omega, _, ⟨j + 1, (setJ cur j j (castV v0 d.ty)).length + 1, setJ cur j j (castV v0 d.ty) ++ [castV v0 d.ty], by omega, rfl, by simp, (setJ_at hx0).symm, .inr ⟨rfl, rfl⟩⟩, le_mk2 (by simp only [go_sem, Nat.reduceAdd, Nat.reduceSub, Nat.reduceMul, Nat.reduceLT, Nat.reduceLeDiff, Nat.reduceEqDiff, Nat.reduceBEq, Int.reduceToNat, Int.reduceLE, Int.reduceLT, Int.reduceEq, ↓reduceIte, reduceCtorEq, meltSt, List.map_set, List.map_append, List.map_append, List.map_cons, List.map_nil] <;> ((repeat' apply And.intro) <;> rfl))⟩
            · omega
          · have f3 : ((j : Int) == d.at_) = false := by rw [hi]; simp; omega
            obtain ⟨v, hx⟩ : ∃ v, cur[j]? = some v := ⟨_, List.getElem?_eq_getElem hjt⟩
            rcases hss with ⟨_, rfl⟩ | ⟨_, rfl⟩
            all_goals
              (repeat (first | refine cw_seq' ?_ | refine cw_block ?_ | refine cw_true rfl ?_ | refine cw_false rfl ?_ | refine cw_exit ?_ | refine cw_ret ?_ | refine cw_skip ?_ | (refine cw_region_k fun K hK => ?_; simp (maxSteps := 1000000) only [go_sem, Nat.reduceAdd, Nat.reduceSub, Nat.reduceMul, Nat.reduceLT, Nat.reduceLeDiff, Nat.reduceEqDiff, Nat.reduceBEq, Int.reduceToNat, Int.reduceLE, Int.reduceLT, Int.reduceEq, ↓reduceIte, reduceCtorEq, meltSt, f1, f2, q2, q3, f3, hx, hjt, j2, j3, b3, b4, litV_, lenV_, Int.toNat_natCast, List.length_map, List.getElem?_map, Option.map_some, hX]; refine rwr_nil (hK _ ?_); clear hK K) | refine then_mk ?_ | refine then_exit ?_ | refine then_ret ?_ | refine blk_mk ?_ | refine blk_ret ?_ | refine blk_same ?_ | refine blk_ne (by decide) ?_))
              exact ⟨cur.length - (j + 1), by omega, _, ⟨j + 1, (setJ cur i j (castV v0 d.ty)).length + 1, setJ cur i j (castV v0 d.ty) ++ [v], by omega, rfl, by simp, (setJ_step hx hji).symm, .inl ⟨by omega, rfl⟩⟩, le_mk2 (by simp only [go_sem, Nat.reduceAdd, Nat.reduceSub, Nat.reduceMul, Nat.reduceLT, Nat.reduceLeDiff, Nat.reduceEqDiff, Nat.reduceBEq, Int.reduceToNat, Int.reduceLE, Int.reduceLT, Int.reduceEq, ↓reduceIte, reduceCtorEq, meltSt, List.map_set, List.map_append, List.map_append, List.map_cons, List.map_nil] <;> ((repeat' apply And.intro) <;> rfl))⟩
        · obtain rfl : j = cur.length := by omega
          have f1 : decide ((cur.length : Int) < (cur.length : Int)) = false := by simp
          rw [setJ_all] at hss
          rcases hss with ⟨_, rfl⟩ | ⟨_, rfl⟩
          · (repeat (first | refine cw_seq' ?_ | refine cw_block ?_ | refine cw_true rfl ?_ | refine cw_false rfl ?_ | refine cw_exit ?_ | refine cw_skip ?_ | refine then_mk ?_ | refine then_exit ?_ | refine then_ret ?_ | refine blk_mk ?_ | refine blk_ret ?_ | refine blk_same ?_ | refine blk_ne (by decide) ?_))
            (refine cw_region_k fun K hK => ?_; simp (maxSteps := 1000000) only [go_sem, Nat.reduceAdd, Nat.reduceSub, Nat.reduceMul, Nat.reduceLT, Nat.reduceLeDiff, Nat.reduceEqDiff, Nat.reduceBEq, Int.reduceToNat, Int.reduceLE, Int.reduceLT, Int.reduceEq, ↓reduceIte, reduceCtorEq, meltSt, f1, hX])
            (refine rwr_nil (hK _ ?_); clear hK K)
            (repeat (first | refine cw_seq' ?_ | refine cw_block ?_ | refine cw_true rfl ?_ | refine cw_false rfl ?_ | refine cw_exit ?_ | refine cw_skip ?_ | refine then_mk ?_ | refine then_exit ?_ | refine then_ret ?_ | refine blk_mk ?_ | refine blk_ret ?_ | refine blk_same ?_ | refine blk_ne (by decide) ?_))
            (refine cw_region_k fun K hK => ?_; simp (maxSteps := 1000000) only [go_sem, Nat.reduceAdd, Nat.reduceSub, Nat.reduceMul, Nat.reduceLT, Nat.reduceLeDiff, Nat.reduceEqDiff, Nat.reduceBEq, Int.reduceToNat, Int.reduceLE, Int.reduceLT, Int.reduceEq, ↓reduceIte, reduceCtorEq, meltSt, q1, hX])
            (refine rwr_nil (hK _ ?_); clear hK K)
            (repeat (first | refine cw_seq' ?_ | refine cw_block ?_ | refine cw_true rfl ?_ | refine cw_false rfl ?_ | refine cw_exit ?_ | refine cw_skip ?_ | refine then_mk ?_ | refine then_exit ?_ | refine then_ret ?_ | refine blk_mk ?_ | refine blk_ret ?_ | refine blk_same ?_ | refine blk_ne (by decide) ?_))
            (refine cw_region_k fun K hK => ?_; simp (maxSteps := 1000000) only [go_sem, Nat.reduceAdd, Nat.reduceSub, Nat.reduceMul, Nat.reduceLT, Nat.reduceLeDiff, Nat.reduceEqDiff, Nat.reduceBEq, Int.reduceToNat, Int.reduceLE, Int.reduceLT, Int.reduceEq, ↓reduceIte, reduceCtorEq, meltSt, hX])
            (refine rwr_nil (hK _ ?_); clear hK K)
            (repeat (first | refine cw_seq' ?_ | refine cw_block ?_ | refine cw_true rfl ?_ | refine cw_false rfl ?_ | refine cw_exit ?_ | refine cw_skip ?_ | refine then_mk ?_ | refine then_exit ?_ | refine then_ret ?_ | refine blk_mk ?_ | refine blk_ret ?_ | refine blk_same ?_ | refine blk_ne (by decide) ?_))
            refine cw_melt 5 35 rfl rfl (by simp) ?_
            (repeat (first | refine cw_seq' ?_ | refine cw_block ?_ | refine cw_true rfl ?_ | refine cw_false rfl ?_ | refine cw_exit ?_ | refine cw_ret ?_ | refine cw_skip ?_ | (refine cw_region_k fun K hK => ?_; simp (maxSteps := 1000000) only [go_sem, Nat.reduceAdd, Nat.reduceSub, Nat.reduceMul, Nat.reduceLT, Nat.reduceLeDiff, Nat.reduceEqDiff, Nat.reduceBEq, Int.reduceToNat, Int.reduceLE, Int.reduceLT, Int.reduceEq, ↓reduceIte, reduceCtorEq, meltSt, e4, hX]; refine rwr_nil (hK _ ?_); clear hK K) | refine then_mk ?_ | refine then_exit ?_ | refine then_ret ?_ | refine blk_mk ?_ | refine blk_ret ?_ | refine blk_same ?_ | refine blk_ne (by decide) ?_))
            exact ⟨l.length - (k + 1), by omega, _, ⟨k + 1, cur.set i (castV v0 d.ty), by omega, rfl, by rw [List.length_set]; exact h5, fun u hu => by
              rcases List.mem_or_eq_of_mem_set hu with hu | hu
              · exact hc u hu
              · rw [hu]; exact hcv, by rw [List.length_set]; exact ha, hraw, rfl⟩, le_mk2 (by simp only [go_sem, Nat.reduceAdd, Nat.reduceSub, Nat.reduceMul, Nat.reduceLT, Nat.reduceLeDiff, Nat.reduceEqDiff, Nat.reduceBEq, Int.reduceToNat, Int.reduceLE, Int.reduceLT, Int.reduceEq, ↓reduceIte, reduceCtorEq, meltSt, List.map_set, List.map_append] <;> ((repeat' apply And.intro) <;> rfl))⟩
          · (repeat (first | refine cw_seq' ?_ | refine cw_block ?_ | refine cw_true rfl ?_ | refine cw_false rfl ?_ | refine cw_exit ?_ | refine cw_skip ?_ | refine then_mk ?_ | refine then_exit ?_ | refine then_ret ?_ | refine blk_mk ?_ | refine blk_ret ?_ | refine blk_same ?_ | refine blk_ne (by decide) ?_))
            (refine cw_region_k fun K hK => ?_; simp (maxSteps := 1000000) only [go_sem, Nat.reduceAdd, Nat.reduceSub, Nat.reduceMul, Nat.reduceLT, Nat.reduceLeDiff, Nat.reduceEqDiff, Nat.reduceBEq, Int.reduceToNat, Int.reduceLE, Int.reduceLT, Int.reduceEq, ↓reduceIte, reduceCtorEq, meltSt, f1, hX])
            (refine rwr_nil (hK _ ?_); clear hK K)
            (repeat (first | refine cw_seq' ?_ | refine cw_block ?_ | refine cw_true rfl ?_ | refine cw_false rfl ?_ | refine cw_exit ?_ | refine cw_skip ?_ | refine then_mk ?_ | refine then_exit ?_ | refine then_ret ?_ | refine blk_mk ?_ | refine blk_ret ?_ | refine blk_same ?_ | refine blk_ne (by decide) ?_))
            (refine cw_region_k fun K hK => ?_; simp (maxSteps := 1000000) only [go_sem, Nat.reduceAdd, Nat.reduceSub, Nat.reduceMul, Nat.reduceLT, Nat.reduceLeDiff, Nat.reduceEqDiff, Nat.reduceBEq, Int.reduceToNat, Int.reduceLE, Int.reduceLT, Int.reduceEq, ↓reduceIte, reduceCtorEq, meltSt, q1, hX])
            (refine rwr_nil (hK _ ?_); clear hK K)
            (repeat (first | refine cw_seq' ?_ | refine cw_block ?_ | refine cw_true rfl ?_ | refine cw_false rfl ?_ | refine cw_exit ?_ | refine cw_skip ?_ | refine then_mk ?_ | refine then_exit ?_ | refine then_ret ?_ | refine blk_mk ?_ | refine blk_ret ?_ | refine blk_same ?_ | refine blk_ne (by decide) ?_))
            (refine cw_region_k fun K hK => ?_; simp (maxSteps := 1000000) only [go_sem, Nat.reduceAdd, Nat.reduceSub, Nat.reduceMul, Nat.reduceLT, Nat.reduceLeDiff, Nat.reduceEqDiff, Nat.reduceBEq, Int.reduceToNat, Int.reduceLE, Int.reduceLT, Int.reduceEq, ↓reduceIte, reduceCtorEq, meltSt, hX])
            (refine rwr_nil (hK _ ?_); clear hK K)
            (repeat (first | refine cw_seq' ?_ | refine cw_block ?_ | refine cw_true rfl ?_ | refine cw_false rfl ?_ | refine cw_exit ?_ | refine cw_skip ?_ | refine then_mk ?_ | refine then_exit ?_ | refine then_ret ?_ | refine blk_mk ?_ | refine blk_ret ?_ | refine blk_same ?_ | refine blk_ne (by decide) ?_))
            refine cw_melt 5 65 rfl rfl (by simp) ?_
            (repeat (first | refine cw_seq' ?_ | refine cw_block ?_ | refine cw_true rfl ?_ | refine cw_false rfl ?_ | refine cw_exit ?_ | refine cw_ret ?_ | refine cw_skip ?_ | (refine cw_region_k fun K hK => ?_; simp (maxSteps := 1000000) only [go_sem, Nat.reduceAdd, Nat.reduceSub, Nat.reduceMul, Nat.reduceLT, Nat.reduceLeDiff, Nat.reduceEqDiff, Nat.reduceBEq, Int.reduceToNat, Int.reduceLE, Int.reduceLT, Int.reduceEq, ↓reduceIte, reduceCtorEq, meltSt, e4, hX]; refine rwr_nil (hK _ ?_); clear hK K) | refine then_mk ?_ | refine then_exit ?_ | refine then_ret ?_ | refine blk_mk ?_ | refine blk_ret ?_ | refine blk_same ?_ | refine blk_ne (by decide) ?_))
            exact ⟨l.length - (k + 1), by omega, _, ⟨k + 1, cur.set i (castV v0 d.ty), by omega, rfl, by rw [List.length_set]; exact h5, fun u hu => by
              rcases List.mem_or_eq_of_mem_set hu with hu | hu
              · exact hc u hu
              · rw [hu]; exact hcv, by rw [List.length_set]; exact ha, hraw, rfl⟩, le_mk2 (by simp only [go_sem, Nat.reduceAdd, Nat.reduceSub, Nat.reduceMul, Nat.reduceLT, Nat.reduceLeDiff, Nat.reduceEqDiff, Nat.reduceBEq, Int.reduceToNat, Int.reduceLE, Int.reduceLT, Int.reduceEq, ↓reduceIte, reduceCtorEq, meltSt, List.map_set, List.map_append] <;> ((repeat' apply And.intro) <;> rfl))⟩
    · rename_i h1
      exact absurd ha h1
  · obtain rfl : k = l.length := by omega
    have e1 : decide ((l.length : Int) < (l.length : Int)) = false := by simp
    (repeat (first | refine cw_seq' ?_ | refine cw_block ?_ | refine cw_true rfl ?_ | refine cw_false rfl ?_ | refine cw_exit ?_ | refine cw_ret ?_ | refine cw_skip ?_ | (refine cw_region_k fun K hK => ?_; simp (maxSteps := 1000000) only [go_sem, Nat.reduceAdd, Nat.reduceSub, Nat.reduceMul, Nat.reduceLT, Nat.reduceLeDiff, Nat.reduceEqDiff, Nat.reduceBEq, Int.reduceToNat, Int.reduceLE, Int.reduceLT, Int.reduceEq, ↓reduceIte, reduceCtorEq, meltSt, e1, hX]; refine rwr_nil (hK _ ?_); clear hK K) | refine then_mk ?_ | refine then_exit ?_ | refine then_ret ?_ | refine blk_mk ?_ | refine blk_ret ?_ | refine blk_same ?_ | refine blk_ne (by decide) ?_))
    rw [List.drop_length] at hraw
    have hraw : cur = rawL r l := hraw
    rw [← hraw]
    (first | refine exit_retf ?_ | refine exit_normalf ?_); rw [Tryd.results12]; simp only [go_sem, Nat.reduceAdd, Nat.reduceSub, Nat.reduceMul, Nat.reduceLT, Nat.reduceLeDiff, Nat.reduceEqDiff, Nat.reduceBEq, Int.reduceToNat, Int.reduceLE, Int.reduceLT, Int.reduceEq, ↓reduceIte, reduceCtorEq, meltSt, hX]
end Go.Proofs.YtnjjpblgcgikaaaDoor.Ax
