/- Values, by what is known: the document's answer: casts, keys. -/
import Derived.Test.YtnjjpblgcgikaaaDoorAxVl6
namespace Go.Proofs.YtnjjpblgcgikaaaDoor.Ax
open Go.RowKit
set_option linter.unusedSimpArgs false
attribute [local go_sem] extV appD cutOwn appOwn clearOwn bdI mapD putD' keyOk getOr getM putM wholeV litCs asV asC ptrC fnC nilC nilPtr strRows_len runs runsN guardOf exec1 pureV modD rowD ev get St.app St.put St.turn loadC moveC fieldOf indexC lenC lenOk cutC bndOf evAll fieldV convV unV binV binI bitsV moreV intsT eqL eq1 valOf min1 lit1 litInt litI litB litS constV constC cellsV partsOf placesOf buildV fillL toT elemsOf rowsOf baseOf dstOk V.kill V.ment V.ments C.kill C.ment C.ments B.kill setD litRows litRows_append T.isLit callAll calleeV argsV argV viewC viewCs modeOk freeOps V.free C.free V.allF V.allFs C.allF C.allFs B.allF callD leL growSt C.flat V.flat B.flat flatL flatB St.flat List.set_cons_zero List.set_cons_succ C.only C.onlys V.only V.onlys B.only renI C.ren C.rens V.ren V.rens B.ren renB renOk nodK Option.getD_some Option.getD_none Option.isSome_some implies_true false_implies C.fit C.fits V.fit V.fit1 V.fits Bool.and_self ite_self exitV resV resL resC outV outV.outs eqB nn cast0 Int.toNat_natCast List.getElem?_map Value.cells Value.oneCell' Nat.lt_irrefl decide_true decide_false and_true true_and and_self and_false false_and not_true_eq_false not_false_eq_true not_true not_false List.size_toArray all_len Nat.zero_add Nat.add_zero List.length_cons List.length_append List.length_replicate List.length_set List.length_nil List.length_map List.map_cons List.map_nil List.take_succ_cons List.take_zero List.take_nil List.drop_succ_cons List.drop_zero List.drop_nil List.cons_append List.nil_append List.append_nil List.all_cons List.all_nil Bool.and_true Bool.true_and Bool.and_false Bool.false_and Bool.not_true Bool.not_false Bool.or_false Bool.or_true Bool.false_or Bool.true_or List.filter_cons List.filter_nil List.contains_cons List.contains_nil beq_self_eq_true List.getElem?_cons_zero List.getElem?_cons_succ List.getElem?_nil Option.map_some Option.map_none Option.toList_some Option.toList_none List.isEmpty_cons List.isEmpty_nil Bool.false_eq_true Bool.true_eq_false List.getElem?_toArray List.not_mem_nil List.mem_cons or_false forall_eq List.mem_singleton forall_const Option.toArray tailF addF flSl dKeeps flFree closF notF if_true if_false plans inD cleanSt dstsOf Oper.looksAt Op.operands Call.operands dnOf insN insAll prods pick stOf goneOf slOf blOf keepB' entD addB edge B.ment Region.binds tailOk clos List.any_cons List.any_nil List.filterMap_cons List.filterMap_nil ne_eq Bool.or_self List.isEmpty_iff Array.toList_append List.append_toArray Array.append_empty Option.bind_some Option.bind_none List.push_toArray argSv ioD modeIO staysOk callIO calleeIO argsIO valIO cellsIO cellIO butB zLe cLe csLe vLe vsLe bLe insLe renIOk nbOk foE foE.foR foE.foB anyText anyGc aliveF mK kdN klAt klAt.atL looksB remN dstNe nbIds provBl provBs provOf provOf.provH rdsOf idsR provR blsOf dnA edgesOf foSl inL dnE dnF dnH C.ids C.idss V.ids V.idss FHave FHave.rdHave FHave.blHave provF provF.provP findF hsOk NDst klOf dropS true_or or_true or_self ty3 ty4 ty9 ty5 ty39 ty22 ty82 ty24
set_option linter.unusedVariables false
set_option maxRecDepth 100000
theorem jz0 : ((0 : Int) == 0) = true := by decide
def digB (c : UInt8) : Bool := decide ((48 : Int) ≤ (c.toNat : Int)) && decide ((c.toNat : Int) ≤ 57)
theorem digB_iff {c : UInt8} : digB c = true ↔ 48 ≤ c.toNat ∧ c.toNat ≤ 57 := by unfold digB; simp; omega
theorem u8i (c : UInt8) : IntKind.i64.wrap (c.toNat : Int) = (c.toNat : Int) := IntWalk.i64_in _ (by have := c.toNat_lt; omega)
theorem isdigit_sp (c : UInt8) : Sp Tryd.prog 61 [.one (.lit (.int .u8 c.toNat))] (.one (.t true (.lit (.bool (digB c))))) [] := by
  have hb := between_sp (c.toNat : Int) 48 57
  have e1 := u8i c
  (refine sp_of Tryd.func61 (by kernel_rfl) rfl (by simp [Tryd.ntmps61]) fun X hX => ?_; rw [Tryd.ntmps61] at hX; simp only [argSl, List.map_cons, List.map_nil, Nat.reduceAdd])
  (repeat (first | refine cw_seq' ?_ | refine cw_block ?_ | refine cw_true rfl ?_ | refine cw_false rfl ?_ | refine cw_exit ?_ | refine cw_skip ?_ | refine then_mk ?_ | refine then_exit ?_ | refine then_ret ?_ | refine blk_mk ?_ | refine blk_ret ?_ | refine blk_same ?_ | refine blk_ne (by decide) ?_))
  (refine cw_region_k fun K hK => ?_; simp (maxSteps := 1000000) only [go_sem, Nat.reduceAdd, Nat.reduceSub, Nat.reduceMul, Nat.reduceLT, Nat.reduceLeDiff, Nat.reduceEqDiff, Nat.reduceBEq, Int.reduceToNat, Int.reduceLE, Int.reduceLT, Int.reduceEq, ↓reduceIte, reduceCtorEq, hX])
  (refine rwr_nil (hK _ ?_); clear hK K)
  (repeat (first | refine cw_seq' ?_ | refine cw_block ?_ | refine cw_true rfl ?_ | refine cw_false rfl ?_ | refine cw_exit ?_ | refine cw_skip ?_ | refine then_mk ?_ | refine then_exit ?_ | refine then_ret ?_ | refine blk_mk ?_ | refine blk_ret ?_ | refine blk_same ?_ | refine blk_ne (by decide) ?_))
  (refine cw_region_k fun K hK => ?_; simp (maxSteps := 1000000) only [go_sem, Nat.reduceAdd, Nat.reduceSub, Nat.reduceMul, Nat.reduceLT, Nat.reduceLeDiff, Nat.reduceEqDiff, Nat.reduceBEq, Int.reduceToNat, Int.reduceLE, Int.reduceLT, Int.reduceEq, ↓reduceIte, reduceCtorEq, e1, hX])
  (refine rwr_call 9 (hb) rfl rfl ?_ (by exact mode_r rfl) rfl (by rw [hX]; rfl) ?_ <;> simp (maxSteps := 1000000) only [go_sem, Nat.reduceAdd, Nat.reduceSub, Nat.reduceMul, Nat.reduceLT, Nat.reduceLeDiff, Nat.reduceEqDiff, Nat.reduceBEq, Int.reduceToNat, Int.reduceLE, Int.reduceLT, Int.reduceEq, ↓reduceIte, reduceCtorEq, e1, hX])
  (refine rwr_nil (hK _ ?_); clear hK K)
  (repeat (first | refine cw_seq' ?_ | refine cw_block ?_ | refine cw_true rfl ?_ | refine cw_false rfl ?_ | refine cw_exit ?_ | refine cw_ret ?_ | refine cw_skip ?_ | (refine cw_region_k fun K hK => ?_; simp (maxSteps := 1000000) only [go_sem, Nat.reduceAdd, Nat.reduceSub, Nat.reduceMul, Nat.reduceLT, Nat.reduceLeDiff, Nat.reduceEqDiff, Nat.reduceBEq, Int.reduceToNat, Int.reduceLE, Int.reduceLT, Int.reduceEq, ↓reduceIte, reduceCtorEq, hX]; refine rwr_nil (hK _ ?_); clear hK K) | refine then_mk ?_ | refine then_exit ?_ | refine then_ret ?_ | refine blk_mk ?_ | refine blk_ret ?_ | refine blk_same ?_ | refine blk_ne (by decide) ?_))
  (first | refine exit_retf ?_ | refine exit_normalf ?_); rw [Tryd.results61]; simp only [go_sem, Nat.reduceAdd, Nat.reduceSub, Nat.reduceMul, Nat.reduceLT, Nat.reduceLeDiff, Nat.reduceEqDiff, Nat.reduceBEq, Int.reduceToNat, Int.reduceLE, Int.reduceLT, Int.reduceEq, ↓reduceIte, reduceCtorEq, hX]
  rfl
theorem bs_get (l : List UInt8) (k : Nat) : (bs l)[k]? = l[k]? := by
  by_cases h : k < l.length
  · rw [List.getElem?_eq_getElem h, getElem?_pos (bs l) k (show k < (bs l).size from h)]
    rfl
  · rw [List.getElem?_eq_none (by omega), getElem?_neg (bs l) k (show ¬ k < (bs l).size from h)]
/-- what intOf answers -/
def intR (s : ByteArray) : Int × Bool := match intS s with
  | some n => (n, true)
  | none => (0, false)
set_option maxHeartbeats 20000000 in
theorem intof_sp (l : List UInt8) (hl : l.length ≤ 100) : Sp Tryd.prog 45 [.one (.lit (.string (bs l)))] (.tup [.one (.t true (.lit (.int .i64 (intR (bs l)).1))), .one (.t true (.lit (.bool (intR (bs l)).2)))]) [] := by
  obtain ⟨hdrop, hle⟩ := sgn_drop l
  have no := @intS_no l
  have yes := @intS_yes l
  obtain ⟨sg, fr, d, hsg⟩ : ∃ sg fr d, sgnL l = (sg, fr, d) := ⟨_, _, _, rfl⟩
  rw [hsg] at hdrop hle no yes
  simp only at hdrop hle no yes
  have hd100 : d.length ≤ 100 := by rw [← hdrop, List.length_drop]; omega
  have hex : (bs l).extract fr (bs l).size = bs d := by
    apply ByteArray.ext
    apply Array.ext'
    show ((bs l).extract fr (bs l).size).data.toList = d
    rw [ByteArray.data_extract, Array.toList_extract]
    show (l.drop fr).take (l.length - fr) = d
    rw [hdrop, List.take_of_length_le (by rw [← hdrop, List.length_drop]; omega)]
  have hsgn : sg = 1 ∨ sg = -1 := by
    cases l with
    | nil => cases hsg; exact .inl rfl
    | cons c r =>
      simp only [sgnL] at hsg
      split at hsg <;> cases hsg
      · exact .inr rfl
      · exact .inl rfl
  have hfr : (fr : Int) ≤ ((bs l).size : Int) := by show (fr : Int) ≤ (l.length : Int); omega
  (refine sp_of Tryd.func45 (by kernel_rfl) rfl (by simp [Tryd.ntmps45]) fun X hX => ?_; rw [Tryd.ntmps45] at hX; simp only [argSl, List.map_cons, List.map_nil, Nat.reduceAdd])
  (repeat (first | refine cw_seq' ?_ | refine cw_block ?_ | refine cw_true rfl ?_ | refine cw_false rfl ?_ | refine cw_exit ?_ | refine cw_ret ?_ | refine cw_skip ?_ | (refine cw_region_k fun K hK => ?_; simp (maxSteps := 1000000) only [go_sem, Nat.reduceAdd, Nat.reduceSub, Nat.reduceMul, Nat.reduceLT, Nat.reduceLeDiff, Nat.reduceEqDiff, Nat.reduceBEq, Int.reduceToNat, Int.reduceLE, Int.reduceLT, Int.reduceEq, ↓reduceIte, reduceCtorEq, hX]; refine rwr_nil (hK _ ?_); clear hK K) | refine then_mk ?_ | refine then_exit ?_ | refine then_ret ?_ | refine blk_mk ?_ | refine blk_ret ?_ | refine blk_same ?_ | refine blk_ne (by decide) ?_))
  refine cw_meet2 ⟨[(4, litI .i64 sg), (5, litI .i64 fr), (0, litS (bs l)), (2, litI .i64 0), (3, litB false)], []⟩ ?_ ?_
  · cases l with
    | nil =>
      cases hsg
      have e1 : ((bs []).toList == (⟨#[]⟩ : ByteArray).toList) = true := sameS_eq'.2 rfl
      (repeat (first | refine cw_seq' ?_ | refine cw_block ?_ | refine cw_true rfl ?_ | refine cw_false rfl ?_ | refine cw_exit ?_ | refine cw_ret ?_ | refine cw_skip ?_ | (refine cw_region_k fun K hK => ?_; simp (maxSteps := 1000000) only [go_sem, Nat.reduceAdd, Nat.reduceSub, Nat.reduceMul, Nat.reduceLT, Nat.reduceLeDiff, Nat.reduceEqDiff, Nat.reduceBEq, Int.reduceToNat, Int.reduceLE, Int.reduceLT, Int.reduceEq, ↓reduceIte, reduceCtorEq, e1, hX]; refine rwr_nil (hK _ ?_); clear hK K) | refine then_mk ?_ | refine then_exit ?_ | refine then_ret ?_ | refine blk_mk ?_ | refine blk_ret ?_ | refine blk_same ?_ | refine blk_ne (by decide) ?_))
      exact le_mk2 (by simp only [go_sem, Nat.reduceAdd, Nat.reduceSub, Nat.reduceMul, Nat.reduceLT, Nat.reduceLeDiff, Nat.reduceEqDiff, Nat.reduceBEq, Int.reduceToNat, Int.reduceLE, Int.reduceLT, Int.reduceEq, ↓reduceIte, reduceCtorEq, List.map_set, List.map_append] <;> ((repeat' apply And.intro) <;> rfl))
    | cons c r =>
      have e1 : ((bs (c :: r)).toList == (⟨#[]⟩ : ByteArray).toList) = false := by
        rw [Bool.eq_false_iff]; intro h
        have := congrArg (fun s : ByteArray => s.data.toList) (sameS_eq'.1 h)
        cases this
      have hx : (bs (c :: r))[0]? = some c := by rw [bs_get]; rfl
      by_cases hc : c = 45
      · subst hc
        cases hsg
        (repeat (first | refine cw_seq' ?_ | refine cw_block ?_ | refine cw_true rfl ?_ | refine cw_false rfl ?_ | refine cw_exit ?_ | refine cw_ret ?_ | refine cw_skip ?_ | (refine cw_region_k fun K hK => ?_; simp (maxSteps := 1000000) only [go_sem, Nat.reduceAdd, Nat.reduceSub, Nat.reduceMul, Nat.reduceLT, Nat.reduceLeDiff, Nat.reduceEqDiff, Nat.reduceBEq, Int.reduceToNat, Int.reduceLE, Int.reduceLT, Int.reduceEq, ↓reduceIte, reduceCtorEq, e1, hx, hX]; refine rwr_nil (hK _ ?_); clear hK K) | refine then_mk ?_ | refine then_exit ?_ | refine then_ret ?_ | refine blk_mk ?_ | refine blk_ret ?_ | refine blk_same ?_ | refine blk_ne (by decide) ?_))
        exact le_mk2 (by simp only [go_sem, Nat.reduceAdd, Nat.reduceSub, Nat.reduceMul, Nat.reduceLT, Nat.reduceLeDiff, Nat.reduceEqDiff, Nat.reduceBEq, Int.reduceToNat, Int.reduceLE, Int.reduceLT, Int.reduceEq, ↓reduceIte, reduceCtorEq, List.map_set, List.map_append] <;> ((repeat' apply And.intro) <;> rfl))
      · simp only [sgnL] at hsg
        rw [if_neg hc] at hsg
        cases hsg
        have e2 : ((c.toNat : Int) == 45) = false := by
          rw [beq_eq_false_iff_ne]
          intro h
          exact hc (UInt8.toNat_inj.1 (by show c.toNat = 45; omega))
        (repeat (first | refine cw_seq' ?_ | refine cw_block ?_ | refine cw_true rfl ?_ | refine cw_false rfl ?_ | refine cw_exit ?_ | refine cw_ret ?_ | refine cw_skip ?_ | (refine cw_region_k fun K hK => ?_; simp (maxSteps := 1000000) only [go_sem, Nat.reduceAdd, Nat.reduceSub, Nat.reduceMul, Nat.reduceLT, Nat.reduceLeDiff, Nat.reduceEqDiff, Nat.reduceBEq, Int.reduceToNat, Int.reduceLE, Int.reduceLT, Int.reduceEq, ↓reduceIte, reduceCtorEq, e1, hx, e2, hX]; refine rwr_nil (hK _ ?_); clear hK K) | refine then_mk ?_ | refine then_exit ?_ | refine then_ret ?_ | refine blk_mk ?_ | refine blk_ret ?_ | refine blk_same ?_ | refine blk_ne (by decide) ?_))
        exact le_mk2 (by simp only [go_sem, Nat.reduceAdd, Nat.reduceSub, Nat.reduceMul, Nat.reduceLT, Nat.reduceLeDiff, Nat.reduceEqDiff, Nat.reduceBEq, Int.reduceToNat, Int.reduceLE, Int.reduceLT, Int.reduceEq, ↓reduceIte, reduceCtorEq, List.map_set, List.map_append] <;> ((repeat' apply And.intro) <;> rfl))
  have hsz : (bs d).size = d.length := rfl
  have hszl : (bs l).size = l.length := rfl
  have hex' : (bs l).extract fr l.length = bs d := hex
  have hfr' : (fr : Int) ≤ (l.length : Int) := hfr
  (repeat (first | refine cw_seq' ?_ | refine cw_block ?_ | refine cw_true rfl ?_ | refine cw_false rfl ?_ | refine cw_exit ?_ | refine cw_skip ?_ | refine then_mk ?_ | refine then_exit ?_ | refine then_ret ?_ | refine blk_mk ?_ | refine blk_ret ?_ | refine blk_same ?_ | refine blk_ne (by decide) ?_))
  (refine cw_region_k fun K hK => ?_; simp (maxSteps := 1000000) only [go_sem, Nat.reduceAdd, Nat.reduceSub, Nat.reduceMul, Nat.reduceLT, Nat.reduceLeDiff, Nat.reduceEqDiff, Nat.reduceBEq, Int.reduceToNat, Int.reduceLE, Int.reduceLT, Int.reduceEq, ↓reduceIte, reduceCtorEq, hex, hex', hfr, hfr', hszl, hX])
  (refine rwr_nil (hK _ ?_); clear hK K)
  refine cw_le (s := ⟨[(6, litS (bs d)), (4, litI .i64 sg), (2, litI .i64 0), (3, litB false)], []⟩) (le_mk2 (by simp only [go_sem, Nat.reduceAdd, Nat.reduceSub, Nat.reduceMul, Nat.reduceLT, Nat.reduceLeDiff, Nat.reduceEqDiff, Nat.reduceBEq, Int.reduceToNat, Int.reduceLE, Int.reduceLT, Int.reduceEq, ↓reduceIte, reduceCtorEq, List.map_set, List.map_append] <;> ((repeat' apply And.intro) <;> rfl))) ?_
  have bad : intS (bs l) = none → intR (bs l) = (0, false) := fun h => by unfold intR; rw [h]
  cases d with
  | nil =>
    rw [bad (no (.inl rfl))]
    have z : ((bs []).size : Int) = 0 := rfl
    (repeat (first | refine cw_seq' ?_ | refine cw_block ?_ | refine cw_true rfl ?_ | refine cw_false rfl ?_ | refine cw_exit ?_ | refine cw_ret ?_ | refine cw_skip ?_ | (refine cw_region_k fun K hK => ?_; simp (maxSteps := 1000000) only [go_sem, Nat.reduceAdd, Nat.reduceSub, Nat.reduceMul, Nat.reduceLT, Nat.reduceLeDiff, Nat.reduceEqDiff, Nat.reduceBEq, Int.reduceToNat, Int.reduceLE, Int.reduceLT, Int.reduceEq, ↓reduceIte, reduceCtorEq, z, jz0, hX]; refine rwr_nil (hK _ ?_); clear hK K) | refine then_mk ?_ | refine then_exit ?_ | refine then_ret ?_ | refine blk_mk ?_ | refine blk_ret ?_ | refine blk_same ?_ | refine blk_ne (by decide) ?_))
    (first | refine exit_retf ?_ | refine exit_normalf ?_); rw [Tryd.results45]; simp only [go_sem, Nat.reduceAdd, Nat.reduceSub, Nat.reduceMul, Nat.reduceLT, Nat.reduceLeDiff, Nat.reduceEqDiff, Nat.reduceBEq, Int.reduceToNat, Int.reduceLE, Int.reduceLT, Int.reduceEq, ↓reduceIte, reduceCtorEq, hX]
  | cons c r =>
    have hx : (bs (c :: r))[0]? = some c := by rw [bs_get]; rfl
    generalize hd : c :: r = d at *
    have z1 : ((d.length : Int) == 0) = false := by rw [← hd]; simp; omega
    by_cases h9 : 9 < d.length
    · rw [bad (no (.inr (.inl h9)))]
      have z2 : decide ((9 : Int) < (d.length : Int)) = true := by simp; omega
      (repeat (first | refine cw_seq' ?_ | refine cw_block ?_ | refine cw_true rfl ?_ | refine cw_false rfl ?_ | refine cw_exit ?_ | refine cw_ret ?_ | refine cw_skip ?_ | (refine cw_region_k fun K hK => ?_; simp (maxSteps := 1000000) only [go_sem, Nat.reduceAdd, Nat.reduceSub, Nat.reduceMul, Nat.reduceLT, Nat.reduceLeDiff, Nat.reduceEqDiff, Nat.reduceBEq, Int.reduceToNat, Int.reduceLE, Int.reduceLT, Int.reduceEq, ↓reduceIte, reduceCtorEq, hsz, z1, z2, hX]; refine rwr_nil (hK _ ?_); clear hK K) | refine then_mk ?_ | refine then_exit ?_ | refine then_ret ?_ | refine blk_mk ?_ | refine blk_ret ?_ | refine blk_same ?_ | refine blk_ne (by decide) ?_))
      (first | refine exit_retf ?_ | refine exit_normalf ?_); rw [Tryd.results45]; simp only [go_sem, Nat.reduceAdd, Nat.reduceSub, Nat.reduceMul, Nat.reduceLT, Nat.reduceLeDiff, Nat.reduceEqDiff, Nat.reduceBEq, Int.reduceToNat, Int.reduceLE, Int.reduceLT, Int.reduceEq, ↓reduceIte, reduceCtorEq, hX]
    have z2 : decide ((9 : Int) < (d.length : Int)) = false := by simp; omega
    by_cases hz : c = 48 ∧ (1 < d.length ∨ sg < 0)
    · have hz' : d.head? = some 48 ∧ (1 < d.length ∨ sg < 0) := ⟨by rw [← hd, hz.1]; rfl, hz.2⟩
      rw [bad (no (.inr (.inr (.inl hz'))))]
      have z3 : ((c.toNat : Int) == 48) = true := by rw [hz.1]; rfl
      by_cases h1 : 1 < d.length
      · have z4 : decide ((1 : Int) < (d.length : Int)) = true := by simp; omega
        (repeat (first | refine cw_seq' ?_ | refine cw_block ?_ | refine cw_true rfl ?_ | refine cw_false rfl ?_ | refine cw_exit ?_ | refine cw_ret ?_ | refine cw_skip ?_ | (refine cw_region_k fun K hK => ?_; simp (maxSteps := 1000000) only [go_sem, Nat.reduceAdd, Nat.reduceSub, Nat.reduceMul, Nat.reduceLT, Nat.reduceLeDiff, Nat.reduceEqDiff, Nat.reduceBEq, Int.reduceToNat, Int.reduceLE, Int.reduceLT, Int.reduceEq, ↓reduceIte, reduceCtorEq, hsz, z1, z2, hx, z3, z4, hX]; refine rwr_nil (hK _ ?_); clear hK K) | refine then_mk ?_ | refine then_exit ?_ | refine then_ret ?_ | refine blk_mk ?_ | refine blk_ret ?_ | refine blk_same ?_ | refine blk_ne (by decide) ?_))
        (first | refine exit_retf ?_ | refine exit_normalf ?_); rw [Tryd.results45]; simp only [go_sem, Nat.reduceAdd, Nat.reduceSub, Nat.reduceMul, Nat.reduceLT, Nat.reduceLeDiff, Nat.reduceEqDiff, Nat.reduceBEq, Int.reduceToNat, Int.reduceLE, Int.reduceLT, Int.reduceEq, ↓reduceIte, reduceCtorEq, hX]
      · have z4 : decide ((1 : Int) < (d.length : Int)) = false := by simp; omega
        have z5 : decide (sg < 0) = true := by simp; omega
        (repeat (first | refine cw_seq' ?_ | refine cw_block ?_ | refine cw_true rfl ?_ | refine cw_false rfl ?_ | refine cw_exit ?_ | refine cw_ret ?_ | refine cw_skip ?_ | (refine cw_region_k fun K hK => ?_; simp (maxSteps := 1000000) only [go_sem, Nat.reduceAdd, Nat.reduceSub, Nat.reduceMul, Nat.reduceLT, Nat.reduceLeDiff, Nat.reduceEqDiff, Nat.reduceBEq, Int.reduceToNat, Int.reduceLE, Int.reduceLT, Int.reduceEq, ↓reduceIte, reduceCtorEq, hsz, z1, z2, hx, z3, z4, z5, hX]; refine rwr_nil (hK _ ?_); clear hK K) | refine then_mk ?_ | refine then_exit ?_ | refine then_ret ?_ | refine blk_mk ?_ | refine blk_ret ?_ | refine blk_same ?_ | refine blk_ne (by decide) ?_))
        (first | refine exit_retf ?_ | refine exit_normalf ?_); rw [Tryd.results45]; simp only [go_sem, Nat.reduceAdd, Nat.reduceSub, Nat.reduceMul, Nat.reduceLT, Nat.reduceLeDiff, Nat.reduceEqDiff, Nat.reduceBEq, Int.reduceToNat, Int.reduceLE, Int.reduceLT, Int.reduceEq, ↓reduceIte, reduceCtorEq, hX]
    have pre : ∃ b b', ((c.toNat : Int) == 48) = b ∧ decide ((1 : Int) < (d.length : Int)) = b' ∧ (b && (b' || decide (sg < 0))) = false := by
      refine ⟨_, _, rfl, rfl, ?_⟩
      rw [Bool.eq_false_iff]
      intro h
      simp only [Bool.and_eq_true, Bool.or_eq_true, beq_iff_eq, decide_eq_true_eq] at h
      refine hz ⟨UInt8.toNat_inj.1 (by show c.toNat = 48; omega), h.2.imp (fun h => by omega) fun h => h⟩
    (repeat (first | refine cw_seq' ?_ | refine cw_block ?_ | refine cw_true rfl ?_ | refine cw_false rfl ?_ | refine cw_exit ?_ | refine cw_skip ?_ | refine then_mk ?_ | refine then_exit ?_ | refine then_ret ?_ | refine blk_mk ?_ | refine blk_ret ?_ | refine blk_same ?_ | refine blk_ne (by decide) ?_))
    refine cw_meet2 ⟨[(6, litS (bs d)), (4, litI .i64 sg)], []⟩ ?_ ?_
    · obtain ⟨b, b', p1, p2, p3⟩ := pre
      cases b with
      | false =>
        (repeat (first | refine cw_seq' ?_ | refine cw_block ?_ | refine cw_true rfl ?_ | refine cw_false rfl ?_ | refine cw_exit ?_ | refine cw_ret ?_ | refine cw_skip ?_ | (refine cw_region_k fun K hK => ?_; simp (maxSteps := 1000000) only [go_sem, Nat.reduceAdd, Nat.reduceSub, Nat.reduceMul, Nat.reduceLT, Nat.reduceLeDiff, Nat.reduceEqDiff, Nat.reduceBEq, Int.reduceToNat, Int.reduceLE, Int.reduceLT, Int.reduceEq, ↓reduceIte, reduceCtorEq, hsz, z1, z2, hx, p1, hX]; refine rwr_nil (hK _ ?_); clear hK K) | refine then_mk ?_ | refine then_exit ?_ | refine then_ret ?_ | refine blk_mk ?_ | refine blk_ret ?_ | refine blk_same ?_ | refine blk_ne (by decide) ?_))
        exact le_mk2 (by simp only [go_sem, Nat.reduceAdd, Nat.reduceSub, Nat.reduceMul, Nat.reduceLT, Nat.reduceLeDiff, Nat.reduceEqDiff, Nat.reduceBEq, Int.reduceToNat, Int.reduceLE, Int.reduceLT, Int.reduceEq, ↓reduceIte, reduceCtorEq, List.map_set, List.map_append] <;> ((repeat' apply And.intro) <;> rfl))
      | true =>
        rw [Bool.true_and] at p3
        obtain ⟨p3, p4⟩ := Bool.or_eq_false_iff.1 p3
        subst p3
        (repeat (first | refine cw_seq' ?_ | refine cw_block ?_ | refine cw_true rfl ?_ | refine cw_false rfl ?_ | refine cw_exit ?_ | refine cw_ret ?_ | refine cw_skip ?_ | (refine cw_region_k fun K hK => ?_; simp (maxSteps := 1000000) only [go_sem, Nat.reduceAdd, Nat.reduceSub, Nat.reduceMul, Nat.reduceLT, Nat.reduceLeDiff, Nat.reduceEqDiff, Nat.reduceBEq, Int.reduceToNat, Int.reduceLE, Int.reduceLT, Int.reduceEq, ↓reduceIte, reduceCtorEq, hsz, z1, z2, hx, p1, p2, p4, hX]; refine rwr_nil (hK _ ?_); clear hK K) | refine then_mk ?_ | refine then_exit ?_ | refine then_ret ?_ | refine blk_mk ?_ | refine blk_ret ?_ | refine blk_same ?_ | refine blk_ne (by decide) ?_))
        exact le_mk2 (by simp only [go_sem, Nat.reduceAdd, Nat.reduceSub, Nat.reduceMul, Nat.reduceLT, Nat.reduceLeDiff, Nat.reduceEqDiff, Nat.reduceBEq, Int.reduceToNat, Int.reduceLE, Int.reduceLT, Int.reduceEq, ↓reduceIte, reduceCtorEq, List.map_set, List.map_append] <;> ((repeat' apply And.intro) <;> rfl))
    (repeat (first | refine cw_seq' ?_ | refine cw_block ?_ | refine cw_true rfl ?_ | refine cw_false rfl ?_ | refine cw_exit ?_ | refine cw_ret ?_ | refine cw_skip ?_ | (refine cw_region_k fun K hK => ?_; simp (maxSteps := 1000000) only [go_sem, Nat.reduceAdd, Nat.reduceSub, Nat.reduceMul, Nat.reduceLT, Nat.reduceLeDiff, Nat.reduceEqDiff, Nat.reduceBEq, Int.reduceToNat, Int.reduceLE, Int.reduceLT, Int.reduceEq, ↓reduceIte, reduceCtorEq, hX]; refine rwr_nil (hK _ ?_); clear hK K) | refine then_mk ?_ | refine then_exit ?_ | refine then_ret ?_ | refine blk_mk ?_ | refine blk_ret ?_ | refine blk_same ?_ | refine blk_ne (by decide) ?_))
    refine cw_loop (fun m s => ∃ k n, k ≤ d.length ∧ m = d.length - k ∧ (∀ c ∈ d.take k, 48 ≤ c.toNat ∧ c.toNat ≤ 57) ∧ Lib.decFrom 0 (d.take k) = some n ∧ n < 10 ^ k ∧ s = ⟨[(8, litI .i64 k), (7, litI .i64 n), (6, litS (bs d)), (4, litI .i64 sg)], []⟩) d.length ⟨_, ⟨0, 0, Nat.zero_le _, rfl, (by intro c hc; cases hc), rfl, by decide, rfl⟩, le_mk2 (by simp only [go_sem, Nat.reduceAdd, Nat.reduceSub, Nat.reduceMul, Nat.reduceLT, Nat.reduceLeDiff, Nat.reduceEqDiff, Nat.reduceBEq, Int.reduceToNat, Int.reduceLE, Int.reduceLT, Int.reduceEq, ↓reduceIte, reduceCtorEq, List.map_set, List.map_append] <;> ((repeat' apply And.intro) <;> rfl))⟩ ?_
    rintro m s ⟨k, n, hk, rfl, hall, hn, hlt, rfl⟩
    have hp9 : 10 ^ k ≤ 10 ^ 9 := Nat.pow_le_pow_right (by decide) (by omega)
    have hp9' : (10 : Nat) ^ 9 = 1000000000 := by decide
    by_cases hkl : k < d.length
    · have e1 : decide ((k : Int) < (d.length : Int)) = true := by simp; omega
      obtain ⟨x, hx⟩ : ∃ x, d[k]? = some x := ⟨_, List.getElem?_eq_getElem hkl⟩
      have hx' : (bs d)[k]? = some x := by rw [bs_get]; exact hx
      have hD := isdigit_sp x
      (repeat (first | refine cw_seq' ?_ | refine cw_block ?_ | refine cw_true rfl ?_ | refine cw_false rfl ?_ | refine cw_exit ?_ | refine cw_ret ?_ | refine cw_skip ?_ | (refine cw_region_k fun K hK => ?_; simp (maxSteps := 1000000) only [go_sem, Nat.reduceAdd, Nat.reduceSub, Nat.reduceMul, Nat.reduceLT, Nat.reduceLeDiff, Nat.reduceEqDiff, Nat.reduceBEq, Int.reduceToNat, Int.reduceLE, Int.reduceLT, Int.reduceEq, ↓reduceIte, reduceCtorEq, hsz, e1, hX]; refine rwr_nil (hK _ ?_); clear hK K) | refine then_mk ?_ | refine then_exit ?_ | refine then_ret ?_ | refine blk_mk ?_ | refine blk_ret ?_ | refine blk_same ?_ | refine blk_ne (by decide) ?_))
      (repeat (first | refine cw_seq' ?_ | refine cw_block ?_ | refine cw_true rfl ?_ | refine cw_false rfl ?_ | refine cw_exit ?_ | refine cw_skip ?_ | refine then_mk ?_ | refine then_exit ?_ | refine then_ret ?_ | refine blk_mk ?_ | refine blk_ret ?_ | refine blk_same ?_ | refine blk_ne (by decide) ?_))
      (refine cw_region_k fun K hK => ?_; simp (maxSteps := 1000000) only [go_sem, Nat.reduceAdd, Nat.reduceSub, Nat.reduceMul, Nat.reduceLT, Nat.reduceLeDiff, Nat.reduceEqDiff, Nat.reduceBEq, Int.reduceToNat, Int.reduceLE, Int.reduceLT, Int.reduceEq, ↓reduceIte, reduceCtorEq, hx', hX])
      (refine rwr_call 9 (hD) rfl rfl ?_ (by exact mode_r rfl) rfl (by rw [hX]; rfl) ?_ <;> simp (maxSteps := 1000000) only [go_sem, Nat.reduceAdd, Nat.reduceSub, Nat.reduceMul, Nat.reduceLT, Nat.reduceLeDiff, Nat.reduceEqDiff, Nat.reduceBEq, Int.reduceToNat, Int.reduceLE, Int.reduceLT, Int.reduceEq, ↓reduceIte, reduceCtorEq, hx', hX])
      (refine rwr_run ?_; simp (maxSteps := 1000000) only [go_sem, Nat.reduceAdd, Nat.reduceSub, Nat.reduceMul, Nat.reduceLT, Nat.reduceLeDiff, Nat.reduceEqDiff, Nat.reduceBEq, Int.reduceToNat, Int.reduceLE, Int.reduceLT, Int.reduceEq, ↓reduceIte, reduceCtorEq, hx', hX])
      (refine rwr_nil (hK _ ?_); clear hK K)
      (repeat (first | refine cw_seq' ?_ | refine cw_block ?_ | refine cw_true rfl ?_ | refine cw_false rfl ?_ | refine cw_exit ?_ | refine cw_skip ?_ | refine then_mk ?_ | refine then_exit ?_ | refine then_ret ?_ | refine blk_mk ?_ | refine blk_ret ?_ | refine blk_same ?_ | refine blk_ne (by decide) ?_))
      refine cw_cond rfl (fun c2 => ?_) (fun c2 => ?_)
      · have : digB x = false := by simpa using c2
        rw [bad (no (.inr (.inr (.inr ⟨x, List.mem_of_getElem? hx, fun h => by rw [digB_iff.2 h] at this; cases this⟩))))]
        (repeat (first | refine cw_seq' ?_ | refine cw_block ?_ | refine cw_true rfl ?_ | refine cw_false rfl ?_ | refine cw_exit ?_ | refine cw_ret ?_ | refine cw_skip ?_ | (refine cw_region_k fun K hK => ?_; simp (maxSteps := 1000000) only [go_sem, Nat.reduceAdd, Nat.reduceSub, Nat.reduceMul, Nat.reduceLT, Nat.reduceLeDiff, Nat.reduceEqDiff, Nat.reduceBEq, Int.reduceToNat, Int.reduceLE, Int.reduceLT, Int.reduceEq, ↓reduceIte, reduceCtorEq, c2, hX]; refine rwr_nil (hK _ ?_); clear hK K) | refine then_mk ?_ | refine then_exit ?_ | refine then_ret ?_ | refine blk_mk ?_ | refine blk_ret ?_ | refine blk_same ?_ | refine blk_ne (by decide) ?_))
        (first | refine exit_retf ?_ | refine exit_normalf ?_); rw [Tryd.results45]; simp only [go_sem, Nat.reduceAdd, Nat.reduceSub, Nat.reduceMul, Nat.reduceLT, Nat.reduceLeDiff, Nat.reduceEqDiff, Nat.reduceBEq, Int.reduceToNat, Int.reduceLE, Int.reduceLT, Int.reduceEq, ↓reduceIte, reduceCtorEq, hX]
      · have hdg := digB_iff.1 (by simpa using c2)
        have w1 : IntKind.i64.wrap (10 * (n : Int)) = ((10 * n : Nat) : Int) := by rw [IntWalk.i64_in _ (by omega)]; omega
        have w2 := u8i x
        have w3 : IntKind.i64.wrap (((10 * n : Nat) : Int) + (x.toNat : Int)) = ((10 * n + x.toNat : Nat) : Int) := by rw [IntWalk.i64_in _ (by omega)]; omega
        have w4 : IntKind.i64.wrap (((10 * n + x.toNat : Nat) : Int) - 48) = ((10 * n + x.toNat - 48 : Nat) : Int) := by rw [IntWalk.i64_in _ (by omega)]; omega
        have w5 : IntKind.i64.wrap ((k : Int) + 1) = ((k + 1 : Nat) : Int) := by rw [IntWalk.i64_in _ (by omega)]; rfl
        (repeat (first | refine cw_seq' ?_ | refine cw_block ?_ | refine cw_true rfl ?_ | refine cw_false rfl ?_ | refine cw_exit ?_ | refine cw_ret ?_ | refine cw_skip ?_ | (refine cw_region_k fun K hK => ?_; simp (maxSteps := 1000000) only [go_sem, Nat.reduceAdd, Nat.reduceSub, Nat.reduceMul, Nat.reduceLT, Nat.reduceLeDiff, Nat.reduceEqDiff, Nat.reduceBEq, Int.reduceToNat, Int.reduceLE, Int.reduceLT, Int.reduceEq, ↓reduceIte, reduceCtorEq, c2, hx', w1, w2, w3, w4, w5, hX]; refine rwr_nil (hK _ ?_); clear hK K) | refine then_mk ?_ | refine then_exit ?_ | refine then_ret ?_ | refine blk_mk ?_ | refine blk_ret ?_ | refine blk_same ?_ | refine blk_ne (by decide) ?_))
        refine ⟨d.length - (k + 1), by omega, _, ⟨k + 1, 10 * n + x.toNat - 48, by omega, rfl, ?_, decFrom_take hn hx hdg, by rw [Nat.pow_succ]; omega, rfl⟩, le_mk2 (by simp only [go_sem, Nat.reduceAdd, Nat.reduceSub, Nat.reduceMul, Nat.reduceLT, Nat.reduceLeDiff, Nat.reduceEqDiff, Nat.reduceBEq, Int.reduceToNat, Int.reduceLE, Int.reduceLT, Int.reduceEq, ↓reduceIte, reduceCtorEq, List.map_set, List.map_append] <;> ((repeat' apply And.intro) <;> rfl))⟩
        intro y hy
        rw [List.take_add_one, hx] at hy
        rcases List.mem_append.1 hy with hy | hy
        · exact hall y hy
        · have : y = x := by simpa using hy
          rw [this]; exact hdg
    · obtain rfl : k = d.length := by omega
      have e1 : decide ((d.length : Int) < (d.length : Int)) = false := by simp
      rw [List.take_of_length_le (Nat.le_refl _)] at hall hn
      obtain ⟨hn9, hi⟩ := yes (by rw [← hd]; simp) (by omega) (fun h => by
        have hc : c = 48 := by rw [← hd] at h; simpa using h
        have h1 : ¬ (1 < d.length ∨ sg < 0) := fun h => hz ⟨hc, h⟩
        have h0 : 1 ≤ d.length := by rw [← hd]; simp
        exact ⟨by omega, fun h => h1 (.inr h)⟩) hall hn
      have hr : intR (bs l) = (sg * n, true) := by unfold intR; rw [hi]
      have w1 : IntKind.i64.wrap (sg * (n : Int)) = sg * (n : Int) := IntWalk.i64_in _ (by rcases hsgn with rfl | rfl <;> omega)
      rw [hr]
      (repeat (first | refine cw_seq' ?_ | refine cw_block ?_ | refine cw_true rfl ?_ | refine cw_false rfl ?_ | refine cw_exit ?_ | refine cw_ret ?_ | refine cw_skip ?_ | (refine cw_region_k fun K hK => ?_; simp (maxSteps := 1000000) only [go_sem, Nat.reduceAdd, Nat.reduceSub, Nat.reduceMul, Nat.reduceLT, Nat.reduceLeDiff, Nat.reduceEqDiff, Nat.reduceBEq, Int.reduceToNat, Int.reduceLE, Int.reduceLT, Int.reduceEq, ↓reduceIte, reduceCtorEq, hsz, e1, w1, hX]; refine rwr_nil (hK _ ?_); clear hK K) | refine then_mk ?_ | refine then_exit ?_ | refine then_ret ?_ | refine blk_mk ?_ | refine blk_ret ?_ | refine blk_same ?_ | refine blk_ne (by decide) ?_))
      (first | refine exit_retf ?_ | refine exit_normalf ?_); rw [Tryd.results45]; simp only [go_sem, Nat.reduceAdd, Nat.reduceSub, Nat.reduceMul, Nat.reduceLT, Nat.reduceLeDiff, Nat.reduceEqDiff, Nat.reduceBEq, Int.reduceToNat, Int.reduceLE, Int.reduceLT, Int.reduceEq, ↓reduceIte, reduceCtorEq, hX]
end Go.Proofs.YtnjjpblgcgikaaaDoor.Ax
