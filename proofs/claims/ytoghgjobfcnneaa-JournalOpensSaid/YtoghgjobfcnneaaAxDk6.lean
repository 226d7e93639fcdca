/- The laws' functions on disks, by what is known. -/
import Derived.Test.YtoghgjobfcnneaaAxDk3
import Derived.Test.YtoghgjobfcnneaaAxDk5
namespace Go.Proofs.Ytoghgjobfcnneaa.Ax
open Go.RowKit
set_option linter.unusedSimpArgs false
attribute [local go_sem] extV appD ptrC fnC nilC nilPtr strRows_len runs runsN guardOf exec1 pureV modD rowD ev get St.app St.put St.turn loadC moveC fieldOf indexC lenC lenOk cutC bndOf evAll fieldV convV unV binV binI bitsV moreV intsT eqL eq1 valOf min1 lit1 litInt litI litB litS constV constC cellsV partsOf placesOf buildV fillL toT elemsOf rowsOf baseOf dstOk V.kill V.ment V.ments C.kill C.ment C.ments B.kill setD litRows litRows_append T.isLit callAll calleeV argsV argV viewC viewCs modeOk freeOps V.free C.free V.allF V.allFs C.allF C.allFs B.allF callD leL growSt growB C.flat V.flat B.flat flatL flatB St.flat List.set_cons_zero List.set_cons_succ C.only C.onlys V.only V.onlys B.only renI C.ren C.rens V.ren V.rens B.ren renB renOk nodK Option.getD_some Option.getD_none Option.isSome_some implies_true false_implies C.fit C.fits V.fit V.fit1 V.fits Bool.and_self ite_self exitV resV resL resC outV outV.outs eqB nn cast0 Int.toNat_natCast List.getElem?_map Value.cells Value.oneCell' Nat.lt_irrefl decide_true decide_false and_true true_and and_self and_false false_and not_true_eq_false not_false_eq_true not_true not_false List.size_toArray all_len Nat.zero_add Nat.add_zero List.length_cons List.length_append List.length_replicate List.length_set List.length_nil List.length_map List.map_cons List.map_nil List.take_succ_cons List.take_zero List.take_nil List.drop_succ_cons List.drop_zero List.drop_nil List.cons_append List.nil_append List.append_nil List.all_cons List.all_nil Bool.and_true Bool.true_and Bool.and_false Bool.false_and Bool.not_true Bool.not_false Bool.or_false Bool.or_true Bool.false_or Bool.true_or List.filter_cons List.filter_nil List.contains_cons List.contains_nil beq_self_eq_true List.getElem?_cons_zero List.getElem?_cons_succ List.getElem?_nil Option.map_some Option.map_none Option.toList_some Option.toList_none List.isEmpty_cons List.isEmpty_nil Bool.false_eq_true Bool.true_eq_false List.getElem?_toArray List.not_mem_nil List.mem_cons or_false forall_eq List.mem_singleton forall_const Option.toArray flsOf flOf flDist flRd flChk flLe tailF addF flSl dKeeps flFree closF notF if_true if_false plans stepE inD cleanSt dstsOf Oper.looksAt Op.operands Call.operands dnOf insN insAll prods pick stOf goneOf slOf blOf keepB' entD addB edge B.ment Region.binds tailOk clos List.any_cons List.any_nil List.filterMap_cons List.filterMap_nil ne_eq Bool.or_self List.isEmpty_iff Array.toList_append List.append_toArray Array.append_empty Option.bind_some Option.bind_none List.push_toArray
set_option maxRecDepth 100000
abbrev rU (l : List UInt8) : List (List T) := l.map fun b => [.lit (.int .u8 (b.toNat : Int))]
theorem litU_ (l : List UInt8) : litRows (rU l) = true := litRows_map fun _ => rfl
theorem lenU_ (l : List UInt8) : (∀ r ∈ rU l, r.length = 1) = True := all_len fun _ => rfl
theorem intsU_ (l : List UInt8) : intsT (rU l) = some (l.map fun b => (b.toNat : Int)) := by
  induction l with
  | nil => rfl
  | cons b l ih => rw [rU, List.map_cons, intsT, show List.map (fun b : UInt8 => [T.lit (.int .u8 (b.toNat : Int))]) l = rU l from rfl, ih]; rfl
theorem numsU_ (l : List UInt8) : strOfNums (l.map fun b => (b.toNat : Int)) = bs l := by
  unfold strOfNums bs
  rw [List.map_map]
  congr 2
  conv => rhs; rw [← List.map_id l]
  apply List.map_congr_left
  intro b _
  simp
theorem lsector_sp (b : UInt8) : Sp Try.prog 34 [.one (.lit (.int .u8 b.toNat))] (.one (.t true (.lit (.string (sec b))))) [] := by
  (refine sp_of Try.func34 (by kernel_rfl) rfl (by simp [Try.ntmps34]) fun X hX => ?_; rw [Try.ntmps34] at hX; simp only [argSl, List.map_cons, List.map_nil, Nat.reduceAdd])
  (repeat (first | refine cw_seq' ?_ | refine cw_block ?_ | refine cw_true rfl ?_ | refine cw_false rfl ?_ | refine cw_exit ?_ | refine cw_ret ?_ | refine cw_skip ?_ | (refine cw_region_k fun K hK => ?_; simp (maxSteps := 1000000) only [go_sem, Nat.reduceAdd, Nat.reduceSub, Nat.reduceMul, Nat.reduceLT, Nat.reduceLeDiff, Nat.reduceEqDiff, Nat.reduceBEq, Int.reduceToNat, Int.reduceLE, Int.reduceLT, Int.reduceEq, ↓reduceIte, reduceCtorEq, vDk, aDk, ty3, ty4, ty5, ty9, ty22, ty23, ty25, ty26, ty27, ty61, ty58, hX]; refine rwr_nil (hK _ ?_); clear hK K) | refine then_mk ?_ | refine then_exit ?_ | refine then_ret ?_ | refine blk_mk ?_ | refine blk_ret ?_ | refine blk_same ?_ | refine blk_ne (by decide) ?_))
  refine cw_grow 3 12 5 1 rfl ?_
  simp only [go_sem, Nat.reduceAdd, Nat.reduceSub, Nat.reduceMul, Nat.reduceLT, Nat.reduceLeDiff, Nat.reduceEqDiff, Nat.reduceBEq, Int.reduceToNat, Int.reduceLE, Int.reduceLT, Int.reduceEq, ↓reduceIte, reduceCtorEq, vDk, aDk, ty3, ty4, ty5, ty9, ty22, ty23, ty25, ty26, ty27, ty61, ty58, hX]
  refine cw_loop (fun m s => ∃ k, k ≤ 64 ∧ m = 64 - k ∧ s = ⟨[(4, litI .i64 k), (3, .one (.own 12 k)), (0, .one (.t false (.lit (.int .u8 b.toNat))))],
    [(12, .arr 5 1 true (rU (List.replicate k b)))]⟩) 64 ⟨_, ⟨0, Nat.zero_le _, rfl, rfl⟩, le_mk2 (by simp only [go_sem, Nat.reduceAdd, Nat.reduceSub, Nat.reduceMul, Nat.reduceLT, Nat.reduceLeDiff, Nat.reduceEqDiff, Nat.reduceBEq, Int.reduceToNat, Int.reduceLE, Int.reduceLT, Int.reduceEq, ↓reduceIte, reduceCtorEq, vDk, aDk, List.map_set, List.map_append] <;> ((repeat' apply And.intro) <;> rfl))⟩ ?_
  rintro m s ⟨k, hk, rfl, rfl⟩
  by_cases hlt : k < 64
  · have e1 : decide ((k : Int) < 64) = true := by simp; omega
    have e4 : IntKind.i64.wrap ((k : Int) + 1) = ((k + 1 : Nat) : Int) := by rw [IntWalk.i64_in _ (by omega)]; rfl
    have h1 : k + 1 ≤ maxLen := by unfold maxLen; omega
    have h2 : (k + 1) * 1 ≤ 140737488355328 := by omega
    have h3 : k + 1 ≤ 140737488355328 := by omega
    have e5 : rU (List.replicate k b) ++ [[T.lit (.int .u8 b.toNat)]] = rU (List.replicate (k + 1) b) := by rw [List.replicate_succ']; simp [rU]
    (repeat (first | refine cw_seq' ?_ | refine cw_block ?_ | refine cw_true rfl ?_ | refine cw_false rfl ?_ | refine cw_exit ?_ | refine cw_ret ?_ | refine cw_skip ?_ | (refine cw_region_k fun K hK => ?_; simp (maxSteps := 1000000) only [go_sem, Nat.reduceAdd, Nat.reduceSub, Nat.reduceMul, Nat.reduceLT, Nat.reduceLeDiff, Nat.reduceEqDiff, Nat.reduceBEq, Int.reduceToNat, Int.reduceLE, Int.reduceLT, Int.reduceEq, ↓reduceIte, reduceCtorEq, vDk, aDk, ty3, ty4, ty5, ty9, ty22, ty23, ty25, ty26, ty27, ty61, ty58, e1, e4, h1, h2, h3, e5, litU_, lenU_, hX]; refine rwr_nil (hK _ ?_); clear hK K) | refine then_mk ?_ | refine then_exit ?_ | refine then_ret ?_ | refine blk_mk ?_ | refine blk_ret ?_ | refine blk_same ?_ | refine blk_ne (by decide) ?_))
    exact ⟨64 - (k + 1), by omega, _, ⟨k + 1, by omega, rfl, rfl⟩, le_mk2 (by simp only [go_sem, Nat.reduceAdd, Nat.reduceSub, Nat.reduceMul, Nat.reduceLT, Nat.reduceLeDiff, Nat.reduceEqDiff, Nat.reduceBEq, Int.reduceToNat, Int.reduceLE, Int.reduceLT, Int.reduceEq, ↓reduceIte, reduceCtorEq, vDk, aDk, List.map_set, List.map_append] <;> ((repeat' apply And.intro) <;> rfl))⟩
  obtain rfl : k = 64 := by omega
  (repeat (first | refine cw_seq' ?_ | refine cw_block ?_ | refine cw_true rfl ?_ | refine cw_false rfl ?_ | refine cw_exit ?_ | refine cw_ret ?_ | refine cw_skip ?_ | (refine cw_region_k fun K hK => ?_; simp (maxSteps := 1000000) only [go_sem, Nat.reduceAdd, Nat.reduceSub, Nat.reduceMul, Nat.reduceLT, Nat.reduceLeDiff, Nat.reduceEqDiff, Nat.reduceBEq, Int.reduceToNat, Int.reduceLE, Int.reduceLT, Int.reduceEq, ↓reduceIte, reduceCtorEq, vDk, aDk, ty3, ty4, ty5, ty9, ty22, ty23, ty25, ty26, ty27, ty61, ty58, intsU_, numsU_, hX]; refine rwr_nil (hK _ ?_); clear hK K) | refine then_mk ?_ | refine then_exit ?_ | refine then_ret ?_ | refine blk_mk ?_ | refine blk_ret ?_ | refine blk_same ?_ | refine blk_ne (by decide) ?_))
  (first | refine exit_retf ?_ | refine exit_normalf ?_); rw [Try.results34]; simp only [go_sem, Nat.reduceAdd, Nat.reduceSub, Nat.reduceMul, Nat.reduceLT, Nat.reduceLeDiff, Nat.reduceEqDiff, Nat.reduceBEq, Int.reduceToNat, Int.reduceLE, Int.reduceLT, Int.reduceEq, ↓reduceIte, reduceCtorEq, vDk, aDk, ty3, ty4, ty5, ty9, ty22, ty23, ty25, ty26, ty27, ty61, ty58, hX]
  rfl
theorem hk0 : ([] : List ByteArray).length ≤ maxLen := Nat.zero_le _
theorem dk_new : newD 2 = (⟨[blank, blank], []⟩, 0) := rfl
theorem sec_size (b : UInt8) : (sec b).size = 64 := by simp [sec, bs_size]
theorem blank_size : blank.size = 64 := by simp [blank, bs_size]
theorem badS_of {s : ByteArray} (h : s.size = 64) : badS s = false := by simp [badS, h]
theorem dk_write : writeD ⟨[blank, blank], []⟩ 1 (sec 7) = (⟨[blank, blank], [⟨1, sec 7⟩]⟩, 0) := by
  simp [writeD, wrongW, oneD, checkD, checkW, putD, badS_of blank_size, badS_of (sec_size 7)]
theorem dk_check : checkD ⟨[blank, blank], [⟨1, sec 7⟩]⟩ = 0 := by
  simp [checkD, checkW, badS_of blank_size, badS_of (sec_size 7)]
theorem dk_flush : flushD ⟨[blank, blank], [⟨1, sec 7⟩]⟩ = (⟨[blank, sec 7], []⟩, 0) := by
  unfold flushD
  rw [dk_check]
  rfl
theorem dk_crash : crashD ⟨[blank, blank], [⟨1, sec 7⟩]⟩ [false] = (⟨[blank, blank], []⟩, 0) := by
  unfold crashD
  rw [dk_check]
  rfl
end Go.Proofs.Ytoghgjobfcnneaa.Ax
