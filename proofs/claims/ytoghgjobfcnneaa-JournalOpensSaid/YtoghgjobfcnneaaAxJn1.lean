/- Journals, by what is known: numbers, sectors, parts. -/
import Derived.Test.YtoghgjobfcnneaaAxDk2
import Derived.Test.YtoghgjobfcnneaaAxG6
import Derived.Test.YtoghgjobfcnneaaJnPlain
namespace Go.Proofs.Ytoghgjobfcnneaa.Ax
open Go.RowKit
set_option linter.unusedSimpArgs false
attribute [local go_sem] extV appD ptrC fnC nilC nilPtr strRows_len runs runsN guardOf exec1 pureV modD rowD ev get St.app St.put St.turn loadC moveC fieldOf indexC lenC lenOk cutC bndOf evAll fieldV convV unV binV binI bitsV moreV intsT eqL eq1 valOf min1 lit1 litInt litI litB litS constV constC cellsV partsOf placesOf buildV fillL toT elemsOf rowsOf baseOf dstOk V.kill V.ment V.ments C.kill C.ment C.ments B.kill setD litRows litRows_append T.isLit callAll calleeV argsV argV viewC viewCs modeOk freeOps V.free C.free V.allF V.allFs C.allF C.allFs B.allF callD leL growSt growB C.flat V.flat B.flat flatL flatB St.flat List.set_cons_zero List.set_cons_succ C.only C.onlys V.only V.onlys B.only renI C.ren C.rens V.ren V.rens B.ren renB renOk nodK Option.getD_some Option.getD_none Option.isSome_some implies_true false_implies C.fit C.fits V.fit V.fit1 V.fits Bool.and_self ite_self exitV resV resL resC outV outV.outs eqB nn cast0 Int.toNat_natCast List.getElem?_map Value.cells Value.oneCell' Nat.lt_irrefl decide_true decide_false and_true true_and and_self and_false false_and not_true_eq_false not_false_eq_true not_true not_false List.size_toArray all_len Nat.zero_add Nat.add_zero List.length_cons List.length_append List.length_replicate List.length_set List.length_nil List.length_map List.map_cons List.map_nil List.take_succ_cons List.take_zero List.take_nil List.drop_succ_cons List.drop_zero List.drop_nil List.cons_append List.nil_append List.append_nil List.all_cons List.all_nil Bool.and_true Bool.true_and Bool.and_false Bool.false_and Bool.not_true Bool.not_false Bool.or_false Bool.or_true Bool.false_or Bool.true_or List.filter_cons List.filter_nil List.contains_cons List.contains_nil beq_self_eq_true List.getElem?_cons_zero List.getElem?_cons_succ List.getElem?_nil Option.map_some Option.map_none Option.toList_some Option.toList_none List.isEmpty_cons List.isEmpty_nil Bool.false_eq_true Bool.true_eq_false List.getElem?_toArray List.not_mem_nil List.mem_cons or_false forall_eq List.mem_singleton forall_const Option.toArray flsOf flOf flDist flRd flChk flLe tailF addF flSl dKeeps flFree closF notF if_true if_false plans stepE inD cleanSt dstsOf Oper.looksAt Op.operands Call.operands dnOf insN insAll prods pick stOf goneOf slOf blOf keepB' entD addB edge B.ment Region.binds tailOk clos List.any_cons List.any_nil List.filterMap_cons List.filterMap_nil ne_eq Bool.or_self List.isEmpty_iff Array.toList_append List.append_toArray Array.append_empty Option.bind_some Option.bind_none List.push_toArray
set_option maxRecDepth 100000
theorem wrapB (b : UInt8) : IntKind.i64.wrap (b.toNat : Int) = (b.toNat : Int) := by
  have := b.toNat_lt
  exact IntWalk.i64_in _ (by omega)
theorem byteJ_of {s : ByteArray} {k : Nat} {b : UInt8} (h : s[k]? = some b) : byteJ s k = b.toNat := by
  unfold byteJ
  rw [List.getD_eq_getElem?_getD, show s.data.toList[k]? = some b from by
    have hk : k < s.size := (getElem?_eq_some_iff.1 h).1
    rw [getElem?_pos s k hk] at h
    rw [List.getElem?_eq_getElem (by simpa using hk)]; exact h]
  rfl
theorem told_bits (b0 b1 b2 b3 : UInt8) : IntKind.i64.wrap ↑(BitVec.ofInt 64 (IntKind.i64.wrap ↑(BitVec.ofInt 64 (IntKind.i64.wrap ↑(BitVec.ofInt 64 ↑b0.toNat ||| BitVec.ofInt 64 (IntKind.i64.wrap (↑b1.toNat * 2 ^ min 8 64))).toNat) ||| BitVec.ofInt 64 (IntKind.i64.wrap (↑b2.toNat * 2 ^ min 16 64))).toNat) |||
    BitVec.ofInt 64 (IntKind.i64.wrap (↑b3.toNat * 2 ^ min 24 64))).toNat = ((b0.toNat + 256 * b1.toNat + 65536 * b2.toNat + 16777216 * b3.toNat : Nat) : Int) := by
  have h0 := b0.toNat_lt
  have h1 := b1.toNat_lt
  have h2 := b2.toNat_lt
  have h3 := b3.toNat_lt
  have q1 : IntKind.i64.wrap ((b1.toNat : Int) * 2 ^ min 8 64) = (b1.toNat : Int) * 256 := (IntWalk.i64_in (b1.toNat * 256) (by omega))
  have q2 : IntKind.i64.wrap ((b2.toNat : Int) * 2 ^ min 16 64) = (b2.toNat : Int) * 65536 := (IntWalk.i64_in (b2.toNat * 65536) (by omega))
  have q3 : IntKind.i64.wrap ((b3.toNat : Int) * 2 ^ min 24 64) = (b3.toNat : Int) * 16777216 := (IntWalk.i64_in (b3.toNat * 16777216) (by omega))
  rw [q1, q2, q3]
  have e1 := or_apart 8 256 b0.toNat b1.toNat (by decide) (by omega) (by omega) h1
  have e2 := or_apart 16 65536 (b0.toNat + b1.toNat * 256) b2.toNat (by decide) (by omega) (by omega) h2
  have e3 := or_apart 24 16777216 (b0.toNat + b1.toNat * 256 + b2.toNat * 65536) b3.toNat (by decide) (by omega) (by omega) h3
  refine (congrArg (fun x => bits .or .i64 (bits .or .i64 x ((b2.toNat : Int) * 65536)) ((b3.toNat : Int) * 16777216)) e1).trans ?_
  refine (congrArg (fun x => bits .or .i64 x ((b3.toNat : Int) * 16777216)) e2).trans ?_
  refine e3.trans ?_
  omega
theorem byteJ_lt (s : ByteArray) (i : Nat) : byteJ s i < 256 := by unfold byteJ; exact UInt8.toNat_lt _
theorem told_lt (s : ByteArray) (i : Nat) : toldJ s i < 4294967296 := by
  have h0 := byteJ_lt s i
  have h1 := byteJ_lt s (i + 1)
  have h2 := byteJ_lt s (i + 2)
  have h3 := byteJ_lt s (i + 3)
  unfold toldJ
  omega
theorem told_sp (s : ByteArray) (k : Nat) (h : k + 3 < s.size) (hs : s.size ≤ maxLen) : Sp Try.prog 50 [.one (.lit (.string s)), .one (.lit (.int .i64 k))] (.one (.t true (.lit (.int .i64 (toldJ s k))))) [] := by
  have hl : s.data.toList.length = s.size := rfl
  obtain ⟨b0, h0⟩ : ∃ b, s[k]? = some b := ⟨_, getElem?_pos s k (by omega)⟩
  obtain ⟨b1, h1⟩ : ∃ b, s[k + 1]? = some b := ⟨_, getElem?_pos s (k + 1) (by omega)⟩
  obtain ⟨b2, h2⟩ : ∃ b, s[k + 2]? = some b := ⟨_, getElem?_pos s (k + 2) (by omega)⟩
  obtain ⟨b3, h3⟩ : ∃ b, s[k + 3]? = some b := ⟨_, getElem?_pos s (k + 3) (by omega)⟩
  have e1 : IntKind.i64.wrap ((k : Int) + 1) = ((k + 1 : Nat) : Int) := by unfold maxLen at hs; rw [IntWalk.i64_in _ (by omega)]; rfl
  have e2 : IntKind.i64.wrap ((k : Int) + 2) = ((k + 2 : Nat) : Int) := by unfold maxLen at hs; rw [IntWalk.i64_in _ (by omega)]; rfl
  have e3 : IntKind.i64.wrap ((k : Int) + 3) = ((k + 3 : Nat) : Int) := by unfold maxLen at hs; rw [IntWalk.i64_in _ (by omega)]; rfl
  (refine sp_of Try.func50 (by kernel_rfl) rfl (by simp [Try.ntmps50]) fun X hX => ?_; rw [Try.ntmps50] at hX; simp only [argSl, List.map_cons, List.map_nil, Nat.reduceAdd])
  (repeat (first | refine cw_seq' ?_ | refine cw_block ?_ | refine cw_true rfl ?_ | refine cw_false rfl ?_ | refine cw_exit ?_ | refine cw_ret ?_ | refine cw_skip ?_ | (refine cw_region_k fun K hK => ?_; simp (maxSteps := 1000000) only [go_sem, Nat.reduceAdd, Nat.reduceSub, Nat.reduceMul, Nat.reduceLT, Nat.reduceLeDiff, Nat.reduceEqDiff, Nat.reduceBEq, Int.reduceToNat, Int.reduceLE, Int.reduceLT, Int.reduceEq, ↓reduceIte, reduceCtorEq, vDk, aDk, ty3, ty4, ty5, ty9, ty22, ty23, ty25, ty26, ty27, ty61, ty58, hX]; refine rwr_nil (hK _ ?_); clear hK K) | refine then_mk ?_ | refine then_exit ?_ | refine then_ret ?_ | refine blk_mk ?_ | refine blk_ret ?_ | refine blk_same ?_ | refine blk_ne (by decide) ?_))
  (refine cw_drawn_o 26 (by kernel_rfl) (by kernel_rfl) (by simp only [dstsOf, List.take_succ_cons, List.take_zero, List.take_nil]; exact rfl) (by simp (maxSteps := 5000000) only [go_sem, Nat.reduceAdd, Nat.reduceSub, Nat.reduceMul, Nat.reduceLT, Nat.reduceLeDiff, Nat.reduceEqDiff, Nat.reduceBEq, Int.reduceToNat, Int.reduceLE, Int.reduceLT, Int.reduceEq, ↓reduceIte, reduceCtorEq, vDk, aDk, ty3, ty4, ty5, ty9, ty22, ty23, ty25, ty26, ty27, ty61, ty58, hX]; exact rfl) fun K hK => ?_)
  (repeat (refine pw_any (by simp only [Option.toArray, Oper.looksAt, Op.operands, Call.operands, prods, dnOf, insN, insAll, List.getElem?_toArray, List.getElem?_cons_zero, List.getElem?_cons_succ, List.contains_cons, List.contains_nil, Nat.reduceBEq, Nat.reduceEqDiff, Nat.reduceLT, Nat.reduceLeDiff, Bool.or_true, Bool.true_or, Bool.or_false, Bool.false_or, Bool.or_self, Bool.false_eq_true, ↓reduceIte, reduceCtorEq, List.cons_append, List.nil_append, List.append_nil, Option.map_some, Option.map_none, Option.toList_some, Option.toList_none, List.filterMap_cons, List.filterMap_nil, Option.bind_some, Option.bind_none, Array.toList_append, List.append_toArray, Array.append_empty, List.push_toArray, List.map_cons, List.map_nil, beq_self_eq_true, if_true, if_false, Option.getD_some, Option.getD_none]; exact rfl) (by simp (maxSteps := 5000000) only [go_sem, Nat.reduceAdd, Nat.reduceSub, Nat.reduceMul, Nat.reduceLT, Nat.reduceLeDiff, Nat.reduceEqDiff, Nat.reduceBEq, Int.reduceToNat, Int.reduceLE, Int.reduceLT, Int.reduceEq, ↓reduceIte, reduceCtorEq, vDk, aDk, ty3, ty4, ty5, ty9, ty22, ty23, ty25, ty26, ty27, ty61, ty58, h0, h1, h2, h3, e1, e2, e3, wrapB, hX]; exact rfl) (by simp (maxSteps := 5000000) only [go_sem, Nat.reduceAdd, Nat.reduceSub, Nat.reduceMul, Nat.reduceLT, Nat.reduceLeDiff, Nat.reduceEqDiff, Nat.reduceBEq, Int.reduceToNat, Int.reduceLE, Int.reduceLT, Int.reduceEq, ↓reduceIte, reduceCtorEq, vDk, aDk, ty3, ty4, ty5, ty9, ty22, ty23, ty25, ty26, ty27, ty61, ty58, h0, h1, h2, h3, e1, e2, e3, wrapB, hX]; exact rfl) (by simp (maxSteps := 5000000) only [go_sem, Nat.reduceAdd, Nat.reduceSub, Nat.reduceMul, Nat.reduceLT, Nat.reduceLeDiff, Nat.reduceEqDiff, Nat.reduceBEq, Int.reduceToNat, Int.reduceLE, Int.reduceLT, Int.reduceEq, ↓reduceIte, reduceCtorEq, vDk, aDk, ty3, ty4, ty5, ty9, ty22, ty23, ty25, ty26, ty27, ty61, ty58, h0, h1, h2, h3, e1, e2, e3, wrapB, hX]; exact rfl) (by simp only [List.cons_append, List.nil_append, List.length_cons, List.length_nil, Nat.reduceAdd, Nat.zero_add]; exact rfl) ?_))
  (refine pw_tail _ hX (by kernel_rfl) (by kernel_rfl) ?_; simp (maxSteps := 5000000) only [go_sem, Nat.reduceAdd, Nat.reduceSub, Nat.reduceMul, Nat.reduceLT, Nat.reduceLeDiff, Nat.reduceEqDiff, Nat.reduceBEq, Int.reduceToNat, Int.reduceLE, Int.reduceLT, Int.reduceEq, ↓reduceIte, reduceCtorEq, vDk, aDk, ty3, ty4, ty5, ty9, ty22, ty23, ty25, ty26, ty27, ty61, ty58, hX])
  (refine rwr_nil (hK _ ?_); clear hK K)
  (repeat (first | refine cw_seq' ?_ | refine cw_block ?_ | refine cw_true rfl ?_ | refine cw_false rfl ?_ | refine cw_exit ?_ | refine cw_ret ?_ | refine cw_skip ?_ | (refine cw_region_k fun K hK => ?_; simp (maxSteps := 1000000) only [go_sem, Nat.reduceAdd, Nat.reduceSub, Nat.reduceMul, Nat.reduceLT, Nat.reduceLeDiff, Nat.reduceEqDiff, Nat.reduceBEq, Int.reduceToNat, Int.reduceLE, Int.reduceLT, Int.reduceEq, ↓reduceIte, reduceCtorEq, vDk, aDk, ty3, ty4, ty5, ty9, ty22, ty23, ty25, ty26, ty27, ty61, ty58, hX]; refine rwr_nil (hK _ ?_); clear hK K) | refine then_mk ?_ | refine then_exit ?_ | refine then_ret ?_ | refine blk_mk ?_ | refine blk_ret ?_ | refine blk_same ?_ | refine blk_ne (by decide) ?_))
  (first | refine exit_retf ?_ | refine exit_normalf ?_); rw [Try.results50]; simp only [go_sem, Nat.reduceAdd, Nat.reduceSub, Nat.reduceMul, Nat.reduceLT, Nat.reduceLeDiff, Nat.reduceEqDiff, Nat.reduceBEq, Int.reduceToNat, Int.reduceLE, Int.reduceLT, Int.reduceEq, ↓reduceIte, reduceCtorEq, vDk, aDk, ty3, ty4, ty5, ty9, ty22, ty23, ty25, ty26, ty27, ty61, ty58, hX]
  rw [toldJ, byteJ_of h0, byteJ_of h1, byteJ_of h2, byteJ_of h3]
  exact congrArg (fun z => some (V.one (C.t true (T.lit (Value.int IntKind.i64 z))))) (told_bits b0 b1 b2 b3)
theorem toldI_sp (s : ByteArray) (k : Nat) (n : Int) (hn : n = (k : Int)) (h : k + 3 < s.size) (hs : s.size ≤ maxLen) : Sp Try.prog 50 [.one (.lit (.string s)), .one (.lit (.int .i64 n))] (.one (.t true (.lit (.int .i64 (toldJ s k))))) [] := by
  rw [hn]; exact told_sp s k h hs
theorem parts_sp (n : Nat) (hn : n < 4294967296) : Sp Try.prog 38 [.one (.lit (.int .i64 n))] (.one (.t true (.lit (.int .i64 (partsJ n))))) [] := by
  have e1 : IntKind.i64.wrap ((n : Int) + 63) = ((n + 63 : Nat) : Int) := by rw [IntWalk.i64_in _ (by omega)]; rfl
  have e2 : IntKind.i64.wrap (((n + 63 : Nat) : Int) - 1) = ((n + 62 : Nat) : Int) := by rw [IntWalk.i64_in _ (by omega)]; omega
  have e3 : IntKind.i64.wrap (((n + 62 : Nat) : Int).tdiv 63) = ((partsJ n : Nat) : Int) := by
    have : ((n + 62 : Nat) : Int).tdiv 63 = ((partsJ n : Nat) : Int) := by rw [partsJ, Int.tdiv_eq_ediv_of_nonneg (by omega)]; rfl
    rw [this, IntWalk.i64_in _ (by unfold partsJ; omega)]
  (refine sp_of Try.func38 (by kernel_rfl) rfl (by simp [Try.ntmps38]) fun X hX => ?_; rw [Try.ntmps38] at hX; simp only [argSl, List.map_cons, List.map_nil, Nat.reduceAdd])
  (repeat (first | refine cw_seq' ?_ | refine cw_block ?_ | refine cw_true rfl ?_ | refine cw_false rfl ?_ | refine cw_exit ?_ | refine cw_ret ?_ | refine cw_skip ?_ | (refine cw_region_k fun K hK => ?_; simp (maxSteps := 1000000) only [go_sem, Nat.reduceAdd, Nat.reduceSub, Nat.reduceMul, Nat.reduceLT, Nat.reduceLeDiff, Nat.reduceEqDiff, Nat.reduceBEq, Int.reduceToNat, Int.reduceLE, Int.reduceLT, Int.reduceEq, ↓reduceIte, reduceCtorEq, vDk, aDk, ty3, ty4, ty5, ty9, ty22, ty23, ty25, ty26, ty27, ty61, ty58, e1, e2, e3, hX]; refine rwr_nil (hK _ ?_); clear hK K) | refine then_mk ?_ | refine then_exit ?_ | refine then_ret ?_ | refine blk_mk ?_ | refine blk_ret ?_ | refine blk_same ?_ | refine blk_ne (by decide) ?_))
  (first | refine exit_retf ?_ | refine exit_normalf ?_); rw [Try.results38]; simp only [go_sem, Nat.reduceAdd, Nat.reduceSub, Nat.reduceMul, Nat.reduceLT, Nat.reduceLeDiff, Nat.reduceEqDiff, Nat.reduceBEq, Int.reduceToNat, Int.reduceLE, Int.reduceLT, Int.reduceEq, ↓reduceIte, reduceCtorEq, vDk, aDk, ty3, ty4, ty5, ty9, ty22, ty23, ty25, ty26, ty27, ty61, ty58, hX]
theorem u8w (m : Nat) : UInt8.ofNat (IntKind.u8.wrap (m : Int)).toNat = UInt8.ofNat m := by
  have h : IntKind.u8.wrap (m : Int) = ((m % 256 : Nat) : Int) := by
    rw [show IntKind.u8.wrap (m : Int) = (m : Int) % 256 from rfl]; rfl
  rw [h, Int.toNat_natCast]
  apply UInt8.toNat_inj.1
  simp
theorem fdivN (n a b : Nat) (h : (2 : Int) ^ a = (b : Int)) : (n : Int).fdiv (2 ^ a) = ((n / b : Nat) : Int) := by
  rw [h, Int.fdiv_eq_ediv_of_nonneg _ (by omega)]; rfl
theorem number_fin (n : Nat) : strOfNums [IntKind.u8.wrap (n : Int), IntKind.u8.wrap ((n : Int).fdiv (2 ^ min 8 64)), IntKind.u8.wrap ((n : Int).fdiv (2 ^ min 16 64)), IntKind.u8.wrap ((n : Int).fdiv (2 ^ min 24 64))] = numJ n := by
  rw [fdivN n (min 8 64) 256 (by decide), fdivN n (min 16 64) 65536 (by decide), fdivN n (min 24 64) 16777216 (by decide)]
  unfold strOfNums numJ bs
  simp only [List.map_cons, List.map_nil, u8w]
theorem number_sp (n : Nat) : Sp Try.prog 41 [.one (.lit (.int .i64 n))] (.one (.t true (.lit (.string (numJ n))))) [] := by
  (refine sp_of Try.func41 (by kernel_rfl) rfl (by simp [Try.ntmps41]) fun X hX => ?_; rw [Try.ntmps41] at hX; simp only [argSl, List.map_cons, List.map_nil, Nat.reduceAdd])
  (repeat (first | refine cw_seq' ?_ | refine cw_block ?_ | refine cw_true rfl ?_ | refine cw_false rfl ?_ | refine cw_exit ?_ | refine cw_ret ?_ | refine cw_skip ?_ | (refine cw_region_k fun K hK => ?_; simp (maxSteps := 1000000) only [go_sem, Nat.reduceAdd, Nat.reduceSub, Nat.reduceMul, Nat.reduceLT, Nat.reduceLeDiff, Nat.reduceEqDiff, Nat.reduceBEq, Int.reduceToNat, Int.reduceLE, Int.reduceLT, Int.reduceEq, ↓reduceIte, reduceCtorEq, vDk, aDk, ty3, ty4, ty5, ty9, ty22, ty23, ty25, ty26, ty27, ty61, ty58, hX]; refine rwr_nil (hK _ ?_); clear hK K) | refine then_mk ?_ | refine then_exit ?_ | refine then_ret ?_ | refine blk_mk ?_ | refine blk_ret ?_ | refine blk_same ?_ | refine blk_ne (by decide) ?_))
  (first | refine exit_retf ?_ | refine exit_normalf ?_); rw [Try.results41]; simp only [go_sem, Nat.reduceAdd, Nat.reduceSub, Nat.reduceMul, Nat.reduceLT, Nat.reduceLeDiff, Nat.reduceEqDiff, Nat.reduceBEq, Int.reduceToNat, Int.reduceLE, Int.reduceLT, Int.reduceEq, ↓reduceIte, reduceCtorEq, vDk, aDk, ty3, ty4, ty5, ty9, ty22, ty23, ty25, ty26, ty27, ty61, ty58, hX]
  exact congrArg (fun z => some (V.one (C.t true (T.lit (Value.string z))))) (number_fin n)
end Go.Proofs.Ytoghgjobfcnneaa.Ax
