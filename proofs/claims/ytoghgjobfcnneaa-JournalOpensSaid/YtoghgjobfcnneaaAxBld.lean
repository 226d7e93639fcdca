/- strings.Builder, by what is known. -/
import Derived.Test.YtoghgjobfcnneaaAxTy
import Derived.Test.YtoghgjobfcnneaaAxG8
import Derived.Test.YtoghgjobfcnneaaBld1
namespace Go.Proofs.Ytoghgjobfcnneaa.Ax
open Go.RowKit
set_option linter.unusedSimpArgs false
attribute [local go_sem] extV appD ptrC fnC nilC nilPtr strRows_len runs runsN guardOf exec1 pureV modD rowD ev get St.app St.put St.turn loadC moveC fieldOf indexC lenC lenOk cutC bndOf evAll fieldV convV unV binV binI bitsV moreV intsT eqL eq1 valOf min1 lit1 litInt litI litB litS constV constC cellsV partsOf placesOf buildV fillL toT elemsOf rowsOf baseOf dstOk V.kill V.ment V.ments C.kill C.ment C.ments B.kill setD litRows litRows_append T.isLit callAll calleeV argsV argV viewC viewCs modeOk freeOps V.free C.free V.allF V.allFs C.allF C.allFs B.allF callD leL growSt growB C.flat V.flat B.flat flatL flatB St.flat List.set_cons_zero List.set_cons_succ C.only C.onlys V.only V.onlys B.only renI C.ren C.rens V.ren V.rens B.ren renB renOk nodK Option.getD_some Option.getD_none Option.isSome_some implies_true false_implies C.fit C.fits V.fit V.fit1 V.fits Bool.and_self ite_self exitV resV resL resC outV outV.outs eqB nn cast0 Int.toNat_natCast List.getElem?_map Value.cells Value.oneCell' Nat.lt_irrefl decide_true decide_false and_true true_and and_self and_false false_and not_true_eq_false not_false_eq_true not_true not_false List.size_toArray all_len Nat.zero_add Nat.add_zero List.length_cons List.length_append List.length_replicate List.length_set List.length_nil List.length_map List.map_cons List.map_nil List.take_succ_cons List.take_zero List.take_nil List.drop_succ_cons List.drop_zero List.drop_nil List.cons_append List.nil_append List.append_nil List.all_cons List.all_nil Bool.and_true Bool.true_and Bool.and_false Bool.false_and Bool.not_true Bool.not_false Bool.or_false Bool.or_true Bool.false_or Bool.true_or List.filter_cons List.filter_nil List.contains_cons List.contains_nil beq_self_eq_true List.getElem?_cons_zero List.getElem?_cons_succ List.getElem?_nil Option.map_some Option.map_none Option.toList_some Option.toList_none List.isEmpty_cons List.isEmpty_nil Bool.false_eq_true Bool.true_eq_false List.getElem?_toArray List.not_mem_nil List.mem_cons or_false forall_eq List.mem_singleton forall_const Option.toArray flsOf flOf flDist flRd flChk flLe tailF addF flSl dKeeps flFree closF notF if_true if_false plans stepE inD cleanSt dstsOf Oper.looksAt Op.operands Call.operands dnOf insN insAll prods pick stOf goneOf slOf blOf keepB' entD addB edge B.ment Region.binds tailOk clos List.any_cons List.any_nil List.filterMap_cons List.filterMap_nil ne_eq Bool.or_self List.isEmpty_iff Array.toList_append List.append_toArray Array.append_empty Option.bind_some Option.bind_none List.push_toArray argSv ioD modeIO staysOk callIO calleeIO argsIO valIO cellsIO cellIO butB zLe cLe csLe vLe vsLe bLe insLe renIOk nbOk foE foE.foR foE.foB anyText anyGc aliveF mK kdN klAt klAt.atL looksB remN dstNe nbIds provBl provBs provOf provOf.provH rdsOf idsR provR blsOf dnA edgesOf foSl inL dnE dnF dnH C.ids C.idss V.ids V.idss FHave FHave.rdHave FHave.blHave provF provF.provP findF hsOk NDst klOf dropS true_or or_true or_self
set_option maxRecDepth 100000
abbrev bldNew : B := .var 98 [.t true (.lit (.pointer none)), .nil]
abbrev bldUsed (id k n : Nat) : B := .var 98 [.optr id 0, .own k n]
abbrev rowU (rows : List (List T)) : B := .arr 5 1 true rows
theorem cc_new_io : SpIO Try.prog 62 [.one (.optr 1000 0)] [(1000, bldNew)] (.tup []) [(1000, .var 98 [.optr 1000 0, .nil])] [1000] where
  enters := enters_of Try.func62 (by kernel_rfl) rfl
  calls w S F hS ρ hF hinj hdead hins vs hvs := by
    have hB := hins 1000 _ rfl
    unfold HasB at hB
    obtain ⟨b, cap, hid, xs, hb, hcs⟩ := hB
    match vs, hvs with
    | [x], hvs =>
      unfold RdVs RdV RdC at hvs
      simp only [hid] at hvs
      obtain ⟨rfl, _⟩ := hvs
      obtain ⟨l⟩ := xs
      match l, hcs, hb with
      | [u, v], hcs, hb =>
        unfold RdCs RdC RdT at hcs
        obtain ⟨⟨rfl, _⟩, hcs⟩ := hcs
        unfold RdCs RdC at hcs
        obtain ⟨hv, _⟩ := hcs
        refine (cc_fresh b w (by rw [Lib.cell_of_heap hb]; rfl) (by simp [World.shape?, hb]) (by simp [World.frozen?, hb])).mono ?_
        rintro e w' ⟨rfl, rfl⟩
        refine ⟨_, ρ, rfl, ⟨rfl, rfl, rfl, by simp [World.setCell], fun k hk => absurd hk (by omega)⟩, fun k hk => Below.heap_setCell _ _ _ _ fun e => hk.2 1000 cap (e ▸ hid), fun id b cap hid => ⟨.inr (hF id b cap hid).1, fun hk => hk.2 id cap hid, by simpa [World.setCell] using (hF id b cap hid).2⟩, hinj, hdead, fun _ _ => rfl, ?_, fun id B hB => ?_⟩
        · unfold RdV; exact ⟨#[], rfl, by unfold RdVs; trivial⟩
        · obtain ⟨rfl, rfl⟩ := one_get hB
          unfold HasB
          refine ⟨b, cap, hid, #[.pointer (some ⟨b, 0, none⟩), v], by simp [World.setCell, Array.getElem?_modify, hb], ?_⟩
          unfold RdCs RdC RdCs RdC RdCs
          simp only [hid]
          exact ⟨trivial, hv, trivial⟩
theorem cc_used_io (rows : List (List T)) : SpIO Try.prog 62 [.one (.optr 1000 0)] [(1000, bldUsed 1000 1001 rows.length), (1001, rowU rows)] (.tup []) [(1000, bldUsed 1000 1001 rows.length), (1001, rowU rows)] [1000, 1001] where
  enters := enters_of Try.func62 (by kernel_rfl) rfl
  calls w S F hS ρ hF hinj hdead hins vs hvs := by
    have hB := hins 1000 _ rfl
    unfold HasB at hB
    obtain ⟨b, cap, hid, xs, hb, hcs⟩ := hB
    match vs, hvs with
    | [x], hvs =>
      unfold RdVs RdV RdC at hvs
      simp only [hid] at hvs
      obtain ⟨rfl, _⟩ := hvs
      obtain ⟨l⟩ := xs
      match l, hcs, hb with
      | [u, v], hcs, hb =>
        unfold RdCs RdC at hcs
        simp only [hid] at hcs
        obtain ⟨rfl, _⟩ := hcs
        refine (cc_used b w (by rw [Lib.cell_of_heap hb]; rfl)).mono ?_
        rintro e w' ⟨rfl, rfl⟩
        exact ⟨_, ρ, rfl, Below.refl _ _, fun _ _ => rfl, fun id b cap hid => ⟨.inr (hF id b cap hid).1, fun hk => hk.2 id cap hid, (hF id b cap hid).2⟩, hinj, hdead, fun _ _ => rfl, by unfold RdV; exact ⟨#[], rfl, by unfold RdVs; trivial⟩, hins⟩
theorem wstr_new_io (s : ByteArray) (hs : s.size ≤ 140737488355328) (z : Bool) : SpIO Try.prog 58 [.one (.optr 1000 0), .one (.t z (.lit (.string s)))] [(1000, bldNew)] (.tup [litI .i64 s.size, .one (.t true (.lit .nilIface))]) [(1000, bldUsed 1000 14 s.size), (14, rowU (strRows s))] [1000] := by
  have h1 : s.size ≤ maxLen := by unfold maxLen; omega
  (refine sp_of_io Try.func58 (by kernel_rfl) rfl (by simp [Try.ntmps58]) fun X hX => ?_; rw [Try.ntmps58] at hX; simp only [argSv])
  (repeat (first | refine cw_seq' ?_ | refine cw_block ?_ | refine cw_true rfl ?_ | refine cw_false rfl ?_ | refine cw_exit ?_ | refine cw_ret ?_ | refine cw_skip ?_ | (refine cw_region_k fun K hK => ?_; simp (maxSteps := 1000000) only [go_sem, Nat.reduceAdd, Nat.reduceSub, Nat.reduceMul, Nat.reduceLT, Nat.reduceLeDiff, Nat.reduceEqDiff, Nat.reduceBEq, Int.reduceToNat, Int.reduceLE, Int.reduceLT, Int.reduceEq, ↓reduceIte, reduceCtorEq, bldNew, bldUsed, rowU, ty3, ty4, ty5, ty9, ty58, ty98, ty96, ty105, hX]; refine rwr_nil (hK _ ?_); clear hK K) | refine then_mk ?_ | refine then_exit ?_ | refine then_ret ?_ | refine blk_mk ?_ | refine blk_ret ?_ | refine blk_same ?_ | refine blk_ne (by decide) ?_))
  (refine cw_region_k fun K hK => ?_; simp (maxSteps := 1000000) only [go_sem, Nat.reduceAdd, Nat.reduceSub, Nat.reduceMul, Nat.reduceLT, Nat.reduceLeDiff, Nat.reduceEqDiff, Nat.reduceBEq, Int.reduceToNat, Int.reduceLE, Int.reduceLT, Int.reduceEq, ↓reduceIte, reduceCtorEq, bldNew, bldUsed, rowU, ty3, ty4, ty5, ty9, ty58, ty98, ty96, ty105, hX])
  (refine rwr_io 9 (SpIO.ren (cc_new_io) [(1000, 1000)] rfl) rfl rfl (by simp only [go_sem, Nat.reduceAdd, Nat.reduceSub, Nat.reduceMul, Nat.reduceLT, Nat.reduceLeDiff, Nat.reduceEqDiff, Nat.reduceBEq, Int.reduceToNat, Int.reduceLE, Int.reduceLT, Int.reduceEq, ↓reduceIte, reduceCtorEq, bldNew, bldUsed, rowU, ty3, ty4, ty5, ty9, ty58, ty98, ty96, ty105, hX]; exact rfl) (by simp only [go_sem, Nat.reduceAdd, Nat.reduceSub, Nat.reduceMul, Nat.reduceLT, Nat.reduceLeDiff, Nat.reduceEqDiff, Nat.reduceBEq, Int.reduceToNat, Int.reduceLE, Int.reduceLT, Int.reduceEq, ↓reduceIte, reduceCtorEq, bldNew, bldUsed, rowU, ty3, ty4, ty5, ty9, ty58, ty98, ty96, ty105, hX]) (by simp only [go_sem, Nat.reduceAdd, Nat.reduceSub, Nat.reduceMul, Nat.reduceLT, Nat.reduceLeDiff, Nat.reduceEqDiff, Nat.reduceBEq, Int.reduceToNat, Int.reduceLE, Int.reduceLT, Int.reduceEq, ↓reduceIte, reduceCtorEq, bldNew, bldUsed, rowU, ty3, ty4, ty5, ty9, ty58, ty98, ty96, ty105, hX]) (by simp only [go_sem, Nat.reduceAdd, Nat.reduceSub, Nat.reduceMul, Nat.reduceLT, Nat.reduceLeDiff, Nat.reduceEqDiff, Nat.reduceBEq, Int.reduceToNat, Int.reduceLE, Int.reduceLT, Int.reduceEq, ↓reduceIte, reduceCtorEq, bldNew, bldUsed, rowU, ty3, ty4, ty5, ty9, ty58, ty98, ty96, ty105, hX]) (by simp only [go_sem, Nat.reduceAdd, Nat.reduceSub, Nat.reduceMul, Nat.reduceLT, Nat.reduceLeDiff, Nat.reduceEqDiff, Nat.reduceBEq, Int.reduceToNat, Int.reduceLE, Int.reduceLT, Int.reduceEq, ↓reduceIte, reduceCtorEq, bldNew, bldUsed, rowU, ty3, ty4, ty5, ty9, ty58, ty98, ty96, ty105, hX]) rfl (by rw [hX]; rfl) ?_; simp only [go_sem, Nat.reduceAdd, Nat.reduceSub, Nat.reduceMul, Nat.reduceLT, Nat.reduceLeDiff, Nat.reduceEqDiff, Nat.reduceBEq, Int.reduceToNat, Int.reduceLE, Int.reduceLT, Int.reduceEq, ↓reduceIte, reduceCtorEq, bldNew, bldUsed, rowU, ty3, ty4, ty5, ty9, ty58, ty98, ty96, ty105, hX])
  (refine rwr_nil (hK _ ?_); clear hK K)
  (repeat (first | refine cw_seq' ?_ | refine cw_block ?_ | refine cw_true rfl ?_ | refine cw_false rfl ?_ | refine cw_exit ?_ | refine cw_ret ?_ | refine cw_skip ?_ | (refine cw_region_k fun K hK => ?_; simp (maxSteps := 1000000) only [go_sem, Nat.reduceAdd, Nat.reduceSub, Nat.reduceMul, Nat.reduceLT, Nat.reduceLeDiff, Nat.reduceEqDiff, Nat.reduceBEq, Int.reduceToNat, Int.reduceLE, Int.reduceLT, Int.reduceEq, ↓reduceIte, reduceCtorEq, bldNew, bldUsed, rowU, ty3, ty4, ty5, ty9, ty58, ty98, ty96, ty105, h1, hs, hX]; refine rwr_nil (hK _ ?_); clear hK K) | refine then_mk ?_ | refine then_exit ?_ | refine then_ret ?_ | refine blk_mk ?_ | refine blk_ret ?_ | refine blk_same ?_ | refine blk_ne (by decide) ?_))
  ((first | refine exitIO_r ?_ ?_ ?_ ?_ ?_ | refine exitIO_n ?_ ?_ ?_ ?_ ?_); (focus (rw [Try.results58]; try (simp only [go_sem, Nat.reduceAdd, Nat.reduceSub, Nat.reduceMul, Nat.reduceLT, Nat.reduceLeDiff, Nat.reduceEqDiff, Nat.reduceBEq, Int.reduceToNat, Int.reduceLE, Int.reduceLT, Int.reduceEq, ↓reduceIte, reduceCtorEq, bldNew, bldUsed, rowU, ty3, ty4, ty5, ty9, ty58, ty98, ty96, ty105, h1, hs, hX]))); (focus (simp only [go_sem, Nat.reduceAdd, Nat.reduceSub, Nat.reduceMul, Nat.reduceLT, Nat.reduceLeDiff, Nat.reduceEqDiff, Nat.reduceBEq, Int.reduceToNat, Int.reduceLE, Int.reduceLT, Int.reduceEq, ↓reduceIte, reduceCtorEq, bldNew, bldUsed, rowU, ty3, ty4, ty5, ty9, ty58, ty98, ty96, ty105, h1, hs, hX])); (focus (try (simp only [go_sem, Nat.reduceAdd, Nat.reduceSub, Nat.reduceMul, Nat.reduceLT, Nat.reduceLeDiff, Nat.reduceEqDiff, Nat.reduceBEq, Int.reduceToNat, Int.reduceLE, Int.reduceLT, Int.reduceEq, ↓reduceIte, reduceCtorEq, bldNew, bldUsed, rowU, ty3, ty4, ty5, ty9, ty58, ty98, ty96, ty105, h1, hs, hX]))); (focus (try (simp only [go_sem, Nat.reduceAdd, Nat.reduceSub, Nat.reduceMul, Nat.reduceLT, Nat.reduceLeDiff, Nat.reduceEqDiff, Nat.reduceBEq, Int.reduceToNat, Int.reduceLE, Int.reduceLT, Int.reduceEq, ↓reduceIte, reduceCtorEq, bldNew, bldUsed, rowU, ty3, ty4, ty5, ty9, ty58, ty98, ty96, ty105, h1, hs, hX]))); (rw [hX]; rfl))
theorem wstr_used_io (rows : List (List T)) (s : ByteArray) (hs : rows.length + s.size ≤ 140737488355328) (z : Bool) : SpIO Try.prog 58 [.one (.optr 1000 0), .one (.t z (.lit (.string s)))] [(1000, bldUsed 1000 1001 rows.length), (1001, rowU rows)] (.tup [litI .i64 s.size, .one (.t true (.lit .nilIface))]) [(1000, bldUsed 1000 14 (rows.length + s.size)), (14, rowU (rows ++ strRows s))] [1000] := by
  have h1 : rows.length + s.size ≤ maxLen := by unfold maxLen; omega
  (refine sp_of_io Try.func58 (by kernel_rfl) rfl (by simp [Try.ntmps58]) fun X hX => ?_; rw [Try.ntmps58] at hX; simp only [argSv])
  (repeat (first | refine cw_seq' ?_ | refine cw_block ?_ | refine cw_true rfl ?_ | refine cw_false rfl ?_ | refine cw_exit ?_ | refine cw_ret ?_ | refine cw_skip ?_ | (refine cw_region_k fun K hK => ?_; simp (maxSteps := 1000000) only [go_sem, Nat.reduceAdd, Nat.reduceSub, Nat.reduceMul, Nat.reduceLT, Nat.reduceLeDiff, Nat.reduceEqDiff, Nat.reduceBEq, Int.reduceToNat, Int.reduceLE, Int.reduceLT, Int.reduceEq, ↓reduceIte, reduceCtorEq, bldNew, bldUsed, rowU, ty3, ty4, ty5, ty9, ty58, ty98, ty96, ty105, hX]; refine rwr_nil (hK _ ?_); clear hK K) | refine then_mk ?_ | refine then_exit ?_ | refine then_ret ?_ | refine blk_mk ?_ | refine blk_ret ?_ | refine blk_same ?_ | refine blk_ne (by decide) ?_))
  (refine cw_region_k fun K hK => ?_; simp (maxSteps := 1000000) only [go_sem, Nat.reduceAdd, Nat.reduceSub, Nat.reduceMul, Nat.reduceLT, Nat.reduceLeDiff, Nat.reduceEqDiff, Nat.reduceBEq, Int.reduceToNat, Int.reduceLE, Int.reduceLT, Int.reduceEq, ↓reduceIte, reduceCtorEq, bldNew, bldUsed, rowU, ty3, ty4, ty5, ty9, ty58, ty98, ty96, ty105, hX])
  (refine rwr_io 9 (SpIO.ren (cc_used_io rows) [(1000, 1000), (1001, 1001)] rfl) rfl rfl (by simp only [go_sem, Nat.reduceAdd, Nat.reduceSub, Nat.reduceMul, Nat.reduceLT, Nat.reduceLeDiff, Nat.reduceEqDiff, Nat.reduceBEq, Int.reduceToNat, Int.reduceLE, Int.reduceLT, Int.reduceEq, ↓reduceIte, reduceCtorEq, bldNew, bldUsed, rowU, ty3, ty4, ty5, ty9, ty58, ty98, ty96, ty105, hX]; exact rfl) (by simp only [go_sem, Nat.reduceAdd, Nat.reduceSub, Nat.reduceMul, Nat.reduceLT, Nat.reduceLeDiff, Nat.reduceEqDiff, Nat.reduceBEq, Int.reduceToNat, Int.reduceLE, Int.reduceLT, Int.reduceEq, ↓reduceIte, reduceCtorEq, bldNew, bldUsed, rowU, ty3, ty4, ty5, ty9, ty58, ty98, ty96, ty105, hX]) (by simp only [go_sem, Nat.reduceAdd, Nat.reduceSub, Nat.reduceMul, Nat.reduceLT, Nat.reduceLeDiff, Nat.reduceEqDiff, Nat.reduceBEq, Int.reduceToNat, Int.reduceLE, Int.reduceLT, Int.reduceEq, ↓reduceIte, reduceCtorEq, bldNew, bldUsed, rowU, ty3, ty4, ty5, ty9, ty58, ty98, ty96, ty105, hX]) (by simp only [go_sem, Nat.reduceAdd, Nat.reduceSub, Nat.reduceMul, Nat.reduceLT, Nat.reduceLeDiff, Nat.reduceEqDiff, Nat.reduceBEq, Int.reduceToNat, Int.reduceLE, Int.reduceLT, Int.reduceEq, ↓reduceIte, reduceCtorEq, bldNew, bldUsed, rowU, ty3, ty4, ty5, ty9, ty58, ty98, ty96, ty105, hX]) (by simp only [go_sem, Nat.reduceAdd, Nat.reduceSub, Nat.reduceMul, Nat.reduceLT, Nat.reduceLeDiff, Nat.reduceEqDiff, Nat.reduceBEq, Int.reduceToNat, Int.reduceLE, Int.reduceLT, Int.reduceEq, ↓reduceIte, reduceCtorEq, bldNew, bldUsed, rowU, ty3, ty4, ty5, ty9, ty58, ty98, ty96, ty105, hX]) rfl (by rw [hX]; rfl) ?_; simp only [go_sem, Nat.reduceAdd, Nat.reduceSub, Nat.reduceMul, Nat.reduceLT, Nat.reduceLeDiff, Nat.reduceEqDiff, Nat.reduceBEq, Int.reduceToNat, Int.reduceLE, Int.reduceLT, Int.reduceEq, ↓reduceIte, reduceCtorEq, bldNew, bldUsed, rowU, ty3, ty4, ty5, ty9, ty58, ty98, ty96, ty105, hX])
  (refine rwr_nil (hK _ ?_); clear hK K)
  (repeat (first | refine cw_seq' ?_ | refine cw_block ?_ | refine cw_true rfl ?_ | refine cw_false rfl ?_ | refine cw_exit ?_ | refine cw_ret ?_ | refine cw_skip ?_ | (refine cw_region_k fun K hK => ?_; simp (maxSteps := 1000000) only [go_sem, Nat.reduceAdd, Nat.reduceSub, Nat.reduceMul, Nat.reduceLT, Nat.reduceLeDiff, Nat.reduceEqDiff, Nat.reduceBEq, Int.reduceToNat, Int.reduceLE, Int.reduceLT, Int.reduceEq, ↓reduceIte, reduceCtorEq, bldNew, bldUsed, rowU, ty3, ty4, ty5, ty9, ty58, ty98, ty96, ty105, h1, hs, hX]; refine rwr_nil (hK _ ?_); clear hK K) | refine then_mk ?_ | refine then_exit ?_ | refine then_ret ?_ | refine blk_mk ?_ | refine blk_ret ?_ | refine blk_same ?_ | refine blk_ne (by decide) ?_))
  ((first | refine exitIO_r ?_ ?_ ?_ ?_ ?_ | refine exitIO_n ?_ ?_ ?_ ?_ ?_); (focus (rw [Try.results58]; try (simp only [go_sem, Nat.reduceAdd, Nat.reduceSub, Nat.reduceMul, Nat.reduceLT, Nat.reduceLeDiff, Nat.reduceEqDiff, Nat.reduceBEq, Int.reduceToNat, Int.reduceLE, Int.reduceLT, Int.reduceEq, ↓reduceIte, reduceCtorEq, bldNew, bldUsed, rowU, ty3, ty4, ty5, ty9, ty58, ty98, ty96, ty105, h1, hs, hX]))); (focus (simp only [go_sem, Nat.reduceAdd, Nat.reduceSub, Nat.reduceMul, Nat.reduceLT, Nat.reduceLeDiff, Nat.reduceEqDiff, Nat.reduceBEq, Int.reduceToNat, Int.reduceLE, Int.reduceLT, Int.reduceEq, ↓reduceIte, reduceCtorEq, bldNew, bldUsed, rowU, ty3, ty4, ty5, ty9, ty58, ty98, ty96, ty105, h1, hs, hX])); (focus (try (simp only [go_sem, Nat.reduceAdd, Nat.reduceSub, Nat.reduceMul, Nat.reduceLT, Nat.reduceLeDiff, Nat.reduceEqDiff, Nat.reduceBEq, Int.reduceToNat, Int.reduceLE, Int.reduceLT, Int.reduceEq, ↓reduceIte, reduceCtorEq, bldNew, bldUsed, rowU, ty3, ty4, ty5, ty9, ty58, ty98, ty96, ty105, h1, hs, hX]))); (focus (try (simp only [go_sem, Nat.reduceAdd, Nat.reduceSub, Nat.reduceMul, Nat.reduceLT, Nat.reduceLeDiff, Nat.reduceEqDiff, Nat.reduceBEq, Int.reduceToNat, Int.reduceLE, Int.reduceLT, Int.reduceEq, ↓reduceIte, reduceCtorEq, bldNew, bldUsed, rowU, ty3, ty4, ty5, ty9, ty58, ty98, ty96, ty105, h1, hs, hX]))); (rw [hX]; rfl))
theorem wstr_used2 (rows : List (List T)) (s : ByteArray) (hs : rows.length + s.size ≤ 140737488355328) (z : Bool) : SpIO Try.prog 58 [.one (.optr 1000 0), .one (.t z (.lit (.string s)))] [(1000, bldUsed 1000 1001 rows.length), (1001, rowU rows)] (.tup [litI .i64 s.size, .one (.t true (.lit .nilIface))]) [(1000, bldUsed 1000 1001 (rows.length + s.size)), (1001, rowU (rows ++ strRows s))] [1000] :=
  (wstr_used_io rows s hs z).reout [(1000, 1000), (14, 1001)] rfl
theorem strRows_append (a b : ByteArray) : strRows a ++ strRows b = strRows (a ++ b) := by
  unfold strRows
  rw [← List.map_append]
  congr 1
theorem strRows_cells {w : World} {ok : Nat → Prop} (s : ByteArray) {xs : List Value} (h : RdL w ok (strRows s).flatten xs) : xs = Lib.byteCells s.data.toList := by
  unfold strRows at h
  unfold Lib.byteCells
  generalize s.data.toList = l at h ⊢
  induction l generalizing xs with
  | nil =>
    cases xs with
    | nil => rfl
    | cons => simp only [List.map_nil, List.flatten_nil] at h; unfold RdL at h; exact h.elim
  | cons b l ih =>
    replace h : RdL w ok (T.lit (.int .u8 b.toNat) :: (l.map fun b : UInt8 => [T.lit (.int .u8 b.toNat)]).flatten) xs := h
    cases xs with
    | nil => unfold RdL at h; exact h.elim
    | cons x xs =>
      unfold RdL RdT at h
      rw [h.1.1, ih h.2, List.map_cons]
/-- what a builder holds that has been made and never written -/
theorem str_new_io : SpIO Try.prog 60 [.one (.optr 1000 0)] [(1000, .var 98 [.t true (.lit (.pointer none)), .t true (.lit (.slice none 0 0))])] (.one (.t true (.lit (.string ⟨#[]⟩)))) [] [] where
  enters := enters_of Try.func60 (by kernel_rfl) rfl
  calls w S F hS ρ hF hinj hdead hins vs hvs := by
    have hB := hins 1000 _ rfl
    unfold HasB at hB
    obtain ⟨b, cap, hid, xs, hb, hcs⟩ := hB
    match vs, hvs with
    | [x], hvs =>
      unfold RdVs RdV RdC at hvs
      simp only [hid] at hvs
      obtain ⟨rfl, _⟩ := hvs
      obtain ⟨l⟩ := xs
      match l, hcs, hb with
      | [u, v], hcs, hb =>
        unfold RdCs RdC RdT at hcs
        obtain ⟨⟨rfl, _⟩, hcs⟩ := hcs
        unfold RdCs RdC RdT at hcs
        obtain ⟨⟨rfl, _⟩, _⟩ := hcs
        refine (str_none Try.lays169 Try.Builder_Extra_169 b _ w hb).mono ?_
        rintro e w' ⟨rfl, rfl⟩
        refine ⟨_, deadR, rfl, ⟨rfl, rfl, rfl, Nat.le_refl _, fun k hk => absurd hk (by omega)⟩, fun _ _ => rfl, (by intro _ _ _ h; cases h), (by intro _ _ _ _ _ h; cases h), fun _ _ => rfl, (fun _ h => by cases h), rd_lit rfl, (fun _ _ h => by cases h)⟩
/-- .. that has been written -/
theorem str_used_io (s : ByteArray) (h0 : s.data.toList ≠ []) : SpIO Try.prog 60 [.one (.optr 1000 0)] [(1000, bldUsed 1000 1001 s.size), (1001, rowU (strRows s))] (.one (.t true (.lit (.string s)))) [] [] where
  enters := enters_of Try.func60 (by kernel_rfl) rfl
  calls w S F hS ρ hF hinj hdead hins vs hvs := by
    have hB := hins 1000 _ rfl
    have hA := hins 1001 _ rfl
    unfold HasB at hB hA
    obtain ⟨b, cap, hid, xs, hb, hcs⟩ := hB
    match vs, hvs with
    | [x], hvs =>
      unfold RdVs RdV RdC at hvs
      simp only [hid] at hvs
      obtain ⟨rfl, _⟩ := hvs
      obtain ⟨l⟩ := xs
      match l, hcs, hb with
      | [u, v], hcs, hb =>
        unfold RdCs RdC at hcs
        simp only [hid] at hcs
        obtain ⟨rfl, hcs⟩ := hcs
        unfold RdCs RdC at hcs
        obtain ⟨hv, _⟩ := hcs
        have hlen : s.data.toList.length = s.size := rfl
        have hpos : s.size ≠ 0 := fun e => h0 (List.length_eq_zero_iff.1 (hlen.trans e))
        cases hid2 : ρ 1001 with
        | dead => simp [hid2] at hv
        | nil => simp only [hid2] at hv; exact absurd hv.1 hpos
        | lie g cap2 =>
          simp only [hid2] at hv hA
          subst hv
          obtain ⟨ys, h1, h2, _⟩ := hA
          rw [strRows_len] at h1
          have hys := strRows_cells s h2
          subst hys
          refine (str_some Try.lays169 Try.Builder_Extra_169 b g cap2 _ s.data.toList w hb h1 h0).mono ?_
          rintro e w' ⟨rfl, rfl⟩
          have hother : ∀ k, k ≠ g → (w.drew.freeze ⟨g, 0, none⟩ s.data.toList.length).heap[k]? = w.heap[k]? := fun k hk => by
            unfold World.freeze
            split
            · rfl
            · show (w.heap.modify g _)[k]? = _
              rw [Array.getElem?_modify, if_neg (fun e => hk e.symm)]
          have hbel : Below 0 w w.drew := ⟨rfl, rfl, rfl, Nat.le_refl _, fun k hk => absurd hk (by omega)⟩
          refine ⟨_, deadR, rfl, Lib.below_freeze hbel (Nat.zero_le _) _, fun k hk => hother k fun e => hk.2 1001 cap2 (e ▸ hid2), (by intro _ _ _ h; cases h), (by intro _ _ _ _ _ h; cases h), fun _ _ => rfl, (fun _ h => by cases h), rd_lit rfl, (fun _ _ h => by cases h)⟩
end Go.Proofs.Ytoghgjobfcnneaa.Ax
