/- Rows as bytes, by what is known: Decode, from its contract in the older words; what spoils a row. -/
import Derived.Test.YtnjjpblgcgikaaaDoorRowA
import Derived.Test.YtnjjpblgcgikaaaDoorAxG9
import Derived.Test.YtnjjpblgcgikaaaDoorVlA
namespace Go.Proofs.YtnjjpblgcgikaaaDoor.Ax
open Go.RowKit
theorem rdL_cellsV {w : World} {ok : Nat → Prop} : ∀ T : List Vl, RdL w ok (rVs T).flatten (_root_.Go.Proofs.YtnjjpblgcgikaaaDoor.cellsV T)
  | [] => by
    show RdL w ok [] []
    unfold RdL; trivial
  | v :: T => by
    show RdL w ok (.lit (.int .i64 v.k) :: .lit (.int .i64 v.n) :: .lit (.string v.s) :: (rVs T).flatten) (.int .i64 v.k :: .int .i64 v.n :: .string v.s :: _root_.Go.Proofs.YtnjjpblgcgikaaaDoor.cellsV T)
    unfold RdL RdL RdL RdT
    exact ⟨⟨rfl, rfl⟩, ⟨rfl, rfl⟩, ⟨rfl, rfl⟩, rdL_cellsV T⟩
/-- a function that answers a row of its own, and a number -/
theorem sp_rows {P : Program} {f : FuncId} (hen : Enters P f) {args : List A} (us : List Value) (ha : litAs args = some us) (e : TypeId) (T : List Vl) (k : Int)
    (h : ∀ w, Calls P f us.toArray w fun en w' => ∃ v, en = .returned (.tuple #[v, .int .i64 k]) ∧ w'.ownsRow (w.heap.size + 1) e 3 v T.length (_root_.Go.Proofs.YtnjjpblgcgikaaaDoor.cellsV T) ∧ Below w.heap.size w w') :
    Sp P f args (.tup [.one (.own 0 T.length), .one (.t true (.lit (.int .i64 k)))]) [(0, .arr e 3 true (rVs T))] where
  enters := hen
  calls w S hS vs _ hvs := by
    rw [litAs_rd ha hvs]
    refine (h w).mono fun en w' => ?_
    rintro ⟨v, rfl, hown, hb⟩
    rcases hown with ⟨hl, ⟨rfl, hn⟩ | ⟨g, cap, cur, rfl, hbg, hg, h1, h2, h3, h4⟩⟩
    · refine ⟨_, updR deadR 0 .nil, rfl, hb, ?_, ?_, ?_, ?_, ?_⟩
      · intro id b c hi
        unfold updR at hi
        split at hi <;> cases hi
      · intro i j b c d hi
        unfold updR at hi
        split at hi <;> cases hi
      · intro id hi
        rw [updR_ne (by simpa using hi)]; rfl
      · unfold RdV
        refine ⟨_, rfl, ?_⟩
        unfold RdVs RdV RdC
        rw [updR_same]
        refine ⟨⟨hn, none, rfl⟩, ?_⟩
        unfold RdVs RdV RdC RdT RdVs
        exact ⟨⟨rfl, rfl⟩, trivial⟩
      · intro id b hb'
        simp only [get] at hb'
        split at hb'
        · rename_i hid
          subst hid
          injection hb' with hb'
          subst hb'
          unfold HasB
          rw [updR_same]
          rw [List.eq_nil_of_length_eq_zero hn]; rfl
        · cases hb'
    · refine ⟨_, updR deadR 0 (.lie g cap), rfl, hb, ?_, ?_, ?_, ?_, ?_⟩
      · intro id b c hi
        unfold updR at hi
        split at hi
        · injection hi with h5 h6
          subst h5
          exact ⟨by omega, (Array.getElem?_eq_some_iff.1 hg).1⟩
        · cases hi
      · intro i j b c d hi hj
        unfold updR at hi hj
        split at hi
        · split at hj
          · rename_i h5 h6
            rw [h5, h6]
          · cases hj
        · cases hi
      · intro id hi
        rw [updR_ne (by simpa using hi)]; rfl
      · unfold RdV
        refine ⟨_, rfl, ?_⟩
        unfold RdVs RdV RdC
        rw [updR_same]
        refine ⟨rfl, ?_⟩
        unfold RdVs RdV RdC RdT RdVs
        exact ⟨⟨rfl, rfl⟩, trivial⟩
      · intro id b hb'
        simp only [get] at hb'
        split at hb'
        · rename_i hid
          subst hid
          injection hb' with hb'
          subst hb'
          unfold HasB
          rw [updR_same]
          have hlen : (rVs T).length = T.length := List.length_map _
          refine ⟨_root_.Go.Proofs.YtnjjpblgcgikaaaDoor.cellsV T, ?_, rdL_cellsV T, ?_⟩
          · rw [hlen]
            exact ⟨hl, .inr ⟨g, cap, cur, rfl, Nat.zero_le _, hg, h1, h2, h3, h4⟩⟩
          · intro r hr
            obtain ⟨v, _, rfl⟩ := List.mem_map.1 hr
            rfl
        · cases hb'
theorem decode_sp (s : ByteArray) (hs : s.size ≤ maxLen) : Sp Tryd.prog 16 [.one (.lit (.string s))] (.tup [.one (.own 0 (decodeS s).1.length), .one (.t true (.lit (.int .i64 (decodeS s).2)))]) [(0, .arr 39 3 true (rVs (decodeS s).1))] :=
  sp_rows (enters_of Tryd.func16 (by kernel_rfl) rfl) [.string s] rfl 39 _ _ fun w => (decode_any s w hs).mono fun _ _ h => h
theorem rowbegun_sp : Sp Tryd.prog 15 [] (.one (.t true (.lit (.bool true)))) [] :=
  sp_lits (enters_of Tryd.func15 (by kernel_rfl) rfl) [] _ rfl rfl fun w => (begun_any w).mono fun _ _ h => h
set_option linter.unusedSimpArgs false
attribute [local go_sem] extV appD cutOwn appOwn clearOwn bdI mapD putD' keyOk getOr getM putM wholeV litCs asV asC ptrC fnC nilC nilPtr strRows_len runs runsN guardOf exec1 pureV modD rowD ev get St.app St.put St.turn loadC moveC fieldOf indexC lenC lenOk cutC bndOf evAll fieldV convV unV binV binI bitsV moreV intsT eqL eq1 valOf min1 lit1 litInt litI litB litS constV constC cellsV partsOf placesOf buildV fillL toT elemsOf rowsOf baseOf dstOk V.kill V.ment V.ments C.kill C.ment C.ments B.kill setD litRows litRows_append T.isLit callAll calleeV argsV argV viewC viewCs modeOk freeOps V.free C.free V.allF V.allFs C.allF C.allFs B.allF callD leL growSt C.flat V.flat B.flat flatL flatB St.flat List.set_cons_zero List.set_cons_succ C.only C.onlys V.only V.onlys B.only renI C.ren C.rens V.ren V.rens B.ren renB renOk nodK Option.getD_some Option.getD_none Option.isSome_some implies_true false_implies C.fit C.fits V.fit V.fit1 V.fits Bool.and_self ite_self exitV resV resL resC outV outV.outs eqB nn cast0 Int.toNat_natCast List.getElem?_map Value.cells Value.oneCell' Nat.lt_irrefl decide_true decide_false and_true true_and and_self and_false false_and not_true_eq_false not_false_eq_true not_true not_false List.size_toArray all_len Nat.zero_add Nat.add_zero List.length_cons List.length_append List.length_replicate List.length_set List.length_nil List.length_map List.map_cons List.map_nil List.take_succ_cons List.take_zero List.take_nil List.drop_succ_cons List.drop_zero List.drop_nil List.cons_append List.nil_append List.append_nil List.all_cons List.all_nil Bool.and_true Bool.true_and Bool.and_false Bool.false_and Bool.not_true Bool.not_false Bool.or_false Bool.or_true Bool.false_or Bool.true_or List.filter_cons List.filter_nil List.contains_cons List.contains_nil beq_self_eq_true List.getElem?_cons_zero List.getElem?_cons_succ List.getElem?_nil Option.map_some Option.map_none Option.toList_some Option.toList_none List.isEmpty_cons List.isEmpty_nil Bool.false_eq_true Bool.true_eq_false List.getElem?_toArray List.not_mem_nil List.mem_cons or_false forall_eq List.mem_singleton forall_const Option.toArray tailF addF flSl dKeeps flFree closF notF if_true if_false plans inD cleanSt dstsOf Oper.looksAt Op.operands Call.operands dnOf insN insAll prods pick stOf goneOf slOf blOf keepB' entD addB edge B.ment Region.binds tailOk clos List.any_cons List.any_nil List.filterMap_cons List.filterMap_nil ne_eq Bool.or_self List.isEmpty_iff Array.toList_append List.append_toArray Array.append_empty Option.bind_some Option.bind_none List.push_toArray argSv ioD modeIO staysOk callIO calleeIO argsIO valIO cellsIO cellIO butB zLe cLe csLe vLe vsLe bLe insLe renIOk nbOk foE foE.foR foE.foB anyText anyGc aliveF mK kdN klAt klAt.atL looksB remN dstNe nbIds provBl provBs provOf provOf.provH rdsOf idsR provR blsOf dnA edgesOf foSl inL dnE dnF dnH C.ids C.idss V.ids V.idss FHave FHave.rdHave FHave.blHave provF provF.provP findF hsOk NDst klOf dropS true_or or_true or_self ty3 ty4 ty9 ty5 ty39 ty22 ty52 ty23 ty24
set_option linter.unusedVariables false
set_option maxRecDepth 100000
theorem spoil_io (l : List Vl) (hl : l.length ≤ maxLen) : SpIO Tryd.prog 17 [.one (.own 1001 l.length)] [(1001, .arr 39 3 true (rVs l))] (.tup []) [] [] := by
  unfold maxLen at hl
  (refine sp_of_io Tryd.func17 (by kernel_rfl) rfl (by simp [Tryd.ntmps17]) fun X hX => ?_; rw [Tryd.ntmps17] at hX; simp only [argSv])
  (repeat (first | refine cw_seq' ?_ | refine cw_block ?_ | refine cw_true rfl ?_ | refine cw_false rfl ?_ | refine cw_exit ?_ | refine cw_ret ?_ | refine cw_skip ?_ | (refine cw_region_k fun K hK => ?_; simp (maxSteps := 1000000) only [go_sem, Nat.reduceAdd, Nat.reduceSub, Nat.reduceMul, Nat.reduceLT, Nat.reduceLeDiff, Nat.reduceEqDiff, Nat.reduceBEq, Int.reduceToNat, Int.reduceLE, Int.reduceLT, Int.reduceEq, ↓reduceIte, reduceCtorEq, hX]; refine rwr_nil (hK _ ?_); clear hK K) | refine then_mk ?_ | refine then_exit ?_ | refine then_ret ?_ | refine blk_mk ?_ | refine blk_ret ?_ | refine blk_same ?_ | refine blk_ne (by decide) ?_))
  refine cw_loop (fun m s => ∃ j, ∃ cur : List Vl, j ≤ l.length ∧ m = l.length - j ∧ cur.length = l.length ∧ s = ⟨[(2, litI .i64 j), (0, .one (.own 1001 l.length))], [(1001, .arr 39 3 true (rVs cur))]⟩) l.length ⟨_, ⟨0, l, Nat.zero_le _, rfl, rfl, rfl⟩, le_mk2 (by simp only [go_sem, Nat.reduceAdd, Nat.reduceSub, Nat.reduceMul, Nat.reduceLT, Nat.reduceLeDiff, Nat.reduceEqDiff, Nat.reduceBEq, Int.reduceToNat, Int.reduceLE, Int.reduceLT, Int.reduceEq, ↓reduceIte, reduceCtorEq, List.map_set, List.map_append] <;> ((repeat' apply And.intro) <;> rfl))⟩ ?_
  rintro m s ⟨j, cur, hj, rfl, hc, rfl⟩
  by_cases hlt : j < l.length
  · have e1 : decide ((j : Int) < (l.length : Int)) = true := by simp; omega
    have e2 : IntKind.i64.wrap ((j : Int) + 1) = ((j + 1 : Nat) : Int) := by rw [IntWalk.i64_in _ (by omega)]; rfl
    obtain ⟨v, hx⟩ : ∃ v, cur[j]? = some v := ⟨_, List.getElem?_eq_getElem (by omega)⟩
    have j2 : (j : Int) < (l.length : Int) := by omega
    have j3 : (0 : Int) ≤ (j : Int) := by omega
    (repeat (first | refine cw_seq' ?_ | refine cw_block ?_ | refine cw_true rfl ?_ | refine cw_false rfl ?_ | refine cw_exit ?_ | refine cw_ret ?_ | refine cw_skip ?_ | (refine cw_region_k fun K hK => ?_; simp (maxSteps := 1000000) only [go_sem, Nat.reduceAdd, Nat.reduceSub, Nat.reduceMul, Nat.reduceLT, Nat.reduceLeDiff, Nat.reduceEqDiff, Nat.reduceBEq, Int.reduceToNat, Int.reduceLE, Int.reduceLT, Int.reduceEq, ↓reduceIte, reduceCtorEq, e1, e2, hx, hc, hlt, j2, j3, Int.toNat_natCast, List.length_map, List.getElem?_map, Option.map_some, hX]; refine rwr_nil (hK _ ?_); clear hK K) | refine then_mk ?_ | refine then_exit ?_ | refine then_ret ?_ | refine blk_mk ?_ | refine blk_ret ?_ | refine blk_same ?_ | refine blk_ne (by decide) ?_))
    exact ⟨l.length - (j + 1), by omega, _, ⟨j + 1, cur.set j ⟨-7, v.n, v.s⟩, by omega, rfl, by rw [List.length_set]; exact hc, rfl⟩, le_mk2 (by simp only [go_sem, Nat.reduceAdd, Nat.reduceSub, Nat.reduceMul, Nat.reduceLT, Nat.reduceLeDiff, Nat.reduceEqDiff, Nat.reduceBEq, Int.reduceToNat, Int.reduceLE, Int.reduceLT, Int.reduceEq, ↓reduceIte, reduceCtorEq, List.map_set, List.map_append, List.map_set] <;> ((repeat' apply And.intro) <;> rfl))⟩
  · obtain rfl : j = l.length := by omega
    have e1 : decide ((l.length : Int) < (l.length : Int)) = false := by simp
    (repeat (first | refine cw_seq' ?_ | refine cw_block ?_ | refine cw_true rfl ?_ | refine cw_false rfl ?_ | refine cw_exit ?_ | refine cw_ret ?_ | refine cw_skip ?_ | (refine cw_region_k fun K hK => ?_; simp (maxSteps := 1000000) only [go_sem, Nat.reduceAdd, Nat.reduceSub, Nat.reduceMul, Nat.reduceLT, Nat.reduceLeDiff, Nat.reduceEqDiff, Nat.reduceBEq, Int.reduceToNat, Int.reduceLE, Int.reduceLT, Int.reduceEq, ↓reduceIte, reduceCtorEq, e1, hX]; refine rwr_nil (hK _ ?_); clear hK K) | refine then_mk ?_ | refine then_exit ?_ | refine then_ret ?_ | refine blk_mk ?_ | refine blk_ret ?_ | refine blk_same ?_ | refine blk_ne (by decide) ?_))
    ((first | refine exitIO_r ?_ ?_ ?_ ?_ ?_ | refine exitIO_n ?_ ?_ ?_ ?_ ?_); (focus (rw [Tryd.results17]; try (simp only [go_sem, Nat.reduceAdd, Nat.reduceSub, Nat.reduceMul, Nat.reduceLT, Nat.reduceLeDiff, Nat.reduceEqDiff, Nat.reduceBEq, Int.reduceToNat, Int.reduceLE, Int.reduceLT, Int.reduceEq, ↓reduceIte, reduceCtorEq, hX]))); (focus (simp only [go_sem, Nat.reduceAdd, Nat.reduceSub, Nat.reduceMul, Nat.reduceLT, Nat.reduceLeDiff, Nat.reduceEqDiff, Nat.reduceBEq, Int.reduceToNat, Int.reduceLE, Int.reduceLT, Int.reduceEq, ↓reduceIte, reduceCtorEq, hX])); (focus (try (simp only [go_sem, Nat.reduceAdd, Nat.reduceSub, Nat.reduceMul, Nat.reduceLT, Nat.reduceLeDiff, Nat.reduceEqDiff, Nat.reduceBEq, Int.reduceToNat, Int.reduceLE, Int.reduceLT, Int.reduceEq, ↓reduceIte, reduceCtorEq, hX]))); (focus (try (simp only [go_sem, Nat.reduceAdd, Nat.reduceSub, Nat.reduceMul, Nat.reduceLT, Nat.reduceLeDiff, Nat.reduceEqDiff, Nat.reduceBEq, Int.reduceToNat, Int.reduceLE, Int.reduceLT, Int.reduceEq, ↓reduceIte, reduceCtorEq, hX]))); (rw [hX]; rfl))
end Go.Proofs.YtnjjpblgcgikaaaDoor.Ax
