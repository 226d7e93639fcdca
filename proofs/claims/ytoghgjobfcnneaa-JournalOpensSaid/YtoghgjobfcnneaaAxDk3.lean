/- slices.Repeat of one text, wherever it stands; disk.Blank, New: by what is known. -/
import Derived.Test.YtoghgjobfcnneaaHeld
import Derived.Test.YtoghgjobfcnneaaDkClone
import Derived.Test.YtoghgjobfcnneaaShelf
import Derived.Laws.CopyOwn
import Derived.Test.YtoghgjobfcnneaaAxG5
import Derived.Test.YtoghgjobfcnneaaAxDk2
namespace Go.Proofs.Ytoghgjobfcnneaa
open Go.RowKit
def repC (s : ByteArray) (m k : Nat) : List Value := List.replicate m (.string s) ++ List.replicate k (.string ⟨#[]⟩)
theorem repC_len (s : ByteArray) (m k : Nat) : (repC s m k).length = m + k := by simp [repC]
theorem rep_splice (s : ByteArray) (m k j : Nat) (_hj : j ≤ k) : splice (repC s m k) m (List.replicate j (.string s)) = repC s (m + j) (k - j) := by
  unfold splice repC
  rw [List.take_left' (by simp), List.length_replicate, ← List.drop_drop, List.drop_left' (by simp), List.drop_replicate, ← List.append_assoc, List.replicate_append_replicate]
theorem rep_one (s : ByteArray) (j : Nat) : ∀ v ∈ List.replicate j (Value.string s), v.oneCell' = true := fun v hv => by rw [(List.mem_replicate.1 hv).2]; rfl
theorem rep_at (s : ByteArray) (m k j : Nat) (hj : j ≤ m) (g : Nat) (W : World) (hB : Blk W g 9 (repC s m k).toArray) : ∀ i v, (List.replicate j (Value.string s))[i]? = some v → W.cell? ((⟨g, 0, none⟩ : Addr).add i) = some v := fun i v hv => by
  have hadd : (⟨g, 0, none⟩ : Addr).add i = ⟨g, i, none⟩ := by unfold Addr.add; split <;> simp_all
  rw [hadd, hB.cell i]
  obtain ⟨hi, rfl⟩ := List.getElem?_eq_some_iff.1 hv
  rw [List.length_replicate] at hi
  unfold repC
  simp [List.getElem?_append, show i < m by omega]
theorem infoStr : (Try.prog.info? 9).map (·.size) = some 1 := by kernel_rfl
theorem make_rep (s : ByteArray) (N : Nat) (h2 : N ≤ 400) {ops : Array Oper} {rest : List Oper} {o : Oper} {a : Act} {Q : Exit → Act → World → Prop} (W : World) (hg : o.guard = none) (l c : Operand) (ho : o.op = Op.makeSlice 22 l c) (hl : a.eval l = .int .i64 N) (hc : a.eval c = .int .i64 N)
    (hK : ∀ w', Blk w' W.heap.size 9 (repC s 0 N).toArray → Below W.heap.size W w' → wpList Try.prog ops Q rest (a.put o.dst (.slice (some ⟨W.heap.size, 0, none⟩) N N)) w') : wpList Try.prog ops Q (o :: rest) a W := by
  obtain ⟨i0, hi, hz0, hz1, hz2⟩ := elStr.hi
  refine wpList_make_full W hg l c 22 ho W.heap.size 9 i0 _ 1 elStr.ht hi hz0 hz1 .i64 .i64 N N N hl hc rfl rfl (by rw [hz2]; omega) (by unfold maxLen; omega) (Nat.le_refl _) ?_
  intro w' hown hgr
  refine hK w' ?_ ⟨hgr.os, hgr.tape, hgr.output, hgr.size, fun k hk => hgr.block k hk (by simp)⟩
  rcases hown.2 with ⟨h, _⟩ | ⟨g, cap, cur, h, _, hh, _, _, hcs, ht⟩
  · cases h
  · simp only [Value.slice.injEq, Option.some.injEq, Addr.mk.injEq, and_true, true_and] at h
    obtain ⟨rfl, rfl⟩ := h
    have : cur = (repC s 0 N).toArray := by
      apply Array.toList_inj.1
      rw [List.take_of_length_le (by rw [Array.length_toList, hcs]; exact Nat.le_refl _)] at ht
      rw [ht, Nat.mul_one]
      unfold repC
      apply List.ext_getElem
      · simp [size_madeCells]
      · intro n h1 h2
        simp [madeCells, Value.cells, Nat.mod_one]
    rw [← this]
    exact hh
set_option maxRecDepth 20000 in
set_option maxHeartbeats 300000 in
theorem repeatS_any (s : ByteArray) (b o cp N : Nat) (w : World) (c0 : w.cell? ⟨b, o, none⟩ = some (.string s)) (hbl : b < w.heap.size) (_hcp : 1 ≤ cp) (h1 : 1 ≤ N) (h2 : N ≤ 400) :
    Calls Try.prog 26 #[.slice (some ⟨b, o, none⟩) 1 cp, .int .i64 N] w fun e w' => ∃ v, e = .returned v ∧ w'.ownsRow w.heap.size 9 1 v N (List.replicate N (.string s)) ∧ Below w.heap.size w w' := by
  have HM := Lib.hid (show ∀ W, Calls Try.prog 45 #[.int .u64 1, .int .u64 N] W fun e w' => e = .returned (.tuple #[.int .u64 0, .int .u64 N]) ∧ W = w' from fun W => by
    have h := Try.bits_Mul 1 N (by omega) (by omega) W
    rw [Nat.one_mul, Nat.div_eq_of_lt (by omega), Nat.mod_eq_of_lt (by omega)] at h
    exact h.mono fun _ _ ⟨a, b⟩ => ⟨a, b.symm⟩)
  have hN0 : decide ((N : Int) < 0) = false := by simp
  go_enter Try.func26, Try.ntmps26
  go_wp2_with fail
  refine (HM.out _).mono ?_
  rintro e w1 ⟨rfl, rfl⟩
  have HS := Lib.hid (rep_splice s 0 N 1 h1)
  go_wp2_with (first
    | (at_make; refine make_rep s N h2 _ rfl _ _ rfl rfl rfl ?_; intro w2 hB hb2; have d0 := (World.cell?_of_block (a := ⟨b, o, none⟩) (hb2.block b hbl)).trans c0)
    | ((with_reducible show wpList _ _ _ (⟨some 33, _, _, _, _, _⟩ :: _) _ _); refine wpList_copy_splice rfl (.tmp 31) (.tmp 32) 22 22 rfl 9 elStr.ht infoStr (some ⟨w.heap.size, 0, none⟩) (some ⟨b, o, none⟩) N N 1 cp rfl rfl w.heap.size 0 (repC s 0 N) 9 hB (List.replicate 1 (.string s)) (Nat.min_eq_left h1).symm (fun _ => ⟨rfl, _, rfl, fun j v hv => by match j, hv with | 0, hv => exact d0.trans hv⟩) (by rw [repC_len]; simp; omega) (rep_one s 1) w.heap.size w hb2 (Nat.le_refl _) ?_; intro w3 hg3 hb3))
  rw [HS.out] at hg3
  have hB3 : Blk w3 w.heap.size 9 (repC s 1 (N - 1)).toArray := by have := hg3.out; rwa [Nat.zero_add] at this
  clear hg3 HS d0 hB hb2
  go_loopg [8] (N - 1) (fun u i wr => ∃ m : Nat, 1 ≤ m ∧ m ≤ N ∧ i = .int .i64 m ∧ u = N - m ∧ Blk wr w.heap.size 9 (repC s m (N - m)).toArray ∧ Below w.heap.size w wr)
  case atStart => exact ⟨1, Nat.le_refl _, h1, rfl, rfl, hB3, hb3⟩
  case round =>
    obtain ⟨m, hm1, hm2, rfl, rfl, hBr, hbr⟩ := hrel
    by_cases hlt : m < N
    · obtain ⟨j, hj⟩ : ∃ j, j = Nat.min m (N - m) := ⟨_, rfl⟩
      have hj1 : 1 ≤ j := by rw [hj]; exact Nat.le_min.2 ⟨hm1, by omega⟩
      have hj2 : j ≤ N - m := by rw [hj]; exact Nat.min_le_right _ _
      have hj3 : j ≤ m := by rw [hj]; exact Nat.min_le_left _ _
      have HJ := Lib.hid hj
      have HS := Lib.hid (rep_splice s m (N - m) j hj2)
      have hwr : IntKind.i64.wrap ((m : Int) + (j : Int)) = (m : Int) + (j : Int) := by rw [IntKind.wrap_i64]; omega
      have hNm : ¬ N = m := by omega
      clear hj
      go_wp2_with fail
      go_region_held3 (fun W => Below w.heap.size w W) (first | exact hbr.drew | assumption | exact hb4)
        (first | (refine step_copy_splice rfl (.tmp 41) (.tmp 44) 22 22 rfl 9 elStr.ht infoStr (some ⟨w.heap.size, m, none⟩) (some ⟨w.heap.size, 0, none⟩) (N - m) (N - m) m N (by simp [Act.eval]) (by simp [Act.eval]) w.heap.size m (repC s m (N - m)) 9 hBr (List.replicate j (.string s)) (by rw [List.length_replicate]; exact HJ.out) (fun _ => ⟨rfl, _, rfl, rep_at s m (N - m) j hj3 w.heap.size _ hBr⟩) (by rw [repC_len, List.length_replicate]; omega) (rep_one s j) w.heap.size w hbr.drew (Nat.le_refl _) ?_; intro w4 hg4 hb4))
      rw [HS.out] at hg4
      go_wp2_with fail
      go_roundg (N - (m + j))
      case rel => exact ⟨m + j, by omega, by omega, by go_num, rfl, by rw [show N - (m + j) = N - m - j by omega]; exact hg4.out, hb4⟩
      case measure => omega
    · obtain rfl : m = N := by omega
      rw [Nat.sub_self] at hBr
      go_wp2_with fail
      go_ret
      exact ⟨_, rfl, ⟨by simp, .inr ⟨w.heap.size, m, _, rfl, Nat.le_refl _, hBr, Nat.le_refl _, by unfold maxLen; omega, by simp [repC], by simp [repC]⟩⟩, hbr⟩
end Go.Proofs.Ytoghgjobfcnneaa
namespace Go.Proofs.Ytoghgjobfcnneaa.Ax
open Go.RowKit
set_option linter.unusedSimpArgs false
attribute [local go_sem] extV appD ptrC fnC nilC nilPtr strRows_len runs runsN guardOf exec1 pureV modD rowD ev get St.app St.put St.turn loadC moveC fieldOf indexC lenC lenOk cutC bndOf evAll fieldV convV unV binV binI bitsV moreV intsT eqL eq1 valOf min1 lit1 litInt litI litB litS constV constC cellsV partsOf placesOf buildV fillL toT elemsOf rowsOf baseOf dstOk V.kill V.ment V.ments C.kill C.ment C.ments B.kill setD litRows litRows_append T.isLit callAll calleeV argsV argV viewC viewCs modeOk freeOps V.free C.free V.allF V.allFs C.allF C.allFs B.allF callD leL growSt growB C.flat V.flat B.flat flatL flatB St.flat List.set_cons_zero List.set_cons_succ C.only C.onlys V.only V.onlys B.only renI C.ren C.rens V.ren V.rens B.ren renB renOk nodK Option.getD_some Option.getD_none Option.isSome_some implies_true false_implies C.fit C.fits V.fit V.fit1 V.fits Bool.and_self ite_self exitV resV resL resC outV outV.outs eqB nn cast0 Int.toNat_natCast List.getElem?_map Value.cells Value.oneCell' Nat.lt_irrefl decide_true decide_false and_true true_and and_self and_false false_and not_true_eq_false not_false_eq_true not_true not_false List.size_toArray all_len Nat.zero_add Nat.add_zero List.length_cons List.length_append List.length_replicate List.length_set List.length_nil List.length_map List.map_cons List.map_nil List.take_succ_cons List.take_zero List.take_nil List.drop_succ_cons List.drop_zero List.drop_nil List.cons_append List.nil_append List.append_nil List.all_cons List.all_nil Bool.and_true Bool.true_and Bool.and_false Bool.false_and Bool.not_true Bool.not_false Bool.or_false Bool.or_true Bool.false_or Bool.true_or List.filter_cons List.filter_nil List.contains_cons List.contains_nil beq_self_eq_true List.getElem?_cons_zero List.getElem?_cons_succ List.getElem?_nil Option.map_some Option.map_none Option.toList_some Option.toList_none List.isEmpty_cons List.isEmpty_nil Bool.false_eq_true Bool.true_eq_false List.getElem?_toArray List.not_mem_nil List.mem_cons or_false forall_eq List.mem_singleton forall_const Option.toArray flsOf flOf flDist flRd flChk flLe tailF addF flSl dKeeps flFree closF notF if_true if_false plans stepE inD cleanSt dstsOf Oper.looksAt Op.operands Call.operands dnOf insN insAll prods pick stOf goneOf slOf blOf keepB' entD addB edge B.ment Region.binds tailOk clos List.any_cons List.any_nil List.filterMap_cons List.filterMap_nil ne_eq Bool.or_self List.isEmpty_iff Array.toList_append List.append_toArray Array.append_empty Option.bind_some Option.bind_none List.push_toArray
set_option maxRecDepth 100000
theorem repeatS_sp (s : ByteArray) (N : Nat) (h1 : 1 ≤ N) (h2 : N ≤ 400) : Sp Try.prog 26 [.one (.sl [[.lit (.string s)]]), .one (.lit (.int .i64 N))] (.one (.own 7 N)) [(7, .arr 9 1 true (rS (List.replicate N s)))] where
  enters := enters_of Try.func26 (by kernel_rfl) rfl
  calls w S hS vs hvs := by
    match vs, hvs with
    | [x, y], hvs =>
      unfold RdAs RdA at hvs
      obtain ⟨hx, hy⟩ := hvs
      unfold RdAs RdA at hy
      unfold RdT at hx hy
      obtain ⟨A, n, c, rfl, hn, hnc, h0 | ⟨b, o, s', rfl, hb, hr⟩⟩ := hx
      · simp at hn; omega
      · simp only [List.length_cons, List.length_nil, Nat.zero_add] at hn
        subst hn
        unfold RdRows RdRow RdT at hr
        obtain ⟨_, ⟨⟨y', hy1, rfl, _⟩, _⟩, _⟩ := hr
        obtain ⟨⟨rfl, _⟩, _⟩ := hy
        refine (repeatS_any s b o c N w hy1 (hS b hb) hnc h1 h2).mono fun e w' => ?_
        rintro ⟨v, rfl, ho, hb⟩
        have hfl : ((List.replicate N s).map fun s => [Value.string s]).flatten = List.replicate N (.string s) := by rw [List.map_replicate, List.flatten_replicate_singleton]
        have := post_row (S := S) (hS := hS) (n := N) 7 ((List.replicate N s).map fun s => [Value.string s]) (by simp) (by rw [hfl]; exact ho) (fun r hr => by obtain ⟨s, _, rfl⟩ := List.mem_map.1 hr; rfl) (fun x hx => by rw [hfl] at hx; rw [(List.mem_replicate.1 hx).2]; rfl) hb
        rw [List.map_map] at this
        exact this
theorem blank_eq : (Lib.repeatL (⟨#[0]⟩ : ByteArray).data.toList 64) = List.replicate 64 0 := by decide +kernel
theorem blank_sp : Sp Try.prog 27 [] (.one (.t true (.lit (.string blank)))) [] := by
  have HR := sp_lit (P := Try.prog) (f := 46) (enters_of Try.func46 (by kernel_rfl) rfl) [.string ⟨#[0]⟩, .int .i64 64] (.string blank) rfl fun W => by
    have h := Try.strings_Repeat ⟨#[0]⟩ 64 W (by decide) (by decide)
    rw [blank_eq] at h
    exact h
  (refine sp_of Try.func27 (by kernel_rfl) rfl (by simp [Try.ntmps27]) fun X hX => ?_; rw [Try.ntmps27] at hX; simp only [argSl, List.map_cons, List.map_nil, Nat.reduceAdd])
  (repeat (first | refine cw_seq' ?_ | refine cw_block ?_ | refine cw_true rfl ?_ | refine cw_false rfl ?_ | refine cw_exit ?_ | refine cw_ret ?_ | refine cw_skip ?_ | (refine cw_region_k fun K hK => ?_; simp (maxSteps := 1000000) only [go_sem, Nat.reduceAdd, Nat.reduceSub, Nat.reduceMul, Nat.reduceLT, Nat.reduceLeDiff, Nat.reduceEqDiff, Nat.reduceBEq, Int.reduceToNat, Int.reduceLE, Int.reduceLT, Int.reduceEq, ↓reduceIte, reduceCtorEq, vDk, aDk, ty3, ty4, ty5, ty9, ty22, ty23, ty25, ty26, ty27, ty61, ty58, hX]; refine rwr_nil (hK _ ?_); clear hK K) | refine then_mk ?_ | refine then_exit ?_ | refine then_ret ?_ | refine blk_mk ?_ | refine blk_ret ?_ | refine blk_same ?_ | refine blk_ne (by decide) ?_))
  (refine cw_region_k fun K hK => ?_; simp (maxSteps := 1000000) only [go_sem, Nat.reduceAdd, Nat.reduceSub, Nat.reduceMul, Nat.reduceLT, Nat.reduceLeDiff, Nat.reduceEqDiff, Nat.reduceBEq, Int.reduceToNat, Int.reduceLE, Int.reduceLT, Int.reduceEq, ↓reduceIte, reduceCtorEq, vDk, aDk, ty3, ty4, ty5, ty9, ty22, ty23, ty25, ty26, ty27, ty61, ty58, hX])
  (refine rwr_call 9 (HR) rfl rfl (by simp (maxSteps := 1000000) only [go_sem, Nat.reduceAdd, Nat.reduceSub, Nat.reduceMul, Nat.reduceLT, Nat.reduceLeDiff, Nat.reduceEqDiff, Nat.reduceBEq, Int.reduceToNat, Int.reduceLE, Int.reduceLT, Int.reduceEq, ↓reduceIte, reduceCtorEq, vDk, aDk, ty3, ty4, ty5, ty9, ty22, ty23, ty25, ty26, ty27, ty61, ty58, hX]) (by exact mode_r rfl) rfl (by rw [hX]; rfl) ?_; simp (maxSteps := 1000000) only [go_sem, Nat.reduceAdd, Nat.reduceSub, Nat.reduceMul, Nat.reduceLT, Nat.reduceLeDiff, Nat.reduceEqDiff, Nat.reduceBEq, Int.reduceToNat, Int.reduceLE, Int.reduceLT, Int.reduceEq, ↓reduceIte, reduceCtorEq, vDk, aDk, ty3, ty4, ty5, ty9, ty22, ty23, ty25, ty26, ty27, ty61, ty58, hX])
  (refine rwr_nil (hK _ ?_); clear hK K)
  (repeat (first | refine cw_seq' ?_ | refine cw_block ?_ | refine cw_true rfl ?_ | refine cw_false rfl ?_ | refine cw_exit ?_ | refine cw_ret ?_ | refine cw_skip ?_ | (refine cw_region_k fun K hK => ?_; simp (maxSteps := 1000000) only [go_sem, Nat.reduceAdd, Nat.reduceSub, Nat.reduceMul, Nat.reduceLT, Nat.reduceLeDiff, Nat.reduceEqDiff, Nat.reduceBEq, Int.reduceToNat, Int.reduceLE, Int.reduceLT, Int.reduceEq, ↓reduceIte, reduceCtorEq, vDk, aDk, ty3, ty4, ty5, ty9, ty22, ty23, ty25, ty26, ty27, ty61, ty58, hX]; refine rwr_nil (hK _ ?_); clear hK K) | refine then_mk ?_ | refine then_exit ?_ | refine then_ret ?_ | refine blk_mk ?_ | refine blk_ret ?_ | refine blk_same ?_ | refine blk_ne (by decide) ?_))
  (first | refine exit_retf ?_ | refine exit_normalf ?_); rw [Try.results27]; simp only [go_sem, Nat.reduceAdd, Nat.reduceSub, Nat.reduceMul, Nat.reduceLT, Nat.reduceLeDiff, Nat.reduceEqDiff, Nat.reduceBEq, Int.reduceToNat, Int.reduceLE, Int.reduceLT, Int.reduceEq, ↓reduceIte, reduceCtorEq, vDk, aDk, ty3, ty4, ty5, ty9, ty22, ty23, ty25, ty26, ty27, ty61, ty58, hX]
theorem new_sp (n : Int) : Sp Try.prog 7 [.one (.lit (.int .i64 n))] (.tup [vDk true true (newD n).1, .one (.t true (.lit (.int .i64 (newD n).2)))]) [] := by
  (refine sp_of Try.func7 (by kernel_rfl) rfl (by simp [Try.ntmps7]) fun X hX => ?_; rw [Try.ntmps7] at hX; simp only [argSl, List.map_cons, List.map_nil, Nat.reduceAdd])
  (repeat (first | refine cw_seq' ?_ | refine cw_block ?_ | refine cw_true rfl ?_ | refine cw_false rfl ?_ | refine cw_exit ?_ | refine cw_ret ?_ | refine cw_skip ?_ | (refine cw_region_k fun K hK => ?_; simp (maxSteps := 1000000) only [go_sem, Nat.reduceAdd, Nat.reduceSub, Nat.reduceMul, Nat.reduceLT, Nat.reduceLeDiff, Nat.reduceEqDiff, Nat.reduceBEq, Int.reduceToNat, Int.reduceLE, Int.reduceLT, Int.reduceEq, ↓reduceIte, reduceCtorEq, vDk, aDk, ty3, ty4, ty5, ty9, ty22, ty23, ty25, ty26, ty27, ty61, ty58, hX]; refine rwr_nil (hK _ ?_); clear hK K) | refine then_mk ?_ | refine then_exit ?_ | refine then_ret ?_ | refine blk_mk ?_ | refine blk_ret ?_ | refine blk_same ?_ | refine blk_ne (by decide) ?_))
  (refine cw_region_n 3 fun K hK => ?_; simp (maxSteps := 1000000) only [go_sem, Nat.reduceAdd, Nat.reduceSub, Nat.reduceMul, Nat.reduceLT, Nat.reduceLeDiff, Nat.reduceEqDiff, Nat.reduceBEq, Int.reduceToNat, Int.reduceLE, Int.reduceLT, Int.reduceEq, ↓reduceIte, reduceCtorEq, vDk, aDk, ty3, ty4, ty5, ty9, ty22, ty23, ty25, ty26, ty27, ty61, ty58, hX])
  (refine rwr_case 99 (by simp only [go_sem, Nat.reduceAdd, Nat.reduceSub, Nat.reduceMul, Nat.reduceLT, Nat.reduceLeDiff, Nat.reduceEqDiff, Nat.reduceBEq, Int.reduceToNat, Int.reduceLE, Int.reduceLT, Int.reduceEq, ↓reduceIte, reduceCtorEq, vDk, aDk, hX]; exact rfl) (fun c1 => ?_) (fun c1 => ?_) <;> ((try simp only [Bool.not_eq_true', Bool.not_eq_false'] at c1); simp (maxSteps := 1000000) only [go_sem, Nat.reduceAdd, Nat.reduceSub, Nat.reduceMul, Nat.reduceLT, Nat.reduceLeDiff, Nat.reduceEqDiff, Nat.reduceBEq, Int.reduceToNat, Int.reduceLE, Int.reduceLT, Int.reduceEq, ↓reduceIte, reduceCtorEq, vDk, aDk, ty3, ty4, ty5, ty9, ty22, ty23, ty25, ty26, ty27, ty61, ty58, c1, hX]))
  rotate_left
  · (refine rwr_nil (hK _ ?_); clear hK K)
    (repeat (first | refine cw_seq' ?_ | refine cw_block ?_ | refine cw_true rfl ?_ | refine cw_false rfl ?_ | refine cw_exit ?_ | refine cw_ret ?_ | refine cw_skip ?_ | (refine cw_region_k fun K hK => ?_; simp (maxSteps := 1000000) only [go_sem, Nat.reduceAdd, Nat.reduceSub, Nat.reduceMul, Nat.reduceLT, Nat.reduceLeDiff, Nat.reduceEqDiff, Nat.reduceBEq, Int.reduceToNat, Int.reduceLE, Int.reduceLT, Int.reduceEq, ↓reduceIte, reduceCtorEq, vDk, aDk, ty3, ty4, ty5, ty9, ty22, ty23, ty25, ty26, ty27, ty61, ty58, c1, hX]; refine rwr_nil (hK _ ?_); clear hK K) | refine then_mk ?_ | refine then_exit ?_ | refine then_ret ?_ | refine blk_mk ?_ | refine blk_ret ?_ | refine blk_same ?_ | refine blk_ne (by decide) ?_))
    (first | refine exit_retf ?_ | refine exit_normalf ?_); rw [Try.results7]; simp only [go_sem, Nat.reduceAdd, Nat.reduceSub, Nat.reduceMul, Nat.reduceLT, Nat.reduceLeDiff, Nat.reduceEqDiff, Nat.reduceBEq, Int.reduceToNat, Int.reduceLE, Int.reduceLT, Int.reduceEq, ↓reduceIte, reduceCtorEq, vDk, aDk, ty3, ty4, ty5, ty9, ty22, ty23, ty25, ty26, ty27, ty61, ty58, hX]
    rw [newD, if_pos (by simp only [decide_eq_true_eq, decide_eq_false_iff_not, bne_iff_ne, bne_eq_false_iff_eq, beq_iff_eq, beq_eq_false_iff_ne, ne_eq] at c1; omega)]; rfl
  (refine rwr_nil (hK _ ?_); clear hK K)
  (repeat (first | refine cw_seq' ?_ | refine cw_block ?_ | refine cw_true rfl ?_ | refine cw_false rfl ?_ | refine cw_exit ?_ | refine cw_ret ?_ | refine cw_skip ?_ | (refine cw_region_k fun K hK => ?_; simp (maxSteps := 1000000) only [go_sem, Nat.reduceAdd, Nat.reduceSub, Nat.reduceMul, Nat.reduceLT, Nat.reduceLeDiff, Nat.reduceEqDiff, Nat.reduceBEq, Int.reduceToNat, Int.reduceLE, Int.reduceLT, Int.reduceEq, ↓reduceIte, reduceCtorEq, vDk, aDk, ty3, ty4, ty5, ty9, ty22, ty23, ty25, ty26, ty27, ty61, ty58, c1, hX]; refine rwr_nil (hK _ ?_); clear hK K) | refine then_mk ?_ | refine then_exit ?_ | refine then_ret ?_ | refine blk_mk ?_ | refine blk_ret ?_ | refine blk_same ?_ | refine blk_ne (by decide) ?_))
  refine cw_cond rfl (fun c2 => ?_) (fun c2 => ?_)
  · (repeat (first | refine cw_seq' ?_ | refine cw_block ?_ | refine cw_true rfl ?_ | refine cw_false rfl ?_ | refine cw_exit ?_ | refine cw_ret ?_ | refine cw_skip ?_ | (refine cw_region_k fun K hK => ?_; simp (maxSteps := 1000000) only [go_sem, Nat.reduceAdd, Nat.reduceSub, Nat.reduceMul, Nat.reduceLT, Nat.reduceLeDiff, Nat.reduceEqDiff, Nat.reduceBEq, Int.reduceToNat, Int.reduceLE, Int.reduceLT, Int.reduceEq, ↓reduceIte, reduceCtorEq, vDk, aDk, ty3, ty4, ty5, ty9, ty22, ty23, ty25, ty26, ty27, ty61, ty58, c2, hX]; refine rwr_nil (hK _ ?_); clear hK K) | refine then_mk ?_ | refine then_exit ?_ | refine then_ret ?_ | refine blk_mk ?_ | refine blk_ret ?_ | refine blk_same ?_ | refine blk_ne (by decide) ?_))
    (first | refine exit_retf ?_ | refine exit_normalf ?_); rw [Try.results7]; simp only [go_sem, Nat.reduceAdd, Nat.reduceSub, Nat.reduceMul, Nat.reduceLT, Nat.reduceLeDiff, Nat.reduceEqDiff, Nat.reduceBEq, Int.reduceToNat, Int.reduceLE, Int.reduceLT, Int.reduceEq, ↓reduceIte, reduceCtorEq, vDk, aDk, ty3, ty4, ty5, ty9, ty22, ty23, ty25, ty26, ty27, ty61, ty58, hX]
    rw [newD, if_pos (by simp only [decide_eq_true_eq, decide_eq_false_iff_not, bne_iff_ne, bne_eq_false_iff_eq, beq_iff_eq, beq_eq_false_iff_ne, ne_eq] at c2; omega)]; rfl
  (repeat (first | refine cw_seq' ?_ | refine cw_block ?_ | refine cw_true rfl ?_ | refine cw_false rfl ?_ | refine cw_exit ?_ | refine cw_ret ?_ | refine cw_skip ?_ | (refine cw_region_k fun K hK => ?_; simp (maxSteps := 1000000) only [go_sem, Nat.reduceAdd, Nat.reduceSub, Nat.reduceMul, Nat.reduceLT, Nat.reduceLeDiff, Nat.reduceEqDiff, Nat.reduceBEq, Int.reduceToNat, Int.reduceLE, Int.reduceLT, Int.reduceEq, ↓reduceIte, reduceCtorEq, vDk, aDk, ty3, ty4, ty5, ty9, ty22, ty23, ty25, ty26, ty27, ty61, ty58, c2, hX]; refine rwr_nil (hK _ ?_); clear hK K) | refine then_mk ?_ | refine then_exit ?_ | refine then_ret ?_ | refine blk_mk ?_ | refine blk_ret ?_ | refine blk_same ?_ | refine blk_ne (by decide) ?_))
  have h : ¬ (n < 1 ∨ 400 < n) := (by simp only [decide_eq_true_eq, decide_eq_false_iff_not, bne_iff_ne, bne_eq_false_iff_eq, beq_iff_eq, beq_eq_false_iff_ne, ne_eq] at c1 c2; omega)
  obtain ⟨N, rfl⟩ := Int.eq_ofNat_of_zero_le (show 0 ≤ n by omega)
  (refine cw_region_k fun K hK => ?_; simp (maxSteps := 1000000) only [go_sem, Nat.reduceAdd, Nat.reduceSub, Nat.reduceMul, Nat.reduceLT, Nat.reduceLeDiff, Nat.reduceEqDiff, Nat.reduceBEq, Int.reduceToNat, Int.reduceLE, Int.reduceLT, Int.reduceEq, ↓reduceIte, reduceCtorEq, vDk, aDk, ty3, ty4, ty5, ty9, ty22, ty23, ty25, ty26, ty27, ty61, ty58, hX])
  (refine rwr_call 9 (blank_sp) rfl rfl (by simp (maxSteps := 1000000) only [go_sem, Nat.reduceAdd, Nat.reduceSub, Nat.reduceMul, Nat.reduceLT, Nat.reduceLeDiff, Nat.reduceEqDiff, Nat.reduceBEq, Int.reduceToNat, Int.reduceLE, Int.reduceLT, Int.reduceEq, ↓reduceIte, reduceCtorEq, vDk, aDk, ty3, ty4, ty5, ty9, ty22, ty23, ty25, ty26, ty27, ty61, ty58, hX]) (by exact mode_r rfl) rfl (by rw [hX]; rfl) ?_; simp (maxSteps := 1000000) only [go_sem, Nat.reduceAdd, Nat.reduceSub, Nat.reduceMul, Nat.reduceLT, Nat.reduceLeDiff, Nat.reduceEqDiff, Nat.reduceBEq, Int.reduceToNat, Int.reduceLE, Int.reduceLT, Int.reduceEq, ↓reduceIte, reduceCtorEq, vDk, aDk, ty3, ty4, ty5, ty9, ty22, ty23, ty25, ty26, ty27, ty61, ty58, hX])
  (refine rwr_call 9 (repeatS_sp blank N (by omega) (by omega)) rfl rfl (by simp (maxSteps := 1000000) only [go_sem, Nat.reduceAdd, Nat.reduceSub, Nat.reduceMul, Nat.reduceLT, Nat.reduceLeDiff, Nat.reduceEqDiff, Nat.reduceBEq, Int.reduceToNat, Int.reduceLE, Int.reduceLT, Int.reduceEq, ↓reduceIte, reduceCtorEq, vDk, aDk, ty3, ty4, ty5, ty9, ty22, ty23, ty25, ty26, ty27, ty61, ty58, hX]) (by exact mode_r rfl) rfl (by rw [hX]; rfl) ?_; simp (maxSteps := 1000000) only [go_sem, Nat.reduceAdd, Nat.reduceSub, Nat.reduceMul, Nat.reduceLT, Nat.reduceLeDiff, Nat.reduceEqDiff, Nat.reduceBEq, Int.reduceToNat, Int.reduceLE, Int.reduceLT, Int.reduceEq, ↓reduceIte, reduceCtorEq, vDk, aDk, ty3, ty4, ty5, ty9, ty22, ty23, ty25, ty26, ty27, ty61, ty58, hX])
  (refine rwr_nil (hK _ ?_); clear hK K)
  (repeat (first | refine cw_seq' ?_ | refine cw_block ?_ | refine cw_true rfl ?_ | refine cw_false rfl ?_ | refine cw_exit ?_ | refine cw_ret ?_ | refine cw_skip ?_ | (refine cw_region_k fun K hK => ?_; simp (maxSteps := 1000000) only [go_sem, Nat.reduceAdd, Nat.reduceSub, Nat.reduceMul, Nat.reduceLT, Nat.reduceLeDiff, Nat.reduceEqDiff, Nat.reduceBEq, Int.reduceToNat, Int.reduceLE, Int.reduceLT, Int.reduceEq, ↓reduceIte, reduceCtorEq, vDk, aDk, ty3, ty4, ty5, ty9, ty22, ty23, ty25, ty26, ty27, ty61, ty58, hX]; refine rwr_nil (hK _ ?_); clear hK K) | refine then_mk ?_ | refine then_exit ?_ | refine then_ret ?_ | refine blk_mk ?_ | refine blk_ret ?_ | refine blk_same ?_ | refine blk_ne (by decide) ?_))
  (first | refine exit_retf ?_ | refine exit_normalf ?_); rw [Try.results7]; simp only [go_sem, Nat.reduceAdd, Nat.reduceSub, Nat.reduceMul, Nat.reduceLT, Nat.reduceLeDiff, Nat.reduceEqDiff, Nat.reduceBEq, Int.reduceToNat, Int.reduceLE, Int.reduceLT, Int.reduceEq, ↓reduceIte, reduceCtorEq, vDk, aDk, ty3, ty4, ty5, ty9, ty22, ty23, ty25, ty26, ty27, ty61, ty58, litS_, hX]
  rw [newD, if_neg h]; simp
end Go.Proofs.Ytoghgjobfcnneaa.Ax
