/- Values, by what is known: numerals of the library; casts. -/
import Derived.Test.YtnjjpblgcgikaaaDoorAxEx8
import Derived.Test.YtnjjpblgcgikaaaDoorAxG9
import Derived.Test.YtnjjpblgcgikaaaDoorShelf
import Derived.Test.YtnjjpblgcgikaaaDoorPlB
namespace Go.Proofs.YtnjjpblgcgikaaaDoor.Ax
open Go.RowKit Go.Sort
set_option linter.unusedSimpArgs false
attribute [local go_sem] extV appD cutOwn appOwn clearOwn bdI mapD putD' keyOk getOr getM putM wholeV litCs asV asC ptrC fnC nilC nilPtr strRows_len runs runsN guardOf exec1 pureV modD rowD ev get St.app St.put St.turn loadC moveC fieldOf indexC lenC lenOk cutC bndOf evAll fieldV convV unV binV binI bitsV moreV intsT eqL eq1 valOf min1 lit1 litInt litI litB litS constV constC cellsV partsOf placesOf buildV fillL toT elemsOf rowsOf baseOf dstOk V.kill V.ment V.ments C.kill C.ment C.ments B.kill setD litRows litRows_append T.isLit callAll calleeV argsV argV viewC viewCs modeOk freeOps V.free C.free V.allF V.allFs C.allF C.allFs B.allF callD leL growSt C.flat V.flat B.flat flatL flatB St.flat List.set_cons_zero List.set_cons_succ C.only C.onlys V.only V.onlys B.only renI C.ren C.rens V.ren V.rens B.ren renB renOk nodK Option.getD_some Option.getD_none Option.isSome_some implies_true false_implies C.fit C.fits V.fit V.fit1 V.fits Bool.and_self ite_self exitV resV resL resC outV outV.outs eqB nn cast0 Int.toNat_natCast List.getElem?_map Value.cells Value.oneCell' Nat.lt_irrefl decide_true decide_false and_true true_and and_self and_false false_and not_true_eq_false not_false_eq_true not_true not_false List.size_toArray all_len Nat.zero_add Nat.add_zero List.length_cons List.length_append List.length_replicate List.length_set List.length_nil List.length_map List.map_cons List.map_nil List.take_succ_cons List.take_zero List.take_nil List.drop_succ_cons List.drop_zero List.drop_nil List.cons_append List.nil_append List.append_nil List.all_cons List.all_nil Bool.and_true Bool.true_and Bool.and_false Bool.false_and Bool.not_true Bool.not_false Bool.or_false Bool.or_true Bool.false_or Bool.true_or List.filter_cons List.filter_nil List.contains_cons List.contains_nil beq_self_eq_true List.getElem?_cons_zero List.getElem?_cons_succ List.getElem?_nil Option.map_some Option.map_none Option.toList_some Option.toList_none List.isEmpty_cons List.isEmpty_nil Bool.false_eq_true Bool.true_eq_false List.getElem?_toArray List.not_mem_nil List.mem_cons or_false forall_eq List.mem_singleton forall_const Option.toArray tailF addF flSl dKeeps flFree closF notF if_true if_false plans inD cleanSt dstsOf Oper.looksAt Op.operands Call.operands dnOf insN insAll prods pick stOf goneOf slOf blOf keepB' entD addB edge B.ment Region.binds tailOk clos List.any_cons List.any_nil List.filterMap_cons List.filterMap_nil ne_eq Bool.or_self List.isEmpty_iff Array.toList_append List.append_toArray Array.append_empty Option.bind_some Option.bind_none List.push_toArray argSv ioD modeIO staysOk callIO calleeIO argsIO valIO cellsIO cellIO butB zLe cLe csLe vLe vsLe bLe insLe renIOk nbOk foE foE.foR foE.foB anyText anyGc aliveF mK kdN klAt klAt.atL looksB remN dstNe nbIds provBl provBs provOf provOf.provH rdsOf idsR provR blsOf dnA edgesOf foSl inL dnE dnF dnH C.ids C.idss V.ids V.idss FHave FHave.rdHave FHave.blHave provF provF.provP findF hsOk NDst klOf dropS true_or or_true or_self ty3 ty4 ty9 ty5 ty39 ty93 ty79 ty90 ty82 ty24
set_option linter.unusedVariables false
set_option maxRecDepth 100000
/-- plain arguments; what comes names no memory -/
theorem sp_by {P : Program} {f : FuncId} (hen : Enters P f) {args : List A} (vs : List Value) (ha : litAs args = some vs) {res : V} (h : ∀ w, GW w → Calls P f vs.toArray w fun e w' => ∃ x, e = .returned x ∧ Below w.heap.size w w' ∧ ∀ (ok : Bool → Nat → Prop) (ρ : Nat → R), RdV w' ok ρ res x) : Sp P f args res [] where
  enters := hen
  calls w S hS us hG hus := by
    rw [litAs_rd ha hus]
    refine (h w hG).mono fun e w' => ?_
    rintro ⟨x, rfl, hb, hx⟩
    exact ⟨x, deadR, rfl, hb, (by intro _ _ _ h; cases h), (by intro _ _ _ _ _ h; cases h), fun _ _ => rfl, hx _ _, (by intro _ _ h; cases h)⟩
theorem below_more (w : World) (k : Nat) (os : Array Obj) : Below w.heap.size w (grow (w.drewN k) os) := by
  refine ⟨rfl, rfl, rfl, by simp [grow, World.drewN], fun b hb => ?_⟩
  simp [grow, World.drewN, Array.getElem?_append, hb]
theorem below_bytes (w : World) (e : TypeId) (t : ByteArray) : Below w.heap.size w (Lib.bytesWorld w e t) := by
  unfold Lib.bytesWorld
  generalize Lib.bytesCells w e t = cs
  have h1 : (w.drew.alloc (.cells cs e)).heap = w.heap.push (.cells cs e) := rfl
  unfold World.freeze
  refine ⟨rfl, rfl, rfl, ?_, fun b hb => ?_⟩
  · rw [if_neg (by decide)]
    show _ ≤ Array.size _
    rw [Array.size_modify, h1, Array.size_push]
    omega
  · rw [if_neg (by decide)]
    show (Array.modify _ _ _)[b]? = _
    rw [Array.getElem?_modify, h1, Array.getElem?_push, if_neg (show ¬ (w.heap.size = b) by omega), if_neg (show ¬ (b = w.heap.size) by omega)]
theorem itoa_sp (n : Int) (h0 : -9223372036854775808 ≤ n) (h1 : n ≤ 9223372036854775807) : Sp Tryd.prog 59 [.one (.lit (.int .i64 n))] (.one (.t true (.lit (.string (digS n))))) [] :=
  sp_by (enters_of Tryd.func59 (by kernel_rfl) rfl) [.int .i64 n] rfl fun w hG => (Tryd.strconv_Itoa n h0 h1 w hG.tab).mono fun e w' => by
    rintro ⟨rfl, k, os, rfl⟩
    refine ⟨_, rfl, below_more w k os, fun ok ρ => ?_⟩
    unfold RdV RdC RdT
    exact ⟨rfl, rfl⟩
theorem atoi_sp (s : ByteArray) (hs : s.size ≤ 281474976710656) : Sp Tryd.prog 70 [.one (.lit (.string s))] (.tup [.one (.t true (.lit (.int .i64 (atoiN s)))), .one .junk]) [] :=
  sp_by (enters_of Tryd.func70 (by kernel_rfl) rfl) [.string s] rfl fun w hG => by
    have fin : ∀ (w' : World) (n : Int) (x : Value), x.oneCell' = true → ∀ (ok : Bool → Nat → Prop) (ρ : Nat → R), RdV w' ok ρ (.tup [.one (.t true (.lit (.int .i64 n))), .one .junk]) (.tuple #[.int .i64 n, x]) := fun w' n x hx ok ρ => by
      unfold RdV
      refine ⟨#[.int .i64 n, x], rfl, ?_⟩
      unfold RdVs RdVs RdVs RdV RdC RdT
      exact ⟨⟨rfl, rfl⟩, hx, trivial⟩
    unfold atoiN
    cases h : Lib.atoiAll s.data.toList with
    | ok v =>
      refine (Tryd.strconv_Atoi_ok s (by omega) v h w).mono fun e w' => ?_
      rintro ⟨rfl, hw⟩
      refine ⟨_, rfl, ?_, fin w' v _ rfl⟩
      rcases hw with rfl | ⟨t, rfl⟩
      · exact Below.refl _ _
      · exact below_bytes w _ t
    | «syntax» =>
      obtain ⟨tp, p, hv⟩ := hG.synt
      refine (Tryd.strconv_Atoi_syntax_var s hs h tp p w hv).mono fun e w' => ?_
      rintro ⟨N, rfl, _, _, hb⟩
      exact ⟨_, rfl, hb, fin w' 0 _ rfl⟩
    | range =>
      obtain ⟨tp, p, hv⟩ := hG.range
      refine (Tryd.strconv_Atoi_range_var s hs h tp p w hv).mono fun e w' => ?_
      rintro ⟨N, rfl, _, _, hb⟩
      exact ⟨_, rfl, hb, fin w' _ _ rfl⟩
def boolS (b : Bool) : ByteArray := if b then trueS else falseS
theorem fmtbool_sp (b : Bool) : Sp Tryd.prog 69 [.one (.lit (.bool b))] (.one (.t true (.lit (.string (boolS b))))) [] :=
  sp_by (enters_of Tryd.func69 (by kernel_rfl) rfl) [.bool b] rfl fun w _ => (Tryd.strconv_FormatBool b w).mono fun e w' => by
    rintro ⟨rfl, rfl⟩
    refine ⟨_, rfl, Below.refl _ _, fun ok ρ => ?_⟩
    unfold RdV RdC RdT
    refine ⟨?_, rfl⟩
    congr 1
    cases b <;> rfl
end Go.Proofs.YtnjjpblgcgikaaaDoor.Ax
