/-  -/
import Derived.Test.YtjdgejfhnfnmgaaGreatDoorT15
import Derived.Test.YtjdgejfhnfnmgaaGreatDoorT23
import Derived.Test.YtjdgejfhnfnmgaaGreatDoorT19
import Derived.Lib.Atoi
import Derived.Test.YtjdgejfhnfnmgaaGreatDoorT17
import Derived.Lib.ItoaMem
import Derived.Lib.AtoiTie
import Derived.Lib.AtoiAllCases
import Derived.Test.YtjdgejfhnfnmgaaGreatDoorT13
import Derived.Test.YtjdgejfhnfnmgaaGreatDoorShelf
namespace Go.Proofs.YtjdgejfhnfnmgaaGreatDoor.Ax
open Go.RowKit
set_option linter.unusedSimpArgs false
attribute [local go_sem] ty3 ty4 ty9 ty5 ty26 ty77 ty43 ty67 ty65
set_option linter.unusedVariables false
set_option maxRecDepth 100000
theorem takeK_t {l : List Vl} {s : ByteArray} {k : Nat} (h : takeB l s k = true) : takeK l s k = k + 1 := by unfold takeK; rw [h]; rfl
theorem takeK_f {l : List Vl} {s : ByteArray} {k : Nat} (h : takeB l s k = false) : takeK l s k = k := by unfold takeK; rw [h]; rfl
def needI (l : List Vl) (en : Int) (s : ByteArray) (vs : List Value) (j : Int) (kn : Nat) : St := ⟨[(8, litI .i64 j), (7, litI .i64 1), (6, .one (.t false (.sl (rS [s])))), (0, .one (.optr 1000 0))], [(1000, .var 67 (.t false (.sl (rVs l)) :: .t false (.lit (.int .i64 (kn : Int))) :: .t false (.lit (.int .i64 en)) :: lits vs))]⟩
set_option maxHeartbeats 4000000 in
theorem pneed_l (l : List Vl) (hl : l.length ≤ 4000) (en : Int) (k : Nat) (s : ByteArray) (ht : takeB l s k = true) : SpL Tryz.prog 113 [.one (.optr 1000 0), .one (.t false (.sl (rS [s])))] 67 (paH l en k) (.tup []) (paH l en (k + 1)) 26 := by
 intro vs hlen hone
 have hT := ptake_l l hl en k s
 rw [ht, takeK_t ht] at hT
 unfold paH at hT ⊢
 (refine ei_ Tryz.func113 Tryz.ntmps113 Tryz.results113 fun X hX => ?_)
 refine au_ an0 ?_
 refine cw_loop (fun m st => m = 1 ∧ st = needI l en s vs 0 k ∨ m = 0 ∧ st = needI l en s vs 1 (k + 1)) 1 ⟨_, .inl ⟨rfl, rfl⟩, by unfold needI; exact le_⟩ ?_
 rintro m st (⟨rfl, rfl⟩ | ⟨rfl, rfl⟩)
 ·unfold needI
  have hx : [s][0]? = some s := rfl
  refine au_ hx ?_
  (refine rn_ 0 an0 fun K hK => ?_; refine rx_ an0 ?_; refine lk_ 1000 an0 (hT) ?_; refine rx_ an0 ?_; refine rwr_nil (hK _ ?_); clear hK K)
  have z4 : IntKind.i64.wrap (0 + 1) = 1 := by kernel_rfl
  refine au_ z4 ?_
  exact ⟨0, by omega, needI l en s vs 1 (k + 1), .inr ⟨rfl, rfl⟩, by unfold needI; exact le_⟩
 ·unfold needI
  refine au_ an0 ?_
  exact oj_ an0 (.inr rfl)
set_option maxHeartbeats 4000000 in
theorem pneed_p (l : List Vl) (hl : l.length ≤ 4000) (en : Int) (k : Nat) (s : ByteArray) (ht : takeB l s k = false) : SpPL Tryz.prog 113 [.one (.optr 1000 0), .one (.t false (.sl (rS [s])))] 67 (paH l en k) (chP l en k) 26 := by
 intro vs hlen hone
 have hF := pfail_l l en k
 have hT := ptake_l l hl en k s
 rw [ht, takeK_f ht] at hT
 unfold paH at hT hF ⊢
 (refine ep_ Tryz.func113 Tryz.ntmps113 fun X hX hpn => ?_)
 refine au_ an0 ?_
 refine cw_loop (fun m st => st = needI l en s vs 0 k) 1 ⟨_, rfl, by unfold needI; exact le_⟩ ?_
 rintro m st rfl
 unfold needI
 have hx : [s][0]? = some s := rfl
 refine au_ hx ?_
 (refine rn_ 0 an0 fun K hK => ?_; refine rx_ an0 ?_; refine lk_ 1000 an0 (hT) ?_; refine rx_ an0 ?_; refine rwr_nil (hK _ ?_); clear hK K)
 refine au_ an0 ?_
 (refine rn_ 0 an0 fun K hK => ?_; refine rx_ an0 ?_; exact pn_ 1000 an0 (hF) hpn)
end Go.Proofs.YtjdgejfhnfnmgaaGreatDoor.Ax
namespace Go.Proofs.YtjdgejfhnfnmgaaGreatDoor
open Go.RowKit
theorem dec_numF : ∀ (l : List UInt8) (acc : Nat), l.all digitB = true → ∃ m : Nat, Lib.decFrom acc l = some m ∧ (m : Int) = l.foldl (fun n c => 10 * n + (c.toNat : Int) - 48) (acc : Int)
 | [], acc, _ => ⟨acc, rfl, rfl⟩
 | c :: l, acc, h => by
  rw [List.all_cons, Bool.and_eq_true] at h
  have hc := h.1
  unfold digitB at hc
  simp only [Bool.and_eq_true, decide_eq_true_eq] at hc
  obtain ⟨m, h1, h2⟩ := dec_numF l (acc * 10 + (c.toNat - 48)) h.2
  refine ⟨m, ?_, ?_⟩
  ·unfold Lib.decFrom Lib.digitVal
   rw [if_pos (by omega)]
   exact h1
  ·rw [h2, List.foldl_cons]
   congr 1
   omega
theorem atoi_num {s : ByteArray} (h0 : s.data.toList ≠ []) (hd : s.data.toList.all digitB = true) : Lib.atoi s.data.toList = some (numL s.data.toList) := by
 cases hs : s.data.toList with
 | nil => exact absurd hs h0
 | cons c r =>
  rw [hs] at hd
  obtain ⟨m, h1, h2⟩ := dec_numF (c :: r) 0 hd
  rw [List.all_cons, Bool.and_eq_true] at hd
  have hc := hd.1
  unfold digitB at hc
  simp only [Bool.and_eq_true, decide_eq_true_eq] at hc
  have n1 : (c == 45) = false := by
   rw [beq_eq_false_iff_ne]; rintro rfl
   have : (45 : UInt8).toNat = 45 := rfl
   omega
  have n2 : (c == 43) = false := by
   rw [beq_eq_false_iff_ne]; rintro rfl
   have : (43 : UInt8).toNat = 43 := rfl
   omega
  have e1 : Lib.decNat (c :: r) = some m := by
   unfold Lib.decNat
   rw [if_neg (by simp), h1]
  rw [Lib.atoi, if_neg (by rw [n1]; decide), if_neg (by rw [n2]; decide), e1, Option.map_some, h2]
  rfl
inductive VP where
 | no
 | yes (v : Vl) (k : Nat)
 | bad (k : Nat)
def vP (l : List Vl) (k : Nat) : VP :=
 if takeB l wTrue k = true then .yes ⟨3, 1, ⟨#[]⟩⟩ (k + 1)
 else if takeB l wFalse k = true then .yes ⟨3, 0, ⟨#[]⟩⟩ (k + 1)
 else if takeB l wNull k = true then .yes ⟨0, 0, ⟨#[]⟩⟩ (k + 1)
 else if kindP l 3 k = true then .yes ⟨2, 0, unq (txP l k)⟩ (k + 1)
 else if takeB l ⟨#[45]⟩ k = true then
  if takeB l ⟨#[48]⟩ (k + 1) = true then .bad (k + 1)
  else if kindP l 2 (k + 1) = true then .yes ⟨1, -(numL (txP l (k + 1)).data.toList), ⟨#[]⟩⟩ (k + 2)
  else .bad (k + 1)
 else if kindP l 2 k = true then .yes ⟨1, numL (txP l k).data.toList, ⟨#[]⟩⟩ (k + 1)
 else .no
def oneP (l : List Vl) (k : Nat) : List ByteArray → Nat → Int
 | [], _ => -1
 | s :: r, i => if takeB l s k = true then (i : Int) else oneP l k r (i + 1)
end Go.Proofs.YtjdgejfhnfnmgaaGreatDoor
namespace Go.Proofs.YtjdgejfhnfnmgaaGreatDoor
open Go.RowKit
end Go.Proofs.YtjdgejfhnfnmgaaGreatDoor
namespace Go.Proofs.YtjdgejfhnfnmgaaGreatDoor.Ax
open Go.RowKit Go.Sort
set_option linter.unusedSimpArgs false
attribute [local go_sem] extV appD cutOwn appOwn clearOwn bdI mapD putD' keyOk getOr getM putM wholeV litCs asV asC ptrC fnC nilC nilPtr strRows_len runs runsN guardOf exec1 pureV modD rowD ev get St.app St.put St.turn loadC moveC fieldOf indexC lenC lenOk cutC bndOf evAll fieldV convV unV binV binI bitsV moreV intsT eqL eq1 valOf min1 lit1 litInt litI litB litS constV constC cellsV partsOf placesOf buildV fillL toT elemsOf rowsOf baseOf dstOk V.kill V.ment V.ments C.kill C.ment C.ments B.kill setD litRows litRows_append T.isLit callAll calleeV argsV argV viewC viewCs modeOk freeOps V.free C.free V.allF V.allFs C.allF C.allFs B.allF callD leL growB C.flat V.flat B.flat flatL flatB St.flat List.set_cons_zero List.set_cons_succ C.only C.onlys V.only V.onlys B.only renI C.ren C.rens V.ren V.rens B.ren renB renOk nodK Option.getD_some Option.getD_none Option.isSome_some implies_true false_implies C.fit C.fits V.fit V.fit1 V.fits Bool.and_self ite_self exitV resV resL resC outV outV.outs eqB nn cast0 Int.toNat_natCast List.getElem?_map Value.cells Value.oneCell' Nat.lt_irrefl decide_true decide_false and_true true_and and_self and_false false_and not_true_eq_false not_false_eq_true not_true not_false List.size_toArray all_len Nat.zero_add Nat.add_zero List.length_cons List.length_append List.length_replicate List.length_set List.length_nil List.length_map List.map_cons List.map_nil List.take_succ_cons List.take_zero List.take_nil List.drop_succ_cons List.drop_zero List.drop_nil List.cons_append List.nil_append List.append_nil List.all_cons List.all_nil Bool.and_true Bool.true_and Bool.and_false Bool.false_and Bool.not_true Bool.not_false Bool.or_false Bool.or_true Bool.false_or Bool.true_or List.filter_cons List.filter_nil List.contains_cons List.contains_nil beq_self_eq_true List.getElem?_cons_zero List.getElem?_cons_succ List.getElem?_nil Option.map_some Option.map_none Option.toList_some Option.toList_none List.isEmpty_cons List.isEmpty_nil Bool.false_eq_true Bool.true_eq_false List.getElem?_toArray List.not_mem_nil List.mem_cons or_false forall_eq List.mem_singleton forall_const Option.toArray addF if_true if_false dstsOf Oper.looksAt Op.operands Call.operands pick edge B.ment Region.binds List.any_cons List.any_nil List.filterMap_cons List.filterMap_nil ne_eq Bool.or_self List.isEmpty_iff Array.toList_append List.append_toArray Array.append_empty Option.bind_some Option.bind_none List.push_toArray argSv ioD modeIO staysOk callIO calleeIO argsIO valIO cellsIO cellIO butB zLe cLe csLe vLe vsLe bLe insLe renIOk nbOk anyText anyGc aliveF mK kdN klAt klAt.atL dstNe edgesOf foSl inL C.ids C.idss V.ids V.idss NDst klOf dropS true_or or_true or_self ty3 ty4 ty9 ty5 ty24 ty116 ty87 ty32
set_option linter.unusedVariables false
set_option maxRecDepth 100000
theorem sp_by {P : Program} {f : FuncId} (hen : Enters P f) {args : List A} (vs : List Value) (ha : litAs args = some vs) {res : V} (h : ∀ w, GW w → Calls P f vs.toArray w fun e w' => ∃ x, e = .returned x ∧ Below w.heap.size w w' ∧ ∀ (ok : Bool → Nat → Prop) (ρ : Nat → R), RdV w' ok ρ res x) : Sp P f args res [] where
 enters := hen
 calls w S hS us hG hus := by
  rw [litAs_rd ha hus]
  refine (h w hG).mono fun e w' => ?_
  rintro ⟨x, rfl, hb, hx⟩
  exact ⟨x, deadR, rfl, hb, (by intro _ _ _ h; cases h), (by intro _ _ _ _ _ h; cases h), fun _ _ => rfl, hx _ _, (by intro _ _ h; cases h)⟩
theorem below_bytes (w : World) (e : TypeId) (t : ByteArray) : Below w.heap.size w (Lib.bytesWorld w e t) := by
 unfold Lib.bytesWorld
 generalize Lib.bytesCells w e t = cs
 have h1 : (w.drew.alloc (.cells cs e)).heap = w.heap.push (.cells cs e) := rfl
 unfold World.freeze
 refine ⟨rfl, rfl, rfl, ?_, fun b hb => ?_⟩
 ·rw [if_neg (by decide)]
  show _ ≤ Array.size _
  rw [Array.size_modify, h1, Array.size_push]
  omega
 ·rw [if_neg (by decide)]
  show (Array.modify _ _ _)[b]? = _
  rw [Array.getElem?_modify, h1, Array.getElem?_push, if_neg (show ¬ (w.heap.size = b) by omega), if_neg (show ¬ (b = w.heap.size) by omega)]
end Go.Proofs.YtjdgejfhnfnmgaaGreatDoor.Ax
namespace Go.Proofs.YtjdgejfhnfnmgaaGreatDoor.Ax
open Go.RowKit Go.Sort
set_option linter.unusedSimpArgs false
attribute [local go_sem] ty3 ty4 ty9 ty5 ty26 ty77 ty43 ty67 ty65 ty116 ty87
set_option linter.unusedVariables false
set_option maxRecDepth 100000
theorem atoid_sp (s : ByteArray) (h0 : s.data.toList ≠ []) (hd : s.data.toList.all digitB = true) (hz : s.size ≤ 9) : Sp Tryz.prog 166 [.one (.lit (.string s))] (.tup [.one (.t true (.lit (.int .i64 (numL s.data.toList)))), .one .junk]) [] :=
 sp_by (enters_of Tryz.func166 (by kernel_rfl) rfl) [.string s] rfl fun w hG => by
  refine (Tryz.strconv_Atoi s _ (by omega) (atoi_num h0 hd) w).mono fun e w' => ?_
  rintro ⟨rfl, t, rfl⟩
  refine ⟨_, rfl, below_bytes w _ t, fun ok ρ => ?_⟩
  unfold RdV
  refine ⟨#[_, _], rfl, ?_⟩
  unfold RdVs RdVs RdVs RdV RdC RdT
  exact ⟨⟨rfl, rfl⟩, rfl, trivial⟩
set_option maxHeartbeats 4000000 in
theorem pnumber_l (l : List Vl) (hl : GoodL l) (en : Int) (k : Nat) (h : kindP l 2 k = true) : SpL Tryz.prog 156 [.one (.optr 1000 0)] 67 (paH l en k) (.one (.t true (.lit (.int .i64 (numL (txP l k).data.toList))))) (paH l en (k + 1)) 26 := by
 intro vs hlen hone
 have hll := hl.len
 have hKi := pkind_l l en k 2
 rw [h] at hKi
 unfold kindP at h
 unfold txP
 unfold paH at hKi ⊢
 by_cases hlt : k < l.length
 ·obtain ⟨t, ht⟩ : ∃ t, l[k]? = some t := ⟨_, List.getElem?_eq_getElem hlt⟩
  rw [ht] at h ⊢
  dsimp only at h ⊢
  have htk := hl.tok t (List.mem_of_getElem? ht)
  obtain ⟨x, r, hs, _⟩ := tok_facts htk
  obtain ⟨hz, hd⟩ := (tok_num htk).2.1 (by simpa using h)
  have hA := atoid_sp t.s (by rw [hs]; simp) hd hz
  generalize numL t.s.data.toList = n at *
  have j2 : (k : Int) < (l.length : Int) := by omega
  have j3 : (0 : Int) ≤ (k : Int) := by omega
  have e2 : IntKind.i64.wrap ((k : Int) + 1) = ((k + 1 : Nat) : Int) := by rw [IntWalk.i64_in _ (by omega)]; rfl
  (refine ei_ Tryz.func156 Tryz.ntmps156 Tryz.results156 fun X hX => ?_)
  refine gs_ ?_
  refine au_ an0 ?_
  (refine rn_ 0 an0 fun K hK => ?_; refine rx_ an0 ?_; refine lk_ 1000 an0 (hKi) ?_; refine rx_ an0 ?_; refine rwr_nil (hK _ ?_); clear hK K)
  refine au_ (an5 ht hlt j2 j3 e2) ?_
  exact oj_ an0 (.inl rfl)
 ·rw [List.getElem?_eq_none (by omega)] at h
  cases h
set_option maxHeartbeats 4000000 in
theorem pnumber_p (l : List Vl) (en : Int) (k : Nat) (h : kindP l 2 k = false) : SpPL Tryz.prog 156 [.one (.optr 1000 0)] 67 (paH l en k) (chP l en k) 26 := by
 intro vs hlen hone
 have hKi := pkind_l l en k 2
 have hF := pfail_l l en k
 rw [h] at hKi
 unfold paH at hKi hF ⊢
 (refine ep_ Tryz.func156 Tryz.ntmps156 fun X hX hpn => ?_)
 refine gs_ ?_
 refine au_ an0 ?_
 (refine rn_ 0 an0 fun K hK => ?_; refine rx_ an0 ?_; refine lk_ 1000 an0 (hKi) ?_; refine rx_ an0 ?_; refine rwr_nil (hK _ ?_); clear hK K)
 refine au_ an0 ?_
 (refine rn_ 0 an0 fun K hK => ?_; refine rx_ an0 ?_; exact pn_ 1000 an0 (hF) hpn)
end Go.Proofs.YtjdgejfhnfnmgaaGreatDoor.Ax
namespace Go.Proofs.YtjdgejfhnfnmgaaGreatDoor.Ax
open Go.RowKit Go.Sort
set_option linter.unusedSimpArgs false
attribute [local go_sem] ty3 ty4 ty9 ty5 ty26 ty77 ty43 ty67 ty65
set_option linter.unusedVariables false
set_option maxRecDepth 100000
def oneK (l : List Vl) (k : Nat) (L : List ByteArray) : Nat := cond (decide (oneP l k L 0 < 0)) k (k + 1)
theorem oneP_ge : ∀ {l : List Vl} {k : Nat} {L : List ByteArray} {i : Nat}, ¬ oneP l k L i = -1 → 0 ≤ oneP l k L i
 | l, k, [], i, h => absurd rfl h
 | l, k, s :: r, i, h => by
  unfold oneP at h ⊢
  split
  ·omega
  ·rename_i hn
   rw [if_neg hn] at h
   exact oneP_ge h
def idxI (l : List Vl) (en : Int) (L : List ByteArray) (vs : List Value) (k j : Nat) : St := ⟨[(8, litI .i64 j), (7, litI .i64 L.length), (0, .one (.t false (.sl (rS L)))), (1, .one (.fn (148 + 1024) [.optr 1000 0]))], [(1000, .var 67 (.t false (.sl (rVs l)) :: .t false (.lit (.int .i64 (k : Int))) :: .t false (.lit (.int .i64 en)) :: lits vs))]⟩
set_option maxHeartbeats 4000000 in
theorem pindex_io (l : List Vl) (hl : l.length ≤ 4000) (en : Int) (k : Nat) (L : List ByteArray) (hL : L.length ≤ 1000) (vs : List Value) (hlen : vs.length = 26) (hone : ∀ v ∈ vs, v.oneCell' = true) :
  SpIO Tryz.prog 136 [.one (.t false (.sl (rS L))), .one (.fn (148 + 1024) [.optr 1000 0])] [(1000, .var 67 (paH l en k ++ lits vs))] (.one (.t true (.lit (.int .i64 (oneP l k L 0))))) [(1000, .var 67 (paH l en (oneK l k L) ++ lits vs))] [1000] := by
 unfold oneK
 (refine ei_ Tryz.func136 Tryz.ntmps136 Tryz.results136 fun X hX => ?_)
 refine au_ an0 ?_
 refine cw_loop (fun m st => ∃ j, j ≤ L.length ∧ m = L.length - j ∧ oneP l k (L.drop j) j = oneP l k L 0 ∧ st = idxI l en L vs k j) L.length ⟨_, ⟨0, Nat.zero_le _, rfl, rfl, rfl⟩, by unfold idxI paH; exact le_⟩ ?_
 rintro m st ⟨j, hj, rfl, hf, rfl⟩
 unfold idxI
 by_cases hlt : j < L.length
 ·have e1 : decide ((j : Int) < (L.length : Int)) = true := by simp; omega
  obtain ⟨x, hx⟩ : ∃ x, L[j]? = some x := ⟨_, List.getElem?_eq_getElem hlt⟩
  have e4 : IntKind.i64.wrap ((j : Int) + 1) = ((j + 1 : Nat) : Int) := by rw [IntWalk.i64_in _ (by omega)]; rfl
  have j2 : (j : Int) < (L.length : Int) := by omega
  have j3 : (0 : Int) ≤ (j : Int) := by omega
  rw [drop_eq _ _ _ hx, oneP] at hf
  have hT := ptake_l l hl en k x
  cases hb : takeB l x k with
  | true =>
   rw [hb, takeK_t hb] at hT
   rw [if_pos hb] at hf
   rw [← hf, decide_eq_false (by omega), cond_false]
   unfold paH at hT ⊢
   refine au_ (an5 e1 hx hlt j2 j3) ?_
   (refine rn_ 0 (an4 hx hlt j2 j3) fun K hK => ?_; refine rx_ (an4 hx hlt j2 j3) ?_; refine lk_ 1000 (an4 hx hlt j2 j3) (hT) ?_; refine rx_ (an4 hx hlt j2 j3) ?_; refine rwr_nil (hK _ ?_); clear hK K)
   refine au_ an0 ?_
   exact oi_ an0 (.inl rfl)
  | false =>
   rw [hb, takeK_f hb] at hT
   rw [if_neg (by rw [hb]; decide)] at hf
   unfold paH at hT ⊢
   refine au_ (an5 e1 hx hlt j2 j3) ?_
   (refine rn_ 0 (an4 hx hlt j2 j3) fun K hK => ?_; refine rx_ (an4 hx hlt j2 j3) ?_; refine lk_ 1000 (an4 hx hlt j2 j3) (hT) ?_; refine rx_ (an4 hx hlt j2 j3) ?_; refine rwr_nil (hK _ ?_); clear hK K)
   refine au_ e4 ?_
   exact ⟨L.length - (j + 1), by omega, idxI l en L vs k (j + 1), ⟨j + 1, by omega, rfl, hf, rfl⟩, by unfold idxI; exact le_⟩
 ·have e1 : decide ((j : Int) < (L.length : Int)) = false := by simp; omega
  rw [List.drop_eq_nil_of_le (by omega), oneP] at hf
  rw [← hf, decide_eq_true (by omega), cond_true]
  unfold paH
  refine au_ e1 ?_
  exact oi_ an0 (.inl rfl)
set_option maxHeartbeats 4000000 in
theorem pindex_l (l : List Vl) (hl : l.length ≤ 4000) (en : Int) (k : Nat) (L : List ByteArray) (hL : L.length ≤ 1000) :
  SpL Tryz.prog 136 [.one (.t false (.sl (rS L))), .one (.fn (148 + 1024) [.optr 1000 0])] 67 (paH l en k) (.one (.t true (.lit (.int .i64 (oneP l k L 0))))) (paH l en (oneK l k L)) 26 :=
 fun vs hlen hone => pindex_io l hl en k L hL vs hlen hone
set_option maxHeartbeats 4000000 in
theorem pone_l (l : List Vl) (hl : l.length ≤ 4000) (en : Int) (k : Nat) (L : List ByteArray) (hL : L.length ≤ 1000) (h : ¬ oneP l k L 0 = -1) :
  SpL Tryz.prog 109 [.one (.optr 1000 0), .one (.t false (.sl (rS L)))] 67 (paH l en k) (.one (.t true (.lit (.int .i64 (oneP l k L 0))))) (paH l en (k + 1)) 26 := by
 intro vs hlen hone
 have hI := pindex_l l hl en k L hL
 have h0 := oneP_ge h
 unfold oneK at hI
 rw [decide_eq_false (by omega), cond_false] at hI
 generalize oneP l k L 0 = i at *
 have e1 : decide (i < 0) = false := by simp; omega
 unfold paH at hI ⊢
 (refine ei_ Tryz.func109 Tryz.ntmps109 Tryz.results109 fun X hX => ?_)
 refine gs_ ?_
 refine au_ an0 ?_
 (refine rn_ 0 an0 fun K hK => ?_; refine rx_ an0 ?_; refine lk_ 1000 an0 (hI) ?_; refine rx_ an0 ?_; refine rwr_nil (hK _ ?_); clear hK K)
 refine au_ e1 ?_
 exact oj_ an0 (.inl rfl)
set_option maxHeartbeats 4000000 in
theorem pone_p (l : List Vl) (hl : l.length ≤ 4000) (en : Int) (k : Nat) (L : List ByteArray) (hL : L.length ≤ 1000) (h : oneP l k L 0 = -1) :
  SpPL Tryz.prog 109 [.one (.optr 1000 0), .one (.t false (.sl (rS L)))] 67 (paH l en k) (chP l en k) 26 := by
 intro vs hlen hone
 have hI := pindex_l l hl en k L hL
 have hF := pfail_l l en k
 unfold oneK at hI
 rw [h, decide_eq_true (by decide), cond_true] at hI
 have e1 : decide ((-1 : Int) < 0) = true := by decide
 unfold paH at hI hF ⊢
 (refine ep_ Tryz.func109 Tryz.ntmps109 fun X hX hpn => ?_)
 refine gs_ ?_
 refine au_ an0 ?_
 (refine rn_ 0 an0 fun K hK => ?_; refine rx_ an0 ?_; refine lk_ 1000 an0 (hI) ?_; refine rx_ an0 ?_; refine rwr_nil (hK _ ?_); clear hK K)
 refine au_ e1 ?_
 (refine rn_ 0 an0 fun K hK => ?_; refine rx_ an0 ?_; exact pn_ 1000 an0 (hF) hpn)
end Go.Proofs.YtjdgejfhnfnmgaaGreatDoor.Ax
namespace Go.Proofs.YtjdgejfhnfnmgaaGreatDoor.Ax
open Go.RowKit
set_option linter.unusedSimpArgs false
attribute [local go_sem] ty3 ty4 ty9 ty5 ty24 ty77 ty43 ty69 ty101
set_option linter.unusedVariables false
set_option maxRecDepth 100000
def vV (v : Vl) : V := .agg [.t true (.lit (.int .i64 v.k)), .t true (.lit (.int .i64 v.n)), .t true (.lit (.string v.s))]
end Go.Proofs.YtjdgejfhnfnmgaaGreatDoor.Ax
