/-  -/
import Derived.Test.YtjdgejfhnfnmgaaGreatDoorAxW
import Derived.Test.YtjdgejfhnfnmgaaGreatDoorAxSh5
import Derived.Test.YtjdgejfhnfnmgaaGreatDoorM23
namespace Go.Proofs.YtjdgejfhnfnmgaaGreatDoor.Ax
open Go.RowKit
set_option linter.unusedSimpArgs false
attribute [local go_sem] ty3 ty4 ty9 ty5 ty26 ty54 ty22 ty24 ty25
set_option linter.unusedVariables false
set_option maxRecDepth 100000
theorem rdRows_strs {w : World} {ok : Nat → Prop} {s b : Nat} : ∀ {l : List ByteArray} {o : Nat}, RdRows w ok s b o (rS l) → ∀ (j : Nat) x, l[j]? = some x → w.cell? ⟨b, o + j, none⟩ = some (.string x)
 | [], _, _, _, _, hx => by cases hx
 | y :: l, o, h, j, x, hx => by
  unfold rS at h
  rw [List.map_cons] at h
  unfold RdRows at h
  obtain ⟨h1, h2, h3⟩ := h
  have hs : s = 1 := h1.symm
  subst hs
  cases j with
  | zero =>
   obtain rfl : y = x := by simpa using hx
   unfold RdRow at h2
   obtain ⟨⟨v, h4, h5⟩, _⟩ := h2
   unfold RdT at h5
   rw [← h5.1]
   exact h4
  | succ j =>
   have := rdRows_strs (l := l) h3 j x (by simpa using hx)
   rwa [show o + (j + 1) = o + 1 + j by omega]
theorem join_sp (l : List ByteArray) (hl : l.length ≤ 140737488355328) (hz : (commaL l).length ≤ 140737488355328) : Sp Tryz.prog 55 [.one (.sl (rS l)), .one (.lit (.string ⟨#[44, 32]⟩))] (.one (.t true (.lit (.string (bs (commaL l)))))) [] where
 enters := enters_of Tryz.func55 (by kernel_rfl) rfl
 calls w S hS vs hG hvs := by
  match vs, hvs with
  | [x, y], hvs =>
   unfold RdAs RdA RdT at hvs
   obtain ⟨⟨A, n, c, rfl, h1, h2, h3⟩, hvs⟩ := hvs
   unfold RdAs RdA RdT at hvs
   obtain ⟨⟨rfl, _⟩, _⟩ := hvs
   have h1' : l.length = n := by rw [← h1]; unfold rS; rw [List.length_map]
   subst h1'
   have key : ∀ e w', (e = .returned (.string (bs (commaL l))) ∧ Below w.heap.size w w') → Post w S hS (.one (.t true (.lit (.string (bs (commaL l)))))) [] e w' := by
    rintro e w' ⟨rfl, hb⟩
    exact ⟨_, deadR, rfl, hb, (by intro _ _ _ h; cases h), (by intro _ _ _ _ _ h; cases h), fun _ _ => rfl, rd_lit rfl, (by intro _ _ h; cases h)⟩
   by_cases h0 : l.length = 0
   ·have hl0 : l = [] := List.length_eq_zero_iff.1 h0
    subst hl0
    refine (Tryz.strings_Join_none A c ⟨#[44, 32]⟩ w).mono fun e w' => ?_
    rintro ⟨rfl, rfl⟩
    exact key _ _ ⟨rfl, Below.refl _ _⟩
   ·obtain ⟨b, o, s, rfl, hok, hr⟩ := h3.resolve_left h0
    refine (Tryz.strings_Join b o c l ⟨#[44, 32]⟩ w (rdRows_strs hr) (hS b hok) hl h2 hz).mono fun e w' => ?_
    rintro ⟨rfl, hb⟩
    exact key _ _ ⟨rfl, hb⟩
theorem colfn_sp (x : Col) (hx : x.name.size ≤ 2000 ∧ 1 ≤ x.ty ∧ x.ty ≤ 3) : Sp Tryz.prog 101 [.agg (rC1 x)] (.one (.t true (.lit (.string (colT x))))) [] := by
 have hK := skind_sp x.ty hx.2.1 hx.2.2
 have hk := kindT_small x.ty
 have f1 : x.name.size + 1 ≤ maxLen := by unfold maxLen; omega
 have f2 : x.name.size + 1 + (kindT x.ty).size ≤ maxLen := by unfold maxLen; omega
 unfold colT
 generalize kindT x.ty = t at *
 (refine en_ Tryz.func101 Tryz.ntmps101 Tryz.results101 fun X hX => ?_)
 refine au_ (an2 f1 f2) ?_
 exact oq_ an0
set_option maxHeartbeats 4000000 in
theorem listCol_sp (l : List Col) (hl : l.length ≤ 5) (hok : ∀ x ∈ l, x.name.size ≤ 2000 ∧ 1 ≤ x.ty ∧ x.ty ≤ 3) (hz : (commaL (l.map colT)).length ≤ 1000000) :
  Sp Tryz.prog 100 [.one (.sl (rCs l)), .one (.fn 101 [])] (.one (.t true (.lit (.string (listT (l.map colT)))))) [] := by
 (refine en_ Tryz.func100 Tryz.ntmps100 Tryz.results100 fun X hX => ?_)
 refine au_ an0 ?_
 refine cw_grow 5 19 9 1 rfl ?_
 refine cw_loop (fun m st => ∃ (k : Nat) (u : List ByteArray), k ≤ l.length ∧ m = l.length - k ∧ u = (l.take k).map colT ∧ st = ⟨[(10, litI .i64 k), (9, litI .i64 l.length), (8, .one (.t false (.sl (rCs l)))), (5, .one (.own 19 u.length)), (0, .one (.t false (.sl (rCs l)))), (1, .one (.t false (.fn 101 [])))], [(19, .arr 9 1 true (rS u))]⟩) l.length ⟨_, ⟨0, [], Nat.zero_le _, rfl, rfl, rfl⟩, by simp only [growSt]; exact le_⟩ ?_
 rintro m st ⟨k, u, hk, rfl, hu, rfl⟩
 by_cases hlt : k < l.length
 ·have z1 : decide ((k : Int) < (l.length : Int)) = true := by simp; omega
  obtain ⟨x, hx⟩ : ∃ x, l[k]? = some x := ⟨_, List.getElem?_eq_getElem hlt⟩
  have z4 : IntKind.i64.wrap ((k : Int) + 1) = ((k + 1 : Nat) : Int) := by rw [IntWalk.i64_in _ (by omega)]; rfl
  have j2 : (k : Int) < (l.length : Int) := by omega
  have j3 : (0 : Int) ≤ (k : Int) := by omega
  have hF := colfn_sp x (hok x (List.mem_of_getElem? hx))
  have hn : u ++ [colT x] = (l.take (k + 1)).map colT := by
   obtain ⟨h1, rfl⟩ := List.getElem?_eq_some_iff.1 hx
   rw [hu, List.take_succ_eq_append_getElem h1, List.map_append]
   rfl
  have hul : u.length ≤ 5 := by rw [hu, List.length_map, List.length_take]; omega
  have f1 : u.length + 1 ≤ maxLen := by unfold maxLen; omega
  have f2 : (u.length + 1) * 16 ≤ 140737488355328 := by omega
  have f3 : (u.map fun s => [T.lit (.string s)]) ++ [[T.lit (.string (colT x))]] = (u ++ [colT x]).map fun s => [T.lit (.string s)] := by rw [List.map_append]; rfl
  have f4 : (u ++ [colT x]).length = u.length + 1 := by rw [List.length_append]; rfl
  generalize hun : u ++ [colT x] = un at *
  generalize colT x = tx at *
  refine au_ (an2 (an7 z1 hx hlt j2 j3 f1 f2) z4) ?_
  exact ⟨l.length - (k + 1), by omega, _, ⟨k + 1, un, by omega, rfl, hn, rfl⟩, lf_ (an2 f3 f4)⟩
 ·obtain rfl : k = l.length := by omega
  have z1 : decide ((l.length : Int) < (l.length : Int)) = false := by simp
  rw [List.take_length] at hu
  rw [← hu] at hz ⊢
  have hul : u.length ≤ 5 := by rw [hu, List.length_map]; omega
  have hJ := join_sp u (by omega) (by omega)
  have hbz : (bs (commaL u)).size = (commaL u).length := bs_size _
  have f1 : 1 + (bs (commaL u)).size ≤ maxLen := by unfold maxLen; omega
  have f2 : 1 + (bs (commaL u)).size + 1 ≤ maxLen := by unfold maxLen; omega
  unfold listT
  generalize bs (commaL u) = js at *
  refine au_ (an3 z1 f1 f2) ?_
  exact oq_ an0
set_option maxHeartbeats 4000000 in
theorem listVl_sp (l : List Vl) (hl : l.length ≤ 5) (hok : ∀ x ∈ l, x.chk = 0) (hz : (commaL (l.map valT)).length ≤ 1000000) :
  Sp Tryz.prog 104 [.one (.sl (rVs l)), .one (.fn 103 [])] (.one (.t true (.lit (.string (listT (l.map valT)))))) [] := by
 (refine en_ Tryz.func104 Tryz.ntmps104 Tryz.results104 fun X hX => ?_)
 refine au_ an0 ?_
 refine cw_grow 5 19 9 1 rfl ?_
 refine cw_loop (fun m st => ∃ (k : Nat) (u : List ByteArray), k ≤ l.length ∧ m = l.length - k ∧ u = (l.take k).map valT ∧ st = ⟨[(10, litI .i64 k), (9, litI .i64 l.length), (8, .one (.t false (.sl (rVs l)))), (5, .one (.own 19 u.length)), (0, .one (.t false (.sl (rVs l)))), (1, .one (.t false (.fn 103 [])))], [(19, .arr 9 1 true (rS u))]⟩) l.length ⟨_, ⟨0, [], Nat.zero_le _, rfl, rfl, rfl⟩, by simp only [growSt]; exact le_⟩ ?_
 rintro m st ⟨k, u, hk, rfl, hu, rfl⟩
 by_cases hlt : k < l.length
 ·have z1 : decide ((k : Int) < (l.length : Int)) = true := by simp; omega
  obtain ⟨x, hx⟩ : ∃ x, l[k]? = some x := ⟨_, List.getElem?_eq_getElem hlt⟩
  have z4 : IntKind.i64.wrap ((k : Int) + 1) = ((k + 1 : Nat) : Int) := by rw [IntWalk.i64_in _ (by omega)]; rfl
  have j2 : (k : Int) < (l.length : Int) := by omega
  have j3 : (0 : Int) ≤ (k : Int) := by omega
  have hF := sval_sp x (hok x (List.mem_of_getElem? hx))
  have hn : u ++ [valT x] = (l.take (k + 1)).map valT := by
   obtain ⟨h1, rfl⟩ := List.getElem?_eq_some_iff.1 hx
   rw [hu, List.take_succ_eq_append_getElem h1, List.map_append]
   rfl
  have hul : u.length ≤ 5 := by rw [hu, List.length_map, List.length_take]; omega
  have f1 : u.length + 1 ≤ maxLen := by unfold maxLen; omega
  have f2 : (u.length + 1) * 16 ≤ 140737488355328 := by omega
  have f3 : (u.map fun s => [T.lit (.string s)]) ++ [[T.lit (.string (valT x))]] = (u ++ [valT x]).map fun s => [T.lit (.string s)] := by rw [List.map_append]; rfl
  have f4 : (u ++ [valT x]).length = u.length + 1 := by rw [List.length_append]; rfl
  generalize hun : u ++ [valT x] = un at *
  generalize valT x = tx at *
  refine au_ (an2 (an7 z1 hx hlt j2 j3 f1 f2) z4) ?_
  exact ⟨l.length - (k + 1), by omega, _, ⟨k + 1, un, by omega, rfl, hn, rfl⟩, lf_ (an2 f3 f4)⟩
 ·obtain rfl : k = l.length := by omega
  have z1 : decide ((l.length : Int) < (l.length : Int)) = false := by simp
  rw [List.take_length] at hu
  rw [← hu] at hz ⊢
  have hul : u.length ≤ 5 := by rw [hu, List.length_map]; omega
  have hJ := join_sp u (by omega) (by omega)
  have hbz : (bs (commaL u)).size = (commaL u).length := bs_size _
  have f1 : 1 + (bs (commaL u)).size ≤ maxLen := by unfold maxLen; omega
  have f2 : 1 + (bs (commaL u)).size + 1 ≤ maxLen := by unfold maxLen; omega
  unfold listT
  generalize bs (commaL u) = js at *
  refine au_ (an3 z1 f1 f2) ?_
  exact oq_ an0
end Go.Proofs.YtjdgejfhnfnmgaaGreatDoor.Ax
namespace Go.Proofs.YtjdgejfhnfnmgaaGreatDoor.Ax
open Go.RowKit
set_option linter.unusedSimpArgs false
attribute [local go_sem] ty3 ty4 ty9 ty5 ty26 ty54 ty22 ty24 ty25 ty27 ty29 ty31 ty91 ty85 prnNew prnUsed rowW
set_option linter.unusedVariables false
set_option maxRecDepth 100000
def vCm (c : Cm) : V := .agg ((rCm c).map (.t false))
def wWhere : ByteArray := ⟨#[119, 104, 101, 114, 101]⟩
def whereW (c : Cm) (tw : ByteArray) : List ByteArray := if c.all = true then [] else [wWhere, tw]
set_option maxHeartbeats 4000000 in
theorem where_all (s : List UInt8) (c : Cm) (ha : c.all = true) :
  SpIO Tryz.prog 105 [.one (.optr 1000 0), vCm c] [(1000, prnUsed 1000 1001 s.length), (1001, rowW (strRows (bs s)))] (.tup []) [(1000, prnUsed 1000 1001 s.length), (1001, rowW (strRows (bs s)))] [1000] := by
 obtain ⟨k, name, other, column, cols, ty, v, vals, fields, ⟨k1, v1, n1, a1⟩, all, ⟨k2, v2, n2, a2⟩, order, limit⟩ := c
 dsimp only at ha
 subst ha
 unfold vCm
 rw [rCm_mk]
 (refine ei_ Tryz.func105 Tryz.ntmps105 Tryz.results105 fun X hX => ?_)
 refine au_ an0 ?_
 exact oi_ an0 (.inr rfl)
set_option maxHeartbeats 4000000 in
theorem where_ex (s : List UInt8) (c : Cm) (ha : c.all = false) (g : Gx) (hg : g.ex = c.wh) (hok : g.ok) (hz : (gT g).size ≤ 30300) (h0 : 0 < s.length) (hs : s.length ≤ 1000000000) :
  SpIO Tryz.prog 105 [.one (.optr 1000 0), vCm c] [(1000, prnUsed 1000 1001 s.length), (1001, rowW (strRows (bs s)))] (.tup []) [(1000, prnUsed 1000 12 (s ++ wordsT [wWhere, gT g]).length), (12, rowW (strRows (bs (s ++ wordsT [wWhere, gT g]))))] [1000] := by
 have hE := sexpr_sp g hok (by unfold maxLen; omega)
 have hW := words_used s [wWhere, gT g] h0 hs (fun y hy => by
  rcases List.mem_cons.1 hy with rfl | hy
  ·decide
  ·rw [List.mem_singleton.1 hy]; omega) (by show 2 ≤ 1000; decide) (by show ¬ 2 = 0; decide)
 obtain ⟨k, name, other, column, cols, ty, v, vals, fields, ⟨k1, v1, n1, a1⟩, all, ⟨k2, v2, n2, a2⟩, order, limit⟩ := c
 dsimp only at ha hg
 subst ha
 rw [hg, rE_mk] at hE
 generalize gT g = tw at *
 generalize s ++ wordsT [wWhere, tw] = un at *
 unfold vCm
 rw [rCm_mk]
 unfold wWhere at hW
 (refine ei_ Tryz.func105 Tryz.ntmps105 Tryz.results105 fun X hX => ?_)
 refine au_ an0 ?_
 (refine rn_ 8 an0 fun K hK => ?_; refine rr_ an0 ?_)
 (refine ca_ an0 ?_ (hsp := hE); refine rr_ an0 ?_)
 (refine rwr_io 40 (SpIO.ren (hW) [(1000, 1000), (1001, 1001), (25, 12)] rfl) rfl rfl (by simp only [go_sem, Nat.reduceAdd, Nat.reduceSub, Nat.reduceMul, Nat.reduceLT, Nat.reduceLeDiff, Nat.reduceEqDiff, Nat.reduceBEq, Int.reduceToNat, Int.reduceLE, Int.reduceLT, Int.reduceEq, Int.reduceBEq, Int.reduceBNe, ↓reduceIte, reduceCtorEq, prnNew, prnUsed, rowW, hX]; exact rfl) (by simp only [go_sem, Nat.reduceAdd, Nat.reduceSub, Nat.reduceMul, Nat.reduceLT, Nat.reduceLeDiff, Nat.reduceEqDiff, Nat.reduceBEq, Int.reduceToNat, Int.reduceLE, Int.reduceLT, Int.reduceEq, Int.reduceBEq, Int.reduceBNe, ↓reduceIte, reduceCtorEq, prnNew, prnUsed, rowW, hX]) (by simp only [go_sem, Nat.reduceAdd, Nat.reduceSub, Nat.reduceMul, Nat.reduceLT, Nat.reduceLeDiff, Nat.reduceEqDiff, Nat.reduceBEq, Int.reduceToNat, Int.reduceLE, Int.reduceLT, Int.reduceEq, Int.reduceBEq, Int.reduceBNe, ↓reduceIte, reduceCtorEq, prnNew, prnUsed, rowW, hX]) (by simp only [go_sem, Nat.reduceAdd, Nat.reduceSub, Nat.reduceMul, Nat.reduceLT, Nat.reduceLeDiff, Nat.reduceEqDiff, Nat.reduceBEq, Int.reduceToNat, Int.reduceLE, Int.reduceLT, Int.reduceEq, Int.reduceBEq, Int.reduceBNe, ↓reduceIte, reduceCtorEq, prnNew, prnUsed, rowW, hX]) (by simp only [go_sem, Nat.reduceAdd, Nat.reduceSub, Nat.reduceMul, Nat.reduceLT, Nat.reduceLeDiff, Nat.reduceEqDiff, Nat.reduceBEq, Int.reduceToNat, Int.reduceLE, Int.reduceLT, Int.reduceEq, Int.reduceBEq, Int.reduceBNe, ↓reduceIte, reduceCtorEq, prnNew, prnUsed, rowW, hX]) rfl (by rw [hX]; rfl) ?_; simp only [go_sem, Nat.reduceAdd, Nat.reduceSub, Nat.reduceMul, Nat.reduceLT, Nat.reduceLeDiff, Nat.reduceEqDiff, Nat.reduceBEq, Int.reduceToNat, Int.reduceLE, Int.reduceLT, Int.reduceEq, Int.reduceBEq, Int.reduceBNe, ↓reduceIte, reduceCtorEq, prnNew, prnUsed, rowW, hX])
 ((first | refine rwr_nil (hK _ ?_) | refine de_ (hK _ ?_)); clear hK K)
 exact oi_ an0 (.inr rfl)
theorem where_io (s : List UInt8) (c : Cm) (hw : c.all = false → ∃ g : Gx, g.ex = c.wh ∧ g.ok ∧ (gT g).size ≤ 30300) (h0 : 0 < s.length) (hs : s.length ≤ 1000000000) :
  ∃ tw : ByteArray, (c.all = false → ∃ g : Gx, g.ex = c.wh ∧ g.ok ∧ (gT g).size ≤ 30300 ∧ tw = gT g) ∧ tw.size ≤ 30300 ∧
  SpIO Tryz.prog 105 [.one (.optr 1000 0), vCm c] [(1000, prnUsed 1000 1001 s.length), (1001, rowW (strRows (bs s)))] (.tup []) [(1000, prnUsed 1000 1001 (s ++ wordsT (whereW c tw)).length), (1001, rowW (strRows (bs (s ++ wordsT (whereW c tw)))))] [1000] := by
 cases ha : c.all with
 | true =>
  refine ⟨.empty, (fun h => by cases h), by decide, ?_⟩
  unfold whereW
  rw [if_pos ha]
  show SpIO _ _ _ _ _ [(1000, prnUsed 1000 1001 (s ++ []).length), (1001, rowW (strRows (bs (s ++ []))))] _
  rw [List.append_nil]
  exact where_all s c ha
 | false =>
  obtain ⟨g, hg, hok, hz⟩ := hw ha
  refine ⟨gT g, fun _ => ⟨g, hg, hok, hz, rfl⟩, hz, ?_⟩
  unfold whereW
  rw [if_neg (by rw [ha]; decide)]
  exact (where_ex s c ha g hg hok hz h0 hs).reout [(1000, 1000), (12, 1001)] rfl
theorem words_use (s : List UInt8) (L : List ByteArray) (h0 : 0 < s.length) (hs : s.length ≤ 1000000000) (hl : ∀ y ∈ L, y.size ≤ 100000) (hn : L.length ≤ 1000) (hL : ¬ L.length = 0) :
  SpIO Tryz.prog 99 [.one (.optr 1000 0), .one (.t false (.sl (rS L)))] [(1000, prnUsed 1000 1001 s.length), (1001, rowW (strRows (bs s)))] (.tup []) [(1000, prnUsed 1000 1001 (s ++ wordsT L).length), (1001, rowW (strRows (bs (s ++ wordsT L))))] [1000] :=
 (words_used s L h0 hs hl hn hL).reout [(1000, 1000), (25, 1001)] rfl
def wSelect : ByteArray := ⟨#[115, 101, 108, 101, 99, 116]⟩
def wFrom : ByteArray := ⟨#[102, 114, 111, 109]⟩
def wOrder : ByteArray := ⟨#[111, 114, 100, 101, 114]⟩
def wBy : ByteArray := ⟨#[98, 121]⟩
def wLimit : ByteArray := ⟨#[108, 105, 109, 105, 116]⟩
def emptyT (s : ByteArray) : Bool := s.toList == (⟨#[]⟩ : ByteArray).toList
def fieldsT (c : Cm) : ByteArray := if 0 < c.fields.length then bs (commaL c.fields) else ⟨#[42]⟩
def orderW (c : Cm) : List ByteArray := if emptyT c.order = true then [] else [wOrder, wBy, c.order]
def limitW (c : Cm) : List ByteArray := if 0 ≤ c.limit then [wLimit, digS c.limit] else []
set_option maxHeartbeats 8000000 in
theorem selects_io (c : Cm) (hr : Rt c) (hk : c.k = 13) (hf : (commaL c.fields).length ≤ 20000) : ∃ tw : ByteArray, (c.all = false → ∃ g : Gx, g.ex = c.wh ∧ g.ok ∧ (gT g).size ≤ 30300 ∧ tw = gT g) ∧ tw.size ≤ 30300 ∧ ∃ un : List UInt8, un = textW [wSelect, fieldsT c, wFrom, c.name] ++ wordsT (whereW c tw) ++ wordsT (orderW c) ++ wordsT (limitW c) ∧
  SpIO Tryz.prog 107 [.one (.optr 1000 0), vCm c] [(1000, prnNew)] (.tup []) [(1000, prnUsed 1000 17 un.length), (17, rowW (strRows (bs un)))] [1000] := by
 have hJ := join_sp c.fields (by have := hr.fields; omega) (by omega)
 have hfz : (fieldsT c).size ≤ 20000 := by
  unfold fieldsT
  split
  ·rw [bs_size]; exact hf
  ·decide
 have hW0 := words_new wSelect [fieldsT c, wFrom, c.name] (by decide) (fun y hy => by
  simp only [List.mem_cons, List.not_mem_nil, or_false] at hy
  have := hr.name
  rcases hy with rfl | rfl | rfl | rfl
  ·decide
  ·omega
  ·decide
  ·omega) (by show 4 ≤ 1000; decide)
 obtain ⟨s0, hs0⟩ : ∃ s0, s0 = textW [wSelect, fieldsT c, wFrom, c.name] := ⟨_, rfl⟩
 rw [← hs0] at hW0
 have hb0 : 0 < s0.length ∧ s0.length ≤ 30000 := by
  have h1 := hr.name
  have h2 : s0.length = 6 + (1 + ((fieldsT c).size + (1 + (4 + (1 + c.name.size))))) := by
   rw [hs0]
   simp only [textW, wordsT, List.length_append, List.length_cons, List.length_nil]
   show 6 + ((fieldsT c).size + ((4 + ((c.name.size + 0) + 1)) + 1) + 1) = _
   omega
  omega
 obtain ⟨tw, htw, htz, hWh⟩ := where_io s0 c (hr.wh (by rw [hk]; rfl)) hb0.1 (by omega)
 refine ⟨tw, htw, htz, _, rfl, ?_⟩
 clear htw
 rw [← hs0]
 obtain ⟨s1, hs1⟩ : ∃ s1, s1 = s0 ++ wordsT (whereW c tw) := ⟨_, rfl⟩
 rw [← hs1] at hWh ⊢
 have hb1 : 0 < s1.length ∧ s1.length ≤ 70000 := by
  have : (wordsT (whereW c tw)).length ≤ 31000 := by
   unfold whereW
   split
   ·exact Nat.zero_le _
   ·simp only [wordsT, List.length_append, List.length_cons, List.length_nil]
    show 5 + ((tw.size + 0) + 1) + 1 ≤ 31000
    omega
  rw [hs1, List.length_append]
  omega
 have hO := words_use s1 [wOrder, wBy, c.order] hb1.1 (by omega) (fun y hy => by
  simp only [List.mem_cons, List.not_mem_nil, or_false] at hy
  have := hr.order
  rcases hy with rfl | rfl | rfl
  ·decide
  ·decide
  ·omega) (by show 3 ≤ 1000; decide) (by show ¬ 3 = 0; decide)
 obtain ⟨s2, hs2⟩ : ∃ s2, s2 = s1 ++ wordsT (orderW c) := ⟨_, rfl⟩
 rw [← hs2]
 have hb2 : 0 < s2.length ∧ s2.length ≤ 80000 := by
  have : (wordsT (orderW c)).length ≤ 3000 := by
   have := hr.order
   unfold orderW
   split
   ·exact Nat.zero_le _
   ·simp only [wordsT, List.length_append, List.length_cons, List.length_nil]
    show 5 + (2 + ((c.order.size + 0) + 1) + 1) + 1 ≤ 3000
    omega
  rw [hs2, List.length_append]
  omega
 have hdz := digS_size c.limit (by have := hr.limit; omega) (by have := hr.limit; omega)
 have hD := itoa_sp c.limit (by have := hr.limit; omega) (by have := hr.limit; omega)
 have hLi := words_use s2 [wLimit, digS c.limit] hb2.1 (by omega) (fun y hy => by
  simp only [List.mem_cons, List.not_mem_nil, or_false] at hy
  rcases hy with rfl | rfl
  ·decide
  ·omega) (by show 2 ≤ 1000; decide) (by show ¬ 2 = 0; decide)
 clear hb0 hb1 hb2 hs0 hs1
 unfold orderW at hs2
 unfold limitW
 unfold fieldsT at hW0
 clear hfz hr hdz htz hf
 obtain ⟨k, name, other, column, cols, ty, v, vals, fields, ⟨k1, v1, n1, a1⟩, all, ⟨k2, v2, n2, a2⟩, order, limit⟩ := c
 dsimp only at *
 clear hk
 generalize digS limit = dl at *
 generalize bs (commaL fields) = jf at *
 unfold vCm at hWh ⊢
 rw [rCm_mk] at hWh ⊢
 unfold wSelect wFrom at hW0
 unfold wOrder wBy at hO
 unfold wLimit at hLi
 (refine ei_ Tryz.func107 Tryz.ntmps107 Tryz.results107 fun X hX => ?_)
 refine au_ an0 ?_
 refine cw_meetn ⟨[(4, .one (.t true (.lit (.string (if 0 < fields.length then jf else ⟨#[42]⟩))))), (3, .one (.optr 3 0)), (0, .one (.optr 1000 0))], [(1000, prnNew), (3, .var 31 [.t false (.lit (.int .i64 k)), .t false (.lit (.string name)), .t false (.lit (.string other)), .t false (.lit (.string column)), .t false (.sl (rCs cols)), .t false (.lit (.int .i64 ty)), .t false (.lit (.int .i64 v.k)), .t false (.lit (.int .i64 v.n)), .t false (.lit (.string v.s)), .t false (.sl (rVs vals)), .t false (.sl (rS fields)), .t false (.lit (.int .i64 k1)), .t false (.lit (.int .i64 v1.k)), .t false (.lit (.int .i64 v1.n)), .t false (.lit (.string v1.s)), .t false (.lit (.string n1)), .t false (.sl (a1.map rE)), .t false (.lit (.bool all)), .t false (.lit (.int .i64 k2)), .t false (.lit (.int .i64 v2.k)), .t false (.lit (.int .i64 v2.n)), .t false (.lit (.string v2.s)), .t false (.lit (.string n2)), .t false (.sl (a2.map rE)), .t false (.lit (.string order)), .t false (.lit (.int .i64 limit))])]⟩ ?_ ?_
 ·refine cw_cond rfl (fun hp => ?_) (fun hp => ?_)
  ·rw [if_pos (by have := of_decide_eq_true hp; omega)]
   refine au_ an0 ?_
   exact le_
  ·rw [if_neg (by have := of_decide_eq_false hp; omega)]
   refine au_ an0 ?_
   exact le_
 generalize (if 0 < fields.length then jf else ⟨#[42]⟩ : ByteArray) = ft at *
 refine gs_ ?_
 (refine rn_ 8 an0 fun K hK => ?_; refine rr_ an0 ?_)
 (refine rwr_io 40 (SpIO.ren (hW0) [(1000, 1000), (25, 17)] rfl) rfl rfl (by simp only [go_sem, Nat.reduceAdd, Nat.reduceSub, Nat.reduceMul, Nat.reduceLT, Nat.reduceLeDiff, Nat.reduceEqDiff, Nat.reduceBEq, Int.reduceToNat, Int.reduceLE, Int.reduceLT, Int.reduceEq, Int.reduceBEq, Int.reduceBNe, ↓reduceIte, reduceCtorEq, prnNew, prnUsed, rowW, hX]; exact rfl) (by simp only [go_sem, Nat.reduceAdd, Nat.reduceSub, Nat.reduceMul, Nat.reduceLT, Nat.reduceLeDiff, Nat.reduceEqDiff, Nat.reduceBEq, Int.reduceToNat, Int.reduceLE, Int.reduceLT, Int.reduceEq, Int.reduceBEq, Int.reduceBNe, ↓reduceIte, reduceCtorEq, prnNew, prnUsed, rowW, hX]) (by simp only [go_sem, Nat.reduceAdd, Nat.reduceSub, Nat.reduceMul, Nat.reduceLT, Nat.reduceLeDiff, Nat.reduceEqDiff, Nat.reduceBEq, Int.reduceToNat, Int.reduceLE, Int.reduceLT, Int.reduceEq, Int.reduceBEq, Int.reduceBNe, ↓reduceIte, reduceCtorEq, prnNew, prnUsed, rowW, hX]) (by simp only [go_sem, Nat.reduceAdd, Nat.reduceSub, Nat.reduceMul, Nat.reduceLT, Nat.reduceLeDiff, Nat.reduceEqDiff, Nat.reduceBEq, Int.reduceToNat, Int.reduceLE, Int.reduceLT, Int.reduceEq, Int.reduceBEq, Int.reduceBNe, ↓reduceIte, reduceCtorEq, prnNew, prnUsed, rowW, hX]) (by simp only [go_sem, Nat.reduceAdd, Nat.reduceSub, Nat.reduceMul, Nat.reduceLT, Nat.reduceLeDiff, Nat.reduceEqDiff, Nat.reduceBEq, Int.reduceToNat, Int.reduceLE, Int.reduceLT, Int.reduceEq, Int.reduceBEq, Int.reduceBNe, ↓reduceIte, reduceCtorEq, prnNew, prnUsed, rowW, hX]) rfl (by rw [hX]; rfl) ?_; simp only [go_sem, Nat.reduceAdd, Nat.reduceSub, Nat.reduceMul, Nat.reduceLT, Nat.reduceLeDiff, Nat.reduceEqDiff, Nat.reduceBEq, Int.reduceToNat, Int.reduceLE, Int.reduceLT, Int.reduceEq, Int.reduceBEq, Int.reduceBNe, ↓reduceIte, reduceCtorEq, prnNew, prnUsed, rowW, hX])
 ((first | refine rwr_nil (hK _ ?_) | refine de_ (hK _ ?_)); clear hK K)
 refine gs_ ?_
 (refine rn_ 8 an0 fun K hK => ?_; refine rr_ an0 ?_)
 (refine rwr_io 40 (SpIO.ren (hWh) [(1000, 1000), (1001, 17)] rfl) rfl rfl (by simp only [go_sem, Nat.reduceAdd, Nat.reduceSub, Nat.reduceMul, Nat.reduceLT, Nat.reduceLeDiff, Nat.reduceEqDiff, Nat.reduceBEq, Int.reduceToNat, Int.reduceLE, Int.reduceLT, Int.reduceEq, Int.reduceBEq, Int.reduceBNe, ↓reduceIte, reduceCtorEq, prnNew, prnUsed, rowW, hX]; exact rfl) (by simp only [go_sem, Nat.reduceAdd, Nat.reduceSub, Nat.reduceMul, Nat.reduceLT, Nat.reduceLeDiff, Nat.reduceEqDiff, Nat.reduceBEq, Int.reduceToNat, Int.reduceLE, Int.reduceLT, Int.reduceEq, Int.reduceBEq, Int.reduceBNe, ↓reduceIte, reduceCtorEq, prnNew, prnUsed, rowW, hX]) (by simp only [go_sem, Nat.reduceAdd, Nat.reduceSub, Nat.reduceMul, Nat.reduceLT, Nat.reduceLeDiff, Nat.reduceEqDiff, Nat.reduceBEq, Int.reduceToNat, Int.reduceLE, Int.reduceLT, Int.reduceEq, Int.reduceBEq, Int.reduceBNe, ↓reduceIte, reduceCtorEq, prnNew, prnUsed, rowW, hX]) (by simp only [go_sem, Nat.reduceAdd, Nat.reduceSub, Nat.reduceMul, Nat.reduceLT, Nat.reduceLeDiff, Nat.reduceEqDiff, Nat.reduceBEq, Int.reduceToNat, Int.reduceLE, Int.reduceLT, Int.reduceEq, Int.reduceBEq, Int.reduceBNe, ↓reduceIte, reduceCtorEq, prnNew, prnUsed, rowW, hX]) (by simp only [go_sem, Nat.reduceAdd, Nat.reduceSub, Nat.reduceMul, Nat.reduceLT, Nat.reduceLeDiff, Nat.reduceEqDiff, Nat.reduceBEq, Int.reduceToNat, Int.reduceLE, Int.reduceLT, Int.reduceEq, Int.reduceBEq, Int.reduceBNe, ↓reduceIte, reduceCtorEq, prnNew, prnUsed, rowW, hX]) rfl (by rw [hX]; rfl) ?_; simp only [go_sem, Nat.reduceAdd, Nat.reduceSub, Nat.reduceMul, Nat.reduceLT, Nat.reduceLeDiff, Nat.reduceEqDiff, Nat.reduceBEq, Int.reduceToNat, Int.reduceLE, Int.reduceLT, Int.reduceEq, Int.reduceBEq, Int.reduceBNe, ↓reduceIte, reduceCtorEq, prnNew, prnUsed, rowW, hX])
 ((first | refine rwr_nil (hK _ ?_) | refine de_ (hK _ ?_)); clear hK K)
 refine au_ an0 ?_
 refine cw_meetn ⟨[(3, .one (.optr 3 0)), (0, .one (.optr 1000 0))], [(1000, prnUsed 1000 17 s2.length), (17, rowW (strRows (bs s2))), (3, .var 31 [.t false (.lit (.int .i64 k)), .t false (.lit (.string name)), .t false (.lit (.string other)), .t false (.lit (.string column)), .t false (.sl (rCs cols)), .t false (.lit (.int .i64 ty)), .t false (.lit (.int .i64 v.k)), .t false (.lit (.int .i64 v.n)), .t false (.lit (.string v.s)), .t false (.sl (rVs vals)), .t false (.sl (rS fields)), .t false (.lit (.int .i64 k1)), .t false (.lit (.int .i64 v1.k)), .t false (.lit (.int .i64 v1.n)), .t false (.lit (.string v1.s)), .t false (.lit (.string n1)), .t false (.sl (a1.map rE)), .t false (.lit (.bool all)), .t false (.lit (.int .i64 k2)), .t false (.lit (.int .i64 v2.k)), .t false (.lit (.int .i64 v2.n)), .t false (.lit (.string v2.s)), .t false (.lit (.string n2)), .t false (.sl (a2.map rE)), .t false (.lit (.string order)), .t false (.lit (.int .i64 limit))])]⟩ ?_ ?_
 ·refine cw_cond rfl (fun hp => ?_) (fun hp => ?_)
  ·have e : emptyT order = false := by unfold emptyT; simpa using hp
   rw [if_neg (by rw [e]; decide)] at hs2
   unfold wOrder wBy at hs2
   rw [← hs2] at hO
   (refine rn_ 8 an0 fun K hK => ?_; refine rr_ an0 ?_)
   (refine rwr_io 40 (SpIO.ren (hO) [(1000, 1000), (1001, 17)] rfl) rfl rfl (by simp only [go_sem, Nat.reduceAdd, Nat.reduceSub, Nat.reduceMul, Nat.reduceLT, Nat.reduceLeDiff, Nat.reduceEqDiff, Nat.reduceBEq, Int.reduceToNat, Int.reduceLE, Int.reduceLT, Int.reduceEq, Int.reduceBEq, Int.reduceBNe, ↓reduceIte, reduceCtorEq, prnNew, prnUsed, rowW, hX]; exact rfl) (by simp only [go_sem, Nat.reduceAdd, Nat.reduceSub, Nat.reduceMul, Nat.reduceLT, Nat.reduceLeDiff, Nat.reduceEqDiff, Nat.reduceBEq, Int.reduceToNat, Int.reduceLE, Int.reduceLT, Int.reduceEq, Int.reduceBEq, Int.reduceBNe, ↓reduceIte, reduceCtorEq, prnNew, prnUsed, rowW, hX]) (by simp only [go_sem, Nat.reduceAdd, Nat.reduceSub, Nat.reduceMul, Nat.reduceLT, Nat.reduceLeDiff, Nat.reduceEqDiff, Nat.reduceBEq, Int.reduceToNat, Int.reduceLE, Int.reduceLT, Int.reduceEq, Int.reduceBEq, Int.reduceBNe, ↓reduceIte, reduceCtorEq, prnNew, prnUsed, rowW, hX]) (by simp only [go_sem, Nat.reduceAdd, Nat.reduceSub, Nat.reduceMul, Nat.reduceLT, Nat.reduceLeDiff, Nat.reduceEqDiff, Nat.reduceBEq, Int.reduceToNat, Int.reduceLE, Int.reduceLT, Int.reduceEq, Int.reduceBEq, Int.reduceBNe, ↓reduceIte, reduceCtorEq, prnNew, prnUsed, rowW, hX]) (by simp only [go_sem, Nat.reduceAdd, Nat.reduceSub, Nat.reduceMul, Nat.reduceLT, Nat.reduceLeDiff, Nat.reduceEqDiff, Nat.reduceBEq, Int.reduceToNat, Int.reduceLE, Int.reduceLT, Int.reduceEq, Int.reduceBEq, Int.reduceBNe, ↓reduceIte, reduceCtorEq, prnNew, prnUsed, rowW, hX]) rfl (by rw [hX]; rfl) ?_; simp only [go_sem, Nat.reduceAdd, Nat.reduceSub, Nat.reduceMul, Nat.reduceLT, Nat.reduceLeDiff, Nat.reduceEqDiff, Nat.reduceBEq, Int.reduceToNat, Int.reduceLE, Int.reduceLT, Int.reduceEq, Int.reduceBEq, Int.reduceBNe, ↓reduceIte, reduceCtorEq, prnNew, prnUsed, rowW, hX])
   ((first | refine rwr_nil (hK _ ?_) | refine de_ (hK _ ?_)); clear hK K)
   refine au_ an0 ?_
   exact le_
  ·have e : emptyT order = true := by unfold emptyT; simpa using hp
   rw [if_pos e, wordsT, List.append_nil] at hs2
   subst hs2
   refine au_ an0 ?_
   exact le_
 refine gs_ ?_
 refine au_ an0 ?_
 refine cw_cond rfl (fun hp => ?_) (fun hp => ?_)
 ·rw [if_pos (by have := of_decide_eq_true hp; omega)]
  unfold wLimit
  generalize s2 ++ wordsT [⟨#[108, 105, 109, 105, 116]⟩, dl] = un at *
  (refine rn_ 8 an0 fun K hK => ?_; refine rr_ an0 ?_)
  (refine ca_ an0 ?_ (hsp := hD); refine rr_ an0 ?_)
  (refine rwr_io 40 (SpIO.ren (hLi) [(1000, 1000), (1001, 17)] rfl) rfl rfl (by simp only [go_sem, Nat.reduceAdd, Nat.reduceSub, Nat.reduceMul, Nat.reduceLT, Nat.reduceLeDiff, Nat.reduceEqDiff, Nat.reduceBEq, Int.reduceToNat, Int.reduceLE, Int.reduceLT, Int.reduceEq, Int.reduceBEq, Int.reduceBNe, ↓reduceIte, reduceCtorEq, prnNew, prnUsed, rowW, hX]; exact rfl) (by simp only [go_sem, Nat.reduceAdd, Nat.reduceSub, Nat.reduceMul, Nat.reduceLT, Nat.reduceLeDiff, Nat.reduceEqDiff, Nat.reduceBEq, Int.reduceToNat, Int.reduceLE, Int.reduceLT, Int.reduceEq, Int.reduceBEq, Int.reduceBNe, ↓reduceIte, reduceCtorEq, prnNew, prnUsed, rowW, hX]) (by simp only [go_sem, Nat.reduceAdd, Nat.reduceSub, Nat.reduceMul, Nat.reduceLT, Nat.reduceLeDiff, Nat.reduceEqDiff, Nat.reduceBEq, Int.reduceToNat, Int.reduceLE, Int.reduceLT, Int.reduceEq, Int.reduceBEq, Int.reduceBNe, ↓reduceIte, reduceCtorEq, prnNew, prnUsed, rowW, hX]) (by simp only [go_sem, Nat.reduceAdd, Nat.reduceSub, Nat.reduceMul, Nat.reduceLT, Nat.reduceLeDiff, Nat.reduceEqDiff, Nat.reduceBEq, Int.reduceToNat, Int.reduceLE, Int.reduceLT, Int.reduceEq, Int.reduceBEq, Int.reduceBNe, ↓reduceIte, reduceCtorEq, prnNew, prnUsed, rowW, hX]) (by simp only [go_sem, Nat.reduceAdd, Nat.reduceSub, Nat.reduceMul, Nat.reduceLT, Nat.reduceLeDiff, Nat.reduceEqDiff, Nat.reduceBEq, Int.reduceToNat, Int.reduceLE, Int.reduceLT, Int.reduceEq, Int.reduceBEq, Int.reduceBNe, ↓reduceIte, reduceCtorEq, prnNew, prnUsed, rowW, hX]) rfl (by rw [hX]; rfl) ?_; simp only [go_sem, Nat.reduceAdd, Nat.reduceSub, Nat.reduceMul, Nat.reduceLT, Nat.reduceLeDiff, Nat.reduceEqDiff, Nat.reduceBEq, Int.reduceToNat, Int.reduceLE, Int.reduceLT, Int.reduceEq, Int.reduceBEq, Int.reduceBNe, ↓reduceIte, reduceCtorEq, prnNew, prnUsed, rowW, hX])
  ((first | refine rwr_nil (hK _ ?_) | refine de_ (hK _ ?_)); clear hK K)
  refine au_ an0 ?_
  exact oi_ an0 (.inr rfl)
 ·rw [if_neg (by have := of_decide_eq_false hp; omega), wordsT, List.append_nil]
  refine au_ an0 ?_
  exact oi_ an0 (.inr rfl)
end Go.Proofs.YtjdgejfhnfnmgaaGreatDoor.Ax
