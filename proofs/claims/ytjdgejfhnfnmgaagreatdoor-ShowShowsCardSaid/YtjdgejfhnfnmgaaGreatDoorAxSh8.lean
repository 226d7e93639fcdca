import Derived.Test.YtjdgejfhnfnmgaaGreatDoorAxW
import Derived.Test.YtjdgejfhnfnmgaaGreatDoorM29
namespace Go.Proofs.YtjdgejfhnfnmgaaGreatDoor.Ax
open Go.RowKit
set_option linter.unusedSimpArgs false
attribute [local go_sem] ty3 ty4 ty9 ty5 ty26 ty54 ty22 ty24 ty25 ty27 ty29 ty31 ty91 ty85 prnNew prnUsed rowW
set_option linter.unusedVariables false
set_option maxRecDepth 100000
theorem comma_len {l : List ByteArray} {B : Nat} (h : ∀ x ∈ l, x.size ≤ B) : ∀ k, k ≤ l.length → (commaL (l.take k)).length ≤ k * (B + 2)
 | 0, _ => by rw [List.take_zero]; exact Nat.zero_le _
 | k + 1, hk => by
  obtain ⟨x, hx⟩ : ∃ x, l[k]? = some x := ⟨_, List.getElem?_eq_getElem (by omega)⟩
  have h1 := comma_len h k (by omega)
  have h2 := h x (List.mem_of_getElem? hx)
  have h3 : x.data.toList.length = x.size := rfl
  rw [comma_take hx, List.length_append, List.length_append, Nat.add_mul, Nat.one_mul]
  split
  ·simp only [List.length_nil]; omega
  ·simp only [List.length_cons, List.length_nil]; omega
theorem comma_all {l : List ByteArray} {B : Nat} (h : ∀ x ∈ l, x.size ≤ B) : (commaL l).length ≤ l.length * (B + 2) := by
 have := comma_len h l.length (Nat.le_refl _)
 rwa [List.take_length] at this
theorem listT_size (l : List ByteArray) : (listT l).size = 1 + (commaL l).length + 1 := by
 unfold listT
 rw [ByteArray.size_append, ByteArray.size_append, bs_size]
 rfl
theorem cols_comma {c : Cm} (hr : Rt c) : (commaL (c.cols.map colT)).length ≤ 11000 := by
 have h := comma_all (l := c.cols.map colT) (B := 2005) fun x hx => by
  obtain ⟨y, hy, rfl⟩ := List.mem_map.1 hx
  have h1 := (hr.colOk y hy).1
  have h2 := kindT_small y.ty
  unfold colT
  rw [ByteArray.size_append, ByteArray.size_append]
  show y.name.size + 1 + _ ≤ _
  omega
 rw [List.length_map] at h
 have := Nat.mul_le_mul_right (2005 + 2) hr.cols
 omega
theorem vals_comma {c : Cm} (hr : Rt c) : (commaL (c.vals.map valT)).length ≤ 11000 := by
 have h := comma_all (l := c.vals.map valT) (B := 22) fun x hx => by
  obtain ⟨y, hy, rfl⟩ := List.mem_map.1 hx
  exact valT_small (hr.valOk y hy)
 rw [List.length_map] at h
 have := Nat.mul_le_mul_right (22 + 2) hr.vals
 omega
theorem fields_comma {c : Cm} (hr : Rt c) : (commaL c.fields).length ≤ 20000 := by
 have h := comma_all (l := c.fields) (B := 2000) hr.fieldOk
 have := Nat.mul_le_mul_right (2000 + 2) hr.fields
 omega
theorem kF {k j : Int} (h : k = j) : ((k == 1) = (j == 1) ∧ (k == 2) = (j == 2) ∧ (k == 3) = (j == 3) ∧ (k == 4) = (j == 4) ∧ (k == 5) = (j == 5) ∧ (k == 6) = (j == 6)) ∧ ((k == 7) = (j == 7) ∧ (k == 8) = (j == 8) ∧ (k == 9) = (j == 9) ∧ (k == 10) = (j == 10) ∧ (k == 11) = (j == 11) ∧ (k == 12) = (j == 12)) ∧ ((k == 13) = (j == 13) ∧ (k == 14) = (j == 14) ∧ (k == 15) = (j == 15) ∧ (k == 16) = (j == 16)) ∧ (decide (11 ≤ k) && decide (k ≤ 13)) = (decide (11 ≤ j) && decide (j ≤ 13)) := by
 subst h
 exact an4 (an6 rfl rfl rfl rfl rfl rfl) (an6 rfl rfl rfl rfl rfl rfl) (an4 rfl rfl rfl rfl) rfl
theorem siz_ : True := trivial
def bracT (s : ByteArray) : ByteArray := (⟨#[40]⟩ ++ s) ++ ⟨#[41]⟩
set_option maxHeartbeats 8000000 in
theorem cmd1_io (c : Cm) (hr : Rt c) (hk : c.k = 1) : ∃ un : List UInt8, un = textW [⟨#[99, 114, 101, 97, 116, 101]⟩, ⟨#[116, 97, 98, 108, 101]⟩, c.name, listT (c.cols.map colT)] ∧ SpIO Tryz.prog 56 [.one (.optr 1000 0), vCm c] [(1000, prnNew)] (.tup []) [(1000, prnUsed 1000 162 un.length), (162, rowW (strRows (bs un)))] [1000] := by
 have q1 := hr.name
 have q2 := hr.other
 have q3 := hr.column
 have q4 := kindT_small c.ty
 have q5 := valT_small hr.v
 have q6 := cols_comma hr
 have q7 := listT_size (c.cols.map colT)
 have hLc := listCol_sp c.cols hr.cols hr.colOk (by omega)
 have hW0 := words_new ⟨#[99, 114, 101, 97, 116, 101]⟩ [⟨#[116, 97, 98, 108, 101]⟩, c.name, listT (c.cols.map colT)] (by decide) (fun y hy => by
  simp only [List.mem_cons, List.not_mem_nil, or_false] at hy
  rcases hy with rfl | rfl | rfl | rfl
  all_goals first | decide | omega) (by show 4 ≤ 1000; decide)
 obtain ⟨s0, hs0⟩ : ∃ s, s = textW [⟨#[99, 114, 101, 97, 116, 101]⟩, ⟨#[116, 97, 98, 108, 101]⟩, c.name, listT (c.cols.map colT)] := ⟨_, rfl⟩
 rw [← hs0] at hW0
 refine ⟨s0, by rw [hs0], ?_⟩
 clear hs0
 generalize listT (c.cols.map colT) = lt at *
 generalize kindT c.ty = kt at *
 generalize valT c.v = vt at *
 clear hr
 obtain ⟨k, name, other, column, cols, ty, v, vals, fields, ⟨k1, v1, n1, a1⟩, all, ⟨k2, v2, n2, a2⟩, order, limit⟩ := c
 dsimp only at *
 unfold vCm
 rw [rCm_mk]
 have F := kF hk
 (refine ei_ Tryz.func56 Tryz.ntmps56 Tryz.results56 fun X hX => ?_)
 refine au_ F ?_
 (refine dr_ 0 an0 fun K hK => ?_)
 refine dx_ an0 ?_
 (refine di_ 0 an0 (SpIO.ren (hW0) [(1000, 1000), (25, 162)] rfl) ?_)
 (refine de_ (hK _ ?_); clear hK K)
 refine au_ an0 ?_
 exact oi_ an0 (.inr rfl)
set_option maxHeartbeats 8000000 in
theorem cmd2_io (c : Cm) (hr : Rt c) (hk : c.k = 2) : ∃ un : List UInt8, un = textW [⟨#[100, 114, 111, 112]⟩, ⟨#[116, 97, 98, 108, 101]⟩, c.name] ∧ SpIO Tryz.prog 56 [.one (.optr 1000 0), vCm c] [(1000, prnNew)] (.tup []) [(1000, prnUsed 1000 162 un.length), (162, rowW (strRows (bs un)))] [1000] := by
 have q1 := hr.name
 have q2 := hr.other
 have q3 := hr.column
 have q4 := kindT_small c.ty
 have q5 := valT_small hr.v
 have hW0 := words_new ⟨#[100, 114, 111, 112]⟩ [⟨#[116, 97, 98, 108, 101]⟩, c.name] (by decide) (fun y hy => by
  simp only [List.mem_cons, List.not_mem_nil, or_false] at hy
  rcases hy with rfl | rfl | rfl
  all_goals first | decide | omega) (by show 3 ≤ 1000; decide)
 obtain ⟨s0, hs0⟩ : ∃ s, s = textW [⟨#[100, 114, 111, 112]⟩, ⟨#[116, 97, 98, 108, 101]⟩, c.name] := ⟨_, rfl⟩
 rw [← hs0] at hW0
 refine ⟨s0, by rw [hs0], ?_⟩
 clear hs0
 generalize kindT c.ty = kt at *
 generalize valT c.v = vt at *
 clear hr
 obtain ⟨k, name, other, column, cols, ty, v, vals, fields, ⟨k1, v1, n1, a1⟩, all, ⟨k2, v2, n2, a2⟩, order, limit⟩ := c
 dsimp only at *
 unfold vCm
 rw [rCm_mk]
 have F := kF hk
 (refine ei_ Tryz.func56 Tryz.ntmps56 Tryz.results56 fun X hX => ?_)
 refine au_ F ?_
 (refine rn_ 8 an0 fun K hK => ?_; refine rr_ an0 ?_)
 (refine rwr_io 40 (SpIO.ren (hW0) [(1000, 1000), (25, 162)] rfl) rfl rfl (by simp only [go_sem, Nat.reduceAdd, Nat.reduceSub, Nat.reduceMul, Nat.reduceLT, Nat.reduceLeDiff, Nat.reduceEqDiff, Nat.reduceBEq, Int.reduceToNat, Int.reduceLE, Int.reduceLT, Int.reduceEq, Int.reduceBEq, Int.reduceBNe, ↓reduceIte, reduceCtorEq, prnNew, prnUsed, rowW, hX]; exact rfl) (by simp only [go_sem, Nat.reduceAdd, Nat.reduceSub, Nat.reduceMul, Nat.reduceLT, Nat.reduceLeDiff, Nat.reduceEqDiff, Nat.reduceBEq, Int.reduceToNat, Int.reduceLE, Int.reduceLT, Int.reduceEq, Int.reduceBEq, Int.reduceBNe, ↓reduceIte, reduceCtorEq, prnNew, prnUsed, rowW, hX]) (by simp only [go_sem, Nat.reduceAdd, Nat.reduceSub, Nat.reduceMul, Nat.reduceLT, Nat.reduceLeDiff, Nat.reduceEqDiff, Nat.reduceBEq, Int.reduceToNat, Int.reduceLE, Int.reduceLT, Int.reduceEq, Int.reduceBEq, Int.reduceBNe, ↓reduceIte, reduceCtorEq, prnNew, prnUsed, rowW, hX]) (by simp only [go_sem, Nat.reduceAdd, Nat.reduceSub, Nat.reduceMul, Nat.reduceLT, Nat.reduceLeDiff, Nat.reduceEqDiff, Nat.reduceBEq, Int.reduceToNat, Int.reduceLE, Int.reduceLT, Int.reduceEq, Int.reduceBEq, Int.reduceBNe, ↓reduceIte, reduceCtorEq, prnNew, prnUsed, rowW, hX]) (by simp only [go_sem, Nat.reduceAdd, Nat.reduceSub, Nat.reduceMul, Nat.reduceLT, Nat.reduceLeDiff, Nat.reduceEqDiff, Nat.reduceBEq, Int.reduceToNat, Int.reduceLE, Int.reduceLT, Int.reduceEq, Int.reduceBEq, Int.reduceBNe, ↓reduceIte, reduceCtorEq, prnNew, prnUsed, rowW, hX]) rfl (by rw [hX]; rfl) ?_; simp only [go_sem, Nat.reduceAdd, Nat.reduceSub, Nat.reduceMul, Nat.reduceLT, Nat.reduceLeDiff, Nat.reduceEqDiff, Nat.reduceBEq, Int.reduceToNat, Int.reduceLE, Int.reduceLT, Int.reduceEq, Int.reduceBEq, Int.reduceBNe, ↓reduceIte, reduceCtorEq, prnNew, prnUsed, rowW, hX])
 ((first | refine rwr_nil (hK _ ?_) | refine de_ (hK _ ?_)); clear hK K)
 refine au_ an0 ?_
 exact oi_ an0 (.inr rfl)
set_option maxHeartbeats 8000000 in
theorem cmd3_io (c : Cm) (hr : Rt c) (hk : c.k = 3) : ∃ un : List UInt8, un = textW [⟨#[97, 108, 116, 101, 114]⟩, ⟨#[116, 97, 98, 108, 101]⟩, c.name] ++ wordsT [⟨#[97, 100, 100]⟩, c.column, kindT c.ty, ⟨#[100, 101, 102, 97, 117, 108, 116]⟩, valT c.v] ∧ SpIO Tryz.prog 56 [.one (.optr 1000 0), vCm c] [(1000, prnNew)] (.tup []) [(1000, prnUsed 1000 162 un.length), (162, rowW (strRows (bs un)))] [1000] := by
 have q1 := hr.name
 have q2 := hr.other
 have q3 := hr.column
 have q4 := kindT_small c.ty
 have q5 := valT_small hr.v
 have hK := skind_sp c.ty (hr.ty (by rw [hk]; rfl)).1 (hr.ty (by rw [hk]; rfl)).2
 have hV := sval_sp c.v hr.v
 have hW0 := words_new ⟨#[97, 108, 116, 101, 114]⟩ [⟨#[116, 97, 98, 108, 101]⟩, c.name] (by decide) (fun y hy => by
  simp only [List.mem_cons, List.not_mem_nil, or_false] at hy
  rcases hy with rfl | rfl | rfl
  all_goals first | decide | omega) (by show 3 ≤ 1000; decide)
 obtain ⟨s0, hs0⟩ : ∃ s, s = textW [⟨#[97, 108, 116, 101, 114]⟩, ⟨#[116, 97, 98, 108, 101]⟩, c.name] := ⟨_, rfl⟩
 rw [← hs0] at hW0
 have hb0 : 0 < s0.length ∧ s0.length ≤ 100000 := by
  rw [hs0]
  simp only [textW, wordsT, List.length_append, List.length_cons, List.length_nil, siz_]
  have : ∀ s : ByteArray, s.data.toList.length = s.size := fun _ => rfl
  simp only [this]
  refine ⟨?_, ?_⟩ <;> (try simp only [siz_lit]) <;> omega
 have hW1 := words_use s0 [⟨#[97, 100, 100]⟩, c.column, kindT c.ty, ⟨#[100, 101, 102, 97, 117, 108, 116]⟩, valT c.v] hb0.1 (by omega) (fun y hy => by
  simp only [List.mem_cons, List.not_mem_nil, or_false] at hy
  rcases hy with rfl | rfl | rfl | rfl | rfl
  all_goals first | decide | omega) (by show 5 ≤ 1000; decide) (by show ¬ 5 = 0; decide)
 obtain ⟨s1, hs1⟩ : ∃ s, s = s0 ++ wordsT [⟨#[97, 100, 100]⟩, c.column, kindT c.ty, ⟨#[100, 101, 102, 97, 117, 108, 116]⟩, valT c.v] := ⟨_, rfl⟩
 rw [← hs1] at hW1
 refine ⟨s1, by rw [hs1, hs0], ?_⟩
 clear hs0 hs1
 generalize kindT c.ty = kt at *
 generalize valT c.v = vt at *
 clear hr
 obtain ⟨k, name, other, column, cols, ty, v, vals, fields, ⟨k1, v1, n1, a1⟩, all, ⟨k2, v2, n2, a2⟩, order, limit⟩ := c
 dsimp only at *
 unfold vCm
 rw [rCm_mk]
 have F := kF hk
 (refine ei_ Tryz.func56 Tryz.ntmps56 Tryz.results56 fun X hX => ?_)
 refine au_ F ?_
 (refine rn_ 8 an0 fun K hK => ?_; refine rr_ an0 ?_)
 (refine rwr_io 40 (SpIO.ren (hW0) [(1000, 1000), (25, 162)] rfl) rfl rfl (by simp only [go_sem, Nat.reduceAdd, Nat.reduceSub, Nat.reduceMul, Nat.reduceLT, Nat.reduceLeDiff, Nat.reduceEqDiff, Nat.reduceBEq, Int.reduceToNat, Int.reduceLE, Int.reduceLT, Int.reduceEq, Int.reduceBEq, Int.reduceBNe, ↓reduceIte, reduceCtorEq, prnNew, prnUsed, rowW, hX]; exact rfl) (by simp only [go_sem, Nat.reduceAdd, Nat.reduceSub, Nat.reduceMul, Nat.reduceLT, Nat.reduceLeDiff, Nat.reduceEqDiff, Nat.reduceBEq, Int.reduceToNat, Int.reduceLE, Int.reduceLT, Int.reduceEq, Int.reduceBEq, Int.reduceBNe, ↓reduceIte, reduceCtorEq, prnNew, prnUsed, rowW, hX]) (by simp only [go_sem, Nat.reduceAdd, Nat.reduceSub, Nat.reduceMul, Nat.reduceLT, Nat.reduceLeDiff, Nat.reduceEqDiff, Nat.reduceBEq, Int.reduceToNat, Int.reduceLE, Int.reduceLT, Int.reduceEq, Int.reduceBEq, Int.reduceBNe, ↓reduceIte, reduceCtorEq, prnNew, prnUsed, rowW, hX]) (by simp only [go_sem, Nat.reduceAdd, Nat.reduceSub, Nat.reduceMul, Nat.reduceLT, Nat.reduceLeDiff, Nat.reduceEqDiff, Nat.reduceBEq, Int.reduceToNat, Int.reduceLE, Int.reduceLT, Int.reduceEq, Int.reduceBEq, Int.reduceBNe, ↓reduceIte, reduceCtorEq, prnNew, prnUsed, rowW, hX]) (by simp only [go_sem, Nat.reduceAdd, Nat.reduceSub, Nat.reduceMul, Nat.reduceLT, Nat.reduceLeDiff, Nat.reduceEqDiff, Nat.reduceBEq, Int.reduceToNat, Int.reduceLE, Int.reduceLT, Int.reduceEq, Int.reduceBEq, Int.reduceBNe, ↓reduceIte, reduceCtorEq, prnNew, prnUsed, rowW, hX]) rfl (by rw [hX]; rfl) ?_; simp only [go_sem, Nat.reduceAdd, Nat.reduceSub, Nat.reduceMul, Nat.reduceLT, Nat.reduceLeDiff, Nat.reduceEqDiff, Nat.reduceBEq, Int.reduceToNat, Int.reduceLE, Int.reduceLT, Int.reduceEq, Int.reduceBEq, Int.reduceBNe, ↓reduceIte, reduceCtorEq, prnNew, prnUsed, rowW, hX])
 ((first | refine rwr_nil (hK _ ?_) | refine de_ (hK _ ?_)); clear hK K)
 refine gs_ ?_
 (refine dr_ 0 an0 fun K hK => ?_)
 refine dx_ an0 ?_
 (refine di_ 0 an0 (SpIO.ren (hW1) [(1000, 1000), (1001, 162)] rfl) ?_)
 (refine de_ (hK _ ?_); clear hK K)
 refine au_ an0 ?_
 exact oi_ an0 (.inr rfl)
set_option maxHeartbeats 8000000 in
theorem cmd4_io (c : Cm) (hr : Rt c) (hk : c.k = 4) : ∃ un : List UInt8, un = textW [⟨#[97, 108, 116, 101, 114]⟩, ⟨#[116, 97, 98, 108, 101]⟩, c.name] ++ wordsT [⟨#[100, 114, 111, 112]⟩, c.column] ∧ SpIO Tryz.prog 56 [.one (.optr 1000 0), vCm c] [(1000, prnNew)] (.tup []) [(1000, prnUsed 1000 162 un.length), (162, rowW (strRows (bs un)))] [1000] := by
 have q1 := hr.name
 have q2 := hr.other
 have q3 := hr.column
 have q4 := kindT_small c.ty
 have q5 := valT_small hr.v
 have hW0 := words_new ⟨#[97, 108, 116, 101, 114]⟩ [⟨#[116, 97, 98, 108, 101]⟩, c.name] (by decide) (fun y hy => by
  simp only [List.mem_cons, List.not_mem_nil, or_false] at hy
  rcases hy with rfl | rfl | rfl
  all_goals first | decide | omega) (by show 3 ≤ 1000; decide)
 obtain ⟨s0, hs0⟩ : ∃ s, s = textW [⟨#[97, 108, 116, 101, 114]⟩, ⟨#[116, 97, 98, 108, 101]⟩, c.name] := ⟨_, rfl⟩
 rw [← hs0] at hW0
 have hb0 : 0 < s0.length ∧ s0.length ≤ 100000 := by
  rw [hs0]
  simp only [textW, wordsT, List.length_append, List.length_cons, List.length_nil, siz_]
  have : ∀ s : ByteArray, s.data.toList.length = s.size := fun _ => rfl
  simp only [this]
  refine ⟨?_, ?_⟩ <;> (try simp only [siz_lit]) <;> omega
 have hW1 := words_use s0 [⟨#[100, 114, 111, 112]⟩, c.column] hb0.1 (by omega) (fun y hy => by
  simp only [List.mem_cons, List.not_mem_nil, or_false] at hy
  rcases hy with rfl | rfl
  all_goals first | decide | omega) (by show 2 ≤ 1000; decide) (by show ¬ 2 = 0; decide)
 obtain ⟨s1, hs1⟩ : ∃ s, s = s0 ++ wordsT [⟨#[100, 114, 111, 112]⟩, c.column] := ⟨_, rfl⟩
 rw [← hs1] at hW1
 refine ⟨s1, by rw [hs1, hs0], ?_⟩
 clear hs0 hs1
 generalize kindT c.ty = kt at *
 generalize valT c.v = vt at *
 clear hr
 obtain ⟨k, name, other, column, cols, ty, v, vals, fields, ⟨k1, v1, n1, a1⟩, all, ⟨k2, v2, n2, a2⟩, order, limit⟩ := c
 dsimp only at *
 unfold vCm
 rw [rCm_mk]
 have F := kF hk
 (refine ei_ Tryz.func56 Tryz.ntmps56 Tryz.results56 fun X hX => ?_)
 refine au_ F ?_
 (refine rn_ 8 an0 fun K hK => ?_; refine rr_ an0 ?_)
 (refine rwr_io 40 (SpIO.ren (hW0) [(1000, 1000), (25, 162)] rfl) rfl rfl (by simp only [go_sem, Nat.reduceAdd, Nat.reduceSub, Nat.reduceMul, Nat.reduceLT, Nat.reduceLeDiff, Nat.reduceEqDiff, Nat.reduceBEq, Int.reduceToNat, Int.reduceLE, Int.reduceLT, Int.reduceEq, Int.reduceBEq, Int.reduceBNe, ↓reduceIte, reduceCtorEq, prnNew, prnUsed, rowW, hX]; exact rfl) (by simp only [go_sem, Nat.reduceAdd, Nat.reduceSub, Nat.reduceMul, Nat.reduceLT, Nat.reduceLeDiff, Nat.reduceEqDiff, Nat.reduceBEq, Int.reduceToNat, Int.reduceLE, Int.reduceLT, Int.reduceEq, Int.reduceBEq, Int.reduceBNe, ↓reduceIte, reduceCtorEq, prnNew, prnUsed, rowW, hX]) (by simp only [go_sem, Nat.reduceAdd, Nat.reduceSub, Nat.reduceMul, Nat.reduceLT, Nat.reduceLeDiff, Nat.reduceEqDiff, Nat.reduceBEq, Int.reduceToNat, Int.reduceLE, Int.reduceLT, Int.reduceEq, Int.reduceBEq, Int.reduceBNe, ↓reduceIte, reduceCtorEq, prnNew, prnUsed, rowW, hX]) (by simp only [go_sem, Nat.reduceAdd, Nat.reduceSub, Nat.reduceMul, Nat.reduceLT, Nat.reduceLeDiff, Nat.reduceEqDiff, Nat.reduceBEq, Int.reduceToNat, Int.reduceLE, Int.reduceLT, Int.reduceEq, Int.reduceBEq, Int.reduceBNe, ↓reduceIte, reduceCtorEq, prnNew, prnUsed, rowW, hX]) (by simp only [go_sem, Nat.reduceAdd, Nat.reduceSub, Nat.reduceMul, Nat.reduceLT, Nat.reduceLeDiff, Nat.reduceEqDiff, Nat.reduceBEq, Int.reduceToNat, Int.reduceLE, Int.reduceLT, Int.reduceEq, Int.reduceBEq, Int.reduceBNe, ↓reduceIte, reduceCtorEq, prnNew, prnUsed, rowW, hX]) rfl (by rw [hX]; rfl) ?_; simp only [go_sem, Nat.reduceAdd, Nat.reduceSub, Nat.reduceMul, Nat.reduceLT, Nat.reduceLeDiff, Nat.reduceEqDiff, Nat.reduceBEq, Int.reduceToNat, Int.reduceLE, Int.reduceLT, Int.reduceEq, Int.reduceBEq, Int.reduceBNe, ↓reduceIte, reduceCtorEq, prnNew, prnUsed, rowW, hX])
 ((first | refine rwr_nil (hK _ ?_) | refine de_ (hK _ ?_)); clear hK K)
 refine gs_ ?_
 (refine rn_ 8 an0 fun K hK => ?_; refine rr_ an0 ?_)
 (refine rwr_io 40 (SpIO.ren (hW1) [(1000, 1000), (1001, 162)] rfl) rfl rfl (by simp only [go_sem, Nat.reduceAdd, Nat.reduceSub, Nat.reduceMul, Nat.reduceLT, Nat.reduceLeDiff, Nat.reduceEqDiff, Nat.reduceBEq, Int.reduceToNat, Int.reduceLE, Int.reduceLT, Int.reduceEq, Int.reduceBEq, Int.reduceBNe, ↓reduceIte, reduceCtorEq, prnNew, prnUsed, rowW, hX]; exact rfl) (by simp only [go_sem, Nat.reduceAdd, Nat.reduceSub, Nat.reduceMul, Nat.reduceLT, Nat.reduceLeDiff, Nat.reduceEqDiff, Nat.reduceBEq, Int.reduceToNat, Int.reduceLE, Int.reduceLT, Int.reduceEq, Int.reduceBEq, Int.reduceBNe, ↓reduceIte, reduceCtorEq, prnNew, prnUsed, rowW, hX]) (by simp only [go_sem, Nat.reduceAdd, Nat.reduceSub, Nat.reduceMul, Nat.reduceLT, Nat.reduceLeDiff, Nat.reduceEqDiff, Nat.reduceBEq, Int.reduceToNat, Int.reduceLE, Int.reduceLT, Int.reduceEq, Int.reduceBEq, Int.reduceBNe, ↓reduceIte, reduceCtorEq, prnNew, prnUsed, rowW, hX]) (by simp only [go_sem, Nat.reduceAdd, Nat.reduceSub, Nat.reduceMul, Nat.reduceLT, Nat.reduceLeDiff, Nat.reduceEqDiff, Nat.reduceBEq, Int.reduceToNat, Int.reduceLE, Int.reduceLT, Int.reduceEq, Int.reduceBEq, Int.reduceBNe, ↓reduceIte, reduceCtorEq, prnNew, prnUsed, rowW, hX]) (by simp only [go_sem, Nat.reduceAdd, Nat.reduceSub, Nat.reduceMul, Nat.reduceLT, Nat.reduceLeDiff, Nat.reduceEqDiff, Nat.reduceBEq, Int.reduceToNat, Int.reduceLE, Int.reduceLT, Int.reduceEq, Int.reduceBEq, Int.reduceBNe, ↓reduceIte, reduceCtorEq, prnNew, prnUsed, rowW, hX]) rfl (by rw [hX]; rfl) ?_; simp only [go_sem, Nat.reduceAdd, Nat.reduceSub, Nat.reduceMul, Nat.reduceLT, Nat.reduceLeDiff, Nat.reduceEqDiff, Nat.reduceBEq, Int.reduceToNat, Int.reduceLE, Int.reduceLT, Int.reduceEq, Int.reduceBEq, Int.reduceBNe, ↓reduceIte, reduceCtorEq, prnNew, prnUsed, rowW, hX])
 ((first | refine rwr_nil (hK _ ?_) | refine de_ (hK _ ?_)); clear hK K)
 refine au_ an0 ?_
 exact oi_ an0 (.inr rfl)
set_option maxHeartbeats 8000000 in
theorem cmd5_io (c : Cm) (hr : Rt c) (hk : c.k = 5) : ∃ un : List UInt8, un = textW [⟨#[97, 108, 116, 101, 114]⟩, ⟨#[116, 97, 98, 108, 101]⟩, c.name] ++ wordsT [⟨#[114, 101, 110, 97, 109, 101]⟩, c.column, ⟨#[116, 111]⟩, c.other] ∧ SpIO Tryz.prog 56 [.one (.optr 1000 0), vCm c] [(1000, prnNew)] (.tup []) [(1000, prnUsed 1000 162 un.length), (162, rowW (strRows (bs un)))] [1000] := by
 have q1 := hr.name
 have q2 := hr.other
 have q3 := hr.column
 have q4 := kindT_small c.ty
 have q5 := valT_small hr.v
 have hW0 := words_new ⟨#[97, 108, 116, 101, 114]⟩ [⟨#[116, 97, 98, 108, 101]⟩, c.name] (by decide) (fun y hy => by
  simp only [List.mem_cons, List.not_mem_nil, or_false] at hy
  rcases hy with rfl | rfl | rfl
  all_goals first | decide | omega) (by show 3 ≤ 1000; decide)
 obtain ⟨s0, hs0⟩ : ∃ s, s = textW [⟨#[97, 108, 116, 101, 114]⟩, ⟨#[116, 97, 98, 108, 101]⟩, c.name] := ⟨_, rfl⟩
 rw [← hs0] at hW0
 have hb0 : 0 < s0.length ∧ s0.length ≤ 100000 := by
  rw [hs0]
  simp only [textW, wordsT, List.length_append, List.length_cons, List.length_nil, siz_]
  have : ∀ s : ByteArray, s.data.toList.length = s.size := fun _ => rfl
  simp only [this]
  refine ⟨?_, ?_⟩ <;> (try simp only [siz_lit]) <;> omega
 have hW1 := words_use s0 [⟨#[114, 101, 110, 97, 109, 101]⟩, c.column, ⟨#[116, 111]⟩, c.other] hb0.1 (by omega) (fun y hy => by
  simp only [List.mem_cons, List.not_mem_nil, or_false] at hy
  rcases hy with rfl | rfl | rfl | rfl
  all_goals first | decide | omega) (by show 4 ≤ 1000; decide) (by show ¬ 4 = 0; decide)
 obtain ⟨s1, hs1⟩ : ∃ s, s = s0 ++ wordsT [⟨#[114, 101, 110, 97, 109, 101]⟩, c.column, ⟨#[116, 111]⟩, c.other] := ⟨_, rfl⟩
 rw [← hs1] at hW1
 refine ⟨s1, by rw [hs1, hs0], ?_⟩
 clear hs0 hs1
 generalize kindT c.ty = kt at *
 generalize valT c.v = vt at *
 clear hr
 obtain ⟨k, name, other, column, cols, ty, v, vals, fields, ⟨k1, v1, n1, a1⟩, all, ⟨k2, v2, n2, a2⟩, order, limit⟩ := c
 dsimp only at *
 unfold vCm
 rw [rCm_mk]
 have F := kF hk
 (refine ei_ Tryz.func56 Tryz.ntmps56 Tryz.results56 fun X hX => ?_)
 refine au_ F ?_
 (refine rn_ 8 an0 fun K hK => ?_; refine rr_ an0 ?_)
 (refine rwr_io 40 (SpIO.ren (hW0) [(1000, 1000), (25, 162)] rfl) rfl rfl (by simp only [go_sem, Nat.reduceAdd, Nat.reduceSub, Nat.reduceMul, Nat.reduceLT, Nat.reduceLeDiff, Nat.reduceEqDiff, Nat.reduceBEq, Int.reduceToNat, Int.reduceLE, Int.reduceLT, Int.reduceEq, Int.reduceBEq, Int.reduceBNe, ↓reduceIte, reduceCtorEq, prnNew, prnUsed, rowW, hX]; exact rfl) (by simp only [go_sem, Nat.reduceAdd, Nat.reduceSub, Nat.reduceMul, Nat.reduceLT, Nat.reduceLeDiff, Nat.reduceEqDiff, Nat.reduceBEq, Int.reduceToNat, Int.reduceLE, Int.reduceLT, Int.reduceEq, Int.reduceBEq, Int.reduceBNe, ↓reduceIte, reduceCtorEq, prnNew, prnUsed, rowW, hX]) (by simp only [go_sem, Nat.reduceAdd, Nat.reduceSub, Nat.reduceMul, Nat.reduceLT, Nat.reduceLeDiff, Nat.reduceEqDiff, Nat.reduceBEq, Int.reduceToNat, Int.reduceLE, Int.reduceLT, Int.reduceEq, Int.reduceBEq, Int.reduceBNe, ↓reduceIte, reduceCtorEq, prnNew, prnUsed, rowW, hX]) (by simp only [go_sem, Nat.reduceAdd, Nat.reduceSub, Nat.reduceMul, Nat.reduceLT, Nat.reduceLeDiff, Nat.reduceEqDiff, Nat.reduceBEq, Int.reduceToNat, Int.reduceLE, Int.reduceLT, Int.reduceEq, Int.reduceBEq, Int.reduceBNe, ↓reduceIte, reduceCtorEq, prnNew, prnUsed, rowW, hX]) (by simp only [go_sem, Nat.reduceAdd, Nat.reduceSub, Nat.reduceMul, Nat.reduceLT, Nat.reduceLeDiff, Nat.reduceEqDiff, Nat.reduceBEq, Int.reduceToNat, Int.reduceLE, Int.reduceLT, Int.reduceEq, Int.reduceBEq, Int.reduceBNe, ↓reduceIte, reduceCtorEq, prnNew, prnUsed, rowW, hX]) rfl (by rw [hX]; rfl) ?_; simp only [go_sem, Nat.reduceAdd, Nat.reduceSub, Nat.reduceMul, Nat.reduceLT, Nat.reduceLeDiff, Nat.reduceEqDiff, Nat.reduceBEq, Int.reduceToNat, Int.reduceLE, Int.reduceLT, Int.reduceEq, Int.reduceBEq, Int.reduceBNe, ↓reduceIte, reduceCtorEq, prnNew, prnUsed, rowW, hX])
 ((first | refine rwr_nil (hK _ ?_) | refine de_ (hK _ ?_)); clear hK K)
 refine gs_ ?_
 (refine rn_ 8 an0 fun K hK => ?_; refine rr_ an0 ?_)
 (refine rwr_io 40 (SpIO.ren (hW1) [(1000, 1000), (1001, 162)] rfl) rfl rfl (by simp only [go_sem, Nat.reduceAdd, Nat.reduceSub, Nat.reduceMul, Nat.reduceLT, Nat.reduceLeDiff, Nat.reduceEqDiff, Nat.reduceBEq, Int.reduceToNat, Int.reduceLE, Int.reduceLT, Int.reduceEq, Int.reduceBEq, Int.reduceBNe, ↓reduceIte, reduceCtorEq, prnNew, prnUsed, rowW, hX]; exact rfl) (by simp only [go_sem, Nat.reduceAdd, Nat.reduceSub, Nat.reduceMul, Nat.reduceLT, Nat.reduceLeDiff, Nat.reduceEqDiff, Nat.reduceBEq, Int.reduceToNat, Int.reduceLE, Int.reduceLT, Int.reduceEq, Int.reduceBEq, Int.reduceBNe, ↓reduceIte, reduceCtorEq, prnNew, prnUsed, rowW, hX]) (by simp only [go_sem, Nat.reduceAdd, Nat.reduceSub, Nat.reduceMul, Nat.reduceLT, Nat.reduceLeDiff, Nat.reduceEqDiff, Nat.reduceBEq, Int.reduceToNat, Int.reduceLE, Int.reduceLT, Int.reduceEq, Int.reduceBEq, Int.reduceBNe, ↓reduceIte, reduceCtorEq, prnNew, prnUsed, rowW, hX]) (by simp only [go_sem, Nat.reduceAdd, Nat.reduceSub, Nat.reduceMul, Nat.reduceLT, Nat.reduceLeDiff, Nat.reduceEqDiff, Nat.reduceBEq, Int.reduceToNat, Int.reduceLE, Int.reduceLT, Int.reduceEq, Int.reduceBEq, Int.reduceBNe, ↓reduceIte, reduceCtorEq, prnNew, prnUsed, rowW, hX]) (by simp only [go_sem, Nat.reduceAdd, Nat.reduceSub, Nat.reduceMul, Nat.reduceLT, Nat.reduceLeDiff, Nat.reduceEqDiff, Nat.reduceBEq, Int.reduceToNat, Int.reduceLE, Int.reduceLT, Int.reduceEq, Int.reduceBEq, Int.reduceBNe, ↓reduceIte, reduceCtorEq, prnNew, prnUsed, rowW, hX]) rfl (by rw [hX]; rfl) ?_; simp only [go_sem, Nat.reduceAdd, Nat.reduceSub, Nat.reduceMul, Nat.reduceLT, Nat.reduceLeDiff, Nat.reduceEqDiff, Nat.reduceBEq, Int.reduceToNat, Int.reduceLE, Int.reduceLT, Int.reduceEq, Int.reduceBEq, Int.reduceBNe, ↓reduceIte, reduceCtorEq, prnNew, prnUsed, rowW, hX])
 ((first | refine rwr_nil (hK _ ?_) | refine de_ (hK _ ?_)); clear hK K)
 refine au_ an0 ?_
 exact oi_ an0 (.inr rfl)
set_option maxHeartbeats 8000000 in
theorem cmd6_io (c : Cm) (hr : Rt c) (hk : c.k = 6) : ∃ un : List UInt8, un = textW [⟨#[97, 108, 116, 101, 114]⟩, ⟨#[116, 97, 98, 108, 101]⟩, c.name] ++ wordsT [⟨#[114, 101, 116, 121, 112, 101]⟩, c.column, kindT c.ty] ∧ SpIO Tryz.prog 56 [.one (.optr 1000 0), vCm c] [(1000, prnNew)] (.tup []) [(1000, prnUsed 1000 162 un.length), (162, rowW (strRows (bs un)))] [1000] := by
 have q1 := hr.name
 have q2 := hr.other
 have q3 := hr.column
 have q4 := kindT_small c.ty
 have q5 := valT_small hr.v
 have hK := skind_sp c.ty (hr.ty (by rw [hk]; rfl)).1 (hr.ty (by rw [hk]; rfl)).2
 have hW0 := words_new ⟨#[97, 108, 116, 101, 114]⟩ [⟨#[116, 97, 98, 108, 101]⟩, c.name] (by decide) (fun y hy => by
  simp only [List.mem_cons, List.not_mem_nil, or_false] at hy
  rcases hy with rfl | rfl | rfl
  all_goals first | decide | omega) (by show 3 ≤ 1000; decide)
 obtain ⟨s0, hs0⟩ : ∃ s, s = textW [⟨#[97, 108, 116, 101, 114]⟩, ⟨#[116, 97, 98, 108, 101]⟩, c.name] := ⟨_, rfl⟩
 rw [← hs0] at hW0
 have hb0 : 0 < s0.length ∧ s0.length ≤ 100000 := by
  rw [hs0]
  simp only [textW, wordsT, List.length_append, List.length_cons, List.length_nil, siz_]
  have : ∀ s : ByteArray, s.data.toList.length = s.size := fun _ => rfl
  simp only [this]
  refine ⟨?_, ?_⟩ <;> (try simp only [siz_lit]) <;> omega
 have hW1 := words_use s0 [⟨#[114, 101, 116, 121, 112, 101]⟩, c.column, kindT c.ty] hb0.1 (by omega) (fun y hy => by
  simp only [List.mem_cons, List.not_mem_nil, or_false] at hy
  rcases hy with rfl | rfl | rfl
  all_goals first | decide | omega) (by show 3 ≤ 1000; decide) (by show ¬ 3 = 0; decide)
 obtain ⟨s1, hs1⟩ : ∃ s, s = s0 ++ wordsT [⟨#[114, 101, 116, 121, 112, 101]⟩, c.column, kindT c.ty] := ⟨_, rfl⟩
 rw [← hs1] at hW1
 refine ⟨s1, by rw [hs1, hs0], ?_⟩
 clear hs0 hs1
 generalize kindT c.ty = kt at *
 generalize valT c.v = vt at *
 clear hr
 obtain ⟨k, name, other, column, cols, ty, v, vals, fields, ⟨k1, v1, n1, a1⟩, all, ⟨k2, v2, n2, a2⟩, order, limit⟩ := c
 dsimp only at *
 unfold vCm
 rw [rCm_mk]
 have F := kF hk
 (refine ei_ Tryz.func56 Tryz.ntmps56 Tryz.results56 fun X hX => ?_)
 refine au_ F ?_
 (refine rn_ 8 an0 fun K hK => ?_; refine rr_ an0 ?_)
 (refine rwr_io 40 (SpIO.ren (hW0) [(1000, 1000), (25, 162)] rfl) rfl rfl (by simp only [go_sem, Nat.reduceAdd, Nat.reduceSub, Nat.reduceMul, Nat.reduceLT, Nat.reduceLeDiff, Nat.reduceEqDiff, Nat.reduceBEq, Int.reduceToNat, Int.reduceLE, Int.reduceLT, Int.reduceEq, Int.reduceBEq, Int.reduceBNe, ↓reduceIte, reduceCtorEq, prnNew, prnUsed, rowW, hX]; exact rfl) (by simp only [go_sem, Nat.reduceAdd, Nat.reduceSub, Nat.reduceMul, Nat.reduceLT, Nat.reduceLeDiff, Nat.reduceEqDiff, Nat.reduceBEq, Int.reduceToNat, Int.reduceLE, Int.reduceLT, Int.reduceEq, Int.reduceBEq, Int.reduceBNe, ↓reduceIte, reduceCtorEq, prnNew, prnUsed, rowW, hX]) (by simp only [go_sem, Nat.reduceAdd, Nat.reduceSub, Nat.reduceMul, Nat.reduceLT, Nat.reduceLeDiff, Nat.reduceEqDiff, Nat.reduceBEq, Int.reduceToNat, Int.reduceLE, Int.reduceLT, Int.reduceEq, Int.reduceBEq, Int.reduceBNe, ↓reduceIte, reduceCtorEq, prnNew, prnUsed, rowW, hX]) (by simp only [go_sem, Nat.reduceAdd, Nat.reduceSub, Nat.reduceMul, Nat.reduceLT, Nat.reduceLeDiff, Nat.reduceEqDiff, Nat.reduceBEq, Int.reduceToNat, Int.reduceLE, Int.reduceLT, Int.reduceEq, Int.reduceBEq, Int.reduceBNe, ↓reduceIte, reduceCtorEq, prnNew, prnUsed, rowW, hX]) (by simp only [go_sem, Nat.reduceAdd, Nat.reduceSub, Nat.reduceMul, Nat.reduceLT, Nat.reduceLeDiff, Nat.reduceEqDiff, Nat.reduceBEq, Int.reduceToNat, Int.reduceLE, Int.reduceLT, Int.reduceEq, Int.reduceBEq, Int.reduceBNe, ↓reduceIte, reduceCtorEq, prnNew, prnUsed, rowW, hX]) rfl (by rw [hX]; rfl) ?_; simp only [go_sem, Nat.reduceAdd, Nat.reduceSub, Nat.reduceMul, Nat.reduceLT, Nat.reduceLeDiff, Nat.reduceEqDiff, Nat.reduceBEq, Int.reduceToNat, Int.reduceLE, Int.reduceLT, Int.reduceEq, Int.reduceBEq, Int.reduceBNe, ↓reduceIte, reduceCtorEq, prnNew, prnUsed, rowW, hX])
 ((first | refine rwr_nil (hK _ ?_) | refine de_ (hK _ ?_)); clear hK K)
 refine gs_ ?_
 (refine dr_ 0 an0 fun K hK => ?_)
 refine dx_ an0 ?_
 (refine di_ 0 an0 (SpIO.ren (hW1) [(1000, 1000), (1001, 162)] rfl) ?_)
 (refine de_ (hK _ ?_); clear hK K)
 refine au_ an0 ?_
 exact oi_ an0 (.inr rfl)
set_option maxHeartbeats 8000000 in
theorem cmd7_io (c : Cm) (hr : Rt c) (hk : c.k = 7) : ∃ un : List UInt8, un = textW [⟨#[97, 108, 116, 101, 114]⟩, ⟨#[116, 97, 98, 108, 101]⟩, c.name] ++ wordsT [⟨#[114, 101, 110, 97, 109, 101]⟩, ⟨#[116, 111]⟩, c.other] ∧ SpIO Tryz.prog 56 [.one (.optr 1000 0), vCm c] [(1000, prnNew)] (.tup []) [(1000, prnUsed 1000 162 un.length), (162, rowW (strRows (bs un)))] [1000] := by
 have q1 := hr.name
 have q2 := hr.other
 have q3 := hr.column
 have q4 := kindT_small c.ty
 have q5 := valT_small hr.v
 have hW0 := words_new ⟨#[97, 108, 116, 101, 114]⟩ [⟨#[116, 97, 98, 108, 101]⟩, c.name] (by decide) (fun y hy => by
  simp only [List.mem_cons, List.not_mem_nil, or_false] at hy
  rcases hy with rfl | rfl | rfl
  all_goals first | decide | omega) (by show 3 ≤ 1000; decide)
 obtain ⟨s0, hs0⟩ : ∃ s, s = textW [⟨#[97, 108, 116, 101, 114]⟩, ⟨#[116, 97, 98, 108, 101]⟩, c.name] := ⟨_, rfl⟩
 rw [← hs0] at hW0
 have hb0 : 0 < s0.length ∧ s0.length ≤ 100000 := by
  rw [hs0]
  simp only [textW, wordsT, List.length_append, List.length_cons, List.length_nil, siz_]
  have : ∀ s : ByteArray, s.data.toList.length = s.size := fun _ => rfl
  simp only [this]
  refine ⟨?_, ?_⟩ <;> (try simp only [siz_lit]) <;> omega
 have hW1 := words_use s0 [⟨#[114, 101, 110, 97, 109, 101]⟩, ⟨#[116, 111]⟩, c.other] hb0.1 (by omega) (fun y hy => by
  simp only [List.mem_cons, List.not_mem_nil, or_false] at hy
  rcases hy with rfl | rfl | rfl
  all_goals first | decide | omega) (by show 3 ≤ 1000; decide) (by show ¬ 3 = 0; decide)
 obtain ⟨s1, hs1⟩ : ∃ s, s = s0 ++ wordsT [⟨#[114, 101, 110, 97, 109, 101]⟩, ⟨#[116, 111]⟩, c.other] := ⟨_, rfl⟩
 rw [← hs1] at hW1
 refine ⟨s1, by rw [hs1, hs0], ?_⟩
 clear hs0 hs1
 generalize kindT c.ty = kt at *
 generalize valT c.v = vt at *
 clear hr
 obtain ⟨k, name, other, column, cols, ty, v, vals, fields, ⟨k1, v1, n1, a1⟩, all, ⟨k2, v2, n2, a2⟩, order, limit⟩ := c
 dsimp only at *
 unfold vCm
 rw [rCm_mk]
 have F := kF hk
 (refine ei_ Tryz.func56 Tryz.ntmps56 Tryz.results56 fun X hX => ?_)
 refine au_ F ?_
 (refine rn_ 8 an0 fun K hK => ?_; refine rr_ an0 ?_)
 (refine rwr_io 40 (SpIO.ren (hW0) [(1000, 1000), (25, 162)] rfl) rfl rfl (by simp only [go_sem, Nat.reduceAdd, Nat.reduceSub, Nat.reduceMul, Nat.reduceLT, Nat.reduceLeDiff, Nat.reduceEqDiff, Nat.reduceBEq, Int.reduceToNat, Int.reduceLE, Int.reduceLT, Int.reduceEq, Int.reduceBEq, Int.reduceBNe, ↓reduceIte, reduceCtorEq, prnNew, prnUsed, rowW, hX]; exact rfl) (by simp only [go_sem, Nat.reduceAdd, Nat.reduceSub, Nat.reduceMul, Nat.reduceLT, Nat.reduceLeDiff, Nat.reduceEqDiff, Nat.reduceBEq, Int.reduceToNat, Int.reduceLE, Int.reduceLT, Int.reduceEq, Int.reduceBEq, Int.reduceBNe, ↓reduceIte, reduceCtorEq, prnNew, prnUsed, rowW, hX]) (by simp only [go_sem, Nat.reduceAdd, Nat.reduceSub, Nat.reduceMul, Nat.reduceLT, Nat.reduceLeDiff, Nat.reduceEqDiff, Nat.reduceBEq, Int.reduceToNat, Int.reduceLE, Int.reduceLT, Int.reduceEq, Int.reduceBEq, Int.reduceBNe, ↓reduceIte, reduceCtorEq, prnNew, prnUsed, rowW, hX]) (by simp only [go_sem, Nat.reduceAdd, Nat.reduceSub, Nat.reduceMul, Nat.reduceLT, Nat.reduceLeDiff, Nat.reduceEqDiff, Nat.reduceBEq, Int.reduceToNat, Int.reduceLE, Int.reduceLT, Int.reduceEq, Int.reduceBEq, Int.reduceBNe, ↓reduceIte, reduceCtorEq, prnNew, prnUsed, rowW, hX]) (by simp only [go_sem, Nat.reduceAdd, Nat.reduceSub, Nat.reduceMul, Nat.reduceLT, Nat.reduceLeDiff, Nat.reduceEqDiff, Nat.reduceBEq, Int.reduceToNat, Int.reduceLE, Int.reduceLT, Int.reduceEq, Int.reduceBEq, Int.reduceBNe, ↓reduceIte, reduceCtorEq, prnNew, prnUsed, rowW, hX]) rfl (by rw [hX]; rfl) ?_; simp only [go_sem, Nat.reduceAdd, Nat.reduceSub, Nat.reduceMul, Nat.reduceLT, Nat.reduceLeDiff, Nat.reduceEqDiff, Nat.reduceBEq, Int.reduceToNat, Int.reduceLE, Int.reduceLT, Int.reduceEq, Int.reduceBEq, Int.reduceBNe, ↓reduceIte, reduceCtorEq, prnNew, prnUsed, rowW, hX])
 ((first | refine rwr_nil (hK _ ?_) | refine de_ (hK _ ?_)); clear hK K)
 refine gs_ ?_
 (refine rn_ 8 an0 fun K hK => ?_; refine rr_ an0 ?_)
 (refine rwr_io 40 (SpIO.ren (hW1) [(1000, 1000), (1001, 162)] rfl) rfl rfl (by simp only [go_sem, Nat.reduceAdd, Nat.reduceSub, Nat.reduceMul, Nat.reduceLT, Nat.reduceLeDiff, Nat.reduceEqDiff, Nat.reduceBEq, Int.reduceToNat, Int.reduceLE, Int.reduceLT, Int.reduceEq, Int.reduceBEq, Int.reduceBNe, ↓reduceIte, reduceCtorEq, prnNew, prnUsed, rowW, hX]; exact rfl) (by simp only [go_sem, Nat.reduceAdd, Nat.reduceSub, Nat.reduceMul, Nat.reduceLT, Nat.reduceLeDiff, Nat.reduceEqDiff, Nat.reduceBEq, Int.reduceToNat, Int.reduceLE, Int.reduceLT, Int.reduceEq, Int.reduceBEq, Int.reduceBNe, ↓reduceIte, reduceCtorEq, prnNew, prnUsed, rowW, hX]) (by simp only [go_sem, Nat.reduceAdd, Nat.reduceSub, Nat.reduceMul, Nat.reduceLT, Nat.reduceLeDiff, Nat.reduceEqDiff, Nat.reduceBEq, Int.reduceToNat, Int.reduceLE, Int.reduceLT, Int.reduceEq, Int.reduceBEq, Int.reduceBNe, ↓reduceIte, reduceCtorEq, prnNew, prnUsed, rowW, hX]) (by simp only [go_sem, Nat.reduceAdd, Nat.reduceSub, Nat.reduceMul, Nat.reduceLT, Nat.reduceLeDiff, Nat.reduceEqDiff, Nat.reduceBEq, Int.reduceToNat, Int.reduceLE, Int.reduceLT, Int.reduceEq, Int.reduceBEq, Int.reduceBNe, ↓reduceIte, reduceCtorEq, prnNew, prnUsed, rowW, hX]) (by simp only [go_sem, Nat.reduceAdd, Nat.reduceSub, Nat.reduceMul, Nat.reduceLT, Nat.reduceLeDiff, Nat.reduceEqDiff, Nat.reduceBEq, Int.reduceToNat, Int.reduceLE, Int.reduceLT, Int.reduceEq, Int.reduceBEq, Int.reduceBNe, ↓reduceIte, reduceCtorEq, prnNew, prnUsed, rowW, hX]) rfl (by rw [hX]; rfl) ?_; simp only [go_sem, Nat.reduceAdd, Nat.reduceSub, Nat.reduceMul, Nat.reduceLT, Nat.reduceLeDiff, Nat.reduceEqDiff, Nat.reduceBEq, Int.reduceToNat, Int.reduceLE, Int.reduceLT, Int.reduceEq, Int.reduceBEq, Int.reduceBNe, ↓reduceIte, reduceCtorEq, prnNew, prnUsed, rowW, hX])
 ((first | refine rwr_nil (hK _ ?_) | refine de_ (hK _ ?_)); clear hK K)
 refine au_ an0 ?_
 exact oi_ an0 (.inr rfl)
set_option maxHeartbeats 8000000 in
theorem cmd8_io (c : Cm) (hr : Rt c) (hk : c.k = 8) : ∃ un : List UInt8, un = textW [⟨#[99, 114, 101, 97, 116, 101]⟩, ⟨#[105, 110, 100, 101, 120]⟩, c.name, ⟨#[111, 110]⟩, c.other, bracT c.column] ∧ SpIO Tryz.prog 56 [.one (.optr 1000 0), vCm c] [(1000, prnNew)] (.tup []) [(1000, prnUsed 1000 162 un.length), (162, rowW (strRows (bs un)))] [1000] := by
 have q1 := hr.name
 have q2 := hr.other
 have q3 := hr.column
 have q4 := kindT_small c.ty
 have q5 := valT_small hr.v
 have q8 : (bracT c.column).size = 1 + c.column.size + 1 := by unfold bracT; rw [ByteArray.size_append, ByteArray.size_append]; rfl
 have z1 : 1 + c.column.size ≤ maxLen := by unfold maxLen; omega
 have z2 : 1 + c.column.size + 1 ≤ maxLen := by unfold maxLen; omega
 have hW0 := words_new ⟨#[99, 114, 101, 97, 116, 101]⟩ [⟨#[105, 110, 100, 101, 120]⟩, c.name, ⟨#[111, 110]⟩, c.other, bracT c.column] (by decide) (fun y hy => by
  simp only [List.mem_cons, List.not_mem_nil, or_false] at hy
  rcases hy with rfl | rfl | rfl | rfl | rfl | rfl
  all_goals first | decide | omega) (by show 6 ≤ 1000; decide)
 obtain ⟨s0, hs0⟩ : ∃ s, s = textW [⟨#[99, 114, 101, 97, 116, 101]⟩, ⟨#[105, 110, 100, 101, 120]⟩, c.name, ⟨#[111, 110]⟩, c.other, bracT c.column] := ⟨_, rfl⟩
 rw [← hs0] at hW0
 refine ⟨s0, by rw [hs0], ?_⟩
 clear hs0
 generalize kindT c.ty = kt at *
 generalize valT c.v = vt at *
 unfold bracT at hW0
 clear hr
 obtain ⟨k, name, other, column, cols, ty, v, vals, fields, ⟨k1, v1, n1, a1⟩, all, ⟨k2, v2, n2, a2⟩, order, limit⟩ := c
 dsimp only at *
 unfold vCm
 rw [rCm_mk]
 have F := kF hk
 (refine ei_ Tryz.func56 Tryz.ntmps56 Tryz.results56 fun X hX => ?_)
 have F := an3 F z1 z2
 refine au_ F ?_
 (refine rn_ 8 F fun K hK => ?_; refine rr_ F ?_)
 (refine rwr_io 40 (SpIO.ren (hW0) [(1000, 1000), (25, 162)] rfl) rfl rfl (by simp only [go_sem, Nat.reduceAdd, Nat.reduceSub, Nat.reduceMul, Nat.reduceLT, Nat.reduceLeDiff, Nat.reduceEqDiff, Nat.reduceBEq, Int.reduceToNat, Int.reduceLE, Int.reduceLT, Int.reduceEq, Int.reduceBEq, Int.reduceBNe, ↓reduceIte, reduceCtorEq, prnNew, prnUsed, rowW, hX]; exact rfl) (by simp only [go_sem, Nat.reduceAdd, Nat.reduceSub, Nat.reduceMul, Nat.reduceLT, Nat.reduceLeDiff, Nat.reduceEqDiff, Nat.reduceBEq, Int.reduceToNat, Int.reduceLE, Int.reduceLT, Int.reduceEq, Int.reduceBEq, Int.reduceBNe, ↓reduceIte, reduceCtorEq, prnNew, prnUsed, rowW, hX]) (by simp only [go_sem, Nat.reduceAdd, Nat.reduceSub, Nat.reduceMul, Nat.reduceLT, Nat.reduceLeDiff, Nat.reduceEqDiff, Nat.reduceBEq, Int.reduceToNat, Int.reduceLE, Int.reduceLT, Int.reduceEq, Int.reduceBEq, Int.reduceBNe, ↓reduceIte, reduceCtorEq, prnNew, prnUsed, rowW, hX]) (by simp only [go_sem, Nat.reduceAdd, Nat.reduceSub, Nat.reduceMul, Nat.reduceLT, Nat.reduceLeDiff, Nat.reduceEqDiff, Nat.reduceBEq, Int.reduceToNat, Int.reduceLE, Int.reduceLT, Int.reduceEq, Int.reduceBEq, Int.reduceBNe, ↓reduceIte, reduceCtorEq, prnNew, prnUsed, rowW, hX]) (by simp only [go_sem, Nat.reduceAdd, Nat.reduceSub, Nat.reduceMul, Nat.reduceLT, Nat.reduceLeDiff, Nat.reduceEqDiff, Nat.reduceBEq, Int.reduceToNat, Int.reduceLE, Int.reduceLT, Int.reduceEq, Int.reduceBEq, Int.reduceBNe, ↓reduceIte, reduceCtorEq, prnNew, prnUsed, rowW, hX]) rfl (by rw [hX]; rfl) ?_; simp only [go_sem, Nat.reduceAdd, Nat.reduceSub, Nat.reduceMul, Nat.reduceLT, Nat.reduceLeDiff, Nat.reduceEqDiff, Nat.reduceBEq, Int.reduceToNat, Int.reduceLE, Int.reduceLT, Int.reduceEq, Int.reduceBEq, Int.reduceBNe, ↓reduceIte, reduceCtorEq, prnNew, prnUsed, rowW, hX])
 ((first | refine rwr_nil (hK _ ?_) | refine de_ (hK _ ?_)); clear hK K)
 refine au_ an0 ?_
 exact oi_ an0 (.inr rfl)
end Go.Proofs.YtjdgejfhnfnmgaaGreatDoor.Ax
