import Derived.Test.YtjdgejfhnfnmgaaGreatDoorAxW
import Derived.Test.YtjdgejfhnfnmgaaGreatDoorAxSh8
namespace Go.Proofs.YtjdgejfhnfnmgaaGreatDoor.Ax
open Go.RowKit
set_option linter.unusedSimpArgs false
attribute [local go_sem] ty3 ty4 ty9 ty5 ty26 ty54 ty22 ty24 ty25 ty27 ty29 ty31 ty91 ty85 prnNew prnUsed rowW
set_option linter.unusedVariables false
set_option maxRecDepth 100000
set_option maxHeartbeats 8000000 in
theorem cmd9_io (c : Cm) (hr : Rt c) (hk : c.k = 9) : ∃ un : List UInt8, un = textW [⟨#[100, 114, 111, 112]⟩, ⟨#[105, 110, 100, 101, 120]⟩, c.name] ∧ SpIO Tryz.prog 56 [.one (.optr 1000 0), vCm c] [(1000, prnNew)] (.tup []) [(1000, prnUsed 1000 162 un.length), (162, rowW (strRows (bs un)))] [1000] := by
 have q1 := hr.name
 have q2 := hr.other
 have q3 := hr.column
 have q4 := kindT_small c.ty
 have q5 := valT_small hr.v
 have hW0 := words_new ⟨#[100, 114, 111, 112]⟩ [⟨#[105, 110, 100, 101, 120]⟩, c.name] (by decide) (fun y hy => by
  simp only [List.mem_cons, List.not_mem_nil, or_false] at hy
  rcases hy with rfl | rfl | rfl
  all_goals first | decide | omega) (by show 3 ≤ 1000; decide)
 obtain ⟨s0, hs0⟩ : ∃ s, s = textW [⟨#[100, 114, 111, 112]⟩, ⟨#[105, 110, 100, 101, 120]⟩, c.name] := ⟨_, rfl⟩
 rw [← hs0] at hW0
 refine ⟨s0, by rw [hs0], ?_⟩
 clear hs0
 generalize kindT c.ty = kt at *
 generalize valT c.v = vt at *
 clear hr
 obtain ⟨k, name, other, column, cols, ty, v, vals, fields, ⟨k1, v1, n1, a1⟩, all, ⟨k2, v2, n2, a2⟩, order, limit⟩ := c
 dsimp only at *
 unfold vCm
 rw [rCm_mk]
 have F := kF hk
 (refine ei_ Tryz.func56 Tryz.ntmps56 Tryz.results56 fun X hX => ?_)
 refine au_ F ?_
 (refine rn_ 8 an0 fun K hK => ?_; refine rr_ an0 ?_)
 (refine rwr_io 40 (SpIO.ren (hW0) [(1000, 1000), (25, 162)] rfl) rfl rfl (by simp only [go_sem, Nat.reduceAdd, Nat.reduceSub, Nat.reduceMul, Nat.reduceLT, Nat.reduceLeDiff, Nat.reduceEqDiff, Nat.reduceBEq, Int.reduceToNat, Int.reduceLE, Int.reduceLT, Int.reduceEq, Int.reduceBEq, Int.reduceBNe, ↓reduceIte, reduceCtorEq, prnNew, prnUsed, rowW, hX]; exact rfl) (by simp only [go_sem, Nat.reduceAdd, Nat.reduceSub, Nat.reduceMul, Nat.reduceLT, Nat.reduceLeDiff, Nat.reduceEqDiff, Nat.reduceBEq, Int.reduceToNat, Int.reduceLE, Int.reduceLT, Int.reduceEq, Int.reduceBEq, Int.reduceBNe, ↓reduceIte, reduceCtorEq, prnNew, prnUsed, rowW, hX]) (by simp only [go_sem, Nat.reduceAdd, Nat.reduceSub, Nat.reduceMul, Nat.reduceLT, Nat.reduceLeDiff, Nat.reduceEqDiff, Nat.reduceBEq, Int.reduceToNat, Int.reduceLE, Int.reduceLT, Int.reduceEq, Int.reduceBEq, Int.reduceBNe, ↓reduceIte, reduceCtorEq, prnNew, prnUsed, rowW, hX]) (by simp only [go_sem, Nat.reduceAdd, Nat.reduceSub, Nat.reduceMul, Nat.reduceLT, Nat.reduceLeDiff, Nat.reduceEqDiff, Nat.reduceBEq, Int.reduceToNat, Int.reduceLE, Int.reduceLT, Int.reduceEq, Int.reduceBEq, Int.reduceBNe, ↓reduceIte, reduceCtorEq, prnNew, prnUsed, rowW, hX]) (by simp only [go_sem, Nat.reduceAdd, Nat.reduceSub, Nat.reduceMul, Nat.reduceLT, Nat.reduceLeDiff, Nat.reduceEqDiff, Nat.reduceBEq, Int.reduceToNat, Int.reduceLE, Int.reduceLT, Int.reduceEq, Int.reduceBEq, Int.reduceBNe, ↓reduceIte, reduceCtorEq, prnNew, prnUsed, rowW, hX]) rfl (by rw [hX]; rfl) ?_; simp only [go_sem, Nat.reduceAdd, Nat.reduceSub, Nat.reduceMul, Nat.reduceLT, Nat.reduceLeDiff, Nat.reduceEqDiff, Nat.reduceBEq, Int.reduceToNat, Int.reduceLE, Int.reduceLT, Int.reduceEq, Int.reduceBEq, Int.reduceBNe, ↓reduceIte, reduceCtorEq, prnNew, prnUsed, rowW, hX])
 ((first | refine rwr_nil (hK _ ?_) | refine de_ (hK _ ?_)); clear hK K)
 refine au_ an0 ?_
 exact oi_ an0 (.inr rfl)
set_option maxHeartbeats 8000000 in
theorem cmd10_io (c : Cm) (hr : Rt c) (hk : c.k = 10) : ∃ un : List UInt8, un = textW [⟨#[105, 110, 115, 101, 114, 116]⟩, ⟨#[105, 110, 116, 111]⟩, c.name, ⟨#[118, 97, 108, 117, 101, 115]⟩, listT (c.vals.map valT)] ∧ SpIO Tryz.prog 56 [.one (.optr 1000 0), vCm c] [(1000, prnNew)] (.tup []) [(1000, prnUsed 1000 162 un.length), (162, rowW (strRows (bs un)))] [1000] := by
 have q1 := hr.name
 have q2 := hr.other
 have q3 := hr.column
 have q4 := kindT_small c.ty
 have q5 := valT_small hr.v
 have q6 := vals_comma hr
 have q7 := listT_size (c.vals.map valT)
 have hLv := listVl_sp c.vals hr.vals hr.valOk (by omega)
 have hW0 := words_new ⟨#[105, 110, 115, 101, 114, 116]⟩ [⟨#[105, 110, 116, 111]⟩, c.name, ⟨#[118, 97, 108, 117, 101, 115]⟩, listT (c.vals.map valT)] (by decide) (fun y hy => by
  simp only [List.mem_cons, List.not_mem_nil, or_false] at hy
  rcases hy with rfl | rfl | rfl | rfl | rfl
  all_goals first | decide | omega) (by show 5 ≤ 1000; decide)
 obtain ⟨s0, hs0⟩ : ∃ s, s = textW [⟨#[105, 110, 115, 101, 114, 116]⟩, ⟨#[105, 110, 116, 111]⟩, c.name, ⟨#[118, 97, 108, 117, 101, 115]⟩, listT (c.vals.map valT)] := ⟨_, rfl⟩
 rw [← hs0] at hW0
 refine ⟨s0, by rw [hs0], ?_⟩
 clear hs0
 generalize listT (c.vals.map valT) = lt at *
 generalize kindT c.ty = kt at *
 generalize valT c.v = vt at *
 clear hr
 obtain ⟨k, name, other, column, cols, ty, v, vals, fields, ⟨k1, v1, n1, a1⟩, all, ⟨k2, v2, n2, a2⟩, order, limit⟩ := c
 dsimp only at *
 unfold vCm
 rw [rCm_mk]
 have F := kF hk
 (refine ei_ Tryz.func56 Tryz.ntmps56 Tryz.results56 fun X hX => ?_)
 refine au_ F ?_
 (refine dr_ 0 an0 fun K hK => ?_)
 refine dx_ an0 ?_
 (refine di_ 0 an0 (SpIO.ren (hW0) [(1000, 1000), (25, 162)] rfl) ?_)
 (refine de_ (hK _ ?_); clear hK K)
 refine au_ an0 ?_
 exact oi_ an0 (.inr rfl)
set_option maxHeartbeats 8000000 in
theorem cmd11_io (c : Cm) (hr : Rt c) (hk : c.k = 11) : ∃ tw : ByteArray, (c.all = false → ∃ g : Gx, g.ex = c.wh ∧ g.ok ∧ (gT g).size ≤ 30300 ∧ tw = gT g) ∧ tw.size ≤ 30300 ∧ ∃ un : List UInt8, un = textW [⟨#[100, 101, 108, 101, 116, 101]⟩, ⟨#[102, 114, 111, 109]⟩, c.name] ++ wordsT (whereW c tw) ∧ SpIO Tryz.prog 56 [.one (.optr 1000 0), vCm c] [(1000, prnNew)] (.tup []) [(1000, prnUsed 1000 162 un.length), (162, rowW (strRows (bs un)))] [1000] := by
 have q1 := hr.name
 have q2 := hr.other
 have q3 := hr.column
 have q4 := kindT_small c.ty
 have q5 := valT_small hr.v
 have hW0 := words_new ⟨#[100, 101, 108, 101, 116, 101]⟩ [⟨#[102, 114, 111, 109]⟩, c.name] (by decide) (fun y hy => by
  simp only [List.mem_cons, List.not_mem_nil, or_false] at hy
  rcases hy with rfl | rfl | rfl
  all_goals first | decide | omega) (by show 3 ≤ 1000; decide)
 obtain ⟨s0, hs0⟩ : ∃ s, s = textW [⟨#[100, 101, 108, 101, 116, 101]⟩, ⟨#[102, 114, 111, 109]⟩, c.name] := ⟨_, rfl⟩
 rw [← hs0] at hW0
 have hb0 : 0 < s0.length ∧ s0.length ≤ 100000 := by
  rw [hs0]
  simp only [textW, wordsT, List.length_append, List.length_cons, List.length_nil, siz_]
  have : ∀ s : ByteArray, s.data.toList.length = s.size := fun _ => rfl
  simp only [this]
  refine ⟨?_, ?_⟩ <;> (try simp only [siz_lit]) <;> omega
 obtain ⟨tw, htw, htz, hW1⟩ := where_io s0 c (hr.wh (by rw [hk]; rfl)) hb0.1 (by omega)
 obtain ⟨s1, hs1⟩ : ∃ s, s = s0 ++ wordsT (whereW c tw) := ⟨_, rfl⟩
 rw [← hs1] at hW1
 refine ⟨tw, htw, htz, s1, by rw [hs1, hs0], ?_⟩
 clear htw
 clear hs0 hs1
 generalize kindT c.ty = kt at *
 generalize valT c.v = vt at *
 clear hr
 obtain ⟨k, name, other, column, cols, ty, v, vals, fields, ⟨k1, v1, n1, a1⟩, all, ⟨k2, v2, n2, a2⟩, order, limit⟩ := c
 dsimp only at *
 unfold vCm at hW1 ⊢
 rw [rCm_mk] at hW1 ⊢
 have F := kF hk
 (refine ei_ Tryz.func56 Tryz.ntmps56 Tryz.results56 fun X hX => ?_)
 refine au_ F ?_
 (refine rn_ 8 an0 fun K hK => ?_; refine rr_ an0 ?_)
 (refine rwr_io 40 (SpIO.ren (hW0) [(1000, 1000), (25, 162)] rfl) rfl rfl (by simp only [go_sem, Nat.reduceAdd, Nat.reduceSub, Nat.reduceMul, Nat.reduceLT, Nat.reduceLeDiff, Nat.reduceEqDiff, Nat.reduceBEq, Int.reduceToNat, Int.reduceLE, Int.reduceLT, Int.reduceEq, Int.reduceBEq, Int.reduceBNe, ↓reduceIte, reduceCtorEq, prnNew, prnUsed, rowW, hX]; exact rfl) (by simp only [go_sem, Nat.reduceAdd, Nat.reduceSub, Nat.reduceMul, Nat.reduceLT, Nat.reduceLeDiff, Nat.reduceEqDiff, Nat.reduceBEq, Int.reduceToNat, Int.reduceLE, Int.reduceLT, Int.reduceEq, Int.reduceBEq, Int.reduceBNe, ↓reduceIte, reduceCtorEq, prnNew, prnUsed, rowW, hX]) (by simp only [go_sem, Nat.reduceAdd, Nat.reduceSub, Nat.reduceMul, Nat.reduceLT, Nat.reduceLeDiff, Nat.reduceEqDiff, Nat.reduceBEq, Int.reduceToNat, Int.reduceLE, Int.reduceLT, Int.reduceEq, Int.reduceBEq, Int.reduceBNe, ↓reduceIte, reduceCtorEq, prnNew, prnUsed, rowW, hX]) (by simp only [go_sem, Nat.reduceAdd, Nat.reduceSub, Nat.reduceMul, Nat.reduceLT, Nat.reduceLeDiff, Nat.reduceEqDiff, Nat.reduceBEq, Int.reduceToNat, Int.reduceLE, Int.reduceLT, Int.reduceEq, Int.reduceBEq, Int.reduceBNe, ↓reduceIte, reduceCtorEq, prnNew, prnUsed, rowW, hX]) (by simp only [go_sem, Nat.reduceAdd, Nat.reduceSub, Nat.reduceMul, Nat.reduceLT, Nat.reduceLeDiff, Nat.reduceEqDiff, Nat.reduceBEq, Int.reduceToNat, Int.reduceLE, Int.reduceLT, Int.reduceEq, Int.reduceBEq, Int.reduceBNe, ↓reduceIte, reduceCtorEq, prnNew, prnUsed, rowW, hX]) rfl (by rw [hX]; rfl) ?_; simp only [go_sem, Nat.reduceAdd, Nat.reduceSub, Nat.reduceMul, Nat.reduceLT, Nat.reduceLeDiff, Nat.reduceEqDiff, Nat.reduceBEq, Int.reduceToNat, Int.reduceLE, Int.reduceLT, Int.reduceEq, Int.reduceBEq, Int.reduceBNe, ↓reduceIte, reduceCtorEq, prnNew, prnUsed, rowW, hX])
 ((first | refine rwr_nil (hK _ ?_) | refine de_ (hK _ ?_)); clear hK K)
 refine gs_ ?_
 (refine rn_ 8 an0 fun K hK => ?_; refine rr_ an0 ?_)
 (refine rwr_io 40 (SpIO.ren (hW1) [(1000, 1000), (1001, 162)] rfl) rfl rfl (by simp only [go_sem, Nat.reduceAdd, Nat.reduceSub, Nat.reduceMul, Nat.reduceLT, Nat.reduceLeDiff, Nat.reduceEqDiff, Nat.reduceBEq, Int.reduceToNat, Int.reduceLE, Int.reduceLT, Int.reduceEq, Int.reduceBEq, Int.reduceBNe, ↓reduceIte, reduceCtorEq, prnNew, prnUsed, rowW, hX]; exact rfl) (by simp only [go_sem, Nat.reduceAdd, Nat.reduceSub, Nat.reduceMul, Nat.reduceLT, Nat.reduceLeDiff, Nat.reduceEqDiff, Nat.reduceBEq, Int.reduceToNat, Int.reduceLE, Int.reduceLT, Int.reduceEq, Int.reduceBEq, Int.reduceBNe, ↓reduceIte, reduceCtorEq, prnNew, prnUsed, rowW, hX]) (by simp only [go_sem, Nat.reduceAdd, Nat.reduceSub, Nat.reduceMul, Nat.reduceLT, Nat.reduceLeDiff, Nat.reduceEqDiff, Nat.reduceBEq, Int.reduceToNat, Int.reduceLE, Int.reduceLT, Int.reduceEq, Int.reduceBEq, Int.reduceBNe, ↓reduceIte, reduceCtorEq, prnNew, prnUsed, rowW, hX]) (by simp only [go_sem, Nat.reduceAdd, Nat.reduceSub, Nat.reduceMul, Nat.reduceLT, Nat.reduceLeDiff, Nat.reduceEqDiff, Nat.reduceBEq, Int.reduceToNat, Int.reduceLE, Int.reduceLT, Int.reduceEq, Int.reduceBEq, Int.reduceBNe, ↓reduceIte, reduceCtorEq, prnNew, prnUsed, rowW, hX]) (by simp only [go_sem, Nat.reduceAdd, Nat.reduceSub, Nat.reduceMul, Nat.reduceLT, Nat.reduceLeDiff, Nat.reduceEqDiff, Nat.reduceBEq, Int.reduceToNat, Int.reduceLE, Int.reduceLT, Int.reduceEq, Int.reduceBEq, Int.reduceBNe, ↓reduceIte, reduceCtorEq, prnNew, prnUsed, rowW, hX]) rfl (by rw [hX]; rfl) ?_; simp only [go_sem, Nat.reduceAdd, Nat.reduceSub, Nat.reduceMul, Nat.reduceLT, Nat.reduceLeDiff, Nat.reduceEqDiff, Nat.reduceBEq, Int.reduceToNat, Int.reduceLE, Int.reduceLT, Int.reduceEq, Int.reduceBEq, Int.reduceBNe, ↓reduceIte, reduceCtorEq, prnNew, prnUsed, rowW, hX])
 ((first | refine rwr_nil (hK _ ?_) | refine de_ (hK _ ?_)); clear hK K)
 refine au_ an0 ?_
 exact oi_ an0 (.inr rfl)
set_option maxHeartbeats 8000000 in
theorem cmd12_io (c : Cm) (hr : Rt c) (hk : c.k = 12) (te : ByteArray) (g : Gx) (hge : g.ex = c.ex) (hgo : g.ok) (hgz : (gT g).size ≤ 30300) (hte : te = gT g) : ∃ tw : ByteArray, (c.all = false → ∃ g : Gx, g.ex = c.wh ∧ g.ok ∧ (gT g).size ≤ 30300 ∧ tw = gT g) ∧ tw.size ≤ 30300 ∧ ∃ un : List UInt8, un = textW [⟨#[117, 112, 100, 97, 116, 101]⟩, c.name, ⟨#[115, 101, 116]⟩, c.column, ⟨#[61]⟩, te] ++ wordsT (whereW c tw) ∧ SpIO Tryz.prog 56 [.one (.optr 1000 0), vCm c] [(1000, prnNew)] (.tup []) [(1000, prnUsed 1000 162 un.length), (162, rowW (strRows (bs un)))] [1000] := by
 have q1 := hr.name
 have q2 := hr.other
 have q3 := hr.column
 have q4 := kindT_small c.ty
 have q5 := valT_small hr.v
 have hE := sexpr_sp g hgo (by unfold maxLen; omega)
 rw [← hte] at hE hgz
 have hW0 := words_new ⟨#[117, 112, 100, 97, 116, 101]⟩ [c.name, ⟨#[115, 101, 116]⟩, c.column, ⟨#[61]⟩, te] (by decide) (fun y hy => by
  simp only [List.mem_cons, List.not_mem_nil, or_false] at hy
  rcases hy with rfl | rfl | rfl | rfl | rfl | rfl
  all_goals first | decide | omega) (by show 6 ≤ 1000; decide)
 obtain ⟨s0, hs0⟩ : ∃ s, s = textW [⟨#[117, 112, 100, 97, 116, 101]⟩, c.name, ⟨#[115, 101, 116]⟩, c.column, ⟨#[61]⟩, te] := ⟨_, rfl⟩
 rw [← hs0] at hW0
 have hb0 : 0 < s0.length ∧ s0.length ≤ 100000 := by
  rw [hs0]
  simp only [textW, wordsT, List.length_append, List.length_cons, List.length_nil, siz_]
  have : ∀ s : ByteArray, s.data.toList.length = s.size := fun _ => rfl
  simp only [this]
  refine ⟨?_, ?_⟩ <;> (try simp only [siz_lit]) <;> omega
 obtain ⟨tw, htw, htz, hW1⟩ := where_io s0 c (hr.wh (by rw [hk]; rfl)) hb0.1 (by omega)
 obtain ⟨s1, hs1⟩ : ∃ s, s = s0 ++ wordsT (whereW c tw) := ⟨_, rfl⟩
 rw [← hs1] at hW1
 refine ⟨tw, htw, htz, s1, by rw [hs1, hs0], ?_⟩
 clear htw
 clear hs0 hs1
 generalize kindT c.ty = kt at *
 generalize valT c.v = vt at *
 clear hr
 rw [hge] at hE
 clear hge hte
 obtain ⟨k, name, other, column, cols, ty, v, vals, fields, ⟨k1, v1, n1, a1⟩, all, ⟨k2, v2, n2, a2⟩, order, limit⟩ := c
 dsimp only at *
 rw [rE_mk] at hE
 unfold vCm at hW1 ⊢
 rw [rCm_mk] at hW1 ⊢
 have F := kF hk
 (refine ei_ Tryz.func56 Tryz.ntmps56 Tryz.results56 fun X hX => ?_)
 refine au_ F ?_
 (refine dr_ 0 an0 fun K hK => ?_)
 refine dx_ an0 ?_
 (refine di_ 0 an0 (SpIO.ren (hW0) [(1000, 1000), (25, 162)] rfl) ?_)
 (refine de_ (hK _ ?_); clear hK K)
 refine gs_ ?_
 (refine rn_ 8 an0 fun K hK => ?_; refine rr_ an0 ?_)
 (refine rwr_io 40 (SpIO.ren (hW1) [(1000, 1000), (1001, 162)] rfl) rfl rfl (by simp only [go_sem, Nat.reduceAdd, Nat.reduceSub, Nat.reduceMul, Nat.reduceLT, Nat.reduceLeDiff, Nat.reduceEqDiff, Nat.reduceBEq, Int.reduceToNat, Int.reduceLE, Int.reduceLT, Int.reduceEq, Int.reduceBEq, Int.reduceBNe, ↓reduceIte, reduceCtorEq, prnNew, prnUsed, rowW, hX]; exact rfl) (by simp only [go_sem, Nat.reduceAdd, Nat.reduceSub, Nat.reduceMul, Nat.reduceLT, Nat.reduceLeDiff, Nat.reduceEqDiff, Nat.reduceBEq, Int.reduceToNat, Int.reduceLE, Int.reduceLT, Int.reduceEq, Int.reduceBEq, Int.reduceBNe, ↓reduceIte, reduceCtorEq, prnNew, prnUsed, rowW, hX]) (by simp only [go_sem, Nat.reduceAdd, Nat.reduceSub, Nat.reduceMul, Nat.reduceLT, Nat.reduceLeDiff, Nat.reduceEqDiff, Nat.reduceBEq, Int.reduceToNat, Int.reduceLE, Int.reduceLT, Int.reduceEq, Int.reduceBEq, Int.reduceBNe, ↓reduceIte, reduceCtorEq, prnNew, prnUsed, rowW, hX]) (by simp only [go_sem, Nat.reduceAdd, Nat.reduceSub, Nat.reduceMul, Nat.reduceLT, Nat.reduceLeDiff, Nat.reduceEqDiff, Nat.reduceBEq, Int.reduceToNat, Int.reduceLE, Int.reduceLT, Int.reduceEq, Int.reduceBEq, Int.reduceBNe, ↓reduceIte, reduceCtorEq, prnNew, prnUsed, rowW, hX]) (by simp only [go_sem, Nat.reduceAdd, Nat.reduceSub, Nat.reduceMul, Nat.reduceLT, Nat.reduceLeDiff, Nat.reduceEqDiff, Nat.reduceBEq, Int.reduceToNat, Int.reduceLE, Int.reduceLT, Int.reduceEq, Int.reduceBEq, Int.reduceBNe, ↓reduceIte, reduceCtorEq, prnNew, prnUsed, rowW, hX]) rfl (by rw [hX]; rfl) ?_; simp only [go_sem, Nat.reduceAdd, Nat.reduceSub, Nat.reduceMul, Nat.reduceLT, Nat.reduceLeDiff, Nat.reduceEqDiff, Nat.reduceBEq, Int.reduceToNat, Int.reduceLE, Int.reduceLT, Int.reduceEq, Int.reduceBEq, Int.reduceBNe, ↓reduceIte, reduceCtorEq, prnNew, prnUsed, rowW, hX])
 ((first | refine rwr_nil (hK _ ?_) | refine de_ (hK _ ?_)); clear hK K)
 refine au_ an0 ?_
 exact oi_ an0 (.inr rfl)
set_option maxHeartbeats 8000000 in
theorem cmd14_io (c : Cm) (hr : Rt c) (hk : c.k = 14) : ∃ un : List UInt8, un = textW [⟨#[98, 101, 103, 105, 110]⟩] ∧ SpIO Tryz.prog 56 [.one (.optr 1000 0), vCm c] [(1000, prnNew)] (.tup []) [(1000, prnUsed 1000 162 un.length), (162, rowW (strRows (bs un)))] [1000] := by
 have q1 := hr.name
 have q2 := hr.other
 have q3 := hr.column
 have q4 := kindT_small c.ty
 have q5 := valT_small hr.v
 have hW0 := words_new ⟨#[98, 101, 103, 105, 110]⟩ [] (by decide) (fun y hy => by
  simp only [List.mem_cons, List.not_mem_nil, or_false] at hy
  rcases hy with rfl
  all_goals first | decide | omega) (by show 1 ≤ 1000; decide)
 obtain ⟨s0, hs0⟩ : ∃ s, s = textW [⟨#[98, 101, 103, 105, 110]⟩] := ⟨_, rfl⟩
 rw [← hs0] at hW0
 refine ⟨s0, by rw [hs0], ?_⟩
 clear hs0
 generalize kindT c.ty = kt at *
 generalize valT c.v = vt at *
 clear hr
 obtain ⟨k, name, other, column, cols, ty, v, vals, fields, ⟨k1, v1, n1, a1⟩, all, ⟨k2, v2, n2, a2⟩, order, limit⟩ := c
 dsimp only at *
 unfold vCm
 rw [rCm_mk]
 have F := kF hk
 (refine ei_ Tryz.func56 Tryz.ntmps56 Tryz.results56 fun X hX => ?_)
 refine au_ F ?_
 (refine rn_ 8 an0 fun K hK => ?_; refine rr_ an0 ?_)
 (refine rwr_io 40 (SpIO.ren (hW0) [(1000, 1000), (25, 162)] rfl) rfl rfl (by simp only [go_sem, Nat.reduceAdd, Nat.reduceSub, Nat.reduceMul, Nat.reduceLT, Nat.reduceLeDiff, Nat.reduceEqDiff, Nat.reduceBEq, Int.reduceToNat, Int.reduceLE, Int.reduceLT, Int.reduceEq, Int.reduceBEq, Int.reduceBNe, ↓reduceIte, reduceCtorEq, prnNew, prnUsed, rowW, hX]; exact rfl) (by simp only [go_sem, Nat.reduceAdd, Nat.reduceSub, Nat.reduceMul, Nat.reduceLT, Nat.reduceLeDiff, Nat.reduceEqDiff, Nat.reduceBEq, Int.reduceToNat, Int.reduceLE, Int.reduceLT, Int.reduceEq, Int.reduceBEq, Int.reduceBNe, ↓reduceIte, reduceCtorEq, prnNew, prnUsed, rowW, hX]) (by simp only [go_sem, Nat.reduceAdd, Nat.reduceSub, Nat.reduceMul, Nat.reduceLT, Nat.reduceLeDiff, Nat.reduceEqDiff, Nat.reduceBEq, Int.reduceToNat, Int.reduceLE, Int.reduceLT, Int.reduceEq, Int.reduceBEq, Int.reduceBNe, ↓reduceIte, reduceCtorEq, prnNew, prnUsed, rowW, hX]) (by simp only [go_sem, Nat.reduceAdd, Nat.reduceSub, Nat.reduceMul, Nat.reduceLT, Nat.reduceLeDiff, Nat.reduceEqDiff, Nat.reduceBEq, Int.reduceToNat, Int.reduceLE, Int.reduceLT, Int.reduceEq, Int.reduceBEq, Int.reduceBNe, ↓reduceIte, reduceCtorEq, prnNew, prnUsed, rowW, hX]) (by simp only [go_sem, Nat.reduceAdd, Nat.reduceSub, Nat.reduceMul, Nat.reduceLT, Nat.reduceLeDiff, Nat.reduceEqDiff, Nat.reduceBEq, Int.reduceToNat, Int.reduceLE, Int.reduceLT, Int.reduceEq, Int.reduceBEq, Int.reduceBNe, ↓reduceIte, reduceCtorEq, prnNew, prnUsed, rowW, hX]) rfl (by rw [hX]; rfl) ?_; simp only [go_sem, Nat.reduceAdd, Nat.reduceSub, Nat.reduceMul, Nat.reduceLT, Nat.reduceLeDiff, Nat.reduceEqDiff, Nat.reduceBEq, Int.reduceToNat, Int.reduceLE, Int.reduceLT, Int.reduceEq, Int.reduceBEq, Int.reduceBNe, ↓reduceIte, reduceCtorEq, prnNew, prnUsed, rowW, hX])
 ((first | refine rwr_nil (hK _ ?_) | refine de_ (hK _ ?_)); clear hK K)
 refine au_ an0 ?_
 exact oi_ an0 (.inr rfl)
set_option maxHeartbeats 8000000 in
theorem cmd15_io (c : Cm) (hr : Rt c) (hk : c.k = 15) : ∃ un : List UInt8, un = textW [⟨#[99, 111, 109, 109, 105, 116]⟩] ∧ SpIO Tryz.prog 56 [.one (.optr 1000 0), vCm c] [(1000, prnNew)] (.tup []) [(1000, prnUsed 1000 162 un.length), (162, rowW (strRows (bs un)))] [1000] := by
 have q1 := hr.name
 have q2 := hr.other
 have q3 := hr.column
 have q4 := kindT_small c.ty
 have q5 := valT_small hr.v
 have hW0 := words_new ⟨#[99, 111, 109, 109, 105, 116]⟩ [] (by decide) (fun y hy => by
  simp only [List.mem_cons, List.not_mem_nil, or_false] at hy
  rcases hy with rfl
  all_goals first | decide | omega) (by show 1 ≤ 1000; decide)
 obtain ⟨s0, hs0⟩ : ∃ s, s = textW [⟨#[99, 111, 109, 109, 105, 116]⟩] := ⟨_, rfl⟩
 rw [← hs0] at hW0
 refine ⟨s0, by rw [hs0], ?_⟩
 clear hs0
 generalize kindT c.ty = kt at *
 generalize valT c.v = vt at *
 clear hr
 obtain ⟨k, name, other, column, cols, ty, v, vals, fields, ⟨k1, v1, n1, a1⟩, all, ⟨k2, v2, n2, a2⟩, order, limit⟩ := c
 dsimp only at *
 unfold vCm
 rw [rCm_mk]
 have F := kF hk
 (refine ei_ Tryz.func56 Tryz.ntmps56 Tryz.results56 fun X hX => ?_)
 refine au_ F ?_
 (refine rn_ 8 an0 fun K hK => ?_; refine rr_ an0 ?_)
 (refine rwr_io 40 (SpIO.ren (hW0) [(1000, 1000), (25, 162)] rfl) rfl rfl (by simp only [go_sem, Nat.reduceAdd, Nat.reduceSub, Nat.reduceMul, Nat.reduceLT, Nat.reduceLeDiff, Nat.reduceEqDiff, Nat.reduceBEq, Int.reduceToNat, Int.reduceLE, Int.reduceLT, Int.reduceEq, Int.reduceBEq, Int.reduceBNe, ↓reduceIte, reduceCtorEq, prnNew, prnUsed, rowW, hX]; exact rfl) (by simp only [go_sem, Nat.reduceAdd, Nat.reduceSub, Nat.reduceMul, Nat.reduceLT, Nat.reduceLeDiff, Nat.reduceEqDiff, Nat.reduceBEq, Int.reduceToNat, Int.reduceLE, Int.reduceLT, Int.reduceEq, Int.reduceBEq, Int.reduceBNe, ↓reduceIte, reduceCtorEq, prnNew, prnUsed, rowW, hX]) (by simp only [go_sem, Nat.reduceAdd, Nat.reduceSub, Nat.reduceMul, Nat.reduceLT, Nat.reduceLeDiff, Nat.reduceEqDiff, Nat.reduceBEq, Int.reduceToNat, Int.reduceLE, Int.reduceLT, Int.reduceEq, Int.reduceBEq, Int.reduceBNe, ↓reduceIte, reduceCtorEq, prnNew, prnUsed, rowW, hX]) (by simp only [go_sem, Nat.reduceAdd, Nat.reduceSub, Nat.reduceMul, Nat.reduceLT, Nat.reduceLeDiff, Nat.reduceEqDiff, Nat.reduceBEq, Int.reduceToNat, Int.reduceLE, Int.reduceLT, Int.reduceEq, Int.reduceBEq, Int.reduceBNe, ↓reduceIte, reduceCtorEq, prnNew, prnUsed, rowW, hX]) (by simp only [go_sem, Nat.reduceAdd, Nat.reduceSub, Nat.reduceMul, Nat.reduceLT, Nat.reduceLeDiff, Nat.reduceEqDiff, Nat.reduceBEq, Int.reduceToNat, Int.reduceLE, Int.reduceLT, Int.reduceEq, Int.reduceBEq, Int.reduceBNe, ↓reduceIte, reduceCtorEq, prnNew, prnUsed, rowW, hX]) rfl (by rw [hX]; rfl) ?_; simp only [go_sem, Nat.reduceAdd, Nat.reduceSub, Nat.reduceMul, Nat.reduceLT, Nat.reduceLeDiff, Nat.reduceEqDiff, Nat.reduceBEq, Int.reduceToNat, Int.reduceLE, Int.reduceLT, Int.reduceEq, Int.reduceBEq, Int.reduceBNe, ↓reduceIte, reduceCtorEq, prnNew, prnUsed, rowW, hX])
 ((first | refine rwr_nil (hK _ ?_) | refine de_ (hK _ ?_)); clear hK K)
 refine au_ an0 ?_
 exact oi_ an0 (.inr rfl)
set_option maxHeartbeats 8000000 in
theorem cmd16_io (c : Cm) (hr : Rt c) (hk : c.k = 16) : ∃ un : List UInt8, un = textW [⟨#[114, 111, 108, 108, 98, 97, 99, 107]⟩] ∧ SpIO Tryz.prog 56 [.one (.optr 1000 0), vCm c] [(1000, prnNew)] (.tup []) [(1000, prnUsed 1000 162 un.length), (162, rowW (strRows (bs un)))] [1000] := by
 have q1 := hr.name
 have q2 := hr.other
 have q3 := hr.column
 have q4 := kindT_small c.ty
 have q5 := valT_small hr.v
 have hW0 := words_new ⟨#[114, 111, 108, 108, 98, 97, 99, 107]⟩ [] (by decide) (fun y hy => by
  simp only [List.mem_cons, List.not_mem_nil, or_false] at hy
  rcases hy with rfl
  all_goals first | decide | omega) (by show 1 ≤ 1000; decide)
 obtain ⟨s0, hs0⟩ : ∃ s, s = textW [⟨#[114, 111, 108, 108, 98, 97, 99, 107]⟩] := ⟨_, rfl⟩
 rw [← hs0] at hW0
 refine ⟨s0, by rw [hs0], ?_⟩
 clear hs0
 generalize kindT c.ty = kt at *
 generalize valT c.v = vt at *
 clear hr
 obtain ⟨k, name, other, column, cols, ty, v, vals, fields, ⟨k1, v1, n1, a1⟩, all, ⟨k2, v2, n2, a2⟩, order, limit⟩ := c
 dsimp only at *
 unfold vCm
 rw [rCm_mk]
 have F := kF hk
 (refine ei_ Tryz.func56 Tryz.ntmps56 Tryz.results56 fun X hX => ?_)
 refine au_ F ?_
 (refine rn_ 8 an0 fun K hK => ?_; refine rr_ an0 ?_)
 (refine rwr_io 40 (SpIO.ren (hW0) [(1000, 1000), (25, 162)] rfl) rfl rfl (by simp only [go_sem, Nat.reduceAdd, Nat.reduceSub, Nat.reduceMul, Nat.reduceLT, Nat.reduceLeDiff, Nat.reduceEqDiff, Nat.reduceBEq, Int.reduceToNat, Int.reduceLE, Int.reduceLT, Int.reduceEq, Int.reduceBEq, Int.reduceBNe, ↓reduceIte, reduceCtorEq, prnNew, prnUsed, rowW, hX]; exact rfl) (by simp only [go_sem, Nat.reduceAdd, Nat.reduceSub, Nat.reduceMul, Nat.reduceLT, Nat.reduceLeDiff, Nat.reduceEqDiff, Nat.reduceBEq, Int.reduceToNat, Int.reduceLE, Int.reduceLT, Int.reduceEq, Int.reduceBEq, Int.reduceBNe, ↓reduceIte, reduceCtorEq, prnNew, prnUsed, rowW, hX]) (by simp only [go_sem, Nat.reduceAdd, Nat.reduceSub, Nat.reduceMul, Nat.reduceLT, Nat.reduceLeDiff, Nat.reduceEqDiff, Nat.reduceBEq, Int.reduceToNat, Int.reduceLE, Int.reduceLT, Int.reduceEq, Int.reduceBEq, Int.reduceBNe, ↓reduceIte, reduceCtorEq, prnNew, prnUsed, rowW, hX]) (by simp only [go_sem, Nat.reduceAdd, Nat.reduceSub, Nat.reduceMul, Nat.reduceLT, Nat.reduceLeDiff, Nat.reduceEqDiff, Nat.reduceBEq, Int.reduceToNat, Int.reduceLE, Int.reduceLT, Int.reduceEq, Int.reduceBEq, Int.reduceBNe, ↓reduceIte, reduceCtorEq, prnNew, prnUsed, rowW, hX]) (by simp only [go_sem, Nat.reduceAdd, Nat.reduceSub, Nat.reduceMul, Nat.reduceLT, Nat.reduceLeDiff, Nat.reduceEqDiff, Nat.reduceBEq, Int.reduceToNat, Int.reduceLE, Int.reduceLT, Int.reduceEq, Int.reduceBEq, Int.reduceBNe, ↓reduceIte, reduceCtorEq, prnNew, prnUsed, rowW, hX]) rfl (by rw [hX]; rfl) ?_; simp only [go_sem, Nat.reduceAdd, Nat.reduceSub, Nat.reduceMul, Nat.reduceLT, Nat.reduceLeDiff, Nat.reduceEqDiff, Nat.reduceBEq, Int.reduceToNat, Int.reduceLE, Int.reduceLT, Int.reduceEq, Int.reduceBEq, Int.reduceBNe, ↓reduceIte, reduceCtorEq, prnNew, prnUsed, rowW, hX])
 ((first | refine rwr_nil (hK _ ?_) | refine de_ (hK _ ?_)); clear hK K)
 refine au_ an0 ?_
 exact oi_ an0 (.inr rfl)
end Go.Proofs.YtjdgejfhnfnmgaaGreatDoor.Ax
