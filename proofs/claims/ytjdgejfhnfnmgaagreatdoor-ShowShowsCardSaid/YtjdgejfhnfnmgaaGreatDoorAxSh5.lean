import Derived.Test.YtjdgejfhnfnmgaaGreatDoorAxW
import Derived.Test.YtjdgejfhnfnmgaaGreatDoorM23
import Derived.Test.YtjdgejfhnfnmgaaGreatDoorM27
namespace Go.Proofs.YtjdgejfhnfnmgaaGreatDoor.Ax
open Go.RowKit
set_option linter.unusedSimpArgs false
attribute [local go_sem] ty3 ty4 ty9 ty5 ty26 ty91 ty85 ty86 prnNew prnUsed rowW
set_option linter.unusedVariables false
set_option maxRecDepth 100000
theorem bs_data (s : ByteArray) : bs s.data.toList = s := by
 apply ByteArray.ext
 simp [bs]
theorem strRows_bs (a : List UInt8) (s : ByteArray) : strRows (bs a) ++ strRows s = strRows (bs (a ++ s.data.toList)) := by
 rw [strRowsP_append, ← bs_put]
theorem strRows_blank (a : List UInt8) : strRows (bs a) ++ [[.lit (.int .u8 32)]] = strRows (bs (a ++ [32])) := by
 rw [← bs_put a ⟨#[32]⟩, ← strRowsP_append]
 rfl
theorem strRows_bsl (a : List UInt8) : (strRows (bs a)).length = a.length := by rw [strRows_len, bs_size]
theorem wordsT_take {L : List ByteArray} {k : Nat} {x : ByteArray} (h : L[k]? = some x) : wordsT (L.take (k + 1)) = wordsT (L.take k) ++ [32] ++ x.data.toList := by
 obtain ⟨hk, rfl⟩ := List.getElem?_eq_some_iff.1 h
 rw [List.take_succ_eq_append_getElem hk, wordsT_append, List.append_assoc, wordsT, wordsT, List.append_nil]
 rfl
theorem wordsT_len : ∀ {L : List ByteArray}, (∀ y ∈ L, y.size ≤ 100000) → (wordsT L).length ≤ L.length * 100001
 | [], _ => Nat.zero_le _
 | x :: l, h => by
  have h1 := h x List.mem_cons_self
  have h2 := wordsT_len fun y hy => h y (List.mem_cons_of_mem _ hy)
  rw [wordsT, List.length_cons, List.length_append, List.length_cons]
  have h3 : x.data.toList.length = x.size := rfl
  omega
set_option maxHeartbeats 4000000 in
theorem words_used (s : List UInt8) (L : List ByteArray) (h0 : 0 < s.length) (hs : s.length ≤ 1000000000) (hl : ∀ y ∈ L, y.size ≤ 100000) (hn : L.length ≤ 1000) (hL : ¬ L.length = 0) :
  SpIO Tryz.prog 99 [.one (.optr 1000 0), .one (.t false (.sl (rS L)))] [(1000, prnUsed 1000 1001 s.length), (1001, rowW (strRows (bs s)))] (.tup []) [(1000, prnUsed 1000 25 (s ++ wordsT L).length), (25, rowW (strRows (bs (s ++ wordsT L))))] [1000] := by
 (refine ei_ Tryz.func99 Tryz.ntmps99 Tryz.results99 fun X hX => ?_)
 refine au_ an0 ?_
 refine cw_loop (fun m st => ∃ (k r : Nat) (u : List UInt8), k ≤ L.length ∧ m = L.length - k ∧ u = s ++ wordsT (L.take k) ∧ (k = 0 ∧ r = 1001 ∨ 0 < k ∧ r = 25) ∧ st = ⟨[(8, litI .i64 k), (7, litI .i64 L.length), (6, .one (.t false (.sl (rS L)))), (0, .one (.optr 1000 0))], [(1000, prnUsed 1000 r u.length), (r, rowW (strRows (bs u)))]⟩) L.length ⟨_, ⟨0, 1001, s, Nat.zero_le _, rfl, (List.append_nil _).symm, .inl ⟨rfl, rfl⟩, rfl⟩, le_⟩ ?_
 rintro m st ⟨k, r, u, hk, rfl, hu, hr, rfl⟩
 by_cases hlt : k < L.length
 ·have z1 : decide ((k : Int) < (L.length : Int)) = true := by simp; omega
  obtain ⟨x, hx⟩ : ∃ x, L[k]? = some x := ⟨_, List.getElem?_eq_getElem hlt⟩
  have z4 : IntKind.i64.wrap ((k : Int) + 1) = ((k + 1 : Nat) : Int) := by rw [IntWalk.i64_in _ (by omega)]; rfl
  have j2 : (k : Int) < (L.length : Int) := by omega
  have j3 : (0 : Int) ≤ (k : Int) := by omega
  have hxs := hl x (List.mem_of_getElem? hx)
  have hul : u.length ≤ 1100002000 := by
   have := wordsT_len (L := L.take k) fun y hy => hl y (List.mem_of_mem_take hy)
   rw [List.length_take] at this
   rw [hu, List.length_append]
   have : min k L.length ≤ 1000 := by omega
   have := Nat.mul_le_mul_right 100001 this
   omega
  have hu0 : 0 < u.length := by rw [hu, List.length_append]; omega
  have z5 : decide ((0 : Int) < (u.length : Int)) = true := by simp; omega
  have w1 : (strRows (bs u)).length = u.length := strRows_bsl u
  have w2 : (strRows (bs (u ++ [32]))).length = u.length + 1 := by rw [strRows_bsl, List.length_append]; rfl
  have hL1 := plen_used_io (strRows (bs u))
  have hW1 := wbyte_used_io (strRows (bs u)) 32 (by omega)
  have hS1 := pwstr_used_io (strRows (bs (u ++ [32]))) x (by omega) false
  rw [show ((32 : UInt8).toNat : Int) = 32 from rfl, strRows_blank, w1] at hW1
  rw [strRows_bs, w2] at hS1
  rw [w1] at hL1
  have hn : u ++ [32] ++ x.data.toList = s ++ wordsT (L.take (k + 1)) := by rw [wordsT_take hx, hu]; simp only [List.append_assoc]
  generalize hun : u ++ [32] ++ x.data.toList = un at *
  have w3 : u.length + 1 + x.size = un.length := by rw [← hun]; simp only [List.length_append, List.length_cons, List.length_nil]; rfl
  rw [w3] at hS1
  rcases hr with ⟨hr1, rfl⟩ | ⟨hr1, rfl⟩
  ·refine au_ (an6 z1 z4 hx hlt j2 j3) ?_
   (refine rn_ 8 an0 fun K hK => ?_; refine rr_ an0 ?_)
   (refine rwr_io 40 (SpIO.ren (hL1) [(1000, 1000), (1001, 1001)] rfl) rfl rfl (by simp only [go_sem, Nat.reduceAdd, Nat.reduceSub, Nat.reduceMul, Nat.reduceLT, Nat.reduceLeDiff, Nat.reduceEqDiff, Nat.reduceBEq, Int.reduceToNat, Int.reduceLE, Int.reduceLT, Int.reduceEq, Int.reduceBEq, Int.reduceBNe, ↓reduceIte, reduceCtorEq, prnNew, prnUsed, rowW, z5, hX]; exact rfl) (by simp only [go_sem, Nat.reduceAdd, Nat.reduceSub, Nat.reduceMul, Nat.reduceLT, Nat.reduceLeDiff, Nat.reduceEqDiff, Nat.reduceBEq, Int.reduceToNat, Int.reduceLE, Int.reduceLT, Int.reduceEq, Int.reduceBEq, Int.reduceBNe, ↓reduceIte, reduceCtorEq, prnNew, prnUsed, rowW, z5, hX]) (by simp only [go_sem, Nat.reduceAdd, Nat.reduceSub, Nat.reduceMul, Nat.reduceLT, Nat.reduceLeDiff, Nat.reduceEqDiff, Nat.reduceBEq, Int.reduceToNat, Int.reduceLE, Int.reduceLT, Int.reduceEq, Int.reduceBEq, Int.reduceBNe, ↓reduceIte, reduceCtorEq, prnNew, prnUsed, rowW, z5, hX]) (by simp only [go_sem, Nat.reduceAdd, Nat.reduceSub, Nat.reduceMul, Nat.reduceLT, Nat.reduceLeDiff, Nat.reduceEqDiff, Nat.reduceBEq, Int.reduceToNat, Int.reduceLE, Int.reduceLT, Int.reduceEq, Int.reduceBEq, Int.reduceBNe, ↓reduceIte, reduceCtorEq, prnNew, prnUsed, rowW, z5, hX]) (by simp only [go_sem, Nat.reduceAdd, Nat.reduceSub, Nat.reduceMul, Nat.reduceLT, Nat.reduceLeDiff, Nat.reduceEqDiff, Nat.reduceBEq, Int.reduceToNat, Int.reduceLE, Int.reduceLT, Int.reduceEq, Int.reduceBEq, Int.reduceBNe, ↓reduceIte, reduceCtorEq, prnNew, prnUsed, rowW, z5, hX]) rfl (by rw [hX]; rfl) ?_; simp only [go_sem, Nat.reduceAdd, Nat.reduceSub, Nat.reduceMul, Nat.reduceLT, Nat.reduceLeDiff, Nat.reduceEqDiff, Nat.reduceBEq, Int.reduceToNat, Int.reduceLE, Int.reduceLT, Int.reduceEq, Int.reduceBEq, Int.reduceBNe, ↓reduceIte, reduceCtorEq, prnNew, prnUsed, rowW, z5, hX])
   ((first | refine rwr_nil (hK _ ?_) | refine de_ (hK _ ?_)); clear hK K)
   refine gs_ ?_
   (refine rn_ 8 an0 fun K hK => ?_; refine rr_ an0 ?_)
   (refine rwr_io 40 (SpIO.ren (hW1) [(1000, 1000), (1001, 1001), (14, 20)] rfl) rfl rfl (by simp only [go_sem, Nat.reduceAdd, Nat.reduceSub, Nat.reduceMul, Nat.reduceLT, Nat.reduceLeDiff, Nat.reduceEqDiff, Nat.reduceBEq, Int.reduceToNat, Int.reduceLE, Int.reduceLT, Int.reduceEq, Int.reduceBEq, Int.reduceBNe, ↓reduceIte, reduceCtorEq, prnNew, prnUsed, rowW, hX]; exact rfl) (by simp only [go_sem, Nat.reduceAdd, Nat.reduceSub, Nat.reduceMul, Nat.reduceLT, Nat.reduceLeDiff, Nat.reduceEqDiff, Nat.reduceBEq, Int.reduceToNat, Int.reduceLE, Int.reduceLT, Int.reduceEq, Int.reduceBEq, Int.reduceBNe, ↓reduceIte, reduceCtorEq, prnNew, prnUsed, rowW, hX]) (by simp only [go_sem, Nat.reduceAdd, Nat.reduceSub, Nat.reduceMul, Nat.reduceLT, Nat.reduceLeDiff, Nat.reduceEqDiff, Nat.reduceBEq, Int.reduceToNat, Int.reduceLE, Int.reduceLT, Int.reduceEq, Int.reduceBEq, Int.reduceBNe, ↓reduceIte, reduceCtorEq, prnNew, prnUsed, rowW, hX]) (by simp only [go_sem, Nat.reduceAdd, Nat.reduceSub, Nat.reduceMul, Nat.reduceLT, Nat.reduceLeDiff, Nat.reduceEqDiff, Nat.reduceBEq, Int.reduceToNat, Int.reduceLE, Int.reduceLT, Int.reduceEq, Int.reduceBEq, Int.reduceBNe, ↓reduceIte, reduceCtorEq, prnNew, prnUsed, rowW, hX]) (by simp only [go_sem, Nat.reduceAdd, Nat.reduceSub, Nat.reduceMul, Nat.reduceLT, Nat.reduceLeDiff, Nat.reduceEqDiff, Nat.reduceBEq, Int.reduceToNat, Int.reduceLE, Int.reduceLT, Int.reduceEq, Int.reduceBEq, Int.reduceBNe, ↓reduceIte, reduceCtorEq, prnNew, prnUsed, rowW, hX]) rfl (by rw [hX]; rfl) ?_; simp only [go_sem, Nat.reduceAdd, Nat.reduceSub, Nat.reduceMul, Nat.reduceLT, Nat.reduceLeDiff, Nat.reduceEqDiff, Nat.reduceBEq, Int.reduceToNat, Int.reduceLE, Int.reduceLT, Int.reduceEq, Int.reduceBEq, Int.reduceBNe, ↓reduceIte, reduceCtorEq, prnNew, prnUsed, rowW, hX])
   ((first | refine rwr_nil (hK _ ?_) | refine de_ (hK _ ?_)); clear hK K)
   refine gs_ ?_
   (refine rn_ 8 an0 fun K hK => ?_; refine rr_ an0 ?_)
   (refine rwr_io 40 (SpIO.ren (hS1) [(1000, 1000), (1001, 20), (14, 25)] rfl) rfl rfl (by simp only [go_sem, Nat.reduceAdd, Nat.reduceSub, Nat.reduceMul, Nat.reduceLT, Nat.reduceLeDiff, Nat.reduceEqDiff, Nat.reduceBEq, Int.reduceToNat, Int.reduceLE, Int.reduceLT, Int.reduceEq, Int.reduceBEq, Int.reduceBNe, ↓reduceIte, reduceCtorEq, prnNew, prnUsed, rowW, hX]; exact rfl) (by simp only [go_sem, Nat.reduceAdd, Nat.reduceSub, Nat.reduceMul, Nat.reduceLT, Nat.reduceLeDiff, Nat.reduceEqDiff, Nat.reduceBEq, Int.reduceToNat, Int.reduceLE, Int.reduceLT, Int.reduceEq, Int.reduceBEq, Int.reduceBNe, ↓reduceIte, reduceCtorEq, prnNew, prnUsed, rowW, hX]) (by simp only [go_sem, Nat.reduceAdd, Nat.reduceSub, Nat.reduceMul, Nat.reduceLT, Nat.reduceLeDiff, Nat.reduceEqDiff, Nat.reduceBEq, Int.reduceToNat, Int.reduceLE, Int.reduceLT, Int.reduceEq, Int.reduceBEq, Int.reduceBNe, ↓reduceIte, reduceCtorEq, prnNew, prnUsed, rowW, hX]) (by simp only [go_sem, Nat.reduceAdd, Nat.reduceSub, Nat.reduceMul, Nat.reduceLT, Nat.reduceLeDiff, Nat.reduceEqDiff, Nat.reduceBEq, Int.reduceToNat, Int.reduceLE, Int.reduceLT, Int.reduceEq, Int.reduceBEq, Int.reduceBNe, ↓reduceIte, reduceCtorEq, prnNew, prnUsed, rowW, hX]) (by simp only [go_sem, Nat.reduceAdd, Nat.reduceSub, Nat.reduceMul, Nat.reduceLT, Nat.reduceLeDiff, Nat.reduceEqDiff, Nat.reduceBEq, Int.reduceToNat, Int.reduceLE, Int.reduceLT, Int.reduceEq, Int.reduceBEq, Int.reduceBNe, ↓reduceIte, reduceCtorEq, prnNew, prnUsed, rowW, hX]) rfl (by rw [hX]; rfl) ?_; simp only [go_sem, Nat.reduceAdd, Nat.reduceSub, Nat.reduceMul, Nat.reduceLT, Nat.reduceLeDiff, Nat.reduceEqDiff, Nat.reduceBEq, Int.reduceToNat, Int.reduceLE, Int.reduceLT, Int.reduceEq, Int.reduceBEq, Int.reduceBNe, ↓reduceIte, reduceCtorEq, prnNew, prnUsed, rowW, hX])
   ((first | refine rwr_nil (hK _ ?_) | refine de_ (hK _ ?_)); clear hK K)
   refine au_ z4 ?_
   exact ⟨L.length - (k + 1), by omega, _, ⟨k + 1, 25, un, by omega, rfl, hn, .inr ⟨by omega, rfl⟩, rfl⟩, le_⟩
  ·refine au_ (an6 z1 z4 hx hlt j2 j3) ?_
   (refine rn_ 8 an0 fun K hK => ?_; refine rr_ an0 ?_)
   (refine rwr_io 40 (SpIO.ren (hL1) [(1000, 1000), (1001, 25)] rfl) rfl rfl (by simp only [go_sem, Nat.reduceAdd, Nat.reduceSub, Nat.reduceMul, Nat.reduceLT, Nat.reduceLeDiff, Nat.reduceEqDiff, Nat.reduceBEq, Int.reduceToNat, Int.reduceLE, Int.reduceLT, Int.reduceEq, Int.reduceBEq, Int.reduceBNe, ↓reduceIte, reduceCtorEq, prnNew, prnUsed, rowW, z5, hX]; exact rfl) (by simp only [go_sem, Nat.reduceAdd, Nat.reduceSub, Nat.reduceMul, Nat.reduceLT, Nat.reduceLeDiff, Nat.reduceEqDiff, Nat.reduceBEq, Int.reduceToNat, Int.reduceLE, Int.reduceLT, Int.reduceEq, Int.reduceBEq, Int.reduceBNe, ↓reduceIte, reduceCtorEq, prnNew, prnUsed, rowW, z5, hX]) (by simp only [go_sem, Nat.reduceAdd, Nat.reduceSub, Nat.reduceMul, Nat.reduceLT, Nat.reduceLeDiff, Nat.reduceEqDiff, Nat.reduceBEq, Int.reduceToNat, Int.reduceLE, Int.reduceLT, Int.reduceEq, Int.reduceBEq, Int.reduceBNe, ↓reduceIte, reduceCtorEq, prnNew, prnUsed, rowW, z5, hX]) (by simp only [go_sem, Nat.reduceAdd, Nat.reduceSub, Nat.reduceMul, Nat.reduceLT, Nat.reduceLeDiff, Nat.reduceEqDiff, Nat.reduceBEq, Int.reduceToNat, Int.reduceLE, Int.reduceLT, Int.reduceEq, Int.reduceBEq, Int.reduceBNe, ↓reduceIte, reduceCtorEq, prnNew, prnUsed, rowW, z5, hX]) (by simp only [go_sem, Nat.reduceAdd, Nat.reduceSub, Nat.reduceMul, Nat.reduceLT, Nat.reduceLeDiff, Nat.reduceEqDiff, Nat.reduceBEq, Int.reduceToNat, Int.reduceLE, Int.reduceLT, Int.reduceEq, Int.reduceBEq, Int.reduceBNe, ↓reduceIte, reduceCtorEq, prnNew, prnUsed, rowW, z5, hX]) rfl (by rw [hX]; rfl) ?_; simp only [go_sem, Nat.reduceAdd, Nat.reduceSub, Nat.reduceMul, Nat.reduceLT, Nat.reduceLeDiff, Nat.reduceEqDiff, Nat.reduceBEq, Int.reduceToNat, Int.reduceLE, Int.reduceLT, Int.reduceEq, Int.reduceBEq, Int.reduceBNe, ↓reduceIte, reduceCtorEq, prnNew, prnUsed, rowW, z5, hX])
   ((first | refine rwr_nil (hK _ ?_) | refine de_ (hK _ ?_)); clear hK K)
   refine gs_ ?_
   (refine rn_ 8 an0 fun K hK => ?_; refine rr_ an0 ?_)
   (refine rwr_io 40 (SpIO.ren (hW1) [(1000, 1000), (1001, 25), (14, 20)] rfl) rfl rfl (by simp only [go_sem, Nat.reduceAdd, Nat.reduceSub, Nat.reduceMul, Nat.reduceLT, Nat.reduceLeDiff, Nat.reduceEqDiff, Nat.reduceBEq, Int.reduceToNat, Int.reduceLE, Int.reduceLT, Int.reduceEq, Int.reduceBEq, Int.reduceBNe, ↓reduceIte, reduceCtorEq, prnNew, prnUsed, rowW, hX]; exact rfl) (by simp only [go_sem, Nat.reduceAdd, Nat.reduceSub, Nat.reduceMul, Nat.reduceLT, Nat.reduceLeDiff, Nat.reduceEqDiff, Nat.reduceBEq, Int.reduceToNat, Int.reduceLE, Int.reduceLT, Int.reduceEq, Int.reduceBEq, Int.reduceBNe, ↓reduceIte, reduceCtorEq, prnNew, prnUsed, rowW, hX]) (by simp only [go_sem, Nat.reduceAdd, Nat.reduceSub, Nat.reduceMul, Nat.reduceLT, Nat.reduceLeDiff, Nat.reduceEqDiff, Nat.reduceBEq, Int.reduceToNat, Int.reduceLE, Int.reduceLT, Int.reduceEq, Int.reduceBEq, Int.reduceBNe, ↓reduceIte, reduceCtorEq, prnNew, prnUsed, rowW, hX]) (by simp only [go_sem, Nat.reduceAdd, Nat.reduceSub, Nat.reduceMul, Nat.reduceLT, Nat.reduceLeDiff, Nat.reduceEqDiff, Nat.reduceBEq, Int.reduceToNat, Int.reduceLE, Int.reduceLT, Int.reduceEq, Int.reduceBEq, Int.reduceBNe, ↓reduceIte, reduceCtorEq, prnNew, prnUsed, rowW, hX]) (by simp only [go_sem, Nat.reduceAdd, Nat.reduceSub, Nat.reduceMul, Nat.reduceLT, Nat.reduceLeDiff, Nat.reduceEqDiff, Nat.reduceBEq, Int.reduceToNat, Int.reduceLE, Int.reduceLT, Int.reduceEq, Int.reduceBEq, Int.reduceBNe, ↓reduceIte, reduceCtorEq, prnNew, prnUsed, rowW, hX]) rfl (by rw [hX]; rfl) ?_; simp only [go_sem, Nat.reduceAdd, Nat.reduceSub, Nat.reduceMul, Nat.reduceLT, Nat.reduceLeDiff, Nat.reduceEqDiff, Nat.reduceBEq, Int.reduceToNat, Int.reduceLE, Int.reduceLT, Int.reduceEq, Int.reduceBEq, Int.reduceBNe, ↓reduceIte, reduceCtorEq, prnNew, prnUsed, rowW, hX])
   ((first | refine rwr_nil (hK _ ?_) | refine de_ (hK _ ?_)); clear hK K)
   refine gs_ ?_
   (refine rn_ 8 an0 fun K hK => ?_; refine rr_ an0 ?_)
   (refine rwr_io 40 (SpIO.ren (hS1) [(1000, 1000), (1001, 20), (14, 25)] rfl) rfl rfl (by simp only [go_sem, Nat.reduceAdd, Nat.reduceSub, Nat.reduceMul, Nat.reduceLT, Nat.reduceLeDiff, Nat.reduceEqDiff, Nat.reduceBEq, Int.reduceToNat, Int.reduceLE, Int.reduceLT, Int.reduceEq, Int.reduceBEq, Int.reduceBNe, ↓reduceIte, reduceCtorEq, prnNew, prnUsed, rowW, hX]; exact rfl) (by simp only [go_sem, Nat.reduceAdd, Nat.reduceSub, Nat.reduceMul, Nat.reduceLT, Nat.reduceLeDiff, Nat.reduceEqDiff, Nat.reduceBEq, Int.reduceToNat, Int.reduceLE, Int.reduceLT, Int.reduceEq, Int.reduceBEq, Int.reduceBNe, ↓reduceIte, reduceCtorEq, prnNew, prnUsed, rowW, hX]) (by simp only [go_sem, Nat.reduceAdd, Nat.reduceSub, Nat.reduceMul, Nat.reduceLT, Nat.reduceLeDiff, Nat.reduceEqDiff, Nat.reduceBEq, Int.reduceToNat, Int.reduceLE, Int.reduceLT, Int.reduceEq, Int.reduceBEq, Int.reduceBNe, ↓reduceIte, reduceCtorEq, prnNew, prnUsed, rowW, hX]) (by simp only [go_sem, Nat.reduceAdd, Nat.reduceSub, Nat.reduceMul, Nat.reduceLT, Nat.reduceLeDiff, Nat.reduceEqDiff, Nat.reduceBEq, Int.reduceToNat, Int.reduceLE, Int.reduceLT, Int.reduceEq, Int.reduceBEq, Int.reduceBNe, ↓reduceIte, reduceCtorEq, prnNew, prnUsed, rowW, hX]) (by simp only [go_sem, Nat.reduceAdd, Nat.reduceSub, Nat.reduceMul, Nat.reduceLT, Nat.reduceLeDiff, Nat.reduceEqDiff, Nat.reduceBEq, Int.reduceToNat, Int.reduceLE, Int.reduceLT, Int.reduceEq, Int.reduceBEq, Int.reduceBNe, ↓reduceIte, reduceCtorEq, prnNew, prnUsed, rowW, hX]) rfl (by rw [hX]; rfl) ?_; simp only [go_sem, Nat.reduceAdd, Nat.reduceSub, Nat.reduceMul, Nat.reduceLT, Nat.reduceLeDiff, Nat.reduceEqDiff, Nat.reduceBEq, Int.reduceToNat, Int.reduceLE, Int.reduceLT, Int.reduceEq, Int.reduceBEq, Int.reduceBNe, ↓reduceIte, reduceCtorEq, prnNew, prnUsed, rowW, hX])
   ((first | refine rwr_nil (hK _ ?_) | refine de_ (hK _ ?_)); clear hK K)
   refine au_ z4 ?_
   exact ⟨L.length - (k + 1), by omega, _, ⟨k + 1, 25, un, by omega, rfl, hn, .inr ⟨by omega, rfl⟩, rfl⟩, le_⟩
 ·obtain rfl : k = L.length := by omega
  have z1 : decide ((L.length : Int) < (L.length : Int)) = false := by simp
  rw [List.take_length] at hu
  rw [← hu]
  rcases hr with ⟨hr1, rfl⟩ | ⟨hr1, rfl⟩
  ·exact absurd hr1 hL
  ·refine au_ z1 ?_
   exact oi_ an0 (.inr rfl)
set_option maxHeartbeats 4000000 in
theorem words_new (x0 : ByteArray) (l0 : List ByteArray) (h0 : 0 < x0.size) (hl : ∀ y ∈ x0 :: l0, y.size ≤ 100000) (hn : (x0 :: l0).length ≤ 1000) :
  SpIO Tryz.prog 99 [.one (.optr 1000 0), .one (.t false (.sl (rS (x0 :: l0))))] [(1000, prnNew)] (.tup []) [(1000, prnUsed 1000 25 (textW (x0 :: l0)).length), (25, rowW (strRows (bs (textW (x0 :: l0)))))] [1000] := by
 obtain ⟨L, hL⟩ : ∃ L, L = x0 :: l0 := ⟨_, rfl⟩
 have hL0 : L[0]? = some x0 := by rw [hL]; rfl
 have hLn : L.length ≠ 0 := by rw [hL]; simp
 have htx : ∀ k, textW (L.take (k + 1)) = x0.data.toList ++ wordsT (l0.take k) := fun k => by rw [hL]; rfl
 have hLk : ∀ k, L[k + 1]? = l0[k]? := fun k => by rw [hL]; rfl
 have hLl : L.length = l0.length + 1 := by rw [hL]; rfl
 rw [← hL] at hl hn ⊢
 clear hL
 (refine ei_ Tryz.func99 Tryz.ntmps99 Tryz.results99 fun X hX => ?_)
 refine au_ an0 ?_
 refine cw_loop (fun m st => ∃ (k : Nat) (u : List UInt8) (bl : List (Nat × B)), k ≤ L.length ∧ m = L.length - k ∧ u = textW (L.take k) ∧ (k = 0 ∧ bl = [(1000, prnNew)] ∨ 0 < k ∧ bl = [(1000, prnUsed 1000 25 u.length), (25, rowW (strRows (bs u)))]) ∧ st = ⟨[(8, litI .i64 k), (7, litI .i64 L.length), (6, .one (.t false (.sl (rS L)))), (0, .one (.optr 1000 0))], bl⟩) L.length ⟨_, ⟨0, [], _, Nat.zero_le _, rfl, rfl, .inl ⟨rfl, rfl⟩, rfl⟩, le_⟩ ?_
 rintro m st ⟨k, u, bl, hk, rfl, hu, hr, rfl⟩
 by_cases hlt : k < L.length
 ·have z1 : decide ((k : Int) < (L.length : Int)) = true := by simp; omega
  obtain ⟨x, hx⟩ : ∃ x, L[k]? = some x := ⟨_, List.getElem?_eq_getElem hlt⟩
  have z4 : IntKind.i64.wrap ((k : Int) + 1) = ((k + 1 : Nat) : Int) := by rw [IntWalk.i64_in _ (by omega)]; rfl
  have j2 : (k : Int) < (L.length : Int) := by omega
  have j3 : (0 : Int) ≤ (k : Int) := by omega
  have hxs := hl x (List.mem_of_getElem? hx)
  rcases hr with ⟨hk0, rfl⟩ | ⟨hr1, rfl⟩
  ·obtain rfl : x0 = x := by rw [hk0, hL0] at hx; exact Option.some.inj hx
   have hL1 := plen_new_io
   have hS1 := pwstr_new_io x0 (by omega) false
   have hn : x0.data.toList = textW (L.take (k + 1)) := by rw [hk0, htx]; simp [wordsT]
   have hb := bs_data x0
   obtain ⟨un, hun⟩ : ∃ un, un = x0.data.toList := ⟨_, rfl⟩
   have w3 : x0.size = un.length := by rw [hun]; rfl
   rw [← hun] at hn hb
   rw [← hb, show (bs un).size = un.length from bs_size un] at hS1
   rw [← hb] at hx
   have z0 : decide ((0 : Int) < 0) = false := rfl
   refine au_ (an6 z1 z4 hx hlt j2 j3) ?_
   (refine rn_ 8 an0 fun K hK => ?_; refine rr_ an0 ?_)
   (refine rwr_io 40 (SpIO.ren (hL1) [(1000, 1000)] rfl) rfl rfl (by simp only [go_sem, Nat.reduceAdd, Nat.reduceSub, Nat.reduceMul, Nat.reduceLT, Nat.reduceLeDiff, Nat.reduceEqDiff, Nat.reduceBEq, Int.reduceToNat, Int.reduceLE, Int.reduceLT, Int.reduceEq, Int.reduceBEq, Int.reduceBNe, ↓reduceIte, reduceCtorEq, prnNew, prnUsed, rowW, z0, hX]; exact rfl) (by simp only [go_sem, Nat.reduceAdd, Nat.reduceSub, Nat.reduceMul, Nat.reduceLT, Nat.reduceLeDiff, Nat.reduceEqDiff, Nat.reduceBEq, Int.reduceToNat, Int.reduceLE, Int.reduceLT, Int.reduceEq, Int.reduceBEq, Int.reduceBNe, ↓reduceIte, reduceCtorEq, prnNew, prnUsed, rowW, z0, hX]) (by simp only [go_sem, Nat.reduceAdd, Nat.reduceSub, Nat.reduceMul, Nat.reduceLT, Nat.reduceLeDiff, Nat.reduceEqDiff, Nat.reduceBEq, Int.reduceToNat, Int.reduceLE, Int.reduceLT, Int.reduceEq, Int.reduceBEq, Int.reduceBNe, ↓reduceIte, reduceCtorEq, prnNew, prnUsed, rowW, z0, hX]) (by simp only [go_sem, Nat.reduceAdd, Nat.reduceSub, Nat.reduceMul, Nat.reduceLT, Nat.reduceLeDiff, Nat.reduceEqDiff, Nat.reduceBEq, Int.reduceToNat, Int.reduceLE, Int.reduceLT, Int.reduceEq, Int.reduceBEq, Int.reduceBNe, ↓reduceIte, reduceCtorEq, prnNew, prnUsed, rowW, z0, hX]) (by simp only [go_sem, Nat.reduceAdd, Nat.reduceSub, Nat.reduceMul, Nat.reduceLT, Nat.reduceLeDiff, Nat.reduceEqDiff, Nat.reduceBEq, Int.reduceToNat, Int.reduceLE, Int.reduceLT, Int.reduceEq, Int.reduceBEq, Int.reduceBNe, ↓reduceIte, reduceCtorEq, prnNew, prnUsed, rowW, z0, hX]) rfl (by rw [hX]; rfl) ?_; simp only [go_sem, Nat.reduceAdd, Nat.reduceSub, Nat.reduceMul, Nat.reduceLT, Nat.reduceLeDiff, Nat.reduceEqDiff, Nat.reduceBEq, Int.reduceToNat, Int.reduceLE, Int.reduceLT, Int.reduceEq, Int.reduceBEq, Int.reduceBNe, ↓reduceIte, reduceCtorEq, prnNew, prnUsed, rowW, z0, hX])
   ((first | refine rwr_nil (hK _ ?_) | refine de_ (hK _ ?_)); clear hK K)
   refine gs_ ?_
   (refine rn_ 8 an0 fun K hK => ?_; refine rr_ an0 ?_)
   (refine rwr_io 40 (SpIO.ren (hS1) [(1000, 1000), (14, 25)] rfl) rfl rfl (by simp only [go_sem, Nat.reduceAdd, Nat.reduceSub, Nat.reduceMul, Nat.reduceLT, Nat.reduceLeDiff, Nat.reduceEqDiff, Nat.reduceBEq, Int.reduceToNat, Int.reduceLE, Int.reduceLT, Int.reduceEq, Int.reduceBEq, Int.reduceBNe, ↓reduceIte, reduceCtorEq, prnNew, prnUsed, rowW, hX]; exact rfl) (by simp only [go_sem, Nat.reduceAdd, Nat.reduceSub, Nat.reduceMul, Nat.reduceLT, Nat.reduceLeDiff, Nat.reduceEqDiff, Nat.reduceBEq, Int.reduceToNat, Int.reduceLE, Int.reduceLT, Int.reduceEq, Int.reduceBEq, Int.reduceBNe, ↓reduceIte, reduceCtorEq, prnNew, prnUsed, rowW, hX]) (by simp only [go_sem, Nat.reduceAdd, Nat.reduceSub, Nat.reduceMul, Nat.reduceLT, Nat.reduceLeDiff, Nat.reduceEqDiff, Nat.reduceBEq, Int.reduceToNat, Int.reduceLE, Int.reduceLT, Int.reduceEq, Int.reduceBEq, Int.reduceBNe, ↓reduceIte, reduceCtorEq, prnNew, prnUsed, rowW, hX]) (by simp only [go_sem, Nat.reduceAdd, Nat.reduceSub, Nat.reduceMul, Nat.reduceLT, Nat.reduceLeDiff, Nat.reduceEqDiff, Nat.reduceBEq, Int.reduceToNat, Int.reduceLE, Int.reduceLT, Int.reduceEq, Int.reduceBEq, Int.reduceBNe, ↓reduceIte, reduceCtorEq, prnNew, prnUsed, rowW, hX]) (by simp only [go_sem, Nat.reduceAdd, Nat.reduceSub, Nat.reduceMul, Nat.reduceLT, Nat.reduceLeDiff, Nat.reduceEqDiff, Nat.reduceBEq, Int.reduceToNat, Int.reduceLE, Int.reduceLT, Int.reduceEq, Int.reduceBEq, Int.reduceBNe, ↓reduceIte, reduceCtorEq, prnNew, prnUsed, rowW, hX]) rfl (by rw [hX]; rfl) ?_; simp only [go_sem, Nat.reduceAdd, Nat.reduceSub, Nat.reduceMul, Nat.reduceLT, Nat.reduceLeDiff, Nat.reduceEqDiff, Nat.reduceBEq, Int.reduceToNat, Int.reduceLE, Int.reduceLT, Int.reduceEq, Int.reduceBEq, Int.reduceBNe, ↓reduceIte, reduceCtorEq, prnNew, prnUsed, rowW, hX])
   ((first | refine rwr_nil (hK _ ?_) | refine de_ (hK _ ?_)); clear hK K)
   refine au_ z4 ?_
   exact ⟨L.length - (k + 1), by omega, _, ⟨k + 1, un, _, by omega, rfl, hn, .inr ⟨by omega, rfl⟩, rfl⟩, le_⟩
  ·obtain ⟨j, rfl⟩ : ∃ j, k = j + 1 := ⟨k - 1, by omega⟩
   rw [htx] at hu
   have hl0 : ∀ y ∈ l0, y.size ≤ 100000 := fun y hy => by
    obtain ⟨i, hi⟩ := List.mem_iff_getElem?.1 hy
    exact hl y (List.mem_of_getElem? (by rw [hLk]; exact hi))
   have hx0 := hl x0 (List.mem_of_getElem? hL0)
   have hx0l : x0.data.toList.length = x0.size := rfl
   have hul : u.length ≤ 1100002000 := by
    have := wordsT_len (L := l0.take j) fun y hy => hl0 y (List.mem_of_mem_take hy)
    rw [List.length_take] at this
    rw [hu, List.length_append]
    have : min j l0.length ≤ 1000 := by omega
    have := Nat.mul_le_mul_right 100001 this
    omega
   have hu0 : 0 < u.length := by rw [hu, List.length_append]; omega
   have z5 : decide ((0 : Int) < (u.length : Int)) = true := by simp; omega
   have w1 : (strRows (bs u)).length = u.length := strRows_bsl u
   have w2 : (strRows (bs (u ++ [32]))).length = u.length + 1 := by rw [strRows_bsl, List.length_append]; rfl
   have hL1 := plen_used_io (strRows (bs u))
   have hW1 := wbyte_used_io (strRows (bs u)) 32 (by omega)
   have hS1 := pwstr_used_io (strRows (bs (u ++ [32]))) x (by omega) false
   rw [show ((32 : UInt8).toNat : Int) = 32 from rfl, strRows_blank, w1] at hW1
   rw [strRows_bs, w2] at hS1
   rw [w1] at hL1
   have hn : u ++ [32] ++ x.data.toList = textW (L.take (j + 1 + 1)) := by rw [htx, wordsT_take (by rw [← hLk]; exact hx), hu]; simp only [List.append_assoc]
   generalize hun : u ++ [32] ++ x.data.toList = un at *
   have w3 : u.length + 1 + x.size = un.length := by rw [← hun]; simp only [List.length_append, List.length_cons, List.length_nil]; rfl
   rw [w3] at hS1
   generalize j + 1 = k at *
   refine au_ (an6 z1 z4 hx hlt j2 j3) ?_
   (refine rn_ 8 an0 fun K hK => ?_; refine rr_ an0 ?_)
   (refine rwr_io 40 (SpIO.ren (hL1) [(1000, 1000), (1001, 25)] rfl) rfl rfl (by simp only [go_sem, Nat.reduceAdd, Nat.reduceSub, Nat.reduceMul, Nat.reduceLT, Nat.reduceLeDiff, Nat.reduceEqDiff, Nat.reduceBEq, Int.reduceToNat, Int.reduceLE, Int.reduceLT, Int.reduceEq, Int.reduceBEq, Int.reduceBNe, ↓reduceIte, reduceCtorEq, prnNew, prnUsed, rowW, z5, hX]; exact rfl) (by simp only [go_sem, Nat.reduceAdd, Nat.reduceSub, Nat.reduceMul, Nat.reduceLT, Nat.reduceLeDiff, Nat.reduceEqDiff, Nat.reduceBEq, Int.reduceToNat, Int.reduceLE, Int.reduceLT, Int.reduceEq, Int.reduceBEq, Int.reduceBNe, ↓reduceIte, reduceCtorEq, prnNew, prnUsed, rowW, z5, hX]) (by simp only [go_sem, Nat.reduceAdd, Nat.reduceSub, Nat.reduceMul, Nat.reduceLT, Nat.reduceLeDiff, Nat.reduceEqDiff, Nat.reduceBEq, Int.reduceToNat, Int.reduceLE, Int.reduceLT, Int.reduceEq, Int.reduceBEq, Int.reduceBNe, ↓reduceIte, reduceCtorEq, prnNew, prnUsed, rowW, z5, hX]) (by simp only [go_sem, Nat.reduceAdd, Nat.reduceSub, Nat.reduceMul, Nat.reduceLT, Nat.reduceLeDiff, Nat.reduceEqDiff, Nat.reduceBEq, Int.reduceToNat, Int.reduceLE, Int.reduceLT, Int.reduceEq, Int.reduceBEq, Int.reduceBNe, ↓reduceIte, reduceCtorEq, prnNew, prnUsed, rowW, z5, hX]) (by simp only [go_sem, Nat.reduceAdd, Nat.reduceSub, Nat.reduceMul, Nat.reduceLT, Nat.reduceLeDiff, Nat.reduceEqDiff, Nat.reduceBEq, Int.reduceToNat, Int.reduceLE, Int.reduceLT, Int.reduceEq, Int.reduceBEq, Int.reduceBNe, ↓reduceIte, reduceCtorEq, prnNew, prnUsed, rowW, z5, hX]) rfl (by rw [hX]; rfl) ?_; simp only [go_sem, Nat.reduceAdd, Nat.reduceSub, Nat.reduceMul, Nat.reduceLT, Nat.reduceLeDiff, Nat.reduceEqDiff, Nat.reduceBEq, Int.reduceToNat, Int.reduceLE, Int.reduceLT, Int.reduceEq, Int.reduceBEq, Int.reduceBNe, ↓reduceIte, reduceCtorEq, prnNew, prnUsed, rowW, z5, hX])
   ((first | refine rwr_nil (hK _ ?_) | refine de_ (hK _ ?_)); clear hK K)
   refine gs_ ?_
   (refine rn_ 8 an0 fun K hK => ?_; refine rr_ an0 ?_)
   (refine rwr_io 40 (SpIO.ren (hW1) [(1000, 1000), (1001, 25), (14, 20)] rfl) rfl rfl (by simp only [go_sem, Nat.reduceAdd, Nat.reduceSub, Nat.reduceMul, Nat.reduceLT, Nat.reduceLeDiff, Nat.reduceEqDiff, Nat.reduceBEq, Int.reduceToNat, Int.reduceLE, Int.reduceLT, Int.reduceEq, Int.reduceBEq, Int.reduceBNe, ↓reduceIte, reduceCtorEq, prnNew, prnUsed, rowW, hX]; exact rfl) (by simp only [go_sem, Nat.reduceAdd, Nat.reduceSub, Nat.reduceMul, Nat.reduceLT, Nat.reduceLeDiff, Nat.reduceEqDiff, Nat.reduceBEq, Int.reduceToNat, Int.reduceLE, Int.reduceLT, Int.reduceEq, Int.reduceBEq, Int.reduceBNe, ↓reduceIte, reduceCtorEq, prnNew, prnUsed, rowW, hX]) (by simp only [go_sem, Nat.reduceAdd, Nat.reduceSub, Nat.reduceMul, Nat.reduceLT, Nat.reduceLeDiff, Nat.reduceEqDiff, Nat.reduceBEq, Int.reduceToNat, Int.reduceLE, Int.reduceLT, Int.reduceEq, Int.reduceBEq, Int.reduceBNe, ↓reduceIte, reduceCtorEq, prnNew, prnUsed, rowW, hX]) (by simp only [go_sem, Nat.reduceAdd, Nat.reduceSub, Nat.reduceMul, Nat.reduceLT, Nat.reduceLeDiff, Nat.reduceEqDiff, Nat.reduceBEq, Int.reduceToNat, Int.reduceLE, Int.reduceLT, Int.reduceEq, Int.reduceBEq, Int.reduceBNe, ↓reduceIte, reduceCtorEq, prnNew, prnUsed, rowW, hX]) (by simp only [go_sem, Nat.reduceAdd, Nat.reduceSub, Nat.reduceMul, Nat.reduceLT, Nat.reduceLeDiff, Nat.reduceEqDiff, Nat.reduceBEq, Int.reduceToNat, Int.reduceLE, Int.reduceLT, Int.reduceEq, Int.reduceBEq, Int.reduceBNe, ↓reduceIte, reduceCtorEq, prnNew, prnUsed, rowW, hX]) rfl (by rw [hX]; rfl) ?_; simp only [go_sem, Nat.reduceAdd, Nat.reduceSub, Nat.reduceMul, Nat.reduceLT, Nat.reduceLeDiff, Nat.reduceEqDiff, Nat.reduceBEq, Int.reduceToNat, Int.reduceLE, Int.reduceLT, Int.reduceEq, Int.reduceBEq, Int.reduceBNe, ↓reduceIte, reduceCtorEq, prnNew, prnUsed, rowW, hX])
   ((first | refine rwr_nil (hK _ ?_) | refine de_ (hK _ ?_)); clear hK K)
   refine gs_ ?_
   (refine rn_ 8 an0 fun K hK => ?_; refine rr_ an0 ?_)
   (refine rwr_io 40 (SpIO.ren (hS1) [(1000, 1000), (1001, 20), (14, 25)] rfl) rfl rfl (by simp only [go_sem, Nat.reduceAdd, Nat.reduceSub, Nat.reduceMul, Nat.reduceLT, Nat.reduceLeDiff, Nat.reduceEqDiff, Nat.reduceBEq, Int.reduceToNat, Int.reduceLE, Int.reduceLT, Int.reduceEq, Int.reduceBEq, Int.reduceBNe, ↓reduceIte, reduceCtorEq, prnNew, prnUsed, rowW, hX]; exact rfl) (by simp only [go_sem, Nat.reduceAdd, Nat.reduceSub, Nat.reduceMul, Nat.reduceLT, Nat.reduceLeDiff, Nat.reduceEqDiff, Nat.reduceBEq, Int.reduceToNat, Int.reduceLE, Int.reduceLT, Int.reduceEq, Int.reduceBEq, Int.reduceBNe, ↓reduceIte, reduceCtorEq, prnNew, prnUsed, rowW, hX]) (by simp only [go_sem, Nat.reduceAdd, Nat.reduceSub, Nat.reduceMul, Nat.reduceLT, Nat.reduceLeDiff, Nat.reduceEqDiff, Nat.reduceBEq, Int.reduceToNat, Int.reduceLE, Int.reduceLT, Int.reduceEq, Int.reduceBEq, Int.reduceBNe, ↓reduceIte, reduceCtorEq, prnNew, prnUsed, rowW, hX]) (by simp only [go_sem, Nat.reduceAdd, Nat.reduceSub, Nat.reduceMul, Nat.reduceLT, Nat.reduceLeDiff, Nat.reduceEqDiff, Nat.reduceBEq, Int.reduceToNat, Int.reduceLE, Int.reduceLT, Int.reduceEq, Int.reduceBEq, Int.reduceBNe, ↓reduceIte, reduceCtorEq, prnNew, prnUsed, rowW, hX]) (by simp only [go_sem, Nat.reduceAdd, Nat.reduceSub, Nat.reduceMul, Nat.reduceLT, Nat.reduceLeDiff, Nat.reduceEqDiff, Nat.reduceBEq, Int.reduceToNat, Int.reduceLE, Int.reduceLT, Int.reduceEq, Int.reduceBEq, Int.reduceBNe, ↓reduceIte, reduceCtorEq, prnNew, prnUsed, rowW, hX]) rfl (by rw [hX]; rfl) ?_; simp only [go_sem, Nat.reduceAdd, Nat.reduceSub, Nat.reduceMul, Nat.reduceLT, Nat.reduceLeDiff, Nat.reduceEqDiff, Nat.reduceBEq, Int.reduceToNat, Int.reduceLE, Int.reduceLT, Int.reduceEq, Int.reduceBEq, Int.reduceBNe, ↓reduceIte, reduceCtorEq, prnNew, prnUsed, rowW, hX])
   ((first | refine rwr_nil (hK _ ?_) | refine de_ (hK _ ?_)); clear hK K)
   refine au_ z4 ?_
   exact ⟨L.length - (k + 1), by omega, _, ⟨k + 1, un, _, by omega, rfl, hn, .inr ⟨by omega, rfl⟩, rfl⟩, le_⟩
 ·obtain rfl : k = L.length := by omega
  have z1 : decide ((L.length : Int) < (L.length : Int)) = false := by simp
  rw [List.take_length] at hu
  rw [← hu]
  rcases hr with ⟨hr1, rfl⟩ | ⟨hr1, rfl⟩
  ·exact absurd hr1 hLn
  ·refine au_ z1 ?_
   exact oi_ an0 (.inr rfl)
end Go.Proofs.YtjdgejfhnfnmgaaGreatDoor.Ax
