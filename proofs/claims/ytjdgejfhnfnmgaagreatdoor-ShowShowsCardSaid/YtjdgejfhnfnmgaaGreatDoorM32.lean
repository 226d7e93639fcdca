/-  -/
import Derived.Test.YtjdgejfhnfnmgaaGreatDoorAxW
import Derived.Test.YtjdgejfhnfnmgaaGreatDoorAxSh9
namespace Go.Proofs.YtjdgejfhnfnmgaaGreatDoor.Ax
open Go.RowKit
set_option linter.unusedSimpArgs false
attribute [local go_sem] ty3 ty4 ty9 ty5 ty26 ty54 ty22 ty24 ty25 ty27 ty29 ty31 ty91 ty85 prnNew prnUsed rowW
set_option linter.unusedVariables false
set_option maxRecDepth 100000
def cmdS (c : Cm) (te tw : ByteArray) : List UInt8 :=
 if c.k = 1 then textW [⟨#[99, 114, 101, 97, 116, 101]⟩, ⟨#[116, 97, 98, 108, 101]⟩, c.name, listT (c.cols.map colT)]
 else if c.k = 2 then textW [⟨#[100, 114, 111, 112]⟩, ⟨#[116, 97, 98, 108, 101]⟩, c.name]
 else if c.k = 3 then textW [⟨#[97, 108, 116, 101, 114]⟩, ⟨#[116, 97, 98, 108, 101]⟩, c.name] ++ wordsT [⟨#[97, 100, 100]⟩, c.column, kindT c.ty, ⟨#[100, 101, 102, 97, 117, 108, 116]⟩, valT c.v]
 else if c.k = 4 then textW [⟨#[97, 108, 116, 101, 114]⟩, ⟨#[116, 97, 98, 108, 101]⟩, c.name] ++ wordsT [⟨#[100, 114, 111, 112]⟩, c.column]
 else if c.k = 5 then textW [⟨#[97, 108, 116, 101, 114]⟩, ⟨#[116, 97, 98, 108, 101]⟩, c.name] ++ wordsT [⟨#[114, 101, 110, 97, 109, 101]⟩, c.column, ⟨#[116, 111]⟩, c.other]
 else if c.k = 6 then textW [⟨#[97, 108, 116, 101, 114]⟩, ⟨#[116, 97, 98, 108, 101]⟩, c.name] ++ wordsT [⟨#[114, 101, 116, 121, 112, 101]⟩, c.column, kindT c.ty]
 else if c.k = 7 then textW [⟨#[97, 108, 116, 101, 114]⟩, ⟨#[116, 97, 98, 108, 101]⟩, c.name] ++ wordsT [⟨#[114, 101, 110, 97, 109, 101]⟩, ⟨#[116, 111]⟩, c.other]
 else if c.k = 8 then textW [⟨#[99, 114, 101, 97, 116, 101]⟩, ⟨#[105, 110, 100, 101, 120]⟩, c.name, ⟨#[111, 110]⟩, c.other, bracT c.column]
 else if c.k = 9 then textW [⟨#[100, 114, 111, 112]⟩, ⟨#[105, 110, 100, 101, 120]⟩, c.name]
 else if c.k = 10 then textW [⟨#[105, 110, 115, 101, 114, 116]⟩, ⟨#[105, 110, 116, 111]⟩, c.name, ⟨#[118, 97, 108, 117, 101, 115]⟩, listT (c.vals.map valT)]
 else if c.k = 11 then textW [⟨#[100, 101, 108, 101, 116, 101]⟩, ⟨#[102, 114, 111, 109]⟩, c.name] ++ wordsT (whereW c tw)
 else if c.k = 12 then textW [⟨#[117, 112, 100, 97, 116, 101]⟩, c.name, ⟨#[115, 101, 116]⟩, c.column, ⟨#[61]⟩, te] ++ wordsT (whereW c tw)
 else if c.k = 13 then textW [wSelect, fieldsT c, wFrom, c.name] ++ wordsT (whereW c tw) ++ wordsT (orderW c) ++ wordsT (limitW c)
 else if c.k = 14 then textW [⟨#[98, 101, 103, 105, 110]⟩]
 else if c.k = 15 then textW [⟨#[99, 111, 109, 109, 105, 116]⟩]
 else textW [⟨#[114, 111, 108, 108, 98, 97, 99, 107]⟩]
structure TextIs (c : Cm) (te tw : ByteArray) : Prop where
 ex : c.k = 12 → ∃ g : Gx, g.ex = c.ex ∧ g.ok ∧ (gT g).size ≤ 30300 ∧ te = gT g
 wh : kWhere c.k = true → c.all = false → ∃ g : Gx, g.ex = c.wh ∧ g.ok ∧ (gT g).size ≤ 30300 ∧ tw = gT g
theorem textW_pos (x : ByteArray) (l : List ByteArray) (r : List UInt8) (h : 0 < x.size) : 0 < (textW (x :: l) ++ r).length := by
 rw [textW, List.length_append, List.length_append]
 have : x.data.toList.length = x.size := rfl
 omega
theorem textW_pos0 (x : ByteArray) (l : List ByteArray) (h : 0 < x.size) : 0 < (textW (x :: l)).length := by
 have := textW_pos x l [] h
 rwa [List.append_nil] at this
set_option maxHeartbeats 8000000 in
theorem cmd13_io (c : Cm) (hr : Rt c) (hk : c.k = 13) (tw : ByteArray) {un : List UInt8} (hW0 : SpIO Tryz.prog 107 [.one (.optr 1000 0), vCm c] [(1000, prnNew)] (.tup []) [(1000, prnUsed 1000 17 un.length), (17, rowW (strRows (bs un)))] [1000]) :
  SpIO Tryz.prog 56 [.one (.optr 1000 0), vCm c] [(1000, prnNew)] (.tup []) [(1000, prnUsed 1000 162 un.length), (162, rowW (strRows (bs un)))] [1000] := by
 clear hr
 obtain ⟨k, name, other, column, cols, ty, v, vals, fields, ⟨k1, v1, n1, a1⟩, all, ⟨k2, v2, n2, a2⟩, order, limit⟩ := c
 dsimp only at *
 unfold vCm at hW0 ⊢
 rw [rCm_mk] at hW0 ⊢
 have F := kF hk
 (refine ei_ Tryz.func56 Tryz.ntmps56 Tryz.results56 fun X hX => ?_)
 refine au_ F ?_
 (refine rn_ 8 an0 fun K hK => ?_; refine rr_ an0 ?_)
 (refine rwr_io 40 (SpIO.ren (hW0) [(1000, 1000), (17, 162)] rfl) rfl rfl (by simp only [go_sem, Nat.reduceAdd, Nat.reduceSub, Nat.reduceMul, Nat.reduceLT, Nat.reduceLeDiff, Nat.reduceEqDiff, Nat.reduceBEq, Int.reduceToNat, Int.reduceLE, Int.reduceLT, Int.reduceEq, Int.reduceBEq, Int.reduceBNe, ↓reduceIte, reduceCtorEq, prnNew, prnUsed, rowW, hX]; exact rfl) (by simp only [go_sem, Nat.reduceAdd, Nat.reduceSub, Nat.reduceMul, Nat.reduceLT, Nat.reduceLeDiff, Nat.reduceEqDiff, Nat.reduceBEq, Int.reduceToNat, Int.reduceLE, Int.reduceLT, Int.reduceEq, Int.reduceBEq, Int.reduceBNe, ↓reduceIte, reduceCtorEq, prnNew, prnUsed, rowW, hX]) (by simp only [go_sem, Nat.reduceAdd, Nat.reduceSub, Nat.reduceMul, Nat.reduceLT, Nat.reduceLeDiff, Nat.reduceEqDiff, Nat.reduceBEq, Int.reduceToNat, Int.reduceLE, Int.reduceLT, Int.reduceEq, Int.reduceBEq, Int.reduceBNe, ↓reduceIte, reduceCtorEq, prnNew, prnUsed, rowW, hX]) (by simp only [go_sem, Nat.reduceAdd, Nat.reduceSub, Nat.reduceMul, Nat.reduceLT, Nat.reduceLeDiff, Nat.reduceEqDiff, Nat.reduceBEq, Int.reduceToNat, Int.reduceLE, Int.reduceLT, Int.reduceEq, Int.reduceBEq, Int.reduceBNe, ↓reduceIte, reduceCtorEq, prnNew, prnUsed, rowW, hX]) (by simp only [go_sem, Nat.reduceAdd, Nat.reduceSub, Nat.reduceMul, Nat.reduceLT, Nat.reduceLeDiff, Nat.reduceEqDiff, Nat.reduceBEq, Int.reduceToNat, Int.reduceLE, Int.reduceLT, Int.reduceEq, Int.reduceBEq, Int.reduceBNe, ↓reduceIte, reduceCtorEq, prnNew, prnUsed, rowW, hX]) rfl (by rw [hX]; rfl) ?_; simp only [go_sem, Nat.reduceAdd, Nat.reduceSub, Nat.reduceMul, Nat.reduceLT, Nat.reduceLeDiff, Nat.reduceEqDiff, Nat.reduceBEq, Int.reduceToNat, Int.reduceLE, Int.reduceLT, Int.reduceEq, Int.reduceBEq, Int.reduceBNe, ↓reduceIte, reduceCtorEq, prnNew, prnUsed, rowW, hX])
 ((first | refine rwr_nil (hK _ ?_) | refine de_ (hK _ ?_)); clear hK K)
 refine au_ an0 ?_
 exact oi_ an0 (.inr rfl)
theorem command_io (c : Cm) (hr : Rt c) : ∃ te tw : ByteArray, TextIs c te tw ∧ ∃ un : List UInt8, un = cmdS c te tw ∧ 0 < un.length ∧
  SpIO Tryz.prog 56 [.one (.optr 1000 0), vCm c] [(1000, prnNew)] (.tup []) [(1000, prnUsed 1000 162 un.length), (162, rowW (strRows (bs un)))] [1000] := by
 have h1 := hr.k1
 have h2 := hr.k16
 obtain hk | hk | hk | hk | hk | hk | hk | hk | hk | hk | hk | hk | hk | hk | hk | hk : c.k = 1 ∨ c.k = 2 ∨ c.k = 3 ∨ c.k = 4 ∨ c.k = 5 ∨ c.k = 6 ∨ c.k = 7 ∨ c.k = 8 ∨ c.k = 9 ∨ c.k = 10 ∨ c.k = 11 ∨ c.k = 12 ∨ c.k = 13 ∨ c.k = 14 ∨ c.k = 15 ∨ c.k = 16 := by omega
 ·obtain ⟨un, hun, hsp⟩ := cmd1_io c hr hk
  refine ⟨.empty, .empty, ⟨fun h => absurd (hk.symm.trans h) (by decide), fun h => absurd h (by rw [hk]; decide)⟩, un, hun.trans (Eq.symm (by unfold cmdS; rw [if_pos hk])), ?_, hsp⟩
  rw [hun]
  exact textW_pos0 _ _ (by decide)
 ·obtain ⟨un, hun, hsp⟩ := cmd2_io c hr hk
  refine ⟨.empty, .empty, ⟨fun h => absurd (hk.symm.trans h) (by decide), fun h => absurd h (by rw [hk]; decide)⟩, un, hun.trans (Eq.symm (by unfold cmdS; rw [if_neg (by rw [hk]; decide)]; rw [if_pos hk])), ?_, hsp⟩
  rw [hun]
  exact textW_pos0 _ _ (by decide)
 ·obtain ⟨un, hun, hsp⟩ := cmd3_io c hr hk
  refine ⟨.empty, .empty, ⟨fun h => absurd (hk.symm.trans h) (by decide), fun h => absurd h (by rw [hk]; decide)⟩, un, hun.trans (Eq.symm (by unfold cmdS; rw [if_neg (by rw [hk]; decide)]; rw [if_neg (by rw [hk]; decide)]; rw [if_pos hk])), ?_, hsp⟩
  rw [hun]
  exact textW_pos _ _ _ (by decide)
 ·obtain ⟨un, hun, hsp⟩ := cmd4_io c hr hk
  refine ⟨.empty, .empty, ⟨fun h => absurd (hk.symm.trans h) (by decide), fun h => absurd h (by rw [hk]; decide)⟩, un, hun.trans (Eq.symm (by unfold cmdS; rw [if_neg (by rw [hk]; decide)]; rw [if_neg (by rw [hk]; decide)]; rw [if_neg (by rw [hk]; decide)]; rw [if_pos hk])), ?_, hsp⟩
  rw [hun]
  exact textW_pos _ _ _ (by decide)
 ·obtain ⟨un, hun, hsp⟩ := cmd5_io c hr hk
  refine ⟨.empty, .empty, ⟨fun h => absurd (hk.symm.trans h) (by decide), fun h => absurd h (by rw [hk]; decide)⟩, un, hun.trans (Eq.symm (by unfold cmdS; rw [if_neg (by rw [hk]; decide)]; rw [if_neg (by rw [hk]; decide)]; rw [if_neg (by rw [hk]; decide)]; rw [if_neg (by rw [hk]; decide)]; rw [if_pos hk])), ?_, hsp⟩
  rw [hun]
  exact textW_pos _ _ _ (by decide)
 ·obtain ⟨un, hun, hsp⟩ := cmd6_io c hr hk
  refine ⟨.empty, .empty, ⟨fun h => absurd (hk.symm.trans h) (by decide), fun h => absurd h (by rw [hk]; decide)⟩, un, hun.trans (Eq.symm (by unfold cmdS; rw [if_neg (by rw [hk]; decide)]; rw [if_neg (by rw [hk]; decide)]; rw [if_neg (by rw [hk]; decide)]; rw [if_neg (by rw [hk]; decide)]; rw [if_neg (by rw [hk]; decide)]; rw [if_pos hk])), ?_, hsp⟩
  rw [hun]
  exact textW_pos _ _ _ (by decide)
 ·obtain ⟨un, hun, hsp⟩ := cmd7_io c hr hk
  refine ⟨.empty, .empty, ⟨fun h => absurd (hk.symm.trans h) (by decide), fun h => absurd h (by rw [hk]; decide)⟩, un, hun.trans (Eq.symm (by unfold cmdS; rw [if_neg (by rw [hk]; decide)]; rw [if_neg (by rw [hk]; decide)]; rw [if_neg (by rw [hk]; decide)]; rw [if_neg (by rw [hk]; decide)]; rw [if_neg (by rw [hk]; decide)]; rw [if_neg (by rw [hk]; decide)]; rw [if_pos hk])), ?_, hsp⟩
  rw [hun]
  exact textW_pos _ _ _ (by decide)
 ·obtain ⟨un, hun, hsp⟩ := cmd8_io c hr hk
  refine ⟨.empty, .empty, ⟨fun h => absurd (hk.symm.trans h) (by decide), fun h => absurd h (by rw [hk]; decide)⟩, un, hun.trans (Eq.symm (by unfold cmdS; rw [if_neg (by rw [hk]; decide)]; rw [if_neg (by rw [hk]; decide)]; rw [if_neg (by rw [hk]; decide)]; rw [if_neg (by rw [hk]; decide)]; rw [if_neg (by rw [hk]; decide)]; rw [if_neg (by rw [hk]; decide)]; rw [if_neg (by rw [hk]; decide)]; rw [if_pos hk])), ?_, hsp⟩
  rw [hun]
  exact textW_pos0 _ _ (by decide)
 ·obtain ⟨un, hun, hsp⟩ := cmd9_io c hr hk
  refine ⟨.empty, .empty, ⟨fun h => absurd (hk.symm.trans h) (by decide), fun h => absurd h (by rw [hk]; decide)⟩, un, hun.trans (Eq.symm (by unfold cmdS; rw [if_neg (by rw [hk]; decide)]; rw [if_neg (by rw [hk]; decide)]; rw [if_neg (by rw [hk]; decide)]; rw [if_neg (by rw [hk]; decide)]; rw [if_neg (by rw [hk]; decide)]; rw [if_neg (by rw [hk]; decide)]; rw [if_neg (by rw [hk]; decide)]; rw [if_neg (by rw [hk]; decide)]; rw [if_pos hk])), ?_, hsp⟩
  rw [hun]
  exact textW_pos0 _ _ (by decide)
 ·obtain ⟨un, hun, hsp⟩ := cmd10_io c hr hk
  refine ⟨.empty, .empty, ⟨fun h => absurd (hk.symm.trans h) (by decide), fun h => absurd h (by rw [hk]; decide)⟩, un, hun.trans (Eq.symm (by unfold cmdS; rw [if_neg (by rw [hk]; decide)]; rw [if_neg (by rw [hk]; decide)]; rw [if_neg (by rw [hk]; decide)]; rw [if_neg (by rw [hk]; decide)]; rw [if_neg (by rw [hk]; decide)]; rw [if_neg (by rw [hk]; decide)]; rw [if_neg (by rw [hk]; decide)]; rw [if_neg (by rw [hk]; decide)]; rw [if_neg (by rw [hk]; decide)]; rw [if_pos hk])), ?_, hsp⟩
  rw [hun]
  exact textW_pos0 _ _ (by decide)
 ·obtain ⟨tw, htw, htz, un, hun, hsp⟩ := cmd11_io c hr hk
  refine ⟨.empty, tw, ⟨fun h => absurd (hk.symm.trans h) (by decide), fun _ => htw⟩, un, hun.trans (Eq.symm (by unfold cmdS; rw [if_neg (by rw [hk]; decide)]; rw [if_neg (by rw [hk]; decide)]; rw [if_neg (by rw [hk]; decide)]; rw [if_neg (by rw [hk]; decide)]; rw [if_neg (by rw [hk]; decide)]; rw [if_neg (by rw [hk]; decide)]; rw [if_neg (by rw [hk]; decide)]; rw [if_neg (by rw [hk]; decide)]; rw [if_neg (by rw [hk]; decide)]; rw [if_neg (by rw [hk]; decide)]; rw [if_pos hk])), ?_, hsp⟩
  rw [hun]
  exact textW_pos _ _ _ (by decide)
 ·obtain ⟨g, hg, hgo, hgz⟩ := hr.ex hk
  obtain ⟨tw, htw, htz, un, hun, hsp⟩ := cmd12_io c hr hk (gT g) g hg hgo hgz rfl
  refine ⟨gT g, tw, ⟨fun _ => ⟨g, hg, hgo, hgz, rfl⟩, fun _ => htw⟩, un, hun.trans (Eq.symm (by unfold cmdS; rw [if_neg (by rw [hk]; decide)]; rw [if_neg (by rw [hk]; decide)]; rw [if_neg (by rw [hk]; decide)]; rw [if_neg (by rw [hk]; decide)]; rw [if_neg (by rw [hk]; decide)]; rw [if_neg (by rw [hk]; decide)]; rw [if_neg (by rw [hk]; decide)]; rw [if_neg (by rw [hk]; decide)]; rw [if_neg (by rw [hk]; decide)]; rw [if_neg (by rw [hk]; decide)]; rw [if_neg (by rw [hk]; decide)]; rw [if_pos hk])), ?_, hsp⟩
  rw [hun]
  exact textW_pos _ _ _ (by decide)
 ·obtain ⟨tw, htw, htz, un, hun, hsp⟩ := selects_io c hr hk (fields_comma hr)
  refine ⟨.empty, tw, ⟨fun h => absurd (hk.symm.trans h) (by decide), fun _ => htw⟩, un, hun.trans (Eq.symm (by unfold cmdS; rw [if_neg (by rw [hk]; decide)]; rw [if_neg (by rw [hk]; decide)]; rw [if_neg (by rw [hk]; decide)]; rw [if_neg (by rw [hk]; decide)]; rw [if_neg (by rw [hk]; decide)]; rw [if_neg (by rw [hk]; decide)]; rw [if_neg (by rw [hk]; decide)]; rw [if_neg (by rw [hk]; decide)]; rw [if_neg (by rw [hk]; decide)]; rw [if_neg (by rw [hk]; decide)]; rw [if_neg (by rw [hk]; decide)]; rw [if_neg (by rw [hk]; decide)]; rw [if_pos hk])), ?_, cmd13_io c hr hk tw hsp⟩
  rw [hun, List.append_assoc, List.append_assoc]
  exact textW_pos _ _ _ (by decide)
 ·obtain ⟨un, hun, hsp⟩ := cmd14_io c hr hk
  refine ⟨.empty, .empty, ⟨fun h => absurd (hk.symm.trans h) (by decide), fun h => absurd h (by rw [hk]; decide)⟩, un, hun.trans (Eq.symm (by unfold cmdS; rw [if_neg (by rw [hk]; decide)]; rw [if_neg (by rw [hk]; decide)]; rw [if_neg (by rw [hk]; decide)]; rw [if_neg (by rw [hk]; decide)]; rw [if_neg (by rw [hk]; decide)]; rw [if_neg (by rw [hk]; decide)]; rw [if_neg (by rw [hk]; decide)]; rw [if_neg (by rw [hk]; decide)]; rw [if_neg (by rw [hk]; decide)]; rw [if_neg (by rw [hk]; decide)]; rw [if_neg (by rw [hk]; decide)]; rw [if_neg (by rw [hk]; decide)]; rw [if_neg (by rw [hk]; decide)]; rw [if_pos hk])), ?_, hsp⟩
  rw [hun]
  exact textW_pos0 _ _ (by decide)
 ·obtain ⟨un, hun, hsp⟩ := cmd15_io c hr hk
  refine ⟨.empty, .empty, ⟨fun h => absurd (hk.symm.trans h) (by decide), fun h => absurd h (by rw [hk]; decide)⟩, un, hun.trans (Eq.symm (by unfold cmdS; rw [if_neg (by rw [hk]; decide)]; rw [if_neg (by rw [hk]; decide)]; rw [if_neg (by rw [hk]; decide)]; rw [if_neg (by rw [hk]; decide)]; rw [if_neg (by rw [hk]; decide)]; rw [if_neg (by rw [hk]; decide)]; rw [if_neg (by rw [hk]; decide)]; rw [if_neg (by rw [hk]; decide)]; rw [if_neg (by rw [hk]; decide)]; rw [if_neg (by rw [hk]; decide)]; rw [if_neg (by rw [hk]; decide)]; rw [if_neg (by rw [hk]; decide)]; rw [if_neg (by rw [hk]; decide)]; rw [if_neg (by rw [hk]; decide)]; rw [if_pos hk])), ?_, hsp⟩
  rw [hun]
  exact textW_pos0 _ _ (by decide)
 ·obtain ⟨un, hun, hsp⟩ := cmd16_io c hr hk
  refine ⟨.empty, .empty, ⟨fun h => absurd (hk.symm.trans h) (by decide), fun h => absurd h (by rw [hk]; decide)⟩, un, hun.trans (Eq.symm (by unfold cmdS; rw [if_neg (by rw [hk]; decide)]; rw [if_neg (by rw [hk]; decide)]; rw [if_neg (by rw [hk]; decide)]; rw [if_neg (by rw [hk]; decide)]; rw [if_neg (by rw [hk]; decide)]; rw [if_neg (by rw [hk]; decide)]; rw [if_neg (by rw [hk]; decide)]; rw [if_neg (by rw [hk]; decide)]; rw [if_neg (by rw [hk]; decide)]; rw [if_neg (by rw [hk]; decide)]; rw [if_neg (by rw [hk]; decide)]; rw [if_neg (by rw [hk]; decide)]; rw [if_neg (by rw [hk]; decide)]; rw [if_neg (by rw [hk]; decide)]; rw [if_neg (by rw [hk]; decide)])), ?_, hsp⟩
  rw [hun]
  exact textW_pos0 _ _ (by decide)
set_option maxHeartbeats 8000000 in
theorem text_sp (c : Cm) (hr : Rt c) : ∃ te tw : ByteArray, TextIs c te tw ∧ Sp Tryz.prog 21 [.agg (rCm c)] (.one (.t true (.lit (.string (bs (cmdS c te tw)))))) [] := by
 obtain ⟨te, tw, ht, un, hun, h0, hC⟩ := command_io c hr
 refine ⟨te, tw, ht, ?_⟩
 have hS := pstr_used_io (bs un) (by intro h; rw [show (bs un).data.toList = un from rfl] at h; rw [h] at h0; cases h0)
 rw [bs_size] at hS
 rw [← hun]
 clear hun ht hr h0
 obtain ⟨k, name, other, column, cols, ty, v, vals, fields, ⟨k1, v1, n1, a1⟩, all, ⟨k2, v2, n2, a2⟩, order, limit⟩ := c
 unfold vCm at hC
 rw [rCm_mk] at hC ⊢
 (refine en_ Tryz.func21 Tryz.ntmps21 Tryz.results21 fun X hX => ?_)
 refine au_ an0 ?_
 (refine rn_ 8 an0 fun K hK => ?_; refine rr_ an0 ?_)
 (refine rwr_io 40 (SpIO.ren (hC) [(1000, 5), (162, 8)] rfl) rfl rfl (by simp only [go_sem, Nat.reduceAdd, Nat.reduceSub, Nat.reduceMul, Nat.reduceLT, Nat.reduceLeDiff, Nat.reduceEqDiff, Nat.reduceBEq, Int.reduceToNat, Int.reduceLE, Int.reduceLT, Int.reduceEq, Int.reduceBEq, Int.reduceBNe, ↓reduceIte, reduceCtorEq, prnNew, prnUsed, rowW, hX]; exact rfl) (by simp only [go_sem, Nat.reduceAdd, Nat.reduceSub, Nat.reduceMul, Nat.reduceLT, Nat.reduceLeDiff, Nat.reduceEqDiff, Nat.reduceBEq, Int.reduceToNat, Int.reduceLE, Int.reduceLT, Int.reduceEq, Int.reduceBEq, Int.reduceBNe, ↓reduceIte, reduceCtorEq, prnNew, prnUsed, rowW, hX]) (by simp only [go_sem, Nat.reduceAdd, Nat.reduceSub, Nat.reduceMul, Nat.reduceLT, Nat.reduceLeDiff, Nat.reduceEqDiff, Nat.reduceBEq, Int.reduceToNat, Int.reduceLE, Int.reduceLT, Int.reduceEq, Int.reduceBEq, Int.reduceBNe, ↓reduceIte, reduceCtorEq, prnNew, prnUsed, rowW, hX]) (by simp only [go_sem, Nat.reduceAdd, Nat.reduceSub, Nat.reduceMul, Nat.reduceLT, Nat.reduceLeDiff, Nat.reduceEqDiff, Nat.reduceBEq, Int.reduceToNat, Int.reduceLE, Int.reduceLT, Int.reduceEq, Int.reduceBEq, Int.reduceBNe, ↓reduceIte, reduceCtorEq, prnNew, prnUsed, rowW, hX]) (by simp only [go_sem, Nat.reduceAdd, Nat.reduceSub, Nat.reduceMul, Nat.reduceLT, Nat.reduceLeDiff, Nat.reduceEqDiff, Nat.reduceBEq, Int.reduceToNat, Int.reduceLE, Int.reduceLT, Int.reduceEq, Int.reduceBEq, Int.reduceBNe, ↓reduceIte, reduceCtorEq, prnNew, prnUsed, rowW, hX]) rfl (by rw [hX]; rfl) ?_; simp only [go_sem, Nat.reduceAdd, Nat.reduceSub, Nat.reduceMul, Nat.reduceLT, Nat.reduceLeDiff, Nat.reduceEqDiff, Nat.reduceBEq, Int.reduceToNat, Int.reduceLE, Int.reduceLT, Int.reduceEq, Int.reduceBEq, Int.reduceBNe, ↓reduceIte, reduceCtorEq, prnNew, prnUsed, rowW, hX])
 ((first | refine rwr_nil (hK _ ?_) | refine de_ (hK _ ?_)); clear hK K)
 refine gs_ ?_
 (refine rn_ 8 an0 fun K hK => ?_; refine rr_ an0 ?_)
 (refine rwr_io 40 (SpIO.ren (hS) [(1000, 5), (1001, 8)] rfl) rfl rfl (by simp only [go_sem, Nat.reduceAdd, Nat.reduceSub, Nat.reduceMul, Nat.reduceLT, Nat.reduceLeDiff, Nat.reduceEqDiff, Nat.reduceBEq, Int.reduceToNat, Int.reduceLE, Int.reduceLT, Int.reduceEq, Int.reduceBEq, Int.reduceBNe, ↓reduceIte, reduceCtorEq, prnNew, prnUsed, rowW, hX]; exact rfl) (by simp only [go_sem, Nat.reduceAdd, Nat.reduceSub, Nat.reduceMul, Nat.reduceLT, Nat.reduceLeDiff, Nat.reduceEqDiff, Nat.reduceBEq, Int.reduceToNat, Int.reduceLE, Int.reduceLT, Int.reduceEq, Int.reduceBEq, Int.reduceBNe, ↓reduceIte, reduceCtorEq, prnNew, prnUsed, rowW, hX]) (by simp only [go_sem, Nat.reduceAdd, Nat.reduceSub, Nat.reduceMul, Nat.reduceLT, Nat.reduceLeDiff, Nat.reduceEqDiff, Nat.reduceBEq, Int.reduceToNat, Int.reduceLE, Int.reduceLT, Int.reduceEq, Int.reduceBEq, Int.reduceBNe, ↓reduceIte, reduceCtorEq, prnNew, prnUsed, rowW, hX]) (by simp only [go_sem, Nat.reduceAdd, Nat.reduceSub, Nat.reduceMul, Nat.reduceLT, Nat.reduceLeDiff, Nat.reduceEqDiff, Nat.reduceBEq, Int.reduceToNat, Int.reduceLE, Int.reduceLT, Int.reduceEq, Int.reduceBEq, Int.reduceBNe, ↓reduceIte, reduceCtorEq, prnNew, prnUsed, rowW, hX]) (by simp only [go_sem, Nat.reduceAdd, Nat.reduceSub, Nat.reduceMul, Nat.reduceLT, Nat.reduceLeDiff, Nat.reduceEqDiff, Nat.reduceBEq, Int.reduceToNat, Int.reduceLE, Int.reduceLT, Int.reduceEq, Int.reduceBEq, Int.reduceBNe, ↓reduceIte, reduceCtorEq, prnNew, prnUsed, rowW, hX]) rfl (by rw [hX]; rfl) ?_; simp only [go_sem, Nat.reduceAdd, Nat.reduceSub, Nat.reduceMul, Nat.reduceLT, Nat.reduceLeDiff, Nat.reduceEqDiff, Nat.reduceBEq, Int.reduceToNat, Int.reduceLE, Int.reduceLT, Int.reduceEq, Int.reduceBEq, Int.reduceBNe, ↓reduceIte, reduceCtorEq, prnNew, prnUsed, rowW, hX])
 ((first | refine rwr_nil (hK _ ?_) | refine de_ (hK _ ?_)); clear hK K)
 refine au_ an0 ?_
 exact oq_ an0
theorem show_bad (c : Cm) (hg : goodCm c) (h : ¬ checkP c = 0) : Sp Tryz.prog 8 [.agg (rCm c)] (.tup [litS ⟨#[]⟩, litI .i64 (checkP c)]) [] := by
 have hC := ccheck_sp c hg
 have e1 : (checkP c != 0) = true := by simp; exact h
 generalize checkP c = e at *
 obtain ⟨k, name, other, column, cols, ty, v, vals, fields, ⟨k1, v1, n1, a1⟩, all, ⟨k2, v2, n2, a2⟩, order, limit⟩ := c
 rw [rCm_mk] at hC ⊢
 (refine en_ Tryz.func8 Tryz.ntmps8 Tryz.results8 fun X hX => ?_)
 refine au_ e1 ?_
 exact oq_ an0
theorem show_ok (c : Cm) (hg : goodCm c) (h : checkP c = 0) {t : ByteArray} (hT : Sp Tryz.prog 21 [.agg (rCm c)] (.one (.t true (.lit (.string t)))) []) : Sp Tryz.prog 8 [.agg (rCm c)] (.tup [litS t, litI .i64 0]) [] := by
 have hC := ccheck_sp c hg
 rw [h] at hC
 obtain ⟨k, name, other, column, cols, ty, v, vals, fields, ⟨k1, v1, n1, a1⟩, all, ⟨k2, v2, n2, a2⟩, order, limit⟩ := c
 rw [rCm_mk] at hC hT ⊢
 (refine en_ Tryz.func8 Tryz.ntmps8 Tryz.results8 fun X hX => ?_)
 refine au_ an0 ?_
 exact oq_ an0
end Go.Proofs.YtjdgejfhnfnmgaaGreatDoor.Ax
namespace Go.Proofs.YtjdgejfhnfnmgaaGreatDoor.Ax
open Go.RowKit
set_option linter.unusedSimpArgs false
attribute [local go_sem] ty3 ty4 ty9 ty5 ty26 ty54 ty22 ty24 ty25 ty27 ty29 ty31 ty91 ty85 prnNew prnUsed rowW
set_option linter.unusedVariables false
set_option maxRecDepth 100000
set_option maxHeartbeats 16000000 in
theorem rtext2_sp (c : Cm) (hr : Rt c) (hk : c.k = 2) (te tw : ByteArray) (ht : TextIs c te tw) : Sp Tryz.prog 10 [.agg (rCm c)] (.one (.t true (.lit (.string (bs (cmdS c te tw)))))) [] := by
 have hB := between_sp c.k 11 13
 have q1 := hr.name
 have q2 := hr.other
 have q3 := hr.column
 have q4 := kindT_small c.ty
 have q5 := valT_small hr.v
 have hS : cmdS c te tw = textW [⟨#[100, 114, 111, 112]⟩, ⟨#[116, 97, 98, 108, 101]⟩, c.name] := by unfold cmdS; rw [if_neg (by rw [hk]; decide)]; rw [if_pos hk]
 rw [hS]
 clear hS
 clear hr ht
 obtain ⟨k, name, other, column, cols, ty, v, vals, fields, ⟨k1, v1, n1, a1⟩, all, ⟨k2, v2, n2, a2⟩, order, limit⟩ := c
 dsimp only at *
 have hX : bs (textW [⟨#[100, 114, 111, 112]⟩, ⟨#[116, 97, 98, 108, 101]⟩, name]) = (⟨#[100, 114, 111, 112, 32, 116, 97, 98, 108, 101, 32]⟩ ++ name) := by
  apply ByteArray.ext
  apply Array.ext'
  simp [bs, textW, wordsT, listT, bracT, colT, wWhere, wSelect, wFrom, wOrder, wBy, wLimit, ByteArray.data_append, List.append_assoc]
 rw [hX]
 clear hX
 have ek := kF hk
 have f0 : 12 + name.size ≤ maxLen := by unfold maxLen; omega
 have f1 : 12 + name.size + 1 ≤ maxLen := by unfold maxLen; omega
 have f2 : 11 + name.size ≤ maxLen := by unfold maxLen; omega
 rw [rCm_mk]
 have F := an4 ek f0 f1 f2
 (refine en_ Tryz.func10 Tryz.ntmps10 Tryz.results10 fun X hX => ?_)
 refine au_ F ?_
 exact oq_ an0
set_option maxHeartbeats 16000000 in
theorem rtext4_sp (c : Cm) (hr : Rt c) (hk : c.k = 4) (te tw : ByteArray) (ht : TextIs c te tw) : Sp Tryz.prog 10 [.agg (rCm c)] (.one (.t true (.lit (.string (bs (cmdS c te tw)))))) [] := by
 have hB := between_sp c.k 11 13
 have q1 := hr.name
 have q2 := hr.other
 have q3 := hr.column
 have q4 := kindT_small c.ty
 have q5 := valT_small hr.v
 have hS : cmdS c te tw = textW [⟨#[97, 108, 116, 101, 114]⟩, ⟨#[116, 97, 98, 108, 101]⟩, c.name] ++ wordsT [⟨#[100, 114, 111, 112]⟩, c.column] := by unfold cmdS; rw [if_neg (by rw [hk]; decide)]; rw [if_neg (by rw [hk]; decide)]; rw [if_neg (by rw [hk]; decide)]; rw [if_pos hk]
 rw [hS]
 clear hS
 clear hr ht
 obtain ⟨k, name, other, column, cols, ty, v, vals, fields, ⟨k1, v1, n1, a1⟩, all, ⟨k2, v2, n2, a2⟩, order, limit⟩ := c
 dsimp only at *
 have hX : bs (textW [⟨#[97, 108, 116, 101, 114]⟩, ⟨#[116, 97, 98, 108, 101]⟩, name] ++ wordsT [⟨#[100, 114, 111, 112]⟩, column]) = ((((⟨#[97, 108, 116, 101, 114, 32, 116, 97, 98, 108, 101, 32]⟩ ++ name) ++ ⟨#[32]⟩) ++ ⟨#[100, 114, 111, 112, 32]⟩) ++ column) := by
  apply ByteArray.ext
  apply Array.ext'
  simp [bs, textW, wordsT, listT, bracT, colT, wWhere, wSelect, wFrom, wOrder, wBy, wLimit, ByteArray.data_append, List.append_assoc]
 rw [hX]
 clear hX
 have ek := kF hk
 have f0 : 12 + name.size ≤ maxLen := by unfold maxLen; omega
 have f1 : 12 + name.size + 1 ≤ maxLen := by unfold maxLen; omega
 have f2 : 12 + name.size + 1 + 5 ≤ maxLen := by unfold maxLen; omega
 have f3 : 12 + name.size + 1 + 5 + column.size ≤ maxLen := by unfold maxLen; omega
 rw [rCm_mk]
 have F := an5 ek f0 f1 f2 f3
 (refine en_ Tryz.func10 Tryz.ntmps10 Tryz.results10 fun X hX => ?_)
 refine au_ F ?_
 exact oq_ an0
set_option maxHeartbeats 16000000 in
theorem rtext5_sp (c : Cm) (hr : Rt c) (hk : c.k = 5) (te tw : ByteArray) (ht : TextIs c te tw) : Sp Tryz.prog 10 [.agg (rCm c)] (.one (.t true (.lit (.string (bs (cmdS c te tw)))))) [] := by
 have hB := between_sp c.k 11 13
 have q1 := hr.name
 have q2 := hr.other
 have q3 := hr.column
 have q4 := kindT_small c.ty
 have q5 := valT_small hr.v
 have hS : cmdS c te tw = textW [⟨#[97, 108, 116, 101, 114]⟩, ⟨#[116, 97, 98, 108, 101]⟩, c.name] ++ wordsT [⟨#[114, 101, 110, 97, 109, 101]⟩, c.column, ⟨#[116, 111]⟩, c.other] := by unfold cmdS; rw [if_neg (by rw [hk]; decide)]; rw [if_neg (by rw [hk]; decide)]; rw [if_neg (by rw [hk]; decide)]; rw [if_neg (by rw [hk]; decide)]; rw [if_pos hk]
 rw [hS]
 clear hS
 clear hr ht
 obtain ⟨k, name, other, column, cols, ty, v, vals, fields, ⟨k1, v1, n1, a1⟩, all, ⟨k2, v2, n2, a2⟩, order, limit⟩ := c
 dsimp only at *
 have hX : bs (textW [⟨#[97, 108, 116, 101, 114]⟩, ⟨#[116, 97, 98, 108, 101]⟩, name] ++ wordsT [⟨#[114, 101, 110, 97, 109, 101]⟩, column, ⟨#[116, 111]⟩, other]) = ((((((⟨#[97, 108, 116, 101, 114, 32, 116, 97, 98, 108, 101, 32]⟩ ++ name) ++ ⟨#[32]⟩) ++ ⟨#[114, 101, 110, 97, 109, 101, 32]⟩) ++ column) ++ ⟨#[32, 116, 111, 32]⟩) ++ other) := by
  apply ByteArray.ext
  apply Array.ext'
  simp [bs, textW, wordsT, listT, bracT, colT, wWhere, wSelect, wFrom, wOrder, wBy, wLimit, ByteArray.data_append, List.append_assoc]
 rw [hX]
 clear hX
 have ek := kF hk
 have f0 : 12 + name.size ≤ maxLen := by unfold maxLen; omega
 have f1 : 12 + name.size + 1 ≤ maxLen := by unfold maxLen; omega
 have f2 : 12 + name.size + 1 + 7 ≤ maxLen := by unfold maxLen; omega
 have f3 : 12 + name.size + 1 + 7 + column.size ≤ maxLen := by unfold maxLen; omega
 have f4 : 12 + name.size + 1 + 7 + column.size + 4 ≤ maxLen := by unfold maxLen; omega
 have f5 : 12 + name.size + 1 + 7 + column.size + 4 + other.size ≤ maxLen := by unfold maxLen; omega
 rw [rCm_mk]
 have F := an7 ek f0 f1 f2 f3 f4 f5
 (refine en_ Tryz.func10 Tryz.ntmps10 Tryz.results10 fun X hX => ?_)
 refine au_ F ?_
 exact oq_ an0
set_option maxHeartbeats 16000000 in
theorem rtext7_sp (c : Cm) (hr : Rt c) (hk : c.k = 7) (te tw : ByteArray) (ht : TextIs c te tw) : Sp Tryz.prog 10 [.agg (rCm c)] (.one (.t true (.lit (.string (bs (cmdS c te tw)))))) [] := by
 have hB := between_sp c.k 11 13
 have q1 := hr.name
 have q2 := hr.other
 have q3 := hr.column
 have q4 := kindT_small c.ty
 have q5 := valT_small hr.v
 have hS : cmdS c te tw = textW [⟨#[97, 108, 116, 101, 114]⟩, ⟨#[116, 97, 98, 108, 101]⟩, c.name] ++ wordsT [⟨#[114, 101, 110, 97, 109, 101]⟩, ⟨#[116, 111]⟩, c.other] := by unfold cmdS; rw [if_neg (by rw [hk]; decide)]; rw [if_neg (by rw [hk]; decide)]; rw [if_neg (by rw [hk]; decide)]; rw [if_neg (by rw [hk]; decide)]; rw [if_neg (by rw [hk]; decide)]; rw [if_neg (by rw [hk]; decide)]; rw [if_pos hk]
 rw [hS]
 clear hS
 clear hr ht
 obtain ⟨k, name, other, column, cols, ty, v, vals, fields, ⟨k1, v1, n1, a1⟩, all, ⟨k2, v2, n2, a2⟩, order, limit⟩ := c
 dsimp only at *
 have hX : bs (textW [⟨#[97, 108, 116, 101, 114]⟩, ⟨#[116, 97, 98, 108, 101]⟩, name] ++ wordsT [⟨#[114, 101, 110, 97, 109, 101]⟩, ⟨#[116, 111]⟩, other]) = ((((⟨#[97, 108, 116, 101, 114, 32, 116, 97, 98, 108, 101, 32]⟩ ++ name) ++ ⟨#[32]⟩) ++ ⟨#[114, 101, 110, 97, 109, 101, 32, 116, 111, 32]⟩) ++ other) := by
  apply ByteArray.ext
  apply Array.ext'
  simp [bs, textW, wordsT, listT, bracT, colT, wWhere, wSelect, wFrom, wOrder, wBy, wLimit, ByteArray.data_append, List.append_assoc]
 rw [hX]
 clear hX
 have ek := kF hk
 have f0 : 12 + name.size ≤ maxLen := by unfold maxLen; omega
 have f1 : 12 + name.size + 1 ≤ maxLen := by unfold maxLen; omega
 have f2 : 12 + name.size + 1 + 10 ≤ maxLen := by unfold maxLen; omega
 have f3 : 12 + name.size + 1 + 10 + other.size ≤ maxLen := by unfold maxLen; omega
 rw [rCm_mk]
 have F := an5 ek f0 f1 f2 f3
 (refine en_ Tryz.func10 Tryz.ntmps10 Tryz.results10 fun X hX => ?_)
 refine au_ F ?_
 exact oq_ an0
set_option maxHeartbeats 16000000 in
theorem rtext8_sp (c : Cm) (hr : Rt c) (hk : c.k = 8) (te tw : ByteArray) (ht : TextIs c te tw) : Sp Tryz.prog 10 [.agg (rCm c)] (.one (.t true (.lit (.string (bs (cmdS c te tw)))))) [] := by
 have hB := between_sp c.k 11 13
 have q1 := hr.name
 have q2 := hr.other
 have q3 := hr.column
 have q4 := kindT_small c.ty
 have q5 := valT_small hr.v
 have hS : cmdS c te tw = textW [⟨#[99, 114, 101, 97, 116, 101]⟩, ⟨#[105, 110, 100, 101, 120]⟩, c.name, ⟨#[111, 110]⟩, c.other, bracT c.column] := by unfold cmdS; rw [if_neg (by rw [hk]; decide)]; rw [if_neg (by rw [hk]; decide)]; rw [if_neg (by rw [hk]; decide)]; rw [if_neg (by rw [hk]; decide)]; rw [if_neg (by rw [hk]; decide)]; rw [if_neg (by rw [hk]; decide)]; rw [if_neg (by rw [hk]; decide)]; rw [if_pos hk]
 rw [hS]
 clear hS
 clear hr ht
 obtain ⟨k, name, other, column, cols, ty, v, vals, fields, ⟨k1, v1, n1, a1⟩, all, ⟨k2, v2, n2, a2⟩, order, limit⟩ := c
 dsimp only at *
 have hX : bs (textW [⟨#[99, 114, 101, 97, 116, 101]⟩, ⟨#[105, 110, 100, 101, 120]⟩, name, ⟨#[111, 110]⟩, other, bracT column]) = ((((((⟨#[99, 114, 101, 97, 116, 101, 32, 105, 110, 100, 101, 120, 32]⟩ ++ name) ++ ⟨#[32, 111, 110, 32]⟩) ++ other) ++ ⟨#[32, 40]⟩) ++ column) ++ ⟨#[41]⟩) := by
  apply ByteArray.ext
  apply Array.ext'
  simp [bs, textW, wordsT, listT, bracT, colT, wWhere, wSelect, wFrom, wOrder, wBy, wLimit, ByteArray.data_append, List.append_assoc]
 rw [hX]
 clear hX
 have ek := kF hk
 have f0 : 12 + name.size ≤ maxLen := by unfold maxLen; omega
 have f1 : 12 + name.size + 1 ≤ maxLen := by unfold maxLen; omega
 have f2 : 13 + name.size ≤ maxLen := by unfold maxLen; omega
 have f3 : 13 + name.size + 4 ≤ maxLen := by unfold maxLen; omega
 have f4 : 13 + name.size + 4 + other.size ≤ maxLen := by unfold maxLen; omega
 have f5 : 13 + name.size + 4 + other.size + 2 ≤ maxLen := by unfold maxLen; omega
 have f6 : 13 + name.size + 4 + other.size + 2 + column.size ≤ maxLen := by unfold maxLen; omega
 have f7 : 13 + name.size + 4 + other.size + 2 + column.size + 1 ≤ maxLen := by unfold maxLen; omega
 rw [rCm_mk]
 have F := an2 (an7 ek f0 f1 f2 f3 f4 f5) (an2 f6 f7)
 (refine en_ Tryz.func10 Tryz.ntmps10 Tryz.results10 fun X hX => ?_)
 refine au_ F ?_
 exact oq_ an0
set_option maxHeartbeats 16000000 in
theorem rtext9_sp (c : Cm) (hr : Rt c) (hk : c.k = 9) (te tw : ByteArray) (ht : TextIs c te tw) : Sp Tryz.prog 10 [.agg (rCm c)] (.one (.t true (.lit (.string (bs (cmdS c te tw)))))) [] := by
 have hB := between_sp c.k 11 13
 have q1 := hr.name
 have q2 := hr.other
 have q3 := hr.column
 have q4 := kindT_small c.ty
 have q5 := valT_small hr.v
 have hS : cmdS c te tw = textW [⟨#[100, 114, 111, 112]⟩, ⟨#[105, 110, 100, 101, 120]⟩, c.name] := by unfold cmdS; rw [if_neg (by rw [hk]; decide)]; rw [if_neg (by rw [hk]; decide)]; rw [if_neg (by rw [hk]; decide)]; rw [if_neg (by rw [hk]; decide)]; rw [if_neg (by rw [hk]; decide)]; rw [if_neg (by rw [hk]; decide)]; rw [if_neg (by rw [hk]; decide)]; rw [if_neg (by rw [hk]; decide)]; rw [if_pos hk]
 rw [hS]
 clear hS
 clear hr ht
 obtain ⟨k, name, other, column, cols, ty, v, vals, fields, ⟨k1, v1, n1, a1⟩, all, ⟨k2, v2, n2, a2⟩, order, limit⟩ := c
 dsimp only at *
 have hX : bs (textW [⟨#[100, 114, 111, 112]⟩, ⟨#[105, 110, 100, 101, 120]⟩, name]) = (⟨#[100, 114, 111, 112, 32, 105, 110, 100, 101, 120, 32]⟩ ++ name) := by
  apply ByteArray.ext
  apply Array.ext'
  simp [bs, textW, wordsT, listT, bracT, colT, wWhere, wSelect, wFrom, wOrder, wBy, wLimit, ByteArray.data_append, List.append_assoc]
 rw [hX]
 clear hX
 have ek := kF hk
 have f0 : 12 + name.size ≤ maxLen := by unfold maxLen; omega
 have f1 : 12 + name.size + 1 ≤ maxLen := by unfold maxLen; omega
 have f2 : 11 + name.size ≤ maxLen := by unfold maxLen; omega
 rw [rCm_mk]
 have F := an4 ek f0 f1 f2
 (refine en_ Tryz.func10 Tryz.ntmps10 Tryz.results10 fun X hX => ?_)
 refine au_ F ?_
 exact oq_ an0
set_option maxHeartbeats 16000000 in
theorem rtext14_sp (c : Cm) (hr : Rt c) (hk : c.k = 14) (te tw : ByteArray) (ht : TextIs c te tw) : Sp Tryz.prog 10 [.agg (rCm c)] (.one (.t true (.lit (.string (bs (cmdS c te tw)))))) [] := by
 have hB := between_sp c.k 11 13
 have q1 := hr.name
 have q2 := hr.other
 have q3 := hr.column
 have q4 := kindT_small c.ty
 have q5 := valT_small hr.v
 have hS : cmdS c te tw = textW [⟨#[98, 101, 103, 105, 110]⟩] := by unfold cmdS; rw [if_neg (by rw [hk]; decide)]; rw [if_neg (by rw [hk]; decide)]; rw [if_neg (by rw [hk]; decide)]; rw [if_neg (by rw [hk]; decide)]; rw [if_neg (by rw [hk]; decide)]; rw [if_neg (by rw [hk]; decide)]; rw [if_neg (by rw [hk]; decide)]; rw [if_neg (by rw [hk]; decide)]; rw [if_neg (by rw [hk]; decide)]; rw [if_neg (by rw [hk]; decide)]; rw [if_neg (by rw [hk]; decide)]; rw [if_neg (by rw [hk]; decide)]; rw [if_neg (by rw [hk]; decide)]; rw [if_pos hk]
 rw [hS]
 clear hS
 clear hr ht
 obtain ⟨k, name, other, column, cols, ty, v, vals, fields, ⟨k1, v1, n1, a1⟩, all, ⟨k2, v2, n2, a2⟩, order, limit⟩ := c
 dsimp only at *
 have hX : bs (textW [⟨#[98, 101, 103, 105, 110]⟩]) = ⟨#[98, 101, 103, 105, 110]⟩ := by
  apply ByteArray.ext
  apply Array.ext'
  simp [bs, textW, wordsT, listT, bracT, colT, wWhere, wSelect, wFrom, wOrder, wBy, wLimit, ByteArray.data_append, List.append_assoc]
 rw [hX]
 clear hX
 have ek := kF hk
 have e17 : IntKind.i64.wrap (k - 14) = ((0 : Nat) : Int) := by rw [IntWalk.i64_in _ (by omega)]; omega
 have f0 : 12 + name.size ≤ maxLen := by unfold maxLen; omega
 have f1 : 12 + name.size + 1 ≤ maxLen := by unfold maxLen; omega
 rw [rCm_mk]
 have F := an4 ek f0 f1 e17
 (refine en_ Tryz.func10 Tryz.ntmps10 Tryz.results10 fun X hX => ?_)
 refine au_ F ?_
 exact oq_ an0
set_option maxHeartbeats 16000000 in
theorem rtext15_sp (c : Cm) (hr : Rt c) (hk : c.k = 15) (te tw : ByteArray) (ht : TextIs c te tw) : Sp Tryz.prog 10 [.agg (rCm c)] (.one (.t true (.lit (.string (bs (cmdS c te tw)))))) [] := by
 have hB := between_sp c.k 11 13
 have q1 := hr.name
 have q2 := hr.other
 have q3 := hr.column
 have q4 := kindT_small c.ty
 have q5 := valT_small hr.v
 have hS : cmdS c te tw = textW [⟨#[99, 111, 109, 109, 105, 116]⟩] := by unfold cmdS; rw [if_neg (by rw [hk]; decide)]; rw [if_neg (by rw [hk]; decide)]; rw [if_neg (by rw [hk]; decide)]; rw [if_neg (by rw [hk]; decide)]; rw [if_neg (by rw [hk]; decide)]; rw [if_neg (by rw [hk]; decide)]; rw [if_neg (by rw [hk]; decide)]; rw [if_neg (by rw [hk]; decide)]; rw [if_neg (by rw [hk]; decide)]; rw [if_neg (by rw [hk]; decide)]; rw [if_neg (by rw [hk]; decide)]; rw [if_neg (by rw [hk]; decide)]; rw [if_neg (by rw [hk]; decide)]; rw [if_neg (by rw [hk]; decide)]; rw [if_pos hk]
 rw [hS]
 clear hS
 clear hr ht
 obtain ⟨k, name, other, column, cols, ty, v, vals, fields, ⟨k1, v1, n1, a1⟩, all, ⟨k2, v2, n2, a2⟩, order, limit⟩ := c
 dsimp only at *
 have hX : bs (textW [⟨#[99, 111, 109, 109, 105, 116]⟩]) = ⟨#[99, 111, 109, 109, 105, 116]⟩ := by
  apply ByteArray.ext
  apply Array.ext'
  simp [bs, textW, wordsT, listT, bracT, colT, wWhere, wSelect, wFrom, wOrder, wBy, wLimit, ByteArray.data_append, List.append_assoc]
 rw [hX]
 clear hX
 have ek := kF hk
 have e17 : IntKind.i64.wrap (k - 14) = ((1 : Nat) : Int) := by rw [IntWalk.i64_in _ (by omega)]; omega
 have f0 : 12 + name.size ≤ maxLen := by unfold maxLen; omega
 have f1 : 12 + name.size + 1 ≤ maxLen := by unfold maxLen; omega
 rw [rCm_mk]
 have F := an4 ek f0 f1 e17
 (refine en_ Tryz.func10 Tryz.ntmps10 Tryz.results10 fun X hX => ?_)
 refine au_ F ?_
 exact oq_ an0
set_option maxHeartbeats 16000000 in
theorem rtext16_sp (c : Cm) (hr : Rt c) (hk : c.k = 16) (te tw : ByteArray) (ht : TextIs c te tw) : Sp Tryz.prog 10 [.agg (rCm c)] (.one (.t true (.lit (.string (bs (cmdS c te tw)))))) [] := by
 have hB := between_sp c.k 11 13
 have q1 := hr.name
 have q2 := hr.other
 have q3 := hr.column
 have q4 := kindT_small c.ty
 have q5 := valT_small hr.v
 have hS : cmdS c te tw = textW [⟨#[114, 111, 108, 108, 98, 97, 99, 107]⟩] := by unfold cmdS; rw [if_neg (by rw [hk]; decide)]; rw [if_neg (by rw [hk]; decide)]; rw [if_neg (by rw [hk]; decide)]; rw [if_neg (by rw [hk]; decide)]; rw [if_neg (by rw [hk]; decide)]; rw [if_neg (by rw [hk]; decide)]; rw [if_neg (by rw [hk]; decide)]; rw [if_neg (by rw [hk]; decide)]; rw [if_neg (by rw [hk]; decide)]; rw [if_neg (by rw [hk]; decide)]; rw [if_neg (by rw [hk]; decide)]; rw [if_neg (by rw [hk]; decide)]; rw [if_neg (by rw [hk]; decide)]; rw [if_neg (by rw [hk]; decide)]; rw [if_neg (by rw [hk]; decide)]
 rw [hS]
 clear hS
 clear hr ht
 obtain ⟨k, name, other, column, cols, ty, v, vals, fields, ⟨k1, v1, n1, a1⟩, all, ⟨k2, v2, n2, a2⟩, order, limit⟩ := c
 dsimp only at *
 have hX : bs (textW [⟨#[114, 111, 108, 108, 98, 97, 99, 107]⟩]) = ⟨#[114, 111, 108, 108, 98, 97, 99, 107]⟩ := by
  apply ByteArray.ext
  apply Array.ext'
  simp [bs, textW, wordsT, listT, bracT, colT, wWhere, wSelect, wFrom, wOrder, wBy, wLimit, ByteArray.data_append, List.append_assoc]
 rw [hX]
 clear hX
 have ek := kF hk
 have e17 : IntKind.i64.wrap (k - 14) = ((2 : Nat) : Int) := by rw [IntWalk.i64_in _ (by omega)]; omega
 have f0 : 12 + name.size ≤ maxLen := by unfold maxLen; omega
 have f1 : 12 + name.size + 1 ≤ maxLen := by unfold maxLen; omega
 rw [rCm_mk]
 have F := an4 ek f0 f1 e17
 (refine en_ Tryz.func10 Tryz.ntmps10 Tryz.results10 fun X hX => ?_)
 refine au_ F ?_
 exact oq_ an0
end Go.Proofs.YtjdgejfhnfnmgaaGreatDoor.Ax
