/-  -/
import Derived.Test.YtjdgejfhnfnmgaaGreatDoorAxW
import Derived.Test.YtjdgejfhnfnmgaaGreatDoorM32
namespace Go.Proofs.YtjdgejfhnfnmgaaGreatDoor.Ax
open Go.RowKit
set_option linter.unusedSimpArgs false
attribute [local go_sem] ty3 ty4 ty9 ty5 ty26 ty54 ty22 ty24 ty25 ty27 ty29 ty31 ty91 ty85 prnNew prnUsed rowW
set_option linter.unusedVariables false
set_option maxRecDepth 100000
set_option maxHeartbeats 16000000 in
theorem rtext3_sp (c : Cm) (hr : Rt c) (hk : c.k = 3) (te tw : ByteArray) (ht : TextIs c te tw) : Sp Tryz.prog 10 [.agg (rCm c)] (.one (.t true (.lit (.string (bs (cmdS c te tw)))))) [] := by
 have hB := between_sp c.k 11 13
 have q1 := hr.name
 have q2 := hr.other
 have q3 := hr.column
 have q4 := kindT_small c.ty
 have q5 := valT_small hr.v
 have hS : cmdS c te tw = textW [⟨#[97, 108, 116, 101, 114]⟩, ⟨#[116, 97, 98, 108, 101]⟩, c.name] ++ wordsT [⟨#[97, 100, 100]⟩, c.column, kindT c.ty, ⟨#[100, 101, 102, 97, 117, 108, 116]⟩, valT c.v] := by unfold cmdS; rw [if_neg (by rw [hk]; decide)]; rw [if_neg (by rw [hk]; decide)]; rw [if_pos hk]
 rw [hS]
 clear hS
 have hty := hr.ty (by rw [hk]; rfl)
 have hV := rvaltext_sp c.v hr.v
 clear hr ht
 obtain ⟨k, name, other, column, cols, ty, v, vals, fields, ⟨k1, v1, n1, a1⟩, all, ⟨k2, v2, n2, a2⟩, order, limit⟩ := c
 dsimp only at *
 have ek := kF hk
 rw [rCm_mk]
 obtain ⟨h1, h3⟩ := hty
 obtain rfl | rfl | rfl : ty = 1 ∨ ty = 2 ∨ ty = 3 := by omega
 ·have hkt : kindT 1 = ⟨#[105, 110, 116]⟩ := rfl
  rw [hkt]
  clear hkt q4
  have hX : bs (textW [⟨#[97, 108, 116, 101, 114]⟩, ⟨#[116, 97, 98, 108, 101]⟩, name] ++ wordsT [⟨#[97, 100, 100]⟩, column, ⟨#[105, 110, 116]⟩, ⟨#[100, 101, 102, 97, 117, 108, 116]⟩, valT v]) = ((((((((⟨#[97, 108, 116, 101, 114, 32, 116, 97, 98, 108, 101, 32]⟩ ++ name) ++ ⟨#[32]⟩) ++ ⟨#[97, 100, 100, 32]⟩) ++ column) ++ ⟨#[32]⟩) ++ ⟨#[105, 110, 116]⟩) ++ ⟨#[32, 100, 101, 102, 97, 117, 108, 116, 32]⟩) ++ (valT v)) := by
   apply ByteArray.ext
   apply Array.ext'
   simp [bs, textW, wordsT, listT, bracT, colT, wWhere, wSelect, wFrom, wOrder, wBy, wLimit, ByteArray.data_append, List.append_assoc]
  rw [hX]
  clear hX
  generalize valT v = vt at *
  have f0 : 12 + name.size ≤ maxLen := by unfold maxLen; omega
  have f1 : 12 + name.size + 1 ≤ maxLen := by unfold maxLen; omega
  have f2 : 12 + name.size + 1 + 4 ≤ maxLen := by unfold maxLen; omega
  have f3 : 12 + name.size + 1 + 4 + column.size ≤ maxLen := by unfold maxLen; omega
  have f4 : 12 + name.size + 1 + 4 + column.size + 1 ≤ maxLen := by unfold maxLen; omega
  have f5 : 12 + name.size + 1 + 4 + column.size + 1 + 3 ≤ maxLen := by unfold maxLen; omega
  have f6 : 12 + name.size + 1 + 4 + column.size + 1 + 3 + 9 ≤ maxLen := by unfold maxLen; omega
  have f7 : 12 + name.size + 1 + 4 + column.size + 1 + 3 + 9 + vt.size ≤ maxLen := by unfold maxLen; omega
  have F := an2 (an7 ek f0 f1 f2 f3 f4 f5) (an2 f6 f7)
  (refine en_ Tryz.func10 Tryz.ntmps10 Tryz.results10 fun X hX => ?_)
  refine au_ F ?_
  exact oq_ an0
 ·have hkt : kindT 2 = ⟨#[116, 101, 120, 116]⟩ := rfl
  rw [hkt]
  clear hkt q4
  have hX : bs (textW [⟨#[97, 108, 116, 101, 114]⟩, ⟨#[116, 97, 98, 108, 101]⟩, name] ++ wordsT [⟨#[97, 100, 100]⟩, column, ⟨#[116, 101, 120, 116]⟩, ⟨#[100, 101, 102, 97, 117, 108, 116]⟩, valT v]) = ((((((((⟨#[97, 108, 116, 101, 114, 32, 116, 97, 98, 108, 101, 32]⟩ ++ name) ++ ⟨#[32]⟩) ++ ⟨#[97, 100, 100, 32]⟩) ++ column) ++ ⟨#[32]⟩) ++ ⟨#[116, 101, 120, 116]⟩) ++ ⟨#[32, 100, 101, 102, 97, 117, 108, 116, 32]⟩) ++ (valT v)) := by
   apply ByteArray.ext
   apply Array.ext'
   simp [bs, textW, wordsT, listT, bracT, colT, wWhere, wSelect, wFrom, wOrder, wBy, wLimit, ByteArray.data_append, List.append_assoc]
  rw [hX]
  clear hX
  generalize valT v = vt at *
  have f0 : 12 + name.size ≤ maxLen := by unfold maxLen; omega
  have f1 : 12 + name.size + 1 ≤ maxLen := by unfold maxLen; omega
  have f2 : 12 + name.size + 1 + 4 ≤ maxLen := by unfold maxLen; omega
  have f3 : 12 + name.size + 1 + 4 + column.size ≤ maxLen := by unfold maxLen; omega
  have f4 : 12 + name.size + 1 + 4 + column.size + 1 ≤ maxLen := by unfold maxLen; omega
  have f5 : 12 + name.size + 1 + 4 + column.size + 1 + 4 ≤ maxLen := by unfold maxLen; omega
  have f6 : 12 + name.size + 1 + 4 + column.size + 1 + 4 + 9 ≤ maxLen := by unfold maxLen; omega
  have f7 : 12 + name.size + 1 + 4 + column.size + 1 + 4 + 9 + vt.size ≤ maxLen := by unfold maxLen; omega
  have F := an2 (an7 ek f0 f1 f2 f3 f4 f5) (an2 f6 f7)
  (refine en_ Tryz.func10 Tryz.ntmps10 Tryz.results10 fun X hX => ?_)
  refine au_ F ?_
  exact oq_ an0
 ·have hkt : kindT 3 = ⟨#[98, 111, 111, 108]⟩ := rfl
  rw [hkt]
  clear hkt q4
  have hX : bs (textW [⟨#[97, 108, 116, 101, 114]⟩, ⟨#[116, 97, 98, 108, 101]⟩, name] ++ wordsT [⟨#[97, 100, 100]⟩, column, ⟨#[98, 111, 111, 108]⟩, ⟨#[100, 101, 102, 97, 117, 108, 116]⟩, valT v]) = ((((((((⟨#[97, 108, 116, 101, 114, 32, 116, 97, 98, 108, 101, 32]⟩ ++ name) ++ ⟨#[32]⟩) ++ ⟨#[97, 100, 100, 32]⟩) ++ column) ++ ⟨#[32]⟩) ++ ⟨#[98, 111, 111, 108]⟩) ++ ⟨#[32, 100, 101, 102, 97, 117, 108, 116, 32]⟩) ++ (valT v)) := by
   apply ByteArray.ext
   apply Array.ext'
   simp [bs, textW, wordsT, listT, bracT, colT, wWhere, wSelect, wFrom, wOrder, wBy, wLimit, ByteArray.data_append, List.append_assoc]
  rw [hX]
  clear hX
  generalize valT v = vt at *
  have f0 : 12 + name.size ≤ maxLen := by unfold maxLen; omega
  have f1 : 12 + name.size + 1 ≤ maxLen := by unfold maxLen; omega
  have f2 : 12 + name.size + 1 + 4 ≤ maxLen := by unfold maxLen; omega
  have f3 : 12 + name.size + 1 + 4 + column.size ≤ maxLen := by unfold maxLen; omega
  have f4 : 12 + name.size + 1 + 4 + column.size + 1 ≤ maxLen := by unfold maxLen; omega
  have f5 : 12 + name.size + 1 + 4 + column.size + 1 + 4 ≤ maxLen := by unfold maxLen; omega
  have f6 : 12 + name.size + 1 + 4 + column.size + 1 + 4 + 9 ≤ maxLen := by unfold maxLen; omega
  have f7 : 12 + name.size + 1 + 4 + column.size + 1 + 4 + 9 + vt.size ≤ maxLen := by unfold maxLen; omega
  have F := an2 (an7 ek f0 f1 f2 f3 f4 f5) (an2 f6 f7)
  (refine en_ Tryz.func10 Tryz.ntmps10 Tryz.results10 fun X hX => ?_)
  refine au_ F ?_
  exact oq_ an0
set_option maxHeartbeats 16000000 in
theorem rtext6_sp (c : Cm) (hr : Rt c) (hk : c.k = 6) (te tw : ByteArray) (ht : TextIs c te tw) : Sp Tryz.prog 10 [.agg (rCm c)] (.one (.t true (.lit (.string (bs (cmdS c te tw)))))) [] := by
 have hB := between_sp c.k 11 13
 have q1 := hr.name
 have q2 := hr.other
 have q3 := hr.column
 have q4 := kindT_small c.ty
 have q5 := valT_small hr.v
 have hS : cmdS c te tw = textW [⟨#[97, 108, 116, 101, 114]⟩, ⟨#[116, 97, 98, 108, 101]⟩, c.name] ++ wordsT [⟨#[114, 101, 116, 121, 112, 101]⟩, c.column, kindT c.ty] := by unfold cmdS; rw [if_neg (by rw [hk]; decide)]; rw [if_neg (by rw [hk]; decide)]; rw [if_neg (by rw [hk]; decide)]; rw [if_neg (by rw [hk]; decide)]; rw [if_neg (by rw [hk]; decide)]; rw [if_pos hk]
 rw [hS]
 clear hS
 have hty := hr.ty (by rw [hk]; rfl)
 clear hr ht
 obtain ⟨k, name, other, column, cols, ty, v, vals, fields, ⟨k1, v1, n1, a1⟩, all, ⟨k2, v2, n2, a2⟩, order, limit⟩ := c
 dsimp only at *
 have ek := kF hk
 rw [rCm_mk]
 obtain ⟨h1, h3⟩ := hty
 obtain rfl | rfl | rfl : ty = 1 ∨ ty = 2 ∨ ty = 3 := by omega
 ·have hkt : kindT 1 = ⟨#[105, 110, 116]⟩ := rfl
  rw [hkt]
  clear hkt q4
  have hX : bs (textW [⟨#[97, 108, 116, 101, 114]⟩, ⟨#[116, 97, 98, 108, 101]⟩, name] ++ wordsT [⟨#[114, 101, 116, 121, 112, 101]⟩, column, ⟨#[105, 110, 116]⟩]) = ((((((⟨#[97, 108, 116, 101, 114, 32, 116, 97, 98, 108, 101, 32]⟩ ++ name) ++ ⟨#[32]⟩) ++ ⟨#[114, 101, 116, 121, 112, 101, 32]⟩) ++ column) ++ ⟨#[32]⟩) ++ ⟨#[105, 110, 116]⟩) := by
   apply ByteArray.ext
   apply Array.ext'
   simp [bs, textW, wordsT, listT, bracT, colT, wWhere, wSelect, wFrom, wOrder, wBy, wLimit, ByteArray.data_append, List.append_assoc]
  rw [hX]
  clear hX
  have f0 : 12 + name.size ≤ maxLen := by unfold maxLen; omega
  have f1 : 12 + name.size + 1 ≤ maxLen := by unfold maxLen; omega
  have f2 : 12 + name.size + 1 + 7 ≤ maxLen := by unfold maxLen; omega
  have f3 : 12 + name.size + 1 + 7 + column.size ≤ maxLen := by unfold maxLen; omega
  have f4 : 12 + name.size + 1 + 7 + column.size + 1 ≤ maxLen := by unfold maxLen; omega
  have f5 : 12 + name.size + 1 + 7 + column.size + 1 + 3 ≤ maxLen := by unfold maxLen; omega
  have F := an7 ek f0 f1 f2 f3 f4 f5
  (refine en_ Tryz.func10 Tryz.ntmps10 Tryz.results10 fun X hX => ?_)
  refine au_ F ?_
  exact oq_ an0
 ·have hkt : kindT 2 = ⟨#[116, 101, 120, 116]⟩ := rfl
  rw [hkt]
  clear hkt q4
  have hX : bs (textW [⟨#[97, 108, 116, 101, 114]⟩, ⟨#[116, 97, 98, 108, 101]⟩, name] ++ wordsT [⟨#[114, 101, 116, 121, 112, 101]⟩, column, ⟨#[116, 101, 120, 116]⟩]) = ((((((⟨#[97, 108, 116, 101, 114, 32, 116, 97, 98, 108, 101, 32]⟩ ++ name) ++ ⟨#[32]⟩) ++ ⟨#[114, 101, 116, 121, 112, 101, 32]⟩) ++ column) ++ ⟨#[32]⟩) ++ ⟨#[116, 101, 120, 116]⟩) := by
   apply ByteArray.ext
   apply Array.ext'
   simp [bs, textW, wordsT, listT, bracT, colT, wWhere, wSelect, wFrom, wOrder, wBy, wLimit, ByteArray.data_append, List.append_assoc]
  rw [hX]
  clear hX
  have f0 : 12 + name.size ≤ maxLen := by unfold maxLen; omega
  have f1 : 12 + name.size + 1 ≤ maxLen := by unfold maxLen; omega
  have f2 : 12 + name.size + 1 + 7 ≤ maxLen := by unfold maxLen; omega
  have f3 : 12 + name.size + 1 + 7 + column.size ≤ maxLen := by unfold maxLen; omega
  have f4 : 12 + name.size + 1 + 7 + column.size + 1 ≤ maxLen := by unfold maxLen; omega
  have f5 : 12 + name.size + 1 + 7 + column.size + 1 + 4 ≤ maxLen := by unfold maxLen; omega
  have F := an7 ek f0 f1 f2 f3 f4 f5
  (refine en_ Tryz.func10 Tryz.ntmps10 Tryz.results10 fun X hX => ?_)
  refine au_ F ?_
  exact oq_ an0
 ·have hkt : kindT 3 = ⟨#[98, 111, 111, 108]⟩ := rfl
  rw [hkt]
  clear hkt q4
  have hX : bs (textW [⟨#[97, 108, 116, 101, 114]⟩, ⟨#[116, 97, 98, 108, 101]⟩, name] ++ wordsT [⟨#[114, 101, 116, 121, 112, 101]⟩, column, ⟨#[98, 111, 111, 108]⟩]) = ((((((⟨#[97, 108, 116, 101, 114, 32, 116, 97, 98, 108, 101, 32]⟩ ++ name) ++ ⟨#[32]⟩) ++ ⟨#[114, 101, 116, 121, 112, 101, 32]⟩) ++ column) ++ ⟨#[32]⟩) ++ ⟨#[98, 111, 111, 108]⟩) := by
   apply ByteArray.ext
   apply Array.ext'
   simp [bs, textW, wordsT, listT, bracT, colT, wWhere, wSelect, wFrom, wOrder, wBy, wLimit, ByteArray.data_append, List.append_assoc]
  rw [hX]
  clear hX
  have f0 : 12 + name.size ≤ maxLen := by unfold maxLen; omega
  have f1 : 12 + name.size + 1 ≤ maxLen := by unfold maxLen; omega
  have f2 : 12 + name.size + 1 + 7 ≤ maxLen := by unfold maxLen; omega
  have f3 : 12 + name.size + 1 + 7 + column.size ≤ maxLen := by unfold maxLen; omega
  have f4 : 12 + name.size + 1 + 7 + column.size + 1 ≤ maxLen := by unfold maxLen; omega
  have f5 : 12 + name.size + 1 + 7 + column.size + 1 + 4 ≤ maxLen := by unfold maxLen; omega
  have F := an7 ek f0 f1 f2 f3 f4 f5
  (refine en_ Tryz.func10 Tryz.ntmps10 Tryz.results10 fun X hX => ?_)
  refine au_ F ?_
  exact oq_ an0
set_option maxHeartbeats 16000000 in
theorem rtext11_sp (c : Cm) (hr : Rt c) (hk : c.k = 11) (te tw : ByteArray) (ht : TextIs c te tw) : Sp Tryz.prog 10 [.agg (rCm c)] (.one (.t true (.lit (.string (bs (cmdS c te tw)))))) [] := by
 have hB := between_sp c.k 11 13
 have q1 := hr.name
 have q2 := hr.other
 have q3 := hr.column
 have q4 := kindT_small c.ty
 have q5 := valT_small hr.v
 have hS : cmdS c te tw = textW [⟨#[100, 101, 108, 101, 116, 101]⟩, ⟨#[102, 114, 111, 109]⟩, c.name] ++ wordsT (whereW c tw) := by unfold cmdS; rw [if_neg (by rw [hk]; decide)]; rw [if_neg (by rw [hk]; decide)]; rw [if_neg (by rw [hk]; decide)]; rw [if_neg (by rw [hk]; decide)]; rw [if_neg (by rw [hk]; decide)]; rw [if_neg (by rw [hk]; decide)]; rw [if_neg (by rw [hk]; decide)]; rw [if_neg (by rw [hk]; decide)]; rw [if_neg (by rw [hk]; decide)]; rw [if_neg (by rw [hk]; decide)]; rw [if_pos hk]
 rw [hS]
 clear hS
 have hwh := ht.wh (by rw [hk]; rfl)
 clear hr ht
 obtain ⟨k, name, other, column, cols, ty, v, vals, fields, ⟨k1, v1, n1, a1⟩, all, ⟨k2, v2, n2, a2⟩, order, limit⟩ := c
 dsimp only at *
 have ek := kF hk
 rw [rCm_mk]
 cases all with
 | true =>
  unfold whereW
  rw [if_pos rfl]
  have hX : bs (textW [⟨#[100, 101, 108, 101, 116, 101]⟩, ⟨#[102, 114, 111, 109]⟩, name] ++ wordsT []) = ((⟨#[100, 101, 108, 101, 116, 101, 32, 102, 114, 111, 109, 32]⟩ ++ name) ++ ⟨#[]⟩) := by
   apply ByteArray.ext
   apply Array.ext'
   simp [bs, textW, wordsT, listT, bracT, colT, wWhere, wSelect, wFrom, wOrder, wBy, wLimit, ByteArray.data_append, List.append_assoc]
  rw [hX]
  clear hX
  have f0 : 12 + name.size ≤ maxLen := by unfold maxLen; omega
  have f1 : 12 + name.size + 1 ≤ maxLen := by unfold maxLen; omega
  have f2 : 12 + name.size + 0 ≤ maxLen := by unfold maxLen; omega
  have F := an4 ek f0 f1 f2
  (refine en_ Tryz.func10 Tryz.ntmps10 Tryz.results10 fun X hX => ?_)
  refine au_ F ?_
  exact oq_ an0
 | false =>
  obtain ⟨g, hg, hgo, hgz, rfl⟩ := hwh rfl
  have hG := rexpr_sp g hgo (by unfold maxLen; omega)
  rw [hg, rE_mk] at hG
  clear hg hwh
  generalize gT g = tw at *
  unfold whereW
  rw [if_neg Bool.false_ne_true]
  have hX : bs (textW [⟨#[100, 101, 108, 101, 116, 101]⟩, ⟨#[102, 114, 111, 109]⟩, name] ++ wordsT [wWhere, tw]) = ((⟨#[100, 101, 108, 101, 116, 101, 32, 102, 114, 111, 109, 32]⟩ ++ name) ++ (⟨#[32, 119, 104, 101, 114, 101, 32]⟩ ++ tw)) := by
   apply ByteArray.ext
   apply Array.ext'
   simp [bs, textW, wordsT, listT, bracT, colT, wWhere, wSelect, wFrom, wOrder, wBy, wLimit, ByteArray.data_append, List.append_assoc]
  rw [hX]
  clear hX
  have f0 : 12 + name.size ≤ maxLen := by unfold maxLen; omega
  have f1 : 12 + name.size + 1 ≤ maxLen := by unfold maxLen; omega
  have f2 : 7 + tw.size ≤ maxLen := by unfold maxLen; omega
  have f3 : 12 + name.size + (7 + tw.size) ≤ maxLen := by unfold maxLen; omega
  have F := an5 ek f0 f1 f2 f3
  (refine en_ Tryz.func10 Tryz.ntmps10 Tryz.results10 fun X hX => ?_)
  refine au_ F ?_
  exact oq_ an0
set_option maxHeartbeats 16000000 in
theorem rtext12_sp (c : Cm) (hr : Rt c) (hk : c.k = 12) (te tw : ByteArray) (ht : TextIs c te tw) : Sp Tryz.prog 10 [.agg (rCm c)] (.one (.t true (.lit (.string (bs (cmdS c te tw)))))) [] := by
 have hB := between_sp c.k 11 13
 have q1 := hr.name
 have q2 := hr.other
 have q3 := hr.column
 have q4 := kindT_small c.ty
 have q5 := valT_small hr.v
 have hS : cmdS c te tw = textW [⟨#[117, 112, 100, 97, 116, 101]⟩, c.name, ⟨#[115, 101, 116]⟩, c.column, ⟨#[61]⟩, te] ++ wordsT (whereW c tw) := by unfold cmdS; rw [if_neg (by rw [hk]; decide)]; rw [if_neg (by rw [hk]; decide)]; rw [if_neg (by rw [hk]; decide)]; rw [if_neg (by rw [hk]; decide)]; rw [if_neg (by rw [hk]; decide)]; rw [if_neg (by rw [hk]; decide)]; rw [if_neg (by rw [hk]; decide)]; rw [if_neg (by rw [hk]; decide)]; rw [if_neg (by rw [hk]; decide)]; rw [if_neg (by rw [hk]; decide)]; rw [if_neg (by rw [hk]; decide)]; rw [if_pos hk]
 rw [hS]
 clear hS
 have hwh := ht.wh (by rw [hk]; rfl)
 obtain ⟨g0, hg0, hgo0, hgz0, rfl⟩ := ht.ex hk
 have hE := rexpr_sp g0 hgo0 (by unfold maxLen; omega)
 rw [hg0] at hE
 clear hr ht
 clear hg0
 generalize gT g0 = te at *
 obtain ⟨k, name, other, column, cols, ty, v, vals, fields, ⟨k1, v1, n1, a1⟩, all, ⟨k2, v2, n2, a2⟩, order, limit⟩ := c
 dsimp only at *
 have ek := kF hk
 rw [rCm_mk]
 rw [rE_mk] at hE
 cases all with
 | true =>
  unfold whereW
  rw [if_pos rfl]
  have hX : bs (textW [⟨#[117, 112, 100, 97, 116, 101]⟩, name, ⟨#[115, 101, 116]⟩, column, ⟨#[61]⟩, te] ++ wordsT []) = ((((((⟨#[117, 112, 100, 97, 116, 101, 32]⟩ ++ name) ++ ⟨#[32, 115, 101, 116, 32]⟩) ++ column) ++ ⟨#[32, 61, 32]⟩) ++ te) ++ ⟨#[]⟩) := by
   apply ByteArray.ext
   apply Array.ext'
   simp [bs, textW, wordsT, listT, bracT, colT, wWhere, wSelect, wFrom, wOrder, wBy, wLimit, ByteArray.data_append, List.append_assoc]
  rw [hX]
  clear hX
  have f0 : 12 + name.size ≤ maxLen := by unfold maxLen; omega
  have f1 : 12 + name.size + 1 ≤ maxLen := by unfold maxLen; omega
  have f2 : 7 + name.size ≤ maxLen := by unfold maxLen; omega
  have f3 : 7 + name.size + 5 ≤ maxLen := by unfold maxLen; omega
  have f4 : 7 + name.size + 5 + column.size ≤ maxLen := by unfold maxLen; omega
  have f5 : 7 + name.size + 5 + column.size + 3 ≤ maxLen := by unfold maxLen; omega
  have f6 : 7 + name.size + 5 + column.size + 3 + te.size ≤ maxLen := by unfold maxLen; omega
  have f7 : 7 + name.size + 5 + column.size + 3 + te.size + 0 ≤ maxLen := by unfold maxLen; omega
  have F := an2 (an7 ek f0 f1 f2 f3 f4 f5) (an2 f6 f7)
  (refine en_ Tryz.func10 Tryz.ntmps10 Tryz.results10 fun X hX => ?_)
  refine au_ F ?_
  exact oq_ an0
 | false =>
  obtain ⟨g, hg, hgo, hgz, rfl⟩ := hwh rfl
  have hG := rexpr_sp g hgo (by unfold maxLen; omega)
  rw [hg, rE_mk] at hG
  clear hg hwh
  generalize gT g = tw at *
  unfold whereW
  rw [if_neg Bool.false_ne_true]
  have hX : bs (textW [⟨#[117, 112, 100, 97, 116, 101]⟩, name, ⟨#[115, 101, 116]⟩, column, ⟨#[61]⟩, te] ++ wordsT [wWhere, tw]) = ((((((⟨#[117, 112, 100, 97, 116, 101, 32]⟩ ++ name) ++ ⟨#[32, 115, 101, 116, 32]⟩) ++ column) ++ ⟨#[32, 61, 32]⟩) ++ te) ++ (⟨#[32, 119, 104, 101, 114, 101, 32]⟩ ++ tw)) := by
   apply ByteArray.ext
   apply Array.ext'
   simp [bs, textW, wordsT, listT, bracT, colT, wWhere, wSelect, wFrom, wOrder, wBy, wLimit, ByteArray.data_append, List.append_assoc]
  rw [hX]
  clear hX
  have f0 : 12 + name.size ≤ maxLen := by unfold maxLen; omega
  have f1 : 12 + name.size + 1 ≤ maxLen := by unfold maxLen; omega
  have f2 : 7 + name.size ≤ maxLen := by unfold maxLen; omega
  have f3 : 7 + name.size + 5 ≤ maxLen := by unfold maxLen; omega
  have f4 : 7 + name.size + 5 + column.size ≤ maxLen := by unfold maxLen; omega
  have f5 : 7 + name.size + 5 + column.size + 3 ≤ maxLen := by unfold maxLen; omega
  have f6 : 7 + name.size + 5 + column.size + 3 + te.size ≤ maxLen := by unfold maxLen; omega
  have f7 : 7 + tw.size ≤ maxLen := by unfold maxLen; omega
  have f8 : 7 + name.size + 5 + column.size + 3 + te.size + (7 + tw.size) ≤ maxLen := by unfold maxLen; omega
  have F := an2 (an7 ek f0 f1 f2 f3 f4 f5) (an3 f6 f7 f8)
  (refine en_ Tryz.func10 Tryz.ntmps10 Tryz.results10 fun X hX => ?_)
  refine au_ F ?_
  exact oq_ an0
end Go.Proofs.YtjdgejfhnfnmgaaGreatDoor.Ax
namespace Go.Proofs.YtjdgejfhnfnmgaaGreatDoor.Ax
open Go.RowKit
set_option linter.unusedSimpArgs false
attribute [local go_sem] extV appD cutOwn appOwn clearOwn bdI mapD putD' keyOk getOr getM putM wholeV litCs asV asC ptrC fnC nilC nilPtr strRows_len runs runsN guardOf exec1 pureV modD rowD ev get St.app St.put St.turn loadC moveC fieldOf indexC lenC lenOk cutC bndOf evAll fieldV convV unV binV binI bitsV moreV intsT eqL eq1 valOf min1 lit1 litInt litI litB litS constV constC cellsV partsOf placesOf buildV fillL toT elemsOf rowsOf baseOf dstOk V.kill V.ment V.ments C.kill C.ment C.ments B.kill setD litRows litRows_append T.isLit callAll calleeV argsV argV viewC viewCs modeOk freeOps V.free C.free V.allF V.allFs C.allF C.allFs B.allF callD leL growSt C.flat V.flat B.flat flatL flatB St.flat List.set_cons_zero List.set_cons_succ C.only C.onlys V.only V.onlys B.only renI C.ren C.rens V.ren V.rens B.ren renB renOk nodK Option.getD_some Option.getD_none Option.isSome_some implies_true false_implies C.fit C.fits V.fit V.fit1 V.fits Bool.and_self ite_self exitV resV resL resC outV outV.outs eqB nn cast0 Int.toNat_natCast List.getElem?_map Value.cells Value.oneCell' Nat.lt_irrefl decide_true decide_false and_true true_and and_self and_false false_and not_true_eq_false not_false_eq_true not_true not_false List.size_toArray all_len Nat.zero_add Nat.add_zero List.length_cons List.length_append List.length_replicate List.length_set List.length_nil List.length_map List.map_cons List.map_nil List.take_succ_cons List.take_zero List.take_nil List.drop_succ_cons List.drop_zero List.drop_nil List.cons_append List.nil_append List.append_nil List.all_cons List.all_nil Bool.and_true Bool.true_and Bool.and_false Bool.false_and Bool.not_true Bool.not_false Bool.or_false Bool.or_true Bool.false_or Bool.true_or List.filter_cons List.filter_nil List.contains_cons List.contains_nil beq_self_eq_true List.getElem?_cons_zero List.getElem?_cons_succ List.getElem?_nil Option.map_some Option.map_none Option.toList_some Option.toList_none List.isEmpty_cons List.isEmpty_nil Bool.false_eq_true Bool.true_eq_false List.getElem?_toArray List.not_mem_nil List.mem_cons or_false forall_eq List.mem_singleton forall_const Option.toArray tailF addF flSl dKeeps flFree closF notF if_true if_false plans inD cleanSt dstsOf Oper.looksAt Op.operands Call.operands dnOf insN insAll prods pick stOf goneOf slOf blOf keepB' entD addB edge B.ment Region.binds tailOk clos List.any_cons List.any_nil List.filterMap_cons List.filterMap_nil ne_eq Bool.or_self List.isEmpty_iff Array.toList_append List.append_toArray Array.append_empty Option.bind_some Option.bind_none List.push_toArray argSv ioD modeIO staysOk callIO calleeIO argsIO valIO cellsIO cellIO butB zLe cLe csLe vLe vsLe bLe insLe renIOk nbOk anyText anyGc aliveF mK kdN klAt klAt.atL dstNe edgesOf foSl inL C.ids C.idss V.ids V.idss NDst klOf dropS true_or or_true or_self ty3 ty4 ty9 ty5 ty26 ty54 ty22 ty24 ty25 ty27 ty29 ty31 ty91 ty85
set_option linter.unusedVariables false
set_option maxRecDepth 100000
set_option maxHeartbeats 16000000 in
theorem rtext1_sp (c : Cm) (hr : Rt c) (hk : c.k = 1) (te tw : ByteArray) (ht : TextIs c te tw) : Sp Tryz.prog 10 [.agg (rCm c)] (.one (.t true (.lit (.string (bs (cmdS c te tw)))))) [] := by
 have hB := between_sp c.k 11 13
 have q1 := hr.name
 have q2 := hr.other
 have q3 := hr.column
 have q4 := kindT_small c.ty
 have q5 := valT_small hr.v
 have hS : cmdS c te tw = textW [⟨#[99, 114, 101, 97, 116, 101]⟩, ⟨#[116, 97, 98, 108, 101]⟩, c.name, listT (c.cols.map colT)] := by unfold cmdS; rw [if_pos hk]
 rw [hS]
 clear hS
 have hz0 := cols_comma hr
 have hxs := hr.colOk
 have hl5 := hr.cols
 clear hr ht
 obtain ⟨k, name, other, column, cols, ty, v, vals, fields, ⟨k1, v1, n1, a1⟩, all, ⟨k2, v2, n2, a2⟩, order, limit⟩ := c
 dsimp only at *
 generalize hus : cols.map colT = us at hz0 ⊢
 have hX : bs (textW [⟨#[99, 114, 101, 97, 116, 101]⟩, ⟨#[116, 97, 98, 108, 101]⟩, name, listT us]) = ((((⟨#[99, 114, 101, 97, 116, 101, 32, 116, 97, 98, 108, 101, 32]⟩ ++ name) ++ ⟨#[32, 40]⟩) ++ (bs (commaL us))) ++ ⟨#[41]⟩) := by
  apply ByteArray.ext
  apply Array.ext'
  simp [bs, textW, wordsT, listT, bracT, colT, wWhere, wSelect, wFrom, wOrder, wBy, wLimit, ByteArray.data_append, List.append_assoc]
 rw [hX]
 clear hX
 obtain ⟨jt, hjt⟩ : ∃ j, j = bs (commaL us) := ⟨_, rfl⟩
 have hjz : jt.size = (commaL us).length := by rw [hjt, bs_size]
 rw [← hjt]
 have ek := kF hk
 rw [rCm_mk]
 have f0 : 12 + name.size ≤ maxLen := by unfold maxLen; omega
 have f1 : 12 + name.size + 1 ≤ maxLen := by unfold maxLen; omega
 have f2 : 13 + name.size ≤ maxLen := by unfold maxLen; omega
 have f3 : 13 + name.size + 2 ≤ maxLen := by unfold maxLen; omega
 have f4 : 13 + name.size + 2 + jt.size ≤ maxLen := by unfold maxLen; omega
 have f5 : 13 + name.size + 2 + jt.size + 1 ≤ maxLen := by unfold maxLen; omega
 have F := an7 ek f0 f1 f2 f3 f4 f5
 (refine sp_of Tryz.func10 (by kernel_rfl) rfl (by simp [Tryz.ntmps10]) fun X hX => ?_; rw [Tryz.ntmps10] at hX; simp only [argSl, List.map_cons, List.map_nil, Nat.reduceAdd])
 refine au_ F ?_
 refine cw_grow 6 58 9 1 rfl ?_
 refine cw_loop (fun m st => ∃ (i : Nat) (u : List ByteArray), i ≤ cols.length ∧ m = cols.length - i ∧ u = (cols.take i).map colT ∧ st = ⟨[(7, litI .i64 i), (6, .one (.own 58 u.length)), (3, .one (.own 11 4)), (1, .one (.optr 1 0))], [(58, .arr 9 1 true (rS u)), (11, .arr 9 1 true [[.lit (.string ⟨#[]⟩)], [.lit (.string ⟨#[105, 110, 116]⟩)], [.lit (.string ⟨#[116, 101, 120, 116]⟩)], [.lit (.string ⟨#[98, 111, 111, 108]⟩)]]), (1, .var 31 [.t false (.lit (.int .i64 k)), .t false (.lit (.string name)), .t false (.lit (.string other)), .t false (.lit (.string column)), .t false (.sl (rCs cols)), .t false (.lit (.int .i64 ty)), .t false (.lit (.int .i64 v.k)), .t false (.lit (.int .i64 v.n)), .t false (.lit (.string v.s)), .t false (.sl (rVs vals)), .t false (.sl (rS fields)), .t false (.lit (.int .i64 k1)), .t false (.lit (.int .i64 v1.k)), .t false (.lit (.int .i64 v1.n)), .t false (.lit (.string v1.s)), .t false (.lit (.string n1)), .t false (.sl (a1.map rE)), .t false (.lit (.bool all)), .t false (.lit (.int .i64 k2)), .t false (.lit (.int .i64 v2.k)), .t false (.lit (.int .i64 v2.n)), .t false (.lit (.string v2.s)), .t false (.lit (.string n2)), .t false (.sl (a2.map rE)), .t false (.lit (.string order)), .t false (.lit (.int .i64 limit))])]⟩) cols.length ⟨_, ⟨0, [], Nat.zero_le _, rfl, rfl, rfl⟩, by simp only [growSt]; exact le_⟩ ?_
 rintro m st ⟨i, u, hi, rfl, hu, rfl⟩
 by_cases hlt : i < cols.length
 ·have z1 : decide ((i : Int) < (cols.length : Int)) = true := by simp; omega
  obtain ⟨x, hx⟩ : ∃ x, cols[i]? = some x := ⟨_, List.getElem?_eq_getElem hlt⟩
  have z4 : IntKind.i64.wrap ((i : Int) + 1) = ((i + 1 : Nat) : Int) := by rw [IntWalk.i64_in _ (by omega)]; rfl
  have j2 : (i : Int) < (cols.length : Int) := by omega
  have j3 : (0 : Int) ≤ (i : Int) := by omega
  have hxo := hxs x (List.mem_of_getElem? hx)
  have hn : u ++ [colT x] = (cols.take (i + 1)).map colT := by
   obtain ⟨h1, rfl⟩ := List.getElem?_eq_some_iff.1 hx
   rw [hu, List.take_succ_eq_append_getElem h1, List.map_append]
   rfl
  have hul : u.length ≤ 5 := by rw [hu, List.length_map, List.length_take]; omega
  have g1 : u.length + 1 ≤ maxLen := by unfold maxLen; omega
  have g2 : (u.length + 1) * 16 ≤ 140737488355328 := by omega
  have g3 : (u.map fun s => [T.lit (.string s)]) ++ [[T.lit (.string (colT x))]] = (u ++ [colT x]).map fun s => [T.lit (.string s)] := by rw [List.map_append]; rfl
  have g4 : (u ++ [colT x]).length = u.length + 1 := by rw [List.length_append]; rfl
  generalize hun : u ++ [colT x] = un at *
  obtain ⟨xn, xt⟩ := x
  dsimp only at hxo
  obtain ⟨hx1, hx2, hx3⟩ := hxo
  have p1 : xn.size + 1 ≤ maxLen := by unfold maxLen; omega
  obtain rfl | rfl | rfl : xt = 1 ∨ xt = 2 ∨ xt = 3 := by omega
  ·have p2 : xn.size + 1 + 3 ≤ maxLen := by unfold maxLen; omega
   rw [show colT ⟨xn, 1⟩ = (xn ++ ⟨#[32]⟩) ++ ⟨#[105, 110, 116]⟩ from rfl] at g3
   refine au_ (an2 (an7 z1 hx hlt j2 j3 g1 g2) (an3 z4 p1 p2)) ?_
   (refine cw_drawn_m 19 (by kernel_rfl) (by kernel_rfl) fun K hK => ?_; simp (maxSteps := 5000000) only [go_sem, Nat.reduceAdd, Nat.reduceSub, Nat.reduceMul, Nat.reduceLT, Nat.reduceLeDiff, Nat.reduceEqDiff, Nat.reduceBEq, Int.reduceToNat, Int.reduceLE, Int.reduceLT, Int.reduceEq, Int.reduceBEq, Int.reduceBNe, ↓reduceIte, reduceCtorEq, prnNew, prnUsed, rowW, z1, hx, hlt, j2, j3, g1, g2, z4, p1, p2, Int.toNat_natCast, List.length_map, List.getElem?_map, Option.map_some, hX])
   (refine pw_tail _ hX (by kernel_rfl) (by kernel_rfl) ?_; simp (maxSteps := 5000000) only [go_sem, Nat.reduceAdd, Nat.reduceSub, Nat.reduceMul, Nat.reduceLT, Nat.reduceLeDiff, Nat.reduceEqDiff, Nat.reduceBEq, Int.reduceToNat, Int.reduceLE, Int.reduceLT, Int.reduceEq, Int.reduceBEq, Int.reduceBNe, ↓reduceIte, reduceCtorEq, prnNew, prnUsed, rowW, z1, hx, hlt, j2, j3, g1, g2, z4, p1, p2, hX])
   (refine rwr_nil (hK _ ?_); clear hK K)
   refine au_ z4 ?_
   exact ⟨cols.length - (i + 1), by omega, _, ⟨i + 1, un, by omega, rfl, hn, rfl⟩, lf_ (an2 g3 g4)⟩
  ·have p2 : xn.size + 1 + 4 ≤ maxLen := by unfold maxLen; omega
   rw [show colT ⟨xn, 2⟩ = (xn ++ ⟨#[32]⟩) ++ ⟨#[116, 101, 120, 116]⟩ from rfl] at g3
   refine au_ (an2 (an7 z1 hx hlt j2 j3 g1 g2) (an3 z4 p1 p2)) ?_
   (refine cw_drawn_m 19 (by kernel_rfl) (by kernel_rfl) fun K hK => ?_; simp (maxSteps := 5000000) only [go_sem, Nat.reduceAdd, Nat.reduceSub, Nat.reduceMul, Nat.reduceLT, Nat.reduceLeDiff, Nat.reduceEqDiff, Nat.reduceBEq, Int.reduceToNat, Int.reduceLE, Int.reduceLT, Int.reduceEq, Int.reduceBEq, Int.reduceBNe, ↓reduceIte, reduceCtorEq, prnNew, prnUsed, rowW, z1, hx, hlt, j2, j3, g1, g2, z4, p1, p2, Int.toNat_natCast, List.length_map, List.getElem?_map, Option.map_some, hX])
   (refine pw_tail _ hX (by kernel_rfl) (by kernel_rfl) ?_; simp (maxSteps := 5000000) only [go_sem, Nat.reduceAdd, Nat.reduceSub, Nat.reduceMul, Nat.reduceLT, Nat.reduceLeDiff, Nat.reduceEqDiff, Nat.reduceBEq, Int.reduceToNat, Int.reduceLE, Int.reduceLT, Int.reduceEq, Int.reduceBEq, Int.reduceBNe, ↓reduceIte, reduceCtorEq, prnNew, prnUsed, rowW, z1, hx, hlt, j2, j3, g1, g2, z4, p1, p2, hX])
   (refine rwr_nil (hK _ ?_); clear hK K)
   refine au_ z4 ?_
   exact ⟨cols.length - (i + 1), by omega, _, ⟨i + 1, un, by omega, rfl, hn, rfl⟩, lf_ (an2 g3 g4)⟩
  ·have p2 : xn.size + 1 + 4 ≤ maxLen := by unfold maxLen; omega
   rw [show colT ⟨xn, 3⟩ = (xn ++ ⟨#[32]⟩) ++ ⟨#[98, 111, 111, 108]⟩ from rfl] at g3
   refine au_ (an2 (an7 z1 hx hlt j2 j3 g1 g2) (an3 z4 p1 p2)) ?_
   (refine cw_drawn_m 19 (by kernel_rfl) (by kernel_rfl) fun K hK => ?_; simp (maxSteps := 5000000) only [go_sem, Nat.reduceAdd, Nat.reduceSub, Nat.reduceMul, Nat.reduceLT, Nat.reduceLeDiff, Nat.reduceEqDiff, Nat.reduceBEq, Int.reduceToNat, Int.reduceLE, Int.reduceLT, Int.reduceEq, Int.reduceBEq, Int.reduceBNe, ↓reduceIte, reduceCtorEq, prnNew, prnUsed, rowW, z1, hx, hlt, j2, j3, g1, g2, z4, p1, p2, Int.toNat_natCast, List.length_map, List.getElem?_map, Option.map_some, hX])
   (refine pw_tail _ hX (by kernel_rfl) (by kernel_rfl) ?_; simp (maxSteps := 5000000) only [go_sem, Nat.reduceAdd, Nat.reduceSub, Nat.reduceMul, Nat.reduceLT, Nat.reduceLeDiff, Nat.reduceEqDiff, Nat.reduceBEq, Int.reduceToNat, Int.reduceLE, Int.reduceLT, Int.reduceEq, Int.reduceBEq, Int.reduceBNe, ↓reduceIte, reduceCtorEq, prnNew, prnUsed, rowW, z1, hx, hlt, j2, j3, g1, g2, z4, p1, p2, hX])
   (refine rwr_nil (hK _ ?_); clear hK K)
   refine au_ z4 ?_
   exact ⟨cols.length - (i + 1), by omega, _, ⟨i + 1, un, by omega, rfl, hn, rfl⟩, lf_ (an2 g3 g4)⟩
 ·obtain rfl : i = cols.length := by omega
  have z1 : decide ((cols.length : Int) < (cols.length : Int)) = false := by simp
  rw [List.take_length, hus] at hu
  subst hu
  have hul : u.length ≤ 5 := by rw [← hus, List.length_map]; omega
  have hJ := commas_sp u (by unfold maxLen; omega) (by unfold maxLen; omega)
  rw [← hjt] at hJ
  clear hjt
  refine au_ (an2 F z1) ?_
  exact oq_ an0
set_option maxHeartbeats 16000000 in
theorem rtext10_sp (c : Cm) (hr : Rt c) (hk : c.k = 10) (te tw : ByteArray) (ht : TextIs c te tw) : Sp Tryz.prog 10 [.agg (rCm c)] (.one (.t true (.lit (.string (bs (cmdS c te tw)))))) [] := by
 have hB := between_sp c.k 11 13
 have q1 := hr.name
 have q2 := hr.other
 have q3 := hr.column
 have q4 := kindT_small c.ty
 have q5 := valT_small hr.v
 have hS : cmdS c te tw = textW [⟨#[105, 110, 115, 101, 114, 116]⟩, ⟨#[105, 110, 116, 111]⟩, c.name, ⟨#[118, 97, 108, 117, 101, 115]⟩, listT (c.vals.map valT)] := by unfold cmdS; rw [if_neg (by rw [hk]; decide)]; rw [if_neg (by rw [hk]; decide)]; rw [if_neg (by rw [hk]; decide)]; rw [if_neg (by rw [hk]; decide)]; rw [if_neg (by rw [hk]; decide)]; rw [if_neg (by rw [hk]; decide)]; rw [if_neg (by rw [hk]; decide)]; rw [if_neg (by rw [hk]; decide)]; rw [if_neg (by rw [hk]; decide)]; rw [if_pos hk]
 rw [hS]
 clear hS
 have hz0 := vals_comma hr
 have hxs := hr.valOk
 have hl5 := hr.vals
 clear hr ht
 obtain ⟨k, name, other, column, cols, ty, v, vals, fields, ⟨k1, v1, n1, a1⟩, all, ⟨k2, v2, n2, a2⟩, order, limit⟩ := c
 dsimp only at *
 generalize hus : vals.map valT = us at hz0 ⊢
 have hX : bs (textW [⟨#[105, 110, 115, 101, 114, 116]⟩, ⟨#[105, 110, 116, 111]⟩, name, ⟨#[118, 97, 108, 117, 101, 115]⟩, listT us]) = ((((⟨#[105, 110, 115, 101, 114, 116, 32, 105, 110, 116, 111, 32]⟩ ++ name) ++ ⟨#[32, 118, 97, 108, 117, 101, 115, 32, 40]⟩) ++ (bs (commaL us))) ++ ⟨#[41]⟩) := by
  apply ByteArray.ext
  apply Array.ext'
  simp [bs, textW, wordsT, listT, bracT, colT, wWhere, wSelect, wFrom, wOrder, wBy, wLimit, ByteArray.data_append, List.append_assoc]
 rw [hX]
 clear hX
 obtain ⟨jt, hjt⟩ : ∃ j, j = bs (commaL us) := ⟨_, rfl⟩
 have hjz : jt.size = (commaL us).length := by rw [hjt, bs_size]
 rw [← hjt]
 have ek := kF hk
 rw [rCm_mk]
 have f0 : 12 + name.size ≤ maxLen := by unfold maxLen; omega
 have f1 : 12 + name.size + 1 ≤ maxLen := by unfold maxLen; omega
 have f2 : 12 + name.size + 9 ≤ maxLen := by unfold maxLen; omega
 have f3 : 12 + name.size + 9 + jt.size ≤ maxLen := by unfold maxLen; omega
 have f4 : 12 + name.size + 9 + jt.size + 1 ≤ maxLen := by unfold maxLen; omega
 have F := an6 ek f0 f1 f2 f3 f4
 (refine sp_of Tryz.func10 (by kernel_rfl) rfl (by simp [Tryz.ntmps10]) fun X hX => ?_; rw [Tryz.ntmps10] at hX; simp only [argSl, List.map_cons, List.map_nil, Nat.reduceAdd])
 refine au_ F ?_
 refine cw_grow 8 166 9 1 rfl ?_
 refine cw_loop (fun m st => ∃ (i : Nat) (u : List ByteArray), i ≤ vals.length ∧ m = vals.length - i ∧ u = (vals.take i).map valT ∧ st = ⟨[(9, litI .i64 i), (8, .one (.own 166 u.length)), (1, .one (.optr 1 0))], [(166, .arr 9 1 true (rS u)), (1, .var 31 [.t false (.lit (.int .i64 k)), .t false (.lit (.string name)), .t false (.lit (.string other)), .t false (.lit (.string column)), .t false (.sl (rCs cols)), .t false (.lit (.int .i64 ty)), .t false (.lit (.int .i64 v.k)), .t false (.lit (.int .i64 v.n)), .t false (.lit (.string v.s)), .t false (.sl (rVs vals)), .t false (.sl (rS fields)), .t false (.lit (.int .i64 k1)), .t false (.lit (.int .i64 v1.k)), .t false (.lit (.int .i64 v1.n)), .t false (.lit (.string v1.s)), .t false (.lit (.string n1)), .t false (.sl (a1.map rE)), .t false (.lit (.bool all)), .t false (.lit (.int .i64 k2)), .t false (.lit (.int .i64 v2.k)), .t false (.lit (.int .i64 v2.n)), .t false (.lit (.string v2.s)), .t false (.lit (.string n2)), .t false (.sl (a2.map rE)), .t false (.lit (.string order)), .t false (.lit (.int .i64 limit))])]⟩) vals.length ⟨_, ⟨0, [], Nat.zero_le _, rfl, rfl, rfl⟩, by simp only [growSt]; exact le_⟩ ?_
 rintro m st ⟨i, u, hi, rfl, hu, rfl⟩
 by_cases hlt : i < vals.length
 ·have z1 : decide ((i : Int) < (vals.length : Int)) = true := by simp; omega
  obtain ⟨x, hx⟩ : ∃ x, vals[i]? = some x := ⟨_, List.getElem?_eq_getElem hlt⟩
  have z4 : IntKind.i64.wrap ((i : Int) + 1) = ((i + 1 : Nat) : Int) := by rw [IntWalk.i64_in _ (by omega)]; rfl
  have j2 : (i : Int) < (vals.length : Int) := by omega
  have j3 : (0 : Int) ≤ (i : Int) := by omega
  have hxo := hxs x (List.mem_of_getElem? hx)
  have hn : u ++ [valT x] = (vals.take (i + 1)).map valT := by
   obtain ⟨h1, rfl⟩ := List.getElem?_eq_some_iff.1 hx
   rw [hu, List.take_succ_eq_append_getElem h1, List.map_append]
   rfl
  have hul : u.length ≤ 5 := by rw [hu, List.length_map, List.length_take]; omega
  have g1 : u.length + 1 ≤ maxLen := by unfold maxLen; omega
  have g2 : (u.length + 1) * 16 ≤ 140737488355328 := by omega
  have g3 : (u.map fun s => [T.lit (.string s)]) ++ [[T.lit (.string (valT x))]] = (u ++ [valT x]).map fun s => [T.lit (.string s)] := by rw [List.map_append]; rfl
  have g4 : (u ++ [valT x]).length = u.length + 1 := by rw [List.length_append]; rfl
  generalize hun : u ++ [valT x] = un at *
  have hV := rvaltext_sp x hxo
  generalize valT x = vx at *
  refine au_ (an2 (an7 z1 hx hlt j2 j3 g1 g2) z4) ?_
  exact ⟨vals.length - (i + 1), by omega, _, ⟨i + 1, un, by omega, rfl, hn, rfl⟩, lf_ (an2 g3 g4)⟩
 ·obtain rfl : i = vals.length := by omega
  have z1 : decide ((vals.length : Int) < (vals.length : Int)) = false := by simp
  rw [List.take_length, hus] at hu
  subst hu
  have hul : u.length ≤ 5 := by rw [← hus, List.length_map]; omega
  have hJ := commas_sp u (by unfold maxLen; omega) (by unfold maxLen; omega)
  rw [← hjt] at hJ
  clear hjt
  refine au_ (an2 F z1) ?_
  exact oq_ an0
end Go.Proofs.YtjdgejfhnfnmgaaGreatDoor.Ax
