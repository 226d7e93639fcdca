/-  -/
import Derived.Test.YtjdgejfhnfnmgaaGreatDoorAxW
import Derived.Test.YtjdgejfhnfnmgaaGreatDoorM25
namespace Go.Proofs.YtjdgejfhnfnmgaaGreatDoor.Ax
open Go.RowKit
set_option linter.unusedSimpArgs false
attribute [local go_sem] ty3 ty4 ty9 ty24 feq24 ty27 ty29 ty32
set_option linter.unusedVariables false
set_option maxRecDepth 100000
attribute [local go_sem] rE_mk
theorem equalE_sp (G : FuncId) (l m : List Ex) (hl : l.length ≤ maxLen) (hG : ∀ x ∈ l, ∀ y, Sp Tryz.prog G [.agg (rE x), .agg (rE y)] (.one (.t true (.lit (.bool (sameE x y))))) []) :
  Sp Tryz.prog 63 [.one (.sl (l.map rE)), .one (.sl (m.map rE)), .one (.fn G [])] (.one (.t true (.lit (.bool (sameEs l m))))) [] := by
 unfold maxLen at hl
 by_cases hll : l.length = m.length
 rotate_left
 ·have e3 : ((l.length : Int) != (m.length : Int)) = true := by simp; omega
  have hse : sameEs l m = false := by
   rw [Bool.eq_false_iff]
   exact fun h => hll (sameEs_len _ _ h)
  rw [hse]
  (refine en_ Tryz.func63 Tryz.ntmps63 Tryz.results63 fun X hX => ?_)
  (refine go_ e3 ?_)
  (first | exact oq_ an0 | refine ou_ an0 ?_)
 have e3 : ((l.length : Int) != (m.length : Int)) = false := by simp [hll]
 (refine en_ Tryz.func63 Tryz.ntmps63 Tryz.results63 fun X hX => ?_)
 (refine go_ e3 ?_)
 refine cw_loop (fun z s => ∃ i : Nat, i ≤ l.length ∧ z = l.length - i ∧ sameEs (l.drop i) (m.drop i) = sameEs l m ∧ s = ⟨[(17, litI .i64 i), (16, litI .i64 l.length), (15, .one (.t false (.sl (l.map rE)))), (1, .one (.t false (.sl (m.map rE)))), (2, .one (.t false (.fn G [])))], []⟩) l.length ⟨_, ⟨0, Nat.zero_le _, rfl, rfl, rfl⟩, le_⟩ ?_
 rintro z s ⟨i, hi, rfl, hf, rfl⟩
 by_cases hlt : i < l.length
 ·have f1 : decide ((i : Int) < (l.length : Int)) = true := by simp; omega
  obtain ⟨x, hx⟩ : ∃ x, l[i]? = some x := ⟨_, List.getElem?_eq_getElem hlt⟩
  obtain ⟨y, hy⟩ : ∃ y, m[i]? = some y := ⟨_, List.getElem?_eq_getElem (by omega)⟩
  have f2 : IntKind.i64.wrap ((i : Int) + 1) = ((i + 1 : Nat) : Int) := by rw [IntWalk.i64_in _ (by omega)]; rfl
  have ih1 := hG x (List.mem_of_getElem? hx) y
  rw [sameEs_drop hx hy] at hf
  generalize sameE x y = bb at *
  obtain ⟨kx, vx, nx, ax⟩ := x
  obtain ⟨ky, vy, ny, ay⟩ := y
  rw [rE_mk, rE_mk] at ih1
  (refine go_ (an3 f1 hx hy) ?_)
  (refine rn_ 8 an0 fun K hK => ?_; refine rr_ an0 ?_)
  (refine ca_ an0 ?_ (hsp := ih1); refine rr_ an0 ?_)
  ((first | refine rwr_nil (hK _ ?_) | refine de_ (hK _ ?_)); clear hK K)
  cases bb
  ·rw [← hf, Bool.false_and]
   (refine go_ an0 ?_)
   (first | exact oq_ an0 | refine ou_ an0 ?_)
  ·rw [Bool.true_and] at hf
   (refine go_ f2 ?_)
   exact ⟨l.length - (i + 1), by omega, _, ⟨i + 1, by omega, rfl, hf, rfl⟩, le_⟩
 ·have f1 : decide ((i : Int) < (l.length : Int)) = false := by simp; omega
  rw [List.drop_eq_nil_of_le (by omega), List.drop_eq_nil_of_le (by omega), sameEs] at hf
  rw [← hf]
  (refine go_ f1 ?_)
  (first | exact oq_ an0 | refine ou_ an0 ?_)
theorem same_parts (a b : Vl) : ((a.k == b.k) && ((a.n == b.n) && (a.s.toList == b.s.toList))) = a.same b := by
 unfold Vl.same
 rw [Bool.and_assoc]
set_option maxHeartbeats 8000000 in
theorem sameexpr_sp (a : Ex) : goodE a → ∀ b : Ex, Sp Tryz.prog 37 [.agg (rE a), .agg (rE b)] (.one (.t true (.lit (.bool (sameE a b))))) [] := by
 induction a using Ex.ind with
 | h k v nm ar ih =>
  intro hg b
  obtain ⟨k', v', nm', ar'⟩ := b
  obtain ⟨hgv, hal, hga⟩ := hg.inv
  have hQ := equalE_sp 37 ar ar' hal (fun x hx y => ih x hx (hga x hx) y)
  clear ih
  rw [rE_mk, rE_mk, sameE]
  have hsp := same_parts v v'
  generalize v.same v' = vb at *
  generalize sameEs ar ar' = sb at *
  (refine en_ Tryz.func37 Tryz.ntmps37 Tryz.results37 fun X hX => ?_)
  (refine gs_ ?_)
  (refine rn_ 8 an0 fun K hK => ?_; refine rr_ an0 ?_)
  ((first | refine rwr_nil (hK _ ?_) | refine de_ (hK _ ?_)); clear hK K)
  (refine gs_ ?_)
  cases e1 : (k == k')
  ·rw [Bool.false_and]
   (refine rn_ 8 e1 fun K hK => ?_)
   (refine rw_goN (k := 8) ?_; (refine sm_ e1 ?_))
   (refine rr_ e1 ?_)
   ((first | refine rwr_nil (hK _ ?_) | refine de_ (hK _ ?_)); clear hK K)
   (refine go_ an0 ?_)
   (first | exact oq_ an0 | refine ou_ an0 ?_)
  rw [Bool.true_and]
  cases vb
  ·rw [Bool.false_and, Bool.and_false]
   (refine rn_ 8 (an2 e1 hsp) fun K hK => ?_)
   (refine rw_goN (k := 8) ?_; (refine sm_ (an2 e1 hsp) ?_))
   (refine rr_ (an2 e1 hsp) ?_)
   ((first | refine rwr_nil (hK _ ?_) | refine de_ (hK _ ?_)); clear hK K)
   (refine go_ an0 ?_)
   (first | exact oq_ an0 | refine ou_ an0 ?_)
  cases e2 : (nm.toList == nm'.toList)
  ·rw [Bool.false_and]
   (refine rn_ 8 (an3 e1 hsp e2) fun K hK => ?_)
   (refine rw_goN (k := 8) ?_; (refine sm_ (an3 e1 hsp e2) ?_))
   (refine rr_ (an3 e1 hsp e2) ?_)
   ((first | refine rwr_nil (hK _ ?_) | refine de_ (hK _ ?_)); clear hK K)
   (refine go_ an0 ?_)
   (first | exact oq_ an0 | refine ou_ an0 ?_)
  ·rw [Bool.true_and, Bool.true_and]
   (refine rn_ 8 (an3 e1 hsp e2) fun K hK => ?_)
   (refine rw_goN (k := 8) ?_; (refine sm_ (an3 e1 hsp e2) ?_))
   (refine rr_ (an3 e1 hsp e2) ?_)
   (refine ca_ (an3 e1 hsp e2) ?_ (hsp := hQ); refine rr_ (an3 e1 hsp e2) ?_)
   (refine rr_ (an3 e1 hsp e2) ?_)
   ((first | refine rwr_nil (hK _ ?_) | refine de_ (hK _ ?_)); clear hK K)
   (refine go_ an0 ?_)
   (first | exact oq_ an0 | refine ou_ an0 ?_)
end Go.Proofs.YtjdgejfhnfnmgaaGreatDoor.Ax
namespace Go.Proofs.YtjdgejfhnfnmgaaGreatDoor.Ax
open Go.RowKit
set_option linter.unusedSimpArgs false
attribute [local go_sem] ty3 ty4 ty9 feq24 ty24 ty25 feq54 ty54 ty22 ty26
set_option linter.unusedVariables false
set_option maxRecDepth 100000
theorem eqS_sp (l m : List ByteArray) (hl : l.length ≤ maxLen) : Sp Tryz.prog 36 [.one (.sl (rS l)), .one (.sl (rS m))] (.one (.t true (.lit (.bool (eqBy strEq l m))))) [] := by
 unfold maxLen at hl
 by_cases hll : l.length = m.length
 rotate_left
 ·have e3 : ((l.length : Int) != (m.length : Int)) = true := by simp; omega
  rw [eqBy_not hll]
  (refine en_ Tryz.func36 Tryz.ntmps36 Tryz.results36 fun X hX => ?_)
  (refine go_ e3 ?_)
  (first | exact oq_ an0 | refine ou_ an0 ?_)
 have e3 : ((l.length : Int) != (m.length : Int)) = false := by simp [hll]
 (refine en_ Tryz.func36 Tryz.ntmps36 Tryz.results36 fun X hX => ?_)
 (refine go_ e3 ?_)
 refine cw_loop (fun z s => ∃ i : Nat, i ≤ l.length ∧ z = l.length - i ∧ eqBy strEq (l.drop i) (m.drop i) = eqBy strEq l m ∧ s = ⟨[(13, litI .i64 i), (12, litI .i64 l.length), (0, .one (.t false (.sl (rS l)))), (1, .one (.t false (.sl (rS m))))], []⟩) l.length ⟨_, ⟨0, Nat.zero_le _, rfl, rfl, rfl⟩, le_⟩ ?_
 rintro z s ⟨i, hi, rfl, hf, rfl⟩
 by_cases hlt : i < l.length
 ·have f1 : decide ((i : Int) < (l.length : Int)) = true := by simp; omega
  obtain ⟨x, hx⟩ : ∃ x, l[i]? = some x := ⟨_, List.getElem?_eq_getElem hlt⟩
  obtain ⟨y, hy⟩ : ∃ y, m[i]? = some y := ⟨_, List.getElem?_eq_getElem (by omega)⟩
  have f2 : IntKind.i64.wrap ((i : Int) + 1) = ((i + 1 : Nat) : Int) := by rw [IntWalk.i64_in _ (by omega)]; rfl
  have hlt' : i < m.length := by omega
  have j1 : (i : Int) < (l.length : Int) := by omega
  have j2 : (i : Int) < (m.length : Int) := by omega
  have j3 : (0 : Int) ≤ (i : Int) := by omega
  rw [eqBy_drop hx hy] at hf
  have hp : (!(x.toList == y.toList)) = !(strEq x y) := rfl
  generalize strEq x y = bb at *
  (refine go_ f1 ?_)
  (refine dr_ 0 an0 fun K hK => ?_)
  (refine dd_ (an2 (an7 hx hy hlt hlt' j1 j2 j3) hp) ?_)
  (refine de_ (hK _ ?_); clear hK K)
  cases bb
  ·rw [← hf, Bool.false_and]
   (refine go_ an0 ?_)
   (first | exact oq_ an0 | refine ou_ an0 ?_)
  ·rw [Bool.true_and] at hf
   (refine go_ f2 ?_)
   exact ⟨l.length - (i + 1), by omega, _, ⟨i + 1, by omega, rfl, hf, rfl⟩, le_⟩
 ·have f1 : decide ((i : Int) < (l.length : Int)) = false := by simp; omega
  rw [List.drop_eq_nil_of_le (by omega), List.drop_eq_nil_of_le (by omega), eqBy] at hf
  rw [← hf]
  (refine go_ f1 ?_)
  (first | exact oq_ an0 | refine ou_ an0 ?_)
theorem eqV_sp (l m : List Vl) (hl : l.length ≤ maxLen) : Sp Tryz.prog 35 [.one (.sl (rVs l)), .one (.sl (rVs m))] (.one (.t true (.lit (.bool (eqBy Vl.same l m))))) [] := by
 unfold maxLen at hl
 by_cases hll : l.length = m.length
 rotate_left
 ·have e3 : ((l.length : Int) != (m.length : Int)) = true := by simp; omega
  rw [eqBy_not hll]
  (refine en_ Tryz.func35 Tryz.ntmps35 Tryz.results35 fun X hX => ?_)
  (refine go_ e3 ?_)
  (first | exact oq_ an0 | refine ou_ an0 ?_)
 have e3 : ((l.length : Int) != (m.length : Int)) = false := by simp [hll]
 (refine en_ Tryz.func35 Tryz.ntmps35 Tryz.results35 fun X hX => ?_)
 (refine go_ e3 ?_)
 refine cw_loop (fun z s => ∃ i : Nat, i ≤ l.length ∧ z = l.length - i ∧ eqBy Vl.same (l.drop i) (m.drop i) = eqBy Vl.same l m ∧ s = ⟨[(13, litI .i64 i), (12, litI .i64 l.length), (0, .one (.t false (.sl (rVs l)))), (1, .one (.t false (.sl (rVs m))))], []⟩) l.length ⟨_, ⟨0, Nat.zero_le _, rfl, rfl, rfl⟩, le_⟩ ?_
 rintro z s ⟨i, hi, rfl, hf, rfl⟩
 by_cases hlt : i < l.length
 ·have f1 : decide ((i : Int) < (l.length : Int)) = true := by simp; omega
  obtain ⟨x, hx⟩ : ∃ x, l[i]? = some x := ⟨_, List.getElem?_eq_getElem hlt⟩
  obtain ⟨y, hy⟩ : ∃ y, m[i]? = some y := ⟨_, List.getElem?_eq_getElem (by omega)⟩
  have f2 : IntKind.i64.wrap ((i : Int) + 1) = ((i + 1 : Nat) : Int) := by rw [IntWalk.i64_in _ (by omega)]; rfl
  have hlt' : i < m.length := by omega
  have j1 : (i : Int) < (l.length : Int) := by omega
  have j2 : (i : Int) < (m.length : Int) := by omega
  have j3 : (0 : Int) ≤ (i : Int) := by omega
  rw [eqBy_drop hx hy] at hf
  have hp : (!((x.k == y.k) && ((x.n == y.n) && (x.s.toList == y.s.toList)))) = !(Vl.same x y) := by rw [same_parts]
  generalize Vl.same x y = bb at *
  (refine go_ f1 ?_)
  (refine dr_ 0 an0 fun K hK => ?_)
  (refine dd_ (an2 (an7 hx hy hlt hlt' j1 j2 j3) hp) ?_)
  (refine de_ (hK _ ?_); clear hK K)
  cases bb
  ·rw [← hf, Bool.false_and]
   (refine go_ an0 ?_)
   (first | exact oq_ an0 | refine ou_ an0 ?_)
  ·rw [Bool.true_and] at hf
   (refine go_ f2 ?_)
   exact ⟨l.length - (i + 1), by omega, _, ⟨i + 1, by omega, rfl, hf, rfl⟩, le_⟩
 ·have f1 : decide ((i : Int) < (l.length : Int)) = false := by simp; omega
  rw [List.drop_eq_nil_of_le (by omega), List.drop_eq_nil_of_le (by omega), eqBy] at hf
  rw [← hf]
  (refine go_ f1 ?_)
  (first | exact oq_ an0 | refine ou_ an0 ?_)
theorem eqC_sp (l m : List Col) (hl : l.length ≤ maxLen) : Sp Tryz.prog 34 [.one (.sl (rCs l)), .one (.sl (rCs m))] (.one (.t true (.lit (.bool (eqBy colEq l m))))) [] := by
 unfold maxLen at hl
 by_cases hll : l.length = m.length
 rotate_left
 ·have e3 : ((l.length : Int) != (m.length : Int)) = true := by simp; omega
  rw [eqBy_not hll]
  (refine en_ Tryz.func34 Tryz.ntmps34 Tryz.results34 fun X hX => ?_)
  (refine go_ e3 ?_)
  (first | exact oq_ an0 | refine ou_ an0 ?_)
 have e3 : ((l.length : Int) != (m.length : Int)) = false := by simp [hll]
 (refine en_ Tryz.func34 Tryz.ntmps34 Tryz.results34 fun X hX => ?_)
 (refine go_ e3 ?_)
 refine cw_loop (fun z s => ∃ i : Nat, i ≤ l.length ∧ z = l.length - i ∧ eqBy colEq (l.drop i) (m.drop i) = eqBy colEq l m ∧ s = ⟨[(13, litI .i64 i), (12, litI .i64 l.length), (0, .one (.t false (.sl (rCs l)))), (1, .one (.t false (.sl (rCs m))))], []⟩) l.length ⟨_, ⟨0, Nat.zero_le _, rfl, rfl, rfl⟩, le_⟩ ?_
 rintro z s ⟨i, hi, rfl, hf, rfl⟩
 by_cases hlt : i < l.length
 ·have f1 : decide ((i : Int) < (l.length : Int)) = true := by simp; omega
  obtain ⟨x, hx⟩ : ∃ x, l[i]? = some x := ⟨_, List.getElem?_eq_getElem hlt⟩
  obtain ⟨y, hy⟩ : ∃ y, m[i]? = some y := ⟨_, List.getElem?_eq_getElem (by omega)⟩
  have f2 : IntKind.i64.wrap ((i : Int) + 1) = ((i + 1 : Nat) : Int) := by rw [IntWalk.i64_in _ (by omega)]; rfl
  have hlt' : i < m.length := by omega
  have j1 : (i : Int) < (l.length : Int) := by omega
  have j2 : (i : Int) < (m.length : Int) := by omega
  have j3 : (0 : Int) ≤ (i : Int) := by omega
  rw [eqBy_drop hx hy] at hf
  have hp : (!((x.name.toList == y.name.toList) && (x.ty == y.ty))) = !(colEq x y) := rfl
  generalize colEq x y = bb at *
  (refine go_ f1 ?_)
  (refine dr_ 0 an0 fun K hK => ?_)
  (refine dd_ (an2 (an7 hx hy hlt hlt' j1 j2 j3) hp) ?_)
  (refine de_ (hK _ ?_); clear hK K)
  cases bb
  ·rw [← hf, Bool.false_and]
   (refine go_ an0 ?_)
   (first | exact oq_ an0 | refine ou_ an0 ?_)
  ·rw [Bool.true_and] at hf
   (refine go_ f2 ?_)
   exact ⟨l.length - (i + 1), by omega, _, ⟨i + 1, by omega, rfl, hf, rfl⟩, le_⟩
 ·have f1 : decide ((i : Int) < (l.length : Int)) = false := by simp; omega
  rw [List.drop_eq_nil_of_le (by omega), List.drop_eq_nil_of_le (by omega), eqBy] at hf
  rw [← hf]
  (refine go_ f1 ?_)
  (first | exact oq_ an0 | refine ou_ an0 ?_)
theorem samevalues_sp (l m : List Vl) (hl : l.length ≤ maxLen) : Sp Tryz.prog 39 [.one (.sl (rVs l)), .one (.sl (rVs m))] (.one (.t true (.lit (.bool (eqBy Vl.same l m))))) [] := by
 unfold maxLen at hl
 by_cases hll : l.length = m.length
 rotate_left
 ·have e3 : ((l.length : Int) != (m.length : Int)) = true := by simp; omega
  rw [eqBy_not hll]
  (refine en_ Tryz.func39 Tryz.ntmps39 Tryz.results39 fun X hX => ?_)
  (refine go_ e3 ?_)
  (first | exact oq_ an0 | refine ou_ an0 ?_)
 have e3 : ((l.length : Int) != (m.length : Int)) = false := by simp [hll]
 (refine en_ Tryz.func39 Tryz.ntmps39 Tryz.results39 fun X hX => ?_)
 (refine go_ e3 ?_)
 refine cw_loop (fun z s => ∃ i : Nat, i ≤ l.length ∧ z = l.length - i ∧ eqBy Vl.same (l.drop i) (m.drop i) = eqBy Vl.same l m ∧ s = ⟨[(5, litI .i64 i), (0, .one (.t false (.sl (rVs l)))), (1, .one (.t false (.sl (rVs m))))], []⟩) l.length ⟨_, ⟨0, Nat.zero_le _, rfl, rfl, rfl⟩, le_⟩ ?_
 rintro z s ⟨i, hi, rfl, hf, rfl⟩
 by_cases hlt : i < l.length
 ·have f1 : decide ((i : Int) < (l.length : Int)) = true := by simp; omega
  obtain ⟨x, hx⟩ : ∃ x, l[i]? = some x := ⟨_, List.getElem?_eq_getElem hlt⟩
  obtain ⟨y, hy⟩ : ∃ y, m[i]? = some y := ⟨_, List.getElem?_eq_getElem (by omega)⟩
  have f2 : IntKind.i64.wrap ((i : Int) + 1) = ((i + 1 : Nat) : Int) := by rw [IntWalk.i64_in _ (by omega)]; rfl
  have hlt' : i < m.length := by omega
  have j1 : (i : Int) < (l.length : Int) := by omega
  have j2 : (i : Int) < (m.length : Int) := by omega
  have j3 : (0 : Int) ≤ (i : Int) := by omega
  have hI := rsame_sp x y
  rw [eqBy_drop hx hy] at hf
  generalize x.same y = bb at *
  (refine go_ f1 ?_)
  (refine dr_ 0 an0 fun K hK => ?_)
  (refine dd_ (an7 hx hy hlt hlt' j1 j2 j3) ?_)
  (first | refine dcf_ 0 (an7 hx hy hlt hlt' j1 j2 j3) ?_ (hsp := hI) | refine dc_ 0 (an7 hx hy hlt hlt' j1 j2 j3) ?_ (hsp := hI))
  (refine dd_ (an7 hx hy hlt hlt' j1 j2 j3) ?_)
  (refine de_ (hK _ ?_); clear hK K)
  cases bb
  ·rw [← hf, Bool.false_and]
   (refine go_ an0 ?_)
   (first | exact oq_ an0 | refine ou_ an0 ?_)
  ·rw [Bool.true_and] at hf
   (refine go_ f2 ?_)
   exact ⟨l.length - (i + 1), by omega, _, ⟨i + 1, by omega, rfl, hf, rfl⟩, le_⟩
 ·have f1 : decide ((i : Int) < (l.length : Int)) = false := by simp; omega
  rw [List.drop_eq_nil_of_le (by omega), List.drop_eq_nil_of_le (by omega), eqBy] at hf
  rw [← hf]
  (refine go_ f1 ?_)
  (first | exact oq_ an0 | refine ou_ an0 ?_)
def rCm (c : Cm) : List T :=
 [.lit (.int .i64 c.k), .lit (.string c.name), .lit (.string c.other), .lit (.string c.column), .sl (rCs c.cols), .lit (.int .i64 c.ty), .lit (.int .i64 c.v.k), .lit (.int .i64 c.v.n), .lit (.string c.v.s), .sl (rVs c.vals), .sl (rS c.fields)] ++ (rE c.ex ++ ([.lit (.bool c.all)] ++ (rE c.wh ++ [.lit (.string c.order), .lit (.int .i64 c.limit)])))
theorem rCm_mk (k : Int) (name other column : ByteArray) (cols : List Col) (ty : Int) (v : Vl) (vals : List Vl) (fields : List ByteArray) (k1 : Int) (v1 : Vl) (n1 : ByteArray) (a1 : List Ex) (all : Bool) (k2 : Int) (v2 : Vl) (n2 : ByteArray) (a2 : List Ex) (order : ByteArray) (limit : Int) :
  rCm ⟨k, name, other, column, cols, ty, v, vals, fields, .mk k1 v1 n1 a1, all, .mk k2 v2 n2 a2, order, limit⟩ = [.lit (.int .i64 k), .lit (.string name), .lit (.string other), .lit (.string column), .sl (rCs cols), .lit (.int .i64 ty), .lit (.int .i64 v.k), .lit (.int .i64 v.n), .lit (.string v.s), .sl (rVs vals), .sl (rS fields), .lit (.int .i64 k1), .lit (.int .i64 v1.k), .lit (.int .i64 v1.n), .lit (.string v1.s), .lit (.string n1), .sl (a1.map rE), .lit (.bool all), .lit (.int .i64 k2), .lit (.int .i64 v2.k), .lit (.int .i64 v2.n), .lit (.string v2.s), .lit (.string n2), .sl (a2.map rE), .lit (.string order), .lit (.int .i64 limit)] := by
 unfold rCm
 rw [rE_mk, rE_mk]
 rfl
end Go.Proofs.YtjdgejfhnfnmgaaGreatDoor.Ax
namespace Go.Proofs.YtjdgejfhnfnmgaaGreatDoor.Ax
open Go.RowKit
set_option linter.unusedSimpArgs false
attribute [local go_sem] ty3 ty4 ty9 feq24 ty24 ty25 ty54 ty22 ty26 ty27 ty29 ty31 ty72 ty32
set_option linter.unusedVariables false
set_option maxRecDepth 100000
def badV (v : Vl) : Bool := !(v.chk == 0)
def badF (s : ByteArray) : Bool := !nameB s
theorem lists1_sp (v : Vl) (hs : v.s.size ≤ maxLen) : Sp Tryz.prog 80 (.agg (rV1 v) :: ([] : List T).map A.one) (.one (.t true (.lit (.bool (badV v))))) [] := by
 have h1 := vcheck_sp v hs
 unfold badV
 generalize v.chk = c at *
 (refine en_ Tryz.func80 Tryz.ntmps80 Tryz.results80 fun X hX => ?_)
 (refine gs_ ?_)
 (refine rn_ 8 an0 fun K hK => ?_; refine rr_ an0 ?_)
 ((first | refine rwr_nil (hK _ ?_) | refine de_ (hK _ ?_)); clear hK K)
 (refine gs_ ?_)
 (refine rn_ 8 an0 fun K hK => ?_; refine rr_ an0 ?_)
 (refine ca_ an0 ?_ (hsp := h1); refine rr_ an0 ?_)
 ((first | refine rwr_nil (hK _ ?_) | refine de_ (hK _ ?_)); clear hK K)
 (refine go_ an0 ?_)
 (first | exact oq_ an0 | refine ou_ an0 ?_)
 try rfl
theorem lists2_sp (s : ByteArray) (hs : s.size ≤ maxLen) : Sp Tryz.prog 85 (.one (.lit (.string s)) :: ([] : List T).map A.one) (.one (.t true (.lit (.bool (badF s))))) [] := by
 have h1 := cname_sp s hs
 unfold badF
 generalize nameB s = b at *
 (refine en_ Tryz.func85 Tryz.ntmps85 Tryz.results85 fun X hX => ?_)
 (refine gs_ ?_)
 (refine rn_ 8 an0 fun K hK => ?_; refine rr_ an0 ?_)
 ((first | refine rwr_nil (hK _ ?_) | refine de_ (hK _ ?_)); clear hK K)
 (refine gs_ ?_)
 (refine rn_ 8 an0 fun K hK => ?_; refine rr_ an0 ?_)
 (refine ca_ an0 ?_ (hsp := h1); refine rr_ an0 ?_)
 ((first | refine rwr_nil (hK _ ?_) | refine de_ (hK _ ?_)); clear hK K)
 (refine go_ an0 ?_)
 (first | exact oq_ an0 | refine ou_ an0 ?_)
structure goodCm (c : Cm) : Prop where
 name : c.name.size ≤ maxLen
 other : c.other.size ≤ maxLen
 column : c.column.size ≤ maxLen
 cols : c.cols.length ≤ maxLen
 colN : ∀ x ∈ c.cols, x.name.size ≤ maxLen
 v : c.v.s.size ≤ maxLen
 vals : c.vals.length ≤ maxLen
 valS : ∀ x ∈ c.vals, x.s.size ≤ maxLen
 fields : c.fields.length ≤ maxLen
 fieldS : ∀ x ∈ c.fields, x.size ≤ maxLen
 ex : goodE c.ex
 wh : goodE c.wh
 order : c.order.size ≤ maxLen
def listsG (c : Cm) (b3 b6 b5 b9 : Bool) : Bool :=
 (b3 == decide (0 < (c.cols.length : Int))) && (!c.cols.any badCol && ((b6 == decide (0 < (c.vals.length : Int))) && (!c.vals.any badV && ((c.v.chk == 0) && ((b5 || c.v.same Vl.zero) && ((b9 || ((c.fields.length : Int) == 0)) && !c.fields.any badF))))))
def wheresG (c : Cm) (b8 b9 : Bool) : Bool :=
 (if b8 = true ∧ c.all = false then exprB c.wh else noneB c.wh) && ((if b9 = true then decide (-1 ≤ c.limit) && decide (c.limit ≤ 999999999) else (c.limit == 0)) && ((b8 || !c.all) && (emptyS c.order || (b9 && nameB c.order))))
def typeOk (b : Bool) (ty : Int) : Bool := if b = true then decide (1 ≤ ty) && decide (ty ≤ 3) else (ty == 0)
def exOk (b : Bool) (e : Ex) : Bool := if b = true then exprB e else noneB e
def okP (c : Cm) : Bool :=
 decide (1 ≤ c.k) && (decide (c.k ≤ 16) && (namedB c.name (kName c.k) && (namedB c.other (kOther c.k) && (namedB c.column (kColumn c.k) && (typeOk (kType c.k) c.ty && (listsG c (c.k == 1) (c.k == 10) (c.k == 3) (c.k == 13) && (wheresG c (kWhere c.k) (c.k == 13) && exOk (c.k == 12) c.ex)))))))
def bigB (c : Cm) : Bool :=
 decide (5 < (c.cols.length : Int)) || (decide (5 < (c.vals.length : Int)) || (decide (5 < (c.fields.length : Int)) || (decide (15 < sizeE c.ex 15) || decide (15 < sizeE c.wh 15))))
def checkP (c : Cm) : Int := if bigB c = true then 2 else if okP c = true then 0 else 1
abbrev aShape (b0 b1 b2 b3 b4 b5 b6 b7 b8 b9 : Bool) : A := .agg [.lit (.bool b0), .lit (.bool b1), .lit (.bool b2), .lit (.bool b3), .lit (.bool b4), .lit (.bool b5), .lit (.bool b6), .lit (.bool b7), .lit (.bool b8), .lit (.bool b9)]
set_option maxHeartbeats 4000000 in
theorem lists_sp (c : Cm) (hg : goodCm c) (b0 b1 b2 b3 b4 b5 b6 b7 b8 b9 : Bool) : Sp Tryz.prog 48 [.agg (rCm c), aShape b0 b1 b2 b3 b4 b5 b6 b7 b8 b9] (.one (.t true (.lit (.bool (listsG c b3 b6 b5 b9))))) [] := by
 have h1 := columns_sp c.cols hg.cols hg.colN
 have h2 := containsVa_sp 80 [] badV c.vals hg.vals (fun x hx => lists1_sp x (hg.valS x hx))
 have h3 : Sp Tryz.prog 80 [.agg (rV1 c.v)] (.one (.t true (.lit (.bool (badV c.v))))) [] := lists1_sp c.v hg.v
 have h4 := containsSt_sp 85 [] badF c.fields hg.fields (fun x hx => lists2_sp x (hg.fieldS x hx))
 have hz := sameZ c.v
 clear hg
 unfold listsG
 unfold badV at h3
 obtain ⟨k, name, other, column, cols, ty, v, vals, fields, ⟨k1, v1, n1, a1⟩, all, ⟨k2, v2, n2, a2⟩, order, limit⟩ := c
 dsimp only at *
 rw [rCm_mk]
 generalize cols.any badCol = c1 at *
 generalize vals.any badV = c2 at *
 generalize fields.any badF = c4 at *
 have hzz : ((v.k == 0) && ((v.n == 0) && (v.s.toList == ByteArray.empty.toList))) = v.same Vl.zero := by rw [isEd]; exact hz
 generalize v.same Vl.zero = sz at *
 generalize (v.chk == 0) = c3 at *
 obtain ⟨d1, hD1⟩ : ∃ d, decide (0 < (cols.length : Int)) = d := ⟨_, rfl⟩
 obtain ⟨d2, hD2⟩ : ∃ d, decide (0 < (vals.length : Int)) = d := ⟨_, rfl⟩
 obtain ⟨d4, hD4⟩ : ∃ d, ((fields.length : Int) == 0) = d := ⟨_, rfl⟩
 rw [hD1, hD2, hD4]
 have F := an4 hD1 hD2 hD4 hzz
 (refine en_ Tryz.func48 Tryz.ntmps48 Tryz.results48 fun X hX => ?_)
 refine au_ F ?_
 refine cw_cond rfl (fun hp => ?_) (fun hp => ?_)
 ·have e : (b3 == d1 && !c1) = false := by revert hp; cases b3 <;> cases d1 <;> cases c1 <;> decide
  rw [← Bool.and_assoc, e, Bool.false_and]
  refine au_ an0 ?_
  exact oq_ an0
 have e : (b3 == d1 && !c1) = true := by revert hp; cases b3 <;> cases d1 <;> cases c1 <;> decide
 rw [← Bool.and_assoc, e, Bool.true_and]
 clear e hp
 refine au_ F ?_
 refine cw_cond rfl (fun hp => ?_) (fun hp => ?_)
 ·have e : (b6 == d2 && !c2) = false := by revert hp; cases b6 <;> cases d2 <;> cases c2 <;> decide
  rw [← Bool.and_assoc, e, Bool.false_and]
  refine au_ an0 ?_
  exact oq_ an0
 have e : (b6 == d2 && !c2) = true := by revert hp; cases b6 <;> cases d2 <;> cases c2 <;> decide
 rw [← Bool.and_assoc, e, Bool.true_and]
 clear e hp
 refine au_ F ?_
 refine cw_cond rfl (fun hp => ?_) (fun hp => ?_)
 ·have e : (c3 && (b5 || sz)) = false := by revert hp; cases c3 <;> cases b5 <;> cases sz <;> decide
  rw [← Bool.and_assoc, e, Bool.false_and]
  refine au_ an0 ?_
  exact oq_ an0
 have e : (c3 && (b5 || sz)) = true := by revert hp; cases c3 <;> cases b5 <;> cases sz <;> decide
 rw [← Bool.and_assoc, e, Bool.true_and]
 clear e hp
 refine au_ F ?_
 exact oq_ F
end Go.Proofs.YtjdgejfhnfnmgaaGreatDoor.Ax
namespace Go.Proofs.YtjdgejfhnfnmgaaGreatDoor.Ax
open Go.RowKit
set_option linter.unusedSimpArgs false
attribute [local go_sem] ty3 ty4 ty9 feq24 ty24 ty25 ty54 ty22 ty26 ty27 ty29 ty31 ty72 ty32
set_option linter.unusedVariables false
set_option maxRecDepth 100000
set_option maxHeartbeats 8000000 in
theorem wheres_sp (c : Cm) (hg : goodCm c) (b0 b1 b2 b3 b4 b5 b6 b7 b8 b9 : Bool) : Sp Tryz.prog 49 [.agg (rCm c), aShape b0 b1 b2 b3 b4 b5 b6 b7 b8 b9] (.one (.t true (.lit (.bool (wheresG c b8 b9))))) [] := by
 have h1 := none_sp c.wh
 have h2 := cexpr_sp c.wh hg.wh
 have h3 := cname_sp c.order hg.order
 clear hg
 unfold wheresG
 obtain ⟨k, name, other, column, cols, ty, v, vals, fields, ⟨k1, v1, n1, a1⟩, all, ⟨k2, v2, n2, a2⟩, order, limit⟩ := c
 dsimp only at *
 rw [rCm_mk]
 rw [rE_mk] at h1 h2
 generalize noneB (.mk k2 v2 n2 a2) = w1 at *
 generalize exprB (.mk k2 v2 n2 a2) = w2 at *
 generalize nameB order = w3 at *
 have hE : (order.toList == (⟨#[]⟩ : ByteArray).toList) = emptyS order := isE order
 generalize emptyS order = w4 at *
 obtain ⟨l0, hl0⟩ : ∃ d, d = (limit == 0) := ⟨_, rfl⟩
 rw [← hl0]
 have hl0 := hl0.symm
 obtain ⟨l1, hl1⟩ : ∃ d, d = decide (-1 ≤ limit) := ⟨_, rfl⟩
 rw [← hl1]
 have hl1 := hl1.symm
 obtain ⟨l2, hl2⟩ : ∃ d, d = decide (limit ≤ 999999999) := ⟨_, rfl⟩
 rw [← hl2]
 have hl2 := hl2.symm
 have F := an4 hE hl0 hl1 hl2
 (refine en_ Tryz.func49 Tryz.ntmps49 Tryz.results49 fun X hX => ?_)
 refine au_ F ?_
 refine cw_cond rfl (fun hp => ?_) (fun hp => ?_)
 ·have e : b8 = true ∧ all = false := by revert hp; cases b8 <;> cases all <;> decide
  rw [if_pos e]
  refine au_ F ?_
  refine cw_cond rfl (fun hq => ?_) (fun hq => ?_)
  ·rw [hq, if_pos rfl]
   refine au_ F ?_
   refine ou_ F ?_
   simp only [Bool.and_assoc, Bool.false_and, Bool.true_and, Bool.or_false]
  ·rw [hq, if_neg (by decide)]
   refine au_ F ?_
   refine ou_ F ?_
   simp only [Bool.and_assoc, Bool.false_and, Bool.true_and, Bool.or_false]
 ·have e : ¬ (b8 = true ∧ all = false) := by revert hp; cases b8 <;> cases all <;> decide
  rw [if_neg e]
  refine au_ F ?_
  refine cw_cond rfl (fun hq => ?_) (fun hq => ?_)
  ·rw [hq, if_pos rfl]
   refine au_ F ?_
   refine ou_ F ?_
   simp only [Bool.and_assoc, Bool.false_and, Bool.true_and, Bool.or_false]
  ·rw [hq, if_neg (by decide)]
   refine au_ F ?_
   refine ou_ F ?_
   simp only [Bool.and_assoc, Bool.false_and, Bool.true_and, Bool.or_false]
end Go.Proofs.YtjdgejfhnfnmgaaGreatDoor.Ax
namespace Go.Proofs.YtjdgejfhnfnmgaaGreatDoor.Ax
open Go.RowKit
set_option linter.unusedSimpArgs false
attribute [local go_sem] ty3 ty4 ty9 feq24 ty24 ty25 ty54 ty22 ty26 ty27 ty29 ty31 ty72 ty32
set_option linter.unusedVariables false
set_option maxRecDepth 100000
set_option maxHeartbeats 32000000 in
theorem ccheck_sp (c : Cm) (hg : goodCm c) : Sp Tryz.prog 17 [.agg (rCm c)] (.one (.t true (.lit (.int .i64 (checkP c))))) [] := by
 have hG1 := great_sp c.ex
 have hG2 := great_sp c.wh
 have hOf := of_sp c.k
 have hN1 := named_sp c.name hg.name (kName c.k)
 have hN2 := named_sp c.other hg.other (kOther c.k)
 have hN3 := named_sp c.column hg.column (kColumn c.k)
 have hT := vtype_sp c.ty
 have hL := lists_sp c hg (kName c.k) (kOther c.k) (kColumn c.k) (c.k == 1) (kType c.k) (c.k == 3) (c.k == 10) (c.k == 12) (kWhere c.k) (c.k == 13)
 have hW := wheres_sp c hg (kName c.k) (kOther c.k) (kColumn c.k) (c.k == 1) (kType c.k) (c.k == 3) (c.k == 10) (c.k == 12) (kWhere c.k) (c.k == 13)
 have hE := cexpr_sp c.ex hg.ex
 have hNo := none_sp c.ex
 unfold checkP bigB okP exOk typeOk
 unfold vShape at hOf
 unfold aShape at hL hW
 clear hg
 generalize listsG c (c.k == 1) (c.k == 10) (c.k == 3) (c.k == 13) = q1 at *
 generalize wheresG c (kWhere c.k) (c.k == 13) = q2 at *
 obtain ⟨k, name, other, column, cols, ty, v, vals, fields, ⟨k1, v1, n1, a1⟩, all, ⟨k2, v2, n2, a2⟩, order, limit⟩ := c
 dsimp only at *
 rw [rCm_mk] at hL hW ⊢
 rw [rE_mk] at hG1 hG2 hE hNo
 generalize kName k = s0 at *
 generalize kOther k = s1 at *
 generalize kColumn k = s2 at *
 generalize (k == 1) = s3 at *
 generalize kType k = s4 at *
 generalize (k == 3) = s5 at *
 generalize (k == 10) = s6 at *
 generalize (k == 12) = s7 at *
 generalize kWhere k = s8 at *
 generalize (k == 13) = s9 at *
 generalize namedB name s0 = m1 at *
 generalize namedB other s1 = m2 at *
 generalize namedB column s2 = m3 at *
 generalize exprB (.mk k1 v1 n1 a1) = x1 at *
 generalize noneB (.mk k1 v1 n1 a1) = x2 at *
 generalize decide (15 < sizeE (.mk k1 v1 n1 a1) 15) = d4 at *
 generalize decide (15 < sizeE (.mk k2 v2 n2 a2) 15) = d5 at *
 generalize (decide (1 ≤ ty) && decide (ty ≤ 3)) = t1 at *
 obtain ⟨d1, hd1⟩ : ∃ d, d = decide (5 < (cols.length : Int)) := ⟨_, rfl⟩
 rw [← hd1]
 have hd1 := hd1.symm
 obtain ⟨d2, hd2⟩ : ∃ d, d = decide (5 < (vals.length : Int)) := ⟨_, rfl⟩
 rw [← hd2]
 have hd2 := hd2.symm
 obtain ⟨d3, hd3⟩ : ∃ d, d = decide (5 < (fields.length : Int)) := ⟨_, rfl⟩
 rw [← hd3]
 have hd3 := hd3.symm
 obtain ⟨r1, hr1⟩ : ∃ d, d = decide (1 ≤ k) := ⟨_, rfl⟩
 rw [← hr1]
 have hr1 := hr1.symm
 obtain ⟨r2, hr2⟩ : ∃ d, d = decide (k ≤ 16) := ⟨_, rfl⟩
 rw [← hr2]
 have hr2 := hr2.symm
 obtain ⟨t2, ht2⟩ : ∃ d, d = (ty == 0) := ⟨_, rfl⟩
 rw [← ht2]
 have ht2 := ht2.symm
 have F := an6 hd1 hd2 hd3 hr1 hr2 ht2
 (refine en_ Tryz.func17 Tryz.ntmps17 Tryz.results17 fun X hX => ?_)
 refine au_ F ?_
 refine cw_cond rfl (fun hp => ?_) (fun hp => ?_)
 ·rw [if_pos (by rw [← hp]; simp only [Bool.or_assoc])]
  refine au_ an0 ?_
  exact oq_ an0
 rw [if_neg (by rw [Bool.not_eq_true, ← hp]; simp only [Bool.or_assoc])]
 clear hp
 refine au_ F ?_
 obtain ⟨ok, hok⟩ : ∃ ok, ok = (r1 && r2 && m1 && m2 && m3 && (s4 && t1 || !s4 && t2) && q1 && q2) := ⟨_, rfl⟩
 rw [← hok]
 refine au_ F ?_
 have e0 : (if s4 = true then t1 else t2) = (s4 && t1 || !s4 && t2) := by cases s4 <;> simp
 have e1 : (r1 && (r2 && (m1 && (m2 && (m3 && ((s4 && t1 || !s4 && t2) && (q1 && (q2 && if s7 = true then x1 else x2)))))))) = (ok && if s7 = true then x1 else x2) := by rw [hok]; simp only [Bool.and_assoc]
 rw [e0, e1]
 clear e0 e1 hok
 refine cw_cond rfl (fun hp => ?_) (fun hp => ?_)
 ·have e : (ok && if s7 = true then x1 else x2) = false := by revert hp; cases ok <;> cases s7 <;> cases x1 <;> cases x2 <;> decide
  rw [e, if_neg (by decide)]
  refine au_ an0 ?_
  exact oq_ an0
 ·have e : (ok && if s7 = true then x1 else x2) = true := by revert hp; cases ok <;> cases s7 <;> cases x1 <;> cases x2 <;> decide
  rw [e, if_pos rfl]
  refine au_ an0 ?_
  exact oq_ an0
end Go.Proofs.YtjdgejfhnfnmgaaGreatDoor.Ax
