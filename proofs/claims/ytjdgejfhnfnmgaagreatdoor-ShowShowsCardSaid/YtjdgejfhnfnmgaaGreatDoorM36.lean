/-  -/
import Derived.Test.YtjdgejfhnfnmgaaGreatDoorAxW
import Derived.Test.YtjdgejfhnfnmgaaGreatDoorM26
import Derived.Test.YtjdgejfhnfnmgaaGreatDoorM35
import Derived.Test.YtjdgejfhnfnmgaaGreatDoorM20
import Derived.Test.YtjdgejfhnfnmgaaGreatDoorM1
import Derived.Test.YtjdgejfhnfnmgaaGreatDoorRows
import Derived.Stop.LaidErr
import Derived.Lib.LaidTab
import Derived.MakeChecks
namespace Go.Proofs.YtjdgejfhnfnmgaaGreatDoor.Ax
open Go.RowKit
set_option linter.unusedSimpArgs false
attribute [local go_sem] ty3 ty4 ty9 feq24 ty24 ty25 feq54 ty54 ty22 ty26 ty27 ty29 ty31 List.append_eq
set_option linter.unusedVariables false
set_option maxRecDepth 100000
theorem sameC_ref (c d : Cm) : sameC c d = ((c.k == d.k) && ((c.name.toList == d.name.toList) && ((c.other.toList == d.other.toList) && ((c.column.toList == d.column.toList) && ((c.ty == d.ty) && (c.v.same d.v && ((c.all == d.all) && ((c.order.toList == d.order.toList) && ((c.limit == d.limit) && (sameE c.ex d.ex && (sameE c.wh d.wh && (eqBy Vl.same c.vals d.vals && (eqBy colEq c.cols d.cols && eqBy strEq c.fields d.fields))))))))))))) := by
 unfold sameC
 simp only [Bool.and_assoc]
 cases c.k == d.k <;> cases c.name.toList == d.name.toList <;> try rfl
 all_goals
  cases sameE c.ex d.ex <;> cases sameE c.wh d.wh <;> cases eqBy colEq c.cols d.cols <;> cases eqBy strEq c.fields d.fields <;> cases eqBy Vl.same c.vals d.vals <;> simp only [Bool.and_false, Bool.false_and, Bool.and_true, Bool.true_and]
set_option maxHeartbeats 16000000 in
theorem samecmd_sp (c d : Cm) (hc : c.cols.length ≤ maxLen) (hv : c.vals.length ≤ maxLen) (hf : c.fields.length ≤ maxLen) (he : goodE c.ex) (hw : goodE c.wh) :
  Sp Tryz.prog 13 [.agg (rCm c), .agg (rCm d)] (.one (.t true (.lit (.bool (sameC c d))))) [] := by
 rw [sameC_ref]
 have hQ1 := samee_sp c.ex he d.ex
 have hQ2 := samee_sp c.wh hw d.wh
 have hQ4 := samevalues_sp c.vals d.vals hv
 have hS := rsame_sp c.v d.v
 obtain ⟨k, name, other, column, cols, ty, v, vals, fields, ⟨k1, v1, n1, a1⟩, all, ⟨k2, v2, n2, a2⟩, order, limit⟩ := c
 obtain ⟨k', name', other', column', cols', ty', v', vals', fields', ⟨k1', v1', n1', a1'⟩, all', ⟨k2', v2', n2', a2'⟩, order', limit'⟩ := d
 dsimp only at *
 rw [rCm_mk, rCm_mk]
 rw [rE_mk, rE_mk] at hQ1 hQ2
 unfold maxLen at hc hf
 generalize sameE (.mk k1 v1 n1 a1) (.mk k1' v1' n1' a1') = b1 at *
 generalize sameE (.mk k2 v2 n2 a2) (.mk k2' v2' n2' a2') = b2 at *
 generalize eqBy Vl.same vals vals' = b4 at *
 generalize v.same v' = b6 at *
 (refine en_ Tryz.func13 Tryz.ntmps13 Tryz.results13 fun X hX => ?_)
 (refine gs_ ?_)
 (refine rn_ 8 an0 fun K hK => ?_; refine rr_ an0 ?_)
 ((first | refine rwr_nil (hK _ ?_) | refine de_ (hK _ ?_)); clear hK K)
 (refine gs_ ?_)
 cases e1 : (k == k')
 ·rw [Bool.false_and]
  have e1n : (k != k') = true := by rw [bne, e1]; rfl
  (refine rn_ 8 (an2 e1 e1n) fun K hK => ?_)
  (refine rw_goN (k := 8) ?_; (refine sm_ (an2 e1 e1n) ?_))
  (refine rr_ (an2 e1 e1n) ?_)
  ((first | refine rwr_nil (hK _ ?_) | refine de_ (hK _ ?_)); clear hK K)
  (refine go_ an0 ?_)
  (first | exact oq_ an0 | refine ou_ an0 ?_)
 rw [Bool.true_and]
 have e1n : (k != k') = false := by rw [bne, e1]; rfl
 cases e2 : (name.toList == name'.toList)
 ·rw [Bool.false_and]
  (refine rn_ 8 (an3 e1 e1n e2) fun K hK => ?_)
  (refine rw_goN (k := 8) ?_; (refine sm_ (an3 e1 e1n e2) ?_))
  (refine rr_ (an3 e1 e1n e2) ?_)
  ((first | refine rwr_nil (hK _ ?_) | refine de_ (hK _ ?_)); clear hK K)
  (refine go_ an0 ?_)
  (first | exact oq_ an0 | refine ou_ an0 ?_)
 rw [Bool.true_and]
 cases e3 : (other.toList == other'.toList)
 ·rw [Bool.false_and]
  (refine rn_ 8 (an4 e1 e1n e2 e3) fun K hK => ?_)
  (refine rw_goN (k := 8) ?_; (refine sm_ (an4 e1 e1n e2 e3) ?_))
  (refine rr_ (an4 e1 e1n e2 e3) ?_)
  ((first | refine rwr_nil (hK _ ?_) | refine de_ (hK _ ?_)); clear hK K)
  (refine go_ an0 ?_)
  (first | exact oq_ an0 | refine ou_ an0 ?_)
 rw [Bool.true_and]
 cases e4 : (column.toList == column'.toList)
 ·rw [Bool.false_and]
  (refine rn_ 8 (an5 e1 e1n e2 e3 e4) fun K hK => ?_)
  (refine rw_goN (k := 8) ?_; (refine sm_ (an5 e1 e1n e2 e3 e4) ?_))
  (refine rr_ (an5 e1 e1n e2 e3 e4) ?_)
  ((first | refine rwr_nil (hK _ ?_) | refine de_ (hK _ ?_)); clear hK K)
  (refine go_ an0 ?_)
  (first | exact oq_ an0 | refine ou_ an0 ?_)
 rw [Bool.true_and]
 cases e5 : (ty == ty')
 ·rw [Bool.false_and]
  have e5n : (ty != ty') = true := by rw [bne, e5]; rfl
  (refine rn_ 8 (an7 e1 e1n e2 e3 e4 e5 e5n) fun K hK => ?_)
  (refine rw_goN (k := 8) ?_; (refine sm_ (an7 e1 e1n e2 e3 e4 e5 e5n) ?_))
  (refine rr_ (an7 e1 e1n e2 e3 e4 e5 e5n) ?_)
  ((first | refine rwr_nil (hK _ ?_) | refine de_ (hK _ ?_)); clear hK K)
  (refine go_ an0 ?_)
  (first | exact oq_ an0 | refine ou_ an0 ?_)
 rw [Bool.true_and]
 have e5n : (ty != ty') = false := by rw [bne, e5]; rfl
 cases b6
 ·rw [Bool.false_and]
  (refine rn_ 8 (an7 e1 e1n e2 e3 e4 e5 e5n) fun K hK => ?_)
  (refine rw_goN (k := 8) ?_; (refine sm_ (an7 e1 e1n e2 e3 e4 e5 e5n) ?_))
  (refine rr_ (an7 e1 e1n e2 e3 e4 e5 e5n) ?_)
  (refine ca_ (an7 e1 e1n e2 e3 e4 e5 e5n) ?_ (hsp := hS); refine rr_ (an7 e1 e1n e2 e3 e4 e5 e5n) ?_)
  (refine rr_ (an7 e1 e1n e2 e3 e4 e5 e5n) ?_)
  ((first | refine rwr_nil (hK _ ?_) | refine de_ (hK _ ?_)); clear hK K)
  (refine go_ an0 ?_)
  (first | exact oq_ an0 | refine ou_ an0 ?_)
 rw [Bool.true_and]
 cases e7 : (all == all')
 ·rw [Bool.false_and]
  have e7n : (all != all') = true := by rw [bne, e7]; rfl
  (refine rn_ 8 (an2 (an7 e1 e1n e2 e3 e4 e5 e5n) (an2 e7 e7n)) fun K hK => ?_)
  (refine rw_goN (k := 8) ?_; (refine sm_ (an2 (an7 e1 e1n e2 e3 e4 e5 e5n) (an2 e7 e7n)) ?_))
  (refine rr_ (an2 (an7 e1 e1n e2 e3 e4 e5 e5n) (an2 e7 e7n)) ?_)
  (refine ca_ (an2 (an7 e1 e1n e2 e3 e4 e5 e5n) (an2 e7 e7n)) ?_ (hsp := hS); refine rr_ (an2 (an7 e1 e1n e2 e3 e4 e5 e5n) (an2 e7 e7n)) ?_)
  (refine rr_ (an2 (an7 e1 e1n e2 e3 e4 e5 e5n) (an2 e7 e7n)) ?_)
  ((first | refine rwr_nil (hK _ ?_) | refine de_ (hK _ ?_)); clear hK K)
  (refine go_ an0 ?_)
  (first | exact oq_ an0 | refine ou_ an0 ?_)
 rw [Bool.true_and]
 have e7n : (all != all') = false := by rw [bne, e7]; rfl
 cases e8 : (order.toList == order'.toList)
 ·rw [Bool.false_and]
  (refine rn_ 8 (an2 (an7 e1 e1n e2 e3 e4 e5 e5n) (an3 e7 e7n e8)) fun K hK => ?_)
  (refine rw_goN (k := 8) ?_; (refine sm_ (an2 (an7 e1 e1n e2 e3 e4 e5 e5n) (an3 e7 e7n e8)) ?_))
  (refine rr_ (an2 (an7 e1 e1n e2 e3 e4 e5 e5n) (an3 e7 e7n e8)) ?_)
  (refine ca_ (an2 (an7 e1 e1n e2 e3 e4 e5 e5n) (an3 e7 e7n e8)) ?_ (hsp := hS); refine rr_ (an2 (an7 e1 e1n e2 e3 e4 e5 e5n) (an3 e7 e7n e8)) ?_)
  (refine rr_ (an2 (an7 e1 e1n e2 e3 e4 e5 e5n) (an3 e7 e7n e8)) ?_)
  ((first | refine rwr_nil (hK _ ?_) | refine de_ (hK _ ?_)); clear hK K)
  (refine go_ an0 ?_)
  (first | exact oq_ an0 | refine ou_ an0 ?_)
 rw [Bool.true_and]
 cases e9 : (limit == limit')
 ·rw [Bool.false_and]
  have e9n : (limit != limit') = true := by rw [bne, e9]; rfl
  (refine rn_ 8 (an2 (an7 e1 e1n e2 e3 e4 e5 e5n) (an5 e7 e7n e8 e9 e9n)) fun K hK => ?_)
  (refine rw_goN (k := 8) ?_; (refine sm_ (an2 (an7 e1 e1n e2 e3 e4 e5 e5n) (an5 e7 e7n e8 e9 e9n)) ?_))
  (refine rr_ (an2 (an7 e1 e1n e2 e3 e4 e5 e5n) (an5 e7 e7n e8 e9 e9n)) ?_)
  (refine ca_ (an2 (an7 e1 e1n e2 e3 e4 e5 e5n) (an5 e7 e7n e8 e9 e9n)) ?_ (hsp := hS); refine rr_ (an2 (an7 e1 e1n e2 e3 e4 e5 e5n) (an5 e7 e7n e8 e9 e9n)) ?_)
  (refine rr_ (an2 (an7 e1 e1n e2 e3 e4 e5 e5n) (an5 e7 e7n e8 e9 e9n)) ?_)
  ((first | refine rwr_nil (hK _ ?_) | refine de_ (hK _ ?_)); clear hK K)
  (refine go_ an0 ?_)
  (first | exact oq_ an0 | refine ou_ an0 ?_)
 rw [Bool.true_and]
 have e9n : (limit != limit') = false := by rw [bne, e9]; rfl
 cases b1
 ·rw [Bool.false_and]
  (refine rn_ 8 (an2 (an7 e1 e1n e2 e3 e4 e5 e5n) (an5 e7 e7n e8 e9 e9n)) fun K hK => ?_)
  (refine rw_goN (k := 8) ?_; (refine sm_ (an2 (an7 e1 e1n e2 e3 e4 e5 e5n) (an5 e7 e7n e8 e9 e9n)) ?_))
  (refine rr_ (an2 (an7 e1 e1n e2 e3 e4 e5 e5n) (an5 e7 e7n e8 e9 e9n)) ?_)
  (refine ca_ (an2 (an7 e1 e1n e2 e3 e4 e5 e5n) (an5 e7 e7n e8 e9 e9n)) ?_ (hsp := hS); refine rr_ (an2 (an7 e1 e1n e2 e3 e4 e5 e5n) (an5 e7 e7n e8 e9 e9n)) ?_)
  (refine rr_ (an2 (an7 e1 e1n e2 e3 e4 e5 e5n) (an5 e7 e7n e8 e9 e9n)) ?_)
  (refine ca_ (an2 (an7 e1 e1n e2 e3 e4 e5 e5n) (an5 e7 e7n e8 e9 e9n)) ?_ (hsp := hQ1); refine rr_ (an2 (an7 e1 e1n e2 e3 e4 e5 e5n) (an5 e7 e7n e8 e9 e9n)) ?_)
  (refine rr_ (an2 (an7 e1 e1n e2 e3 e4 e5 e5n) (an5 e7 e7n e8 e9 e9n)) ?_)
  ((first | refine rwr_nil (hK _ ?_) | refine de_ (hK _ ?_)); clear hK K)
  (refine go_ an0 ?_)
  (first | exact oq_ an0 | refine ou_ an0 ?_)
 rw [Bool.true_and]
 cases b2
 ·rw [Bool.false_and]
  (refine rn_ 8 (an2 (an7 e1 e1n e2 e3 e4 e5 e5n) (an5 e7 e7n e8 e9 e9n)) fun K hK => ?_)
  (refine rw_goN (k := 8) ?_; (refine sm_ (an2 (an7 e1 e1n e2 e3 e4 e5 e5n) (an5 e7 e7n e8 e9 e9n)) ?_))
  (refine rr_ (an2 (an7 e1 e1n e2 e3 e4 e5 e5n) (an5 e7 e7n e8 e9 e9n)) ?_)
  (refine ca_ (an2 (an7 e1 e1n e2 e3 e4 e5 e5n) (an5 e7 e7n e8 e9 e9n)) ?_ (hsp := hS); refine rr_ (an2 (an7 e1 e1n e2 e3 e4 e5 e5n) (an5 e7 e7n e8 e9 e9n)) ?_)
  (refine rr_ (an2 (an7 e1 e1n e2 e3 e4 e5 e5n) (an5 e7 e7n e8 e9 e9n)) ?_)
  (refine ca_ (an2 (an7 e1 e1n e2 e3 e4 e5 e5n) (an5 e7 e7n e8 e9 e9n)) ?_ (hsp := hQ1); refine rr_ (an2 (an7 e1 e1n e2 e3 e4 e5 e5n) (an5 e7 e7n e8 e9 e9n)) ?_)
  (refine rr_ (an2 (an7 e1 e1n e2 e3 e4 e5 e5n) (an5 e7 e7n e8 e9 e9n)) ?_)
  (refine ca_ (an2 (an7 e1 e1n e2 e3 e4 e5 e5n) (an5 e7 e7n e8 e9 e9n)) ?_ (hsp := hQ2); refine rr_ (an2 (an7 e1 e1n e2 e3 e4 e5 e5n) (an5 e7 e7n e8 e9 e9n)) ?_)
  (refine rr_ (an2 (an7 e1 e1n e2 e3 e4 e5 e5n) (an5 e7 e7n e8 e9 e9n)) ?_)
  ((first | refine rwr_nil (hK _ ?_) | refine de_ (hK _ ?_)); clear hK K)
  (refine go_ an0 ?_)
  (first | exact oq_ an0 | refine ou_ an0 ?_)
 rw [Bool.true_and]
 (refine rn_ 8 (an2 (an7 e1 e1n e2 e3 e4 e5 e5n) (an5 e7 e7n e8 e9 e9n)) fun K hK => ?_)
 (refine rw_goN (k := 8) ?_; (refine sm_ (an2 (an7 e1 e1n e2 e3 e4 e5 e5n) (an5 e7 e7n e8 e9 e9n)) ?_))
 (refine rr_ (an2 (an7 e1 e1n e2 e3 e4 e5 e5n) (an5 e7 e7n e8 e9 e9n)) ?_)
 (refine ca_ (an2 (an7 e1 e1n e2 e3 e4 e5 e5n) (an5 e7 e7n e8 e9 e9n)) ?_ (hsp := hS); refine rr_ (an2 (an7 e1 e1n e2 e3 e4 e5 e5n) (an5 e7 e7n e8 e9 e9n)) ?_)
 (refine rr_ (an2 (an7 e1 e1n e2 e3 e4 e5 e5n) (an5 e7 e7n e8 e9 e9n)) ?_)
 (refine ca_ (an2 (an7 e1 e1n e2 e3 e4 e5 e5n) (an5 e7 e7n e8 e9 e9n)) ?_ (hsp := hQ1); refine rr_ (an2 (an7 e1 e1n e2 e3 e4 e5 e5n) (an5 e7 e7n e8 e9 e9n)) ?_)
 (refine rr_ (an2 (an7 e1 e1n e2 e3 e4 e5 e5n) (an5 e7 e7n e8 e9 e9n)) ?_)
 (refine ca_ (an2 (an7 e1 e1n e2 e3 e4 e5 e5n) (an5 e7 e7n e8 e9 e9n)) ?_ (hsp := hQ2); refine rr_ (an2 (an7 e1 e1n e2 e3 e4 e5 e5n) (an5 e7 e7n e8 e9 e9n)) ?_)
 (refine rr_ (an2 (an7 e1 e1n e2 e3 e4 e5 e5n) (an5 e7 e7n e8 e9 e9n)) ?_)
 ((first | refine rwr_nil (hK _ ?_) | refine de_ (hK _ ?_)); clear hK K)
 (refine gs_ ?_)
 by_cases hcl : cols.length = cols'.length
 rotate_left
 ·have g1 : ((cols.length : Int) != (cols'.length : Int)) = true := by simp; omega
  rw [eqBy_not hcl, Bool.false_and, Bool.and_false]
  (refine go_ g1 ?_)
  (first | exact oq_ an0 | refine ou_ an0 ?_)
 have g1 : ((cols.length : Int) != (cols'.length : Int)) = false := by simp [hcl]
 by_cases hfl : fields.length = fields'.length
 rotate_left
 ·have g2 : ((fields.length : Int) != (fields'.length : Int)) = true := by simp; omega
  rw [eqBy_not hfl, Bool.and_false, Bool.and_false]
  (refine go_ (an2 g1 g2) ?_)
  (first | exact oq_ an0 | refine ou_ an0 ?_)
 have g2 : ((fields.length : Int) != (fields'.length : Int)) = false := by simp [hfl]
 cases b4
 ·rw [Bool.false_and]
  (refine rn_ 8 (an2 g1 g2) fun K hK => ?_; refine rr_ (an2 g1 g2) ?_)
  (refine ca_ (an2 g1 g2) ?_ (hsp := hQ4); refine rr_ (an2 g1 g2) ?_)
  (refine rr_ (an2 g1 g2) ?_)
  ((first | refine rwr_nil (hK _ ?_) | refine de_ (hK _ ?_)); clear hK K)
  (refine go_ an0 ?_)
  (first | exact oq_ an0 | refine ou_ an0 ?_)
 rw [Bool.true_and]
 (refine rn_ 8 (an2 g1 g2) fun K hK => ?_; refine rr_ (an2 g1 g2) ?_)
 (refine ca_ (an2 g1 g2) ?_ (hsp := hQ4); refine rr_ (an2 g1 g2) ?_)
 (refine rr_ (an2 g1 g2) ?_)
 ((first | refine rwr_nil (hK _ ?_) | refine de_ (hK _ ?_)); clear hK K)
 (refine go_ an0 ?_)
 have hVB : ∃ VB : List (Nat × B), VB = [(2, .var 31 [.t false (.lit (.int .i64 k)), .t false (.lit (.string name)), .t false (.lit (.string other)), .t false (.lit (.string column)), .t false (.sl (rCs cols)), .t false (.lit (.int .i64 ty)), .t false (.lit (.int .i64 v.k)), .t false (.lit (.int .i64 v.n)), .t false (.lit (.string v.s)), .t false (.sl (rVs vals)), .t false (.sl (rS fields)), .t false (.lit (.int .i64 k1)), .t false (.lit (.int .i64 v1.k)), .t false (.lit (.int .i64 v1.n)), .t false (.lit (.string v1.s)), .t false (.lit (.string n1)), .t false (.sl (a1.map rE)), .t false (.lit (.bool all)), .t false (.lit (.int .i64 k2)), .t false (.lit (.int .i64 v2.k)), .t false (.lit (.int .i64 v2.n)), .t false (.lit (.string v2.s)), .t false (.lit (.string n2)), .t false (.sl (a2.map rE)), .t false (.lit (.string order)), .t false (.lit (.int .i64 limit))]), (3, .var 31 [.t false (.lit (.int .i64 k')), .t false (.lit (.string name')), .t false (.lit (.string other')), .t false (.lit (.string column')), .t false (.sl (rCs cols')), .t false (.lit (.int .i64 ty')), .t false (.lit (.int .i64 v'.k)), .t false (.lit (.int .i64 v'.n)), .t false (.lit (.string v'.s)), .t false (.sl (rVs vals')), .t false (.sl (rS fields')), .t false (.lit (.int .i64 k1')), .t false (.lit (.int .i64 v1'.k)), .t false (.lit (.int .i64 v1'.n)), .t false (.lit (.string v1'.s)), .t false (.lit (.string n1')), .t false (.sl (a1'.map rE)), .t false (.lit (.bool all')), .t false (.lit (.int .i64 k2')), .t false (.lit (.int .i64 v2'.k)), .t false (.lit (.int .i64 v2'.n)), .t false (.lit (.string v2'.s)), .t false (.lit (.string n2')), .t false (.sl (a2'.map rE)), .t false (.lit (.string order')), .t false (.lit (.int .i64 limit'))])] := ⟨_, rfl⟩
 obtain ⟨VB, hVB⟩ := hVB
 refine cw_loop (fun m s => ∃ i : Nat, i ≤ cols.length ∧ m = cols.length - i ∧ eqBy colEq (cols.drop i) (cols'.drop i) = eqBy colEq cols cols' ∧ s = ⟨[(5, litI .i64 i), (2, .one (.optr 2 0)), (3, .one (.optr 3 0))], [(2, .var 31 [.t false (.lit (.int .i64 k)), .t false (.lit (.string name)), .t false (.lit (.string other)), .t false (.lit (.string column)), .t false (.sl (rCs cols)), .t false (.lit (.int .i64 ty)), .t false (.lit (.int .i64 v.k)), .t false (.lit (.int .i64 v.n)), .t false (.lit (.string v.s)), .t false (.sl (rVs vals)), .t false (.sl (rS fields)), .t false (.lit (.int .i64 k1)), .t false (.lit (.int .i64 v1.k)), .t false (.lit (.int .i64 v1.n)), .t false (.lit (.string v1.s)), .t false (.lit (.string n1)), .t false (.sl (a1.map rE)), .t false (.lit (.bool all)), .t false (.lit (.int .i64 k2)), .t false (.lit (.int .i64 v2.k)), .t false (.lit (.int .i64 v2.n)), .t false (.lit (.string v2.s)), .t false (.lit (.string n2)), .t false (.sl (a2.map rE)), .t false (.lit (.string order)), .t false (.lit (.int .i64 limit))]), (3, .var 31 [.t false (.lit (.int .i64 k')), .t false (.lit (.string name')), .t false (.lit (.string other')), .t false (.lit (.string column')), .t false (.sl (rCs cols')), .t false (.lit (.int .i64 ty')), .t false (.lit (.int .i64 v'.k)), .t false (.lit (.int .i64 v'.n)), .t false (.lit (.string v'.s)), .t false (.sl (rVs vals')), .t false (.sl (rS fields')), .t false (.lit (.int .i64 k1')), .t false (.lit (.int .i64 v1'.k)), .t false (.lit (.int .i64 v1'.n)), .t false (.lit (.string v1'.s)), .t false (.lit (.string n1')), .t false (.sl (a1'.map rE)), .t false (.lit (.bool all')), .t false (.lit (.int .i64 k2')), .t false (.lit (.int .i64 v2'.k)), .t false (.lit (.int .i64 v2'.n)), .t false (.lit (.string v2'.s)), .t false (.lit (.string n2')), .t false (.sl (a2'.map rE)), .t false (.lit (.string order')), .t false (.lit (.int .i64 limit'))])]⟩) cols.length ⟨_, ⟨0, Nat.zero_le _, rfl, rfl, rfl⟩, le_⟩ ?_
 rintro m s ⟨i, hi, rfl, hfe, rfl⟩
 by_cases hlt : i < cols.length
 ·have f1 : decide ((i : Int) < (cols.length : Int)) = true := by simp; omega
  obtain ⟨x, hx⟩ : ∃ x, cols[i]? = some x := ⟨_, List.getElem?_eq_getElem hlt⟩
  obtain ⟨y, hy⟩ : ∃ y, cols'[i]? = some y := ⟨_, List.getElem?_eq_getElem (by omega)⟩
  have f2 : IntKind.i64.wrap ((i : Int) + 1) = ((i + 1 : Nat) : Int) := by rw [IntWalk.i64_in _ (by omega)]; rfl
  have hlt' : i < cols'.length := by omega
  have j1 : (i : Int) < (cols.length : Int) := by omega
  have j2 : (i : Int) < (cols'.length : Int) := by omega
  have j3 : (0 : Int) ≤ (i : Int) := by omega
  rw [eqBy_drop hx hy] at hfe
  have hp : (!((x.name.toList == y.name.toList) && (x.ty == y.ty))) = !(colEq x y) := rfl
  generalize colEq x y = bb at *
  (refine go_ f1 ?_)
  (refine dr_ 0 an0 fun K hK => ?_)
  (refine dd_ (an2 (an7 hx hy hlt hlt' j1 j2 j3) hp) ?_)
  (refine de_ (hK _ ?_); clear hK K)
  cases bb
  ·rw [← hfe, Bool.false_and]
   try rw [Bool.false_and]
   (refine go_ an0 ?_)
   (first | exact oq_ an0 | refine ou_ an0 ?_)
  ·rw [Bool.true_and] at hfe
   (refine go_ f2 ?_)
   exact ⟨cols.length - (i + 1), by omega, _, ⟨i + 1, by omega, rfl, hfe, rfl⟩, le_⟩
 ·have f1 : decide ((i : Int) < (cols.length : Int)) = false := by simp; omega
  rw [List.drop_eq_nil_of_le (by omega), List.drop_eq_nil_of_le (by omega), eqBy] at hfe
  rw [← hfe]
  try rw [Bool.true_and]
  (refine go_ f1 ?_)
  refine cw_loop (fun m s => ∃ i : Nat, i ≤ fields.length ∧ m = fields.length - i ∧ eqBy strEq (fields.drop i) (fields'.drop i) = eqBy strEq fields fields' ∧ s = ⟨[(6, litI .i64 i), (2, .one (.optr 2 0)), (3, .one (.optr 3 0))], [(2, .var 31 [.t false (.lit (.int .i64 k)), .t false (.lit (.string name)), .t false (.lit (.string other)), .t false (.lit (.string column)), .t false (.sl (rCs cols)), .t false (.lit (.int .i64 ty)), .t false (.lit (.int .i64 v.k)), .t false (.lit (.int .i64 v.n)), .t false (.lit (.string v.s)), .t false (.sl (rVs vals)), .t false (.sl (rS fields)), .t false (.lit (.int .i64 k1)), .t false (.lit (.int .i64 v1.k)), .t false (.lit (.int .i64 v1.n)), .t false (.lit (.string v1.s)), .t false (.lit (.string n1)), .t false (.sl (a1.map rE)), .t false (.lit (.bool all)), .t false (.lit (.int .i64 k2)), .t false (.lit (.int .i64 v2.k)), .t false (.lit (.int .i64 v2.n)), .t false (.lit (.string v2.s)), .t false (.lit (.string n2)), .t false (.sl (a2.map rE)), .t false (.lit (.string order)), .t false (.lit (.int .i64 limit))]), (3, .var 31 [.t false (.lit (.int .i64 k')), .t false (.lit (.string name')), .t false (.lit (.string other')), .t false (.lit (.string column')), .t false (.sl (rCs cols')), .t false (.lit (.int .i64 ty')), .t false (.lit (.int .i64 v'.k)), .t false (.lit (.int .i64 v'.n)), .t false (.lit (.string v'.s)), .t false (.sl (rVs vals')), .t false (.sl (rS fields')), .t false (.lit (.int .i64 k1')), .t false (.lit (.int .i64 v1'.k)), .t false (.lit (.int .i64 v1'.n)), .t false (.lit (.string v1'.s)), .t false (.lit (.string n1')), .t false (.sl (a1'.map rE)), .t false (.lit (.bool all')), .t false (.lit (.int .i64 k2')), .t false (.lit (.int .i64 v2'.k)), .t false (.lit (.int .i64 v2'.n)), .t false (.lit (.string v2'.s)), .t false (.lit (.string n2')), .t false (.sl (a2'.map rE)), .t false (.lit (.string order')), .t false (.lit (.int .i64 limit'))])]⟩) fields.length ⟨_, ⟨0, Nat.zero_le _, rfl, rfl, rfl⟩, le_⟩ ?_
  rintro m s ⟨i, hi, rfl, hfe, rfl⟩
  by_cases hlt : i < fields.length
  ·have f1 : decide ((i : Int) < (fields.length : Int)) = true := by simp; omega
   obtain ⟨x, hx⟩ : ∃ x, fields[i]? = some x := ⟨_, List.getElem?_eq_getElem hlt⟩
   obtain ⟨y, hy⟩ : ∃ y, fields'[i]? = some y := ⟨_, List.getElem?_eq_getElem (by omega)⟩
   have f2 : IntKind.i64.wrap ((i : Int) + 1) = ((i + 1 : Nat) : Int) := by rw [IntWalk.i64_in _ (by omega)]; rfl
   have hlt' : i < fields'.length := by omega
   have j1 : (i : Int) < (fields.length : Int) := by omega
   have j2 : (i : Int) < (fields'.length : Int) := by omega
   have j3 : (0 : Int) ≤ (i : Int) := by omega
   rw [eqBy_drop hx hy] at hfe
   have hp : (!(x.toList == y.toList)) = !(strEq x y) := rfl
   generalize strEq x y = bb at *
   (refine go_ f1 ?_)
   (refine dr_ 0 an0 fun K hK => ?_)
   (refine dd_ (an2 (an7 hx hy hlt hlt' j1 j2 j3) hp) ?_)
   (refine de_ (hK _ ?_); clear hK K)
   cases bb
   ·rw [← hfe, Bool.false_and]
    try rw [Bool.false_and]
    (refine go_ an0 ?_)
    (first | exact oq_ an0 | refine ou_ an0 ?_)
   ·rw [Bool.true_and] at hfe
    (refine go_ f2 ?_)
    exact ⟨fields.length - (i + 1), by omega, _, ⟨i + 1, by omega, rfl, hfe, rfl⟩, le_⟩
  ·have f1 : decide ((i : Int) < (fields.length : Int)) = false := by simp; omega
   rw [List.drop_eq_nil_of_le (by omega), List.drop_eq_nil_of_le (by omega), eqBy] at hfe
   rw [← hfe]
   try rw [Bool.true_and]
   (refine go_ f1 ?_)
   (first | exact oq_ an0 | refine ou_ an0 ?_)
end Go.Proofs.YtjdgejfhnfnmgaaGreatDoor.Ax
namespace Go.Proofs.YtjdgejfhnfnmgaaGreatDoor.Ax
open Go.RowKit
theorem same_refl (v : Vl) : v.same v = true := by
 obtain ⟨k, n, s⟩ := v
 unfold Vl.same
 simp
theorem sameE_refl (e : Ex) : sameE e e = true := by
 induction e using Ex.ind with
 | h k v nm ar ih =>
  rw [sameE]
  have key : ∀ l : List Ex, (∀ x ∈ l, sameE x x = true) → sameEs l l = true := by
   intro l
   induction l with
   | nil => intro _; rw [sameEs]
   | cons x l ih2 =>
    intro h
    rw [sameEs, h x List.mem_cons_self, ih2 fun y hy => h y (List.mem_cons_of_mem _ hy)]
    rfl
  rw [same_refl, key ar ih]
  simp
theorem eqBy_refl {α : Type} {p : α → α → Bool} (h : ∀ x, p x x = true) : ∀ l : List α, eqBy p l l = true
 | [] => rfl
 | x :: l => by rw [eqBy, h x, eqBy_refl h l]; rfl
theorem sameC_refl (c : Cm) : sameC c c = true := by
 unfold sameC
 rw [same_refl, sameE_refl, sameE_refl, eqBy_refl (fun x => by unfold colEq; simp), eqBy_refl (fun x => by unfold strEq; simp), eqBy_refl same_refl]
 simp
set_option linter.unusedSimpArgs false
attribute [local go_sem] ty3 ty4 ty9 ty5 ty26 ty24 ty29 ty27 ty54 ty22 ty25 ty31 ty32
set_option linter.unusedVariables false
set_option maxRecDepth 100000
set_option maxHeartbeats 16000000 in
theorem shows_sp (c d : Cm) (hc : goodCm c) (hd : goodCm d) : Sp Tryz.prog 3 [.agg (rCm c), .agg (rCm d)] (.one (.t true (.lit (.bool true)))) [] := by
 have hB := showbegun_sp
 have hK := rcheck_csp c hc
 have hS1 := same_sp c d hc.cols hc.vals hc.fields hc.ex hc.wh
 have hS2 := same_sp c c hc.cols hc.vals hc.fields hc.ex hc.wh
 have hS3 := samecmd_sp c d hc.cols hc.vals hc.fields hc.ex hc.wh
 rw [sameC_refl] at hS2
 by_cases h : checkP c = 0
 ·obtain ⟨t, h1, h2⟩ := both_sp c hc h
  rw [h] at hK
  have e1 : (t.toList == t.toList) = true := beq_self_eq_true _
  generalize hsc : sameC c d = sc at *
  have e2 : (sc == sc) = true := beq_self_eq_true _
  clear hc hd
  obtain ⟨k, name, other, column, cols, ty, v, vals, fields, ⟨k1, v1, n1, a1⟩, all, ⟨k2, v2, n2, a2⟩, order, limit⟩ := c
  obtain ⟨k', name', other', column', cols', ty', v', vals', fields', ⟨k1', v1', n1', a1'⟩, all', ⟨k2', v2', n2', a2'⟩, order', limit'⟩ := d
  rw [rCm_mk] at h1 h2 hK hS1 hS2 hS3 ⊢
  rw [rCm_mk] at hS1 hS3 ⊢
  (refine en_ Tryz.func3 Tryz.ntmps3 Tryz.results3 fun X hX => ?_)
  refine au_ (an2 e1 e2) ?_
  exact oq_ an0
 ·have h1 := show_bad c hc h
  have e3 : (checkP c == 0) = false := by simp; exact h
  generalize checkP c = w at *
  have e4 : (w == w) = true := beq_self_eq_true _
  have e1 : ((⟨#[]⟩ : ByteArray).toList == (⟨#[]⟩ : ByteArray).toList) = true := beq_self_eq_true _
  generalize hsc : sameC c d = sc at *
  have e2 : (sc == sc) = true := beq_self_eq_true _
  clear hc hd
  obtain ⟨k, name, other, column, cols, ty, v, vals, fields, ⟨k1, v1, n1, a1⟩, all, ⟨k2, v2, n2, a2⟩, order, limit⟩ := c
  obtain ⟨k', name', other', column', cols', ty', v', vals', fields', ⟨k1', v1', n1', a1'⟩, all', ⟨k2', v2', n2', a2'⟩, order', limit'⟩ := d
  rw [rCm_mk] at h1 hK hS1 hS2 hS3 ⊢
  rw [rCm_mk] at hS1 hS3 ⊢
  (refine en_ Tryz.func3 Tryz.ntmps3 Tryz.results3 fun X hX => ?_)
  refine au_ (an4 e1 e2 e3 e4) ?_
  exact oq_ an0
end Go.Proofs.YtjdgejfhnfnmgaaGreatDoor.Ax
namespace Go.Proofs.YtjdgejfhnfnmgaaGreatDoor.Ax
open Go.RowKit
theorem opensStrsE (N : Nat) : OpensE Tryz.prog N 1 (fun l => [.sl (rS l)]) 26 fun l => l.length * 16 ≤ 140737488351232 ∧ l.length ≤ maxLen ∧ ∀ x ∈ l, x.size ≤ 140737488351232 :=
 oeSlice Tryz.underlying26 (by kernel_rfl) (by kernel_rfl) (by decide) (fun M _ => opensStrE M) (by kernel_rfl)
theorem opensBoolE (N : Nat) : OpensE Tryz.prog N 1 (fun b => [.lit (.bool b)]) 4 fun _ => True := oeBool Tryz.underlying4 (by kernel_rfl)
theorem rCm_len (c : Cm) : (rCm c).length = 26 := by
 unfold rCm
 simp only [List.length_append, List.length_cons, List.length_nil, rE_len]
theorem size_max {n : Nat} (h : n ≤ 140737488351232) : n ≤ maxLen := by unfold maxLen; omega
theorem opensCmE (N : Nat) : OpensE Tryz.prog N 26 rCm 31 goodCm :=
 oeTo (oeStruct (f := fun x : Int × ByteArray × ByteArray × ByteArray × List Col × Int × Vl × List Vl × List ByteArray × Ex × Bool × Ex × ByteArray × Int => [.lit (.int .i64 x.1)] ++ ([.lit (.string x.2.1)] ++ ([.lit (.string x.2.2.1)] ++ ([.lit (.string x.2.2.2.1)] ++ ([.sl (rCs x.2.2.2.2.1)] ++ ([.lit (.int .i64 x.2.2.2.2.2.1)] ++ (rV1 x.2.2.2.2.2.2.1 ++ ([.sl (rVs x.2.2.2.2.2.2.2.1)] ++ ([.sl (rS x.2.2.2.2.2.2.2.2.1)] ++ (rE x.2.2.2.2.2.2.2.2.2.1 ++ ([.lit (.bool x.2.2.2.2.2.2.2.2.2.2.1)] ++ (rE x.2.2.2.2.2.2.2.2.2.2.2.1 ++ ([.lit (.string x.2.2.2.2.2.2.2.2.2.2.2.2.1)] ++ [.lit (.int .i64 x.2.2.2.2.2.2.2.2.2.2.2.2.2)]))))))))))))) (sz := 1 + (1 + (1 + (1 + (1 + (1 + (3 + (1 + (1 + (6 + (1 + (6 + (1 + 1)))))))))))))
   Tryz.underlying31 (ts := [3, 9, 9, 9, 22, 3, 24, 25, 26, 29, 4, 29, 9, 3]) rfl (by kernel_rfl) (by kernel_rfl) (by kernel_rfl) (fun x => by simp only [List.length_append, List.length_cons, List.length_nil, rE_len])
   (fun M _ => oeCons (opensIntE M) (oeCons (opensStrE M) (oeCons (opensStrE M) (oeCons (opensStrE M) (oeCons (opensColsE M) (oeCons (opensIntE M) (oeCons (opensVlE M) (oeCons (opensVlsE M) (oeCons (opensStrsE M) (oeCons (opensExE M) (oeCons (opensBoolE M) (oeCons (opensExE M) (oeCons (opensStrE M) (oeOne (opensIntE M))))))))))))))))
  (fun x => (⟨x.1, x.2.1, x.2.2.1, x.2.2.2.1, x.2.2.2.2.1, x.2.2.2.2.2.1, x.2.2.2.2.2.2.1, x.2.2.2.2.2.2.2.1, x.2.2.2.2.2.2.2.2.1, x.2.2.2.2.2.2.2.2.2.1, x.2.2.2.2.2.2.2.2.2.2.1, x.2.2.2.2.2.2.2.2.2.2.2.1, x.2.2.2.2.2.2.2.2.2.2.2.2.1, x.2.2.2.2.2.2.2.2.2.2.2.2.2⟩ : Cm)) (fun _ => rfl) (fun _ => by rw [rCm_len])
  (fun x h => by
   obtain ⟨_, h2, h3, h4, h5, _, h7, h8, h9, h10, _, h12, h13, _⟩ := h
   exact ⟨size_max h2, size_max h3, size_max h4, h5.2.1, fun x hx => size_max (h5.2.2 x hx).1, size_max h7.2.2, h8.2.1, fun x hx => size_max (h8.2.2 x hx).2.2, h9.2.1, fun x hx => size_max (h9.2.2 x hx), h10, h12, size_max h13⟩)
end Go.Proofs.YtjdgejfhnfnmgaaGreatDoor.Ax
namespace Go.Proofs.YtjdgejfhnfnmgaaGreatDoor.Ax
open Go.RowKit
abbrev laidL : List (String × DataW Unit) := [("math/bits.deBruijn32tab", Rows.laid_math_bits_deBruijn32tab), ("math/bits.deBruijn64tab", Rows.laid_math_bits_deBruijn64tab), ("internal/strconv.uint64pow10", Rows.laid_internal_strconv_uint64pow10)]
theorem tab_data : (Rows.laid_internal_strconv_uint64pow10 : DataW Unit) = Lib.tabData .u64 Lib.pow10Tab := by rfl
theorem gw_of_laid {W : World} (h : laidMetH Tryz.prog laidL W) : GW W := by
 rw [MakeChecks.laidMetH_plain _ _ _ (by kernel_rfl)] at h
 have h3 := h.tail.tail
 rw [show (Rows.laid_internal_strconv_uint64pow10 : DataW Unit) = Lib.tabData .u64 Lib.pow10Tab from tab_data] at h3
 have hT : Lib.TabIs Tryz.prog W "internal/strconv.uint64pow10" .u64 Lib.pow10Tab :=
  Lib.tabIs_of_head (g := 1) (t := 161) (e := 149) (n := 20) (by kernel_rfl) (by kernel_rfl) (by kernel_rfl) (by kernel_rfl) (by kernel_rfl) (by kernel_rfl) h3
 have hlt : ∀ {name : String} {g : Nat} {cs : Array Value}, Tryz.prog.globalNamed name = some g → W.var? Tryz.prog name = some cs → g < W.heap.size := fun {name g cs} hg hv => by
  unfold World.var? at hv
  rw [hg] at hv
  simp only [Option.bind_some] at hv
  split at hv
  ·rename_i h
   exact (Array.getElem?_eq_some_iff.1 h).1
  ·cases hv
 have g1 := hlt (g := 1) (by kernel_rfl) hT
 exact ⟨by unfold NG; omega, hT⟩
end Go.Proofs.YtjdgejfhnfnmgaaGreatDoor.Ax
