/-  -/
import Derived.Test.YtjdgejfhnfnmgaaGreatDoorAxW
import Derived.Test.YtjdgejfhnfnmgaaGreatDoorM23
import Derived.Test.YtjdgejfhnfnmgaaGreatDoorM26
import Derived.Test.YtjdgejfhnfnmgaaGreatDoorM18
namespace Go.Proofs.YtjdgejfhnfnmgaaGreatDoor.Ax
open Go.RowKit
set_option linter.unusedSimpArgs false
attribute [local go_sem] ty3 ty4 ty9 ty5 ty24 ty26
set_option linter.unusedVariables false
set_option maxRecDepth 100000
def valT (v : Vl) : ByteArray := if v.k = 1 then digS v.n else if v.k = 2 then (⟨#[39]⟩ ++ v.s) ++ ⟨#[39]⟩ else if v.k = 3 then boolS (v.n == 1) else ⟨#[110, 117, 108, 108]⟩
theorem rvaltext_sp (v : Vl) (hv : v.chk = 0) : Sp Tryz.prog 32 [aV1 v] (.one (.t true (.lit (.string (valT v))))) [] := by
 rcases Vl.right hv with rfl | ⟨n, rfl, h0, h1⟩ | ⟨s, rfl, hs, _⟩ | ⟨n, rfl, h0, h1⟩
 ·have e1 : ((0 : Int) == 1) = false := rfl
  have e2 : ((0 : Int) == 2) = false := rfl
  have e3 : ((0 : Int) == 3) = false := rfl
  (refine en_ Tryz.func32 Tryz.ntmps32 Tryz.results32 fun X hX => ?_)
  (refine go_ (an3 e1 e2 e3) ?_)
  (first | exact oq_ an0 | refine ou_ an0 ?_)
  all_goals rfl
 ·have hD := digits_sp n (by omega) (by omega)
  have e1 : ((1 : Int) == 1) = true := rfl
  have hT : valT ⟨1, n, .empty⟩ = digS n := rfl
  rw [hT]
  generalize digS n = t at *
  (refine en_ Tryz.func32 Tryz.ntmps32 Tryz.results32 fun X hX => ?_)
  (refine go_ e1 ?_)
  (refine rn_ 8 an0 fun K hK => ?_; refine rr_ an0 ?_)
  (refine ca_ an0 ?_ (hsp := hD); refine rr_ an0 ?_)
  ((first | refine rwr_nil (hK _ ?_) | refine de_ (hK _ ?_)); clear hK K)
  (refine go_ an0 ?_)
  (first | exact oq_ an0 | refine ou_ an0 ?_)
 ·have e1 : ((2 : Int) == 1) = false := rfl
  have e2 : ((2 : Int) == 2) = true := rfl
  have f1 : 1 + s.size ≤ maxLen := by unfold maxLen; omega
  have f2 : 1 + s.size + 1 ≤ maxLen := by unfold maxLen; omega
  (refine en_ Tryz.func32 Tryz.ntmps32 Tryz.results32 fun X hX => ?_)
  (refine go_ (an4 e1 e2 f1 f2) ?_)
  (first | exact oq_ an0 | refine ou_ an0 ?_)
  all_goals rfl
 ·have e1 : ((3 : Int) == 1) = false := rfl
  have e2 : ((3 : Int) == 2) = false := rfl
  have e3 : ((3 : Int) == 3) = true := rfl
  have hT : valT ⟨3, n, .empty⟩ = boolS (n == 1) := rfl
  rw [hT]
  cases e4 : (n == 1)
  all_goals
   (refine en_ Tryz.func32 Tryz.ntmps32 Tryz.results32 fun X hX => ?_)
   (refine go_ (an4 e1 e2 e3 e4) ?_)
   (first | exact oq_ an0 | refine ou_ an0 ?_)
   all_goals rfl
theorem sval_sp (v : Vl) (hv : v.chk = 0) : Sp Tryz.prog 103 [aV1 v] (.one (.t true (.lit (.string (valT v))))) [] := by
 rcases Vl.right hv with rfl | ⟨n, rfl, h0, h1⟩ | ⟨s, rfl, hs, _⟩ | ⟨n, rfl, h0, h1⟩
 ·have e1 : ((0 : Int) == 1) = false := rfl
  have e2 : ((0 : Int) == 2) = false := rfl
  have e3 : ((0 : Int) == 3) = false := rfl
  (refine en_ Tryz.func103 Tryz.ntmps103 Tryz.results103 fun X hX => ?_)
  (refine go_ (an3 e1 e2 e3) ?_)
  (first | exact oq_ an0 | refine ou_ an0 ?_)
  all_goals rfl
 ·have hD := itoa_sp n (by omega) (by omega)
  have e1 : ((1 : Int) == 1) = true := rfl
  have hT : valT ⟨1, n, .empty⟩ = digS n := rfl
  rw [hT]
  generalize digS n = t at *
  (refine en_ Tryz.func103 Tryz.ntmps103 Tryz.results103 fun X hX => ?_)
  (refine go_ e1 ?_)
  (refine rn_ 8 an0 fun K hK => ?_; refine rr_ an0 ?_)
  (refine ca_ an0 ?_ (hsp := hD); refine rr_ an0 ?_)
  ((first | refine rwr_nil (hK _ ?_) | refine de_ (hK _ ?_)); clear hK K)
  (refine go_ an0 ?_)
  (first | exact oq_ an0 | refine ou_ an0 ?_)
 ·have e1 : ((2 : Int) == 1) = false := rfl
  have e2 : ((2 : Int) == 2) = true := rfl
  have f1 : 1 + s.size ≤ maxLen := by unfold maxLen; omega
  have f2 : 1 + s.size + 1 ≤ maxLen := by unfold maxLen; omega
  (refine en_ Tryz.func103 Tryz.ntmps103 Tryz.results103 fun X hX => ?_)
  (refine go_ (an4 e1 e2 f1 f2) ?_)
  (first | exact oq_ an0 | refine ou_ an0 ?_)
  all_goals rfl
 ·have e1 : ((3 : Int) == 1) = false := rfl
  have e2 : ((3 : Int) == 2) = false := rfl
  have e3 : ((3 : Int) == 3) = true := rfl
  have hF := fmtbool_sp (n == 1)
  have hT : valT ⟨3, n, .empty⟩ = boolS (n == 1) := rfl
  rw [hT]
  generalize hnb : (n == 1) = b at *
  generalize boolS b = t at *
  (refine en_ Tryz.func103 Tryz.ntmps103 Tryz.results103 fun X hX => ?_)
  (refine go_ (an3 e1 e2 e3) ?_)
  (refine rn_ 8 hnb fun K hK => ?_; refine rr_ hnb ?_)
  (refine ca_ hnb ?_ (hsp := hF); refine rr_ hnb ?_)
  ((first | refine rwr_nil (hK _ ?_) | refine de_ (hK _ ?_)); clear hK K)
  (refine go_ an0 ?_)
  (first | exact oq_ an0 | refine ou_ an0 ?_)
def kindT (k : Int) : ByteArray := if k = 1 then ⟨#[105, 110, 116]⟩ else if k = 2 then ⟨#[116, 101, 120, 116]⟩ else ⟨#[98, 111, 111, 108]⟩
theorem skind_sp (k : Int) (h1 : 1 ≤ k) (h3 : k ≤ 3) : Sp Tryz.prog 102 [.one (.lit (.int .i64 k))] (.one (.t true (.lit (.string (kindT k))))) [] := by
 obtain rfl | rfl | rfl : k = 1 ∨ k = 2 ∨ k = 3 := by omega
 ·have e1 : IntKind.i64.wrap ((1 : Int) - 1) = ((0 : Nat) : Int) := rfl
  (refine en_ Tryz.func102 Tryz.ntmps102 Tryz.results102 fun X hX => ?_)
  (refine go_ e1 ?_)
  (first | exact oq_ an0 | refine ou_ an0 ?_)
  all_goals rfl
 ·have e1 : IntKind.i64.wrap ((2 : Int) - 1) = ((1 : Nat) : Int) := rfl
  (refine en_ Tryz.func102 Tryz.ntmps102 Tryz.results102 fun X hX => ?_)
  (refine go_ e1 ?_)
  (first | exact oq_ an0 | refine ou_ an0 ?_)
  all_goals rfl
 ·have e1 : IntKind.i64.wrap ((3 : Int) - 1) = ((2 : Nat) : Int) := rfl
  (refine en_ Tryz.func102 Tryz.ntmps102 Tryz.results102 fun X hX => ?_)
  (refine go_ e1 ?_)
  (first | exact oq_ an0 | refine ou_ an0 ?_)
  all_goals rfl
end Go.Proofs.YtjdgejfhnfnmgaaGreatDoor.Ax
namespace Go.Proofs.YtjdgejfhnfnmgaaGreatDoor.Ax
open Go.RowKit
set_option linter.unusedSimpArgs false
attribute [local go_sem] ty3 ty4 ty9 ty5 ty24 ty26 ty27 ty29
set_option linter.unusedVariables false
set_option maxRecDepth 100000
def gT : Gx → ByteArray
 | .val v => valT v
 | .col nm => nm
 | .un k x => if k = 3 then ⟨#[110, 111, 116, 32]⟩ ++ gT x else (⟨#[40]⟩ ++ gT x) ++ ⟨#[32, 105, 115, 32, 110, 117, 108, 108, 41]⟩
 | .bin k x y => (((((⟨#[40]⟩ ++ gT x) ++ ⟨#[32]⟩) ++ signT k) ++ ⟨#[32]⟩) ++ gT y) ++ ⟨#[41]⟩
theorem ex_mk (x : Ex) : ∃ k v nm ar, x = .mk k v nm ar := by obtain ⟨k, v, nm, ar⟩ := x; exact ⟨k, v, nm, ar, rfl⟩
theorem sign_row (k : Int) (j : Nat) (h : k - 5 = (j : Int)) (hj : j < 7) : ([[T.lit (.string ⟨#[97, 110, 100]⟩)], [T.lit (.string ⟨#[111, 114]⟩)], [T.lit (.string ⟨#[43]⟩)], [T.lit (.string ⟨#[45]⟩)], [T.lit (.string ⟨#[124, 124]⟩)], [T.lit (.string ⟨#[60]⟩)], [T.lit (.string ⟨#[61]⟩)]] : List (List T))[j]? = some [T.lit (.string (signT k))] := by
 unfold signT
 rw [h]
 obtain rfl | rfl | rfl | rfl | rfl | rfl | rfl : j = 0 ∨ j = 1 ∨ j = 2 ∨ j = 3 ∨ j = 4 ∨ j = 5 ∨ j = 6 := by omega
 all_goals rfl
set_option maxHeartbeats 16000000 in
theorem sexpr_sp (g : Gx) : g.ok → (gT g).size ≤ maxLen → Sp Tryz.prog 106 [.agg (rE g.ex)] (.one (.t true (.lit (.string (gT g))))) [] := by
 induction g with
 | val v =>
  intro hg hs
  have hS := sval_sp v hg
  rw [rE_val, gT]
  have e1 : ((1 : Int) == 1) = true := rfl
  generalize valT v = t at *
  (refine en_ Tryz.func106 Tryz.ntmps106 Tryz.results106 fun X hX => ?_)
  (refine go_ e1 ?_)
  (refine rn_ 8 an0 fun K hK => ?_; refine rr_ an0 ?_)
  (refine ca_ an0 ?_ (hsp := hS); refine rr_ an0 ?_)
  ((first | refine rwr_nil (hK _ ?_) | refine de_ (hK _ ?_)); clear hK K)
  (refine go_ an0 ?_)
  (first | exact oq_ an0 | refine ou_ an0 ?_)
 | col nm =>
  intro hg hs
  rw [rE_col, gT]
  have e1 : ((2 : Int) == 1) = false := rfl
  have e2 : ((2 : Int) == 2) = true := rfl
  (refine en_ Tryz.func106 Tryz.ntmps106 Tryz.results106 fun X hX => ?_)
  (refine go_ (an2 e1 e2) ?_)
  (first | exact oq_ an0 | refine ou_ an0 ?_)
 | un k x ih =>
  intro hg hs
  obtain ⟨hk, hx⟩ := hg
  have ih := ih hx
  rw [rE_un]
  rw [gT] at hs ⊢
  obtain ⟨kx, vx, nx, ax, hxe⟩ := ex_mk x.ex
  rw [hxe, rE_mk] at ih ⊢
  generalize gT x = t at *
  rcases hk with rfl | rfl
  ·rw [if_pos rfl] at hs ⊢
   have hz : ((⟨#[110, 111, 116, 32]⟩ : ByteArray) ++ t).size = 4 + t.size := by rw [ByteArray.size_append]; rfl
   rw [hz] at hs
   have ih := ih (by omega)
   have e1 : ((3 : Int) == 1) = false := rfl
   have e2 : ((3 : Int) == 2) = false := rfl
   have e3 : ((3 : Int) == 3) = true := rfl
   (refine en_ Tryz.func106 Tryz.ntmps106 Tryz.results106 fun X hX => ?_)
   (refine go_ (an3 e1 e2 e3) ?_)
   (refine rn_ 8 hs fun K hK => ?_; refine rr_ hs ?_)
   (refine ca_ hs ?_ (hsp := ih); refine rr_ hs ?_)
   (refine rr_ hs ?_)
   ((first | refine rwr_nil (hK _ ?_) | refine de_ (hK _ ?_)); clear hK K)
   (refine go_ an0 ?_)
   (first | exact oq_ an0 | refine ou_ an0 ?_)
  ·rw [if_neg (by decide)] at hs ⊢
   have hz : (((⟨#[40]⟩ : ByteArray) ++ t) ++ (⟨#[32, 105, 115, 32, 110, 117, 108, 108, 41]⟩ : ByteArray)).size = 1 + t.size + 9 := by rw [ByteArray.size_append, ByteArray.size_append]; rfl
   rw [hz] at hs
   have f1 : 1 + t.size ≤ maxLen := by omega
   have ih := ih (by omega)
   have e1 : ((4 : Int) == 1) = false := rfl
   have e2 : ((4 : Int) == 2) = false := rfl
   have e3 : ((4 : Int) == 3) = false := rfl
   have e4 : ((4 : Int) == 4) = true := rfl
   (refine en_ Tryz.func106 Tryz.ntmps106 Tryz.results106 fun X hX => ?_)
   (refine go_ (an4 e1 e2 e3 e4) ?_)
   (refine rn_ 8 (an2 f1 hs) fun K hK => ?_; refine rr_ (an2 f1 hs) ?_)
   (refine ca_ (an2 f1 hs) ?_ (hsp := ih); refine rr_ (an2 f1 hs) ?_)
   (refine rr_ (an2 f1 hs) ?_)
   ((first | refine rwr_nil (hK _ ?_) | refine de_ (hK _ ?_)); clear hK K)
   (refine go_ an0 ?_)
   (first | exact oq_ an0 | refine ou_ an0 ?_)
 | bin k x y ih1 ih2 =>
  intro hg hs
  obtain ⟨hk, hx, hy⟩ := hg
  have ih1 := ih1 hx
  have ih2 := ih2 hy
  rw [rE_bin]
  rw [gT] at hs ⊢
  obtain ⟨kx, vx, nx, ax, hxe⟩ := ex_mk x.ex
  obtain ⟨ky, vy, ny, ay, hye⟩ := ex_mk y.ex
  rw [hxe, rE_mk] at ih1
  rw [hye, rE_mk] at ih2
  rw [hxe, hye, rE_mk, rE_mk]
  obtain ⟨j, hj⟩ : ∃ j : Nat, k - 5 = (j : Int) := ⟨(k - 5).toNat, by omega⟩
  have hj7 : j < 7 := by omega
  have hrow := sign_row k j hj hj7
  generalize gT x = s1 at *
  generalize gT y = s2 at *
  generalize signT k = sg at *
  have hz : (((((((⟨#[40]⟩ : ByteArray) ++ s1) ++ (⟨#[32]⟩ : ByteArray)) ++ sg) ++ (⟨#[32]⟩ : ByteArray)) ++ s2) ++ (⟨#[41]⟩ : ByteArray)).size = 1 + s1.size + 1 + sg.size + 1 + s2.size + 1 := by rw [ByteArray.size_append, ByteArray.size_append, ByteArray.size_append, ByteArray.size_append, ByteArray.size_append, ByteArray.size_append]; rfl
  rw [hz] at hs
  have ih1 := ih1 (by omega)
  have ih2 := ih2 (by omega)
  have f1 : 1 + s1.size ≤ maxLen := by omega
  have f2 : 1 + s1.size + 1 ≤ maxLen := by omega
  have f3 : 1 + s1.size + 1 + sg.size ≤ maxLen := by omega
  have f4 : 1 + s1.size + 1 + sg.size + 1 ≤ maxLen := by omega
  have f5 : 1 + s1.size + 1 + sg.size + 1 + s2.size ≤ maxLen := by omega
  have e1 : (k == 1) = false := by simp; omega
  have e2 : (k == 2) = false := by simp; omega
  have e3 : (k == 3) = false := by simp; omega
  have e4 : (k == 4) = false := by simp; omega
  have e5 : IntKind.i64.wrap (k - 5) = (j : Int) := by rw [IntWalk.i64_in _ (by omega)]; exact hj
  have j2 : (j : Int) < 7 := by omega
  have j3 : (0 : Int) ≤ (j : Int) := by omega
  (refine en_ Tryz.func106 Tryz.ntmps106 Tryz.results106 fun X hX => ?_)
  (refine go_ (an2 (an7 e1 e2 e3 e4 e5 hrow hj7) (an2 j2 j3)) ?_)
  (refine dr_ 0 an0 fun K hK => ?_)
  (refine dd_ (an6 f1 f2 f3 f4 f5 hs) ?_)
  (first | refine dcf_ 0 (an6 f1 f2 f3 f4 f5 hs) ?_ (hsp := ih1) | refine dc_ 0 (an6 f1 f2 f3 f4 f5 hs) ?_ (hsp := ih1))
  (refine dd_ (an6 f1 f2 f3 f4 f5 hs) ?_)
  (first | refine dcf_ 0 (an6 f1 f2 f3 f4 f5 hs) ?_ (hsp := ih2) | refine dc_ 0 (an6 f1 f2 f3 f4 f5 hs) ?_ (hsp := ih2))
  (refine dd_ (an6 f1 f2 f3 f4 f5 hs) ?_)
  (refine de_ (hK _ ?_); clear hK K)
  (refine go_ an0 ?_)
  (first | exact oq_ an0 | refine ou_ an0 ?_)
end Go.Proofs.YtjdgejfhnfnmgaaGreatDoor.Ax
namespace Go.Proofs.YtjdgejfhnfnmgaaGreatDoor.Ax
open Go.RowKit
set_option linter.unusedSimpArgs false
attribute [local go_sem] ty3 ty4 ty9 ty5 ty24 ty26 ty27 ty29
set_option linter.unusedVariables false
set_option maxRecDepth 100000
set_option maxHeartbeats 16000000 in
theorem rexpr_sp (g : Gx) : g.ok → (gT g).size ≤ maxLen → Sp Tryz.prog 30 [.agg (rE g.ex)] (.one (.t true (.lit (.string (gT g))))) [] := by
 induction g with
 | val v =>
  intro hg hs
  have hS := rvaltext_sp v hg
  rw [rE_val, gT]
  have e1 : ((1 : Int) == 1) = true := rfl
  generalize valT v = t at *
  (refine en_ Tryz.func30 Tryz.ntmps30 Tryz.results30 fun X hX => ?_)
  (refine go_ e1 ?_)
  (refine rn_ 8 an0 fun K hK => ?_; refine rr_ an0 ?_)
  (refine ca_ an0 ?_ (hsp := hS); refine rr_ an0 ?_)
  ((first | refine rwr_nil (hK _ ?_) | refine de_ (hK _ ?_)); clear hK K)
  (refine go_ an0 ?_)
  (first | exact oq_ an0 | refine ou_ an0 ?_)
 | col nm =>
  intro hg hs
  rw [rE_col, gT]
  have e1 : ((2 : Int) == 1) = false := rfl
  have e2 : ((2 : Int) == 2) = true := rfl
  (refine en_ Tryz.func30 Tryz.ntmps30 Tryz.results30 fun X hX => ?_)
  (refine go_ (an2 e1 e2) ?_)
  (first | exact oq_ an0 | refine ou_ an0 ?_)
 | un k x ih =>
  intro hg hs
  obtain ⟨hk, hx⟩ := hg
  have ih := ih hx
  rw [rE_un]
  rw [gT] at hs ⊢
  obtain ⟨kx, vx, nx, ax, hxe⟩ := ex_mk x.ex
  rw [hxe, rE_mk] at ih ⊢
  generalize gT x = t at *
  rcases hk with rfl | rfl
  ·rw [if_pos rfl] at hs ⊢
   have hz : ((⟨#[110, 111, 116, 32]⟩ : ByteArray) ++ t).size = 4 + t.size := by rw [ByteArray.size_append]; rfl
   rw [hz] at hs
   have ih := ih (by omega)
   have e1 : ((3 : Int) == 1) = false := rfl
   have e2 : ((3 : Int) == 2) = false := rfl
   have e3 : ((3 : Int) == 3) = true := rfl
   (refine en_ Tryz.func30 Tryz.ntmps30 Tryz.results30 fun X hX => ?_)
   (refine go_ (an3 e1 e2 e3) ?_)
   (refine rn_ 8 hs fun K hK => ?_; refine rr_ hs ?_)
   (refine ca_ hs ?_ (hsp := ih); refine rr_ hs ?_)
   (refine rr_ hs ?_)
   ((first | refine rwr_nil (hK _ ?_) | refine de_ (hK _ ?_)); clear hK K)
   (refine go_ an0 ?_)
   (first | exact oq_ an0 | refine ou_ an0 ?_)
  ·rw [if_neg (by decide)] at hs ⊢
   have hz : (((⟨#[40]⟩ : ByteArray) ++ t) ++ (⟨#[32, 105, 115, 32, 110, 117, 108, 108, 41]⟩ : ByteArray)).size = 1 + t.size + 9 := by rw [ByteArray.size_append, ByteArray.size_append]; rfl
   rw [hz] at hs
   have f1 : 1 + t.size ≤ maxLen := by omega
   have ih := ih (by omega)
   have e1 : ((4 : Int) == 1) = false := rfl
   have e2 : ((4 : Int) == 2) = false := rfl
   have e3 : ((4 : Int) == 3) = false := rfl
   have e4 : ((4 : Int) == 4) = true := rfl
   (refine en_ Tryz.func30 Tryz.ntmps30 Tryz.results30 fun X hX => ?_)
   (refine go_ (an4 e1 e2 e3 e4) ?_)
   (refine rn_ 8 (an2 f1 hs) fun K hK => ?_; refine rr_ (an2 f1 hs) ?_)
   (refine ca_ (an2 f1 hs) ?_ (hsp := ih); refine rr_ (an2 f1 hs) ?_)
   (refine rr_ (an2 f1 hs) ?_)
   ((first | refine rwr_nil (hK _ ?_) | refine de_ (hK _ ?_)); clear hK K)
   (refine go_ an0 ?_)
   (first | exact oq_ an0 | refine ou_ an0 ?_)
 | bin k x y ih1 ih2 =>
  intro hg hs
  obtain ⟨hk, hx, hy⟩ := hg
  have ih1 := ih1 hx
  have ih2 := ih2 hy
  rw [rE_bin]
  rw [gT] at hs ⊢
  obtain ⟨kx, vx, nx, ax, hxe⟩ := ex_mk x.ex
  obtain ⟨ky, vy, ny, ay, hye⟩ := ex_mk y.ex
  rw [hxe, rE_mk] at ih1
  rw [hye, rE_mk] at ih2
  rw [hxe, hye, rE_mk, rE_mk]
  obtain ⟨j, hj⟩ : ∃ j : Nat, k - 5 = (j : Int) := ⟨(k - 5).toNat, by omega⟩
  have hj7 : j < 7 := by omega
  have hrow := sign_row k j hj hj7
  generalize gT x = s1 at *
  generalize gT y = s2 at *
  generalize signT k = sg at *
  have hz : (((((((⟨#[40]⟩ : ByteArray) ++ s1) ++ (⟨#[32]⟩ : ByteArray)) ++ sg) ++ (⟨#[32]⟩ : ByteArray)) ++ s2) ++ (⟨#[41]⟩ : ByteArray)).size = 1 + s1.size + 1 + sg.size + 1 + s2.size + 1 := by rw [ByteArray.size_append, ByteArray.size_append, ByteArray.size_append, ByteArray.size_append, ByteArray.size_append, ByteArray.size_append]; rfl
  rw [hz] at hs
  have ih1 := ih1 (by omega)
  have ih2 := ih2 (by omega)
  have f1 : 1 + s1.size ≤ maxLen := by omega
  have f2 : 1 + s1.size + 1 ≤ maxLen := by omega
  have f3 : 1 + s1.size + 1 + sg.size ≤ maxLen := by omega
  have f4 : 1 + s1.size + 1 + sg.size + 1 ≤ maxLen := by omega
  have f5 : 1 + s1.size + 1 + sg.size + 1 + s2.size ≤ maxLen := by omega
  have e1 : (k == 1) = false := by simp; omega
  have e2 : (k == 2) = false := by simp; omega
  have e3 : (k == 3) = false := by simp; omega
  have e4 : (k == 4) = false := by simp; omega
  have e5 : IntKind.i64.wrap (k - 5) = (j : Int) := by rw [IntWalk.i64_in _ (by omega)]; exact hj
  have j2 : (j : Int) < 7 := by omega
  have j3 : (0 : Int) ≤ (j : Int) := by omega
  (refine en_ Tryz.func30 Tryz.ntmps30 Tryz.results30 fun X hX => ?_)
  (refine go_ (an4 e1 e2 e3 e4) ?_)
  (refine dr_ 0 an0 fun K hK => ?_; refine dd_ (an2 (an7 f1 f2 f3 f4 f5 hs e5) (an4 hrow hj7 j2 j3)) ?_)
  ((first | refine dcf_ 0 (an2 (an7 f1 f2 f3 f4 f5 hs e5) (an4 hrow hj7 j2 j3)) ?_ (hsp := ih1) | refine dc_ 0 (an2 (an7 f1 f2 f3 f4 f5 hs e5) (an4 hrow hj7 j2 j3)) ?_ (hsp := ih1)); refine dd_ (an2 (an7 f1 f2 f3 f4 f5 hs e5) (an4 hrow hj7 j2 j3)) ?_)
  ((first | refine dcf_ 0 (an2 (an7 f1 f2 f3 f4 f5 hs e5) (an4 hrow hj7 j2 j3)) ?_ (hsp := ih2) | refine dc_ 0 (an2 (an7 f1 f2 f3 f4 f5 hs e5) (an4 hrow hj7 j2 j3)) ?_ (hsp := ih2)); refine dd_ (an2 (an7 f1 f2 f3 f4 f5 hs e5) (an4 hrow hj7 j2 j3)) ?_)
  (refine dd_ (an2 (an7 f1 f2 f3 f4 f5 hs e5) (an4 hrow hj7 j2 j3)) ?_)
  ((first | refine rwr_nil (hK _ ?_) | refine de_ (hK _ ?_)); clear hK K)
  (refine go_ an0 ?_)
  (first | exact oq_ an0 | refine ou_ an0 ?_)
end Go.Proofs.YtjdgejfhnfnmgaaGreatDoor.Ax
namespace Go.Proofs.YtjdgejfhnfnmgaaGreatDoor.Ax
open Go.RowKit
set_option linter.unusedSimpArgs false
attribute [local go_sem] ty3 ty4 ty9 ty5 ty26
set_option linter.unusedVariables false
set_option maxRecDepth 100000
theorem bs_put (a : List UInt8) (s : ByteArray) : bs a ++ s = bs (a ++ s.data.toList) := bs_append_s a s
theorem commas_sp (l : List ByteArray) (hl : l.length ≤ maxLen) (hz : (commaL l).length ≤ maxLen) : Sp Tryz.prog 31 [.one (.sl (rS l))] (.one (.t true (.lit (.string (bs (commaL l)))))) [] := by
 unfold maxLen at hl
 (refine en_ Tryz.func31 Tryz.ntmps31 Tryz.results31 fun X hX => ?_)
 (refine go_ an0 ?_)
 refine cw_loop (fun m st => ∃ (k : Nat) (u : ByteArray), k ≤ l.length ∧ m = l.length - k ∧ u = bs (commaL (l.take k)) ∧ st = ⟨[(4, litI .i64 k), (3, litS u), (0, .one (.t false (.sl (rS l))))], []⟩) l.length ⟨_, ⟨0, ⟨#[]⟩, Nat.zero_le _, rfl, rfl, rfl⟩, le_⟩ ?_
 rintro m st ⟨k, u, hk, rfl, hu, rfl⟩
 by_cases hlt : k < l.length
 ·have e1 : decide ((k : Int) < (l.length : Int)) = true := by simp; omega
  obtain ⟨x, hx⟩ : ∃ x, l[k]? = some x := ⟨_, List.getElem?_eq_getElem hlt⟩
  have e4 : IntKind.i64.wrap ((k : Int) + 1) = ((k + 1 : Nat) : Int) := by rw [IntWalk.i64_in _ (by omega)]; rfl
  have j2 : (k : Int) < (l.length : Int) := by omega
  have j3 : (0 : Int) ≤ (k : Int) := by omega
  have ht := comma_take hx
  have hle := comma_le l (k + 1)
  rw [ht] at hle
  by_cases h0 : k = 0
  ·have e2 : decide ((0 : Int) < (k : Int)) = false := by simp; omega
   rw [if_pos h0, List.append_nil] at ht hle
   have hn : bs (commaL (l.take (k + 1))) = u ++ x := by rw [ht, hu, bs_put]
   have f1 : u.size + x.size ≤ maxLen := by
    rw [List.length_append] at hle
    have : u.size = (commaL (l.take k)).length := by rw [hu, bs_size]
    have h2 : x.data.toList.length = x.size := by rw [Array.length_toList]; rfl
    omega
   clear hu ht hle
   (refine go_ (an2 (an7 e1 e2 e4 hx hlt j2 j3) f1) ?_)
   exact ⟨l.length - (k + 1), by omega, _, ⟨k + 1, u ++ x, by omega, rfl, hn.symm, rfl⟩, le_⟩
  ·have e2 : decide ((0 : Int) < (k : Int)) = true := by simp; omega
   rw [if_neg h0] at ht hle
   have hn : bs (commaL (l.take (k + 1))) = (u ++ ⟨#[44, 32]⟩) ++ x := by rw [ht, hu, bs_put, bs_put]
   have hs : u.size + 2 + x.size ≤ maxLen := by
    rw [List.length_append, List.length_append] at hle
    have h3 : u.size = (commaL (l.take k)).length := by rw [hu, bs_size]
    have h2 : x.data.toList.length = x.size := by rw [Array.length_toList]; rfl
    have h4 : ([44, 32] : List UInt8).length = 2 := rfl
    omega
   have f1 : u.size + 2 ≤ maxLen := by omega
   clear hu ht hle
   (refine go_ (an2 (an7 e1 e2 e4 hx hlt j2 j3) (an2 f1 hs)) ?_)
   exact ⟨l.length - (k + 1), by omega, _, ⟨k + 1, (u ++ ⟨#[44, 32]⟩) ++ x, by omega, rfl, hn.symm, rfl⟩, le_⟩
 ·obtain rfl : k = l.length := by omega
  have e1 : decide ((l.length : Int) < (l.length : Int)) = false := by simp
  rw [List.take_length] at hu
  rw [← hu]
  (refine go_ e1 ?_)
  (first | exact oq_ an0 | refine ou_ an0 ?_)
end Go.Proofs.YtjdgejfhnfnmgaaGreatDoor.Ax
namespace Go.Proofs.YtjdgejfhnfnmgaaGreatDoor.Ax
open Go.RowKit
theorem name_small {s : ByteArray} (h : nameB s = true) : s.size ≤ 2000 := by
 unfold nameB tokB at h
 split at h
 ·cases h
 ·simp only [Bool.and_eq_true, decide_eq_true_eq] at h
  exact h.1.1.1.1.1
theorem valT_small {v : Vl} (h : v.chk = 0) : (valT v).size ≤ 22 := by
 rcases Vl.right h with rfl | ⟨n, rfl, h0, h1⟩ | ⟨s, rfl, hs, _⟩ | ⟨n, rfl, h0, h1⟩
 ·decide
 ·have := digS_size n (by omega) (by omega)
  show (digS n).size ≤ 22
  omega
 ·show ((⟨#[39]⟩ ++ s) ++ ⟨#[39]⟩ : ByteArray).size ≤ 22
  rw [ByteArray.size_append, ByteArray.size_append]
  show 1 + s.size + 1 ≤ 22
  omega
 ·show (boolS (n == 1)).size ≤ 22
  cases (n == 1) <;> decide
theorem kindT_small (k : Int) : (kindT k).size ≤ 4 := by
 unfold kindT
 split
 ·decide
 ·split <;> decide
theorem signT_small (k : Int) : (signT k).size ≤ 3 := by
 unfold signT
 generalize (k - 5).toNat = j
 match j with
 | 0 => decide
 | 1 => decide
 | 2 => decide
 | 3 => decide
 | 4 => decide
 | 5 => decide
 | 6 => decide
 | j + 7 => exact Nat.zero_le _
theorem gT_small (g : Gx) : g.ok → (gT g).size ≤ 2020 * gN g := by
 induction g with
 | val v =>
  intro h
  have := valT_small (v := v) h
  rw [gT, gN]
  omega
 | col nm =>
  intro h
  have := name_small (s := nm) h
  rw [gT, gN]
  omega
 | un k x ih =>
  rintro ⟨_, hx⟩
  have := ih hx
  rw [gT, gN]
  split
  ·rw [ByteArray.size_append]
   show 4 + _ ≤ _
   omega
  ·rw [ByteArray.size_append, ByteArray.size_append]
   show 1 + _ + 9 ≤ _
   omega
 | bin k x y ih1 ih2 =>
  rintro ⟨_, hx, hy⟩
  have h1 := ih1 hx
  have h2 := ih2 hy
  have h3 := signT_small k
  rw [gT, gN, ByteArray.size_append, ByteArray.size_append, ByteArray.size_append, ByteArray.size_append, ByteArray.size_append, ByteArray.size_append]
  show 1 + _ + 1 + _ + 1 + _ + 1 ≤ _
  omega
theorem ex_text {e : Ex} (h : exprB e = true) (hz : sizeE e 15 ≤ 15) : ∃ g : Gx, g.ex = e ∧ g.ok ∧ (gT g).size ≤ 30300 := by
 obtain ⟨g, rfl, hg⟩ := exprB_gx e h
 refine ⟨g, rfl, hg, ?_⟩
 have h1 := sizeE_gN g 15 (by omega) hz
 have h2 := gT_small g hg
 omega
structure Rt (c : Cm) : Prop where
 k1 : 1 ≤ c.k
 k16 : c.k ≤ 16
 name : c.name.size ≤ 2000
 other : c.other.size ≤ 2000
 column : c.column.size ≤ 2000
 ty : kType c.k = true → 1 ≤ c.ty ∧ c.ty ≤ 3
 v : c.v.chk = 0
 cols : c.cols.length ≤ 5
 colOk : ∀ x ∈ c.cols, x.name.size ≤ 2000 ∧ 1 ≤ x.ty ∧ x.ty ≤ 3
 vals : c.vals.length ≤ 5
 valOk : ∀ x ∈ c.vals, x.chk = 0
 fields : c.fields.length ≤ 5
 fieldOk : ∀ x ∈ c.fields, x.size ≤ 2000
 order : c.order.size ≤ 2000
 limit : -1 ≤ c.limit ∧ c.limit ≤ 999999999
 ex : c.k = 12 → ∃ g : Gx, g.ex = c.ex ∧ g.ok ∧ (gT g).size ≤ 30300
 wh : kWhere c.k = true → c.all = false → ∃ g : Gx, g.ex = c.wh ∧ g.ok ∧ (gT g).size ≤ 30300
theorem named_small {s : ByteArray} {b : Bool} (h : namedB s b = true) : s.size ≤ 2000 := by
 unfold namedB at h
 split at h
 ·exact name_small h
 ·have h1 : s.toList = [] := by
   unfold emptyS at h
   simpa using h
  rw [ByteArray.toList_eq] at h1
  have h2 : s.data.toList.length = s.size := rfl
  rw [h1] at h2
  simp only [List.length_nil] at h2
  omega
theorem rt_of {c : Cm} (h : checkP c = 0) : Rt c := by
 unfold checkP at h
 split at h
 ·cases h
 ·rename_i hb
  split at h
  ·rename_i ho
   rw [Bool.not_eq_true] at hb
   unfold bigB at hb
   simp only [Bool.or_eq_false_iff, decide_eq_false_iff_not] at hb
   obtain ⟨b1, b2, b3, b4, b5⟩ := hb
   unfold okP listsG wheresG at ho
   simp only [Bool.and_eq_true, decide_eq_true_eq] at ho
   obtain ⟨o1, o2, o3, o4, o5, o6, ⟨l1, l2, l3, l4, l5, l6, l7, l8⟩, ⟨w1, w2, w3, w4⟩, o9⟩ := ho
   simp only [Bool.not_eq_true', List.any_eq_false] at l2 l4 l8
   refine ⟨o1, o2, named_small o3, named_small o4, named_small o5, fun hk => ?_, by simpa using l5, by omega, fun x hx => ?_, by omega, fun x hx => ?_, by omega, fun x hx => ?_, ?_, ?_, fun hk => ?_, fun hk ha => ?_⟩
   ·unfold typeOk at o6
    rw [if_pos hk] at o6
    simpa using o6
   ·have := l2 x hx
    unfold badCol at this
    simp only [Bool.not_eq_true, Bool.or_eq_false_iff, Bool.not_eq_false', Bool.and_eq_true, decide_eq_true_eq] at this
    exact ⟨name_small this.1, this.2.1, this.2.2⟩
   ·have := l4 x hx
    unfold badV at this
    simpa using this
   ·have := l8 x hx
    unfold badF at this
    exact name_small (by simpa using this)
   ·rw [Bool.or_eq_true, Bool.and_eq_true] at w4
    rcases w4 with h | h
    ·exact named_small (b := false) (by unfold namedB; rw [if_neg (by decide)]; exact h)
    ·exact name_small h.2
   ·split at w2
    ·simpa using w2
    ·have : c.limit = 0 := by simpa using w2
     omega
   ·unfold exOk at o9
    rw [hk] at o9
    exact ex_text (by simpa using o9) (by omega)
   ·rw [if_pos ⟨hk, ha⟩] at w1
    exact ex_text w1 (by omega)
  ·cases h
def wordsT : List ByteArray → List UInt8
 | [] => []
 | x :: l => 32 :: (x.data.toList ++ wordsT l)
def textW : List ByteArray → List UInt8
 | [] => []
 | x :: l => x.data.toList ++ wordsT l
theorem wordsT_append : ∀ (l m : List ByteArray), wordsT (l ++ m) = wordsT l ++ wordsT m
 | [], _ => rfl
 | x :: l, m => by
  rw [List.cons_append, wordsT, wordsT, wordsT_append l m, List.cons_append, List.append_assoc]
def colT (x : Col) : ByteArray := (x.name ++ ⟨#[32]⟩) ++ kindT x.ty
def listT (l : List ByteArray) : ByteArray := (⟨#[40]⟩ ++ bs (commaL l)) ++ ⟨#[41]⟩
end Go.Proofs.YtjdgejfhnfnmgaaGreatDoor.Ax
