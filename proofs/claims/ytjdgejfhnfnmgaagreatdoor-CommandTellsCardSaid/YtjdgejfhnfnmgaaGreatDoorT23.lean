/-  -/
import Derived.Test.YtjdgejfhnfnmgaaGreatDoorT0
import Derived.Test.YtjdgejfhnfnmgaaGreatDoorT22
import Derived.Test.YtjdgejfhnfnmgaaGreatDoorT18
import Derived.Test.YtjdgejfhnfnmgaaGreatDoorT19
import Derived.BigQuiet
import Derived.Handy
import Derived.Deep.QuietTactic
import Derived.Deep.LoopGhost
import Derived.Lib.IndexLaws
import Derived.Test.YtjdgejfhnfnmgaaGreatDoorT15
import Derived.Test.YtjdgejfhnfnmgaaGreatDoorT20
import Derived.Test.YtjdgejfhnfnmgaaGreatDoorT13
import Derived.Test.YtjdgejfhnfnmgaaGreatDoorT16
import Derived.Test.YtjdgejfhnfnmgaaGreatDoorT17
namespace Go.Proofs.YtjdgejfhnfnmgaaGreatDoor
open Go.RowKit
theorem elTok : ElT Tryz.prog 43 77 (.agg #[.int .i64 0, .int .i64 0, .string ⟨#[]⟩]) 3 32 := elT_mk Tryz.underlying43 (by kernel_rfl) rfl (by decide)
end Go.Proofs.YtjdgejfhnfnmgaaGreatDoor
namespace Go.Proofs.YtjdgejfhnfnmgaaGreatDoor
open Go.RowKit
def ScanPost (T : List Vl × Nat × Nat) (w : World) (e : Ending) (w' : World) : Prop :=
 ∃ v, e = .returned (.tuple #[v, .int .i64 T.2.1, .int .i64 T.2.2]) ∧ w'.ownsRow (w.heap.size + 1) 77 3 v T.1.length (cellsV T.1) ∧ Below w.heap.size w w'
set_option maxHeartbeats 4000000 in
theorem scan_any (s : ByteArray) (w : World) (hs : s.size ≤ maxLen) :
  Calls Tryz.prog 19 #[.string s] w (ScanPost (scanS s) w) := by
 unfold maxLen at hs
 by_cases h2 : 2000 < s.size
 ·have HT : Hid (scanS s = ([], 0, 2)) := Lib.hid (by rw [scanS, if_pos h2])
  go_enter Tryz.func19, Tryz.ntmps19
  go_wp2_with fail
  go_ret3
  rw [HT.out]
  exact ⟨_, rfl, World.ownsRow_nil _ _ _ _, Below.refl _ _⟩
 have HS : Hid (comb [] (scanF (s.size + 1) s.data.toList 0) = scanS s) := Lib.hid (by
  rw [scanS, if_neg h2, scanF_norm])
 have hg0 : Blk (w.alloc (.cells #[.string s, .int .i64 0] 80)) w.heap.size 80 #[.string s, .int .i64 ((0 : Nat) : Int)] := Blk.fresh w _ _
 go_enter Tryz.func19, Tryz.ntmps19
 go_wp2_with fail
 refine (skip_any s 0 w.heap.size _ (Nat.zero_le _) (by omega) hg0).mono ?_
 rintro e w1 ⟨rfl, hg1, ht1⟩
 have hw1 := ht1.size
 simp only [World.size_alloc] at hw1
 go_wp2_with fail
 go_loopg [6] (s.size + 1) (fun m v wr => ∃ (vs : List Vl) (p f : Nat), m = s.size - p + 1 ∧ s.size - p < f ∧ p ≤ s.size ∧ vs.length ≤ p ∧ wr.ownsRow (w.heap.size + 1) 77 3 v vs.length (cellsV vs) ∧
   comb vs (scanF f (s.data.toList.drop p) p) = scanS s ∧ Blk wr w.heap.size 80 #[.string s, .int .i64 ((p + runN blankB (s.data.toList.drop p) : Nat) : Int)] ∧ Below w.heap.size w wr ∧ w.heap.size + 1 ≤ wr.heap.size)
 case atStart => exact ⟨[], 0, s.size + 1, rfl, by omega, Nat.zero_le _, Nat.zero_le _, World.ownsRow_nil _ _ _ _, HS.out, hg1, below_turn (below_two _) ht1 (Nat.le_refl _) (by simp), hw1⟩
 case round =>
  obtain ⟨vs, p, f, rfl, hf, hp, hvp, hown, hT, hg, hb, hz⟩ := hrel
  obtain ⟨f, rfl⟩ : ∃ f', f = f' + 1 := ⟨f - 1, by omega⟩
  obtain ⟨q, hq⟩ : ∃ q, q = p + runN blankB (s.data.toList.drop p) := ⟨_, rfl⟩
  have hqs : q ≤ s.size := by
   have := runN_le blankB (s.data.toList.drop p)
   rw [List.length_drop, Array.length_toList, show s.data.size = s.size from rfl] at this
   omega
  have hpq : p ≤ q := by omega
  have hdq : (s.data.toList.drop p).drop (runN blankB (s.data.toList.drop p)) = s.data.toList.drop q := by rw [List.drop_drop, hq]
  obtain ⟨d0, d1, _, _, hgl⟩ := hg.two
  by_cases hlt : q < s.size
  ·have hx := drop_at s q hlt
   rw [hx] at hdq
   have hC := token_any s q w.heap.size wr hlt (by omega) (by rw [hq]; exact hg)
   rw [← hq] at hg d1
   by_cases h0 : (tokL s[q] (s.data.toList.drop (q + 1))).2.2 = 0
   ·have hst := scan_step f _ p _ _ vs hdq h0
    obtain ⟨hn1, hn2⟩ := tokL_pos _ _ h0
    rw [hT, ← hq, ← hx, List.drop_drop] at hst
    rw [List.length_drop, Array.length_toList, show s.data.size = s.size from rfl] at hn2
    have HST := Lib.hid hst
    have HC := Lib.hid hC
    clear hT HS hdq hx hst hC hq
    generalize tokL s[q] (s.data.toList.drop (q + 1)) = t at *
    obtain ⟨tk, tn, te⟩ := t
    simp only at h0 hn1 hn2 HST HC
    subst h0
    go_wp2_with fail
    refine HC.out.mono ?_
    rintro e w2 ⟨u, j, rfl, hjs, hg2, ht2, _, hu⟩
    obtain ⟨rfl, rfl⟩ := hu rfl
    clear hu
    have hown2 := hown.kept ht2 (.inr (by intro e; have := (hown.lt _ e).1; omega))
    have z2 := ht2.size
    dsimp only at hjs hg2 ⊢
    have hvl : vs.length < 2001 := by omega
    have HSK := Lib.hid (fun W hG => skip_any s (q + tn) w.heap.size W hjs (by omega) hG)
    go_wp2_with (at_builtin; refine wpList_app rfl (.tmp 36) (.tmp 38) elTok rfl (hown2.alloc _) rfl rfl (by simp) (by simp) rfl (by unfold maxLen; omega) (by omega) (by first | omega | (simp; omega)) ?_; intro v3 w3 hown3 hl3 hat3)
    have hg3 : Blk w3 w.heap.size 80 #[.string s, .int .i64 ((q + tn : Nat) : Int)] := (hl3.blk _ (by rw [World.size_alloc]; omega) (fun e => by have := (hown.lt _ e).1; omega)).trans (hg2.alloc _)
    have hz3 := hl3.below.size
    simp only [World.size_alloc] at hz3
    refine (HSK.out w3 hg3).mono ?_
    rintro e w4 ⟨rfl, hg4, ht4⟩
    have z4 := ht4.size
    have hown4 := hown3.kept ht4 (.inr (by intro e; have := (hown3.lt _ e).1; omega))
    have hbw := (below_turn hb ht2 (Nat.le_refl _) (by omega)).alloc (by omega) (.cells #[.int .i64 (tk : Int), .int .i64 (q : Int), .string (s.extract q (q + tn))] 77)
    have hb3 := hbw.trans (hl3.below.mono (by omega))
    go_wp2_with fail
    go_roundg (s.size - (q + tn) + 1)
    case rel => exact ⟨vs ++ [⟨(tk : Int), (q : Int), bs (List.take tn (List.drop q s.data.toList))⟩], q + tn, f, rfl, by omega, hjs, by simp; omega, own_vals hown4 _ (by rw [extract_mid s q tn]), HST.out.symm, hg4, below_turn hb3 ht4 (Nat.le_refl _) (by omega), by omega⟩
    case measure => omega
   ·have hst := scan_bad f _ p _ _ vs hdq h0
    rw [hT, ← hq] at hst
    have HST := Lib.hid hst
    have HC := Lib.hid hC
    clear hT HS hdq hx hst hC hq
    generalize tokL s[q] (s.data.toList.drop (q + 1)) = t at *
    obtain ⟨tk, tn, te⟩ := t
    simp only at h0 HST HC
    have hte : ((te : Int) != 0) = true := by rw [bne_iff_ne]; omega
    have H0 := Lib.hid h0
    clear h0
    go_wp2_with fail
    refine HC.out.mono ?_
    rintro e w2 ⟨u, j, rfl, hjs, hg2, ht2, hat, _⟩
    obtain ⟨uk, ua, us⟩ := u
    simp only at hat
    subst hat
    go_wp2_with fail
    go_quiet (fail)
    go_wp2_with fail
    go_ret3
    rw [HST.out]
    exact ⟨_, rfl, World.ownsRow_nil _ _ _ _, below_drewN ((below_turn hb ht2 (Nat.le_refl _) (by omega)).alloc (by have := ht2.size; omega) _) _⟩
  ·have hqq : q = s.size := by omega
   have hld : decide (q < s.size) = false := by simp; omega
   have hst := scan_end f _ p vs (by rw [hdq]; exact List.drop_eq_nil_of_le (by rw [Array.length_toList]; exact Nat.le_of_eq hqq.symm))
   rw [hT] at hst
   have HST := Lib.hid hst
   rw [← hq] at hg d1
   clear hT HS hdq hst hq hqq
   go_wp2_with fail
   go_ret3
   rw [HST.out]
   exact ⟨_, rfl, hown, hb⟩
end Go.Proofs.YtjdgejfhnfnmgaaGreatDoor
namespace Go.Proofs.YtjdgejfhnfnmgaaGreatDoor
open Go.RowKit
theorem oneB_false {k : Int} {s : ByteArray} {T : List Vl × Nat × Nat} (hT : scanS s = T) (h : ¬ T.2.2 = 0 ∨ ¬ T.1.length = 1) : oneB k s = false := by
 rw [← Bool.not_eq_true]
 intro h1
 obtain ⟨t, p, h2, _, _⟩ := oneB_of h1
 rw [← hT, h2] at h
 simp at h
theorem oneB_one {k : Int} {s : ByteArray} {t : Vl} {p : Nat} (hT : scanS s = ([t], p, 0)) : oneB k s = ((t.k == k) && (t.s.toList == s.toList)) := by
 unfold oneB
 rw [hT]
 rfl
set_option maxHeartbeats 2000000 in
theorem one_any (k : Int) (s : ByteArray) (w : World) (hs : s.size ≤ maxLen) :
  Calls Tryz.prog 54 #[.int .i64 k, .string s] w fun e w' => e = .returned (.bool (oneB k s)) ∧ Below w.heap.size w w' := by
 have HC := Lib.hid (fun W => scan_any s W hs)
 have HT : Hid (scanS s = scanS s) := Lib.hid rfl
 have HF := Lib.hid (fun T h1 h2 => @oneB_false k s T h1 h2)
 have HO := Lib.hid (fun t p h => @oneB_one k s t p h)
 generalize hT : scanS s = T at HC HT
 have HT := Lib.hid hT
 clear hT
 obtain ⟨vs, p, e⟩ := T
 by_cases he : e = 0
 ·subst he
  by_cases hn : vs.length = 1
  ·obtain ⟨t, rfl⟩ : ∃ t, vs = [t] := by
    rcases vs with _ | ⟨t, _ | _⟩
    ·simp at hn
    ·exact ⟨t, rfl⟩
    ·simp at hn
   obtain ⟨tk, tn, ts⟩ := t
   clear hn
   obtain rfl : p = 0 := by
    have := (scanS_one s (by rw [HT.out])).2
    rw [HT.out] at this
    exact this
   have HR := Lib.hid (HO.out _ _ HT.out)
   simp only at HR
   rcases h1 : (tk == k) with _ | _
   ·rw [h1, Bool.false_and] at HR
    go_enter Tryz.func54, Tryz.ntmps54
    go_wp2_with fail
    refine (HC.out w).mono ?_
    rintro e w1 ⟨v, rfl, hown, hb⟩
    dsimp only at hown ⊢
    obtain ⟨g, cap, rfl, hg1, hg2⟩ := hown.form Nat.zero_lt_one
    have c0 : w1.cell? ⟨g, 0, none⟩ = some (.int .i64 tk) := hown.cellAt 0 (show 0 < 3 by decide)
    have c2 : w1.cell? ⟨g, 2, none⟩ = some (.string ts) := hown.cellAt 2 (show 2 < 3 by decide)
    go_wp2_with fail
    go_ret
    exact ⟨by rw [HR.out]; rfl, hb⟩
   ·rw [h1, Bool.true_and] at HR
    go_enter Tryz.func54, Tryz.ntmps54
    go_wp2_with fail
    refine (HC.out w).mono ?_
    rintro e w1 ⟨v, rfl, hown, hb⟩
    dsimp only at hown ⊢
    obtain ⟨g, cap, rfl, hg1, hg2⟩ := hown.form Nat.zero_lt_one
    have c0 : w1.cell? ⟨g, 0, none⟩ = some (.int .i64 tk) := hown.cellAt 0 (show 0 < 3 by decide)
    have c2 : w1.cell? ⟨g, 2, none⟩ = some (.string ts) := hown.cellAt 2 (show 2 < 3 by decide)
    go_wp2_with fail
    go_ret
    exact ⟨by rw [HR.out]; rfl, hb⟩
  ·have HR := Lib.hid (HF.out _ HT.out (.inr hn))
   have hl : ((vs.length : Int) == 1) = false := by rw [beq_eq_false_iff_ne]; omega
   clear hn
   go_enter Tryz.func54, Tryz.ntmps54
   go_wp2_with fail
   refine (HC.out w).mono ?_
   rintro e w1 ⟨v, rfl, hown, hb⟩
   dsimp only at hown ⊢
   obtain ⟨A1, c1, rfl, hrd1, hn1⟩ := rd_of_own hown
   go_wp2_with fail
   go_ret
   exact ⟨by rw [HR.out]; rfl, hb⟩
 ·have HR := Lib.hid (HF.out _ HT.out (.inl he))
  have hl : ((e : Int) == 0) = false := by rw [beq_eq_false_iff_ne]; omega
  clear he
  go_enter Tryz.func54, Tryz.ntmps54
  go_wp2_with fail
  refine (HC.out w).mono ?_
  rintro e w1 ⟨v, rfl, hown, hb⟩
  dsimp only at hown ⊢
  go_wp2_with fail
  go_ret
  exact ⟨by rw [HR.out]; rfl, hb⟩
end Go.Proofs.YtjdgejfhnfnmgaaGreatDoor
namespace Go.Proofs.YtjdgejfhnfnmgaaGreatDoor
open Go.RowKit
end Go.Proofs.YtjdgejfhnfnmgaaGreatDoor
namespace Go.Proofs.YtjdgejfhnfnmgaaGreatDoor
open Go.RowKit
end Go.Proofs.YtjdgejfhnfnmgaaGreatDoor
namespace Go.Proofs.YtjdgejfhnfnmgaaGreatDoor
open Go.RowKit
end Go.Proofs.YtjdgejfhnfnmgaaGreatDoor
namespace Go.Proofs.YtjdgejfhnfnmgaaGreatDoor
open Go.RowKit
end Go.Proofs.YtjdgejfhnfnmgaaGreatDoor
namespace Go.Proofs.YtjdgejfhnfnmgaaGreatDoor.Ax
open Go.RowKit
set_option linter.unusedSimpArgs false
attribute [local go_sem] ty3 ty4 ty9 ty26 meltSt
set_option linter.unusedVariables false
set_option maxRecDepth 100000
abbrev rS (l : List ByteArray) : List (List T) := l.map fun s => [.lit (.string s)]
theorem litS_ (l : List ByteArray) : litRows (rS l) = true := litRows_map fun _ => rfl
theorem lenS_ (l : List ByteArray) : (∀ r ∈ rS l, r.length = 1) = True := all_len fun _ => rfl
theorem tone_sp (k : Int) (s : ByteArray) (hs : s.size ≤ maxLen) : Sp Tryz.prog 54 [.one (.lit (.int .i64 k)), .one (.lit (.string s))] (.one (.t true (.lit (.bool (tokB k s))))) [] := by
 rw [← one_tok]
 exact sp_lits (enters_of Tryz.func54 (by kernel_rfl) rfl) [.int .i64 k, .string s] _ rfl rfl fun w => (one_any k s w hs).mono fun _ _ h => h
theorem tname_sp (s : ByteArray) (hs : s.size ≤ maxLen) : Sp Tryz.prog 128 [.one (.lit (.string s))] (.one (.t true (.lit (.bool (tokB 1 s))))) [] := by
 have h1 := tone_sp 1 s hs
 (refine en_ Tryz.func128 Tryz.ntmps128 Tryz.results128 fun X hX => ?_)
 (refine gs_ ?_)
 (refine rn_ 8 an0 fun K hK => ?_; refine rr_ an0 ?_)
 ((first | refine rwr_nil (hK _ ?_) | refine de_ (hK _ ?_)); clear hK K)
 (refine gs_ ?_)
 (refine rn_ 8 an0 fun K hK => ?_; refine rr_ an0 ?_)
 (refine ca_ an0 ?_ (hsp := h1); refine rr_ an0 ?_)
 ((first | refine rwr_nil (hK _ ?_) | refine de_ (hK _ ?_)); clear hK K)
 (refine go_ an0 ?_)
 (first | exact oq_ an0 | refine ou_ an0 ?_)
attribute [local go_sem] isE
end Go.Proofs.YtjdgejfhnfnmgaaGreatDoor.Ax
namespace Go.Proofs.YtjdgejfhnfnmgaaGreatDoor.Ax
open Go.RowKit
set_option linter.unusedSimpArgs false
attribute [local go_sem] ty3 ty4 ty9 ty5 ty77 ty43 ty69 ty101
set_option linter.unusedVariables false
set_option maxRecDepth 100000
end Go.Proofs.YtjdgejfhnfnmgaaGreatDoor.Ax
namespace Go.Proofs.YtjdgejfhnfnmgaaGreatDoor.Ax
open Go.RowKit
set_option linter.unusedSimpArgs false
attribute [local go_sem] ty3 ty4 ty9 ty5 ty24 ty77 ty43 ty69 ty101
set_option linter.unusedVariables false
set_option maxRecDepth 100000
end Go.Proofs.YtjdgejfhnfnmgaaGreatDoor.Ax
namespace Go.Proofs.YtjdgejfhnfnmgaaGreatDoor.Ax
open Go.RowKit
set_option linter.unusedSimpArgs false
attribute [local go_sem] ty3 ty4 ty9 ty26 meltSt
set_option linter.unusedVariables false
set_option maxRecDepth 100000
theorem words_sp : Sp Tryz.prog 130 [] (.one (.own 1 36)) [(1, .arr 9 1 true (rS wordsL))] := by
 (refine en_ Tryz.func130 Tryz.ntmps130 Tryz.results130 fun X hX => ?_)
 (refine go_ an0 ?_)
 (exact ow_ an0)
 all_goals rfl
theorem indexS_sp (l : List ByteArray) (s : ByteArray) (hl : l.length ≤ maxLen) : Sp Tryz.prog 157 [.one (.sl (rS l)), .one (.lit (.string s))] (.one (.t true (.lit (.int .i64 (placeF (fun x => x.toList == s.toList) l 0))))) [] := by
 unfold maxLen at hl
 (refine en_ Tryz.func157 Tryz.ntmps157 Tryz.results157 fun X hX => ?_)
 (refine go_ an0 ?_)
 refine cw_loop (fun m st => ∃ k, k ≤ l.length ∧ m = l.length - k ∧ placeF (fun x => x.toList == s.toList) (l.drop k) k = placeF (fun x => x.toList == s.toList) l 0 ∧ st = ⟨[(8, litI .i64 k), (7, litI .i64 l.length), (0, .one (.t false (.sl (rS l)))), (1, .one (.t false (.lit (.string s))))], []⟩) l.length ⟨_, ⟨0, Nat.zero_le _, rfl, rfl, rfl⟩, le_⟩ ?_
 rintro m st ⟨k, hk, rfl, hf, rfl⟩
 by_cases hlt : k < l.length
 ·have e1 : decide ((k : Int) < (l.length : Int)) = true := by simp; omega
  obtain ⟨x, hx⟩ : ∃ x, l[k]? = some x := ⟨_, List.getElem?_eq_getElem hlt⟩
  have e4 : IntKind.i64.wrap ((k : Int) + 1) = ((k + 1 : Nat) : Int) := by rw [IntWalk.i64_in _ (by omega)]; rfl
  have j2 : (k : Int) < (l.length : Int) := by omega
  have j3 : (0 : Int) ≤ (k : Int) := by omega
  rw [drop_eq _ _ _ hx, placeF] at hf
  cases hp : (x.toList == s.toList)
  ·have hp' : (s.toList == x.toList) = false := by rw [Bool.eq_false_iff] at hp ⊢; intro h; exact hp (by rw [beq_iff_eq] at h ⊢; exact h.symm)
   rw [if_neg (by rw [hp]; decide)] at hf
   (refine go_ (an7 e1 hx hlt j2 j3 hp' e4) ?_)
   exact ⟨l.length - (k + 1), by omega, _, ⟨k + 1, by omega, rfl, hf, rfl⟩, le_⟩
  ·have hp' : (s.toList == x.toList) = true := by rw [beq_iff_eq] at hp ⊢; exact hp.symm
   rw [if_pos hp] at hf
   rw [← hf]
   (refine go_ (an6 e1 hx hlt j2 j3 hp') ?_)
   (first | exact oq_ an0 | refine ou_ an0 ?_)
 ·have e1 : decide ((k : Int) < (l.length : Int)) = false := by simp; omega
  rw [List.drop_eq_nil_of_le (by omega)] at hf
  rw [← hf]
  (refine go_ e1 ?_)
  (first | exact oq_ an0 | refine ou_ an0 ?_)
  try rfl
theorem place_any {α : Type} (p : α → Bool) (l : List α) (i : Nat) : decide (0 ≤ placeF p l i) = l.any p := by
 induction l generalizing i with
 | nil => rfl
 | cons x l ih =>
  rw [placeF, List.any_cons]
  split
  ·rename_i h; rw [h]; simp
  ·rename_i h
   rw [ih, Bool.eq_false_iff.2 h, Bool.false_or]
theorem containsS_sp (l : List ByteArray) (s : ByteArray) (hl : l.length ≤ maxLen) : Sp Tryz.prog 129 [.one (.sl (rS l)), .one (.lit (.string s))] (.one (.t true (.lit (.bool (l.any fun x => x.toList == s.toList))))) [] := by
 have h1 := indexS_sp l s hl
 rw [← place_any _ l 0]
 (refine en_ Tryz.func129 Tryz.ntmps129 Tryz.results129 fun X hX => ?_)
 (refine gs_ ?_)
 (refine rn_ 8 an0 fun K hK => ?_; refine rr_ an0 ?_)
 ((first | refine rwr_nil (hK _ ?_) | refine de_ (hK _ ?_)); clear hK K)
 (refine gs_ ?_)
 (refine rn_ 8 an0 fun K hK => ?_; refine rr_ an0 ?_)
 (refine ca_ an0 ?_ (hsp := h1); refine rr_ an0 ?_)
 ((first | refine rwr_nil (hK _ ?_) | refine de_ (hK _ ?_)); clear hK K)
 (refine go_ an0 ?_)
 (first | exact oq_ an0 | refine ou_ an0 ?_)
theorem cname_sp (s : ByteArray) (hs : s.size ≤ maxLen) : Sp Tryz.prog 78 [.one (.lit (.string s))] (.one (.t true (.lit (.bool (nameB s))))) [] := by
 have h1 := tname_sp s hs
 have h2 := words_sp.ren [(1, 6)] rfl rfl rfl rfl
 have h3 := containsS_sp wordsL s (by decide)
 have hL : wordsL.length = 36 := rfl
 unfold nameB isWordB
 generalize wordsL = L at *
 generalize tokB 1 s = tb at *
 cases tb
 ·(refine en_ Tryz.func78 Tryz.ntmps78 Tryz.results78 fun X hX => ?_)
  (refine gs_ ?_)
  (refine rn_ 8 an0 fun K hK => ?_; refine rr_ an0 ?_)
  ((first | refine rwr_nil (hK _ ?_) | refine de_ (hK _ ?_)); clear hK K)
  (refine gs_ ?_)
  (refine rn_ 8 an0 fun K hK => ?_; refine rr_ an0 ?_)
  (refine ca_ an0 ?_ (hsp := h1); refine rr_ an0 ?_)
  (refine rr_ an0 ?_)
  ((first | refine rwr_nil (hK _ ?_) | refine de_ (hK _ ?_)); clear hK K)
  (refine go_ an0 ?_)
  (first | exact oq_ an0 | refine ou_ an0 ?_)
  try rfl
 ·(refine en_ Tryz.func78 Tryz.ntmps78 Tryz.results78 fun X hX => ?_)
  (refine gs_ ?_)
  (refine rn_ 8 an0 fun K hK => ?_; refine rr_ an0 ?_)
  ((first | refine rwr_nil (hK _ ?_) | refine de_ (hK _ ?_)); clear hK K)
  (refine gs_ ?_)
  (refine rn_ 8 an0 fun K hK => ?_; refine rr_ an0 ?_)
  (refine ca_ an0 ?_ (hsp := h1); refine rr_ an0 ?_)
  (refine rr_ an0 ?_)
  (refine ca_ hL ?_ (hsp := h2); refine rr_ hL ?_)
  (refine rr_ an0 ?_)
  (refine ca_ hL ?_ (hsp := h3); refine rr_ hL ?_)
  (refine rr_ an0 ?_)
  ((first | refine rwr_nil (hK _ ?_) | refine de_ (hK _ ?_)); clear hK K)
  (refine go_ an0 ?_)
  (first | exact oq_ an0 | refine ou_ an0 ?_)
  try rfl
end Go.Proofs.YtjdgejfhnfnmgaaGreatDoor.Ax
namespace Go.Proofs.YtjdgejfhnfnmgaaGreatDoor.Ax
open Go.RowKit
set_option linter.unusedSimpArgs false
attribute [local go_sem] ty3 ty4 ty9 ty5 ty77 ty43 ty67 ty65
set_option linter.unusedVariables false
set_option maxRecDepth 100000
def paH (l : List Vl) (en : Int) (k : Nat) : List C := [.t false (.sl (rVs l)), .t false (.lit (.int .i64 k)), .t false (.lit (.int .i64 en))]
def chP (l : List Vl) (en : Int) (k : Nat) : List PanicEntry := [{ v := .iface 96 (.int .i64 (hereP l en k)), recovered := false }]
set_option maxHeartbeats 4000000 in
theorem pfail_l (l : List Vl) (en : Int) (k : Nat) : SpPL Tryz.prog 120 [.one (.optr 1000 0)] 67 (paH l en k) (chP l en k) 26 := by
 intro vs hlen hone
 unfold paH
 by_cases hlt : k < l.length
 ·obtain ⟨t, ht⟩ : ∃ t, l[k]? = some t := ⟨_, List.getElem?_eq_getElem hlt⟩
  have e1 : decide ((k : Int) < (l.length : Int)) = true := by simp; omega
  have j2 : (k : Int) < (l.length : Int) := by omega
  have j3 : (0 : Int) ≤ (k : Int) := by omega
  unfold chP hereP
  rw [ht]
  refine ep_ Tryz.func120 Tryz.ntmps120 fun X hX hp => ?_
  refine au_ (an5 e1 ht hlt j2 j3) ?_
  refine rn_ 1 an0 fun K hK => ?_
  exact rwr_throw (a0 := 28) rfl hp (hy := Tryz.underlying96) (hni := by intro m h; cases h)
 ·have e1 : decide ((k : Int) < (l.length : Int)) = false := by simp; omega
  unfold chP hereP
  rw [List.getElem?_eq_none (by omega)]
  refine ep_ Tryz.func120 Tryz.ntmps120 fun X hX hp => ?_
  refine au_ e1 ?_
  refine rn_ 1 an0 fun K hK => ?_
  exact rwr_throw (a0 := 28) rfl hp (hy := Tryz.underlying96) (hni := by intro m h; cases h)
def takeK (l : List Vl) (s : ByteArray) (k : Nat) : Nat := cond (takeB l s k) (k + 1) k
set_option maxHeartbeats 4000000 in
theorem ptake_l (l : List Vl) (hl : l.length ≤ 4000) (en : Int) (k : Nat) (s : ByteArray) : SpL Tryz.prog 148 [.one (.optr 1000 0), .one (.t false (.lit (.string s)))] 67 (paH l en k) (.one (.t true (.lit (.bool (takeB l s k))))) (paH l en (takeK l s k)) 26 := by
 intro vs hlen hone
 unfold takeK takeB
 unfold paH
 by_cases hlt : k < l.length
 ·obtain ⟨t, ht⟩ : ∃ t, l[k]? = some t := ⟨_, List.getElem?_eq_getElem hlt⟩
  have e1 : decide ((l.length : Int) ≤ (k : Int)) = false := by simp; omega
  have j2 : (k : Int) < (l.length : Int) := by omega
  have j3 : (0 : Int) ≤ (k : Int) := by omega
  have e2 : IntKind.i64.wrap ((k : Int) + 1) = ((k + 1 : Nat) : Int) := by rw [IntWalk.i64_in _ (by omega)]; rfl
  rw [ht]
  dsimp only
  unfold strEq
  cases hq : (t.s.toList == s.toList) with
  | true =>
   have hq2 : (t.s.toList != s.toList) = false := by unfold bne; rw [hq]; rfl
   rw [cond_true]
   (refine ei_ Tryz.func148 Tryz.ntmps148 Tryz.results148 fun X hX => ?_)
   refine au_ (an2 (an5 e1 ht hlt j2 j3) (an3 hq hq2 e2)) ?_
   exact oj_ an0 (.inl rfl)
  | false =>
   have hq2 : (t.s.toList != s.toList) = true := by unfold bne; rw [hq]; rfl
   rw [cond_false]
   (refine ei_ Tryz.func148 Tryz.ntmps148 Tryz.results148 fun X hX => ?_)
   refine au_ (an2 (an5 e1 ht hlt j2 j3) (an2 hq hq2)) ?_
   exact oj_ an0 (.inl rfl)
 ·have e1 : decide ((l.length : Int) ≤ (k : Int)) = true := by simp; omega
  rw [List.getElem?_eq_none (by omega)]
  dsimp only
  rw [cond_false]
  (refine ei_ Tryz.func148 Tryz.ntmps148 Tryz.results148 fun X hX => ?_)
  refine au_ e1 ?_
  exact oj_ an0 (.inl rfl)
set_option maxHeartbeats 4000000 in
theorem pkind_l (l : List Vl) (en : Int) (k : Nat) (n : Int) : SpL Tryz.prog 165 [.one (.optr 1000 0), .one (.t false (.lit (.int .i64 n)))] 67 (paH l en k) (.one (.t true (.lit (.bool (kindP l n k))))) (paH l en k) 26 := by
 intro vs hlen hone
 unfold kindP
 unfold paH
 by_cases hlt : k < l.length
 ·obtain ⟨t, ht⟩ : ∃ t, l[k]? = some t := ⟨_, List.getElem?_eq_getElem hlt⟩
  have e1 : decide ((k : Int) < (l.length : Int)) = true := by simp; omega
  have j2 : (k : Int) < (l.length : Int) := by omega
  have j3 : (0 : Int) ≤ (k : Int) := by omega
  rw [ht]
  dsimp only
  (refine ei_ Tryz.func165 Tryz.ntmps165 Tryz.results165 fun X hX => ?_)
  refine au_ (an5 e1 ht hlt j2 j3) ?_
  exact oj_ an0 (.inl rfl)
 ·have e1 : decide ((k : Int) < (l.length : Int)) = false := by simp; omega
  rw [List.getElem?_eq_none (by omega)]
  (refine ei_ Tryz.func165 Tryz.ntmps165 Tryz.results165 fun X hX => ?_)
  refine au_ e1 ?_
  exact oj_ an0 (.inl rfl)
set_option maxHeartbeats 4000000 in
theorem pname_l (l : List Vl) (hl : GoodL l) (en : Int) (k : Nat) (h : nameP l k = true) : SpL Tryz.prog 111 [.one (.optr 1000 0)] 67 (paH l en k) (.one (.t true (.lit (.string (txP l k))))) (paH l en (k + 1)) 26 := by
 intro vs hlen hone
 have hll := hl.len
 unfold nameP at h
 unfold txP paH
 by_cases hlt : k < l.length
 ·obtain ⟨t, ht⟩ : ∃ t, l[k]? = some t := ⟨_, List.getElem?_eq_getElem hlt⟩
  obtain ⟨_, _, _, hz, _⟩ := tok_facts (hl.tok t (List.mem_of_getElem? ht))
  have hN := cname_sp t.s (by unfold maxLen; omega)
  rw [ht] at h ⊢
  dsimp only at h ⊢
  rw [h] at hN
  have e1 : decide ((l.length : Int) ≤ (k : Int)) = false := by simp; omega
  have j2 : (k : Int) < (l.length : Int) := by omega
  have j3 : (0 : Int) ≤ (k : Int) := by omega
  have e2 : IntKind.i64.wrap ((k : Int) + 1) = ((k + 1 : Nat) : Int) := by rw [IntWalk.i64_in _ (by omega)]; rfl
  have e3 : IntKind.i64.wrap (((k + 1 : Nat) : Int) - 1) = (k : Int) := by rw [IntWalk.i64_in _ (by omega)]; omega
  (refine ei_ Tryz.func111 Tryz.ntmps111 Tryz.results111 fun X hX => ?_)
  refine au_ (an2 (an5 e1 ht hlt j2 j3) (an2 e2 e3)) ?_
  exact oj_ an0 (.inl rfl)
 ·rw [List.getElem?_eq_none (by omega)] at h
  cases h
set_option maxHeartbeats 4000000 in
theorem pname_p (l : List Vl) (hl : GoodL l) (en : Int) (k : Nat) (h : nameP l k = false) : SpPL Tryz.prog 111 [.one (.optr 1000 0)] 67 (paH l en k) (chP l en k) 26 := by
 intro vs hlen hone
 have hF := pfail_l l en k
 unfold nameP at h
 unfold paH at hF ⊢
 by_cases hlt : k < l.length
 ·obtain ⟨t, ht⟩ : ∃ t, l[k]? = some t := ⟨_, List.getElem?_eq_getElem hlt⟩
  obtain ⟨_, _, _, hz, _⟩ := tok_facts (hl.tok t (List.mem_of_getElem? ht))
  have hN := cname_sp t.s (by unfold maxLen; omega)
  rw [ht] at h
  dsimp only at h
  rw [h] at hN
  have e1 : decide ((l.length : Int) ≤ (k : Int)) = false := by simp; omega
  have j2 : (k : Int) < (l.length : Int) := by omega
  have j3 : (0 : Int) ≤ (k : Int) := by omega
  (refine ep_ Tryz.func111 Tryz.ntmps111 fun X hX hpn => ?_)
  refine au_ (an5 e1 ht hlt j2 j3) ?_
  (refine rn_ 0 an0 fun K hK => ?_; refine rx_ an0 ?_; exact pn_ 1000 an0 (hF) hpn)
 ·have e1 : decide ((l.length : Int) ≤ (k : Int)) = true := by simp; omega
  (refine ep_ Tryz.func111 Tryz.ntmps111 fun X hX hpn => ?_)
  refine au_ e1 ?_
  (refine rn_ 0 an0 fun K hK => ?_; refine rx_ an0 ?_; exact pn_ 1000 an0 (hF) hpn)
end Go.Proofs.YtjdgejfhnfnmgaaGreatDoor.Ax
