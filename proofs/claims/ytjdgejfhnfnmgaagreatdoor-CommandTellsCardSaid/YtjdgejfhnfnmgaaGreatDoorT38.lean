/-  -/
import Derived.Test.YtjdgejfhnfnmgaaGreatDoorT15
import Derived.Test.YtjdgejfhnfnmgaaGreatDoorT36
import Derived.Test.YtjdgejfhnfnmgaaGreatDoorT37
import Derived.Test.YtjdgejfhnfnmgaaGreatDoorT2
import Derived.Test.YtjdgejfhnfnmgaaGreatDoorRows
import Derived.Stop.LaidErr
import Derived.Lib.LaidTab
import Derived.MakeChecks
namespace Go.Proofs.YtjdgejfhnfnmgaaGreatDoor.Ax
open Go.RowKit
set_option linter.unusedSimpArgs false
attribute [local go_sem] ty3 ty4 ty9 ty5 ty26 ty24 ty29 ty27 ty54 ty22 ty25 ty31 ty32
set_option linter.unusedVariables false
set_option maxRecDepth 100000
end Go.Proofs.YtjdgejfhnfnmgaaGreatDoor.Ax
namespace Go.Proofs.YtjdgejfhnfnmgaaGreatDoor.Ax
open Go.RowKit
theorem same_refl (v : Vl) : v.same v = true := by
 obtain ⟨k, n, s⟩ := v
 unfold Vl.same
 simp
theorem sameE_refl (e : Ex) : sameE e e = true := by
 induction e using Ex.ind with
 | h k v nm ar ih =>
  rw [sameE]
  have key : ∀ l : List Ex, (∀ x ∈ l, sameE x x = true) → sameEs l l = true := by
   intro l
   induction l with
   | nil => intro _; rw [sameEs]
   | cons x l ih2 =>
    intro h
    rw [sameEs, h x List.mem_cons_self, ih2 fun y hy => h y (List.mem_cons_of_mem _ hy)]
    rfl
  rw [same_refl, key ar ih]
  simp
theorem eqBy_refl {α : Type} {p : α → α → Bool} (h : ∀ x, p x x = true) : ∀ l : List α, eqBy p l l = true
 | [] => rfl
 | x :: l => by rw [eqBy, h x, eqBy_refl h l]; rfl
theorem sameC_refl (c : Cm) : sameC c c = true := by
 unfold sameC
 rw [same_refl, sameE_refl, sameE_refl, eqBy_refl (fun x => by unfold colEq; simp), eqBy_refl (fun x => by unfold strEq; simp), eqBy_refl same_refl]
 simp
set_option linter.unusedSimpArgs false
attribute [local go_sem] ty3 ty4 ty9 ty5 ty26 ty24 ty29 ty27 ty54 ty22 ty25 ty31 ty32
set_option linter.unusedVariables false
set_option maxRecDepth 100000
end Go.Proofs.YtjdgejfhnfnmgaaGreatDoor.Ax
namespace Go.Proofs.YtjdgejfhnfnmgaaGreatDoor
open Go.RowKit
theorem sameTK_get : ∀ {l r : List Vl}, sameTK l r → ∀ k : Nat, (l[k]?).map (fun v => (v.k, v.s)) = (r[k]?).map (fun v => (v.k, v.s))
 | [], [], _, k => rfl
 | [], _ :: _, h, _ => by unfold sameTK at h; exact h.elim
 | _ :: _, [], h, _ => by unfold sameTK at h; exact h.elim
 | v :: l, u :: r, h, 0 => by
  unfold sameTK at h
  simp only [List.getElem?_cons_zero, Option.map_some]
  rw [h.1, h.2.1]
 | v :: l, u :: r, h, k + 1 => by
  unfold sameTK at h
  simp only [List.getElem?_cons_succ]
  exact sameTK_get h.2.2 k
theorem sameTK_len : ∀ {l r : List Vl}, sameTK l r → l.length = r.length
 | [], [], _ => rfl
 | [], _ :: _, h => by unfold sameTK at h; exact h.elim
 | _ :: _, [], h => by unfold sameTK at h; exact h.elim
 | v :: l, u :: r, h => by
  unfold sameTK at h
  rw [List.length_cons, List.length_cons, sameTK_len h.2.2]
section
variable {l r : List Vl} (h : sameTK l r)
include h
theorem tk_take : takeB l = takeB r := by
 funext s k
 have := sameTK_get h k
 unfold takeB
 cases hl : l[k]? <;> cases hr : r[k]? <;> rw [hl, hr] at this <;> simp at this
 all_goals first | rfl | (dsimp only; rw [this.2])
theorem tk_name : nameP l = nameP r := by
 funext k
 have := sameTK_get h k
 unfold nameP
 cases hl : l[k]? <;> cases hr : r[k]? <;> rw [hl, hr] at this <;> simp at this
 all_goals first | rfl | (dsimp only; rw [this.2])
theorem tk_kind : kindP l = kindP r := by
 funext n k
 have := sameTK_get h k
 unfold kindP
 cases hl : l[k]? <;> cases hr : r[k]? <;> rw [hl, hr] at this <;> simp at this
 all_goals first | rfl | (dsimp only; rw [this.1])
theorem tk_tx : txP l = txP r := by
 funext k
 have := sameTK_get h k
 unfold txP
 cases hl : l[k]? <;> cases hr : r[k]? <;> rw [hl, hr] at this <;> simp at this
 all_goals first | rfl | exact this.2
theorem tk_one : ∀ (k : Nat) (L : List ByteArray) (i : Nat), oneP l k L i = oneP r k L i
 | _, [], _ => rfl
 | k, s :: L, i => by
  unfold oneP
  rw [tk_take h, tk_one k L (i + 1)]
theorem tk_vP : vP l = vP r := by
 funext k
 unfold vP
 rw [tk_take h, tk_kind h, tk_tx h]
theorem tk_nameR : nameR l = nameR r := by
 funext k
 unfold nameR
 rw [tk_name h, tk_tx h]
theorem tk_needR : needR l = needR r := by
 funext s k
 unfold needR
 rw [tk_take h]
theorem tk_wordR : wordR l = wordR r := by
 funext L k
 unfold wordR
 rw [tk_one h]
theorem tk_mustR : mustR l = mustR r := by
 funext k
 unfold mustR
 rw [tk_vP h]
theorem tk_typR : typR l = typR r := by
 funext k
 unfold typR
 rw [tk_wordR h]
theorem tk_colR : colR l = colR r := by
 funext k
 unfold colR
 rw [tk_nameR h, tk_typR h]
theorem tk_leafR : leafR l = leafR r := by
 funext k
 unfold leafR
 rw [tk_vP h, tk_nameR h]
theorem tk_exR : ∀ f : Nat, exR l f = exR r f
 | 0 => by
  funext k
  unfold exR
  rw [tk_take h, tk_leafR h]
 | f + 1 => by
  funext k
  unfold exR pairR
  rw [tk_take h, tk_leafR h, tk_exR f, tk_needR h, tk_wordR h]
theorem tk_whereR : whereR l = whereR r := by
 funext k
 unfold whereR
 rw [tk_take h, tk_exR h 60]
theorem tk_moreR {α : Type} (E : Nat → PR α) : ∀ f : Nat, moreR l E f = moreR r E f
 | 0 => rfl
 | f + 1 => by
  funext k
  unfold moreR
  rw [tk_take h, tk_moreR E f]
theorem tk_someR {α : Type} (E : Nat → PR α) : someR l E = someR r E := by
 funext k
 unfold someR
 rw [sameTK_len h, tk_moreR h]
theorem tk_listR {α : Type} (E : Nat → PR α) : listR l E = listR r E := by
 funext k
 unfold listR
 rw [tk_needR h, tk_someR h]
theorem tk_cmdR : cmdR l = cmdR r := by
 have hb : bodyR l = bodyR r := by
  funext i k
  unfold bodyR createR dropR alterR insertR deleteR updateR selectsR fieldsR orderR limitR numR
  rw [tk_take h, tk_needR h, tk_nameR h, tk_wordR h, tk_listR h, tk_listR h, tk_colR h, tk_mustR h, tk_typR h, tk_whereR h, tk_exR h 60, tk_someR h, tk_kind h, tk_tx h]
 unfold cmdR
 rw [hb, tk_wordR h, sameTK_len h]
end
end Go.Proofs.YtjdgejfhnfnmgaaGreatDoor
namespace Go.Proofs.YtjdgejfhnfnmgaaGreatDoor.Ax
open Go.RowKit
theorem rdRows_vls {w : World} {ok : Nat → Prop} {s b : Nat} : ∀ {l : List Vl} {o : Nat}, RdRows w ok s b o (rVs l) → ∀ (j : Nat) u, (l.flatMap Vl.cells)[j]? = some u → w.cell? ⟨b, o + j, none⟩ = some u
 | [], _, _, _, _, hx => by simp at hx
 | y :: l, o, h, j, u, hx => by
  unfold rVs at h
  rw [List.map_cons] at h
  unfold RdRows at h
  obtain ⟨h1, h2, h3⟩ := h
  have hs : s = 3 := h1.symm
  subst hs
  rw [List.flatMap_cons] at hx
  have hc : Vl.cells y = [.int .i64 y.k, .int .i64 y.n, .string y.s] := rfl
  rw [hc] at hx
  unfold rV1 RdRow RdRow RdRow at h2
  obtain ⟨⟨x0, a0, b0⟩, ⟨x1, a1, b1⟩, ⟨x2, a2, b2⟩, _⟩ := h2
  unfold RdT at b0 b1 b2
  rw [b0.1] at a0
  rw [b1.1] at a1
  rw [b2.1] at a2
  match j, hx with
  | 0, hx => cases hx; exact a0
  | 1, hx => cases hx; exact a1
  | 2, hx => cases hx; exact a2
  | j + 3, hx =>
   have := rdRows_vls (l := l) h3 j u (by simpa using hx)
   rwa [show o + (j + 3) = o + 3 + j by omega]
theorem flat3_len : ∀ l : List Vl, (l.flatMap Vl.cells).length = l.length * 3
 | [] => rfl
 | x :: l => by
  have := flat3_len l
  simp [List.flatMap_cons, Vl.cells] at *
  omega
theorem tjoin_sp (l : List Vl) (hl : l.length * 32 ≤ 140737488351232) (hm : ∀ v ∈ l, v.s.size ≤ maxLen) : Sp Tryz.prog 20 [.one (.sl (rVs l))] (.tup [.one (.t true (.lit (.string (joinS l).1))), .one (.t true (.lit (.int .i64 (joinS l).2)))]) [] where
 enters := enters_of Tryz.func20 (by kernel_rfl) rfl
 calls w S hS vs hG hvs := by
  match vs, hvs with
  | [x], hvs =>
   unfold RdAs RdA RdT at hvs
   obtain ⟨⟨A, n, c, rfl, h1, h2, h3⟩, _⟩ := hvs
   have h1' : l.length = n := by rw [← h1]; unfold rVs; rw [List.length_map]
   subst h1'
   have hr : _root_.Go.Proofs.YtjdgejfhnfnmgaaGreatDoor.RdV w w.heap.size A l.length l := by
    refine ⟨flat3_len l, ?_⟩
    rcases h3 with h0 | ⟨b, o, s, rfl, hok, hr⟩
    ·exact .inl h0
    ·exact .inr ⟨b, o, rfl, hS b hok, fun j u hu => rdRows_vls hr j u hu⟩
   refine (join_any l A l.length c w hr hl hm).mono fun e w' => ?_
   rintro ⟨rfl, hb⟩
   refine ⟨_, deadR, rfl, hb, (by intro _ _ _ h; cases h), (by intro _ _ _ _ _ h; cases h), fun _ _ => rfl, ?_, (by intro _ _ h; cases h)⟩
   unfold RdV
   refine ⟨_, rfl, ?_⟩
   unfold RdVs RdVs RdVs RdV RdC RdT
   exact ⟨⟨rfl, rfl⟩, ⟨rfl, rfl⟩, trivial⟩
theorem tbegun_sp : Sp Tryz.prog 18 [] (.one (.t true (.lit (.bool true)))) [] where
 enters := enters_of Tryz.func18 (by kernel_rfl) rfl
 calls w S hS vs hG hvs := by
  match vs, hvs with
  | [], hvs =>
   refine (begun_any w).mono fun e w' => ?_
   rintro ⟨rfl, hb⟩
   exact ⟨_, deadR, rfl, hb, (by intro _ _ _ h; cases h), (by intro _ _ _ _ _ h; cases h), fun _ _ => rfl, rd_lit rfl, (by intro _ _ h; cases h)⟩
set_option linter.unusedSimpArgs false
attribute [local go_sem] ty3 ty4 ty9 ty5 ty26 ty24 ty29 ty27 ty54 ty22 ty25 ty31 ty32 ty77 ty43 meltSt
set_option linter.unusedVariables false
set_option maxRecDepth 100000
theorem parseP_ok {s : ByteArray} (h : (parseP s).2.2 = 0) : checkP (parseP s).1 = 0 ∧ goodCm (parseP s).1 := by
 unfold parseP at h ⊢
 by_cases he : (scanS s).2.2 = 0
 ·rw [if_pos he] at h ⊢
  cases hc : cmdR (scanS s).1 with
  | ok c k =>
   rw [hc] at h
   dsimp only at h ⊢
   by_cases hk : checkP c = 0
   ·rw [if_pos hk]
    exact ⟨hk, cmd_good (scanS_good he) hc⟩
   ·rw [if_neg hk] at h
    exact absurd h hk
  | bad k =>
   rw [hc] at h
   cases h
 ·rw [if_neg he] at h
  dsimp only at h
  omega
theorem parseP_zero {s : ByteArray} (h : ¬ (parseP s).2.2 = 0) : (parseP s).1 = zCm := by
 unfold parseP at h ⊢
 by_cases he : (scanS s).2.2 = 0
 ·rw [if_pos he] at h ⊢
  cases hc : cmdR (scanS s).1 with
  | ok c k =>
   rw [hc] at h
   dsimp only at h ⊢
   by_cases hk : checkP c = 0
   ·rw [if_pos hk] at h
    exact absurd rfl h
   ·rw [if_neg hk]
  | bad k => rfl
 ·rw [if_neg he]
theorem parseP_good (s : ByteArray) : goodCm (parseP s).1 := by
 by_cases h : (parseP s).2.2 = 0
 ·exact (parseP_ok h).2
 ·rw [parseP_zero h]; exact zCm_good
theorem parseP_same {s t : ByteArray} (h1 : (scanS s).2.2 = 0) (h2 : (scanS t).2.2 = 0) (h : sameTK (scanS s).1 (scanS t).1) : (parseP s).1 = (parseP t).1 ∧ (parseP s).2.2 = (parseP t).2.2 := by
 unfold parseP
 rw [if_pos h1, if_pos h2, tk_cmdR h]
 cases cmdR (scanS t).1 with
 | ok c k =>
  dsimp only
  split <;> exact ⟨rfl, rfl⟩
 | bad k => exact ⟨rfl, rfl⟩
set_option maxHeartbeats 16000000 in
theorem ctells_sp (s : ByteArray) (hs : s.size ≤ maxLen) : Sp Tryz.prog 6 [.one (.lit (.string s))] (.one (.t true (.lit (.bool true)))) [] := by
 have hB := cbegun_sp
 have hB2 := tbegun_sp
 have hP := parse_sp s hs
 have hS := (pscan_sp s hs).ren [(0, 33)] rfl rfl rfl rfl
 unfold vParse at hP
 rw [cmC_map, rCm_eta] at hP
 by_cases hx : (scanS s).2.2 = 0
 ·have hl := scanS_good hx
  have h1 := (scanS_one s hx).1
  have hJ := tjoin_sp (scanS s).1 (by have := hl.len; omega) (fun v hv => by
   obtain ⟨_, _, _, h, _⟩ := tok_facts (hl.tok v hv)
   unfold maxLen
   omega)
  have hR : (rVs (scanS s).1).length = (scanS s).1.length := List.length_map _
  have hg := parseP_good s
  have hok := fun h => (parseP_ok (s := s) h).1
  have hK := ccheck_sp (parseP s).1 hg
  have hC := samecmd_sp (parseP s).1 (parseP s).1 hg.cols hg.vals hg.fields hg.ex hg.wh
  rw [sameC_refl] at hC
  rw [rCm_eta] at hK hC
  rw [hx] at hS
  by_cases hj : 2001 < lenJ (scanS s).1
  ·have hjs : joinS (scanS s).1 = (bs [], 2) := by unfold joinS; rw [if_pos h1, if_pos hj]
   rw [hjs] at hJ
   clear hC
   generalize parseP s = p at *
   obtain ⟨c, at_, e⟩ := p
   dsimp only at *
   have n2 : ((2 : Nat) : Int) = 2 := rfl
   have n0 : ((0 : Nat) : Int) = 0 := rfl
   by_cases he : e = 0
   ·subst he
    rw [hok rfl] at hK
    (refine en_ Tryz.func6 Tryz.ntmps6 Tryz.results6 fun X hX => ?_)
    refine gs_ ?_
    refine au_ (an3 hR n2 n0) ?_
    exact oq_ an0
   ·have e1 : (e == 0) = false := by simp; omega
    have e2 : (e != 0) = true := by simp; omega
    (refine en_ Tryz.func6 Tryz.ntmps6 Tryz.results6 fun X hX => ?_)
    refine gs_ ?_
    refine au_ (an5 hR n2 n0 e1 e2) ?_
    exact oq_ an0
  ·have hjs : joinS (scanS s).1 = (bs (joinL (scanS s).1), 0) := by unfold joinS; rw [if_pos h1, if_neg hj]
   obtain ⟨ts, hts, hsm⟩ := join_scan _ h1 hj
   rw [hjs] at hJ
   have hsz : (bs (joinL (scanS s).1)).size ≤ 2000 := by
    cases hv : (scanS s).1 with
    | nil => decide
    | cons v vs =>
     have := joinL_len v vs
     rw [hv] at hj
     show (joinL (v :: vs)).toArray.size ≤ _
     rw [List.size_toArray]
     omega
   generalize bs (joinL (scanS s).1) = j at *
   have hP2 := parse_sp j (by unfold maxLen; omega)
   obtain ⟨g1, g2⟩ := parseP_same (s := s) (t := j) hx (by rw [hts]) (by rw [hts]; exact hsm)
   unfold vParse at hP2
   rw [cmC_map, rCm_eta, ← g1, ← g2] at hP2
   generalize parseP s = p at *
   obtain ⟨c, at_, e⟩ := p
   generalize (parseP j).2.1 = at2 at *
   dsimp only at *
   have n0 : ((0 : Nat) : Int) = 0 := rfl
   have e3 : (e == e) = true := beq_self_eq_true _
   by_cases he : e = 0
   ·subst he
    rw [hok rfl] at hK
    (refine en_ Tryz.func6 Tryz.ntmps6 Tryz.results6 fun X hX => ?_)
    refine gs_ ?_
    refine au_ (an2 hR n0) ?_
    exact oq_ an0
   ·have e1 : (e == 0) = false := by simp; omega
    have e2 : (e != 0) = true := by simp; omega
    (refine en_ Tryz.func6 Tryz.ntmps6 Tryz.results6 fun X hX => ?_)
    refine gs_ ?_
    refine au_ (an5 hR n0 e1 e2 e3) ?_
    exact oq_ an0
 ·have hp : parseP s = (zCm, ((scanS s).2.1 : Int), ((scanS s).2.2 : Int)) := by unfold parseP; rw [if_neg hx]
  rw [hp] at hP
  generalize scanS s = x at *
  obtain ⟨l, at_, e⟩ := x
  dsimp only at *
  have hR : (rVs l).length = l.length := List.length_map _
  have e1 : ((e : Int) == 0) = false := by simp; omega
  have e2 : ((e : Int) != 0) = true := by simp; omega
  have e3 : ((e : Int) == (e : Int)) = true := beq_self_eq_true _
  unfold zCm zE at hP
  dsimp only at hP
  (refine en_ Tryz.func6 Tryz.ntmps6 Tryz.results6 fun X hX => ?_)
  refine gs_ ?_
  refine au_ (an4 hR e1 e2 e3) ?_
  exact oq_ an0
end Go.Proofs.YtjdgejfhnfnmgaaGreatDoor.Ax
namespace Go.Proofs.YtjdgejfhnfnmgaaGreatDoor.Ax
open Go.RowKit
theorem tab_data : (Rows.laid_internal_strconv_uint64pow10 : DataW Unit) = Lib.tabData .u64 Lib.pow10Tab := by rfl
abbrev laidL5 : List (String × DataW Unit) := [("math/bits.deBruijn32tab", Rows.laid_math_bits_deBruijn32tab), ("math/bits.deBruijn64tab", Rows.laid_math_bits_deBruijn64tab), ("internal/strconv.uint64pow10", Rows.laid_internal_strconv_uint64pow10), ("strconv.ErrRange", Rows.laid_strconv_ErrRange), ("strconv.ErrSyntax", Rows.laid_strconv_ErrSyntax)]
theorem gw_of_laid5 {W : World} (h : laidMetH Tryz.prog laidL5 W) : GW W := by
 rw [MakeChecks.laidMetH_plain _ _ _ (by kernel_rfl)] at h
 have h3 := h.tail.tail
 rw [show (Rows.laid_internal_strconv_uint64pow10 : DataW Unit) = Lib.tabData .u64 Lib.pow10Tab from tab_data] at h3
 have hT : Lib.TabIs Tryz.prog W "internal/strconv.uint64pow10" .u64 Lib.pow10Tab :=
  Lib.tabIs_of_head (g := 1) (t := 161) (e := 149) (n := 20) (by kernel_rfl) (by kernel_rfl) (by kernel_rfl) (by kernel_rfl) (by kernel_rfl) (by kernel_rfl) h3
 have hlt : ∀ {name : String} {g : Nat} {cs : Array Value}, Tryz.prog.globalNamed name = some g → W.var? Tryz.prog name = some cs → g < W.heap.size := fun {name g cs} hg hv => by
  unfold World.var? at hv
  rw [hg] at hv
  simp only [Option.bind_some] at hv
  split at hv
  ·rename_i h
   exact (Array.getElem?_eq_some_iff.1 h).1
  ·cases hv
 have g1 := hlt (g := 1) (by kernel_rfl) hT
 exact ⟨by unfold NG; omega, hT⟩
end Go.Proofs.YtjdgejfhnfnmgaaGreatDoor.Ax
