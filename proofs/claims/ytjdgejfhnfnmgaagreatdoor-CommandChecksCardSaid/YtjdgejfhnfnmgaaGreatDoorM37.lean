/-  -/
import Derived.Test.YtjdgejfhnfnmgaaGreatDoorAxW
import Derived.Test.YtjdgejfhnfnmgaaGreatDoorM31
import Derived.Test.YtjdgejfhnfnmgaaGreatDoorM34
import Derived.Test.YtjdgejfhnfnmgaaGreatDoorM35
import Derived.Test.YtjdgejfhnfnmgaaGreatDoorM36
import Derived.Test.YtjdgejfhnfnmgaaGreatDoorM22
import Derived.Test.YtjdgejfhnfnmgaaGreatDoorAxGl
import Derived.Test.YtjdgejfhnfnmgaaGreatDoorRows
import Derived.Stop.LaidErr
import Derived.Lib.LaidTab
import Derived.MakeChecks
namespace Go.Proofs.YtjdgejfhnfnmgaaGreatDoor.Ax
open Go.RowKit
theorem pscan_sp (s : ByteArray) (hs : s.size ≤ maxLen) : Sp Tryz.prog 19 [.one (.lit (.string s))] (.tup [.one (.own 0 (scanS s).1.length), .one (.t true (.lit (.int .i64 (scanS s).2.1))), .one (.t true (.lit (.int .i64 (scanS s).2.2)))]) [(0, .arr 77 3 true (rVs (scanS s).1))] :=
 sp_rowsT (enters_of Tryz.func19 (by kernel_rfl) rfl) [.string s] rfl 77 _ _ _ fun w => (scan_any s w hs).mono fun _ _ ⟨v, h1, h2, h3⟩ => ⟨v, h1, own_low h2 (Nat.le_succ _), h3⟩
set_option linter.unusedSimpArgs false
attribute [local go_sem] ty3 ty4 ty9 ty5 ty26 ty24 ty29 ty27 ty54 ty22 ty25 ty31 ty32 ty77 ty43 ty67 ty65 meltSt zC zK
set_option linter.unusedVariables false
set_option maxRecDepth 100000
theorem rCm_eta (c : Cm) : rCm c = [.lit (.int .i64 c.k), .lit (.string c.name), .lit (.string c.other), .lit (.string c.column), .sl (rCs c.cols), .lit (.int .i64 c.ty), .lit (.int .i64 c.v.k), .lit (.int .i64 c.v.n), .lit (.string c.v.s), .sl (rVs c.vals), .sl (rS c.fields), .lit (.int .i64 c.ex.k), .lit (.int .i64 c.ex.vk.k), .lit (.int .i64 c.ex.vk.n), .lit (.string c.ex.vk.s), .lit (.string c.ex.nm), .sl (c.ex.ar.map rE), .lit (.bool c.all), .lit (.int .i64 c.wh.k), .lit (.int .i64 c.wh.vk.k), .lit (.int .i64 c.wh.vk.n), .lit (.string c.wh.vk.s), .lit (.string c.wh.nm), .sl (c.wh.ar.map rE), .lit (.string c.order), .lit (.int .i64 c.limit)] := by
 unfold rCm
 rw [rE_eta, rE_eta]
 rfl
theorem cmC_map (c : Cm) : cmC c = (rCm c).map (C.t true) := by
 rw [rCm_eta]
 rfl
def parseP (s : ByteArray) : Cm × Int × Int :=
 if (scanS s).2.2 = 0 then match cmdR (scanS s).1 with
  | .ok c _ => if checkP c = 0 then (c, 0, 0) else (zCm, 0, checkP c)
  | .bad k => (zCm, hereP (scanS s).1 s.size k, 1)
 else (zCm, (scanS s).2.1, (scanS s).2.2)
def vParse (r : Cm × Int × Int) : V := .tup [.agg (cmC r.1), .one (.t true (.lit (.int .i64 r.2.1))), .one (.t true (.lit (.int .i64 r.2.2)))]
set_option maxHeartbeats 16000000 in
theorem parse_sp (s : ByteArray) (hs : s.size ≤ maxLen) : Sp Tryz.prog 14 [.one (.lit (.string s))] (vParse (parseP s)) [] := by
 have hS := (pscan_sp s hs).ren [(0, 11)] rfl rfl rfl rfl
 have hgl := scanS_good (s := s)
 unfold parseP
 generalize scanS s = x at *
 obtain ⟨l, at_, e⟩ := x
 dsimp only at hS hgl ⊢
 by_cases he : e = 0
 ·subst he
  have hl := hgl rfl
  rw [if_pos rfl]
  have hP := pparse_io l hl s.size
  rw [← cmdR_eq] at hP
  unfold zC at hP
  have hgd := fun c k h => cmd_good (c := c) (k := k) hl h
  have hR : (rVs l).length = l.length := List.length_map _
  have hz : ((0 : Nat) : Int) = 0 := rfl
  cases hc : cmdR l with
  | ok c k =>
   have hK := ccheck_sp c (hgd c k hc)
   rw [rCm_eta] at hK
   rw [hc] at hP
   unfold parseV at hP
   have hP := hP.ren [(1000, 25)] rfl
   unfold vParse
   by_cases hck : checkP c = 0
   ·rw [hck] at hK
    dsimp only
    rw [if_pos hck]
    dsimp only
    unfold cmC at hP ⊢
    ((refine en_ Tryz.func14 Tryz.ntmps14 Tryz.results14 fun X hX => ?_); refine gs_ ?_; (refine rn_ 8 an0 fun K hK => ?_; refine rr_ an0 ?_); ((first | refine rwr_nil (hK _ ?_) | refine de_ (hK _ ?_)); clear hK K); refine gs_ ?_; (refine rn_ 8 an0 fun K hK => ?_; refine rr_ an0 ?_); (refine ca_ an0 ?_ (hsp := hS); refine rr_ an0 ?_); ((first | refine rwr_nil (hK _ ?_) | refine de_ (hK _ ?_)); clear hK K); refine gs_ ?_; refine cw_melt 5 11 rfl rfl (by first | exact List.length_map _ | rfl) ?_; refine au_ (an2 hR hz) ?_)
    (refine rn_ 8 (an2 hz hR) fun K hK => ?_; refine rr_ (an2 hz hR) ?_)
    (refine rwr_io 40 (SpIO.ren (hP) [(25, 25)] rfl) rfl rfl (by simp only [go_sem, Nat.reduceAdd, Nat.reduceSub, Nat.reduceMul, Nat.reduceLT, Nat.reduceLeDiff, Nat.reduceEqDiff, Nat.reduceBEq, Int.reduceToNat, Int.reduceLE, Int.reduceLT, Int.reduceEq, Int.reduceBEq, Int.reduceBNe, ↓reduceIte, reduceCtorEq, meltSt, zC, zK, hX]; exact rfl) (by simp only [go_sem, Nat.reduceAdd, Nat.reduceSub, Nat.reduceMul, Nat.reduceLT, Nat.reduceLeDiff, Nat.reduceEqDiff, Nat.reduceBEq, Int.reduceToNat, Int.reduceLE, Int.reduceLT, Int.reduceEq, Int.reduceBEq, Int.reduceBNe, ↓reduceIte, reduceCtorEq, meltSt, zC, zK, hX]) (by simp only [go_sem, Nat.reduceAdd, Nat.reduceSub, Nat.reduceMul, Nat.reduceLT, Nat.reduceLeDiff, Nat.reduceEqDiff, Nat.reduceBEq, Int.reduceToNat, Int.reduceLE, Int.reduceLT, Int.reduceEq, Int.reduceBEq, Int.reduceBNe, ↓reduceIte, reduceCtorEq, meltSt, zC, zK, hX]) (by simp only [go_sem, Nat.reduceAdd, Nat.reduceSub, Nat.reduceMul, Nat.reduceLT, Nat.reduceLeDiff, Nat.reduceEqDiff, Nat.reduceBEq, Int.reduceToNat, Int.reduceLE, Int.reduceLT, Int.reduceEq, Int.reduceBEq, Int.reduceBNe, ↓reduceIte, reduceCtorEq, meltSt, zC, zK, hX]) (by simp only [go_sem, Nat.reduceAdd, Nat.reduceSub, Nat.reduceMul, Nat.reduceLT, Nat.reduceLeDiff, Nat.reduceEqDiff, Nat.reduceBEq, Int.reduceToNat, Int.reduceLE, Int.reduceLT, Int.reduceEq, Int.reduceBEq, Int.reduceBNe, ↓reduceIte, reduceCtorEq, meltSt, zC, zK, hX]) rfl (by rw [hX]; rfl) ?_; simp only [go_sem, Nat.reduceAdd, Nat.reduceSub, Nat.reduceMul, Nat.reduceLT, Nat.reduceLeDiff, Nat.reduceEqDiff, Nat.reduceBEq, Int.reduceToNat, Int.reduceLE, Int.reduceLT, Int.reduceEq, Int.reduceBEq, Int.reduceBNe, ↓reduceIte, reduceCtorEq, meltSt, zC, zK, hX])
    ((first | refine rwr_nil (hK _ ?_) | refine de_ (hK _ ?_)); clear hK K)
    refine au_ (an2 hR hz) ?_
    exact op_ an0 (.inl rfl)
   ·dsimp only
    rw [if_neg hck]
    generalize checkP c = q at *
    have e1 : (q != 0) = true := by simp; omega
    have e2 : (q == 0) = false := by simp; omega
    dsimp only
    unfold cmC at hP
    unfold cmC zCm zE
    ((refine en_ Tryz.func14 Tryz.ntmps14 Tryz.results14 fun X hX => ?_); refine gs_ ?_; (refine rn_ 8 an0 fun K hK => ?_; refine rr_ an0 ?_); ((first | refine rwr_nil (hK _ ?_) | refine de_ (hK _ ?_)); clear hK K); refine gs_ ?_; (refine rn_ 8 an0 fun K hK => ?_; refine rr_ an0 ?_); (refine ca_ an0 ?_ (hsp := hS); refine rr_ an0 ?_); ((first | refine rwr_nil (hK _ ?_) | refine de_ (hK _ ?_)); clear hK K); refine gs_ ?_; refine cw_melt 5 11 rfl rfl (by first | exact List.length_map _ | rfl) ?_; refine au_ (an2 hR hz) ?_)
    (refine rn_ 8 (an2 hz hR) fun K hK => ?_; refine rr_ (an2 hz hR) ?_)
    (refine rwr_io 40 (SpIO.ren (hP) [(25, 25)] rfl) rfl rfl (by simp only [go_sem, Nat.reduceAdd, Nat.reduceSub, Nat.reduceMul, Nat.reduceLT, Nat.reduceLeDiff, Nat.reduceEqDiff, Nat.reduceBEq, Int.reduceToNat, Int.reduceLE, Int.reduceLT, Int.reduceEq, Int.reduceBEq, Int.reduceBNe, ↓reduceIte, reduceCtorEq, meltSt, zC, zK, hX]; exact rfl) (by simp only [go_sem, Nat.reduceAdd, Nat.reduceSub, Nat.reduceMul, Nat.reduceLT, Nat.reduceLeDiff, Nat.reduceEqDiff, Nat.reduceBEq, Int.reduceToNat, Int.reduceLE, Int.reduceLT, Int.reduceEq, Int.reduceBEq, Int.reduceBNe, ↓reduceIte, reduceCtorEq, meltSt, zC, zK, hX]) (by simp only [go_sem, Nat.reduceAdd, Nat.reduceSub, Nat.reduceMul, Nat.reduceLT, Nat.reduceLeDiff, Nat.reduceEqDiff, Nat.reduceBEq, Int.reduceToNat, Int.reduceLE, Int.reduceLT, Int.reduceEq, Int.reduceBEq, Int.reduceBNe, ↓reduceIte, reduceCtorEq, meltSt, zC, zK, hX]) (by simp only [go_sem, Nat.reduceAdd, Nat.reduceSub, Nat.reduceMul, Nat.reduceLT, Nat.reduceLeDiff, Nat.reduceEqDiff, Nat.reduceBEq, Int.reduceToNat, Int.reduceLE, Int.reduceLT, Int.reduceEq, Int.reduceBEq, Int.reduceBNe, ↓reduceIte, reduceCtorEq, meltSt, zC, zK, hX]) (by simp only [go_sem, Nat.reduceAdd, Nat.reduceSub, Nat.reduceMul, Nat.reduceLT, Nat.reduceLeDiff, Nat.reduceEqDiff, Nat.reduceBEq, Int.reduceToNat, Int.reduceLE, Int.reduceLT, Int.reduceEq, Int.reduceBEq, Int.reduceBNe, ↓reduceIte, reduceCtorEq, meltSt, zC, zK, hX]) rfl (by rw [hX]; rfl) ?_; simp only [go_sem, Nat.reduceAdd, Nat.reduceSub, Nat.reduceMul, Nat.reduceLT, Nat.reduceLeDiff, Nat.reduceEqDiff, Nat.reduceBEq, Int.reduceToNat, Int.reduceLE, Int.reduceLT, Int.reduceEq, Int.reduceBEq, Int.reduceBNe, ↓reduceIte, reduceCtorEq, meltSt, zC, zK, hX])
    ((first | refine rwr_nil (hK _ ?_) | refine de_ (hK _ ?_)); clear hK K)
    refine au_ (an4 hR hz e1 e2) ?_
    exact op_ an0 (.inl rfl)
  | bad k =>
   rw [hc] at hP
   unfold parseV at hP
   have hP := hP.ren [(1000, 25)] rfl
   unfold vParse cmC zCm zE
   dsimp only
   ((refine en_ Tryz.func14 Tryz.ntmps14 Tryz.results14 fun X hX => ?_); refine gs_ ?_; (refine rn_ 8 an0 fun K hK => ?_; refine rr_ an0 ?_); ((first | refine rwr_nil (hK _ ?_) | refine de_ (hK _ ?_)); clear hK K); refine gs_ ?_; (refine rn_ 8 an0 fun K hK => ?_; refine rr_ an0 ?_); (refine ca_ an0 ?_ (hsp := hS); refine rr_ an0 ?_); ((first | refine rwr_nil (hK _ ?_) | refine de_ (hK _ ?_)); clear hK K); refine gs_ ?_; refine cw_melt 5 11 rfl rfl (by first | exact List.length_map _ | rfl) ?_; refine au_ (an2 hR hz) ?_)
   (refine rn_ 8 (an2 hz hR) fun K hK => ?_; refine rr_ (an2 hz hR) ?_)
   (refine rwr_io 40 (SpIO.ren (hP) [(25, 25)] rfl) rfl rfl (by simp only [go_sem, Nat.reduceAdd, Nat.reduceSub, Nat.reduceMul, Nat.reduceLT, Nat.reduceLeDiff, Nat.reduceEqDiff, Nat.reduceBEq, Int.reduceToNat, Int.reduceLE, Int.reduceLT, Int.reduceEq, Int.reduceBEq, Int.reduceBNe, ↓reduceIte, reduceCtorEq, meltSt, zC, zK, hX]; exact rfl) (by simp only [go_sem, Nat.reduceAdd, Nat.reduceSub, Nat.reduceMul, Nat.reduceLT, Nat.reduceLeDiff, Nat.reduceEqDiff, Nat.reduceBEq, Int.reduceToNat, Int.reduceLE, Int.reduceLT, Int.reduceEq, Int.reduceBEq, Int.reduceBNe, ↓reduceIte, reduceCtorEq, meltSt, zC, zK, hX]) (by simp only [go_sem, Nat.reduceAdd, Nat.reduceSub, Nat.reduceMul, Nat.reduceLT, Nat.reduceLeDiff, Nat.reduceEqDiff, Nat.reduceBEq, Int.reduceToNat, Int.reduceLE, Int.reduceLT, Int.reduceEq, Int.reduceBEq, Int.reduceBNe, ↓reduceIte, reduceCtorEq, meltSt, zC, zK, hX]) (by simp only [go_sem, Nat.reduceAdd, Nat.reduceSub, Nat.reduceMul, Nat.reduceLT, Nat.reduceLeDiff, Nat.reduceEqDiff, Nat.reduceBEq, Int.reduceToNat, Int.reduceLE, Int.reduceLT, Int.reduceEq, Int.reduceBEq, Int.reduceBNe, ↓reduceIte, reduceCtorEq, meltSt, zC, zK, hX]) (by simp only [go_sem, Nat.reduceAdd, Nat.reduceSub, Nat.reduceMul, Nat.reduceLT, Nat.reduceLeDiff, Nat.reduceEqDiff, Nat.reduceBEq, Int.reduceToNat, Int.reduceLE, Int.reduceLT, Int.reduceEq, Int.reduceBEq, Int.reduceBNe, ↓reduceIte, reduceCtorEq, meltSt, zC, zK, hX]) rfl (by rw [hX]; rfl) ?_; simp only [go_sem, Nat.reduceAdd, Nat.reduceSub, Nat.reduceMul, Nat.reduceLT, Nat.reduceLeDiff, Nat.reduceEqDiff, Nat.reduceBEq, Int.reduceToNat, Int.reduceLE, Int.reduceLT, Int.reduceEq, Int.reduceBEq, Int.reduceBNe, ↓reduceIte, reduceCtorEq, meltSt, zC, zK, hX])
   ((first | refine rwr_nil (hK _ ?_) | refine de_ (hK _ ?_)); clear hK K)
   refine au_ (an2 hR hz) ?_
   exact op_ an0 (.inl rfl)
 ·rw [if_neg he]
  have e1 : ((e : Int) != 0) = true := by simp; omega
  have e2 : ((e : Int) == 0) = false := by simp; omega
  unfold vParse cmC zCm zE
  dsimp only
  (refine en_ Tryz.func14 Tryz.ntmps14 Tryz.results14 fun X hX => ?_)
  refine gs_ ?_
  (refine rn_ 8 an0 fun K hK => ?_; refine rr_ an0 ?_)
  ((first | refine rwr_nil (hK _ ?_) | refine de_ (hK _ ?_)); clear hK K)
  refine gs_ ?_
  (refine rn_ 8 an0 fun K hK => ?_; refine rr_ an0 ?_)
  (refine ca_ an0 ?_ (hsp := hS); refine rr_ an0 ?_)
  ((first | refine rwr_nil (hK _ ?_) | refine de_ (hK _ ?_)); clear hK K)
  refine au_ (an2 e1 e2) ?_
  exact op_ an0 (.inl rfl)
end Go.Proofs.YtjdgejfhnfnmgaaGreatDoor.Ax
namespace Go.Proofs.YtjdgejfhnfnmgaaGreatDoor.Ax
open Go.RowKit
set_option linter.unusedSimpArgs false
attribute [local go_sem] ty3 ty4 ty9 ty5 ty26 ty24 ty29 ty27 ty54 ty22 ty25 ty31 ty32
set_option linter.unusedVariables false
set_option maxRecDepth 100000
theorem small_parseP : parseP smallT = (smallC, 0, 0) := by kernel_rfl
set_option maxHeartbeats 16000000 in
theorem cbegun_sp : Sp Tryz.prog 16 [] (.one (.t true (.lit (.bool true)))) [] := by
 have h1 := parse_sp smallT (by decide)
 rw [small_parseP] at h1
 have h2 := ccheck_sp smallC small_goodCm
 rw [small_check] at h2
 unfold vParse at h1
 rw [cmC_map] at h1
 unfold smallT at h1
 unfold smallC smallE smallW at h1 h2
 rw [rCm_mk] at h1 h2
 simp only [List.map_cons, List.map_nil, Vl.zero, rCs, rVs, rS] at h1 h2
 generalize hq : List.map rE smallAE = q1 at *
 generalize hw : List.map rE smallAW = q2 at *
 have e1 : ((⟨#[97]⟩ : ByteArray).toList == (⟨#[97]⟩ : ByteArray).toList) = true := beq_self_eq_true _
 (refine en_ Tryz.func16 Tryz.ntmps16 Tryz.results16 fun X hX => ?_)
 refine gs_ ?_
 refine au_ e1 ?_
 exact oq_ an0
set_option maxHeartbeats 16000000 in
theorem cchecks_sp (c : Cm) (hc : goodCm c) : Sp Tryz.prog 5 [.agg (rCm c)] (.one (.t true (.lit (.bool true)))) [] := by
 have hB := cbegun_sp
 have h1 := ccheck_sp c hc
 have h2 := rcheck_csp c hc
 generalize checkP c = q at *
 have e1 : (q == q) = true := beq_self_eq_true _
 rw [rCm_eta] at h1 h2 ⊢
 (refine en_ Tryz.func5 Tryz.ntmps5 Tryz.results5 fun X hX => ?_)
 refine au_ e1 ?_
 exact oq_ an0
end Go.Proofs.YtjdgejfhnfnmgaaGreatDoor.Ax
namespace Go.Proofs.YtjdgejfhnfnmgaaGreatDoor.Ax
open Go.RowKit
theorem tab_data : (Rows.laid_internal_strconv_uint64pow10 : DataW Unit) = Lib.tabData .u64 Lib.pow10Tab := by rfl
abbrev laidL5 : List (String × DataW Unit) := [("math/bits.deBruijn32tab", Rows.laid_math_bits_deBruijn32tab), ("math/bits.deBruijn64tab", Rows.laid_math_bits_deBruijn64tab), ("internal/strconv.uint64pow10", Rows.laid_internal_strconv_uint64pow10), ("strconv.ErrRange", Rows.laid_strconv_ErrRange), ("strconv.ErrSyntax", Rows.laid_strconv_ErrSyntax)]
theorem gw_of_laid5 {W : World} (h : laidMetH Tryz.prog laidL5 W) : GW W := by
 rw [MakeChecks.laidMetH_plain _ _ _ (by kernel_rfl)] at h
 have h3 := h.tail.tail
 rw [show (Rows.laid_internal_strconv_uint64pow10 : DataW Unit) = Lib.tabData .u64 Lib.pow10Tab from tab_data] at h3
 have hT : Lib.TabIs Tryz.prog W "internal/strconv.uint64pow10" .u64 Lib.pow10Tab :=
  Lib.tabIs_of_head (g := 1) (t := 161) (e := 149) (n := 20) (by kernel_rfl) (by kernel_rfl) (by kernel_rfl) (by kernel_rfl) (by kernel_rfl) (by kernel_rfl) h3
 have hlt : ∀ {name : String} {g : Nat} {cs : Array Value}, Tryz.prog.globalNamed name = some g → W.var? Tryz.prog name = some cs → g < W.heap.size := fun {name g cs} hg hv => by
  unfold World.var? at hv
  rw [hg] at hv
  simp only [Option.bind_some] at hv
  split at hv
  ·rename_i h
   exact (Array.getElem?_eq_some_iff.1 h).1
  ·cases hv
 have g1 := hlt (g := 1) (by kernel_rfl) hT
 exact ⟨by unfold NG; omega, hT⟩
end Go.Proofs.YtjdgejfhnfnmgaaGreatDoor.Ax
