/-  -/
import Derived.Test.YtjdgejfhnfnmgaaGreatDoorT15
import Derived.Test.YtjdgejfhnfnmgaaGreatDoorT36
import Derived.Test.YtjdgejfhnfnmgaaGreatDoorT23
import Derived.Test.YtjdgejfhnfnmgaaGreatDoorT1
import Derived.Test.YtjdgejfhnfnmgaaGreatDoorShelf
import Derived.BigQuiet
import Derived.Handy
import Derived.Deep.QuietTactic
import Derived.Deep.LoopGhost
import Derived.Test.YtjdgejfhnfnmgaaGreatDoorT34
namespace Go.Proofs.YtjdgejfhnfnmgaaGreatDoor.Ax
open Go.RowKit
set_option linter.unusedSimpArgs false
attribute [local go_sem] ty3 ty4 ty9 ty5 ty26 ty24 ty29 ty27 ty54 ty22 ty25 ty31 ty32
set_option linter.unusedVariables false
set_option maxRecDepth 100000
theorem small_parseP : parseP smallT = (smallC, 0, 0) := by kernel_rfl
set_option maxHeartbeats 16000000 in
theorem cbegun_sp : Sp Tryz.prog 16 [] (.one (.t true (.lit (.bool true)))) [] := by
 have h1 := parse_sp smallT (by decide)
 rw [small_parseP] at h1
 have h2 := ccheck_sp smallC small_goodCm
 rw [small_check] at h2
 unfold vParse at h1
 rw [cmC_map] at h1
 unfold smallT at h1
 unfold smallC smallE smallW at h1 h2
 rw [rCm_mk] at h1 h2
 simp only [List.map_cons, List.map_nil, Vl.zero, rCs, rVs, rS] at h1 h2
 generalize hq : List.map rE smallAE = q1 at *
 generalize hw : List.map rE smallAW = q2 at *
 have e1 : ((⟨#[97]⟩ : ByteArray).toList == (⟨#[97]⟩ : ByteArray).toList) = true := beq_self_eq_true _
 (refine en_ Tryz.func16 Tryz.ntmps16 Tryz.results16 fun X hX => ?_)
 refine gs_ ?_
 refine au_ e1 ?_
 exact oq_ an0
end Go.Proofs.YtjdgejfhnfnmgaaGreatDoor.Ax
namespace Go.Proofs.YtjdgejfhnfnmgaaGreatDoor
open Go.RowKit
theorem lenJ_take (vs : List Vl) (k : Nat) (v : Vl) (h : vs[k]? = some v) : lenJ (vs.take (k + 1)) = lenJ (vs.take k) + 1 + v.s.size := by
 induction vs generalizing k with
 | nil => simp at h
 | cons u l ih =>
  cases k with
  | zero => simp at h; subst h; simp [lenJ]
  | succ k => rw [List.take_succ_cons, List.take_succ_cons, lenJ, lenJ, ih k (by simpa using h)]; omega
theorem allOne_take (vs : List Vl) (k : Nat) (v : Vl) (h : vs[k]? = some v) (ha : allOne (vs.take k) = true) (hv : oneB v.k v.s = true) : allOne (vs.take (k + 1)) = true := by
 rw [List.take_add_one, h]
 simp only [allOne, List.all_append, Bool.and_eq_true] at ha ⊢
 exact ⟨ha, by simp [hv]⟩
theorem allOne_not (vs : List Vl) (k : Nat) (v : Vl) (h : vs[k]? = some v) (hv : oneB v.k v.s = false) : allOne vs = false := by
 rw [← Bool.not_eq_true]
 intro ha
 simp only [allOne, List.all_eq_true] at ha
 rw [ha v (List.mem_of_getElem? h)] at hv
 cases hv
def JoinPost (T : ByteArray × Nat) (w : World) (e : Ending) (w' : World) : Prop :=
 e = .returned (.tuple #[.string T.1, .int .i64 T.2]) ∧ Below w.heap.size w w'
end Go.Proofs.YtjdgejfhnfnmgaaGreatDoor
namespace Go.Proofs.YtjdgejfhnfnmgaaGreatDoor
open Go.RowKit
theorem elStr : ElT Tryz.prog 26 9 (.string ⟨#[]⟩) 1 16 := elT_mk Tryz.underlying26 (by kernel_rfl) rfl (by decide)
def strsC (vs : List Vl) : List Value := vs.map fun v => .string v.s
theorem strsC_take (vs : List Vl) (k : Nat) (v : Vl) (h : vs[k]? = some v) : strsC (vs.take (k + 1)) = strsC (vs.take k) ++ [.string v.s] := by
 rw [List.take_add_one, h]; simp [strsC]
theorem joins_any (vs : List Vl) (v : Value) (n : Nat) (base : Nat) (w : World) (hown : w.ownsRow base 9 1 v n (strsC vs)) (hl : (joinL vs).length ≤ 2000) (hn : n ≤ 140737488355328) :
  Calls Tryz.prog 55 #[v, .string ⟨#[32]⟩] w fun e w' => e = .returned (.string (bs (joinL vs))) ∧ Below w.heap.size w w' := by
 have hlen : vs.length = n := by have := hown.1; simpa [strsC] using this
 rcases hown.2 with ⟨rfl, h0⟩ | ⟨g, cap, cur, rfl, _, hh, hnc, hcm, hcs, ht⟩
 ·obtain rfl := h0
  obtain rfl : vs = [] := List.eq_nil_of_length_eq_zero hlen
  refine (Tryz.strings_Join_none none 0 _ w).mono ?_
  rintro e w' ⟨rfl, rfl⟩
  exact ⟨rfl, Below.refl _ _⟩
 ·have e1 : (vs.map (·.s)).length = n := by rw [List.length_map]; exact hlen
  have e2 : Lib.join ((vs.map (·.s)).map (·.data.toList)) (⟨#[32]⟩ : ByteArray).data.toList = joinL vs := by
   unfold joinL txts
   rw [List.map_map]; rfl
  have := Tryz.strings_Join g 0 cap (vs.map (·.s)) ⟨#[32]⟩ w (fun j x hx => by
   rw [Nat.zero_add, cell_of_row w g j cur 9 (0, 0) hh]
   have hu : (strsC vs)[j]? = some (.string x) := by
    rw [List.getElem?_map] at hx
    unfold strsC
    rw [List.getElem?_map]
    rcases hj : vs[j]? with _ | y
    ·rw [hj] at hx; cases hx
    ·rw [hj] at hx; simp at hx; simp [hx]
   rw [← ht, List.getElem?_take] at hu
   split at hu
   ·simpa using hu
   ·cases hu) (Blk.lt (t := 9) (cs := cur) hh) (by rw [e1]; exact hn) (by rw [e1]; exact hnc) (by rw [e2]; omega)
  rw [e1, e2] at this
  refine this.mono ?_
  rintro e w' ⟨rfl, hb⟩
  exact ⟨rfl, hb⟩
set_option maxHeartbeats 1000000 in
theorem join_any (vs : List Vl) (A : Option Addr) (n c : Nat) (w : World) (hr : RdV w w.heap.size A n vs) (hn : n * 32 ≤ 140737488351232) (hm : ∀ v ∈ vs, v.s.size ≤ maxLen) :
  Calls Tryz.prog 20 #[.slice A n c] w (JoinPost (joinS vs) w) := by
 have HL := Lib.hid hr.len
 have hn1 : n ≤ 9223372036854775807 := by omega
 have HS : Hid (joinS vs = (if allOne vs = true then (if 2001 < lenJ vs then (bs [], 2) else (bs (joinL vs), 0)) else (bs [], 1))) := Lib.hid rfl
 go_enter Tryz.func20, Tryz.ntmps20
 go_wp2_with fail
 go_loopg [4, 5, 10] n (fun m s u i wr => ∃ (k q : Nat), u = .int .i64 (q : Int) ∧ i = .int .i64 k ∧ k ≤ n ∧ m = n - k ∧ q = lenJ (vs.take k) ∧ q ≤ 2001 * k ∧ wr.ownsRow w.heap.size 9 1 s k (strsC (vs.take k)) ∧ allOne (vs.take k) = true ∧ Below w.heap.size w wr)
 case atStart => exact ⟨0, 0, rfl, rfl, Nat.zero_le _, rfl, rfl, Nat.zero_le _, World.ownsRow_nil _ _ _ _, rfl, Below.refl _ _⟩
 case round =>
  obtain ⟨k, q, rfl, rfl, hk, rfl, hq, hqk, hown, ha, hb⟩ := hrel
  by_cases hlt : k < n
  ·obtain ⟨v, hv⟩ : ∃ v, vs[k]? = some v := ⟨vs[k]'(by rw [HL.out]; exact hlt), List.getElem?_eq_getElem _⟩
   obtain ⟨b, o, rfl, hbl, c0, c1, c2⟩ := (show RdV wr w.heap.size A n vs from Rd.below hr hb).at_ k v hv
   have hvm := hm v (List.mem_of_getElem? hv)
   have HI := Lib.hid (fun W => one_any v.k v.s W hvm)
   have HF := Lib.hid (allOne_not vs k v hv)
   have HA := Lib.hid (allOne_take vs k v hv ha)
   have HLN := Lib.hid (lenJ_take vs k v hv)
   have HST := Lib.hid (strsC_take vs k v hv)
   have HO := Lib.hid (@oneB_size v.k v.s)
   have HQ := Lib.hid hq
   clear hv ha hm hq
   obtain ⟨vk, vn, vs1⟩ := v
   simp only at c0 c1 c2 HI HF HA HLN HO HST
   rcases h1 : oneB vk vs1 with _ | _
   ·have HR := Lib.hid (show joinS vs = (bs [], 1) by rw [HS.out, HF.out h1]; rfl)
    rw [h1] at HI
    clear h1 HA
    go_wp2_with fail
    refine (HI.out _).mono ?_
    rintro e w1 ⟨rfl, hb1⟩
    go_wp2_with fail
    go_ret2
    rw [HR.out]
    exact ⟨rfl, (hb.alloc hb.size _).trans (hb1.mono (by have := hb.size; simp; omega))⟩
   ·have ha' := HA.out h1
    have hsz := HO.out h1
    rw [h1] at HI
    have hq2 := HLN.out
    rw [← HQ.out] at hq2
    have HA' := Lib.hid ha'
    have HQ2 := Lib.hid hq2
    obtain ⟨hsz1, hsz2⟩ := hsz
    clear h1 ha' hq2 HQ HLN HF HA HO
    obtain ⟨q', hq'⟩ : ∃ q' : Nat, q' = q + 1 + vs1.size := ⟨_, rfl⟩
    have HQ3 := Lib.hid hq'
    have hqi : (q : Int) + (1 + (vs1.size : Int)) = (q' : Int) := by omega
    have hqq : q' ≤ 2001 * (k + 1) := by omega
    have hqb : (q' : Int) ≤ 9223372036854775807 := by omega
    have hqm : q ≤ q' := by omega
    clear hq'
    have hz := hb.size
    go_wp2_with fail
    refine (HI.out _).mono ?_
    rintro e w1 ⟨rfl, hb1⟩
    have z1 := hb1.size
    simp only [World.size_alloc] at z1
    have hbA := (hb.alloc hz (.cells #[.int .i64 vk, .int .i64 vn, .string vs1] 77)).trans (hb1.mono (by simp; omega))
    have d2 : w1.cell? ⟨wr.heap.size, 2, none⟩ = some (.string vs1) := (hb1.cell (by simp)).trans ((Blk.fresh wr _ _).cell 2)
    have hown1 := own_below (hown.alloc _) hb1
    have hne := own_ne hown (Nat.le_refl _)
    have hlt1 : wr.heap.size < w1.heap.size := by omega
    go_wp2_with (at_builtin; refine wpList_app rfl (.tmp 20) (.tmp 23) elStr rfl hown1 rfl rfl (by simp) (by simp) rfl (by unfold maxLen; omega) (by omega) (by omega) ?_; intro v3 w3 hown3 hl3 hat3; have d3 := (hl3.far ⟨wr.heap.size, 2, none⟩ hlt1 hne).trans d2)
    go_roundg (n - (k + 1))
    case rel => exact ⟨k + 1, q', rfl, rfl, by omega, rfl, by rw [HQ3.out, HQ2.out], hqq, by rw [HST.out]; exact hown3, HA'.out, hbA.trans (hl3.below.mono (by omega))⟩
    case measure => omega
  ·have hkn : k = n := by omega
   have htk : vs.take k = vs := List.take_of_length_le (by rw [HL.out]; omega)
   rw [htk] at hown ha hq
   have hR := HS.out
   rw [if_pos ha, ← hq] at hR
   by_cases hle : 2001 < q
   ·rw [if_pos hle] at hR
    have HR := Lib.hid hR
    clear hR ha hq htk hkn
    go_wp2_with fail
    go_ret2
    rw [HR.out]
    exact ⟨rfl, hb⟩
   ·rw [if_neg hle] at hR
    have hjl : (joinL vs).length ≤ 2000 := by
     rcases vs with _ | ⟨v, l⟩
     ·simp [joinL, txts, Lib.join_nil]
     ·have := joinL_len v l; omega
    have HJ := Lib.hid (joins_any vs _ k w.heap.size wr hown hjl (by omega))
    have HR := Lib.hid hR
    clear hR ha hq htk hkn hjl
    go_wp2_with fail
    refine HJ.out.mono ?_
    rintro e w1 ⟨rfl, hb1⟩
    go_wp2_with fail
    go_ret2
    rw [HR.out]
    exact ⟨rfl, hb.trans (hb1.mono hb.size)⟩
end Go.Proofs.YtjdgejfhnfnmgaaGreatDoor
namespace Go.Proofs.YtjdgejfhnfnmgaaGreatDoor
open Go.RowKit
end Go.Proofs.YtjdgejfhnfnmgaaGreatDoor
namespace Go.Proofs.YtjdgejfhnfnmgaaGreatDoor
open Go.RowKit
def text0 : ByteArray := ⟨#[97, 98, 32, 61, 32, 55, 59, 32, 39, 120, 39]⟩
def toks0 : List Vl := [⟨1, 0, bs [97, 98]⟩, ⟨4, 3, bs [61]⟩, ⟨2, 5, bs [55]⟩, ⟨4, 6, bs [59]⟩, ⟨3, 8, bs [39, 120, 39]⟩]
theorem scan0 : scanS text0 = (toks0, 0, 0) := by kernel_rfl
theorem join0 : joinS toks0 = (bs [97, 98, 32, 61, 32, 55, 32, 59, 32, 39, 120, 39], 0) := by kernel_rfl
theorem scanS_len (s : ByteArray) : (scanS s).1.length ≤ 2000 ∧ ∀ v ∈ (scanS s).1, v.s.size ≤ maxLen := by
 by_cases h : (scanS s).2.2 = 0
 ·have h1 := (scanS_one s h).1
  refine ⟨?_, fun v hv => ?_⟩
  ·unfold scanS at h ⊢
   split at h
   ·cases h
   ·rename_i h2
    rw [if_neg h2]
    rcases hF : scanF (s.size + 1) s.data.toList 0 with ⟨ts, q, e⟩
    rw [hF] at h
    simp only at h
    subst h
    have := scanF_zero hF
    subst this
    have := (scanF_one _ _ _ (by rw [size_list]; omega) _ hF).2
    rw [size_list] at this
    exact Nat.le_trans this (by omega)
  ·simp only [allOne, List.all_eq_true] at h1
   have := oneB_size (h1 v hv)
   unfold maxLen
   omega
 ·rw [scanS_bad s h]
  exact ⟨Nat.zero_le _, fun v hv => by cases hv⟩
set_option maxHeartbeats 2000000 in
theorem begun_any (w : World) :
  Calls Tryz.prog 18 #[] w fun e w' => e = .returned (.bool true) ∧ Below w.heap.size w w' := by
 have HC := Lib.hid (fun W => scan0 ▸ scan_any text0 W (by unfold maxLen; decide))
 have HJ := Lib.hid (fun A c W hr => join0 ▸ join_any toks0 A 5 c W hr (by decide) (fun v hv => by
  have := scanS_len text0
  rw [scan0] at this
  exact this.2 v hv))
 go_enter Tryz.func18, Tryz.ntmps18
 go_wp2_with fail
 refine (HC.out w).mono ?_
 rintro e w1 ⟨v, rfl, hown, hb1⟩
 dsimp only at hown ⊢
 have z1 := hb1.size
 rw [show toks0.length = 5 from rfl] at hown
 obtain ⟨g, cap, rfl, hg1, hg2⟩ := hown.form (by decide)
 obtain ⟨A1, c1, he, hrd, hn1⟩ := rd_of_own hown
 obtain ⟨rfl, _, rfl⟩ := Value.slice.inj he
 clear he hn1
 go_wp2_with fail
 refine (HJ.out _ _ w1 hrd).mono ?_
 rintro e w2 ⟨rfl, hb2⟩
 have hown2 := own_below hown hb2
 have d0 : w2.cell? ⟨g, 3, none⟩ = some (.int .i64 4) := hown2.cellAt 3 (by decide)
 have d1 : w2.cell? ⟨g, 4, none⟩ = some (.int .i64 3) := hown2.cellAt 4 (by decide)
 have d2 : w2.cell? ⟨g, 5, none⟩ = some (.string (bs [61])) := hown2.cellAt 5 (by decide)
 have e1 := bs_toList [61]
 have e2 := bs_toList [97, 98, 32, 61, 32, 55, 32, 59, 32, 39, 120, 39]
 dsimp only
 go_wp2_with fail
 go_ret
 exact ⟨rfl, hb1.trans (hb2.mono z1)⟩
end Go.Proofs.YtjdgejfhnfnmgaaGreatDoor
namespace Go.Proofs.YtjdgejfhnfnmgaaGreatDoor.Ax
open Go.RowKit
set_option linter.unusedSimpArgs false
attribute [local go_sem] ty3 ty4 ty9 feq24 ty24 ty25 feq54 ty54 ty22 ty26 ty27 ty29 ty31 List.append_eq
set_option linter.unusedVariables false
set_option maxRecDepth 100000
theorem sameC_ref (c d : Cm) : sameC c d = ((c.k == d.k) && ((c.name.toList == d.name.toList) && ((c.other.toList == d.other.toList) && ((c.column.toList == d.column.toList) && ((c.ty == d.ty) && (c.v.same d.v && ((c.all == d.all) && ((c.order.toList == d.order.toList) && ((c.limit == d.limit) && (sameE c.ex d.ex && (sameE c.wh d.wh && (eqBy Vl.same c.vals d.vals && (eqBy colEq c.cols d.cols && eqBy strEq c.fields d.fields))))))))))))) := by
 unfold sameC
 simp only [Bool.and_assoc]
 cases c.k == d.k <;> cases c.name.toList == d.name.toList <;> try rfl
 all_goals
  cases sameE c.ex d.ex <;> cases sameE c.wh d.wh <;> cases eqBy colEq c.cols d.cols <;> cases eqBy strEq c.fields d.fields <;> cases eqBy Vl.same c.vals d.vals <;> simp only [Bool.and_false, Bool.false_and, Bool.and_true, Bool.true_and]
set_option maxHeartbeats 16000000 in
theorem samecmd_sp (c d : Cm) (hc : c.cols.length ≤ maxLen) (hv : c.vals.length ≤ maxLen) (hf : c.fields.length ≤ maxLen) (he : goodE c.ex) (hw : goodE c.wh) :
  Sp Tryz.prog 13 [.agg (rCm c), .agg (rCm d)] (.one (.t true (.lit (.bool (sameC c d))))) [] := by
 rw [sameC_ref]
 have hQ1 := samee_sp c.ex he d.ex
 have hQ2 := samee_sp c.wh hw d.wh
 have hQ4 := samevalues_sp c.vals d.vals hv
 have hS := rsame_sp c.v d.v
 obtain ⟨k, name, other, column, cols, ty, v, vals, fields, ⟨k1, v1, n1, a1⟩, all, ⟨k2, v2, n2, a2⟩, order, limit⟩ := c
 obtain ⟨k', name', other', column', cols', ty', v', vals', fields', ⟨k1', v1', n1', a1'⟩, all', ⟨k2', v2', n2', a2'⟩, order', limit'⟩ := d
 dsimp only at *
 rw [rCm_mk, rCm_mk]
 rw [rE_mk, rE_mk] at hQ1 hQ2
 unfold maxLen at hc hf
 generalize sameE (.mk k1 v1 n1 a1) (.mk k1' v1' n1' a1') = b1 at *
 generalize sameE (.mk k2 v2 n2 a2) (.mk k2' v2' n2' a2') = b2 at *
 generalize eqBy Vl.same vals vals' = b4 at *
 generalize v.same v' = b6 at *
 (refine en_ Tryz.func13 Tryz.ntmps13 Tryz.results13 fun X hX => ?_)
 (refine gs_ ?_)
 (refine rn_ 8 an0 fun K hK => ?_; refine rr_ an0 ?_)
 ((first | refine rwr_nil (hK _ ?_) | refine de_ (hK _ ?_)); clear hK K)
 (refine gs_ ?_)
 cases e1 : (k == k')
 ·rw [Bool.false_and]
  have e1n : (k != k') = true := by rw [bne, e1]; rfl
  (refine rn_ 8 (an2 e1 e1n) fun K hK => ?_)
  (refine rw_goN (k := 8) ?_; (refine sm_ (an2 e1 e1n) ?_))
  (refine rr_ (an2 e1 e1n) ?_)
  ((first | refine rwr_nil (hK _ ?_) | refine de_ (hK _ ?_)); clear hK K)
  (refine go_ an0 ?_)
  (first | exact oq_ an0 | refine ou_ an0 ?_)
 rw [Bool.true_and]
 have e1n : (k != k') = false := by rw [bne, e1]; rfl
 cases e2 : (name.toList == name'.toList)
 ·rw [Bool.false_and]
  (refine rn_ 8 (an3 e1 e1n e2) fun K hK => ?_)
  (refine rw_goN (k := 8) ?_; (refine sm_ (an3 e1 e1n e2) ?_))
  (refine rr_ (an3 e1 e1n e2) ?_)
  ((first | refine rwr_nil (hK _ ?_) | refine de_ (hK _ ?_)); clear hK K)
  (refine go_ an0 ?_)
  (first | exact oq_ an0 | refine ou_ an0 ?_)
 rw [Bool.true_and]
 cases e3 : (other.toList == other'.toList)
 ·rw [Bool.false_and]
  (refine rn_ 8 (an4 e1 e1n e2 e3) fun K hK => ?_)
  (refine rw_goN (k := 8) ?_; (refine sm_ (an4 e1 e1n e2 e3) ?_))
  (refine rr_ (an4 e1 e1n e2 e3) ?_)
  ((first | refine rwr_nil (hK _ ?_) | refine de_ (hK _ ?_)); clear hK K)
  (refine go_ an0 ?_)
  (first | exact oq_ an0 | refine ou_ an0 ?_)
 rw [Bool.true_and]
 cases e4 : (column.toList == column'.toList)
 ·rw [Bool.false_and]
  (refine rn_ 8 (an5 e1 e1n e2 e3 e4) fun K hK => ?_)
  (refine rw_goN (k := 8) ?_; (refine sm_ (an5 e1 e1n e2 e3 e4) ?_))
  (refine rr_ (an5 e1 e1n e2 e3 e4) ?_)
  ((first | refine rwr_nil (hK _ ?_) | refine de_ (hK _ ?_)); clear hK K)
  (refine go_ an0 ?_)
  (first | exact oq_ an0 | refine ou_ an0 ?_)
 rw [Bool.true_and]
 cases e5 : (ty == ty')
 ·rw [Bool.false_and]
  have e5n : (ty != ty') = true := by rw [bne, e5]; rfl
  (refine rn_ 8 (an7 e1 e1n e2 e3 e4 e5 e5n) fun K hK => ?_)
  (refine rw_goN (k := 8) ?_; (refine sm_ (an7 e1 e1n e2 e3 e4 e5 e5n) ?_))
  (refine rr_ (an7 e1 e1n e2 e3 e4 e5 e5n) ?_)
  ((first | refine rwr_nil (hK _ ?_) | refine de_ (hK _ ?_)); clear hK K)
  (refine go_ an0 ?_)
  (first | exact oq_ an0 | refine ou_ an0 ?_)
 rw [Bool.true_and]
 have e5n : (ty != ty') = false := by rw [bne, e5]; rfl
 cases b6
 ·rw [Bool.false_and]
  (refine rn_ 8 (an7 e1 e1n e2 e3 e4 e5 e5n) fun K hK => ?_)
  (refine rw_goN (k := 8) ?_; (refine sm_ (an7 e1 e1n e2 e3 e4 e5 e5n) ?_))
  (refine rr_ (an7 e1 e1n e2 e3 e4 e5 e5n) ?_)
  (refine ca_ (an7 e1 e1n e2 e3 e4 e5 e5n) ?_ (hsp := hS); refine rr_ (an7 e1 e1n e2 e3 e4 e5 e5n) ?_)
  (refine rr_ (an7 e1 e1n e2 e3 e4 e5 e5n) ?_)
  ((first | refine rwr_nil (hK _ ?_) | refine de_ (hK _ ?_)); clear hK K)
  (refine go_ an0 ?_)
  (first | exact oq_ an0 | refine ou_ an0 ?_)
 rw [Bool.true_and]
 cases e7 : (all == all')
 ·rw [Bool.false_and]
  have e7n : (all != all') = true := by rw [bne, e7]; rfl
  (refine rn_ 8 (an2 (an7 e1 e1n e2 e3 e4 e5 e5n) (an2 e7 e7n)) fun K hK => ?_)
  (refine rw_goN (k := 8) ?_; (refine sm_ (an2 (an7 e1 e1n e2 e3 e4 e5 e5n) (an2 e7 e7n)) ?_))
  (refine rr_ (an2 (an7 e1 e1n e2 e3 e4 e5 e5n) (an2 e7 e7n)) ?_)
  (refine ca_ (an2 (an7 e1 e1n e2 e3 e4 e5 e5n) (an2 e7 e7n)) ?_ (hsp := hS); refine rr_ (an2 (an7 e1 e1n e2 e3 e4 e5 e5n) (an2 e7 e7n)) ?_)
  (refine rr_ (an2 (an7 e1 e1n e2 e3 e4 e5 e5n) (an2 e7 e7n)) ?_)
  ((first | refine rwr_nil (hK _ ?_) | refine de_ (hK _ ?_)); clear hK K)
  (refine go_ an0 ?_)
  (first | exact oq_ an0 | refine ou_ an0 ?_)
 rw [Bool.true_and]
 have e7n : (all != all') = false := by rw [bne, e7]; rfl
 cases e8 : (order.toList == order'.toList)
 ·rw [Bool.false_and]
  (refine rn_ 8 (an2 (an7 e1 e1n e2 e3 e4 e5 e5n) (an3 e7 e7n e8)) fun K hK => ?_)
  (refine rw_goN (k := 8) ?_; (refine sm_ (an2 (an7 e1 e1n e2 e3 e4 e5 e5n) (an3 e7 e7n e8)) ?_))
  (refine rr_ (an2 (an7 e1 e1n e2 e3 e4 e5 e5n) (an3 e7 e7n e8)) ?_)
  (refine ca_ (an2 (an7 e1 e1n e2 e3 e4 e5 e5n) (an3 e7 e7n e8)) ?_ (hsp := hS); refine rr_ (an2 (an7 e1 e1n e2 e3 e4 e5 e5n) (an3 e7 e7n e8)) ?_)
  (refine rr_ (an2 (an7 e1 e1n e2 e3 e4 e5 e5n) (an3 e7 e7n e8)) ?_)
  ((first | refine rwr_nil (hK _ ?_) | refine de_ (hK _ ?_)); clear hK K)
  (refine go_ an0 ?_)
  (first | exact oq_ an0 | refine ou_ an0 ?_)
 rw [Bool.true_and]
 cases e9 : (limit == limit')
 ·rw [Bool.false_and]
  have e9n : (limit != limit') = true := by rw [bne, e9]; rfl
  (refine rn_ 8 (an2 (an7 e1 e1n e2 e3 e4 e5 e5n) (an5 e7 e7n e8 e9 e9n)) fun K hK => ?_)
  (refine rw_goN (k := 8) ?_; (refine sm_ (an2 (an7 e1 e1n e2 e3 e4 e5 e5n) (an5 e7 e7n e8 e9 e9n)) ?_))
  (refine rr_ (an2 (an7 e1 e1n e2 e3 e4 e5 e5n) (an5 e7 e7n e8 e9 e9n)) ?_)
  (refine ca_ (an2 (an7 e1 e1n e2 e3 e4 e5 e5n) (an5 e7 e7n e8 e9 e9n)) ?_ (hsp := hS); refine rr_ (an2 (an7 e1 e1n e2 e3 e4 e5 e5n) (an5 e7 e7n e8 e9 e9n)) ?_)
  (refine rr_ (an2 (an7 e1 e1n e2 e3 e4 e5 e5n) (an5 e7 e7n e8 e9 e9n)) ?_)
  ((first | refine rwr_nil (hK _ ?_) | refine de_ (hK _ ?_)); clear hK K)
  (refine go_ an0 ?_)
  (first | exact oq_ an0 | refine ou_ an0 ?_)
 rw [Bool.true_and]
 have e9n : (limit != limit') = false := by rw [bne, e9]; rfl
 cases b1
 ·rw [Bool.false_and]
  (refine rn_ 8 (an2 (an7 e1 e1n e2 e3 e4 e5 e5n) (an5 e7 e7n e8 e9 e9n)) fun K hK => ?_)
  (refine rw_goN (k := 8) ?_; (refine sm_ (an2 (an7 e1 e1n e2 e3 e4 e5 e5n) (an5 e7 e7n e8 e9 e9n)) ?_))
  (refine rr_ (an2 (an7 e1 e1n e2 e3 e4 e5 e5n) (an5 e7 e7n e8 e9 e9n)) ?_)
  (refine ca_ (an2 (an7 e1 e1n e2 e3 e4 e5 e5n) (an5 e7 e7n e8 e9 e9n)) ?_ (hsp := hS); refine rr_ (an2 (an7 e1 e1n e2 e3 e4 e5 e5n) (an5 e7 e7n e8 e9 e9n)) ?_)
  (refine rr_ (an2 (an7 e1 e1n e2 e3 e4 e5 e5n) (an5 e7 e7n e8 e9 e9n)) ?_)
  (refine ca_ (an2 (an7 e1 e1n e2 e3 e4 e5 e5n) (an5 e7 e7n e8 e9 e9n)) ?_ (hsp := hQ1); refine rr_ (an2 (an7 e1 e1n e2 e3 e4 e5 e5n) (an5 e7 e7n e8 e9 e9n)) ?_)
  (refine rr_ (an2 (an7 e1 e1n e2 e3 e4 e5 e5n) (an5 e7 e7n e8 e9 e9n)) ?_)
  ((first | refine rwr_nil (hK _ ?_) | refine de_ (hK _ ?_)); clear hK K)
  (refine go_ an0 ?_)
  (first | exact oq_ an0 | refine ou_ an0 ?_)
 rw [Bool.true_and]
 cases b2
 ·rw [Bool.false_and]
  (refine rn_ 8 (an2 (an7 e1 e1n e2 e3 e4 e5 e5n) (an5 e7 e7n e8 e9 e9n)) fun K hK => ?_)
  (refine rw_goN (k := 8) ?_; (refine sm_ (an2 (an7 e1 e1n e2 e3 e4 e5 e5n) (an5 e7 e7n e8 e9 e9n)) ?_))
  (refine rr_ (an2 (an7 e1 e1n e2 e3 e4 e5 e5n) (an5 e7 e7n e8 e9 e9n)) ?_)
  (refine ca_ (an2 (an7 e1 e1n e2 e3 e4 e5 e5n) (an5 e7 e7n e8 e9 e9n)) ?_ (hsp := hS); refine rr_ (an2 (an7 e1 e1n e2 e3 e4 e5 e5n) (an5 e7 e7n e8 e9 e9n)) ?_)
  (refine rr_ (an2 (an7 e1 e1n e2 e3 e4 e5 e5n) (an5 e7 e7n e8 e9 e9n)) ?_)
  (refine ca_ (an2 (an7 e1 e1n e2 e3 e4 e5 e5n) (an5 e7 e7n e8 e9 e9n)) ?_ (hsp := hQ1); refine rr_ (an2 (an7 e1 e1n e2 e3 e4 e5 e5n) (an5 e7 e7n e8 e9 e9n)) ?_)
  (refine rr_ (an2 (an7 e1 e1n e2 e3 e4 e5 e5n) (an5 e7 e7n e8 e9 e9n)) ?_)
  (refine ca_ (an2 (an7 e1 e1n e2 e3 e4 e5 e5n) (an5 e7 e7n e8 e9 e9n)) ?_ (hsp := hQ2); refine rr_ (an2 (an7 e1 e1n e2 e3 e4 e5 e5n) (an5 e7 e7n e8 e9 e9n)) ?_)
  (refine rr_ (an2 (an7 e1 e1n e2 e3 e4 e5 e5n) (an5 e7 e7n e8 e9 e9n)) ?_)
  ((first | refine rwr_nil (hK _ ?_) | refine de_ (hK _ ?_)); clear hK K)
  (refine go_ an0 ?_)
  (first | exact oq_ an0 | refine ou_ an0 ?_)
 rw [Bool.true_and]
 (refine rn_ 8 (an2 (an7 e1 e1n e2 e3 e4 e5 e5n) (an5 e7 e7n e8 e9 e9n)) fun K hK => ?_)
 (refine rw_goN (k := 8) ?_; (refine sm_ (an2 (an7 e1 e1n e2 e3 e4 e5 e5n) (an5 e7 e7n e8 e9 e9n)) ?_))
 (refine rr_ (an2 (an7 e1 e1n e2 e3 e4 e5 e5n) (an5 e7 e7n e8 e9 e9n)) ?_)
 (refine ca_ (an2 (an7 e1 e1n e2 e3 e4 e5 e5n) (an5 e7 e7n e8 e9 e9n)) ?_ (hsp := hS); refine rr_ (an2 (an7 e1 e1n e2 e3 e4 e5 e5n) (an5 e7 e7n e8 e9 e9n)) ?_)
 (refine rr_ (an2 (an7 e1 e1n e2 e3 e4 e5 e5n) (an5 e7 e7n e8 e9 e9n)) ?_)
 (refine ca_ (an2 (an7 e1 e1n e2 e3 e4 e5 e5n) (an5 e7 e7n e8 e9 e9n)) ?_ (hsp := hQ1); refine rr_ (an2 (an7 e1 e1n e2 e3 e4 e5 e5n) (an5 e7 e7n e8 e9 e9n)) ?_)
 (refine rr_ (an2 (an7 e1 e1n e2 e3 e4 e5 e5n) (an5 e7 e7n e8 e9 e9n)) ?_)
 (refine ca_ (an2 (an7 e1 e1n e2 e3 e4 e5 e5n) (an5 e7 e7n e8 e9 e9n)) ?_ (hsp := hQ2); refine rr_ (an2 (an7 e1 e1n e2 e3 e4 e5 e5n) (an5 e7 e7n e8 e9 e9n)) ?_)
 (refine rr_ (an2 (an7 e1 e1n e2 e3 e4 e5 e5n) (an5 e7 e7n e8 e9 e9n)) ?_)
 ((first | refine rwr_nil (hK _ ?_) | refine de_ (hK _ ?_)); clear hK K)
 (refine gs_ ?_)
 by_cases hcl : cols.length = cols'.length
 rotate_left
 ·have g1 : ((cols.length : Int) != (cols'.length : Int)) = true := by simp; omega
  rw [eqBy_not hcl, Bool.false_and, Bool.and_false]
  (refine go_ g1 ?_)
  (first | exact oq_ an0 | refine ou_ an0 ?_)
 have g1 : ((cols.length : Int) != (cols'.length : Int)) = false := by simp [hcl]
 by_cases hfl : fields.length = fields'.length
 rotate_left
 ·have g2 : ((fields.length : Int) != (fields'.length : Int)) = true := by simp; omega
  rw [eqBy_not hfl, Bool.and_false, Bool.and_false]
  (refine go_ (an2 g1 g2) ?_)
  (first | exact oq_ an0 | refine ou_ an0 ?_)
 have g2 : ((fields.length : Int) != (fields'.length : Int)) = false := by simp [hfl]
 cases b4
 ·rw [Bool.false_and]
  (refine rn_ 8 (an2 g1 g2) fun K hK => ?_; refine rr_ (an2 g1 g2) ?_)
  (refine ca_ (an2 g1 g2) ?_ (hsp := hQ4); refine rr_ (an2 g1 g2) ?_)
  (refine rr_ (an2 g1 g2) ?_)
  ((first | refine rwr_nil (hK _ ?_) | refine de_ (hK _ ?_)); clear hK K)
  (refine go_ an0 ?_)
  (first | exact oq_ an0 | refine ou_ an0 ?_)
 rw [Bool.true_and]
 (refine rn_ 8 (an2 g1 g2) fun K hK => ?_; refine rr_ (an2 g1 g2) ?_)
 (refine ca_ (an2 g1 g2) ?_ (hsp := hQ4); refine rr_ (an2 g1 g2) ?_)
 (refine rr_ (an2 g1 g2) ?_)
 ((first | refine rwr_nil (hK _ ?_) | refine de_ (hK _ ?_)); clear hK K)
 (refine go_ an0 ?_)
 have hVB : ∃ VB : List (Nat × B), VB = [(2, .var 31 [.t false (.lit (.int .i64 k)), .t false (.lit (.string name)), .t false (.lit (.string other)), .t false (.lit (.string column)), .t false (.sl (rCs cols)), .t false (.lit (.int .i64 ty)), .t false (.lit (.int .i64 v.k)), .t false (.lit (.int .i64 v.n)), .t false (.lit (.string v.s)), .t false (.sl (rVs vals)), .t false (.sl (rS fields)), .t false (.lit (.int .i64 k1)), .t false (.lit (.int .i64 v1.k)), .t false (.lit (.int .i64 v1.n)), .t false (.lit (.string v1.s)), .t false (.lit (.string n1)), .t false (.sl (a1.map rE)), .t false (.lit (.bool all)), .t false (.lit (.int .i64 k2)), .t false (.lit (.int .i64 v2.k)), .t false (.lit (.int .i64 v2.n)), .t false (.lit (.string v2.s)), .t false (.lit (.string n2)), .t false (.sl (a2.map rE)), .t false (.lit (.string order)), .t false (.lit (.int .i64 limit))]), (3, .var 31 [.t false (.lit (.int .i64 k')), .t false (.lit (.string name')), .t false (.lit (.string other')), .t false (.lit (.string column')), .t false (.sl (rCs cols')), .t false (.lit (.int .i64 ty')), .t false (.lit (.int .i64 v'.k)), .t false (.lit (.int .i64 v'.n)), .t false (.lit (.string v'.s)), .t false (.sl (rVs vals')), .t false (.sl (rS fields')), .t false (.lit (.int .i64 k1')), .t false (.lit (.int .i64 v1'.k)), .t false (.lit (.int .i64 v1'.n)), .t false (.lit (.string v1'.s)), .t false (.lit (.string n1')), .t false (.sl (a1'.map rE)), .t false (.lit (.bool all')), .t false (.lit (.int .i64 k2')), .t false (.lit (.int .i64 v2'.k)), .t false (.lit (.int .i64 v2'.n)), .t false (.lit (.string v2'.s)), .t false (.lit (.string n2')), .t false (.sl (a2'.map rE)), .t false (.lit (.string order')), .t false (.lit (.int .i64 limit'))])] := ⟨_, rfl⟩
 obtain ⟨VB, hVB⟩ := hVB
 refine cw_loop (fun m s => ∃ i : Nat, i ≤ cols.length ∧ m = cols.length - i ∧ eqBy colEq (cols.drop i) (cols'.drop i) = eqBy colEq cols cols' ∧ s = ⟨[(5, litI .i64 i), (2, .one (.optr 2 0)), (3, .one (.optr 3 0))], [(2, .var 31 [.t false (.lit (.int .i64 k)), .t false (.lit (.string name)), .t false (.lit (.string other)), .t false (.lit (.string column)), .t false (.sl (rCs cols)), .t false (.lit (.int .i64 ty)), .t false (.lit (.int .i64 v.k)), .t false (.lit (.int .i64 v.n)), .t false (.lit (.string v.s)), .t false (.sl (rVs vals)), .t false (.sl (rS fields)), .t false (.lit (.int .i64 k1)), .t false (.lit (.int .i64 v1.k)), .t false (.lit (.int .i64 v1.n)), .t false (.lit (.string v1.s)), .t false (.lit (.string n1)), .t false (.sl (a1.map rE)), .t false (.lit (.bool all)), .t false (.lit (.int .i64 k2)), .t false (.lit (.int .i64 v2.k)), .t false (.lit (.int .i64 v2.n)), .t false (.lit (.string v2.s)), .t false (.lit (.string n2)), .t false (.sl (a2.map rE)), .t false (.lit (.string order)), .t false (.lit (.int .i64 limit))]), (3, .var 31 [.t false (.lit (.int .i64 k')), .t false (.lit (.string name')), .t false (.lit (.string other')), .t false (.lit (.string column')), .t false (.sl (rCs cols')), .t false (.lit (.int .i64 ty')), .t false (.lit (.int .i64 v'.k)), .t false (.lit (.int .i64 v'.n)), .t false (.lit (.string v'.s)), .t false (.sl (rVs vals')), .t false (.sl (rS fields')), .t false (.lit (.int .i64 k1')), .t false (.lit (.int .i64 v1'.k)), .t false (.lit (.int .i64 v1'.n)), .t false (.lit (.string v1'.s)), .t false (.lit (.string n1')), .t false (.sl (a1'.map rE)), .t false (.lit (.bool all')), .t false (.lit (.int .i64 k2')), .t false (.lit (.int .i64 v2'.k)), .t false (.lit (.int .i64 v2'.n)), .t false (.lit (.string v2'.s)), .t false (.lit (.string n2')), .t false (.sl (a2'.map rE)), .t false (.lit (.string order')), .t false (.lit (.int .i64 limit'))])]⟩) cols.length ⟨_, ⟨0, Nat.zero_le _, rfl, rfl, rfl⟩, le_⟩ ?_
 rintro m s ⟨i, hi, rfl, hfe, rfl⟩
 by_cases hlt : i < cols.length
 ·have f1 : decide ((i : Int) < (cols.length : Int)) = true := by simp; omega
  obtain ⟨x, hx⟩ : ∃ x, cols[i]? = some x := ⟨_, List.getElem?_eq_getElem hlt⟩
  obtain ⟨y, hy⟩ : ∃ y, cols'[i]? = some y := ⟨_, List.getElem?_eq_getElem (by omega)⟩
  have f2 : IntKind.i64.wrap ((i : Int) + 1) = ((i + 1 : Nat) : Int) := by rw [IntWalk.i64_in _ (by omega)]; rfl
  have hlt' : i < cols'.length := by omega
  have j1 : (i : Int) < (cols.length : Int) := by omega
  have j2 : (i : Int) < (cols'.length : Int) := by omega
  have j3 : (0 : Int) ≤ (i : Int) := by omega
  rw [eqBy_drop hx hy] at hfe
  have hp : (!((x.name.toList == y.name.toList) && (x.ty == y.ty))) = !(colEq x y) := rfl
  generalize colEq x y = bb at *
  (refine go_ f1 ?_)
  (refine dr_ 0 an0 fun K hK => ?_)
  (refine dd_ (an2 (an7 hx hy hlt hlt' j1 j2 j3) hp) ?_)
  (refine de_ (hK _ ?_); clear hK K)
  cases bb
  ·rw [← hfe, Bool.false_and]
   try rw [Bool.false_and]
   (refine go_ an0 ?_)
   (first | exact oq_ an0 | refine ou_ an0 ?_)
  ·rw [Bool.true_and] at hfe
   (refine go_ f2 ?_)
   exact ⟨cols.length - (i + 1), by omega, _, ⟨i + 1, by omega, rfl, hfe, rfl⟩, le_⟩
 ·have f1 : decide ((i : Int) < (cols.length : Int)) = false := by simp; omega
  rw [List.drop_eq_nil_of_le (by omega), List.drop_eq_nil_of_le (by omega), eqBy] at hfe
  rw [← hfe]
  try rw [Bool.true_and]
  (refine go_ f1 ?_)
  refine cw_loop (fun m s => ∃ i : Nat, i ≤ fields.length ∧ m = fields.length - i ∧ eqBy strEq (fields.drop i) (fields'.drop i) = eqBy strEq fields fields' ∧ s = ⟨[(6, litI .i64 i), (2, .one (.optr 2 0)), (3, .one (.optr 3 0))], [(2, .var 31 [.t false (.lit (.int .i64 k)), .t false (.lit (.string name)), .t false (.lit (.string other)), .t false (.lit (.string column)), .t false (.sl (rCs cols)), .t false (.lit (.int .i64 ty)), .t false (.lit (.int .i64 v.k)), .t false (.lit (.int .i64 v.n)), .t false (.lit (.string v.s)), .t false (.sl (rVs vals)), .t false (.sl (rS fields)), .t false (.lit (.int .i64 k1)), .t false (.lit (.int .i64 v1.k)), .t false (.lit (.int .i64 v1.n)), .t false (.lit (.string v1.s)), .t false (.lit (.string n1)), .t false (.sl (a1.map rE)), .t false (.lit (.bool all)), .t false (.lit (.int .i64 k2)), .t false (.lit (.int .i64 v2.k)), .t false (.lit (.int .i64 v2.n)), .t false (.lit (.string v2.s)), .t false (.lit (.string n2)), .t false (.sl (a2.map rE)), .t false (.lit (.string order)), .t false (.lit (.int .i64 limit))]), (3, .var 31 [.t false (.lit (.int .i64 k')), .t false (.lit (.string name')), .t false (.lit (.string other')), .t false (.lit (.string column')), .t false (.sl (rCs cols')), .t false (.lit (.int .i64 ty')), .t false (.lit (.int .i64 v'.k)), .t false (.lit (.int .i64 v'.n)), .t false (.lit (.string v'.s)), .t false (.sl (rVs vals')), .t false (.sl (rS fields')), .t false (.lit (.int .i64 k1')), .t false (.lit (.int .i64 v1'.k)), .t false (.lit (.int .i64 v1'.n)), .t false (.lit (.string v1'.s)), .t false (.lit (.string n1')), .t false (.sl (a1'.map rE)), .t false (.lit (.bool all')), .t false (.lit (.int .i64 k2')), .t false (.lit (.int .i64 v2'.k)), .t false (.lit (.int .i64 v2'.n)), .t false (.lit (.string v2'.s)), .t false (.lit (.string n2')), .t false (.sl (a2'.map rE)), .t false (.lit (.string order')), .t false (.lit (.int .i64 limit'))])]⟩) fields.length ⟨_, ⟨0, Nat.zero_le _, rfl, rfl, rfl⟩, le_⟩ ?_
  rintro m s ⟨i, hi, rfl, hfe, rfl⟩
  by_cases hlt : i < fields.length
  ·have f1 : decide ((i : Int) < (fields.length : Int)) = true := by simp; omega
   obtain ⟨x, hx⟩ : ∃ x, fields[i]? = some x := ⟨_, List.getElem?_eq_getElem hlt⟩
   obtain ⟨y, hy⟩ : ∃ y, fields'[i]? = some y := ⟨_, List.getElem?_eq_getElem (by omega)⟩
   have f2 : IntKind.i64.wrap ((i : Int) + 1) = ((i + 1 : Nat) : Int) := by rw [IntWalk.i64_in _ (by omega)]; rfl
   have hlt' : i < fields'.length := by omega
   have j1 : (i : Int) < (fields.length : Int) := by omega
   have j2 : (i : Int) < (fields'.length : Int) := by omega
   have j3 : (0 : Int) ≤ (i : Int) := by omega
   rw [eqBy_drop hx hy] at hfe
   have hp : (!(x.toList == y.toList)) = !(strEq x y) := rfl
   generalize strEq x y = bb at *
   (refine go_ f1 ?_)
   (refine dr_ 0 an0 fun K hK => ?_)
   (refine dd_ (an2 (an7 hx hy hlt hlt' j1 j2 j3) hp) ?_)
   (refine de_ (hK _ ?_); clear hK K)
   cases bb
   ·rw [← hfe, Bool.false_and]
    try rw [Bool.false_and]
    (refine go_ an0 ?_)
    (first | exact oq_ an0 | refine ou_ an0 ?_)
   ·rw [Bool.true_and] at hfe
    (refine go_ f2 ?_)
    exact ⟨fields.length - (i + 1), by omega, _, ⟨i + 1, by omega, rfl, hfe, rfl⟩, le_⟩
  ·have f1 : decide ((i : Int) < (fields.length : Int)) = false := by simp; omega
   rw [List.drop_eq_nil_of_le (by omega), List.drop_eq_nil_of_le (by omega), eqBy] at hfe
   rw [← hfe]
   try rw [Bool.true_and]
   (refine go_ f1 ?_)
   (first | exact oq_ an0 | refine ou_ an0 ?_)
end Go.Proofs.YtjdgejfhnfnmgaaGreatDoor.Ax
