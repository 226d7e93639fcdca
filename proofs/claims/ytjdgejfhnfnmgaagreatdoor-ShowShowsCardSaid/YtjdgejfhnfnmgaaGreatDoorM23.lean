/-  -/
import Derived.Test.YtjdgejfhnfnmgaaGreatDoorM1
import Derived.Test.YtjdgejfhnfnmgaaGreatDoorShelf
import Derived.Shelf.Strings.BuilderK
import Derived.WalkKit
import Derived.Test.YtjdgejfhnfnmgaaGreatDoorAxW
import Derived.Test.YtjdgejfhnfnmgaaGreatDoorAxTy
import Derived.Test.YtjdgejfhnfnmgaaGreatDoorM10
import Derived.Test.YtjdgejfhnfnmgaaGreatDoorM18
import Derived.Lib.ItoaMem
import Derived.Lib.AtoiTie
import Derived.Lib.AtoiAllCases
import Derived.Test.YtjdgejfhnfnmgaaGreatDoorM19
import Derived.Test.YtjdgejfhnfnmgaaGreatDoorM12
import Derived.Lib.ItoaLen
namespace Go.Proofs.YtjdgejfhnfnmgaaGreatDoor
open Go.Shelf Go.RowKit
section
variable {P : Program} {ρ : Ren}
set_option maxHeartbeats 2000000 in
set_option maxRecDepth 100000 in
theorem str_some {T : TypeId} (L : Lays.n169 P ρ) (X : Builder.Extra P ρ) (b g cap : Nat) (p : Value) (l : List UInt8) (w : World) (hbk : w.heap[b]? = some (.cells #[p, .slice (some ⟨g, 0, none⟩) l.length cap] T (0, 0)))
  (hown : w.ownsRow 0 (ρ.t 5) 1 (.slice (some ⟨g, 0, none⟩) l.length cap) l.length (Lib.byteCells l)) (h0 : l ≠ []) :
  Calls P (ρ.f 169) #[.pointer (some ⟨b, 0, none⟩)] w fun e w' => e = .returned (.string ⟨l.toArray⟩) ∧ w' = w.drew.freeze ⟨g, 0, none⟩ l.length := by
 have hl0 : l.length ≠ 0 := by simpa using h0
 obtain ⟨cur, hg, hnc, hcm, hcs, htake⟩ : ∃ cur, w.heap[g]? = some (.cells cur (ρ.t 5) (0, 0)) ∧ l.length ≤ cap ∧ cap ≤ maxLen ∧ cur.size = cap * 1 ∧ cur.toList.take (l.length * 1) = Lib.byteCells l := by
  rcases hown.2 with ⟨h, _⟩ | ⟨g', cap', cur, hv, _, r⟩
  ·cases h
  ·cases hv
   exact ⟨cur, r⟩
 have c1 : w.drew.cell? ⟨b, 1, none⟩ = some (.slice (some ⟨g, 0, none⟩) l.length cap) := by
  have : w.drew.heap[b]? = some (.cells #[p, .slice (some ⟨g, 0, none⟩) l.length cap] T (0, 0)) := hbk
  rw [Lib.cell_of_heap this]; rfl
 have hSD : (Builtin.unsafeSliceData_ #[(ρ.t 37)] (ρ.t 127) #[.slice (some ⟨g, 0, none⟩) l.length cap]).run P w.drew = .ok (.pointer (some ⟨g, 0, none⟩)) w.drew :=
  Lib.run_unsafeSliceData_row _ _ _ _ _ _ (by omega)
 have hUS : (Builtin.unsafeString_ #[(ρ.t 127), (ρ.t 3)] (ρ.t 9) #[.pointer (some ⟨g, 0, none⟩), .int .i64 l.length]).run P w.drew = .ok (.string ⟨l.toArray⟩) (w.drew.freeze ⟨g, 0, none⟩ l.length) := by
  refine Lib.run_unsafeString_row w.drew (ρ.t 127) (ρ.t 3) (ρ.t 9) (ρ.t 5) L.t127 X.cellsByte g cur.size (by have hg' : w.drew.heap[g]? = some (.cells cur (ρ.t 5) (0, 0)) := hg; simp [World.shape?, hg']) l h0 (by omega) (by unfold maxLen at hcm; omega) ?_
  intro j x hx
  have := hown.cells (g := g) rfl j (.int .u8 x.toNat) (by simp [Lib.byteCells, hx])
  exact this
 have mixed := L.mixed
 have t72 := L.t72; have a72 := L.a72; have z72 := L.z72; have v72 := L.v72; have u72 := run_underlying L.t72
 have t70 := L.t70; have a70 := L.a70; have z70 := L.z70; have v70 := L.v70; have u70 := run_underlying L.t70
 have t37 := L.t37; have a37 := L.a37; have z37 := L.z37; have v37 := L.v37; have u37 := run_underlying L.t37
 have t127 := L.t127; have a127 := L.a127; have z127 := L.z127; have v127 := L.v127; have u127 := run_underlying L.t127
 have t3 := L.t3; have a3 := L.a3; have z3 := L.z3; have v3 := L.v3; have u3 := run_underlying L.t3
 have t9 := L.t9; have a9 := L.a9; have z9 := L.z9; have v9 := L.v9; have u9 := run_underlying L.t9
 have t5 := X.t5; have a5 := X.a5; have z5 := X.z5; have v5 := X.v5; have u5 := run_underlying X.t5
 go_enter L.f169, Body.n169_ntmps ρ
 go_wp2
 go_region_o
 all_goals (go_wp2; go_ret; exact ⟨rfl, rfl⟩)
end
set_option maxHeartbeats 1000000 in
set_option maxRecDepth 100000 in
theorem cc_used (b : Nat) (w : World) (h0 : w.cell? ⟨b, 0, none⟩ = some (.pointer (some ⟨b, 0, none⟩))) :
  Calls Tryz.prog 142 #[.pointer (some ⟨b, 0, none⟩)] w fun e w' => e = .returned (.tuple #[]) ∧ w' = w := by
 obtain ⟨j, hj⟩ : ∃ j, Tryz.prog.info? 89 = some j := ⟨_, rfl⟩
 go_enter Tryz.func142, Tryz.ntmps142
 go_wp2
 rw [Lib.run_neq_ptr_same w _ Tryz.underlying86 hj]
 go_wp2
 go_end0
 exact ⟨rfl, rfl⟩
set_option maxHeartbeats 1000000 in
set_option maxRecDepth 100000 in
theorem cc_fresh {T : TypeId} (b : Nat) (w : World) (h0 : w.cell? ⟨b, 0, none⟩ = some (.pointer none)) (hsh : w.shape? b = some (T, 2)) (hl : liesAt Tryz.prog Tryz.prog.depth T (2 / Tryz.prog.cellsOf T) 0 89 1 = true) (hfz : w.frozen? ⟨b, 0, none⟩ = false) :
  Calls Tryz.prog 142 #[.pointer (some ⟨b, 0, none⟩)] w fun e w' => e = .returned (.tuple #[]) ∧ w' = w.setCell ⟨b, 0, none⟩ (.pointer (some ⟨b, 0, none⟩)) := by
 obtain ⟨j, hj, hjs⟩ : ∃ j, Tryz.prog.info? 89 = some j ∧ j.size = 2 := ⟨_, rfl, rfl⟩
 go_enter Tryz.func142, Tryz.ntmps142
 go_wp2
 rw [Lib.run_to_unsafe w ⟨b, 0, none⟩ Tryz.underlying86 Tryz.underlying143 hj (by rw [hjs]; decide) hsh (Nat.zero_lt_succ 1)]
 simp only [Result.andThen]
 rw [Oper.upon_value]
 go_wp2
 rw [run_callFunc_extern Tryz.func160 (by kernel_rfl) (by kernel_rfl) (by kernel_rfl) (e := Extern.AbiNoEscape.same) (by kernel_rfl)]
 rw [Lib.run_noEscape]
 simp only [Result.andThen]
 rw [Oper.upon_value]
 go_wp2
 rw [Lib.run_from_unsafe w ⟨b, 0, none⟩ Tryz.underlying143 Tryz.underlying86 hj hsh hl]
 simp only [Result.andThen]
 rw [Oper.upon_value]
 go_wp2
 go_end0
 exact ⟨rfl, rfl⟩
end Go.Proofs.YtjdgejfhnfnmgaaGreatDoor
namespace Go.Proofs.YtjdgejfhnfnmgaaGreatDoor.Ax
open Go.RowKit
set_option linter.unusedSimpArgs false
attribute [local go_sem] ty3 ty4 ty5 ty9 ty87 ty89 ty86 ty123 ty91 ty85
set_option maxRecDepth 100000
abbrev prnNew : B := .var 91 [.t true (.lit (.pointer none)), .nil]
attribute [local go_sem] prnNew
abbrev prnUsed (id k n : Nat) : B := .var 91 [.optr id 0, .own k n]
attribute [local go_sem] prnUsed
abbrev rowW (rows : List (List T)) : B := .arr 5 1 true rows
attribute [local go_sem] rowW
theorem pcc_new_io : SpIO Tryz.prog 142 [.one (.optr 1000 0)] [(1000, prnNew)] (.tup []) [(1000, .var 91 [.optr 1000 0, .nil])] [1000] where
 enters := enters_of Tryz.func142 (by kernel_rfl) rfl
 calls w S F hS ρ hF hinj hdead hins vs hG hvs := by
  have hB := hins 1000 _ rfl
  unfold HasB at hB
  obtain ⟨b, cap, hid, xs, hb, hcs⟩ := hB
  match vs, hvs with
  | [x], hvs =>
   unfold RdVs RdV RdC at hvs
   simp only [hid] at hvs
   obtain ⟨rfl, _⟩ := hvs
   obtain ⟨l⟩ := xs
   match l, hcs, hb with
   | [u, v], hcs, hb =>
    unfold RdCs RdC RdT at hcs
    obtain ⟨⟨rfl, _⟩, hcs⟩ := hcs
    unfold RdCs RdC at hcs
    obtain ⟨hv, _⟩ := hcs
    refine (cc_fresh (T := 91) b w (by rw [Lib.cell_of_heap hb]; rfl) (by simp [World.shape?, hb]) (by kernel_rfl) (by simp [World.frozen?, hb])).mono ?_
    rintro e w' ⟨rfl, rfl⟩
    refine ⟨_, ρ, rfl, ⟨rfl, rfl, rfl, by simp [World.setCell], fun k hk => absurd hk (by omega)⟩, fun k hk => Below.heap_setCell _ _ _ _ fun e => hk.2 1000 cap (e ▸ hid), fun id b cap hid => ⟨.inr (hF id b cap hid).1, fun hk => hk.2 id cap hid, by simpa [World.setCell] using (hF id b cap hid).2.1⟩, hinj, hdead, fun _ _ => rfl, ?_, fun id B hB => ?_⟩
    ·unfold RdV; exact ⟨#[], rfl, by unfold RdVs; trivial⟩
    ·obtain ⟨rfl, rfl⟩ := one_get hB
     unfold HasB
     refine ⟨b, cap, hid, #[.pointer (some ⟨b, 0, none⟩), v], by simp [World.setCell, Array.getElem?_modify, hb], ?_⟩
     unfold RdCs RdC RdCs RdC RdCs
     simp only [hid]
     exact ⟨trivial, hv, trivial⟩
theorem pcc_used_io (rows : List (List T)) : SpIO Tryz.prog 142 [.one (.optr 1000 0)] [(1000, prnUsed 1000 1001 rows.length), (1001, rowW rows)] (.tup []) [(1000, prnUsed 1000 1001 rows.length), (1001, rowW rows)] [1000, 1001] where
 enters := enters_of Tryz.func142 (by kernel_rfl) rfl
 calls w S F hS ρ hF hinj hdead hins vs hG hvs := by
  have hB := hins 1000 _ rfl
  unfold HasB at hB
  obtain ⟨b, cap, hid, xs, hb, hcs⟩ := hB
  match vs, hvs with
  | [x], hvs =>
   unfold RdVs RdV RdC at hvs
   simp only [hid] at hvs
   obtain ⟨rfl, _⟩ := hvs
   obtain ⟨l⟩ := xs
   match l, hcs, hb with
   | [u, v], hcs, hb =>
    unfold RdCs RdC at hcs
    simp only [hid] at hcs
    obtain ⟨rfl, _⟩ := hcs
    refine (cc_used b w (by rw [Lib.cell_of_heap hb]; rfl)).mono ?_
    rintro e w' ⟨rfl, rfl⟩
    exact ⟨_, ρ, rfl, Below.refl _ _, fun _ _ => rfl, fun id b cap hid => ⟨.inr (hF id b cap hid).1, fun hk => hk.2 id cap hid, (hF id b cap hid).2.1⟩, hinj, hdead, fun _ _ => rfl, by unfold RdV; exact ⟨#[], rfl, by unfold RdVs; trivial⟩, hins⟩
theorem pwstr_new_io (s : ByteArray) (hs : s.size ≤ 140737488355328) (z : Bool) : SpIO Tryz.prog 98 [.one (.optr 1000 0), .one (.t z (.lit (.string s)))] [(1000, prnNew)] (.tup [litI .i64 s.size, .one (.t true (.lit .nilIface))]) [(1000, prnUsed 1000 14 s.size), (14, rowW (strRows s))] [1000] := by
 have h1 : s.size ≤ maxLen := by unfold maxLen; omega
 (refine ei_ Tryz.func98 Tryz.ntmps98 Tryz.results98 fun X hX => ?_)
 (refine go_ an0 ?_)
 (refine rn_ 8 an0 fun K hK => ?_; refine rr_ an0 ?_)
 (refine rwr_io 40 (SpIO.ren (pcc_new_io) [(1000, 1000)] rfl) rfl rfl (by simp only [go_sem, Nat.reduceAdd, Nat.reduceSub, Nat.reduceMul, Nat.reduceLT, Nat.reduceLeDiff, Nat.reduceEqDiff, Nat.reduceBEq, Int.reduceToNat, Int.reduceLE, Int.reduceLT, Int.reduceEq, Int.reduceBEq, Int.reduceBNe, ↓reduceIte, reduceCtorEq, prnNew, prnUsed, rowW, hX]; exact rfl) (by simp only [go_sem, Nat.reduceAdd, Nat.reduceSub, Nat.reduceMul, Nat.reduceLT, Nat.reduceLeDiff, Nat.reduceEqDiff, Nat.reduceBEq, Int.reduceToNat, Int.reduceLE, Int.reduceLT, Int.reduceEq, Int.reduceBEq, Int.reduceBNe, ↓reduceIte, reduceCtorEq, prnNew, prnUsed, rowW, hX]) (by simp only [go_sem, Nat.reduceAdd, Nat.reduceSub, Nat.reduceMul, Nat.reduceLT, Nat.reduceLeDiff, Nat.reduceEqDiff, Nat.reduceBEq, Int.reduceToNat, Int.reduceLE, Int.reduceLT, Int.reduceEq, Int.reduceBEq, Int.reduceBNe, ↓reduceIte, reduceCtorEq, prnNew, prnUsed, rowW, hX]) (by simp only [go_sem, Nat.reduceAdd, Nat.reduceSub, Nat.reduceMul, Nat.reduceLT, Nat.reduceLeDiff, Nat.reduceEqDiff, Nat.reduceBEq, Int.reduceToNat, Int.reduceLE, Int.reduceLT, Int.reduceEq, Int.reduceBEq, Int.reduceBNe, ↓reduceIte, reduceCtorEq, prnNew, prnUsed, rowW, hX]) (by simp only [go_sem, Nat.reduceAdd, Nat.reduceSub, Nat.reduceMul, Nat.reduceLT, Nat.reduceLeDiff, Nat.reduceEqDiff, Nat.reduceBEq, Int.reduceToNat, Int.reduceLE, Int.reduceLT, Int.reduceEq, Int.reduceBEq, Int.reduceBNe, ↓reduceIte, reduceCtorEq, prnNew, prnUsed, rowW, hX]) rfl (by rw [hX]; rfl) ?_; simp only [go_sem, Nat.reduceAdd, Nat.reduceSub, Nat.reduceMul, Nat.reduceLT, Nat.reduceLeDiff, Nat.reduceEqDiff, Nat.reduceBEq, Int.reduceToNat, Int.reduceLE, Int.reduceLT, Int.reduceEq, Int.reduceBEq, Int.reduceBNe, ↓reduceIte, reduceCtorEq, prnNew, prnUsed, rowW, hX])
 ((first | refine rwr_nil (hK _ ?_) | refine de_ (hK _ ?_)); clear hK K)
 (refine go_ (an2 h1 hs) ?_)
 (first | exact oi_ (an2 h1 hs) (.inl rfl) | exact oi_ (an2 h1 hs) (.inr rfl))
theorem pwstr_used_io (rows : List (List T)) (s : ByteArray) (hs : rows.length + s.size ≤ 140737488355328) (z : Bool) : SpIO Tryz.prog 98 [.one (.optr 1000 0), .one (.t z (.lit (.string s)))] [(1000, prnUsed 1000 1001 rows.length), (1001, rowW rows)] (.tup [litI .i64 s.size, .one (.t true (.lit .nilIface))]) [(1000, prnUsed 1000 14 (rows.length + s.size)), (14, rowW (rows ++ strRows s))] [1000] := by
 have h1 : rows.length + s.size ≤ maxLen := by unfold maxLen; omega
 (refine ei_ Tryz.func98 Tryz.ntmps98 Tryz.results98 fun X hX => ?_)
 (refine go_ an0 ?_)
 (refine rn_ 8 an0 fun K hK => ?_; refine rr_ an0 ?_)
 (refine rwr_io 40 (SpIO.ren (pcc_used_io rows) [(1000, 1000), (1001, 1001)] rfl) rfl rfl (by simp only [go_sem, Nat.reduceAdd, Nat.reduceSub, Nat.reduceMul, Nat.reduceLT, Nat.reduceLeDiff, Nat.reduceEqDiff, Nat.reduceBEq, Int.reduceToNat, Int.reduceLE, Int.reduceLT, Int.reduceEq, Int.reduceBEq, Int.reduceBNe, ↓reduceIte, reduceCtorEq, prnNew, prnUsed, rowW, hX]; exact rfl) (by simp only [go_sem, Nat.reduceAdd, Nat.reduceSub, Nat.reduceMul, Nat.reduceLT, Nat.reduceLeDiff, Nat.reduceEqDiff, Nat.reduceBEq, Int.reduceToNat, Int.reduceLE, Int.reduceLT, Int.reduceEq, Int.reduceBEq, Int.reduceBNe, ↓reduceIte, reduceCtorEq, prnNew, prnUsed, rowW, hX]) (by simp only [go_sem, Nat.reduceAdd, Nat.reduceSub, Nat.reduceMul, Nat.reduceLT, Nat.reduceLeDiff, Nat.reduceEqDiff, Nat.reduceBEq, Int.reduceToNat, Int.reduceLE, Int.reduceLT, Int.reduceEq, Int.reduceBEq, Int.reduceBNe, ↓reduceIte, reduceCtorEq, prnNew, prnUsed, rowW, hX]) (by simp only [go_sem, Nat.reduceAdd, Nat.reduceSub, Nat.reduceMul, Nat.reduceLT, Nat.reduceLeDiff, Nat.reduceEqDiff, Nat.reduceBEq, Int.reduceToNat, Int.reduceLE, Int.reduceLT, Int.reduceEq, Int.reduceBEq, Int.reduceBNe, ↓reduceIte, reduceCtorEq, prnNew, prnUsed, rowW, hX]) (by simp only [go_sem, Nat.reduceAdd, Nat.reduceSub, Nat.reduceMul, Nat.reduceLT, Nat.reduceLeDiff, Nat.reduceEqDiff, Nat.reduceBEq, Int.reduceToNat, Int.reduceLE, Int.reduceLT, Int.reduceEq, Int.reduceBEq, Int.reduceBNe, ↓reduceIte, reduceCtorEq, prnNew, prnUsed, rowW, hX]) rfl (by rw [hX]; rfl) ?_; simp only [go_sem, Nat.reduceAdd, Nat.reduceSub, Nat.reduceMul, Nat.reduceLT, Nat.reduceLeDiff, Nat.reduceEqDiff, Nat.reduceBEq, Int.reduceToNat, Int.reduceLE, Int.reduceLT, Int.reduceEq, Int.reduceBEq, Int.reduceBNe, ↓reduceIte, reduceCtorEq, prnNew, prnUsed, rowW, hX])
 ((first | refine rwr_nil (hK _ ?_) | refine de_ (hK _ ?_)); clear hK K)
 (refine go_ (an2 h1 hs) ?_)
 (first | exact oi_ (an2 h1 hs) (.inl rfl) | exact oi_ (an2 h1 hs) (.inr rfl))
theorem strRowsP_append (a b : ByteArray) : strRows a ++ strRows b = strRows (a ++ b) := by
 unfold strRows
 rw [← List.map_append]
 congr 1
theorem strRowsP_cells {w : World} {ok : Nat → Prop} (s : ByteArray) {xs : List Value} (h : RdL w ok (strRows s).flatten xs) : xs = Lib.byteCells s.data.toList := by
 unfold strRows at h
 unfold Lib.byteCells
 generalize s.data.toList = l at h ⊢
 induction l generalizing xs with
 | nil =>
  cases xs with
  | nil => rfl
  | cons => simp only [List.map_nil, List.flatten_nil] at h; unfold RdL at h; exact h.elim
 | cons b l ih =>
  replace h : RdL w ok (T.lit (.int .u8 b.toNat) :: (l.map fun b : UInt8 => [T.lit (.int .u8 b.toNat)]).flatten) xs := h
  cases xs with
  | nil => unfold RdL at h; exact h.elim
  | cons x xs =>
   unfold RdL RdT at h
   rw [h.1.1, ih h.2, List.map_cons]
theorem pstr_used_io (s : ByteArray) (h0 : s.data.toList ≠ []) : SpIO Tryz.prog 57 [.one (.optr 1000 0)] [(1000, prnUsed 1000 1001 s.size), (1001, rowW (strRows s))] (.one (.t true (.lit (.string s)))) [] [] where
 enters := enters_of Tryz.func57 (by kernel_rfl) rfl
 calls w S F hS ρ hF hinj hdead hins vs hG hvs := by
  have hB := hins 1000 _ rfl
  have hA := hins 1001 _ rfl
  unfold HasB at hB hA
  obtain ⟨b, cap, hid, xs, hb, hcs⟩ := hB
  match vs, hvs with
  | [x], hvs =>
   unfold RdVs RdV RdC at hvs
   simp only [hid] at hvs
   obtain ⟨rfl, _⟩ := hvs
   obtain ⟨l⟩ := xs
   match l, hcs, hb with
   | [u, v], hcs, hb =>
    unfold RdCs RdC at hcs
    simp only [hid] at hcs
    obtain ⟨rfl, hcs⟩ := hcs
    unfold RdCs RdC at hcs
    obtain ⟨hv, _⟩ := hcs
    have hlen : s.data.toList.length = s.size := rfl
    have hpos : s.size ≠ 0 := fun e => h0 (List.length_eq_zero_iff.1 (hlen.trans e))
    cases hid2 : ρ 1001 with
    | dead => simp [hid2] at hv
    | nil => simp only [hid2] at hv; exact absurd hv.1 hpos
    | lie g cap2 =>
     simp only [hid2] at hv hA
     subst hv
     obtain ⟨ys, h1, h2, _⟩ := hA
     rw [strRows_len] at h1
     have hys := strRowsP_cells s h2
     subst hys
     refine (str_some Tryz.lays169 Tryz.Builder_Extra_169 b g cap2 _ s.data.toList w hb h1 h0).mono ?_
     rintro e w' ⟨rfl, rfl⟩
     have hother : ∀ k, k ≠ g → (w.drew.freeze ⟨g, 0, none⟩ s.data.toList.length).heap[k]? = w.heap[k]? := fun k hk => by
      unfold World.freeze
      split
      ·rfl
      ·show (w.heap.modify g _)[k]? = _
       rw [Array.getElem?_modify, if_neg (fun e => hk e.symm)]
     have hbel : Below 0 w w.drew := ⟨rfl, rfl, rfl, Nat.le_refl _, fun k hk => absurd hk (by omega)⟩
     refine ⟨_, deadR, rfl, Lib.below_freeze hbel (Nat.zero_le _) _, fun k hk => hother k fun e => hk.2 1001 cap2 (e ▸ hid2), (by intro _ _ _ h; cases h), (by intro _ _ _ _ _ h; cases h), fun _ _ => rfl, (fun _ h => by cases h), rd_lit rfl, (fun _ _ h => by cases h)⟩
theorem plen_new_io : SpIO Tryz.prog 144 [.one (.optr 1000 0)] [(1000, prnNew)] (litI .i64 0) [(1000, prnNew)] [1000] := by
 (refine ei_ Tryz.func144 Tryz.ntmps144 Tryz.results144 fun X hX => ?_)
 refine au_ an0 ?_
 (first | exact oi_ an0 (.inl rfl) | exact oi_ an0 (.inr rfl))
theorem plen_used_io (rows : List (List T)) : SpIO Tryz.prog 144 [.one (.optr 1000 0)] [(1000, prnUsed 1000 1001 rows.length), (1001, rowW rows)] (litI .i64 rows.length) [(1000, prnUsed 1000 1001 rows.length), (1001, rowW rows)] [1000, 1001] := by
 (refine ei_ Tryz.func144 Tryz.ntmps144 Tryz.results144 fun X hX => ?_)
 refine au_ an0 ?_
 (first | exact oi_ an0 (.inl rfl) | exact oi_ an0 (.inr rfl))
theorem wbyte_used_io (rows : List (List T)) (c : UInt8) (hs : rows.length + 1 ≤ 140737488355328) : SpIO Tryz.prog 145 [.one (.optr 1000 0), .one (.t false (.lit (.int .u8 c.toNat)))] [(1000, prnUsed 1000 1001 rows.length), (1001, rowW rows)] (.one (.t true (.lit .nilIface))) [(1000, prnUsed 1000 14 (rows.length + 1)), (14, rowW (rows ++ [[.lit (.int .u8 c.toNat)]]))] [1000] := by
 have h1 : rows.length + 1 ≤ maxLen := by unfold maxLen; omega
 have h2 : (rows.length + 1) * 1 ≤ 140737488355328 := by omega
 (refine ei_ Tryz.func145 Tryz.ntmps145 Tryz.results145 fun X hX => ?_)
 refine gs_ ?_
 refine au_ an0 ?_
 (refine rn_ 8 an0 fun K hK => ?_; refine rr_ an0 ?_)
 (refine rwr_io 40 (SpIO.ren (pcc_used_io rows) [(1000, 1000), (1001, 1001)] rfl) rfl rfl (by simp only [go_sem, Nat.reduceAdd, Nat.reduceSub, Nat.reduceMul, Nat.reduceLT, Nat.reduceLeDiff, Nat.reduceEqDiff, Nat.reduceBEq, Int.reduceToNat, Int.reduceLE, Int.reduceLT, Int.reduceEq, Int.reduceBEq, Int.reduceBNe, ↓reduceIte, reduceCtorEq, prnNew, prnUsed, rowW, hX]; exact rfl) (by simp only [go_sem, Nat.reduceAdd, Nat.reduceSub, Nat.reduceMul, Nat.reduceLT, Nat.reduceLeDiff, Nat.reduceEqDiff, Nat.reduceBEq, Int.reduceToNat, Int.reduceLE, Int.reduceLT, Int.reduceEq, Int.reduceBEq, Int.reduceBNe, ↓reduceIte, reduceCtorEq, prnNew, prnUsed, rowW, hX]) (by simp only [go_sem, Nat.reduceAdd, Nat.reduceSub, Nat.reduceMul, Nat.reduceLT, Nat.reduceLeDiff, Nat.reduceEqDiff, Nat.reduceBEq, Int.reduceToNat, Int.reduceLE, Int.reduceLT, Int.reduceEq, Int.reduceBEq, Int.reduceBNe, ↓reduceIte, reduceCtorEq, prnNew, prnUsed, rowW, hX]) (by simp only [go_sem, Nat.reduceAdd, Nat.reduceSub, Nat.reduceMul, Nat.reduceLT, Nat.reduceLeDiff, Nat.reduceEqDiff, Nat.reduceBEq, Int.reduceToNat, Int.reduceLE, Int.reduceLT, Int.reduceEq, Int.reduceBEq, Int.reduceBNe, ↓reduceIte, reduceCtorEq, prnNew, prnUsed, rowW, hX]) (by simp only [go_sem, Nat.reduceAdd, Nat.reduceSub, Nat.reduceMul, Nat.reduceLT, Nat.reduceLeDiff, Nat.reduceEqDiff, Nat.reduceBEq, Int.reduceToNat, Int.reduceLE, Int.reduceLT, Int.reduceEq, Int.reduceBEq, Int.reduceBNe, ↓reduceIte, reduceCtorEq, prnNew, prnUsed, rowW, hX]) rfl (by rw [hX]; rfl) ?_; simp only [go_sem, Nat.reduceAdd, Nat.reduceSub, Nat.reduceMul, Nat.reduceLT, Nat.reduceLeDiff, Nat.reduceEqDiff, Nat.reduceBEq, Int.reduceToNat, Int.reduceLE, Int.reduceLT, Int.reduceEq, Int.reduceBEq, Int.reduceBNe, ↓reduceIte, reduceCtorEq, prnNew, prnUsed, rowW, hX])
 ((first | refine rwr_nil (hK _ ?_) | refine de_ (hK _ ?_)); clear hK K)
 refine gs_ ?_
 refine rn_ 0 an0 fun K hK => ?_
 refine rx_ (an2 h1 h2) ?_
 refine rwr_nil (hK _ ?_)
 clear hK K
 refine au_ an0 ?_
 exact oi_ an0 (.inl rfl)
end Go.Proofs.YtjdgejfhnfnmgaaGreatDoor.Ax
namespace Go.Proofs.YtjdgejfhnfnmgaaGreatDoor
open Go.RowKit
def digS (n : Int) : ByteArray := bs (Lib.itoa n)
theorem dig_small {u : Nat} (h : u < 10) : Lib.decDigits u = [UInt8.ofNat (48 + u)] := by rw [Lib.decDigits, dif_pos h]
theorem dig_big {u : Nat} (h : ¬ u < 10) : Lib.decDigits u = Lib.decDigits (u / 10) ++ [UInt8.ofNat (48 + u % 10)] := by rw [Lib.decDigits, dif_neg h]
abbrev trueS : ByteArray := ⟨#[116, 114, 117, 101]⟩
abbrev falseS : ByteArray := ⟨#[102, 97, 108, 115, 101]⟩
theorem dig_neg {n : Int} (h : n < 0) (h2 : -10 < n) : digS n = bs [45] ++ digS (-n) := by
 obtain ⟨u, rfl⟩ : ∃ u : Nat, n = -(u : Int) := ⟨n.natAbs, by omega⟩
 unfold digS
 rw [bs_append, Lib.itoa_neg u (by omega), Int.neg_neg, Lib.itoa_nonneg]
 rfl
theorem dig_neg2 {n : Int} (h : n ≤ -10) : digS n = (bs [45] ++ digS (-(n.tdiv 10))) ++ digS (-(n.tmod 10)) := by
 obtain ⟨u, rfl⟩ : ∃ u : Nat, n = -(u : Int) := ⟨n.natAbs, by omega⟩
 have e1 : -((-(u : Int)).tdiv 10) = ((u / 10 : Nat) : Int) := by rw [Int.neg_tdiv, Int.neg_neg]; rfl
 have e2 : -((-(u : Int)).tmod 10) = ((u % 10 : Nat) : Int) := by rw [Int.neg_tmod, Int.neg_neg]; rfl
 rw [e1, e2]
 unfold digS
 rw [bs_append, bs_append, Lib.itoa_neg u (by omega), Lib.itoa_nonneg, Lib.itoa_nonneg, dig_big (by omega), dig_small (u := u % 10) (by omega)]
 rfl
theorem dig_one {n : Int} (h : 0 ≤ n) (h2 : n < 10) : digS n = bs [UInt8.ofNat (48 + n.toNat)] := by
 obtain ⟨u, rfl⟩ : ∃ u : Nat, n = (u : Int) := ⟨n.toNat, by omega⟩
 unfold digS
 rw [Lib.itoa_nonneg, dig_small (by omega)]
 rfl
theorem dig_more {n : Int} (h : 10 ≤ n) : digS n = digS (n.tdiv 10) ++ digS (n.tmod 10) := by
 obtain ⟨u, rfl⟩ : ∃ u : Nat, n = (u : Int) := ⟨n.toNat, by omega⟩
 have e1 : (u : Int).tdiv 10 = ((u / 10 : Nat) : Int) := rfl
 have e2 : (u : Int).tmod 10 = ((u % 10 : Nat) : Int) := rfl
 rw [e1, e2]
 unfold digS
 rw [bs_append, Lib.itoa_nonneg, Lib.itoa_nonneg, Lib.itoa_nonneg, dig_big (by omega), dig_small (u := u % 10) (by omega)]
end Go.Proofs.YtjdgejfhnfnmgaaGreatDoor
namespace Go.Proofs.YtjdgejfhnfnmgaaGreatDoor.Ax
open Go.RowKit Go.Sort
set_option linter.unusedSimpArgs false
attribute [local go_sem] extV appD cutOwn appOwn clearOwn bdI mapD putD' keyOk getOr getM putM wholeV litCs asV asC ptrC fnC nilC nilPtr strRows_len runs runsN guardOf exec1 pureV modD rowD ev get St.app St.put St.turn loadC moveC fieldOf indexC lenC lenOk cutC bndOf evAll fieldV convV unV binV binI bitsV moreV intsT eqL eq1 valOf min1 lit1 litInt litI litB litS constV constC cellsV partsOf placesOf buildV fillL toT elemsOf rowsOf baseOf dstOk V.kill V.ment V.ments C.kill C.ment C.ments B.kill setD litRows litRows_append T.isLit callAll calleeV argsV argV viewC viewCs modeOk freeOps V.free C.free V.allF V.allFs C.allF C.allFs B.allF callD leL growSt C.flat V.flat B.flat flatL flatB St.flat List.set_cons_zero List.set_cons_succ C.only C.onlys V.only V.onlys B.only renI C.ren C.rens V.ren V.rens B.ren renB renOk nodK Option.getD_some Option.getD_none Option.isSome_some implies_true false_implies C.fit C.fits V.fit V.fit1 V.fits Bool.and_self ite_self exitV resV resL resC outV outV.outs eqB nn cast0 Int.toNat_natCast List.getElem?_map Value.cells Value.oneCell' Nat.lt_irrefl decide_true decide_false and_true true_and and_self and_false false_and not_true_eq_false not_false_eq_true not_true not_false List.size_toArray all_len Nat.zero_add Nat.add_zero List.length_cons List.length_append List.length_replicate List.length_set List.length_nil List.length_map List.map_cons List.map_nil List.take_succ_cons List.take_zero List.take_nil List.drop_succ_cons List.drop_zero List.drop_nil List.cons_append List.nil_append List.append_nil List.all_cons List.all_nil Bool.and_true Bool.true_and Bool.and_false Bool.false_and Bool.not_true Bool.not_false Bool.or_false Bool.or_true Bool.false_or Bool.true_or List.filter_cons List.filter_nil List.contains_cons List.contains_nil beq_self_eq_true List.getElem?_cons_zero List.getElem?_cons_succ List.getElem?_nil Option.map_some Option.map_none Option.toList_some Option.toList_none List.isEmpty_cons List.isEmpty_nil Bool.false_eq_true Bool.true_eq_false List.getElem?_toArray List.not_mem_nil List.mem_cons or_false forall_eq List.mem_singleton forall_const Option.toArray tailF addF flSl dKeeps flFree closF notF if_true if_false plans inD cleanSt dstsOf Oper.looksAt Op.operands Call.operands dnOf insN insAll prods pick stOf goneOf slOf blOf keepB' entD addB edge B.ment Region.binds tailOk clos List.any_cons List.any_nil List.filterMap_cons List.filterMap_nil ne_eq Bool.or_self List.isEmpty_iff Array.toList_append List.append_toArray Array.append_empty Option.bind_some Option.bind_none List.push_toArray argSv ioD modeIO staysOk callIO calleeIO argsIO valIO cellsIO cellIO butB zLe cLe csLe vLe vsLe bLe insLe renIOk nbOk anyText anyGc aliveF mK kdN klAt klAt.atL dstNe edgesOf foSl inL C.ids C.idss V.ids V.idss NDst klOf dropS true_or or_true or_self ty3 ty4 ty9 ty5 ty24 ty116 ty87 ty32
set_option linter.unusedVariables false
set_option maxRecDepth 100000
theorem sp_by {P : Program} {f : FuncId} (hen : Enters P f) {args : List A} (vs : List Value) (ha : litAs args = some vs) {res : V} (h : ∀ w, GW w → Calls P f vs.toArray w fun e w' => ∃ x, e = .returned x ∧ Below w.heap.size w w' ∧ ∀ (ok : Bool → Nat → Prop) (ρ : Nat → R), RdV w' ok ρ res x) : Sp P f args res [] where
 enters := hen
 calls w S hS us hG hus := by
  rw [litAs_rd ha hus]
  refine (h w hG).mono fun e w' => ?_
  rintro ⟨x, rfl, hb, hx⟩
  exact ⟨x, deadR, rfl, hb, (by intro _ _ _ h; cases h), (by intro _ _ _ _ _ h; cases h), fun _ _ => rfl, hx _ _, (by intro _ _ h; cases h)⟩
theorem below_more (w : World) (k : Nat) (os : Array Obj) : Below w.heap.size w (grow (w.drewN k) os) := by
 refine ⟨rfl, rfl, rfl, by simp [grow, World.drewN], fun b hb => ?_⟩
 simp [grow, World.drewN, Array.getElem?_append, hb]
theorem itoa_sp (n : Int) (h0 : -9223372036854775808 ≤ n) (h1 : n ≤ 9223372036854775807) : Sp Tryz.prog 146 [.one (.lit (.int .i64 n))] (.one (.t true (.lit (.string (digS n))))) [] :=
 sp_by (enters_of Tryz.func146 (by kernel_rfl) rfl) [.int .i64 n] rfl fun w hG => (Tryz.strconv_Itoa n h0 h1 w hG.tab).mono fun e w' => by
  rintro ⟨rfl, k, os, rfl⟩
  refine ⟨_, rfl, below_more w k os, fun ok ρ => ?_⟩
  unfold RdV RdC RdT
  exact ⟨rfl, rfl⟩
def boolS (b : Bool) : ByteArray := if b then trueS else falseS
theorem fmtbool_sp (b : Bool) : Sp Tryz.prog 147 [.one (.lit (.bool b))] (.one (.t true (.lit (.string (boolS b))))) [] :=
 sp_by (enters_of Tryz.func147 (by kernel_rfl) rfl) [.bool b] rfl fun w _ => (Tryz.strconv_FormatBool b w).mono fun e w' => by
  rintro ⟨rfl, rfl⟩
  refine ⟨_, rfl, Below.refl _ _, fun ok ρ => ?_⟩
  unfold RdV RdC RdT
  refine ⟨?_, rfl⟩
  congr 1
  cases b <;> rfl
end Go.Proofs.YtjdgejfhnfnmgaaGreatDoor.Ax
namespace Go.Proofs.YtjdgejfhnfnmgaaGreatDoor
open Go.RowKit
end Go.Proofs.YtjdgejfhnfnmgaaGreatDoor
namespace Go.Proofs.YtjdgejfhnfnmgaaGreatDoor.Ax
open Go.RowKit
set_option linter.unusedSimpArgs false
attribute [local go_sem] ty3 ty4 ty9 ty5 ty24 ty25 ty87 ty32
set_option linter.unusedVariables false
set_option maxRecDepth 100000
theorem digS_size (n : Int) (h0 : -9223372036854775808 ≤ n) (h1 : n ≤ 9223372036854775807) : (digS n).size ≤ 21 := Lib.itoa_length_le n h0 h1
theorem digit_str (n : Int) (h0 : 0 ≤ n) (h1 : n < 10) : strOfNums [IntKind.u8.wrap (48 + n)] = digS n := by
 rw [dig_one h0 h1]
 obtain ⟨u, rfl⟩ : ∃ u : Nat, n = (u : Int) := ⟨n.toNat, by omega⟩
 have e : (IntKind.u8.wrap (48 + (u : Int))).toNat = 48 + u := by rw [show IntKind.u8.wrap (48 + (u : Int)) = (48 + (u : Int)) % 256 from rfl]; omega
 unfold strOfNums bs
 simp only [List.map_cons, List.map_nil, e, Int.toNat_natCast]
theorem digits_sp (n : Int) (h0 : -9223372036854775808 ≤ n) (h1 : n ≤ 9223372036854775807) : Sp Tryz.prog 33 [.one (.lit (.int .i64 n))] (.one (.t true (.lit (.string (digS n))))) [] := by
 have key : ∀ k : Nat, ∀ n : Int, n.natAbs = k → -9223372036854775808 ≤ n → n ≤ 9223372036854775807 → Sp Tryz.prog 33 [.one (.lit (.int .i64 n))] (.one (.t true (.lit (.string (digS n))))) [] := by
  intro k
  induction k using Nat.strongRecOn with
  | _ k ih =>
   intro n hk h0 h1
   by_cases c1 : n < 0
   ·have e1 : decide (n < 0) = true := by simpa using c1
    by_cases c2 : -10 < n
    ·have e2 : decide (-10 < n) = true := by simpa using c2
     have e3 : IntKind.i64.wrap (0 - n) = -n := by rw [IntWalk.i64_in _ (by omega)]; omega
     have hs := digS_size (-n) (by omega) (by omega)
     have m1 : (bs [45]).size + (digS (-n)).size ≤ maxLen := by
      have : (bs [45]).size = 1 := rfl
      unfold maxLen; omega
     have m2 : 1 + (digS (-n)).size ≤ maxLen := by unfold maxLen; omega
     have hD : Sp Tryz.prog 33 [.one (.lit (.int .i64 (-n)))] (.one (.t true (.lit (.string (digS (-n)))))) [] := by
      by_cases hp : (-n).natAbs < k
      ·exact ih _ hp (-n) rfl (by omega) (by omega)
      ·-- a number of one digit: walked here
       have c3 : 0 ≤ -n := by omega
       have e1 : decide (-n < 0) = false := by simp; omega
       have e2 : decide (-n < 10) = true := by simp; omega
       have e4 : IntKind.i64.wrap (48 + -n) = 48 + -n := IntWalk.i64_in _ (by omega)
       have e5 := digit_str (-n) c3 (by omega)
       (refine en_ Tryz.func33 Tryz.ntmps33 Tryz.results33 fun X hX => ?_)
       (refine go_ (an4 e1 e2 e4 e5) ?_)
       (first | exact oq_ an0 | refine ou_ an0 ?_)
     rw [dig_neg c1 c2]
     (refine en_ Tryz.func33 Tryz.ntmps33 Tryz.results33 fun X hX => ?_)
     (refine go_ (an2 e1 e2) ?_)
     (refine gs_ ?_)
     (refine rn_ 8 e3 fun K hK => ?_; refine rr_ e3 ?_)
     (refine ca_ e3 ?_ (hsp := hD); refine rr_ e3 ?_)
     (refine rr_ (an2 m1 m2) ?_)
     ((first | refine rwr_nil (hK _ ?_) | refine de_ (hK _ ?_)); clear hK K)
     (refine go_ an0 ?_)
     (first | exact oq_ an0 | refine ou_ an0 ?_)
     all_goals rfl
    ·have e2 : decide (-10 < n) = false := by simpa using c2
     have b1 : -922337203685477580 ≤ n.tdiv 10 ∧ n.tdiv 10 ≤ -1 ∧ -9 ≤ n.tmod 10 ∧ n.tmod 10 ≤ 0 := by
      obtain ⟨u, rfl⟩ : ∃ u : Nat, n = -(u : Int) := ⟨n.natAbs, by omega⟩
      have q1 : (-(u : Int)).tdiv 10 = -((u / 10 : Nat) : Int) := by rw [Int.neg_tdiv]; rfl
      have q2 : (-(u : Int)).tmod 10 = -((u % 10 : Nat) : Int) := by rw [Int.neg_tmod]; rfl
      rw [q1, q2]
      omega
     have e3 : IntKind.i64.wrap (n.tdiv 10) = n.tdiv 10 := IntWalk.i64_in _ (by omega)
     have e4 : IntKind.i64.wrap (0 - n.tdiv 10) = -(n.tdiv 10) := by rw [IntWalk.i64_in _ (by omega)]; omega
     have e5 : IntKind.i64.wrap (n.tmod 10) = n.tmod 10 := IntWalk.i64_in _ (by omega)
     have e6 : IntKind.i64.wrap (0 - n.tmod 10) = -(n.tmod 10) := by rw [IntWalk.i64_in _ (by omega)]; omega
     have hs1 := digS_size (-(n.tdiv 10)) (by omega) (by omega)
     have hs2 := digS_size (-(n.tmod 10)) (by omega) (by omega)
     have lt1 : (-(n.tdiv 10)).natAbs < k := by
      obtain ⟨u, rfl⟩ : ∃ u : Nat, n = -(u : Int) := ⟨n.natAbs, by omega⟩
      have q1 : (-(u : Int)).tdiv 10 = -((u / 10 : Nat) : Int) := by rw [Int.neg_tdiv]; rfl
      rw [q1]
      omega
     have hD1 := ih _ lt1 (-(n.tdiv 10)) rfl (by omega) (by omega)
     have hD2 := ih (-(n.tmod 10)).natAbs (by omega) (-(n.tmod 10)) rfl (by omega) (by omega)
     have m1 : (bs [45]).size + (digS (-(n.tdiv 10))).size ≤ maxLen := by
      have : (bs [45]).size = 1 := rfl
      unfold maxLen; omega
     have m2 : 1 + (digS (-(n.tdiv 10))).size ≤ maxLen := by unfold maxLen; omega
     have hz : (bs [45] ++ digS (-(n.tdiv 10))).size = 1 + (digS (-(n.tdiv 10))).size := by
      unfold digS
      rw [bs_append]
      show (_ ++ _ : List UInt8).length = _
      rw [List.length_append]
      rfl
     have m3 : (bs [45] ++ digS (-(n.tdiv 10))).size + (digS (-(n.tmod 10))).size ≤ maxLen := by rw [hz]; unfold maxLen; omega
     have m4 : 1 + (digS (-(n.tdiv 10))).size + (digS (-(n.tmod 10))).size ≤ maxLen := by unfold maxLen; omega
     rw [dig_neg2 (by omega)]
     (refine en_ Tryz.func33 Tryz.ntmps33 Tryz.results33 fun X hX => ?_)
     (refine go_ (an2 e1 e2) ?_)
     (refine gs_ ?_)
     (refine rn_ 8 (an2 e3 e4) fun K hK => ?_; refine rr_ (an2 e3 e4) ?_)
     (refine ca_ (an2 e3 e4) ?_ (hsp := hD1); refine rr_ (an2 e3 e4) ?_)
     (refine rr_ (an4 m1 m2 e5 e6) ?_)
     (refine ca_ (an2 e5 e6) ?_ (hsp := hD2); refine rr_ (an2 e5 e6) ?_)
     (refine rr_ (an2 m3 m4) ?_)
     ((first | refine rwr_nil (hK _ ?_) | refine de_ (hK _ ?_)); clear hK K)
     (refine go_ an0 ?_)
     (first | exact oq_ an0 | refine ou_ an0 ?_)
     all_goals rfl
   ·have e1 : decide (n < 0) = false := by simpa using c1
    by_cases c2 : n < 10
    ·have e2 : decide (n < 10) = true := by simpa using c2
     have e4 : IntKind.i64.wrap (48 + n) = 48 + n := IntWalk.i64_in _ (by omega)
     have e5 := digit_str n (by omega) c2
     (refine en_ Tryz.func33 Tryz.ntmps33 Tryz.results33 fun X hX => ?_)
     (refine go_ (an4 e1 e2 e4 e5) ?_)
     (first | exact oq_ an0 | refine ou_ an0 ?_)
    ·have e2 : decide (n < 10) = false := by simpa using c2
     have b1 : 1 ≤ n.tdiv 10 ∧ n.tdiv 10 ≤ 922337203685477580 ∧ 0 ≤ n.tmod 10 ∧ n.tmod 10 ≤ 9 := by
      obtain ⟨u, rfl⟩ : ∃ u : Nat, n = (u : Int) := ⟨n.natAbs, by omega⟩
      have q1 : (u : Int).tdiv 10 = ((u / 10 : Nat) : Int) := rfl
      have q2 : (u : Int).tmod 10 = ((u % 10 : Nat) : Int) := rfl
      rw [q1, q2]
      omega
     have e3 : IntKind.i64.wrap (n.tdiv 10) = n.tdiv 10 := IntWalk.i64_in _ (by omega)
     have e5 : IntKind.i64.wrap (n.tmod 10) = n.tmod 10 := IntWalk.i64_in _ (by omega)
     have hs1 := digS_size (n.tdiv 10) (by omega) (by omega)
     have hs2 := digS_size (n.tmod 10) (by omega) (by omega)
     have lt1 : (n.tdiv 10).natAbs < k := by
      obtain ⟨u, rfl⟩ : ∃ u : Nat, n = (u : Int) := ⟨n.natAbs, by omega⟩
      have q1 : (u : Int).tdiv 10 = ((u / 10 : Nat) : Int) := rfl
      rw [q1]
      omega
     have hD1 := ih _ lt1 (n.tdiv 10) rfl (by omega) (by omega)
     have hD2 := ih (n.tmod 10).natAbs (by omega) (n.tmod 10) rfl (by omega) (by omega)
     have m1 : (digS (n.tdiv 10)).size + (digS (n.tmod 10)).size ≤ maxLen := by unfold maxLen; omega
     rw [dig_more (by omega)]
     (refine en_ Tryz.func33 Tryz.ntmps33 Tryz.results33 fun X hX => ?_)
     (refine go_ (an2 e1 e2) ?_)
     (refine gs_ ?_)
     (refine rn_ 8 e3 fun K hK => ?_; refine rr_ e3 ?_)
     (refine ca_ e3 ?_ (hsp := hD1); refine rr_ e3 ?_)
     (refine rr_ e5 ?_)
     (refine ca_ e5 ?_ (hsp := hD2); refine rr_ e5 ?_)
     (refine rr_ m1 ?_)
     ((first | refine rwr_nil (hK _ ?_) | refine de_ (hK _ ?_)); clear hK K)
     (refine go_ an0 ?_)
     (first | exact oq_ an0 | refine ou_ an0 ?_)
 exact key _ n rfl h0 h1
end Go.Proofs.YtjdgejfhnfnmgaaGreatDoor.Ax
