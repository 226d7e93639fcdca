/-  -/
import Derived.Test.YtjdgejfhnfnmgaaGreatDoorM22
import Derived.Test.YtjdgejfhnfnmgaaGreatDoorM17
import Derived.Test.YtjdgejfhnfnmgaaGreatDoorAxW
import Derived.Test.YtjdgejfhnfnmgaaGreatDoorM20
import Derived.Test.YtjdgejfhnfnmgaaGreatDoorM12
import Derived.Test.YtjdgejfhnfnmgaaGreatDoorAxLk
import Derived.Test.YtjdgejfhnfnmgaaGreatDoorM16
import Derived.Test.YtjdgejfhnfnmgaaGreatDoorM18
namespace Go.Proofs.YtjdgejfhnfnmgaaGreatDoor
open Go.RowKit
set_option maxHeartbeats 2000000 in
theorem wrong_any (k n : Nat) (x : UInt8) (t : ByteArray) (w : World) (hk : k ≤ 4) (hn : t.size = n) (hm : n ≤ maxLen) (hx : ∀ h : 0 < t.size, t[0] = x) :
  Calls Tryz.prog 67 #[.int .i64 k, .string t] w fun e w' => e = .returned (.int .i64 (wrongA k n x)) ∧ w = w' := by
 unfold maxLen at hm
 obtain rfl | rfl | rfl | rfl | rfl : k = 0 ∨ k = 1 ∨ k = 2 ∨ k = 3 ∨ k = 4 := by omega
 ·go_enter Tryz.func67, Tryz.ntmps67
  go_wp2
  go_ret
  exact ⟨rfl, rfl⟩
 ·by_cases h : 12 < n
  all_goals
   have HT : Hid (wrongA 1 n x = _) := Lib.hid (by simp only [wrongA, h]; rfl)
   subst hn
   go_enter Tryz.func67, Tryz.ntmps67
   go_wp2
   go_ret
   rw [HT.out]
   exact ⟨rfl, rfl⟩
 ·by_cases h : 9 < n
  ·have HT : Hid (wrongA 2 n x = 2) := Lib.hid (by simp [wrongA, h])
   subst hn
   go_enter Tryz.func67, Tryz.ntmps67
   go_wp2
   go_ret
   rw [HT.out]
   exact ⟨rfl, rfl⟩
  ·by_cases h1 : 1 < n
   ·have hx0 := hx (by omega)
    by_cases hx1 : x = 48
    ·have HT : Hid (wrongA 2 n x = 1) := Lib.hid (by simp [wrongA, h, h1, hx1])
     subst hn
     have hx2 : ((t[0].toNat : Int) == 48) = true := by rw [hx0, hx1]; rfl
     clear hx0 hx hx1
     go_enter Tryz.func67, Tryz.ntmps67
     go_wp2
     go_ret
     rw [HT.out]
     exact ⟨rfl, rfl⟩
    ·have HT : Hid (wrongA 2 n x = 0) := Lib.hid (by simp [wrongA, h, h1, hx1])
     subst hn
     have hx2 : ((t[0].toNat : Int) == 48) = false := by rw [hx0, beq_eq_false_iff_ne]; exact fun h => hx1 (UInt8.toNat_inj.1 (by rw [show (48 : UInt8).toNat = 48 from rfl]; omega))
     clear hx0 hx hx1
     go_enter Tryz.func67, Tryz.ntmps67
     go_wp2
     go_ret
     rw [HT.out]
     exact ⟨rfl, rfl⟩
   ·have HT : Hid (wrongA 2 n x = 0) := Lib.hid (by simp [wrongA, h, h1])
    subst hn
    clear hx
    go_enter Tryz.func67, Tryz.ntmps67
    go_wp2
    go_ret
    rw [HT.out]
    exact ⟨rfl, rfl⟩
 ·by_cases h : 22 < n
  all_goals
   have HT : Hid (wrongA 3 n x = _) := Lib.hid (by simp only [wrongA, h]; rfl)
   subst hn
   go_enter Tryz.func67, Tryz.ntmps67
   go_wp2
   go_ret
   rw [HT.out]
   exact ⟨rfl, rfl⟩
 ·have HT : Hid (wrongA 4 n x = 0) := Lib.hid (by simp [wrongA])
  subst hn
  go_enter Tryz.func67, Tryz.ntmps67
  go_wp2
  go_ret
  rw [HT.out]
  exact ⟨rfl, rfl⟩
end Go.Proofs.YtjdgejfhnfnmgaaGreatDoor
namespace Go.Proofs.YtjdgejfhnfnmgaaGreatDoor
open Go.RowKit
theorem wrongat_any (s : ByteArray) (p : Nat) (w : World) (hp : p < s.size) (hs : s.size ≤ 2000) :
  Calls Tryz.prog 67 #[.int .i64 (tokA s[p] (s.data.toList.drop (p + 1))).1, .string (s.extract p (p + (tokA s[p] (s.data.toList.drop (p + 1))).2))] w fun e w' => e = .returned (.int .i64 (tokL s[p] (s.data.toList.drop (p + 1))).2.2) ∧ w = w' := by
 have hnl := tokA_len s[p] (s.data.toList.drop (p + 1))
 rw [List.length_drop, Array.length_toList, show s.data.size = s.size from rfl] at hnl
 rw [← wrong_tok]
 have hsz : (s.extract p (p + (tokA s[p] (s.data.toList.drop (p + 1))).2)).size = (tokA s[p] (s.data.toList.drop (p + 1))).2 := by rw [ByteArray.size_extract]; omega
 refine wrong_any _ _ _ _ w (tokA_kind _ _) hsz (by unfold maxLen; omega) ?_
 intro h
 rw [ByteArray.getElem_extract]
 rfl
end Go.Proofs.YtjdgejfhnfnmgaaGreatDoor
namespace Go.Proofs.YtjdgejfhnfnmgaaGreatDoor
open Go.RowKit
theorem tokB_at (k : Int) (s : ByteArray) (h : 0 < s.size) : tokB k s = (decide (s.size ≤ 2000) && !(k == 0) && (((tokA s[0] (s.data.toList.drop 1)).1 : Int) == k) && decide ((tokA s[0] (s.data.toList.drop 1)).2 = s.size) && decide ((tokL s[0] (s.data.toList.drop 1)).2.2 = 0)) := by
 have hx := drop_at s 0 h
 rw [List.drop_zero] at hx
 unfold tokB
 rw [hx]
 rfl
set_option maxHeartbeats 2000000 in
theorem istok_any (k : Int) (s : ByteArray) (w : World) (hs : s.size ≤ maxLen) :
  Calls Tryz.prog 60 #[.int .i64 k, .string s] w fun e w' => e = .returned (.bool (tokB k s)) ∧ w = w' := by
 unfold maxLen at hs
 by_cases h0 : s.size = 0
 ·have hl : s.data.toList = [] := List.eq_nil_of_length_eq_zero (by rw [size_list]; exact h0)
  have HT : Hid (tokB k s = false) := Lib.hid (by unfold tokB; rw [hl])
  have e1 : s.toList.isEmpty = true := by rw [ByteArray.toList_eq, hl]; rfl
  have e2 : s.toList = [] := by rw [ByteArray.toList_eq, hl]
  clear hl
  go_enter Tryz.func60, Tryz.ntmps60
  go_wp2_with fail
  go_ret
  exact ⟨by rw [HT.out]; rfl, rfl⟩
 have hpos : 0 < s.size := by omega
 have hB := tokB_at k s hpos
 have e1 : s.toList.isEmpty = false := by
  rw [ByteArray.toList_eq]
  rcases h : s.data.toList with _ | _
  ·have := size_list s; rw [h] at this; simp at this; omega
  ·rfl
 clear h0
 by_cases h2 : 2000 < s.size
 ·have HT := Lib.hid (show tokB k s = false by rw [hB, decide_eq_false (by omega)]; simp)
  clear hB
  go_enter Tryz.func60, Tryz.ntmps60
  go_wp2_with fail
  go_ret
  exact ⟨by rw [HT.out]; rfl, rfl⟩
 rcases hk : (k == 0) with _ | _
 ·have hA := at_any s 0 w hpos (by omega)
  have hW := wrongat_any s 0 w hpos (by omega)
  rw [decide_eq_true (by omega : s.size ≤ 2000), hk] at hB
  simp only [Bool.true_and, Bool.not_false, Nat.zero_add] at hB hA hW
  have h9 : tokL s[0] (s.data.toList.drop 1) = tokL s[0] (s.data.toList.drop 1) := rfl
  have hnl := tokA_len s[0] (s.data.toList.drop 1)
  rw [List.length_drop, size_list] at hnl
  generalize tokA s[0] (s.data.toList.drop 1) = t at *
  generalize tokL s[0] (s.data.toList.drop 1) = u at *
  obtain ⟨tk, tn⟩ := t
  obtain ⟨uk, un, ue⟩ := u
  simp only at hB hA hW hnl
  rcases h1 : ((tk : Int) == k) with _ | _
  ·rw [h1, Bool.false_and, Bool.false_and] at hB
   have HT := Lib.hid hB
   have HA := Lib.hid hA
   clear hB hA hW
   go_enter Tryz.func60, Tryz.ntmps60
   go_wp2_with fail
   refine HA.out.mono ?_
   rintro e w1 ⟨rfl, rfl⟩
   go_wp2_with fail
   go_ret
   exact ⟨by rw [HT.out]; rfl, rfl⟩
  rw [h1, Bool.true_and] at hB
  obtain rfl : (tk : Int) = k := by simpa using h1
  by_cases hn : tn = s.size
  ·rw [decide_eq_true hn, Bool.true_and] at hB
   have hn' : ((tn : Int) == (s.size : Int)) = true := by rw [hn]; simp
   have hex : s.extract 0 tn = s := by rw [hn]; rw [ByteArray.extract_zero_size]
   rw [hex] at hW
   rw [show decide (ue = 0) = ((ue : Int) == 0) by rw [Bool.eq_iff_iff, beq_iff_eq, decide_eq_true_eq]; omega] at hB
   have HT := Lib.hid hB
   have HA := Lib.hid hA
   have HW := Lib.hid hW
   clear hB hA hW hn hex h1
   go_enter Tryz.func60, Tryz.ntmps60
   go_wp2_with fail
   refine HA.out.mono ?_
   rintro e w1 ⟨rfl, rfl⟩
   go_wp2_with fail
   refine HW.out.mono ?_
   rintro e w1 ⟨rfl, rfl⟩
   go_wp2_with fail
   go_ret
   exact ⟨by rw [HT.out]; rfl, rfl⟩
  ·rw [decide_eq_false hn, Bool.false_and] at hB
   have hn' : ((tn : Int) == (s.size : Int)) = false := by rw [beq_eq_false_iff_ne]; omega
   have HT := Lib.hid hB
   have HA := Lib.hid hA
   clear hB hA hW hn h1
   go_enter Tryz.func60, Tryz.ntmps60
   go_wp2_with fail
   refine HA.out.mono ?_
   rintro e w1 ⟨rfl, rfl⟩
   go_wp2_with fail
   go_ret
   exact ⟨by rw [HT.out]; rfl, rfl⟩
 ·obtain rfl : k = 0 := by simpa using hk
  have HT := Lib.hid (show tokB 0 s = false by rw [hB]; simp)
  clear hB
  go_enter Tryz.func60, Tryz.ntmps60
  go_wp2_with fail
  go_ret
  exact ⟨by rw [HT.out]; rfl, rfl⟩
end Go.Proofs.YtjdgejfhnfnmgaaGreatDoor
namespace Go.Proofs.YtjdgejfhnfnmgaaGreatDoor.Ax
open Go.RowKit
set_option linter.unusedSimpArgs false
attribute [local go_sem] ty3 ty4 ty9 ty26 meltSt
set_option linter.unusedVariables false
set_option maxRecDepth 100000
abbrev rS (l : List ByteArray) : List (List T) := l.map fun s => [.lit (.string s)]
theorem litS_ (l : List ByteArray) : litRows (rS l) = true := litRows_map fun _ => rfl
theorem lenS_ (l : List ByteArray) : (∀ r ∈ rS l, r.length = 1) = True := all_len fun _ => rfl
theorem istoken_sp (k : Int) (s : ByteArray) (hs : s.size ≤ maxLen) : Sp Tryz.prog 60 [.one (.lit (.int .i64 k)), .one (.lit (.string s))] (.one (.t true (.lit (.bool (tokB k s))))) [] :=
 sp_lits (enters_of Tryz.func60 (by kernel_rfl) rfl) [.int .i64 k, .string s] _ rfl rfl fun w => (istok_any k s w hs).mono fun _ _ h => ⟨h.1, h.2 ▸ Below.refl _ _⟩
theorem tone_sp (k : Int) (s : ByteArray) (hs : s.size ≤ maxLen) : Sp Tryz.prog 54 [.one (.lit (.int .i64 k)), .one (.lit (.string s))] (.one (.t true (.lit (.bool (tokB k s))))) [] := by
 rw [← one_tok]
 exact sp_lits (enters_of Tryz.func54 (by kernel_rfl) rfl) [.int .i64 k, .string s] _ rfl rfl fun w => (one_any k s w hs).mono fun _ _ h => h
theorem tname_sp (s : ByteArray) (hs : s.size ≤ maxLen) : Sp Tryz.prog 128 [.one (.lit (.string s))] (.one (.t true (.lit (.bool (tokB 1 s))))) [] := by
 have h1 := tone_sp 1 s hs
 (refine en_ Tryz.func128 Tryz.ntmps128 Tryz.results128 fun X hX => ?_)
 (refine gs_ ?_)
 (refine rn_ 8 an0 fun K hK => ?_; refine rr_ an0 ?_)
 ((first | refine rwr_nil (hK _ ?_) | refine de_ (hK _ ?_)); clear hK K)
 (refine gs_ ?_)
 (refine rn_ 8 an0 fun K hK => ?_; refine rr_ an0 ?_)
 (refine ca_ an0 ?_ (hsp := h1); refine rr_ an0 ?_)
 ((first | refine rwr_nil (hK _ ?_) | refine de_ (hK _ ?_)); clear hK K)
 (refine go_ an0 ?_)
 (first | exact oq_ an0 | refine ou_ an0 ?_)
theorem any_drop {α : Type} (p : α → Bool) {l : List α} {k : Nat} {x : α} (h : l[k]? = some x) : (l.drop k).any p = (p x || (l.drop (k + 1)).any p) := by
 obtain ⟨hk, rfl⟩ := List.getElem?_eq_some_iff.1 h
 rw [List.drop_eq_getElem_cons hk, List.any_cons]
theorem isword_sp (s : ByteArray) : Sp Tryz.prog 61 [.one (.lit (.string s))] (.one (.t true (.lit (.bool (isWordB s))))) [] := by
 unfold isWordB
 have hl : wordsL.length = 36 := rfl
 (refine en_ Tryz.func61 Tryz.ntmps61 Tryz.results61 fun X hX => ?_)
 (refine go_ an0 ?_)
 refine cw_melt 3 5 rfl rfl rfl ?_
 refine cw_loop (fun m st => ∃ k, k ≤ wordsL.length ∧ m = wordsL.length - k ∧ (wordsL.drop k).any (fun x => x.toList == s.toList) = wordsL.any (fun x => x.toList == s.toList) ∧ st = ⟨[(4, litI .i64 k), (3, .one (.t true (.sl (rS wordsL)))), (0, .one (.t false (.lit (.string s))))], []⟩) wordsL.length ⟨_, ⟨0, Nat.zero_le _, rfl, rfl, rfl⟩, le_⟩ ?_
 rintro m st ⟨k, hk, rfl, hf, rfl⟩
 by_cases hlt : k < wordsL.length
 ·have e1 : decide ((k : Int) < (wordsL.length : Int)) = true := by simp; omega
  obtain ⟨x, hx⟩ : ∃ x, wordsL[k]? = some x := ⟨_, List.getElem?_eq_getElem hlt⟩
  have e4 : IntKind.i64.wrap ((k : Int) + 1) = ((k + 1 : Nat) : Int) := by rw [IntWalk.i64_in _ (by omega)]; rfl
  have j2 : (k : Int) < (wordsL.length : Int) := by omega
  have j3 : (0 : Int) ≤ (k : Int) := by omega
  rw [any_drop _ hx] at hf
  generalize wordsL = L at *
  (refine go_ (an5 e1 hx hlt j2 j3) ?_)
  refine cw_cond rfl (fun hp => ?_) (fun hp => ?_)
  ·rw [hp] at hf
   rw [← hf]
   (refine go_ an0 ?_)
   (first | exact oq_ an0 | refine ou_ an0 ?_)
   try rfl
  ·rw [hp, Bool.false_or] at hf
   (refine go_ e4 ?_)
   exact ⟨L.length - (k + 1), by omega, _, ⟨k + 1, by omega, rfl, hf, rfl⟩, le_⟩
 ·have e1 : decide ((k : Int) < (wordsL.length : Int)) = false := by simp; omega
  rw [List.drop_eq_nil_of_le (by omega)] at hf
  rw [← hf]
  generalize wordsL = L at *
  (refine go_ e1 ?_)
  (first | exact oq_ an0 | refine ou_ an0 ?_)
  try rfl
theorem isname_sp (s : ByteArray) (hs : s.size ≤ maxLen) : Sp Tryz.prog 27 [.one (.lit (.string s))] (.one (.t true (.lit (.bool (nameB s))))) [] := by
 have h1 := istoken_sp 1 s hs
 have h2 := isword_sp s
 unfold nameB
 generalize tokB 1 s = tb at *
 cases tb
 ·(refine en_ Tryz.func27 Tryz.ntmps27 Tryz.results27 fun X hX => ?_)
  (refine gs_ ?_)
  (refine rn_ 8 an0 fun K hK => ?_; refine rr_ an0 ?_)
  ((first | refine rwr_nil (hK _ ?_) | refine de_ (hK _ ?_)); clear hK K)
  (refine gs_ ?_)
  (refine rn_ 8 an0 fun K hK => ?_; refine rr_ an0 ?_)
  (refine ca_ an0 ?_ (hsp := h1); refine rr_ an0 ?_)
  (refine rr_ an0 ?_)
  ((first | refine rwr_nil (hK _ ?_) | refine de_ (hK _ ?_)); clear hK K)
  (refine go_ an0 ?_)
  (first | exact oq_ an0 | refine ou_ an0 ?_)
  try rfl
 ·(refine en_ Tryz.func27 Tryz.ntmps27 Tryz.results27 fun X hX => ?_)
  (refine gs_ ?_)
  (refine rn_ 8 an0 fun K hK => ?_; refine rr_ an0 ?_)
  ((first | refine rwr_nil (hK _ ?_) | refine de_ (hK _ ?_)); clear hK K)
  (refine gs_ ?_)
  (refine rn_ 8 an0 fun K hK => ?_; refine rr_ an0 ?_)
  (refine ca_ an0 ?_ (hsp := h1); refine rr_ an0 ?_)
  (refine rr_ an0 ?_)
  (refine ca_ an0 ?_ (hsp := h2); refine rr_ an0 ?_)
  (refine rr_ an0 ?_)
  ((first | refine rwr_nil (hK _ ?_) | refine de_ (hK _ ?_)); clear hK K)
  (refine go_ an0 ?_)
  (first | exact oq_ an0 | refine ou_ an0 ?_)
  try rfl
attribute [local go_sem] isE
theorem nameis_sp (s : ByteArray) (hs : s.size ≤ maxLen) (b : Bool) : Sp Tryz.prog 24 [.one (.lit (.string s)), .one (.lit (.bool b))] (.one (.t true (.lit (.bool (namedB s b))))) [] := by
 have h1 := isname_sp s hs
 unfold namedB
 cases b
 ·rw [if_neg (by decide)]
  (refine en_ Tryz.func24 Tryz.ntmps24 Tryz.results24 fun X hX => ?_)
  (refine go_ an0 ?_)
  (first | exact oq_ an0 | refine ou_ an0 ?_)
  try exact isE s
 ·rw [if_pos rfl]
  (refine en_ Tryz.func24 Tryz.ntmps24 Tryz.results24 fun X hX => ?_)
  (refine go_ an0 ?_)
  (refine rn_ 8 an0 fun K hK => ?_; refine rr_ an0 ?_)
  (refine ca_ an0 ?_ (hsp := h1); refine rr_ an0 ?_)
  ((first | refine rwr_nil (hK _ ?_) | refine de_ (hK _ ?_)); clear hK K)
  (refine go_ an0 ?_)
  (first | exact oq_ an0 | refine ou_ an0 ?_)
end Go.Proofs.YtjdgejfhnfnmgaaGreatDoor.Ax
namespace Go.Proofs.YtjdgejfhnfnmgaaGreatDoor.Ax
open Go.RowKit
set_option linter.unusedSimpArgs false
attribute [local go_sem] ty3 ty4 ty9 ty5 ty77 ty43 ty69 ty101
set_option linter.unusedVariables false
set_option maxRecDepth 100000
end Go.Proofs.YtjdgejfhnfnmgaaGreatDoor.Ax
namespace Go.Proofs.YtjdgejfhnfnmgaaGreatDoor.Ax
open Go.RowKit
set_option linter.unusedSimpArgs false
attribute [local go_sem] ty3 ty4 ty9 ty5 ty24 ty77 ty43 ty69 ty101
set_option linter.unusedVariables false
set_option maxRecDepth 100000
end Go.Proofs.YtjdgejfhnfnmgaaGreatDoor.Ax
namespace Go.Proofs.YtjdgejfhnfnmgaaGreatDoor.Ax
open Go.RowKit
set_option linter.unusedSimpArgs false
attribute [local go_sem] ty3 ty4 ty9 ty26 meltSt
set_option linter.unusedVariables false
set_option maxRecDepth 100000
theorem words_sp : Sp Tryz.prog 130 [] (.one (.own 1 36)) [(1, .arr 9 1 true (rS wordsL))] := by
 (refine en_ Tryz.func130 Tryz.ntmps130 Tryz.results130 fun X hX => ?_)
 (refine go_ an0 ?_)
 (exact ow_ an0)
 all_goals rfl
theorem indexS_sp (l : List ByteArray) (s : ByteArray) (hl : l.length ≤ maxLen) : Sp Tryz.prog 157 [.one (.sl (rS l)), .one (.lit (.string s))] (.one (.t true (.lit (.int .i64 (placeF (fun x => x.toList == s.toList) l 0))))) [] := by
 unfold maxLen at hl
 (refine en_ Tryz.func157 Tryz.ntmps157 Tryz.results157 fun X hX => ?_)
 (refine go_ an0 ?_)
 refine cw_loop (fun m st => ∃ k, k ≤ l.length ∧ m = l.length - k ∧ placeF (fun x => x.toList == s.toList) (l.drop k) k = placeF (fun x => x.toList == s.toList) l 0 ∧ st = ⟨[(8, litI .i64 k), (7, litI .i64 l.length), (0, .one (.t false (.sl (rS l)))), (1, .one (.t false (.lit (.string s))))], []⟩) l.length ⟨_, ⟨0, Nat.zero_le _, rfl, rfl, rfl⟩, le_⟩ ?_
 rintro m st ⟨k, hk, rfl, hf, rfl⟩
 by_cases hlt : k < l.length
 ·have e1 : decide ((k : Int) < (l.length : Int)) = true := by simp; omega
  obtain ⟨x, hx⟩ : ∃ x, l[k]? = some x := ⟨_, List.getElem?_eq_getElem hlt⟩
  have e4 : IntKind.i64.wrap ((k : Int) + 1) = ((k + 1 : Nat) : Int) := by rw [IntWalk.i64_in _ (by omega)]; rfl
  have j2 : (k : Int) < (l.length : Int) := by omega
  have j3 : (0 : Int) ≤ (k : Int) := by omega
  rw [drop_eq _ _ _ hx, placeF] at hf
  cases hp : (x.toList == s.toList)
  ·have hp' : (s.toList == x.toList) = false := by rw [Bool.eq_false_iff] at hp ⊢; intro h; exact hp (by rw [beq_iff_eq] at h ⊢; exact h.symm)
   rw [if_neg (by rw [hp]; decide)] at hf
   (refine go_ (an7 e1 hx hlt j2 j3 hp' e4) ?_)
   exact ⟨l.length - (k + 1), by omega, _, ⟨k + 1, by omega, rfl, hf, rfl⟩, le_⟩
  ·have hp' : (s.toList == x.toList) = true := by rw [beq_iff_eq] at hp ⊢; exact hp.symm
   rw [if_pos hp] at hf
   rw [← hf]
   (refine go_ (an6 e1 hx hlt j2 j3 hp') ?_)
   (first | exact oq_ an0 | refine ou_ an0 ?_)
 ·have e1 : decide ((k : Int) < (l.length : Int)) = false := by simp; omega
  rw [List.drop_eq_nil_of_le (by omega)] at hf
  rw [← hf]
  (refine go_ e1 ?_)
  (first | exact oq_ an0 | refine ou_ an0 ?_)
  try rfl
theorem place_any {α : Type} (p : α → Bool) (l : List α) (i : Nat) : decide (0 ≤ placeF p l i) = l.any p := by
 induction l generalizing i with
 | nil => rfl
 | cons x l ih =>
  rw [placeF, List.any_cons]
  split
  ·rename_i h; rw [h]; simp
  ·rename_i h
   rw [ih, Bool.eq_false_iff.2 h, Bool.false_or]
theorem containsS_sp (l : List ByteArray) (s : ByteArray) (hl : l.length ≤ maxLen) : Sp Tryz.prog 129 [.one (.sl (rS l)), .one (.lit (.string s))] (.one (.t true (.lit (.bool (l.any fun x => x.toList == s.toList))))) [] := by
 have h1 := indexS_sp l s hl
 rw [← place_any _ l 0]
 (refine en_ Tryz.func129 Tryz.ntmps129 Tryz.results129 fun X hX => ?_)
 (refine gs_ ?_)
 (refine rn_ 8 an0 fun K hK => ?_; refine rr_ an0 ?_)
 ((first | refine rwr_nil (hK _ ?_) | refine de_ (hK _ ?_)); clear hK K)
 (refine gs_ ?_)
 (refine rn_ 8 an0 fun K hK => ?_; refine rr_ an0 ?_)
 (refine ca_ an0 ?_ (hsp := h1); refine rr_ an0 ?_)
 ((first | refine rwr_nil (hK _ ?_) | refine de_ (hK _ ?_)); clear hK K)
 (refine go_ an0 ?_)
 (first | exact oq_ an0 | refine ou_ an0 ?_)
theorem cname_sp (s : ByteArray) (hs : s.size ≤ maxLen) : Sp Tryz.prog 78 [.one (.lit (.string s))] (.one (.t true (.lit (.bool (nameB s))))) [] := by
 have h1 := tname_sp s hs
 have h2 := words_sp.ren [(1, 6)] rfl rfl rfl rfl
 have h3 := containsS_sp wordsL s (by decide)
 have hL : wordsL.length = 36 := rfl
 unfold nameB isWordB
 generalize wordsL = L at *
 generalize tokB 1 s = tb at *
 cases tb
 ·(refine en_ Tryz.func78 Tryz.ntmps78 Tryz.results78 fun X hX => ?_)
  (refine gs_ ?_)
  (refine rn_ 8 an0 fun K hK => ?_; refine rr_ an0 ?_)
  ((first | refine rwr_nil (hK _ ?_) | refine de_ (hK _ ?_)); clear hK K)
  (refine gs_ ?_)
  (refine rn_ 8 an0 fun K hK => ?_; refine rr_ an0 ?_)
  (refine ca_ an0 ?_ (hsp := h1); refine rr_ an0 ?_)
  (refine rr_ an0 ?_)
  ((first | refine rwr_nil (hK _ ?_) | refine de_ (hK _ ?_)); clear hK K)
  (refine go_ an0 ?_)
  (first | exact oq_ an0 | refine ou_ an0 ?_)
  try rfl
 ·(refine en_ Tryz.func78 Tryz.ntmps78 Tryz.results78 fun X hX => ?_)
  (refine gs_ ?_)
  (refine rn_ 8 an0 fun K hK => ?_; refine rr_ an0 ?_)
  ((first | refine rwr_nil (hK _ ?_) | refine de_ (hK _ ?_)); clear hK K)
  (refine gs_ ?_)
  (refine rn_ 8 an0 fun K hK => ?_; refine rr_ an0 ?_)
  (refine ca_ an0 ?_ (hsp := h1); refine rr_ an0 ?_)
  (refine rr_ an0 ?_)
  (refine ca_ hL ?_ (hsp := h2); refine rr_ hL ?_)
  (refine rr_ an0 ?_)
  (refine ca_ hL ?_ (hsp := h3); refine rr_ hL ?_)
  (refine rr_ an0 ?_)
  ((first | refine rwr_nil (hK _ ?_) | refine de_ (hK _ ?_)); clear hK K)
  (refine go_ an0 ?_)
  (first | exact oq_ an0 | refine ou_ an0 ?_)
  try rfl
end Go.Proofs.YtjdgejfhnfnmgaaGreatDoor.Ax
namespace Go.Proofs.YtjdgejfhnfnmgaaGreatDoor.Ax
open Go.RowKit
set_option linter.unusedSimpArgs false
attribute [local go_sem] ty3 ty4 ty9 ty5 ty77 ty43 ty67 ty65
set_option linter.unusedVariables false
set_option maxRecDepth 100000
def paH (l : List Vl) (en : Int) (k : Nat) : List C := [.t false (.sl (rVs l)), .t false (.lit (.int .i64 k)), .t false (.lit (.int .i64 en))]
def chP (l : List Vl) (en : Int) (k : Nat) : List PanicEntry := [{ v := .iface 96 (.int .i64 (hereP l en k)), recovered := false }]
set_option maxHeartbeats 4000000 in
theorem pfail_l (l : List Vl) (en : Int) (k : Nat) : SpPL Tryz.prog 120 [.one (.optr 1000 0)] 67 (paH l en k) (chP l en k) 26 := by
 intro vs hlen hone
 unfold paH
 by_cases hlt : k < l.length
 ·obtain ⟨t, ht⟩ : ∃ t, l[k]? = some t := ⟨_, List.getElem?_eq_getElem hlt⟩
  have e1 : decide ((k : Int) < (l.length : Int)) = true := by simp; omega
  have j2 : (k : Int) < (l.length : Int) := by omega
  have j3 : (0 : Int) ≤ (k : Int) := by omega
  unfold chP hereP
  rw [ht]
  refine ep_ Tryz.func120 Tryz.ntmps120 fun X hX hp => ?_
  refine au_ (an5 e1 ht hlt j2 j3) ?_
  refine rn_ 1 an0 fun K hK => ?_
  exact rwr_throw (a0 := 28) rfl hp (hy := Tryz.underlying96) (hni := by intro m h; cases h)
 ·have e1 : decide ((k : Int) < (l.length : Int)) = false := by simp; omega
  unfold chP hereP
  rw [List.getElem?_eq_none (by omega)]
  refine ep_ Tryz.func120 Tryz.ntmps120 fun X hX hp => ?_
  refine au_ e1 ?_
  refine rn_ 1 an0 fun K hK => ?_
  exact rwr_throw (a0 := 28) rfl hp (hy := Tryz.underlying96) (hni := by intro m h; cases h)
def takeK (l : List Vl) (s : ByteArray) (k : Nat) : Nat := cond (takeB l s k) (k + 1) k
set_option maxHeartbeats 4000000 in
theorem ptake_l (l : List Vl) (hl : l.length ≤ 4000) (en : Int) (k : Nat) (s : ByteArray) : SpL Tryz.prog 148 [.one (.optr 1000 0), .one (.t false (.lit (.string s)))] 67 (paH l en k) (.one (.t true (.lit (.bool (takeB l s k))))) (paH l en (takeK l s k)) 26 := by
 intro vs hlen hone
 unfold takeK takeB
 unfold paH
 by_cases hlt : k < l.length
 ·obtain ⟨t, ht⟩ : ∃ t, l[k]? = some t := ⟨_, List.getElem?_eq_getElem hlt⟩
  have e1 : decide ((l.length : Int) ≤ (k : Int)) = false := by simp; omega
  have j2 : (k : Int) < (l.length : Int) := by omega
  have j3 : (0 : Int) ≤ (k : Int) := by omega
  have e2 : IntKind.i64.wrap ((k : Int) + 1) = ((k + 1 : Nat) : Int) := by rw [IntWalk.i64_in _ (by omega)]; rfl
  rw [ht]
  dsimp only
  unfold strEq
  cases hq : (t.s.toList == s.toList) with
  | true =>
   have hq2 : (t.s.toList != s.toList) = false := by unfold bne; rw [hq]; rfl
   rw [cond_true]
   (refine ei_ Tryz.func148 Tryz.ntmps148 Tryz.results148 fun X hX => ?_)
   refine au_ (an2 (an5 e1 ht hlt j2 j3) (an3 hq hq2 e2)) ?_
   exact oj_ an0 (.inl rfl)
  | false =>
   have hq2 : (t.s.toList != s.toList) = true := by unfold bne; rw [hq]; rfl
   rw [cond_false]
   (refine ei_ Tryz.func148 Tryz.ntmps148 Tryz.results148 fun X hX => ?_)
   refine au_ (an2 (an5 e1 ht hlt j2 j3) (an2 hq hq2)) ?_
   exact oj_ an0 (.inl rfl)
 ·have e1 : decide ((l.length : Int) ≤ (k : Int)) = true := by simp; omega
  rw [List.getElem?_eq_none (by omega)]
  dsimp only
  rw [cond_false]
  (refine ei_ Tryz.func148 Tryz.ntmps148 Tryz.results148 fun X hX => ?_)
  refine au_ e1 ?_
  exact oj_ an0 (.inl rfl)
set_option maxHeartbeats 4000000 in
theorem pkind_l (l : List Vl) (en : Int) (k : Nat) (n : Int) : SpL Tryz.prog 165 [.one (.optr 1000 0), .one (.t false (.lit (.int .i64 n)))] 67 (paH l en k) (.one (.t true (.lit (.bool (kindP l n k))))) (paH l en k) 26 := by
 intro vs hlen hone
 unfold kindP
 unfold paH
 by_cases hlt : k < l.length
 ·obtain ⟨t, ht⟩ : ∃ t, l[k]? = some t := ⟨_, List.getElem?_eq_getElem hlt⟩
  have e1 : decide ((k : Int) < (l.length : Int)) = true := by simp; omega
  have j2 : (k : Int) < (l.length : Int) := by omega
  have j3 : (0 : Int) ≤ (k : Int) := by omega
  rw [ht]
  dsimp only
  (refine ei_ Tryz.func165 Tryz.ntmps165 Tryz.results165 fun X hX => ?_)
  refine au_ (an5 e1 ht hlt j2 j3) ?_
  exact oj_ an0 (.inl rfl)
 ·have e1 : decide ((k : Int) < (l.length : Int)) = false := by simp; omega
  rw [List.getElem?_eq_none (by omega)]
  (refine ei_ Tryz.func165 Tryz.ntmps165 Tryz.results165 fun X hX => ?_)
  refine au_ e1 ?_
  exact oj_ an0 (.inl rfl)
set_option maxHeartbeats 4000000 in
theorem pname_l (l : List Vl) (hl : GoodL l) (en : Int) (k : Nat) (h : nameP l k = true) : SpL Tryz.prog 111 [.one (.optr 1000 0)] 67 (paH l en k) (.one (.t true (.lit (.string (txP l k))))) (paH l en (k + 1)) 26 := by
 intro vs hlen hone
 have hll := hl.len
 unfold nameP at h
 unfold txP paH
 by_cases hlt : k < l.length
 ·obtain ⟨t, ht⟩ : ∃ t, l[k]? = some t := ⟨_, List.getElem?_eq_getElem hlt⟩
  obtain ⟨_, _, _, hz, _⟩ := tok_facts (hl.tok t (List.mem_of_getElem? ht))
  have hN := cname_sp t.s (by unfold maxLen; omega)
  rw [ht] at h ⊢
  dsimp only at h ⊢
  rw [h] at hN
  have e1 : decide ((l.length : Int) ≤ (k : Int)) = false := by simp; omega
  have j2 : (k : Int) < (l.length : Int) := by omega
  have j3 : (0 : Int) ≤ (k : Int) := by omega
  have e2 : IntKind.i64.wrap ((k : Int) + 1) = ((k + 1 : Nat) : Int) := by rw [IntWalk.i64_in _ (by omega)]; rfl
  have e3 : IntKind.i64.wrap (((k + 1 : Nat) : Int) - 1) = (k : Int) := by rw [IntWalk.i64_in _ (by omega)]; omega
  (refine ei_ Tryz.func111 Tryz.ntmps111 Tryz.results111 fun X hX => ?_)
  refine au_ (an2 (an5 e1 ht hlt j2 j3) (an2 e2 e3)) ?_
  exact oj_ an0 (.inl rfl)
 ·rw [List.getElem?_eq_none (by omega)] at h
  cases h
set_option maxHeartbeats 4000000 in
theorem pname_p (l : List Vl) (hl : GoodL l) (en : Int) (k : Nat) (h : nameP l k = false) : SpPL Tryz.prog 111 [.one (.optr 1000 0)] 67 (paH l en k) (chP l en k) 26 := by
 intro vs hlen hone
 have hF := pfail_l l en k
 unfold nameP at h
 unfold paH at hF ⊢
 by_cases hlt : k < l.length
 ·obtain ⟨t, ht⟩ : ∃ t, l[k]? = some t := ⟨_, List.getElem?_eq_getElem hlt⟩
  obtain ⟨_, _, _, hz, _⟩ := tok_facts (hl.tok t (List.mem_of_getElem? ht))
  have hN := cname_sp t.s (by unfold maxLen; omega)
  rw [ht] at h
  dsimp only at h
  rw [h] at hN
  have e1 : decide ((l.length : Int) ≤ (k : Int)) = false := by simp; omega
  have j2 : (k : Int) < (l.length : Int) := by omega
  have j3 : (0 : Int) ≤ (k : Int) := by omega
  (refine ep_ Tryz.func111 Tryz.ntmps111 fun X hX hpn => ?_)
  refine au_ (an5 e1 ht hlt j2 j3) ?_
  (refine rn_ 0 an0 fun K hK => ?_; refine rx_ an0 ?_; exact pn_ 1000 an0 (hF) hpn)
 ·have e1 : decide ((l.length : Int) ≤ (k : Int)) = true := by simp; omega
  (refine ep_ Tryz.func111 Tryz.ntmps111 fun X hX hpn => ?_)
  refine au_ e1 ?_
  (refine rn_ 0 an0 fun K hK => ?_; refine rx_ an0 ?_; exact pn_ 1000 an0 (hF) hpn)
end Go.Proofs.YtjdgejfhnfnmgaaGreatDoor.Ax
