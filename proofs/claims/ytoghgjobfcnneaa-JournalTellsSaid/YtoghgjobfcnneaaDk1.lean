/- disk.Check. -/
import Derived.Test.YtoghgjobfcnneaaDkPlain
import Derived.Test.YtoghgjobfcnneaaOps2
import Derived.Test.YtoghgjobfcnneaaQuiet
import Derived.WalkSpells
import Derived.WalkLawsBesides
namespace Go.Proofs.Ytoghgjobfcnneaa
open Go.RowKit
/-- the first place at which p holds; -1: none -/
def idxF {α : Type} (p : α → Bool) : List α → Nat → Int
  | [], _ => -1
  | x :: l, i => if p x = true then (i : Int) else idxF p l (i + 1)
theorem idxF_any {α : Type} (p : α → Bool) (l : List α) (i : Nat) : decide (0 ≤ idxF p l i) = l.any p := by
  induction l generalizing i with
  | nil => simp [idxF]
  | cons x l ih =>
    rw [idxF, List.any_cons, ← ih (i + 1)]
    split
    · rename_i h; rw [h]; simp
    · rename_i h; simp [h]
theorem idxF_lo {α : Type} (p : α → Bool) (l : List α) (i : Nat) : -1 ≤ idxF p l i ∧ idxF p l i < i + l.length + (if l = [] then 0 else 0) := by
  induction l generalizing i with
  | nil => simp [idxF]; omega
  | cons x l ih =>
    rw [idxF]
    have := ih (i + 1)
    split
    · simp; omega
    · simp at this ⊢; omega
set_option maxHeartbeats 1000000 in
theorem indexS_any (G : FuncId) (caps : Array Value) (p : ByteArray → Bool) (l : List ByteArray) (A : Option Addr) (n c : Nat) (w : World) {L : Nat} (hr : repStr.row w L w.heap.size A n l) (hn : n ≤ maxLen) (hE : Enters Try.prog G)
    (hG : ∀ x ∈ l, Calls Try.prog G (#[.string x] ++ caps) w fun e w' => e = .returned (.bool (p x)) ∧ w = w') :
    Calls Try.prog 49 #[.slice A n c, .func (.func G) #[] caps] w fun e w' => e = .returned (.int .i64 (idxF p l 0)) ∧ w = w' := by
  unfold maxLen at hn
  have HL := Lib.hid hr.1
  have HG := Lib.hid hG
  clear hG
  unfold Enters at hE
  go_enter Try.func49, Try.ntmps49
  go_wp2_with fail
  go_loopg [8] n (fun m i wr => ∃ k : Nat, k ≤ n ∧ i = .int .i64 k ∧ m = n - k ∧ idxF p (l.drop k) k = idxF p l 0 ∧ w = wr)
  case atStart => exact ⟨0, Nat.zero_le _, rfl, rfl, rfl, rfl⟩
  case round =>
    obtain ⟨k, hk, rfl, rfl, hf, rfl⟩ := hrel
    have HF := Lib.hid hf
    clear hf
    by_cases hlt : k < n
    · obtain ⟨x, hx⟩ : ∃ x, l[k]? = some x := ⟨l[k]'(by rw [HL.out]; exact hlt), List.getElem?_eq_getElem _⟩
      obtain ⟨b, o, rfl, hbl, c0⟩ := repStr_at hr k hx
      have HC := Lib.hid (HG.out x (List.mem_of_getElem? hx))
      have hR := HF.out
      rw [drop_eq _ _ _ hx, idxF] at hR
      clear hx HF
      rcases hp : p x with _ | _
      · rw [if_neg (by simp [hp])] at hR
        rw [hp] at HC
        have HR := Lib.hid hR
        clear hR hp
        go_wp2_with fail
        refine HC.out.mono ?_
        rintro e w1 ⟨rfl, rfl⟩
        go_wp2_with fail
        go_roundg (n - (k + 1))
        case rel => exact ⟨k + 1, by omega, by go_num, rfl, HR.out, rfl⟩
        case measure => omega
      · rw [if_pos hp] at hR
        rw [hp] at HC
        have HR := Lib.hid hR
        clear hR hp
        go_wp2_with fail
        refine HC.out.mono ?_
        rintro e w1 ⟨rfl, rfl⟩
        go_wp2_with fail
        go_ret
        exact ⟨by rw [← HR.out]; rfl, rfl⟩
    · have hR := HF.out
      rw [List.drop_eq_nil_of_le (by rw [HL.out]; omega)] at hR
      have HR := Lib.hid hR
      clear hR
      go_wp2_with fail
      go_ret
      exact ⟨by rw [← HR.out]; rfl, rfl⟩
theorem containsS_any (G : FuncId) (caps : Array Value) (p : ByteArray → Bool) (l : List ByteArray) (A : Option Addr) (n c : Nat) (w : World) {L : Nat} (hr : repStr.row w L w.heap.size A n l) (hn : n ≤ maxLen) (hE : Enters Try.prog G)
    (hG : ∀ x ∈ l, Calls Try.prog G (#[.string x] ++ caps) w fun e w' => e = .returned (.bool (p x)) ∧ w = w') :
    Calls Try.prog 36 #[.slice A n c, .func (.func G) #[] caps] w fun e w' => e = .returned (.bool (l.any p)) ∧ w = w' := by
  have HC := Lib.hid (indexS_any G caps p l A n c w hr hn hE hG)
  have HA := Lib.hid (idxF_any p l 0)
  generalize idxF p l 0 = z at *
  clear hE hG
  go_enter Try.func36, Try.ntmps36
  go_wp2_with fail
  refine HC.out.mono ?_
  rintro e w1 ⟨rfl, rfl⟩
  go_wp2_with fail
  go_ret
  exact ⟨by rw [← HA.out]; rfl, rfl⟩
theorem bad_any (s : ByteArray) (w : World) (_hs : s.size ≤ maxLen) : Calls Try.prog 35 #[.string s] w fun e w' => e = .returned (.bool (badS s)) ∧ w = w' := by
  go_enter Try.func35, Try.ntmps35
  go_wp2_with fail
  go_ret
  exact ⟨by simp [badS, bne], rfl⟩
theorem bad_enters : Enters Try.prog 35 := enters_of Try.func35 (by kernel_rfl) (by kernel_rfl)
end Go.Proofs.Ytoghgjobfcnneaa
