/- The reference's comparison of tokens. -/
import Derived.Test.YtphaijjofmkjcaaTokElem
import Derived.BigQuiet
import Derived.Handy
import Derived.Deep.QuietTactic
import Derived.Deep.LoopGhost
namespace Go.Proofs.Ytphaijjofmkjcaa
open Go.RowKit
def sameT (a : Bool) (x y : Vl) : Bool := (x.k == y.k) && ((x.s.toList == y.s.toList) && (!a || (x.n == y.n)))
def sameTs (a : Bool) : List Vl → List Vl → Bool
  | [], [] => true
  | x :: l, y :: r => sameT a x y && sameTs a l r
  | _, _ => false
theorem sameTs_self (a : Bool) (l : List Vl) : sameTs a l l = true := by
  induction l with
  | nil => rfl
  | cons x l ih => simp [sameTs, sameT, ih]
theorem sameTs_len (a : Bool) (l r : List Vl) (h : sameTs a l r = true) : l.length = r.length := by
  induction l generalizing r with
  | nil => cases r <;> simp_all [sameTs]
  | cons x l ih => cases r with
    | nil => simp [sameTs] at h
    | cons y r => simp only [sameTs, Bool.and_eq_true] at h; simp [ih r h.2]
set_option maxHeartbeats 2000000 in
theorem rsamet_any (a : Bool) (vs us : List Vl) (A A' : Option Addr) (n n' c c' : Nat) (w : World) (hr : RdV w w.heap.size A n vs) (hr' : RdV w w.heap.size A' n' us) (hn : n ≤ maxLen) (hn' : n' ≤ maxLen) :
    Calls Try.prog 10 #[.slice A n c, .slice A' n' c', .bool a] w fun e w' => e = .returned (.bool (sameTs a vs us)) ∧ Below w.heap.size w w' := by
  unfold maxLen at hn hn'
  have hlen := hr.len
  have hlen' := hr'.len
  by_cases hnn : n = n'
  · subst hnn
    have HL := Lib.hid hlen
    have HL' := Lib.hid hlen'
    clear hlen hlen'
    go_enter Try.func10, Try.ntmps10
    go_wp2
    go_loopg [7] n (fun m i wr => ∃ k : Nat, k ≤ n ∧ i = .int .i64 k ∧ m = n - k ∧ sameTs a (vs.drop k) (us.drop k) = sameTs a vs us ∧ Below w.heap.size w wr)
    case atStart => exact ⟨0, Nat.zero_le _, rfl, rfl, rfl, Below.refl _ _⟩
    case round =>
      obtain ⟨k, hk, rfl, rfl, hf, hb⟩ := hrel
      have HF := Lib.hid hf
      clear hf
      by_cases hlt : k < n
      · obtain ⟨v, hv⟩ : ∃ v, vs[k]? = some v := ⟨vs[k]'(by rw [HL.out]; exact hlt), List.getElem?_eq_getElem _⟩
        obtain ⟨u, hu⟩ : ∃ v, us[k]? = some v := ⟨us[k]'(by rw [HL'.out]; exact hlt), List.getElem?_eq_getElem _⟩
        obtain ⟨b, o, rfl, hbl, c0, c1, c2⟩ := (show RdV wr w.heap.size A n vs from Rd.below hr hb).at_ k v hv
        obtain ⟨b', o', rfl, hbl', c0', c1', c2'⟩ := (show RdV wr w.heap.size A' n us from Rd.below hr' hb).at_ k u hu
        have HR := HF.out
        rw [drop_eq _ _ _ hv, drop_eq _ _ _ hu, sameTs] at HR
        have hz := hb.size
        clear hv hu HF
        obtain ⟨vk, vn, vs⟩ := v
        obtain ⟨uk, un, us⟩ := u
        simp only [sameT] at HR c0 c1 c2 c0' c1' c2'
        rcases h1 : (vk == uk) with _ | _
        · rw [h1, Bool.false_and, Bool.false_and] at HR
          have HQ := Lib.hid HR
          have h1' : (vk != uk) = true := by simp [bne, h1]
          clear h1 HR
          go_wp2_with fail
          go_quiet (fail)
          go_wp2_with fail
          go_ret
          exact ⟨by rw [← HQ.out]; rfl, below_drewN hb _⟩
        rw [h1, Bool.true_and] at HR
        obtain rfl : vk = uk := by simpa using h1
        clear h1
        rcases h2 : (vs.toList == us.toList) with _ | _
        · rw [h2, Bool.false_and, Bool.false_and] at HR
          have HQ := Lib.hid HR
          clear HR
          go_wp2_with fail
          go_quiet (fail)
          go_wp2_with fail
          go_ret
          exact ⟨by rw [← HQ.out]; rfl, below_drewN hb _⟩
        rw [h2, Bool.true_and] at HR
        obtain rfl : vs = us := by
          have h := beq_iff_eq.1 h2
          rw [ByteArray.toList_eq, ByteArray.toList_eq] at h
          obtain ⟨⟨l⟩⟩ := vs
          obtain ⟨⟨l'⟩⟩ := us
          simp only at h
          rw [h]
        clear h2
        cases a
        · rw [Bool.not_false, Bool.true_or, Bool.true_and] at HR
          have HQ := Lib.hid HR
          clear HR
          go_wp2_with fail
          go_quiet (fail)
          go_wp2_with fail
          go_roundg (n - (k + 1))
          case rel => exact ⟨k + 1, by omega, by go_num, rfl, HQ.out, below_drewN hb _⟩
          case measure => omega
        · rw [Bool.not_true, Bool.false_or] at HR
          rcases h3 : (vn == un) with _ | _
          · rw [h3, Bool.false_and] at HR
            have HQ := Lib.hid HR
            have h3' : (vn != un) = true := by simp [bne, h3]
            clear h3 HR
            go_wp2_with fail
            go_quiet (fail)
            go_wp2_with fail
            go_ret
            exact ⟨by rw [← HQ.out]; rfl, below_drewN hb _⟩
          · rw [h3, Bool.true_and] at HR
            have HQ := Lib.hid HR
            obtain rfl : vn = un := by simpa using h3
            clear h3 HR
            go_wp2_with fail
            go_quiet (fail)
            go_wp2_with fail
            go_roundg (n - (k + 1))
            case rel => exact ⟨k + 1, by omega, by go_num, rfl, HQ.out, below_drewN hb _⟩
            case measure => omega
      · have HZ := Lib.hid (show sameTs a vs us = true by
          rw [← HF.out, List.drop_eq_nil_of_le (by rw [HL.out]; omega), List.drop_eq_nil_of_le (by rw [HL'.out]; omega)]
          rfl)
        go_wp2_with fail
        go_ret
        exact ⟨by rw [HZ.out]; rfl, hb⟩
  · have hz : sameTs a vs us = false := by
      rw [← Bool.not_eq_true]
      intro h
      have := sameTs_len _ _ _ h
      omega
    have HZ := Lib.hid hz
    have hn1 : ((n : Int) != (n' : Int)) = true := by rw [bne_iff_ne]; omega
    clear hz hlen hlen' hnn
    go_enter Try.func10, Try.ntmps10
    go_wp2
    go_ret
    exact ⟨by rw [HZ.out]; rfl, Below.refl _ _⟩
end Go.Proofs.Ytphaijjofmkjcaa
