/- Plain: which texts are numerals. -/
import Derived.Test.YtnjjpblgcgikaaaDoorVlPlain
namespace Go.Proofs.YtnjjpblgcgikaaaDoor
open Go.RowKit
/-- a text's sign; where its digits begin; these -/
def sgnL : List UInt8 → Int × Nat × List UInt8
  | c :: r => if c = 45 then (-1, 1, r) else (1, 0, c :: r)
  | [] => (1, 0, [])
theorem sgn_drop (l : List UInt8) : l.drop (sgnL l).2.1 = (sgnL l).2.2 ∧ (sgnL l).2.1 ≤ l.length := by
  cases l with
  | nil => exact ⟨rfl, Nat.zero_le _⟩
  | cons c r =>
    simp only [sgnL]
    split
    · exact ⟨rfl, by simp⟩
    · exact ⟨rfl, Nat.zero_le _⟩
theorem bs_inj {l r : List UInt8} (h : bs l = bs r) : l = r := congrArg (fun s : ByteArray => s.data.toList) h
theorem intS_some {l : List UInt8} {m : Int} (h : intS (bs l) = some m) : ((sgnL l).1 = 1 ∧ 0 ≤ m ∧ (sgnL l).2.2 = Lib.decDigits m.toNat ∧ m.toNat ≤ 999999999) ∨ ((sgnL l).1 = -1 ∧ m < 0 ∧ (sgnL l).2.2 = Lib.decDigits (-m).toNat ∧ (-m).toNat ≤ 999999999) := by
  obtain ⟨h1, h2, h3⟩ := intS_iff.1 h
  have hl := bs_inj h1
  by_cases hm : m < 0
  · right
    obtain ⟨u, rfl⟩ : ∃ u : Nat, m = -(u : Int) := ⟨m.natAbs, by omega⟩
    rw [Lib.itoa_neg u (by omega)] at hl
    rw [← hl, Int.neg_neg]
    exact ⟨rfl, hm, rfl, by omega⟩
  · left
    obtain ⟨u, rfl⟩ : ∃ u : Nat, m = (u : Int) := ⟨m.toNat, by omega⟩
    rw [Lib.itoa_nonneg] at hl
    have hne := digits_ne u
    have ha := digits_all u
    rw [hl] at hne ha
    have hs : sgnL l = (1, 0, l) := by
      cases l with
      | nil => exact absurd rfl hne
      | cons c r =>
        simp only [sgnL]
        rw [if_neg]
        rintro rfl
        have := ha 45 List.mem_cons_self
        simp at this
    rw [hs]
    exact ⟨rfl, by omega, hl.symm, by omega⟩
theorem intS_no {l : List UInt8} (h : (sgnL l).2.2 = [] ∨ 9 < (sgnL l).2.2.length ∨ ((sgnL l).2.2.head? = some 48 ∧ (1 < (sgnL l).2.2.length ∨ (sgnL l).1 < 0)) ∨ ∃ c ∈ (sgnL l).2.2, ¬ (48 ≤ c.toNat ∧ c.toNat ≤ 57)) : intS (bs l) = none := by
  cases hi : intS (bs l) with
  | none => rfl
  | some m =>
    exfalso
    have key : ∀ u : Nat, u ≤ 999999999 → (sgnL l).2.2 = Lib.decDigits u → ((sgnL l).1 < 0 → u ≠ 0) → False := by
      intro u hu hd hs
      rw [hd] at h
      rcases h with h | h | ⟨h, h'⟩ | ⟨c, hc, hn⟩
      · exact digits_ne u h
      · have := (digits_len u 9 (by decide)).2 (by omega)
        omega
      · by_cases h0 : u = 0
        · subst h0
          rcases h' with h' | h'
          · rw [dig_small (by decide)] at h'
            simp at h'
          · exact hs h' rfl
        · obtain ⟨d, r, e, h1, h2⟩ := digits_head u h0
          rw [e] at h
          simp only [List.head?_cons, Option.some.injEq] at h
          have := congrArg UInt8.toNat h
          rw [UInt8.toNat_ofNat'] at this
          simp at this
          omega
      · exact hn (digits_all u c hc)
    rcases intS_some hi with ⟨h1, h2, h3, h4⟩ | ⟨h1, h2, h3, h4⟩
    · exact key _ h4 h3 (fun h => by omega)
    · exact key _ h4 h3 (fun _ => by omega)
theorem intS_yes {l : List UInt8} {n : Nat} (hne : (sgnL l).2.2 ≠ []) (h9 : (sgnL l).2.2.length ≤ 9) (hz : (sgnL l).2.2.head? = some 48 → (sgnL l).2.2.length = 1 ∧ ¬ (sgnL l).1 < 0) (hd : ∀ c ∈ (sgnL l).2.2, 48 ≤ c.toNat ∧ c.toNat ≤ 57) (hn : Lib.decFrom 0 (sgnL l).2.2 = some n) :
    n ≤ 999999999 ∧ intS (bs l) = some ((sgnL l).1 * n) := by
  have hdd := digits_of _ hd hne (fun h => (hz h).1) hn
  have hn9 : n ≤ 999999999 := by
    rw [← hdd] at h9
    have := (digits_len n 9 (by decide)).1 h9
    omega
  refine ⟨hn9, intS_iff.2 ?_⟩
  cases l with
  | nil => exact absurd rfl hne
  | cons c r =>
    by_cases hc : c = 45
    · subst hc
      have hs : sgnL (45 :: r) = (-1, 1, r) := rfl
      rw [hs] at hdd hz ⊢
      have hn0 : n ≠ 0 := by
        rintro rfl
        rw [dig_small (by decide)] at hdd
        simp only at hdd hz
        rw [← hdd] at hz
        exact (hz rfl).2 (by decide)
      refine ⟨?_, by simp only; omega, by simp only; omega⟩
      show digS (-1 * (n : Int)) = _
      rw [show (-1 : Int) * (n : Int) = -(n : Int) by omega]
      unfold digS
      rw [Lib.itoa_neg n (by omega), hdd]
    · have hs : sgnL (c :: r) = (1, 0, c :: r) := by simp only [sgnL]; rw [if_neg hc]
      rw [hs] at hdd ⊢
      refine ⟨?_, by simp only; omega, by simp only; omega⟩
      show digS (1 * (n : Int)) = _
      rw [Int.one_mul]
      unfold digS
      rw [Lib.itoa_nonneg, hdd]
theorem decFrom_take {l : List UInt8} {k n : Nat} {c : UInt8} (h : Lib.decFrom 0 (l.take k) = some n) (hc : l[k]? = some c) (hd : 48 ≤ c.toNat ∧ c.toNat ≤ 57) : Lib.decFrom 0 (l.take (k + 1)) = some (10 * n + c.toNat - 48) := by
  rw [List.take_add_one, hc]
  show Lib.decFrom 0 (l.take k ++ [c]) = _
  rw [decFrom_append, h]
  have : Lib.digitVal c = some (c.toNat - 48) := by unfold Lib.digitVal; rw [if_pos hd]
  rw [this]
  simp only [Option.bind_some, Option.map_some]
  congr 1
  omega
end Go.Proofs.YtnjjpblgcgikaaaDoor
