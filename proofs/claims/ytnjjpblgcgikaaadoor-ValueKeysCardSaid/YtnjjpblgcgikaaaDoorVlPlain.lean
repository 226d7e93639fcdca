/- Plain: numerals; casts; keys. -/
import Derived.Test.YtnjjpblgcgikaaaDoorExPlain
import Derived.Lib.ItoaMem
import Derived.Lib.AtoiTie
import Derived.Lib.AtoiAllCases
namespace Go.Proofs.YtnjjpblgcgikaaaDoor
open Go.RowKit
/-- a number's numeral -/
def digS (n : Int) : ByteArray := bs (Lib.itoa n)
theorem digS_data (n : Int) : (digS n).data.toList = Lib.itoa n := rfl
theorem dig_small {u : Nat} (h : u < 10) : Lib.decDigits u = [UInt8.ofNat (48 + u)] := by rw [Lib.decDigits, dif_pos h]
theorem dig_big {u : Nat} (h : ¬ u < 10) : Lib.decDigits u = Lib.decDigits (u / 10) ++ [UInt8.ofNat (48 + u % 10)] := by rw [Lib.decDigits, dif_neg h]
theorem decFrom_append : ∀ (l : List UInt8) (a : Nat) (c : UInt8), Lib.decFrom a (l ++ [c]) = (Lib.decFrom a l).bind fun n => (Lib.digitVal c).map fun d => n * 10 + d
  | [], a, c => by
    rw [List.nil_append, Lib.decFrom, Lib.decFrom]
    cases Lib.digitVal c <;> rfl
  | b :: l, a, c => by
    rw [List.cons_append, Lib.decFrom, Lib.decFrom]
    cases Lib.digitVal b with
    | none => rfl
    | some d => exact decFrom_append l _ c
theorem digitVal_of {d : Nat} (h : d < 10) : Lib.digitVal (UInt8.ofNat (48 + d)) = some d := by
  have e : (UInt8.ofNat (48 + d)).toNat = 48 + d := by rw [UInt8.toNat_ofNat']; omega
  unfold Lib.digitVal
  rw [e, if_pos (by omega)]
  congr 1
  omega
/-- a numeral's digits spell its number -/
theorem dec_digits (u : Nat) : Lib.decFrom 0 (Lib.decDigits u) = some u := by
  induction u using Nat.strongRecOn with
  | _ u ih =>
    by_cases h : u < 10
    · rw [dig_small h, Lib.decFrom, digitVal_of h]
      simp [Lib.decFrom]
    · rw [dig_big h, decFrom_append, ih (u / 10) (by omega), digitVal_of (by omega)]
      simp only [Option.bind_some, Option.map_some]
      congr 1
      omega
theorem digits_ne (u : Nat) : Lib.decDigits u ≠ [] := by
  by_cases h : u < 10
  · rw [dig_small h]; simp
  · rw [dig_big h]; simp
theorem digits_len (u : Nat) (k : Nat) (hk : 1 ≤ k) : (Lib.decDigits u).length ≤ k ↔ u < 10 ^ k := by
  induction k generalizing u with
  | zero => omega
  | succ k ih =>
    by_cases h : u < 10
    · rw [dig_small h]
      have : 1 ≤ 10 ^ k := Nat.one_le_pow _ _ (by decide)
      rw [Nat.pow_succ]
      simp
      omega
    · rw [dig_big h, List.length_append, List.length_singleton, Nat.pow_succ]
      cases k with
      | zero =>
        have := List.length_pos_iff.2 (digits_ne (u / 10))
        omega
      | succ k =>
        have := ih (u / 10) (by omega)
        omega
/-- the first digit is no zero, but of zero -/
theorem digits_head (u : Nat) (h : u ≠ 0) : ∃ d r, Lib.decDigits u = UInt8.ofNat (48 + d) :: r ∧ 1 ≤ d ∧ d < 10 := by
  induction u using Nat.strongRecOn with
  | _ u ih =>
    by_cases h1 : u < 10
    · exact ⟨u, [], dig_small h1, by omega, h1⟩
    · obtain ⟨d, r, e, h2, h3⟩ := ih (u / 10) (by omega) (by omega)
      exact ⟨d, r ++ [UInt8.ofNat (48 + u % 10)], by rw [dig_big h1, e]; rfl, h2, h3⟩
theorem digits_all (u : Nat) : ∀ c ∈ Lib.decDigits u, 48 ≤ c.toNat ∧ c.toNat ≤ 57 := by
  induction u using Nat.strongRecOn with
  | _ u ih =>
    have e : ∀ d, d < 10 → (UInt8.ofNat (48 + d)).toNat = 48 + d := fun d hd => by rw [UInt8.toNat_ofNat']; omega
    by_cases h : u < 10
    · rw [dig_small h]
      intro c hc
      rw [List.mem_singleton] at hc
      subst hc
      rw [e u h]; omega
    · rw [dig_big h]
      intro c hc
      rcases List.mem_append.1 hc with hc | hc
      · exact ih (u / 10) (by omega) c hc
      · rw [List.mem_singleton] at hc
        subst hc
        rw [e _ (by omega)]; omega
/-- digits without a zero ahead are their number's numeral -/
theorem digits_of (l : List UInt8) (hd : ∀ c ∈ l, 48 ≤ c.toNat ∧ c.toNat ≤ 57) (hne : l ≠ []) (hz : l.head? = some 48 → l.length = 1) {n : Nat} (h : Lib.decFrom 0 l = some n) : Lib.decDigits n = l := by
  have key : ∀ (k : Nat) (l : List UInt8) (n : Nat), l.length = k → (∀ c ∈ l, 48 ≤ c.toNat ∧ c.toNat ≤ 57) → l ≠ [] → (l.head? = some 48 → l.length = 1) → Lib.decFrom 0 l = some n → Lib.decDigits n = l := by
    intro k
    induction k with
    | zero => intro l n hk _ hne; exact absurd (List.length_eq_zero_iff.1 hk) hne
    | succ k ih =>
      intro l n hk hd hne hz h
      obtain ⟨l', c, rfl⟩ : ∃ l' c, l = l' ++ [c] := ⟨l.dropLast, l.getLast hne, (List.dropLast_concat_getLast hne).symm⟩
      rw [decFrom_append] at h
      have hc := hd c (by simp)
      have hcv : Lib.digitVal c = some (c.toNat - 48) := by unfold Lib.digitVal; rw [if_pos hc]
      have hcb : UInt8.ofNat (48 + (c.toNat - 48)) = c := by
        rw [show 48 + (c.toNat - 48) = c.toNat by omega]
        simp
      rw [hcv] at h
      by_cases hl : l' = []
      · subst hl
        simp only [Lib.decFrom, Option.bind_some, Option.map_some, Option.some.injEq] at h
        subst h
        rw [dig_small (by omega), Nat.zero_mul, Nat.zero_add, hcb]
        rfl
      · cases hm : Lib.decFrom 0 l' with
        | none => rw [hm] at h; cases h
        | some m =>
          rw [hm] at h
          simp only [Option.bind_some, Option.map_some, Option.some.injEq] at h
          have hlen : l'.length = k := by simp at hk; omega
          have hh : ∀ x, l'.head? = some x → (l' ++ [c]).head? = some x := fun x hx => by
            cases l' with
            | nil => cases hx
            | cons y t => exact hx
          have hl1 := List.length_pos_iff.2 hl
          have hnz : l'.head? ≠ some 48 := fun e => by
            have := hz (hh _ e)
            simp at this
            exact hl this
          have ih' := ih l' m hlen (fun x hx => hd x (by simp [hx])) hl (fun e => absurd e hnz) hm
          have hm0 : m ≠ 0 := by
            rintro rfl
            rw [dig_small (by decide)] at ih'
            rw [← ih'] at hnz
            exact hnz rfl
          rw [dig_big (by omega), show n / 10 = m by omega, ih', show n % 10 = c.toNat - 48 by omega, hcb]
  exact key _ l n rfl hd hne hz h
/-- what Atoi answers -/
def atoiN (s : ByteArray) : Int := match Lib.atoiAll s.data.toList with
  | .ok v => v
  | .«syntax» => 0
  | .range => Lib.atoiSat s.data.toList
theorem atoiN_dig {n : Int} (h0 : -999999999 ≤ n) (h1 : n ≤ 999999999) : atoiN (digS n) = n := by
  have hl : ∀ u : Nat, u ≤ 999999999 → (Lib.decDigits u).length ≤ 9 := fun u hu => (digits_len u 9 (by decide)).2 (by omega)
  have hdn : ∀ u, Lib.decNat (Lib.decDigits u) = some u := fun u => by
    unfold Lib.decNat
    rw [if_neg (by simp [digits_ne])]
    exact dec_digits u
  have key : Lib.atoi (Lib.itoa n) = some n := by
    by_cases hn : n < 0
    · obtain ⟨u, rfl⟩ : ∃ u : Nat, n = -(u : Int) := ⟨n.natAbs, by omega⟩
      rw [Lib.itoa_neg u (by omega), Lib.atoi, if_pos (by decide), hdn]
      rfl
    · obtain ⟨u, rfl⟩ : ∃ u : Nat, n = (u : Int) := ⟨n.toNat, by omega⟩
      rw [Lib.itoa_nonneg]
      have hne := digits_ne u
      have ha := digits_all u
      cases hd : Lib.decDigits u with
      | nil => exact absurd hd hne
      | cons c r =>
        have hc := ha c (by rw [hd]; exact List.mem_cons_self)
        rw [Lib.atoi, if_neg (by simp; rintro rfl; simp at hc), if_neg (by simp; rintro rfl; simp at hc), ← hd, hdn]
        rfl
  have hlen : (Lib.itoa n).length ≤ 18 := by
    by_cases hn : n < 0
    · obtain ⟨u, rfl⟩ : ∃ u : Nat, n = -(u : Int) := ⟨n.natAbs, by omega⟩
      rw [Lib.itoa_neg u (by omega), List.length_cons]
      have := hl u (by omega)
      omega
    · obtain ⟨u, rfl⟩ : ∃ u : Nat, n = (u : Int) := ⟨n.toNat, by omega⟩
      rw [Lib.itoa_nonneg]
      have := hl u (by omega)
      omega
  unfold atoiN
  rw [digS_data, Lib.atoiAll_short _ hlen, key]
  rfl
/-- the number that a text is just the numeral of, if it may be one -/
def intS (s : ByteArray) : Option Int := if digS (atoiN s) = s ∧ -999999999 ≤ atoiN s ∧ atoiN s ≤ 999999999 then some (atoiN s) else none
theorem intS_iff {s : ByteArray} {n : Int} : intS s = some n ↔ digS n = s ∧ -999999999 ≤ n ∧ n ≤ 999999999 := by
  unfold intS
  constructor
  · intro h
    split at h
    · rename_i hc
      injection h with h
      subst h
      exact hc
    · cases h
  · rintro ⟨rfl, h0, h1⟩
    rw [atoiN_dig h0 h1, if_pos ⟨rfl, h0, h1⟩]
abbrev trueS : ByteArray := ⟨#[116, 114, 117, 101]⟩
abbrev falseS : ByteArray := ⟨#[102, 97, 108, 115, 101]⟩
/-- a value, of a kind: what it is cast to -/
def castV (v : Vl) (to : Int) : Vl :=
  if v.k = 0 ∨ v.k = to then v
  else if to = 2 then ⟨2, 0, if v.k = 1 then digS v.n else if v.n = 1 then trueS else falseS⟩
  else if to = 1 then (if v.k = 3 then ⟨1, v.n, .empty⟩ else match intS v.s with
    | some n => ⟨1, n, .empty⟩
    | none => Vl.zero)
  else if v.k = 1 then truth (!(v.n == 0))
  else if v.s = trueS then truth true
  else if v.s = falseS then truth false
  else Vl.zero
/-- a value's key -/
def keyS (v : Vl) : ByteArray :=
  if v.k = 1 then bs ([49] ++ List.replicate (10 - (Lib.itoa (v.n + 1000000000)).length) 48 ++ Lib.itoa (v.n + 1000000000))
  else if v.k = 2 then bs ([50] ++ v.s.data.toList)
  else if v.k = 3 then bs ([51] ++ Lib.itoa v.n)
  else bs [48]
theorem dig_neg {n : Int} (h : n < 0) (h2 : -10 < n) : digS n = bs [45] ++ digS (-n) := by
  obtain ⟨u, rfl⟩ : ∃ u : Nat, n = -(u : Int) := ⟨n.natAbs, by omega⟩
  unfold digS
  rw [bs_append, Lib.itoa_neg u (by omega), Int.neg_neg, Lib.itoa_nonneg]
  rfl
theorem dig_neg2 {n : Int} (h : n ≤ -10) : digS n = (bs [45] ++ digS (-(n.tdiv 10))) ++ digS (-(n.tmod 10)) := by
  obtain ⟨u, rfl⟩ : ∃ u : Nat, n = -(u : Int) := ⟨n.natAbs, by omega⟩
  have e1 : -((-(u : Int)).tdiv 10) = ((u / 10 : Nat) : Int) := by rw [Int.neg_tdiv, Int.neg_neg]; rfl
  have e2 : -((-(u : Int)).tmod 10) = ((u % 10 : Nat) : Int) := by rw [Int.neg_tmod, Int.neg_neg]; rfl
  rw [e1, e2]
  unfold digS
  rw [bs_append, bs_append, Lib.itoa_neg u (by omega), Lib.itoa_nonneg, Lib.itoa_nonneg, dig_big (by omega), dig_small (u := u % 10) (by omega)]
  rfl
theorem dig_one {n : Int} (h : 0 ≤ n) (h2 : n < 10) : digS n = bs [UInt8.ofNat (48 + n.toNat)] := by
  obtain ⟨u, rfl⟩ : ∃ u : Nat, n = (u : Int) := ⟨n.toNat, by omega⟩
  unfold digS
  rw [Lib.itoa_nonneg, dig_small (by omega)]
  rfl
theorem dig_more {n : Int} (h : 10 ≤ n) : digS n = digS (n.tdiv 10) ++ digS (n.tmod 10) := by
  obtain ⟨u, rfl⟩ : ∃ u : Nat, n = (u : Int) := ⟨n.toNat, by omega⟩
  have e1 : (u : Int).tdiv 10 = ((u / 10 : Nat) : Int) := rfl
  have e2 : (u : Int).tmod 10 = ((u % 10 : Nat) : Int) := rfl
  rw [e1, e2]
  unfold digS
  rw [bs_append, Lib.itoa_nonneg, Lib.itoa_nonneg, Lib.itoa_nonneg, dig_big (by omega), dig_small (u := u % 10) (by omega)]
end Go.Proofs.YtnjjpblgcgikaaaDoor
