/- Plain: numerals; casts; keys. Plain: which texts are numerals. Plain: keys stand in order just as values do; what is cast to a text and back is what it was. Plain: deltas: what they do to rows; the document's answer. Plain: what a cast is. Plain: deltas: in two parts; how long rows are behind them. -/
import Derived.Test.YtnjjpblgcgikaaaDoorVlA
import Derived.Lib.ItoaMem
import Derived.Lib.AtoiTie
import Derived.Lib.AtoiAllCases
namespace Go.Proofs.YtnjjpblgcgikaaaDoor
open Go.RowKit
/-- a number's numeral -/
def digS (n : Int) : ByteArray := bs (Lib.itoa n)
theorem digS_data (n : Int) : (digS n).data.toList = Lib.itoa n := rfl
theorem dig_small {u : Nat} (h : u < 10) : Lib.decDigits u = [UInt8.ofNat (48 + u)] := by rw [Lib.decDigits, dif_pos h]
theorem dig_big {u : Nat} (h : ¬ u < 10) : Lib.decDigits u = Lib.decDigits (u / 10) ++ [UInt8.ofNat (48 + u % 10)] := by rw [Lib.decDigits, dif_neg h]
theorem decFrom_append : ∀ (l : List UInt8) (a : Nat) (c : UInt8), Lib.decFrom a (l ++ [c]) = (Lib.decFrom a l).bind fun n => (Lib.digitVal c).map fun d => n * 10 + d
  | [], a, c => by
    rw [List.nil_append, Lib.decFrom, Lib.decFrom]
    cases Lib.digitVal c <;> rfl
  | b :: l, a, c => by
    rw [List.cons_append, Lib.decFrom, Lib.decFrom]
    cases Lib.digitVal b with
    | none => rfl
    | some d => exact decFrom_append l _ c
theorem digitVal_of {d : Nat} (h : d < 10) : Lib.digitVal (UInt8.ofNat (48 + d)) = some d := by
  have e : (UInt8.ofNat (48 + d)).toNat = 48 + d := by rw [UInt8.toNat_ofNat']; omega
  unfold Lib.digitVal
  rw [e, if_pos (by omega)]
  congr 1
  omega
/-- a numeral's digits spell its number -/
theorem dec_digits (u : Nat) : Lib.decFrom 0 (Lib.decDigits u) = some u := by
  induction u using Nat.strongRecOn with
  | _ u ih =>
    by_cases h : u < 10
    · rw [dig_small h, Lib.decFrom, digitVal_of h]
      simp [Lib.decFrom]
    · rw [dig_big h, decFrom_append, ih (u / 10) (by omega), digitVal_of (by omega)]
      simp only [Option.bind_some, Option.map_some]
      congr 1
      omega
theorem digits_ne (u : Nat) : Lib.decDigits u ≠ [] := by
  by_cases h : u < 10
  · rw [dig_small h]; simp
  · rw [dig_big h]; simp
theorem digits_len (u : Nat) (k : Nat) (hk : 1 ≤ k) : (Lib.decDigits u).length ≤ k ↔ u < 10 ^ k := by
  induction k generalizing u with
  | zero => omega
  | succ k ih =>
    by_cases h : u < 10
    · rw [dig_small h]
      have : 1 ≤ 10 ^ k := Nat.one_le_pow _ _ (by decide)
      rw [Nat.pow_succ]
      simp
      omega
    · rw [dig_big h, List.length_append, List.length_singleton, Nat.pow_succ]
      cases k with
      | zero =>
        have := List.length_pos_iff.2 (digits_ne (u / 10))
        omega
      | succ k =>
        have := ih (u / 10) (by omega)
        omega
/-- the first digit is no zero, but of zero -/
theorem digits_head (u : Nat) (h : u ≠ 0) : ∃ d r, Lib.decDigits u = UInt8.ofNat (48 + d) :: r ∧ 1 ≤ d ∧ d < 10 := by
  induction u using Nat.strongRecOn with
  | _ u ih =>
    by_cases h1 : u < 10
    · exact ⟨u, [], dig_small h1, by omega, h1⟩
    · obtain ⟨d, r, e, h2, h3⟩ := ih (u / 10) (by omega) (by omega)
      exact ⟨d, r ++ [UInt8.ofNat (48 + u % 10)], by rw [dig_big h1, e]; rfl, h2, h3⟩
theorem digits_all (u : Nat) : ∀ c ∈ Lib.decDigits u, 48 ≤ c.toNat ∧ c.toNat ≤ 57 := by
  induction u using Nat.strongRecOn with
  | _ u ih =>
    have e : ∀ d, d < 10 → (UInt8.ofNat (48 + d)).toNat = 48 + d := fun d hd => by rw [UInt8.toNat_ofNat']; omega
    by_cases h : u < 10
    · rw [dig_small h]
      intro c hc
      rw [List.mem_singleton] at hc
      subst hc
      rw [e u h]; omega
    · rw [dig_big h]
      intro c hc
      rcases List.mem_append.1 hc with hc | hc
      · exact ih (u / 10) (by omega) c hc
      · rw [List.mem_singleton] at hc
        subst hc
        rw [e _ (by omega)]; omega
/-- digits without a zero ahead are their number's numeral -/
theorem digits_of (l : List UInt8) (hd : ∀ c ∈ l, 48 ≤ c.toNat ∧ c.toNat ≤ 57) (hne : l ≠ []) (hz : l.head? = some 48 → l.length = 1) {n : Nat} (h : Lib.decFrom 0 l = some n) : Lib.decDigits n = l := by
  have key : ∀ (k : Nat) (l : List UInt8) (n : Nat), l.length = k → (∀ c ∈ l, 48 ≤ c.toNat ∧ c.toNat ≤ 57) → l ≠ [] → (l.head? = some 48 → l.length = 1) → Lib.decFrom 0 l = some n → Lib.decDigits n = l := by
    intro k
    induction k with
    | zero => intro l n hk _ hne; exact absurd (List.length_eq_zero_iff.1 hk) hne
    | succ k ih =>
      intro l n hk hd hne hz h
      obtain ⟨l', c, rfl⟩ : ∃ l' c, l = l' ++ [c] := ⟨l.dropLast, l.getLast hne, (List.dropLast_concat_getLast hne).symm⟩
      rw [decFrom_append] at h
      have hc := hd c (by simp)
      have hcv : Lib.digitVal c = some (c.toNat - 48) := by unfold Lib.digitVal; rw [if_pos hc]
      have hcb : UInt8.ofNat (48 + (c.toNat - 48)) = c := by
        rw [show 48 + (c.toNat - 48) = c.toNat by omega]
        simp
      rw [hcv] at h
      by_cases hl : l' = []
      · subst hl
        simp only [Lib.decFrom, Option.bind_some, Option.map_some, Option.some.injEq] at h
        subst h
        rw [dig_small (by omega), Nat.zero_mul, Nat.zero_add, hcb]
        rfl
      · cases hm : Lib.decFrom 0 l' with
        | none => rw [hm] at h; cases h
        | some m =>
          rw [hm] at h
          simp only [Option.bind_some, Option.map_some, Option.some.injEq] at h
          have hlen : l'.length = k := by simp at hk; omega
          have hh : ∀ x, l'.head? = some x → (l' ++ [c]).head? = some x := fun x hx => by
            cases l' with
            | nil => cases hx
            | cons y t => exact hx
          have hl1 := List.length_pos_iff.2 hl
          have hnz : l'.head? ≠ some 48 := fun e => by
            have := hz (hh _ e)
            simp at this
            exact hl this
          have ih' := ih l' m hlen (fun x hx => hd x (by simp [hx])) hl (fun e => absurd e hnz) hm
          have hm0 : m ≠ 0 := by
            rintro rfl
            rw [dig_small (by decide)] at ih'
            rw [← ih'] at hnz
            exact hnz rfl
          rw [dig_big (by omega), show n / 10 = m by omega, ih', show n % 10 = c.toNat - 48 by omega, hcb]
  exact key _ l n rfl hd hne hz h
/-- what Atoi answers -/
def atoiN (s : ByteArray) : Int := match Lib.atoiAll s.data.toList with
  | .ok v => v
  | .«syntax» => 0
  | .range => Lib.atoiSat s.data.toList
theorem atoiN_dig {n : Int} (h0 : -999999999 ≤ n) (h1 : n ≤ 999999999) : atoiN (digS n) = n := by
  have hl : ∀ u : Nat, u ≤ 999999999 → (Lib.decDigits u).length ≤ 9 := fun u hu => (digits_len u 9 (by decide)).2 (by omega)
  have hdn : ∀ u, Lib.decNat (Lib.decDigits u) = some u := fun u => by
    unfold Lib.decNat
    rw [if_neg (by simp [digits_ne])]
    exact dec_digits u
  have key : Lib.atoi (Lib.itoa n) = some n := by
    by_cases hn : n < 0
    · obtain ⟨u, rfl⟩ : ∃ u : Nat, n = -(u : Int) := ⟨n.natAbs, by omega⟩
      rw [Lib.itoa_neg u (by omega), Lib.atoi, if_pos (by decide), hdn]
      rfl
    · obtain ⟨u, rfl⟩ : ∃ u : Nat, n = (u : Int) := ⟨n.toNat, by omega⟩
      rw [Lib.itoa_nonneg]
      have hne := digits_ne u
      have ha := digits_all u
      cases hd : Lib.decDigits u with
      | nil => exact absurd hd hne
      | cons c r =>
        have hc := ha c (by rw [hd]; exact List.mem_cons_self)
        rw [Lib.atoi, if_neg (by simp; rintro rfl; simp at hc), if_neg (by simp; rintro rfl; simp at hc), ← hd, hdn]
        rfl
  have hlen : (Lib.itoa n).length ≤ 18 := by
    by_cases hn : n < 0
    · obtain ⟨u, rfl⟩ : ∃ u : Nat, n = -(u : Int) := ⟨n.natAbs, by omega⟩
      rw [Lib.itoa_neg u (by omega), List.length_cons]
      have := hl u (by omega)
      omega
    · obtain ⟨u, rfl⟩ : ∃ u : Nat, n = (u : Int) := ⟨n.toNat, by omega⟩
      rw [Lib.itoa_nonneg]
      have := hl u (by omega)
      omega
  unfold atoiN
  rw [digS_data, Lib.atoiAll_short _ hlen, key]
  rfl
/-- the number that a text is just the numeral of, if it may be one -/
def intS (s : ByteArray) : Option Int := if digS (atoiN s) = s ∧ -999999999 ≤ atoiN s ∧ atoiN s ≤ 999999999 then some (atoiN s) else none
theorem intS_iff {s : ByteArray} {n : Int} : intS s = some n ↔ digS n = s ∧ -999999999 ≤ n ∧ n ≤ 999999999 := by
  unfold intS
  constructor
  · intro h
    split at h
    · rename_i hc
      injection h with h
      subst h
      exact hc
    · cases h
  · rintro ⟨rfl, h0, h1⟩
    rw [atoiN_dig h0 h1, if_pos ⟨rfl, h0, h1⟩]
abbrev trueS : ByteArray := ⟨#[116, 114, 117, 101]⟩
abbrev falseS : ByteArray := ⟨#[102, 97, 108, 115, 101]⟩
/-- a value, of a kind: what it is cast to -/
def castV (v : Vl) (to : Int) : Vl :=
  if v.k = 0 ∨ v.k = to then v
  else if to = 2 then ⟨2, 0, if v.k = 1 then digS v.n else if v.n = 1 then trueS else falseS⟩
  else if to = 1 then (if v.k = 3 then ⟨1, v.n, .empty⟩ else match intS v.s with
    | some n => ⟨1, n, .empty⟩
    | none => Vl.zero)
  else if v.k = 1 then truth (!(v.n == 0))
  else if v.s = trueS then truth true
  else if v.s = falseS then truth false
  else Vl.zero
theorem dig_neg {n : Int} (h : n < 0) (h2 : -10 < n) : digS n = bs [45] ++ digS (-n) := by
  obtain ⟨u, rfl⟩ : ∃ u : Nat, n = -(u : Int) := ⟨n.natAbs, by omega⟩
  unfold digS
  rw [bs_append, Lib.itoa_neg u (by omega), Int.neg_neg, Lib.itoa_nonneg]
  rfl
theorem dig_neg2 {n : Int} (h : n ≤ -10) : digS n = (bs [45] ++ digS (-(n.tdiv 10))) ++ digS (-(n.tmod 10)) := by
  obtain ⟨u, rfl⟩ : ∃ u : Nat, n = -(u : Int) := ⟨n.natAbs, by omega⟩
  have e1 : -((-(u : Int)).tdiv 10) = ((u / 10 : Nat) : Int) := by rw [Int.neg_tdiv, Int.neg_neg]; rfl
  have e2 : -((-(u : Int)).tmod 10) = ((u % 10 : Nat) : Int) := by rw [Int.neg_tmod, Int.neg_neg]; rfl
  rw [e1, e2]
  unfold digS
  rw [bs_append, bs_append, Lib.itoa_neg u (by omega), Lib.itoa_nonneg, Lib.itoa_nonneg, dig_big (by omega), dig_small (u := u % 10) (by omega)]
  rfl
theorem dig_one {n : Int} (h : 0 ≤ n) (h2 : n < 10) : digS n = bs [UInt8.ofNat (48 + n.toNat)] := by
  obtain ⟨u, rfl⟩ : ∃ u : Nat, n = (u : Int) := ⟨n.toNat, by omega⟩
  unfold digS
  rw [Lib.itoa_nonneg, dig_small (by omega)]
  rfl
theorem dig_more {n : Int} (h : 10 ≤ n) : digS n = digS (n.tdiv 10) ++ digS (n.tmod 10) := by
  obtain ⟨u, rfl⟩ : ∃ u : Nat, n = (u : Int) := ⟨n.toNat, by omega⟩
  have e1 : (u : Int).tdiv 10 = ((u / 10 : Nat) : Int) := rfl
  have e2 : (u : Int).tmod 10 = ((u % 10 : Nat) : Int) := rfl
  rw [e1, e2]
  unfold digS
  rw [bs_append, Lib.itoa_nonneg, Lib.itoa_nonneg, Lib.itoa_nonneg, dig_big (by omega), dig_small (u := u % 10) (by omega)]
end Go.Proofs.YtnjjpblgcgikaaaDoor
namespace Go.Proofs.YtnjjpblgcgikaaaDoor
open Go.RowKit
/-- a text's sign; where its digits begin; these -/
def sgnL : List UInt8 → Int × Nat × List UInt8
  | c :: r => if c = 45 then (-1, 1, r) else (1, 0, c :: r)
  | [] => (1, 0, [])
theorem sgn_drop (l : List UInt8) : l.drop (sgnL l).2.1 = (sgnL l).2.2 ∧ (sgnL l).2.1 ≤ l.length := by
  cases l with
  | nil => exact ⟨rfl, Nat.zero_le _⟩
  | cons c r =>
    simp only [sgnL]
    split
    · exact ⟨rfl, by simp⟩
    · exact ⟨rfl, Nat.zero_le _⟩
theorem bs_inj {l r : List UInt8} (h : bs l = bs r) : l = r := congrArg (fun s : ByteArray => s.data.toList) h
theorem intS_some {l : List UInt8} {m : Int} (h : intS (bs l) = some m) : ((sgnL l).1 = 1 ∧ 0 ≤ m ∧ (sgnL l).2.2 = Lib.decDigits m.toNat ∧ m.toNat ≤ 999999999) ∨ ((sgnL l).1 = -1 ∧ m < 0 ∧ (sgnL l).2.2 = Lib.decDigits (-m).toNat ∧ (-m).toNat ≤ 999999999) := by
  obtain ⟨h1, h2, h3⟩ := intS_iff.1 h
  have hl := bs_inj h1
  by_cases hm : m < 0
  · right
    obtain ⟨u, rfl⟩ : ∃ u : Nat, m = -(u : Int) := ⟨m.natAbs, by omega⟩
    rw [Lib.itoa_neg u (by omega)] at hl
    rw [← hl, Int.neg_neg]
    exact ⟨rfl, hm, rfl, by omega⟩
  · left
    obtain ⟨u, rfl⟩ : ∃ u : Nat, m = (u : Int) := ⟨m.toNat, by omega⟩
    rw [Lib.itoa_nonneg] at hl
    have hne := digits_ne u
    have ha := digits_all u
    rw [hl] at hne ha
    have hs : sgnL l = (1, 0, l) := by
      cases l with
      | nil => exact absurd rfl hne
      | cons c r =>
        simp only [sgnL]
        rw [if_neg]
        rintro rfl
        have := ha 45 List.mem_cons_self
        simp at this
    rw [hs]
    exact ⟨rfl, by omega, hl.symm, by omega⟩
theorem intS_no {l : List UInt8} (h : (sgnL l).2.2 = [] ∨ 9 < (sgnL l).2.2.length ∨ ((sgnL l).2.2.head? = some 48 ∧ (1 < (sgnL l).2.2.length ∨ (sgnL l).1 < 0)) ∨ ∃ c ∈ (sgnL l).2.2, ¬ (48 ≤ c.toNat ∧ c.toNat ≤ 57)) : intS (bs l) = none := by
  cases hi : intS (bs l) with
  | none => rfl
  | some m =>
    exfalso
    have key : ∀ u : Nat, u ≤ 999999999 → (sgnL l).2.2 = Lib.decDigits u → ((sgnL l).1 < 0 → u ≠ 0) → False := by
      intro u hu hd hs
      rw [hd] at h
      rcases h with h | h | ⟨h, h'⟩ | ⟨c, hc, hn⟩
      · exact digits_ne u h
      · have := (digits_len u 9 (by decide)).2 (by omega)
        omega
      · by_cases h0 : u = 0
        · subst h0
          rcases h' with h' | h'
          · rw [dig_small (by decide)] at h'
            simp at h'
          · exact hs h' rfl
        · obtain ⟨d, r, e, h1, h2⟩ := digits_head u h0
          rw [e] at h
          simp only [List.head?_cons, Option.some.injEq] at h
          have := congrArg UInt8.toNat h
          rw [UInt8.toNat_ofNat'] at this
          simp at this
          omega
      · exact hn (digits_all u c hc)
    rcases intS_some hi with ⟨h1, h2, h3, h4⟩ | ⟨h1, h2, h3, h4⟩
    · exact key _ h4 h3 (fun h => by omega)
    · exact key _ h4 h3 (fun _ => by omega)
theorem intS_yes {l : List UInt8} {n : Nat} (hne : (sgnL l).2.2 ≠ []) (h9 : (sgnL l).2.2.length ≤ 9) (hz : (sgnL l).2.2.head? = some 48 → (sgnL l).2.2.length = 1 ∧ ¬ (sgnL l).1 < 0) (hd : ∀ c ∈ (sgnL l).2.2, 48 ≤ c.toNat ∧ c.toNat ≤ 57) (hn : Lib.decFrom 0 (sgnL l).2.2 = some n) :
    n ≤ 999999999 ∧ intS (bs l) = some ((sgnL l).1 * n) := by
  have hdd := digits_of _ hd hne (fun h => (hz h).1) hn
  have hn9 : n ≤ 999999999 := by
    rw [← hdd] at h9
    have := (digits_len n 9 (by decide)).1 h9
    omega
  refine ⟨hn9, intS_iff.2 ?_⟩
  cases l with
  | nil => exact absurd rfl hne
  | cons c r =>
    by_cases hc : c = 45
    · subst hc
      have hs : sgnL (45 :: r) = (-1, 1, r) := rfl
      rw [hs] at hdd hz ⊢
      have hn0 : n ≠ 0 := by
        rintro rfl
        rw [dig_small (by decide)] at hdd
        simp only at hdd hz
        rw [← hdd] at hz
        exact (hz rfl).2 (by decide)
      refine ⟨?_, by simp only; omega, by simp only; omega⟩
      show digS (-1 * (n : Int)) = _
      rw [show (-1 : Int) * (n : Int) = -(n : Int) by omega]
      unfold digS
      rw [Lib.itoa_neg n (by omega), hdd]
    · have hs : sgnL (c :: r) = (1, 0, c :: r) := by simp only [sgnL]; rw [if_neg hc]
      rw [hs] at hdd ⊢
      refine ⟨?_, by simp only; omega, by simp only; omega⟩
      show digS (1 * (n : Int)) = _
      rw [Int.one_mul]
      unfold digS
      rw [Lib.itoa_nonneg, hdd]
theorem decFrom_take {l : List UInt8} {k n : Nat} {c : UInt8} (h : Lib.decFrom 0 (l.take k) = some n) (hc : l[k]? = some c) (hd : 48 ≤ c.toNat ∧ c.toNat ≤ 57) : Lib.decFrom 0 (l.take (k + 1)) = some (10 * n + c.toNat - 48) := by
  rw [List.take_add_one, hc]
  show Lib.decFrom 0 (l.take k ++ [c]) = _
  rw [decFrom_append, h]
  have : Lib.digitVal c = some (c.toNat - 48) := by unfold Lib.digitVal; rw [if_pos hd]
  rw [this]
  simp only [Option.bind_some, Option.map_some]
  congr 1
  omega
end Go.Proofs.YtnjjpblgcgikaaaDoor
namespace Go.Proofs.YtnjjpblgcgikaaaDoor
open Go.RowKit
/-- to a text and back -/
theorem cast_back {a : Vl} (ha : a.chk = 0) (h1 : ¬ a.k = 0) (h2 : ¬ a.k = 2) : (castV a 2).chk = 0 ∧ castV (castV a 2) a.k = a ∧ 1 ≤ a.k ∧ a.k ≤ 3 := by
  rcases Vl.right ha with rfl | ⟨n, rfl, p0, p1⟩ | ⟨s, rfl, p0, _⟩ | ⟨n, rfl, p0, p1⟩
  · exact absurd rfl h1
  · have e : castV ⟨1, n, .empty⟩ 2 = ⟨2, 0, digS n⟩ := rfl
    rw [e]
    have hi : intS (digS n) = some n := intS_iff.2 ⟨rfl, p0, p1⟩
    refine ⟨?_, ?_, by simp, by simp⟩
    · have hall : ∀ c ∈ Lib.itoa n, c = 45 ∨ 48 ≤ c.toNat ∧ c.toNat ≤ 57 := by
        intro c hc
        by_cases hn : n < 0
        · obtain ⟨u, rfl⟩ : ∃ u : Nat, n = -(u : Int) := ⟨n.natAbs, by omega⟩
          rw [Lib.itoa_neg u (by omega)] at hc
          rcases List.mem_cons.1 hc with h | h
          · exact .inl h
          · exact .inr (digits_all u c h)
        · obtain ⟨u, rfl⟩ : ∃ u : Nat, n = (u : Int) := ⟨n.toNat, by omega⟩
          rw [Lib.itoa_nonneg] at hc
          exact .inr (digits_all u c hc)
      have hlen : (Lib.itoa n).length ≤ 20 := by
        by_cases hn : n < 0
        · obtain ⟨u, rfl⟩ : ∃ u : Nat, n = -(u : Int) := ⟨n.natAbs, by omega⟩
          rw [Lib.itoa_neg u (by omega), List.length_cons]
          have := (digits_len u 9 (by decide)).2 (by omega)
          omega
        · obtain ⟨u, rfl⟩ : ∃ u : Nat, n = (u : Int) := ⟨n.toNat, by omega⟩
          rw [Lib.itoa_nonneg]
          have := (digits_len u 9 (by decide)).2 (by omega)
          omega
      have hq : quotS (digS n) = true := by
        unfold quotS
        rw [Bool.and_eq_true, List.all_eq_true]
        refine ⟨fun c hc => ?_, decide_eq_true (show (Lib.itoa n).length ≤ 20 from hlen)⟩
        unfold quotB
        rcases hall c hc with rfl | h
        · decide
        · simp; omega
      simp [Vl.chk, Vl.fine, hq]
    · unfold castV
      simp [hi]
  · exact absurd rfl h2
  · have hn : n = 0 ∨ n = 1 := by omega
    rcases hn with rfl | rfl
    · exact ⟨by decide +kernel, by decide +kernel, by simp, by simp⟩
    · exact ⟨by decide +kernel, by decide +kernel, by simp, by simp⟩
end Go.Proofs.YtnjjpblgcgikaaaDoor
namespace Go.Proofs.YtnjjpblgcgikaaaDoor
open Go.RowKit
/-- a delta -/
structure Dl where
  k : Int
  at_ : Int
  ty : Int
  v : Vl
/-- one delta, of rows with so many values: how many there are then; what is wrong -/
def oneW (w : Int) (d : Dl) : Int × Int :=
  if d.k < 1 ∨ 3 < d.k then (0, 7)
  else if (d.k = 1 ∧ ¬ d.at_ = 0) ∨ (¬ d.k = 3 ∧ ¬ d.ty = 0) ∨ (¬ d.k = 1 ∧ ¬ d.v = Vl.zero) then (0, 1)
  else if ¬ d.v.chk = 0 then (0, d.v.chk)
  else if d.k = 1 then (if w = 5 then (0, 2) else (w + 1, 0))
  else if d.at_ < 0 ∨ w ≤ d.at_ then (0, 5)
  else if d.k = 2 then (w - 1, 0)
  else if 1 ≤ d.ty ∧ d.ty ≤ 3 then (w, 0)
  else (0, 7)
def allW : Int → List Dl → Int × Int
  | w, [] => (w, 0)
  | w, d :: l => if (oneW w d).2 = 0 then allW (oneW w d).1 l else (0, (oneW w d).2)
def checkW' (w : Int) (l : List Dl) : Int × Int := if w < 0 ∨ 5 < w then (0, 3) else allW w l
/-- what one delta makes of a row -/
def rawV (r : List Vl) (d : Dl) : List Vl :=
  if d.k = 1 then r ++ [d.v]
  else if d.k = 2 then r.take d.at_.toNat ++ r.drop (d.at_.toNat + 1)
  else match r[d.at_.toNat]? with
    | some v => r.set d.at_.toNat (castV v d.ty)
    | none => r
def rawL (r : List Vl) : List Dl → List Vl
  | [] => r
  | d :: l => rawL (rawV r d) l
/-- what Apply answers -/
def rightsV : List Vl → Int
  | [] => 0
  | v :: r => if v.chk = 0 then rightsV r else v.chk
def applyE (r : List Vl) (l : List Dl) : Int :=
  if 5 < r.length then 2 else if (checkW' r.length l).2 = 0 then rightsV r else (checkW' r.length l).2
theorem oneW_ok {w : Int} {d : Dl} (h : (oneW w d).2 = 0) (h0 : 0 ≤ w) (h5 : w ≤ 5) : d.v.chk = 0 ∧ 0 ≤ (oneW w d).1 ∧ (oneW w d).1 ≤ 5 ∧ ((d.k = 1 ∧ (oneW w d).1 = w + 1) ∨ (d.k = 2 ∧ 0 ≤ d.at_ ∧ d.at_ < w ∧ (oneW w d).1 = w - 1) ∨ (d.k = 3 ∧ 0 ≤ d.at_ ∧ d.at_ < w ∧ 1 ≤ d.ty ∧ d.ty ≤ 3 ∧ (oneW w d).1 = w)) := by
  unfold oneW at h ⊢
  split at h
  · cases h
  rename_i c1
  rw [if_neg c1]
  split at h
  · cases h
  rename_i c2
  rw [if_neg c2]
  split at h
  · rename_i c3
    exact absurd h c3
  rename_i c3
  rw [if_neg c3]
  have hv : d.v.chk = 0 := Classical.not_not.1 c3
  split at h
  · rename_i c4
    rw [if_pos c4]
    split at h
    · cases h
    · rename_i c5
      rw [if_neg c5]
      exact ⟨hv, by simp only; omega, by simp only; omega, .inl ⟨c4, rfl⟩⟩
  rename_i c4
  rw [if_neg c4]
  split at h
  · cases h
  rename_i c5
  rw [if_neg c5]
  split at h
  · rename_i c6
    rw [if_pos c6]
    exact ⟨hv, by simp only; omega, by simp only; omega, .inr (.inl ⟨c6, by omega, by omega, rfl⟩)⟩
  rename_i c6
  rw [if_neg c6]
  split at h
  · rename_i c7
    rw [if_pos c7]
    exact ⟨hv, h0, h5, .inr (.inr ⟨by omega, by omega, by omega, c7.1, c7.2, rfl⟩)⟩
  · cases h
end Go.Proofs.YtnjjpblgcgikaaaDoor
namespace Go.Proofs.YtnjjpblgcgikaaaDoor
open Go.RowKit
theorem emp : emptyS .empty = true := by
  unfold emptyS
  rw [show ByteArray.empty = (⟨#[]⟩ : ByteArray) from rfl, ByteArray.toList_mk]; rfl
theorem truth_ok (b : Bool) : (truth b).chk = 0 := by
  cases b <;> simp [Vl.chk, truth, Vl.fine, emp]
theorem zero_ok : Vl.zero.chk = 0 := by simp [Vl.chk, Vl.zero, Vl.fine, emp]
theorem num_ok {n : Int} (h0 : -999999999 ≤ n) (h1 : n ≤ 999999999) : (⟨1, n, .empty⟩ : Vl).chk = 0 := by
  simp [Vl.chk, Vl.fine, isInt, emp, h0, h1]
theorem castV_chk (v : Vl) (t : Int) (hv : v.chk = 0) (h1 : 1 ≤ t) (h3 : t ≤ 3) : (castV v t).chk = 0 := by
  by_cases h0 : v.k = 0 ∨ v.k = t
  · unfold castV; rw [if_pos h0]; exact hv
  by_cases h2 : t = 2
  · subst h2
    exact (cast_back hv (by omega) (by omega)).1
  unfold castV
  rw [if_neg h0, if_neg h2]
  split
  · split
    · rename_i h
      rcases Vl.right hv with rfl | ⟨n, rfl, p0, p1⟩ | ⟨s, rfl, p0, _⟩ | ⟨n, rfl, p0, p1⟩
      · exact absurd (.inl rfl) h0
      · exact absurd h (by simp)
      · exact absurd h (by simp)
      · exact num_ok (n := n) (by omega) (by omega)
    · split
      · rename_i n hn
        obtain ⟨_, q1, q2⟩ := intS_iff.1 hn
        exact num_ok q1 q2
      · exact zero_ok
  · split
    · exact truth_ok _
    · split
      · exact truth_ok _
      · split
        · exact truth_ok _
        · exact zero_ok
end Go.Proofs.YtnjjpblgcgikaaaDoor
namespace Go.Proofs.YtnjjpblgcgikaaaDoor
open Go.RowKit
theorem allW_cons' (w : Int) (d : Dl) (l : List Dl) : allW w (d :: l) = if (oneW w d).2 = 0 then allW (oneW w d).1 l else (0, (oneW w d).2) := rfl
theorem rawV_len {r : List Vl} {d : Dl} (h5 : r.length ≤ 5) (h : (oneW r.length d).2 = 0) : ((rawV r d).length : Int) = (oneW r.length d).1 := by
  obtain ⟨_, _, _, g⟩ := oneW_ok h (by omega) (by omega)
  rcases g with ⟨g1, g2⟩ | ⟨g1, g2, g3, g4⟩ | ⟨g1, g2, g3, _, _, g4⟩
  · rw [g2]; unfold rawV; rw [if_pos g1]; simp
  · rw [g4]; unfold rawV; rw [if_neg (by omega), if_pos g1, List.length_append, List.length_take, List.length_drop]; omega
  · rw [g4]; unfold rawV; rw [if_neg (by omega), if_neg (by omega)]
    split
    · rw [List.length_set]
    · rfl
theorem rawV_chk {r : List Vl} {d : Dl} (h5 : r.length ≤ 5) (h : (oneW r.length d).2 = 0) (hv : ∀ v ∈ r, v.chk = 0) : ∀ v ∈ rawV r d, v.chk = 0 := by
  obtain ⟨g0, _, _, g⟩ := oneW_ok h (by omega) (by omega)
  rcases g with ⟨g1, g2⟩ | ⟨g1, g2, g3, g4⟩ | ⟨g1, g2, g3, g5, g6, g4⟩
  · unfold rawV; rw [if_pos g1]
    intro v hm
    rcases List.mem_append.1 hm with hm | hm
    · exact hv v hm
    · rw [List.mem_singleton.1 hm]; exact g0
  · unfold rawV; rw [if_neg (by omega), if_pos g1]
    intro v hm
    rcases List.mem_append.1 hm with hm | hm
    · exact hv v (List.mem_of_mem_take hm)
    · exact hv v (List.mem_of_mem_drop hm)
  · unfold rawV; rw [if_neg (by omega), if_neg (by omega)]
    split
    · rename_i u hu
      intro v hm
      rcases List.mem_or_eq_of_mem_set hm with hm | hm
      · exact hv v hm
      · rw [hm]; exact castV_chk u d.ty (hv u (List.mem_of_getElem? hu)) g5 g6
    · exact hv
theorem rawL_ok : ∀ (l : List Dl) (r : List Vl), r.length ≤ 5 → (allW r.length l).2 = 0 → (∀ v ∈ r, v.chk = 0) → ((rawL r l).length : Int) = (allW r.length l).1 ∧ (rawL r l).length ≤ 5 ∧ ∀ v ∈ rawL r l, v.chk = 0
  | [], r, h5, _, hv => ⟨rfl, h5, hv⟩
  | d :: l, r, h5, h, hv => by
    rw [allW_cons'] at h ⊢
    split at h
    · rename_i h1
      have g := rawV_len h5 h1
      obtain ⟨_, _, g3, _⟩ := oneW_ok h1 (by omega) (by omega)
      rw [if_pos h1]
      rw [← g] at h ⊢
      exact rawL_ok l (rawV r d) (by omega) h (rawV_chk h5 h1 hv)
    · rename_i h1
      exact absurd h h1
theorem rawL_append (r : List Vl) (a b : List Dl) : rawL r (a ++ b) = rawL (rawL r a) b := by
  induction a generalizing r with
  | nil => rfl
  | cons d a ih => exact ih (rawV r d)
theorem allW_append : ∀ (a b : List Dl) (w : Int), (allW w (a ++ b)).2 = 0 → (allW w a).2 = 0 ∧ allW w (a ++ b) = allW (allW w a).1 b
  | [], b, w, h => ⟨rfl, rfl⟩
  | d :: a, b, w, h => by
    have e1 := allW_cons' w d (a ++ b)
    have e2 := allW_cons' w d a
    rw [List.cons_append] at h ⊢
    by_cases h1 : (oneW w d).2 = 0
    · rw [if_pos h1] at e1 e2
      rw [e1] at h ⊢
      rw [e2]
      exact allW_append a b _ h
    · rw [if_neg h1] at e1
      rw [e1] at h
      exact absurd h h1
theorem rightsV_of : ∀ {r : List Vl}, (∀ v ∈ r, v.chk = 0) → rightsV r = 0
  | [], _ => rfl
  | v :: r, h => by
    unfold rightsV
    rw [if_pos (h v (List.mem_cons_self ..))]
    exact rightsV_of fun u hu => h u (List.mem_cons_of_mem _ hu)
theorem applyE_ok {r : List Vl} {l : List Dl} (h : applyE r l = 0) : r.length ≤ 5 ∧ (checkW' r.length l).2 = 0 ∧ (allW r.length l).2 = 0 ∧ checkW' r.length l = allW r.length l ∧ rightsV r = 0 := by
  unfold applyE at h
  split at h
  · cases h
  rename_i h5
  have hw : checkW' r.length l = allW r.length l := by unfold checkW'; rw [if_neg (by omega)]
  split at h
  · rename_i hc
    exact ⟨by omega, hc, by rw [← hw]; exact hc, hw, h⟩
  · rename_i hc
    exact absurd h hc
theorem Vl.chk_size {v : Vl} (h : v.chk = 0) : v.s.size ≤ maxLen := by
  rcases Vl.right h with rfl | ⟨n, rfl, _, _⟩ | ⟨s, rfl, h, _⟩ | ⟨n, rfl, _, _⟩
  · decide
  · exact (by decide : ByteArray.empty.size ≤ maxLen)
  · show s.size ≤ maxLen
    unfold maxLen
    omega
  · exact (by decide : ByteArray.empty.size ≤ maxLen)
end Go.Proofs.YtnjjpblgcgikaaaDoor
