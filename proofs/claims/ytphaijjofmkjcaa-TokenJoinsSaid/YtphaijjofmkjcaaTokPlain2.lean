/- Plain functions of tokens: a whole text scanned. -/
import Derived.Test.YtphaijjofmkjcaaTokPlain
namespace Go.Proofs.Ytphaijjofmkjcaa
open Go.RowKit
/-- all tokens from a place on; or where, and what, is wrong -/
def scanF : Nat → List UInt8 → Nat → List Vl × Nat × Nat
  | 0, _, _ => ([], 0, 0)
  | f + 1, l, p =>
    match l.drop (runN blankB l) with
    | [] => ([], 0, 0)
    | x :: r =>
      if (tokL x r).2.2 = 0 then
        (if (scanF f ((x :: r).drop (tokL x r).2.1) (p + runN blankB l + (tokL x r).2.1)).2.2 = 0 then
          (⟨(tokL x r).1, (p + runN blankB l : Nat), bs ((x :: r).take (tokL x r).2.1)⟩ :: (scanF f ((x :: r).drop (tokL x r).2.1) (p + runN blankB l + (tokL x r).2.1)).1, 0, 0)
        else ([], (scanF f ((x :: r).drop (tokL x r).2.1) (p + runN blankB l + (tokL x r).2.1)).2))
      else ([], p + runN blankB l, (tokL x r).2.2)
def scanS (s : ByteArray) : List Vl × Nat × Nat := if 2000 < s.size then ([], 0, 2) else scanF (s.size + 1) s.data.toList 0
/-- what comes behind some tokens that were found -/
def comb (vs : List Vl) (r : List Vl × Nat × Nat) : List Vl × Nat × Nat := if r.2.2 = 0 then (vs ++ r.1, 0, 0) else ([], r.2)
theorem tokL_pos (x : UInt8) (r : List UInt8) (h : (tokL x r).2.2 = 0) : 0 < (tokL x r).2.1 ∧ (tokL x r).2.1 ≤ r.length + 1 := by
  have h1 := runN_le wordB r
  have h2 := runN_le digitB r
  have h3 := runN_le quotB r
  unfold tokL at h ⊢
  split at h
  · rename_i hl; rw [if_pos hl]; simp only; omega
  rename_i hl
  split at h
  · rename_i hd; rw [if_neg hl, if_pos hd]; simp only; omega
  rename_i hd
  split at h
  · rename_i h39
    split at h
    · rename_i hq
      rw [if_neg hl, if_neg hd, if_pos h39, if_pos hq]
      simp only [quotN]
      have : runN quotB r < r.length := by
        unfold quotEnds quotN at hq
        rcases Nat.lt_or_ge (runN quotB r) r.length with h | h
        · exact h
        · rw [List.drop_eq_nil_of_le h] at hq; cases hq
      omega
    · cases h
  rename_i h39
  split at h
  · rename_i hb
    rw [if_neg hl, if_neg hd, if_neg h39, if_pos hb]
    have : [124, 124] <+: x :: r := List.isPrefixOf_iff_prefix.1 hb
    have := this.length_le
    simp at this ⊢
    omega
  rename_i hb
  split at h
  · rename_i hs; rw [if_neg hl, if_neg hd, if_neg h39, if_neg hb, if_pos hs]; simp
  · cases h
/-- one step -/
theorem scan_step (f : Nat) (l : List UInt8) (p : Nat) (x : UInt8) (r : List UInt8) (vs : List Vl) (hl : l.drop (runN blankB l) = x :: r) (h0 : (tokL x r).2.2 = 0) :
    comb vs (scanF (f + 1) l p) = comb (vs ++ [⟨(tokL x r).1, (p + runN blankB l : Nat), bs ((x :: r).take (tokL x r).2.1)⟩]) (scanF f ((x :: r).drop (tokL x r).2.1) (p + runN blankB l + (tokL x r).2.1)) := by
  rw [scanF, hl]
  simp only
  rw [if_pos h0]
  simp only [comb]
  split
  · simp
  · simp
theorem scan_bad (f : Nat) (l : List UInt8) (p : Nat) (x : UInt8) (r : List UInt8) (vs : List Vl) (hl : l.drop (runN blankB l) = x :: r) (h0 : ¬ (tokL x r).2.2 = 0) :
    comb vs (scanF (f + 1) l p) = ([], p + runN blankB l, (tokL x r).2.2) := by
  rw [scanF, hl]
  simp only
  rw [if_neg h0]
  simp [comb, h0]
theorem scan_end (f : Nat) (l : List UInt8) (p : Nat) (vs : List Vl) (hl : l.drop (runN blankB l) = []) : comb vs (scanF (f + 1) l p) = (vs, 0, 0) := by
  rw [scanF, hl]
  simp [comb]
theorem scanF_norm (f : Nat) (l : List UInt8) (p : Nat) : comb [] (scanF f l p) = scanF f l p := by
  cases f with
  | zero => simp [scanF, comb]
  | succ f =>
    rw [scanF]
    split
    · simp [comb]
    · split
      · split
        · simp [comb]
        · rename_i h; simp [comb, h]
      · rename_i h; simp [comb, h]
end Go.Proofs.Ytphaijjofmkjcaa
