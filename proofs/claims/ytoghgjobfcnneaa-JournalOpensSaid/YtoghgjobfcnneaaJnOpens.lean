/- Plain laws: journals outlast crashes. -/
import Derived.Test.YtoghgjobfcnneaaJnPlain
namespace Go.Proofs.Ytoghgjobfcnneaa
open Go.RowKit
theorem secJ_data (k : UInt8) (s : ByteArray) : (secJ k s).data.toList = [k] ++ s.data.toList ++ List.replicate (63 - s.size) 0 := rfl
theorem byteJ_num (k : UInt8) (n : Nat) (r : List UInt8) (a : ByteArray) (ha : a.data.toList = [k] ++ (numJ n).data.toList ++ r) (hn : n < 4294967296) : toldJ a 1 = n := by
  unfold toldJ byteJ
  rw [ha]
  show (UInt8.ofNat n).toNat + 256 * (UInt8.ofNat (n / 256)).toNat + 65536 * (UInt8.ofNat (n / 65536)).toNat + 16777216 * (UInt8.ofNat (n / 16777216)).toNat = n
  simp only [UInt8.toNat_ofNat']
  omega
def needJ (s : ByteArray) : Nat := 2 + (s.size + 39) / 40
theorem need_parts (s : ByteArray) : 1 + partsJ s.size ≤ needJ s := by
  unfold needJ partsJ; omega
/-- what is read of the texts lies below `used` -/
theorem pieces_congr {a b : List ByteArray} {u : Nat} (h : ∀ i, i < u → secAt a i = secAt b i) : ∀ (n i : Nat), i + n ≤ u → piecesJ a i n = piecesJ b i n
  | 0, _, _ => rfl
  | n + 1, i, hi => by
    rw [piecesJ, piecesJ, h i (by omega), pieces_congr h n (i + 1) (by omega)]
theorem text_congr {a b : List ByteArray} {u : Nat} (h : ∀ i, i < u → secAt a i = secAt b i) (i : Nat) (hi : i < u) : textJ a i u = textJ b i u := by
  unfold textJ
  rw [h i hi]
  split
  · split
    · rename_i h1
      rw [pieces_congr h _ (i + 1) (by omega)]
    · rfl
  · rfl
theorem texts_congr {a b : List ByteArray} {u : Nat} (h : ∀ i, i < u → secAt a i = secAt b i) : ∀ (f i : Nat), textsJ a u f i = textsJ b u f i
  | 0, _ => rfl
  | f + 1, i => by
    rw [textsJ, textsJ]
    split
    · rename_i hi
      rw [text_congr h i hi]
      cases textJ b i u with
      | none => rfl
      | some p => simp only [texts_congr h f p.2]
    · rfl
theorem textJ_end {kept : List ByteArray} {i u : Nat} {p : ByteArray × Nat} (h : textJ kept i u = some p) : i < p.2 ∧ p.2 ≤ u := by
  unfold textJ at h
  split at h
  · split at h
    · rename_i h1
      split at h
      · injection h with h
        rw [← h]
        simp only
        omega
      · cases h
    · cases h
  · cases h
theorem text_more {a b : List ByteArray} {u u' : Nat} (h : ∀ i, i < u → secAt a i = secAt b i) (hu : u ≤ u') {i : Nat} (hi : i < u) {p : ByteArray × Nat} (ht : textJ a i u = some p) : textJ b i u' = some p := by
  rw [text_congr h i hi] at ht
  unfold textJ at ht ⊢
  split at ht
  · rename_i h1
    rw [if_pos h1]
    split at ht
    · rename_i h2
      rw [if_pos ⟨h2.1, by omega⟩]
      exact ht
    · cases ht
  · cases ht
/-- more texts behind those that were there -/
theorem texts_more {a b : List ByteArray} {u u' : Nat} (h : ∀ i, i < u → secAt a i = secAt b i) (hu : u ≤ u') {rest : List ByteArray} (hr : ∀ g, u' - u ≤ g → textsJ b u' g u = some rest) :
    ∀ (f i : Nat) (l : List ByteArray), i ≤ u → u - i ≤ f → textsJ a u f i = some l → ∀ F, u' - i ≤ F → textsJ b u' F i = some (l ++ rest)
  | 0, i, l, hi, hf, ht, F, hF => by
    rw [textsJ] at ht
    injection ht with ht
    subst ht
    obtain rfl : i = u := by omega
    exact hr F hF
  | f + 1, i, l, hi, hf, ht, F, hF => by
    rw [textsJ] at ht
    split at ht
    · rename_i hlt
      obtain ⟨F, rfl⟩ : ∃ G, F = G + 1 := ⟨F - 1, by omega⟩
      rw [textsJ, if_pos (by omega)]
      cases hx : textJ a i u with
      | none => rw [hx] at ht; cases ht
      | some p =>
        rw [hx] at ht
        have h1 := textJ_end hx
        rw [text_more h hu hlt hx]
        cases hy : textsJ a u f p.2 with
        | none => simp only [hy] at ht; cases ht
        | some l' =>
          simp only [hy] at ht
          injection ht with ht
          subst ht
          have h2 : textsJ b u' F p.2 = some (l' ++ rest) := texts_more h hu hr f p.2 l' h1.2 (by omega) hy F (by omega)
          simp only [h2]
          rfl
    · injection ht with ht
      subst ht
      obtain rfl : i = u := by omega
      exact hr F hF
theorem head_two {kept : List ByteArray} (h : 2 ≤ kept.length) : headJ kept = headStep kept 1 (headStep kept 0 (-1, 0)) := by
  unfold headJ
  rw [Nat.min_eq_left h]
  rfl
theorem secAt_set {kept : List ByteArray} {i j : Nat} {x : ByteArray} (h : i ≠ j) : secAt (kept.set i x) j = secAt kept j := by
  unfold secAt
  rw [List.getD_eq_getElem?_getD, List.getD_eq_getElem?_getD, List.getElem?_set_ne h]
theorem secAt_set_same {kept : List ByteArray} {i : Nat} {x : ByteArray} (h : i < kept.length) : secAt (kept.set i x) i = x := by
  unfold secAt
  rw [List.getD_eq_getElem?_getD, List.getElem?_set_self h]
  rfl
/-- writes that are kept, or not, change only their own sectors -/
theorem keptF_sec (f : Nat → Bool) (j : Nat) : ∀ (r : List Wr) (k : Nat) (l : List ByteArray), (∀ x ∈ r, x.sec.toNat ≠ j) → secAt (keptF f k r l) j = secAt l j
  | [], _, _, _ => rfl
  | x :: r, k, l, h => by
    rw [keptF, keptF_sec f j r (k + 1) _ fun y hy => h y (List.mem_cons_of_mem _ hy)]
    split
    · exact secAt_set (h x List.mem_cons_self)
    · rfl
theorem keptF_whole : ∀ (r : List Wr) (k : Nat) (l : List ByteArray), r.Pairwise (fun x y => x.sec.toNat ≠ y.sec.toNat) → (∀ x ∈ r, x.sec.toNat < l.length) → ∀ x ∈ r, secAt (keptF allB k r l) x.sec.toNat = x.s
  | [], _, _, _, _, _, hx => by cases hx
  | y :: r, k, l, hp, hl, x, hx => by
    obtain ⟨h1, h2⟩ := List.pairwise_cons.1 hp
    rw [keptF, if_pos (show allB k = true from rfl)]
    rcases List.mem_cons.1 hx with rfl | hx
    · rw [keptF_sec allB _ r (k + 1) _ fun z hz => (h1 z hz).symm]
      exact secAt_set_same (hl x List.mem_cons_self)
    · exact keptF_whole r (k + 1) _ h2 (fun z hz => by rw [List.length_set]; exact hl z (List.mem_cons_of_mem _ hz)) x hx
end Go.Proofs.Ytoghgjobfcnneaa
