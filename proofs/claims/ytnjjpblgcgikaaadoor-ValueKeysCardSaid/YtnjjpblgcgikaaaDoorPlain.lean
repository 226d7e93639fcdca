/- Plain functions that say what the program's functions of values answer. -/
import Derived.WalkKit
import Derived.Lib.Strings
namespace Go.Proofs.YtnjjpblgcgikaaaDoor
open Go.RowKit
/-- A value: its kind, its number, its text. -/
structure Vl where
  k : Int
  n : Int
  s : ByteArray
abbrev Vl.cells (v : Vl) : List Value := [.int .i64 v.k, .int .i64 v.n, .string v.s]
abbrev Vl.val (v : Vl) : Value := .agg #[.int .i64 v.k, .int .i64 v.n, .string v.s]
def Vl.zero : Vl := ⟨0, 0, .empty⟩
/-- may a byte stand between quotes? -/
def quotB (c : UInt8) : Bool := decide (32 ≤ (c.toNat : Int)) && decide ((c.toNat : Int) ≤ 126) && !((c.toNat : Int) == 39)
def quotS (s : ByteArray) : Bool := s.data.toList.all quotB && decide (s.size ≤ 20)
def isInt (n : Int) : Bool := decide (-999999999 ≤ n) && decide (n ≤ 999999999)
def emptyS (s : ByteArray) : Bool := s.toList.isEmpty
/-- is a value of a kind that there is right? -/
def Vl.fine (v : Vl) : Bool :=
  if v.k = 0 then (v.n == 0) && emptyS v.s
  else if v.k = 1 then isInt v.n && emptyS v.s
  else if v.k = 2 then (v.n == 0) && quotS v.s
  else (decide (0 ≤ v.n) && decide (v.n ≤ 1)) && emptyS v.s
/-- what is wrong with a value -/
def Vl.chk (v : Vl) : Int := if 0 ≤ v.k ∧ v.k ≤ 3 then (if v.fine = true then 0 else 3) else 7
/-- the first of some errors that is one -/
def firstErr : List Int → Int
  | [] => 0
  | e :: l => if e = 0 then firstErr l else e
/-- are two values the same? -/
def Vl.same (a b : Vl) : Bool := (a.k == b.k) && (a.n == b.n) && (a.s.toList == b.s.toList)
theorem Vl.same_iff (a b : Vl) : a.same b = true ↔ a = b := by
  obtain ⟨k, n, s⟩ := a
  obtain ⟨k', n', s'⟩ := b
  simp only [Vl.same, Bool.and_eq_true, beq_iff_eq, Vl.mk.injEq, ByteArray.toList_eq, and_assoc]
  refine and_congr_right fun _ => and_congr_right fun _ => ⟨fun h => ?_, fun h => by rw [h]⟩
  obtain ⟨⟨l⟩⟩ := s
  obtain ⟨⟨l'⟩⟩ := s'
  simp only at h
  rw [h]
def le4 (x : Int) : List UInt8 := [UInt8.ofNat (x % 256).toNat, UInt8.ofNat (x / 256 % 256).toNat, UInt8.ofNat (x / 256 / 256 % 256).toNat, UInt8.ofNat (x / 256 / 256 / 256 % 256).toNat]
/-- a value's bytes -/
def Vl.enc (v : Vl) : List UInt8 :=
  UInt8.ofNat v.k.toNat :: (if v.k = 1 then le4 (v.n + 999999999) else if v.k = 2 then UInt8.ofNat v.s.size :: v.s.data.toList else if v.k = 3 then [UInt8.ofNat v.n.toNat] else [])
/-- bytes as a string -/
def bs (l : List UInt8) : ByteArray := ⟨l.toArray⟩
theorem bs_size (l : List UInt8) : (bs l).size = l.length := by simp [bs, ByteArray.size]
theorem bs_append (l r : List UInt8) : bs l ++ bs r = bs (l ++ r) := ByteArray.mk_append_mk l r
theorem bs_append_s (l : List UInt8) (s : ByteArray) : bs l ++ s = bs (l ++ s.data.toList) := bs_append l s.data.toList
theorem bs_of (s : ByteArray) : s = bs s.data.toList := rfl
theorem emptyS_eq (s : ByteArray) (h : emptyS s = true) : s = .empty := by
  rw [bs_of s]
  have : s.data.toList = [] := by simpa [emptyS, ByteArray.toList_eq] using h
  rw [this]; rfl
/-- values that are right, kind by kind -/
theorem Vl.right {v : Vl} (h : v.chk = 0) :
    v = ⟨0, 0, .empty⟩ ∨ (∃ n, v = ⟨1, n, .empty⟩ ∧ -999999999 ≤ n ∧ n ≤ 999999999) ∨ (∃ s, v = ⟨2, 0, s⟩ ∧ s.size ≤ 20 ∧ s.data.toList.all quotB = true) ∨ (∃ n, v = ⟨3, n, .empty⟩ ∧ 0 ≤ n ∧ n ≤ 1) := by
  obtain ⟨k, n, s⟩ := v
  simp only [Vl.chk] at h
  split at h
  · split at h
    · rename_i hk hf
      simp only [Vl.fine] at hf
      have h4 : k = 0 ∨ k = 1 ∨ k = 2 ∨ k = 3 := by omega
      rcases h4 with rfl | rfl | rfl | rfl
      · simp at hf; left; rw [emptyS_eq s hf.2, hf.1]
      · simp [isInt] at hf; right; left; exact ⟨n, by rw [emptyS_eq s hf.2], hf.1.1, hf.1.2⟩
      · simp [quotS] at hf; right; right; left; exact ⟨s, by rw [hf.1], by omega, by simpa using hf.2.1⟩
      · simp at hf; right; right; right; exact ⟨n, by rw [emptyS_eq s hf.2], hf.1.1, hf.1.2⟩
    · cases h
  · cases h
def cellsV (vs : List Vl) : List Value := vs.flatMap Vl.cells
end Go.Proofs.YtnjjpblgcgikaaaDoor
