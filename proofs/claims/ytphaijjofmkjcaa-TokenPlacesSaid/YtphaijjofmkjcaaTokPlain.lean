/- Plain functions that say what the program's functions of tokens answer. -/
import Derived.Test.YtphaijjofmkjcaaPlain
import Derived.Lib.Bytealg
import Derived.Lib.Strings
namespace Go.Proofs.Ytphaijjofmkjcaa
open Go.RowKit
def letterB (c : UInt8) : Bool := decide (97 ≤ (c.toNat : Int)) && decide ((c.toNat : Int) ≤ 122)
def digitB (c : UInt8) : Bool := decide (48 ≤ (c.toNat : Int)) && decide ((c.toNat : Int) ≤ 57)
def blankB (c : UInt8) : Bool := ((c.toNat : Int) == 32) || ((c.toNat : Int) == 9) || ((c.toNat : Int) == 10)
def wordB (c : UInt8) : Bool := letterB c || digitB c
/-- A token: its kind, where it begins, what stands there. -/
structure Tk where
  k : Int
  at_ : Int
  s : ByteArray
abbrev Tk.cells (t : Tk) : List Value := [.int .i64 t.k, .int .i64 t.at_, .string t.s]
abbrev Tk.val (t : Tk) : Value := .agg #[.int .i64 t.k, .int .i64 t.at_, .string t.s]
theorem drop_eq' {α : Type} (l : List α) (k : Nat) (x : α) (h : l[k]? = some x) : l.drop k = x :: l.drop (k + 1) := by
  obtain ⟨hk, rfl⟩ := List.getElem?_eq_some_iff.1 h
  exact List.drop_eq_getElem_cons hk
/-- how many signs go on -/
def runN (q : UInt8 → Bool) : List UInt8 → Nat
  | [] => 0
  | x :: l => if q x = true then runN q l + 1 else 0
theorem runN_le (q : UInt8 → Bool) (l : List UInt8) : runN q l ≤ l.length := by
  induction l with
  | nil => simp [runN]
  | cons x l ih => simp only [runN]; split <;> simp; omega
theorem runN_end (q : UInt8 → Bool) (l : List UInt8) (k : Nat) (h : k + runN q (l.drop k) = runN q l) (x : UInt8) (hx : l[k]? = some x) : q x = true → (k + 1) + runN q (l.drop (k + 1)) = runN q l := by
  intro hq
  rw [← h, drop_eq' l k x hx, runN, if_pos hq]
  omega
/-- a text between quotes, behind the first quote: how many bytes, and what is wrong -/
def quotN (l : List UInt8) : Nat := runN quotB l
def quotEnds (l : List UInt8) : Bool := match l.drop (quotN l) with | x :: _ => x == 39 | [] => false
def sign1 (c : UInt8) : Bool := decide (0 ≤ Lib.indexByte [40, 41, 44, 59, 42, 61, 60, 43, 45] c)
def bars (l : List UInt8) : Bool := Lib.hasPrefix l [124, 124]
/-- the token that begins where x does (l is behind it): its kind, its length, what is wrong with it -/
def tokL (x : UInt8) (l : List UInt8) : Nat × Nat × Nat :=
  if letterB x = true then (1, runN wordB l + 1, if 12 < runN wordB l + 1 then 2 else 0)
  else if digitB x = true then (2, runN digitB l + 1, if 9 < runN digitB l + 1 then 2 else if 1 < runN digitB l + 1 ∧ x = 48 then 1 else 0)
  else if x = 39 then (if quotEnds l = true then (3, quotN l + 2, if 20 < quotN l then 2 else 0) else (3, 1, 1))
  else if bars (x :: l) = true then (4, 2, 0)
  else if sign1 x = true then (4, 1, 0)
  else (4, 0, 1)
end Go.Proofs.Ytphaijjofmkjcaa
