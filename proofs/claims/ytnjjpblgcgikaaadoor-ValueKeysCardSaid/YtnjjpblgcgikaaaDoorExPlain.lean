/- Plain functions that say what expressions answer. -/
import Derived.Test.YtnjjpblgcgikaaaDoorPlain
import Derived.Lib.Bytealg
namespace Go.Proofs.YtnjjpblgcgikaaaDoor
open Go.RowKit
set_option linter.unusedVariables false
instance : DecidableEq Vl := fun a b => decidable_of_iff _ (Vl.same_iff a b)
/-- the first place of what is so; -1: there is none -/
def placeF {α : Type} (p : α → Bool) : List α → Nat → Int
  | [], _ => -1
  | x :: l, i => if p x = true then (i : Int) else placeF p l (i + 1)
/-- A column: its name, its kind. -/
structure Col where
  name : ByteArray
  ty : Int
def isCol (nm : ByteArray) (c : Col) : Bool := c.name.toList == nm.toList
def findC (cols : List Col) (nm : ByteArray) : Int := placeF (isCol nm) cols 0
def truth (b : Bool) : Vl := ⟨3, if b then 1 else 0, .empty⟩
/-- An expression of the right form. -/
inductive Gx where
  | val (v : Vl)
  | col (nm : ByteArray)
  | un (k : Int) (x : Gx)
  | bin (k : Int) (x y : Gx)
def Gx.right (cols : List Col) : Gx → Prop
  | .val v => v.chk = 0
  | .col nm => 0 ≤ findC cols nm
  | .un k x => (k = 3 ∨ k = 4) ∧ x.right cols
  | .bin k x y => (5 ≤ k ∧ k ≤ 11) ∧ x.right cols ∧ y.right cols
/-- the order of two values -/
def ordV (a b : Vl) : Int :=
  if a.k ≠ b.k then (if a.k < b.k then -1 else 1) else if a.n ≠ b.n then (if a.n < b.n then -1 else 1)
  else Lib.compareBytes a.s.data.toList b.s.data.toList
def fitsL : List Col → List Vl → Bool
  | c :: l, v :: r => if v.k = 0 ∨ v.k = c.ty then fitsL l r else false
  | _, _ => true
def rowE (cols : List Col) (row : List Vl) : Int :=
  if row.length ≠ cols.length then 1 else if firstErr (row.map Vl.chk) ≠ 0 then firstErr (row.map Vl.chk) else if fitsL cols row = true then 0 else 4
end Go.Proofs.YtnjjpblgcgikaaaDoor
