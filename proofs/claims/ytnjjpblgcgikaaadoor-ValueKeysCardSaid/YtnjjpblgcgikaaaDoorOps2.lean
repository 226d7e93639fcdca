/- Laws on single operations, for the walk: append of a row that lies somewhere. -/
import Derived.Test.YtnjjpblgcgikaaaDoorOps
import Derived.Test.YtnjjpblgcgikaaaDoorRep
import Derived.Laws.AppendOwnNone
namespace Go.Proofs.YtnjjpblgcgikaaaDoor
open Go.RowKit
section
variable {P : Program} {w0 : World} {ops : Array Oper} {rest : List Oper} {o : Oper} {a : Act} {Q : Exit → Act → World → Prop}
end
/-- what 'RepAll' leaves of a row that was appended to -/
theorem RepAll.left {α : Type} {ρ : Rep α} {w0 w' : World} {L B base : Nat} {v : Value} {l : List α} {cs : List Value} (h : RepAll ρ w0 L B l cs) (hL : Left w0 w' base v) (hB : B ≤ base) : RepAll ρ w' L B l cs :=
  h.keep fun _ _ hp => hL.below.cell (Nat.lt_of_lt_of_le hp hB)
/-- a row that is returned reads as a list -/
theorem RepAll.row {α : Type} {ρ : Rep α} {w : World} {L B base : Nat} {e : TypeId} {v : Value} {l : List α} {cs : List Value} (h : RepAll ρ w L B l cs) (hown : w.ownsRow base e ρ.size v l.length cs) (hL : L ≤ base) (hB : B ≤ w.heap.size) (hs : 0 < ρ.size) : ∃ A c, v = .slice A l.length c ∧ ρ.row w L w.heap.size A l.length l ∧ l.length ≤ maxLen ∧ l.length ≤ c :=
  Rep.row.of_own hown (h.more (Nat.le_refl _) hB) hL hs
end Go.Proofs.YtnjjpblgcgikaaaDoor
