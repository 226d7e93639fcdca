/- disk.Check. -/
import Derived.Test.YtoghgjobfcnneaaDkPlain
import Derived.Test.YtoghgjobfcnneaaOps2
import Derived.Test.YtoghgjobfcnneaaQuiet
import Derived.WalkSpells
import Derived.WalkLawsBesides
namespace Go.Proofs.Ytoghgjobfcnneaa
open Go.RowKit
/-- the first place at which p holds; -1: none -/
def idxF {α : Type} (p : α → Bool) : List α → Nat → Int
  | [], _ => -1
  | x :: l, i => if p x = true then (i : Int) else idxF p l (i + 1)
theorem idxF_any {α : Type} (p : α → Bool) (l : List α) (i : Nat) : decide (0 ≤ idxF p l i) = l.any p := by
  induction l generalizing i with
  | nil => simp [idxF]
  | cons x l ih =>
    rw [idxF, List.any_cons, ← ih (i + 1)]
    split
    · rename_i h; rw [h]; simp
    · rename_i h; simp [h]
end Go.Proofs.Ytoghgjobfcnneaa
