/- Regions that draw their order and make memory: what is carried from step to step. -/
import Derived.Test.YtnjjpblgcgikaaaDoorOps2
import Derived.Test.YtnjjpblgcgikaaaDoorQuiet
import Derived.Deep.RegionHeld3
import Derived.Deep.AppendLies
namespace Go.Proofs.YtnjjpblgcgikaaaDoor
open Go.RowKit
theorem own_low {w : World} {base base' : Nat} {e : TypeId} {size n : Nat} {v : Value} {xs : List Value} (h : w.ownsRow base e size v n xs) (hb : base' ≤ base) : w.ownsRow base' e size v n xs := by
  refine ⟨h.1, h.2.imp id ?_⟩
  rintro ⟨g, cap, cur, h1, h2, h3⟩
  exact ⟨g, cap, cur, h1, by omega, h3⟩
theorem Blk.call {w w' : World} {g : Nat} {t : TypeId} {cs : Array Value} (h : Blk w g t cs) (hb : Below w.heap.size w w') : Blk w' g t cs := h.below hb h.lt
theorem Blk.left {w w' : World} {g base : Nat} {t : TypeId} {cs : Array Value} {v : Value} (h : Blk w g t cs) (hL : Left w w' base v) (hg : g < base) : Blk w' g t cs := h.below hL.below hg
section
variable {P : Program} {w : World} {ops : Array Oper} {o : Oper} {a : Act} {K : Act → World → Prop} {Q : Exit → Act → World → Prop} {E : Prop}
end
/-- what a region keeps: all that lay below a block, and two cells -/
theorem Held2.below {w W W' : World} {g m : Nat} {x y : Value} (h : Below w.heap.size w W ∧ m ≤ W.heap.size ∧ W.cell? ⟨g, 0, none⟩ = some x ∧ W.cell? ⟨g, 1, none⟩ = some y) (hg : w.heap.size ≤ m) (hgm : g < m) (hb : Below m W W') :
    Below w.heap.size w W' ∧ m ≤ W'.heap.size ∧ W'.cell? ⟨g, 0, none⟩ = some x ∧ W'.cell? ⟨g, 1, none⟩ = some y :=
  ⟨h.1.trans (hb.mono hg), Nat.le_trans h.2.1 hb.size, (hb.cell (p := ⟨g, 0, none⟩) hgm).trans h.2.2.1, (hb.cell (p := ⟨g, 1, none⟩) hgm).trans h.2.2.2⟩
theorem Held2.call {w W W' : World} {g m : Nat} {x y : Value} (h : Below w.heap.size w W ∧ m ≤ W.heap.size ∧ W.cell? ⟨g, 0, none⟩ = some x ∧ W.cell? ⟨g, 1, none⟩ = some y) (hg : w.heap.size ≤ m) (hgm : g < m) (hb : Below W.heap.size W W') :
    Below w.heap.size w W' ∧ m ≤ W'.heap.size ∧ W'.cell? ⟨g, 0, none⟩ = some x ∧ W'.cell? ⟨g, 1, none⟩ = some y := Held2.below h hg hgm (hb.mono h.2.1)
theorem Held2.alloc {w W : World} {g m : Nat} {x y : Value} (h : Below w.heap.size w W ∧ m ≤ W.heap.size ∧ W.cell? ⟨g, 0, none⟩ = some x ∧ W.cell? ⟨g, 1, none⟩ = some y) (hg : w.heap.size ≤ m) (hgm : g < m) (o : Obj) :
    Below w.heap.size w (W.alloc o) ∧ m ≤ (W.alloc o).heap.size ∧ (W.alloc o).cell? ⟨g, 0, none⟩ = some x ∧ (W.alloc o).cell? ⟨g, 1, none⟩ = some y := Held2.call h hg hgm (below_two o)
theorem Held2.put {w W : World} {g m : Nat} {x y u : Value} {p : Addr} (h : Below w.heap.size w W ∧ m ≤ W.heap.size ∧ W.cell? ⟨g, 0, none⟩ = some x ∧ W.cell? ⟨g, 1, none⟩ = some y) (hp : p.block ≠ g) (hpw : w.heap.size ≤ p.block) :
    Below w.heap.size w (W.setCell p u) ∧ m ≤ (W.setCell p u).heap.size ∧ (W.setCell p u).cell? ⟨g, 0, none⟩ = some x ∧ (W.setCell p u).cell? ⟨g, 1, none⟩ = some y :=
  ⟨h.1.setCell hpw u, by simpa [World.setCell] using h.2.1, (World.cell?_setCell_far _ _ _ _ hp).trans h.2.2.1, (World.cell?_setCell_far _ _ _ _ hp).trans h.2.2.2⟩
end Go.Proofs.YtnjjpblgcgikaaaDoor
