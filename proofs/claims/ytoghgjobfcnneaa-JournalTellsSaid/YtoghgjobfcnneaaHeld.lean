/- Regions that draw their order and make memory: what is carried from step to step. -/
import Derived.Test.YtoghgjobfcnneaaOps2
import Derived.Test.YtoghgjobfcnneaaQuiet
import Derived.Deep.RegionHeld3
import Derived.Deep.AppendLies
namespace Go.Proofs.Ytoghgjobfcnneaa
open Go.RowKit
theorem own_low {w : World} {base base' : Nat} {e : TypeId} {size n : Nat} {v : Value} {xs : List Value} (h : w.ownsRow base e size v n xs) (hb : base' ≤ base) : w.ownsRow base' e size v n xs := by
  refine ⟨h.1, h.2.imp id ?_⟩
  rintro ⟨g, cap, cur, h1, h2, h3⟩
  exact ⟨g, cap, cur, h1, by omega, h3⟩
/-- a row of the call's own behind an append to another one -/
theorem own_left {w0 w' : World} {b1 base : Nat} {e : TypeId} {size n : Nat} {v v2 : Value} {xs : List Value} (h : w0.ownsRow b1 e size v n xs) (hL : Left w0 w' base v2) (hne : ∀ k, v.ownBlock = some k → v2.ownBlock ≠ some k) : w'.ownsRow b1 e size v n xs := by
  refine ⟨h.1, ?_⟩
  have hlt := h.lt
  rcases h.2 with h2 | ⟨g, cap, cur, rfl, h3, h4, h5⟩
  · exact .inl h2
  · exact .inr ⟨g, cap, cur, rfl, h3, (hL.blk g (hlt g rfl).2 (hne g rfl)).trans h4, h5⟩
/-- rows of different kinds lie in different blocks -/
theorem own_apart {w : World} {b1 b2 : Nat} {e1 e2 : TypeId} {s1 s2 n1 n2 : Nat} {v1 v2 : Value} {xs1 xs2 : List Value} (h1 : w.ownsRow b1 e1 s1 v1 n1 xs1) (h2 : w.ownsRow b2 e2 s2 v2 n2 xs2) (he : e1 ≠ e2) : ∀ k, v1.ownBlock = some k → v2.ownBlock ≠ some k := by
  intro k h3 h4
  rcases h1.2 with ⟨rfl, _⟩ | ⟨g, cap, cur, rfl, _, h5, _⟩
  · cases h3
  rcases h2.2 with ⟨rfl, _⟩ | ⟨g', cap', cur', rfl, _, h6, _⟩
  · cases h4
  simp only [Value.ownBlock, Option.some.injEq] at h3 h4
  subst h3
  subst h4
  rw [h5] at h6
  simp only [Option.some.injEq, Obj.cells.injEq] at h6
  exact he h6.2.1
/-- a new block, behind a call -/
theorem blk_call {w w' : World} {t : TypeId} {cs : Array Value} (hb : Below (w.alloc (.cells cs t)).heap.size (w.alloc (.cells cs t)) w') : Blk w' w.heap.size t cs := (Blk.fresh w t cs).below hb (by simp)
theorem Blk.call {w w' : World} {g : Nat} {t : TypeId} {cs : Array Value} (h : Blk w g t cs) (hb : Below w.heap.size w w') : Blk w' g t cs := h.below hb h.lt
theorem Blk.left {w w' : World} {g base : Nat} {t : TypeId} {cs : Array Value} {v : Value} (h : Blk w g t cs) (hL : Left w w' base v) (hg : g < base) : Blk w' g t cs := h.below hL.below hg
section
variable {P : Program} {w : World} {ops : Array Oper} {o : Oper} {a : Act} {K : Act → World → Prop} {Q : Exit → Act → World → Prop} {E : Prop}
/-- append of what lies in a block, at a step of a region -/
theorem step_app (hgd : o.guard = none) (s x : Operand) {t e : TypeId} {z : Value} {size bytes : Nat} (EL : ElT P t e z size bytes)
    (ho : o.op = .call { callee := .builtin .append, args := #[s, x], argTypes := #[t, t] })
    {base : Nat} {v : Value} {n : Nat} {xs : List Value} (hown : w.ownsRow base e size v n xs) (hs : a.eval s = v)
    {cs : Array Value} {te : TypeId} {g m c : Nat} (hx : a.eval x = .slice (some ⟨g, 0, none⟩) m c) (hblk : Blk w g te cs) (hl : cs.size = m * size) (h1 : (cs.toList.all fun u => u.oneCell') = true)
    (hm : 0 < m) (h63 : n + m ≤ maxLen) (hbytes : (n + m) * bytes ≤ 140737488355328) (hbase : base ≤ w.heap.size)
    (h : ∀ g' cap w', w'.ownsRow base e size (.slice (some ⟨g', 0, none⟩) (n + m) cap) (n + m) (xs ++ cs.toList) → Left w w' base v → K (a.put o.dst (.slice (some ⟨g', 0, none⟩) (n + m) cap)) w') :
    if Region.wanted o (yielded ops a.tmps) = true then Oper.wp P o a w K Q else E := by
  obtain ⟨i, hi, hz, hz1, hz2⟩ := EL.hi
  refine step_append_lies w hgd s x t ho base e i z size bytes EL.ht hi hz hz1 hz2 EL.hzs EL.hsz v n xs hs hown ⟨g, 0, none⟩ m c cs.toList hx (by simpa using hl) (World.news_of_block hblk) (List.all_eq_true.1 h1) hm h63 hbytes hbase _ rfl ?_
  intro g' cap w' hown' hgrow _ _
  exact h g' cap w' hown' (left_of hown hbase (fun row => World.grownBy.refl _ _) hgrow)
end
/-- what a region keeps: all that lay below a block, and two cells -/
theorem Held2.below {w W W' : World} {g m : Nat} {x y : Value} (h : Below w.heap.size w W ∧ m ≤ W.heap.size ∧ W.cell? ⟨g, 0, none⟩ = some x ∧ W.cell? ⟨g, 1, none⟩ = some y) (hg : w.heap.size ≤ m) (hgm : g < m) (hb : Below m W W') :
    Below w.heap.size w W' ∧ m ≤ W'.heap.size ∧ W'.cell? ⟨g, 0, none⟩ = some x ∧ W'.cell? ⟨g, 1, none⟩ = some y :=
  ⟨h.1.trans (hb.mono hg), Nat.le_trans h.2.1 hb.size, (hb.cell (p := ⟨g, 0, none⟩) hgm).trans h.2.2.1, (hb.cell (p := ⟨g, 1, none⟩) hgm).trans h.2.2.2⟩
theorem Held2.call {w W W' : World} {g m : Nat} {x y : Value} (h : Below w.heap.size w W ∧ m ≤ W.heap.size ∧ W.cell? ⟨g, 0, none⟩ = some x ∧ W.cell? ⟨g, 1, none⟩ = some y) (hg : w.heap.size ≤ m) (hgm : g < m) (hb : Below W.heap.size W W') :
    Below w.heap.size w W' ∧ m ≤ W'.heap.size ∧ W'.cell? ⟨g, 0, none⟩ = some x ∧ W'.cell? ⟨g, 1, none⟩ = some y := Held2.below h hg hgm (hb.mono h.2.1)
theorem Held2.alloc {w W : World} {g m : Nat} {x y : Value} (h : Below w.heap.size w W ∧ m ≤ W.heap.size ∧ W.cell? ⟨g, 0, none⟩ = some x ∧ W.cell? ⟨g, 1, none⟩ = some y) (hg : w.heap.size ≤ m) (hgm : g < m) (o : Obj) :
    Below w.heap.size w (W.alloc o) ∧ m ≤ (W.alloc o).heap.size ∧ (W.alloc o).cell? ⟨g, 0, none⟩ = some x ∧ (W.alloc o).cell? ⟨g, 1, none⟩ = some y := Held2.call h hg hgm (below_two o)
theorem Held2.put {w W : World} {g m : Nat} {x y u : Value} {p : Addr} (h : Below w.heap.size w W ∧ m ≤ W.heap.size ∧ W.cell? ⟨g, 0, none⟩ = some x ∧ W.cell? ⟨g, 1, none⟩ = some y) (hp : p.block ≠ g) (hpw : w.heap.size ≤ p.block) :
    Below w.heap.size w (W.setCell p u) ∧ m ≤ (W.setCell p u).heap.size ∧ (W.setCell p u).cell? ⟨g, 0, none⟩ = some x ∧ (W.setCell p u).cell? ⟨g, 1, none⟩ = some y :=
  ⟨h.1.setCell hpw u, by simpa [World.setCell] using h.2.1, (World.cell?_setCell_far _ _ _ _ hp).trans h.2.2.1, (World.cell?_setCell_far _ _ _ _ hp).trans h.2.2.2⟩
end Go.Proofs.Ytoghgjobfcnneaa
