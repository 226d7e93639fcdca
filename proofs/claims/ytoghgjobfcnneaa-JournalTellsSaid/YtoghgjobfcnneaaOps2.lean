/- Laws on single operations, for the walk: append of a row that lies somewhere. -/
import Derived.Test.YtoghgjobfcnneaaOps
import Derived.Test.YtoghgjobfcnneaaRep
import Derived.Laws.AppendOwnNone
namespace Go.Proofs.Ytoghgjobfcnneaa
open Go.RowKit
section
variable {P : Program} {w0 : World} {ops : Array Oper} {rest : List Oper} {o : Oper} {a : Act} {Q : Exit → Act → World → Prop}
/-- 'append(out, l...)' onto a row of the call's own: l lies anywhere -/
theorem wpList_appR (hgd : o.guard = none) (s x : Operand) {t e : TypeId} {z : Value} {size bytes : Nat} (E : ElT P t e z size bytes)
    (ho : o.op = .call { callee := .builtin .append, args := #[s, x], argTypes := #[t, t] })
    {base : Nat} {v : Value} {n : Nat} {xs : List Value} (hown : w0.ownsRow base e size v n xs) (hs : a.eval s = v)
    {cs : List Value} {ad : Addr} {m c : Nat} (hx : a.eval x = .slice (some ad) m c) (hc : ∀ j u, cs[j]? = some u → w0.cell? (ad.add j) = some u) (hl : cs.length = m * size) (h1 : (cs.all fun u => u.oneCell') = true)
    (h63 : n + m ≤ maxLen) (hbytes : (n + m) * bytes ≤ 140737488355328) (hbase : base ≤ w0.heap.size)
    (h : ∀ v' w', w'.ownsRow base e size v' (n + m) (xs ++ cs) → Left w0 w' base v → (v'.ownBlock = v.ownBlock ∨ v'.ownBlock = some w0.heap.size) → wpList P ops Q rest (a.put o.dst v') w') : wpList P ops Q (o :: rest) a w0 := by
  obtain ⟨i, hi, hz, hz1, hz2⟩ := E.hi
  refine wpList_append_own_at _ hgd s x t ho base e i z size bytes E.ht hi hz hz1 hz2 E.hzs E.hsz v n xs hs hown ad m c cs hx hl hc (by simpa using h1) h63 hbytes hbase ?_
  intro v' w' hown' hg _ hat
  exact h v' w' hown' (left_of hown hbase (fun row => World.grownBy.refl _ _) hg) hat
end
/-- what 'RepAll' leaves of a row that was appended to -/
theorem RepAll.left {α : Type} {ρ : Rep α} {w0 w' : World} {L B base : Nat} {v : Value} {l : List α} {cs : List Value} (h : RepAll ρ w0 L B l cs) (hL : Left w0 w' base v) (hB : B ≤ base) : RepAll ρ w' L B l cs :=
  h.keep fun _ _ hp => hL.below.cell (Nat.lt_of_lt_of_le hp hB)
theorem own_fresh0 (w : World) (e : TypeId) (size : Nat) : (w.alloc (.cells #[] e)).ownsRow w.heap.size e size (.slice (some ⟨w.heap.size, 0, none⟩) 0 0) 0 [] :=
  ⟨by simp, .inr ⟨w.heap.size, 0, #[], rfl, Nat.le_refl _, heap_alloc_new w _, Nat.le_refl _, Nat.zero_le _, by simp, by simp⟩⟩
theorem news_alloc {w : World} {ad : Addr} {cs : List Value} (h : ∀ j u, cs[j]? = some u → w.cell? (ad.add j) = some u) (o : Obj) : ∀ j u, cs[j]? = some u → (w.alloc o).cell? (ad.add j) = some u := fun j u hu => by
  have h1 := h j u hu
  exact ((below_two o).cell (World.block_lt_of_cell? w _ h1)).trans h1
/-- a row that is returned reads as a list -/
theorem RepAll.row {α : Type} {ρ : Rep α} {w : World} {L B base : Nat} {e : TypeId} {v : Value} {l : List α} {cs : List Value} (h : RepAll ρ w L B l cs) (hown : w.ownsRow base e ρ.size v l.length cs) (hL : L ≤ base) (hB : B ≤ w.heap.size) (hs : 0 < ρ.size) : ∃ A c, v = .slice A l.length c ∧ ρ.row w L w.heap.size A l.length l ∧ l.length ≤ maxLen ∧ l.length ≤ c :=
  Rep.row.of_own hown (h.more (Nat.le_refl _) hB) hL hs
end Go.Proofs.Ytoghgjobfcnneaa
