/- Arguments opened: from one reading to another one; texts, numbers, truths. -/
import Derived.Test.YtoghgjobfcnneaaRep
import Derived.Test.YtoghgjobfcnneaaRows
namespace Go.Proofs.Ytoghgjobfcnneaa
open Go.RowKit
theorem Opens.to {α β : Type} {P : Program} {N : Nat} {t : TypeId} {ρ : Rep α} {σ : Rep β} {good : α → Prop} {good' : β → Prop} (O : Opens P N ρ t good) (f : α → β) (hR : ∀ {w : World} {L B : Nat} {x : α} {cs : List Value}, ρ.R w L B x cs → σ.R w L B (f x) cs) (hs : ρ.size = σ.size) (hg : ∀ x, good x → good' (f x)) : Opens P N σ t good' where
  cells := O.cells.trans hs
  opens := by
    intro H enc w base spare held fuel cs x hN ht hw
    obtain ⟨y, h1, h2⟩ := O.opens hN ht hw
    exact ⟨f y, hR h1, hg y h2⟩
theorem opensStr (N : Nat) : Opens Try.prog N repStr 9 fun s => s.size ≤ 140737488351232 := Opens.str Try.underlying9 (by kernel_rfl)
theorem opensInt (N : Nat) : Opens Try.prog N repInt 3 fun n => -9223372036854775808 ≤ n ∧ n ≤ 9223372036854775807 := Opens.int Try.underlying3 (by kernel_rfl)
theorem opensBool (N : Nat) : Opens Try.prog N repBool 4 fun _ => True := Opens.bool Try.underlying4 (by kernel_rfl)
/-- an argument, opened -/
theorem Opens.arg {α : Type} {P : Program} {ρ : Rep α} {t : TypeId} {good : α → Prop} (O : ∀ N, Opens P N ρ t good) {H : Type} {enc : TypeId × Value → H} {w : World} {base : Nat} {spare : Nat → Bool} {held : Bool} {cs : List Value} {x : DataW H × List MemPlace}
    (h : ∃ fuel, DataW.trod enc P w base spare held fuel t cs = some x) (hw : (DataW.weights P t x.1).all (· ≤ reachBytes) = true) : ∃ y, ρ.R w 0 w.heap.size y cs ∧ good y := by
  obtain ⟨fuel, hf⟩ := h
  exact (O fuel).opens (Nat.le_refl _) hf hw
theorem weights_of_each {H : Type} {P : Program} {ts : List TypeId} {ds : List (DataW H)} (h : (DataW.weightsEach P ts ds).all (· ≤ reachBytes) = true) {j : Nat} {t : TypeId} {d : DataW H} (ht : ts[j]? = some t) (hd : ds[j]? = some d) : (DataW.weights P t d).all (· ≤ reachBytes) = true :=
  List.all_eq_true.2 fun x hx => List.all_eq_true.1 h _ (DataW.weights_mem_each ht hd x hx)
/-- a row that comes in -/
theorem row_of {α : Type} {ρ : Rep α} {w : World} {A : Option Addr} {n c : Nat} {l : List α} (h : ρ.slice.R w 0 w.heap.size l (Value.slice A n c).cells.toList) : ρ.row w 0 w.heap.size A n l := by
  obtain ⟨A', n', c', e, h1⟩ := h
  simp only [Value.cells, List.cons.injEq, Value.slice.injEq, and_true] at e
  obtain ⟨rfl, rfl, rfl⟩ := e
  exact h1
end Go.Proofs.Ytoghgjobfcnneaa
