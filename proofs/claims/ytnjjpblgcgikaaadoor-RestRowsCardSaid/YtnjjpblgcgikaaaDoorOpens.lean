/- Arguments opened: from one reading to another one; texts, numbers, truths. -/
import Derived.Test.YtnjjpblgcgikaaaDoorBase
import Derived.Test.YtnjjpblgcgikaaaDoorRows
namespace Go.Proofs.YtnjjpblgcgikaaaDoor
open Go.RowKit
theorem Opens.to {α β : Type} {P : Program} {N : Nat} {t : TypeId} {ρ : Rep α} {σ : Rep β} {good : α → Prop} {good' : β → Prop} (O : Opens P N ρ t good) (f : α → β) (hR : ∀ {w : World} {L B : Nat} {x : α} {cs : List Value}, ρ.R w L B x cs → σ.R w L B (f x) cs) (hs : ρ.size = σ.size) (hg : ∀ x, good x → good' (f x)) : Opens P N σ t good' where
  cells := O.cells.trans hs
  opens := by
    intro H enc w base spare held fuel cs x hN ht hw
    obtain ⟨y, h1, h2⟩ := O.opens hN ht hw
    exact ⟨f y, hR h1, hg y h2⟩
theorem weights_of_each {H : Type} {P : Program} {ts : List TypeId} {ds : List (DataW H)} (h : (DataW.weightsEach P ts ds).all (· ≤ reachBytes) = true) {j : Nat} {t : TypeId} {d : DataW H} (ht : ts[j]? = some t) (hd : ds[j]? = some d) : (DataW.weights P t d).all (· ≤ reachBytes) = true :=
  List.all_eq_true.2 fun x hx => List.all_eq_true.1 h _ (DataW.weights_mem_each ht hd x hx)
end Go.Proofs.YtnjjpblgcgikaaaDoor
