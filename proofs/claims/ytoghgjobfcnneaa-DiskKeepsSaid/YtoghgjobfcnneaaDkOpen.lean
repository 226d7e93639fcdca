/- Disks that come in. -/
import Derived.Test.YtoghgjobfcnneaaOpens
import Derived.Test.YtoghgjobfcnneaaDk2
namespace Go.Proofs.Ytoghgjobfcnneaa
open Go.RowKit
theorem opensStrs (N : Nat) : Opens Try.prog N repStr.slice 22 fun l => l.length * 16 ≤ 140737488351232 ∧ l.length ≤ maxLen ∧ ∀ x ∈ l, x.size ≤ 140737488351232 :=
  Opens.slice Try.underlying22 (by kernel_rfl) (by kernel_rfl) (by decide) (fun M _ => opensStr M) (by kernel_rfl)
theorem opensBools (N : Nat) : Opens Try.prog N repBool.slice 26 fun l => l.length * 1 ≤ 140737488351232 ∧ l.length ≤ maxLen ∧ ∀ x ∈ l, True :=
  Opens.slice Try.underlying26 (by kernel_rfl) (by kernel_rfl) (by decide) (fun M _ => opensBool M) (by kernel_rfl)
theorem opensWr (N : Nat) : Opens Try.prog N repWr 61 fun x => x.s.size ≤ 140737488351232 :=
  Opens.to (Opens.struct (ρ := repInt.and repStr) Try.underlying61 (ts := [3, 9]) rfl (by kernel_rfl) (by kernel_rfl) (by kernel_rfl) (fun M _ => OpensParts.cons (opensInt M) (OpensParts.one (opensStr M))))
    (fun x => ⟨x.1, x.2⟩) (fun ⟨a, b, e, h1, h2⟩ => by cases h1; cases h2; exact e) rfl (fun x h => h.2)
theorem opensWrs (N : Nat) : Opens Try.prog N repWr.slice 23 fun l => l.length * 24 ≤ 140737488351232 ∧ l.length ≤ maxLen ∧ ∀ x ∈ l, x.s.size ≤ 140737488351232 :=
  Opens.slice Try.underlying23 (by kernel_rfl) (by kernel_rfl) (by decide) (fun M _ => opensWr M) (by kernel_rfl)
theorem opensDk (N : Nat) : Opens Try.prog N repDk 25 DkOk :=
  Opens.by (ρ := repStr.slice.and repWr.slice) (Opens.struct Try.underlying25 (ts := [22, 23]) rfl (by kernel_rfl) (by kernel_rfl) (by kernel_rfl) (fun M _ => OpensParts.cons (opensStrs M) (OpensParts.one (opensWrs M))))
    (fun d : Dk => (d.kept, d.wr)) (fun x => (⟨x.1, x.2⟩ : Dk)) (fun _ => rfl) (fun x h => ⟨h.1.1, h.2.1, fun s hs => Nat.le_trans (h.1.2.2 s hs) (by unfold maxLen; omega), fun y hy => Nat.le_trans (h.2.2.2 y hy) (by unfold maxLen; omega)⟩)
theorem dkAt_of {w : World} {cs : Array Value} {d : Dk} (h : repDk.R w 0 w.heap.size d cs.toList) : DkAt w 0 (.agg cs) d := by
  obtain ⟨a, b, e, ⟨A, n, c, rfl, h1⟩, ⟨A', n', c', rfl, h2⟩⟩ := h
  have hn := h1.1
  have hn' := h2.1
  simp only at hn hn'
  subst hn
  subst hn'
  refine ⟨A, c, A', c', ?_, h1, h2⟩
  congr 1
  exact Array.toList_inj.1 e
end Go.Proofs.Ytoghgjobfcnneaa
