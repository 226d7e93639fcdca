/- Disks that come in, as trees. -/
import Derived.Test.YtoghgjobfcnneaaAxOpen
import Derived.Test.YtoghgjobfcnneaaAxDk4
namespace Go.Proofs.Ytoghgjobfcnneaa.Ax
open Go.RowKit
theorem opensStrE (N : Nat) : OpensE Try.prog N 1 (fun s => [.lit (.string s)]) 9 fun s => s.size ≤ 140737488351232 := oeStr Try.underlying9 (by kernel_rfl)
theorem opensIntE (N : Nat) : OpensE Try.prog N 1 (fun n => [.lit (.int .i64 n)]) 3 fun n => -9223372036854775808 ≤ n ∧ n ≤ 9223372036854775807 := oeInt Try.underlying3 (by kernel_rfl)
theorem opensBoolE (N : Nat) : OpensE Try.prog N 1 (fun b => [.lit (.bool b)]) 4 fun _ => True := oeBool Try.underlying4 (by kernel_rfl)
theorem opensStrsE (N : Nat) : OpensE Try.prog N 1 (fun l => [.sl (rS l)]) 22 fun l => l.length * 16 ≤ 140737488351232 ∧ l.length ≤ maxLen ∧ ∀ x ∈ l, x.size ≤ 140737488351232 :=
  oeSlice Try.underlying22 (by kernel_rfl) (by kernel_rfl) (by decide) (fun M _ => opensStrE M) (by kernel_rfl)
theorem opensBoolsE (N : Nat) : OpensE Try.prog N 1 (fun l => [.sl (rB l)]) 26 fun l => l.length * 1 ≤ 140737488351232 ∧ l.length ≤ maxLen ∧ ∀ x ∈ l, True :=
  oeSlice Try.underlying26 (by kernel_rfl) (by kernel_rfl) (by decide) (fun M _ => opensBoolE M) (by kernel_rfl)
theorem opensWrE (N : Nat) : OpensE Try.prog N 2 (fun x : Wr => [.lit (.int .i64 x.sec), .lit (.string x.s)]) 61 fun x => x.s.size ≤ 140737488351232 :=
  oeTo (oeStruct (f := fun x : Int × ByteArray => [.lit (.int .i64 x.1)] ++ [.lit (.string x.2)]) (sz := 1 + 1) Try.underlying61 (ts := [3, 9]) rfl (by kernel_rfl) (by kernel_rfl) (by kernel_rfl) (fun _ => rfl) (fun M _ => oeCons (opensIntE M) (oeOne (opensStrE M))))
    (fun x => (⟨x.1, x.2⟩ : Wr)) (fun _ => rfl) (fun _ => rfl) (fun x h => h.2)
theorem opensWrsE (N : Nat) : OpensE Try.prog N 1 (fun l => [.sl (rW l)]) 23 fun l => l.length * 24 ≤ 140737488351232 ∧ l.length ≤ maxLen ∧ ∀ x ∈ l, x.s.size ≤ 140737488351232 :=
  oeSlice Try.underlying23 (by kernel_rfl) (by kernel_rfl) (by decide) (fun M _ => opensWrE M) (by kernel_rfl)
theorem opensDkE (N : Nat) : OpensE Try.prog N 2 (fun d : Dk => [.sl (rS d.kept), .sl (rW d.wr)]) 25 fun d => d.kept.length ≤ maxLen ∧ d.wr.length ≤ maxLen ∧ (∀ s ∈ d.kept, s.size ≤ 140737488351232) ∧ (∀ x ∈ d.wr, x.s.size ≤ 140737488351232) ∧ d.kept.length * 16 ≤ 140737488351232 ∧ d.wr.length * 24 ≤ 140737488351232 :=
  oeTo (oeStruct (f := fun x : List ByteArray × List Wr => [.sl (rS x.1)] ++ [.sl (rW x.2)]) (sz := 1 + 1) Try.underlying25 (ts := [22, 23]) rfl (by kernel_rfl) (by kernel_rfl) (by kernel_rfl) (fun _ => rfl) (fun M _ => oeCons (opensStrsE M) (oeOne (opensWrsE M))))
    (fun x => (⟨x.1, x.2⟩ : Dk)) (fun _ => rfl) (fun _ => rfl) (fun x h => ⟨h.1.2.1, h.2.2.1, h.1.2.2, h.2.2.2, h.1.1, h.2.1⟩)
end Go.Proofs.Ytoghgjobfcnneaa.Ax
