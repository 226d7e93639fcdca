/- Disks that come in, as trees. -/
import Derived.Test.YtoghgjobfcnneaaAxOpen
import Derived.Test.YtoghgjobfcnneaaAxDk4
namespace Go.Proofs.Ytoghgjobfcnneaa.Ax
open Go.RowKit
theorem opensStrE (N : Nat) : OpensE Try.prog N 1 (fun s => [.lit (.string s)]) 9 fun s => s.size ≤ 140737488351232 := oeStr Try.underlying9 (by kernel_rfl)
theorem opensIntE (N : Nat) : OpensE Try.prog N 1 (fun n => [.lit (.int .i64 n)]) 3 fun n => -9223372036854775808 ≤ n ∧ n ≤ 9223372036854775807 := oeInt Try.underlying3 (by kernel_rfl)
theorem opensBoolE (N : Nat) : OpensE Try.prog N 1 (fun b => [.lit (.bool b)]) 4 fun _ => True := oeBool Try.underlying4 (by kernel_rfl)
theorem opensStrsE (N : Nat) : OpensE Try.prog N 1 (fun l => [.sl (rS l)]) 22 fun l => l.length * 16 ≤ 140737488351232 ∧ l.length ≤ maxLen ∧ ∀ x ∈ l, x.size ≤ 140737488351232 :=
  oeSlice Try.underlying22 (by kernel_rfl) (by kernel_rfl) (by decide) (fun M _ => opensStrE M) (by kernel_rfl)
theorem opensBoolsE (N : Nat) : OpensE Try.prog N 1 (fun l => [.sl (rB l)]) 26 fun l => l.length * 1 ≤ 140737488351232 ∧ l.length ≤ maxLen ∧ ∀ x ∈ l, True :=
  oeSlice Try.underlying26 (by kernel_rfl) (by kernel_rfl) (by decide) (fun M _ => opensBoolE M) (by kernel_rfl)
theorem opensIntsE (N : Nat) : OpensE Try.prog N 1 (fun l : List Int => [.sl (l.map fun n : Int => [.lit (.int .i64 n)])]) 48 fun l : List Int => l.length * 8 ≤ 140737488351232 ∧ l.length ≤ maxLen ∧ ∀ x ∈ l, -9223372036854775808 ≤ x ∧ x ≤ 9223372036854775807 :=
  oeSlice Try.underlying48 (by kernel_rfl) (by kernel_rfl) (by decide) (fun M _ => opensIntE M) (by kernel_rfl)
end Go.Proofs.Ytoghgjobfcnneaa.Ax
