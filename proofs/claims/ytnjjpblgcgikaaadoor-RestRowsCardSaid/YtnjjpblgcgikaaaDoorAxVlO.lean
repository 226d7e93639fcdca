/- Values that come in, as trees. -/
import Derived.Test.YtnjjpblgcgikaaaDoorAxOpen
import Derived.Test.YtnjjpblgcgikaaaDoorVlA
namespace Go.Proofs.YtnjjpblgcgikaaaDoor.Ax
open Go.RowKit
theorem opensStrE (N : Nat) : OpensE Tryd.prog N 1 (fun s => [.lit (.string s)]) 9 fun s => s.size ≤ 140737488351232 := oeStr Tryd.underlying9 (by kernel_rfl)
theorem opensIntE (N : Nat) : OpensE Tryd.prog N 1 (fun n => [.lit (.int .i64 n)]) 3 fun n => -9223372036854775808 ≤ n ∧ n ≤ 9223372036854775807 := oeInt Tryd.underlying3 (by kernel_rfl)
/-- what is known of a value that comes in -/
def goodV (v : Vl) : Prop := (-9223372036854775808 ≤ v.k ∧ v.k ≤ 9223372036854775807) ∧ (-9223372036854775808 ≤ v.n ∧ v.n ≤ 9223372036854775807) ∧ v.s.size ≤ 140737488351232
theorem opensVlE (N : Nat) : OpensE Tryd.prog N 3 rV1 39 goodV :=
  oeTo (oeStruct (f := fun x : Int × Int × ByteArray => [.lit (.int .i64 x.1)] ++ ([.lit (.int .i64 x.2.1)] ++ [.lit (.string x.2.2)])) (sz := 1 + (1 + 1)) Tryd.underlying39 (ts := [3, 3, 9]) rfl (by kernel_rfl) (by kernel_rfl) (by kernel_rfl) (fun _ => rfl) (fun M _ => oeCons (opensIntE M) (oeCons (opensIntE M) (oeOne (opensStrE M)))))
    (fun x => (⟨x.1, x.2.1, x.2.2⟩ : Vl)) (fun _ => rfl) (fun _ => rfl) (fun _ h => h)
theorem opensVlsE (N : Nat) : OpensE Tryd.prog N 1 (fun l => [.sl (rVs l)]) 22 fun l => l.length * 32 ≤ 140737488351232 ∧ l.length ≤ maxLen ∧ ∀ x ∈ l, goodV x :=
  oeSlice Tryd.underlying22 (by kernel_rfl) (by kernel_rfl) (by decide) (fun M _ => opensVlE M) (by kernel_rfl)
end Go.Proofs.YtnjjpblgcgikaaaDoor.Ax
