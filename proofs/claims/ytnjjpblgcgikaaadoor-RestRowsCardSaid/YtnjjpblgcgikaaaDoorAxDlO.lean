/- Deltas that come in, as trees. -/
import Derived.Test.YtnjjpblgcgikaaaDoorAxVlO
import Derived.Test.YtnjjpblgcgikaaaDoorAxDl2
namespace Go.Proofs.YtnjjpblgcgikaaaDoor.Ax
open Go.RowKit
def goodD (d : Dl) : Prop := (-9223372036854775808 ≤ d.k ∧ d.k ≤ 9223372036854775807) ∧ (-9223372036854775808 ≤ d.at_ ∧ d.at_ ≤ 9223372036854775807) ∧ (-9223372036854775808 ≤ d.ty ∧ d.ty ≤ 9223372036854775807) ∧ goodV d.v
theorem opensDlE (N : Nat) : OpensE Tryd.prog N 6 rD1 52 goodD :=
  oeTo (oeStruct (f := fun x : Int × Int × Int × Vl => [.lit (.int .i64 x.1)] ++ ([.lit (.int .i64 x.2.1)] ++ ([.lit (.int .i64 x.2.2.1)] ++ rV1 x.2.2.2))) (sz := 1 + (1 + (1 + 3))) Tryd.underlying52 (ts := [3, 3, 3, 39]) rfl (by kernel_rfl) (by kernel_rfl) (by kernel_rfl) (fun _ => rfl) (fun M _ => oeCons (opensIntE M) (oeCons (opensIntE M) (oeCons (opensIntE M) (oeOne (opensVlE M))))))
    (fun x => (⟨x.1, x.2.1, x.2.2.1, x.2.2.2⟩ : Dl)) (fun _ => rfl) (fun _ => rfl) (fun _ h => h)
theorem opensDlsE (N : Nat) : OpensE Tryd.prog N 1 (fun l => [.sl (rDs l)]) 23 fun l => l.length * 56 ≤ 140737488351232 ∧ l.length ≤ maxLen ∧ ∀ x ∈ l, goodD x :=
  oeSlice Tryd.underlying23 (by kernel_rfl) (by kernel_rfl) (by decide) (fun M _ => opensDlE M) (by kernel_rfl)
theorem sizeV_of {l : List Vl} (h : ∀ x ∈ l, goodV x) : ∀ v ∈ l, v.s.size ≤ maxLen := fun v hv => by have h1 := (h v hv).2.2; unfold maxLen; omega
theorem sizeD_of {l : List Dl} (h : ∀ x ∈ l, goodD x) : ∀ d ∈ l, d.v.s.size ≤ maxLen := fun d hd => by have h1 := (h d hd).2.2.2.2.2; unfold maxLen; omega
end Go.Proofs.YtnjjpblgcgikaaaDoor.Ax
