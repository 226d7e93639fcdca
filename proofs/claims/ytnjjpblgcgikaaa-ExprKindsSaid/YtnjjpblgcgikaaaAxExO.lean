/- Expressions that come in, as trees. -/
import Derived.Test.YtnjjpblgcgikaaaAxOpen
import Derived.Test.YtnjjpblgcgikaaaAxEx0
namespace Go.Proofs.Ytnjjpblgcgikaaa.Ax
open Go.RowKit
theorem opensStrE (N : Nat) : OpensE Try.prog N 1 (fun s => [.lit (.string s)]) 9 fun s => s.size ≤ 140737488351232 := oeStr Try.underlying9 (by kernel_rfl)
theorem opensIntE (N : Nat) : OpensE Try.prog N 1 (fun n => [.lit (.int .i64 n)]) 3 fun n => -9223372036854775808 ≤ n ∧ n ≤ 9223372036854775807 := oeInt Try.underlying3 (by kernel_rfl)
/-- what is known of a value that comes in -/
def goodV (v : Vl) : Prop := (-9223372036854775808 ≤ v.k ∧ v.k ≤ 9223372036854775807) ∧ (-9223372036854775808 ≤ v.n ∧ v.n ≤ 9223372036854775807) ∧ v.s.size ≤ 140737488351232
theorem opensVlE (N : Nat) : OpensE Try.prog N 3 rV1 25 goodV :=
  oeTo (oeStruct (f := fun x : Int × Int × ByteArray => [.lit (.int .i64 x.1)] ++ ([.lit (.int .i64 x.2.1)] ++ [.lit (.string x.2.2)])) (sz := 1 + (1 + 1)) Try.underlying25 (ts := [3, 3, 9]) rfl (by kernel_rfl) (by kernel_rfl) (by kernel_rfl) (fun _ => rfl) (fun M _ => oeCons (opensIntE M) (oeCons (opensIntE M) (oeOne (opensStrE M)))))
    (fun x => (⟨x.1, x.2.1, x.2.2⟩ : Vl)) (fun _ => rfl) (fun _ => rfl) (fun _ h => h)
theorem opensVlsE (N : Nat) : OpensE Try.prog N 1 (fun l => [.sl (rVs l)]) 23 fun l => l.length * 32 ≤ 140737488351232 ∧ l.length ≤ maxLen ∧ ∀ x ∈ l, goodV x :=
  oeSlice Try.underlying23 (by kernel_rfl) (by kernel_rfl) (by decide) (fun M _ => opensVlE M) (by kernel_rfl)
def goodC (c : Col) : Prop := c.name.size ≤ 140737488351232 ∧ (-9223372036854775808 ≤ c.ty ∧ c.ty ≤ 9223372036854775807)
theorem opensColE (N : Nat) : OpensE Try.prog N 2 rC1 46 goodC :=
  oeTo (oeStruct (f := fun x : ByteArray × Int => [.lit (.string x.1)] ++ [.lit (.int .i64 x.2)]) (sz := 1 + 1) Try.underlying46 (ts := [9, 3]) rfl (by kernel_rfl) (by kernel_rfl) (by kernel_rfl) (fun _ => rfl) (fun M _ => oeCons (opensStrE M) (oeOne (opensIntE M))))
    (fun x => (⟨x.1, x.2⟩ : Col)) (fun _ => rfl) (fun _ => rfl) (fun _ h => h)
theorem opensColsE (N : Nat) : OpensE Try.prog N 1 (fun l => [.sl (rCs l)]) 22 fun l => l.length * 24 ≤ 140737488351232 ∧ l.length ≤ maxLen ∧ ∀ x ∈ l, goodC x :=
  oeSlice Try.underlying22 (by kernel_rfl) (by kernel_rfl) (by decide) (fun M _ => opensColE M) (by kernel_rfl)
/-- what is known of an expression that comes in -/
inductive goodE : Ex → Prop
  | mk {k : Int} {v : Vl} {nm : ByteArray} {ar : List Ex} (hk : -9223372036854775808 ≤ k ∧ k ≤ 9223372036854775807) (hv : goodV v) (hn : nm.size ≤ 140737488351232) (hl : ar.length * 80 ≤ 140737488351232 ∧ ar.length ≤ maxLen) (ha : ∀ a ∈ ar, goodE a) : goodE (.mk k v nm ar)
theorem opensExE (N : Nat) : OpensE Try.prog N 6 rE 28 goodE := by
  induction N using Nat.strongRecOn with
  | ind N ih =>
    exact oeTo (oeStruct (f := fun x : Int × Vl × ByteArray × List Ex => [.lit (.int .i64 x.1)] ++ (rV1 x.2.1 ++ ([.lit (.string x.2.2.1)] ++ [.sl (x.2.2.2.map rE)]))) (sz := 1 + (3 + (1 + 1))) Try.underlying28 (ts := [3, 25, 9, 26]) rfl (by kernel_rfl) (by kernel_rfl) (by kernel_rfl) (fun _ => rfl)
      (fun M hM => oeCons (opensIntE M) (oeCons (opensVlE M) (oeCons (opensStrE M) (oeOne (oeSlice Try.underlying26 (by kernel_rfl) (by_ := 80) (by kernel_rfl) (by decide) (fun M' h => ih M' (by omega)) (by kernel_rfl)))))))
      (fun x => (Ex.mk x.1 x.2.1 x.2.2.1 x.2.2.2)) (fun _ => by rw [rE_mk]; rfl) (fun _ => by rw [rE_len]) (fun _ h => .mk h.1 h.2.1 h.2.2.1 ⟨h.2.2.2.1, h.2.2.2.2.1⟩ h.2.2.2.2.2)
end Go.Proofs.Ytnjjpblgcgikaaa.Ax
