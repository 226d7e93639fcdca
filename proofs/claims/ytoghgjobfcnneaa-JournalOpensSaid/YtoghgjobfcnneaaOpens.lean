/- Arguments opened: from one reading to another one; texts, numbers, truths. -/
import Derived.Test.YtoghgjobfcnneaaRep
import Derived.Test.YtoghgjobfcnneaaRows
namespace Go.Proofs.Ytoghgjobfcnneaa
open Go.RowKit
theorem weights_of_each {H : Type} {P : Program} {ts : List TypeId} {ds : List (DataW H)} (h : (DataW.weightsEach P ts ds).all (· ≤ reachBytes) = true) {j : Nat} {t : TypeId} {d : DataW H} (ht : ts[j]? = some t) (hd : ds[j]? = some d) : (DataW.weights P t d).all (· ≤ reachBytes) = true :=
  List.all_eq_true.2 fun x hx => List.all_eq_true.1 h _ (DataW.weights_mem_each ht hd x hx)
end Go.Proofs.Ytoghgjobfcnneaa
