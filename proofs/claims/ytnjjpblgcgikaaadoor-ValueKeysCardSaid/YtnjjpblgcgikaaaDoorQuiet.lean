/- Quiet calls: contracts that state 'w = w''. -/
import Derived.WalkKit
import Derived.BigQuiet
import Derived.Handy
import Derived.Deep.QuietTactic
import Derived.Deep.LoopGhost
import Derived.Test.YtnjjpblgcgikaaaDoorMem
namespace Go.Proofs.YtnjjpblgcgikaaaDoor
open Go.RowKit
section
variable {P : Program} {f : FuncId} {args : Array Value} {w : World} {a n : Nat} {v : Value}
end
/-- function G is one of the text's own: a call of it enters it -/
def Enters (P : Program) (G : FuncId) : Prop := ∀ (args : Array Value) (w : World), (callFunc G args).run P w = .ok (.enter G args) w
theorem enters_of {P : Program} {f : FuncId} {fn : Func} (hf : P.funcs[f]? = some fn) (hname : (fn.name == "runtime.NumGoroutine") = false) (hb' : fn.body.isSome = true) : Enters P f := fun args w => by
  obtain ⟨c, hb⟩ := Option.isSome_iff_exists.1 hb'
  have h1 : fn.name ≠ "runtime.NumGoroutine" := by simpa using hname
  simp [callFunc, hf, h1, hb]
end Go.Proofs.YtnjjpblgcgikaaaDoor
