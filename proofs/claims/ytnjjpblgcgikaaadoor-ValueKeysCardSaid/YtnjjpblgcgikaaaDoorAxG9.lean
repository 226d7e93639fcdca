/- Rows of the call's own that are written no more: read as trees. -/
import Derived.Test.YtnjjpblgcgikaaaDoorAxG8
namespace Go.Proofs.YtnjjpblgcgikaaaDoor.Ax
open Go.RowKit
section
variable {X : Cx} {st : St} {ρ : Nat → R} {a : Act} {w : World}
end
end Go.Proofs.YtnjjpblgcgikaaaDoor.Ax
