/- slices.Clone at some element types. -/
import Derived.Test.YtoghgjobfcnneaaOps2
import Derived.Test.YtoghgjobfcnneaaDkPlain
import Derived.WalkSpells
import Derived.WalkLawsBesides
import Derived.Handy
namespace Go.Proofs.Ytoghgjobfcnneaa
open Go.RowKit
theorem elStr : ElT Try.prog 22 9 (.string ⟨#[]⟩) 1 16 := elT_mk Try.underlying22 (by kernel_rfl) rfl (by decide)
end Go.Proofs.Ytoghgjobfcnneaa
