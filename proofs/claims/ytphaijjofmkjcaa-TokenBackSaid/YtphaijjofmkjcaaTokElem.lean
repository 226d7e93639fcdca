/- Rows of tokens. -/
import Derived.Test.YtphaijjofmkjcaaOps
namespace Go.Proofs.Ytphaijjofmkjcaa
open Go.RowKit
theorem elTok : ElT Try.prog 22 34 (.agg #[.int .i64 0, .int .i64 0, .string ⟨#[]⟩]) 3 32 := elT_mk Try.underlying22 (by kernel_rfl) rfl (by decide)
end Go.Proofs.Ytphaijjofmkjcaa
