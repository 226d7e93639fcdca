/- What package-level variables hold when a call begins, and go on to hold. -/
import Derived.Test.YtnjjpblgcgikaaaDoorBase
import Derived.Lib.LaidTab
import Derived.Lib.ItoaNum
import Derived.KernelRfl
namespace Go.Proofs.YtnjjpblgcgikaaaDoor.Ax
open Go.RowKit
/-- the blocks of package-level variables that count -/
def NG : Nat := max 3 (max 2 1) + 1
structure GW (w : World) : Prop where
  size : NG ≤ w.heap.size
  tab : Lib.TabIs Tryd.prog w "internal/strconv.uint64pow10" .u64 Lib.pow10Tab
  synt : ∃ tp p, w.var? Tryd.prog "strconv.ErrSyntax" = some #[.iface tp p]
  range : ∃ tp p, w.var? Tryd.prog "strconv.ErrRange" = some #[.iface tp p]
theorem gw_ng {w : World} (h : GW w) : NG ≤ w.heap.size := h.size
theorem var_keep {w w' : World} {name : String} {cs : Array Value} (hk : ∀ b, b < NG → w'.heap[b]? = w.heap[b]?) (hn : ∀ g, Tryd.prog.globalNamed name = some g → g < NG) (h : w.var? Tryd.prog name = some cs) : w'.var? Tryd.prog name = some cs := by
  unfold World.var? at h ⊢
  cases hg : Tryd.prog.globalNamed name with
  | none => rw [hg] at h; cases h
  | some g =>
    rw [hg] at h
    simp only [Option.bind_some] at h ⊢
    rw [hk g (hn g hg)]
    exact h
theorem named_lt {name : String} {g0 : Nat} (h0 : Tryd.prog.globalNamed name = some g0) (hl : g0 < NG) : ∀ g, Tryd.prog.globalNamed name = some g → g < NG := fun g h => by
  rw [h0] at h
  injection h with h
  exact h ▸ hl
theorem named1 : ∀ g, Tryd.prog.globalNamed "internal/strconv.uint64pow10" = some g → g < NG := named_lt (g0 := 3) (by kernel_rfl) (by decide)
theorem named2 : ∀ g, Tryd.prog.globalNamed "strconv.ErrSyntax" = some g → g < NG := named_lt (g0 := 1) (by kernel_rfl) (by decide)
theorem named3 : ∀ g, Tryd.prog.globalNamed "strconv.ErrRange" = some g → g < NG := named_lt (g0 := 2) (by kernel_rfl) (by decide)
theorem gw_keep {w w' : World} (h : GW w) (hs : w.heap.size ≤ w'.heap.size) (hk : ∀ b, b < NG → w'.heap[b]? = w.heap[b]?) : GW w' :=
  ⟨Nat.le_trans h.size hs, var_keep hk named1 h.tab, (let ⟨a, b, e⟩ := h.synt; ⟨a, b, var_keep hk named2 e⟩), (let ⟨a, b, e⟩ := h.range; ⟨a, b, var_keep hk named3 e⟩)⟩
end Go.Proofs.YtnjjpblgcgikaaaDoor.Ax
