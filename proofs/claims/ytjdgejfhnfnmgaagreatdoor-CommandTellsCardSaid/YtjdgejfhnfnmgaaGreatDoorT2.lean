/-  -/
import Derived.Test.YtjdgejfhnfnmgaaGreatDoorT1
import Derived.Lib.LaidTab
import Derived.Lib.ItoaNum
import Derived.KernelRfl
namespace Go.Proofs.YtjdgejfhnfnmgaaGreatDoor.Ax
open Go.RowKit
def NG : Nat := 1 + 1
structure GW (w : World) : Prop where
 size : NG ≤ w.heap.size
 tab : Lib.TabIs Tryz.prog w "internal/strconv.uint64pow10" .u64 Lib.pow10Tab
theorem gw_ng {w : World} (h : GW w) : NG ≤ w.heap.size := h.size
theorem var_keep {w w' : World} {name : String} {cs : Array Value} (hk : ∀ b, b < NG → w'.heap[b]? = w.heap[b]?) (hn : ∀ g, Tryz.prog.globalNamed name = some g → g < NG) (h : w.var? Tryz.prog name = some cs) : w'.var? Tryz.prog name = some cs := by
 unfold World.var? at h ⊢
 cases hg : Tryz.prog.globalNamed name with
 | none => rw [hg] at h; cases h
 | some g =>
  rw [hg] at h
  simp only [Option.bind_some] at h ⊢
  rw [hk g (hn g hg)]
  exact h
theorem named_lt {name : String} {g0 : Nat} (h0 : Tryz.prog.globalNamed name = some g0) (hl : g0 < NG) : ∀ g, Tryz.prog.globalNamed name = some g → g < NG := fun g h => by
 rw [h0] at h
 injection h with h
 exact h ▸ hl
theorem named1 : ∀ g, Tryz.prog.globalNamed "internal/strconv.uint64pow10" = some g → g < NG := named_lt (g0 := 1) (by kernel_rfl) (by decide)
theorem gw_keep {w w' : World} (h : GW w) (hs : w.heap.size ≤ w'.heap.size) (hk : ∀ b, b < NG → w'.heap[b]? = w.heap[b]?) : GW w' :=
 ⟨Nat.le_trans h.size hs, var_keep hk named1 h.tab⟩
end Go.Proofs.YtjdgejfhnfnmgaaGreatDoor.Ax
