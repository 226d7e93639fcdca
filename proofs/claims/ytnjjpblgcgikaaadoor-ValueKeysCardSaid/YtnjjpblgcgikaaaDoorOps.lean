/- Laws on single operations, for the walk: bytes to a text; append. -/
import Derived.Test.YtnjjpblgcgikaaaDoorMem
import Derived.Test.YtnjjpblgcgikaaaDoorRows
import Derived.Laws.BytesArg
import Derived.Lib.AppendStr
import Derived.OwnWalk
import Derived.Laws.BitsAllLaws
import Derived.Laws.BitsLemmas
namespace Go.Proofs.YtnjjpblgcgikaaaDoor
open Go.RowKit
attribute [go_sem] bs_size
@[go_sem] theorem wrap64_u8 (x : UInt8) : wrap64 (x.toNat : Int) = x.toNat := IntWalk.wrap64_in _ (by have := x.toNat_lt; omega)
section
variable {P : Program} {w : World} {ops : Array Oper} {rest : List Oper} {o : Oper} {a : Act} {Q : Exit → Act → World → Prop}
end
def conv1Else (P : Program) (src dst : TypeId) (b c : Nat) (W : World) : Result Value := (convert src dst (.slice (some ⟨b, 0, none⟩) 1 c)).run P W
/-- the text of one byte, if there is one -/
def conv1K (els : Result Value) (W : World) : Option Value → Result Value
  | some (.int .u8 n) => .ok (.string (bs [UInt8.ofNat n.toNat])) W
  | _ => els
@[go_sem] theorem conv1K_some (els : Result Value) (W : World) (n : Int) : conv1K els W (some (.int .u8 n)) = .ok (.string (bs [UInt8.ofNat n.toNat])) W := rfl
theorem conv1_eq {P : Program} (src dst e : TypeId) (hs : P.underlying src = some (.slice e)) (he : P.underlying e = some (.int .u8)) (hd : P.underlying dst = some .string) (W : World) (b c : Nat) :
    (convert src dst (.slice (some ⟨b, 0, none⟩) 1 c)).run P W = conv1K (conv1Else P src dst b c W) W (W.cell? ⟨b, 0, none⟩) := by
  rcases h : W.cell? ⟨b, 0, none⟩ with _ | v
  · rfl
  · cases v with
    | int k n =>
      cases k
      case u8 =>
        rw [run_convert_bytes_arg (P := P) W src e hs he b 0 1 c [n] rfl (fun i hi => by obtain rfl : i = 0 := by omega
                                                                                         simpa using h) dst hd]
        rfl
      all_goals rfl
    | _ => rfl
@[go_sem] theorem conv1 (W : World) (b c : Nat) : (convert 82 9 (.slice (some ⟨b, 0, none⟩) 1 c)).run Tryd.prog W = conv1K (conv1Else Tryd.prog 82 9 b c W) W (W.cell? ⟨b, 0, none⟩) :=
  conv1_eq _ _ _ Tryd.underlying82 Tryd.underlying5 Tryd.underlying9 W b c
/-- What is known of a slice type's element type. -/
structure ElT (P : Program) (t e : TypeId) (z : Value) (size bytes : Nat) : Prop where
  ht : P.underlying t = some (.slice e)
  hi : ∃ i, P.info? e = some i ∧ i.zero = some z ∧ i.size = size ∧ i.bytes = bytes
  hzs : z.cells.size = size
  hsz : 0 < size
/-- what an append leaves of all that is not the row itself -/
structure Left (w0 w' : World) (base : Nat) (v : Value) : Prop where
  below : Below base w0 w'
  far : ∀ p : Addr, p.block < w0.heap.size → v.ownBlock ≠ some p.block → w'.cell? p = w0.cell? p
  farz : ∀ p : Addr, p.block < w0.heap.size → v.ownBlock ≠ some p.block → w'.frozen? p = w0.frozen? p
  blk : ∀ g, g < w0.heap.size → v.ownBlock ≠ some g → w'.heap[g]? = w0.heap[g]?
theorem Left.new {w0 w1 : World} {base : Nat} {v : Value} {cs : Array Value} {t : TypeId} (h : Left (w0.alloc (.cells cs t)) w1 base v) (hne : v.ownBlock ≠ some w0.heap.size) (j : Nat) : w1.cell? ⟨w0.heap.size, j, none⟩ = cs[j]? :=
  (h.far ⟨w0.heap.size, j, none⟩ (by simp) hne).trans (cell_of_row _ _ _ _ _ _ (heap_alloc_new w0 _))
theorem left_of {w0 w1 w' : World} {base : Nat} {e : TypeId} {size n : Nat} {v : Value} {xs : List Value} (hown : w0.ownsRow base e size v n xs) (hbase : base ≤ w0.heap.size)
    (h0 : ∀ row, w0.grownBy w1 row) (hg : w1.grownBy w' v.ownBlock) : Left w0 w' base v := by
  have hgg := (h0 v.ownBlock).trans hg
  have hb := hown.lt
  refine ⟨(Below.refl _ _).grown hgg hbase (fun k hk => (hb k hk).1), fun p hp hne => World.cell?_of_block (hgg.block _ hp (fun e => hne e.symm)), fun p hp hne => World.frozen?_of_block (hgg.block _ hp (fun e => hne e.symm)), fun g hp hne => hgg.block _ hp (fun e => hne e.symm)⟩
section
variable {P : Program} {w0 : World} {ops : Array Oper} {rest : List Oper} {o : Oper} {a : Act} {Q : Exit → Act → World → Prop}
end
end Go.Proofs.YtnjjpblgcgikaaaDoor
