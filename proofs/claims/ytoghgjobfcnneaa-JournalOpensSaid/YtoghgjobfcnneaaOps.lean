/- Laws on single operations, for the walk: bytes to a text; append. -/
import Derived.Test.YtoghgjobfcnneaaMem
import Derived.Test.YtoghgjobfcnneaaRows
import Derived.Laws.BytesArg
import Derived.Lib.AppendStr
import Derived.OwnWalk
import Derived.Laws.BitsAllLaws
import Derived.Laws.BitsLemmas
namespace Go.Proofs.Ytoghgjobfcnneaa
open Go.RowKit
attribute [go_sem] bs_size
@[go_sem] theorem wrap64_u8 (x : UInt8) : wrap64 (x.toNat : Int) = x.toNat := IntWalk.wrap64_in _ (by have := x.toNat_lt; omega)
theorem ofInt_nat (a : Nat) (ha : a < 9223372036854775808) : (BitVec.ofInt 64 (a : Int)).toNat = a := by
  rw [BitVec.ofInt_natCast, BitVec.toNat_ofNat]; exact Nat.mod_eq_of_lt (by omega)
theorem or_nat (a b : Nat) (ha : a < 9223372036854775808) (hb : b < 9223372036854775808) : bits .or .i64 (a : Int) (b : Int) = ((a ||| b : Nat) : Int) := by
  have hx : a ||| b < 2 ^ 63 := Nat.or_lt_two_pow (by omega) (by omega)
  show IntKind.i64.wrap ((BitVec.ofInt 64 (a : Int) ||| BitVec.ofInt 64 (b : Int)).toNat : Int) = _
  rw [BitVec.toNat_or, ofInt_nat a ha, ofInt_nat b hb, IntKind.wrap_i64]
  omega
/-- bits that lie apart are added by 'or' -/
theorem or_apart (i m a b : Nat) (hm : m = 2 ^ i) (hi : m ≤ 16777216) (ha : a < m) (hb : b < 256) : bits .or .i64 (a : Int) ((b : Int) * (m : Int)) = ((a + b * m : Nat) : Int) := by
  have hmm : b * m ≤ 256 * 16777216 := Nat.mul_le_mul (by omega) hi
  rw [← Int.natCast_mul, or_nat _ _ (by omega) (by omega)]
  congr 1
  rw [Nat.or_comm, hm, ← Nat.shiftLeft_eq, ← Nat.shiftLeft_add_eq_or_of_lt (by omega), Nat.add_comm]
section
variable {P : Program} {w : World} {ops : Array Oper} {rest : List Oper} {o : Oper} {a : Act} {Q : Exit → Act → World → Prop}
end
def conv1Else (P : Program) (src dst : TypeId) (b c : Nat) (W : World) : Result Value := (convert src dst (.slice (some ⟨b, 0, none⟩) 1 c)).run P W
/-- the text of one byte, if there is one -/
def conv1K (els : Result Value) (W : World) : Option Value → Result Value
  | some (.int .u8 n) => .ok (.string (bs [UInt8.ofNat n.toNat])) W
  | _ => els
@[go_sem] theorem conv1K_some (els : Result Value) (W : World) (n : Int) : conv1K els W (some (.int .u8 n)) = .ok (.string (bs [UInt8.ofNat n.toNat])) W := rfl
theorem conv1_eq {P : Program} (src dst e : TypeId) (hs : P.underlying src = some (.slice e)) (he : P.underlying e = some (.int .u8)) (hd : P.underlying dst = some .string) (W : World) (b c : Nat) :
    (convert src dst (.slice (some ⟨b, 0, none⟩) 1 c)).run P W = conv1K (conv1Else P src dst b c W) W (W.cell? ⟨b, 0, none⟩) := by
  rcases h : W.cell? ⟨b, 0, none⟩ with _ | v
  · rfl
  · cases v with
    | int k n =>
      cases k
      case u8 =>
        rw [run_convert_bytes_arg (P := P) W src e hs he b 0 1 c [n] rfl (fun i hi => by obtain rfl : i = 0 := by omega
                                                                                         simpa using h) dst hd]
        rfl
      all_goals rfl
    | _ => rfl
@[go_sem] theorem conv1 (W : World) (b c : Nat) : (convert 58 9 (.slice (some ⟨b, 0, none⟩) 1 c)).run Try.prog W = conv1K (conv1Else Try.prog 58 9 b c W) W (W.cell? ⟨b, 0, none⟩) :=
  conv1_eq _ _ _ Try.underlying58 Try.underlying5 Try.underlying9 W b c
/-- What is known of a slice type's element type. -/
structure ElT (P : Program) (t e : TypeId) (z : Value) (size bytes : Nat) : Prop where
  ht : P.underlying t = some (.slice e)
  hi : ∃ i, P.info? e = some i ∧ i.zero = some z ∧ i.size = size ∧ i.bytes = bytes
  hzs : z.cells.size = size
  hsz : 0 < size
theorem elT_mk {P : Program} {t e : TypeId} {z : Value} {size bytes : Nat} (ht : P.underlying t = some (.slice e)) (h : (P.info? e).map (fun i => (i.zero, i.size, i.bytes)) = some (some z, size, bytes)) (hzs : z.cells.size = size) (hsz : 0 < size) : ElT P t e z size bytes :=
  ⟨ht, by obtain ⟨i, h1, h2, h3, h4⟩ := info_parts h; exact ⟨i, h1, h2, h3, h4⟩, hzs, hsz⟩
/-- what an append leaves of all that is not the row itself -/
structure Left (w0 w' : World) (base : Nat) (v : Value) : Prop where
  below : Below base w0 w'
  far : ∀ p : Addr, p.block < w0.heap.size → v.ownBlock ≠ some p.block → w'.cell? p = w0.cell? p
  farz : ∀ p : Addr, p.block < w0.heap.size → v.ownBlock ≠ some p.block → w'.frozen? p = w0.frozen? p
  blk : ∀ g, g < w0.heap.size → v.ownBlock ≠ some g → w'.heap[g]? = w0.heap[g]?
theorem Left.new {w0 w1 : World} {base : Nat} {v : Value} {cs : Array Value} {t : TypeId} (h : Left (w0.alloc (.cells cs t)) w1 base v) (hne : v.ownBlock ≠ some w0.heap.size) (j : Nat) : w1.cell? ⟨w0.heap.size, j, none⟩ = cs[j]? :=
  (h.far ⟨w0.heap.size, j, none⟩ (by simp) hne).trans (cell_of_row _ _ _ _ _ _ (heap_alloc_new w0 _))
theorem left_of {w0 w1 w' : World} {base : Nat} {e : TypeId} {size n : Nat} {v : Value} {xs : List Value} (hown : w0.ownsRow base e size v n xs) (hbase : base ≤ w0.heap.size)
    (h0 : ∀ row, w0.grownBy w1 row) (hg : w1.grownBy w' v.ownBlock) : Left w0 w' base v := by
  have hgg := (h0 v.ownBlock).trans hg
  have hb := hown.lt
  refine ⟨(Below.refl _ _).grown hgg hbase (fun k hk => (hb k hk).1), fun p hp hne => World.cell?_of_block (hgg.block _ hp (fun e => hne e.symm)), fun p hp hne => World.frozen?_of_block (hgg.block _ hp (fun e => hne e.symm)), fun g hp hne => hgg.block _ hp (fun e => hne e.symm)⟩
section
variable {P : Program} {w0 : World} {ops : Array Oper} {rest : List Oper} {o : Oper} {a : Act} {Q : Exit → Act → World → Prop}
end
end Go.Proofs.Ytoghgjobfcnneaa
