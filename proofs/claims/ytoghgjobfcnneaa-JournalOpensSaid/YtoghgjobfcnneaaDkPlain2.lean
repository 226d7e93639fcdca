/- Plain: disks that are the same. -/
import Derived.Test.YtoghgjobfcnneaaDkPlain
namespace Go.Proofs.Ytoghgjobfcnneaa
open Go.RowKit
def sameS (x y : ByteArray) : Bool := x.toList == y.toList
def sameSs : List ByteArray → List ByteArray → Bool
  | [], [] => true
  | x :: l, y :: r => sameS x y && sameSs l r
  | _, _ => false
def sameW (x y : Wr) : Bool := (x.sec == y.sec) && (x.s.toList == y.s.toList)
def sameWs : List Wr → List Wr → Bool
  | [], [] => true
  | x :: l, y :: r => sameW x y && sameWs l r
  | _, _ => false
def sameD (a b : Dk) : Bool := sameSs a.kept b.kept && sameWs a.wr b.wr
theorem sameS_eq {x y : ByteArray} : sameS x y = true ↔ x = y := by
  unfold sameS
  rw [beq_iff_eq, ByteArray.toList_eq, ByteArray.toList_eq]
  constructor
  · intro h
    obtain ⟨⟨l⟩⟩ := x
    obtain ⟨⟨l'⟩⟩ := y
    simp only at h
    rw [h]
  · intro h; rw [h]
theorem sameSs_eq {l r : List ByteArray} : sameSs l r = true ↔ l = r := by
  induction l generalizing r with
  | nil => cases r <;> simp [sameSs]
  | cons x l ih => cases r with
    | nil => simp [sameSs]
    | cons y r => rw [sameSs, Bool.and_eq_true, sameS_eq, ih, List.cons.injEq]
theorem sameW_eq {x y : Wr} : sameW x y = true ↔ x = y := by
  obtain ⟨a, s⟩ := x
  obtain ⟨b, t⟩ := y
  unfold sameW
  rw [Bool.and_eq_true, beq_iff_eq, Wr.mk.injEq, ← sameS_eq]
  rfl
theorem sameWs_eq {l r : List Wr} : sameWs l r = true ↔ l = r := by
  induction l generalizing r with
  | nil => cases r <;> simp [sameWs]
  | cons x l ih => cases r with
    | nil => simp [sameWs]
    | cons y r => rw [sameWs, Bool.and_eq_true, sameW_eq, ih, List.cons.injEq]
theorem sameD_eq {a b : Dk} : sameD a b = true ↔ a = b := by
  obtain ⟨k, w⟩ := a
  obtain ⟨k', w'⟩ := b
  unfold sameD
  rw [Bool.and_eq_true, sameSs_eq, sameWs_eq, Dk.mk.injEq]
def sec (b : UInt8) : ByteArray := bs (List.replicate 64 b)
theorem keptF_all (f : Nat → Bool) (i : Nat) (r : List Wr) (l : List ByteArray) (hr : ∀ x ∈ r, x.s.size = 64) (hl : ∀ s ∈ l, s.size = 64) : ∀ s ∈ keptF f i r l, s.size = 64 := by
  induction r generalizing i l with
  | nil => exact hl
  | cons x r ih =>
    rw [keptF]
    refine ih _ _ (fun y hy => hr y (List.mem_cons_of_mem _ hy)) ?_
    split
    · intro s hs
      rcases List.mem_or_eq_of_mem_set hs with h | h
      · exact hl s h
      · rw [h]; exact hr x List.mem_cons_self
    · exact hl
end Go.Proofs.Ytoghgjobfcnneaa
