/- Plain: disks that are the same. -/
import Derived.Test.YtoghgjobfcnneaaDkPlain
namespace Go.Proofs.Ytoghgjobfcnneaa
open Go.RowKit
def sameS (x y : ByteArray) : Bool := x.toList == y.toList
def sameSs : List ByteArray → List ByteArray → Bool
  | [], [] => true
  | x :: l, y :: r => sameS x y && sameSs l r
  | _, _ => false
def sameW (x y : Wr) : Bool := (x.sec == y.sec) && (x.s.toList == y.s.toList)
def sameWs : List Wr → List Wr → Bool
  | [], [] => true
  | x :: l, y :: r => sameW x y && sameWs l r
  | _, _ => false
def sameD (a b : Dk) : Bool := sameSs a.kept b.kept && sameWs a.wr b.wr
theorem sameS_eq {x y : ByteArray} : sameS x y = true ↔ x = y := by
  unfold sameS
  rw [beq_iff_eq, ByteArray.toList_eq, ByteArray.toList_eq]
  constructor
  · intro h
    obtain ⟨⟨l⟩⟩ := x
    obtain ⟨⟨l'⟩⟩ := y
    simp only at h
    rw [h]
  · intro h; rw [h]
theorem sameSs_eq {l r : List ByteArray} : sameSs l r = true ↔ l = r := by
  induction l generalizing r with
  | nil => cases r <;> simp [sameSs]
  | cons x l ih => cases r with
    | nil => simp [sameSs]
    | cons y r => rw [sameSs, Bool.and_eq_true, sameS_eq, ih, List.cons.injEq]
theorem sameW_eq {x y : Wr} : sameW x y = true ↔ x = y := by
  obtain ⟨a, s⟩ := x
  obtain ⟨b, t⟩ := y
  unfold sameW
  rw [Bool.and_eq_true, beq_iff_eq, Wr.mk.injEq, ← sameS_eq]
  rfl
theorem sameWs_eq {l r : List Wr} : sameWs l r = true ↔ l = r := by
  induction l generalizing r with
  | nil => cases r <;> simp [sameWs]
  | cons x l ih => cases r with
    | nil => simp [sameWs]
    | cons y r => rw [sameWs, Bool.and_eq_true, sameW_eq, ih, List.cons.injEq]
theorem sameD_eq {a b : Dk} : sameD a b = true ↔ a = b := by
  obtain ⟨k, w⟩ := a
  obtain ⟨k', w'⟩ := b
  unfold sameD
  rw [Bool.and_eq_true, sameSs_eq, sameWs_eq, Dk.mk.injEq]
def sec (b : UInt8) : ByteArray := bs (List.replicate 64 b)
theorem writeD_bad (d : Dk) (n : Int) (s : ByteArray) (h : ¬ (writeD d n s).2 = 0) : (writeD d n s).1 = Dk.none := by
  unfold writeD at h ⊢
  split at h
  · exact absurd rfl h
  · rename_i h2; rw [if_neg h2]
theorem writeD_good (d : Dk) (n : Int) (s : ByteArray) (h : (writeD d n s).2 = 0) : (writeD d n s).1 = putD d n s ∧ checkD d = 0 ∧ 0 ≤ n ∧ n < d.kept.length ∧ s.size = 64 ∧ d.wr.length < 400 := by
  have hw : wrongW d n s = 0 := by
    unfold writeD at h
    split at h
    · assumption
    · exact h
  have e : writeD d n s = (putD d n s, 0) := by unfold writeD; rw [if_pos hw]
  unfold wrongW at hw
  split at hw
  · rename_i ho
    split at hw
    · cases hw
    · rename_i hb
      split at hw
      · cases hw
      · rename_i hm
        unfold oneD at ho
        split at ho
        · rename_i hc
          split at ho
          · cases ho
          · rename_i hr
            have hl := (checkD_all d hc).2.2.2.1
            refine ⟨by rw [e], hc, by omega, by omega, ?_, by omega⟩
            simp [badS] at hb
            omega
        · rename_i hc; exact absurd ho hc
  · rename_i ho; exact absurd hw ho
theorem putD_check (d : Dk) (n : Int) (s : ByteArray) (hc : checkD d = 0) (h0 : 0 ≤ n) (h1 : n < d.kept.length) (h2 : s.size = 64) (h3 : d.wr.length < 400) : checkD (putD d n s) = 0 := by
  obtain ⟨a1, a2, a3, a4, a5⟩ := checkD_all d hc
  refine checkD_of _ a1 a2 a3 (by simp [putD]; omega) fun x hx => ?_
  simp only [putD, List.mem_append, List.mem_singleton] at hx
  rcases hx with hx | rfl
  · exact a5 x hx
  · exact ⟨h0, h1, h2⟩
theorem keptF_all (f : Nat → Bool) (i : Nat) (r : List Wr) (l : List ByteArray) (hr : ∀ x ∈ r, x.s.size = 64) (hl : ∀ s ∈ l, s.size = 64) : ∀ s ∈ keptF f i r l, s.size = 64 := by
  induction r generalizing i l with
  | nil => exact hl
  | cons x r ih =>
    rw [keptF]
    refine ih _ _ (fun y hy => hr y (List.mem_cons_of_mem _ hy)) ?_
    split
    · intro s hs
      rcases List.mem_or_eq_of_mem_set hs with h | h
      · exact hl s h
      · rw [h]; exact hr x List.mem_cons_self
    · exact hl
theorem keepD_check (f : Nat → Bool) (d : Dk) (hc : checkD d = 0) : checkD (keepD f d) = 0 := by
  obtain ⟨a1, a2, a3, a4, a5⟩ := checkD_all d hc
  have hk := keptF_len f 0 d.wr d.kept
  refine checkD_of _ ?_ ?_ (keptF_all f 0 d.wr d.kept (fun x hx => (a5 x hx).2.2) a3) (Nat.zero_le _) (fun x hx => by cases hx)
  · show 1 ≤ (keptF f 0 d.wr d.kept).length; omega
  · show (keptF f 0 d.wr d.kept).length ≤ 400; omega
theorem keptF_last (i : Nat) (r : List Wr) (n : Int) (s : ByteArray) (l : List ByteArray) (h0 : 0 ≤ n) (h1 : n < l.length) : (keptF (fun _ => true) i (r ++ [⟨n, s⟩]) l)[n.toNat]? = some s := by
  induction r generalizing i l with
  | nil => rw [List.nil_append, keptF, keptF, if_pos rfl, List.getElem?_set_self (by show n.toNat < l.length; omega)]
  | cons x r ih => rw [List.cons_append, keptF, if_pos rfl]; exact ih _ _ (by rw [List.length_set]; exact h1)
theorem crash_none (d : Dk) (keep : List Bool) (hc : checkD d = 0) (hw : d.wr = []) : crashD d keep = (d, 0) := by
  obtain ⟨k, r⟩ := d
  simp only at hw
  subst hw
  unfold crashD
  rw [if_pos hc]
  rfl
end Go.Proofs.Ytoghgjobfcnneaa
