/- Plain functions that say what disks answer. -/
import Derived.Test.YtoghgjobfcnneaaRep
namespace Go.Proofs.Ytoghgjobfcnneaa
open Go.RowKit
/-- A sector that was written. -/
structure Wr where
  sec : Int
  s : ByteArray
abbrev Wr.cells (x : Wr) : List Value := [.int .i64 x.sec, .string x.s]
/-- A disk. -/
structure Dk where
  kept : List ByteArray
  wr : List Wr
def Dk.none : Dk := ⟨[], []⟩
/-- is a sector not of 64 bytes? -/
def badS (s : ByteArray) : Bool := !((s.size : Int) == 64)
def checkW (n : Nat) : List Wr → Nat
  | [] => 0
  | x :: l => if x.sec < 0 ∨ (n : Int) ≤ x.sec then 5 else if badS x.s = true then 1 else checkW n l
def checkD (d : Dk) : Nat :=
  if d.kept.length < 1 ∨ 400 < d.kept.length then 3 else if d.kept.any badS = true then 1 else if 400 < d.wr.length then 2 else checkW d.kept.length d.wr
def oneD (d : Dk) (n : Int) : Nat := if checkD d = 0 then (if n < 0 ∨ (d.kept.length : Int) ≤ n then 5 else 0) else checkD d
def wrongW (d : Dk) (n : Int) (s : ByteArray) : Nat := if oneD d n = 0 then (if badS s = true then 1 else if d.wr.length = 400 then 2 else 0) else oneD d n
def putD (d : Dk) (n : Int) (s : ByteArray) : Dk := ⟨d.kept, d.wr ++ [⟨n, s⟩]⟩
def writeD (d : Dk) (n : Int) (s : ByteArray) : Dk × Nat := if wrongW d n s = 0 then (putD d n s, 0) else (Dk.none, wrongW d n s)
/-- what is kept behind some of what was written -/
def keptF (f : Nat → Bool) : Nat → List Wr → List ByteArray → List ByteArray
  | _, [], l => l
  | i, x :: r, l => keptF f (i + 1) r (if f i = true then l.set x.sec.toNat x.s else l)
def keepD (f : Nat → Bool) (d : Dk) : Dk := ⟨keptF f 0 d.wr d.kept, []⟩
def flushD (d : Dk) : Dk × Nat := if checkD d = 0 then (keepD (fun _ => true) d, 0) else (Dk.none, checkD d)
def keepB (keep : List Bool) (i : Nat) : Bool := keep.getD i false
def crashD (d : Dk) (keep : List Bool) : Dk × Nat := if checkD d = 0 then (keepD (keepB keep) d, 0) else (Dk.none, checkD d)
def blank : ByteArray := bs (List.replicate 64 0)
def newD (n : Int) : Dk × Nat := if n < 1 ∨ 400 < n then (Dk.none, 3) else (⟨List.replicate n.toNat blank, []⟩, 0)
theorem keptF_len (f : Nat → Bool) (i : Nat) (r : List Wr) (l : List ByteArray) : (keptF f i r l).length = l.length := by
  induction r generalizing i l with
  | nil => rfl
  | cons x r ih => rw [keptF, ih]; split <;> simp
theorem checkW_all (n : Nat) (l : List Wr) (h : checkW n l = 0) : ∀ x ∈ l, 0 ≤ x.sec ∧ x.sec < n ∧ x.s.size = 64 := by
  induction l with
  | nil => intro x hx; cases hx
  | cons y l ih =>
    rw [checkW] at h
    split at h
    · cases h
    · split at h
      · cases h
      · rename_i h1 h2
        intro x hx
        cases hx with
        | head => refine ⟨by omega, by omega, ?_⟩; simp [badS] at h2; omega
        | tail _ hx => exact ih h x hx
theorem checkW_of (n : Nat) (l : List Wr) (h : ∀ x ∈ l, 0 ≤ x.sec ∧ x.sec < n ∧ x.s.size = 64) : checkW n l = 0 := by
  induction l with
  | nil => rfl
  | cons y l ih =>
    have hy := h y List.mem_cons_self
    rw [checkW, if_neg (by omega), if_neg (by simp [badS, hy.2.2]), ih fun x hx => h x (List.mem_cons_of_mem _ hx)]
theorem checkD_all (d : Dk) (h : checkD d = 0) : 1 ≤ d.kept.length ∧ d.kept.length ≤ 400 ∧ (∀ s ∈ d.kept, s.size = 64) ∧ d.wr.length ≤ 400 ∧ ∀ x ∈ d.wr, 0 ≤ x.sec ∧ x.sec < d.kept.length ∧ x.s.size = 64 := by
  unfold checkD at h
  split at h
  · cases h
  · split at h
    · cases h
    · split at h
      · cases h
      · rename_i h1 h2 h3
        refine ⟨by omega, by omega, fun s hs => ?_, by omega, checkW_all _ _ h⟩
        simp only [Bool.not_eq_true, List.any_eq_false] at h2
        have := h2 s hs
        simp [badS] at this
        omega
theorem checkD_of (d : Dk) (h1 : 1 ≤ d.kept.length) (h2 : d.kept.length ≤ 400) (h3 : ∀ s ∈ d.kept, s.size = 64) (h4 : d.wr.length ≤ 400) (h5 : ∀ x ∈ d.wr, 0 ≤ x.sec ∧ x.sec < d.kept.length ∧ x.s.size = 64) : checkD d = 0 := by
  unfold checkD
  rw [if_neg (by omega), if_neg, if_neg (by omega), checkW_of _ _ h5]
  simp only [Bool.not_eq_true, List.any_eq_false]
  intro s hs
  simp [badS, h3 s hs]
end Go.Proofs.Ytoghgjobfcnneaa
