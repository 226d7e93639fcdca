/- Plain functions that say what expressions answer. -/
import Derived.Test.YtnjjpblgcgikaaaPlain
import Derived.Lib.Bytealg
namespace Go.Proofs.Ytnjjpblgcgikaaa
open Go.RowKit
set_option linter.unusedVariables false
instance : DecidableEq Vl := fun a b => decidable_of_iff _ (Vl.same_iff a b)
/-- the first place of what is so; -1: there is none -/
def placeF {α : Type} (p : α → Bool) : List α → Nat → Int
  | [], _ => -1
  | x :: l, i => if p x = true then (i : Int) else placeF p l (i + 1)
theorem placeF_some {α : Type} (p : α → Bool) (l : List α) (i : Nat) (h : 0 ≤ placeF p l i) : ∃ k x, l[k]? = some x ∧ p x = true ∧ placeF p l i = ((i + k : Nat) : Int) := by
  induction l generalizing i with
  | nil => simp [placeF] at h
  | cons x l ih =>
    rw [placeF] at h ⊢
    split
    · rename_i hp; exact ⟨0, x, rfl, hp, rfl⟩
    · rename_i hp
      rw [if_neg hp] at h
      obtain ⟨k, y, h1, h2, h3⟩ := ih (i + 1) h
      exact ⟨k + 1, y, by simpa using h1, h2, by rw [h3]; congr 1; omega⟩
theorem placeF_ge {α : Type} (p : α → Bool) (l : List α) (i : Nat) : -1 ≤ placeF p l i := by
  induction l generalizing i with
  | nil => simp [placeF]
  | cons x l ih =>
    rw [placeF]
    split
    · omega
    · exact ih _
/-- A column: its name, its kind. -/
structure Col where
  name : ByteArray
  ty : Int
def isCol (nm : ByteArray) (c : Col) : Bool := c.name.toList == nm.toList
def findC (cols : List Col) (nm : ByteArray) : Int := placeF (isCol nm) cols 0
/-- are columns right, behind some that are? -/
def colsB : List Col → List Col → Bool
  | _, [] => true
  | pre, c :: l => if c.ty < 1 ∨ 3 < c.ty ∨ 0 ≤ findC pre c.name then false else colsB (pre ++ [c]) l
theorem colsB_ty (pre l : List Col) (h : colsB pre l = true) : ∀ c ∈ l, 1 ≤ c.ty ∧ c.ty ≤ 3 := by
  induction l generalizing pre with
  | nil => intro c hc; cases hc
  | cons d l ih =>
    rw [colsB] at h
    split at h
    · cases h
    · intro c hc
      cases hc with
      | head => omega
      | tail _ hc => exact ih _ h c hc
/-- An expression. -/
inductive Ex where
  | mk (k : Int) (v : Vl) (nm : ByteArray) (args : List Ex)
theorem Ex.ind {P : Ex → Prop} (h : ∀ k v nm ar, (∀ a ∈ ar, P a) → P (.mk k v nm ar)) : ∀ e, P e
  | .mk k v nm ar => h k v nm ar fun a ha => Ex.ind h a
termination_by e => SizeOf.sizeOf e
decreasing_by have := List.sizeOf_lt_of_mem ha; simp; omega
mutual
def sizeE : Ex → Int → Int
  | .mk _ _ _ ar, m => sizeL ar m 1
def sizeL : List Ex → Int → Int → Int
  | [], _, n => n
  | x :: l, m, n => if m < n then n else sizeL l m (n + sizeE x (m - n))
end
mutual
theorem sizeE_le : ∀ (e : Ex) (m : Int), 0 ≤ m → 1 ≤ sizeE e m ∧ sizeE e m ≤ m + 1
  | .mk _ _ _ ar, m, h => by rw [sizeE]; exact sizeL_le ar m 1 (by omega) (by omega)
theorem sizeL_le : ∀ (l : List Ex) (m n : Int), 1 ≤ n → n ≤ m + 1 → 1 ≤ sizeL l m n ∧ sizeL l m n ≤ m + 1
  | [], m, n, h1, h2 => by rw [sizeL]; omega
  | x :: l, m, n, h1, h2 => by
    rw [sizeL]
    split
    · omega
    · have := sizeE_le x (m - n) (by omega)
      exact sizeL_le l m _ (by omega) (by omega)
end
theorem sizeL_end (l : List Ex) (m n : Int) (h : m < n) : sizeL l m n = n := by
  cases l with
  | nil => rfl
  | cons x l => rw [sizeL, if_pos h]
/-- how many a kind of expressions has -/
def argsK (k : Int) : Int := if k < 1 ∨ 11 < k then -1 else if k ≤ 2 then 0 else if k ≤ 4 then 1 else 2
def plainB (k : Int) (v : Vl) (nm : ByteArray) (n : Nat) : Bool := ((n : Int) == argsK k) && ((k == 2 || emptyS nm) && (k == 1 || v.same Vl.zero))
mutual
def partsE (cols : List Col) : Ex → Int
  | .mk k v nm ar => if argsK k < 0 then 7 else if plainB k v nm ar.length = false then 1 else if k = 2 ∧ findC cols nm < 0 then 5 else if v.chk ≠ 0 then v.chk else partsL cols ar
def partsL (cols : List Col) : List Ex → Int
  | [] => 0
  | x :: l => if partsE cols x ≠ 0 then partsE cols x else partsL cols l
end
def truth (b : Bool) : Vl := ⟨3, if b then 1 else 0, .empty⟩
/-- An expression of the right form. -/
inductive Gx where
  | val (v : Vl)
  | col (nm : ByteArray)
  | un (k : Int) (x : Gx)
  | bin (k : Int) (x y : Gx)
def Gx.ex : Gx → Ex
  | .val v => .mk 1 v .empty []
  | .col nm => .mk 2 Vl.zero nm []
  | .un k x => .mk k Vl.zero .empty [x.ex]
  | .bin k x y => .mk k Vl.zero .empty [x.ex, y.ex]
def Gx.right (cols : List Col) : Gx → Prop
  | .val v => v.chk = 0
  | .col nm => 0 ≤ findC cols nm
  | .un k x => (k = 3 ∨ k = 4) ∧ x.right cols
  | .bin k x y => (5 ≤ k ∧ k ≤ 11) ∧ x.right cols ∧ y.right cols
theorem partsL_cons {cols : List Col} {x : Ex} {l : List Ex} (h : partsL cols (x :: l) = 0) : partsE cols x = 0 ∧ partsL cols l = 0 := by
  rw [partsL] at h
  split at h
  · rename_i h'; exact absurd h h'
  · rename_i h'; exact ⟨by simpa using h', h⟩
theorem plain_inv {k : Int} {v : Vl} {nm : ByteArray} {n : Nat} (h : plainB k v nm n = true) : (n : Int) = argsK k ∧ (k ≠ 2 → nm = .empty) ∧ (k ≠ 1 → v = Vl.zero) := by
  simp only [plainB, Bool.and_eq_true, Bool.or_eq_true, beq_iff_eq, Vl.same_iff] at h
  exact ⟨h.1, fun g => emptyS_eq _ (h.2.1.resolve_left g), fun g => h.2.2.resolve_left g⟩
theorem parts_right (cols : List Col) (e : Ex) : partsE cols e = 0 → ∃ g : Gx, g.ex = e ∧ g.right cols := by
  induction e using Ex.ind with
  | h k v nm ar ih =>
    intro h
    rw [partsE] at h
    split at h
    · cases h
    split at h
    · cases h
    split at h
    · cases h
    split at h
    · rename_i h4; exact absurd h h4
    rename_i h1 h2 h3 h4
    obtain ⟨p1, p2, p3⟩ := plain_inv (by simpa using h2)
    have hv : v.chk = 0 := by simpa using h4
    unfold argsK at p1 h1
    match ar, ih, h, p1 with
    | [], _, _, p1 =>
      have hk : k = 1 ∨ k = 2 := by
        simp only [List.length_nil] at p1
        repeat' split at p1
        all_goals omega
      rcases hk with rfl | rfl
      · exact ⟨.val v, by rw [Gx.ex, p2 (by omega)], hv⟩
      · exact ⟨.col nm, by rw [Gx.ex, p3 (by omega)], by rw [Gx.right]; omega⟩
    | [x], ih, h, p1 =>
      have hk : k = 3 ∨ k = 4 := by
        simp only [List.length_cons, List.length_nil] at p1
        repeat' split at p1
        all_goals omega
      obtain ⟨g, rfl, hg⟩ := ih x (by simp) (partsL_cons h).1
      exact ⟨.un k g, by rw [Gx.ex, p2 (by omega), p3 (by omega)], hk, hg⟩
    | [x, y], ih, h, p1 =>
      have hk : 5 ≤ k ∧ k ≤ 11 := by
        simp only [List.length_cons, List.length_nil] at p1
        repeat' split at p1
        all_goals omega
      obtain ⟨g, rfl, hg⟩ := ih x (by simp) (partsL_cons h).1
      obtain ⟨g', rfl, hg'⟩ := ih y (by simp) (partsL_cons (partsL_cons h).2).1
      exact ⟨.bin k g g', by rw [Gx.ex, p2 (by omega), p3 (by omega)], hk, hg, hg'⟩
    | x :: y :: z :: l, _, _, p1 =>
      simp only [List.length_cons] at p1
      repeat' split at p1
      all_goals omega
/-- of which kind Args of a kind must be; 0: all of one -/
def takesK (k : Int) : Int := if k = 3 ∨ k = 5 ∨ k = 6 then 3 else if k = 7 ∨ k = 8 then 1 else if k = 9 then 2 else 0
def typeAt (cols : List Col) (nm : ByteArray) : Int := match cols[(findC cols nm).toNat]? with | some c => c.ty | none => 0
def kindG (cols : List Col) : Gx → Option Int
  | .val v => some v.k
  | .col nm => some (typeAt cols nm)
  | .un k x => match kindG cols x with
    | some i => if k = 3 ∧ i ≠ 0 ∧ i ≠ 3 then none else some 3
    | none => none
  | .bin k x y => match kindG cols x with
    | some i => match kindG cols y with
      | some j =>
        if takesK k = 0 then (if i ≠ 0 ∧ j ≠ 0 ∧ i ≠ j then none else some 3)
        else if (i ≠ 0 ∧ i ≠ takesK k) ∨ (j ≠ 0 ∧ j ≠ takesK k) then none else some (if takesK k = 3 then 3 else takesK k)
      | none => none
    | none => none
/-- what the first result and the second one are -/
def kindR : Option Int → Int × Bool
  | some t => (t, true)
  | none => (0, false)
def foldK (cols : List Col) (k : Int) : Int → List Gx → Option Int
  | m, [] => some m
  | m, x :: l => match kindG cols x with
    | none => none
    | some i => if i ≠ 0 ∧ m ≠ 0 ∧ i ≠ m ∧ k ≠ 4 then none else foldK cols k (if m = 0 then i else m) l
def endK (k m : Int) : Int := if k = 7 ∨ k = 8 ∨ k = 9 then m else 3
theorem takes_of (k : Int) (hk : 3 ≤ k ∧ k ≤ 11) : (takesK k = 0 ∧ (k = 4 ∨ k = 10 ∨ k = 11)) ∨ (takesK k = 3 ∧ (k = 3 ∨ k = 5 ∨ k = 6)) ∨ (takesK k = 1 ∧ (k = 7 ∨ k = 8)) ∨ (takesK k = 2 ∧ k = 9) := by
  unfold takesK
  repeat' split
  all_goals omega
theorem kind_un (cols : List Col) (k : Int) (x : Gx) (hk : k = 3 ∨ k = 4) : kindG cols (.un k x) = (foldK cols k (takesK k) [x]).map (endK k) := by
  rw [kindG, foldK]
  cases kindG cols x with
  | none => rfl
  | some i =>
    simp only [foldK]
    rcases takes_of k (by omega) with ⟨h, _⟩ | ⟨h, _⟩ | ⟨h, _⟩ | ⟨h, _⟩ <;> rw [h] <;> repeat' split
    all_goals first
      | rfl
      | (exfalso; omega)
      | (simp only [Option.map_some, endK, Option.some.injEq]; split <;> omega)
theorem kind_bin (cols : List Col) (k : Int) (x y : Gx) (hk : 5 ≤ k ∧ k ≤ 11) : kindG cols (.bin k x y) = (foldK cols k (takesK k) [x, y]).map (endK k) := by
  rw [kindG, foldK]
  cases kindG cols x with
  | none => rfl
  | some i =>
    simp only [foldK]
    cases kindG cols y with
    | none => simp only [ite_self]; rfl
    | some j =>
      simp only
      rcases takes_of k (by omega) with ⟨h, _⟩ | ⟨h, _⟩ | ⟨h, _⟩ | ⟨h, _⟩ <;> rw [h] <;> repeat' split
      all_goals first
        | rfl
        | (exfalso; omega)
        | (simp only [Option.map_some, endK, Option.some.injEq]; split <;> omega)
theorem typeAt_le (cols : List Col) (hc : ∀ c ∈ cols, 1 ≤ c.ty ∧ c.ty ≤ 3) (nm : ByteArray) : 0 ≤ typeAt cols nm ∧ typeAt cols nm ≤ 3 := by
  unfold typeAt
  split
  · rename_i c h; have := hc c (List.mem_of_getElem? h); omega
  · omega
theorem chk_le {v : Vl} (h : v.chk = 0) : 0 ≤ v.k ∧ v.k ≤ 3 := by
  unfold Vl.chk at h
  split at h
  · assumption
  · cases h
theorem takesK_le (k : Int) : 0 ≤ takesK k ∧ takesK k ≤ 3 := by
  unfold takesK
  repeat' split
  all_goals omega
theorem kindG_le (cols : List Col) (hc : ∀ c ∈ cols, 1 ≤ c.ty ∧ c.ty ≤ 3) (g : Gx) (hg : g.right cols) (t : Int) (h : kindG cols g = some t) : 0 ≤ t ∧ t ≤ 3 := by
  cases g with
  | val v => simp only [kindG, Option.some.injEq] at h; rw [← h]; exact chk_le hg
  | col nm => simp only [kindG, Option.some.injEq] at h; rw [← h]; exact typeAt_le cols hc nm
  | un k x =>
    rw [kindG] at h
    split at h
    · split at h
      · cases h
      · injection h with h; omega
    · cases h
  | bin k x y =>
    have := takesK_le k
    rw [kindG] at h
    repeat' split at h
    all_goals first | cases h; done | (injection h with h; omega)
/-- the order of two values -/
def ordV (a b : Vl) : Int :=
  if a.k ≠ b.k then (if a.k < b.k then -1 else 1) else if a.n ≠ b.n then (if a.n < b.n then -1 else 1)
  else Lib.compareBytes a.s.data.toList b.s.data.toList
def madeV (v : Vl) : Vl := if v.chk = 0 then v else Vl.zero
def valAt (cols : List Col) (row : List Vl) (nm : ByteArray) : Vl := match row[(findC cols nm).toNat]? with | some v => v | none => Vl.zero
def binG (k : Int) (a b : Vl) : Vl :=
  if k = 5 then (if a = truth false ∨ b = truth false then truth false else if a = Vl.zero ∨ b = Vl.zero then Vl.zero else truth true)
  else if k = 6 then (if a = truth true ∨ b = truth true then truth true else if a = Vl.zero ∨ b = Vl.zero then Vl.zero else truth false)
  else if a = Vl.zero ∨ b = Vl.zero then Vl.zero
  else if k = 10 then truth (decide (ordV a b < 0))
  else if k = 11 then truth (decide (a = b))
  else madeV (if k = 7 then ⟨1, a.n + b.n, .empty⟩ else if k = 8 then ⟨1, a.n - b.n, .empty⟩ else ⟨2, 0, a.s ++ b.s⟩)
def valG (cols : List Col) (row : List Vl) : Gx → Vl
  | .val v => v
  | .col nm => valAt cols row nm
  | .un k x => if k = 4 then truth (decide ((valG cols row x).k = 0)) else if valG cols row x = Vl.zero then Vl.zero else truth (decide ((valG cols row x).n = 0))
  | .bin k x y => binG k (valG cols row x) (valG cols row y)
def fitsL : List Col → List Vl → Bool
  | c :: l, v :: r => if v.k = 0 ∨ v.k = c.ty then fitsL l r else false
  | _, _ => true
def rowE (cols : List Col) (row : List Vl) : Int :=
  if row.length ≠ cols.length then 1 else if firstErr (row.map Vl.chk) ≠ 0 then firstErr (row.map Vl.chk) else if fitsL cols row = true then 0 else 4
mutual
def gOf : Ex → Gx
  | .mk k v nm ar => match gOfL ar with
    | [] => if k = 1 then .val v else .col nm
    | [x] => .un k x
    | x :: y :: _ => .bin k x y
def gOfL : List Ex → List Gx
  | [] => []
  | x :: l => gOf x :: gOfL l
end
theorem gOf_ex (cols : List Col) (g : Gx) (h : g.right cols) : gOf g.ex = g := by
  induction g with
  | val v => simp [Gx.ex, gOf, gOfL]
  | col nm => simp [Gx.ex, gOf, gOfL]
  | un k x ih => simp [Gx.ex, gOf, gOfL, ih h.2]
  | bin k x y ih ih' => simp [Gx.ex, gOf, gOfL, ih h.2.1, ih' h.2.2]
def kindE (cols : List Col) (e : Ex) : Int × Int :=
  if 15 < sizeE e 15 then (0, 2) else if partsE cols e ≠ 0 then (0, partsE cols e) else match kindG cols (gOf e) with
  | some t => (t, 0)
  | none => (0, 4)
def evalE (cols : List Col) (row : List Vl) (e : Ex) : Vl × Int :=
  if (kindE cols e).2 ≠ 0 then (Vl.zero, (kindE cols e).2) else if rowE cols row ≠ 0 then (Vl.zero, rowE cols row) else (valG cols row (gOf e), 0)
def holdsE (cols : List Col) (row : List Vl) (e : Ex) : Bool × Int :=
  if (evalE cols row e).2 ≠ 0 then (false, (evalE cols row e).2) else if (kindE cols e).1 ≠ 0 ∧ (kindE cols e).1 ≠ 3 then (false, 4) else (decide ((evalE cols row e).1 = truth true), 0)
end Go.Proofs.Ytnjjpblgcgikaaa
