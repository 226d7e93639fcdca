/- Rows of the call's own: made, appended to, written. -/
import Derived.Test.YtoghgjobfcnneaaAxM2
namespace Go.Proofs.Ytoghgjobfcnneaa.Ax
open Go.RowKit
def T.isLit : T → Bool
  | .lit _ => true
  | _ => false
/-- rows that read out of no memory -/
def litRows : List (List T) → Bool
  | [] => true
  | r :: rs => r.all T.isLit && litRows rs
theorem litRows_map {α : Type} {f : α → List T} {l : List α} (h : ∀ x, (f x).all T.isLit = true) : litRows (l.map f) = true := by
  induction l with
  | nil => rfl
  | cons x l ih => rw [List.map_cons, litRows, h x, ih]; rfl
theorem all_len {α : Type} {f : α → List T} {l : List α} {n : Nat} (h : ∀ x, (f x).length = n) : (∀ r ∈ l.map f, r.length = n) = True := by
  refine eq_true fun r hr => ?_
  obtain ⟨x, _, rfl⟩ := List.mem_map.1 hr
  exact h x
theorem litRows_append {l r : List (List T)} : litRows (l ++ r) = (litRows l && litRows r) := by
  induction l with
  | nil => rfl
  | cons x l ih => rw [List.cons_append, litRows, litRows, ih, Bool.and_assoc]
/-- cells that name no block of the call's own; do all of them lie in memory of the call's own? -/
def toT : List C → Option (Bool × List T)
  | [] => some (true, [])
  | .t z x :: cs => match toT cs with
    | some p => some ((z || x.isLit) && p.1, x :: p.2)
    | none => none
  | .nil :: cs => match toT cs with
    | some p => some (p.1, .sl [] :: p.2)
    | none => none
  | _ => none
/-- elements of a literal, one behind the other -/
def elemsOf (st : St) (size : Nat) : Nat → List (Nat × Operand) → Option (Bool × List (List T))
  | _, [] => some (true, [])
  | k, (i, x) :: ps => if i = k then match ev st x with
      | some v => match cellsV v with
        | some cs => if cs.length = size then match toT cs with
            | some q => match elemsOf st size (k + 1) ps with
              | some r => some (q.1 && r.1, q.2 :: r.2)
              | none => none
            | none => none
          else none
        | none => none
      | none => none
    else none
def rowsOf (st : St) : C → Option (Bool × List (List T))
  | .t z (.sl rows) => some (z, rows)
  | .nil => some (true, [])
  | .own id len => match get id st.bl with
    | some (.arr _ _ z rows) => if rows.length = len then some (z, rows) else none
    | _ => none
  | _ => none
/-- a row of the call's own that may be appended to -/
def baseOf (st : St) (e : TypeId) (size : Nat) : C → Option (Option Nat × Bool × List (List T))
  | .nil => some (none, true, [])
  | .own id len => match get id st.bl with
    | some (.arr e' s z rows) => if rows.length = len ∧ e' = e ∧ s = size then some (some id, z, rows) else none
    | _ => none
  | _ => none
def rowD (P : Program) (st : St) (dst : Option Tmp) : Op → Option Delta
  | .buildSlice t len ps => match dst with
    | some d => match tyOf P t with
      | some y => match y.d with
        | .sl e => match tyOf P e with
          | some ye => match elemsOf st ye.size 0 ps.toList with
            | some q => if q.2.length = len ∧ len * ye.size ≤ 16777216 ∧ 0 < ye.size ∧ ye.zero.cells.size = ye.size then some (.mod (.one (.own d len)) [d] [d] [(d, .arr e ye.size q.1 q.2)]) else none
            | none => none
          | none => none
        | _ => none
      | none => none
    | none => none
  | .call ⟨.builtin .append, ⟨[s, x]⟩, ⟨[t, t']⟩⟩ => match dst with
    | some d => if t = t' then match tyOf P t with
      | some y => match y.d with
        | .sl e => match tyOf P e with
          | some ye => match ev st s with
            | some (.one c) => match baseOf st e ye.size c with
              | some b => match ev st x with
                | some (.one c') => match rowsOf st c' with
                  | some q => if b.2.2.length + q.2.length ≤ maxLen ∧ (b.2.2.length + q.2.length) * ye.bytes ≤ 140737488355328 ∧ (∀ r ∈ q.2, r.length = ye.size) ∧ 0 < ye.size ∧ ye.zero.cells.size = ye.size
                    then some (.mod (.one (.own d (b.2.2.length + q.2.length))) (b.1.toList ++ [d]) (b.1.toList ++ [d]) [(d, .arr e ye.size (b.2.1 && (q.1 || litRows q.2)) (b.2.2 ++ q.2))]) else none
                  | none => none
                | _ => none
              | none => none
            | _ => none
          | none => none
        | _ => none
      | none => none
    else none
    | none => none
  | _ => none
section
variable {w w' : World} {ρ : Nat → R} {P : Program} {X : Cx} {st : St} {a : Act} {t : TypeId} {y : Ty}
theorem ok_weak {z z' : Bool} (h : z' = true → z = true) (b : Nat) (hb : okOf X ρ w z b) : okOf X ρ w z' b := by
  obtain ⟨h1, h2⟩ := hb
  refine ⟨h1.imp id fun ⟨e, hs⟩ => ⟨?_, hs⟩, h2⟩
  cases z' with
  | false => rfl
  | true => rw [h rfl] at e; exact e
theorem rdT_weak {z z' : Bool} {t : T} {x : Value} (h : z' = true → z = true) (hr : RdT w (okOf X ρ w z) t x) : RdT w (okOf X ρ w z') t x := hr.mono fun b hb => ⟨ok_weak h b hb, rfl⟩
theorem rdL_weak {z z' : Bool} {t : List T} {x : List Value} (h : z' = true → z = true) (hr : RdL w (okOf X ρ w z) t x) : RdL w (okOf X ρ w z') t x := hr.mono fun b hb => ⟨ok_weak h b hb, rfl⟩
theorem rdT_lit {z z' : Bool} {t : T} {x : Value} (hr : RdT w (okOf X ρ w z) t x) : RdT w (okOf X ρ w ((z || t.isLit) && z')) t x := by
  cases t with
  | lit v => unfold RdT at hr ⊢; exact hr
  | _ => exact rdT_weak (by simp only [T.isLit, Bool.or_false]; exact fun h => (Bool.and_eq_true _ _ ▸ h).1) hr
theorem rdL_lit {z : Bool} : ∀ {rows : List (List T)} {xs : List Value}, litRows rows = true → RdL w (okOf X ρ w z) rows.flatten xs → RdL w (okOf X ρ w true) rows.flatten xs := by
  have key : ∀ {l : List T} {xs : List Value}, l.all T.isLit = true → RdL w (okOf X ρ w z) l xs → RdL w (okOf X ρ w true) l xs := by
    intro l
    induction l with
    | nil => intro xs _ h; cases xs <;> unfold RdL at h ⊢ <;> first | trivial | exact h.elim
    | cons t l ih =>
      intro xs hl h
      rw [List.all_cons, Bool.and_eq_true] at hl
      cases xs with
      | nil => unfold RdL at h; exact h.elim
      | cons x xs =>
        unfold RdL at h ⊢
        refine ⟨?_, ih hl.2 h.2⟩
        cases t with
        | lit v => have := h.1; unfold RdT at this ⊢; exact this
        | _ => exact absurd hl.1 (by simp [T.isLit])
  intro rows xs hl h
  refine key ?_ h
  clear h
  induction rows with
  | nil => rfl
  | cons r rs ih =>
    rw [litRows, Bool.and_eq_true] at hl
    rw [List.flatten_cons, List.all_append, hl.1, ih hl.2]; rfl
theorem rdL_or {z : Bool} {rows : List (List T)} {xs : List Value} (h : RdL w (okOf X ρ w z) rows.flatten xs) : RdL w (okOf X ρ w (z || litRows rows)) rows.flatten xs := by
  cases hl : litRows rows with
  | false => rw [Bool.or_false]; exact h
  | true => rw [Bool.or_true]; exact rdL_lit hl h
theorem toT_rd : ∀ {cs : List C} {q : Bool × List T} {xs : List Value}, toT cs = some q → RdCs w (okOf X ρ w) ρ cs xs → RdL w (okOf X ρ w q.1) q.2 xs
  | [], q, xs, h, hr => by
    simp only [toT, Option.some.injEq] at h
    subst h
    cases xs with
    | nil => unfold RdL; trivial
    | cons => unfold RdCs at hr; exact hr.elim
  | .t z x :: cs, q, xs, h, hr => by
    simp only [toT] at h
    split at h
    · rename_i p hp
      injection h with h
      subst h
      cases xs with
      | nil => unfold RdCs at hr; exact hr.elim
      | cons u xs =>
        unfold RdCs RdC at hr
        unfold RdL
        exact ⟨rdT_lit hr.1, rdL_weak (fun h => (Bool.and_eq_true _ _ ▸ h).2) (toT_rd hp hr.2)⟩
    · cases h
  | .nil :: cs, q, xs, h, hr => by
    simp only [toT] at h
    split at h
    · rename_i p hp
      injection h with h
      subst h
      cases xs with
      | nil => unfold RdCs at hr; exact hr.elim
      | cons u xs =>
        unfold RdCs RdC at hr
        unfold RdL RdT
        obtain ⟨⟨A, hA⟩, hr2⟩ := hr
        exact ⟨⟨_, _, _, hA, rfl, Nat.le_refl _, .inl rfl⟩, toT_rd hp hr2⟩
    · cases h
  | .own _ _ :: _, _, _, h, _ => by simp [toT] at h
  | .optr _ _ :: _, _, _, h, _ => by simp [toT] at h
  | .eptr _ _ _ _ :: _, _, _, h, _ => by simp [toT] at h
  | .fn _ _ :: _, _, _, h, _ => by simp [toT] at h
  | .junk :: _, _, _, h, _ => by simp [toT] at h
theorem toT_len : ∀ {cs : List C} {q : Bool × List T}, toT cs = some q → q.2.length = cs.length
  | [], q, h => by simp only [toT, Option.some.injEq] at h; subst h; rfl
  | .t z x :: cs, q, h => by
    simp only [toT] at h
    split at h
    · rename_i p hp
      injection h with h
      subst h
      simp [toT_len hp]
    · cases h
  | .nil :: cs, q, h => by
    simp only [toT] at h
    split at h
    · rename_i p hp
      injection h with h
      subst h
      simp [toT_len hp]
    · cases h
  | .own _ _ :: _, _, h => by simp [toT] at h
  | .optr _ _ :: _, _, h => by simp [toT] at h
  | .eptr _ _ _ _ :: _, _, h => by simp [toT] at h
  | .fn _ _ :: _, _, h => by simp [toT] at h
  | .junk :: _, _, h => by simp [toT] at h
/-- the elements' cells, one behind the other -/
theorem elems_rd (hH : Hold X st ρ a w) {size : Nat} : ∀ {ps : List (Nat × Operand)} {k : Nat} {q : Bool × List (List T)}, elemsOf st size k ps = some q →
    RdL w (okOf X ρ w q.1) q.2.flatten (ps.flatMap fun p => (a.eval p.2).cells.toList) ∧ (∀ r ∈ q.2, r.length = size) ∧ (∀ i p, ps[i]? = some p → p.1 = k + i ∧ (a.eval p.2).cells.size = size) ∧ q.2.length = ps.length
  | [], k, q, h => by
    simp only [elemsOf, Option.some.injEq] at h
    subst h
    exact ⟨by simp [RdL], by simp, by simp, rfl⟩
  | (i, x) :: ps, k, q, h => by
    simp only [elemsOf] at h
    split at h
    · rename_i hik
      split at h
      · rename_i v hv
        split at h
        · rename_i cs hcs
          split at h
          · rename_i hl
            split at h
            · rename_i p hp
              split at h
              · rename_i r hr
                injection h with h
                subst h
                obtain ⟨g1, g2, g3, g4⟩ := elems_rd hH hr
                have hx := cells_rd hcs (ev_sound hH hv)
                refine ⟨?_, ?_, ?_, by simp [g4]⟩
                · rw [List.flatten_cons, List.flatMap_cons]
                  exact (rdL_weak (by simp; intro h _; exact h) (toT_rd hp hx)).append (rdL_weak (by simp) g1)
                · intro r' hr'
                  cases hr' with
                  | head => rw [toT_len hp, hl]
                  | tail _ h => exact g2 _ h
                · intro j p' hj
                  cases j with
                  | zero =>
                    simp at hj
                    subst hj
                    have := hx.len
                    simp at this
                    exact ⟨by simp [hik], by simp only; omega⟩
                  | succ j =>
                    have := g3 j p' (by simpa using hj)
                    exact ⟨by omega, this.2⟩
              · cases h
            · cases h
          · cases h
        · cases h
      · cases h
    · cases h
/-- parts that fill all -/
theorem fill_all {size : Nat} : ∀ (vs : List (List Value)) (k : Nat) (cells : List Value), (∀ v ∈ vs, v.length = size) → cells.length = (k + vs.length) * size →
    fillL (fun i => some (i * size, size)) cells (vs.zipIdx k |>.map fun p => (p.2, p.1)) = some (cells.take (k * size) ++ vs.flatten)
  | [], k, cells, _, h => by
    simp only [List.zipIdx_nil, List.map_nil, fillL, List.flatten_nil, List.append_nil]
    rw [List.take_of_length_le (by rw [h]; simp)]
  | v :: vs, k, cells, hv, h => by
    have h1 := hv v List.mem_cons_self
    have h2 : cells.length = k * size + size + vs.length * size := by rw [h, List.length_cons, Nat.add_mul, Nat.succ_mul]; omega
    rw [List.zipIdx_cons, List.map_cons]
    simp only [fillL]
    rw [if_pos ⟨h1, by omega⟩, fill_all vs (k + 1) _ (fun u hu => hv u (List.mem_cons_of_mem _ hu)) (by
      simp only [List.length_append, List.length_take, List.length_drop, h1]
      rw [Nat.add_mul, Nat.add_mul, Nat.one_mul]
      omega), List.flatten_cons]
    congr 1
    rw [Nat.add_mul, Nat.one_mul, List.take_append_of_le_length (by simp [h1]; omega), List.take_of_length_le (by simp [h1]; omega), List.append_assoc]
end
end Go.Proofs.Ytoghgjobfcnneaa.Ax
