/- Operations that make memory, or write it. -/
import Derived.Test.YtoghgjobfcnneaaAxO3
namespace Go.Proofs.Ytoghgjobfcnneaa.Ax
open Go.RowKit
def fillL {α : Type} (place : Nat → Option (Nat × Nat)) : List α → List (Nat × List α) → Option (List α)
  | cells, [] => some cells
  | cells, (i, v) :: rest => match place i with
    | none => none
    | some (off, size) => if v.length = size ∧ off + v.length ≤ cells.length then fillL place (cells.take off ++ v ++ cells.drop (off + v.length)) rest else none
theorem fold_set (off : Nat) : ∀ (vs : List Value) (k : Nat) (cs : Array Value), off + k + vs.length ≤ cs.size →
    ((vs.zipIdx k).foldl (fun cs p => cs.setIfInBounds (off + p.2) p.1) cs) = (cs.toList.take (off + k) ++ vs ++ cs.toList.drop (off + k + vs.length)).toArray
  | [], k, cs, _ => by simp
  | v :: vs, k, cs, h => by
    rw [List.zipIdx_cons, List.foldl_cons, fold_set off vs (k + 1) _ (by simp at h ⊢; omega)]
    have e := list_seg_step cs.toList (off + k) v vs (by simp at h ⊢; omega)
    congr 1
    simpa [Array.toList_setIfInBounds, Nat.add_assoc] using e
theorem fill_eq (place : Nat → Option (Nat × Nat)) : ∀ (parts : List (Nat × Value)) (cells : Array Value), Instr.fill place cells parts = (fillL place cells.toList (parts.map fun p => (p.1, p.2.cells.toList))).map List.toArray
  | [], cells => by simp [Instr.fill, fillL]
  | (i, v) :: rest, cells => by
    simp only [Instr.fill, List.map_cons, fillL]
    cases hp : place i with
    | none => rfl
    | some q =>
      obtain ⟨off, size⟩ := q
      simp only [Array.length_toList]
      by_cases hc : v.cells.size = size ∧ off + v.cells.size ≤ cells.size
      · rw [if_neg (by simp [hc.1]; omega), if_pos (by simpa using hc), fill_eq place rest]
        congr 2
        have := fold_set off v.cells.toList 0 cells (by simpa using hc.2)
        rw [← Array.foldl_toList, Array.toList_zipIdx]
        rw [Nat.add_zero] at this
        rw [this]
        simp
      · rw [if_pos (by
          simp only [Bool.or_eq_true, decide_eq_true_eq, ne_eq]
          by_cases h1 : v.cells.size = size
          · exact .inr (by have := fun h => hc ⟨h1, h⟩; omega)
          · exact .inl h1), if_neg (by simpa using hc)]
        rfl
section
variable {w : World} {ok : Bool → Nat → Prop} {ρ : Nat → R} {P : Program} {X : Cx} {st : St} {a : Act} {t : TypeId} {y : Ty}
/-- parts that read as parts -/
def RdParts (w : World) (ok : Bool → Nat → Prop) (ρ : Nat → R) : List (Nat × List C) → List (Nat × List Value) → Prop
  | [], [] => True
  | p :: ps, q :: qs => p.1 = q.1 ∧ RdCs w ok ρ p.2 q.2 ∧ RdParts w ok ρ ps qs
  | _, _ => False
theorem fillL_rd {place : Nat → Option (Nat × Nat)} : ∀ {ps : List (Nat × List C)} {qs : List (Nat × List Value)} {cs cs' : List C} {xs : List Value}, RdParts w ok ρ ps qs → RdCs w ok ρ cs xs → fillL place cs ps = some cs' → ∃ xs', fillL place xs qs = some xs' ∧ RdCs w ok ρ cs' xs'
  | [], [], cs, cs', xs, _, h, hf => by
    simp only [fillL, Option.some.injEq] at hf
    subst hf
    exact ⟨xs, rfl, h⟩
  | (i, p) :: ps, (j, q) :: qs, cs, cs', xs, hp, h, hf => by
    unfold RdParts at hp
    obtain ⟨h1, h2, h3⟩ := hp
    simp only at h1 h2
    subst h1
    simp only [fillL] at hf ⊢
    cases hpl : place i with
    | none => simp [hpl] at hf
    | some r =>
      obtain ⟨off, size⟩ := r
      simp only [hpl] at hf ⊢
      have l1 := h.len
      have l2 := h2.len
      split at hf
      · rename_i hc
        rw [if_pos (by rw [l1, l2]; exact hc)]
        refine fillL_rd h3 ?_ hf
        rw [l2]
        exact ((h.take off).append h2).append (h.drop _)
      · cases hf
  | [], _ :: _, _, _, _, hp, _, _ => by unfold RdParts at hp; exact hp.elim
  | _ :: _, [], _, _, _, hp, _, _ => by unfold RdParts at hp; exact hp.elim
def cellsV : V → Option (List C)
  | .one c => some [c]
  | .agg cs => some cs
  | _ => none
def partsOf (st : St) : List (Nat × Operand) → Option (List (Nat × List C))
  | [] => some []
  | (i, x) :: ps => match ev st x with
    | some v => match cellsV v with
      | some cs => match partsOf st ps with
        | some qs => some ((i, cs) :: qs)
        | none => none
      | none => none
    | none => none
theorem cells_rd {v : V} {cs : List C} {x : Value} (h : cellsV v = some cs) (hx : RdV w ok ρ v x) : RdCs w ok ρ cs x.cells.toList := by
  cases v with
  | one c =>
    simp only [cellsV, Option.some.injEq] at h
    subst h
    unfold RdV at hx
    have h1 := hx.oneCell
    have : x.cells = #[x] := by cases x <;> first | rfl | simp [Value.oneCell'] at h1
    rw [this]
    unfold RdCs
    exact ⟨hx, by unfold RdCs; trivial⟩
  | agg cs' =>
    simp only [cellsV, Option.some.injEq] at h
    subst h
    unfold RdV at hx
    obtain ⟨xs, rfl, h2⟩ := hx
    exact h2
  | tup _ => cases h
  | junk => cases h
theorem parts_rd (hH : Hold X st ρ a w) : ∀ {ps : List (Nat × Operand)} {qs : List (Nat × List C)}, partsOf st ps = some qs → RdParts w (okOf X ρ w) ρ qs ((ps.map fun p => (p.1, a.eval p.2)).map fun p => (p.1, p.2.cells.toList))
  | [], qs, h => by
    simp only [partsOf, Option.some.injEq] at h
    subst h
    simp only [List.map_nil]; unfold RdParts; trivial
  | (i, x) :: ps, qs, h => by
    simp only [partsOf] at h
    split at h
    · rename_i v hv
      split at h
      · rename_i cs hcs
        split at h
        · rename_i rs hrs
          injection h with h
          subst h
          simp only [List.map_cons]
          unfold RdParts
          exact ⟨rfl, cells_rd hcs (ev_sound hH hv), parts_rd hH hrs⟩
        · cases h
      · cases h
    · cases h
/-- the places of fields -/
def placesOf (P : Program) : List (Nat × TypeId) → Option (List (Nat × Nat))
  | [] => some []
  | (o, t) :: fs => match tyOf P t with
    | some y => match placesOf P fs with
      | some ps => some ((o, y.size) :: ps)
      | none => none
    | none => none
theorem places_run : ∀ {F : List Field} {ps : List (Nat × Nat)}, placesOf P (F.map fun f => (f.offset, f.type)) = some ps → (F.mapM fun f => do pure (f.offset, ← sizeOf f.type) : Sem (List (Nat × Nat))).run P w = .ok ps w
  | [], ps, h => by
    simp only [List.map_nil, placesOf, Option.some.injEq] at h
    subst h
    rfl
  | f :: F, ps, h => by
    simp only [List.map_cons, placesOf] at h
    split at h
    · rename_i y hy
      split at h
      · rename_i qs hq
        injection h with h
        subst h
        simp only [List.mapM_cons, Sem.run_bind, ty_size hy, Result.andThen_ok, Sem.run_pure, places_run hq]
      · cases h
    · cases h
def buildV (P : Program) (st : St) (t : TypeId) (parts : List (Nat × Operand)) : Option V :=
  match tyOf P t with
  | some y => match y.d with
    | .struct fs => match placesOf P fs with
      | some ps => match partsOf st parts with
        | some qs => if y.zero.cells.toList.all (fun u => u.oneCell') then match fillL (fun i => ps[i]?) (y.zero.cells.toList.map constC) qs with
            | some cs => some (.agg cs)
            | none => none
          else none
        | none => none
      | none => none
    | _ => none
  | none => none
theorem build_sound (hH : Hold X st ρ a w) {parts : Array (Nat × Operand)} {v : V} (h : buildV P st t parts.toList = some v) : ∃ q, (Instr.build t (parts.map fun (i, x) => (i, a.eval x))).run P w = .ok q w ∧ RdV w (okOf X ρ w) ρ v q := by
  unfold buildV at h
  split at h
  · rename_i y hy
    split at h
    · rename_i fs hd
      split at h
      · rename_i ps hps
        split at h
        · rename_i qs hqs
          split at h
          · rename_i hz
            split at h
            · rename_i cs hcs
              injection h with h
              subst h
              obtain ⟨F, h1, h2⟩ := ty_struct hy hd
              subst h2
              obtain ⟨xs, hx1, hx2⟩ := fillL_rd (parts_rd hH hqs) (rd_constCs hz) hcs
              have hm : (F.mapM fun f => do pure (f.offset, ← sizeOf f.type) : Sem (Array (Nat × Nat))).run P w = .ok ps.toArray w := by
                obtain ⟨F⟩ := F
                rw [List.mapM_toArray]
                simp only [Sem.run_map, places_run hps, Result.andThen_ok]
              refine ⟨.agg xs.toArray, ?_, by unfold RdV; exact ⟨_, rfl, by simpa using hx2⟩⟩
              have hf := fill_eq (fun i => ps.toArray[i]?) (parts.map fun (i, x) => (i, a.eval x)).toList y.zero.cells
              have he : ((parts.map fun (i, x) => (i, a.eval x)).toList.map fun p => (p.1, p.2.cells.toList)) = ((parts.toList.map fun p => (p.1, a.eval p.2)).map fun p => (p.1, p.2.cells.toList)) := by simp
              rw [he] at hf
              simp only [List.getElem?_toArray] at hf
              rw [hx1] at hf
              simp only [Instr.build, Sem.run_bind, ty_zero hy, Result.andThen_ok, run_underlying h1, hm, List.getElem?_toArray, hf, Option.map_some, Sem.run_pure]
            · cases h
          · cases h
        · cases h
      · cases h
    · cases h
  · cases h
end
end Go.Proofs.Ytoghgjobfcnneaa.Ax
