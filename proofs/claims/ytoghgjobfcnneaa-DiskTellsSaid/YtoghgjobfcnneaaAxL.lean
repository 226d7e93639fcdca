/- Lists of cells that are read. -/
import Derived.Test.YtoghgjobfcnneaaAxO1
namespace Go.Proofs.Ytoghgjobfcnneaa.Ax
open Go.RowKit
section
variable {w : World} {ok : Nat → Prop} {okz : Bool → Nat → Prop} {ρ : Nat → R} {P : Program}
theorem RdL.len : ∀ {cs : List T} {xs : List Value}, RdL w ok cs xs → xs.length = cs.length
  | [], [], _ => rfl
  | _ :: _, _ :: _, h => by unfold RdL at h; rw [List.length_cons, List.length_cons, RdL.len h.2]
  | [], _ :: _, h => by unfold RdL at h; exact h.elim
  | _ :: _, [], h => by unfold RdL at h; exact h.elim
theorem RdCs.len : ∀ {cs : List C} {xs : List Value}, RdCs w okz ρ cs xs → xs.length = cs.length
  | [], [], _ => rfl
  | _ :: _, _ :: _, h => by unfold RdCs at h; rw [List.length_cons, List.length_cons, RdCs.len h.2]
  | [], _ :: _, h => by unfold RdCs at h; exact h.elim
  | _ :: _, [], h => by unfold RdCs at h; exact h.elim
theorem RdL.get : ∀ {cs : List T} {xs : List Value} {j : Nat} {c : T}, RdL w ok cs xs → cs[j]? = some c → ∃ x, xs[j]? = some x ∧ RdT w ok c x
  | [], _, _, _, _, hc => by simp at hc
  | c :: cs, [], _, _, h, _ => by unfold RdL at h; exact h.elim
  | c :: cs, x :: xs, 0, d, h, hc => by
    unfold RdL at h
    simp at hc
    subst hc
    exact ⟨x, rfl, h.1⟩
  | c :: cs, x :: xs, j + 1, d, h, hc => by
    unfold RdL at h
    simpa using RdL.get h.2 (by simpa using hc)
theorem RdCs.get : ∀ {cs : List C} {xs : List Value} {j : Nat} {c : C}, RdCs w okz ρ cs xs → cs[j]? = some c → ∃ x, xs[j]? = some x ∧ RdC w okz ρ c x
  | [], _, _, _, _, hc => by simp at hc
  | c :: cs, [], _, _, h, _ => by unfold RdCs at h; exact h.elim
  | c :: cs, x :: xs, 0, d, h, hc => by
    unfold RdCs at h
    simp at hc
    subst hc
    exact ⟨x, rfl, h.1⟩
  | c :: cs, x :: xs, j + 1, d, h, hc => by
    unfold RdCs at h
    simpa using RdCs.get h.2 (by simpa using hc)
theorem RdL.drop : ∀ {cs : List T} {xs : List Value} (n : Nat), RdL w ok cs xs → RdL w ok (cs.drop n) (xs.drop n)
  | [], [], n, h => by simpa using h
  | _, _, 0, h => by simpa using h
  | _ :: _, _ :: _, n + 1, h => by unfold RdL at h; simpa using RdL.drop n h.2
  | [], _ :: _, _ + 1, h => by unfold RdL at h; exact h.elim
  | _ :: _, [], _ + 1, h => by unfold RdL at h; exact h.elim
theorem RdL.take : ∀ {cs : List T} {xs : List Value} (n : Nat), RdL w ok cs xs → RdL w ok (cs.take n) (xs.take n)
  | [], [], n, h => by simpa using h
  | _, _, 0, h => by simp [RdL]
  | _ :: _, _ :: _, n + 1, h => by
    unfold RdL at h
    rw [List.take_succ_cons, List.take_succ_cons]
    unfold RdL
    exact ⟨h.1, RdL.take n h.2⟩
  | [], _ :: _, _ + 1, h => by unfold RdL at h; exact h.elim
  | _ :: _, [], _ + 1, h => by unfold RdL at h; exact h.elim
theorem RdCs.drop : ∀ {cs : List C} {xs : List Value} (n : Nat), RdCs w okz ρ cs xs → RdCs w okz ρ (cs.drop n) (xs.drop n)
  | [], [], n, h => by simpa using h
  | _, _, 0, h => by simpa using h
  | _ :: _, _ :: _, n + 1, h => by unfold RdCs at h; simpa using RdCs.drop n h.2
  | [], _ :: _, _ + 1, h => by unfold RdCs at h; exact h.elim
  | _ :: _, [], _ + 1, h => by unfold RdCs at h; exact h.elim
theorem RdCs.take : ∀ {cs : List C} {xs : List Value} (n : Nat), RdCs w okz ρ cs xs → RdCs w okz ρ (cs.take n) (xs.take n)
  | [], [], n, h => by simpa using h
  | _, _, 0, h => by simp [RdCs]
  | _ :: _, _ :: _, n + 1, h => by
    unfold RdCs at h
    rw [List.take_succ_cons, List.take_succ_cons]
    unfold RdCs
    exact ⟨h.1, RdCs.take n h.2⟩
  | [], _ :: _, _ + 1, h => by unfold RdCs at h; exact h.elim
  | _ :: _, [], _ + 1, h => by unfold RdCs at h; exact h.elim
theorem RdL.append : ∀ {cs ds : List T} {xs ys : List Value}, RdL w ok cs xs → RdL w ok ds ys → RdL w ok (cs ++ ds) (xs ++ ys)
  | [], _, [], _, _, h2 => by simpa using h2
  | c :: cs, ds, x :: xs, ys, h, h2 => by
    unfold RdL at h
    rw [List.cons_append, List.cons_append]
    unfold RdL
    exact ⟨h.1, RdL.append h.2 h2⟩
  | [], _, _ :: _, _, h, _ => by unfold RdL at h; exact h.elim
  | _ :: _, _, [], _, h, _ => by unfold RdL at h; exact h.elim
theorem RdCs.append : ∀ {cs ds : List C} {xs ys : List Value}, RdCs w okz ρ cs xs → RdCs w okz ρ ds ys → RdCs w okz ρ (cs ++ ds) (xs ++ ys)
  | [], _, [], _, _, h2 => by simpa using h2
  | c :: cs, ds, x :: xs, ys, h, h2 => by
    unfold RdCs at h
    rw [List.cons_append, List.cons_append]
    unfold RdCs
    exact ⟨h.1, RdCs.append h.2 h2⟩
  | [], _, _ :: _, _, h, _ => by unfold RdCs at h; exact h.elim
  | _ :: _, _, [], _, h, _ => by unfold RdCs at h; exact h.elim
theorem RdL.toC {z : Bool} : ∀ {cs : List T} {xs : List Value}, RdL w (okz z) cs xs → RdCs w okz ρ (cs.map (C.t z)) xs
  | [], [], _ => by rw [List.map_nil]; unfold RdCs; trivial
  | c :: cs, x :: xs, h => by
    unfold RdL at h
    rw [List.map_cons]
    unfold RdCs RdC
    exact ⟨h.1, RdL.toC h.2⟩
  | [], _ :: _, h => by unfold RdL at h; exact h.elim
  | _ :: _, [], h => by unfold RdL at h; exact h.elim
theorem RdL.one : ∀ {cs : List T} {xs : List Value}, RdL w ok cs xs → (xs.all fun u => u.oneCell') = true
  | [], [], _ => rfl
  | c :: cs, x :: xs, h => by
    unfold RdL at h
    rw [List.all_cons, h.1.oneCell, RdL.one h.2]; rfl
  | [], _ :: _, h => by unfold RdL at h; exact h.elim
  | _ :: _, [], h => by unfold RdL at h; exact h.elim
theorem RdCs.one : ∀ {cs : List C} {xs : List Value}, RdCs w okz ρ cs xs → (xs.all fun u => u.oneCell') = true
  | [], [], _ => rfl
  | c :: cs, x :: xs, h => by
    unfold RdCs at h
    rw [List.all_cons, h.1.oneCell, RdCs.one h.2]; rfl
  | [], _ :: _, h => by unfold RdCs at h; exact h.elim
  | _ :: _, [], h => by unfold RdCs at h; exact h.elim
/-- a row lies where its values lie -/
theorem RdRow.vals {b : Nat} : ∀ {row : List T} {o : Nat}, RdRow w ok b o row → ∃ xs, RdL w ok row xs ∧ ∀ j u, xs[j]? = some u → w.cell? ⟨b, o + j, none⟩ = some u
  | [], o, _ => ⟨[], by unfold RdL; trivial, fun j u h => by simp at h⟩
  | c :: cs, o, h => by
    unfold RdRow at h
    obtain ⟨⟨y, h1, h2⟩, h3⟩ := h
    obtain ⟨xs, h4, h5⟩ := RdRow.vals h3
    refine ⟨y :: xs, by unfold RdL; exact ⟨h2, h4⟩, fun j u hu => ?_⟩
    cases j with
    | zero => simp at hu; subst hu; exact h1
    | succ j => rw [show o + (j + 1) = o + 1 + j by omega]; exact h5 j u (by simpa using hu)
theorem RdRow.mk {b : Nat} : ∀ {row : List T} {xs : List Value} {o : Nat}, RdL w ok row xs → (∀ j u, xs[j]? = some u → w.cell? ⟨b, o + j, none⟩ = some u) → RdRow w ok b o row
  | [], [], o, _, _ => by unfold RdRow; trivial
  | c :: cs, x :: xs, o, h, hc => by
    unfold RdL at h
    unfold RdRow
    exact ⟨⟨x, hc 0 x rfl, h.1⟩, RdRow.mk h.2 fun j u hu => by have := hc (j + 1) u (by simpa using hu); rwa [show o + (j + 1) = o + 1 + j by omega] at this⟩
  | [], _ :: _, _, h, _ => by unfold RdL at h; exact h.elim
  | _ :: _, [], _, h, _ => by unfold RdL at h; exact h.elim
theorem RdRow.drop {b : Nat} : ∀ {row : List T} {o : Nat} (n : Nat), RdRow w ok b o row → RdRow w ok b (o + n) (row.drop n)
  | _, _, 0, h => by simpa using h
  | [], o, n + 1, _ => by rw [List.drop_nil]; unfold RdRow; trivial
  | c :: cs, o, n + 1, h => by
    unfold RdRow at h
    rw [List.drop_succ_cons, show o + (n + 1) = o + 1 + n by omega]
    exact RdRow.drop n h.2
theorem RdRows.at_ {s b : Nat} : ∀ {rows : List (List T)} {o : Nat} {k : Nat} {row : List T}, RdRows w ok s b o rows → rows[k]? = some row → row.length = s ∧ RdRow w ok b (o + k * s) row
  | [], _, _, _, _, h => by simp at h
  | r :: rs, o, 0, row, h, hk => by
    unfold RdRows at h
    simp at hk
    subst hk
    rw [Nat.zero_mul, Nat.add_zero]
    exact ⟨h.1, h.2.1⟩
  | r :: rs, o, k + 1, row, h, hk => by
    unfold RdRows at h
    rw [show o + (k + 1) * s = o + s + k * s by rw [Nat.succ_mul]; omega]
    exact RdRows.at_ h.2.2 (by simpa using hk)
theorem RdRows.drop {s b : Nat} : ∀ {rows : List (List T)} {o : Nat} (n : Nat), RdRows w ok s b o rows → RdRows w ok s b (o + n * s) (rows.drop n)
  | _, _, 0, h => by simpa using h
  | [], _, _ + 1, _ => by rw [List.drop_nil]; unfold RdRows; trivial
  | r :: rs, o, n + 1, h => by
    unfold RdRows at h
    rw [List.drop_succ_cons, show o + (n + 1) * s = o + s + n * s by rw [Nat.succ_mul]; omega]
    exact RdRows.drop n h.2.2
theorem RdRows.take {s b : Nat} : ∀ {rows : List (List T)} {o : Nat} (n : Nat), RdRows w ok s b o rows → RdRows w ok s b o (rows.take n)
  | _, _, 0, _ => by rw [List.take_zero]; unfold RdRows; trivial
  | [], _, _ + 1, _ => by rw [List.take_nil]; unfold RdRows; trivial
  | r :: rs, o, n + 1, h => by
    unfold RdRows at h
    rw [List.take_succ_cons]
    unfold RdRows
    exact ⟨h.1, h.2.1, RdRows.take n h.2.2⟩
/-- rows out of a list of values that lie one behind the other -/
theorem RdRows.mk {s b : Nat} : ∀ {rows : List (List T)} {xs : List Value} {o : Nat}, RdL w ok rows.flatten xs → (∀ r ∈ rows, r.length = s) → (∀ j u, xs[j]? = some u → w.cell? ⟨b, o + j, none⟩ = some u) → RdRows w ok s b o rows
  | [], _, _, _, _, _ => by unfold RdRows; trivial
  | r :: rs, xs, o, h, hl, hc => by
    unfold RdRows
    rw [List.flatten_cons] at h
    have hr := hl r List.mem_cons_self
    have h1 : RdL w ok r (xs.take s) := by have := h.take s; rwa [List.take_append_of_le_length (by omega), List.take_of_length_le (by omega)] at this
    have h2 : RdL w ok rs.flatten (xs.drop s) := by have := h.drop s; rwa [List.drop_append_of_le_length (by omega), List.drop_eq_nil_of_le (by omega), List.nil_append] at this
    refine ⟨hr, RdRow.mk h1 fun j u hu => ?_, RdRows.mk h2 (fun r hr => hl r (List.mem_cons_of_mem _ hr)) fun j u hu => ?_⟩
    · rw [List.getElem?_take] at hu
      split at hu
      · exact hc j u hu
      · cases hu
    · rw [List.getElem?_drop] at hu
      have := hc _ u hu
      rwa [← Nat.add_assoc] at this
theorem rows_at {s : Nat} : ∀ {rows : List (List T)} {k : Nat} {row : List T} {xs : List Value}, RdL w ok rows.flatten xs → (∀ r ∈ rows, r.length = s) → rows[k]? = some row → row.length = s ∧ RdL w ok row ((xs.drop (k * s)).take s) ∧ k * s + s ≤ xs.length
  | [], _, _, _, _, _, h => by simp at h
  | r :: rs, k, row, xs, h, hl, hk => by
    rw [List.flatten_cons] at h
    have hr := hl r List.mem_cons_self
    cases k with
    | zero =>
      simp at hk
      subst hk
      rw [Nat.zero_mul, List.drop_zero]
      have h1 : RdL w ok r (xs.take s) := by have := h.take s; rwa [List.take_append_of_le_length (by omega), List.take_of_length_le (by omega)] at this
      have := h.len
      rw [List.length_append] at this
      exact ⟨hr, h1, by omega⟩
    | succ k =>
      have h2 : RdL w ok rs.flatten (xs.drop s) := by have := h.drop s; rwa [List.drop_append_of_le_length (by omega), List.drop_eq_nil_of_le (by omega), List.nil_append] at this
      obtain ⟨g1, g2, g3⟩ := rows_at (s := s) (k := k) h2 (fun r hr => hl r (List.mem_cons_of_mem _ hr)) (by simpa using hk)
      rw [List.drop_drop, show s + k * s = (k + 1) * s by rw [Nat.succ_mul]; omega] at g2
      rw [List.length_drop] at g3
      have := h.len
      rw [List.length_append] at this
      exact ⟨g1, g2, by rw [Nat.succ_mul]; omega⟩
/-- loads -/
theorem addAt (b o j : Nat) : (⟨b, o, none⟩ : Addr).add j = ⟨b, o + j, none⟩ := by unfold Addr.add; split <;> simp_all
theorem load_agg {t : TypeId} {y : Ty} (hy : tyOf P t = some y) (ha : y.agg = true) {xs : List Value} (hl : xs.length = y.size) {b o : Nat} (h : ∀ j u, xs[j]? = some u → w.cell? ⟨b, o + j, none⟩ = some u) :
    (loadVar t ⟨b, o, none⟩).run P w = .ok (.agg xs.toArray) w := by
  have h1 := run_loadCells_list (P := P) (w := w) ⟨b, o, none⟩ xs (fun j v hv => by rw [addAt]; exact h j v hv)
  rw [hl] at h1
  simp [loadVar, ty_isAgg hy, ha, ty_size hy, h1]
theorem load_one {t : TypeId} {y : Ty} (hy : tyOf P t = some y) (ha : y.agg = false) {x : Value} {b o : Nat} (h : w.cell? ⟨b, o, none⟩ = some x) :
    (loadVar t ⟨b, o, none⟩).run P w = .ok x w := by
  simp [loadVar, ty_isAgg hy, ha, h]
end
end Go.Proofs.Ytoghgjobfcnneaa.Ax
