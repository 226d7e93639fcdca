/- Rows of the call's own: what making and appending give. -/
import Derived.Test.YtoghgjobfcnneaaAxM3
namespace Go.Proofs.Ytoghgjobfcnneaa.Ax
open Go.RowKit
section
variable {w w' : World} {ρ : Nat → R} {P : Program} {X : Cx} {st : St} {a : Act} {t : TypeId} {y : Ty}
theorem zip_parts {size : Nat} (f : Nat × Operand → List Value) : ∀ (ps : List (Nat × Operand)) (k : Nat), (∀ i p, ps[i]? = some p → p.1 = k + i ∧ (f p).length = size) → ps.map (fun p => (p.1, f p)) = ((ps.map f).zipIdx k).map fun p => (p.2, p.1)
  | [], _, _ => rfl
  | p :: ps, k, h => by
    rw [List.map_cons, List.map_cons, List.zipIdx_cons, List.map_cons, zip_parts f ps (k + 1) fun i q hq => by
      have := h (i + 1) q (by simpa using hq)
      exact ⟨by omega, this.2⟩]
    rw [(h 0 p rfl).1]
    rfl
theorem new_arr (hH : Hold X st ρ a w) (d : Nat) {rows : List (List T)} {z : Bool} {xs : List Value} (e : TypeId) {size : Nat} (h : RdL w (okOf X ρ w z) rows.flatten xs) (hr : ∀ r ∈ rows, r.length = size) (hl : xs.length = rows.length * size) (hm : rows.length ≤ maxLen) :
    Out X ρ w (updR ρ d (.lie w.heap.size rows.length)) (w.alloc (.cells xs.toArray e)) (.slice (some ⟨w.heap.size, 0, none⟩) rows.length rows.length) (.mod (.one (.own d rows.length)) [d] [d] [(d, .arr e size z rows)]) := by
  have he := evo_new hH d rows.length (.cells xs.toArray e)
  refine ⟨he, ?_, fun id b hb => ?_⟩
  · unfold RdV RdC
    rw [updR_same]
  · obtain ⟨rfl, rfl⟩ := one_get hb
    unfold HasB
    rw [updR_same]
    simp only
    refine ⟨xs, ⟨hl, .inr ⟨_, _, xs.toArray, rfl, hH.below.size, heap_alloc_new w _, Nat.le_refl _, hm, by simpa using hl, by show List.take _ xs = xs; rw [← hl, List.take_length]⟩⟩, he.rdL z h, hr⟩
theorem append_zero {e : TypeId} (hu : P.underlying t = some (.slice e)) {i : TypeInfo} (hi : P.info? e = some i) (ty : TypeId) (A : Option Addr) {ao : Option Addr} {m c : Nat} (hm : 0 < m) (hb : m * i.bytes ≤ 140737488355328) :
    (Builtin.append_ #[t, t] ty #[.slice A 0 0, .slice ao m c]).run P w = (Builtin.append_ #[t, t] ty #[.slice none 0 0, .slice ao m c]).run P w := by
  cases A with
  | none => rfl
  | some ad =>
    have h1 : ¬ m = 0 := by omega
    have h2 : Builtin.nextslicecap m 0 = m := by unfold Builtin.nextslicecap; rw [if_pos (by omega)]
    have h3 : ¬ 281474976710656 < m * i.bytes := by omega
    simp [Builtin.append_, run_underlying hu, sizeOf, typeInfo, hi, Builtin.lenOf, h1, h2, h3, Builtin.firstCells, loadCells, loadCellsFrom]
theorem append_none {e : TypeId} (hu : P.underlying t = some (.slice e)) {i : TypeInfo} (hi : P.info? e = some i) (ty : TypeId) (A : Option Addr) {ao : Option Addr} {c : Nat} :
    (Builtin.append_ #[t, t] ty #[.slice A 0 0, .slice ao 0 c]).run P w = .ok (.slice A 0 0) w := by
  cases A with
  | none => cases ao <;> simp [Builtin.append_, run_underlying hu, sizeOf, typeInfo, hi, Builtin.lenOf, Builtin.firstCells, loadCells, loadCellsFrom]
  | some ad => cases ao <;> simp [Builtin.append_, run_underlying hu, sizeOf, typeInfo, hi, Builtin.lenOf, Builtin.firstCells, loadCells, loadCellsFrom, storeCells]
/-- an append, whatever it is onto -/
theorem app_all (hH : Hold X st ρ a w) {e : TypeId} {z : Value} {size bytes : Nat} (EL : ElT P t e z size bytes) (ty : TypeId) {c : C} {b : Option Nat × Bool × List (List T)} {v : Value} (h : baseOf st e size c = some b) (hv : RdC w (okOf X ρ w) ρ c v)
    {ao : Option Addr} {m cc : Nat} {cs : List Value} (hnone : ao = none → m = 0) (hc : ∀ ad, ao = some ad → ∀ j u, cs[j]? = some u → w.cell? (ad.add j) = some u) (hl : cs.length = m * size) (h1 : (cs.all fun u => u.oneCell') = true)
    (h63 : b.2.2.length + m ≤ maxLen) (hbytes : (b.2.2.length + m) * bytes ≤ 140737488355328) :
    ∃ v' w', ∃ r : R, (Builtin.append_ #[t, t] ty #[v, .slice ao m cc]).run P w = .ok v' w' ∧ Below X.base.heap.size w w' ∧ (∀ g, g < w.heap.size → (∀ id c', id ∈ b.1.toList → ρ id ≠ .lie g c') → w'.heap[g]? = w.heap[g]?) ∧ (∀ r ∈ b.2.2, r.length = size) ∧
      (((∃ A, v' = .slice A 0 0) ∧ b.2.2.length + m = 0 ∧ r = .nil) ∨
        ∃ g c' xs, v' = .slice (some ⟨g, 0, none⟩) (b.2.2.length + m) c' ∧ r = .lie g c' ∧ X.base.heap.size ≤ g ∧ g < w'.heap.size ∧ (w.heap.size ≤ g ∨ ∃ id c', id ∈ b.1.toList ∧ ρ id = .lie g c') ∧ w'.ownsRow X.base.heap.size e size v' (b.2.2.length + m) (xs ++ cs) ∧ RdL w (okOf X ρ w b.2.1) b.2.2.flatten xs) := by
  obtain ⟨i, hi, hz, hz1, hz2⟩ := EL.hi
  -- onto a row that there is
  have onto : ∀ (v : Value) (xs : List Value), w.ownsRow X.base.heap.size e size v b.2.2.length xs → RdL w (okOf X ρ w b.2.1) b.2.2.flatten xs → ((v = .slice none 0 0) ∨ ∃ id g cap, b.1 = some id ∧ ρ id = .lie g cap ∧ v.ownBlock = some g) →
      ∃ v' w', ∃ r : R, (Builtin.append_ #[t, t] ty #[v, .slice ao m cc]).run P w = .ok v' w' ∧ Below X.base.heap.size w w' ∧ (∀ g, g < w.heap.size → (∀ id c', id ∈ b.1.toList → ρ id ≠ .lie g c') → w'.heap[g]? = w.heap[g]?) ∧
      (((∃ A, v' = .slice A 0 0) ∧ b.2.2.length + m = 0 ∧ r = .nil) ∨
        ∃ g c' xs, v' = .slice (some ⟨g, 0, none⟩) (b.2.2.length + m) c' ∧ r = .lie g c' ∧ X.base.heap.size ≤ g ∧ g < w'.heap.size ∧ (w.heap.size ≤ g ∨ ∃ id c', id ∈ b.1.toList ∧ ρ id = .lie g c') ∧ w'.ownsRow X.base.heap.size e size v' (b.2.2.length + m) (xs ++ cs) ∧ RdL w (okOf X ρ w b.2.1) b.2.2.flatten xs) := by
    intro v xs hown hrd hwhere
    obtain ⟨v', w', hrun, hown', hleft, hat⟩ := run_app_any (w := w) EL ty hown (cs := cs) (ao := ao) (m := m) (c := cc) hnone hc hl h1 h63 hbytes hH.below.size
    have far : ∀ g, g < w.heap.size → (∀ id c', id ∈ b.1.toList → ρ id ≠ .lie g c') → w'.heap[g]? = w.heap[g]? := fun g hg hcond => hleft.blk g hg fun he => by
      rcases hwhere with h4 | ⟨id, g', c', h4, h5, h6⟩
      · rw [h4] at he; cases he
      · rw [h6] at he
        injection he with he
        subst he
        exact hcond id c' (by rw [h4]; simp) h5
    rcases hown'.2 with ⟨h4, h5⟩ | ⟨g, c', cur, h4, h5, h6, _⟩
    · exact ⟨v', w', .nil, hrun, hleft.below, far, .inl ⟨⟨_, h4⟩, h5, rfl⟩⟩
    · refine ⟨v', w', .lie g c', hrun, hleft.below, far, .inr ⟨g, c', xs, h4, rfl, h5, Blk.lt (t := e) (cs := cur) h6, ?_, hown', hrd⟩⟩
      rcases hat with hat | hat
      · rw [h4] at hat
        rcases hwhere with h7 | ⟨id, g', c2, h7, h8, h9⟩
        · rw [h7] at hat; cases hat
        · rw [h9] at hat
          injection hat with hat
          simp only at hat
          subst hat
          exact .inr ⟨id, c2, by rw [h7]; simp, h8⟩
      · rw [h4] at hat
        injection hat with hat
        simp only at hat
        exact .inl (by omega)
  -- onto one without room
  have empty : ∀ A, v = .slice A 0 0 → b.2.2 = [] → ∃ v' w', ∃ r : R, (Builtin.append_ #[t, t] ty #[v, .slice ao m cc]).run P w = .ok v' w' ∧ Below X.base.heap.size w w' ∧ (∀ g, g < w.heap.size → (∀ id c', id ∈ b.1.toList → ρ id ≠ .lie g c') → w'.heap[g]? = w.heap[g]?) ∧
      (((∃ A, v' = .slice A 0 0) ∧ b.2.2.length + m = 0 ∧ r = .nil) ∨
        ∃ g c' xs, v' = .slice (some ⟨g, 0, none⟩) (b.2.2.length + m) c' ∧ r = .lie g c' ∧ X.base.heap.size ≤ g ∧ g < w'.heap.size ∧ (w.heap.size ≤ g ∨ ∃ id c', id ∈ b.1.toList ∧ ρ id = .lie g c') ∧ w'.ownsRow X.base.heap.size e size v' (b.2.2.length + m) (xs ++ cs) ∧ RdL w (okOf X ρ w b.2.1) b.2.2.flatten xs) := by
    rintro A rfl hb
    rcases Nat.eq_zero_or_pos m with rfl | hm
    · exact ⟨_, w, .nil, append_none EL.ht hi ty A, Below.refl _ _, fun _ _ _ => rfl, .inl ⟨⟨_, rfl⟩, by rw [hb]; rfl, rfl⟩⟩
    · rw [append_zero EL.ht hi ty A hm (by rw [hz2]; rw [hb] at hbytes; simpa using hbytes)]
      exact onto (.slice none 0 0) [] (by rw [hb]; exact World.ownsRow_nil _ _ _ _) (by rw [hb]; unfold List.flatten RdL; trivial) (.inl rfl)
  have fin : ∀ {p : Prop}, (∀ r ∈ b.2.2, r.length = size) → (∃ v' w', ∃ r : R, (Builtin.append_ #[t, t] ty #[v, .slice ao m cc]).run P w = .ok v' w' ∧ Below X.base.heap.size w w' ∧ (∀ g, g < w.heap.size → (∀ id c', id ∈ b.1.toList → ρ id ≠ .lie g c') → w'.heap[g]? = w.heap[g]?) ∧
      (((∃ A, v' = .slice A 0 0) ∧ b.2.2.length + m = 0 ∧ r = .nil) ∨
        ∃ g c' xs, v' = .slice (some ⟨g, 0, none⟩) (b.2.2.length + m) c' ∧ r = .lie g c' ∧ X.base.heap.size ≤ g ∧ g < w'.heap.size ∧ (w.heap.size ≤ g ∨ ∃ id c', id ∈ b.1.toList ∧ ρ id = .lie g c') ∧ w'.ownsRow X.base.heap.size e size v' (b.2.2.length + m) (xs ++ cs) ∧ RdL w (okOf X ρ w b.2.1) b.2.2.flatten xs)) → ((∀ (v' : Value) (w' : World) (r : R), (Builtin.append_ #[t, t] ty #[v, .slice ao m cc]).run P w = .ok v' w' → Below X.base.heap.size w w' → (∀ g, g < w.heap.size → (∀ id c', id ∈ b.1.toList → ρ id ≠ .lie g c') → w'.heap[g]? = w.heap[g]?) → (∀ r ∈ b.2.2, r.length = size) →
      (((∃ A, v' = .slice A 0 0) ∧ b.2.2.length + m = 0 ∧ r = .nil) ∨
        ∃ g c' xs, v' = .slice (some ⟨g, 0, none⟩) (b.2.2.length + m) c' ∧ r = .lie g c' ∧ X.base.heap.size ≤ g ∧ g < w'.heap.size ∧ (w.heap.size ≤ g ∨ ∃ id c', id ∈ b.1.toList ∧ ρ id = .lie g c') ∧ w'.ownsRow X.base.heap.size e size v' (b.2.2.length + m) (xs ++ cs) ∧ RdL w (okOf X ρ w b.2.1) b.2.2.flatten xs) → p) → p) := fun hs ⟨v', w', r, q1, q2, q3, q4⟩ k => k v' w' r q1 q2 q3 hs q4
  refine fin ?_ ?_ fun v' w' r q1 q2 q3 q4 q5 => ⟨v', w', r, q1, q2, q3, q4, q5⟩
  · unfold baseOf at h
    split at h
    · injection h with h
      subst h
      intro r hr; cases hr
    · split at h
      · rename_i e' s z rows hb
        split at h
        · rename_i hcc
          obtain ⟨rfl, rfl, rfl⟩ := hcc
          injection h with h
          subst h
          have hB := hH.blocks _ _ hb
          rename_i id _
          unfold HasB at hB
          cases hid : ρ id with
          | dead => simp [hid] at hB
          | nil => simp only [hid] at hB; subst hB; intro r hr; cases hr
          | lie g cap => simp only [hid] at hB; exact hB.choose_spec.2.2
        · cases h
      · cases h
    · cases h
  · unfold baseOf at h
    split at h
    · injection h with h
      subst h
      unfold RdC at hv
      obtain ⟨A, rfl⟩ := hv
      exact empty A rfl rfl
    · rename_i id len
      split at h
      · rename_i e' s z rows hb
        split at h
        · rename_i hcc
          obtain ⟨rfl, rfl, rfl⟩ := hcc
          injection h with h
          subst h
          have hB := hH.blocks _ _ hb
          unfold RdC at hv
          unfold HasB at hB
          cases hid : ρ id with
          | dead => simp [hid] at hv
          | nil =>
            simp only [hid] at hv hB
            obtain ⟨_, A, rfl⟩ := hv
            exact empty A rfl hB
          | lie g cap =>
            simp only [hid] at hv hB
            subst hv
            obtain ⟨xs, g1, g2, g3⟩ := hB
            exact onto _ xs g1 g2 (.inr ⟨id, g, cap, rfl, hid, rfl⟩)
        · cases h
      · cases h
    · cases h
theorem rows_rd (hH : Hold X st ρ a w) {c : C} {q : Bool × List (List T)} {v : Value} (h : rowsOf st c = some q) (hv : RdC w (okOf X ρ w) ρ c v) {size : Nat} (hs : ∀ r ∈ q.2, r.length = size) :
    ∃ A m cap xs, v = .slice A m cap ∧ m = q.2.length ∧ RdL w (okOf X ρ w q.1) q.2.flatten xs ∧ (A = none → m = 0) ∧ (∀ ad, A = some ad → ∀ j u, xs[j]? = some u → w.cell? (ad.add j) = some u) ∧ xs.length = m * size := by
  have hlen : ∀ (rows : List (List T)), (∀ r ∈ rows, r.length = size) → rows.flatten.length = rows.length * size := by
    intro rows
    induction rows with
    | nil => intro _; simp
    | cons r rs ih => intro h; rw [List.flatten_cons, List.length_append, h r List.mem_cons_self, ih fun r hr => h r (List.mem_cons_of_mem _ hr), List.length_cons, Nat.succ_mul]; omega
  unfold rowsOf at h
  split at h
  · rename_i z rows
    injection h with h
    subst h
    unfold RdC RdT at hv
    obtain ⟨A, n, c, rfl, hl, _, hr⟩ := hv
    have key : ∀ (rows : List (List T)) (s b o : Nat), RdRows w (okOf X ρ w z) s b o rows → ∃ xs, RdL w (okOf X ρ w z) rows.flatten xs ∧ ∀ j u, xs[j]? = some u → w.cell? ⟨b, o + j, none⟩ = some u := by
      intro rows s b
      induction rows with
      | nil => intro o _; exact ⟨[], by unfold List.flatten RdL; trivial, by simp⟩
      | cons r rs ih =>
        intro o h
        unfold RdRows at h
        obtain ⟨h1, h2, h3⟩ := h
        obtain ⟨ys, g1, g2⟩ := h2.vals
        obtain ⟨zs, g3, g4⟩ := ih _ h3
        have hl := g1.len
        refine ⟨ys ++ zs, by rw [List.flatten_cons]; exact g1.append g3, fun j u hu => ?_⟩
        rcases Nat.lt_or_ge j ys.length with hj | hj
        · rw [List.getElem?_append_left hj] at hu
          exact g2 j u hu
        · rw [List.getElem?_append_right hj] at hu
          have := g4 _ u hu
          rwa [show o + s + (j - ys.length) = o + j by omega] at this
    rcases hr with hr | ⟨b, o, s, rfl, hb, hr⟩
    · subst hr
      obtain rfl : rows = [] := List.eq_nil_of_length_eq_zero hl
      exact ⟨A, 0, c, [], rfl, rfl, by unfold List.flatten RdL; trivial, fun _ => rfl, (by intro ad _ j u hu; simp at hu), by simp⟩
    · obtain ⟨xs, g1, g2⟩ := key rows s b o hr
      refine ⟨_, n, c, xs, rfl, hl.symm, g1, (by intro h; cases h), ?_, by rw [g1.len, hlen rows hs, hl]⟩
      intro ad had j u hu
      cases had
      rw [addAt]
      exact g2 j u hu
  · injection h with h
    subst h
    unfold RdC at hv
    obtain ⟨A, rfl⟩ := hv
    exact ⟨A, 0, 0, [], rfl, rfl, by unfold List.flatten RdL; trivial, fun _ => rfl, (by intro ad _ j u hu; simp at hu), by simp⟩
  · rename_i id len
    split at h
    · rename_i e' s z rows hb
      split at h
      · rename_i hc
        subst hc
        injection h with h
        subst h
        have hB := hH.blocks _ _ hb
        unfold RdC at hv
        unfold HasB at hB
        cases hid : ρ id with
        | dead => simp [hid] at hv
        | nil =>
          simp only [hid] at hv hB
          subst hB
          obtain ⟨_, A, rfl⟩ := hv
          exact ⟨A, 0, 0, [], rfl, rfl, by unfold List.flatten RdL; trivial, fun _ => rfl, (by intro ad _ j u hu; simp at hu), by simp⟩
        | lie g cap =>
          simp only [hid] at hv hB
          subst hv
          obtain ⟨xs, h1, h2, h3⟩ := hB
          obtain ⟨_, _, hcell⟩ := own_cells h1
          refine ⟨_, _, cap, xs, rfl, rfl, h2, (by intro h; cases h), ?_, by rw [h2.len, hlen rows hs]⟩
          intro ad had j u hu
          cases had
          rw [addAt, Nat.zero_add]
          exact hcell j u hu
      · cases h
    · cases h
  · cases h
theorem row_runs {o : Oper} {D : Delta} (h : rowD P st o.dst o.op = some D) : Runs P X st o D := by
  intro ρ a w hH
  obtain ⟨dst, op, type, pos, after, guard⟩ := o
  simp only at h
  unfold rowD at h
  split at h
  · rename_i t len ps
    split at h
    · rename_i d
      split at h
      · rename_i y hy
        split at h
        · rename_i e hd
          split at h
          · rename_i ye hye
            split at h
            · rename_i q hq
              split at h
              · rename_i hc
                injection h with h
                subst h
                obtain ⟨hc1, hc2, hc3, hc4⟩ := hc
                subst hc1
                obtain ⟨g1, g2, g3, g4⟩ := elems_rd hH hq
                obtain ⟨ps⟩ := ps
                simp only at g1 g3 g4 hq
                have hxl : (ps.flatMap fun p => (a.eval p.2).cells.toList).length = q.2.length * ye.size := by
                  have hs : ∀ p ∈ ps, (a.eval p.2).cells.size = ye.size := fun p hp => by
                    obtain ⟨i, hi⟩ := List.getElem?_of_mem hp
                    exact (g3 i p hi).2
                  rw [g4]
                  clear g1 g2 g3 g4 hq
                  induction ps with
                  | nil => simp
                  | cons p ps ih =>
                    rw [List.flatMap_cons, List.length_append, ih fun p hp => hs p (List.mem_cons_of_mem _ hp), List.length_cons, Nat.succ_mul]
                    have := hs p List.mem_cons_self
                    simp
                    omega
                have hm : q.2.length ≤ maxLen := by
                  unfold maxLen
                  have : q.2.length * 1 ≤ q.2.length * ye.size := Nat.mul_le_mul_left _ hc3
                  omega
                refine ⟨_, _, _, .inl ?_, new_arr hH d e g1 g2 hxl hm⟩
                have hu := ty_sl hy hd
                have hfl : ∀ cells : Array Value, cells.size = q.2.length * ye.size → Instr.fill (fun i => some (i * ye.size, ye.size)) cells (ps.map fun p => (p.1, a.eval p.2)) = some (ps.flatMap fun p => (a.eval p.2).cells.toList).toArray := fun cells hcs => by
                  rw [fill_eq, List.map_map]
                  have hz := zip_parts (size := ye.size) (fun p => (a.eval p.2).cells.toList) ps 0 (fun i p hp => ⟨(g3 i p hp).1, by simpa using (g3 i p hp).2⟩)
                  rw [show ((fun p : Nat × Value => (p.1, p.2.cells.toList)) ∘ fun p : Nat × Operand => (p.1, a.eval p.2)) = fun p => (p.1, (a.eval p.2).cells.toList) from rfl, hz,
                    fill_all _ 0 _ (by
                      intro v hv
                      obtain ⟨p, hp, rfl⟩ := List.mem_map.1 hv
                      obtain ⟨i, hi⟩ := List.getElem?_of_mem hp
                      simpa using (g3 i p hi).2) (by simp [hcs, g4])]
                  simp [List.flatMap]
                simp only [execOp, Instr.buildSlice, Sem.run_bind, run_underlying hu, Result.andThen_ok, ty_size hye, List.map_toArray]
                rw [if_neg (by omega)]
                by_cases hz : q.2.length * ye.size = 0
                · simp only [hz, if_true, Sem.run_bind, Sem.run_pure, Result.andThen_ok]
                  rw [hfl _ (by simp [hz])]
                  simp [newRow]
                · simp only [hz, if_false, Sem.run_bind, ty_zero hye, Sem.run_pure, Result.andThen_ok]
                  rw [hfl _ (by simp)]
                  simp [newRow]
              · cases h
            · cases h
          · cases h
        · cases h
      · cases h
    · cases h
  · rename_i s x t t'
    split at h
    · rename_i d
      split at h
      · rename_i htt
        subst htt
        split at h
        · rename_i y hy
          split at h
          · rename_i e hd
            split at h
            · rename_i ye hye
              split at h
              · rename_i c hc
                split at h
                · rename_i b hb
                  split at h
                  · rename_i c' hc'
                    split at h
                    · rename_i q hq
                      split at h
                      · rename_i hcond
                        injection h with h
                        subst h
                        obtain ⟨k1, k2, k3, k4, k5⟩ := hcond
                        have hv := ev_sound hH hc
                        have hx := ev_sound hH hc'
                        unfold RdV at hv hx
                        obtain ⟨A, m, cap, ys, hxe, hm, hrd', hnone, hcell, hyl⟩ := rows_rd hH hq hx k3
                        obtain ⟨dd, ii, hu, hii, hz0, hsz0, hby0, _, hdd⟩ := tyOf_inv hye
                        have hut := ty_sl hy hd
                        have EL : ElT P t e ye.zero ye.size ye.bytes := ⟨hut, ⟨ii, hii, hz0, hsz0, hby0⟩, k5, k4⟩
                        subst hm
                        obtain ⟨v', w', r, hrun, hbel, hfar, hrs, hform⟩ := app_all hH EL type hb hv (cs := ys) (ao := A) (m := q.2.length) (cc := cap) hnone hcell hyl hrd'.one k1 k2
                        rw [← hxe] at hrun
                        refine ⟨v', fun i => if i = d then r else if i ∈ b.1.toList then .dead else ρ i, w', .inl (by simp [execOp, resolve, invoke, builtin, hrun]), ?_⟩
                        have hevo : Evo X ρ w (fun i => if i = d then r else if i ∈ b.1.toList then .dead else ρ i) w' (b.1.toList ++ [d]) (b.1.toList ++ [d]) := by
                          refine ⟨hbel, fun k hk hcond => hfar k hk fun id c' hid => hcond id c' (List.mem_append_left _ hid), fun id hid => ?_, fun id k c hid hρ => ?_, fun i j k c c' hi hj => ?_⟩
                          · simp only [List.mem_append, List.mem_singleton, not_or] at hid
                            simp only [if_neg hid.2, if_neg hid.1]
                          · split at hρ
                            · rcases hform with ⟨_, _, h3⟩ | ⟨g, c', _, _, h3, h4, h5, h6, _⟩
                              · rw [h3] at hρ; cases hρ
                              · rw [h3] at hρ
                                injection hρ with hρ _
                                subst hρ
                                exact ⟨h4, h5, h6.imp (fun h => h) fun ⟨i, c2, _, h⟩ => ⟨i, c2, h⟩⟩
                            · rename_i hne'
                              rcases List.mem_append.1 hid with hid | hid
                              · rw [if_pos hid] at hρ; cases hρ
                              · exact absurd (List.mem_singleton.1 hid) hne'
                          · have oth : ∀ i k c, i ≠ d → (if i = d then r else if i ∈ b.1.toList then R.dead else ρ i) = .lie k c → ρ i = .lie k c ∧ i ∉ b.1.toList := fun i k c hid h => by
                              rw [if_neg hid] at h
                              split at h
                              · cases h
                              · exact ⟨h, by assumption⟩
                            have clash : ∀ i k c c', i ≠ d → (if i = d then r else if i ∈ b.1.toList then R.dead else ρ i) = .lie k c → r = .lie k c' → False := fun i k c c' hid h h' => by
                              obtain ⟨h1, h2⟩ := oth i k c hid h
                              rcases hform with ⟨_, _, h3⟩ | ⟨g, c2, _, _, h3, h4, h5, h6, _⟩
                              · rw [h3] at h'; cases h'
                              · rw [h3] at h'
                                injection h' with h' _
                                subst h'
                                rcases h6 with h6 | ⟨id, c3, h6, h7⟩
                                · have := (hH.ge i _ c h1).2; omega
                                · exact h2 (by rw [hH.inj i id _ _ _ h1 h7]; exact h6)
                            by_cases h1 : i = d <;> by_cases h2 : j = d
                            · rw [h1, h2]
                            · rw [if_pos h1] at hi
                              exact (clash j k c' c h2 hj hi).elim
                            · rw [if_pos h2] at hj
                              exact (clash i k c c' h1 hi hj).elim
                            · exact hH.inj i j k c c' (oth i k c h1 hi).1 (oth j k c' h2 hj).1
                        refine ⟨hevo, ?_, fun id B' hB => ?_⟩
                        · unfold RdV RdC
                          simp only [if_true]
                          rcases hform with ⟨h1, h2, h3⟩ | ⟨g, c2, _, h1, h3, _⟩
                          · rw [h3]; exact ⟨h2, h1⟩
                          · rw [h3]; exact h1
                        · obtain ⟨rfl, rfl⟩ := one_get hB
                          unfold HasB
                          simp only [if_true]
                          rcases hform with ⟨h1, h2, h3⟩ | ⟨g, c2, xs, h1, h3, _, _, _, hown', hrd⟩
                          · rw [h3]
                            simp only
                            exact List.eq_nil_of_length_eq_zero (by rw [List.length_append]; exact h2)
                          · rw [h3]
                            simp only
                            refine ⟨xs ++ ys, ?_, ?_, ?_⟩
                            · rw [List.length_append, ← h1]; exact hown'
                            · rw [List.flatten_append, ← h3]
                              exact (rdL_weak (fun h => (Bool.and_eq_true _ _ ▸ h).1) (hevo.rdL _ hrd)).append (rdL_weak (fun h => (Bool.and_eq_true _ _ ▸ h).2) (rdL_or (hevo.rdL _ hrd')))
                            · intro r' hr'
                              rcases List.mem_append.1 hr' with h | h
                              · exact hrs _ h
                              · exact k3 _ h
                      · cases h
                    · cases h
                  · cases h
                · cases h
              · cases h
            · cases h
          · cases h
        · cases h
      · cases h
    · cases h
  · cases h
end
end Go.Proofs.Ytoghgjobfcnneaa.Ax
