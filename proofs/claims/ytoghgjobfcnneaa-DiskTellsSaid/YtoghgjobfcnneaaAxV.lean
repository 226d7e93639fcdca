/- What is known of one's own as what anybody may read; functions by what they answer. -/
import Derived.Test.YtoghgjobfcnneaaAxM5
namespace Go.Proofs.Ytoghgjobfcnneaa.Ax
open Go.RowKit
mutual
/-- as a tree (fuel: how deep blocks are looked into) -/
def viewC (st : St) : Nat → C → Option (Bool × T)
  | _, .t z x => some (z, x)
  | _, .nil => some (true, .sl [])
  | _, .own id len => match get id st.bl with
    | some (.arr _ _ z rows) => if rows.length = len then some (z, .sl rows) else none
    | _ => none
  | n + 1, .optr id off => match get id st.bl with
    | some (.var _ cells) => match viewCs st n cells with
      | some (z, ts) => some (z, .ptr (ts.drop off))
      | none => none
    | _ => none
  | n + 1, .fn f caps => match viewCs st n caps with
    | some (z, ts) => some (z, .fn f ts)
    | none => none
  | _, _ => none
def viewCs (st : St) : Nat → List C → Option (Bool × List T)
  | _, [] => some (true, [])
  | 0, _ => none
  | n + 1, c :: cs => match viewC st n c with
    | some (z, t) => match viewCs st n cs with
      | some (z', ts) => some (z && z', t :: ts)
      | none => none
    | none => none
end
def deadR : Nat → R := fun _ => .dead
section
variable {w w' : World} {ρ : Nat → R} {P : Program} {X : Cx} {st : St} {a : Act}
theorem ok_dead {z : Bool} {b : Nat} (h : okOf X ρ w z b) : okOf X deadR w z b := ⟨h.1, h.2.1, fun _ _ _ h => by cases h⟩
theorem ok_own (hH : Hold X st ρ a w) {id b cap : Nat} (h : ρ id = .lie b cap) (z : Bool) : okOf X deadR w z b := ⟨.inl (hH.ge id b cap h).1, (hH.ge id b cap h).2, fun _ _ _ h => by cases h⟩
theorem rdT_dead {z : Bool} {t : T} {x : Value} (h : RdT w (okOf X ρ w z) t x) : RdT w (okOf X deadR w z) t x := h.mono fun _ hb => ⟨ok_dead hb, rfl⟩
theorem rdL_dead {z : Bool} {t : List T} {x : List Value} (h : RdL w (okOf X ρ w z) t x) : RdL w (okOf X deadR w z) t x := h.mono fun _ hb => ⟨ok_dead hb, rfl⟩
mutual
theorem view_rd (hH : Hold X st ρ a w) : ∀ {n : Nat} {c : C} {q : Bool × T} {x : Value}, viewC st n c = some q → RdC w (okOf X ρ w) ρ c x → RdT w (okOf X deadR w q.1) q.2 x
  | _, .t z t, q, x, h, hx => by
    simp only [viewC, Option.some.injEq] at h
    subst h
    unfold RdC at hx
    exact rdT_dead hx
  | _, .nil, q, x, h, hx => by
    simp only [viewC, Option.some.injEq] at h
    subst h
    unfold RdC at hx
    unfold RdT
    obtain ⟨A, hA⟩ := hx
    exact ⟨A, 0, 0, hA, rfl, Nat.le_refl _, .inl rfl⟩
  | _, .own id len, q, x, h, hx => by
    simp only [viewC] at h
    split at h
    · rename_i e s z rows hb
      split at h
      · rename_i hl
        injection h with h
        subst h
        subst hl
        have hB := hH.blocks _ _ hb
        unfold RdC at hx
        unfold HasB at hB
        unfold RdT
        cases hid : ρ id with
        | dead => simp [hid] at hx
        | nil =>
          simp only [hid] at hx hB
          obtain ⟨h1, A, hA⟩ := hx
          exact ⟨A, 0, 0, hA, h1, Nat.le_refl _, .inl rfl⟩
        | lie g cap =>
          simp only [hid] at hx hB
          obtain ⟨xs, h1, h2, h3⟩ := hB
          obtain ⟨_, hc, hcell⟩ := own_cells h1
          refine ⟨_, _, _, hx, rfl, hc, .inr ⟨g, 0, s, rfl, ok_own hH hid z, RdRows.mk (rdL_dead h2) h3 fun j u hu => by rw [Nat.zero_add]; exact hcell j u hu⟩⟩
      · cases h
    · cases h
  | n + 1, .optr id off, q, x, h, hx => by
    simp only [viewC] at h
    split at h
    · rename_i e cells hb
      split at h
      · rename_i z ts hv
        injection h with h
        subst h
        obtain ⟨b, cap, hid, xs, hheap, hcs⟩ := hH.blocks _ _ hb
        unfold RdC at hx
        rw [hid] at hx
        simp only at hx
        have := views_rd hH hv hcs
        unfold RdT
        refine ⟨b, off, hx, ok_own hH hid z, ?_⟩
        have h1 : RdRow w (okOf X deadR w z) b 0 ts := RdRow.mk this fun j u hu => by
          rw [Nat.zero_add, cell_of_row w b j xs e (0, 0) hheap]
          simpa using hu
        have h2 := h1.drop off
        rwa [Nat.zero_add] at h2
      · cases h
    · cases h
  | n + 1, .fn f caps, q, x, h, hx => by
    simp only [viewC] at h
    split at h
    · rename_i z ts hv
      injection h with h
      subst h
      unfold RdC at hx
      obtain ⟨xs, h1, h2⟩ := hx
      unfold RdT
      exact ⟨xs, h1, views_rd hH hv h2⟩
    · cases h
  | 0, .optr _ _, _, _, h, _ => by simp [viewC] at h
  | 0, .fn _ _, _, _, h, _ => by simp [viewC] at h
  | _, .eptr _ _ _ _, _, _, h, _ => by simp [viewC] at h
  | _, .junk, _, _, h, _ => by simp [viewC] at h
theorem views_rd (hH : Hold X st ρ a w) : ∀ {n : Nat} {cs : List C} {q : Bool × List T} {xs : List Value}, viewCs st n cs = some q → RdCs w (okOf X ρ w) ρ cs xs → RdL w (okOf X deadR w q.1) q.2 xs
  | _, [], q, xs, h, hx => by
    simp only [viewCs, Option.some.injEq] at h
    subst h
    cases xs with
    | nil => unfold RdL; trivial
    | cons => unfold RdCs at hx; exact hx.elim
  | 0, _ :: _, _, _, h, _ => by simp [viewCs] at h
  | n + 1, c :: cs, q, xs, h, hx => by
    simp only [viewCs] at h
    split at h
    · rename_i z t hv
      split at h
      · rename_i z' ts hvs
        injection h with h
        subst h
        cases xs with
        | nil => unfold RdCs at hx; exact hx.elim
        | cons u xs =>
          unfold RdCs at hx
          unfold RdL
          exact ⟨rdT_weak (fun h => (Bool.and_eq_true _ _ ▸ h).1) (view_rd hH hv hx.1), rdL_weak (fun h => (Bool.and_eq_true _ _ ▸ h).2) (views_rd hH hvs hx.2)⟩
      · cases h
    · cases h
end
end
/-- an argument -/
inductive A where
  | one (x : T)
  | agg (xs : List T)
def RdA (w : World) (ok : Nat → Prop) : A → Value → Prop
  | .one t, x => RdT w ok t x
  | .agg ts, x => ∃ xs, x = .agg xs ∧ RdL w ok ts xs.toList
def RdAs (w : World) (ok : Nat → Prop) : List A → List Value → Prop
  | [], [] => True
  | c :: cs, x :: xs => RdA w ok c x ∧ RdAs w ok cs xs
  | _, _ => False
theorem RdA.mono {w w' : World} {ok ok' : Nat → Prop} (h : ∀ b, ok b → ok' b ∧ w'.heap[b]? = w.heap[b]?) {t : A} {x : Value} (hr : RdA w ok t x) : RdA w' ok' t x := by
  cases t <;> unfold RdA at hr ⊢
  · exact hr.mono h
  · obtain ⟨xs, h1, h2⟩ := hr; exact ⟨xs, h1, h2.mono h⟩
theorem RdAs.mono {w w' : World} {ok ok' : Nat → Prop} (h : ∀ b, ok b → ok' b ∧ w'.heap[b]? = w.heap[b]?) : ∀ {ts : List A} {xs : List Value}, RdAs w ok ts xs → RdAs w' ok' ts xs
  | [], [], _ => by unfold RdAs; trivial
  | _ :: _, _ :: _, hr => by unfold RdAs at hr ⊢; exact ⟨hr.1.mono h, RdAs.mono h hr.2⟩
  | [], _ :: _, hr => by unfold RdAs at hr; exact hr.elim
  | _ :: _, [], hr => by unfold RdAs at hr; exact hr.elim
/-- a result's trees lie in new memory -/
def C.fresh : C → Bool
  | .t z _ => z
  | .nil => true
  | _ => false
mutual
def V.fresh : V → Bool
  | .one c => c.fresh
  | .agg cs => cs.all C.fresh
  | .tup vs => V.freshs vs
  | .junk => true
def V.freshs : List V → Bool
  | [] => true
  | v :: vs => v.fresh && V.freshs vs
end
def B.fresh : B → Bool
  | .arr _ _ z _ => z
  | .var _ cells => cells.all C.fresh
/-- what a call comes to: nb: blocks of its own that it hands over -/
def Post (w : World) (S : Nat → Prop) (hS : ∀ b, S b → b < w.heap.size) (res : V) (nb : List (Nat × B)) (e : Ending) (w' : World) : Prop :=
  ∃ x ρ, e = .returned x ∧ Below w.heap.size w w' ∧ (∀ id b cap, ρ id = .lie b cap → w.heap.size ≤ b ∧ b < w'.heap.size) ∧ (∀ i j b c d, ρ i = .lie b c → ρ j = .lie b d → i = j) ∧
    (∀ id, id ∉ nb.map (·.1) → ρ id = .dead) ∧ RdV w' (okOf ⟨w, S, hS, 0⟩ ρ w') ρ res x ∧ ∀ id b, get id nb = some b → HasB ⟨w, S, hS, 0⟩ w' ρ id b
/-- function f, handed these, answers this, and nothing that was there has turned -/
structure Sp (P : Program) (f : FuncId) (args : List A) (res : V) (nb : List (Nat × B)) : Prop where
  enters : Enters P f
  calls : ∀ (w : World) (S : Nat → Prop) (hS : ∀ b, S b → b < w.heap.size) (vs : List Value), RdAs w S args vs → Calls P f vs.toArray w (Post w S hS res nb)
def argV (st : St) (n : Nat) : V → Option A
  | .one c => match viewC st n c with
    | some q => some (.one q.2)
    | none => none
  | .agg cs => match viewCs st n cs with
    | some q => some (.agg q.2)
    | none => none
  | _ => none
def argsV (st : St) (n : Nat) : List Operand → Option (List A)
  | [] => some []
  | x :: xs => match ev st x with
    | some v => match argV st n v with
      | some a => match argsV st n xs with
        | some q => some (a :: q)
        | none => none
      | none => none
    | none => none
def calleeV (st : St) (n : Nat) (c : Operand) : Option (FuncId × List A) :=
  match ev st c with
  | some (.one (.t _ (.fn f ts))) => some (f, ts.map A.one)
  | some (.one (.fn f cs)) => match viewCs st n cs with
    | some q => some (f, q.2.map A.one)
    | none => none
  | _ => none
/-- does it name no block of the call's own? -/
def C.free : C → Bool
  | .t _ _ => true
  | .nil => true
  | _ => false
def V.free : V → Bool
  | .one c => c.free
  | .agg cs => cs.all C.free
  | _ => false
def freeOps (st : St) (xs : List Operand) : Bool := xs.all fun x => match ev st x with
  | some v => v.free
  | none => false
section
variable {w w' : World} {ρ : Nat → R} {P : Program} {X : Cx} {st : St} {a : Act}
theorem ok_all {z : Bool} {b : Nat} (h : okOf X deadR w z b) : b < w.heap.size := h.2.1
theorem argV_rd (hH : Hold X st ρ a w) {n : Nat} {v : V} {q : A} {x : Value} (h : argV st n v = some q) (hx : RdV w (okOf X ρ w) ρ v x) : RdA w (fun b => b < w.heap.size) q x := by
  unfold argV at h
  split at h
  · split at h
    · rename_i r hr
      injection h with h
      subst h
      unfold RdV at hx
      unfold RdA
      exact (view_rd hH hr hx).mono fun b hb => ⟨ok_all hb, rfl⟩
    · cases h
  · split at h
    · rename_i r hr
      injection h with h
      subst h
      unfold RdV at hx
      obtain ⟨xs, h1, h2⟩ := hx
      unfold RdA
      exact ⟨xs, h1, (views_rd hH hr h2).mono fun b hb => ⟨ok_all hb, rfl⟩⟩
    · cases h
  · cases h
theorem argsV_rd (hH : Hold X st ρ a w) {n : Nat} : ∀ {os : List Operand} {qa : List A}, argsV st n os = some qa → RdAs w (fun b => b < w.heap.size) qa (os.map a.eval)
  | [], qa, h => by
    simp only [argsV, Option.some.injEq] at h
    subst h
    rw [List.map_nil]; unfold RdAs; trivial
  | x :: xs, qa, h => by
    simp only [argsV] at h
    split at h
    · rename_i v hv
      split at h
      · rename_i q hq
        split at h
        · rename_i qs hqs
          injection h with h
          subst h
          rw [List.map_cons]
          unfold RdAs
          exact ⟨argV_rd hH hq (ev_sound hH hv), argsV_rd hH hqs⟩
        · cases h
      · cases h
    · cases h
theorem free_rd {n : Nat} {c : C} {q : Bool × T} {x : Value} (hf : c.free = true) (h : viewC st n c = some q) (hx : RdC w (okOf X ρ w) ρ c x) : RdT w (okOf X ρ w false) q.2 x := by
  cases c <;> simp only [C.free] at hf <;> try (cases hf)
  · simp only [viewC, Option.some.injEq] at h
    subst h
    unfold RdC at hx
    exact rdT_weak (by intro h; cases h) hx
  · simp only [viewC, Option.some.injEq] at h
    subst h
    unfold RdC at hx
    unfold RdT
    obtain ⟨A, hA⟩ := hx
    exact ⟨A, 0, 0, hA, rfl, Nat.le_refl _, .inl rfl⟩
theorem frees_rd : ∀ {n : Nat} {cs : List C} {q : Bool × List T} {xs : List Value}, cs.all C.free = true → viewCs st n cs = some q → RdCs w (okOf X ρ w) ρ cs xs → RdL w (okOf X ρ w false) q.2 xs
  | _, [], q, xs, _, h, hx => by
    simp only [viewCs, Option.some.injEq] at h
    subst h
    cases xs with
    | nil => unfold RdL; trivial
    | cons => unfold RdCs at hx; exact hx.elim
  | 0, _ :: _, _, _, _, h, _ => by simp [viewCs] at h
  | n + 1, c :: cs, q, xs, hf, h, hx => by
    rw [List.all_cons, Bool.and_eq_true] at hf
    simp only [viewCs] at h
    split at h
    · rename_i z t hv
      split at h
      · rename_i z' ts hvs
        injection h with h
        subst h
        cases xs with
        | nil => unfold RdCs at hx; exact hx.elim
        | cons u xs =>
          unfold RdCs at hx
          unfold RdL
          exact ⟨free_rd hf.1 hv hx.1, frees_rd hf.2 hvs hx.2⟩
      · cases h
    · cases h
theorem argF_rd {n : Nat} {v : V} {q : A} {x : Value} (hf : v.free = true) (h : argV st n v = some q) (hx : RdV w (okOf X ρ w) ρ v x) : RdA w (okOf X ρ w false) q x := by
  unfold argV at h
  split at h
  · split at h
    · rename_i r hr
      injection h with h
      subst h
      unfold RdV at hx
      unfold RdA
      exact free_rd hf hr hx
    · cases h
  · split at h
    · rename_i r hr
      injection h with h
      subst h
      unfold RdV at hx
      obtain ⟨xs, h1, h2⟩ := hx
      unfold RdA
      exact ⟨xs, h1, frees_rd hf hr h2⟩
    · cases h
  · cases h
theorem argsF_rd (hH : Hold X st ρ a w) {n : Nat} : ∀ {os : List Operand} {qa : List A}, freeOps st os = true → argsV st n os = some qa → RdAs w (okOf X ρ w false) qa (os.map a.eval)
  | [], qa, _, h => by
    simp only [argsV, Option.some.injEq] at h
    subst h
    rw [List.map_nil]; unfold RdAs; trivial
  | x :: xs, qa, hf, h => by
    simp only [argsV] at h
    unfold freeOps at hf
    rw [List.all_cons, Bool.and_eq_true] at hf
    split at h
    · rename_i v hv
      split at h
      · rename_i q hq
        split at h
        · rename_i qs hqs
          injection h with h
          subst h
          rw [List.map_cons]
          unfold RdAs
          have h1 := hf.1
          simp only [hv] at h1
          exact ⟨argF_rd h1 hq (ev_sound hH hv), argsF_rd hH hf.2 hqs⟩
        · cases h
      · cases h
    · cases h
theorem RdAs.append {ok : Nat → Prop} : ∀ {cs ds : List A} {xs ys : List Value}, RdAs w ok cs xs → RdAs w ok ds ys → RdAs w ok (cs ++ ds) (xs ++ ys)
  | [], _, [], _, _, h2 => by simpa using h2
  | c :: cs, ds, x :: xs, ys, h, h2 => by
    unfold RdAs at h
    rw [List.cons_append, List.cons_append]
    unfold RdAs
    exact ⟨h.1, RdAs.append h.2 h2⟩
  | [], _, _ :: _, _, h, _ => by unfold RdAs at h; exact h.elim
  | _ :: _, _, [], _, h, _ => by unfold RdAs at h; exact h.elim
theorem RdL.toA {ok : Nat → Prop} : ∀ {ts : List T} {xs : List Value}, RdL w ok ts xs → RdAs w ok (ts.map A.one) xs
  | [], [], _ => by rw [List.map_nil]; unfold RdAs; trivial
  | _ :: _, _ :: _, h => by
    unfold RdL at h
    rw [List.map_cons]
    unfold RdAs RdA
    exact ⟨h.1, RdL.toA h.2⟩
  | [], _ :: _, h => by unfold RdL at h; exact h.elim
  | _ :: _, [], h => by unfold RdL at h; exact h.elim
end
end Go.Proofs.Ytoghgjobfcnneaa.Ax
