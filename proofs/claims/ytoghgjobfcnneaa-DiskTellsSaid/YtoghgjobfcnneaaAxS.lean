/- What is known of a frame and of the call's own blocks. -/
import Derived.Test.YtoghgjobfcnneaaAxT
namespace Go.Proofs.Ytoghgjobfcnneaa.Ax
open Go.RowKit
/-- where one of the call's own blocks lies -/
inductive R where
  | dead
  | nil
  | lie (b cap : Nat)
/-- what a cell holds; z: it reads out of memory of the call's own -/
inductive C where
  | t (z : Bool) (x : T)
  | nil
  | own (id len : Nat)
  | optr (id off : Nat)
  | eptr (id k s j : Nat)
  | fn (f : FuncId) (caps : List C)
  | junk
mutual
def RdC (w : World) (ok : Bool → Nat → Prop) (ρ : Nat → R) : C → Value → Prop
  | .t z x, v => RdT w (ok z) x v
  | .nil, v => ∃ A, v = .slice A 0 0
  | .own id len, v => match ρ id with
    | .dead => False
    | .nil => len = 0 ∧ ∃ A, v = .slice A 0 0
    | .lie b cap => v = .slice (some ⟨b, 0, none⟩) len cap
  | .optr id off, v => match ρ id with
    | .lie b _ => v = .pointer (some ⟨b, off, none⟩)
    | _ => False
  | .eptr id k s j, v => match ρ id with
    | .lie b _ => v = .pointer (some ⟨b, k * s + j, none⟩)
    | _ => False
  | .fn f caps, v => ∃ xs, v = .func (.func f) #[] xs ∧ RdCs w ok ρ caps xs.toList
  | .junk, v => v.oneCell' = true
def RdCs (w : World) (ok : Bool → Nat → Prop) (ρ : Nat → R) : List C → List Value → Prop
  | [], [] => True
  | c :: cs, x :: xs => RdC w ok ρ c x ∧ RdCs w ok ρ cs xs
  | _, _ => False
end
/-- what a temporary holds -/
inductive V where
  | one (c : C)
  | agg (cs : List C)
  | tup (vs : List V)
  | junk
mutual
def RdV (w : World) (ok : Bool → Nat → Prop) (ρ : Nat → R) : V → Value → Prop
  | .one c, x => RdC w ok ρ c x
  | .agg cs, x => ∃ xs, x = .agg xs ∧ RdCs w ok ρ cs xs.toList
  | .tup vs, x => ∃ xs, x = .tuple xs ∧ RdVs w ok ρ vs xs.toList
  | .junk, _ => True
def RdVs (w : World) (ok : Bool → Nat → Prop) (ρ : Nat → R) : List V → List Value → Prop
  | [], [] => True
  | c :: cs, x :: xs => RdV w ok ρ c x ∧ RdVs w ok ρ cs xs
  | _, _ => False
end
mutual
/-- does it name one of these blocks? -/
def C.ment (ids : List Nat) : C → Bool
  | .own i _ | .optr i _ | .eptr i _ _ _ => ids.contains i
  | .fn _ caps => C.ments ids caps
  | _ => false
def C.ments (ids : List Nat) : List C → Bool
  | [] => false
  | c :: cs => c.ment ids || C.ments ids cs
end
mutual
def V.ment (ids : List Nat) : V → Bool
  | .one c => c.ment ids
  | .agg cs => C.ments ids cs
  | .tup vs => V.ments ids vs
  | .junk => false
def V.ments (ids : List Nat) : List V → Bool
  | [] => false
  | c :: cs => c.ment ids || V.ments ids cs
end
def C.kill (ids : List Nat) (c : C) : C := if c.ment ids then .junk else c
section
variable {w w' : World} {ok ok' : Bool → Nat → Prop} {ρ ρ' : Nat → R} {ids : List Nat}
theorem RdT.oneCell {w : World} {ok : Nat → Prop} {t : T} {x : Value} (h : RdT w ok t x) : x.oneCell' = true := by
  cases t <;> unfold RdT at h
  · rw [h.1]; exact h.2
  · obtain ⟨A, n, c, rfl, _⟩ := h; rfl
  · obtain ⟨b, o, rfl, _⟩ := h; rfl
  · obtain ⟨xs, rfl, _⟩ := h; rfl
theorem RdC.oneCell {c : C} {x : Value} (h : RdC w ok ρ c x) : x.oneCell' = true := by
  cases c <;> unfold RdC at h
  · exact h.oneCell
  · obtain ⟨A, rfl⟩ := h; rfl
  · split at h
    · exact h.elim
    · obtain ⟨_, A, rfl⟩ := h; rfl
    · rw [h]; rfl
  · split at h
    · rw [h]; rfl
    · exact h.elim
  · split at h
    · rw [h]; rfl
    · exact h.elim
  · obtain ⟨xs, rfl, _⟩ := h; rfl
  · exact h
mutual
theorem RdC.mono (hT : ∀ z t x, RdT w (ok z) t x → RdT w' (ok' z) t x) (hρ : ∀ id, id ∉ ids → ρ' id = ρ id) : ∀ {c : C} {x : Value}, c.ment ids = false → RdC w ok ρ c x → RdC w' ok' ρ' c x
  | .t z t, x, _, h => by unfold RdC at h ⊢; exact hT _ _ _ h
  | .nil, x, _, h => by unfold RdC at h ⊢; exact h
  | .own id len, x, hm, h => by
    unfold RdC at h ⊢
    rw [hρ id (by simpa [C.ment] using hm)]
    exact h
  | .optr id off, x, hm, h => by
    unfold RdC at h ⊢
    rw [hρ id (by simpa [C.ment] using hm)]
    exact h
  | .eptr id k s j, x, hm, h => by
    unfold RdC at h ⊢
    rw [hρ id (by simpa [C.ment] using hm)]
    exact h
  | .fn f caps, x, hm, h => by
    unfold RdC at h ⊢
    obtain ⟨xs, h1, h2⟩ := h
    exact ⟨xs, h1, RdCs.mono hT hρ (by simpa [C.ment] using hm) h2⟩
  | .junk, x, _, h => by unfold RdC at h ⊢; exact h
theorem RdCs.mono (hT : ∀ z t x, RdT w (ok z) t x → RdT w' (ok' z) t x) (hρ : ∀ id, id ∉ ids → ρ' id = ρ id) : ∀ {cs : List C} {xs : List Value}, C.ments ids cs = false → RdCs w ok ρ cs xs → RdCs w' ok' ρ' cs xs
  | [], [], _, _ => by unfold RdCs; trivial
  | c :: cs, x :: xs, hm, h => by
    unfold RdCs at h ⊢
    simp only [C.ments, Bool.or_eq_false_iff] at hm
    exact ⟨RdC.mono hT hρ hm.1 h.1, RdCs.mono hT hρ hm.2 h.2⟩
  | [], _ :: _, _, h => by unfold RdCs at h; exact h.elim
  | _ :: _, [], _, h => by unfold RdCs at h; exact h.elim
end
mutual
theorem RdV.mono (hT : ∀ z t x, RdT w (ok z) t x → RdT w' (ok' z) t x) (hρ : ∀ id, id ∉ ids → ρ' id = ρ id) : ∀ {c : V} {x : Value}, c.ment ids = false → RdV w ok ρ c x → RdV w' ok' ρ' c x
  | .one c, x, hm, h => by unfold RdV at h ⊢; exact RdC.mono hT hρ (by simpa [V.ment] using hm) h
  | .agg cs, x, hm, h => by
    unfold RdV at h ⊢
    obtain ⟨xs, h1, h2⟩ := h
    exact ⟨xs, h1, RdCs.mono hT hρ (by simpa [V.ment] using hm) h2⟩
  | .tup vs, x, hm, h => by
    unfold RdV at h ⊢
    obtain ⟨xs, h1, h2⟩ := h
    exact ⟨xs, h1, RdVs.mono hT hρ (by simpa [V.ment] using hm) h2⟩
  | .junk, x, _, _ => by unfold RdV; trivial
theorem RdVs.mono (hT : ∀ z t x, RdT w (ok z) t x → RdT w' (ok' z) t x) (hρ : ∀ id, id ∉ ids → ρ' id = ρ id) : ∀ {cs : List V} {xs : List Value}, V.ments ids cs = false → RdVs w ok ρ cs xs → RdVs w' ok' ρ' cs xs
  | [], [], _, _ => by unfold RdVs; trivial
  | c :: cs, x :: xs, hm, h => by
    unfold RdVs at h ⊢
    simp only [V.ments, Bool.or_eq_false_iff] at hm
    exact ⟨RdV.mono hT hρ hm.1 h.1, RdVs.mono hT hρ hm.2 h.2⟩
  | [], _ :: _, _, h => by unfold RdVs at h; exact h.elim
  | _ :: _, [], _, h => by unfold RdVs at h; exact h.elim
end
theorem RdC.kill (hT : ∀ z t x, RdT w (ok z) t x → RdT w' (ok' z) t x) (hρ : ∀ id, id ∉ ids → ρ' id = ρ id) {c : C} {x : Value} (h : RdC w ok ρ c x) : RdC w' ok' ρ' (c.kill ids) x := by
  unfold C.kill
  split
  · unfold RdC; exact h.oneCell
  · rename_i hm; exact RdC.mono hT hρ (by simpa using hm) h
theorem RdCs.kill (hT : ∀ z t x, RdT w (ok z) t x → RdT w' (ok' z) t x) (hρ : ∀ id, id ∉ ids → ρ' id = ρ id) : ∀ {cs : List C} {xs : List Value}, RdCs w ok ρ cs xs → RdCs w' ok' ρ' (cs.map (C.kill ids)) xs
  | [], [], _ => by rw [List.map_nil]; unfold RdCs; trivial
  | c :: cs, x :: xs, h => by
    rw [List.map_cons]
    unfold RdCs at h ⊢
    exact ⟨RdC.kill hT hρ h.1, RdCs.kill hT hρ h.2⟩
  | [], _ :: _, h => by unfold RdCs at h; exact h.elim
  | _ :: _, [], h => by unfold RdCs at h; exact h.elim
end
/-- one of the call's own blocks: a row of elements, or a variable -/
inductive B where
  | arr (e : TypeId) (size : Nat) (z : Bool) (rows : List (List T))
  | var (e : TypeId) (cells : List C)
def get {α : Type} (t : Nat) : List (Nat × α) → Option α
  | [] => none
  | (k, v) :: l => if t = k then some v else get t l
structure St where
  sl : List (Nat × V)
  bl : List (Nat × B)
/-- the call's surroundings: the world when it began; blocks that its arguments read out of; how many temporaries -/
structure Cx where
  base : World
  S : Nat → Prop
  sub : ∀ b, S b → b < base.heap.size
  n : Nat
def okOf (X : Cx) (ρ : Nat → R) (w : World) (z : Bool) (b : Nat) : Prop :=
  (X.base.heap.size ≤ b ∨ z = false ∧ X.S b) ∧ b < w.heap.size ∧ ∀ id b' cap, ρ id = .lie b' cap → b' ≠ b
def HasB (X : Cx) (w : World) (ρ : Nat → R) (id : Nat) : B → Prop
  | .arr e size z rows => match ρ id with
    | .dead => False
    | .nil => rows = []
    | .lie b cap => ∃ xs, w.ownsRow X.base.heap.size e size (.slice (some ⟨b, 0, none⟩) rows.length cap) rows.length xs ∧ RdL w (okOf X ρ w z) rows.flatten xs ∧ ∀ r ∈ rows, r.length = size
  | .var e cells => ∃ b cap, ρ id = .lie b cap ∧ ∃ xs, w.heap[b]? = some (.cells xs e (0, 0)) ∧ RdCs w (okOf X ρ w) ρ cells xs.toList
structure Hold (X : Cx) (st : St) (ρ : Nat → R) (a : Act) (w : World) : Prop where
  defers : a.defers = []
  size : a.tmps.size = X.n
  below : Below X.base.heap.size X.base w
  ge : ∀ id b cap, ρ id = .lie b cap → X.base.heap.size ≤ b ∧ b < w.heap.size
  inj : ∀ i j b c d, ρ i = .lie b c → ρ j = .lie b d → i = j
  slots : ∀ t v, get t st.sl = some v → ∃ x, a.tmps[t]? = some x ∧ RdV w (okOf X ρ w) ρ v x
  blocks : ∀ id B, get id st.bl = some B → HasB X w ρ id B
/-- how memory goes on: ch: blocks whose cells turn; kl: blocks that are others now -/
structure Evo (X : Cx) (ρ : Nat → R) (w : World) (ρ' : Nat → R) (w' : World) (ch kl : List Nat) : Prop where
  below : Below X.base.heap.size w w'
  heap : ∀ b, b < w.heap.size → (∀ id cap, id ∈ ch → ρ id ≠ .lie b cap) → w'.heap[b]? = w.heap[b]?
  rho : ∀ id, id ∉ kl → ρ' id = ρ id
  new : ∀ id b cap, id ∈ kl → ρ' id = .lie b cap → X.base.heap.size ≤ b ∧ b < w'.heap.size ∧ (w.heap.size ≤ b ∨ ∃ j c, ρ j = .lie b c)
  inj : ∀ i j b c d, ρ' i = .lie b c → ρ' j = .lie b d → i = j
section
variable {X : Cx} {st : St} {ρ ρ' : Nat → R} {a : Act} {w w' : World} {ch kl : List Nat}
theorem Evo.refl (h : Hold X st ρ a w) : Evo X ρ w ρ w [] [] := ⟨Below.refl _ _, fun _ _ _ => rfl, fun _ _ => rfl, (fun _ _ _ h => by cases h), h.inj⟩
theorem Evo.okT (h : Evo X ρ w ρ' w' ch kl) (z : Bool) (b : Nat) (hb : okOf X ρ w z b) : okOf X ρ' w' z b ∧ w'.heap[b]? = w.heap[b]? := by
  obtain ⟨h1, h2, h3⟩ := hb
  refine ⟨⟨h1, Nat.lt_of_lt_of_le h2 h.below.size, fun id b' cap hid e => ?_⟩, h.heap b h2 fun id cap _ hid => h3 id b cap hid rfl⟩
  subst e
  by_cases hm : id ∈ kl
  · rcases (h.new id _ cap hm hid).2.2 with hn | ⟨j, c, hj⟩
    · omega
    · exact h3 j _ c hj rfl
  · rw [h.rho id hm] at hid
    exact h3 id _ cap hid rfl
theorem Evo.rdT (h : Evo X ρ w ρ' w' ch kl) (z : Bool) (t : T) (x : Value) (hr : RdT w (okOf X ρ w z) t x) : RdT w' (okOf X ρ' w' z) t x := hr.mono fun b hb => h.okT z b hb
theorem Evo.rdL (h : Evo X ρ w ρ' w' ch kl) (z : Bool) {l : List T} {xs : List Value} (hr : RdL w (okOf X ρ w z) l xs) : RdL w' (okOf X ρ' w' z) l xs := hr.mono fun b hb => h.okT z b hb
theorem Evo.rdV (h : Evo X ρ w ρ' w' ch kl) {v : V} {x : Value} (hm : v.ment kl = false) (hr : RdV w (okOf X ρ w) ρ v x) : RdV w' (okOf X ρ' w') ρ' v x := hr.mono h.rdT h.rho hm
theorem Evo.rdCs (h : Evo X ρ w ρ' w' ch kl) {v : List C} {x : List Value} (hm : C.ments kl v = false) (hr : RdCs w (okOf X ρ w) ρ v x) : RdCs w' (okOf X ρ' w') ρ' v x := hr.mono h.rdT h.rho hm
def B.kill (kl : List Nat) : B → B
  | .arr e s z rows => .arr e s z rows
  | .var e cells => .var e (cells.map (C.kill kl))
theorem Evo.hasB (h : Evo X ρ w ρ' w' ch kl) (hH : Hold X st ρ a w) {id : Nat} {b : B} (hc : id ∉ ch) (hk : id ∉ kl) (hb : HasB X w ρ id b) : HasB X w' ρ' id (b.kill kl) := by
  have hr := h.rho id hk
  cases b with
  | arr e s z rows =>
    unfold B.kill
    unfold HasB at hb ⊢
    rw [hr]
    cases hid : ρ id with
    | dead => simp only [hid] at hb
    | nil => simp only [hid] at hb ⊢; exact hb
    | lie b cap =>
      simp only [hid] at hb ⊢
      obtain ⟨xs, h1, h2, h3⟩ := hb
      have hheap : w'.heap[b]? = w.heap[b]? := h.heap b (hH.ge id b cap hid).2 fun j c hj hjb => hc (hH.inj _ _ _ _ _ hid hjb ▸ hj)
      refine ⟨xs, ⟨h1.1, ?_⟩, h.rdL z h2, h3⟩
      rcases h1.2 with h4 | ⟨g, cap', cur, h5, h6, h7, h8⟩
      · exact .inl h4
      · cases h5
        exact .inr ⟨_, _, cur, rfl, h6, hheap.trans h7, h8⟩
  | var e cells =>
    unfold B.kill
    unfold HasB at hb ⊢
    obtain ⟨b, cap, hid, xs, h1, h2⟩ := hb
    have hheap : w'.heap[b]? = w.heap[b]? := h.heap b (hH.ge id b cap hid).2 fun j c hj hjb => hc (hH.inj _ _ _ _ _ hid hjb ▸ hj)
    exact ⟨b, cap, hr.trans hid, xs, hheap.trans h1, RdCs.kill h.rdT h.rho h2⟩
/-- a temporary is written -/
def St.put (st : St) : Option Tmp → V → St
  | some d, v => ⟨(d, v) :: st.sl, st.bl⟩
  | none, _ => st
def V.kill (ids : List Nat) (v : V) : V := if v.ment ids then .junk else v
/-- blocks turn -/
def St.turn (st : St) (ch kl : List Nat) (nb : List (Nat × B)) : St :=
  ⟨st.sl.map fun p => (p.1, p.2.kill kl), nb ++ (st.bl.filter fun p => !(ch.contains p.1 || kl.contains p.1)).map fun p => (p.1, p.2.kill kl)⟩
theorem get_map {α β : Type} {f : α → β} {t : Nat} {v : β} : ∀ {l : List (Nat × α)}, get t (l.map fun p => (p.1, f p.2)) = some v → ∃ u, get t l = some u ∧ v = f u
  | [], h => by cases h
  | (k, u) :: l, h => by
    rw [List.map_cons] at h
    unfold get at h ⊢
    split at h
    · rename_i hk
      rw [if_pos hk]
      exact ⟨u, rfl, by injection h with h; exact h.symm⟩
    · rename_i hk
      rw [if_neg hk]
      exact get_map h
theorem get_filter {α : Type} {p : Nat → Bool} {t : Nat} {v : α} : ∀ {l : List (Nat × α)}, get t (l.filter fun q => p q.1) = some v → get t l = some v ∧ p t = true
  | [], h => by cases h
  | (k, u) :: l, h => by
    rw [List.filter_cons] at h
    split at h
    · rename_i hp
      unfold get at h ⊢
      split at h
      · rename_i hk
        subst hk
        rw [if_pos rfl]
        exact ⟨h, hp⟩
      · rename_i hk
        rw [if_neg hk]
        exact get_filter h
    · rename_i hp
      obtain ⟨h1, h2⟩ := get_filter h
      unfold get
      split
      · rename_i hk
        subst hk
        exact absurd h2 hp
      · exact ⟨h1, h2⟩
theorem get_append {α : Type} {t : Nat} {v : α} : ∀ {l r : List (Nat × α)}, get t (l ++ r) = some v → get t l = some v ∨ get t r = some v
  | [], _, h => .inr h
  | (k, u) :: l, r, h => by
    rw [List.cons_append] at h
    simp only [get] at h ⊢
    split at h
    · rename_i hk
      rw [if_pos hk]
      exact .inl h
    · rename_i hk
      rw [if_neg hk]
      exact get_append h
theorem Hold.put (h : Hold X st ρ a w) {dst : Option Tmp} {v : V} {x : Value} (hd : ∀ d, dst = some d → d < X.n) (hv : RdV w (okOf X ρ w) ρ v x) : Hold X (st.put dst v) ρ (a.put dst x) w := by
  cases dst with
  | none => exact h
  | some d =>
    refine ⟨h.defers, by simpa [Act.put] using h.size, h.below, h.ge, h.inj, fun t u hu => ?_, h.blocks⟩
    simp only [St.put, get] at hu
    split at hu
    · rename_i ht
      subst ht
      injection hu with hu
      subst hu
      exact ⟨x, by have := hd t rfl; rw [← h.size] at this; simp [Act.put, this], hv⟩
    · rename_i ht
      obtain ⟨y, h1, h2⟩ := h.slots t u hu
      exact ⟨y, by simp only [Act.put]; rw [Array.getElem?_setIfInBounds_ne (by omega)]; exact h1, h2⟩
theorem Hold.turn (h : Hold X st ρ a w) (he : Evo X ρ w ρ' w' ch kl) {nb : List (Nat × B)} (hn : ∀ id b, get id nb = some b → HasB X w' ρ' id b) : Hold X (st.turn ch kl nb) ρ' a w' := by
  refine ⟨h.defers, h.size, h.below.trans he.below, fun id b cap hid => ?_, he.inj, fun t v hv => ?_, fun id b hb => ?_⟩
  · by_cases hm : id ∈ kl
    · exact ⟨(he.new id b cap hm hid).1, (he.new id b cap hm hid).2.1⟩
    · rw [he.rho id hm] at hid
      exact ⟨(h.ge id b cap hid).1, Nat.lt_of_lt_of_le (h.ge id b cap hid).2 he.below.size⟩
  · obtain ⟨u, hu, rfl⟩ := get_map hv
    obtain ⟨x, h1, h2⟩ := h.slots t u hu
    refine ⟨x, h1, ?_⟩
    unfold V.kill
    split
    · unfold RdV; trivial
    · rename_i hm
      exact he.rdV (by simpa using hm) h2
  · rcases get_append hb with hb | hb
    · exact hn id b hb
    · obtain ⟨u, hu, rfl⟩ := get_map hb
      obtain ⟨h1, h2⟩ := get_filter (p := fun i => !(ch.contains i || kl.contains i)) hu
      simp only [Bool.not_eq_true', Bool.or_eq_false_iff, List.contains_eq_mem, decide_eq_false_iff_not] at h2
      exact he.hasB h h2.1 h2.2 (h.blocks id u h1)
/-- what is known of less -/
structure St.le (s st : St) : Prop where
  sl : ∀ t v, get t s.sl = some v → get t st.sl = some v
  bl : ∀ t v, get t s.bl = some v → get t st.bl = some v
theorem Hold.le {s : St} (h : Hold X st ρ a w) (hs : s.le st) : Hold X s ρ a w :=
  ⟨h.defers, h.size, h.below, h.ge, h.inj, fun t v hv => h.slots t v (hs.sl t v hv), fun id b hb => h.blocks id b (hs.bl id b hb)⟩
theorem C.ment_nil : ∀ c : C, c.ment [] = false := fun c => C.rec (motive_1 := fun c => c.ment [] = false) (motive_2 := fun cs => C.ments [] cs = false)
  (fun _ _ => rfl) rfl (fun _ _ => rfl) (fun _ _ => rfl) (fun _ _ _ _ => rfl) (fun _ _ h => by simpa [C.ment] using h) rfl rfl (fun c cs h1 h2 => by simp [C.ments, h1, h2]) c
theorem C.ments_nil : ∀ cs : List C, C.ments [] cs = false
  | [] => rfl
  | c :: cs => by simp [C.ments, C.ment_nil c, C.ments_nil cs]
theorem V.ment_nil : ∀ c : V, c.ment [] = false := fun c => V.rec (motive_1 := fun c => c.ment [] = false) (motive_2 := fun cs => V.ments [] cs = false)
  (fun c => by simp [V.ment, C.ment_nil c]) (fun cs => by simp [V.ment, C.ments_nil cs]) (fun _ h => by simpa [V.ment] using h) rfl rfl (fun c cs h1 h2 => by simp [V.ments, h1, h2]) c
theorem Hold.evo (h : Hold X st ρ a w) (he : Evo X ρ w ρ w' [] []) : Hold X st ρ a w' :=
  ⟨h.defers, h.size, h.below.trans he.below, fun id b cap hid => ⟨(h.ge id b cap hid).1, Nat.lt_of_lt_of_le (h.ge id b cap hid).2 he.below.size⟩, h.inj, fun t v hv => (h.slots t v hv).imp fun x hx => ⟨hx.1, he.rdV (V.ment_nil v) hx.2⟩, fun id b hb => by
    have h1 := he.hasB h (id := id) (by simp) (by simp) (h.blocks id b hb)
    have h2 : b.kill [] = b := by
      cases b with
      | arr => rfl
      | var e cells =>
        show B.var e (cells.map (C.kill [])) = B.var e cells
        rw [show cells.map (C.kill []) = cells from (List.map_congr_left fun c _ => by simp [C.kill, C.ment_nil c]).trans (List.map_id _)]
    rw [h2] at h1
    exact h1⟩
theorem Hold.draw (h : Hold X st ρ a w) : Hold X st ρ a { w with drawn := w.drawn + 1 } :=
  h.evo ⟨⟨rfl, rfl, rfl, Nat.le_refl _, fun _ _ => rfl⟩, fun _ _ _ => rfl, fun _ _ => rfl, (fun _ _ _ h => by cases h), h.inj⟩
end
end Go.Proofs.Ytoghgjobfcnneaa.Ax
