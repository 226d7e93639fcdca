/- Regions that draw their order: what is done may be done in any order. -/
import Derived.Test.YtoghgjobfcnneaaAxC
import Derived.Orders
namespace Go.Proofs.Ytoghgjobfcnneaa.Ax
open Go.RowKit
/-- what an operation of such a region leaves: its value, new blocks, blocks that it used up, which operations it hangs on -/
structure Ent where
  i : Nat
  dst : Option Tmp
  v : V
  nb : List (Nat × B)
  gone : List Nat
  dn : List Nat
def B.ment (ids : List Nat) : B → Bool
  | .arr _ _ _ _ => false
  | .var _ cells => C.ments ids cells
def goneOf : List Ent → List Nat
  | [] => []
  | e :: es => e.gone ++ goneOf es
def slOf (g : List Nat) : List Ent → List (Nat × V)
  | [] => []
  | e :: es => match e.dst with
    | some d => if e.v.ment g then slOf g es else (d, e.v) :: slOf g es
    | none => slOf g es
def keepB' (g : List Nat) : List (Nat × B) → List (Nat × B)
  | [] => []
  | p :: l => if g.contains p.1 || p.2.ment g then keepB' g l else p :: keepB' g l
def blOf (g : List Nat) : List Ent → List (Nat × B)
  | [] => []
  | e :: es => keepB' g e.nb ++ blOf g es
def stOf (st0 : St) (es : List Ent) : St := ⟨slOf (goneOf es) es ++ st0.sl, blOf (goneOf es) es ++ st0.bl⟩
def idsOf : List Ent → List Nat
  | [] => []
  | e :: es => e.nb.map (·.1) ++ idsOf es
def pick (dn : List Nat) : List Ent → List Ent
  | [] => []
  | e :: es => if dn.contains e.i then e :: pick dn es else pick dn es
def prods (ts : List Nat) : List Ent → List Ent
  | [] => []
  | e :: es => match e.dst with
    | some d => if ts.contains d then e :: prods ts es else prods ts es
    | none => prods ts es
def insN (x : Nat) : List Nat → List Nat
  | [] => [x]
  | y :: ys => if x = y then y :: ys else if y < x then x :: y :: ys else y :: insN x ys
def insAll : List Nat → List Nat → List Nat
  | [], r => r
  | x :: l, r => insN x (insAll l r)
def dnOf : List Ent → List Nat
  | [] => []
  | e :: es => match es with
    | [] => e.i :: e.dn
    | _ => insN e.i (insAll e.dn (dnOf es))
def edge (o : Oper) (j : Nat) : Bool := o.after.toList.any fun e => Region.binds .any e && decide (e.on = j)
section
variable {ids ids' : List Nat}
mutual
theorem C.ment_sub (h : ∀ i ∈ ids, i ∈ ids') : ∀ {c : C}, c.ment ids' = false → c.ment ids = false
  | .own i _, hc => by simp only [C.ment, List.contains_eq_mem, decide_eq_false_iff_not] at hc ⊢; exact fun hm => hc (h _ hm)
  | .optr i _, hc => by simp only [C.ment, List.contains_eq_mem, decide_eq_false_iff_not] at hc ⊢; exact fun hm => hc (h _ hm)
  | .eptr i _ _ _, hc => by simp only [C.ment, List.contains_eq_mem, decide_eq_false_iff_not] at hc ⊢; exact fun hm => hc (h _ hm)
  | .fn _ caps, hc => by simp only [C.ment] at hc ⊢; exact C.ments_sub h hc
  | .t _ _, _ => rfl
  | .nil, _ => rfl
  | .junk, _ => rfl
theorem C.ments_sub (h : ∀ i ∈ ids, i ∈ ids') : ∀ {c : List C}, C.ments ids' c = false → C.ments ids c = false
  | [], _ => rfl
  | c :: cs, hc => by
    simp only [C.ments, Bool.or_eq_false_iff] at hc ⊢
    exact ⟨C.ment_sub h hc.1, C.ments_sub h hc.2⟩
end
mutual
theorem V.ment_sub (h : ∀ i ∈ ids, i ∈ ids') : ∀ {c : V}, c.ment ids' = false → c.ment ids = false
  | .one c, hc => by simp only [V.ment] at hc ⊢; exact C.ment_sub h hc
  | .agg c, hc => by simp only [V.ment] at hc ⊢; exact C.ments_sub h hc
  | .tup vs, hc => by simp only [V.ment] at hc ⊢; exact V.ments_sub h hc
  | .junk, _ => rfl
theorem V.ments_sub (h : ∀ i ∈ ids, i ∈ ids') : ∀ {c : List V}, V.ments ids' c = false → V.ments ids c = false
  | [], _ => rfl
  | c :: cs, hc => by
    simp only [V.ments, Bool.or_eq_false_iff] at hc ⊢
    exact ⟨V.ment_sub h hc.1, V.ments_sub h hc.2⟩
end
theorem B.ment_sub (h : ∀ i ∈ ids, i ∈ ids') {b : B} (hb : b.ment ids' = false) : b.ment ids = false := by
  cases b with
  | arr => rfl
  | var => exact C.ments_sub h hb
theorem V.kill_same {v : V} (h : v.ment ids = false) : v.kill ids = v := by unfold V.kill; rw [if_neg (by simp [h])]
theorem B.kill_same {b : B} (h : b.ment ids = false) : b.kill ids = b := by
  cases b with
  | arr => rfl
  | var e cells =>
    show B.var e (cells.map (C.kill ids)) = B.var e cells
    congr 1
    simp only [B.ment] at h
    induction cells with
    | nil => rfl
    | cons c cs ih =>
      simp only [C.ments, Bool.or_eq_false_iff] at h
      rw [List.map_cons, ih h.2, C.kill, if_neg (by simp [h.1])]
end
theorem mem_goneOf {g : Nat} : ∀ {es : List Ent}, g ∈ goneOf es ↔ ∃ e ∈ es, g ∈ e.gone
  | [] => by simp [goneOf]
  | e :: es => by rw [goneOf, List.mem_append, mem_goneOf]; simp
theorem mem_idsOf {g : Nat} : ∀ {es : List Ent}, g ∈ idsOf es ↔ ∃ e ∈ es, g ∈ e.nb.map (·.1)
  | [] => by simp [idsOf]
  | e :: es => by rw [idsOf, List.mem_append, mem_idsOf]; simp
theorem mem_insN {x g : Nat} : ∀ {l : List Nat}, g ∈ insN x l ↔ g = x ∨ g ∈ l
  | [] => by simp [insN]
  | y :: ys => by
    unfold insN
    split
    · rename_i h
      subst h
      simp
    · split
      · simp
      · rw [List.mem_cons, mem_insN, List.mem_cons]
        constructor
        · rintro (h | h | h)
          · exact .inr (.inl h)
          · exact .inl h
          · exact .inr (.inr h)
        · rintro (h | h | h)
          · exact .inr (.inl h)
          · exact .inl h
          · exact .inr (.inr h)
theorem mem_insAll {g : Nat} : ∀ {l r : List Nat}, g ∈ insAll l r ↔ g ∈ l ∨ g ∈ r
  | [], r => by simp [insAll]
  | x :: l, r => by
    rw [insAll, mem_insN, mem_insAll, List.mem_cons]
    constructor
    · rintro (h | h | h)
      · exact .inl (.inl h)
      · exact .inl (.inr h)
      · exact .inr h
    · rintro ((h | h) | h)
      · exact .inl h
      · exact .inr (.inl h)
      · exact .inr (.inr h)
theorem mem_dnOf {g : Nat} : ∀ {es : List Ent}, g ∈ dnOf es ↔ ∃ e ∈ es, g = e.i ∨ g ∈ e.dn
  | [] => by simp [dnOf]
  | [e] => by simp [dnOf]
  | e :: f :: es => by
    rw [dnOf, mem_insN, mem_insAll, mem_dnOf]
    · simp only [List.mem_cons, exists_eq_or_imp]
      constructor
      · rintro (h | h | h)
        · exact .inl (.inl h)
        · exact .inl (.inr h)
        · exact .inr h
      · rintro ((h | h) | h)
        · exact .inl h
        · exact .inr (.inl h)
        · exact .inr (.inr h)
    · intro h; cases h
theorem mem_pick {dn : List Nat} {e : Ent} : ∀ {es : List Ent}, e ∈ pick dn es ↔ e ∈ es ∧ e.i ∈ dn
  | [] => by simp [pick]
  | f :: es => by
    rw [pick]
    split
    · rename_i h
      rw [List.mem_cons, List.mem_cons, mem_pick]
      simp only [List.contains_eq_mem, decide_eq_true_eq] at h
      constructor
      · rintro (rfl | h2)
        · exact ⟨.inl rfl, h⟩
        · exact ⟨.inr h2.1, h2.2⟩
      · rintro ⟨rfl | h1, h2⟩
        · exact .inl rfl
        · exact .inr ⟨h1, h2⟩
    · rename_i h
      rw [mem_pick, List.mem_cons]
      simp only [List.contains_eq_mem, decide_eq_true_eq] at h
      constructor
      · exact fun h2 => ⟨.inr h2.1, h2.2⟩
      · rintro ⟨rfl | h1, h2⟩
        · exact absurd h2 h
        · exact ⟨h1, h2⟩
theorem mem_prods {ts : List Nat} {e : Ent} : ∀ {es : List Ent}, e ∈ prods ts es ↔ e ∈ es ∧ ∃ d, e.dst = some d ∧ d ∈ ts
  | [] => by simp [prods]
  | f :: es => by
    rw [prods]
    split
    · rename_i d hd
      split
      · rename_i h
        rw [List.mem_cons, List.mem_cons, mem_prods]
        simp only [List.contains_eq_mem, decide_eq_true_eq] at h
        constructor
        · rintro (rfl | h2)
          · exact ⟨.inl rfl, d, hd, h⟩
          · exact ⟨.inr h2.1, h2.2⟩
        · rintro ⟨rfl | h1, h2⟩
          · exact .inl rfl
          · exact .inr ⟨h1, h2⟩
      · rename_i h
        rw [mem_prods, List.mem_cons]
        simp only [List.contains_eq_mem, decide_eq_true_eq] at h
        constructor
        · exact fun h2 => ⟨.inr h2.1, h2.2⟩
        · rintro ⟨rfl | h1, d', h2, h3⟩
          · rw [hd] at h2
            injection h2 with h2
            subst h2
            exact absurd h3 h
          · exact ⟨h1, d', h2, h3⟩
    · rename_i hd
      rw [mem_prods, List.mem_cons]
      constructor
      · exact fun h2 => ⟨.inr h2.1, h2.2⟩
      · rintro ⟨rfl | h1, d', h2, h3⟩
        · rw [hd] at h2; cases h2
        · exact ⟨h1, d', h2, h3⟩
/-- what is found in the state of some entries -/
theorem get_slOf {g : List Nat} {t : Nat} {u : V} : ∀ {es : List Ent}, get t (slOf g es) = some u → ∃ e ∈ es, e.dst = some t ∧ e.v = u ∧ e.v.ment g = false
  | [], h => by simp [slOf, get] at h
  | e :: es, h => by
    rw [slOf] at h
    split at h
    · rename_i d hd
      split at h
      · obtain ⟨f, h1, h2⟩ := get_slOf h
        exact ⟨f, List.mem_cons_of_mem _ h1, h2⟩
      · rename_i hm
        unfold get at h
        split at h
        · rename_i ht
          injection h with h
          exact ⟨e, List.mem_cons_self, by rw [hd, ht], h, by simpa using hm⟩
        · obtain ⟨f, h1, h2⟩ := get_slOf h
          exact ⟨f, List.mem_cons_of_mem _ h1, h2⟩
    · obtain ⟨f, h1, h2⟩ := get_slOf h
      exact ⟨f, List.mem_cons_of_mem _ h1, h2⟩
theorem slOf_get {g : List Nat} {t : Nat} {e : Ent} : ∀ {es : List Ent}, e ∈ es → e.dst = some t → e.v.ment g = false → (∀ f ∈ es, f.dst = some t → f = e) → get t (slOf g es) = some e.v
  | [], h, _, _, _ => by cases h
  | f :: es, h, hd, hm, hu => by
    rw [slOf]
    have hrest : f ≠ e → get t (slOf g es) = some e.v := fun hne => by
      rcases List.mem_cons.1 h with h | h
      · exact absurd h.symm hne
      · exact slOf_get h hd hm fun f hf => hu f (List.mem_cons_of_mem _ hf)
    by_cases hfe : f = e
    · subst hfe
      simp only [hd, hm, Bool.false_eq_true, if_false, get, if_true]
    · split
      · rename_i d hd'
        have hdt : t ≠ d := fun e' => hfe (hu f List.mem_cons_self (by rw [hd', e']))
        split
        · exact hrest hfe
        · unfold get
          rw [if_neg hdt]
          exact hrest hfe
      · exact hrest hfe
theorem slOf_none {g : List Nat} {t : Nat} : ∀ {es : List Ent}, (∀ f ∈ es, f.dst ≠ some t) → get t (slOf g es) = none
  | [], _ => rfl
  | f :: es, h => by
    rw [slOf]
    have ih := slOf_none (g := g) fun f hf => h f (List.mem_cons_of_mem _ hf)
    split
    · rename_i d hd
      have : t ≠ d := fun e => h f List.mem_cons_self (by rw [hd, e])
      split
      · exact ih
      · unfold get; rw [if_neg this]; exact ih
    · exact ih
theorem get_append_none {α : Type} {t : Nat} : ∀ {l r : List (Nat × α)}, get t l = none → get t (l ++ r) = get t r
  | [], _, _ => rfl
  | (k, u) :: l, r, h => by
    simp only [get] at h
    split at h
    · cases h
    · rename_i hk
      rw [List.cons_append]
      simp only [get]
      rw [if_neg hk]
      exact get_append_none h
theorem get_append_some {α : Type} {t : Nat} {v : α} : ∀ {l r : List (Nat × α)}, get t l = some v → get t (l ++ r) = some v
  | [], _, h => by cases h
  | (k, u) :: l, r, h => by
    rw [List.cons_append]
    simp only [get] at h ⊢
    split at h
    · rename_i hk; rw [if_pos hk]; exact h
    · rename_i hk; rw [if_neg hk]; exact get_append_some h
theorem get_keep {g : List Nat} {t : Nat} {b : B} : ∀ {l : List (Nat × B)}, get t (keepB' g l) = some b → t ∉ g ∧ b.ment g = false ∧ (t, b) ∈ l
  | [], h => by simp [keepB', get] at h
  | (k, c) :: l, h => by
    rw [keepB'] at h
    split at h
    · obtain ⟨h1, h2, h3⟩ := get_keep h
      exact ⟨h1, h2, List.mem_cons_of_mem _ h3⟩
    · rename_i hc
      simp only [Bool.or_eq_true, not_or, List.contains_eq_mem, decide_eq_true_eq, Bool.not_eq_true] at hc
      unfold get at h
      split at h
      · rename_i ht
        injection h with h
        subst ht
        subst h
        exact ⟨hc.1, hc.2, List.mem_cons_self⟩
      · obtain ⟨h1, h2, h3⟩ := get_keep h
        exact ⟨h1, h2, List.mem_cons_of_mem _ h3⟩
theorem keep_get {g : List Nat} {t : Nat} {b : B} : ∀ {l : List (Nat × B)}, t ∉ g → b.ment g = false → get t l = some b → get t (keepB' g l) = some b
  | [], _, _, h => by cases h
  | (k, c) :: l, h1, h2, h => by
    unfold get at h
    rw [keepB']
    split at h
    · rename_i ht
      injection h with h
      subst ht
      subst h
      rw [if_neg (by simp [h1, h2])]
      unfold get
      rw [if_pos rfl]
    · rename_i ht
      split
      · exact keep_get h1 h2 h
      · unfold get
        rw [if_neg ht]
        exact keep_get h1 h2 h
theorem keep_none {g : List Nat} {t : Nat} : ∀ {l : List (Nat × B)}, t ∉ l.map (·.1) → get t (keepB' g l) = none
  | [], _ => rfl
  | (k, c) :: l, h => by
    simp only [List.map_cons, List.mem_cons, not_or] at h
    rw [keepB']
    split
    · exact keep_none h.2
    · unfold get
      rw [if_neg h.1]
      exact keep_none h.2
theorem get_blOf {g : List Nat} {t : Nat} {b : B} : ∀ {es : List Ent}, get t (blOf g es) = some b → ∃ e ∈ es, t ∉ g ∧ b.ment g = false ∧ (t, b) ∈ e.nb
  | [], h => by simp [blOf, get] at h
  | e :: es, h => by
    rw [blOf] at h
    rcases get_append h with h | h
    · exact ⟨e, List.mem_cons_self, get_keep h⟩
    · obtain ⟨f, h1, h2⟩ := get_blOf h
      exact ⟨f, List.mem_cons_of_mem _ h1, h2⟩
theorem blOf_get {g : List Nat} {t : Nat} {b : B} {e : Ent} : ∀ {es : List Ent}, e ∈ es → get t e.nb = some b → t ∉ g → b.ment g = false → (∀ f ∈ es, t ∈ f.nb.map (·.1) → f = e) → get t (blOf g es) = some b
  | [], h, _, _, _, _ => by cases h
  | f :: es, h, hg, h1, h2, hu => by
    rw [blOf]
    by_cases hfe : f = e
    · subst hfe
      exact get_append_some (keep_get h1 h2 hg)
    · have hn : t ∉ f.nb.map (·.1) := fun hm => hfe (hu f List.mem_cons_self hm)
      rw [get_append_none (keep_none hn)]
      rcases List.mem_cons.1 h with h | h
      · exact absurd h.symm hfe
      · exact blOf_get h hg h1 h2 fun f hf => hu f (List.mem_cons_of_mem _ hf)
theorem blOf_none {g : List Nat} {t : Nat} : ∀ {es : List Ent}, (∀ f ∈ es, t ∉ f.nb.map (·.1)) → get t (blOf g es) = none
  | [], _ => rfl
  | f :: es, h => by
    rw [blOf, get_append_none (keep_none (h f List.mem_cons_self))]
    exact blOf_none fun f hf => h f (List.mem_cons_of_mem _ hf)
end Go.Proofs.Ytoghgjobfcnneaa.Ax
