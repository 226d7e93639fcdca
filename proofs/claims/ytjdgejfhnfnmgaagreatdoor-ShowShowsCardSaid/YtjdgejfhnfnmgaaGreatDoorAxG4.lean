import Derived.Test.YtjdgejfhnfnmgaaGreatDoorAxG3
import Derived.Orders
namespace Go.Proofs.YtjdgejfhnfnmgaaGreatDoor.Ax
open Go.RowKit
structure Ent where
 i : Nat
 dst : Option Tmp
 v : V
 nb : List (Nat × B)
 gone : List Nat
 dn : List Nat
def B.ment (ids : List Nat) : B → Bool
 | .arr _ _ _ _ => false
 | .var _ cells => C.ments ids cells
 | .mp _ _ => false
def goneOf : List Ent → List Nat
 | [] => []
 | e :: es => e.gone ++ goneOf es
def slOf (g : List Nat) : List Ent → List (Nat × V)
 | [] => []
 | e :: es => match e.dst with
  | some d => if e.v.ment g then slOf g es else (d, e.v) :: slOf g es
  | none => slOf g es
def keepB' (g : List Nat) : List (Nat × B) → List (Nat × B)
 | [] => []
 | p :: l => if g.contains p.1 || p.2.ment g then keepB' g l else p :: keepB' g l
def blOf (g : List Nat) : List Ent → List (Nat × B)
 | [] => []
 | e :: es => keepB' g e.nb ++ blOf g es
def stOf (st0 : St) (es : List Ent) : St := ⟨slOf (goneOf es) es ++ st0.sl, blOf (goneOf es) es ++ st0.bl⟩
def pick (dn : List Nat) : List Ent → List Ent
 | [] => []
 | e :: es => if dn.contains e.i then e :: pick dn es else pick dn es
def prods (ts : List Nat) : List Ent → List Ent
 | [] => []
 | e :: es => match e.dst with
  | some d => if ts.contains d then e :: prods ts es else prods ts es
  | none => prods ts es
def insN (x : Nat) : List Nat → List Nat
 | [] => [x]
 | y :: ys => if x = y then y :: ys else if y < x then x :: y :: ys else y :: insN x ys
def insAll : List Nat → List Nat → List Nat
 | [], r => r
 | x :: l, r => insN x (insAll l r)
def dnOf : List Ent → List Nat
 | [] => []
 | e :: es => match es with
  | [] => e.i :: e.dn
  | _ => insN e.i (insAll e.dn (dnOf es))
def edge (o : Oper) (j : Nat) : Bool := o.after.toList.any fun e => Region.binds .any e && decide (e.on = j)
section
variable {ids ids' : List Nat}
mutual
theorem C.ment_sub (h : ∀ i ∈ ids, i ∈ ids') : ∀ {c : C}, c.ment ids' = false → c.ment ids = false
 | .own i _, hc => by simp only [C.ment, List.contains_eq_mem, decide_eq_false_iff_not] at hc ⊢; exact fun hm => hc (h _ hm)
 | .optr i _, hc => by simp only [C.ment, List.contains_eq_mem, decide_eq_false_iff_not] at hc ⊢; exact fun hm => hc (h _ hm)
 | .eptr i _ _ _, hc => by simp only [C.ment, List.contains_eq_mem, decide_eq_false_iff_not] at hc ⊢; exact fun hm => hc (h _ hm)
 | .omap i, hc => by simp only [C.ment, List.contains_eq_mem, decide_eq_false_iff_not] at hc ⊢; exact fun hm => hc (h _ hm)
 | .ocut i _ _ _, hc => by simp only [C.ment, List.contains_eq_mem, decide_eq_false_iff_not] at hc ⊢; exact fun hm => hc (h _ hm)
 | .fn _ caps, hc => by simp only [C.ment] at hc ⊢; exact C.ments_sub h hc
 | .t _ _, _ => rfl
 | .nil, _ => rfl
 | .junk, _ => rfl
theorem C.ments_sub (h : ∀ i ∈ ids, i ∈ ids') : ∀ {c : List C}, C.ments ids' c = false → C.ments ids c = false
 | [], _ => rfl
 | c :: cs, hc => by
  simp only [C.ments, Bool.or_eq_false_iff] at hc ⊢
  exact ⟨C.ment_sub h hc.1, C.ments_sub h hc.2⟩
end
mutual
theorem V.ment_sub (h : ∀ i ∈ ids, i ∈ ids') : ∀ {c : V}, c.ment ids' = false → c.ment ids = false
 | .one c, hc => by simp only [V.ment] at hc ⊢; exact C.ment_sub h hc
 | .agg c, hc => by simp only [V.ment] at hc ⊢; exact C.ments_sub h hc
 | .tup vs, hc => by simp only [V.ment] at hc ⊢; exact V.ments_sub h hc
 | .junk, _ => rfl
theorem V.ments_sub (h : ∀ i ∈ ids, i ∈ ids') : ∀ {c : List V}, V.ments ids' c = false → V.ments ids c = false
 | [], _ => rfl
 | c :: cs, hc => by
  simp only [V.ments, Bool.or_eq_false_iff] at hc ⊢
  exact ⟨V.ment_sub h hc.1, V.ments_sub h hc.2⟩
end
theorem B.ment_sub (h : ∀ i ∈ ids, i ∈ ids') {b : B} (hb : b.ment ids' = false) : b.ment ids = false := by
 cases b with
 | arr => rfl
 | mp => rfl
 | var => exact C.ments_sub h hb
theorem V.kill_same {v : V} (h : v.ment ids = false) : v.kill ids = v := by unfold V.kill; rw [if_neg (by simp [h])]
theorem B.kill_same {b : B} (h : b.ment ids = false) : b.kill ids = b := by
 cases b with
 | arr => rfl
 | mp => rfl
 | var e cells =>
  show B.var e (cells.map (C.kill ids)) = B.var e cells
  congr 1
  simp only [B.ment] at h
  induction cells with
  | nil => rfl
  | cons c cs ih =>
   simp only [C.ments, Bool.or_eq_false_iff] at h
   rw [List.map_cons, ih h.2, C.kill, if_neg (by simp [h.1])]
end
theorem mem_goneOf {g : Nat} : ∀ {es : List Ent}, g ∈ goneOf es ↔ ∃ e ∈ es, g ∈ e.gone
 | [] => by simp [goneOf]
 | e :: es => by rw [goneOf, List.mem_append, mem_goneOf]; simp
theorem mem_insN {x g : Nat} : ∀ {l : List Nat}, g ∈ insN x l ↔ g = x ∨ g ∈ l
 | [] => by simp [insN]
 | y :: ys => by
  unfold insN
  split
  ·rename_i h
   subst h
   simp
  ·split
   ·simp
   ·rw [List.mem_cons, mem_insN, List.mem_cons]
    constructor
    ·rintro (h | h | h)
     ·exact .inr (.inl h)
     ·exact .inl h
     ·exact .inr (.inr h)
    ·rintro (h | h | h)
     ·exact .inr (.inl h)
     ·exact .inl h
     ·exact .inr (.inr h)
theorem mem_insAll {g : Nat} : ∀ {l r : List Nat}, g ∈ insAll l r ↔ g ∈ l ∨ g ∈ r
 | [], r => by simp [insAll]
 | x :: l, r => by
  rw [insAll, mem_insN, mem_insAll, List.mem_cons]
  constructor
  ·rintro (h | h | h)
   ·exact .inl (.inl h)
   ·exact .inl (.inr h)
   ·exact .inr h
  ·rintro ((h | h) | h)
   ·exact .inl h
   ·exact .inr (.inl h)
   ·exact .inr (.inr h)
theorem mem_dnOf {g : Nat} : ∀ {es : List Ent}, g ∈ dnOf es ↔ ∃ e ∈ es, g = e.i ∨ g ∈ e.dn
 | [] => by simp [dnOf]
 | [e] => by simp [dnOf]
 | e :: f :: es => by
  rw [dnOf, mem_insN, mem_insAll, mem_dnOf]
  ·simp only [List.mem_cons, exists_eq_or_imp]
   constructor
   ·rintro (h | h | h)
    ·exact .inl (.inl h)
    ·exact .inl (.inr h)
    ·exact .inr h
   ·rintro ((h | h) | h)
    ·exact .inl h
    ·exact .inr (.inl h)
    ·exact .inr (.inr h)
  ·intro h; cases h
theorem mem_pick {dn : List Nat} {e : Ent} : ∀ {es : List Ent}, e ∈ pick dn es ↔ e ∈ es ∧ e.i ∈ dn
 | [] => by simp [pick]
 | f :: es => by
  rw [pick]
  split
  ·rename_i h
   rw [List.mem_cons, List.mem_cons, mem_pick]
   simp only [List.contains_eq_mem, decide_eq_true_eq] at h
   constructor
   ·rintro (rfl | h2)
    ·exact ⟨.inl rfl, h⟩
    ·exact ⟨.inr h2.1, h2.2⟩
   ·rintro ⟨rfl | h1, h2⟩
    ·exact .inl rfl
    ·exact .inr ⟨h1, h2⟩
  ·rename_i h
   rw [mem_pick, List.mem_cons]
   simp only [List.contains_eq_mem, decide_eq_true_eq] at h
   constructor
   ·exact fun h2 => ⟨.inr h2.1, h2.2⟩
   ·rintro ⟨rfl | h1, h2⟩
    ·exact absurd h2 h
    ·exact ⟨h1, h2⟩
theorem mem_prods {ts : List Nat} {e : Ent} : ∀ {es : List Ent}, e ∈ prods ts es ↔ e ∈ es ∧ ∃ d, e.dst = some d ∧ d ∈ ts
 | [] => by simp [prods]
 | f :: es => by
  rw [prods]
  split
  ·rename_i d hd
   split
   ·rename_i h
    rw [List.mem_cons, List.mem_cons, mem_prods]
    simp only [List.contains_eq_mem, decide_eq_true_eq] at h
    constructor
    ·rintro (rfl | h2)
     ·exact ⟨.inl rfl, d, hd, h⟩
     ·exact ⟨.inr h2.1, h2.2⟩
    ·rintro ⟨rfl | h1, h2⟩
     ·exact .inl rfl
     ·exact .inr ⟨h1, h2⟩
   ·rename_i h
    rw [mem_prods, List.mem_cons]
    simp only [List.contains_eq_mem, decide_eq_true_eq] at h
    constructor
    ·exact fun h2 => ⟨.inr h2.1, h2.2⟩
    ·rintro ⟨rfl | h1, d', h2, h3⟩
     ·rw [hd] at h2
      injection h2 with h2
      subst h2
      exact absurd h3 h
     ·exact ⟨h1, d', h2, h3⟩
  ·rename_i hd
   rw [mem_prods, List.mem_cons]
   constructor
   ·exact fun h2 => ⟨.inr h2.1, h2.2⟩
   ·rintro ⟨rfl | h1, d', h2, h3⟩
    ·rw [hd] at h2; cases h2
    ·exact ⟨h1, d', h2, h3⟩
theorem get_slOf {g : List Nat} {t : Nat} {u : V} : ∀ {es : List Ent}, get t (slOf g es) = some u → ∃ e ∈ es, e.dst = some t ∧ e.v = u ∧ e.v.ment g = false
 | [], h => by simp [slOf, get] at h
 | e :: es, h => by
  rw [slOf] at h
  split at h
  ·rename_i d hd
   split at h
   ·obtain ⟨f, h1, h2⟩ := get_slOf h
    exact ⟨f, List.mem_cons_of_mem _ h1, h2⟩
   ·rename_i hm
    unfold get at h
    split at h
    ·rename_i ht
     injection h with h
     exact ⟨e, List.mem_cons_self, by rw [hd, ht], h, by simpa using hm⟩
    ·obtain ⟨f, h1, h2⟩ := get_slOf h
     exact ⟨f, List.mem_cons_of_mem _ h1, h2⟩
  ·obtain ⟨f, h1, h2⟩ := get_slOf h
   exact ⟨f, List.mem_cons_of_mem _ h1, h2⟩
theorem slOf_get {g : List Nat} {t : Nat} {e : Ent} : ∀ {es : List Ent}, e ∈ es → e.dst = some t → e.v.ment g = false → (∀ f ∈ es, f.dst = some t → f = e) → get t (slOf g es) = some e.v
 | [], h, _, _, _ => by cases h
 | f :: es, h, hd, hm, hu => by
  rw [slOf]
  have hrest : f ≠ e → get t (slOf g es) = some e.v := fun hne => by
   rcases List.mem_cons.1 h with h | h
   ·exact absurd h.symm hne
   ·exact slOf_get h hd hm fun f hf => hu f (List.mem_cons_of_mem _ hf)
  by_cases hfe : f = e
  ·subst hfe
   simp only [hd, hm, Bool.false_eq_true, if_false, get, if_true]
  ·split
   ·rename_i d hd'
    have hdt : t ≠ d := fun e' => hfe (hu f List.mem_cons_self (by rw [hd', e']))
    split
    ·exact hrest hfe
    ·unfold get
     rw [if_neg hdt]
     exact hrest hfe
   ·exact hrest hfe
theorem slOf_none {g : List Nat} {t : Nat} : ∀ {es : List Ent}, (∀ f ∈ es, f.dst ≠ some t) → get t (slOf g es) = none
 | [], _ => rfl
 | f :: es, h => by
  rw [slOf]
  have ih := slOf_none (g := g) fun f hf => h f (List.mem_cons_of_mem _ hf)
  split
  ·rename_i d hd
   have : t ≠ d := fun e => h f List.mem_cons_self (by rw [hd, e])
   split
   ·exact ih
   ·unfold get; rw [if_neg this]; exact ih
  ·exact ih
theorem get_append_none {α : Type} {t : Nat} : ∀ {l r : List (Nat × α)}, get t l = none → get t (l ++ r) = get t r
 | [], _, _ => rfl
 | (k, u) :: l, r, h => by
  simp only [get] at h
  split at h
  ·cases h
  ·rename_i hk
   rw [List.cons_append]
   simp only [get]
   rw [if_neg hk]
   exact get_append_none h
theorem get_append_some {α : Type} {t : Nat} {v : α} : ∀ {l r : List (Nat × α)}, get t l = some v → get t (l ++ r) = some v
 | [], _, h => by cases h
 | (k, u) :: l, r, h => by
  rw [List.cons_append]
  simp only [get] at h ⊢
  split at h
  ·rename_i hk; rw [if_pos hk]; exact h
  ·rename_i hk; rw [if_neg hk]; exact get_append_some h
theorem get_keep {g : List Nat} {t : Nat} {b : B} : ∀ {l : List (Nat × B)}, get t (keepB' g l) = some b → t ∉ g ∧ b.ment g = false ∧ (t, b) ∈ l
 | [], h => by simp [keepB', get] at h
 | (k, c) :: l, h => by
  rw [keepB'] at h
  split at h
  ·obtain ⟨h1, h2, h3⟩ := get_keep h
   exact ⟨h1, h2, List.mem_cons_of_mem _ h3⟩
  ·rename_i hc
   simp only [Bool.or_eq_true, not_or, List.contains_eq_mem, decide_eq_true_eq, Bool.not_eq_true] at hc
   unfold get at h
   split at h
   ·rename_i ht
    injection h with h
    subst ht
    subst h
    exact ⟨hc.1, hc.2, List.mem_cons_self⟩
   ·obtain ⟨h1, h2, h3⟩ := get_keep h
    exact ⟨h1, h2, List.mem_cons_of_mem _ h3⟩
theorem keep_get {g : List Nat} {t : Nat} {b : B} : ∀ {l : List (Nat × B)}, t ∉ g → b.ment g = false → get t l = some b → get t (keepB' g l) = some b
 | [], _, _, h => by cases h
 | (k, c) :: l, h1, h2, h => by
  unfold get at h
  rw [keepB']
  split at h
  ·rename_i ht
   injection h with h
   subst ht
   subst h
   rw [if_neg (by simp [h1, h2])]
   unfold get
   rw [if_pos rfl]
  ·rename_i ht
   split
   ·exact keep_get h1 h2 h
   ·unfold get
    rw [if_neg ht]
    exact keep_get h1 h2 h
theorem keep_none {g : List Nat} {t : Nat} : ∀ {l : List (Nat × B)}, t ∉ l.map (·.1) → get t (keepB' g l) = none
 | [], _ => rfl
 | (k, c) :: l, h => by
  simp only [List.map_cons, List.mem_cons, not_or] at h
  rw [keepB']
  split
  ·exact keep_none h.2
  ·unfold get
   rw [if_neg h.1]
   exact keep_none h.2
theorem get_blOf {g : List Nat} {t : Nat} {b : B} : ∀ {es : List Ent}, get t (blOf g es) = some b → ∃ e ∈ es, t ∉ g ∧ b.ment g = false ∧ (t, b) ∈ e.nb
 | [], h => by simp [blOf, get] at h
 | e :: es, h => by
  rw [blOf] at h
  rcases get_append h with h | h
  ·exact ⟨e, List.mem_cons_self, get_keep h⟩
  ·obtain ⟨f, h1, h2⟩ := get_blOf h
   exact ⟨f, List.mem_cons_of_mem _ h1, h2⟩
theorem blOf_get {g : List Nat} {t : Nat} {b : B} {e : Ent} : ∀ {es : List Ent}, e ∈ es → get t e.nb = some b → t ∉ g → b.ment g = false → (∀ f ∈ es, t ∈ f.nb.map (·.1) → f = e) → get t (blOf g es) = some b
 | [], h, _, _, _, _ => by cases h
 | f :: es, h, hg, h1, h2, hu => by
  rw [blOf]
  by_cases hfe : f = e
  ·subst hfe
   exact get_append_some (keep_get h1 h2 hg)
  ·have hn : t ∉ f.nb.map (·.1) := fun hm => hfe (hu f List.mem_cons_self hm)
   rw [get_append_none (keep_none hn)]
   rcases List.mem_cons.1 h with h | h
   ·exact absurd h.symm hfe
   ·exact blOf_get h hg h1 h2 fun f hf => hu f (List.mem_cons_of_mem _ hf)
theorem blOf_none {g : List Nat} {t : Nat} : ∀ {es : List Ent}, (∀ f ∈ es, t ∉ f.nb.map (·.1)) → get t (blOf g es) = none
 | [], _ => rfl
 | f :: es, h => by
  rw [blOf, get_append_none (keep_none (h f List.mem_cons_self))]
  exact blOf_none fun f hf => h f (List.mem_cons_of_mem _ hf)
end Go.Proofs.YtjdgejfhnfnmgaaGreatDoor.Ax
namespace Go.Proofs.YtjdgejfhnfnmgaaGreatDoor.Ax
open Go.RowKit
def Good (D : Delta) (e : Ent) : Prop :=
 (D = .pure e.v ∧ e.nb = [] ∧ e.gone = []) ∨ ∃ ch kl, D = .mod e.v ch kl e.nb ∧ (∀ id ∈ ch, id ∈ kl) ∧ ∀ id ∈ kl, id ∈ e.nb.map (·.1) ∨ id ∈ e.gone
structure AddOk (P : Program) (X : Cx) (ops : Array Oper) (st0 : St) (D0 I0 : List Nat) (acc : List Ent) (e : Ent) (o : Oper) : Prop where
 i : e.i = acc.length
 op : ops[e.i]? = some o
 dstE : e.dst = o.dst
 dstL : dstOk X.n o.dst = true
 step : (guardOf (stOf st0 (pick e.dn acc)) ops o = some true ∧ ∃ D, Step P X (stOf st0 (pick e.dn acc)) o D ∧ Good D e) ∨ (guardOf (stOf st0 (pick e.dn acc)) ops o = some false ∧ e.v = .tup [] ∧ e.nb = [] ∧ e.gone = [])
 dn1 : ∀ j ∈ e.dn, edge o j = true ∨ ∃ f ∈ acc, edge o f.i = true ∧ j ∈ f.dn
 dn2 : ∀ j ∈ e.dn, j < acc.length
 dst : ∀ t, e.dst = some t → t ∈ D0 ∧ ∀ f ∈ acc, f.dst ≠ some t
 ids : ∀ t ∈ e.nb.map (·.1), t ∈ I0 ∧ ∀ f ∈ acc, t ∉ f.nb.map (·.1)
 nod : ∀ t b, (t, b) ∈ e.nb → get t e.nb = some b
 gone : ∀ g ∈ e.gone, g ∈ I0
 ment1 : ∀ f ∈ acc, f.i ∉ e.dn → e.v.ment (f.nb.map (·.1)) = false ∧ ∀ p ∈ e.nb, p.2.ment (f.nb.map (·.1)) = false
 ment2 : ∀ f ∈ acc, f.v.ment (e.nb.map (·.1)) = false ∧ ∀ p ∈ f.nb, p.2.ment (e.nb.map (·.1)) = false
 c1a : ∀ k ∈ acc, k.i ∉ e.dn → ∀ f ∈ acc, f.i ∈ e.dn → f.v.ment k.gone = false ∧ ∀ p ∈ f.nb, p.1 ∉ k.gone ∧ p.2.ment k.gone = false
 c1b : ∀ i ∈ acc, ∀ f ∈ acc, f.i ∈ i.dn → f.v.ment e.gone = false ∧ ∀ p ∈ f.nb, p.1 ∉ e.gone ∧ p.2.ment e.gone = false
inductive PlanOk (P : Program) (X : Cx) (ops : Array Oper) (st0 : St) (D0 I0 : List Nat) : List Ent → Prop
 | nil : PlanOk P X ops st0 D0 I0 []
 | snoc {acc : List Ent} {e : Ent} {o : Oper} : PlanOk P X ops st0 D0 I0 acc → AddOk P X ops st0 D0 I0 acc e o → PlanOk P X ops st0 D0 I0 (acc ++ [e])
section
variable {P : Program} {X : Cx} {ops : Array Oper} {st0 : St} {D0 I0 : List Nat} {acc : List Ent}
structure Props (P : Program) (X : Cx) (ops : Array Oper) (st0 : St) (D0 I0 : List Nat) (acc : List Ent) : Prop where
 lt : ∀ e ∈ acc, e.i < acc.length
 idx : ∀ k, k < acc.length → ∃ e ∈ acc, e.i = k
 inj : ∀ e ∈ acc, ∀ f ∈ acc, e.i = f.i → e = f
 ent : ∀ e ∈ acc, ∃ o, ops[e.i]? = some o ∧ e.dst = o.dst ∧ dstOk X.n o.dst = true ∧
  ((guardOf (stOf st0 (pick e.dn acc)) ops o = some true ∧ ∃ D, Step P X (stOf st0 (pick e.dn acc)) o D ∧ Good D e) ∨ (guardOf (stOf st0 (pick e.dn acc)) ops o = some false ∧ e.v = .tup [] ∧ e.nb = [] ∧ e.gone = [])) ∧
  ∀ j ∈ e.dn, edge o j = true ∨ ∃ f ∈ acc, edge o f.i = true ∧ j ∈ f.dn
 dn2 : ∀ e ∈ acc, ∀ j ∈ e.dn, j < e.i
 dst : ∀ e ∈ acc, ∀ t, e.dst = some t → t ∈ D0 ∧ ∀ f ∈ acc, f.dst = some t → f = e
 ids : ∀ e ∈ acc, ∀ t ∈ e.nb.map (·.1), t ∈ I0 ∧ ∀ f ∈ acc, t ∈ f.nb.map (·.1) → f = e
 nod : ∀ e ∈ acc, ∀ t b, (t, b) ∈ e.nb → get t e.nb = some b
 gone : ∀ e ∈ acc, ∀ g ∈ e.gone, g ∈ I0
 ment : ∀ e ∈ acc, ∀ f ∈ acc, f ≠ e → f.i ∉ e.dn → e.v.ment (f.nb.map (·.1)) = false ∧ ∀ p ∈ e.nb, p.2.ment (f.nb.map (·.1)) = false
 c1 : ∀ i ∈ acc, ∀ k ∈ acc, k ≠ i → k.i ∉ i.dn → ∀ f ∈ acc, f.i ∈ i.dn → f.v.ment k.gone = false ∧ ∀ p ∈ f.nb, p.1 ∉ k.gone ∧ p.2.ment k.gone = false
theorem pick_snoc {dn : List Nat} {acc : List Ent} {e : Ent} (h : e.i ∉ dn) : pick dn (acc ++ [e]) = pick dn acc := by
 induction acc with
 | nil => simp [pick, h]
 | cons f fs ih => rw [List.cons_append, pick, pick, ih]
theorem PlanOk.props (h : PlanOk P X ops st0 D0 I0 acc) : Props P X ops st0 D0 I0 acc := by
 induction h with
 | nil => exact ⟨by simp, by simp, by simp, by simp, by simp, by simp, by simp, by simp, by simp, by simp, by simp⟩
 | @snoc acc e o hp ha ih =>
  have hdne : ∀ f ∈ acc, e.i ∉ f.dn := fun f hf hm => by
   have := ih.dn2 f hf _ hm
   have := ih.lt f hf
   have := ha.i
   omega
  have hdnn : e.i ∉ e.dn := fun hm => by
   have := ha.dn2 _ hm
   have := ha.i
   omega
  have hne : ∀ f ∈ acc, f.i ≠ e.i := fun f hf => by
   have := ih.lt f hf
   have := ha.i
   omega
  have mem : ∀ {f : Ent}, f ∈ acc ++ [e] → f ∈ acc ∨ f = e := fun h => by simpa using h
  refine ⟨?_, ?_, ?_, ?_, ?_, ?_, ?_, ?_, ?_, ?_, ?_⟩
  ·intro f hf
   rw [List.length_append, List.length_singleton]
   rcases mem hf with hf1 | rfl
   ·have := ih.lt f hf1; omega
   ·rw [ha.i]; omega
  ·intro k hk
   rw [List.length_append, List.length_singleton] at hk
   by_cases hk' : k < acc.length
   ·obtain ⟨f, h1, h2⟩ := ih.idx k hk'
    exact ⟨f, List.mem_append_left _ h1, h2⟩
   ·exact ⟨e, by simp, by rw [ha.i]; omega⟩
  ·intro f hf g hg hfg
   rcases mem hf with hf1 | rfl <;> rcases mem hg with hg1 | rfl
   ·exact ih.inj f hf1 g hg1 hfg
   ·exact absurd hfg (hne f hf1)
   ·exact absurd hfg.symm (hne g hg1)
   ·rfl
  ·intro f hf
   rcases mem hf with hf1 | rfl
   ·obtain ⟨o', h1, h2, h3, h4, h5⟩ := ih.ent f hf1
    rw [pick_snoc (hdne f hf1)]
    exact ⟨o', h1, h2, h3, h4, fun j hj => (h5 j hj).imp id fun ⟨g, q1, q2⟩ => ⟨g, List.mem_append_left _ q1, q2⟩⟩
   ·rw [pick_snoc hdnn]
    exact ⟨o, ha.op, ha.dstE, ha.dstL, ha.step, fun j hj => (ha.dn1 j hj).imp id fun ⟨g, q1, q2⟩ => ⟨g, List.mem_append_left _ q1, q2⟩⟩
  ·intro f hf j hj
   rcases mem hf with hf1 | rfl
   ·exact ih.dn2 f hf1 j hj
   ·rw [ha.i]; exact ha.dn2 j hj
  ·intro f hf t ht
   rcases mem hf with hf1 | rfl
   ·refine ⟨(ih.dst f hf1 t ht).1, fun g hg hgt => ?_⟩
    rcases mem hg with hg1 | rfl
    ·exact (ih.dst f hf1 t ht).2 g hg1 hgt
    ·exact absurd ht ((ha.dst t hgt).2 f hf1)
   ·refine ⟨(ha.dst t ht).1, fun g hg hgt => ?_⟩
    rcases mem hg with hg1 | rfl
    ·exact absurd hgt ((ha.dst t ht).2 g hg1)
    ·rfl
  ·intro f hf t ht
   rcases mem hf with hf1 | rfl
   ·refine ⟨(ih.ids f hf1 t ht).1, fun g hg hgt => ?_⟩
    rcases mem hg with hg1 | rfl
    ·exact (ih.ids f hf1 t ht).2 g hg1 hgt
    ·exact absurd ht ((ha.ids t hgt).2 f hf1)
   ·refine ⟨(ha.ids t ht).1, fun g hg hgt => ?_⟩
    rcases mem hg with hg1 | rfl
    ·exact absurd hgt ((ha.ids t ht).2 g hg1)
    ·rfl
  ·intro f hf
   rcases mem hf with hf1 | rfl
   ·exact ih.nod f hf1
   ·exact ha.nod
  ·intro f hf
   rcases mem hf with hf1 | rfl
   ·exact ih.gone f hf1
   ·exact ha.gone
  ·intro f hf g hg hgf hgd
   rcases mem hf with hf1 | rfl <;> rcases mem hg with hg1 | rfl
   ·exact ih.ment f hf1 g hg1 hgf hgd
   ·exact ha.ment2 f hf1
   ·exact ha.ment1 g hg1 hgd
   ·exact absurd rfl hgf
  ·intro i hi k hk hki hkd f hf hfd
   rcases mem hf with hf1 | rfl
   ·rcases mem hi with hi1 | rfl <;> rcases mem hk with hk1 | rfl
    ·exact ih.c1 i hi1 k hk1 hki hkd f hf1 hfd
    ·exact ha.c1b i hi1 f hf1 hfd
    ·exact ha.c1a k hk1 hkd f hf1 hfd
    ·exact absurd rfl hki
   ·rcases mem hi with hi1 | rfl
    ·exact absurd hfd (hdne i hi1)
    ·exact absurd hfd hdnn
structure Clean (st0 : St) (D0 I0 : List Nat) : Prop where
 sl : ∀ t ∈ D0, get t st0.sl = none
 slm : ∀ t u, get t st0.sl = some u → u.ment I0 = false
 bl : ∀ t ∈ I0, get t st0.bl = none
 blm : ∀ t b, get t st0.bl = some b → b.ment I0 = false
theorem ment_gone {v : V} : ∀ {es : List Ent}, (∀ k ∈ es, v.ment k.gone = false) → v.ment (goneOf es) = false := by
 have cat : ∀ (v : V) (a b : List Nat), v.ment a = false → v.ment b = false → v.ment (a ++ b) = false := by
  have cC : ∀ (a b : List Nat) (c : C), c.ment a = false → c.ment b = false → c.ment (a ++ b) = false := fun a b c => by
   refine C.rec (motive_1 := fun c => c.ment a = false → c.ment b = false → c.ment (a ++ b) = false) (motive_2 := fun cs => C.ments a cs = false → C.ments b cs = false → C.ments (a ++ b) cs = false) ?_ ?_ ?_ ?_ ?_ ?_ ?_ ?_ ?_ ?_ ?_ c
   ·intros; rfl
   ·intros; rfl
   ·intro id len h1 h2; simp [C.ment] at h1 h2 ⊢; exact ⟨h1, h2⟩
   ·intro id len h1 h2; simp [C.ment] at h1 h2 ⊢; exact ⟨h1, h2⟩
   ·intro id k s j h1 h2; simp [C.ment] at h1 h2 ⊢; exact ⟨h1, h2⟩
   ·intro f caps ih h1 h2; simp only [C.ment] at h1 h2 ⊢; exact ih h1 h2
   ·intros; rfl
   ·intro id h1 h2; simp [C.ment] at h1 h2 ⊢; exact ⟨h1, h2⟩
   ·intro id s lo len h1 h2; simp [C.ment] at h1 h2 ⊢; exact ⟨h1, h2⟩
   ·intros; rfl
   ·intro c cs i1 i2 h1 h2
    simp only [C.ments, Bool.or_eq_false_iff] at h1 h2 ⊢
    exact ⟨i1 h1.1 h2.1, i2 h1.2 h2.2⟩
  have cCs : ∀ (a b : List Nat) (cs : List C), C.ments a cs = false → C.ments b cs = false → C.ments (a ++ b) cs = false := fun a b cs => by
   induction cs with
   | nil => intros; rfl
   | cons c cs ih =>
    intro h1 h2
    simp only [C.ments, Bool.or_eq_false_iff] at h1 h2 ⊢
    exact ⟨cC a b c h1.1 h2.1, ih h1.2 h2.2⟩
  intro v a b
  refine V.rec (motive_1 := fun v => v.ment a = false → v.ment b = false → v.ment (a ++ b) = false) (motive_2 := fun vs => V.ments a vs = false → V.ments b vs = false → V.ments (a ++ b) vs = false) ?_ ?_ ?_ ?_ ?_ ?_ v
  ·intro c h1 h2; simp only [V.ment] at h1 h2 ⊢; exact cC a b c h1 h2
  ·intro cs h1 h2; simp only [V.ment] at h1 h2 ⊢; exact cCs a b cs h1 h2
  ·intro vs ih h1 h2; simp only [V.ment] at h1 h2 ⊢; exact ih h1 h2
  ·intros; rfl
  ·intros; rfl
  ·intro c cs i1 i2 h1 h2
   simp only [V.ments, Bool.or_eq_false_iff] at h1 h2 ⊢
   exact ⟨i1 h1.1 h2.1, i2 h1.2 h2.2⟩
 intro es h
 induction es with
 | nil => exact V.ment_nil v
 | cons e es ih =>
  rw [goneOf]
  exact cat v _ _ (h e List.mem_cons_self) (ih fun k hk => h k (List.mem_cons_of_mem _ hk))
theorem bment_gone {b : B} {es : List Ent} (h : ∀ k ∈ es, b.ment k.gone = false) : b.ment (goneOf es) = false := by
 cases b with
 | arr => rfl
 | mp => rfl
 | var e cells => exact ment_gone (v := .agg cells) h
theorem R_le (hP : Props P X ops st0 D0 I0 acc) (hC : Clean st0 D0 I0) {S : List Nat} {e : Ent} (he : e ∈ acc) (heS : e.i ∉ S) (hdn : ∀ j ∈ e.dn, j ∈ S) : (stOf st0 (pick e.dn acc)).le (stOf st0 (pick S acc)) := by
 constructor
 ·intro t u h
  have hrest : get t st0.sl = some u → get t (stOf st0 (pick S acc)).sl = some u := fun h => by
   refine (get_append_none (slOf_none fun f hf hft => ?_)).trans h
   have h1 := (hP.dst f (mem_pick.1 hf).1 t hft).1
   rw [hC.sl t h1] at h; cases h
  rcases get_append h with h | h
  ·obtain ⟨f, h1, h2, h3, h4⟩ := get_slOf h
   obtain ⟨h5, h6⟩ := mem_pick.1 h1
   subst h3
   refine get_append_some (slOf_get (mem_pick.2 ⟨h5, hdn _ h6⟩) h2 (ment_gone fun k hk => ?_) fun g hg hgt => (hP.dst f h5 t h2).2 g (mem_pick.1 hg).1 hgt)
   by_cases hkd : k.i ∈ e.dn
   ·exact V.ment_sub (fun i hi => mem_goneOf.2 ⟨k, mem_pick.2 ⟨(mem_pick.1 hk).1, hkd⟩, hi⟩) h4
   ·exact (hP.c1 e he k (mem_pick.1 hk).1 (fun h => heS (h ▸ (mem_pick.1 hk).2)) hkd f h5 h6).1
  ·exact hrest h
 ·intro t u h
  have hrest : get t st0.bl = some u → get t (stOf st0 (pick S acc)).bl = some u := fun h => by
   refine (get_append_none (blOf_none fun f hf hft => ?_)).trans h
   have h1 := (hP.ids f (mem_pick.1 hf).1 t hft).1
   rw [hC.bl t h1] at h; cases h
  rcases get_append h with h | h
  ·obtain ⟨f, h1, h2, h3, h4⟩ := get_blOf h
   obtain ⟨h5, h6⟩ := mem_pick.1 h1
   have hmem : t ∈ f.nb.map (·.1) := List.mem_map.2 ⟨_, h4, rfl⟩
   have key : ∀ k ∈ pick S acc, t ∉ k.gone ∧ u.ment k.gone = false := fun k hk => by
    by_cases hkd : k.i ∈ e.dn
    ·exact ⟨fun hi => h2 (mem_goneOf.2 ⟨k, mem_pick.2 ⟨(mem_pick.1 hk).1, hkd⟩, hi⟩), B.ment_sub (fun i hi => mem_goneOf.2 ⟨k, mem_pick.2 ⟨(mem_pick.1 hk).1, hkd⟩, hi⟩) h3⟩
    ·exact (hP.c1 e he k (mem_pick.1 hk).1 (fun h => heS (h ▸ (mem_pick.1 hk).2)) hkd f h5 h6).2 _ h4
   refine get_append_some (blOf_get (mem_pick.2 ⟨h5, hdn _ h6⟩) (hP.nod f h5 t u h4) (fun hg => ?_) (bment_gone fun k hk => (key k hk).2) fun g hg hgt => (hP.ids f h5 t hmem).2 g (mem_pick.1 hg).1 hgt)
   obtain ⟨k, hk, hkg⟩ := mem_goneOf.1 hg
   exact (key k hk).1 hkg
  ·exact hrest h
theorem S_le (hP : Props P X ops st0 D0 I0 acc) (hC : Clean st0 D0 I0) {S S' : List Nat} {e : Ent} (he : e ∈ acc) (hS : ∀ j, j ∈ S' ↔ j = e.i ∨ j ∈ S) (heS : e.i ∉ S) (hcl : ∀ f ∈ acc, f.i ∈ S → ∀ j ∈ f.dn, j ∈ S) {ch kl : List Nat} (hch : ∀ id ∈ ch, id ∈ kl) (hkl : ∀ id ∈ kl, id ∈ e.nb.map (·.1) ∨ id ∈ e.gone) :
  (stOf st0 (pick S' acc)).le (((stOf st0 (pick S acc)).turn ch kl e.nb).put e.dst e.v) := by
 have heM : e ∈ pick S' acc := mem_pick.2 ⟨he, (hS _).2 (.inl rfl)⟩
 have sub : ∀ f ∈ pick S acc, f ∈ pick S' acc := fun f hf => mem_pick.2 ⟨(mem_pick.1 hf).1, (hS _).2 (.inr (mem_pick.1 hf).2)⟩
 have gsub : ∀ g ∈ goneOf (pick S acc), g ∈ goneOf (pick S' acc) := fun g hg => by
  obtain ⟨k, h1, h2⟩ := mem_goneOf.1 hg
  exact mem_goneOf.2 ⟨k, sub k h1, h2⟩
 have other : ∀ f ∈ pick S' acc, f ≠ e → f ∈ pick S acc := fun f hf hne => by
  obtain ⟨h1, h2⟩ := mem_pick.1 hf
  rcases (hS _).1 h2 with h2 | h2
  ·exact absurd (hP.inj f h1 e he h2) hne
  ·exact mem_pick.2 ⟨h1, h2⟩
 have klI : ∀ id ∈ kl, id ∈ I0 := fun id hid => by
  rcases hkl id hid with h | h
  ·exact (hP.ids e he id h).1
  ·exact hP.gone e he id h
 have mentV : ∀ f ∈ pick S acc, f.v.ment (goneOf (pick S' acc)) = false → f.v.ment kl = false := fun f hf hg => by
  have h1 := mem_pick.1 hf
  have h2 := (hP.ment f h1.1 e he (fun h => heS (h ▸ h1.2)) (fun h => heS (hcl f h1.1 h1.2 _ h))).1
  have h3 : f.v.ment e.gone = false := V.ment_sub (fun i hi => mem_goneOf.2 ⟨e, heM, hi⟩) hg
  have := ment_gone (v := f.v) (es := [⟨0, none, .junk, [], e.nb.map (·.1), []⟩, ⟨0, none, .junk, [], e.gone, []⟩]) (by
   intro k hk
   simp only [List.mem_cons, List.not_mem_nil, or_false] at hk
   rcases hk with rfl | rfl
   ·exact h2
   ·exact h3)
  refine V.ment_sub (fun i hi => ?_) this
  simp only [goneOf, List.append_nil, List.mem_append]
  exact hkl i hi
 have mentB : ∀ f ∈ pick S acc, ∀ p ∈ f.nb, p.2.ment (goneOf (pick S' acc)) = false → p.2.ment kl = false := fun f hf p hp hg => by
  have h1 := mem_pick.1 hf
  have h2 := (hP.ment f h1.1 e he (fun h => heS (h ▸ h1.2)) (fun h => heS (hcl f h1.1 h1.2 _ h))).2 p hp
  have h3 : p.2.ment e.gone = false := B.ment_sub (fun i hi => mem_goneOf.2 ⟨e, heM, hi⟩) hg
  have := bment_gone (b := p.2) (es := [⟨0, none, .junk, [], e.nb.map (·.1), []⟩, ⟨0, none, .junk, [], e.gone, []⟩]) (by
   intro k hk
   simp only [List.mem_cons, List.not_mem_nil, or_false] at hk
   rcases hk with rfl | rfl
   ·exact h2
   ·exact h3)
  refine B.ment_sub (fun i hi => ?_) this
  simp only [goneOf, List.append_nil, List.mem_append]
  exact hkl i hi
 have turnS : ∀ t u, get t (stOf st0 (pick S acc)).sl = some u → u.ment kl = false → e.dst ≠ some t → get t (((stOf st0 (pick S acc)).turn ch kl e.nb).put e.dst e.v).sl = some u := fun t u h1 h2 h3 => by
  have h4 : get t ((stOf st0 (pick S acc)).turn ch kl e.nb).sl = some u := by
   have key : ∀ l : List (Nat × V), get t l = some u → get t (l.map fun p => (p.1, p.2.kill kl)) = some (u.kill kl) := by
    intro l
    induction l with
    | nil => intro h; cases h
    | cons p l ih =>
     intro h
     simp only [get] at h
     rw [List.map_cons]
     simp only [get]
     split at h
     ·rename_i hk; injection h with h; rw [if_pos hk, h]
     ·rename_i hk; rw [if_neg hk]; exact ih h
   have := key _ h1
   rw [V.kill_same h2] at this
   exact this
  cases hd : e.dst with
  | none => exact h4
  | some d =>
   show (if t = d then some e.v else get t ((stOf st0 (pick S acc)).turn ch kl e.nb).sl) = some u
   rw [if_neg (fun he => h3 (by rw [hd, he]))]
   exact h4
 have turnB : ∀ t u, get t (stOf st0 (pick S acc)).bl = some u → u.ment kl = false → t ∉ kl → t ∉ e.nb.map (·.1) → get t (((stOf st0 (pick S acc)).turn ch kl e.nb).put e.dst e.v).bl = some u := fun t u h1 h2 h3 h4 => by
  have h5 : get t ((stOf st0 (pick S acc)).turn ch kl e.nb).bl = some u := by
   have hnone : get t e.nb = none := by
    have : ∀ l : List (Nat × B), t ∉ l.map (·.1) → get t l = none := by
     intro l
     induction l with
     | nil => intro _; rfl
     | cons p l ih =>
      intro h
      simp only [List.map_cons, List.mem_cons, not_or] at h
      simp only [get]
      rw [if_neg h.1]
      exact ih h.2
    exact this _ h4
   have key : ∀ l : List (Nat × B), get t l = some u → get t ((l.filter fun p => !(ch.contains p.1 || kl.contains p.1)).map fun p => (p.1, p.2.kill kl)) = some (u.kill kl) := by
    intro l
    induction l with
    | nil => intro h; cases h
    | cons p l ih =>
     intro h
     simp only [get] at h
     split at h
     ·rename_i hk
      injection h with h
      subst hk
      have hc : (!(ch.contains p.1 || kl.contains p.1)) = true := by
       simp only [List.contains_eq_mem, Bool.not_eq_true', Bool.or_eq_false_iff, decide_eq_false_iff_not]
       exact ⟨fun hm => h3 (hch _ hm), h3⟩
      rw [List.filter_cons, if_pos hc, List.map_cons]
      simp only [get, if_true, h]
     ·rename_i hk
      rw [List.filter_cons]
      split
      ·rw [List.map_cons]
       simp only [get]
       rw [if_neg hk]
       exact ih h
      ·exact ih h
   unfold St.turn
   rw [get_append_none hnone, key _ h1, B.kill_same h2]
  cases e.dst <;> exact h5
 constructor
 ·intro t u h
  rcases get_append h with h | h
  ·obtain ⟨f, h1, h2, h3, h4⟩ := get_slOf h
   subst h3
   by_cases hfe : f = e
   ·subst hfe
    rw [h2]
    simp [St.put, get]
   ·have hf := other f h1 hfe
    refine turnS t f.v (get_append_some (slOf_get hf h2 (V.ment_sub gsub h4) fun g hg hgt => (hP.dst f (mem_pick.1 hf).1 t h2).2 g (mem_pick.1 hg).1 hgt)) (mentV f hf h4) fun hd => hfe ((hP.dst e he t hd).2 f (mem_pick.1 hf).1 h2)
  ·have hD : t ∉ D0 := fun hm => by rw [hC.sl t hm] at h; cases h
   refine turnS t u ((get_append_none (slOf_none fun f hf hft => hD (hP.dst f (mem_pick.1 hf).1 t hft).1)).trans h) (V.ment_sub klI (hC.slm t u h)) fun hd => hD (hP.dst e he t hd).1
 ·intro t u h
  rcases get_append h with h | h
  ·obtain ⟨f, h1, h2, h3, h4⟩ := get_blOf h
   by_cases hfe : f = e
   ·subst hfe
    have h5 : get t ((stOf st0 (pick S acc)).turn ch kl f.nb).bl = some u := get_append_some (hP.nod f he t u h4)
    cases f.dst <;> exact h5
   ·have hf := other f h1 hfe
    have hmem : t ∈ f.nb.map (·.1) := List.mem_map.2 ⟨_, h4, rfl⟩
    have hne : t ∉ e.nb.map (·.1) := fun hm => hfe ((hP.ids e he t hm).2 f (mem_pick.1 hf).1 hmem)
    refine turnB t u (get_append_some (blOf_get hf (hP.nod f (mem_pick.1 hf).1 t u h4) (fun hg => h2 (gsub _ hg)) (B.ment_sub gsub h3) fun g hg hgt => (hP.ids f (mem_pick.1 hf).1 t hmem).2 g (mem_pick.1 hg).1 hgt)) (mentB f hf _ h4 h3) (fun hm => ?_) hne
    rcases hkl t hm with hm | hm
    ·exact hne hm
    ·exact h2 (mem_goneOf.2 ⟨e, heM, hm⟩)
  ·have hI : t ∉ I0 := fun hm => by rw [hC.bl t hm] at h; cases h
   exact turnB t u ((get_append_none (blOf_none fun f hf hft => hI (hP.ids f (mem_pick.1 hf).1 t hft).1)).trans h) (B.ment_sub klI (hC.blm t u h)) (fun hm => hI (klI t hm)) fun hm => hI (hP.ids e he t hm).1
end
end Go.Proofs.YtjdgejfhnfnmgaaGreatDoor.Ax
namespace Go.Proofs.YtjdgejfhnfnmgaaGreatDoor.Ax
open Go.RowKit
set_option linter.unnecessarySimpa false
section
variable {P : Program} {X : Cx} {ops : Array Oper} {st0 : St} {D0 I0 : List Nat} {acc : List Ent} {st : St} {ρ : Nat → R} {a : Act} {w : World}
theorem pick_nil (acc : List Ent) : pick [] acc = [] := by
 induction acc with
 | nil => rfl
 | cons e es ih => rw [pick, if_neg (by simp), ih]
def listedL (n : Nat) (listed : Array Bool) : List Nat := (List.range n).filter fun i => listed.getD i false
theorem mem_listed {n i : Nat} {listed : Array Bool} : i ∈ listedL n listed ↔ i < n ∧ listed.getD i false = true := by simp [listedL]
theorem ready_edge {listed : Array Bool} {i j : Nat} {o : Oper} (hi : i ∈ Region.ready .any ops listed) (ho : ops[i]? = some o) (he : edge o j = true) : listed.getD j false = true := by
 simp only [Region.ready, List.mem_filter, ho, Option.map_some, Option.getD_some, Bool.and_eq_true] at hi
 unfold edge at he
 obtain ⟨e, h1, h2⟩ := List.any_eq_true.1 he
 simp only [Bool.and_eq_true, decide_eq_true_eq] at h2
 have h3 := Array.all_eq_true_iff_forall_mem.1 hi.2.2 e (Array.mem_toList_iff.1 h1)
 rw [h2.1, h2.2] at h3
 simpa using h3
theorem ready_in {listed : Array Bool} {i : Nat} (hi : i ∈ Region.ready .any ops listed) : i < ops.size ∧ listed.getD i true = false := by
 simp only [Region.ready, List.mem_filter, List.mem_range, Bool.and_eq_true, Bool.not_eq_true'] at hi
 exact ⟨hi.1, hi.2.1⟩
def backOk (l : List Oper) : Bool := l.zipIdx.all fun p => p.1.after.toList.all fun e => !Region.binds .any e || decide (e.on < p.2)
theorem ready_some {listed : Array Bool} (hb : backOk ops.toList = true) {i : Nat} (hi : i < ops.size) (hn : listed.getD i true = false) : Region.ready .any ops listed ≠ [] := by
 have key : ∀ n, ∀ i, i < n → i < ops.size → listed.getD i true = false → ∃ j, j ∈ Region.ready .any ops listed := by
  intro n
  induction n with
  | zero => intro i h; omega
  | succ n ih =>
   intro i hin hi hn
   by_cases hall : ((ops[i]?).map (·.after.all fun e => !Region.binds .any e || listed.getD e.on false)).getD false = true
   ·refine ⟨i, ?_⟩
    simp only [Region.ready, List.mem_filter, List.mem_range, Bool.and_eq_true, Bool.not_eq_true']
    exact ⟨hi, hn, hall⟩
   ·have ho : ops[i]? = some ops[i] := Array.getElem?_eq_getElem hi
    rw [ho] at hall
    simp only [Option.map_some, Option.getD_some] at hall
    rw [← Array.all_toList, Bool.not_eq_true, List.all_eq_false] at hall
    obtain ⟨e, he', hne⟩ := hall
    have he := Array.mem_toList_iff.1 he'
    simp only [Bool.or_eq_true, Bool.not_eq_true', not_or, Bool.not_eq_false, Bool.not_eq_true] at hne
    have hz : (ops[i], i) ∈ ops.toList.zipIdx := by
     rw [List.mem_zipIdx_iff_getElem?]
     simpa using ho
    have h1 := List.all_eq_true.1 hb _ hz
    have h2 := List.all_eq_true.1 h1 e (Array.mem_toList_iff.2 he)
    simp only [hne.1, Bool.not_true, Bool.false_or, decide_eq_true_eq] at h2
    refine ih e.on (by omega) (by omega) ?_
    have : e.on < listed.size ∨ listed.size ≤ e.on := Nat.lt_or_ge _ _
    by_cases hl : e.on < listed.size
    ·have h3 := hne.2
     simp only [Array.getD_eq_getD_getElem?, Array.getElem?_eq_getElem hl, Option.getD_some] at h3 ⊢
     exact h3
    ·-- beyond the list nothing that is not listed stands at i
     have hil : i < listed.size := by
      rcases Nat.lt_or_ge i listed.size with h | h
      ·exact h
      ·rw [Array.getD_eq_getD_getElem?, Array.getElem?_eq_none h] at hn; cases hn
     omega
 intro he
 obtain ⟨j, hj⟩ := key (i + 1) i (Nat.lt_succ_self _) hi hn
 rw [he] at hj
 cases hj
def tailOk (c : Oper → Nat → Bool) : Nat → Bool → List Oper → Bool
 | _, _, [] => true
 | i, first, o :: l => (if first then (List.range i).all fun j => c o j else edge o (i - 1)) && tailOk c (i + 1) false l
def clos (acc : List Ent) (o : Oper) (j : Nat) : Bool := edge o j || acc.any fun f => edge o f.i && f.dn.contains j
def upTo (listed : Array Bool) (t n : Nat) : Prop := listed.size = n ∧ ∀ i, i < n → listed.getD i true = decide (i < t)
theorem tail_any {c : Oper → Nat → Bool} {Q : Exit → Act → World → Prop} (hbk : backOk ops.toList = true) : ∀ (l : List Oper) (t fuel : Nat) (listed : Array Bool) (first : Bool) (a : Act) (w : World), ops.toList.drop t = l → t ≤ ops.size → ops.size - t ≤ fuel → upTo listed t ops.size → tailOk c t first l = true → (first = true ∨ 0 < t) →
  wpList P ops Q l a w → wpAny P .any ops Q fuel listed a w := by
 intro l
 induction l with
 | nil =>
  intro t fuel listed first a w hl ht hf hu _ _ h
  have hts : t = ops.size := by
   have := congrArg List.length hl
   simp at this
   omega
  subst hts
  have hr : Region.ready .any ops listed = [] := by
   rw [List.eq_nil_iff_forall_not_mem]
   intro i hi
   obtain ⟨h1, h2⟩ := ready_in hi
   rw [hu.2 i h1] at h2
   simp at h2
   omega
  cases fuel with
  | zero => exact ⟨hr, h⟩
  | succ f => exact ⟨fun _ => h, fun i hi => by rw [hr] at hi; cases hi⟩
 | cons o l ih =>
  intro t fuel listed first a w hl ht hf hu hk hft h
  have hlt : t < ops.size := by
   rcases Nat.lt_or_ge t ops.size with h | h
   ·exact h
   ·rw [List.drop_eq_nil_of_le (by simpa using h)] at hl; cases hl
  have ho : ops[t]? = some o := by
   have : (ops.toList.drop t)[0]? = some o := by rw [hl]; rfl
   simpa using this
  have hdrop : ops.toList.drop (t + 1) = l := by
   have := congrArg (List.drop 1) hl
   simpa [List.drop_drop] using this
  obtain ⟨fuel, rfl⟩ : ∃ f, fuel = f + 1 := ⟨fuel - 1, by omega⟩
  simp only [tailOk, Bool.and_eq_true] at hk
  have hu' : upTo (listed.setIfInBounds t true) (t + 1) ops.size := by
   refine ⟨by simpa using hu.1, fun i hi => ?_⟩
   rw [Array.getD_eq_getD_getElem?, Array.getElem?_setIfInBounds]
   by_cases hit : t = i
   ·subst hit
    rw [if_pos rfl, if_pos (by rw [hu.1]; exact hi)]
    simp
   ·rw [if_neg hit, ← Array.getD_eq_getD_getElem?, hu.2 i hi]
    congr 1
    apply propext
    omega
  have honly : ∀ i ∈ Region.ready .any ops listed, i = t := by
   intro i hi
   obtain ⟨h1, h2⟩ := ready_in hi
   rw [hu.2 i h1] at h2
   simp at h2
   rcases Nat.lt_or_ge t i with hti | hti
   ·exfalso
    have hw : ∀ (l : List Oper) (k : Nat) (j : Nat) (oj : Oper), tailOk c k false l = true → l[j]? = some oj → edge oj (k + j - 1) = true := by
     intro l
     induction l with
     | nil => intro k j oj _ h; simp at h
     | cons q l ih =>
      intro k j oj h hj
      simp only [tailOk, Bool.and_eq_true, Bool.false_eq_true, if_false] at h
      cases j with
      | zero => simp at hj; subst hj; exact h.1
      | succ j =>
       have := ih (k + 1) j oj h.2 (by simpa using hj)
       rwa [show k + 1 + j - 1 = k + (j + 1) - 1 by omega] at this
    obtain ⟨j, hj⟩ : ∃ j, i = t + 1 + j := ⟨i - (t + 1), by omega⟩
    have hoi : ops[i]? = some ops[i] := Array.getElem?_eq_getElem h1
    have hlj : l[j]? = some ops[i] := by rw [← hdrop, List.getElem?_drop, ← hj]; simpa using hoi
    have he := hw l (t + 1) j _ hk.2 hlj
    have hlis := ready_edge hi hoi he
    have := hu.2 (t + 1 + j - 1) (by omega)
    rw [Array.getD_eq_getD_getElem?] at hlis this
    rw [Array.getElem?_eq_getElem (by rw [hu.1]; omega)] at hlis this
    simp only [Option.getD_some] at hlis this
    rw [hlis] at this
    simp at this
    omega
   ·omega
  refine ⟨fun he => ?_, fun i hi => ?_⟩
  ·exact absurd he (ready_some hbk hlt (by rw [hu.2 t hlt]; simp))
  ·obtain rfl := honly i hi
   have ihh : ∀ a w, wpList P ops Q l a w → wpAny P .any ops Q fuel (listed.setIfInBounds i true) a w := fun a w h => ih (i + 1) fuel _ false a w hdrop (by omega) (by omega) hu' hk.2 (.inr (by omega)) h
   unfold wpOp
   rw [ho]
   unfold wpList at h
   simp only at h ⊢
   split
   ·rename_i hw
    rw [if_pos hw] at h
    exact h.imp (Oper.wp_mono ihh) fun h => h
   ·rename_i hw
    rw [if_neg hw] at h
    exact ihh _ _ h
theorem countP_lt {p q : Nat → Bool} : ∀ {l : List Nat} {i : Nat}, (∀ j, q j = true → p j = true) → i ∈ l → p i = true → q i = false → l.countP q < l.countP p
 | [], _, _, h, _, _ => by cases h
 | x :: l, i, hpq, hi, hp, hq => by
  have hle : l.countP q ≤ l.countP p := List.countP_mono_left fun j _ => hpq j
  rw [List.countP_cons, List.countP_cons]
  by_cases hx : x = i
  ·subst hx
   rw [if_neg (by simp [hq]), if_pos hp]
   omega
  ·have := countP_lt hpq ((List.mem_cons.1 hi).resolve_left (fun h => hx h.symm)) hp hq
   split <;> split
   ·omega
   ·rename_i h1 h2; exact absurd (hpq x h1) h2
   ·omega
   ·omega
theorem pick_congr {S S' : List Nat} : ∀ {acc : List Ent}, (∀ e ∈ acc, e.i ∈ S ↔ e.i ∈ S') → pick S acc = pick S' acc
 | [], _ => rfl
 | e :: es, h => by
  have h1 := h e List.mem_cons_self
  have h2 := pick_congr fun f hf => h f (List.mem_cons_of_mem _ hf)
  rw [pick, pick, h2]
  by_cases hm : e.i ∈ S
  ·rw [if_pos (by simpa using hm), if_pos (by simpa using h1.1 hm)]
  ·rw [if_neg (by simpa using hm), if_neg (by simpa using fun h => hm (h1.2 h))]
theorem tail_edges {c : Oper → Nat → Bool} : ∀ (l : List Oper) (k : Nat) (first : Bool) (j : Nat) (o : Oper), tailOk c k first l = true → l[j]? = some o → (j = 0 ∧ first = true ∧ ∀ i, i < k → c o i = true) ∨ edge o (k + j - 1) = true := by
 intro l
 induction l with
 | nil => intro k first j o _ h; simp at h
 | cons q l ih =>
  intro k first j o h hj
  simp only [tailOk, Bool.and_eq_true] at h
  cases j with
  | zero =>
   simp at hj
   subst hj
   cases first with
   | true =>
    left
    refine ⟨rfl, rfl, fun i hi => ?_⟩
    simp only [if_true, List.all_eq_true, List.mem_range] at h
    exact h.1 i hi
   | false => right; simpa using h.1
  | succ j =>
   rcases ih (k + 1) false j o h.2 (by simpa using hj) with h1 | h1
   ·cases h1.2.1
   ·right
    rwa [show k + 1 + j - 1 = k + (j + 1) - 1 by omega] at h1
theorem plan_any {Q : Exit → Act → World → Prop} (hP : Props P X ops st0 D0 I0 acc) (hC : Clean st0 D0 I0) (hbk : backOk ops.toList = true) (hm : acc.length ≤ ops.size) (htl : tailOk (clos acc) acc.length true (ops.toList.drop acc.length) = true)
  (htail : ∀ ρ a w, Hold X (stOf st0 acc) ρ a w → wpList P ops Q (ops.toList.drop acc.length) a w) :
  ∀ (fuel : Nat) (listed : Array Bool) (ρ : Nat → R) (a : Act) (w : World), listed.size = ops.size → (List.range ops.size).countP (fun i => !listed.getD i true) ≤ fuel → (∀ i, acc.length ≤ i → i < ops.size → listed.getD i true = false) →
   (∀ f ∈ acc, f.i ∈ listedL ops.size listed → ∀ j ∈ f.dn, j ∈ listedL ops.size listed) → Hold X (stOf st0 (pick (listedL ops.size listed) acc)) ρ a w → wpAny P .any ops Q fuel listed a w := by
 intro fuel
 induction fuel with
 | zero =>
  intro listed ρ a w hs hc hun hcl hH
  have hall : ∀ i, i < ops.size → listed.getD i true = true := fun i hi => by
   have := List.countP_eq_zero.1 (Nat.le_zero.1 hc) i (List.mem_range.2 hi)
   simpa using this
  have hmm : acc.length = ops.size := by
   rcases Nat.lt_or_ge acc.length ops.size with h | h
   ·have h1 := hun acc.length (Nat.le_refl _) h
    rw [hall _ h] at h1; cases h1
   ·omega
  have hp : pick (listedL ops.size listed) acc = acc := by
   have : ∀ l : List Ent, (∀ e ∈ l, e.i ∈ listedL ops.size listed) → pick (listedL ops.size listed) l = l := by
    intro l
    induction l with
    | nil => intro _; rfl
    | cons e es ih => intro h; rw [pick, if_pos (by simpa using h e List.mem_cons_self), ih fun f hf => h f (List.mem_cons_of_mem _ hf)]
   refine this acc fun e he => mem_listed.2 ⟨by rw [← hmm]; exact hP.lt e he, ?_⟩
   have h1 := hall e.i (by rw [← hmm]; exact hP.lt e he)
   rw [Array.getD_eq_getD_getElem?, Array.getElem?_eq_getElem (by rw [hs, ← hmm]; exact hP.lt e he)] at h1 ⊢
   exact h1
  rw [hp] at hH
  have := htail ρ a w hH
  exact tail_any hbk _ acc.length 0 listed true a w rfl hm (by omega) ⟨hs, fun i hi => by rw [hall i hi]; simp; omega⟩ htl (.inl rfl) this
 | succ fuel ih =>
  intro listed ρ a w hs hc hun hcl hH
  have hget : ∀ i, i < ops.size → listed.getD i true = listed.getD i false := fun i hi => by
   rw [Array.getD_eq_getD_getElem?, Array.getD_eq_getD_getElem?, Array.getElem?_eq_getElem (by rw [hs]; exact hi)]
   rfl
  by_cases hall : ∀ i, i < acc.length → listed.getD i true = true
  ·have hp : pick (listedL ops.size listed) acc = acc := by
    have : ∀ l : List Ent, (∀ e ∈ l, e.i ∈ listedL ops.size listed) → pick (listedL ops.size listed) l = l := by
     intro l
     induction l with
     | nil => intro _; rfl
     | cons e es ih => intro h; rw [pick, if_pos (by simpa using h e List.mem_cons_self), ih fun f hf => h f (List.mem_cons_of_mem _ hf)]
    refine this acc fun e he => mem_listed.2 ⟨Nat.lt_of_lt_of_le (hP.lt e he) hm, ?_⟩
    rw [← hget _ (Nat.lt_of_lt_of_le (hP.lt e he) hm)]
    exact hall e.i (hP.lt e he)
   rw [hp] at hH
   have hul : upTo listed acc.length ops.size := ⟨hs, fun i hi => by
    by_cases h : i < acc.length
    ·rw [hall i h]; simp [h]
    ·rw [hun i (by omega) hi]; simp [h]⟩
   have hcount : ops.size - acc.length ≤ fuel + 1 := by
    refine Nat.le_trans ?_ hc
    have key : ∀ n, n ≤ ops.size → n - acc.length ≤ (List.range n).countP fun i => !listed.getD i true := by
     intro n
     induction n with
     | zero => intro _; simp
     | succ n ihn =>
      intro hn
      have := ihn (by omega)
      rw [List.range_succ, List.countP_append, List.countP_singleton]
      by_cases h : acc.length ≤ n
      ·rw [if_pos (by rw [hun n h (by omega)]; rfl)]; omega
      ·omega
    exact key _ (Nat.le_refl _)
   exact tail_any hbk _ acc.length (fuel + 1) listed true a w rfl hm hcount hul htl (.inl rfl) (htail ρ a w hH)
  ·obtain ⟨i0, hi0, hn0⟩ : ∃ i0, i0 < acc.length ∧ listed.getD i0 true = false := by
    refine Classical.byContradiction fun h => hall fun i hi => ?_
    cases hv : listed.getD i true with
    | true => rfl
    | false => exact absurd ⟨i, hi, hv⟩ h
   refine ⟨fun he => absurd he (ready_some hbk (by omega) hn0), fun i hi => ?_⟩
   obtain ⟨hin, hiu⟩ := ready_in hi
   have hop : ops[i]? = some ops[i] := Array.getElem?_eq_getElem hin
   have hclo : ∀ j, j < acc.length → clos acc ops[i] j = true → listed.getD j false = true := fun j hj hc' => by
    simp only [clos, Bool.or_eq_true, List.any_eq_true, Bool.and_eq_true, List.contains_eq_mem, decide_eq_true_eq] at hc'
    rcases hc' with h | ⟨f, hf, h1, h2⟩
    ·exact ready_edge hi hop h
    ·exact (mem_listed.1 (hcl f hf (mem_listed.2 ⟨Nat.lt_of_lt_of_le (hP.lt f hf) hm, ready_edge hi hop h1⟩) j h2)).2
   have him : i < acc.length := by
    rcases Nat.lt_or_ge i acc.length with h | h
    ·exact h
    ·exfalso
     have hl : (ops.toList.drop acc.length)[i - acc.length]? = some ops[i] := by
      rw [List.getElem?_drop, show acc.length + (i - acc.length) = i by omega]; simpa using hop
     rcases tail_edges _ _ _ _ _ htl hl with ⟨_, _, h3⟩ | h3
     ·have := hclo i0 hi0 (h3 i0 hi0)
      rw [← hget i0 (by omega), hn0] at this; cases this
     ·have h4 := ready_edge hi hop h3
      rcases Nat.lt_or_ge acc.length i with h5 | h5
      ·rw [← hget _ (by omega), hun _ (by omega) (by omega)] at h4; cases h4
      ·obtain rfl : i = acc.length := by omega
       rcases tail_edges _ _ _ _ _ htl hl with ⟨_, _, h6⟩ | h6
       ·have := hclo i0 hi0 (h6 i0 hi0)
        rw [← hget i0 (by omega), hn0] at this; cases this
       ·have hz : (ops.toList.drop acc.length) ≠ [] := by intro h; rw [h] at hl; simp at hl
        cases hdl : ops.toList.drop acc.length with
        | nil => exact hz hdl
        | cons q l =>
         rw [hdl] at htl hl
         simp at hl
         subst hl
         simp only [tailOk, Bool.and_eq_true, if_true, List.all_eq_true, List.mem_range] at htl
         have := hclo i0 hi0 (htl.1 i0 hi0)
         rw [← hget i0 (by omega), hn0] at this; cases this
   obtain ⟨e, he, hei⟩ := hP.idx i him
   subst hei
   obtain ⟨o, ho, hd, hdl, hstep, hdn⟩ := hP.ent e he
   have heS : e.i ∉ listedL ops.size listed := fun h => by
    have := (mem_listed.1 h).2
    rw [← hget _ hin, hiu] at this; cases this
   have hdnS : ∀ j ∈ e.dn, j ∈ listedL ops.size listed := fun j hj => by
    rcases hdn j hj with h | ⟨f, hf, h1, h2⟩
    ·exact mem_listed.2 ⟨by have := hP.dn2 e he j hj; omega, ready_edge hi ho h⟩
    ·exact hcl f hf (mem_listed.2 ⟨Nat.lt_of_lt_of_le (hP.lt f hf) hm, ready_edge hi ho h1⟩) j h2
   have hR := hH.le (R_le hP hC he heS hdnS)
   have hS' : ∀ j, j ∈ listedL ops.size (listed.setIfInBounds e.i true) ↔ j = e.i ∨ j ∈ listedL ops.size listed := fun j => by
    rw [mem_listed, mem_listed, Array.getD_eq_getD_getElem?, Array.getElem?_setIfInBounds]
    by_cases hj : e.i = j
    ·subst hj
     rw [if_pos rfl, if_pos (by rw [hs]; exact hin)]
     simp [hin]
    ·rw [if_neg hj, ← Array.getD_eq_getD_getElem?]
     constructor
     ·exact fun h => .inr h
     ·rintro (h | h)
      ·exact absurd h.symm hj
      ·exact h
   have next : ∀ ρ' a' w', Hold X (stOf st0 (pick (listedL ops.size (listed.setIfInBounds e.i true)) acc)) ρ' a' w' → wpAny P .any ops Q fuel (listed.setIfInBounds e.i true) a' w' := fun ρ' a' w' hH' => by
    refine ih _ ρ' a' w' (by simpa using hs) ?_ (fun j hj hjn => ?_) (fun f hf hfi j hj => ?_) hH'
    ·have := countP_lt (p := fun i => !listed.getD i true) (q := fun i => !(listed.setIfInBounds e.i true).getD i true) (l := List.range ops.size) (i := e.i) (fun j hj => by
      rw [Array.getD_eq_getD_getElem?, Array.getElem?_setIfInBounds] at hj
      by_cases h : e.i = j
      ·subst h
       rw [if_pos rfl, if_pos (by rw [hs]; exact hin)] at hj
       simp at hj
      ·rwa [if_neg h, ← Array.getD_eq_getD_getElem?] at hj) (List.mem_range.2 hin) (by rw [hiu]; rfl) (by
      rw [Array.getD_eq_getD_getElem?, Array.getElem?_setIfInBounds, if_pos rfl, if_pos (by rw [hs]; exact hin)]
      rfl)
     omega
    ·rw [Array.getD_eq_getD_getElem?, Array.getElem?_setIfInBounds, if_neg (by omega), ← Array.getD_eq_getD_getElem?]
     exact hun j hj hjn
    ·rcases (hS' f.i).1 hfi with h | h
     ·obtain rfl := hP.inj f hf e he h
      exact (hS' j).2 (.inr (hdnS j hj))
     ·exact (hS' j).2 (.inr (hcl f hf h j hj))
   unfold wpOp
   rw [ho]
   simp only
   rcases hstep with ⟨hg, D, hst, hgood⟩ | ⟨hg, hv, hnb, hgone⟩
   ·rw [guard_sound hR hg, if_pos rfl]
    refine .inl (hst hdl ρ a w hR _ _ fun x ρ' w' hout => next ρ' _ w' ?_)
    have hgen : ∃ ch kl, Evo X ρ w ρ' w' ch kl ∧ RdV w' (okOf X ρ' w') ρ' e.v x ∧ (∀ id b, get id e.nb = some b → HasB X w' ρ' id b) ∧ (∀ id ∈ ch, id ∈ kl) ∧ ∀ id ∈ kl, id ∈ e.nb.map (·.1) ∨ id ∈ e.gone := by
     rcases hgood with ⟨rfl, h2, h3⟩ | ⟨ch, kl, rfl, h2, h3⟩
     ·obtain ⟨rfl, rfl, h4⟩ := hout
      exact ⟨[], [], Evo.refl hH, h4, (fun id b h => by rw [h2] at h; cases h), (fun _ h => h), fun _ h => by cases h⟩
     ·exact ⟨ch, kl, hout.1, hout.2.1, hout.2.2, h2, h3⟩
    obtain ⟨ch, kl, hevo, hrd, hnbs, hck, hkl⟩ := hgen
    have hT := (hH.turn hevo hnbs).put (dst := e.dst) (by rw [hd]; exact dst_lt hdl) hrd
    rw [← hd]
    exact hT.le (S_le hP hC he hS' heS hcl hck hkl)
   ·rw [guard_sound hR hg, if_neg (by simp)]
    refine next ρ _ w ?_
    have hT := (hH.turn (Evo.refl hH) (nb := e.nb) (fun id b h => by rw [hnb] at h; cases h)).put (dst := e.dst) (v := e.v) (x := undef) (by rw [hd]; exact dst_lt hdl) (by rw [hv]; unfold RdV; exact ⟨#[], rfl, by unfold RdVs; trivial⟩)
    rw [← hd]
    exact hT.le (S_le hP hC he hS' heS hcl (by simp) (by simp))
end
end Go.Proofs.YtjdgejfhnfnmgaaGreatDoor.Ax
namespace Go.Proofs.YtjdgejfhnfnmgaaGreatDoor.Ax
open Go.RowKit
set_option linter.unnecessarySimpa false
structure Fl where
 i : Nat
 dst : Nat
 v : V
 rd : List (Nat × V)
def flSl (p : Nat → Bool) : List Fl → List (Nat × V)
 | [] => []
 | f :: fs => if p f.i = true then (f.dst, f.v) :: flSl p fs else flSl p fs
def addF (l : List (Nat × V)) (st : St) : St := ⟨l ++ st.sl, st.bl⟩
def dKeeps : Delta → Bool
 | .pure _ => true
 | .mod _ _ [] _ => true
 | _ => false
def flFree (F : List Fl) (dst : Option Tmp) : Bool := F.all fun f => dst != some f.dst && f.rd.all fun p => dst != some p.1
def tailF (P : Program) (n : Nat) (ops : Array Oper) (F : List Fl) : List Oper → St → Option St
 | [], st => some st
 | o :: l, st =>
  match guardOf (addF (flSl (fun i => edge o i) F) st) ops o with
  | some true => match exec1 P (addF (flSl (fun i => edge o i) F) st) o with
   | some D => if (dKeeps D && dstOk n o.dst && flFree F o.dst) = true then tailF P n ops F l ((addF (flSl (fun i => edge o i) F) st).app D o.dst) else none
   | none => none
  | _ => none
structure FlOk (P : Program) (X : Cx) (ops : Array Oper) (F : List Fl) : Prop where
 op : ∀ f ∈ F, ∃ o, ops[f.i]? = some o ∧ o.dst = some f.dst ∧ f.dst < X.n ∧ guardOf ⟨f.rd, []⟩ ops o = some true ∧ Step P X ⟨f.rd, []⟩ o (.pure f.v)
 inj : ∀ f ∈ F, ∀ g ∈ F, f.dst = g.dst → f = g
 rd : ∀ f ∈ F, ∀ p ∈ f.rd, ∀ g ∈ F, g.dst ≠ p.1
section
variable {P : Program} {X : Cx} {ops : Array Oper} {F : List Fl} {m : Nat} {stE : St} {Q : Exit → Act → World → Prop}
theorem get_flSl {p : Nat → Bool} {t : Nat} {u : V} : ∀ {F : List Fl}, get t (flSl p F) = some u → ∃ f ∈ F, p f.i = true ∧ f.dst = t ∧ f.v = u
 | [], h => by cases h
 | f :: fs, h => by
  unfold flSl at h
  split at h
  ·rename_i hp
   unfold get at h
   split at h
   ·rename_i ht
    injection h with h
    exact ⟨f, List.mem_cons_self, hp, ht.symm, h⟩
   ·obtain ⟨g, h1, h2⟩ := get_flSl h
    exact ⟨g, List.mem_cons_of_mem _ h1, h2⟩
  ·obtain ⟨g, h1, h2⟩ := get_flSl h
   exact ⟨g, List.mem_cons_of_mem _ h1, h2⟩
theorem flSl_get {p : Nat → Bool} {f : Fl} : ∀ {F : List Fl}, (∀ f ∈ F, ∀ g ∈ F, f.dst = g.dst → f = g) → f ∈ F → p f.i = true → get f.dst (flSl p F) = some f.v
 | [], _, h, _ => by cases h
 | g :: fs, hinj, h, hp => by
  have hrest : ∀ x ∈ fs, ∀ y ∈ fs, x.dst = y.dst → x = y := fun x hx y hy => hinj x (List.mem_cons_of_mem _ hx) y (List.mem_cons_of_mem _ hy)
  unfold flSl
  by_cases he : g = f
  ·subst he
   rw [if_pos hp]
   unfold get
   rw [if_pos rfl]
  ·have hm : f ∈ fs := (List.mem_cons.1 h).resolve_left fun e => he e.symm
   split
   ·unfold get
    rw [if_neg fun e => he (hinj g List.mem_cons_self f h e.symm)]
    exact flSl_get hrest hm hp
   ·exact flSl_get hrest hm hp
theorem flSl_none {p : Nat → Bool} {t : Nat} {F : List Fl} (h : ∀ f ∈ F, f.dst ≠ t) : get t (flSl p F) = none := by
 cases hg : get t (flSl p F) with
 | none => rfl
 | some u =>
  obtain ⟨f, hf, _, he, _⟩ := get_flSl hg
  exact absurd he (h f hf)
theorem app_other {st : St} {D : Delta} {dst : Option Tmp} {t : Nat} (hD : dKeeps D = true) (ht : dst ≠ some t) : get t (st.app D dst).sl = get t st.sl := by
 have hput : ∀ (s : St) (v : V), get t (s.put dst v).sl = get t s.sl := fun s v => by
  cases dst with
  | none => rfl
  | some d =>
   show (if t = d then some v else get t s.sl) = get t s.sl
   rw [if_neg fun e => ht (by rw [e])]
 have hturn : ∀ ch nb, get t (st.turn ch [] nb).sl = get t st.sl := fun ch nb => by
  have : (st.turn ch [] nb).sl = st.sl := by
   show (st.sl.map fun p => (p.1, p.2.kill [])) = st.sl
   conv => rhs; rw [← List.map_id st.sl]
   apply List.map_congr_left
   intro p _
   rw [V.kill_same (V.ment_nil _)]
   rfl
  rw [this]
 unfold St.app
 split
 ·exact hput _ _
 ·exact hput _ _
 ·rename_i v ch kl nb _
  rw [hput]
  cases kl with
  | nil => exact hturn _ _
  | cons => simp [dKeeps] at hD
theorem app_same {st st' : St} {D : Delta} {d : Nat} : get d (st.app D (some d)).sl = get d (st'.app D (some d)).sl := by
 have hput : ∀ (s s' : St) (v : V), get d (s.put (some d) v).sl = get d (s'.put (some d) v).sl := fun s s' v => by
  show get d ((d, v) :: s.sl) = get d ((d, v) :: s'.sl)
  unfold get
  rw [if_pos rfl, if_pos rfl]
 unfold St.app
 split <;> exact hput _ _ _
theorem app_bl {l : List (Nat × V)} {st : St} {D : Delta} {dst : Option Tmp} : ((addF l st).app D dst).bl = (st.app D dst).bl := by
 unfold St.app
 split <;> cases dst <;> rfl
theorem addF_le {l1 l2 : List (Nat × V)} {st : St} (h1 : ∀ t u, get t l1 = some u → get t l2 = some u) (h2 : ∀ t u u', get t l2 = some u → get t st.sl = some u' → u = u') : (addF l1 st).le (addF l2 st) := by
 refine ⟨fun t u h => ?_, fun _ _ h => h⟩
 rcases get_append h with h | h
 ·exact get_append_some (h1 t u h)
 ·show get t (l2 ++ st.sl) = some u
  cases hg : get t l2 with
  | none => exact (get_append_none hg).trans h
  | some u' => rw [← h2 t u' u hg h]; exact get_append_some hg
theorem leL_on {l big big' : List (Nat × V)} (h : ∀ p ∈ l, get p.1 big = some p.2 → get p.1 big' = some p.2) (hl : leL l big) : leL l big' := by
 induction l with
 | nil => exact hl
 | cons p l ih =>
  unfold leL at hl ⊢
  exact ⟨h p List.mem_cons_self hl.1, ih (fun q hq => h q (List.mem_cons_of_mem _ hq)) hl.2⟩
theorem tailF_any (hbk : backOk ops.toList = true) (hF : FlOk P X ops F) (hlt : ∀ f ∈ F, f.i < m) (hidx : ∀ f ∈ F, ∀ g ∈ F, f.i = g.i → f = g) (hch : ∀ i, m < i → ∀ o, ops[i]? = some o → edge o (i - 1) = true)
  (hend : ∀ ρ a w, Hold X (addF (flSl (fun _ => true) F) stE) ρ a w → Q .normal a w) :
  ∀ (fuel t : Nat) (l : List Oper) (st : St) (listed : Array Bool) (ρ : Nat → R) (a : Act) (w : World), m ≤ t → t ≤ ops.size → ops.toList.drop t = l → listed.size = ops.size → (List.range ops.size).countP (fun i => !listed.getD i true) ≤ fuel →
   (∀ i, i < ops.size → (∀ f ∈ F, f.i ≠ i) → listed.getD i true = decide (i < t)) → tailF P X.n ops F l st = some stE → (∀ f ∈ F, leL f.rd st.sl) → (∀ f ∈ F, ∀ u, get f.dst st.sl = some u → f.v = u) → Hold X (addF (flSl (fun i => listed.getD i true) F) st) ρ a w → wpAny P .any ops Q fuel listed a w := by
 intro fuel
 induction fuel with
 | zero =>
  intro t l st listed ρ a w hmt hts hl hs hc hu ht hrd hno hH
  have hall : ∀ i, i < ops.size → listed.getD i true = true := fun i hi => by
   have := List.countP_eq_zero.1 (Nat.le_zero.1 hc) i (List.mem_range.2 hi)
   simpa using this
  have hte : t = ops.size := by
   rcases Nat.lt_or_ge t ops.size with h | h
   ·have := hu t h (fun f hf e => by have := hlt f hf; omega)
    rw [hall t h] at this
    simp at this
   ·omega
  subst hte
  have hln : l = [] := by rw [← hl]; exact List.drop_eq_nil_of_le (by simp)
  subst hln
  simp only [tailF, Option.some.injEq] at ht
  subst ht
  have hr : Region.ready .any ops listed = [] := by
   rw [List.eq_nil_iff_forall_not_mem]
   intro i hi
   obtain ⟨h1, h2⟩ := ready_in hi
   rw [hall i h1] at h2; cases h2
  have hfl : flSl (fun i => listed.getD i true) F = flSl (fun _ => true) F := by
   have : ∀ G : List Fl, (∀ f ∈ G, f ∈ F) → flSl (fun i => listed.getD i true) G = flSl (fun _ => true) G := by
    intro G
    induction G with
    | nil => intro _; rfl
    | cons g G ih =>
     intro h
     have hg := hall g.i (by have := hlt g (h g List.mem_cons_self); omega)
     rw [flSl, flSl, hg, if_pos rfl, if_pos rfl, ih fun f hf => h f (List.mem_cons_of_mem _ hf)]
   exact this F fun _ h => h
  rw [hfl] at hH
  exact ⟨hr, hend ρ a w hH⟩
 | succ fuel ih =>
  intro t l st listed ρ a w hmt hts hl hs hc hu ht hrd hno hH
  have hget : ∀ i, i < ops.size → listed.getD i true = listed.getD i false := fun i hi => by
   rw [Array.getD_eq_getD_getElem?, Array.getD_eq_getD_getElem?, Array.getElem?_eq_getElem (by rw [hs]; exact hi)]
   rfl
  have hset : ∀ i j, i < ops.size → (listed.setIfInBounds i true).getD j true = if i = j then true else listed.getD j true := fun i j hi => by
   rw [Array.getD_eq_getD_getElem?, Array.getElem?_setIfInBounds]
   by_cases h : i = j
   ·subst h
    rw [if_pos rfl, if_pos (by rw [hs]; exact hi), if_pos rfl]; rfl
   ·rw [if_neg h, if_neg h, ← Array.getD_eq_getD_getElem?]
  have hcnt : ∀ i, i < ops.size → listed.getD i true = false → (List.range ops.size).countP (fun j => !(listed.setIfInBounds i true).getD j true) ≤ fuel := fun i hi hun => by
   have := countP_lt (p := fun j => !listed.getD j true) (q := fun j => !(listed.setIfInBounds i true).getD j true) (l := List.range ops.size) (i := i) (fun j hj => by
    rw [hset i j hi] at hj
    split at hj
    ·cases hj
    ·exact hj) (List.mem_range.2 hi) (by rw [hun]; rfl) (by rw [hset i i hi, if_pos rfl]; rfl)
   omega
  refine ⟨fun he => ?_, fun i hi => ?_⟩
  ·have hall : ∀ i, i < ops.size → listed.getD i true = true := fun i hi => by
    cases hv : listed.getD i true with
    | true => rfl
    | false => exact absurd he (ready_some hbk hi hv)
   have hte : t = ops.size := by
    rcases Nat.lt_or_ge t ops.size with h | h
    ·have := hu t h (fun f hf e => by have := hlt f hf; omega)
     rw [hall t h] at this
     simp at this
    ·omega
   subst hte
   have hln : l = [] := by rw [← hl]; exact List.drop_eq_nil_of_le (by simp)
   subst hln
   simp only [tailF, Option.some.injEq] at ht
   subst ht
   have hfl : flSl (fun i => listed.getD i true) F = flSl (fun _ => true) F := by
    have : ∀ G : List Fl, (∀ f ∈ G, f ∈ F) → flSl (fun i => listed.getD i true) G = flSl (fun _ => true) G := by
     intro G
     induction G with
     | nil => intro _; rfl
     | cons g G ih =>
      intro h
      have hg := hall g.i (by have := hlt g (h g List.mem_cons_self); omega)
      rw [flSl, flSl, hg, if_pos rfl, if_pos rfl, ih fun f hf => h f (List.mem_cons_of_mem _ hf)]
    exact this F fun _ h => h
   rw [hfl] at hH
   exact hend ρ a w hH
  ·obtain ⟨hin, hiu⟩ := ready_in hi
   have hop : ops[i]? = some ops[i] := Array.getElem?_eq_getElem hin
   by_cases hfi : ∃ f ∈ F, f.i = i
   ·-- one that comes late
    obtain ⟨f, hf, rfl⟩ := hfi
    obtain ⟨o, ho, hd, hdn, hg, hst⟩ := hF.op f hf
    have hR : Hold X ⟨f.rd, []⟩ ρ a w := hH.le ⟨fun t' u h => by
     have h1 := leL_get (hrd f hf) h
     refine (get_append_none (flSl_none fun g hg e => ?_)).trans h1
     obtain ⟨p, hp, he⟩ : ∃ p ∈ f.rd, p.1 = t' := by
      have hm : ∀ {l : List (Nat × V)}, get t' l = some u → ∃ p ∈ l, p.1 = t' := by
       intro l
       induction l with
       | nil => intro h; cases h
       | cons q l ih =>
        intro h
        unfold get at h
        split at h
        ·rename_i hq; exact ⟨q, List.mem_cons_self, hq.symm⟩
        ·obtain ⟨p, h1, h2⟩ := ih h; exact ⟨p, List.mem_cons_of_mem _ h1, h2⟩
      exact hm h
     exact hF.rd f hf p hp g hg (e.trans he.symm), fun _ _ h => by cases h⟩
    unfold wpOp
    rw [ho]
    simp only
    rw [guard_sound hR hg, if_pos rfl]
    refine .inl (hst (by rw [hd]; exact decide_eq_true hdn) ρ a w hR _ _ fun x ρ' w' hout => ?_)
    obtain ⟨rfl, rfl, hx⟩ := hout
    refine ih t l st _ ρ' _ w' hmt hts hl (by simpa using hs) (hcnt _ hin hiu) (fun j hj hjf => ?_) ht hrd hno ?_
    ·rw [hset _ _ hin, if_neg (hjf f hf)]
     exact hu j hj hjf
    ·rw [hd]
     have hp := hH.put (dst := some f.dst) (v := f.v) (x := x) (by rintro d ⟨⟩; exact hdn) hx
     refine hp.le (addF_le (l2 := (f.dst, f.v) :: flSl (fun i => listed.getD i true) F) (fun t' u h => ?_) fun t' u u' h h' => ?_)
     ·obtain ⟨g, hg, hgp, hgd, hgv⟩ := get_flSl h
      subst hgd
      subst hgv
      show (if g.dst = f.dst then some f.v else get g.dst (flSl (fun i => listed.getD i true) F)) = some g.v
      by_cases he : g.dst = f.dst
      ·rw [if_pos he, hF.inj g hg f hf he]
      ·rw [if_neg he]
       rw [hset _ _ hin] at hgp
       refine flSl_get hF.inj hg ?_
       rw [if_neg fun e => he (by rw [hidx f hf g hg e])] at hgp
       exact hgp
     ·have h0 : (if t' = f.dst then some f.v else get t' (flSl (fun i => listed.getD i true) F)) = some u := h
      by_cases he : t' = f.dst
      ·rw [if_pos he] at h0
       injection h0 with h0
       subst h0
       exact hno f hf u' (he ▸ h')
      ·rw [if_neg he] at h0
       obtain ⟨g, hg, hgp, hgd, hgv⟩ := get_flSl h0
       subst hgd
       subst hgv
       exact hno g hg u' h'
   ·have hnf : ∀ f ∈ F, f.i ≠ i := fun f hf e => hfi ⟨f, hf, e⟩
    have hti : t ≤ i := by
     have := hu i hin hnf
     rw [hiu] at this
     simp at this
     omega
    have hit : i = t := by
     rcases Nat.lt_or_ge t i with h | h
     ·exfalso
      have he := hch i (by omega) _ hop
      have h1 := ready_edge hi hop he
      rw [← hget _ (by omega), hu (i - 1) (by omega) (fun f hf e => by have := hlt f hf; omega)] at h1
      simp at h1
      omega
     ·omega
    subst hit
    have hcons : l = ops[i] :: ops.toList.drop (i + 1) := by
     rw [← hl]
     have hlen : i < ops.toList.length := by simpa using hin
     rw [List.drop_eq_getElem_cons hlen]
     simp
    subst hcons
    generalize hoo : ops[i] = o at hop ht
    unfold tailF at ht
    split at ht
    ·rename_i hg
     split at ht
     ·rename_i D hD
      split at ht
      ·rename_i hc3
       simp only [Bool.and_eq_true] at hc3
       obtain ⟨⟨hk, hdl⟩, hfree⟩ := hc3
       have hfr : ∀ f ∈ F, o.dst ≠ some f.dst ∧ ∀ p ∈ f.rd, o.dst ≠ some p.1 := fun f hf => by
        have := List.all_eq_true.1 hfree f hf
        simp only [Bool.and_eq_true, bne_iff_ne, List.all_eq_true] at this
        exact this
       have hsub : ∀ t' u, get t' (flSl (fun i => edge o i) F) = some u → get t' (flSl (fun i => listed.getD i true) F) = some u := fun t' u h => by
        obtain ⟨g, hg', hgp, hgd, hgv⟩ := get_flSl h
        subst hgd
        subst hgv
        refine flSl_get hF.inj hg' ?_
        have hb := ready_edge hi hop hgp
        rw [hget _ (by have := hlt g hg'; omega)]
        exact hb
       have hcomp : ∀ t' u u', get t' (flSl (fun i => listed.getD i true) F) = some u → get t' st.sl = some u' → u = u' := fun t' u u' h h' => by
        obtain ⟨g, hg', hgp, hgd, hgv⟩ := get_flSl h
        subst hgd
        subst hgv
        exact hno g hg' u' h'
       have hle := addF_le hsub hcomp
       have hR := hH.le hle
       unfold wpOp
       rw [hop]
       simp only
       rw [guard_sound hR hg, if_pos rfl]
       refine .inl ((exec1_runs hD).step hdl ρ a w hR _ _ fun x ρ' w' hout => ?_)
       have hnext := hH.app (dst := o.dst) hout (dst_lt hdl)
       have hso : ∀ f ∈ F, o.dst ≠ some f.dst := fun f hf => (hfr f hf).1
       refine ih (i + 1) _ _ _ ρ' _ w' (by omega) (by omega) rfl (by simpa using hs) (hcnt i hin hiu) (fun j hj hjf => ?_) ht (fun f hf => ?_) (fun f hf u h => ?_) ?_
       ·rw [hset i j hin]
        by_cases h : i = j
        ·rw [if_pos h]; simp; omega
        ·rw [if_neg h, hu j hj hjf]
         congr 1
         apply propext
         omega
       ·refine leL_on (fun p hp h => ?_) (hrd f hf)
        rw [app_other hk ((hfr f hf).2 p hp)]
        exact (get_append_none (flSl_none fun g hg' => hF.rd f hf p hp g hg')).trans h
       ·rw [app_other hk (hso f hf)] at h
        rcases get_append h with h | h
        ·obtain ⟨g, hg', hgp, hgd, hgv⟩ := get_flSl h
         rw [← hgv, hF.inj g hg' f hf hgd]
        ·exact hno f hf u h
       ·have hfl : ∀ t', get t' (flSl (fun j => (listed.setIfInBounds i true).getD j true) F) = get t' (flSl (fun j => listed.getD j true) F) := fun t' => by
         have : ∀ G : List Fl, (∀ f ∈ G, f ∈ F) → flSl (fun j => (listed.setIfInBounds i true).getD j true) G = flSl (fun j => listed.getD j true) G := by
          intro G
          induction G with
          | nil => intro _; rfl
          | cons g G ihG =>
           intro h
           have hg' : (listed.setIfInBounds i true).getD g.i true = listed.getD g.i true := by rw [hset i g.i hin, if_neg fun e => hnf g (h g List.mem_cons_self) e.symm]
           rw [flSl, flSl, hg', ihG fun f hf => h f (List.mem_cons_of_mem _ hf)]
         rw [this F fun _ h => h]
        refine hnext.le ⟨fun t' u h => ?_, fun t' u h => ?_⟩
        ·by_cases hd : o.dst = some t'
         ·have h0 : get t' (flSl (fun j => (listed.setIfInBounds i true).getD j true) F) = none := flSl_none fun f hf e => hso f hf (by rw [e]; exact hd)
          have h1 : get t' ((addF (flSl (fun i => edge o i) F) st).app D o.dst).sl = some u := (get_append_none h0).symm.trans h
          rw [hd] at h1 ⊢
          exact (app_same (st := addF (flSl (fun i => listed.getD i true) F) st) (st' := addF (flSl (fun i => edge o i) F) st)).trans h1
         ·rw [app_other hk hd]
          rcases get_append h with h | h
          ·rw [hfl] at h
           exact get_append_some h
          ·rw [app_other hk hd] at h
           exact hle.1 _ _ h
        ·rw [app_bl]
         have h : get t' ((addF (flSl (fun i => edge o i) F) st).app D o.dst).bl = some u := h
         rw [app_bl] at h
         exact h
      ·cases ht
     ·cases ht
    ·cases ht
end
section
variable {P : Program} {X : Cx} {ops : Array Oper} {F : List Fl} {stE : St} {Q : Exit → Act → World → Prop} {st0 : St} {D0 I0 : List Nat} {acc : List Ent}
structure FlIn (acc : List Ent) (I0 : List Nat) (F : List Fl) : Prop where
 ent : ∀ f ∈ F, ∃ e ∈ acc, e.i = f.i ∧ e.dst = some f.dst ∧ e.v = f.v ∧ e.nb = [] ∧ e.gone = [] ∧ f.v.ment I0 = false
 idx : ∀ f ∈ F, ∀ g ∈ F, f.i = g.i → f = g
def notF (F : List Fl) : Nat → List Nat
 | 0 => []
 | n + 1 => if (F.any fun f => f.i == n) = true then notF F n else n :: notF F n
theorem mem_notF {i : Nat} : ∀ {n : Nat}, i ∈ notF F n ↔ i < n ∧ ∀ f ∈ F, f.i ≠ i
 | 0 => by simp [notF]
 | n + 1 => by
  have ih := mem_notF (i := i) (n := n)
  unfold notF
  by_cases h : (F.any fun f => f.i == n) = true
  ·rw [if_pos h, ih]
   simp only [List.any_eq_true, beq_iff_eq] at h
   obtain ⟨f, hf, he⟩ := h
   constructor
   ·exact fun h => ⟨by omega, h.2⟩
   ·rintro ⟨h1, h2⟩
    refine ⟨?_, h2⟩
    have := h2 f hf
    omega
  ·rw [if_neg h, List.mem_cons, ih]
   simp only [List.any_eq_true, beq_iff_eq] at h
   constructor
   ·rintro (rfl | h1)
    ·exact ⟨Nat.lt_succ_self _, fun f hf e => h ⟨f, hf, e⟩⟩
    ·exact ⟨by omega, h1.2⟩
   ·rintro ⟨h1, h2⟩
    by_cases he : i = n
    ·exact .inl he
    ·exact .inr ⟨by omega, h2⟩
def closF (F : List Fl) (acc : List Ent) (o : Oper) (j : Nat) : Bool := (F.any fun f => f.i == j) || clos acc o j
theorem fl_le (hP : Props P X ops st0 D0 I0 acc) (hC : Clean st0 D0 I0) (hI : FlIn acc I0 F) {L : List Nat} {p : Nat → Bool} (hL : ∀ i, i < acc.length → (∀ f ∈ F, f.i ≠ i) → i ∈ L) (hp : ∀ f ∈ F, p f.i = true → f.i ∈ L) :
  (addF (flSl p F) (stOf st0 (pick (notF F acc.length) acc))).le (stOf st0 (pick L acc)) := by
 have hsub : ∀ e ∈ pick (notF F acc.length) acc, e ∈ pick L acc := fun e he => by
  obtain ⟨h1, h2⟩ := mem_pick.1 he
  obtain ⟨h3, h4⟩ := mem_notF.1 h2
  exact mem_pick.2 ⟨h1, hL _ h3 h4⟩
 have hflo : ∀ e ∈ acc, (∃ f ∈ F, f.i = e.i) → e.nb = [] ∧ e.gone = [] := fun e he ⟨f, hf, h⟩ => by
  obtain ⟨e', he', h1, _, _, h4, h5, _⟩ := hI.ent f hf
  have := hP.inj e' he' e he (by rw [h1, h])
  subst this
  exact ⟨h4, h5⟩
 have hnf : ∀ e ∈ acc, (∃ x, x ∈ e.gone) → e.i ∈ notF F acc.length := fun e he ⟨x, hx⟩ => mem_notF.2 ⟨hP.lt e he, fun f hf h => by
  rw [(hflo e he ⟨f, hf, h⟩).2] at hx; cases hx⟩
 have hgs : ∀ g, g ∈ goneOf (pick L acc) → g ∈ goneOf (pick (notF F acc.length) acc) := fun g hg => by
  obtain ⟨k, hk, hkg⟩ := mem_goneOf.1 hg
  exact mem_goneOf.2 ⟨k, mem_pick.2 ⟨(mem_pick.1 hk).1, hnf k (mem_pick.1 hk).1 ⟨g, hkg⟩⟩, hkg⟩
 constructor
 ·intro t u h
  rcases get_append h with h | h
  ·obtain ⟨f, hf, hpf, rfl, rfl⟩ := get_flSl h
   obtain ⟨e, he, h1, h2, h3, h4, h5, h6⟩ := hI.ent f hf
   rw [← h3]
   refine get_append_some (slOf_get (mem_pick.2 ⟨he, by rw [h1]; exact hp f hf hpf⟩) h2 (V.ment_sub (ids' := I0) (fun i hi => ?_) (by rw [h3]; exact h6)) fun g hg hgt => (hP.dst e he _ h2).2 g (mem_pick.1 hg).1 hgt)
   obtain ⟨k, hk, hkg⟩ := mem_goneOf.1 hi
   exact hP.gone k (mem_pick.1 hk).1 i hkg
  ·rcases get_append h with h | h
   ·obtain ⟨e, h1, h2, h3, h4⟩ := get_slOf h
    subst h3
    exact get_append_some (slOf_get (hsub e h1) h2 (V.ment_sub hgs h4) fun g hg hgt => (hP.dst e (mem_pick.1 h1).1 t h2).2 g (mem_pick.1 hg).1 hgt)
   ·refine (get_append_none (slOf_none fun e he hed => ?_)).trans h
    have h1 := (hP.dst e (mem_pick.1 he).1 t hed).1
    rw [hC.sl t h1] at h; cases h
 ·intro t u h
  rcases get_append h with h | h
  ·obtain ⟨e, h1, h2, h3, h4⟩ := get_blOf h
   have hmem : t ∈ e.nb.map (·.1) := List.mem_map.2 ⟨_, h4, rfl⟩
   exact get_append_some (blOf_get (hsub e h1) (hP.nod e (mem_pick.1 h1).1 t u h4) (fun hg => h2 (hgs t hg)) (B.ment_sub hgs h3) fun g hg hgt => (hP.ids e (mem_pick.1 h1).1 t hmem).2 g (mem_pick.1 hg).1 hgt)
  ·refine (get_append_none (blOf_none fun e he hed => ?_)).trans h
   have h1 := (hP.ids e (mem_pick.1 he).1 t hed).1
   rw [hC.bl t h1] at h; cases h
theorem plan_anyF (hP : Props P X ops st0 D0 I0 acc) (hC : Clean st0 D0 I0) (hbk : backOk ops.toList = true) (hm : acc.length ≤ ops.size) (hI : FlIn acc I0 F) (hF : FlOk P X ops F) (htl : tailOk (closF F acc) acc.length true (ops.toList.drop acc.length) = true)
  (hrd : ∀ f ∈ F, leL f.rd (stOf st0 (pick (notF F acc.length) acc)).sl) (htF : tailF P X.n ops F (ops.toList.drop acc.length) (stOf st0 (pick (notF F acc.length) acc)) = some stE)
  (hend : ∀ ρ a w, Hold X (addF (flSl (fun _ => true) F) stE) ρ a w → Q .normal a w) :
  ∀ (fuel : Nat) (listed : Array Bool) (ρ : Nat → R) (a : Act) (w : World), listed.size = ops.size → (List.range ops.size).countP (fun i => !listed.getD i true) ≤ fuel → (∀ i, acc.length ≤ i → i < ops.size → listed.getD i true = false) →
   (∀ f ∈ acc, f.i ∈ listedL ops.size listed → ∀ j ∈ f.dn, j ∈ listedL ops.size listed) → Hold X (stOf st0 (pick (listedL ops.size listed) acc)) ρ a w → wpAny P .any ops Q fuel listed a w := by
 intro fuel
 have hlt : ∀ f ∈ F, f.i < acc.length := fun f hf => by
  obtain ⟨e, he, h1, _⟩ := hI.ent f hf
  rw [← h1]; exact hP.lt e he
 have hno : ∀ f ∈ F, ∀ u, get f.dst (stOf st0 (pick (notF F acc.length) acc)).sl = some u → f.v = u := fun f hf u h => by
  exfalso
  obtain ⟨e, he, h1, h2, _⟩ := hI.ent f hf
  rcases get_append h with h | h
  ·obtain ⟨g, g1, g2, _, _⟩ := get_slOf h
   obtain ⟨g3, g4⟩ := mem_pick.1 g1
   have := (hP.dst e he _ h2).2 g g3 g2
   subst this
   exact (mem_notF.1 g4).2 f hf h1.symm
  ·rw [hC.sl _ (hP.dst e he _ h2).1] at h; cases h
 have hchain : ∀ i, acc.length < i → ∀ o, ops[i]? = some o → edge o (i - 1) = true := fun i hi o ho => by
  have hl : (ops.toList.drop acc.length)[i - acc.length]? = some o := by
   rw [List.getElem?_drop, show acc.length + (i - acc.length) = i by omega]; simpa using ho
  rcases tail_edges _ _ _ _ _ htl hl with ⟨h, _, _⟩ | h
  ·omega
  ·rwa [show acc.length + (i - acc.length) - 1 = i - 1 by omega] at h
 induction fuel with
 | zero =>
  intro listed ρ a w hs hc hun hcl hH
  have hall : ∀ i, i < ops.size → listed.getD i true = true := fun i hi => by
   have := List.countP_eq_zero.1 (Nat.le_zero.1 hc) i (List.mem_range.2 hi)
   simpa using this
  have hin : ∀ i, i < ops.size → i ∈ listedL ops.size listed := fun i hi => mem_listed.2 ⟨hi, by
   have h1 := hall i hi
   rw [Array.getD_eq_getD_getElem?, Array.getElem?_eq_getElem (by rw [hs]; exact hi)] at h1 ⊢
   exact h1⟩
  refine tailF_any hbk hF hlt hI.idx hchain hend 0 acc.length _ _ listed ρ a w (Nat.le_refl _) hm rfl hs hc (fun i hi hif => ?_) htF hrd hno (hH.le (fl_le hP hC hI (fun i hi _ => hin i (by omega)) fun f hf _ => hin f.i (by have := hlt f hf; omega)))
  rcases Nat.lt_or_ge i acc.length with h | h
  ·rw [hall i hi]; simp [h]
  ·rw [hun i h hi]; simp; omega
 | succ fuel ih =>
  intro listed ρ a w hs hc hun hcl hH
  have hget : ∀ i, i < ops.size → listed.getD i true = listed.getD i false := fun i hi => by
   rw [Array.getD_eq_getD_getElem?, Array.getD_eq_getD_getElem?, Array.getElem?_eq_getElem (by rw [hs]; exact hi)]
   rfl
  by_cases hall : ∀ i, i < acc.length → (∀ f ∈ F, f.i ≠ i) → listed.getD i true = true
  ·refine tailF_any hbk hF hlt hI.idx hchain hend (fuel + 1) acc.length _ _ listed ρ a w (Nat.le_refl _) hm rfl hs hc (fun i hi hif => ?_) htF hrd hno (hH.le (fl_le hP hC hI (fun i hi hif => mem_listed.2 ⟨by omega, ?_⟩) fun f hf hp => mem_listed.2 ⟨by have := hlt f hf; omega, ?_⟩))
   ·rcases Nat.lt_or_ge i acc.length with h | h
    ·rw [hall i h hif]; simp [h]
    ·rw [hun i h hi]; simp; omega
   ·rw [← hget _ (by omega)]; exact hall i hi hif
   ·rw [← hget _ (by have := hlt f hf; omega)]; exact hp
  ·obtain ⟨i0, hi0, hf0, hn0⟩ : ∃ i0, i0 < acc.length ∧ (∀ f ∈ F, f.i ≠ i0) ∧ listed.getD i0 true = false := by
    refine Classical.byContradiction fun h => hall fun i hi hif => ?_
    cases hv : listed.getD i true with
    | true => rfl
    | false => exact absurd ⟨i, hi, hif, hv⟩ h
   refine ⟨fun he => absurd he (ready_some hbk (show i0 < ops.size by omega) hn0), fun i hi => ?_⟩
   obtain ⟨hin, hiu⟩ := ready_in hi
   have hop : ops[i]? = some ops[i] := Array.getElem?_eq_getElem hin
   have hclo : ∀ j, j < acc.length → (∀ f ∈ F, f.i ≠ j) → closF F acc ops[i] j = true → listed.getD j false = true := fun j hj hjf hc' => by
    have hc' : clos acc ops[i] j = true := by
     unfold closF at hc'
     rw [Bool.or_eq_true] at hc'
     rcases hc' with h | h
     ·simp only [List.any_eq_true, beq_iff_eq] at h
      obtain ⟨f, hf, e⟩ := h
      exact absurd e (hjf f hf)
     ·exact h
    simp only [clos, Bool.or_eq_true, List.any_eq_true, Bool.and_eq_true, List.contains_eq_mem, decide_eq_true_eq] at hc'
    rcases hc' with h | ⟨f, hf, h1, h2⟩
    ·exact ready_edge hi hop h
    ·exact (mem_listed.1 (hcl f hf (mem_listed.2 ⟨Nat.lt_of_lt_of_le (hP.lt f hf) hm, ready_edge hi hop h1⟩) j h2)).2
   have him : i < acc.length := by
    rcases Nat.lt_or_ge i acc.length with h | h
    ·exact h
    ·exfalso
     have hl : (ops.toList.drop acc.length)[i - acc.length]? = some ops[i] := by
      rw [List.getElem?_drop, show acc.length + (i - acc.length) = i by omega]; simpa using hop
     rcases tail_edges _ _ _ _ _ htl hl with ⟨_, _, h3⟩ | h3
     ·have := hclo i0 hi0 hf0 (h3 i0 hi0)
      rw [← hget i0 (by omega), hn0] at this; cases this
     ·have h4 := ready_edge hi hop h3
      rcases Nat.lt_or_ge acc.length i with h5 | h5
      ·rw [← hget _ (by omega), hun _ (by omega) (by omega)] at h4; cases h4
      ·obtain rfl : i = acc.length := by omega
       rcases tail_edges _ _ _ _ _ htl hl with ⟨_, _, h6⟩ | h6
       ·have := hclo i0 hi0 hf0 (h6 i0 hi0)
        rw [← hget i0 (by omega), hn0] at this; cases this
       ·have hz : (ops.toList.drop acc.length) ≠ [] := by intro h; rw [h] at hl; simp at hl
        cases hdl : ops.toList.drop acc.length with
        | nil => exact hz hdl
        | cons q l =>
         rw [hdl] at htl hl
         simp at hl
         subst hl
         simp only [tailOk, Bool.and_eq_true, if_true, List.all_eq_true, List.mem_range] at htl
         have := hclo i0 hi0 hf0 (htl.1 i0 hi0)
         rw [← hget i0 (by omega), hn0] at this; cases this
   obtain ⟨e, he, hei⟩ := hP.idx i him
   subst hei
   obtain ⟨o, ho, hd, hdl, hstep, hdn⟩ := hP.ent e he
   have heS : e.i ∉ listedL ops.size listed := fun h => by
    have := (mem_listed.1 h).2
    rw [← hget _ hin, hiu] at this; cases this
   have hdnS : ∀ j ∈ e.dn, j ∈ listedL ops.size listed := fun j hj => by
    rcases hdn j hj with h | ⟨f, hf, h1, h2⟩
    ·exact mem_listed.2 ⟨by have := hP.dn2 e he j hj; omega, ready_edge hi ho h⟩
    ·exact hcl f hf (mem_listed.2 ⟨Nat.lt_of_lt_of_le (hP.lt f hf) hm, ready_edge hi ho h1⟩) j h2
   have hR := hH.le (R_le hP hC he heS hdnS)
   have hS' : ∀ j, j ∈ listedL ops.size (listed.setIfInBounds e.i true) ↔ j = e.i ∨ j ∈ listedL ops.size listed := fun j => by
    rw [mem_listed, mem_listed, Array.getD_eq_getD_getElem?, Array.getElem?_setIfInBounds]
    by_cases hj : e.i = j
    ·subst hj
     rw [if_pos rfl, if_pos (by rw [hs]; exact hin)]
     simp [hin]
    ·rw [if_neg hj, ← Array.getD_eq_getD_getElem?]
     constructor
     ·exact fun h => .inr h
     ·rintro (h | h)
      ·exact absurd h.symm hj
      ·exact h
   have next : ∀ ρ' a' w', Hold X (stOf st0 (pick (listedL ops.size (listed.setIfInBounds e.i true)) acc)) ρ' a' w' → wpAny P .any ops Q fuel (listed.setIfInBounds e.i true) a' w' := fun ρ' a' w' hH' => by
    refine ih _ ρ' a' w' (by simpa using hs) ?_ (fun j hj hjn => ?_) (fun f hf hfi j hj => ?_) hH'
    ·have := countP_lt (p := fun i => !listed.getD i true) (q := fun i => !(listed.setIfInBounds e.i true).getD i true) (l := List.range ops.size) (i := e.i) (fun j hj => by
      rw [Array.getD_eq_getD_getElem?, Array.getElem?_setIfInBounds] at hj
      by_cases h : e.i = j
      ·subst h
       rw [if_pos rfl, if_pos (by rw [hs]; exact hin)] at hj
       simp at hj
      ·rwa [if_neg h, ← Array.getD_eq_getD_getElem?] at hj) (List.mem_range.2 hin) (by rw [hiu]; rfl) (by
      rw [Array.getD_eq_getD_getElem?, Array.getElem?_setIfInBounds, if_pos rfl, if_pos (by rw [hs]; exact hin)]
      rfl)
     omega
    ·rw [Array.getD_eq_getD_getElem?, Array.getElem?_setIfInBounds, if_neg (by omega), ← Array.getD_eq_getD_getElem?]
     exact hun j hj hjn
    ·rcases (hS' f.i).1 hfi with h | h
     ·obtain rfl := hP.inj f hf e he h
      exact (hS' j).2 (.inr (hdnS j hj))
     ·exact (hS' j).2 (.inr (hcl f hf h j hj))
   unfold wpOp
   rw [ho]
   simp only
   rcases hstep with ⟨hg, D, hst, hgood⟩ | ⟨hg, hv, hnb, hgone⟩
   ·rw [guard_sound hR hg, if_pos rfl]
    refine .inl (hst hdl ρ a w hR _ _ fun x ρ' w' hout => next ρ' _ w' ?_)
    have hgen : ∃ ch kl, Evo X ρ w ρ' w' ch kl ∧ RdV w' (okOf X ρ' w') ρ' e.v x ∧ (∀ id b, get id e.nb = some b → HasB X w' ρ' id b) ∧ (∀ id ∈ ch, id ∈ kl) ∧ ∀ id ∈ kl, id ∈ e.nb.map (·.1) ∨ id ∈ e.gone := by
     rcases hgood with ⟨rfl, h2, h3⟩ | ⟨ch, kl, rfl, h2, h3⟩
     ·obtain ⟨rfl, rfl, h4⟩ := hout
      exact ⟨[], [], Evo.refl hH, h4, (fun id b h => by rw [h2] at h; cases h), (fun _ h => h), fun _ h => by cases h⟩
     ·exact ⟨ch, kl, hout.1, hout.2.1, hout.2.2, h2, h3⟩
    obtain ⟨ch, kl, hevo, hrd, hnbs, hck, hkl⟩ := hgen
    have hT := (hH.turn hevo hnbs).put (dst := e.dst) (by rw [hd]; exact dst_lt hdl) hrd
    rw [← hd]
    exact hT.le (S_le hP hC he hS' heS hcl hck hkl)
   ·rw [guard_sound hR hg, if_neg (by simp)]
    refine next ρ _ w ?_
    have hT := (hH.turn (Evo.refl hH) (nb := e.nb) (fun id b h => by rw [hnb] at h; cases h)).put (dst := e.dst) (v := e.v) (x := undef) (by rw [hd]; exact dst_lt hdl) (by rw [hv]; unfold RdV; exact ⟨#[], rfl, by unfold RdVs; trivial⟩)
    rw [← hd]
    exact hT.le (S_le hP hC he hS' heS hcl (by simp) (by simp))
end
section
variable {P : Program} {X : Cx} {ops : Array Oper} {F : List Fl} {I0 : List Nat} {acc : List Ent}
end
end Go.Proofs.YtjdgejfhnfnmgaaGreatDoor.Ax
namespace Go.Proofs.YtjdgejfhnfnmgaaGreatDoor.Ax
open Go.RowKit
def cleanSt (st : St) (D0 I0 : List Nat) : St := ⟨(st.sl.filter fun p => !D0.contains p.1).map fun p => (p.1, p.2.kill I0), (st.bl.filter fun p => !I0.contains p.1).map fun p => (p.1, p.2.kill I0)⟩
section
variable {P : Program} {X : Cx} {ops : Array Oper} {st : St} {D0 I0 : List Nat} {ρ : Nat → R} {a : Act} {w : World}
theorem kill_ment (v : V) : (v.kill I0).ment I0 = false := by
 unfold V.kill
 split
 ·rfl
 ·rename_i h; simpa using h
theorem bkill_ment (b : B) : (b.kill I0).ment I0 = false := by
 cases b with
 | arr => rfl
 | mp => rfl
 | var e cells =>
  show C.ments I0 (cells.map (C.kill I0)) = false
  induction cells with
  | nil => rfl
  | cons c cs ih =>
   rw [List.map_cons]
   simp only [C.ments, ih, Bool.or_false]
   unfold C.kill
   split
   ·rfl
   ·rename_i h; simpa using h
theorem clean_ok : Clean (cleanSt st D0 I0) D0 I0 where
 sl t ht := by
  cases h : get t (cleanSt st D0 I0).sl with
  | none => rfl
  | some u =>
   obtain ⟨v, h1, _⟩ := get_map h
   have := (get_filter (p := fun i => !D0.contains i) h1).2
   simp [ht] at this
 slm t u h := by
  obtain ⟨v, _, rfl⟩ := get_map h
  exact kill_ment v
 bl t ht := by
  cases h : get t (cleanSt st D0 I0).bl with
  | none => rfl
  | some u =>
   obtain ⟨v, h1, _⟩ := get_map h
   have := (get_filter (p := fun i => !I0.contains i) h1).2
   simp [ht] at this
 blm t b h := by
  obtain ⟨v, _, rfl⟩ := get_map h
  exact bkill_ment v
theorem clean_hold (h : Hold X st ρ a w) : Hold X (cleanSt st D0 I0) (fun i => if i ∈ I0 then .dead else ρ i) a w := by
 have he : Evo X ρ w (fun i => if i ∈ I0 then .dead else ρ i) w I0 I0 := ⟨Below.refl _ _, fun _ _ _ => rfl, fun id hid => if_neg hid, (fun id b cap hid hr => by rw [if_pos hid] at hr; cases hr), (fun i j b c d hi hj => by
  split at hi
  ·cases hi
  ·split at hj
   ·cases hj
   ·exact h.inj i j b c d hi hj), fun id hid => .inr (if_pos hid)⟩
 have hT := h.turn he (nb := []) (by intro id b h; cases h)
 refine hT.le ⟨fun t v hv => ?_, fun t b hb => ?_⟩
 ·obtain ⟨u, h1, rfl⟩ := get_map hv
  have h2 := (get_filter (p := fun i => !D0.contains i) h1).1
  have key : ∀ l : List (Nat × V), get t l = some u → get t (l.map fun p => (p.1, p.2.kill I0)) = some (u.kill I0) := by
   intro l
   induction l with
   | nil => intro h; cases h
   | cons p l ih =>
    intro h
    simp only [get] at h
    rw [List.map_cons]
    simp only [get]
    split at h
    ·rename_i hk; injection h with h; rw [if_pos hk, h]
    ·rename_i hk; rw [if_neg hk]; exact ih h
  exact key _ h2
 ·have : (st.bl.filter fun p => !(I0.contains p.1 || I0.contains p.1)) = st.bl.filter fun p => !I0.contains p.1 := by simp only [Bool.or_self]
  show get t (([] : List (Nat × B)) ++ _) = some b
  rw [List.nil_append, this]
  exact hb
def entD (i : Nat) (dst : Option Tmp) (dn : List Nat) : Delta → Option Ent
 | .pure v => some ⟨i, dst, v, [], [], dn⟩
 | .mod v ch kl nb => if ch.all (fun x => kl.contains x) then some ⟨i, dst, v, nb, kl.filter (fun x => !(nb.map (·.1)).contains x), dn⟩ else none
def nodK : List (Nat × B) → Bool
 | [] => true
 | p :: l => !(l.map (·.1)).contains p.1 && nodK l
def addB (n : Nat) (D0 I0 : List Nat) (ts : List Nat) (acc : List Ent) (e : Ent) (o : Oper) : Bool :=
 dstOk n o.dst && (prods ts acc).all (fun f => edge o f.i) && (match e.dst with
  | some t => D0.contains t && acc.all (fun f => match f.dst with
   | some u => decide (u ≠ t)
   | none => true)
  | none => true) && (e.nb.map (·.1)).all (fun t => I0.contains t && acc.all fun f => !(f.nb.map (·.1)).contains t) && nodK e.nb && e.gone.all (fun g => I0.contains g) &&
 acc.all (fun f => e.dn.contains f.i || f.nb.isEmpty || !e.v.ment (f.nb.map (·.1)) && e.nb.all fun p => !p.2.ment (f.nb.map (·.1))) &&
 (e.nb.isEmpty || acc.all fun f => !f.v.ment (e.nb.map (·.1)) && f.nb.all fun p => !p.2.ment (e.nb.map (·.1))) &&
 acc.all (fun k => e.dn.contains k.i || k.gone.isEmpty || acc.all fun f => !e.dn.contains f.i || !f.v.ment k.gone && f.nb.all fun p => !k.gone.contains p.1 && !p.2.ment k.gone) &&
 (e.gone.isEmpty || acc.all fun i => acc.all fun f => !i.dn.contains f.i || !f.v.ment e.gone && f.nb.all fun p => !e.gone.contains p.1 && !p.2.ment e.gone)
theorem B.ment_nil (b : B) : b.ment [] = false := by
 cases b with
 | arr => rfl
 | mp => rfl
 | var => exact C.ments_nil _
theorem nodK_get : ∀ {l : List (Nat × B)} {t : Nat} {b : B}, nodK l = true → (t, b) ∈ l → get t l = some b
 | [], _, _, _, h => by cases h
 | p :: l, t, b, hn, h => by
  simp only [nodK, Bool.and_eq_true, Bool.not_eq_true', List.contains_eq_mem, decide_eq_false_iff_not] at hn
  simp only [get]
  rcases List.mem_cons.1 h with h | h
  ·subst h; rw [if_pos rfl]
  ·have : t ≠ p.1 := fun e => hn.1 (e ▸ List.mem_map.2 ⟨_, h, rfl⟩)
   rw [if_neg this]
   exact nodK_get hn.2 h
inductive PlanPre (P : Program) (X : Cx) (ops : Array Oper) (st0 : St) : List Ent → Prop
 | nil : PlanPre P X ops st0 []
 | snoc {acc : List Ent} {e : Ent} {o : Oper} : PlanPre P X ops st0 acc → e.i = acc.length → ops[e.i]? = some o → e.dst = o.dst → e.dn = dnOf (prods (Oper.looksAt ops o) acc) →
   ((guardOf (stOf st0 (pick e.dn acc)) ops o = some true ∧ ∃ D, Step P X (stOf st0 (pick e.dn acc)) o D ∧ Good D e) ∨ (guardOf (stOf st0 (pick e.dn acc)) ops o = some false ∧ e.v = .tup [] ∧ e.nb = [] ∧ e.gone = [])) → PlanPre P X ops st0 (acc ++ [e])
def chkR (n : Nat) (D0 I0 : List Nat) (ops : Array Oper) : List Ent → Bool
 | [] => true
 | e :: r => (match ops[e.i]? with
  | some o => addB n D0 I0 (Oper.looksAt ops o) r.reverse e o
  | none => false) && chkR n D0 I0 ops r
theorem planOk_of {st1 : St} {acc : List Ent} (hp : PlanPre P X ops st1 acc) (hc : chkR X.n D0 I0 ops acc.reverse = true) : PlanOk P X ops st1 D0 I0 acc := by
 induction hp with
 | nil => exact .nil
 | @snoc acc e o hp hi hop hde hdn hs ih =>
  rw [List.reverse_append, List.reverse_singleton, List.singleton_append, chkR, hop, Bool.and_eq_true] at hc
  obtain ⟨hb, hc⟩ := hc
  simp only [List.reverse_reverse] at hb
  have hp := ih hc
  have hprops := hp.props
  unfold addB at hb
  simp only [Bool.and_eq_true] at hb
  obtain ⟨⟨⟨⟨⟨⟨⟨⟨⟨b1, b2⟩, b3⟩, b4⟩, b5⟩, b6⟩, b7⟩, b8⟩, b9⟩, b10⟩ := hb
  have cond : ∀ {g : List Nat} {f : Ent}, (!f.v.ment g && f.nb.all fun p => !g.contains p.1 && !p.2.ment g) = true → f.v.ment g = false ∧ ∀ p ∈ f.nb, p.1 ∉ g ∧ p.2.ment g = false := fun h => by
   simp only [Bool.and_eq_true, Bool.not_eq_true', List.all_eq_true, List.contains_eq_mem, decide_eq_false_iff_not] at h
   exact ⟨h.1, fun p hp => h.2 p hp⟩
  have condE : ∀ {f : Ent}, f.v.ment [] = false ∧ ∀ p ∈ f.nb, p.1 ∉ ([] : List Nat) ∧ p.2.ment [] = false := ⟨V.ment_nil _, fun p _ => ⟨by simp, B.ment_nil _⟩⟩
  refine .snoc hp (o := o) ⟨hi, hop, hde, b1, hs, fun j hj => ?_, fun j hj => ?_, fun t ht => ?_, fun t ht => ?_, fun t b htb => nodK_get b5 htb, fun g hg => ?_, fun f hf hfd => ?_, fun f hf => ?_, fun k hk hkd f hf hfd => ?_, fun i hi f hf hfd => ?_⟩
  ·rw [hdn] at hj
   obtain ⟨f, hf, hj⟩ := mem_dnOf.1 hj
   have he : edge o f.i = true := List.all_eq_true.1 b2 f hf
   rcases hj with rfl | hj
   ·exact .inl he
   ·exact .inr ⟨f, (mem_prods.1 hf).1, he, hj⟩
  ·rw [hdn] at hj
   obtain ⟨f, hf, hj⟩ := mem_dnOf.1 hj
   have hf' := (mem_prods.1 hf).1
   rcases hj with rfl | hj
   ·exact hprops.lt f hf'
   ·have := hprops.dn2 f hf' j hj
    have := hprops.lt f hf'
    omega
  ·rw [ht] at b3
   simp only [Bool.and_eq_true, List.contains_eq_mem, decide_eq_true_eq, List.all_eq_true] at b3
   refine ⟨b3.1, fun f hf hft => ?_⟩
   have := b3.2 f hf
   rw [hft] at this
   simp at this
  ·have := List.all_eq_true.1 b4 t ht
   simp only [Bool.and_eq_true, List.contains_eq_mem, decide_eq_true_eq, List.all_eq_true, Bool.not_eq_true', decide_eq_false_iff_not] at this
   exact ⟨this.1, this.2⟩
  ·simpa using List.all_eq_true.1 b6 g hg
  ·have := List.all_eq_true.1 b7 f hf
   simp only [Bool.or_eq_true, Bool.and_eq_true, List.contains_eq_mem, decide_eq_true_eq, List.isEmpty_iff, Bool.not_eq_true', List.all_eq_true] at this
   rcases this with (h | h) | h
   ·exact absurd h hfd
   ·rw [h]; exact ⟨V.ment_nil _, fun p _ => B.ment_nil _⟩
   ·exact h
  ·simp only [Bool.or_eq_true, Bool.and_eq_true, List.isEmpty_iff, Bool.not_eq_true', List.all_eq_true] at b8
   rcases b8 with h | h
   ·rw [h]; exact ⟨V.ment_nil _, fun p _ => B.ment_nil _⟩
   ·exact h f hf
  ·have := List.all_eq_true.1 b9 k hk
   rw [Bool.or_eq_true, Bool.or_eq_true] at this
   rcases this with (h | h) | h
   ·exact absurd (by simpa using h) hkd
   ·rw [List.isEmpty_iff.1 h]; exact condE
   ·have h2 := List.all_eq_true.1 h f hf
    rw [Bool.or_eq_true] at h2
    rcases h2 with h2 | h2
    ·simp [hfd] at h2
    ·exact cond h2
  ·rw [Bool.or_eq_true] at b10
   rcases b10 with h | h
   ·rw [List.isEmpty_iff.1 h]; exact condE
   ·have h2 := List.all_eq_true.1 (List.all_eq_true.1 h i hi) f hf
    rw [Bool.or_eq_true] at h2
    rcases h2 with h2 | h2
    ·simp [hfd] at h2
    ·exact cond h2
def Fin (P : Program) (X : Cx) (ops : Array Oper) (st1 : St) (D0 I0 : List Nat) (K : St → Prop) : Prop :=
 (∃ acc, PlanOk P X ops st1 D0 I0 acc ∧ tailOk (clos acc) acc.length true (ops.toList.drop acc.length) = true ∧ RW P X ops (ops.toList.drop acc.length) K (stOf st1 acc)) ∨
 ∃ acc F stE, PlanOk P X ops st1 D0 I0 acc ∧ FlIn acc I0 F ∧ FlOk P X ops F ∧ tailOk (closF F acc) acc.length true (ops.toList.drop acc.length) = true ∧ (∀ f ∈ F, leL f.rd (stOf st1 (pick (notF F acc.length) acc)).sl) ∧ tailF P X.n ops F (ops.toList.drop acc.length) (stOf st1 (pick (notF F acc.length) acc)) = some stE ∧ K (addF (flSl (fun _ => true) F) stE)
def PW (P : Program) (X : Cx) (ops : Array Oper) (st1 : St) (D0 I0 : List Nat) (K : St → Prop) (q : List Ent × List Oper) : Prop :=
 PlanPre P X ops st1 q.1 → ops.toList.drop q.1.length = q.2 → Fin P X ops st1 D0 I0 K
variable {st1 : St} {K : St → Prop} {acc : List Ent} {l : List Oper} {o : Oper}
theorem pw_tail (n : Nat) (hn : X.n = n) (hck : chkR n D0 I0 ops acc.reverse = true) (ht : tailOk (clos acc) acc.length true l = true) (h : RWr P X ops K (runs P X.n ops l (stOf st1 acc))) : PW P X ops st1 D0 I0 K (acc, l) := fun hp hl => by
 simp only at hl hp
 exact .inl ⟨acc, planOk_of hp (by rw [hn]; exact hck), by rw [hl]; exact ht, by rw [hl]; exact rw_go h⟩
theorem pw_add {e : Ent} (hi : e.i = acc.length) (hde : e.dst = o.dst) (hdn : e.dn = dnOf (prods (Oper.looksAt ops o) acc))
  (hs : (guardOf (stOf st1 (pick e.dn acc)) ops o = some true ∧ ∃ D, Step P X (stOf st1 (pick e.dn acc)) o D ∧ Good D e) ∨ (guardOf (stOf st1 (pick e.dn acc)) ops o = some false ∧ e.v = .tup [] ∧ e.nb = [] ∧ e.gone = []))
  (h : PW P X ops st1 D0 I0 K (acc ++ [e], l)) : PW P X ops st1 D0 I0 K (acc, o :: l) := fun hp hl => by
 simp only at hp hl
 have hop : ops[acc.length]? = some o := by
  have : (ops.toList.drop acc.length)[0]? = some o := by rw [hl]; rfl
  simpa using this
 refine h (.snoc hp (o := o) hi (by rw [hi]; exact hop) hde hdn hs) ?_
 have := congrArg (List.drop 1) hl
 rw [List.drop_drop] at this
 simpa using this
theorem entD_good {i : Nat} {dst : Option Tmp} {dn : List Nat} {D : Delta} {e : Ent} (h : entD i dst dn D = some e) : Good D e ∧ e.i = i ∧ e.dst = dst ∧ e.dn = dn := by
 cases D with
 | pure v =>
  simp only [entD, Option.some.injEq] at h
  subst h
  exact ⟨.inl ⟨rfl, rfl, rfl⟩, rfl, rfl, rfl⟩
 | mod v ch kl nb =>
  simp only [entD] at h
  split at h
  ·rename_i hc
   injection h with h
   subst h
   refine ⟨.inr ⟨ch, kl, rfl, fun id hid => ?_, fun id hid => ?_⟩, rfl, rfl, rfl⟩
   ·simpa using List.all_eq_true.1 hc id hid
   ·by_cases hm : id ∈ nb.map (·.1)
    ·exact .inl hm
    ·refine .inr (List.mem_filter.2 ⟨hid, ?_⟩)
     simpa using hm
  ·cases h
def inD (D0 : List Nat) : Option Tmp → Bool
 | some d => D0.contains d
 | none => false
def plans (P : Program) (ops : Array Oper) (st1 : St) (D0 : List Nat) : List Ent → List Oper → List Ent × List Oper
 | acc, [] => (acc, [])
 | acc, o :: l =>
  match inD D0 o.dst with
  | false => (acc, o :: l)
  | true =>
   match guardOf (stOf st1 (pick (dnOf (prods (Oper.looksAt ops o) acc)) acc)) ops o with
   | some true => match exec1 P (stOf st1 (pick (dnOf (prods (Oper.looksAt ops o) acc)) acc)) o with
    | some D => match entD acc.length o.dst (dnOf (prods (Oper.looksAt ops o) acc)) D with
     | some e => plans P ops st1 D0 (acc ++ [e]) l
     | none => (acc, o :: l)
    | none => (acc, o :: l)
   | some false => plans P ops st1 D0 (acc ++ [⟨acc.length, o.dst, .tup [], [], [], dnOf (prods (Oper.looksAt ops o) acc)⟩]) l
   | none => (acc, o :: l)
theorem pw_go : ∀ {l : List Oper} {acc : List Ent}, PW P X ops st1 D0 I0 K (plans P ops st1 D0 acc l) → PW P X ops st1 D0 I0 K (acc, l)
 | [], acc, h => h
 | o :: l, acc, h => by
  unfold plans at h
  split at h
  ·exact h
  ·split at h
   ·rename_i hg
    split at h
    ·rename_i D hD
     split at h
     ·rename_i e he
      obtain ⟨h1, h2, h3, h4⟩ := entD_good he
      refine pw_add h2 h3 h4 (.inl ⟨by rw [h4]; exact hg, D, ?_, h1⟩) (pw_go h)
      rw [h4]
      exact (exec1_runs hD).step
     ·exact h
    ·exact h
   ·rename_i hg
    exact pw_add rfl rfl rfl (.inr ⟨hg, rfl, rfl, rfl⟩) (pw_go h)
   ·exact h
theorem rep_false (n i : Nat) : (Array.replicate n false).getD i false = false := by
 rw [Array.getD_eq_getD_getElem?, Array.getElem?_replicate]
 split <;> rfl
theorem cw_drawn {id : Nat} {l : List Oper} {Q : Exit → St → Prop} (hmix : P.follows .mixedOrders = true) (D0 I0 : List Nat) (hbk : backOk l = true)
  (h : ∀ K : St → Prop, (∀ s, Q .normal s → K s) → PW P X l.toArray (cleanSt st D0 I0) D0 I0 K ([], l)) (hpn : ∀ ch s, X.pan ch → Q (.panic ch) s := by intro ch s h; exact h) : CW P X (.region id l.toArray true) Q st := fun ρ a w hH => by
 have key : ∀ acc, PlanOk P X l.toArray (cleanSt st D0 I0) D0 I0 acc → acc.length ≤ l.toArray.size := by
  intro acc h
  cases h with
  | nil => exact Nat.zero_le _
  | @snoc acc e o h1 h2 =>
   have := h2.op
   rw [h2.i] at this
   rw [List.length_append, List.length_singleton]
   rcases Nat.lt_or_ge acc.length l.toArray.size with h | h
   ·exact h
   ·rw [Array.getElem?_eq_none h] at this; cases this
 refine wp_region_any hmix ?_
 have hH' := (clean_hold (D0 := D0) (I0 := I0) hH).draw
 have h0 : ∀ acc, pick (listedL l.toArray.size (Array.replicate l.toArray.size false)) acc = [] := fun acc => by
  rw [← pick_nil acc]
  refine pick_congr fun e _ => ?_
  constructor
  ·intro h
   have := (mem_listed.1 h).2
   rw [rep_false] at this
   cases this
  ·intro h; cases h
 have h1 : ∀ (acc : List Ent), ∀ f ∈ acc, f.i ∈ listedL l.toArray.size (Array.replicate l.toArray.size false) → ∀ j ∈ f.dn, j ∈ listedL l.toArray.size (Array.replicate l.toArray.size false) := by
  intro acc f hf hfi
  have := (mem_listed.1 hfi).2
  rw [rep_false] at this
  cases this
 rcases h _ (fun _ h => h) .nil (by simp) with ⟨acc, hp, ht, hr⟩ | ⟨acc, F, stE, hp, hI, hF, ht, hrd, htF, hK⟩
 ·refine plan_any hp.props clean_ok (by simpa using hbk) (key acc hp) ht (fun ρ a w hH => hr ρ a w hH _ ⟨fun st' ρ' _ _ hk hH' => ⟨st', ρ', hk, hH'⟩, fun ch st' ρ' _ _ hk hH' => ⟨st', ρ', hpn ch st' hk, hH'⟩⟩) _ _ (fun i => if i ∈ I0 then .dead else ρ i) _ _ (by simp) ?_ (fun i _ hi => by rw [List.size_toArray] at hi; simp [hi]) (h1 acc) ?_
  ·refine Nat.le_trans (List.countP_le_length) ?_
   simp
  ·rw [h0]
   exact hH'
 ·refine plan_anyF hp.props clean_ok (by simpa using hbk) (key acc hp) hI hF ht hrd htF (fun ρ a w hH => ⟨_, ρ, hK, hH⟩) _ _ (fun i => if i ∈ I0 then .dead else ρ i) _ _ (by simp) ?_ (fun i _ hi => by rw [List.size_toArray] at hi; simp [hi]) (h1 acc) ?_
  ·refine Nat.le_trans (List.countP_le_length) ?_
   simp
  ·rw [h0]
   exact hH'
def dstsOf : List Oper → List Nat
 | [] => []
 | o :: l => match o.dst with
  | some d => d :: dstsOf l
  | none => dstsOf l
theorem cw_drawn_m {id : Nat} {l : List Oper} {Q : Exit → St → Prop} (m : Nat) (hmix : P.follows .mixedOrders = true) (hbk : backOk l = true)
  (h : ∀ K : St → Prop, (∀ s, Q .normal s → K s) → PW P X l.toArray (cleanSt st (dstsOf (l.take m)) (dstsOf (l.take m))) (dstsOf (l.take m)) (dstsOf (l.take m)) K (plans P l.toArray (cleanSt st (dstsOf (l.take m)) (dstsOf (l.take m))) (dstsOf (l.take m)) [] l)) (hp : ∀ ch s, X.pan ch → Q (.panic ch) s := by intro ch s h; exact h) : CW P X (.region id l.toArray true) Q st := cw_drawn hmix _ _ hbk (fun K hK => pw_go (h K hK)) hp
end
end Go.Proofs.YtjdgejfhnfnmgaaGreatDoor.Ax
