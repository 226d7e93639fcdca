/- Regions that draw their order: plans. -/
import Derived.Test.YtoghgjobfcnneaaAxD
namespace Go.Proofs.Ytoghgjobfcnneaa.Ax
open Go.RowKit
/-- does an entry say what an operation does? -/
def Good (D : Delta) (e : Ent) : Prop :=
  (D = .pure e.v ∧ e.nb = [] ∧ e.gone = []) ∨ ∃ ch kl, D = .mod e.v ch kl e.nb ∧ (∀ id ∈ ch, id ∈ kl) ∧ ∀ id ∈ kl, id ∈ e.nb.map (·.1) ∨ id ∈ e.gone
/-- an entry may follow others -/
structure AddOk (P : Program) (X : Cx) (ops : Array Oper) (st0 : St) (D0 I0 : List Nat) (acc : List Ent) (e : Ent) (o : Oper) : Prop where
  i : e.i = acc.length
  op : ops[e.i]? = some o
  dstE : e.dst = o.dst
  dstL : dstOk X.n o.dst = true
  step : (guardOf (stOf st0 (pick e.dn acc)) ops o = some true ∧ ∃ D, Step P X (stOf st0 (pick e.dn acc)) o D ∧ Good D e) ∨ (guardOf (stOf st0 (pick e.dn acc)) ops o = some false ∧ e.v = .tup [] ∧ e.nb = [] ∧ e.gone = [])
  dn1 : ∀ j ∈ e.dn, edge o j = true ∨ ∃ f ∈ acc, edge o f.i = true ∧ j ∈ f.dn
  dn2 : ∀ j ∈ e.dn, j < acc.length
  dst : ∀ t, e.dst = some t → t ∈ D0 ∧ ∀ f ∈ acc, f.dst ≠ some t
  ids : ∀ t ∈ e.nb.map (·.1), t ∈ I0 ∧ ∀ f ∈ acc, t ∉ f.nb.map (·.1)
  nod : ∀ t b, (t, b) ∈ e.nb → get t e.nb = some b
  gone : ∀ g ∈ e.gone, g ∈ I0
  ment1 : ∀ f ∈ acc, f.i ∉ e.dn → e.v.ment (f.nb.map (·.1)) = false ∧ ∀ p ∈ e.nb, p.2.ment (f.nb.map (·.1)) = false
  ment2 : ∀ f ∈ acc, f.v.ment (e.nb.map (·.1)) = false ∧ ∀ p ∈ f.nb, p.2.ment (e.nb.map (·.1)) = false
  c1a : ∀ k ∈ acc, k.i ∉ e.dn → ∀ f ∈ acc, f.i ∈ e.dn → f.v.ment k.gone = false ∧ ∀ p ∈ f.nb, p.1 ∉ k.gone ∧ p.2.ment k.gone = false
  c1b : ∀ i ∈ acc, ∀ f ∈ acc, f.i ∈ i.dn → f.v.ment e.gone = false ∧ ∀ p ∈ f.nb, p.1 ∉ e.gone ∧ p.2.ment e.gone = false
inductive PlanOk (P : Program) (X : Cx) (ops : Array Oper) (st0 : St) (D0 I0 : List Nat) : List Ent → Prop
  | nil : PlanOk P X ops st0 D0 I0 []
  | snoc {acc : List Ent} {e : Ent} {o : Oper} : PlanOk P X ops st0 D0 I0 acc → AddOk P X ops st0 D0 I0 acc e o → PlanOk P X ops st0 D0 I0 (acc ++ [e])
section
variable {P : Program} {X : Cx} {ops : Array Oper} {st0 : St} {D0 I0 : List Nat} {acc : List Ent}
/-- what holds of all entries -/
structure Props (P : Program) (X : Cx) (ops : Array Oper) (st0 : St) (D0 I0 : List Nat) (acc : List Ent) : Prop where
  lt : ∀ e ∈ acc, e.i < acc.length
  idx : ∀ k, k < acc.length → ∃ e ∈ acc, e.i = k
  inj : ∀ e ∈ acc, ∀ f ∈ acc, e.i = f.i → e = f
  ent : ∀ e ∈ acc, ∃ o, ops[e.i]? = some o ∧ e.dst = o.dst ∧ dstOk X.n o.dst = true ∧
    ((guardOf (stOf st0 (pick e.dn acc)) ops o = some true ∧ ∃ D, Step P X (stOf st0 (pick e.dn acc)) o D ∧ Good D e) ∨ (guardOf (stOf st0 (pick e.dn acc)) ops o = some false ∧ e.v = .tup [] ∧ e.nb = [] ∧ e.gone = [])) ∧
    ∀ j ∈ e.dn, edge o j = true ∨ ∃ f ∈ acc, edge o f.i = true ∧ j ∈ f.dn
  dn2 : ∀ e ∈ acc, ∀ j ∈ e.dn, j < e.i
  dst : ∀ e ∈ acc, ∀ t, e.dst = some t → t ∈ D0 ∧ ∀ f ∈ acc, f.dst = some t → f = e
  ids : ∀ e ∈ acc, ∀ t ∈ e.nb.map (·.1), t ∈ I0 ∧ ∀ f ∈ acc, t ∈ f.nb.map (·.1) → f = e
  nod : ∀ e ∈ acc, ∀ t b, (t, b) ∈ e.nb → get t e.nb = some b
  gone : ∀ e ∈ acc, ∀ g ∈ e.gone, g ∈ I0
  ment : ∀ e ∈ acc, ∀ f ∈ acc, f ≠ e → f.i ∉ e.dn → e.v.ment (f.nb.map (·.1)) = false ∧ ∀ p ∈ e.nb, p.2.ment (f.nb.map (·.1)) = false
  c1 : ∀ i ∈ acc, ∀ k ∈ acc, k ≠ i → k.i ∉ i.dn → ∀ f ∈ acc, f.i ∈ i.dn → f.v.ment k.gone = false ∧ ∀ p ∈ f.nb, p.1 ∉ k.gone ∧ p.2.ment k.gone = false
theorem pick_snoc {dn : List Nat} {acc : List Ent} {e : Ent} (h : e.i ∉ dn) : pick dn (acc ++ [e]) = pick dn acc := by
  induction acc with
  | nil => simp [pick, h]
  | cons f fs ih => rw [List.cons_append, pick, pick, ih]
theorem PlanOk.props (h : PlanOk P X ops st0 D0 I0 acc) : Props P X ops st0 D0 I0 acc := by
  induction h with
  | nil => exact ⟨by simp, by simp, by simp, by simp, by simp, by simp, by simp, by simp, by simp, by simp, by simp⟩
  | @snoc acc e o hp ha ih =>
    have hdne : ∀ f ∈ acc, e.i ∉ f.dn := fun f hf hm => by
      have := ih.dn2 f hf _ hm
      have := ih.lt f hf
      have := ha.i
      omega
    have hdnn : e.i ∉ e.dn := fun hm => by
      have := ha.dn2 _ hm
      have := ha.i
      omega
    have hne : ∀ f ∈ acc, f.i ≠ e.i := fun f hf => by
      have := ih.lt f hf
      have := ha.i
      omega
    have mem : ∀ {f : Ent}, f ∈ acc ++ [e] → f ∈ acc ∨ f = e := fun h => by simpa using h
    refine ⟨?_, ?_, ?_, ?_, ?_, ?_, ?_, ?_, ?_, ?_, ?_⟩
    · intro f hf
      rw [List.length_append, List.length_singleton]
      rcases mem hf with hf1 | rfl
      · have := ih.lt f hf1; omega
      · rw [ha.i]; omega
    · intro k hk
      rw [List.length_append, List.length_singleton] at hk
      by_cases hk' : k < acc.length
      · obtain ⟨f, h1, h2⟩ := ih.idx k hk'
        exact ⟨f, List.mem_append_left _ h1, h2⟩
      · exact ⟨e, by simp, by rw [ha.i]; omega⟩
    · intro f hf g hg hfg
      rcases mem hf with hf1 | rfl <;> rcases mem hg with hg1 | rfl
      · exact ih.inj f hf1 g hg1 hfg
      · exact absurd hfg (hne f hf1)
      · exact absurd hfg.symm (hne g hg1)
      · rfl
    · intro f hf
      rcases mem hf with hf1 | rfl
      · obtain ⟨o', h1, h2, h3, h4, h5⟩ := ih.ent f hf1
        rw [pick_snoc (hdne f hf1)]
        exact ⟨o', h1, h2, h3, h4, fun j hj => (h5 j hj).imp id fun ⟨g, q1, q2⟩ => ⟨g, List.mem_append_left _ q1, q2⟩⟩
      · rw [pick_snoc hdnn]
        exact ⟨o, ha.op, ha.dstE, ha.dstL, ha.step, fun j hj => (ha.dn1 j hj).imp id fun ⟨g, q1, q2⟩ => ⟨g, List.mem_append_left _ q1, q2⟩⟩
    · intro f hf j hj
      rcases mem hf with hf1 | rfl
      · exact ih.dn2 f hf1 j hj
      · rw [ha.i]; exact ha.dn2 j hj
    · intro f hf t ht
      rcases mem hf with hf1 | rfl
      · refine ⟨(ih.dst f hf1 t ht).1, fun g hg hgt => ?_⟩
        rcases mem hg with hg1 | rfl
        · exact (ih.dst f hf1 t ht).2 g hg1 hgt
        · exact absurd ht ((ha.dst t hgt).2 f hf1)
      · refine ⟨(ha.dst t ht).1, fun g hg hgt => ?_⟩
        rcases mem hg with hg1 | rfl
        · exact absurd hgt ((ha.dst t ht).2 g hg1)
        · rfl
    · intro f hf t ht
      rcases mem hf with hf1 | rfl
      · refine ⟨(ih.ids f hf1 t ht).1, fun g hg hgt => ?_⟩
        rcases mem hg with hg1 | rfl
        · exact (ih.ids f hf1 t ht).2 g hg1 hgt
        · exact absurd ht ((ha.ids t hgt).2 f hf1)
      · refine ⟨(ha.ids t ht).1, fun g hg hgt => ?_⟩
        rcases mem hg with hg1 | rfl
        · exact absurd hgt ((ha.ids t ht).2 g hg1)
        · rfl
    · intro f hf
      rcases mem hf with hf1 | rfl
      · exact ih.nod f hf1
      · exact ha.nod
    · intro f hf
      rcases mem hf with hf1 | rfl
      · exact ih.gone f hf1
      · exact ha.gone
    · intro f hf g hg hgf hgd
      rcases mem hf with hf1 | rfl <;> rcases mem hg with hg1 | rfl
      · exact ih.ment f hf1 g hg1 hgf hgd
      · exact ha.ment2 f hf1
      · exact ha.ment1 g hg1 hgd
      · exact absurd rfl hgf
    · intro i hi k hk hki hkd f hf hfd
      rcases mem hf with hf1 | rfl
      · rcases mem hi with hi1 | rfl <;> rcases mem hk with hk1 | rfl
        · exact ih.c1 i hi1 k hk1 hki hkd f hf1 hfd
        · exact ha.c1b i hi1 f hf1 hfd
        · exact ha.c1a k hk1 hkd f hf1 hfd
        · exact absurd rfl hki
      · rcases mem hi with hi1 | rfl
        · exact absurd hfd (hdne i hi1)
        · exact absurd hfd hdnn
/-- nothing of the region's is known yet -/
structure Clean (st0 : St) (D0 I0 : List Nat) : Prop where
  sl : ∀ t ∈ D0, get t st0.sl = none
  slm : ∀ t u, get t st0.sl = some u → u.ment I0 = false
  bl : ∀ t ∈ I0, get t st0.bl = none
  blm : ∀ t b, get t st0.bl = some b → b.ment I0 = false
theorem ment_gone {v : V} : ∀ {es : List Ent}, (∀ k ∈ es, v.ment k.gone = false) → v.ment (goneOf es) = false := by
  have cat : ∀ (v : V) (a b : List Nat), v.ment a = false → v.ment b = false → v.ment (a ++ b) = false := by
    have cC : ∀ (a b : List Nat) (c : C), c.ment a = false → c.ment b = false → c.ment (a ++ b) = false := fun a b c => by
      refine C.rec (motive_1 := fun c => c.ment a = false → c.ment b = false → c.ment (a ++ b) = false) (motive_2 := fun cs => C.ments a cs = false → C.ments b cs = false → C.ments (a ++ b) cs = false) ?_ ?_ ?_ ?_ ?_ ?_ ?_ ?_ ?_ c
      · intros; rfl
      · intros; rfl
      · intro id len h1 h2; simp [C.ment] at h1 h2 ⊢; exact ⟨h1, h2⟩
      · intro id len h1 h2; simp [C.ment] at h1 h2 ⊢; exact ⟨h1, h2⟩
      · intro id k s j h1 h2; simp [C.ment] at h1 h2 ⊢; exact ⟨h1, h2⟩
      · intro f caps ih h1 h2; simp only [C.ment] at h1 h2 ⊢; exact ih h1 h2
      · intros; rfl
      · intros; rfl
      · intro c cs i1 i2 h1 h2
        simp only [C.ments, Bool.or_eq_false_iff] at h1 h2 ⊢
        exact ⟨i1 h1.1 h2.1, i2 h1.2 h2.2⟩
    have cCs : ∀ (a b : List Nat) (cs : List C), C.ments a cs = false → C.ments b cs = false → C.ments (a ++ b) cs = false := fun a b cs => by
      induction cs with
      | nil => intros; rfl
      | cons c cs ih =>
        intro h1 h2
        simp only [C.ments, Bool.or_eq_false_iff] at h1 h2 ⊢
        exact ⟨cC a b c h1.1 h2.1, ih h1.2 h2.2⟩
    intro v a b
    refine V.rec (motive_1 := fun v => v.ment a = false → v.ment b = false → v.ment (a ++ b) = false) (motive_2 := fun vs => V.ments a vs = false → V.ments b vs = false → V.ments (a ++ b) vs = false) ?_ ?_ ?_ ?_ ?_ ?_ v
    · intro c h1 h2; simp only [V.ment] at h1 h2 ⊢; exact cC a b c h1 h2
    · intro cs h1 h2; simp only [V.ment] at h1 h2 ⊢; exact cCs a b cs h1 h2
    · intro vs ih h1 h2; simp only [V.ment] at h1 h2 ⊢; exact ih h1 h2
    · intros; rfl
    · intros; rfl
    · intro c cs i1 i2 h1 h2
      simp only [V.ments, Bool.or_eq_false_iff] at h1 h2 ⊢
      exact ⟨i1 h1.1 h2.1, i2 h1.2 h2.2⟩
  intro es h
  induction es with
  | nil => exact V.ment_nil v
  | cons e es ih =>
    rw [goneOf]
    exact cat v _ _ (h e List.mem_cons_self) (ih fun k hk => h k (List.mem_cons_of_mem _ hk))
theorem bment_gone {b : B} {es : List Ent} (h : ∀ k ∈ es, b.ment k.gone = false) : b.ment (goneOf es) = false := by
  cases b with
  | arr => rfl
  | var e cells => exact ment_gone (v := .agg cells) h
theorem R_le (hP : Props P X ops st0 D0 I0 acc) (hC : Clean st0 D0 I0) {S : List Nat} {e : Ent} (he : e ∈ acc) (heS : e.i ∉ S) (hdn : ∀ j ∈ e.dn, j ∈ S) : (stOf st0 (pick e.dn acc)).le (stOf st0 (pick S acc)) := by
  constructor
  · intro t u h
    have hrest : get t st0.sl = some u → get t (stOf st0 (pick S acc)).sl = some u := fun h => by
      refine (get_append_none (slOf_none fun f hf hft => ?_)).trans h
      have h1 := (hP.dst f (mem_pick.1 hf).1 t hft).1
      rw [hC.sl t h1] at h; cases h
    rcases get_append h with h | h
    · obtain ⟨f, h1, h2, h3, h4⟩ := get_slOf h
      obtain ⟨h5, h6⟩ := mem_pick.1 h1
      subst h3
      refine get_append_some (slOf_get (mem_pick.2 ⟨h5, hdn _ h6⟩) h2 (ment_gone fun k hk => ?_) fun g hg hgt => (hP.dst f h5 t h2).2 g (mem_pick.1 hg).1 hgt)
      by_cases hkd : k.i ∈ e.dn
      · exact V.ment_sub (fun i hi => mem_goneOf.2 ⟨k, mem_pick.2 ⟨(mem_pick.1 hk).1, hkd⟩, hi⟩) h4
      · exact (hP.c1 e he k (mem_pick.1 hk).1 (fun h => heS (h ▸ (mem_pick.1 hk).2)) hkd f h5 h6).1
    · exact hrest h
  · intro t u h
    have hrest : get t st0.bl = some u → get t (stOf st0 (pick S acc)).bl = some u := fun h => by
      refine (get_append_none (blOf_none fun f hf hft => ?_)).trans h
      have h1 := (hP.ids f (mem_pick.1 hf).1 t hft).1
      rw [hC.bl t h1] at h; cases h
    rcases get_append h with h | h
    · obtain ⟨f, h1, h2, h3, h4⟩ := get_blOf h
      obtain ⟨h5, h6⟩ := mem_pick.1 h1
      have hmem : t ∈ f.nb.map (·.1) := List.mem_map.2 ⟨_, h4, rfl⟩
      have key : ∀ k ∈ pick S acc, t ∉ k.gone ∧ u.ment k.gone = false := fun k hk => by
        by_cases hkd : k.i ∈ e.dn
        · exact ⟨fun hi => h2 (mem_goneOf.2 ⟨k, mem_pick.2 ⟨(mem_pick.1 hk).1, hkd⟩, hi⟩), B.ment_sub (fun i hi => mem_goneOf.2 ⟨k, mem_pick.2 ⟨(mem_pick.1 hk).1, hkd⟩, hi⟩) h3⟩
        · exact (hP.c1 e he k (mem_pick.1 hk).1 (fun h => heS (h ▸ (mem_pick.1 hk).2)) hkd f h5 h6).2 _ h4
      refine get_append_some (blOf_get (mem_pick.2 ⟨h5, hdn _ h6⟩) (hP.nod f h5 t u h4) (fun hg => ?_) (bment_gone fun k hk => (key k hk).2) fun g hg hgt => (hP.ids f h5 t hmem).2 g (mem_pick.1 hg).1 hgt)
      obtain ⟨k, hk, hkg⟩ := mem_goneOf.1 hg
      exact (key k hk).1 hkg
    · exact hrest h
theorem S_le (hP : Props P X ops st0 D0 I0 acc) (hC : Clean st0 D0 I0) {S S' : List Nat} {e : Ent} (he : e ∈ acc) (hS : ∀ j, j ∈ S' ↔ j = e.i ∨ j ∈ S) (heS : e.i ∉ S) (hcl : ∀ f ∈ acc, f.i ∈ S → ∀ j ∈ f.dn, j ∈ S) {ch kl : List Nat} (hch : ∀ id ∈ ch, id ∈ kl) (hkl : ∀ id ∈ kl, id ∈ e.nb.map (·.1) ∨ id ∈ e.gone) :
    (stOf st0 (pick S' acc)).le (((stOf st0 (pick S acc)).turn ch kl e.nb).put e.dst e.v) := by
  have heM : e ∈ pick S' acc := mem_pick.2 ⟨he, (hS _).2 (.inl rfl)⟩
  have sub : ∀ f ∈ pick S acc, f ∈ pick S' acc := fun f hf => mem_pick.2 ⟨(mem_pick.1 hf).1, (hS _).2 (.inr (mem_pick.1 hf).2)⟩
  have gsub : ∀ g ∈ goneOf (pick S acc), g ∈ goneOf (pick S' acc) := fun g hg => by
    obtain ⟨k, h1, h2⟩ := mem_goneOf.1 hg
    exact mem_goneOf.2 ⟨k, sub k h1, h2⟩
  have other : ∀ f ∈ pick S' acc, f ≠ e → f ∈ pick S acc := fun f hf hne => by
    obtain ⟨h1, h2⟩ := mem_pick.1 hf
    rcases (hS _).1 h2 with h2 | h2
    · exact absurd (hP.inj f h1 e he h2) hne
    · exact mem_pick.2 ⟨h1, h2⟩
  have klI : ∀ id ∈ kl, id ∈ I0 := fun id hid => by
    rcases hkl id hid with h | h
    · exact (hP.ids e he id h).1
    · exact hP.gone e he id h
  -- what an old entry's value does not name
  have mentV : ∀ f ∈ pick S acc, f.v.ment (goneOf (pick S' acc)) = false → f.v.ment kl = false := fun f hf hg => by
    have h1 := mem_pick.1 hf
    have h2 := (hP.ment f h1.1 e he (fun h => heS (h ▸ h1.2)) (fun h => heS (hcl f h1.1 h1.2 _ h))).1
    have h3 : f.v.ment e.gone = false := V.ment_sub (fun i hi => mem_goneOf.2 ⟨e, heM, hi⟩) hg
    have := ment_gone (v := f.v) (es := [⟨0, none, .junk, [], e.nb.map (·.1), []⟩, ⟨0, none, .junk, [], e.gone, []⟩]) (by
      intro k hk
      simp only [List.mem_cons, List.not_mem_nil, or_false] at hk
      rcases hk with rfl | rfl
      · exact h2
      · exact h3)
    refine V.ment_sub (fun i hi => ?_) this
    simp only [goneOf, List.append_nil, List.mem_append]
    exact hkl i hi
  have mentB : ∀ f ∈ pick S acc, ∀ p ∈ f.nb, p.2.ment (goneOf (pick S' acc)) = false → p.2.ment kl = false := fun f hf p hp hg => by
    have h1 := mem_pick.1 hf
    have h2 := (hP.ment f h1.1 e he (fun h => heS (h ▸ h1.2)) (fun h => heS (hcl f h1.1 h1.2 _ h))).2 p hp
    have h3 : p.2.ment e.gone = false := B.ment_sub (fun i hi => mem_goneOf.2 ⟨e, heM, hi⟩) hg
    have := bment_gone (b := p.2) (es := [⟨0, none, .junk, [], e.nb.map (·.1), []⟩, ⟨0, none, .junk, [], e.gone, []⟩]) (by
      intro k hk
      simp only [List.mem_cons, List.not_mem_nil, or_false] at hk
      rcases hk with rfl | rfl
      · exact h2
      · exact h3)
    refine B.ment_sub (fun i hi => ?_) this
    simp only [goneOf, List.append_nil, List.mem_append]
    exact hkl i hi
  have turnS : ∀ t u, get t (stOf st0 (pick S acc)).sl = some u → u.ment kl = false → e.dst ≠ some t → get t (((stOf st0 (pick S acc)).turn ch kl e.nb).put e.dst e.v).sl = some u := fun t u h1 h2 h3 => by
    have h4 : get t ((stOf st0 (pick S acc)).turn ch kl e.nb).sl = some u := by
      have key : ∀ l : List (Nat × V), get t l = some u → get t (l.map fun p => (p.1, p.2.kill kl)) = some (u.kill kl) := by
        intro l
        induction l with
        | nil => intro h; cases h
        | cons p l ih =>
          intro h
          simp only [get] at h
          rw [List.map_cons]
          simp only [get]
          split at h
          · rename_i hk; injection h with h; rw [if_pos hk, h]
          · rename_i hk; rw [if_neg hk]; exact ih h
      have := key _ h1
      rw [V.kill_same h2] at this
      exact this
    cases hd : e.dst with
    | none => exact h4
    | some d =>
      show (if t = d then some e.v else get t ((stOf st0 (pick S acc)).turn ch kl e.nb).sl) = some u
      rw [if_neg (fun he => h3 (by rw [hd, he]))]
      exact h4
  have turnB : ∀ t u, get t (stOf st0 (pick S acc)).bl = some u → u.ment kl = false → t ∉ kl → t ∉ e.nb.map (·.1) → get t (((stOf st0 (pick S acc)).turn ch kl e.nb).put e.dst e.v).bl = some u := fun t u h1 h2 h3 h4 => by
    have h5 : get t ((stOf st0 (pick S acc)).turn ch kl e.nb).bl = some u := by
      have hnone : get t e.nb = none := by
        have : ∀ l : List (Nat × B), t ∉ l.map (·.1) → get t l = none := by
          intro l
          induction l with
          | nil => intro _; rfl
          | cons p l ih =>
            intro h
            simp only [List.map_cons, List.mem_cons, not_or] at h
            simp only [get]
            rw [if_neg h.1]
            exact ih h.2
        exact this _ h4
      have key : ∀ l : List (Nat × B), get t l = some u → get t ((l.filter fun p => !(ch.contains p.1 || kl.contains p.1)).map fun p => (p.1, p.2.kill kl)) = some (u.kill kl) := by
        intro l
        induction l with
        | nil => intro h; cases h
        | cons p l ih =>
          intro h
          simp only [get] at h
          split at h
          · rename_i hk
            injection h with h
            subst hk
            have hc : (!(ch.contains p.1 || kl.contains p.1)) = true := by
              simp only [List.contains_eq_mem, Bool.not_eq_true', Bool.or_eq_false_iff, decide_eq_false_iff_not]
              exact ⟨fun hm => h3 (hch _ hm), h3⟩
            rw [List.filter_cons, if_pos hc, List.map_cons]
            simp only [get, if_true, h]
          · rename_i hk
            rw [List.filter_cons]
            split
            · rw [List.map_cons]
              simp only [get]
              rw [if_neg hk]
              exact ih h
            · exact ih h
      unfold St.turn
      rw [get_append_none hnone, key _ h1, B.kill_same h2]
    cases e.dst <;> exact h5
  constructor
  · intro t u h
    rcases get_append h with h | h
    · obtain ⟨f, h1, h2, h3, h4⟩ := get_slOf h
      subst h3
      by_cases hfe : f = e
      · subst hfe
        rw [h2]
        simp [St.put, get]
      · have hf := other f h1 hfe
        refine turnS t f.v (get_append_some (slOf_get hf h2 (V.ment_sub gsub h4) fun g hg hgt => (hP.dst f (mem_pick.1 hf).1 t h2).2 g (mem_pick.1 hg).1 hgt)) (mentV f hf h4) fun hd => hfe ((hP.dst e he t hd).2 f (mem_pick.1 hf).1 h2)
    · have hD : t ∉ D0 := fun hm => by rw [hC.sl t hm] at h; cases h
      refine turnS t u ((get_append_none (slOf_none fun f hf hft => hD (hP.dst f (mem_pick.1 hf).1 t hft).1)).trans h) (V.ment_sub klI (hC.slm t u h)) fun hd => hD (hP.dst e he t hd).1
  · intro t u h
    rcases get_append h with h | h
    · obtain ⟨f, h1, h2, h3, h4⟩ := get_blOf h
      by_cases hfe : f = e
      · subst hfe
        have h5 : get t ((stOf st0 (pick S acc)).turn ch kl f.nb).bl = some u := get_append_some (hP.nod f he t u h4)
        cases f.dst <;> exact h5
      · have hf := other f h1 hfe
        have hmem : t ∈ f.nb.map (·.1) := List.mem_map.2 ⟨_, h4, rfl⟩
        have hne : t ∉ e.nb.map (·.1) := fun hm => hfe ((hP.ids e he t hm).2 f (mem_pick.1 hf).1 hmem)
        refine turnB t u (get_append_some (blOf_get hf (hP.nod f (mem_pick.1 hf).1 t u h4) (fun hg => h2 (gsub _ hg)) (B.ment_sub gsub h3) fun g hg hgt => (hP.ids f (mem_pick.1 hf).1 t hmem).2 g (mem_pick.1 hg).1 hgt)) (mentB f hf _ h4 h3) (fun hm => ?_) hne
        rcases hkl t hm with hm | hm
        · exact hne hm
        · exact h2 (mem_goneOf.2 ⟨e, heM, hm⟩)
    · have hI : t ∉ I0 := fun hm => by rw [hC.bl t hm] at h; cases h
      exact turnB t u ((get_append_none (blOf_none fun f hf hft => hI (hP.ids f (mem_pick.1 hf).1 t hft).1)).trans h) (B.ment_sub klI (hC.blm t u h)) (fun hm => hI (klI t hm)) fun hm => hI (hP.ids e he t hm).1
end
end Go.Proofs.Ytoghgjobfcnneaa.Ax
