/- Regions that draw their order: reckoned. -/
import Derived.Test.YtoghgjobfcnneaaAxD5
namespace Go.Proofs.Ytoghgjobfcnneaa.Ax
open Go.RowKit
/-- what is known without some temporaries and blocks -/
def cleanSt (st : St) (D0 I0 : List Nat) : St := ⟨(st.sl.filter fun p => !D0.contains p.1).map fun p => (p.1, p.2.kill I0), (st.bl.filter fun p => !I0.contains p.1).map fun p => (p.1, p.2.kill I0)⟩
section
variable {P : Program} {X : Cx} {ops : Array Oper} {st : St} {D0 I0 : List Nat} {ρ : Nat → R} {a : Act} {w : World}
theorem kill_ment (v : V) : (v.kill I0).ment I0 = false := by
  unfold V.kill
  split
  · rfl
  · rename_i h; simpa using h
theorem bkill_ment (b : B) : (b.kill I0).ment I0 = false := by
  cases b with
  | arr => rfl
  | var e cells =>
    show C.ments I0 (cells.map (C.kill I0)) = false
    induction cells with
    | nil => rfl
    | cons c cs ih =>
      rw [List.map_cons]
      simp only [C.ments, ih, Bool.or_false]
      unfold C.kill
      split
      · rfl
      · rename_i h; simpa using h
theorem clean_ok : Clean (cleanSt st D0 I0) D0 I0 where
  sl t ht := by
    cases h : get t (cleanSt st D0 I0).sl with
    | none => rfl
    | some u =>
      obtain ⟨v, h1, _⟩ := get_map h
      have := (get_filter (p := fun i => !D0.contains i) h1).2
      simp [ht] at this
  slm t u h := by
    obtain ⟨v, _, rfl⟩ := get_map h
    exact kill_ment v
  bl t ht := by
    cases h : get t (cleanSt st D0 I0).bl with
    | none => rfl
    | some u =>
      obtain ⟨v, h1, _⟩ := get_map h
      have := (get_filter (p := fun i => !I0.contains i) h1).2
      simp [ht] at this
  blm t b h := by
    obtain ⟨v, _, rfl⟩ := get_map h
    exact bkill_ment v
theorem clean_hold (h : Hold X st ρ a w) : Hold X (cleanSt st D0 I0) (fun i => if i ∈ I0 then .dead else ρ i) a w := by
  have he : Evo X ρ w (fun i => if i ∈ I0 then .dead else ρ i) w I0 I0 := ⟨Below.refl _ _, fun _ _ _ => rfl, fun id hid => if_neg hid, (fun id b cap hid hr => by rw [if_pos hid] at hr; cases hr), fun i j b c d hi hj => by
    split at hi
    · cases hi
    · split at hj
      · cases hj
      · exact h.inj i j b c d hi hj⟩
  have hT := h.turn he (nb := []) (by intro id b h; cases h)
  refine hT.le ⟨fun t v hv => ?_, fun t b hb => ?_⟩
  · obtain ⟨u, h1, rfl⟩ := get_map hv
    have h2 := (get_filter (p := fun i => !D0.contains i) h1).1
    have key : ∀ l : List (Nat × V), get t l = some u → get t (l.map fun p => (p.1, p.2.kill I0)) = some (u.kill I0) := by
      intro l
      induction l with
      | nil => intro h; cases h
      | cons p l ih =>
        intro h
        simp only [get] at h
        rw [List.map_cons]
        simp only [get]
        split at h
        · rename_i hk; injection h with h; rw [if_pos hk, h]
        · rename_i hk; rw [if_neg hk]; exact ih h
    exact key _ h2
  · have : (st.bl.filter fun p => !(I0.contains p.1 || I0.contains p.1)) = st.bl.filter fun p => !I0.contains p.1 := by simp only [Bool.or_self]
    show get t (([] : List (Nat × B)) ++ _) = some b
    rw [List.nil_append, this]
    exact hb
def entD (i : Nat) (dst : Option Tmp) (dn : List Nat) : Delta → Option Ent
  | .pure v => some ⟨i, dst, v, [], [], dn⟩
  | .mod v ch kl nb => if ch.all (fun x => kl.contains x) then some ⟨i, dst, v, nb, kl.filter (fun x => !(nb.map (·.1)).contains x), dn⟩ else none
def nodK : List (Nat × B) → Bool
  | [] => true
  | p :: l => !(l.map (·.1)).contains p.1 && nodK l
/-- a new entry beside the elder ones -/
def addB (n : Nat) (D0 I0 : List Nat) (ts : List Nat) (acc : List Ent) (e : Ent) (o : Oper) : Bool :=
  dstOk n o.dst && (prods ts acc).all (fun f => edge o f.i) && (match e.dst with
    | some t => D0.contains t && acc.all (fun f => match f.dst with
      | some u => decide (u ≠ t)
      | none => true)
    | none => true) && (e.nb.map (·.1)).all (fun t => I0.contains t && acc.all fun f => !(f.nb.map (·.1)).contains t) && nodK e.nb && e.gone.all (fun g => I0.contains g) &&
  acc.all (fun f => e.dn.contains f.i || f.nb.isEmpty || !e.v.ment (f.nb.map (·.1)) && e.nb.all fun p => !p.2.ment (f.nb.map (·.1))) &&
  (e.nb.isEmpty || acc.all fun f => !f.v.ment (e.nb.map (·.1)) && f.nb.all fun p => !p.2.ment (e.nb.map (·.1))) &&
  acc.all (fun k => e.dn.contains k.i || k.gone.isEmpty || acc.all fun f => !e.dn.contains f.i || !f.v.ment k.gone && f.nb.all fun p => !k.gone.contains p.1 && !p.2.ment k.gone) &&
  (e.gone.isEmpty || acc.all fun i => acc.all fun f => !i.dn.contains f.i || !f.v.ment e.gone && f.nb.all fun p => !e.gone.contains p.1 && !p.2.ment e.gone)
theorem B.ment_nil (b : B) : b.ment [] = false := by
  cases b with
  | arr => rfl
  | var => exact C.ments_nil _
theorem nodK_get : ∀ {l : List (Nat × B)} {t : Nat} {b : B}, nodK l = true → (t, b) ∈ l → get t l = some b
  | [], _, _, _, h => by cases h
  | p :: l, t, b, hn, h => by
    simp only [nodK, Bool.and_eq_true, Bool.not_eq_true', List.contains_eq_mem, decide_eq_false_iff_not] at hn
    simp only [get]
    rcases List.mem_cons.1 h with h | h
    · subst h; rw [if_pos rfl]
    · have : t ≠ p.1 := fun e => hn.1 (e ▸ List.mem_map.2 ⟨_, h, rfl⟩)
      rw [if_neg this]
      exact nodK_get hn.2 h
/-- entries, one by one, each of which says what its operation does -/
inductive PlanPre (P : Program) (X : Cx) (ops : Array Oper) (st0 : St) : List Ent → Prop
  | nil : PlanPre P X ops st0 []
  | snoc {acc : List Ent} {e : Ent} {o : Oper} : PlanPre P X ops st0 acc → e.i = acc.length → ops[e.i]? = some o → e.dst = o.dst → e.dn = dnOf (prods (Oper.looksAt ops o) acc) →
      ((guardOf (stOf st0 (pick e.dn acc)) ops o = some true ∧ ∃ D, Step P X (stOf st0 (pick e.dn acc)) o D ∧ Good D e) ∨ (guardOf (stOf st0 (pick e.dn acc)) ops o = some false ∧ e.v = .tup [] ∧ e.nb = [] ∧ e.gone = [])) → PlanPre P X ops st0 (acc ++ [e])
/-- may all entries stand beside each other? (the last one first) -/
def chkR (n : Nat) (D0 I0 : List Nat) (ops : Array Oper) : List Ent → Bool
  | [] => true
  | e :: r => (match ops[e.i]? with
    | some o => addB n D0 I0 (Oper.looksAt ops o) r.reverse e o
    | none => false) && chkR n D0 I0 ops r
theorem planOk_of {st1 : St} {acc : List Ent} (hp : PlanPre P X ops st1 acc) (hc : chkR X.n D0 I0 ops acc.reverse = true) : PlanOk P X ops st1 D0 I0 acc := by
  induction hp with
  | nil => exact .nil
  | @snoc acc e o hp hi hop hde hdn hs ih =>
    rw [List.reverse_append, List.reverse_singleton, List.singleton_append, chkR, hop, Bool.and_eq_true] at hc
    obtain ⟨hb, hc⟩ := hc
    simp only [List.reverse_reverse] at hb
    have hp := ih hc
    have hprops := hp.props
    unfold addB at hb
    simp only [Bool.and_eq_true] at hb
    obtain ⟨⟨⟨⟨⟨⟨⟨⟨⟨b1, b2⟩, b3⟩, b4⟩, b5⟩, b6⟩, b7⟩, b8⟩, b9⟩, b10⟩ := hb
    have cond : ∀ {g : List Nat} {f : Ent}, (!f.v.ment g && f.nb.all fun p => !g.contains p.1 && !p.2.ment g) = true → f.v.ment g = false ∧ ∀ p ∈ f.nb, p.1 ∉ g ∧ p.2.ment g = false := fun h => by
      simp only [Bool.and_eq_true, Bool.not_eq_true', List.all_eq_true, List.contains_eq_mem, decide_eq_false_iff_not] at h
      exact ⟨h.1, fun p hp => h.2 p hp⟩
    have condE : ∀ {f : Ent}, f.v.ment [] = false ∧ ∀ p ∈ f.nb, p.1 ∉ ([] : List Nat) ∧ p.2.ment [] = false := ⟨V.ment_nil _, fun p _ => ⟨by simp, B.ment_nil _⟩⟩
    refine .snoc hp (o := o) ⟨hi, hop, hde, b1, hs, fun j hj => ?_, fun j hj => ?_, fun t ht => ?_, fun t ht => ?_, fun t b htb => nodK_get b5 htb, fun g hg => ?_, fun f hf hfd => ?_, fun f hf => ?_, fun k hk hkd f hf hfd => ?_, fun i hi f hf hfd => ?_⟩
    · rw [hdn] at hj
      obtain ⟨f, hf, hj⟩ := mem_dnOf.1 hj
      have he : edge o f.i = true := List.all_eq_true.1 b2 f hf
      rcases hj with rfl | hj
      · exact .inl he
      · exact .inr ⟨f, (mem_prods.1 hf).1, he, hj⟩
    · rw [hdn] at hj
      obtain ⟨f, hf, hj⟩ := mem_dnOf.1 hj
      have hf' := (mem_prods.1 hf).1
      rcases hj with rfl | hj
      · exact hprops.lt f hf'
      · have := hprops.dn2 f hf' j hj
        have := hprops.lt f hf'
        omega
    · rw [ht] at b3
      simp only [Bool.and_eq_true, List.contains_eq_mem, decide_eq_true_eq, List.all_eq_true] at b3
      refine ⟨b3.1, fun f hf hft => ?_⟩
      have := b3.2 f hf
      rw [hft] at this
      simp at this
    · have := List.all_eq_true.1 b4 t ht
      simp only [Bool.and_eq_true, List.contains_eq_mem, decide_eq_true_eq, List.all_eq_true, Bool.not_eq_true', decide_eq_false_iff_not] at this
      exact ⟨this.1, this.2⟩
    · simpa using List.all_eq_true.1 b6 g hg
    · have := List.all_eq_true.1 b7 f hf
      simp only [Bool.or_eq_true, Bool.and_eq_true, List.contains_eq_mem, decide_eq_true_eq, List.isEmpty_iff, Bool.not_eq_true', List.all_eq_true] at this
      rcases this with (h | h) | h
      · exact absurd h hfd
      · rw [h]; exact ⟨V.ment_nil _, fun p _ => B.ment_nil _⟩
      · exact h
    · simp only [Bool.or_eq_true, Bool.and_eq_true, List.isEmpty_iff, Bool.not_eq_true', List.all_eq_true] at b8
      rcases b8 with h | h
      · rw [h]; exact ⟨V.ment_nil _, fun p _ => B.ment_nil _⟩
      · exact h f hf
    · have := List.all_eq_true.1 b9 k hk
      rw [Bool.or_eq_true, Bool.or_eq_true] at this
      rcases this with (h | h) | h
      · exact absurd (by simpa using h) hkd
      · rw [List.isEmpty_iff.1 h]; exact condE
      · have h2 := List.all_eq_true.1 h f hf
        rw [Bool.or_eq_true] at h2
        rcases h2 with h2 | h2
        · simp [hfd] at h2
        · exact cond h2
    · rw [Bool.or_eq_true] at b10
      rcases b10 with h | h
      · rw [List.isEmpty_iff.1 h]; exact condE
      · have h2 := List.all_eq_true.1 (List.all_eq_true.1 h i hi) f hf
        rw [Bool.or_eq_true] at h2
        rcases h2 with h2 | h2
        · simp [hfd] at h2
        · exact cond h2
/-- a plan that is whole -/
def Fin (P : Program) (X : Cx) (ops : Array Oper) (st1 : St) (D0 I0 : List Nat) (K : St → Prop) : Prop :=
  (∃ acc, PlanOk P X ops st1 D0 I0 acc ∧ tailOk (clos acc) acc.length true (ops.toList.drop acc.length) = true ∧ RW P X ops (ops.toList.drop acc.length) K (stOf st1 acc)) ∨
  ∃ acc F stE, PlanOk P X ops st1 D0 I0 acc ∧ FlIn acc I0 F ∧ FlOk P X ops F ∧ tailOk (closF F acc) acc.length true (ops.toList.drop acc.length) = true ∧ (∀ f ∈ F, leL f.rd (stOf st1 (pick (notF F acc.length) acc)).sl) ∧ tailF P X.n ops F (ops.toList.drop acc.length) (stOf st1 (pick (notF F acc.length) acc)) = some stE ∧ K (addF (flSl (fun _ => true) F) stE)
/-- the plan so far, and what is left of the region, lead to K -/
def PW (P : Program) (X : Cx) (ops : Array Oper) (st1 : St) (D0 I0 : List Nat) (K : St → Prop) (q : List Ent × List Oper) : Prop :=
  PlanPre P X ops st1 q.1 → ops.toList.drop q.1.length = q.2 → Fin P X ops st1 D0 I0 K
variable {st1 : St} {K : St → Prop} {acc : List Ent} {l : List Oper} {o : Oper}
theorem pw_tail (n : Nat) (hn : X.n = n) (hck : chkR n D0 I0 ops acc.reverse = true) (ht : tailOk (clos acc) acc.length true l = true) (h : RWr P X ops K (runs P X.n ops l (stOf st1 acc))) : PW P X ops st1 D0 I0 K (acc, l) := fun hp hl => by
  simp only at hl hp
  exact .inl ⟨acc, planOk_of hp (by rw [hn]; exact hck), by rw [hl]; exact ht, by rw [hl]; exact rw_go h⟩
/-- some entries may come late -/
theorem pw_float (n : Nat) (hn : X.n = n) (is : List Nat) {F : List Fl} {stE : St} (hck : chkR n D0 I0 ops acc.reverse = true) (h1 : flsOf ops I0 acc is = some F) (h2 : flDist F = true) (h3 : flRd F = true) (h4 : flChk P X.n ops F) (h5 : tailOk (closF F acc) acc.length true l = true) (h6 : flLe (stOf st1 (pick (notF F acc.length) acc)).sl F) (h7 : tailF P X.n ops F l (stOf st1 (pick (notF F acc.length) acc)) = some stE)
    (h : K (addF (flSl (fun _ => true) F) stE)) : PW P X ops st1 D0 I0 K (acc, l) := fun hp hl => by
  simp only at hl hp
  exact .inr ⟨acc, F, stE, planOk_of hp (by rw [hn]; exact hck), flIn_of h1 h2, flOk_of h2 h3 h4, by rw [hl]; exact h5, flLe_mem h6, by rw [hl]; exact h7, h⟩
theorem pw_add {e : Ent} (hi : e.i = acc.length) (hde : e.dst = o.dst) (hdn : e.dn = dnOf (prods (Oper.looksAt ops o) acc))
    (hs : (guardOf (stOf st1 (pick e.dn acc)) ops o = some true ∧ ∃ D, Step P X (stOf st1 (pick e.dn acc)) o D ∧ Good D e) ∨ (guardOf (stOf st1 (pick e.dn acc)) ops o = some false ∧ e.v = .tup [] ∧ e.nb = [] ∧ e.gone = []))
    (h : PW P X ops st1 D0 I0 K (acc ++ [e], l)) : PW P X ops st1 D0 I0 K (acc, o :: l) := fun hp hl => by
  simp only at hp hl
  have hop : ops[acc.length]? = some o := by
    have : (ops.toList.drop acc.length)[0]? = some o := by rw [hl]; rfl
    simpa using this
  refine h (.snoc hp (o := o) hi (by rw [hi]; exact hop) hde hdn hs) ?_
  have := congrArg (List.drop 1) hl
  rw [List.drop_drop] at this
  simpa using this
theorem entD_good {i : Nat} {dst : Option Tmp} {dn : List Nat} {D : Delta} {e : Ent} (h : entD i dst dn D = some e) : Good D e ∧ e.i = i ∧ e.dst = dst ∧ e.dn = dn := by
  cases D with
  | pure v =>
    simp only [entD, Option.some.injEq] at h
    subst h
    exact ⟨.inl ⟨rfl, rfl, rfl⟩, rfl, rfl, rfl⟩
  | mod v ch kl nb =>
    simp only [entD] at h
    split at h
    · rename_i hc
      injection h with h
      subst h
      refine ⟨.inr ⟨ch, kl, rfl, fun id hid => ?_, fun id hid => ?_⟩, rfl, rfl, rfl⟩
      · simpa using List.all_eq_true.1 hc id hid
      · by_cases hm : id ∈ nb.map (·.1)
        · exact .inl hm
        · refine .inr (List.mem_filter.2 ⟨hid, ?_⟩)
          simpa using hm
    · cases h
/-- as far as a plan goes by itself -/
def inD (D0 : List Nat) : Option Tmp → Bool
  | some d => D0.contains d
  | none => false
def plans (P : Program) (ops : Array Oper) (st1 : St) (D0 : List Nat) : List Ent → List Oper → List Ent × List Oper
  | acc, [] => (acc, [])
  | acc, o :: l =>
    match inD D0 o.dst with
    | false => (acc, o :: l)
    | true =>
      match guardOf (stOf st1 (pick (dnOf (prods (Oper.looksAt ops o) acc)) acc)) ops o with
      | some true => match exec1 P (stOf st1 (pick (dnOf (prods (Oper.looksAt ops o) acc)) acc)) o with
        | some D => match entD acc.length o.dst (dnOf (prods (Oper.looksAt ops o) acc)) D with
          | some e => plans P ops st1 D0 (acc ++ [e]) l
          | none => (acc, o :: l)
        | none => (acc, o :: l)
      | some false => plans P ops st1 D0 (acc ++ [⟨acc.length, o.dst, .tup [], [], [], dnOf (prods (Oper.looksAt ops o) acc)⟩]) l
      | none => (acc, o :: l)
theorem pw_go : ∀ {l : List Oper} {acc : List Ent}, PW P X ops st1 D0 I0 K (plans P ops st1 D0 acc l) → PW P X ops st1 D0 I0 K (acc, l)
  | [], acc, h => h
  | o :: l, acc, h => by
    unfold plans at h
    split at h
    · exact h
    · split at h
      · rename_i hg
        split at h
        · rename_i D hD
          split at h
          · rename_i e he
            obtain ⟨h1, h2, h3, h4⟩ := entD_good he
            refine pw_add h2 h3 h4 (.inl ⟨by rw [h4]; exact hg, D, ?_, h1⟩) (pw_go h)
            rw [h4]
            exact (exec1_runs hD).step
          · exact h
        · exact h
      · rename_i hg
        exact pw_add rfl rfl rfl (.inr ⟨hg, rfl, rfl, rfl⟩) (pw_go h)
      · exact h
/-- a call in a plan -/
theorem pw_call {c : Call} {cv : Operand} {f : FuncId} {as_ : List A} {res : V} {nb : List (Nat × B)} (n : Nat) (hsp : Sp P f as_ res nb) (hop : o.op = .call c) (hcal : c.callee = .value cv)
    (hc : callAll (stOf st1 (pick (dnOf (prods (Oper.looksAt ops o) acc)) acc)) n cv c.args.toList = some (f, as_)) (hm : modeOk (stOf st1 (pick (dnOf (prods (Oper.looksAt ops o) acc)) acc)) n cv c.args.toList res nb = true)
    (hg : guardOf (stOf st1 (pick (dnOf (prods (Oper.looksAt ops o) acc)) acc)) ops o = some true)
    (h : PW P X ops st1 D0 I0 K (plans P ops st1 D0 (acc ++ [⟨acc.length, o.dst, res, nb, [], dnOf (prods (Oper.looksAt ops o) acc)⟩]) l)) : PW P X ops st1 D0 I0 K (acc, o :: l) := by
  refine pw_add rfl rfl rfl (.inl ⟨hg, callD res nb, ?_, .inr ⟨[], nb.map (·.1), rfl, by simp, fun id hid => .inl hid⟩⟩) (pw_go h)
  unfold callAll at hc
  split at hc
  · rename_i p hp
    split at hc
    · rename_i qs hqs
      obtain ⟨g, caps⟩ := p
      simp only [Option.some.injEq, Prod.mk.injEq] at hc
      obtain ⟨rfl, rfl⟩ := hc
      refine call_step (n := n) hop hcal hp hqs hsp ?_
      unfold modeOk at hm
      rw [hp] at hm
      simp only [Bool.or_eq_true, Bool.and_eq_true, List.isEmpty_iff, List.all_eq_true] at hm
      exact hm.imp (fun h => ⟨h.2, h.1⟩) fun h => h
    · cases hc
  · cases hc
theorem rep_false (n i : Nat) : (Array.replicate n false).getD i false = false := by
  rw [Array.getD_eq_getD_getElem?, Array.getElem?_replicate]
  split <;> rfl
theorem cw_drawn {id : Nat} {l : List Oper} {Q : Exit → St → Prop} (hmix : P.follows .mixedOrders = true) (D0 I0 : List Nat) (hbk : backOk l = true)
    (h : ∀ K : St → Prop, (∀ s, Q .normal s → K s) → PW P X l.toArray (cleanSt st D0 I0) D0 I0 K ([], l)) : CW P X (.region id l.toArray true) Q st := fun ρ a w hH => by
  have key : ∀ acc, PlanOk P X l.toArray (cleanSt st D0 I0) D0 I0 acc → acc.length ≤ l.toArray.size := by
    intro acc h
    cases h with
    | nil => exact Nat.zero_le _
    | @snoc acc e o h1 h2 =>
      have := h2.op
      rw [h2.i] at this
      rw [List.length_append, List.length_singleton]
      rcases Nat.lt_or_ge acc.length l.toArray.size with h | h
      · exact h
      · rw [Array.getElem?_eq_none h] at this; cases this
  refine wp_region_any hmix ?_
  have hH' := (clean_hold (D0 := D0) (I0 := I0) hH).draw
  have h0 : ∀ acc, pick (listedL l.toArray.size (Array.replicate l.toArray.size false)) acc = [] := fun acc => by
    rw [← pick_nil acc]
    refine pick_congr fun e _ => ?_
    constructor
    · intro h
      have := (mem_listed.1 h).2
      rw [rep_false] at this
      cases this
    · intro h; cases h
  have h1 : ∀ (acc : List Ent), ∀ f ∈ acc, f.i ∈ listedL l.toArray.size (Array.replicate l.toArray.size false) → ∀ j ∈ f.dn, j ∈ listedL l.toArray.size (Array.replicate l.toArray.size false) := by
    intro acc f hf hfi
    have := (mem_listed.1 hfi).2
    rw [rep_false] at this
    cases this
  rcases h _ (fun _ h => h) .nil (by simp) with ⟨acc, hp, ht, hr⟩ | ⟨acc, F, stE, hp, hI, hF, ht, hrd, htF, hK⟩
  · refine plan_any hp.props clean_ok (by simpa using hbk) (key acc hp) ht (fun ρ a w hH => hr ρ a w hH _ fun st' ρ' _ _ hk hH' => ⟨st', ρ', hk, hH'⟩) _ _ (fun i => if i ∈ I0 then .dead else ρ i) _ _ (by simp) ?_ (fun i _ hi => by rw [List.size_toArray] at hi; simp [hi]) (h1 acc) ?_
    · refine Nat.le_trans (List.countP_le_length) ?_
      simp
    · rw [h0]
      exact hH'
  · refine plan_anyF hp.props clean_ok (by simpa using hbk) (key acc hp) hI hF ht hrd htF (fun ρ a w hH => ⟨_, ρ, hK, hH⟩) _ _ (fun i => if i ∈ I0 then .dead else ρ i) _ _ (by simp) ?_ (fun i _ hi => by rw [List.size_toArray] at hi; simp [hi]) (h1 acc) ?_
    · refine Nat.le_trans (List.countP_le_length) ?_
      simp
    · rw [h0]
      exact hH'
def dstsOf : List Oper → List Nat
  | [] => []
  | o :: l => match o.dst with
    | some d => d :: dstsOf l
    | none => dstsOf l
/-- the first m operations in whatever order; then the others -/
theorem cw_drawn_m {id : Nat} {l : List Oper} {Q : Exit → St → Prop} (m : Nat) (hmix : P.follows .mixedOrders = true) (hbk : backOk l = true)
    (h : ∀ K : St → Prop, (∀ s, Q .normal s → K s) → PW P X l.toArray (cleanSt st (dstsOf (l.take m)) (dstsOf (l.take m))) (dstsOf (l.take m)) (dstsOf (l.take m)) K (plans P l.toArray (cleanSt st (dstsOf (l.take m)) (dstsOf (l.take m))) (dstsOf (l.take m)) [] l)) : CW P X (.region id l.toArray true) Q st := cw_drawn hmix _ _ hbk fun K hK => pw_go (h K hK)
end
end Go.Proofs.Ytoghgjobfcnneaa.Ax
