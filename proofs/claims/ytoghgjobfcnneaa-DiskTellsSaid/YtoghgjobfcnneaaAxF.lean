/- Contracts of functions walked elsewhere, in the words of what is known. -/
import Derived.Test.YtoghgjobfcnneaaAxE
namespace Go.Proofs.Ytoghgjobfcnneaa.Ax
open Go.RowKit
theorem rdAs_lits {w : World} {S : Nat → Prop} : ∀ {l vs : List Value}, RdAs w S (l.map fun x => A.one (.lit x)) vs → vs = l
  | [], [], _ => rfl
  | [], _ :: _, h => by unfold RdAs at h; exact h.elim
  | _ :: _, [], h => by unfold RdAs at h; exact h.elim
  | x :: l, v :: vs, h => by
    rw [List.map_cons] at h
    unfold RdAs RdA RdT at h
    rw [h.1.1, rdAs_lits h.2]
/-- plain arguments, a plain result -/
theorem sp_lit {P : Program} {f : FuncId} (hen : Enters P f) (l : List Value) (v : Value) (hv : v.oneCell' = true) (h : ∀ w, Calls P f l.toArray w fun e w' => e = .returned v ∧ Below w.heap.size w w') : Sp P f (l.map fun x => .one (.lit x)) (.one (.t true (.lit v))) [] where
  enters := hen
  calls w S hS vs hvs := by
    rw [rdAs_lits hvs]
    refine (h w).mono fun e w' => ?_
    rintro ⟨rfl, hb⟩
    refine ⟨v, deadR, rfl, hb, (by intro _ _ _ h; cases h), (by intro _ _ _ _ _ h; cases h), fun _ _ => rfl, ?_, (by intro _ _ h; cases h)⟩
    unfold RdV RdC RdT
    exact ⟨rfl, hv⟩
theorem rdL_lits {w : World} {ok : Nat → Prop} : ∀ {l : List Value}, (∀ v ∈ l, v.oneCell' = true) → RdL w ok (l.map T.lit) l
  | [], _ => by unfold RdL; trivial
  | v :: l, h => by
    rw [List.map_cons]
    unfold RdL RdT
    exact ⟨⟨rfl, h v List.mem_cons_self⟩, rdL_lits fun u hu => h u (List.mem_cons_of_mem _ hu)⟩
/-- a row of its own, of plain cells, that is handed over -/
theorem post_row {w w' : World} {S : Nat → Prop} {hS : ∀ b, S b → b < w.heap.size} {e : TypeId} {size n : Nat} {v : Value} (id : Nat) (rows : List (List Value)) (hn : rows.length = n) (ho : w'.ownsRow w.heap.size e size v n rows.flatten) (hr : ∀ r ∈ rows, r.length = size) (hl : ∀ x ∈ rows.flatten, x.oneCell' = true) (hb : Below w.heap.size w w') :
    Post w S hS (.one (.own id n)) [(id, .arr e size true (rows.map fun r => r.map T.lit))] (.returned v) w' := by
  subst hn
  have hfl : (rows.map fun r => r.map T.lit).flatten = rows.flatten.map T.lit := by rw [← List.map_flatten]
  rcases ho.2 with ⟨rfl, h0⟩ | ⟨g, cap, cur, rfl, hge, hh, hnc, hcm, hcs, ht⟩
  · obtain rfl : rows = [] := List.length_eq_zero_iff.1 h0
    refine ⟨_, fun i => if i = id then .nil else .dead, rfl, hb, fun i b c h => ?_, fun i j b c d h => ?_, fun i hi => ?_, ?_, fun i b h => ?_⟩
    · simp only at h; split at h <;> cases h
    · simp only at h; split at h <;> cases h
    · exact if_neg (by simpa using hi)
    · unfold RdV RdC
      simp only [if_true]
      exact ⟨rfl, _, rfl⟩
    · unfold get at h
      split at h
      · rename_i hi
        subst hi
        injection h with h
        subst h
        unfold HasB
        simp
      · cases h
  · refine ⟨_, fun i => if i = id then .lie g cap else .dead, rfl, hb, fun i b c h => ?_, fun i j b c d h1 h2 => ?_, fun i hi => ?_, ?_, fun i b h => ?_⟩
    · simp only at h
      split at h
      · cases h
        refine ⟨hge, ?_⟩
        obtain ⟨hlt, _⟩ := Array.getElem?_eq_some_iff.1 hh
        exact hlt
      · cases h
    · simp only at h1 h2
      split at h1
      · split at h2
        · rename_i e1 e2; rw [e1, e2]
        · cases h2
      · cases h1
    · exact if_neg (by simpa using hi)
    · unfold RdV RdC
      simp only [if_true]
    · unfold get at h
      split at h
      · rename_i hi
        subst hi
        injection h with h
        subst h
        unfold HasB
        simp only [if_true]
        refine ⟨rows.flatten, ?_, ?_, ?_⟩
        · rw [List.length_map]
          exact ⟨ho.1, .inr ⟨g, cap, cur, rfl, hge, hh, hnc, hcm, hcs, ht⟩⟩
        · rw [hfl]; exact rdL_lits hl
        · intro r hr'
          obtain ⟨r0, h0, rfl⟩ := List.mem_map.1 hr'
          rw [List.length_map]; exact hr r0 h0
      · cases h
theorem RdCs.set {w : World} {ok : Bool → Nat → Prop} {ρ : Nat → R} {c c' : C} (h : ∀ x, RdC w ok ρ c x → RdC w ok ρ c' x) : ∀ {cs : List C} {xs : List Value} {j : Nat}, RdCs w ok ρ cs xs → cs[j]? = some c → RdCs w ok ρ (cs.set j c') xs
  | [], _, _, _, hj => by simp at hj
  | _ :: _, [], _, hr, _ => by unfold RdCs at hr; exact hr.elim
  | d :: cs, x :: xs, 0, hr, hj => by
    unfold RdCs at hr
    simp only [List.getElem?_cons_zero, Option.some.injEq] at hj
    subst hj
    rw [List.set_cons_zero]
    unfold RdCs
    exact ⟨h x hr.1, hr.2⟩
  | d :: cs, x :: xs, j + 1, hr, hj => by
    unfold RdCs at hr
    rw [List.set_cons_succ]
    unfold RdCs
    exact ⟨hr.1, RdCs.set h hr.2 (by simpa using hj)⟩
def growB (st : St) (b : Nat) (e0 : TypeId) (cells : List C) (j id : Nat) (e : TypeId) (size : Nat) : St := ⟨(st.turn [id] [id] []).sl, (id, .arr e size true []) :: (b, .var e0 (cells.set j (.own id 0))) :: (st.turn [id] [id] []).bl⟩
/-- a field that holds a slice of no length becomes a row of the call's own -/
theorem cw_growb {P : Program} {X : Cx} {st : St} {c : Code} {Q : Exit → St → Prop} (b j id : Nat) (e : TypeId) (size : Nat) {e0 : TypeId} {cells : List C} (hb : get b (st.turn [id] [id] []).bl = some (.var e0 cells)) (hj : cells[j]? = some .nil) (h : CW P X c Q (growB st b e0 cells j id e size)) : CW P X c Q st := fun ρ a w hH => by
  refine h (updR ρ id .nil) a w ?_
  have he : Evo X ρ w (updR ρ id .nil) w [id] [id] := ⟨Below.refl _ _, fun _ _ _ => rfl, fun i hi => updR_ne (by simpa using hi), (fun i b cap hi hr => by
    simp only [List.mem_singleton] at hi
    subst hi
    rw [updR_same] at hr; cases hr), fun i j b c d hi hj => by
    unfold updR at hi hj
    split at hi
    · cases hi
    · split at hj
      · cases hj
      · exact hH.inj i j b c d hi hj⟩
  have hT := hH.turn he (nb := []) (by intro id b h; cases h)
  refine ⟨hT.defers, hT.size, hT.below, hT.ge, hT.inj, hT.slots, fun id' b' hb' => ?_⟩
  simp only [growB, get] at hb'
  split at hb'
  · rename_i hid
    subst hid
    injection hb' with hb'
    subst hb'
    unfold HasB
    rw [updR_same]
  · split at hb'
    · rename_i hid
      subst hid
      injection hb' with hb'
      subst hb'
      have := hT.blocks _ _ hb
      unfold HasB at this ⊢
      obtain ⟨g, cap, h1, xs, h2, h3⟩ := this
      refine ⟨g, cap, h1, xs, h2, RdCs.set (fun x hx => ?_) h3 hj⟩
      unfold RdC at hx ⊢
      rw [updR_same]
      exact ⟨rfl, hx⟩
    · exact hT.blocks id' b' hb'
/-- a slice of no length, read as a tree -/
def C.flat : C → C
  | .nil => .t false (.sl [])
  | .t _ x => .t x.isLit x
  | .own i n => .own i n
  | .optr i o => .optr i o
  | .eptr i k s j => .eptr i k s j
  | .fn f caps => .fn f caps
  | .junk => .junk
def V.flat : V → V
  | .one c => .one c.flat
  | .agg cs => .agg (cs.map C.flat)
  | .tup vs => .tup vs
  | .junk => .junk
def B.flat : B → B
  | .arr e s z rows => .arr e s z rows
  | .var e cells => .var e (cells.map C.flat)
def flatL : List (Nat × V) → List (Nat × V)
  | [] => []
  | p :: l => (p.1, p.2.flat) :: flatL l
def flatB : List (Nat × B) → List (Nat × B)
  | [] => []
  | p :: l => (p.1, p.2.flat) :: flatB l
def St.flat (st : St) : St := ⟨flatL st.sl, flatB st.bl⟩
section
variable {w : World} {ok : Bool → Nat → Prop} {ρ : Nat → R}
theorem RdC.flat (hok : ∀ b, ok true b → ok false b) {c : C} {x : Value} (h : RdC w ok ρ c x) : RdC w ok ρ c.flat x := by
  cases c with
  | t z u =>
    unfold C.flat
    unfold RdC at h ⊢
    cases u with
    | lit v => unfold RdT at h ⊢; exact h
    | sl _ | ptr _ | fn _ _ =>
      simp only [T.isLit]
      cases z with
      | false => exact h
      | true => exact h.mono fun b hb => ⟨hok b hb, rfl⟩
  | nil =>
    unfold C.flat
    unfold RdC at h ⊢
    unfold RdT
    obtain ⟨A, hA⟩ := h
    exact ⟨A, 0, 0, hA, rfl, Nat.le_refl _, .inl rfl⟩
  | _ => exact h
theorem RdCs.flat (hok : ∀ b, ok true b → ok false b) : ∀ {cs : List C} {xs : List Value}, RdCs w ok ρ cs xs → RdCs w ok ρ (cs.map C.flat) xs
  | [], xs, h => h
  | c :: cs, [], h => by unfold RdCs at h; exact h.elim
  | c :: cs, x :: xs, h => by
    rw [List.map_cons]
    unfold RdCs at h ⊢
    exact ⟨h.1.flat hok, RdCs.flat hok h.2⟩
theorem RdV.flat (hok : ∀ b, ok true b → ok false b) {v : V} {x : Value} (h : RdV w ok ρ v x) : RdV w ok ρ v.flat x := by
  cases v with
  | one c => unfold V.flat; unfold RdV at h ⊢; exact h.flat hok
  | agg cs =>
    unfold V.flat
    unfold RdV at h ⊢
    obtain ⟨xs, h1, h2⟩ := h
    exact ⟨xs, h1, h2.flat hok⟩
  | tup vs => exact h
  | junk => exact h
theorem get_flatL {t : Nat} {v : V} : ∀ {l : List (Nat × V)}, get t (flatL l) = some v → ∃ u, get t l = some u ∧ v = u.flat
  | [], h => by cases h
  | p :: l, h => by
    obtain ⟨k, u⟩ := p
    unfold flatL get at h
    unfold get
    split at h
    · rename_i hk
      rw [if_pos hk]
      injection h with h
      exact ⟨_, rfl, h.symm⟩
    · rename_i hk
      rw [if_neg hk]
      exact get_flatL h
theorem get_flatB {t : Nat} {v : B} : ∀ {l : List (Nat × B)}, get t (flatB l) = some v → ∃ u, get t l = some u ∧ v = u.flat
  | [], h => by cases h
  | p :: l, h => by
    obtain ⟨k, u⟩ := p
    unfold flatB get at h
    unfold get
    split at h
    · rename_i hk
      rw [if_pos hk]
      injection h with h
      exact ⟨_, rfl, h.symm⟩
    · rename_i hk
      rw [if_neg hk]
      exact get_flatB h
end
theorem Hold.flat {X : Cx} {st : St} {ρ : Nat → R} {a : Act} {w : World} (h : Hold X st ρ a w) : Hold X st.flat ρ a w := by
  refine ⟨h.defers, h.size, h.below, h.ge, h.inj, fun t v hv => ?_, fun id b hb => ?_⟩
  · obtain ⟨u, h1, rfl⟩ := get_flatL hv
    obtain ⟨x, h2, h3⟩ := h.slots _ _ h1
    exact ⟨x, h2, h3.flat okOf_tf⟩
  · obtain ⟨u, h1, rfl⟩ := get_flatB hb
    have h2 := h.blocks _ _ h1
    cases u with
    | arr e s z rows => exact h2
    | var e cells =>
      unfold B.flat
      unfold HasB at h2 ⊢
      obtain ⟨b, cap, g1, xs, g2, g3⟩ := h2
      exact ⟨b, cap, g1, xs, g2, g3.flat okOf_tf⟩
/-- ways that meet -/
theorem cw_join {P : Program} {X : Cx} {st : St} {Q : Exit → St → Prop} {x y : Code} (sM : St) (h1 : CW P X x (thenX (fun s => sM.le s.flat) Q) st) (h2 : CW P X y Q sM) : CW P X (.seq x y) Q st :=
  cw_seq' fun ρ a w hH => wp_mono (h1 ρ a w hH) fun e a' w' ⟨s, ρ', hq, hH'⟩ => by
    cases e with
    | normal => exact ⟨s, ρ', fun ρ a w h => h2 ρ a w (h.flat.le hq), hH'⟩
    | _ => exact ⟨s, ρ', hq, hH'⟩
/-- the same, slices of no length left as they are -/
theorem cw_joinn {P : Program} {X : Cx} {st : St} {Q : Exit → St → Prop} {x y : Code} (sM : St) (h1 : CW P X x (thenX (fun s => sM.le s) Q) st) (h2 : CW P X y Q sM) : CW P X (.seq x y) Q st :=
  cw_seq' fun ρ a w hH => wp_mono (h1 ρ a w hH) fun e a' w' ⟨s, ρ', hq, hH'⟩ => by
    cases e with
    | normal => exact ⟨s, ρ', fun ρ a w h => h2 ρ a w (h.le hq), hH'⟩
    | _ => exact ⟨s, ρ', hq, hH'⟩
/-- ways that meet behind an 'if', whose test is reckoned by now -/
theorem cw_meet {P : Program} {X : Cx} {st : St} {Q : Exit → St → Prop} {c y : Code} (sM : St) (h1 : CW P X c (thenX (fun s => sM.le s.flat) Q) st) (h2 : CW P X y Q sM) : CW P X c (thenX (fun s => CW P X y Q s) Q) st := fun ρ a w hH =>
  wp_mono (h1 ρ a w hH) fun e a' w' ⟨s, ρ', hq, hH'⟩ => by
    cases e with
    | normal => exact ⟨s, ρ', fun ρ a w h => h2 ρ a w (h.flat.le hq), hH'⟩
    | _ => exact ⟨s, ρ', hq, hH'⟩
/-- the same ahead of the test -/
theorem cw_meet2 {P : Program} {X : Cx} {st : St} {Q : Exit → St → Prop} {c c2 y : Code} (sM : St) (h1 : CW P X c (thenX (fun s => CW P X c2 (thenX (fun s => sM.le s.flat) Q) s) Q) st) (h2 : CW P X y Q sM) : CW P X c (thenX (fun s => CW P X c2 (thenX (fun s => CW P X y Q s) Q) s) (thenX (fun s => CW P X y Q s) Q)) st := fun ρ a w hH =>
  wp_mono (h1 ρ a w hH) fun e a' w' ⟨s, ρ', hq, hH'⟩ => by
    cases e with
    | normal => exact ⟨s, ρ', cw_meet sM hq h2, hH'⟩
    | _ => exact ⟨s, ρ', hq, hH'⟩
/-- go on -/
theorem rwr_run {P : Program} {X : Cx} {ops : Array Oper} {K : St → Prop} {l : List Oper} {st : St} (h : RWr P X ops K (runs P X.n ops l st)) : RWr P X ops K (l, st) := rw_go h
end Go.Proofs.Ytoghgjobfcnneaa.Ax
