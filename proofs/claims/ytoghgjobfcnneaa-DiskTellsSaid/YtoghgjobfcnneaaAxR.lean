/- Calls; regions in their order. -/
import Derived.Test.YtoghgjobfcnneaaAxV
namespace Go.Proofs.Ytoghgjobfcnneaa.Ax
open Go.RowKit
section
variable {w w' : World} {ρ ρ' : Nat → R} {P : Program} {X : Cx} {st : St} {a : Act}
/-- a value that names blocks by a numbering that goes on -/
theorem RdC.more {ok ok' : Bool → Nat → Prop} (hT : ∀ z t x, RdT w (ok z) t x → RdT w (ok' z) t x) (hρ : ∀ id, ρ id = .dead ∨ ρ' id = ρ id) {c : C} {x : Value} (h : RdC w ok ρ c x) : RdC w ok' ρ' c x := by
  refine C.rec (motive_1 := fun c => ∀ x, RdC w ok ρ c x → RdC w ok' ρ' c x) (motive_2 := fun cs => ∀ xs, RdCs w ok ρ cs xs → RdCs w ok' ρ' cs xs) ?_ ?_ ?_ ?_ ?_ ?_ ?_ ?_ ?_ c x h
  · intro z t x h; unfold RdC at h ⊢; exact hT _ _ _ h
  · intro x h; unfold RdC at h ⊢; exact h
  · intro id len x h
    unfold RdC at h ⊢
    rcases hρ id with h1 | h1
    · simp [h1] at h
    · rw [h1]; exact h
  · intro id len x h
    unfold RdC at h ⊢
    rcases hρ id with h1 | h1
    · simp [h1] at h
    · rw [h1]; exact h
  · intro id k s j x h
    unfold RdC at h ⊢
    rcases hρ id with h1 | h1
    · simp [h1] at h
    · rw [h1]; exact h
  · intro f caps ih x h
    unfold RdC at h ⊢
    obtain ⟨xs, h1, h2⟩ := h
    exact ⟨xs, h1, ih _ h2⟩
  · intro x h; unfold RdC at h ⊢; exact h
  · intro xs h
    cases xs with
    | nil => unfold RdCs; trivial
    | cons => unfold RdCs at h; exact h.elim
  · intro c cs ih1 ih2 xs h
    cases xs with
    | nil => unfold RdCs at h; exact h.elim
    | cons u xs => unfold RdCs at h ⊢; exact ⟨ih1 _ h.1, ih2 _ h.2⟩
theorem RdCs.more {ok ok' : Bool → Nat → Prop} (hT : ∀ z t x, RdT w (ok z) t x → RdT w (ok' z) t x) (hρ : ∀ id, ρ id = .dead ∨ ρ' id = ρ id) : ∀ {cs : List C} {xs : List Value}, RdCs w ok ρ cs xs → RdCs w ok' ρ' cs xs
  | [], [], _ => by unfold RdCs; trivial
  | _ :: _, _ :: _, h => by unfold RdCs at h ⊢; exact ⟨h.1.more hT hρ, RdCs.more hT hρ h.2⟩
  | [], _ :: _, h => by unfold RdCs at h; exact h.elim
  | _ :: _, [], h => by unfold RdCs at h; exact h.elim
theorem RdV.more {ok ok' : Bool → Nat → Prop} (hT : ∀ z t x, RdT w (ok z) t x → RdT w (ok' z) t x) (hρ : ∀ id, ρ id = .dead ∨ ρ' id = ρ id) {v : V} {x : Value} (h : RdV w ok ρ v x) : RdV w ok' ρ' v x := by
  refine V.rec (motive_1 := fun v => ∀ x, RdV w ok ρ v x → RdV w ok' ρ' v x) (motive_2 := fun vs => ∀ xs, RdVs w ok ρ vs xs → RdVs w ok' ρ' vs xs) ?_ ?_ ?_ ?_ ?_ ?_ v x h
  · intro c x h; unfold RdV at h ⊢; exact h.more hT hρ
  · intro cs x h
    unfold RdV at h ⊢
    obtain ⟨xs, h1, h2⟩ := h
    exact ⟨xs, h1, h2.more hT hρ⟩
  · intro vs ih x h
    unfold RdV at h ⊢
    obtain ⟨xs, h1, h2⟩ := h
    exact ⟨xs, h1, ih _ h2⟩
  · intro x _; unfold RdV; trivial
  · intro xs h
    cases xs with
    | nil => unfold RdVs; trivial
    | cons => unfold RdVs at h; exact h.elim
  · intro c cs ih1 ih2 xs h
    cases xs with
    | nil => unfold RdVs at h; exact h.elim
    | cons u xs => unfold RdVs at h ⊢; exact ⟨ih1 _ h.1, ih2 _ h.2⟩
end
/-- how a callee's numbering goes into the caller's -/
def joinR (ids : List Nat) (ρ ρc : Nat → R) (i : Nat) : R := if i ∈ ids then ρc i else ρ i
section
variable {w w' : World} {ρ ρc : Nat → R} {P : Program} {X : Cx} {st : St} {a : Act}
theorem evo_call (hH : Hold X st ρ a w) {ids : List Nat} (hb : Below w.heap.size w w') (hge : ∀ id b cap, ρc id = .lie b cap → w.heap.size ≤ b ∧ b < w'.heap.size) (hinj : ∀ i j b c d, ρc i = .lie b c → ρc j = .lie b d → i = j) :
    Evo X ρ w (joinR ids ρ ρc) w' [] ids where
  below := hb.mono hH.below.size
  heap b hlt _ := hb.block b hlt
  rho id hid := if_neg hid
  new id b cap hid h := by
    rw [joinR, if_pos hid] at h
    have := hge id b cap h
    exact ⟨Nat.le_trans hH.below.size this.1, this.2, .inl this.1⟩
  inj i j b c d hi hj := by
    unfold joinR at hi hj
    split at hi <;> split at hj
    · exact hinj i j b c d hi hj
    · have h1 := hge i b c hi
      have h2 := hH.ge j b d hj
      omega
    · have h1 := hge j b d hj
      have h2 := hH.ge i b c hi
      omega
    · exact hH.inj i j b c d hi hj
/-- memory that a callee's answer reads out of, seen by the caller -/
theorem ok_join (hH : Hold X st ρ a w) {ids : List Nat} {S : Nat → Prop} {hS : ∀ b, S b → b < w.heap.size} {z : Bool} (hz : z = true ∨ ∀ b, S b → okOf X ρ w false b) {b : Nat} (h : okOf ⟨w, S, hS, 0⟩ ρc w' z b) :
    okOf X (joinR ids ρ ρc) w' z b := by
  obtain ⟨h1, h2, h3⟩ := h
  have hnew : ∀ id b' cap, w.heap.size ≤ b → joinR ids ρ ρc id = .lie b' cap → b' ≠ b := fun id b' cap hb hid e => by
    subst e
    unfold joinR at hid
    split at hid
    · exact h3 id _ cap hid rfl
    · have := hH.ge id _ cap hid; omega
  rcases h1 with h1 | ⟨hz', h1⟩
  · exact ⟨.inl (Nat.le_trans hH.below.size h1), h2, fun id b' cap hid => hnew id b' cap h1 hid⟩
  · rcases hz with hz | hz
    · rw [hz'] at hz; cases hz
    · have h4 := hz b h1
      refine ⟨h4.1.imp id fun hh => ⟨hz', hh.2⟩, h2, fun id b' cap hid e => ?_⟩
      subst e
      unfold joinR at hid
      split at hid
      · exact h3 id _ cap hid rfl
      · exact h4.2.2 id _ cap hid rfl
end
mutual
/-- all trees of it lie in new memory -/
def C.allF : C → Bool
  | .t z _ => z
  | .fn _ caps => C.allFs caps
  | _ => true
def C.allFs : List C → Bool
  | [] => true
  | c :: cs => c.allF && C.allFs cs
end
mutual
def V.allF : V → Bool
  | .one c => c.allF
  | .agg cs => C.allFs cs
  | .tup vs => V.allFs vs
  | .junk => true
def V.allFs : List V → Bool
  | [] => true
  | v :: vs => v.allF && V.allFs vs
end
def B.allF : B → Bool
  | .arr _ _ z _ => z
  | .var _ cells => C.allFs cells
section
variable {w : World} {ok ok' : Bool → Nat → Prop} {ρ ρ' : Nat → R}
mutual
theorem RdC.moreF (hT : ∀ t x, RdT w (ok true) t x → RdT w (ok' true) t x) (hρ : ∀ id, ρ id = .dead ∨ ρ' id = ρ id) : ∀ {c : C} {x : Value}, c.allF = true → RdC w ok ρ c x → RdC w ok' ρ' c x
  | .t z t, x, hf, h => by
    simp only [C.allF] at hf
    subst hf
    unfold RdC at h ⊢; exact hT _ _ h
  | .nil, x, _, h => by unfold RdC at h ⊢; exact h
  | .own id len, x, _, h => by
    unfold RdC at h ⊢
    rcases hρ id with h1 | h1
    · simp [h1] at h
    · rw [h1]; exact h
  | .optr id len, x, _, h => by
    unfold RdC at h ⊢
    rcases hρ id with h1 | h1
    · simp [h1] at h
    · rw [h1]; exact h
  | .eptr id k s j, x, _, h => by
    unfold RdC at h ⊢
    rcases hρ id with h1 | h1
    · simp [h1] at h
    · rw [h1]; exact h
  | .fn f caps, x, hf, h => by
    simp only [C.allF] at hf
    unfold RdC at h ⊢
    obtain ⟨xs, h1, h2⟩ := h
    exact ⟨xs, h1, RdCs.moreF hT hρ hf h2⟩
  | .junk, x, _, h => by unfold RdC at h ⊢; exact h
theorem RdCs.moreF (hT : ∀ t x, RdT w (ok true) t x → RdT w (ok' true) t x) (hρ : ∀ id, ρ id = .dead ∨ ρ' id = ρ id) : ∀ {cs : List C} {xs : List Value}, C.allFs cs = true → RdCs w ok ρ cs xs → RdCs w ok' ρ' cs xs
  | [], [], _, _ => by unfold RdCs; trivial
  | _ :: _, _ :: _, hf, h => by
    simp only [C.allFs, Bool.and_eq_true] at hf
    unfold RdCs at h ⊢
    exact ⟨RdC.moreF hT hρ hf.1 h.1, RdCs.moreF hT hρ hf.2 h.2⟩
  | [], _ :: _, _, h => by unfold RdCs at h; exact h.elim
  | _ :: _, [], _, h => by unfold RdCs at h; exact h.elim
end
mutual
theorem RdV.moreF (hT : ∀ t x, RdT w (ok true) t x → RdT w (ok' true) t x) (hρ : ∀ id, ρ id = .dead ∨ ρ' id = ρ id) : ∀ {c : V} {x : Value}, c.allF = true → RdV w ok ρ c x → RdV w ok' ρ' c x
  | .one c, x, hf, h => by
    simp only [V.allF] at hf
    unfold RdV at h ⊢; exact RdC.moreF hT hρ hf h
  | .agg cs, x, hf, h => by
    simp only [V.allF] at hf
    unfold RdV at h ⊢
    obtain ⟨xs, h1, h2⟩ := h
    exact ⟨xs, h1, RdCs.moreF hT hρ hf h2⟩
  | .tup vs, x, hf, h => by
    simp only [V.allF] at hf
    unfold RdV at h ⊢
    obtain ⟨xs, h1, h2⟩ := h
    exact ⟨xs, h1, RdVs.moreF hT hρ hf h2⟩
  | .junk, x, _, _ => by unfold RdV; trivial
theorem RdVs.moreF (hT : ∀ t x, RdT w (ok true) t x → RdT w (ok' true) t x) (hρ : ∀ id, ρ id = .dead ∨ ρ' id = ρ id) : ∀ {cs : List V} {xs : List Value}, V.allFs cs = true → RdVs w ok ρ cs xs → RdVs w ok' ρ' cs xs
  | [], [], _, _ => by unfold RdVs; trivial
  | _ :: _, _ :: _, hf, h => by
    simp only [V.allFs, Bool.and_eq_true] at hf
    unfold RdVs at h ⊢
    exact ⟨RdV.moreF hT hρ hf.1 h.1, RdVs.moreF hT hρ hf.2 h.2⟩
  | [], _ :: _, _, h => by unfold RdVs at h; exact h.elim
  | _ :: _, [], _, h => by unfold RdVs at h; exact h.elim
end
end
section
variable {w w' : World} {ρ ρc : Nat → R} {P : Program} {X : Cx} {st : St} {a : Act}
theorem hasB_join (hH : Hold X st ρ a w) {ids : List Nat} {S : Nat → Prop} {hS : ∀ b, S b → b < w.heap.size} (hids : ∀ id, id ∉ ids → ρc id = .dead) {b : B} {id : Nat} (hz : b.allF = true ∨ ∀ b, S b → okOf X ρ w false b) (h : HasB ⟨w, S, hS, 0⟩ w' ρc id b) : HasB X w' (joinR ids ρ ρc) id b := by
  have hj : ∀ id, ρc id = .dead ∨ joinR ids ρ ρc id = ρc id := fun id => by
    by_cases hm : id ∈ ids
    · exact .inr (if_pos hm)
    · exact .inl (hids id hm)
  have hT : ∀ z, (z = true ∨ ∀ b, S b → okOf X ρ w false b) → ∀ t x, RdT w' (okOf ⟨w, S, hS, 0⟩ ρc w' z) t x → RdT w' (okOf X (joinR ids ρ ρc) w' z) t x := fun z hz t x hr => hr.mono fun b hb => ⟨ok_join hH hz hb, rfl⟩
  have hL : ∀ z, (z = true ∨ ∀ b, S b → okOf X ρ w false b) → ∀ t x, RdL w' (okOf ⟨w, S, hS, 0⟩ ρc w' z) t x → RdL w' (okOf X (joinR ids ρ ρc) w' z) t x := fun z hz t x hr => hr.mono fun b hb => ⟨ok_join hH hz hb, rfl⟩
  cases b with
  | arr e s z rows =>
    unfold HasB at h ⊢
    rcases hj id with h1 | h1
    · simp [h1] at h
    · rw [h1]
      cases hid : ρc id with
      | dead => simp [hid] at h
      | nil => simp only [hid] at h ⊢; exact h
      | lie g cap =>
        simp only [hid] at h ⊢
        obtain ⟨xs, h1, h2, h3⟩ := h
        refine ⟨xs, own_low h1 hH.below.size, hL z (hz.imp (fun h => by simpa [B.allF] using h) (fun h => h)) _ _ h2, h3⟩
  | var e cells =>
    unfold HasB at h ⊢
    obtain ⟨g, cap, hid, xs, h1, h2⟩ := h
    have hid' : joinR ids ρ ρc id = .lie g cap := by
      rcases hj id with h3 | h3
      · rw [h3] at hid; cases hid
      · rw [h3]; exact hid
    refine ⟨g, cap, hid', xs, h1, ?_⟩
    rcases hz with hz | hz
    · exact RdCs.moreF (hT true (.inl rfl)) hj (by simpa [B.allF] using hz) h2
    · exact h2.more (fun z => hT z (.inr hz)) hj
/-- what a call gives -/
def callD (res : V) (nb : List (Nat × B)) : Delta := .mod res [] (nb.map (·.1)) nb
theorem call_step {o : Oper} {c : Call} {cv : Operand} {f : FuncId} {qs caps : List A} {res : V} {nb : List (Nat × B)} {n : Nat} (hop : o.op = .call c) (hcal : c.callee = .value cv) (hcv : calleeV st n cv = some (f, caps)) (hqs : argsV st n c.args.toList = some qs)
    (hsp : Sp P f (qs ++ caps) res nb) (hm : freeOps st (cv :: c.args.toList) = true ∧ caps = [] ∨ res.allF = true ∧ ∀ p ∈ nb, p.2.allF = true) : Step P X st o (callD res nb) := by
  intro ρ a w hH K Q hK
  -- the callee
  have hval : ∃ xs, a.eval cv = .func (.func f) #[] xs ∧ RdAs w (fun b => b < w.heap.size) caps xs.toList := by
    unfold calleeV at hcv
    split at hcv
    · rename_i z g ts he
      simp only [Option.some.injEq, Prod.mk.injEq] at hcv
      obtain ⟨rfl, rfl⟩ := hcv
      have := ev_sound hH he
      unfold RdV RdC RdT at this
      obtain ⟨xs, h1, h2⟩ := this
      exact ⟨xs, h1, (h2.mono fun b hb => ⟨hb.2.1, rfl⟩).toA⟩
    · rename_i g cs he
      split at hcv
      · rename_i q hq
        simp only [Option.some.injEq, Prod.mk.injEq] at hcv
        obtain ⟨rfl, rfl⟩ := hcv
        have := ev_sound hH he
        unfold RdV RdC at this
        obtain ⟨xs, h1, h2⟩ := this
        exact ⟨xs, h1, ((views_rd hH hq h2).mono fun b hb => ⟨ok_all hb, rfl⟩).toA⟩
      · cases hcv
    · cases hcv
  obtain ⟨xs, hfv, hcaps⟩ := hval
  have hrun : (execOp a.eval o).run P w = .ok (.enter f ((c.args.toList.map a.eval) ++ xs.toList).toArray) w := by
    have he := hsp.enters ((c.args.toList.map a.eval) ++ xs.toList).toArray w
    simp only [execOp, hop, resolve, hcal, Deferred.ofValue, hfv, Sem.run_bind, Sem.run_pure, Result.andThen_ok, invoke]
    rw [← he]
    congr 2
    obtain ⟨xs⟩ := xs
    obtain ⟨ar⟩ : ∃ l : List Operand, c.args = l.toArray := ⟨c.args.toList, by simp⟩
    simp [*]
  -- the memory that it may read
  have key : ∃ S : Nat → Prop, ∃ hS : ∀ b, S b → b < w.heap.size, RdAs w S (qs ++ caps) (c.args.toList.map a.eval ++ xs.toList) ∧ ((∀ b, S b → okOf X ρ w false b) ∨ res.allF = true ∧ ∀ p ∈ nb, p.2.allF = true) := by
    rcases hm with ⟨h1, rfl⟩ | h1
    · unfold freeOps at h1
      rw [List.all_cons, Bool.and_eq_true] at h1
      refine ⟨okOf X ρ w false, fun b hb => hb.2.1, (argsF_rd hH h1.2 hqs).append ?_, .inl fun _ h => h⟩
      cases hx : xs.toList with
      | nil => unfold RdAs; trivial
      | cons => rw [hx] at hcaps; unfold RdAs at hcaps; exact hcaps.elim
    · exact ⟨fun b => b < w.heap.size, fun _ h => h, (argsV_rd hH hqs).append hcaps, .inr h1⟩
  obtain ⟨S, hS, hargs, hmode⟩ := key
  unfold Oper.wp
  rw [hrun, Oper.upon_enter]
  refine (hsp.calls w S hS _ hargs).mono ?_
  rintro e w' ⟨x, ρc, rfl, hb, hge, hinj, hids, hx, hnb⟩
  refine hK x (joinR (nb.map (·.1)) ρ ρc) w' ⟨evo_call hH hb hge hinj, ?_, fun id b hid => ?_⟩
  · have hj : ∀ id, ρc id = .dead ∨ joinR (nb.map (·.1)) ρ ρc id = ρc id := fun id => by
      by_cases hm : id ∈ nb.map (·.1)
      · exact .inr (if_pos hm)
      · exact .inl (hids id hm)
    rcases hmode with hmode | hmode
    · exact hx.more (fun z t x hr => hr.mono fun b hb => ⟨ok_join hH (.inr hmode) hb, rfl⟩) hj
    · exact RdV.moreF (fun t x hr => hr.mono fun b hb => ⟨ok_join hH (.inl rfl) hb, rfl⟩) hj hmode.1 hx
  · refine hasB_join hH hids ?_ (hnb id b hid)
    rcases hmode with hmode | hmode
    · exact .inr hmode
    · have : ∀ {l : List (Nat × B)} {b : B}, get id l = some b → ∃ p ∈ l, p.2 = b := by
        intro l
        induction l with
        | nil => intro b h; cases h
        | cons p l ih =>
          intro b h
          unfold get at h
          split at h
          · injection h with h; exact ⟨p, List.mem_cons_self, h⟩
          · obtain ⟨q, h1, h2⟩ := ih h; exact ⟨q, List.mem_cons_of_mem _ h1, h2⟩
      obtain ⟨p, h1, h2⟩ := this hid
      exact .inl (h2 ▸ hmode.2 p h1)
end
end Go.Proofs.Ytoghgjobfcnneaa.Ax
