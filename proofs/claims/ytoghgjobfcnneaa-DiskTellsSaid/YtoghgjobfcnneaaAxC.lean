/- Regions, code and functions, by what is known. -/
import Derived.Test.YtoghgjobfcnneaaAxR
import Derived.Test.YtoghgjobfcnneaaAxO4
namespace Go.Proofs.Ytoghgjobfcnneaa.Ax
open Go.RowKit
def St.app (st : St) (D : Delta) (dst : Option Tmp) : St :=
  match D with
  | .pure v => st.put dst v
  | .mod v [] [] [] => st.put dst v
  | .mod v ch kl nb => (st.turn ch kl nb).put dst v
section
variable {w w' : World} {ρ ρ' : Nat → R} {P : Program} {X : Cx} {st : St} {a : Act} {x : Value} {D : Delta}
theorem Hold.app (h : Hold X st ρ a w) (ho : Out X ρ w ρ' w' x D) {dst : Option Tmp} (hd : ∀ d, dst = some d → d < X.n) : Hold X (st.app D dst) ρ' (a.put dst x) w' := by
  cases D with
  | pure v =>
    obtain ⟨rfl, rfl, h3⟩ := ho
    exact h.put hd h3
  | mod v ch kl nb =>
    obtain ⟨h1, h2, h3⟩ := ho
    unfold St.app
    split
    · rename_i v' he; cases he
    · rename_i v' he
      cases he
      have hρ : ρ' = ρ := funext fun id => h1.rho id (by simp)
      subst hρ
      exact (h.evo h1).put hd h2
    · rename_i v' ch' kl' nb' _ he
      cases he
      exact (h.turn h1 h3).put hd h2
end
def eqB (b : Bool) : Bool → Bool
  | true => b
  | false => !b
theorem eqB_eq (b c : Bool) : eqB b c = (b == c) := by cases b <;> cases c <;> rfl
theorem cast0 : ((0 : Nat) : Int) = 0 := rfl
theorem nn (k : Nat) : (0 ≤ (k : Int)) = True := eq_true (by omega)
/-- is an operation wanted? -/
def guardOf (st : St) (ops : Array Oper) (o : Oper) : Option Bool :=
  match o.guard with
  | none => some true
  | some (j, want) => match ops[j]? with
    | some oj => match oj.dst with
      | some t => match get t st.sl with
        | some (.one (.t _ (.lit (.bool b)))) => some (eqB b want)
        | some (.tup []) => some false
        | _ => none
      | none => none
    | none => none
def exec1 (P : Program) (st : St) (o : Oper) : Option Delta :=
  match pureV P st o.op with
  | some v => some (.pure v)
  | none => match modD P st o.dst o.op with
    | some D => some D
    | none => match rowD P st o.dst o.op with
      | some D => some D
      | none => match setD P st o.op with
        | some D => some D
        | none => match moreV P st o.op with
          | some v => some (.pure v)
          | none => none
def dstOk (n : Nat) : Option Tmp → Bool
  | some d => decide (d < n)
  | none => true
/-- the rest of a region: ops, from o on, lead to K -/
def RW (P : Program) (X : Cx) (ops : Array Oper) (l : List Oper) (K : St → Prop) (st : St) : Prop :=
  ∀ ρ a w, Hold X st ρ a w → ∀ Q : Exit → Act → World → Prop, (∀ st' ρ' a' w', K st' → Hold X st' ρ' a' w' → Q .normal a' w') → wpList P ops Q l a w
section
variable {P : Program} {X : Cx} {st : St} {ops : Array Oper} {l : List Oper} {o : Oper} {K : St → Prop} {D : Delta}
theorem guard_sound {ρ : Nat → R} {a : Act} {w : World} (h : Hold X st ρ a w) {b : Bool} (hg : guardOf st ops o = some b) : Region.wanted o (yielded ops a.tmps) = b := by
  unfold guardOf at hg
  unfold Region.wanted
  split at hg
  · rename_i hn
    injection hg with hg
    subst hg
    simp [hn]
  · rename_i j want hn
    split at hg
    · rename_i oj hj
      split at hg
      · rename_i t ht
        split at hg
        · rename_i z b' hb
          injection hg with hg
          subst hg
          obtain ⟨x, h1, h2⟩ := h.slots _ _ hb
          unfold RdV RdC RdT at h2
          obtain ⟨rfl, _⟩ := h2
          simp [hn, yielded, hj, ht, h1, eqB_eq]
        · rename_i hb
          injection hg with hg
          subst hg
          obtain ⟨x, h1, h2⟩ := h.slots _ _ hb
          unfold RdV at h2
          obtain ⟨xs, rfl, _⟩ := h2
          simp [hn, yielded, hj, ht, h1]
        · cases hg
      · cases hg
    · cases hg
theorem rw_nil (h : K st) : RW P X ops [] K st := fun ρ a w hH _ hQ => hQ st ρ a w h hH
theorem dst_lt {n : Nat} {dst : Option Tmp} (h : dstOk n dst = true) : ∀ d, dst = some d → d < n := fun d hd => by
  subst hd
  simpa [dstOk] using h
theorem rw_step (hs : Step P X st o D) (hg : guardOf st ops o = some true) (hd : dstOk X.n o.dst = true) (h : RW P X ops l K (st.app D o.dst)) : RW P X ops (o :: l) K st := fun ρ a w hH Q hQ => by
  unfold wpList
  rw [guard_sound hH hg, if_pos rfl]
  refine .inl (hs ρ a w hH _ _ fun x ρ' w' ho => ?_)
  exact h ρ' _ w' (hH.app ho (dst_lt hd)) Q hQ
theorem rw_skip (hg : guardOf st ops o = some false) (hd : dstOk X.n o.dst = true) (h : RW P X ops l K (st.put o.dst (.tup []))) : RW P X ops (o :: l) K st := fun ρ a w hH Q hQ => by
  unfold wpList
  rw [guard_sound hH hg, if_neg (by simp)]
  exact h ρ _ w (hH.put (dst_lt hd) (by unfold RdV; exact ⟨#[], rfl, by unfold RdVs; trivial⟩)) Q hQ
theorem rw_le {s : St} (hs : s.le st) (h : RW P X ops l K s) : RW P X ops l K st := fun ρ a w hH => h ρ a w (hH.le hs)
theorem exec1_runs (h : exec1 P st o = some D) : Runs P X st o D := by
  unfold exec1 at h
  split at h
  · rename_i v hv
    injection h with h
    subst h
    exact pure_runs hv
  · split at h
    · rename_i D' hD
      injection h with h
      subst h
      exact mod_runs hD
    · split at h
      · rename_i D' hD
        injection h with h
        subst h
        exact row_runs hD
      · split at h
        · rename_i D' hD
          injection h with h
          subst h
          exact set_runs hD
        · split at h
          · rename_i v hv
            injection h with h
            subst h
            exact more_runs hv
          · cases h
/-- as far as operations go by themselves -/
def runs (P : Program) (n : Nat) (ops : Array Oper) : List Oper → St → List Oper × St
  | [], st => ([], st)
  | o :: l, st => match dstOk n o.dst with
    | false => (o :: l, st)
    | true => match guardOf st ops o with
      | some true => match exec1 P st o with
        | some D => runs P n ops l (st.app D o.dst)
        | none => (o :: l, st)
      | some false => runs P n ops l (st.put o.dst (.tup []))
      | none => (o :: l, st)
theorem rw_runs : ∀ {l l' : List Oper} {st st' : St}, runs P X.n ops l st = (l', st') → RW P X ops l' K st' → RW P X ops l K st
  | [], l', st, st', h, hr => by
    simp only [runs, Prod.mk.injEq] at h
    obtain ⟨rfl, rfl⟩ := h
    exact hr
  | o :: l, l', st, st', h, hr => by
    unfold runs at h
    split at h
    · obtain ⟨rfl, rfl⟩ := Prod.mk.inj h
      exact hr
    · rename_i hd
      split at h
      · rename_i hg
        split at h
        · rename_i D hD
          exact rw_step (exec1_runs hD).step hg hd (rw_runs h hr)
        · obtain ⟨rfl, rfl⟩ := Prod.mk.inj h
          exact hr
      · rename_i hg
        exact rw_skip hg hd (rw_runs h hr)
      · obtain ⟨rfl, rfl⟩ := Prod.mk.inj h
        exact hr
end
def RWr (P : Program) (X : Cx) (ops : Array Oper) (K : St → Prop) (r : List Oper × St) : Prop := RW P X ops r.1 K r.2
theorem rw_go {P : Program} {X : Cx} {ops : Array Oper} {l : List Oper} {K : St → Prop} {st : St} (h : RWr P X ops K (runs P X.n ops l st)) : RW P X ops l K st := rw_runs (l' := (runs P X.n ops l st).1) (st' := (runs P X.n ops l st).2) rfl h
theorem rwr_nil {P : Program} {X : Cx} {ops : Array Oper} {K : St → Prop} {st : St} (h : K st) : RWr P X ops K ([], st) := rw_nil h
/-- a call met in a region -/
def callAll (st : St) (n : Nat) (cv : Operand) (xs : List Operand) : Option (FuncId × List A) :=
  match calleeV st n cv with
  | some p => match argsV st n xs with
    | some qs => some (p.1, qs ++ p.2)
    | none => none
  | none => none
def modeOk (st : St) (n : Nat) (cv : Operand) (xs : List Operand) (res : V) (nb : List (Nat × B)) : Bool :=
  (match calleeV st n cv with
    | some p => p.2.isEmpty && freeOps st (cv :: xs)
    | none => false) || (res.allF && nb.all fun p => p.2.allF)
theorem rwr_call {P : Program} {X : Cx} {ops : Array Oper} {K : St → Prop} {st : St} {o : Oper} {l : List Oper} {c : Call} {cv : Operand} {f : FuncId} {as_ : List A} {res : V} {nb : List (Nat × B)} (n : Nat) (hsp : Sp P f as_ res nb) (hop : o.op = .call c) (hcal : c.callee = .value cv)
    (hc : callAll st n cv c.args.toList = some (f, as_)) (hm : modeOk st n cv c.args.toList res nb = true) (hg : guardOf st ops o = some true) (hd : dstOk X.n o.dst = true) (h : RWr P X ops K (runs P X.n ops l (st.app (callD res nb) o.dst))) : RWr P X ops K (o :: l, st) := by
  unfold callAll at hc
  split at hc
  · rename_i p hp
    split at hc
    · rename_i qs hqs
      obtain ⟨g, caps⟩ := p
      simp only [Option.some.injEq, Prod.mk.injEq] at hc
      obtain ⟨rfl, rfl⟩ := hc
      refine rw_step (call_step (n := n) hop hcal hp hqs hsp ?_) hg hd (rw_go h)
      unfold modeOk at hm
      rw [hp] at hm
      simp only [Bool.or_eq_true, Bool.and_eq_true, List.isEmpty_iff, List.all_eq_true] at hm
      exact hm.imp (fun h => ⟨h.2, h.1⟩) fun h => h
    · cases hc
  · cases hc
/-- code: every way out leads to Q -/
def CW (P : Program) (X : Cx) (c : Code) (Q : Exit → St → Prop) (st : St) : Prop :=
  ∀ ρ a w, Hold X st ρ a w → c.wp P (fun e a' w' => ∃ st' ρ', Q e st' ∧ Hold X st' ρ' a' w') a w
def thenX (K : St → Prop) (Q : Exit → St → Prop) : Exit → St → Prop
  | .normal, st => K st
  | e, st => Q e st
def inBlk (id : Nat) (Q : Exit → St → Prop) : Exit → St → Prop
  | .exit i, st => if i = id then Q .normal st else Q (.exit i) st
  | e, st => Q e st
section
variable {P : Program} {X : Cx} {st : St} {Q : Exit → St → Prop} {c x y : Code}
theorem cw_seq (h : ∀ K : St → Prop, (∀ s, CW P X y Q s → K s) → CW P X x (thenX K Q) st) : CW P X (.seq x y) Q st := fun ρ a w hH => by
  refine wp_seq (wp_mono (h (CW P X y Q) (fun _ h => h) ρ a w hH) fun e a' w' ⟨st', ρ', hq, hH'⟩ => ?_)
  cases e <;> first
    | exact hq ρ' a' w' hH'
    | exact ⟨st', ρ', hq, hH'⟩
theorem cw_block {id : Nat} (h : CW P X c (inBlk id Q) st) : CW P X (.block id c) Q st := fun ρ a w hH => by
  refine wp_block (wp_mono (h ρ a w hH) fun e a' w' ⟨st', ρ', hq, hH'⟩ => ?_)
  cases e with
  | exit i =>
    simp only [inBlk] at hq
    simp only [Exit.inBlock]
    split at hq
    · rename_i hi; rw [if_pos hi]; exact ⟨st', ρ', hq, hH'⟩
    · rename_i hi; rw [if_neg hi]; exact ⟨st', ρ', hq, hH'⟩
  | _ => exact ⟨st', ρ', hq, hH'⟩
theorem cw_cond {o : Operand} {b z : Bool} (ho : ev st o = some (.one (.t z (.lit (.bool b))))) (h1 : b = true → CW P X x Q st) (h2 : b = false → CW P X y Q st) : CW P X (.cond o x y) Q st := fun ρ a w hH => by
  have := ev_sound hH ho
  unfold RdV RdC RdT at this
  exact wp_cond_split this.1 (fun h => h1 h ρ a w hH) (fun h => h2 h ρ a w hH)
theorem cw_ret (h : Q .ret st) : CW P X .ret Q st := fun ρ _ _ hH => wp_ret ⟨st, ρ, h, hH⟩
theorem cw_exit {id : Nat} (h : Q (.exit id) st) : CW P X (.exit id) Q st := fun ρ _ _ hH => wp_exit ⟨st, ρ, h, hH⟩
theorem cw_skip (h : Q .normal st) : CW P X .skip Q st := fun ρ _ _ hH => wp_skip ⟨st, ρ, h, hH⟩
theorem cw_region {id : Nat} {l : List Oper} (h : RW P X l.toArray l (fun s => Q .normal s) st) : CW P X (.region id l.toArray false) Q st := fun ρ a w hH =>
  wp_region_lit (h ρ a w hH _ fun st' ρ' _ _ hk hH' => ⟨st', ρ', hk, hH'⟩)
theorem cw_le {s : St} (hs : s.le st) (h : CW P X c Q s) : CW P X c Q st := fun ρ a w hH => h ρ a w (hH.le hs)
theorem cw_loop (I : Nat → St → Prop) (n0 : Nat) (h0 : ∃ s, I n0 s ∧ s.le st) (hr : ∀ n s, I n s → CW P X c (thenX (fun s' => ∃ m, m < n ∧ ∃ s2, I m s2 ∧ s2.le s') Q) s) : CW P X (.loop c) Q st := fun ρ a w hH => by
  refine wp_loop_ghost (fun n a w => ∃ s ρ, I n s ∧ Hold X s ρ a w) n0 ?_ ?_
  · obtain ⟨s, h1, h2⟩ := h0
    exact ⟨s, ρ, h1, hH.le h2⟩
  · rintro n a' w' ⟨s, ρ', hI, hH'⟩
    refine wp_mono (hr n s hI ρ' a' w' hH') fun e a2 w2 ⟨s', ρ2, hq, hH2⟩ => ?_
    cases e with
    | normal =>
      obtain ⟨m, h1, s2, h2, h3⟩ := hq
      exact ⟨m, h1, s2, ρ2, h2, hH2.le h3⟩
    | _ => exact ⟨s', ρ2, hq, hH2⟩
end
section
variable {P : Program} {X : Cx} {st : St} {K : St → Prop} {Q : Exit → St → Prop} {c x y : Code} {id i : Nat}
theorem cw_seq' (h : CW P X x (thenX (fun s => CW P X y Q s) Q) st) : CW P X (.seq x y) Q st := cw_seq fun K hK ρ a w hH => wp_mono (h ρ a w hH) fun e a' w' ⟨s, ρ', hq, hH'⟩ => ⟨s, ρ', (by cases e <;> first | exact hK _ hq | exact hq), hH'⟩
theorem cw_region_k {l : List Oper} (h : ∀ K : St → Prop, (∀ s, Q .normal s → K s) → RWr P X l.toArray K (runs P X.n l.toArray l st)) : CW P X (.region id l.toArray false) Q st := cw_region (rw_go (h _ fun _ h => h))
theorem then_mk (h : K st) : thenX K Q .normal st := h
theorem then_exit (h : Q (.exit i) st) : thenX K Q (.exit i) st := h
theorem then_ret (h : Q .ret st) : thenX K Q .ret st := h
theorem blk_mk (h : Q .normal st) : inBlk id Q .normal st := h
theorem blk_ret (h : Q .ret st) : inBlk id Q .ret st := h
theorem blk_same (h : Q .normal st) : inBlk id Q (.exit id) st := by show (if id = id then Q .normal st else Q (.exit id) st); rw [if_pos rfl]; exact h
theorem blk_ne (hn : i ≠ id) (h : Q (.exit i) st) : inBlk id Q (.exit i) st := by show (if i = id then Q .normal st else Q (.exit i) st); rw [if_neg hn]; exact h
theorem cw_true {o : Operand} {z : Bool} (ho : ev st o = some (.one (.t z (.lit (.bool true))))) (h : CW P X x Q st) : CW P X (.cond o x y) Q st := cw_cond ho (fun _ => h) (fun h => by cases h)
theorem cw_false {o : Operand} {z : Bool} (ho : ev st o = some (.one (.t z (.lit (.bool false))))) (h : CW P X y Q st) : CW P X (.cond o x y) Q st := cw_cond ho (fun h => by cases h) (fun _ => h)
def leL {α : Type} : List (Nat × α) → List (Nat × α) → Prop
  | [], _ => True
  | p :: l, big => get p.1 big = some p.2 ∧ leL l big
theorem leL_get {α : Type} {t : Nat} {v : α} : ∀ {l big : List (Nat × α)}, leL l big → get t l = some v → get t big = some v
  | [], _, _, h => by cases h
  | (k, u) :: l, big, hl, h => by
    unfold leL at hl
    unfold get at h
    split at h
    · rename_i hk
      subst hk
      injection h with h
      rw [← h]; exact hl.1
    · exact leL_get hl.2 h
theorem le_mk {s : St} (h1 : leL s.sl st.sl) (h2 : leL s.bl st.bl) : s.le st := ⟨fun _ _ => leL_get h1, fun _ _ => leL_get h2⟩
end
/-- what a function answers, out of what is known at its end -/
def resC (P : Program) (st : St) : ResultVar → Option V
  | .tmp t => get t st.sl
  | .cell p t => match get p st.sl with
    | some (.one c) => match tyOf P t with
      | some y => loadC st y c
      | none => none
    | _ => none
def resL (P : Program) (st : St) : List ResultVar → Option (List V)
  | [] => some []
  | r :: rs => match resC P st r with
    | some v => match resL P st rs with
      | some vs => some (v :: vs)
      | none => none
    | none => none
def resV (P : Program) (st : St) (rs : List ResultVar) : Option V :=
  match resL P st rs with
  | some [v] => some v
  | some vs => some (.tup vs)
  | none => none
section
variable {P : Program} {X : Cx} {st : St} {ρ : Nat → R} {a : Act} {w : World} {fn : Func}
def resOne (tmps : Array Value) : ResultVar → Sem Value
  | .tmp t => pure (tmps.getD t undef)
  | .cell p t => do loadVar t (← asAddr (tmps.getD p undef))
theorem results_eq (fn : Func) (tmps : Array Value) : results fn tmps = (do let vs ← fn.results.mapM (resOne tmps); pure (if h : vs.size = 1 then vs[0] else .tuple vs)) := by
  unfold results
  congr 2
theorem RdC.addr {ok : Bool → Nat → Prop} {y : Ty} {c : C} {v : V} {x : Value} (h : loadC st y c = some v) (hx : RdC w ok ρ c x) : ∃ p, x = .pointer (some p) := by
  unfold loadC at h
  split at h
  · unfold RdC at hx
    split at hx
    · exact ⟨_, hx⟩
    · exact hx.elim
  · unfold RdC at hx
    split at hx
    · exact ⟨_, hx⟩
    · exact hx.elim
  · unfold RdC RdT at hx
    obtain ⟨b, o, rfl, _⟩ := hx
    exact ⟨_, rfl⟩
  · cases h
theorem resC_sound (hH : Hold X st ρ a w) {r : ResultVar} {v : V} (h : resC P st r = some v) : ∃ q, (resOne a.tmps r).run P w = .ok q w ∧ RdV w (okOf X ρ w) ρ v q := by
  cases r with
  | tmp t =>
    obtain ⟨x, h1, h2⟩ := hH.slots _ _ h
    exact ⟨x, by simp [resOne, h1], h2⟩
  | cell p t =>
    simp only [resC] at h
    split at h
    · rename_i c hc
      split at h
      · rename_i y hy
        obtain ⟨x, h1, h2⟩ := hH.slots _ _ hc
        unfold RdV at h2
        obtain ⟨q, h3, h4⟩ := load_sound hH hy h h2
        obtain ⟨p', rfl⟩ := RdC.addr h h2
        refine ⟨q, ?_, h4⟩
        simp only [Instr.loadAt, Instr.sureAddr, Sem.run_bind, Sem.run_pure, Result.andThen_ok] at h3
        simp only [resOne, Array.getD_eq_getD_getElem?, h1, Option.getD_some, asAddr, Sem.run_bind, Sem.run_pure, Result.andThen_ok, h3]
      · cases h
    · cases h
theorem resL_sound (hH : Hold X st ρ a w) : ∀ {rs : List ResultVar} {vs : List V}, resL P st rs = some vs → ∃ qs, (rs.mapM (resOne a.tmps) : Sem (List Value)).run P w = .ok qs w ∧ RdVs w (okOf X ρ w) ρ vs qs ∧ qs.length = rs.length
  | [], vs, h => by
    simp only [resL, Option.some.injEq] at h
    subst h
    exact ⟨[], rfl, by unfold RdVs; trivial, rfl⟩
  | r :: rs, vs, h => by
    simp only [resL] at h
    split at h
    · rename_i v hv
      split at h
      · rename_i us hu
        injection h with h
        subst h
        obtain ⟨q, h1, h2⟩ := resC_sound hH hv
        obtain ⟨qs, h3, h4, h5⟩ := resL_sound hH hu
        refine ⟨q :: qs, ?_, by unfold RdVs; exact ⟨h2, h4⟩, by simp [h5]⟩
        rw [List.mapM_cons]
        simp only [Sem.run_bind, h1, Result.andThen_ok, h3, Sem.run_pure]
      · cases h
    · cases h
theorem resL_len : ∀ {rs : List ResultVar} {vs : List V}, resL P st rs = some vs → vs.length = rs.length
  | [], vs, h => by simp only [resL, Option.some.injEq] at h; subst h; rfl
  | r :: rs, vs, h => by
    simp only [resL] at h
    split at h
    · split at h
      · rename_i us hu
        injection h with h
        subst h
        simp [resL_len hu]
      · cases h
    · cases h
theorem resV_sound (hH : Hold X st ρ a w) {v : V} (h : resV P st fn.results.toList = some v) : ∃ q, (results fn a.tmps).run P w = .ok q w ∧ RdV w (okOf X ρ w) ρ v q := by
  have hm : ∀ {qs : List Value}, (fn.results.toList.mapM (resOne a.tmps) : Sem (List Value)).run P w = .ok qs w → (results fn a.tmps).run P w = .ok (if h : qs.toArray.size = 1 then qs.toArray[0] else .tuple qs.toArray) w := by
    intro qs hq
    obtain ⟨rs, hrs⟩ : ∃ l : List ResultVar, fn.results = l.toArray := ⟨fn.results.toList, by simp⟩
    rw [results_eq]
    rw [hrs] at hq ⊢
    rw [List.mapM_toArray]
    simp only [Sem.run_bind, Sem.run_map] at hq ⊢
    rw [hq]
    rfl
  unfold resV at h
  split at h
  · rename_i u hu
    injection h with h
    subst h
    obtain ⟨qs, h1, h2, h3⟩ := resL_sound hH hu
    have hl := resL_len hu
    rw [← hl] at h3
    match qs, h3, h2, h1 with
    | [q], _, h2, h1 =>
      unfold RdVs at h2
      exact ⟨q, by rw [hm h1]; rfl, h2.1⟩
  · rename_i vs hne hvs
    injection h with h
    subst h
    obtain ⟨qs, h1, h2, h3⟩ := resL_sound hH hvs
    have hl := resL_len hvs
    refine ⟨_, hm h1, ?_⟩
    have hn : ¬ qs.toArray.size = 1 := by
      intro he
      rw [List.size_toArray, h3, ← hl] at he
      match vs, he, hne with
      | [v], _, hne => exact hne v rfl
    rw [dif_neg hn]
    unfold RdV
    exact ⟨_, rfl, h2⟩
  · cases h
/-- what an answer reads as for whoever called -/
def outV (st : St) (n : Nat) : V → Option V
  | .one c => match viewC st n c with
    | some q => some (.one (.t q.1 q.2))
    | none => none
  | .agg cs => match viewCs st n cs with
    | some q => some (.agg (q.2.map (C.t q.1)))
    | none => none
  | .tup vs => match outs vs with
    | some us => some (.tup us)
    | none => none
  | .junk => none
  where outs : List V → Option (List V)
  | [] => some []
  | .one c :: vs => match viewC st n c with
    | some q => match outs vs with
      | some us => some (.one (.t q.1 q.2) :: us)
      | none => none
    | none => none
  | .agg cs :: vs => match viewCs st n cs with
    | some q => match outs vs with
      | some us => some (.agg (q.2.map (C.t q.1)) :: us)
      | none => none
    | none => none
  | _ => none
theorem outs_rd (hH : Hold X st ρ a w) {n : Nat} : ∀ {vs us : List V} {xs : List Value}, outV.outs st n vs = some us → RdVs w (okOf X ρ w) ρ vs xs → RdVs w (okOf X deadR w) deadR us xs
  | [], us, xs, h, hx => by
    simp only [outV.outs, Option.some.injEq] at h
    subst h
    cases xs with
    | nil => unfold RdVs; trivial
    | cons => unfold RdVs at hx; exact hx.elim
  | .one c :: vs, us, xs, h, hx => by
    simp only [outV.outs] at h
    split at h
    · rename_i q hq
      split at h
      · rename_i ws hws
        injection h with h
        subst h
        cases xs with
        | nil => unfold RdVs at hx; exact hx.elim
        | cons u xs =>
          unfold RdVs RdV at hx
          unfold RdVs RdV RdC
          exact ⟨view_rd hH hq hx.1, outs_rd hH hws hx.2⟩
      · cases h
    · cases h
  | .agg c :: vs, us, xs, h, hx => by
    simp only [outV.outs] at h
    split at h
    · rename_i q hq
      split at h
      · rename_i ws hws
        injection h with h
        subst h
        cases xs with
        | nil => unfold RdVs at hx; exact hx.elim
        | cons u xs =>
          unfold RdVs RdV at hx
          unfold RdVs RdV
          obtain ⟨⟨ys, h1, h2⟩, h3⟩ := hx
          exact ⟨⟨ys, h1, (views_rd hH hq h2).toC⟩, outs_rd hH hws h3⟩
      · cases h
    · cases h
  | .tup _ :: _, _, _, h, _ => by simp [outV.outs] at h
  | .junk :: _, _, _, h, _ => by simp [outV.outs] at h
theorem out_rd (hH : Hold X st ρ a w) {n : Nat} {v u : V} {x : Value} (h : outV st n v = some u) (hx : RdV w (okOf X ρ w) ρ v x) : RdV w (okOf X deadR w) deadR u x := by
  cases v with
  | one c =>
    simp only [outV] at h
    split at h
    · rename_i q hq
      injection h with h
      subst h
      unfold RdV at hx ⊢
      unfold RdC
      exact view_rd hH hq hx
    · cases h
  | agg cs =>
    simp only [outV] at h
    split at h
    · rename_i q hq
      injection h with h
      subst h
      unfold RdV at hx ⊢
      obtain ⟨ys, h1, h2⟩ := hx
      exact ⟨ys, h1, (views_rd hH hq h2).toC⟩
    · cases h
  | tup vs =>
    simp only [outV] at h
    split at h
    · rename_i us hu
      injection h with h
      subst h
      unfold RdV at hx ⊢
      obtain ⟨ys, h1, h2⟩ := hx
      exact ⟨ys, h1, outs_rd hH hu h2⟩
    · cases h
  | junk => cases h
end
/-- arguments as a frame's first temporaries -/
def argSl : Nat → List A → List (Nat × V)
  | _, [] => []
  | k, .one t :: as_ => (k, .one (.t false t)) :: argSl (k + 1) as_
  | k, .agg ts :: as_ => (k, .agg (ts.map (C.t false))) :: argSl (k + 1) as_
theorem argSl_rd {w : World} {ok : Bool → Nat → Prop} {ρ : Nat → R} : ∀ {as_ : List A} {xs : List Value} {k t : Nat} {v : V}, RdAs w (ok false) as_ xs → get t (argSl k as_) = some v → k ≤ t ∧ ∃ x, xs[t - k]? = some x ∧ RdV w ok ρ v x
  | [], _, _, _, _, _, h => by simp [argSl, get] at h
  | q :: qs, [], _, _, _, hr, _ => by unfold RdAs at hr; exact hr.elim
  | q :: qs, x :: xs, k, t, v, hr, h => by
    unfold RdAs at hr
    have hstep : ∀ u, argSl k (q :: qs) = (k, u) :: argSl (k + 1) qs → RdV w ok ρ u x → k ≤ t ∧ ∃ y, (x :: xs)[t - k]? = some y ∧ RdV w ok ρ v y := fun u hu hru => by
      rw [hu] at h
      unfold get at h
      split at h
      · rename_i ht
        subst ht
        injection h with h
        subst h
        exact ⟨Nat.le_refl _, x, by simp, hru⟩
      · rename_i ht
        obtain ⟨h1, y, h2, h3⟩ := argSl_rd hr.2 h
        refine ⟨by omega, y, ?_, h3⟩
        rw [show t - k = (t - (k + 1)) + 1 by omega]
        simpa using h2
    cases q with
    | one t' =>
      refine hstep _ rfl ?_
      have := hr.1
      unfold RdA at this
      unfold RdV RdC
      exact this
    | agg ts =>
      refine hstep _ rfl ?_
      have := hr.1
      unfold RdA at this
      obtain ⟨ys, h1, h2⟩ := this
      unfold RdV
      exact ⟨ys, h1, h2.toC⟩
/-- the way out of a function: what it answers, and the blocks that it hands over -/
def Ends (P : Program) (X : Cx) (rs : Array ResultVar) (res : V) (nb : List (Nat × B)) (st : St) : Prop :=
  ∀ ρ a w, Hold X st ρ a w → ∃ q ρc, (∀ fn : Func, fn.results = rs → (results fn a.tmps).run P w = .ok q w) ∧ (∀ id b cap, ρc id = .lie b cap → X.base.heap.size ≤ b ∧ b < w.heap.size) ∧ (∀ i j b c d, ρc i = .lie b c → ρc j = .lie b d → i = j) ∧
    (∀ id, id ∉ nb.map (·.1) → ρc id = .dead) ∧ RdV w (okOf X ρc w) ρc res q ∧ ∀ id b, get id nb = some b → HasB X w ρc id b
def exitQ (P : Program) (X : Cx) (rs : Array ResultVar) (res : V) (nb : List (Nat × B)) : Exit → St → Prop
  | .normal, st | .ret, st => Ends P X rs res nb st
  | _, _ => False
def exitV (P : Program) (st : St) (rs : List ResultVar) : Option V :=
  match resV P st rs with
  | some v => outV st 9 v
  | none => none
theorem ends_plain {P : Program} {X : Cx} {rs : Array ResultVar} {res : V} {st : St} (h : exitV P st rs.toList = some res) : Ends P X rs res [] st := fun ρ a w hH => by
  unfold exitV at h
  split at h
  · rename_i v hv
    obtain ⟨q, hrun, h2⟩ := resV_sound (fn := { (default : Func) with results := rs }) hH hv
    refine ⟨q, deadR, fun fn hfn => ?_, (by intro _ _ _ h; cases h), (by intro _ _ _ _ _ h; cases h), fun _ _ => rfl, out_rd hH h h2, (by intro _ _ h; cases h)⟩
    subst hfn
    rw [results_eq] at hrun ⊢
    exact hrun
  · cases h
theorem exit_ret {P : Program} {X : Cx} {rs : Array ResultVar} {res : V} {st : St} (h : exitV P st rs.toList = some res) : exitQ P X rs res [] .ret st := ends_plain h
theorem exit_normal {P : Program} {X : Cx} {rs : Array ResultVar} {res : V} {st : St} (h : exitV P st rs.toList = some res) : exitQ P X rs res [] .normal st := ends_plain h
mutual
/-- does it name none but these blocks? -/
def C.only (ids : List Nat) : C → Bool
  | .own i _ | .optr i _ | .eptr i _ _ _ => ids.contains i
  | .fn _ caps => C.onlys ids caps
  | _ => true
def C.onlys (ids : List Nat) : List C → Bool
  | [] => true
  | c :: cs => c.only ids && C.onlys ids cs
end
mutual
def V.only (ids : List Nat) : V → Bool
  | .one c => c.only ids
  | .agg cs => C.onlys ids cs
  | .tup vs => V.onlys ids vs
  | .junk => true
def V.onlys (ids : List Nat) : List V → Bool
  | [] => true
  | c :: cs => c.only ids && V.onlys ids cs
end
def B.only (ids : List Nat) : B → Bool
  | .arr _ _ _ _ => true
  | .var _ cells => C.onlys ids cells
section
variable {w : World} {ok ok' : Bool → Nat → Prop} {ρ ρ' : Nat → R} {ids : List Nat}
mutual
theorem RdC.less (hT : ∀ z t x, RdT w (ok z) t x → RdT w (ok' z) t x) (hρ : ∀ id ∈ ids, ρ' id = ρ id) : ∀ {c : C} {x : Value}, c.only ids = true → RdC w ok ρ c x → RdC w ok' ρ' c x
  | .t z t, x, _, h => by unfold RdC at h ⊢; exact hT _ _ _ h
  | .nil, x, _, h => by unfold RdC at h ⊢; exact h
  | .own id len, x, hm, h => by
    unfold RdC at h ⊢
    rw [hρ id (by simpa [C.only] using hm)]; exact h
  | .optr id len, x, hm, h => by
    unfold RdC at h ⊢
    rw [hρ id (by simpa [C.only] using hm)]; exact h
  | .eptr id k s j, x, hm, h => by
    unfold RdC at h ⊢
    rw [hρ id (by simpa [C.only] using hm)]; exact h
  | .fn f caps, x, hm, h => by
    unfold RdC at h ⊢
    obtain ⟨xs, h1, h2⟩ := h
    exact ⟨xs, h1, RdCs.less hT hρ (by simpa [C.only] using hm) h2⟩
  | .junk, x, _, h => by unfold RdC at h ⊢; exact h
theorem RdCs.less (hT : ∀ z t x, RdT w (ok z) t x → RdT w (ok' z) t x) (hρ : ∀ id ∈ ids, ρ' id = ρ id) : ∀ {cs : List C} {xs : List Value}, C.onlys ids cs = true → RdCs w ok ρ cs xs → RdCs w ok' ρ' cs xs
  | [], [], _, _ => by unfold RdCs; trivial
  | _ :: _, _ :: _, hm, h => by
    simp only [C.onlys, Bool.and_eq_true] at hm
    unfold RdCs at h ⊢
    exact ⟨RdC.less hT hρ hm.1 h.1, RdCs.less hT hρ hm.2 h.2⟩
  | [], _ :: _, _, h => by unfold RdCs at h; exact h.elim
  | _ :: _, [], _, h => by unfold RdCs at h; exact h.elim
end
mutual
theorem RdV.less (hT : ∀ z t x, RdT w (ok z) t x → RdT w (ok' z) t x) (hρ : ∀ id ∈ ids, ρ' id = ρ id) : ∀ {c : V} {x : Value}, c.only ids = true → RdV w ok ρ c x → RdV w ok' ρ' c x
  | .one c, x, hm, h => by unfold RdV at h ⊢; exact RdC.less hT hρ (by simpa [V.only] using hm) h
  | .agg cs, x, hm, h => by
    unfold RdV at h ⊢
    obtain ⟨xs, h1, h2⟩ := h
    exact ⟨xs, h1, RdCs.less hT hρ (by simpa [V.only] using hm) h2⟩
  | .tup vs, x, hm, h => by
    unfold RdV at h ⊢
    obtain ⟨xs, h1, h2⟩ := h
    exact ⟨xs, h1, RdVs.less hT hρ (by simpa [V.only] using hm) h2⟩
  | .junk, x, _, _ => by unfold RdV; trivial
theorem RdVs.less (hT : ∀ z t x, RdT w (ok z) t x → RdT w (ok' z) t x) (hρ : ∀ id ∈ ids, ρ' id = ρ id) : ∀ {cs : List V} {xs : List Value}, V.onlys ids cs = true → RdVs w ok ρ cs xs → RdVs w ok' ρ' cs xs
  | [], [], _, _ => by unfold RdVs; trivial
  | _ :: _, _ :: _, hm, h => by
    simp only [V.onlys, Bool.and_eq_true] at hm
    unfold RdVs at h ⊢
    exact ⟨RdV.less hT hρ hm.1 h.1, RdVs.less hT hρ hm.2 h.2⟩
  | [], _ :: _, _, h => by unfold RdVs at h; exact h.elim
  | _ :: _, [], _, h => by unfold RdVs at h; exact h.elim
end
end
theorem get_mem {α : Type} {t : Nat} {v : α} : ∀ {l : List (Nat × α)}, get t l = some v → (t, v) ∈ l
  | [], h => by cases h
  | (k, u) :: l, h => by
    unfold get at h
    split at h
    · rename_i hk; injection h with h; subst hk; subst h; exact List.mem_cons_self
    · exact List.mem_cons_of_mem _ (get_mem h)
def onlyR (ids : List Nat) (ρ : Nat → R) (i : Nat) : R := if i ∈ ids then ρ i else .dead
theorem ends_own {P : Program} {X : Cx} {rs : Array ResultVar} {res : V} {nb : List (Nat × B)} {st : St} (h : resV P st rs.toList = some res) (hb : leL nb st.bl) (ho : res.only (nb.map (·.1)) = true) (hbo : ∀ p ∈ nb, p.2.only (nb.map (·.1)) = true) : Ends P X rs res nb st := fun ρ a w hH => by
  obtain ⟨q, h1, h2⟩ := resV_sound (fn := { (default : Func) with results := rs }) hH h
  have hT : ∀ z t x, RdT w (okOf X ρ w z) t x → RdT w (okOf X (onlyR (nb.map fun p : Nat × B => p.1) ρ) w z) t x := fun z t x hr => hr.mono fun b hb => ⟨⟨hb.1, hb.2.1, fun id b' cap hid => by
    unfold onlyR at hid
    split at hid
    · exact hb.2.2 id b' cap hid
    · cases hid⟩, rfl⟩
  refine ⟨q, onlyR (nb.map fun p : Nat × B => p.1) ρ, fun fn hfn => ?_, fun id b cap hid => ?_, fun i j b c d hi hj => ?_, fun id hid => if_neg hid, h2.less hT (fun id hid => if_pos hid) ho, fun id b hid => ?_⟩
  · subst hfn; rw [results_eq] at h1 ⊢; exact h1
  · unfold onlyR at hid
    split at hid
    · exact hH.ge id b cap hid
    · cases hid
  · unfold onlyR at hi hj
    split at hi
    · split at hj
      · exact hH.inj i j b c d hi hj
      · cases hj
    · cases hi
  · have hm : id ∈ nb.map (·.1) := List.mem_map.2 ⟨_, get_mem hid, rfl⟩
    have hB := hH.blocks id b (leL_get hb hid)
    cases b with
    | arr e s z rows =>
      unfold HasB at hB ⊢
      rw [show onlyR (nb.map fun p : Nat × B => p.1) ρ id = ρ id from if_pos hm]
      cases hr : ρ id with
      | dead => simp [hr] at hB
      | nil => simp only [hr] at hB ⊢; exact hB
      | lie g cap =>
        simp only [hr] at hB ⊢
        obtain ⟨xs, g1, g2, g3⟩ := hB
        exact ⟨xs, g1, g2.mono fun b hb => ⟨⟨hb.1, hb.2.1, fun id b' cap hid => by
          unfold onlyR at hid
          split at hid
          · exact hb.2.2 id b' cap hid
          · cases hid⟩, rfl⟩, g3⟩
    | var e cells =>
      unfold HasB at hB ⊢
      obtain ⟨g, cap, hr, xs, g1, g2⟩ := hB
      exact ⟨g, cap, (if_pos hm).trans hr, xs, g1, g2.less hT (fun id hid => if_pos hid) (hbo _ (get_mem hid))⟩
theorem RdAs.len {w : World} {ok : Nat → Prop} : ∀ {cs : List A} {xs : List Value}, RdAs w ok cs xs → xs.length = cs.length
  | [], [], _ => rfl
  | _ :: _, _ :: _, h => by unfold RdAs at h; rw [List.length_cons, List.length_cons, RdAs.len h.2]
  | [], _ :: _, h => by unfold RdAs at h; exact h.elim
  | _ :: _, [], h => by unfold RdAs at h; exact h.elim
/-- a function, by its body -/
theorem sp_of {P : Program} {f : FuncId} {fn : Func} {c : Code} {as_ : List A} {res : V} {nb : List (Nat × B)} (hf : P.funcs[f]? = some fn) (hn : (fn.name == "runtime.NumGoroutine") = false) (hb : fn.body = some c) (hle : as_.length ≤ fn.ntmps)
    (h : ∀ X : Cx, X.n = fn.ntmps → CW P X c (exitQ P X fn.results res nb) ⟨argSl 0 as_, []⟩) : Sp P f as_ res nb where
  enters := enters_of hf hn (by rw [hb]; rfl)
  calls w S hS vs hvs := by
    refine calls_of_wp hf hb ?_
    have hl := hvs.len
    have hH : Hold ⟨w, S, hS, fn.ntmps⟩ ⟨argSl 0 as_, []⟩ deadR { tmps := vs.toArray ++ Array.replicate (fn.ntmps - vs.toArray.size) undef, defers := [] } w := by
      refine ⟨rfl, by simp; omega, Below.refl _ _, (by intro _ _ _ h; cases h), (by intro _ _ _ _ _ h; cases h), fun t v hv => ?_, (by intro _ _ h; cases h)⟩
      have hvs' : RdAs w (okOf ⟨w, S, hS, fn.ntmps⟩ deadR w false) as_ vs := hvs.mono fun b hb => ⟨⟨.inr ⟨rfl, hb⟩, hS b hb, fun _ _ _ h => by cases h⟩, rfl⟩
      obtain ⟨_, x, h1, h2⟩ := argSl_rd (ok := okOf ⟨w, S, hS, fn.ntmps⟩ deadR w) (ρ := deadR) hvs' hv
      refine ⟨x, ?_, h2⟩
      rw [Nat.sub_zero] at h1
      have : t < vs.length := by
        rcases Nat.lt_or_ge t vs.length with h | h
        · exact h
        · rw [List.getElem?_eq_none h] at h1; cases h1
      simp only [Array.getElem?_append, List.size_toArray, this, if_true]
      simpa using h1
    refine wp_mono (h _ rfl deadR _ w hH) fun e a' w' ⟨st', ρ', hq, hH'⟩ => ?_
    have fin : Ends P ⟨w, S, hS, fn.ntmps⟩ fn.results res nb st' → a'.defers = [] ∧ ∃ v, (results fn a'.tmps).run P w' = .ok v w' ∧ Post w S hS res nb (.returned v) w' := fun he => by
      obtain ⟨q, ρc, h1, h2, h3, h4, h5, h6⟩ := he ρ' a' w' hH'
      exact ⟨hH'.defers, q, h1 fn rfl, q, ρc, rfl, hH'.below, h2, h3, h4, h5, h6⟩
    cases e <;> first
      | exact fin hq
      | exact hq.elim
end Go.Proofs.Ytoghgjobfcnneaa.Ax
