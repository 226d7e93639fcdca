/- Regions that draw their order: operations that may come late, beside the stores at the end. -/
import Derived.Test.YtoghgjobfcnneaaAxD3
namespace Go.Proofs.Ytoghgjobfcnneaa.Ax
open Go.RowKit
set_option linter.unnecessarySimpa false
/-- an operation that may come late: it reads some temporaries, and no memory -/
structure Fl where
  i : Nat
  dst : Nat
  v : V
  rd : List (Nat × V)
def flSl (p : Nat → Bool) : List Fl → List (Nat × V)
  | [] => []
  | f :: fs => if p f.i = true then (f.dst, f.v) :: flSl p fs else flSl p fs
def addF (l : List (Nat × V)) (st : St) : St := ⟨l ++ st.sl, st.bl⟩
def dKeeps : Delta → Bool
  | .pure _ => true
  | .mod _ _ [] _ => true
  | _ => false
def flFree (F : List Fl) (dst : Option Tmp) : Bool := F.all fun f => dst != some f.dst && f.rd.all fun p => dst != some p.1
def tailF (P : Program) (n : Nat) (ops : Array Oper) (F : List Fl) : List Oper → St → Option St
  | [], st => some st
  | o :: l, st =>
    match guardOf (addF (flSl (fun i => edge o i) F) st) ops o with
    | some true => match exec1 P (addF (flSl (fun i => edge o i) F) st) o with
      | some D => if (dKeeps D && dstOk n o.dst && flFree F o.dst) = true then tailF P n ops F l ((addF (flSl (fun i => edge o i) F) st).app D o.dst) else none
      | none => none
    | _ => none
structure FlOk (P : Program) (X : Cx) (ops : Array Oper) (F : List Fl) : Prop where
  op : ∀ f ∈ F, ∃ o, ops[f.i]? = some o ∧ o.dst = some f.dst ∧ f.dst < X.n ∧ guardOf ⟨f.rd, []⟩ ops o = some true ∧ Step P X ⟨f.rd, []⟩ o (.pure f.v)
  inj : ∀ f ∈ F, ∀ g ∈ F, f.dst = g.dst → f = g
  rd : ∀ f ∈ F, ∀ p ∈ f.rd, ∀ g ∈ F, g.dst ≠ p.1
section
variable {P : Program} {X : Cx} {ops : Array Oper} {F : List Fl} {m : Nat} {stE : St} {Q : Exit → Act → World → Prop}
theorem get_flSl {p : Nat → Bool} {t : Nat} {u : V} : ∀ {F : List Fl}, get t (flSl p F) = some u → ∃ f ∈ F, p f.i = true ∧ f.dst = t ∧ f.v = u
  | [], h => by cases h
  | f :: fs, h => by
    unfold flSl at h
    split at h
    · rename_i hp
      unfold get at h
      split at h
      · rename_i ht
        injection h with h
        exact ⟨f, List.mem_cons_self, hp, ht.symm, h⟩
      · obtain ⟨g, h1, h2⟩ := get_flSl h
        exact ⟨g, List.mem_cons_of_mem _ h1, h2⟩
    · obtain ⟨g, h1, h2⟩ := get_flSl h
      exact ⟨g, List.mem_cons_of_mem _ h1, h2⟩
theorem flSl_get {p : Nat → Bool} {f : Fl} : ∀ {F : List Fl}, (∀ f ∈ F, ∀ g ∈ F, f.dst = g.dst → f = g) → f ∈ F → p f.i = true → get f.dst (flSl p F) = some f.v
  | [], _, h, _ => by cases h
  | g :: fs, hinj, h, hp => by
    have hrest : ∀ x ∈ fs, ∀ y ∈ fs, x.dst = y.dst → x = y := fun x hx y hy => hinj x (List.mem_cons_of_mem _ hx) y (List.mem_cons_of_mem _ hy)
    unfold flSl
    by_cases he : g = f
    · subst he
      rw [if_pos hp]
      unfold get
      rw [if_pos rfl]
    · have hm : f ∈ fs := (List.mem_cons.1 h).resolve_left fun e => he e.symm
      split
      · unfold get
        rw [if_neg fun e => he (hinj g List.mem_cons_self f h e.symm)]
        exact flSl_get hrest hm hp
      · exact flSl_get hrest hm hp
theorem flSl_none {p : Nat → Bool} {t : Nat} {F : List Fl} (h : ∀ f ∈ F, f.dst ≠ t) : get t (flSl p F) = none := by
  cases hg : get t (flSl p F) with
  | none => rfl
  | some u =>
    obtain ⟨f, hf, _, he, _⟩ := get_flSl hg
    exact absurd he (h f hf)
theorem app_other {st : St} {D : Delta} {dst : Option Tmp} {t : Nat} (hD : dKeeps D = true) (ht : dst ≠ some t) : get t (st.app D dst).sl = get t st.sl := by
  have hput : ∀ (s : St) (v : V), get t (s.put dst v).sl = get t s.sl := fun s v => by
    cases dst with
    | none => rfl
    | some d =>
      show (if t = d then some v else get t s.sl) = get t s.sl
      rw [if_neg fun e => ht (by rw [e])]
  have hturn : ∀ ch nb, get t (st.turn ch [] nb).sl = get t st.sl := fun ch nb => by
    have : (st.turn ch [] nb).sl = st.sl := by
      show (st.sl.map fun p => (p.1, p.2.kill [])) = st.sl
      conv => rhs; rw [← List.map_id st.sl]
      apply List.map_congr_left
      intro p _
      rw [V.kill_same (V.ment_nil _)]
      rfl
    rw [this]
  unfold St.app
  split
  · exact hput _ _
  · exact hput _ _
  · rename_i v ch kl nb _
    rw [hput]
    cases kl with
    | nil => exact hturn _ _
    | cons => simp [dKeeps] at hD
theorem app_same {st st' : St} {D : Delta} {d : Nat} : get d (st.app D (some d)).sl = get d (st'.app D (some d)).sl := by
  have hput : ∀ (s s' : St) (v : V), get d (s.put (some d) v).sl = get d (s'.put (some d) v).sl := fun s s' v => by
    show get d ((d, v) :: s.sl) = get d ((d, v) :: s'.sl)
    unfold get
    rw [if_pos rfl, if_pos rfl]
  unfold St.app
  split <;> exact hput _ _ _
theorem app_bl {l : List (Nat × V)} {st : St} {D : Delta} {dst : Option Tmp} : ((addF l st).app D dst).bl = (st.app D dst).bl := by
  unfold St.app
  split <;> cases dst <;> rfl
theorem addF_le {l1 l2 : List (Nat × V)} {st : St} (h1 : ∀ t u, get t l1 = some u → get t l2 = some u) (h2 : ∀ t u u', get t l2 = some u → get t st.sl = some u' → u = u') : (addF l1 st).le (addF l2 st) := by
  refine ⟨fun t u h => ?_, fun _ _ h => h⟩
  rcases get_append h with h | h
  · exact get_append_some (h1 t u h)
  · show get t (l2 ++ st.sl) = some u
    cases hg : get t l2 with
    | none => exact (get_append_none hg).trans h
    | some u' => rw [← h2 t u' u hg h]; exact get_append_some hg
theorem leL_on {l big big' : List (Nat × V)} (h : ∀ p ∈ l, get p.1 big = some p.2 → get p.1 big' = some p.2) (hl : leL l big) : leL l big' := by
  induction l with
  | nil => exact hl
  | cons p l ih =>
    unfold leL at hl ⊢
    exact ⟨h p List.mem_cons_self hl.1, ih (fun q hq => h q (List.mem_cons_of_mem _ hq)) hl.2⟩
/-- the tail, beside what may come late -/
theorem tailF_any (hbk : backOk ops.toList = true) (hF : FlOk P X ops F) (hlt : ∀ f ∈ F, f.i < m) (hidx : ∀ f ∈ F, ∀ g ∈ F, f.i = g.i → f = g) (hch : ∀ i, m < i → ∀ o, ops[i]? = some o → edge o (i - 1) = true)
    (hend : ∀ ρ a w, Hold X (addF (flSl (fun _ => true) F) stE) ρ a w → Q .normal a w) :
    ∀ (fuel t : Nat) (l : List Oper) (st : St) (listed : Array Bool) (ρ : Nat → R) (a : Act) (w : World), m ≤ t → t ≤ ops.size → ops.toList.drop t = l → listed.size = ops.size → (List.range ops.size).countP (fun i => !listed.getD i true) ≤ fuel →
      (∀ i, i < ops.size → (∀ f ∈ F, f.i ≠ i) → listed.getD i true = decide (i < t)) → tailF P X.n ops F l st = some stE → (∀ f ∈ F, leL f.rd st.sl) → (∀ f ∈ F, ∀ u, get f.dst st.sl = some u → f.v = u) → Hold X (addF (flSl (fun i => listed.getD i true) F) st) ρ a w → wpAny P .any ops Q fuel listed a w := by
  intro fuel
  induction fuel with
  | zero =>
    intro t l st listed ρ a w hmt hts hl hs hc hu ht hrd hno hH
    have hall : ∀ i, i < ops.size → listed.getD i true = true := fun i hi => by
      have := List.countP_eq_zero.1 (Nat.le_zero.1 hc) i (List.mem_range.2 hi)
      simpa using this
    have hte : t = ops.size := by
      rcases Nat.lt_or_ge t ops.size with h | h
      · have := hu t h (fun f hf e => by have := hlt f hf; omega)
        rw [hall t h] at this
        simp at this
      · omega
    subst hte
    have hln : l = [] := by rw [← hl]; exact List.drop_eq_nil_of_le (by simp)
    subst hln
    simp only [tailF, Option.some.injEq] at ht
    subst ht
    have hr : Region.ready .any ops listed = [] := by
      rw [List.eq_nil_iff_forall_not_mem]
      intro i hi
      obtain ⟨h1, h2⟩ := ready_in hi
      rw [hall i h1] at h2; cases h2
    have hfl : flSl (fun i => listed.getD i true) F = flSl (fun _ => true) F := by
      have : ∀ G : List Fl, (∀ f ∈ G, f ∈ F) → flSl (fun i => listed.getD i true) G = flSl (fun _ => true) G := by
        intro G
        induction G with
        | nil => intro _; rfl
        | cons g G ih =>
          intro h
          have hg := hall g.i (by have := hlt g (h g List.mem_cons_self); omega)
          rw [flSl, flSl, hg, if_pos rfl, if_pos rfl, ih fun f hf => h f (List.mem_cons_of_mem _ hf)]
      exact this F fun _ h => h
    rw [hfl] at hH
    exact ⟨hr, hend ρ a w hH⟩
  | succ fuel ih =>
    intro t l st listed ρ a w hmt hts hl hs hc hu ht hrd hno hH
    have hget : ∀ i, i < ops.size → listed.getD i true = listed.getD i false := fun i hi => by
      rw [Array.getD_eq_getD_getElem?, Array.getD_eq_getD_getElem?, Array.getElem?_eq_getElem (by rw [hs]; exact hi)]
      rfl
    have hset : ∀ i j, i < ops.size → (listed.setIfInBounds i true).getD j true = if i = j then true else listed.getD j true := fun i j hi => by
      rw [Array.getD_eq_getD_getElem?, Array.getElem?_setIfInBounds]
      by_cases h : i = j
      · subst h
        rw [if_pos rfl, if_pos (by rw [hs]; exact hi), if_pos rfl]; rfl
      · rw [if_neg h, if_neg h, ← Array.getD_eq_getD_getElem?]
    have hcnt : ∀ i, i < ops.size → listed.getD i true = false → (List.range ops.size).countP (fun j => !(listed.setIfInBounds i true).getD j true) ≤ fuel := fun i hi hun => by
      have := countP_lt (p := fun j => !listed.getD j true) (q := fun j => !(listed.setIfInBounds i true).getD j true) (l := List.range ops.size) (i := i) (fun j hj => by
        rw [hset i j hi] at hj
        split at hj
        · cases hj
        · exact hj) (List.mem_range.2 hi) (by rw [hun]; rfl) (by rw [hset i i hi, if_pos rfl]; rfl)
      omega
    refine ⟨fun he => ?_, fun i hi => ?_⟩
    · have hall : ∀ i, i < ops.size → listed.getD i true = true := fun i hi => by
        cases hv : listed.getD i true with
        | true => rfl
        | false => exact absurd he (ready_some hbk hi hv)
      have hte : t = ops.size := by
        rcases Nat.lt_or_ge t ops.size with h | h
        · have := hu t h (fun f hf e => by have := hlt f hf; omega)
          rw [hall t h] at this
          simp at this
        · omega
      subst hte
      have hln : l = [] := by rw [← hl]; exact List.drop_eq_nil_of_le (by simp)
      subst hln
      simp only [tailF, Option.some.injEq] at ht
      subst ht
      have hfl : flSl (fun i => listed.getD i true) F = flSl (fun _ => true) F := by
        have : ∀ G : List Fl, (∀ f ∈ G, f ∈ F) → flSl (fun i => listed.getD i true) G = flSl (fun _ => true) G := by
          intro G
          induction G with
          | nil => intro _; rfl
          | cons g G ih =>
            intro h
            have hg := hall g.i (by have := hlt g (h g List.mem_cons_self); omega)
            rw [flSl, flSl, hg, if_pos rfl, if_pos rfl, ih fun f hf => h f (List.mem_cons_of_mem _ hf)]
        exact this F fun _ h => h
      rw [hfl] at hH
      exact hend ρ a w hH
    · obtain ⟨hin, hiu⟩ := ready_in hi
      have hop : ops[i]? = some ops[i] := Array.getElem?_eq_getElem hin
      by_cases hfi : ∃ f ∈ F, f.i = i
      · -- one that comes late
        obtain ⟨f, hf, rfl⟩ := hfi
        obtain ⟨o, ho, hd, hdn, hg, hst⟩ := hF.op f hf
        have hR : Hold X ⟨f.rd, []⟩ ρ a w := hH.le ⟨fun t' u h => by
          have h1 := leL_get (hrd f hf) h
          refine (get_append_none (flSl_none fun g hg e => ?_)).trans h1
          obtain ⟨p, hp, he⟩ : ∃ p ∈ f.rd, p.1 = t' := by
            have hm : ∀ {l : List (Nat × V)}, get t' l = some u → ∃ p ∈ l, p.1 = t' := by
              intro l
              induction l with
              | nil => intro h; cases h
              | cons q l ih =>
                intro h
                unfold get at h
                split at h
                · rename_i hq; exact ⟨q, List.mem_cons_self, hq.symm⟩
                · obtain ⟨p, h1, h2⟩ := ih h; exact ⟨p, List.mem_cons_of_mem _ h1, h2⟩
            exact hm h
          exact hF.rd f hf p hp g hg (e.trans he.symm), fun _ _ h => by cases h⟩
        unfold wpOp
        rw [ho]
        simp only
        rw [guard_sound hR hg, if_pos rfl]
        refine .inl (hst ρ a w hR _ _ fun x ρ' w' hout => ?_)
        obtain ⟨rfl, rfl, hx⟩ := hout
        refine ih t l st _ ρ' _ w' hmt hts hl (by simpa using hs) (hcnt _ hin hiu) (fun j hj hjf => ?_) ht hrd hno ?_
        · rw [hset _ _ hin, if_neg (hjf f hf)]
          exact hu j hj hjf
        · rw [hd]
          have hp := hH.put (dst := some f.dst) (v := f.v) (x := x) (by rintro d ⟨⟩; exact hdn) hx
          refine hp.le (addF_le (l2 := (f.dst, f.v) :: flSl (fun i => listed.getD i true) F) (fun t' u h => ?_) fun t' u u' h h' => ?_)
          · obtain ⟨g, hg, hgp, hgd, hgv⟩ := get_flSl h
            subst hgd
            subst hgv
            show (if g.dst = f.dst then some f.v else get g.dst (flSl (fun i => listed.getD i true) F)) = some g.v
            by_cases he : g.dst = f.dst
            · rw [if_pos he, hF.inj g hg f hf he]
            · rw [if_neg he]
              rw [hset _ _ hin] at hgp
              refine flSl_get hF.inj hg ?_
              rw [if_neg fun e => he (by rw [hidx f hf g hg e])] at hgp
              exact hgp
          · have h0 : (if t' = f.dst then some f.v else get t' (flSl (fun i => listed.getD i true) F)) = some u := h
            by_cases he : t' = f.dst
            · rw [if_pos he] at h0
              injection h0 with h0
              subst h0
              exact hno f hf u' (he ▸ h')
            · rw [if_neg he] at h0
              obtain ⟨g, hg, hgp, hgd, hgv⟩ := get_flSl h0
              subst hgd
              subst hgv
              exact hno g hg u' h'
      · have hnf : ∀ f ∈ F, f.i ≠ i := fun f hf e => hfi ⟨f, hf, e⟩
        have hti : t ≤ i := by
          have := hu i hin hnf
          rw [hiu] at this
          simp at this
          omega
        have hit : i = t := by
          rcases Nat.lt_or_ge t i with h | h
          · exfalso
            have he := hch i (by omega) _ hop
            have h1 := ready_edge hi hop he
            rw [← hget _ (by omega), hu (i - 1) (by omega) (fun f hf e => by have := hlt f hf; omega)] at h1
            simp at h1
            omega
          · omega
        subst hit
        have hcons : l = ops[i] :: ops.toList.drop (i + 1) := by
          rw [← hl]
          have hlen : i < ops.toList.length := by simpa using hin
          rw [List.drop_eq_getElem_cons hlen]
          simp
        subst hcons
        generalize hoo : ops[i] = o at hop ht
        unfold tailF at ht
        split at ht
        · rename_i hg
          split at ht
          · rename_i D hD
            split at ht
            · rename_i hc3
              simp only [Bool.and_eq_true] at hc3
              obtain ⟨⟨hk, hdl⟩, hfree⟩ := hc3
              have hfr : ∀ f ∈ F, o.dst ≠ some f.dst ∧ ∀ p ∈ f.rd, o.dst ≠ some p.1 := fun f hf => by
                have := List.all_eq_true.1 hfree f hf
                simp only [Bool.and_eq_true, bne_iff_ne, List.all_eq_true] at this
                exact this
              have hsub : ∀ t' u, get t' (flSl (fun i => edge o i) F) = some u → get t' (flSl (fun i => listed.getD i true) F) = some u := fun t' u h => by
                obtain ⟨g, hg', hgp, hgd, hgv⟩ := get_flSl h
                subst hgd
                subst hgv
                refine flSl_get hF.inj hg' ?_
                have hb := ready_edge hi hop hgp
                rw [hget _ (by have := hlt g hg'; omega)]
                exact hb
              have hcomp : ∀ t' u u', get t' (flSl (fun i => listed.getD i true) F) = some u → get t' st.sl = some u' → u = u' := fun t' u u' h h' => by
                obtain ⟨g, hg', hgp, hgd, hgv⟩ := get_flSl h
                subst hgd
                subst hgv
                exact hno g hg' u' h'
              have hle := addF_le hsub hcomp
              have hR := hH.le hle
              unfold wpOp
              rw [hop]
              simp only
              rw [guard_sound hR hg, if_pos rfl]
              refine .inl ((exec1_runs hD).step ρ a w hR _ _ fun x ρ' w' hout => ?_)
              have hnext := hH.app (dst := o.dst) hout (dst_lt hdl)
              have hso : ∀ f ∈ F, o.dst ≠ some f.dst := fun f hf => (hfr f hf).1
              refine ih (i + 1) _ _ _ ρ' _ w' (by omega) (by omega) rfl (by simpa using hs) (hcnt i hin hiu) (fun j hj hjf => ?_) ht (fun f hf => ?_) (fun f hf u h => ?_) ?_
              · rw [hset i j hin]
                by_cases h : i = j
                · rw [if_pos h]; simp; omega
                · rw [if_neg h, hu j hj hjf]
                  congr 1
                  apply propext
                  omega
              · refine leL_on (fun p hp h => ?_) (hrd f hf)
                rw [app_other hk ((hfr f hf).2 p hp)]
                exact (get_append_none (flSl_none fun g hg' => hF.rd f hf p hp g hg')).trans h
              · rw [app_other hk (hso f hf)] at h
                rcases get_append h with h | h
                · obtain ⟨g, hg', hgp, hgd, hgv⟩ := get_flSl h
                  rw [← hgv, hF.inj g hg' f hf hgd]
                · exact hno f hf u h
              · have hfl : ∀ t', get t' (flSl (fun j => (listed.setIfInBounds i true).getD j true) F) = get t' (flSl (fun j => listed.getD j true) F) := fun t' => by
                  have : ∀ G : List Fl, (∀ f ∈ G, f ∈ F) → flSl (fun j => (listed.setIfInBounds i true).getD j true) G = flSl (fun j => listed.getD j true) G := by
                    intro G
                    induction G with
                    | nil => intro _; rfl
                    | cons g G ihG =>
                      intro h
                      have hg' : (listed.setIfInBounds i true).getD g.i true = listed.getD g.i true := by rw [hset i g.i hin, if_neg fun e => hnf g (h g List.mem_cons_self) e.symm]
                      rw [flSl, flSl, hg', ihG fun f hf => h f (List.mem_cons_of_mem _ hf)]
                  rw [this F fun _ h => h]
                refine hnext.le ⟨fun t' u h => ?_, fun t' u h => ?_⟩
                · by_cases hd : o.dst = some t'
                  · have h0 : get t' (flSl (fun j => (listed.setIfInBounds i true).getD j true) F) = none := flSl_none fun f hf e => hso f hf (by rw [e]; exact hd)
                    have h1 : get t' ((addF (flSl (fun i => edge o i) F) st).app D o.dst).sl = some u := (get_append_none h0).symm.trans h
                    rw [hd] at h1 ⊢
                    exact (app_same (st := addF (flSl (fun i => listed.getD i true) F) st) (st' := addF (flSl (fun i => edge o i) F) st)).trans h1
                  · rw [app_other hk hd]
                    rcases get_append h with h | h
                    · rw [hfl] at h
                      exact get_append_some h
                    · rw [app_other hk hd] at h
                      exact hle.1 _ _ h
                · rw [app_bl]
                  have h : get t' ((addF (flSl (fun i => edge o i) F) st).app D o.dst).bl = some u := h
                  rw [app_bl] at h
                  exact h
            · cases ht
          · cases ht
        · cases ht
end
section
variable {P : Program} {X : Cx} {ops : Array Oper} {F : List Fl} {stE : St} {Q : Exit → Act → World → Prop} {st0 : St} {D0 I0 : List Nat} {acc : List Ent}
/-- which entries come late -/
structure FlIn (acc : List Ent) (I0 : List Nat) (F : List Fl) : Prop where
  ent : ∀ f ∈ F, ∃ e ∈ acc, e.i = f.i ∧ e.dst = some f.dst ∧ e.v = f.v ∧ e.nb = [] ∧ e.gone = [] ∧ f.v.ment I0 = false
  idx : ∀ f ∈ F, ∀ g ∈ F, f.i = g.i → f = g
def notF (F : List Fl) : Nat → List Nat
  | 0 => []
  | n + 1 => if (F.any fun f => f.i == n) = true then notF F n else n :: notF F n
theorem mem_notF {i : Nat} : ∀ {n : Nat}, i ∈ notF F n ↔ i < n ∧ ∀ f ∈ F, f.i ≠ i
  | 0 => by simp [notF]
  | n + 1 => by
    have ih := mem_notF (i := i) (n := n)
    unfold notF
    by_cases h : (F.any fun f => f.i == n) = true
    · rw [if_pos h, ih]
      simp only [List.any_eq_true, beq_iff_eq] at h
      obtain ⟨f, hf, he⟩ := h
      constructor
      · exact fun h => ⟨by omega, h.2⟩
      · rintro ⟨h1, h2⟩
        refine ⟨?_, h2⟩
        have := h2 f hf
        omega
    · rw [if_neg h, List.mem_cons, ih]
      simp only [List.any_eq_true, beq_iff_eq] at h
      constructor
      · rintro (rfl | h1)
        · exact ⟨Nat.lt_succ_self _, fun f hf e => h ⟨f, hf, e⟩⟩
        · exact ⟨by omega, h1.2⟩
      · rintro ⟨h1, h2⟩
        by_cases he : i = n
        · exact .inl he
        · exact .inr ⟨by omega, h2⟩
def closF (F : List Fl) (acc : List Ent) (o : Oper) (j : Nat) : Bool := (F.any fun f => f.i == j) || clos acc o j
theorem fl_le (hP : Props P X ops st0 D0 I0 acc) (hC : Clean st0 D0 I0) (hI : FlIn acc I0 F) {L : List Nat} {p : Nat → Bool} (hL : ∀ i, i < acc.length → (∀ f ∈ F, f.i ≠ i) → i ∈ L) (hp : ∀ f ∈ F, p f.i = true → f.i ∈ L) :
    (addF (flSl p F) (stOf st0 (pick (notF F acc.length) acc))).le (stOf st0 (pick L acc)) := by
  have hsub : ∀ e ∈ pick (notF F acc.length) acc, e ∈ pick L acc := fun e he => by
    obtain ⟨h1, h2⟩ := mem_pick.1 he
    obtain ⟨h3, h4⟩ := mem_notF.1 h2
    exact mem_pick.2 ⟨h1, hL _ h3 h4⟩
  have hflo : ∀ e ∈ acc, (∃ f ∈ F, f.i = e.i) → e.nb = [] ∧ e.gone = [] := fun e he ⟨f, hf, h⟩ => by
    obtain ⟨e', he', h1, _, _, h4, h5, _⟩ := hI.ent f hf
    have := hP.inj e' he' e he (by rw [h1, h])
    subst this
    exact ⟨h4, h5⟩
  have hnf : ∀ e ∈ acc, (∃ x, x ∈ e.gone) → e.i ∈ notF F acc.length := fun e he ⟨x, hx⟩ => mem_notF.2 ⟨hP.lt e he, fun f hf h => by
    rw [(hflo e he ⟨f, hf, h⟩).2] at hx; cases hx⟩
  have hgs : ∀ g, g ∈ goneOf (pick L acc) → g ∈ goneOf (pick (notF F acc.length) acc) := fun g hg => by
    obtain ⟨k, hk, hkg⟩ := mem_goneOf.1 hg
    exact mem_goneOf.2 ⟨k, mem_pick.2 ⟨(mem_pick.1 hk).1, hnf k (mem_pick.1 hk).1 ⟨g, hkg⟩⟩, hkg⟩
  constructor
  · intro t u h
    rcases get_append h with h | h
    · obtain ⟨f, hf, hpf, rfl, rfl⟩ := get_flSl h
      obtain ⟨e, he, h1, h2, h3, h4, h5, h6⟩ := hI.ent f hf
      rw [← h3]
      refine get_append_some (slOf_get (mem_pick.2 ⟨he, by rw [h1]; exact hp f hf hpf⟩) h2 (V.ment_sub (ids' := I0) (fun i hi => ?_) (by rw [h3]; exact h6)) fun g hg hgt => (hP.dst e he _ h2).2 g (mem_pick.1 hg).1 hgt)
      obtain ⟨k, hk, hkg⟩ := mem_goneOf.1 hi
      exact hP.gone k (mem_pick.1 hk).1 i hkg
    · rcases get_append h with h | h
      · obtain ⟨e, h1, h2, h3, h4⟩ := get_slOf h
        subst h3
        exact get_append_some (slOf_get (hsub e h1) h2 (V.ment_sub hgs h4) fun g hg hgt => (hP.dst e (mem_pick.1 h1).1 t h2).2 g (mem_pick.1 hg).1 hgt)
      · refine (get_append_none (slOf_none fun e he hed => ?_)).trans h
        have h1 := (hP.dst e (mem_pick.1 he).1 t hed).1
        rw [hC.sl t h1] at h; cases h
  · intro t u h
    rcases get_append h with h | h
    · obtain ⟨e, h1, h2, h3, h4⟩ := get_blOf h
      have hmem : t ∈ e.nb.map (·.1) := List.mem_map.2 ⟨_, h4, rfl⟩
      exact get_append_some (blOf_get (hsub e h1) (hP.nod e (mem_pick.1 h1).1 t u h4) (fun hg => h2 (hgs t hg)) (B.ment_sub hgs h3) fun g hg hgt => (hP.ids e (mem_pick.1 h1).1 t hmem).2 g (mem_pick.1 hg).1 hgt)
    · refine (get_append_none (blOf_none fun e he hed => ?_)).trans h
      have h1 := (hP.ids e (mem_pick.1 he).1 t hed).1
      rw [hC.bl t h1] at h; cases h
theorem plan_anyF (hP : Props P X ops st0 D0 I0 acc) (hC : Clean st0 D0 I0) (hbk : backOk ops.toList = true) (hm : acc.length ≤ ops.size) (hI : FlIn acc I0 F) (hF : FlOk P X ops F) (htl : tailOk (closF F acc) acc.length true (ops.toList.drop acc.length) = true)
    (hrd : ∀ f ∈ F, leL f.rd (stOf st0 (pick (notF F acc.length) acc)).sl) (htF : tailF P X.n ops F (ops.toList.drop acc.length) (stOf st0 (pick (notF F acc.length) acc)) = some stE)
    (hend : ∀ ρ a w, Hold X (addF (flSl (fun _ => true) F) stE) ρ a w → Q .normal a w) :
    ∀ (fuel : Nat) (listed : Array Bool) (ρ : Nat → R) (a : Act) (w : World), listed.size = ops.size → (List.range ops.size).countP (fun i => !listed.getD i true) ≤ fuel → (∀ i, acc.length ≤ i → i < ops.size → listed.getD i true = false) →
      (∀ f ∈ acc, f.i ∈ listedL ops.size listed → ∀ j ∈ f.dn, j ∈ listedL ops.size listed) → Hold X (stOf st0 (pick (listedL ops.size listed) acc)) ρ a w → wpAny P .any ops Q fuel listed a w := by
  intro fuel
  have hlt : ∀ f ∈ F, f.i < acc.length := fun f hf => by
    obtain ⟨e, he, h1, _⟩ := hI.ent f hf
    rw [← h1]; exact hP.lt e he
  have hno : ∀ f ∈ F, ∀ u, get f.dst (stOf st0 (pick (notF F acc.length) acc)).sl = some u → f.v = u := fun f hf u h => by
    exfalso
    obtain ⟨e, he, h1, h2, _⟩ := hI.ent f hf
    rcases get_append h with h | h
    · obtain ⟨g, g1, g2, _, _⟩ := get_slOf h
      obtain ⟨g3, g4⟩ := mem_pick.1 g1
      have := (hP.dst e he _ h2).2 g g3 g2
      subst this
      exact (mem_notF.1 g4).2 f hf h1.symm
    · rw [hC.sl _ (hP.dst e he _ h2).1] at h; cases h
  have hchain : ∀ i, acc.length < i → ∀ o, ops[i]? = some o → edge o (i - 1) = true := fun i hi o ho => by
    have hl : (ops.toList.drop acc.length)[i - acc.length]? = some o := by
      rw [List.getElem?_drop, show acc.length + (i - acc.length) = i by omega]; simpa using ho
    rcases tail_edges _ _ _ _ _ htl hl with ⟨h, _, _⟩ | h
    · omega
    · rwa [show acc.length + (i - acc.length) - 1 = i - 1 by omega] at h
  induction fuel with
  | zero =>
    intro listed ρ a w hs hc hun hcl hH
    have hall : ∀ i, i < ops.size → listed.getD i true = true := fun i hi => by
      have := List.countP_eq_zero.1 (Nat.le_zero.1 hc) i (List.mem_range.2 hi)
      simpa using this
    have hin : ∀ i, i < ops.size → i ∈ listedL ops.size listed := fun i hi => mem_listed.2 ⟨hi, by
      have h1 := hall i hi
      rw [Array.getD_eq_getD_getElem?, Array.getElem?_eq_getElem (by rw [hs]; exact hi)] at h1 ⊢
      exact h1⟩
    refine tailF_any hbk hF hlt hI.idx hchain hend 0 acc.length _ _ listed ρ a w (Nat.le_refl _) hm rfl hs hc (fun i hi hif => ?_) htF hrd hno (hH.le (fl_le hP hC hI (fun i hi _ => hin i (by omega)) fun f hf _ => hin f.i (by have := hlt f hf; omega)))
    rcases Nat.lt_or_ge i acc.length with h | h
    · rw [hall i hi]; simp [h]
    · rw [hun i h hi]; simp; omega
  | succ fuel ih =>
    intro listed ρ a w hs hc hun hcl hH
    have hget : ∀ i, i < ops.size → listed.getD i true = listed.getD i false := fun i hi => by
      rw [Array.getD_eq_getD_getElem?, Array.getD_eq_getD_getElem?, Array.getElem?_eq_getElem (by rw [hs]; exact hi)]
      rfl
    by_cases hall : ∀ i, i < acc.length → (∀ f ∈ F, f.i ≠ i) → listed.getD i true = true
    · refine tailF_any hbk hF hlt hI.idx hchain hend (fuel + 1) acc.length _ _ listed ρ a w (Nat.le_refl _) hm rfl hs hc (fun i hi hif => ?_) htF hrd hno (hH.le (fl_le hP hC hI (fun i hi hif => mem_listed.2 ⟨by omega, ?_⟩) fun f hf hp => mem_listed.2 ⟨by have := hlt f hf; omega, ?_⟩))
      · rcases Nat.lt_or_ge i acc.length with h | h
        · rw [hall i h hif]; simp [h]
        · rw [hun i h hi]; simp; omega
      · rw [← hget _ (by omega)]; exact hall i hi hif
      · rw [← hget _ (by have := hlt f hf; omega)]; exact hp
    · obtain ⟨i0, hi0, hf0, hn0⟩ : ∃ i0, i0 < acc.length ∧ (∀ f ∈ F, f.i ≠ i0) ∧ listed.getD i0 true = false := by
        refine Classical.byContradiction fun h => hall fun i hi hif => ?_
        cases hv : listed.getD i true with
        | true => rfl
        | false => exact absurd ⟨i, hi, hif, hv⟩ h
      refine ⟨fun he => absurd he (ready_some hbk (show i0 < ops.size by omega) hn0), fun i hi => ?_⟩
      obtain ⟨hin, hiu⟩ := ready_in hi
      have hop : ops[i]? = some ops[i] := Array.getElem?_eq_getElem hin
      have hclo : ∀ j, j < acc.length → (∀ f ∈ F, f.i ≠ j) → closF F acc ops[i] j = true → listed.getD j false = true := fun j hj hjf hc' => by
        have hc' : clos acc ops[i] j = true := by
          unfold closF at hc'
          rw [Bool.or_eq_true] at hc'
          rcases hc' with h | h
          · simp only [List.any_eq_true, beq_iff_eq] at h
            obtain ⟨f, hf, e⟩ := h
            exact absurd e (hjf f hf)
          · exact h
        simp only [clos, Bool.or_eq_true, List.any_eq_true, Bool.and_eq_true, List.contains_eq_mem, decide_eq_true_eq] at hc'
        rcases hc' with h | ⟨f, hf, h1, h2⟩
        · exact ready_edge hi hop h
        · exact (mem_listed.1 (hcl f hf (mem_listed.2 ⟨Nat.lt_of_lt_of_le (hP.lt f hf) hm, ready_edge hi hop h1⟩) j h2)).2
      have him : i < acc.length := by
        rcases Nat.lt_or_ge i acc.length with h | h
        · exact h
        · exfalso
          have hl : (ops.toList.drop acc.length)[i - acc.length]? = some ops[i] := by
            rw [List.getElem?_drop, show acc.length + (i - acc.length) = i by omega]; simpa using hop
          rcases tail_edges _ _ _ _ _ htl hl with ⟨_, _, h3⟩ | h3
          · have := hclo i0 hi0 hf0 (h3 i0 hi0)
            rw [← hget i0 (by omega), hn0] at this; cases this
          · have h4 := ready_edge hi hop h3
            rcases Nat.lt_or_ge acc.length i with h5 | h5
            · rw [← hget _ (by omega), hun _ (by omega) (by omega)] at h4; cases h4
            · obtain rfl : i = acc.length := by omega
              rcases tail_edges _ _ _ _ _ htl hl with ⟨_, _, h6⟩ | h6
              · have := hclo i0 hi0 hf0 (h6 i0 hi0)
                rw [← hget i0 (by omega), hn0] at this; cases this
              · have hz : (ops.toList.drop acc.length) ≠ [] := by intro h; rw [h] at hl; simp at hl
                cases hdl : ops.toList.drop acc.length with
                | nil => exact hz hdl
                | cons q l =>
                  rw [hdl] at htl hl
                  simp at hl
                  subst hl
                  simp only [tailOk, Bool.and_eq_true, if_true, List.all_eq_true, List.mem_range] at htl
                  have := hclo i0 hi0 hf0 (htl.1 i0 hi0)
                  rw [← hget i0 (by omega), hn0] at this; cases this
      obtain ⟨e, he, hei⟩ := hP.idx i him
      subst hei
      obtain ⟨o, ho, hd, hdl, hstep, hdn⟩ := hP.ent e he
      have heS : e.i ∉ listedL ops.size listed := fun h => by
        have := (mem_listed.1 h).2
        rw [← hget _ hin, hiu] at this; cases this
      have hdnS : ∀ j ∈ e.dn, j ∈ listedL ops.size listed := fun j hj => by
        rcases hdn j hj with h | ⟨f, hf, h1, h2⟩
        · exact mem_listed.2 ⟨by have := hP.dn2 e he j hj; omega, ready_edge hi ho h⟩
        · exact hcl f hf (mem_listed.2 ⟨Nat.lt_of_lt_of_le (hP.lt f hf) hm, ready_edge hi ho h1⟩) j h2
      have hR := hH.le (R_le hP hC he heS hdnS)
      have hS' : ∀ j, j ∈ listedL ops.size (listed.setIfInBounds e.i true) ↔ j = e.i ∨ j ∈ listedL ops.size listed := fun j => by
        rw [mem_listed, mem_listed, Array.getD_eq_getD_getElem?, Array.getElem?_setIfInBounds]
        by_cases hj : e.i = j
        · subst hj
          rw [if_pos rfl, if_pos (by rw [hs]; exact hin)]
          simp [hin]
        · rw [if_neg hj, ← Array.getD_eq_getD_getElem?]
          constructor
          · exact fun h => .inr h
          · rintro (h | h)
            · exact absurd h.symm hj
            · exact h
      have next : ∀ ρ' a' w', Hold X (stOf st0 (pick (listedL ops.size (listed.setIfInBounds e.i true)) acc)) ρ' a' w' → wpAny P .any ops Q fuel (listed.setIfInBounds e.i true) a' w' := fun ρ' a' w' hH' => by
        refine ih _ ρ' a' w' (by simpa using hs) ?_ (fun j hj hjn => ?_) (fun f hf hfi j hj => ?_) hH'
        · have := countP_lt (p := fun i => !listed.getD i true) (q := fun i => !(listed.setIfInBounds e.i true).getD i true) (l := List.range ops.size) (i := e.i) (fun j hj => by
            rw [Array.getD_eq_getD_getElem?, Array.getElem?_setIfInBounds] at hj
            by_cases h : e.i = j
            · subst h
              rw [if_pos rfl, if_pos (by rw [hs]; exact hin)] at hj
              simp at hj
            · rwa [if_neg h, ← Array.getD_eq_getD_getElem?] at hj) (List.mem_range.2 hin) (by rw [hiu]; rfl) (by
            rw [Array.getD_eq_getD_getElem?, Array.getElem?_setIfInBounds, if_pos rfl, if_pos (by rw [hs]; exact hin)]
            rfl)
          omega
        · rw [Array.getD_eq_getD_getElem?, Array.getElem?_setIfInBounds, if_neg (by omega), ← Array.getD_eq_getD_getElem?]
          exact hun j hj hjn
        · rcases (hS' f.i).1 hfi with h | h
          · obtain rfl := hP.inj f hf e he h
            exact (hS' j).2 (.inr (hdnS j hj))
          · exact (hS' j).2 (.inr (hcl f hf h j hj))
      unfold wpOp
      rw [ho]
      simp only
      rcases hstep with ⟨hg, D, hst, hgood⟩ | ⟨hg, hv, hnb, hgone⟩
      · rw [guard_sound hR hg, if_pos rfl]
        refine .inl (hst ρ a w hR _ _ fun x ρ' w' hout => next ρ' _ w' ?_)
        have hgen : ∃ ch kl, Evo X ρ w ρ' w' ch kl ∧ RdV w' (okOf X ρ' w') ρ' e.v x ∧ (∀ id b, get id e.nb = some b → HasB X w' ρ' id b) ∧ (∀ id ∈ ch, id ∈ kl) ∧ ∀ id ∈ kl, id ∈ e.nb.map (·.1) ∨ id ∈ e.gone := by
          rcases hgood with ⟨rfl, h2, h3⟩ | ⟨ch, kl, rfl, h2, h3⟩
          · obtain ⟨rfl, rfl, h4⟩ := hout
            exact ⟨[], [], Evo.refl hH, h4, (fun id b h => by rw [h2] at h; cases h), (fun _ h => h), fun _ h => by cases h⟩
          · exact ⟨ch, kl, hout.1, hout.2.1, hout.2.2, h2, h3⟩
        obtain ⟨ch, kl, hevo, hrd, hnbs, hck, hkl⟩ := hgen
        have hT := (hH.turn hevo hnbs).put (dst := e.dst) (by rw [hd]; exact dst_lt hdl) hrd
        rw [← hd]
        exact hT.le (S_le hP hC he hS' heS hcl hck hkl)
      · rw [guard_sound hR hg, if_neg (by simp)]
        refine next ρ _ w ?_
        have hT := (hH.turn (Evo.refl hH) (nb := e.nb) (fun id b h => by rw [hnb] at h; cases h)).put (dst := e.dst) (v := e.v) (x := undef) (by rw [hd]; exact dst_lt hdl) (by rw [hv]; unfold RdV; exact ⟨#[], rfl, by unfold RdVs; trivial⟩)
        rw [← hd]
        exact hT.le (S_le hP hC he hS' heS hcl (by simp) (by simp))
end
def flOf (ops : Array Oper) (I0 : List Nat) (acc : List Ent) (i : Nat) : Option Fl :=
  match acc[i]? with
  | some e => match e.dst with
    | some d => match ops[i]? with
      | some o => if (e.i == i && e.nb.isEmpty && e.gone.isEmpty && !e.v.ment I0) = true then some ⟨i, d, e.v, slOf [] (prods (Oper.looksAt ops o) acc)⟩ else none
      | none => none
    | none => none
  | none => none
def flsOf (ops : Array Oper) (I0 : List Nat) (acc : List Ent) : List Nat → Option (List Fl)
  | [] => some []
  | i :: is => match flOf ops I0 acc i with
    | some f => match flsOf ops I0 acc is with
      | some fs => some (f :: fs)
      | none => none
    | none => none
def flDist : List Fl → Bool
  | [] => true
  | f :: fs => (fs.all fun g => f.i != g.i && f.dst != g.dst) && flDist fs
def flRd (F : List Fl) : Bool := F.all fun f => f.rd.all fun p => F.all fun g => g.dst != p.1
def flChk (P : Program) (n : Nat) (ops : Array Oper) : List Fl → Prop
  | [] => True
  | f :: fs => (match ops[f.i]? with
    | some o => guardOf ⟨f.rd, []⟩ ops o = some true ∧ exec1 P ⟨f.rd, []⟩ o = some (.pure f.v) ∧ o.dst = some f.dst ∧ f.dst < n
    | none => False) ∧ flChk P n ops fs
def flLe (big : List (Nat × V)) : List Fl → Prop
  | [] => True
  | f :: fs => leL f.rd big ∧ flLe big fs
section
variable {P : Program} {X : Cx} {ops : Array Oper} {F : List Fl} {I0 : List Nat} {acc : List Ent}
theorem flLe_mem {big : List (Nat × V)} : ∀ {F : List Fl}, flLe big F → ∀ f ∈ F, leL f.rd big
  | [], _, _, h => by cases h
  | g :: fs, h, f, hf => by
    unfold flLe at h
    rcases List.mem_cons.1 hf with rfl | hf
    · exact h.1
    · exact flLe_mem h.2 f hf
theorem flChk_mem {n : Nat} : ∀ {F : List Fl}, flChk P n ops F → ∀ f ∈ F, ∃ o, ops[f.i]? = some o ∧ guardOf ⟨f.rd, []⟩ ops o = some true ∧ exec1 P ⟨f.rd, []⟩ o = some (.pure f.v) ∧ o.dst = some f.dst ∧ f.dst < n
  | [], _, _, h => by cases h
  | g :: fs, h, f, hf => by
    unfold flChk at h
    rcases List.mem_cons.1 hf with rfl | hf
    · have h1 := h.1
      split at h1
      · rename_i o ho; exact ⟨o, ho, h1⟩
      · exact h1.elim
    · exact flChk_mem h.2 f hf
theorem flDist_inj : ∀ {F : List Fl}, flDist F = true → ∀ f ∈ F, ∀ g ∈ F, (f.i = g.i ∨ f.dst = g.dst) → f = g
  | [], _, _, h, _, _, _ => by cases h
  | x :: fs, h, f, hf, g, hg, he => by
    unfold flDist at h
    simp only [Bool.and_eq_true, List.all_eq_true, bne_iff_ne] at h
    rcases List.mem_cons.1 hf with rfl | hf' <;> rcases List.mem_cons.1 hg with rfl | hg'
    · rfl
    · have := h.1 g hg'
      rcases he with he | he
      · exact absurd he this.1
      · exact absurd he this.2
    · have := h.1 f hf'
      rcases he with he | he
      · exact absurd he.symm this.1
      · exact absurd he.symm this.2
    · exact flDist_inj h.2 f hf' g hg' he
theorem flsOf_mem : ∀ {is : List Nat} {F : List Fl}, flsOf ops I0 acc is = some F → ∀ f ∈ F, ∃ e ∈ acc, e.i = f.i ∧ e.dst = some f.dst ∧ e.v = f.v ∧ e.nb = [] ∧ e.gone = [] ∧ f.v.ment I0 = false
  | [], F, h, f, hf => by
    simp only [flsOf, Option.some.injEq] at h
    subst h
    cases hf
  | i :: is, F, h, f, hf => by
    unfold flsOf at h
    split at h
    · rename_i g hg
      split at h
      · rename_i fs hfs
        injection h with h
        subst h
        rcases List.mem_cons.1 hf with rfl | hf
        · unfold flOf at hg
          split at hg
          · rename_i e he
            split at hg
            · rename_i d hd
              split at hg
              · split at hg
                · rename_i hc
                  injection hg with hg
                  subst hg
                  simp only [Bool.and_eq_true, beq_iff_eq, List.isEmpty_iff, Bool.not_eq_true'] at hc
                  exact ⟨e, List.mem_of_getElem? he, hc.1.1.1, hd, rfl, hc.1.1.2, hc.1.2, hc.2⟩
                · cases hg
              · cases hg
            · cases hg
          · cases hg
        · exact flsOf_mem hfs f hf
      · cases h
    · cases h
theorem flIn_of {is : List Nat} (h : flsOf ops I0 acc is = some F) (hd : flDist F = true) : FlIn acc I0 F := ⟨flsOf_mem h, fun f hf g hg he => flDist_inj hd f hf g hg (.inl he)⟩
theorem flOk_of (hd : flDist F = true) (hr : flRd F = true) (hc : flChk P X.n ops F) : FlOk P X ops F where
  op f hf := by
    obtain ⟨o, h1, h2, h3, h4, h5⟩ := flChk_mem hc f hf
    exact ⟨o, h1, h4, h5, h2, (exec1_runs h3).step⟩
  inj f hf g hg he := flDist_inj hd f hf g hg (.inr he)
  rd f hf p hp g hg := by
    have := List.all_eq_true.1 (List.all_eq_true.1 (List.all_eq_true.1 hr f hf) p hp) g hg
    simpa using this
end
end Go.Proofs.Ytoghgjobfcnneaa.Ax
