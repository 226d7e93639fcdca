/- Regions that draw their order: whatever the order. -/
import Derived.Test.YtoghgjobfcnneaaAxD2
namespace Go.Proofs.Ytoghgjobfcnneaa.Ax
open Go.RowKit
set_option linter.unnecessarySimpa false
section
variable {P : Program} {X : Cx} {ops : Array Oper} {st0 : St} {D0 I0 : List Nat} {acc : List Ent} {st : St} {ρ : Nat → R} {a : Act} {w : World}
theorem pick_nil (acc : List Ent) : pick [] acc = [] := by
  induction acc with
  | nil => rfl
  | cons e es ih => rw [pick, if_neg (by simp), ih]
/-- what a ready operation hangs on is listed -/
def listedL (n : Nat) (listed : Array Bool) : List Nat := (List.range n).filter fun i => listed.getD i false
theorem mem_listed {n i : Nat} {listed : Array Bool} : i ∈ listedL n listed ↔ i < n ∧ listed.getD i false = true := by simp [listedL]
theorem ready_edge {listed : Array Bool} {i j : Nat} {o : Oper} (hi : i ∈ Region.ready .any ops listed) (ho : ops[i]? = some o) (he : edge o j = true) : listed.getD j false = true := by
  simp only [Region.ready, List.mem_filter, ho, Option.map_some, Option.getD_some, Bool.and_eq_true] at hi
  unfold edge at he
  obtain ⟨e, h1, h2⟩ := List.any_eq_true.1 he
  simp only [Bool.and_eq_true, decide_eq_true_eq] at h2
  have h3 := Array.all_eq_true_iff_forall_mem.1 hi.2.2 e (Array.mem_toList_iff.1 h1)
  rw [h2.1, h2.2] at h3
  simpa using h3
theorem ready_in {listed : Array Bool} {i : Nat} (hi : i ∈ Region.ready .any ops listed) : i < ops.size ∧ listed.getD i true = false := by
  simp only [Region.ready, List.mem_filter, List.mem_range, Bool.and_eq_true, Bool.not_eq_true'] at hi
  exact ⟨hi.1, hi.2.1⟩
/-- edges go back -/
def backOk (l : List Oper) : Bool := l.zipIdx.all fun p => p.1.after.toList.all fun e => !Region.binds .any e || decide (e.on < p.2)
theorem ready_some {listed : Array Bool} (hb : backOk ops.toList = true) {i : Nat} (hi : i < ops.size) (hn : listed.getD i true = false) : Region.ready .any ops listed ≠ [] := by
  -- the least that is not listed
  have key : ∀ n, ∀ i, i < n → i < ops.size → listed.getD i true = false → ∃ j, j ∈ Region.ready .any ops listed := by
    intro n
    induction n with
    | zero => intro i h; omega
    | succ n ih =>
      intro i hin hi hn
      by_cases hall : ((ops[i]?).map (·.after.all fun e => !Region.binds .any e || listed.getD e.on false)).getD false = true
      · refine ⟨i, ?_⟩
        simp only [Region.ready, List.mem_filter, List.mem_range, Bool.and_eq_true, Bool.not_eq_true']
        exact ⟨hi, hn, hall⟩
      · have ho : ops[i]? = some ops[i] := Array.getElem?_eq_getElem hi
        rw [ho] at hall
        simp only [Option.map_some, Option.getD_some] at hall
        rw [← Array.all_toList, Bool.not_eq_true, List.all_eq_false] at hall
        obtain ⟨e, he', hne⟩ := hall
        have he := Array.mem_toList_iff.1 he'
        simp only [Bool.or_eq_true, Bool.not_eq_true', not_or, Bool.not_eq_false, Bool.not_eq_true] at hne
        have hz : (ops[i], i) ∈ ops.toList.zipIdx := by
          rw [List.mem_zipIdx_iff_getElem?]
          simpa using ho
        have h1 := List.all_eq_true.1 hb _ hz
        have h2 := List.all_eq_true.1 h1 e (Array.mem_toList_iff.2 he)
        simp only [hne.1, Bool.not_true, Bool.false_or, decide_eq_true_eq] at h2
        refine ih e.on (by omega) (by omega) ?_
        have : e.on < listed.size ∨ listed.size ≤ e.on := Nat.lt_or_ge _ _
        by_cases hl : e.on < listed.size
        · have h3 := hne.2
          simp only [Array.getD_eq_getD_getElem?, Array.getElem?_eq_getElem hl, Option.getD_some] at h3 ⊢
          exact h3
        · -- beyond the list nothing that is not listed stands at i
          have hil : i < listed.size := by
            rcases Nat.lt_or_ge i listed.size with h | h
            · exact h
            · rw [Array.getD_eq_getD_getElem?, Array.getElem?_eq_none h] at hn; cases hn
          omega
  intro he
  obtain ⟨j, hj⟩ := key (i + 1) i (Nat.lt_succ_self _) hi hn
  rw [he] at hj
  cases hj
/-- the last operations follow all others, one behind the other: i: how many stand ahead; first: none of these has been -/
def tailOk (c : Oper → Nat → Bool) : Nat → Bool → List Oper → Bool
  | _, _, [] => true
  | i, first, o :: l => (if first then (List.range i).all fun j => c o j else edge o (i - 1)) && tailOk c (i + 1) false l
/-- is an entry ahead of an operation, by itself or through another one? -/
def clos (acc : List Ent) (o : Oper) (j : Nat) : Bool := edge o j || acc.any fun f => edge o f.i && f.dn.contains j
def upTo (listed : Array Bool) (t n : Nat) : Prop := listed.size = n ∧ ∀ i, i < n → listed.getD i true = decide (i < t)
theorem tail_any {c : Oper → Nat → Bool} {Q : Exit → Act → World → Prop} (hbk : backOk ops.toList = true) : ∀ (l : List Oper) (t fuel : Nat) (listed : Array Bool) (first : Bool) (a : Act) (w : World), ops.toList.drop t = l → t ≤ ops.size → ops.size - t ≤ fuel → upTo listed t ops.size → tailOk c t first l = true → (first = true ∨ 0 < t) →
    wpList P ops Q l a w → wpAny P .any ops Q fuel listed a w := by
  intro l
  induction l with
  | nil =>
    intro t fuel listed first a w hl ht hf hu _ _ h
    have hts : t = ops.size := by
      have := congrArg List.length hl
      simp at this
      omega
    subst hts
    have hr : Region.ready .any ops listed = [] := by
      rw [List.eq_nil_iff_forall_not_mem]
      intro i hi
      obtain ⟨h1, h2⟩ := ready_in hi
      rw [hu.2 i h1] at h2
      simp at h2
      omega
    cases fuel with
    | zero => exact ⟨hr, h⟩
    | succ f => exact ⟨fun _ => h, fun i hi => by rw [hr] at hi; cases hi⟩
  | cons o l ih =>
    intro t fuel listed first a w hl ht hf hu hk hft h
    have hlt : t < ops.size := by
      rcases Nat.lt_or_ge t ops.size with h | h
      · exact h
      · rw [List.drop_eq_nil_of_le (by simpa using h)] at hl; cases hl
    have ho : ops[t]? = some o := by
      have : (ops.toList.drop t)[0]? = some o := by rw [hl]; rfl
      simpa using this
    have hdrop : ops.toList.drop (t + 1) = l := by
      have := congrArg (List.drop 1) hl
      simpa [List.drop_drop] using this
    obtain ⟨fuel, rfl⟩ : ∃ f, fuel = f + 1 := ⟨fuel - 1, by omega⟩
    simp only [tailOk, Bool.and_eq_true] at hk
    have hu' : upTo (listed.setIfInBounds t true) (t + 1) ops.size := by
      refine ⟨by simpa using hu.1, fun i hi => ?_⟩
      rw [Array.getD_eq_getD_getElem?, Array.getElem?_setIfInBounds]
      by_cases hit : t = i
      · subst hit
        rw [if_pos rfl, if_pos (by rw [hu.1]; exact hi)]
        simp
      · rw [if_neg hit, ← Array.getD_eq_getD_getElem?, hu.2 i hi]
        congr 1
        apply propext
        omega
    have honly : ∀ i ∈ Region.ready .any ops listed, i = t := by
      intro i hi
      obtain ⟨h1, h2⟩ := ready_in hi
      rw [hu.2 i h1] at h2
      simp at h2
      rcases Nat.lt_or_ge t i with hti | hti
      · exfalso
        -- it waits for the one ahead of it
        have hw : ∀ (l : List Oper) (k : Nat) (j : Nat) (oj : Oper), tailOk c k false l = true → l[j]? = some oj → edge oj (k + j - 1) = true := by
          intro l
          induction l with
          | nil => intro k j oj _ h; simp at h
          | cons q l ih =>
            intro k j oj h hj
            simp only [tailOk, Bool.and_eq_true, Bool.false_eq_true, if_false] at h
            cases j with
            | zero => simp at hj; subst hj; exact h.1
            | succ j =>
              have := ih (k + 1) j oj h.2 (by simpa using hj)
              rwa [show k + 1 + j - 1 = k + (j + 1) - 1 by omega] at this
        obtain ⟨j, hj⟩ : ∃ j, i = t + 1 + j := ⟨i - (t + 1), by omega⟩
        have hoi : ops[i]? = some ops[i] := Array.getElem?_eq_getElem h1
        have hlj : l[j]? = some ops[i] := by rw [← hdrop, List.getElem?_drop, ← hj]; simpa using hoi
        have he := hw l (t + 1) j _ hk.2 hlj
        have hlis := ready_edge hi hoi he
        have := hu.2 (t + 1 + j - 1) (by omega)
        rw [Array.getD_eq_getD_getElem?] at hlis this
        rw [Array.getElem?_eq_getElem (by rw [hu.1]; omega)] at hlis this
        simp only [Option.getD_some] at hlis this
        rw [hlis] at this
        simp at this
        omega
      · omega
    refine ⟨fun he => ?_, fun i hi => ?_⟩
    · exact absurd he (ready_some hbk hlt (by rw [hu.2 t hlt]; simp))
    · obtain rfl := honly i hi
      have ihh : ∀ a w, wpList P ops Q l a w → wpAny P .any ops Q fuel (listed.setIfInBounds i true) a w := fun a w h => ih (i + 1) fuel _ false a w hdrop (by omega) (by omega) hu' hk.2 (.inr (by omega)) h
      unfold wpOp
      rw [ho]
      unfold wpList at h
      simp only at h ⊢
      split
      · rename_i hw
        rw [if_pos hw] at h
        exact h.imp (Oper.wp_mono ihh) fun h => h
      · rename_i hw
        rw [if_neg hw] at h
        exact ihh _ _ h
theorem countP_lt {p q : Nat → Bool} : ∀ {l : List Nat} {i : Nat}, (∀ j, q j = true → p j = true) → i ∈ l → p i = true → q i = false → l.countP q < l.countP p
  | [], _, _, h, _, _ => by cases h
  | x :: l, i, hpq, hi, hp, hq => by
    have hle : l.countP q ≤ l.countP p := List.countP_mono_left fun j _ => hpq j
    rw [List.countP_cons, List.countP_cons]
    by_cases hx : x = i
    · subst hx
      rw [if_neg (by simp [hq]), if_pos hp]
      omega
    · have := countP_lt hpq ((List.mem_cons.1 hi).resolve_left (fun h => hx h.symm)) hp hq
      split <;> split
      · omega
      · rename_i h1 h2; exact absurd (hpq x h1) h2
      · omega
      · omega
theorem pick_congr {S S' : List Nat} : ∀ {acc : List Ent}, (∀ e ∈ acc, e.i ∈ S ↔ e.i ∈ S') → pick S acc = pick S' acc
  | [], _ => rfl
  | e :: es, h => by
    have h1 := h e List.mem_cons_self
    have h2 := pick_congr fun f hf => h f (List.mem_cons_of_mem _ hf)
    rw [pick, pick, h2]
    by_cases hm : e.i ∈ S
    · rw [if_pos (by simpa using hm), if_pos (by simpa using h1.1 hm)]
    · rw [if_neg (by simpa using hm), if_neg (by simpa using fun h => hm (h1.2 h))]
theorem tail_edges {c : Oper → Nat → Bool} : ∀ (l : List Oper) (k : Nat) (first : Bool) (j : Nat) (o : Oper), tailOk c k first l = true → l[j]? = some o → (j = 0 ∧ first = true ∧ ∀ i, i < k → c o i = true) ∨ edge o (k + j - 1) = true := by
  intro l
  induction l with
  | nil => intro k first j o _ h; simp at h
  | cons q l ih =>
    intro k first j o h hj
    simp only [tailOk, Bool.and_eq_true] at h
    cases j with
    | zero =>
      simp at hj
      subst hj
      cases first with
      | true =>
        left
        refine ⟨rfl, rfl, fun i hi => ?_⟩
        simp only [if_true, List.all_eq_true, List.mem_range] at h
        exact h.1 i hi
      | false => right; simpa using h.1
    | succ j =>
      rcases ih (k + 1) false j o h.2 (by simpa using hj) with h1 | h1
      · cases h1.2.1
      · right
        rwa [show k + 1 + j - 1 = k + (j + 1) - 1 by omega] at h1
theorem plan_any {Q : Exit → Act → World → Prop} (hP : Props P X ops st0 D0 I0 acc) (hC : Clean st0 D0 I0) (hbk : backOk ops.toList = true) (hm : acc.length ≤ ops.size) (htl : tailOk (clos acc) acc.length true (ops.toList.drop acc.length) = true)
    (htail : ∀ ρ a w, Hold X (stOf st0 acc) ρ a w → wpList P ops Q (ops.toList.drop acc.length) a w) :
    ∀ (fuel : Nat) (listed : Array Bool) (ρ : Nat → R) (a : Act) (w : World), listed.size = ops.size → (List.range ops.size).countP (fun i => !listed.getD i true) ≤ fuel → (∀ i, acc.length ≤ i → i < ops.size → listed.getD i true = false) →
      (∀ f ∈ acc, f.i ∈ listedL ops.size listed → ∀ j ∈ f.dn, j ∈ listedL ops.size listed) → Hold X (stOf st0 (pick (listedL ops.size listed) acc)) ρ a w → wpAny P .any ops Q fuel listed a w := by
  intro fuel
  induction fuel with
  | zero =>
    intro listed ρ a w hs hc hun hcl hH
    have hall : ∀ i, i < ops.size → listed.getD i true = true := fun i hi => by
      have := List.countP_eq_zero.1 (Nat.le_zero.1 hc) i (List.mem_range.2 hi)
      simpa using this
    have hmm : acc.length = ops.size := by
      rcases Nat.lt_or_ge acc.length ops.size with h | h
      · have h1 := hun acc.length (Nat.le_refl _) h
        rw [hall _ h] at h1; cases h1
      · omega
    have hp : pick (listedL ops.size listed) acc = acc := by
      have : ∀ l : List Ent, (∀ e ∈ l, e.i ∈ listedL ops.size listed) → pick (listedL ops.size listed) l = l := by
        intro l
        induction l with
        | nil => intro _; rfl
        | cons e es ih => intro h; rw [pick, if_pos (by simpa using h e List.mem_cons_self), ih fun f hf => h f (List.mem_cons_of_mem _ hf)]
      refine this acc fun e he => mem_listed.2 ⟨by rw [← hmm]; exact hP.lt e he, ?_⟩
      have h1 := hall e.i (by rw [← hmm]; exact hP.lt e he)
      rw [Array.getD_eq_getD_getElem?, Array.getElem?_eq_getElem (by rw [hs, ← hmm]; exact hP.lt e he)] at h1 ⊢
      exact h1
    rw [hp] at hH
    have := htail ρ a w hH
    exact tail_any hbk _ acc.length 0 listed true a w rfl hm (by omega) ⟨hs, fun i hi => by rw [hall i hi]; simp; omega⟩ htl (.inl rfl) this
  | succ fuel ih =>
    intro listed ρ a w hs hc hun hcl hH
    have hget : ∀ i, i < ops.size → listed.getD i true = listed.getD i false := fun i hi => by
      rw [Array.getD_eq_getD_getElem?, Array.getD_eq_getD_getElem?, Array.getElem?_eq_getElem (by rw [hs]; exact hi)]
      rfl
    by_cases hall : ∀ i, i < acc.length → listed.getD i true = true
    · have hp : pick (listedL ops.size listed) acc = acc := by
        have : ∀ l : List Ent, (∀ e ∈ l, e.i ∈ listedL ops.size listed) → pick (listedL ops.size listed) l = l := by
          intro l
          induction l with
          | nil => intro _; rfl
          | cons e es ih => intro h; rw [pick, if_pos (by simpa using h e List.mem_cons_self), ih fun f hf => h f (List.mem_cons_of_mem _ hf)]
        refine this acc fun e he => mem_listed.2 ⟨Nat.lt_of_lt_of_le (hP.lt e he) hm, ?_⟩
        rw [← hget _ (Nat.lt_of_lt_of_le (hP.lt e he) hm)]
        exact hall e.i (hP.lt e he)
      rw [hp] at hH
      have hul : upTo listed acc.length ops.size := ⟨hs, fun i hi => by
        by_cases h : i < acc.length
        · rw [hall i h]; simp [h]
        · rw [hun i (by omega) hi]; simp [h]⟩
      have hcount : ops.size - acc.length ≤ fuel + 1 := by
        refine Nat.le_trans ?_ hc
        have key : ∀ n, n ≤ ops.size → n - acc.length ≤ (List.range n).countP fun i => !listed.getD i true := by
          intro n
          induction n with
          | zero => intro _; simp
          | succ n ihn =>
            intro hn
            have := ihn (by omega)
            rw [List.range_succ, List.countP_append, List.countP_singleton]
            by_cases h : acc.length ≤ n
            · rw [if_pos (by rw [hun n h (by omega)]; rfl)]; omega
            · omega
        exact key _ (Nat.le_refl _)
      exact tail_any hbk _ acc.length (fuel + 1) listed true a w rfl hm hcount hul htl (.inl rfl) (htail ρ a w hH)
    · obtain ⟨i0, hi0, hn0⟩ : ∃ i0, i0 < acc.length ∧ listed.getD i0 true = false := by
        refine Classical.byContradiction fun h => hall fun i hi => ?_
        cases hv : listed.getD i true with
        | true => rfl
        | false => exact absurd ⟨i, hi, hv⟩ h
      refine ⟨fun he => absurd he (ready_some hbk (by omega) hn0), fun i hi => ?_⟩
      obtain ⟨hin, hiu⟩ := ready_in hi
      have hop : ops[i]? = some ops[i] := Array.getElem?_eq_getElem hin
      have hclo : ∀ j, j < acc.length → clos acc ops[i] j = true → listed.getD j false = true := fun j hj hc' => by
        simp only [clos, Bool.or_eq_true, List.any_eq_true, Bool.and_eq_true, List.contains_eq_mem, decide_eq_true_eq] at hc'
        rcases hc' with h | ⟨f, hf, h1, h2⟩
        · exact ready_edge hi hop h
        · exact (mem_listed.1 (hcl f hf (mem_listed.2 ⟨Nat.lt_of_lt_of_le (hP.lt f hf) hm, ready_edge hi hop h1⟩) j h2)).2
      have him : i < acc.length := by
        rcases Nat.lt_or_ge i acc.length with h | h
        · exact h
        · exfalso
          have hl : (ops.toList.drop acc.length)[i - acc.length]? = some ops[i] := by
            rw [List.getElem?_drop, show acc.length + (i - acc.length) = i by omega]; simpa using hop
          rcases tail_edges _ _ _ _ _ htl hl with ⟨_, _, h3⟩ | h3
          · have := hclo i0 hi0 (h3 i0 hi0)
            rw [← hget i0 (by omega), hn0] at this; cases this
          · have h4 := ready_edge hi hop h3
            rcases Nat.lt_or_ge acc.length i with h5 | h5
            · rw [← hget _ (by omega), hun _ (by omega) (by omega)] at h4; cases h4
            · obtain rfl : i = acc.length := by omega
              rcases tail_edges _ _ _ _ _ htl hl with ⟨_, _, h6⟩ | h6
              · have := hclo i0 hi0 (h6 i0 hi0)
                rw [← hget i0 (by omega), hn0] at this; cases this
              · have hz : (ops.toList.drop acc.length) ≠ [] := by intro h; rw [h] at hl; simp at hl
                cases hdl : ops.toList.drop acc.length with
                | nil => exact hz hdl
                | cons q l =>
                  rw [hdl] at htl hl
                  simp at hl
                  subst hl
                  simp only [tailOk, Bool.and_eq_true, if_true, List.all_eq_true, List.mem_range] at htl
                  have := hclo i0 hi0 (htl.1 i0 hi0)
                  rw [← hget i0 (by omega), hn0] at this; cases this
      obtain ⟨e, he, hei⟩ := hP.idx i him
      subst hei
      obtain ⟨o, ho, hd, hdl, hstep, hdn⟩ := hP.ent e he
      have heS : e.i ∉ listedL ops.size listed := fun h => by
        have := (mem_listed.1 h).2
        rw [← hget _ hin, hiu] at this; cases this
      have hdnS : ∀ j ∈ e.dn, j ∈ listedL ops.size listed := fun j hj => by
        rcases hdn j hj with h | ⟨f, hf, h1, h2⟩
        · exact mem_listed.2 ⟨by have := hP.dn2 e he j hj; omega, ready_edge hi ho h⟩
        · exact hcl f hf (mem_listed.2 ⟨Nat.lt_of_lt_of_le (hP.lt f hf) hm, ready_edge hi ho h1⟩) j h2
      have hR := hH.le (R_le hP hC he heS hdnS)
      have hS' : ∀ j, j ∈ listedL ops.size (listed.setIfInBounds e.i true) ↔ j = e.i ∨ j ∈ listedL ops.size listed := fun j => by
        rw [mem_listed, mem_listed, Array.getD_eq_getD_getElem?, Array.getElem?_setIfInBounds]
        by_cases hj : e.i = j
        · subst hj
          rw [if_pos rfl, if_pos (by rw [hs]; exact hin)]
          simp [hin]
        · rw [if_neg hj, ← Array.getD_eq_getD_getElem?]
          constructor
          · exact fun h => .inr h
          · rintro (h | h)
            · exact absurd h.symm hj
            · exact h
      have next : ∀ ρ' a' w', Hold X (stOf st0 (pick (listedL ops.size (listed.setIfInBounds e.i true)) acc)) ρ' a' w' → wpAny P .any ops Q fuel (listed.setIfInBounds e.i true) a' w' := fun ρ' a' w' hH' => by
        refine ih _ ρ' a' w' (by simpa using hs) ?_ (fun j hj hjn => ?_) (fun f hf hfi j hj => ?_) hH'
        · have := countP_lt (p := fun i => !listed.getD i true) (q := fun i => !(listed.setIfInBounds e.i true).getD i true) (l := List.range ops.size) (i := e.i) (fun j hj => by
            rw [Array.getD_eq_getD_getElem?, Array.getElem?_setIfInBounds] at hj
            by_cases h : e.i = j
            · subst h
              rw [if_pos rfl, if_pos (by rw [hs]; exact hin)] at hj
              simp at hj
            · rwa [if_neg h, ← Array.getD_eq_getD_getElem?] at hj) (List.mem_range.2 hin) (by rw [hiu]; rfl) (by
            rw [Array.getD_eq_getD_getElem?, Array.getElem?_setIfInBounds, if_pos rfl, if_pos (by rw [hs]; exact hin)]
            rfl)
          omega
        · rw [Array.getD_eq_getD_getElem?, Array.getElem?_setIfInBounds, if_neg (by omega), ← Array.getD_eq_getD_getElem?]
          exact hun j hj hjn
        · rcases (hS' f.i).1 hfi with h | h
          · obtain rfl := hP.inj f hf e he h
            exact (hS' j).2 (.inr (hdnS j hj))
          · exact (hS' j).2 (.inr (hcl f hf h j hj))
      unfold wpOp
      rw [ho]
      simp only
      rcases hstep with ⟨hg, D, hst, hgood⟩ | ⟨hg, hv, hnb, hgone⟩
      · rw [guard_sound hR hg, if_pos rfl]
        refine .inl (hst ρ a w hR _ _ fun x ρ' w' hout => next ρ' _ w' ?_)
        have hgen : ∃ ch kl, Evo X ρ w ρ' w' ch kl ∧ RdV w' (okOf X ρ' w') ρ' e.v x ∧ (∀ id b, get id e.nb = some b → HasB X w' ρ' id b) ∧ (∀ id ∈ ch, id ∈ kl) ∧ ∀ id ∈ kl, id ∈ e.nb.map (·.1) ∨ id ∈ e.gone := by
          rcases hgood with ⟨rfl, h2, h3⟩ | ⟨ch, kl, rfl, h2, h3⟩
          · obtain ⟨rfl, rfl, h4⟩ := hout
            exact ⟨[], [], Evo.refl hH, h4, (fun id b h => by rw [h2] at h; cases h), (fun _ h => h), fun _ h => by cases h⟩
          · exact ⟨ch, kl, hout.1, hout.2.1, hout.2.2, h2, h3⟩
        obtain ⟨ch, kl, hevo, hrd, hnbs, hck, hkl⟩ := hgen
        have hT := (hH.turn hevo hnbs).put (dst := e.dst) (by rw [hd]; exact dst_lt hdl) hrd
        rw [← hd]
        exact hT.le (S_le hP hC he hS' heS hcl hck hkl)
      · rw [guard_sound hR hg, if_neg (by simp)]
        refine next ρ _ w ?_
        have hT := (hH.turn (Evo.refl hH) (nb := e.nb) (fun id b h => by rw [hnb] at h; cases h)).put (dst := e.dst) (v := e.v) (x := undef) (by rw [hd]; exact dst_lt hdl) (by rw [hv]; unfold RdV; exact ⟨#[], rfl, by unfold RdVs; trivial⟩)
        rw [← hd]
        exact hT.le (S_le hP hC he hS' heS hcl (by simp) (by simp))
end
end Go.Proofs.Ytoghgjobfcnneaa.Ax
