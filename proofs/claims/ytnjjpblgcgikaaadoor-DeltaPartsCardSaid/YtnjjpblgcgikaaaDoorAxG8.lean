/- Regions that draw their order, walked one operation at a time. -/
import Derived.Test.YtnjjpblgcgikaaaDoorAxG7
namespace Go.Proofs.YtnjjpblgcgikaaaDoor.Ax
open Go.RowKit
set_option linter.unnecessarySimpa false
mutual
def C.ids : C → List Nat
  | .own i _ | .optr i _ | .eptr i _ _ _ | .omap i | .ocut i _ _ _ => [i]
  | .fn _ caps => C.idss caps
  | _ => []
def C.idss : List C → List Nat
  | [] => []
  | c :: cs => c.ids ++ C.idss cs
end
mutual
def V.ids : V → List Nat
  | .one c => c.ids
  | .agg cs => C.idss cs
  | .tup vs => V.idss vs
  | .junk => []
def V.idss : List V → List Nat
  | [] => []
  | v :: vs => v.ids ++ V.idss vs
end
/-- by which operation a temporary is written -/
def provOf (F : List Fo) (H : List No) (t : Nat) : Option Nat :=
  match F with
  | f :: fs => if t = f.dst then some f.i else provOf fs H t
  | [] => provH H
  where provH : List No → Option Nat
  | [] => none
  | h :: hs => match h.dst with
    | some d => if t = d then some h.i else provH hs
    | none => provH hs
def rdsOf (F : List Fo) (H : List No) (sl : List (Nat × V)) : List Nat → List (Nat × V × Option Nat)
  | [] => []
  | t :: ts => match get t sl with
    | some v => (t, v, provOf F H t) :: rdsOf F H sl ts
    | none => rdsOf F H sl ts
def idsR : List (Nat × V × Option Nat) → List Nat
  | [] => []
  | p :: l => p.2.1.ids ++ idsR l
def provR : List (Nat × V × Option Nat) → List Nat
  | [] => []
  | p :: l => match p.2.2 with
    | some k => k :: provR l
    | none => provR l
def nbIds : Delta → List Nat
  | .mod _ _ _ nb => nb.map (·.1)
  | .pure _ => []
/-- by which operation a block has been written last -/
def provBl (id : Nat) : List No → Option Nat → Option Nat
  | [], r => r
  | h :: hs, r => provBl id hs (if (nbIds h.D).contains id = true then some h.i else r)
def remN (x : Nat) : List Nat → List Nat
  | [] => []
  | y :: l => if y = x then remN x l else y :: remN x l
def blsOf (H : List No) (is : List Nat) : List (Nat × B) → List (Nat × B × Option Nat)
  | [] => []
  | p :: l => match is.contains p.1 with
    | true => (p.1, p.2, provBl p.1 H none) :: blsOf H (remN p.1 is) l
    | false => blsOf H is l
def provBs : List (Nat × B × Option Nat) → List Nat
  | [] => []
  | p :: l => match p.2.2 with
    | some k => k :: provBs l
    | none => provBs l
/-- does an operation read blocks? -/
def looksB : Op → Bool
  | .load .. | .indexAddr .. | .convert .. | .call .. | .slice .. => true
  | _ => false
/-- operations that come ahead, and what comes ahead of them -/
def dnA (F : List Fo) (H : List No) : List Nat → List Nat
  | [] => []
  | j :: js => insN j (insAll (dnE F H j) (dnA F H js))
def edgesOf (o : Oper) : List Nat := o.after.toList.filterMap fun e => if Region.binds .any e = true then some e.on else none
theorem anyText : (Region.Mode.any == Region.Mode.text) = false := rfl
theorem anyGc : (Region.Mode.any == Region.Mode.gc) = false := rfl
def foE (P : Program) (ops : Array Oper) (F : List Fo) (H : List No) (kd : List (Nat × Nat)) (st : St) (k : Nat) (o : Oper) : Option Fo :=
  match o.dst with
  | some d => foR P ops F H st k o d (rdsOf F H (foSl (fun _ => true) (aliveF kd F) ++ st.sl) (Oper.looksAt ops o))
  | none => none
  where
  foR (P : Program) (ops : Array Oper) (F : List Fo) (H : List No) (st : St) (k : Nat) (o : Oper) (d : Nat) (rd : List (Nat × V × Option Nat)) : Option Fo :=
    match looksB o.op with
    | true => foB P ops F H k o d rd (blsOf H (idsR rd) st.bl)
    | false => foB P ops F H k o d rd []
  foB (P : Program) (ops : Array Oper) (F : List Fo) (H : List No) (k : Nat) (o : Oper) (d : Nat) (rd : List (Nat × V × Option Nat)) (bl : List (Nat × B × Option Nat)) : Option Fo :=
    match guardOf ⟨rd.map fun p => (p.1, p.2.1), bl.map fun p => (p.1, p.2.1)⟩ ops o with
    | some true => match exec1 P ⟨rd.map fun p => (p.1, p.2.1), bl.map fun p => (p.1, p.2.1)⟩ o with
      | some (.pure v) => some ⟨k, d, v, rd, bl, true, dnA F H (provR rd ++ provBs bl)⟩
      | _ => none
    | some false => some ⟨k, d, .tup [], rd, bl, false, dnA F H (provR rd ++ provBs bl)⟩
    | none => none
/-- operations, one by one as they stand -/
inductive SPre (P : Program) (X : Cx) (ops : Array Oper) (st0 : St) : List Fo → List No → List Nat → List (Nat × Nat) → St → Nat → Prop
  | nil : SPre P X ops st0 [] [] [] [] st0 0
  | fl {F : List Fo} {H : List No} {done : List Nat} {kd : List (Nat × Nat)} {st : St} {k : Nat} {f : Fo} : SPre P X ops st0 F H done kd st k → f.i = k → FoOp P X ops f → SPre P X ops st0 (F ++ [f]) H done kd st (k + 1)
  | no {F : List Fo} {H : List No} {done : List Nat} {kd : List (Nat × Nat)} {st : St} {k : Nat} {h : No} {o : Oper} : SPre P X ops st0 F H done kd st k → h.i = k → h.dst = o.dst → h.done = done → h.kd = kd → h.st = st → ops[k]? = some o → dstOk X.n o.dst = true →
      guardOf (addF (foSl (inL h.dn) (aliveF kd F)) st) ops o = some true → Step P X (addF (foSl (inL h.dn) (aliveF kd F)) st) o h.D → SPre P X ops st0 F (H ++ [h]) (k :: done) (klAt k h.D ++ kd) ((addF (foSl (inL h.dn) (aliveF kd F)) st).app h.D o.dst) (k + 1)
def ndB : List Nat → Bool
  | [] => true
  | x :: l => !l.contains x && ndB l
def chB : List No → Bool
  | [] => true
  | h :: hs => hs.all (fun g => g.dn.contains h.i) && chB hs
/-- what the operations' places say, to be reckoned -/
def sqB (ops : Array Oper) (F : List Fo) (H : List No) : Bool :=
  (List.range ops.size).all (fun i => (H.map (·.i)).contains i || (F.map (·.i)).contains i) && F.all (fun f => decide (f.i < ops.size)) && ndB (F.map (·.i)) && ndB (F.map (·.dst)) && F.all (fun f => !(H.map (·.i)).contains f.i) && ndB (H.map (·.i)) && chB H &&
  F.all (fun f => f.rd.all fun p => match p.2.2 with
    | none => F.all fun g => g.dst != p.1
    | some k => f.dn.contains k && (if (H.map (·.i)).contains k then F.all (fun g => g.dst != p.1) else (F.map (·.i)).contains k)) &&
  F.all (fun f => f.bl.all fun p => match p.2.2 with
    | none => true
    | some k => f.dn.contains k && (H.map (·.i)).contains k) &&
  F.all (fun f => match ops[f.i]? with
    | some o => f.dn.all fun j => edge o j || (edgesOf o).any fun k => (dnE F H k).contains j
    | none => false) &&
  H.all (fun h => (match ops[h.i]? with
    | some o => h.dn.all fun j => edge o j || (edgesOf o).any fun k => (dnE F H k).contains j
    | none => false) && h.dn.all fun j => decide (j < h.i))
def findF (k : Nat) : List Fo → Option Fo
  | [] => none
  | f :: fs => if k = f.i then some f else findF k fs
/-- a value that another operation has left is what is read -/
def provF (F : List Fo) : List Fo → Prop
  | [] => True
  | f :: fs => provP f.rd ∧ provF F fs
  where provP : List (Nat × V × Option Nat) → Prop
  | [] => True
  | p :: l => (match p.2.2 with
    | some k => match findF k F with
      | some g => g.dst = p.1 ∧ g.v = p.2.1
      | none => True
    | none => True) ∧ provP l
def hsOk (F : List Fo) (H : List No) : List No → Prop
  | [] => True
  | h :: hs => FHave F H h.done h.kd h.st F ∧ NDst h.dst F = true ∧ hsOk F H hs
section
variable {P : Program} {X : Cx} {ops : Array Oper} {F : List Fo} {H : List No} {st st0 : St} {done : List Nat} {kd : List (Nat × Nat)} {K : St → Prop}
theorem ndB_nodup : ∀ {l : List Nat}, ndB l = true → l.Nodup
  | [], _ => List.nodup_nil
  | x :: l, h => by
    simp only [ndB, Bool.and_eq_true, Bool.not_eq_true', List.contains_eq_mem, decide_eq_false_iff_not] at h
    exact List.nodup_cons.2 ⟨h.1, ndB_nodup h.2⟩
theorem nodup_inj {α : Type} {g : α → Nat} : ∀ {l : List α}, (l.map g).Nodup → ∀ a ∈ l, ∀ b ∈ l, g a = g b → a = b
  | [], _, _, h, _, _, _ => by cases h
  | x :: l, hn, a, ha, b, hb, he => by
    rw [List.map_cons, List.nodup_cons] at hn
    rcases List.mem_cons.1 ha with h1 | h1 <;> rcases List.mem_cons.1 hb with h2 | h2
    · rw [h1, h2]
    · exact absurd (List.mem_map.2 ⟨b, h2, by rw [← he, h1]⟩) hn.1
    · exact absurd (List.mem_map.2 ⟨a, h1, by rw [he, h2]⟩) hn.1
    · exact nodup_inj hn.2 a h1 b h2 he
theorem mem_dnF {i j : Nat} : ∀ {F : List Fo}, j ∈ dnF F i → ∃ f ∈ F, f.i = i ∧ j ∈ f.dn
  | [], h => by cases h
  | f :: fs, h => by
    unfold dnF at h
    split at h
    · rename_i he; exact ⟨f, List.mem_cons_self, he.symm, h⟩
    · obtain ⟨g, h1, h2⟩ := mem_dnF h; exact ⟨g, List.mem_cons_of_mem _ h1, h2⟩
theorem mem_dnH {i j : Nat} : ∀ {F : List No}, j ∈ dnH F i → ∃ f ∈ F, f.i = i ∧ j ∈ f.dn
  | [], h => by cases h
  | f :: fs, h => by
    unfold dnH at h
    split at h
    · rename_i he; exact ⟨f, List.mem_cons_self, he.symm, h⟩
    · obtain ⟨g, h1, h2⟩ := mem_dnH h; exact ⟨g, List.mem_cons_of_mem _ h1, h2⟩
theorem dnH_of (hn : (H.map (·.i)).Nodup) {h : No} (hh : h ∈ H) : dnH H h.i = h.dn := by
  have key : ∀ l : List No, h ∈ l → (∀ g ∈ l, g ∈ H) → dnH l h.i = h.dn := by
    intro l
    induction l with
    | nil => intro h; cases h
    | cons g l ih =>
      intro hm hs
      unfold dnH
      split
      · rename_i he
        rw [nodup_inj hn h hh g (hs g List.mem_cons_self) he]
      · rename_i he
        rcases List.mem_cons.1 hm with hm | hm
        · exact absurd (by rw [hm]) he
        · exact ih hm fun x hx => hs x (List.mem_cons_of_mem _ hx)
  exact key H hh fun _ h => h
theorem edgesOf_edge {o : Oper} {k : Nat} (h : k ∈ edgesOf o) : edge o k = true := by
  unfold edgesOf at h
  obtain ⟨e, h1, h2⟩ := List.mem_filterMap.1 h
  split at h2
  · rename_i hb
    injection h2 with h2
    unfold edge
    rw [List.any_eq_true]
    exact ⟨e, h1, by rw [hb, h2]; simp⟩
  · cases h2
theorem findF_mem {k : Nat} {g : Fo} : ∀ {F : List Fo}, findF k F = some g → g ∈ F ∧ g.i = k
  | [], h => by cases h
  | f :: fs, h => by
    unfold findF at h
    split at h
    · rename_i he
      injection h with h
      subst h
      exact ⟨List.mem_cons_self, he.symm⟩
    · obtain ⟨h1, h2⟩ := findF_mem h; exact ⟨List.mem_cons_of_mem _ h1, h2⟩
theorem findF_some {k : Nat} : ∀ {F : List Fo}, k ∈ F.map (·.i) → ∃ g, findF k F = some g
  | [], h => by cases h
  | f :: fs, h => by
    unfold findF
    by_cases he : k = f.i
    · exact ⟨f, if_pos he⟩
    · rw [if_neg he]
      rw [List.map_cons] at h
      rcases List.mem_cons.1 h with h | h
      · exact absurd h he
      · exact findF_some h
theorem provF_mem {G : List Fo} : ∀ {F : List Fo}, provF G F → ∀ f ∈ F, ∀ p ∈ f.rd, ∀ k g, p.2.2 = some k → findF k G = some g → g.dst = p.1 ∧ g.v = p.2.1
  | [], _, _, hf, _, _, _, _, _, _ => by cases hf
  | f :: fs, h, x, hf, p, hp, k, g, hk, hg => by
    unfold provF at h
    rcases List.mem_cons.1 hf with rfl | hf
    · have h1 := h.1
      revert h1 hp
      generalize x.rd = l
      induction l with
      | nil => intro hp _; cases hp
      | cons q l ih =>
        intro hp h1
        unfold provF.provP at h1
        rcases List.mem_cons.1 hp with rfl | hp
        · have := h1.1
          rw [hk] at this
          simp only [hg] at this
          exact this
        · exact ih hp h1.2
    · exact provF_mem h.2 x hf p hp k g hk hg
theorem sqOk_of (hc : sqB ops F H = true) (hp : provF F F) : SqOk ops F H (H.map (·.i)) := by
  unfold sqB at hc
  simp only [Bool.and_eq_true, List.all_eq_true, decide_eq_true_eq, Bool.not_eq_true', List.contains_eq_mem, decide_eq_false_iff_not, Bool.or_eq_true, List.mem_range] at hc
  obtain ⟨⟨⟨⟨⟨⟨⟨⟨⟨⟨c1, c2⟩, c3⟩, c4⟩, c5⟩, c6⟩, c7⟩, c8⟩, c8b⟩, c9⟩, c10⟩ := hc
  have n1 := ndB_nodup c3
  have n2 := ndB_nodup c4
  have n3 := ndB_nodup c6
  refine ⟨fun i hi => ?_, c2, nodup_inj n1, nodup_inj n2, c5, n3, ?_, fun f hf p hp' => ?_, fun f hf p hp' k hk => ?_, fun i j hj => ?_⟩
  · rcases c1 i hi with h | h
    · exact .inl h
    · obtain ⟨f, h1, h2⟩ := List.mem_map.1 h; exact .inr ⟨f, h1, h2⟩
  · have key : ∀ l : List No, chB l = true → (∀ g ∈ l, g ∈ H) → (l.map fun h : No => h.i).Pairwise fun a b => a ∈ dnH H b := by
      intro l
      induction l with
      | nil => intro _ _; exact List.Pairwise.nil
      | cons h l ih =>
        intro hc hs
        simp only [chB, Bool.and_eq_true, List.all_eq_true, List.contains_eq_mem, decide_eq_true_eq] at hc
        rw [List.map_cons]
        refine List.pairwise_cons.2 ⟨fun b hb => ?_, ih hc.2 fun g hg => hs g (List.mem_cons_of_mem _ hg)⟩
        obtain ⟨g, h1, rfl⟩ := List.mem_map.1 hb
        rw [dnH_of n3 (hs g (List.mem_cons_of_mem _ h1))]
        exact hc.1 g h1
    exact key H c7 fun _ h => h
  · have h8 := c8 f hf p hp'
    refine ⟨fun k hk => ?_, ?_⟩
    · rw [hk] at h8
      simp only [Bool.and_eq_true, decide_eq_true_eq] at h8
      exact h8.1
    · cases hk : p.2.2 with
      | none =>
        rw [hk] at h8
        simp only [List.all_eq_true, bne_iff_ne] at h8
        exact .inl ⟨.inl rfl, h8⟩
      | some k =>
        rw [hk] at h8
        simp only [Bool.and_eq_true, decide_eq_true_eq] at h8
        obtain ⟨_, h8⟩ := h8
        split at h8
        · rename_i hm
          simp only [List.all_eq_true, bne_iff_ne] at h8
          exact .inl ⟨.inr ⟨k, by simpa using hm, rfl⟩, h8⟩
        · obtain ⟨g, hg⟩ := findF_some (by simpa using h8)
          obtain ⟨g1, g2⟩ := findF_mem hg
          obtain ⟨g3, g4⟩ := provF_mem hp f hf p hp' k g hk hg
          exact .inr ⟨g, g1, by rw [g2], g3, g4⟩
  · have h8 := c8b f hf p hp'
    rw [hk] at h8
    simpa using h8
  · rcases List.mem_append.1 hj with h | h
    · obtain ⟨f, h1, h2, h3⟩ := mem_dnF h
      have h9 := c9 f h1
      rw [h2] at h9
      split at h9
      · rename_i o ho
        refine ⟨o, ho, ?_⟩
        simp only [List.all_eq_true, Bool.or_eq_true, List.any_eq_true, decide_eq_true_eq] at h9
        rcases h9 j h3 with h4 | ⟨k, h4, h5⟩
        · exact .inl h4
        · exact .inr ⟨k, edgesOf_edge h4, h5⟩
      · cases h9
    · obtain ⟨f, h1, h2, h3⟩ := mem_dnH h
      have h9 := (c10 f h1).1
      rw [h2] at h9
      split at h9
      · rename_i o ho
        refine ⟨o, ho, ?_⟩
        simp only [List.all_eq_true, Bool.or_eq_true, List.any_eq_true, decide_eq_true_eq] at h9
        rcases h9 j h3 with h4 | ⟨k, h4, h5⟩
        · exact .inl h4
        · exact .inr ⟨k, edgesOf_edge h4, h5⟩
      · cases h9
theorem hsOk_mem {G : List No} : ∀ {H : List No}, hsOk F G H → ∀ h ∈ H, FHave F G h.done h.kd h.st F ∧ NDst h.dst F = true
  | [], _, _, hh => by cases hh
  | g :: hs, h, x, hx => by
    unfold hsOk at h
    rcases List.mem_cons.1 hx with rfl | hx
    · exact ⟨h.1, h.2.1⟩
    · exact hsOk_mem h.2.2 x hx
theorem aliveF_append {kd : List (Nat × Nat)} : ∀ {F G : List Fo}, aliveF kd (F ++ G) = aliveF kd F ++ aliveF kd G
  | [], _ => rfl
  | f :: F, G => by
    cases h : mK f.dn f.v kd
    · simp only [List.cons_append, aliveF, h, aliveF_append]
    · simp only [List.cons_append, aliveF, h, aliveF_append]
/-- what was done one by one is a way from the beginning -/
theorem spre_path {k : Nat} (hp : SPre P X ops st0 F H done kd st k) : ∀ (Ff : List Fo) (Hf : List No), (∀ h ∈ H, FHave Ff Hf h.done h.kd h.st Ff ∧ NDst h.dst Ff = true) → (∃ G, Ff = F ++ G ∧ ∀ g ∈ G, k ≤ g.i) → (∀ h ∈ H, dnH Hf h.i = h.dn ∧ ∀ j ∈ h.dn, j < h.i) →
    ∀ todo, NOk P X ops Ff Hf K done kd todo st → NOk P X ops Ff Hf K [] [] (done.reverse ++ todo) st0 := by
  induction hp with
  | nil => intro Ff Hf _ _ _ todo h; exact h
  | @fl F H done kd st k f hp hi hop ih =>
    intro Ff Hf hA ⟨G, hG, hGi⟩ hC todo h
    refine ih Ff Hf hA ⟨f :: G, by rw [hG]; simp, fun g hg => ?_⟩ hC todo h
    rcases List.mem_cons.1 hg with rfl | hg
    · omega
    · have := hGi g hg; omega
  | @no F H done kd st k h o hp hi hd hdone hkd hst ho hdo hg hs ih =>
    intro Ff Hf hA ⟨G, hG, hGi⟩ hC todo hn
    have hm : h ∈ H ++ [h] := by simp
    obtain ⟨a1, a2⟩ := hA h hm
    obtain ⟨c1, c2⟩ := hC h hm
    have hfo : foSl (inL (dnH Hf k)) (aliveF kd Ff) = foSl (inL h.dn) (aliveF kd F) := by
      rw [← hi, c1, hG, aliveF_append]
      refine foSl_append fun g hg => ?_
      have h1 := hGi g (mem_alive.1 hg).1
      cases hv : inL h.dn g.i with
      | false => rfl
      | true =>
        have := c2 g.i (by simpa [inL] using hv)
        omega
    have step : NOk P X ops Ff Hf K done kd (k :: todo) st := by
      unfold NOk
      refine ⟨by rw [← hdone, ← hst, ← hkd]; exact a1, o, h.D, ho, hdo, by rw [hfo]; exact hg, by rw [hfo]; exact hs, by rw [← hd]; exact a2, ?_⟩
      rw [hfo]
      exact hn
    have := ih Ff Hf (fun g hg => hA g (List.mem_append_left _ hg)) ⟨G, hG, fun g hg => by have := hGi g hg; omega⟩ (fun g hg => hC g (List.mem_append_left _ hg)) (k :: todo) step
    rw [List.reverse_cons, List.append_assoc]
    exact this
theorem spre_ops {k : Nat} (hp : SPre P X ops st0 F H done kd st k) : (∀ f ∈ F, FoOp P X ops f) ∧ done.reverse = H.map (·.i) := by
  induction hp with
  | nil => exact ⟨(fun _ h => by cases h), rfl⟩
  | @fl F H done kd st k f hp hi hop ih =>
    refine ⟨fun g hg => ?_, ih.2⟩
    rcases List.mem_append.1 hg with hg | hg
    · exact ih.1 g hg
    · rw [List.mem_singleton.1 hg]; exact hop
  | @no F H done kd st k h o hp hi hd hdone hkd hst ho hdo hg hs ih =>
    refine ⟨ih.1, ?_⟩
    rw [List.reverse_cons, ih.2, List.map_append, ← hi]; rfl
/-- a region that is walked whole -/
def SFin (P : Program) (X : Cx) (ops : Array Oper) (st0 : St) (K : St → Prop) : Prop :=
  ∃ F H done kd st k, SPre P X ops st0 F H done kd st k ∧ sqB ops F H = true ∧ provF F F ∧ hsOk F H H ∧ FHave F H done kd st F ∧ K (addF (foSl (fun _ => true) (aliveF kd F)) st)
/-- the operations walked so far, and what is left of the region, lead to K -/
def SB (P : Program) (X : Cx) (ops : Array Oper) (st0 : St) (K : St → Prop) (F : List Fo) (H : List No) (done : List Nat) (kd : List (Nat × Nat)) (st : St) (l : List Oper) (k : Nat) : Prop :=
  SPre P X ops st0 F H done kd st k → ops.toList.drop k = l → SFin P X ops st0 K
variable {l : List Oper} {o : Oper} {k : Nat}
theorem drop_op (hl : ops.toList.drop k = o :: l) : ops[k]? = some o ∧ ops.toList.drop (k + 1) = l := by
  have : (ops.toList.drop k)[0]? = some o := by rw [hl]; rfl
  refine ⟨by simpa using this, ?_⟩
  have := congrArg (List.drop 1) hl
  rw [List.drop_drop] at this
  simpa using this
theorem foE_op {f : Fo} (hf : foE P ops F H kd st k o = some f) (hd : dstOk X.n o.dst = true) (ho : ops[k]? = some o) : f.i = k ∧ FoOp P X ops f := by
  unfold foE at hf
  split at hf
  · rename_i d hdst
    have hdn : d < X.n := by rw [hdst] at hd; simpa [dstOk] using hd
    have hB : ∀ bl, foE.foB P ops F H k o d (rdsOf F H (foSl (fun _ => true) (aliveF kd F) ++ st.sl) (Oper.looksAt ops o)) bl = some f → f.i = k ∧ FoOp P X ops f := fun bl hf => by
      unfold foE.foB at hf
      split at hf
      · rename_i hg
        split at hf
        · rename_i v hx
          injection hf with hf
          subst hf
          exact ⟨rfl, o, ho, hdst, hdn, .inl ⟨rfl, hg, (exec1_runs hx).step⟩⟩
        · cases hf
      · rename_i hg
        injection hf with hf
        subst hf
        exact ⟨rfl, o, ho, hdst, hdn, .inr ⟨rfl, hg, rfl⟩⟩
      · cases hf
    unfold foE.foR at hf
    split at hf
    · exact hB _ hf
    · exact hB _ hf
  · cases hf
/-- an operation that only reads -/
theorem sb_fl {f : Fo} {F' : List Fo} (hf : foE P ops F H kd st k o = some f) (hd : dstOk X.n o.dst = true) (ha : F ++ [f] = F') (h : SB P X ops st0 K F' H done kd st l (k + 1)) : SB P X ops st0 K F H done kd st (o :: l) k := fun hp hl => by
  obtain ⟨h1, h2⟩ := drop_op hl
  obtain ⟨h3, h4⟩ := foE_op (X := X) hf hd h1
  subst ha
  exact h (.fl hp h3 h4) h2
/-- one that turns memory -/
theorem sb_step {R st' : St} {D : Delta} {dn : List Nat} {kd' : List (Nat × Nat)} {H' : List No} (hdn : dnA F H (edgesOf o) = dn) (hR : addF (foSl (inL dn) (aliveF kd F)) st = R) (hg : guardOf R ops o = some true) (hs : Step P X R o D) (hd : dstOk X.n o.dst = true) (ha : H ++ [⟨k, o.dst, done, kd, st, D, dn⟩] = H') (hkd : klAt k D ++ kd = kd') (hst : R.app D o.dst = st') (h : SB P X ops st0 K F H' (k :: done) kd' st' l (k + 1)) : SB P X ops st0 K F H done kd st (o :: l) k := fun hp hl => by
  obtain ⟨h1, h2⟩ := drop_op hl
  subst hdn
  subst hR
  subst ha
  subst hkd
  subst hst
  exact h (.no (h := ⟨k, o.dst, done, kd, st, D, _⟩) hp rfl rfl rfl rfl rfl h1 hd hg hs) h2
theorem sb_no {R st' : St} {D : Delta} {dn : List Nat} {kd' : List (Nat × Nat)} {H' : List No} (hdn : dnA F H (edgesOf o) = dn) (hR : addF (foSl (inL dn) (aliveF kd F)) st = R) (hg : guardOf R ops o = some true) (hx : exec1 P R o = some D) (hd : dstOk X.n o.dst = true) (ha : H ++ [⟨k, o.dst, done, kd, st, D, dn⟩] = H') (hkd : klAt k D ++ kd = kd') (hst : R.app D o.dst = st') (h : SB P X ops st0 K F H' (k :: done) kd' st' l (k + 1)) : SB P X ops st0 K F H done kd st (o :: l) k :=
  sb_step hdn hR hg (exec1_runs hx).step hd ha hkd hst h
theorem sb_call {R st' : St} {dn : List Nat} {kd' : List (Nat × Nat)} {H' : List No} {c : Call} {cv : Operand} {f : FuncId} {as_ : List A} {res : V} {nb : List (Nat × B)} (n : Nat) (hsp : Sp P f as_ res nb) (hop : o.op = .call c) (hcal : c.callee = .value cv) (hdn : dnA F H (edgesOf o) = dn) (hR : addF (foSl (inL dn) (aliveF kd F)) st = R)
    (hc : callAll R n cv c.args.toList = some (f, as_)) (hm : modeOk R n cv c.args.toList res nb = true) (hg : guardOf R ops o = some true) (hd : (dstOk X.n o.dst && nbOk X.n nb) = true) (ha : H ++ [⟨k, o.dst, done, kd, st, callD res nb, dn⟩] = H') (hkd : klAt k (callD res nb) ++ kd = kd') (hst : R.app (callD res nb) o.dst = st') (h : SB P X ops st0 K F H' (k :: done) kd' st' l (k + 1)) : SB P X ops st0 K F H done kd st (o :: l) k := by
  rw [Bool.and_eq_true] at hd
  refine sb_step hdn hR hg ?_ hd.1 ha hkd hst h
  unfold callAll at hc
  split at hc
  · rename_i p hp
    split at hc
    · rename_i qs hqs
      obtain ⟨g, caps⟩ := p
      simp only [Option.some.injEq, Prod.mk.injEq] at hc
      obtain ⟨rfl, rfl⟩ := hc
      refine call_step (n := n) hop hcal hp hqs hsp ?_ hd.2
      unfold modeOk at hm
      rw [hp] at hm
      simp only [Bool.or_eq_true, Bool.and_eq_true, List.isEmpty_iff, List.all_eq_true] at hm
      exact hm.imp (fun h => ⟨h.2, h.1⟩) fun h => h
    · cases hc
  · cases hc
/-- the region is done -/
theorem sb_end (hc : sqB ops F H = true) (hp : provF F F) (hh : hsOk F H H) (hf : FHave F H done kd st F) (h : K (addF (foSl (fun _ => true) (aliveF kd F)) st)) : SB P X ops st0 K F H done kd st [] k := fun hs _ => ⟨F, H, done, kd, st, k, hs, hc, hp, hh, hf, h⟩
end
def dropS (st : St) (ds : List Nat) : St := ⟨st.sl.filter fun p => !ds.contains p.1, st.bl⟩
theorem mem_dstsOf {d : Nat} : ∀ {l : List Oper} {i : Nat} {o : Oper}, l[i]? = some o → o.dst = some d → d ∈ dstsOf l
  | [], _, _, h, _ => by simp at h
  | x :: l, 0, o, h, hd => by
    simp at h
    subst h
    unfold dstsOf
    rw [hd]
    exact List.mem_cons_self
  | x :: l, i + 1, o, h, hd => by
    have := mem_dstsOf (l := l) (i := i) (o := o) (by simpa using h) hd
    unfold dstsOf
    split
    · exact List.mem_cons_of_mem _ this
    · exact this
theorem cw_sq {P : Program} {X : Cx} {st st1 : St} {id : Nat} {l : List Oper} {Q : Exit → St → Prop} {ds : List Nat} (hmix : P.follows .mixedOrders = true) (hbk : backOk l = true) (hds : dstsOf l = ds) (hst : dropS st ds = st1)
    (h : ∀ K : St → Prop, (∀ s, Q .normal s → K s) → SB P X l.toArray st1 K [] [] [] [] st1 l 0) : CW P X (.region id l.toArray true) Q st := fun ρ a w hH => by
  subst hds
  subst hst
  refine wp_region_any hmix ?_
  obtain ⟨F, H, done, kd, s, k, hp, hc, hpr, hh, hf, hK⟩ := h (fun s => Q .normal s) (fun _ h => h) .nil rfl
  obtain ⟨hops, hdone⟩ := spre_ops hp
  have hok := sqOk_of hc hpr
  have hpath := spre_path (K := fun s => Q .normal s) hp F H (hsOk_mem hh) ⟨[], by simp, fun _ h => by cases h⟩ (fun g hg => ⟨dnH_of hok.nod hg, by
    unfold sqB at hc
    simp only [Bool.and_eq_true, List.all_eq_true, decide_eq_true_eq] at hc
    exact (hc.2 g hg).2⟩) [] (by unfold NOk; exact ⟨hf, hK⟩)
  rw [List.append_nil, hdone] at hpath
  have hrep : ∀ i, (Array.replicate l.toArray.size false).getD i false = false := fun i => rep_false _ _
  have hrep' : ∀ i, i < l.toArray.size → (Array.replicate l.toArray.size false).getD i true = false := fun i hi => by
    rw [List.size_toArray] at hi; simp [hi]
  refine sq_any (by simpa using hbk) hops hok (fun s ρ a w hs hH => ⟨s, ρ, hs, hH⟩) _ [] [] _ _ _ ρ _ _ (by simp) ?_ (by simp) (fun i _ hi => ?_) (fun i j hi hl _ => ?_) hpath (fun f hf u hu => ?_) ?_
  · refine Nat.le_trans (List.countP_le_length) ?_
    simp
  · rw [hrep' i hi]; simp
  · rw [hrep' i hi] at hl; cases hl
  · exfalso
    obtain ⟨o, ho, hd, _⟩ := hops f hf
    have hm := mem_dstsOf (l := l) (i := f.i) (by simpa using ho) hd
    have := (get_filter (p := fun t => !(dstsOf l).contains t) hu).2
    simp [hm] at this
  · have hal : foSl (fun i => (Array.replicate l.toArray.size false).getD i true) (aliveF [] F) = [] := by
      rw [foSl_congr (q := fun _ => false) fun f hf => hrep' f.i (hok.lt f (mem_alive.1 hf).1)]
      have : ∀ G : List Fo, foSl (fun _ => false) G = [] := by
        intro G
        induction G with
        | nil => rfl
        | cons g G ih => unfold foSl; exact ih
      exact this _
    rw [hal]
    have hl : (addF [] (dropS st (dstsOf l))).le st := ⟨fun t v h => (get_filter (p := fun t => !(dstsOf l).contains t) h).1, fun t v h => h⟩
    exact (hH.le hl).draw
end Go.Proofs.YtnjjpblgcgikaaaDoor.Ax
