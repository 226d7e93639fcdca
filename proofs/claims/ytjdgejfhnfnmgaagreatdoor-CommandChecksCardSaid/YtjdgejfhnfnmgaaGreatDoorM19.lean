/-  -/
import Derived.Test.YtjdgejfhnfnmgaaGreatDoorM8
import Derived.Test.YtjdgejfhnfnmgaaGreatDoorM18
import Derived.Test.YtjdgejfhnfnmgaaGreatDoorAxW
namespace Go.Proofs.YtjdgejfhnfnmgaaGreatDoor.Ax
open Go.RowKit Go.Deep
section
variable {w : World} {ok : Nat → Prop}
theorem RdL.len' : ∀ {ts : List T} {cs : List Value}, RdL w ok ts cs → cs.length = ts.length
 | [], [], _ => rfl
 | _ :: _, _ :: _, h => by unfold RdL at h; rw [List.length_cons, List.length_cons, RdL.len' h.2]
 | [], _ :: _, h => by unfold RdL at h; exact h.elim
 | _ :: _, [], h => by unfold RdL at h; exact h.elim
theorem rdRow_of {b : Nat} : ∀ {ts : List T} {cs : List Value} {o : Nat}, RdL w ok ts cs → (∀ j u, cs[j]? = some u → w.cell? ⟨b, o + j, none⟩ = some u) → RdRow w ok b o ts
 | [], _, _, _, _ => by unfold RdRow; trivial
 | t :: ts, [], _, h, _ => by unfold RdL at h; exact h.elim
 | t :: ts, c :: cs, o, h, hc => by
  unfold RdL at h
  unfold RdRow
  exact ⟨⟨c, hc 0 c rfl, h.1⟩, rdRow_of h.2 fun j u hu => by have := hc (j + 1) u (by simpa using hu); rwa [show o + 1 + j = o + (j + 1) by omega]⟩
theorem rdRows_of {b s : Nat} : ∀ {rows : List (List T)} {o : Nat}, (∀ k r, rows[k]? = some r → r.length = s ∧ ∃ cs, RdL w ok r cs ∧ ∀ j u, cs[j]? = some u → w.cell? ⟨b, o + k * s + j, none⟩ = some u) → RdRows w ok s b o rows
 | [], _, _ => by unfold RdRows; trivial
 | r :: rs, o, h => by
  obtain ⟨h1, cs, h2, h3⟩ := h 0 r rfl
  unfold RdRows
  refine ⟨h1, rdRow_of h2 fun j u hu => by have := h3 j u hu; rwa [Nat.zero_mul, Nat.add_zero] at this, rdRows_of fun k r hr => ?_⟩
  obtain ⟨g1, cs, g2, g3⟩ := h (k + 1) r (by simpa using hr)
  refine ⟨g1, cs, g2, fun j u hu => ?_⟩
  have := g3 j u hu
  rwa [Nat.succ_mul, show o + (k * s + s) + j = o + s + k * s + j by omega] at this
end
structure OpensE {α : Type} (P : Program) (N : Nat) (sz : Nat) (f : α → List T) (t : TypeId) (good : α → Prop) : Prop where
 cells : P.cellsOf t = sz
 len : ∀ y, (f y).length = sz
 opens : ∀ {H : Type} {enc : TypeId × Value → H} {w : World} {base : Nat} {spare : Nat → Bool} {held : Bool} {fuel : Nat} {cs : List Value} {x : DataW H × List MemPlace},
  fuel ≤ N → DataW.trod enc P w base spare held fuel t cs = some x → (DataW.weights P t x.1).all (· ≤ reachBytes) = true → ∃ y, RdL w (fun b => b < w.heap.size) (f y) cs ∧ good y
section
variable {P : Program} {N : Nat} {t : TypeId}
theorem rdL_one {w : World} {ok : Nat → Prop} {v : Value} (h : v.oneCell' = true) : RdL w ok [.lit v] [v] := by
 unfold RdL RdT RdL
 exact ⟨⟨rfl, h⟩, trivial⟩
theorem oeInt (hu : P.underlying t = some (.int .i64)) (hc : P.cellsOf t = 1) : OpensE P N 1 (fun n => [.lit (.int .i64 n)]) t fun n => -9223372036854775808 ≤ n ∧ n ≤ 9223372036854775807 where
 cells := hc
 len _ := rfl
 opens _ h _ := by
  obtain ⟨n, rfl, _, hw⟩ := DataW.trod_int hu h
  refine ⟨n, rdL_one rfl, ?_⟩
  simp only [Lit.wf, Bool.and_eq_true, decide_eq_true_eq] at hw
  exact hw
theorem oeStr (hu : P.underlying t = some .string) (hc : P.cellsOf t = 1) : OpensE P N 1 (fun s => [.lit (.string s)]) t fun s => s.size ≤ 140737488351232 where
 cells := hc
 len _ := rfl
 opens _ h hw := by
  obtain ⟨s, rfl, hx, hs⟩ := DataW.trod_string hu h
  refine ⟨s, rdL_one rfl, ?_⟩
  rw [hx] at hw
  simp only [DataW.weights, List.all_cons, List.all_nil, Bool.and_true, Array.length_toList] at hw
  exact of_decide_eq_true hw
theorem oeBool (hu : P.underlying t = some .bool) (hc : P.cellsOf t = 1) : OpensE P N 1 (fun b => [.lit (.bool b)]) t fun _ => True where
 cells := hc
 len _ := rfl
 opens _ h _ := by
  obtain ⟨b, rfl, _⟩ := DataW.trod_bool hu h
  exact ⟨b, rdL_one rfl, trivial⟩
theorem oeSlice {α : Type} {f : α → List T} {sz : Nat} {e : TypeId} {good : α → Prop} {by_ : Nat} (hu : P.underlying t = some (.slice e)) (hc : P.cellsOf t = 1) (hb : P.bytesOf e = by_) (hs : 0 < sz) (O : ∀ M, M < N → OpensE P M sz f e good) (hce : P.cellsOf e = sz) :
  OpensE P N 1 (fun l : List α => [.sl (l.map f)]) t fun l => l.length * by_ ≤ 140737488351232 ∧ l.length ≤ maxLen ∧ ∀ x ∈ l, good x where
 cells := hc
 len _ := rfl
 opens := by
  intro H enc w base spare held fuel cs x hN h hw
  have hlt := DataW.trod_lt fuel t cs x h
  rcases DataW.trod_slice hu h with ⟨rfl, _⟩ | ⟨a, len, cap, elems, rest, m, rfl, rfl, hx, hba, hl, hm, hlen, hel, _, _⟩
  ·refine ⟨[], ?_, by simp [maxLen]⟩
   unfold RdL RdT RdL
   exact ⟨⟨none, 0, 0, rfl, rfl, Nat.le_refl _, .inl rfl⟩, trivial⟩
  ·have O' := O m (by omega)
   rw [hx] at hw
   simp only [DataW.weights, hu, List.all_cons, List.all_append, Bool.and_eq_true, hb, List.length_map] at hw
   obtain ⟨hw1', hw2, _⟩ := hw
   have hw1 : (elems.length + rest.length) * by_ ≤ 140737488351232 := of_decide_eq_true hw1'
   clear hw1'
   have hv : ∀ i, i < len → ∃ y : α, (∃ cs', RdL w (fun b => b < w.heap.size) (f y) cs' ∧ ∀ j u, cs'[j]? = some u → w.cell? (a.add (i * sz + j)) = some u) ∧ good y := fun i hi => by
    have h1 := hel i hi
    rw [List.getElem?_eq_getElem (by omega)] at h1
    obtain ⟨cs', h2, h3⟩ := Option.bind_eq_some_iff.1 h1
    obtain ⟨y, h4, h5⟩ := O'.opens (Nat.le_refl _) h3 (weightsAll_mem (List.mem_map.2 ⟨_, List.getElem_mem _, rfl⟩) hw2)
    obtain ⟨_, hl', hg⟩ := World.cells?_some h2
    rw [hce] at hl' hg
    exact ⟨y, ⟨cs', h4, fun j u hu => by
     have hj : j < sz := by
      rw [← hl']
      rcases Nat.lt_or_ge j cs'.length with h | h
      ·exact h
      ·rw [List.getElem?_eq_none h] at hu; cases hu
     rw [← add_add', hg j hj, hu]⟩, h5⟩
   rcases Nat.eq_zero_or_pos len with h0 | h0
   ·subst h0
    refine ⟨[], ?_, by simp [maxLen]⟩
    unfold RdL RdT RdL
    exact ⟨⟨some a, 0, cap, rfl, rfl, hl, .inl rfl⟩, trivial⟩
   ·obtain ⟨y0, ⟨cs0, hr0, hc0⟩, _⟩ := hv 0 h0
    have hl0 : cs0.length = sz := by rw [hr0.len', (O m (by omega)).len]
    have hsp : a.spot = none := by
     have := hc0 0 _ (List.getElem?_eq_getElem (by omega))
     exact (by simpa [Addr.add] using World.cell?_spot this)
    obtain ⟨b, o, s⟩ := a
    simp only at hsp
    subst hsp
    have hadd : ∀ i, (⟨b, o, none⟩ : Addr).add i = ⟨b, o + i, none⟩ := fun i => by unfold Addr.add; split <;> simp_all
    obtain ⟨g, hf⟩ := @choose_lt α ⟨y0⟩ len _ hv
    have hbl : b < w.heap.size := by
     refine hlt (.cell b o) ?_
     rw [hx]
     refine List.mem_append_left _ ?_
     rw [hce]
     simp only [MemPlace.row, List.mem_map, List.mem_range]
     refine ⟨0, ?_, by simp⟩
     exact Nat.mul_pos (by omega) hs
    refine ⟨(List.range len).map g, ?_, ?_, ?_, ?_⟩
    ·unfold RdL RdT RdL
     refine ⟨⟨_, len, cap, rfl, by simp, hl, .inr ⟨b, o, sz, rfl, hbl, rdRows_of fun k x hx => ?_⟩⟩, trivial⟩
     have hk : k < len := by
      rcases Nat.lt_or_ge k len with h | h
      ·exact h
      ·rw [List.getElem?_eq_none (by simpa using h)] at hx; cases hx
     rw [List.getElem?_map, List.getElem?_map, List.getElem?_range hk] at hx
     simp only [Option.map_some, Option.some.injEq] at hx
     subst hx
     obtain ⟨⟨cs', h1, h2⟩, _⟩ := hf k hk
     exact ⟨(O m (by omega)).len _, cs', h1, fun j u hu => by have := h2 j u hu; rwa [hadd, ← Nat.add_assoc] at this⟩
    ·rw [List.length_map, List.length_range]
     rw [hlen] at hw1
     rw [Nat.add_mul] at hw1
     omega
    ·rw [List.length_map, List.length_range]; omega
    ·intro y hy
     obtain ⟨i, hi, rfl⟩ := List.mem_map.1 hy
     exact (hf i (List.mem_range.1 hi)).2
structure OeParts {α : Type} (P : Program) (N : Nat) (sz : Nat) (f : α → List T) (ts : List TypeId) (good : α → Prop) : Prop where
 cells : (ts.map P.cellsOf).sum = sz
 len : ∀ y, (f y).length = sz
 opens : ∀ {H : Type} {enc : TypeId × Value → H} {w : World} {base : Nat} {spare : Nat → Bool} {held : Bool} {fuel : Nat} {cs : List Value} {xs : List (DataW H × List MemPlace)},
  fuel ≤ N → PartsOk P enc w base spare held fuel ts cs xs → (DataW.weightsEach P ts (xs.map (·.1))).all (· ≤ reachBytes) = true → ∃ y, RdL w (fun b => b < w.heap.size) (f y) cs ∧ good y
theorem oeOne {α : Type} {f : α → List T} {sz : Nat} {good : α → Prop} (O : OpensE P N sz f t good) : OeParts P N sz f [t] good where
 cells := by simp [O.cells]
 len := O.len
 opens := by
  intro H enc w base spare held fuel cs xs hN h hw
  match xs, h with
  | [x], ⟨h1, h2⟩ =>
   have h2 : cs.drop (P.cellsOf t) = [] := h2
   simp only [List.map_cons, List.map_nil, DataW.weightsEach, List.append_nil] at hw
   have e : cs.take (P.cellsOf t) = cs := by
    have := List.take_append_drop (P.cellsOf t) cs
    rw [h2, List.append_nil] at this
    exact this
   rw [e] at h1
   exact O.opens hN h1 hw
theorem oeCons {α β : Type} {f : α → List T} {g : β → List T} {sz sz' : Nat} {ts : List TypeId} {good : α → Prop} {good' : β → Prop} (O : OpensE P N sz f t good) (O' : OeParts P N sz' g ts good') : OeParts P N (sz + sz') (fun x : α × β => f x.1 ++ g x.2) (t :: ts) fun x => good x.1 ∧ good' x.2 where
 cells := by rw [List.map_cons, List.sum_cons, O.cells, O'.cells]
 len y := by rw [List.length_append, O.len, O'.len]
 opens := by
  intro H enc w base spare held fuel cs xs hN h hw
  match xs, h with
  | x :: xs, ⟨h1, h2⟩ =>
   simp only [List.map_cons, DataW.weightsEach, List.all_append, Bool.and_eq_true] at hw
   obtain ⟨y, a1, a2⟩ := O.opens hN h1 hw.1
   obtain ⟨z, b1, b2⟩ := O'.opens hN h2 hw.2
   refine ⟨(y, z), ?_, a2, b2⟩
   rw [← List.take_append_drop (P.cellsOf t) cs]
   exact a1.append b1
theorem oeStruct {α : Type} {f : α → List T} {sz : Nat} {good : α → Prop} {fs : Array Field} {ts : List TypeId} (hu : P.underlying t = some (.struct fs)) (hts : fs.toList.map (·.type) = ts) (ho : offsOk P 0 fs.toList = true) (hc : P.cellsOf t = (ts.map P.cellsOf).sum) (hcr : P.cellsOf t = sz) (hlen : ∀ y, (f y).length = sz) (O : ∀ M, M < N → OeParts P M sz f ts good) : OpensE P N sz f t good where
 cells := hcr
 len := hlen
 opens := by
  intro H enc w base spare held fuel cs x hN h hw
  obtain ⟨xs, n, rfl, hx, hln, hxl, hf⟩ := DataW.trod_struct hu h
  subst hts
  have hp := parts_of (P := P) (n := n) (enc := enc) (w := w) (base := base) (spare := spare) (held := held) fs.toList 0 cs xs ho (by rw [hln, hc]; omega) (by simpa using hxl) fun i f hfi => hf i f (by simpa using hfi)
  rw [List.drop_zero] at hp
  rw [hx] at hw
  simp only [DataW.weights, hu] at hw
  exact (O n (by omega)).opens (Nat.le_refl _) hp hw
theorem oeTo {α β : Type} {f : α → List T} {sz : Nat} {good : α → Prop} (O : OpensE P N sz f t good) (m : α → β) {f' : β → List T} {good' : β → Prop} (hf : ∀ x, f' (m x) = f x) (hl : ∀ y, (f' y).length = sz) (hg : ∀ x, good x → good' (m x)) : OpensE P N sz f' t good' where
 cells := O.cells
 len := hl
 opens := by
  intro H enc w base spare held fuel cs x hN ht hw
  obtain ⟨y, h1, h2⟩ := O.opens hN ht hw
  exact ⟨m y, by rw [hf]; exact h1, hg y h2⟩
theorem oeArg {α : Type} {f : α → List T} {sz : Nat} {good : α → Prop} (O : ∀ N, OpensE P N sz f t good) {H : Type} {enc : TypeId × Value → H} {w : World} {base : Nat} {spare : Nat → Bool} {held : Bool} {cs : List Value} {x : DataW H × List MemPlace}
  (h : ∃ fuel, DataW.trod enc P w base spare held fuel t cs = some x) (hw : (DataW.weights P t x.1).all (· ≤ reachBytes) = true) : ∃ y, RdL w (fun b => b < w.heap.size) (f y) cs ∧ good y := by
 obtain ⟨fuel, hf⟩ := h
 exact (O fuel).opens (Nat.le_refl _) hf hw
end
theorem Sp.law {P : Program} {f : FuncId} {args : List A} {w : World} {vs : List Value} (h : Sp P f args (.one (.t true (.lit (.bool true)))) []) (hG : GW w) (hvs : RdAs w (fun b => b < w.heap.size) args vs) : Calls P f vs.toArray w fun e w' => e = .returned (.bool true) ∧ Below w.heap.size w w' :=
 (h.calls w (fun b => b < w.heap.size) (fun _ h => h) vs hG hvs).mono fun e w' => by
  rintro ⟨x, ρ, rfl, hb, _, _, _, hx, _⟩
  unfold RdV RdC RdT at hx
  exact ⟨by rw [hx.1], hb⟩
section
variable {w : World} {ok : Nat → Prop}
theorem rdAs_nil : RdAs w ok [] [] := by unfold RdAs; trivial
theorem rdAs_cons {a : A} {as_ : List A} {v : Value} {vs : List Value} (h : RdA w ok a v) (h' : RdAs w ok as_ vs) : RdAs w ok (a :: as_) (v :: vs) := by unfold RdAs; exact ⟨h, h'⟩
theorem rdA_agg {ts : List T} {cs : Array Value} (h : RdL w ok ts (Value.agg cs).cells.toList) : RdA w ok (.agg ts) (.agg cs) := by unfold RdA; exact ⟨cs, rfl, h⟩
end
end Go.Proofs.YtjdgejfhnfnmgaaGreatDoor.Ax
namespace Go.Proofs.YtjdgejfhnfnmgaaGreatDoor.Ax
open Go.RowKit
theorem opensStrE (N : Nat) : OpensE Tryz.prog N 1 (fun s => [.lit (.string s)]) 9 fun s => s.size ≤ 140737488351232 := oeStr Tryz.underlying9 (by kernel_rfl)
theorem opensIntE (N : Nat) : OpensE Tryz.prog N 1 (fun n => [.lit (.int .i64 n)]) 3 fun n => -9223372036854775808 ≤ n ∧ n ≤ 9223372036854775807 := oeInt Tryz.underlying3 (by kernel_rfl)
def goodV (v : Vl) : Prop := (-9223372036854775808 ≤ v.k ∧ v.k ≤ 9223372036854775807) ∧ (-9223372036854775808 ≤ v.n ∧ v.n ≤ 9223372036854775807) ∧ v.s.size ≤ 140737488351232
theorem opensVlE (N : Nat) : OpensE Tryz.prog N 3 rV1 24 goodV :=
 oeTo (oeStruct (f := fun x : Int × Int × ByteArray => [.lit (.int .i64 x.1)] ++ ([.lit (.int .i64 x.2.1)] ++ [.lit (.string x.2.2)])) (sz := 1 + (1 + 1)) Tryz.underlying24 (ts := [3, 3, 9]) rfl (by kernel_rfl) (by kernel_rfl) (by kernel_rfl) (fun _ => rfl) (fun M _ => oeCons (opensIntE M) (oeCons (opensIntE M) (oeOne (opensStrE M)))))
  (fun x => (⟨x.1, x.2.1, x.2.2⟩ : Vl)) (fun _ => rfl) (fun _ => rfl) (fun _ h => h)
theorem opensVlsE (N : Nat) : OpensE Tryz.prog N 1 (fun l => [.sl (rVs l)]) 25 fun l => l.length * 32 ≤ 140737488351232 ∧ l.length ≤ maxLen ∧ ∀ x ∈ l, goodV x :=
 oeSlice Tryz.underlying25 (by kernel_rfl) (by kernel_rfl) (by decide) (fun M _ => opensVlE M) (by kernel_rfl)
def goodC (c : Col) : Prop := c.name.size ≤ 140737488351232 ∧ (-9223372036854775808 ≤ c.ty ∧ c.ty ≤ 9223372036854775807)
end Go.Proofs.YtjdgejfhnfnmgaaGreatDoor.Ax
namespace Go.Proofs.YtjdgejfhnfnmgaaGreatDoor.Ax
open Go.RowKit
theorem opensColE (N : Nat) : OpensE Tryz.prog N 2 rC1 54 goodC :=
 oeTo (oeStruct (f := fun x : ByteArray × Int => [.lit (.string x.1)] ++ [.lit (.int .i64 x.2)]) (sz := 1 + 1) Tryz.underlying54 (ts := [9, 3]) rfl (by kernel_rfl) (by kernel_rfl) (by kernel_rfl) (fun _ => rfl) (fun M _ => oeCons (opensStrE M) (oeOne (opensIntE M))))
  (fun x => (⟨x.1, x.2⟩ : Col)) (fun _ => rfl) (fun _ => rfl) (fun _ h => h)
theorem opensColsE (N : Nat) : OpensE Tryz.prog N 1 (fun l => [.sl (rCs l)]) 22 fun l => l.length * 24 ≤ 140737488351232 ∧ l.length ≤ maxLen ∧ ∀ x ∈ l, goodC x :=
 oeSlice Tryz.underlying22 (by kernel_rfl) (by kernel_rfl) (by decide) (fun M _ => opensColE M) (by kernel_rfl)
inductive goodE : Ex → Prop
 | mk {k : Int} {v : Vl} {nm : ByteArray} {ar : List Ex} (hk : -9223372036854775808 ≤ k ∧ k ≤ 9223372036854775807) (hv : goodV v) (hn : nm.size ≤ 140737488351232) (hl : ar.length * 80 ≤ 140737488351232 ∧ ar.length ≤ maxLen) (ha : ∀ a ∈ ar, goodE a) : goodE (.mk k v nm ar)
theorem opensExE (N : Nat) : OpensE Tryz.prog N 6 rE 29 goodE := by
 induction N using Nat.strongRecOn with
 | ind N ih =>
  exact oeTo (oeStruct (f := fun x : Int × Vl × ByteArray × List Ex => [.lit (.int .i64 x.1)] ++ (rV1 x.2.1 ++ ([.lit (.string x.2.2.1)] ++ [.sl (x.2.2.2.map rE)]))) (sz := 1 + (3 + (1 + 1))) Tryz.underlying29 (ts := [3, 24, 9, 27]) rfl (by kernel_rfl) (by kernel_rfl) (by kernel_rfl) (fun _ => rfl)
   (fun M hM => oeCons (opensIntE M) (oeCons (opensVlE M) (oeCons (opensStrE M) (oeOne (oeSlice Tryz.underlying27 (by kernel_rfl) (by_ := 80) (by kernel_rfl) (by decide) (fun M' h => ih M' (by omega)) (by kernel_rfl)))))))
   (fun x => (Ex.mk x.1 x.2.1 x.2.2.1 x.2.2.2)) (fun _ => by rw [rE_mk]; rfl) (fun _ => by rw [rE_len]) (fun _ h => .mk h.1 h.2.1 h.2.2.1 ⟨h.2.2.2.1, h.2.2.2.2.1⟩ h.2.2.2.2.2)
end Go.Proofs.YtjdgejfhnfnmgaaGreatDoor.Ax
namespace Go.Proofs.YtjdgejfhnfnmgaaGreatDoor.Ax
open Go.RowKit
set_option linter.unusedSimpArgs false
attribute [local go_sem] ty3 ty4 ty9 ty27 ty29 ty24 ty32 ty137
set_option maxRecDepth 100000
theorem argsk_sp (k : Int) : Sp Tryz.prog 137 [.one (.lit (.int .i64 k))] (.one (.t true (.lit (.int .i64 (argsK k))))) [] := by
 unfold argsK
 by_cases c1 : k < 1
 ·have e1 : decide (k < 1) = true := decide_eq_true c1
  (refine en_ Tryz.func137 Tryz.ntmps137 Tryz.results137 fun X hX => ?_)
  (refine go_ e1 ?_)
  (first | exact oq_ an0 | refine ou_ an0 ?_)
  rw [if_pos (.inl c1)]
 by_cases c2 : 11 < k
 ·have e1 : decide (k < 1) = false := decide_eq_false c1
  have e2 : decide (11 < k) = true := decide_eq_true c2
  (refine en_ Tryz.func137 Tryz.ntmps137 Tryz.results137 fun X hX => ?_)
  (refine go_ (an2 e1 e2) ?_)
  (first | exact oq_ an0 | refine ou_ an0 ?_)
  rw [if_pos (.inr c2)]
 have e1 : decide (k < 1) = false := decide_eq_false c1
 have e2 : decide (11 < k) = false := decide_eq_false c2
 rw [if_neg (by omega)]
 by_cases c3 : k ≤ 2
 ·have e3 : decide (k ≤ 2) = true := decide_eq_true c3
  (refine en_ Tryz.func137 Tryz.ntmps137 Tryz.results137 fun X hX => ?_)
  (refine go_ (an3 e1 e2 e3) ?_)
  (first | exact oq_ an0 | refine ou_ an0 ?_)
  rw [if_pos c3]
 have e3 : decide (k ≤ 2) = false := decide_eq_false c3
 rw [if_neg c3]
 by_cases c4 : k ≤ 4
 ·have e4 : decide (k ≤ 4) = true := decide_eq_true c4
  (refine en_ Tryz.func137 Tryz.ntmps137 Tryz.results137 fun X hX => ?_)
  (refine go_ (an4 e1 e2 e3 e4) ?_)
  (first | exact oq_ an0 | refine ou_ an0 ?_)
  rw [if_pos c4]
 have e4 : decide (k ≤ 4) = false := decide_eq_false c4
 rw [if_neg c4]
 (refine en_ Tryz.func137 Tryz.ntmps137 Tryz.results137 fun X hX => ?_)
 (refine go_ (an4 e1 e2 e3 e4) ?_)
 (first | exact oq_ an0 | refine ou_ an0 ?_)
theorem argsof_sp (k : Int) : Sp Tryz.prog 108 [.one (.lit (.int .i64 k))] (.one (.t true (.lit (.int .i64 (argsK k))))) [] := by
 have H := between_sp k 1 11
 unfold argsK
 by_cases c1 : k < 1 ∨ 11 < k
 ·have e1 : (decide (1 ≤ k) && decide (k ≤ 11)) = false := by simp; omega
  rw [e1] at H
  (refine en_ Tryz.func108 Tryz.ntmps108 Tryz.results108 fun X hX => ?_)
  (refine go_ an0 ?_)
  (refine rn_ 8 an0 fun K hK => ?_; refine rr_ an0 ?_)
  (refine ca_ an0 ?_ (hsp := H); refine rr_ an0 ?_)
  ((first | refine rwr_nil (hK _ ?_) | refine de_ (hK _ ?_)); clear hK K)
  (refine go_ an0 ?_)
  (first | exact oq_ an0 | refine ou_ an0 ?_)
  rw [if_pos c1]
 ·have e1 : (decide (1 ≤ k) && decide (k ≤ 11)) = true := by simp; omega
  rw [e1] at H
  rw [if_neg c1]
  (refine en_ Tryz.func108 Tryz.ntmps108 Tryz.results108 fun X hX => ?_)
  (refine go_ an0 ?_)
  (refine rn_ 8 an0 fun K hK => ?_; refine rr_ an0 ?_)
  (refine ca_ an0 ?_ (hsp := H); refine rr_ an0 ?_)
  ((first | refine rwr_nil (hK _ ?_) | refine de_ (hK _ ?_)); clear hK K)
  (refine go_ an0 ?_)
  obtain rfl | rfl | rfl | rfl | rfl | rfl | rfl | rfl | rfl | rfl | rfl : k = 1 ∨ k = 2 ∨ k = 3 ∨ k = 4 ∨ k = 5 ∨ k = 6 ∨ k = 7 ∨ k = 8 ∨ k = 9 ∨ k = 10 ∨ k = 11 := by omega
  all_goals
   (refine go_ an0 ?_)
   (first | exact oq_ an0 | refine ou_ an0 ?_)
   try rfl
attribute [local go_sem] rE_mk
set_option maxHeartbeats 1000000 in
theorem size_sp (e : Ex) : ∀ m : Int, 0 ≤ m → m ≤ 100 → Sp Tryz.prog 77 [.agg (rE e), .one (.lit (.int .i64 m))] (.one (.t true (.lit (.int .i64 (sizeE e m))))) [] := by
 induction e using Ex.ind with
 | h k v nm ar ih =>
  intro m hm hm'
  rw [rE_mk, sizeE]
  (refine en_ Tryz.func77 Tryz.ntmps77 Tryz.results77 fun X hX => ?_)
  (refine go_ an0 ?_)
  refine cw_loop (fun z s => ∃ (i : Nat) (n : Int), i ≤ ar.length ∧ z = ar.length - i ∧ 1 ≤ n ∧ n ≤ m + 1 ∧ i < n ∧ sizeL (ar.drop i) m n = sizeL ar m 1 ∧ s = ⟨[(11, litI .i64 i), (10, litI .i64 ar.length), (9, .one (.t false (.sl (ar.map rE)))), (5, litI .i64 n), (1, .one (.t false (.lit (.int .i64 m))))], []⟩) ar.length ⟨_, ⟨0, 1, Nat.zero_le _, rfl, by omega, by omega, by omega, rfl, rfl⟩, le_⟩ ?_
  rintro z s ⟨i, n, hi, rfl, hn, hn', hin, hf, rfl⟩
  by_cases hlt : i < ar.length
  ·have e1 : decide ((i : Int) < (ar.length : Int)) = true := by simp; omega
   obtain ⟨x, hx⟩ : ∃ x, ar[i]? = some x := ⟨_, List.getElem?_eq_getElem hlt⟩
   have e4 : IntKind.i64.wrap ((i : Int) + 1) = ((i + 1 : Nat) : Int) := by rw [IntWalk.i64_in _ (by omega)]; rfl
   rw [drop_eq _ _ _ hx, sizeL] at hf
   have ih1 := ih x (List.mem_of_getElem? hx)
   have hb := sizeE_le x
   obtain ⟨k', v', nm', ar'⟩ := x
   rw [rE_mk] at ih1
   by_cases hmn : m < n
   ·have e2 : decide (m < n) = true := decide_eq_true hmn
    rw [if_pos hmn] at hf
    (refine go_ (an3 e1 e2 hx) ?_)
    (first | exact oq_ an0 | refine ou_ an0 ?_)
    rw [← hf]
   ·have e2 : decide (m < n) = false := decide_eq_false hmn
    rw [if_neg hmn] at hf
    have e5 : IntKind.i64.wrap (m - n) = m - n := IntWalk.i64_in _ (by omega)
    have hb1 := hb (m - n) (by omega)
    have e6 : IntKind.i64.wrap (n + sizeE (.mk k' v' nm' ar') (m - n)) = n + sizeE (.mk k' v' nm' ar') (m - n) := IntWalk.i64_in _ (by omega)
    (refine go_ (an3 e1 e2 hx) ?_)
    (refine rn_ 8 e5 fun K hK => ?_; refine rr_ e5 ?_)
    (refine ca_ (an2 e5 e6) ?_ (hsp := ih1 (m - n) (by omega) (by omega)); refine rr_ (an2 e5 e6) ?_)
    ((first | refine rwr_nil (hK _ ?_) | refine de_ (hK _ ?_)); clear hK K)
    (refine go_ e4 ?_)
    exact ⟨ar.length - (i + 1), by omega, _, ⟨i + 1, n + sizeE (.mk k' v' nm' ar') (m - n), by omega, rfl, by omega, by omega, by omega, hf, rfl⟩, le_⟩
  ·have e1 : decide ((i : Int) < (ar.length : Int)) = false := by simp; omega
   rw [List.drop_eq_nil_of_le (by omega)] at hf
   (refine go_ e1 ?_)
   (first | exact oq_ an0 | refine ou_ an0 ?_)
   rw [← hf, sizeL]
theorem sizes_le {n : Nat} (h : n ≤ 140737488351232) : n ≤ maxLen := by unfold maxLen; omega
theorem goodE.inv {k : Int} {v : Vl} {nm : ByteArray} {ar : List Ex} (h : goodE (.mk k v nm ar)) : goodV v ∧ ar.length ≤ maxLen ∧ ∀ a ∈ ar, goodE a := by
 cases h with
 | mk hk hv hn hl ha => exact ⟨hv, hl.2, ha⟩
set_option maxHeartbeats 1000000 in
theorem partsof_sp (e : Ex) : ∀ m : Int, 0 ≤ m → m ≤ 100 → Sp Tryz.prog 22 [.agg (rE e), .one (.lit (.int .i64 m))] (.one (.t true (.lit (.int .i64 (sizeE e m))))) [] := by
 induction e using Ex.ind with
 | h k v nm ar ih =>
  intro m hm hm'
  rw [rE_mk, sizeE]
  (refine en_ Tryz.func22 Tryz.ntmps22 Tryz.results22 fun X hX => ?_)
  (refine go_ an0 ?_)
  refine cw_loop (fun z s => ∃ (i : Nat) (n : Int), i ≤ ar.length ∧ z = ar.length - i ∧ 1 ≤ n ∧ n ≤ m + 1 ∧ i < n ∧ sizeL (ar.drop i) m n = sizeL ar m 1 ∧ s = ⟨[(6, litI .i64 i), (5, litI .i64 n), (1, .one (.t false (.lit (.int .i64 m)))), (2, .one (.optr 2 0))], [(2, .var 29 [.t false (.lit (.int .i64 k)), .t false (.lit (.int .i64 v.k)), .t false (.lit (.int .i64 v.n)), .t false (.lit (.string v.s)), .t false (.lit (.string nm)), .t false (.sl (ar.map rE))])]⟩) ar.length ⟨_, ⟨0, 1, Nat.zero_le _, rfl, by omega, by omega, by omega, rfl, rfl⟩, le_⟩ ?_
  rintro z s ⟨i, n, hi, rfl, hn, hn', hin, hf, rfl⟩
  by_cases hlt : i < ar.length
  ·have e1 : decide ((i : Int) < (ar.length : Int)) = true := by simp; omega
   obtain ⟨x, hx⟩ : ∃ x, ar[i]? = some x := ⟨_, List.getElem?_eq_getElem hlt⟩
   have e4 : IntKind.i64.wrap ((i : Int) + 1) = ((i + 1 : Nat) : Int) := by rw [IntWalk.i64_in _ (by omega)]; rfl
   rw [drop_eq _ _ _ hx, sizeL] at hf
   have ih1 := ih x (List.mem_of_getElem? hx)
   have hb := sizeE_le x
   obtain ⟨k', v', nm', ar'⟩ := x
   rw [rE_mk] at ih1
   by_cases hmn : m < n
   ·have e2 : decide (n ≤ m) = false := decide_eq_false (by omega)
    rw [if_pos hmn] at hf
    (refine go_ (an2 e1 e2) ?_)
    (first | exact oq_ an0 | refine ou_ an0 ?_)
    rw [← hf]
   ·have e2 : decide (n ≤ m) = true := decide_eq_true (by omega)
    rw [if_neg hmn] at hf
    have e5 : IntKind.i64.wrap (m - n) = m - n := IntWalk.i64_in _ (by omega)
    have hb1 := hb (m - n) (by omega)
    have e6 : IntKind.i64.wrap (n + sizeE (.mk k' v' nm' ar') (m - n)) = n + sizeE (.mk k' v' nm' ar') (m - n) := IntWalk.i64_in _ (by omega)
    (refine go_ (an3 e1 e2 hx) ?_)
    (refine rn_ 8 (an2 e5 hx) fun K hK => ?_; refine rr_ (an2 e5 hx) ?_)
    (refine ca_ (an2 e5 e6) ?_ (hsp := ih1 (m - n) (by omega) (by omega)); refine rr_ (an2 e5 e6) ?_)
    ((first | refine rwr_nil (hK _ ?_) | refine de_ (hK _ ?_)); clear hK K)
    (refine go_ e4 ?_)
    exact ⟨ar.length - (i + 1), by omega, _, ⟨i + 1, n + sizeE (.mk k' v' nm' ar') (m - n), by omega, rfl, by omega, by omega, by omega, hf, rfl⟩, le_⟩
  ·have e1 : decide ((i : Int) < (ar.length : Int)) = false := by simp; omega
   rw [List.drop_eq_nil_of_le (by omega)] at hf
   (refine go_ e1 ?_)
   (first | exact oq_ an0 | refine ou_ an0 ?_)
   rw [← hf, sizeL]
theorem isEd (s : ByteArray) : (s.toList == ByteArray.empty.toList) = emptyS s := isE s
theorem vtype_sp (n : Int) : Sp Tryz.prog 47 [.one (.lit (.int .i64 n))] (.one (.t true (.lit (.bool (decide (1 ≤ n) && decide (n ≤ 3)))))) [] := by
 have hw : Sp Tryz.prog 79 [.one (.lit (.int .i64 n)), .one (.lit (.int .i64 1)), .one (.lit (.int .i64 3))] (.one (.t true (.lit (.bool (decide (1 ≤ n) && decide (n ≤ 3)))))) [] :=
  sp_lits (enters_of Tryz.func79 (by kernel_rfl) rfl) [.int .i64 n, .int .i64 1, .int .i64 3] _ rfl rfl fun w => (within_any n 1 3 w).mono fun _ _ h => ⟨h.1, h.2 ▸ Below.refl _ _⟩
 (refine en_ Tryz.func47 Tryz.ntmps47 Tryz.results47 fun X hX => ?_)
 (refine gs_ ?_)
 (refine rn_ 8 an0 fun K hK => ?_; refine rr_ an0 ?_)
 ((first | refine rwr_nil (hK _ ?_) | refine de_ (hK _ ?_)); clear hK K)
 (refine gs_ ?_)
 (refine rn_ 8 an0 fun K hK => ?_; refine rr_ an0 ?_)
 (refine ca_ an0 ?_ (hsp := hw); refine rr_ an0 ?_)
 ((first | refine rwr_nil (hK _ ?_) | refine de_ (hK _ ?_)); clear hK K)
 (refine go_ an0 ?_)
 (first | exact oq_ an0 | refine ou_ an0 ?_)
end Go.Proofs.YtjdgejfhnfnmgaaGreatDoor.Ax
