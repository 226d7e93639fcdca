/-  -/
import Derived.Test.YtjdgejfhnfnmgaaGreatDoorT0
import Derived.ProofKit
import Derived.OpenShut
import Derived.ChangeOld
import Derived.ChangeArms
import Derived.Below
import Derived.Deep.Slices
import Derived.SizedLaws
import Derived.Laws.AppendOwnNone
import Derived.WalkKit
import Derived.BigQuiet
import Derived.Handy
import Derived.Deep.QuietTactic
import Derived.Deep.LoopGhost
import Derived.Deep.RegionHeld3
import Derived.Deep.AppendLies
namespace Go.Proofs.YtjdgejfhnfnmgaaGreatDoor
open Go.RowKit Go.Deep
structure Rep (α : Type) where
 size : Nat
 R : World → Nat → Nat → α → List Value → Prop
 len : ∀ {w : World} {L B : Nat} {x : α} {cs : List Value}, R w L B x cs → cs.length = size
 keep : ∀ {w w' : World} {L B : Nat} {x : α} {cs : List Value}, R w L B x cs → (∀ p : Addr, L ≤ p.block → p.block < B → w'.cell? p = w.cell? p) → R w' L B x cs
 more : ∀ {w : World} {L L' B B' : Nat} {x : α} {cs : List Value}, R w L B x cs → L' ≤ L → B ≤ B' → R w L' B' x cs
 one : ∀ {w : World} {L B : Nat} {x : α} {cs : List Value}, R w L B x cs → (cs.all fun u => u.oneCell') = true
def Rep.row {α : Type} (ρ : Rep α) (w : World) (L B : Nat) (A : Option Addr) (n : Nat) (l : List α) : Prop :=
 l.length = n ∧ (n = 0 ∨ ∃ b o, A = some ⟨b, o, none⟩ ∧ (L ≤ b ∧ b < B) ∧ ∀ k x, l[k]? = some x → ∃ cs, ρ.R w L B x cs ∧ ∀ j u, cs[j]? = some u → w.cell? ⟨b, o + k * ρ.size + j, none⟩ = some u)
section
variable {α β : Type} {ρ : Rep α} {σ : Rep β} {w w' : World} {L L' B B' n : Nat} {A : Option Addr} {l : List α} {x : α} {cs : List Value}
theorem Rep.below (h : ρ.R w L B x cs) (hb : Below B w w') : ρ.R w' L B x cs := ρ.keep h fun _ _ hp => hb.cell hp
theorem Rep.row.nil : ρ.row w L B A 0 [] := ⟨rfl, .inl rfl⟩
theorem Rep.row.keep (h : ρ.row w L B A n l) (hk : ∀ p : Addr, L ≤ p.block → p.block < B → w'.cell? p = w.cell? p) : ρ.row w' L B A n l :=
 ⟨h.1, h.2.imp id fun ⟨b, o, e, hb, hc⟩ => ⟨b, o, e, hb, fun k x hx => by
  obtain ⟨cs, h1, h2⟩ := hc k x hx
  exact ⟨cs, ρ.keep h1 hk, fun j u hu => (hk _ hb.1 hb.2).trans (h2 j u hu)⟩⟩⟩
theorem Rep.row.wide (h : ρ.row w L B A n l) (hL : L' ≤ L) (hB : B ≤ B') : ρ.row w L' B' A n l :=
 ⟨h.1, h.2.imp id fun ⟨b, o, e, hb, hc⟩ => ⟨b, o, e, by omega, fun k x hx => by
  obtain ⟨cs, h1, h2⟩ := hc k x hx
  exact ⟨cs, ρ.more h1 hL hB, h2⟩⟩⟩
theorem Rep.row.more (h : ρ.row w L B A n l) (hB : B ≤ B') : ρ.row w L B' A n l := h.wide (Nat.le_refl _) hB
theorem Rep.row.put (h : ρ.row w L B A n l) {p : Addr} (hp : p.block < L) (u : Value) : ρ.row (w.setCell p u) L B A n l :=
 h.keep fun q hq _ => World.cell?_of_block (Below.heap_setCell _ _ _ _ (by omega))
theorem Rep.row.below (h : ρ.row w L B A n l) (hb : Below B w w') : ρ.row w' L B A n l := h.keep fun _ _ hp => hb.cell hp
theorem Rep.row.on (h : ρ.row w L w.heap.size A n l) (hb : Below w.heap.size w w') : ρ.row w' L w'.heap.size A n l := (h.below hb).more hb.size
theorem Rep.row.at_ (h : ρ.row w L B A n l) (k : Nat) (hk : l[k]? = some x) : ∃ b o cs, A = some ⟨b, o, none⟩ ∧ (L ≤ b ∧ b < B) ∧ ρ.R w L B x cs ∧ ∀ j u, cs[j]? = some u → w.cell? ⟨b, o + k * ρ.size + j, none⟩ = some u := by
 have hl := h.1
 have hkn : k < n := by
  rw [← hl]
  rcases Nat.lt_or_ge k l.length with h | h
  ·exact h
  ·rw [List.getElem?_eq_none h] at hk; cases hk
 rcases h.2 with h | ⟨b, o, e, hb, hc⟩
 ·omega
 ·obtain ⟨cs, h1, h2⟩ := hc k x hk
  exact ⟨b, o, cs, e, hb, h1, h2⟩
theorem Rep.row.part (h : ρ.row w L B A n l) (i j : Nat) (hij : i ≤ j) (hj : j ≤ n) : ρ.row w L B (A.map fun a => ⟨a.block, a.off + i * ρ.size, a.spot⟩) (j - i) ((l.drop i).take (j - i)) := by
 refine ⟨by rw [List.length_take, List.length_drop, h.1]; omega, ?_⟩
 rcases h.2 with h0 | ⟨b, o, rfl, hb, hc⟩
 ·exact .inl (by omega)
 ·refine .inr ⟨b, o + i * ρ.size, rfl, hb, fun k x hx => ?_⟩
  rw [List.getElem?_take] at hx
  split at hx
  ·rw [List.getElem?_drop] at hx
   obtain ⟨cs, h1, h2⟩ := hc _ x hx
   refine ⟨cs, h1, fun m u hu => ?_⟩
   have := h2 m u hu
   rw [Nat.add_mul] at this
   rw [← this]
   congr 2
   omega
  ·cases hx
end
def Rep.flat {α : Type} (f : α → List Value) (n : Nat) (h : ∀ x, (f x).length = n) (h1 : ∀ x, ((f x).all fun u => u.oneCell') = true) : Rep α :=
 { size := n, R := fun _ _ _ x cs => cs = f x, len := fun e => by rw [e, h], keep := fun e _ => e, more := fun e _ _ => e, one := fun e => by rw [e, h1] }
def Rep.slice {α : Type} (ρ : Rep α) : Rep (List α) :=
 { size := 1, R := fun w L B l cs => ∃ A n c, cs = [.slice A n c] ∧ ρ.row w L B A n l, len := fun ⟨_, _, _, e, _⟩ => by rw [e]; rfl,
   keep := fun ⟨A, n, c, e, h⟩ hk => ⟨A, n, c, e, h.keep hk⟩, more := fun ⟨A, n, c, e, h⟩ hL hB => ⟨A, n, c, e, h.wide hL hB⟩, one := fun ⟨_, _, _, e, _⟩ => by rw [e]; rfl }
def Rep.and {α β : Type} (ρ : Rep α) (σ : Rep β) : Rep (α × β) :=
 { size := ρ.size + σ.size, R := fun w L B x cs => ∃ a b, cs = a ++ b ∧ ρ.R w L B x.1 a ∧ σ.R w L B x.2 b,
   len := fun ⟨a, b, e, h1, h2⟩ => by rw [e, List.length_append, ρ.len h1, σ.len h2],
   keep := fun ⟨a, b, e, h1, h2⟩ hk => ⟨a, b, e, ρ.keep h1 hk, σ.keep h2 hk⟩, more := fun ⟨a, b, e, h1, h2⟩ hL hB => ⟨a, b, e, ρ.more h1 hL hB, σ.more h2 hL hB⟩,
   one := fun ⟨a, b, e, h1, h2⟩ => by rw [e, List.all_append, ρ.one h1, σ.one h2]; rfl }
def Rep.by {α β : Type} (ρ : Rep β) (f : α → β) : Rep α :=
 { size := ρ.size, R := fun w L B x cs => ρ.R w L B (f x) cs, len := fun h => ρ.len h, keep := fun h hk => ρ.keep h hk, more := fun h hL hB => ρ.more h hL hB, one := fun h => ρ.one h }
def repInt : Rep Int := Rep.flat (fun n => [.int .i64 n]) 1 (fun _ => rfl) fun _ => rfl
def repStr : Rep ByteArray := Rep.flat (fun s => [.string s]) 1 (fun _ => rfl) fun _ => rfl
def repBool : Rep Bool := Rep.flat (fun b => [.bool b]) 1 (fun _ => rfl) fun _ => rfl
inductive RepAll {α : Type} (ρ : Rep α) (w : World) (L B : Nat) : List α → List Value → Prop
 | nil : RepAll ρ w L B [] []
 | cons {x : α} {l : List α} {a b : List Value} : ρ.R w L B x a → RepAll ρ w L B l b → RepAll ρ w L B (x :: l) (a ++ b)
section
variable {α : Type} {ρ : Rep α} {w w' : World} {L L' B B' : Nat} {l r : List α} {cs ds : List Value}
theorem RepAll.len (h : RepAll ρ w L B l cs) : cs.length = l.length * ρ.size := by
 induction h with
 | nil => simp
 | cons h1 _ ih => rw [List.length_append, ρ.len h1, ih, List.length_cons, Nat.succ_mul]; omega
theorem RepAll.append (h : RepAll ρ w L B l cs) (h' : RepAll ρ w L B r ds) : RepAll ρ w L B (l ++ r) (cs ++ ds) := by
 induction h with
 | nil => exact h'
 | cons h1 _ ih => rw [List.cons_append, List.append_assoc]; exact .cons h1 ih
theorem RepAll.keep (h : RepAll ρ w L B l cs) (hk : ∀ p : Addr, L ≤ p.block → p.block < B → w'.cell? p = w.cell? p) : RepAll ρ w' L B l cs := by
 induction h with
 | nil => exact .nil
 | cons h1 _ ih => exact .cons (ρ.keep h1 hk) ih
theorem RepAll.more (h : RepAll ρ w L B l cs) (hL : L' ≤ L) (hB : B ≤ B') : RepAll ρ w L' B' l cs := by
 induction h with
 | nil => exact .nil
 | cons h1 _ ih => exact .cons (ρ.more h1 hL hB) ih
theorem RepAll.at_ (h : RepAll ρ w L B l cs) (k : Nat) (x : α) (hx : l[k]? = some x) : ∃ a, ρ.R w L B x a ∧ ∀ j u, a[j]? = some u → cs[k * ρ.size + j]? = some u := by
 induction h generalizing k with
 | nil => simp at hx
 | @cons y l a b h1 h2 ih =>
  cases k with
  | zero =>
   simp at hx
   subst hx
   refine ⟨a, h1, fun j u hu => ?_⟩
   rw [Nat.zero_mul, Nat.zero_add, List.getElem?_append_left (by
    rcases Nat.lt_or_ge j a.length with h | h
    ·exact h
    ·rw [List.getElem?_eq_none h] at hu; cases hu)]
   exact hu
  | succ k =>
   obtain ⟨a', h3, h4⟩ := ih k (by simpa using hx)
   refine ⟨a', h3, fun j u hu => ?_⟩
   rw [Nat.succ_mul, List.getElem?_append_right (by rw [ρ.len h1]; omega), ρ.len h1, show k * ρ.size + ρ.size + j - ρ.size = k * ρ.size + j by omega]
   exact h4 j u hu
theorem RepAll.flat {α : Type} {f : α → List Value} {n : Nat} {h : ∀ x, (f x).length = n} {h1 : ∀ x, ((f x).all fun u => u.oneCell') = true} {w : World} {L B : Nat} (l : List α) : RepAll (Rep.flat f n h h1) w L B l (l.flatMap f) := by
 induction l with
 | nil => exact .nil
 | cons x l ih => rw [List.flatMap_cons]; exact .cons rfl ih
theorem RepAll.one (h : RepAll ρ w L B l cs) : (cs.all fun u => u.oneCell') = true := by
 induction h with
 | nil => rfl
 | cons h1 _ ih => rw [List.all_append, ρ.one h1, ih]; rfl
theorem Rep.row.of_own {base : Nat} {e : TypeId} {n : Nat} {v : Value} (h : w.ownsRow base e ρ.size v n cs) (hr : RepAll ρ w L w.heap.size l cs) (hL : L ≤ base) (hs : 0 < ρ.size) : ∃ A c, v = .slice A n c ∧ ρ.row w L w.heap.size A n l ∧ n ≤ maxLen ∧ n ≤ c := by
 have hl : l.length = n := by
  have h1 := h.1
  rw [hr.len] at h1
  exact Nat.eq_of_mul_eq_mul_right hs h1
 rcases h.2 with ⟨rfl, rfl⟩ | ⟨g, cap, cur, rfl, hbg, hh, hnc, hcm, hcs, ht⟩
 ·exact ⟨none, 0, rfl, ⟨hl, .inl rfl⟩, Nat.zero_le _, Nat.le_refl _⟩
 ·refine ⟨_, _, rfl, ⟨hl, .inr ⟨g, 0, rfl, ⟨Nat.le_trans hL hbg, Blk.lt (t := e) (cs := cur) hh⟩, fun k x hx => ?_⟩⟩, Nat.le_trans hnc hcm, hnc⟩
  obtain ⟨a, h1, h2⟩ := hr.at_ k x hx
  refine ⟨a, h1, fun j u hu => ?_⟩
  have hu2 := h2 j u hu
  rw [Nat.zero_add, cell_of_row w g _ cur e (0, 0) hh]
  rw [← ht, List.getElem?_take] at hu2
  split at hu2
  ·simpa using hu2
  ·cases hu2
end
structure Opens {α : Type} (P : Program) (N : Nat) (ρ : Rep α) (t : TypeId) (good : α → Prop) : Prop where
 cells : P.cellsOf t = ρ.size
 opens : ∀ {H : Type} {enc : TypeId × Value → H} {w : World} {base : Nat} {spare : Nat → Bool} {held : Bool} {fuel : Nat} {cs : List Value} {x : DataW H × List MemPlace},
  fuel ≤ N → DataW.trod enc P w base spare held fuel t cs = some x → (DataW.weights P t x.1).all (· ≤ reachBytes) = true → ∃ y, ρ.R w 0 w.heap.size y cs ∧ good y
section
variable {P : Program} {N : Nat} {t : TypeId}
theorem Opens.int (hu : P.underlying t = some (.int .i64)) (hc : P.cellsOf t = 1) : Opens P N repInt t fun n => -9223372036854775808 ≤ n ∧ n ≤ 9223372036854775807 where
 cells := hc
 opens _ h _ := by
  obtain ⟨n, rfl, _, hw⟩ := DataW.trod_int hu h
  refine ⟨n, rfl, ?_⟩
  simp only [Lit.wf, Bool.and_eq_true, decide_eq_true_eq] at hw
  exact hw
theorem Opens.str (hu : P.underlying t = some .string) (hc : P.cellsOf t = 1) : Opens P N repStr t fun s => s.size ≤ 140737488351232 where
 cells := hc
 opens _ h hw := by
  obtain ⟨s, rfl, hx, hs⟩ := DataW.trod_string hu h
  refine ⟨s, rfl, ?_⟩
  rw [hx] at hw
  simp only [DataW.weights, List.all_cons, List.all_nil, Bool.and_true, Array.length_toList] at hw
  exact of_decide_eq_true hw
theorem Opens.bool (hu : P.underlying t = some .bool) (hc : P.cellsOf t = 1) : Opens P N repBool t fun _ => True where
 cells := hc
 opens _ h _ := by
  obtain ⟨b, rfl, _⟩ := DataW.trod_bool hu h
  exact ⟨b, rfl, trivial⟩
theorem weightsAll_mem {H : Type} {e : TypeId} {l : List (DataW H)} {d : DataW H} (hd : d ∈ l) (h : (DataW.weightsAll P e l).all (· ≤ reachBytes) = true) : (DataW.weights P e d).all (· ≤ reachBytes) = true := by
 induction l with
 | nil => cases hd
 | cons y l ih =>
  rw [DataW.weightsAll, List.all_append, Bool.and_eq_true] at h
  cases hd with
  | head => exact h.1
  | tail _ hd => exact ih hd h.2
theorem Opens.slice {α : Type} {ρ : Rep α} {e : TypeId} {good : α → Prop} {by_ : Nat} (hu : P.underlying t = some (.slice e)) (hc : P.cellsOf t = 1) (hb : P.bytesOf e = by_) (hs : 0 < ρ.size) (O : ∀ M, M < N → Opens P M ρ e good) (hce : P.cellsOf e = ρ.size) :
  Opens P N ρ.slice t fun l => l.length * by_ ≤ 140737488351232 ∧ l.length ≤ maxLen ∧ ∀ x ∈ l, good x where
 cells := hc
 opens := by
  intro H enc w base spare held fuel cs x hN h hw
  have hlt := DataW.trod_lt fuel t cs x h
  rcases DataW.trod_slice hu h with ⟨rfl, _⟩ | ⟨a, len, cap, elems, rest, m, rfl, rfl, hx, hba, hl, hm, hlen, hel, _, _⟩
  ·exact ⟨[], ⟨none, 0, 0, rfl, Rep.row.nil⟩, by simp [maxLen]⟩
  ·have O' := O m (by omega)
   rw [hx] at hw
   simp only [DataW.weights, hu, List.all_cons, List.all_append, Bool.and_eq_true, hb, List.length_map] at hw
   obtain ⟨hw1', hw2, _⟩ := hw
   have hw1 : (elems.length + rest.length) * by_ ≤ 140737488351232 := of_decide_eq_true hw1'
   clear hw1'
   have hv : ∀ i, i < len → ∃ y : α, (∃ cs', ρ.R w 0 w.heap.size y cs' ∧ ∀ j u, cs'[j]? = some u → w.cell? (a.add (i * ρ.size + j)) = some u) ∧ good y := fun i hi => by
    have h1 := hel i hi
    rw [List.getElem?_eq_getElem (by omega)] at h1
    obtain ⟨cs', h2, h3⟩ := Option.bind_eq_some_iff.1 h1
    obtain ⟨y, h4, h5⟩ := O'.opens (Nat.le_refl _) h3 (weightsAll_mem (List.mem_map.2 ⟨_, List.getElem_mem _, rfl⟩) hw2)
    obtain ⟨_, hl', hg⟩ := World.cells?_some h2
    rw [hce] at hl' hg
    exact ⟨y, ⟨cs', h4, fun j u hu => by
     have hj : j < ρ.size := by
      rw [← hl']
      rcases Nat.lt_or_ge j cs'.length with h | h
      ·exact h
      ·rw [List.getElem?_eq_none h] at hu; cases hu
     rw [← add_add', hg j hj, hu]⟩, h5⟩
   rcases Nat.eq_zero_or_pos len with h0 | h0
   ·subst h0
    exact ⟨[], ⟨some a, 0, cap, rfl, Rep.row.nil⟩, by simp [maxLen]⟩
   ·obtain ⟨y0, ⟨cs0, hr0, hc0⟩, _⟩ := hv 0 h0
    have hl0 := ρ.len hr0
    have hsp : a.spot = none := by
     have := hc0 0 _ (List.getElem?_eq_getElem (by omega))
     exact (by simpa [Addr.add] using World.cell?_spot this)
    obtain ⟨b, o, s⟩ := a
    simp only at hsp
    subst hsp
    have hadd : ∀ i, (⟨b, o, none⟩ : Addr).add i = ⟨b, o + i, none⟩ := fun i => by unfold Addr.add; split <;> simp_all
    obtain ⟨f, hf⟩ := @choose_lt α ⟨y0⟩ len _ hv
    refine ⟨(List.range len).map f, ⟨_, len, cap, rfl, by simp, .inr ⟨b, o, rfl, ⟨Nat.zero_le _, ?_⟩, fun k x hx => ?_⟩⟩, ?_, ?_, ?_⟩
    ·refine hlt (.cell b o) ?_
     rw [hx]
     refine List.mem_append_left _ ?_
     rw [hce]
     simp only [MemPlace.row, List.mem_map, List.mem_range]
     refine ⟨0, ?_, by simp⟩
     exact Nat.mul_pos (by omega) hs
    ·have hk : k < len := by
      rcases Nat.lt_or_ge k len with h | h
      ·exact h
      ·rw [List.getElem?_eq_none (by simpa using h)] at hx; cases hx
     rw [List.getElem?_map, List.getElem?_range hk] at hx
     simp only [Option.map_some, Option.some.injEq] at hx
     subst hx
     obtain ⟨⟨cs', h1, h2⟩, _⟩ := hf k hk
     exact ⟨cs', h1, fun j u hu => by have := h2 j u hu; rwa [hadd, ← Nat.add_assoc] at this⟩
    ·rw [List.length_map, List.length_range]
     rw [hlen] at hw1
     rw [Nat.add_mul] at hw1
     omega
    ·rw [List.length_map, List.length_range]; omega
    ·intro y hy
     obtain ⟨i, hi, rfl⟩ := List.mem_map.1 hy
     exact (hf i (List.mem_range.1 hi)).2
def PartsOk {H : Type} (P : Program) (enc : TypeId × Value → H) (w : World) (base : Nat) (spare : Nat → Bool) (held : Bool) (n : Nat) : List TypeId → List Value → List (DataW H × List MemPlace) → Prop
 | [], cs, [] => cs = []
 | t :: ts, cs, x :: xs => DataW.trod enc P w base spare held n t (cs.take (P.cellsOf t)) = some x ∧ PartsOk P enc w base spare held n ts (cs.drop (P.cellsOf t)) xs
 | _, _, _ => False
structure OpensParts {α : Type} (P : Program) (N : Nat) (ρ : Rep α) (ts : List TypeId) (good : α → Prop) : Prop where
 cells : (ts.map P.cellsOf).sum = ρ.size
 opens : ∀ {H : Type} {enc : TypeId × Value → H} {w : World} {base : Nat} {spare : Nat → Bool} {held : Bool} {fuel : Nat} {cs : List Value} {xs : List (DataW H × List MemPlace)},
  fuel ≤ N → PartsOk P enc w base spare held fuel ts cs xs → (DataW.weightsEach P ts (xs.map (·.1))).all (· ≤ reachBytes) = true → ∃ y, ρ.R w 0 w.heap.size y cs ∧ good y
theorem OpensParts.one {α : Type} {ρ : Rep α} {good : α → Prop} (O : Opens P N ρ t good) : OpensParts P N ρ [t] good where
 cells := by simp [O.cells]
 opens := by
  intro H enc w base spare held fuel cs xs hN h hw
  match xs, h with
  | [x], ⟨h1, h2⟩ =>
   have h2 : cs.drop (P.cellsOf t) = [] := h2
   simp only [List.map_cons, List.map_nil, DataW.weightsEach, List.append_nil] at hw
   have e : cs.take (P.cellsOf t) = cs := by
    have := List.take_append_drop (P.cellsOf t) cs
    rw [h2, List.append_nil] at this
    exact this
   rw [e] at h1
   exact O.opens hN h1 hw
theorem OpensParts.cons {α β : Type} {ρ : Rep α} {σ : Rep β} {ts : List TypeId} {good : α → Prop} {good' : β → Prop} (O : Opens P N ρ t good) (O' : OpensParts P N σ ts good') : OpensParts P N (ρ.and σ) (t :: ts) fun x => good x.1 ∧ good' x.2 where
 cells := by rw [List.map_cons, List.sum_cons, O.cells, O'.cells]; rfl
 opens := by
  intro H enc w base spare held fuel cs xs hN h hw
  match xs, h with
  | x :: xs, ⟨h1, h2⟩ =>
   simp only [List.map_cons, DataW.weightsEach, List.all_append, Bool.and_eq_true] at hw
   obtain ⟨y, a1, a2⟩ := O.opens hN h1 hw.1
   obtain ⟨z, b1, b2⟩ := O'.opens hN h2 hw.2
   exact ⟨(y, z), ⟨_, _, (List.take_append_drop _ _).symm, a1, b1⟩, a2, b2⟩
def offsOk (P : Program) : Nat → List Field → Bool
 | _, [] => true
 | o, f :: fs => f.offset == o && offsOk P (o + P.cellsOf f.type) fs
theorem parts_of {H : Type} {enc : TypeId × Value → H} {w : World} {base : Nat} {spare : Nat → Bool} {held : Bool} {n : Nat} : ∀ (fs : List Field) (o : Nat) (cs0 : List Value) (xs : List (DataW H × List MemPlace)),
  offsOk P o fs = true → cs0.length = o + ((fs.map (·.type)).map P.cellsOf).sum → xs.length = fs.length → (∀ (i : Nat) (f : Field), fs[i]? = some f → DataW.trod enc P w base spare held n f.type ((cs0.drop f.offset).take (P.cellsOf f.type)) = xs[i]?) →
  PartsOk P enc w base spare held n (fs.map (·.type)) (cs0.drop o) xs
 | [], o, cs0, xs, _, hl, hx, _ => by
  obtain rfl : xs = [] := List.eq_nil_of_length_eq_zero hx
  show cs0.drop o = []
  simp at hl
  exact List.drop_eq_nil_of_le (by omega)
 | f :: fs, o, cs0, xs, ho, hl, hx, hf => by
  simp only [offsOk, Bool.and_eq_true, beq_iff_eq] at ho
  match xs, hx with
  | x :: xs, hx =>
   simp only [List.map_cons, List.sum_cons] at hl
   refine ⟨?_, ?_⟩
   ·have := hf 0 f rfl
    rw [ho.1] at this
    simpa using this
   ·rw [List.drop_drop]
    exact parts_of fs _ cs0 xs ho.2 (by simp only at hl ⊢; omega) (by simpa using hx) fun i g hg => by simpa using hf (i + 1) g (by simpa using hg)
theorem Opens.struct {α : Type} {ρ : Rep α} {good : α → Prop} {fs : Array Field} {ts : List TypeId} (hu : P.underlying t = some (.struct fs)) (hts : fs.toList.map (·.type) = ts) (ho : offsOk P 0 fs.toList = true) (hc : P.cellsOf t = (ts.map P.cellsOf).sum) (hcr : P.cellsOf t = ρ.size) (O : ∀ M, M < N → OpensParts P M ρ ts good) : Opens P N ρ t good where
 cells := hcr
 opens := by
  intro H enc w base spare held fuel cs x hN h hw
  obtain ⟨xs, n, rfl, hx, hlen, hxl, hf⟩ := DataW.trod_struct hu h
  subst hts
  have hp := parts_of (P := P) (n := n) (enc := enc) (w := w) (base := base) (spare := spare) (held := held) fs.toList 0 cs xs ho (by rw [hlen, hc]; omega) (by simpa using hxl) fun i f hfi => hf i f (by simpa using hfi)
  rw [List.drop_zero] at hp
  rw [hx] at hw
  simp only [DataW.weights, hu] at hw
  exact (O n (by omega)).opens (Nat.le_refl _) hp hw
theorem Opens.by {α β : Type} {ρ : Rep β} {good : β → Prop} (O : Opens P N ρ t good) (f : α → β) (g : β → α) (h : ∀ y, f (g y) = y) {good' : α → Prop} (hg : ∀ y, good y → good' (g y)) : Opens P N (ρ.by f) t good' where
 cells := O.cells
 opens := by
  intro H enc w base spare held fuel cs x hN ht hw
  obtain ⟨y, h1, h2⟩ := O.opens hN ht hw
  refine ⟨g y, ?_, hg y h2⟩
  show ρ.R w 0 w.heap.size (f (g y)) cs
  rw [h]
  exact h1
end
end Go.Proofs.YtjdgejfhnfnmgaaGreatDoor
namespace Go.Proofs.YtjdgejfhnfnmgaaGreatDoor
open Go.RowKit
section
variable {P : Program} {w0 : World} {ops : Array Oper} {rest : List Oper} {o : Oper} {a : Act} {Q : Exit → Act → World → Prop}
end
theorem RepAll.left {α : Type} {ρ : Rep α} {w0 w' : World} {L B base : Nat} {v : Value} {l : List α} {cs : List Value} (h : RepAll ρ w0 L B l cs) (hL : Left w0 w' base v) (hB : B ≤ base) : RepAll ρ w' L B l cs :=
 h.keep fun _ _ hp => hL.below.cell (Nat.lt_of_lt_of_le hp hB)
theorem RepAll.row {α : Type} {ρ : Rep α} {w : World} {L B base : Nat} {e : TypeId} {v : Value} {l : List α} {cs : List Value} (h : RepAll ρ w L B l cs) (hown : w.ownsRow base e ρ.size v l.length cs) (hL : L ≤ base) (hB : B ≤ w.heap.size) (hs : 0 < ρ.size) : ∃ A c, v = .slice A l.length c ∧ ρ.row w L w.heap.size A l.length l ∧ l.length ≤ maxLen ∧ l.length ≤ c :=
 Rep.row.of_own hown (h.more (Nat.le_refl _) hB) hL hs
end Go.Proofs.YtjdgejfhnfnmgaaGreatDoor
namespace Go.Proofs.YtjdgejfhnfnmgaaGreatDoor
open Go.RowKit
section
variable {P : Program} {f : FuncId} {args : Array Value} {w : World} {a n : Nat} {v : Value}
end
def Enters (P : Program) (G : FuncId) : Prop := ∀ (args : Array Value) (w : World), (callFunc G args).run P w = .ok (.enter G args) w
theorem enters_of {P : Program} {f : FuncId} {fn : Func} (hf : P.funcs[f]? = some fn) (hname : (fn.name == "runtime.NumGoroutine") = false) (hb' : fn.body.isSome = true) : Enters P f := fun args w => by
 obtain ⟨c, hb⟩ := Option.isSome_iff_exists.1 hb'
 have h1 : fn.name ≠ "runtime.NumGoroutine" := by simpa using hname
 simp [callFunc, hf, h1, hb]
end Go.Proofs.YtjdgejfhnfnmgaaGreatDoor
namespace Go.Proofs.YtjdgejfhnfnmgaaGreatDoor
open Go.RowKit
theorem own_low {w : World} {base base' : Nat} {e : TypeId} {size n : Nat} {v : Value} {xs : List Value} (h : w.ownsRow base e size v n xs) (hb : base' ≤ base) : w.ownsRow base' e size v n xs := by
 refine ⟨h.1, h.2.imp id ?_⟩
 rintro ⟨g, cap, cur, h1, h2, h3⟩
 exact ⟨g, cap, cur, h1, by omega, h3⟩
theorem Blk.call {w w' : World} {g : Nat} {t : TypeId} {cs : Array Value} (h : Blk w g t cs) (hb : Below w.heap.size w w') : Blk w' g t cs := h.below hb h.lt
theorem Blk.left {w w' : World} {g base : Nat} {t : TypeId} {cs : Array Value} {v : Value} (h : Blk w g t cs) (hL : Left w w' base v) (hg : g < base) : Blk w' g t cs := h.below hL.below hg
section
variable {P : Program} {w : World} {ops : Array Oper} {o : Oper} {a : Act} {K : Act → World → Prop} {Q : Exit → Act → World → Prop} {E : Prop}
end
theorem Held2.below {w W W' : World} {g m : Nat} {x y : Value} (h : Below w.heap.size w W ∧ m ≤ W.heap.size ∧ W.cell? ⟨g, 0, none⟩ = some x ∧ W.cell? ⟨g, 1, none⟩ = some y) (hg : w.heap.size ≤ m) (hgm : g < m) (hb : Below m W W') :
  Below w.heap.size w W' ∧ m ≤ W'.heap.size ∧ W'.cell? ⟨g, 0, none⟩ = some x ∧ W'.cell? ⟨g, 1, none⟩ = some y :=
 ⟨h.1.trans (hb.mono hg), Nat.le_trans h.2.1 hb.size, (hb.cell (p := ⟨g, 0, none⟩) hgm).trans h.2.2.1, (hb.cell (p := ⟨g, 1, none⟩) hgm).trans h.2.2.2⟩
theorem Held2.call {w W W' : World} {g m : Nat} {x y : Value} (h : Below w.heap.size w W ∧ m ≤ W.heap.size ∧ W.cell? ⟨g, 0, none⟩ = some x ∧ W.cell? ⟨g, 1, none⟩ = some y) (hg : w.heap.size ≤ m) (hgm : g < m) (hb : Below W.heap.size W W') :
  Below w.heap.size w W' ∧ m ≤ W'.heap.size ∧ W'.cell? ⟨g, 0, none⟩ = some x ∧ W'.cell? ⟨g, 1, none⟩ = some y := Held2.below h hg hgm (hb.mono h.2.1)
theorem Held2.alloc {w W : World} {g m : Nat} {x y : Value} (h : Below w.heap.size w W ∧ m ≤ W.heap.size ∧ W.cell? ⟨g, 0, none⟩ = some x ∧ W.cell? ⟨g, 1, none⟩ = some y) (hg : w.heap.size ≤ m) (hgm : g < m) (o : Obj) :
  Below w.heap.size w (W.alloc o) ∧ m ≤ (W.alloc o).heap.size ∧ (W.alloc o).cell? ⟨g, 0, none⟩ = some x ∧ (W.alloc o).cell? ⟨g, 1, none⟩ = some y := Held2.call h hg hgm (below_two o)
theorem Held2.put {w W : World} {g m : Nat} {x y u : Value} {p : Addr} (h : Below w.heap.size w W ∧ m ≤ W.heap.size ∧ W.cell? ⟨g, 0, none⟩ = some x ∧ W.cell? ⟨g, 1, none⟩ = some y) (hp : p.block ≠ g) (hpw : w.heap.size ≤ p.block) :
  Below w.heap.size w (W.setCell p u) ∧ m ≤ (W.setCell p u).heap.size ∧ (W.setCell p u).cell? ⟨g, 0, none⟩ = some x ∧ (W.setCell p u).cell? ⟨g, 1, none⟩ = some y :=
 ⟨h.1.setCell hpw u, by simpa [World.setCell] using h.2.1, (World.cell?_setCell_far _ _ _ _ hp).trans h.2.2.1, (World.cell?_setCell_far _ _ _ _ hp).trans h.2.2.2⟩
end Go.Proofs.YtjdgejfhnfnmgaaGreatDoor
namespace Go.Proofs.YtjdgejfhnfnmgaaGreatDoor
open Go.RowKit
theorem Left.refl (w : World) (base : Nat) (v : Value) : Left w w base v := ⟨Below.refl _ _, fun _ _ _ => rfl, fun _ _ _ => rfl, fun _ _ _ => rfl⟩
theorem run_append_none_c {P : Program} {w : World} (base : Nat) (t ty e : TypeId) (i : TypeInfo) (size : Nat) (ht : P.underlying t = some (.slice e)) (hi : P.info? e = some i)
  (v : Value) (n : Nat) (xs : List Value) (c : Nat) (hown : w.ownsRow base e size v n xs) :
  (Builtin.append_ #[t, t] ty #[v, .slice none 0 c]).run P w = .ok v w := by
 rcases hown.2 with ⟨rfl, rfl⟩ | ⟨g, cap, cur, rfl, _, _, hnc, _⟩
 ·simp [Builtin.append_, run_underlying ht, sizeOf, typeInfo, hi, Builtin.lenOf, Builtin.firstCells]
 ·simp [Builtin.append_, run_underlying ht, sizeOf, typeInfo, hi, Builtin.lenOf, Builtin.firstCells, hnc, storeCells]
theorem run_app_any {P : Program} {w : World} {t e : TypeId} {z : Value} {size bytes : Nat} (E : ElT P t e z size bytes) (ty : TypeId) {base : Nat} {v : Value} {n : Nat} {xs : List Value} (hown : w.ownsRow base e size v n xs)
  {ao : Option Addr} {m c : Nat} {cs : List Value} (hnone : ao = none → m = 0) (hc : ∀ ad, ao = some ad → ∀ j u, cs[j]? = some u → w.cell? (ad.add j) = some u) (hl : cs.length = m * size) (h1 : (cs.all fun u => u.oneCell') = true)
  (h63 : n + m ≤ maxLen) (hbytes : (n + m) * bytes ≤ 140737488355328) (hbase : base ≤ w.heap.size) :
  ∃ v' w', (Builtin.append_ #[t, t] ty #[v, .slice ao m c]).run P w = .ok v' w' ∧ w'.ownsRow base e size v' (n + m) (xs ++ cs) ∧ Left w w' base v ∧ (v'.ownBlock = v.ownBlock ∨ v'.ownBlock = some w.heap.size) := by
 obtain ⟨i, hi, hz, hz1, hz2⟩ := E.hi
 cases ao with
 | none =>
  obtain rfl := hnone rfl
  obtain rfl : cs = [] := List.eq_nil_of_length_eq_zero (by simpa using hl)
  exact ⟨v, w, run_append_none_c base t ty e i size E.ht hi v n xs c hown, by simpa using hown, Left.refl _ _ _, .inl rfl⟩
 | some ad =>
  obtain ⟨v', w', h2, h3, h4, _, h5⟩ := run_append_own_at (P := P) w base t ty e i z size bytes E.ht hi hz hz1 hz2 E.hzs E.hsz v n xs hown ad m c cs hl (hc ad rfl) (List.all_eq_true.1 h1) h63 hbytes hbase
  exact ⟨v', w', h2, h3, left_of hown hbase (fun row => World.grownBy.refl _ _) h4, h5⟩
section
variable {P : Program} {w : World} {ops : Array Oper} {o : Oper} {a : Act} {K : Act → World → Prop} {Q : Exit → Act → World → Prop} {EE : Prop}
end
end Go.Proofs.YtjdgejfhnfnmgaaGreatDoor
