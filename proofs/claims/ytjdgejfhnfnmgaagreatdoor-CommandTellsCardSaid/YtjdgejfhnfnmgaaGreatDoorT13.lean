/-  -/
import Derived.Test.YtjdgejfhnfnmgaaGreatDoorT12
import Derived.Test.YtjdgejfhnfnmgaaGreatDoorT11
namespace Go.Proofs.YtjdgejfhnfnmgaaGreatDoor.Ax
open Go.RowKit
set_option linter.unnecessarySimpa false
def dnMask (tab : List Nat) : List Nat → Nat
 | [] => 0
 | j :: js => match Nat.blt j tab.length with
  | true => (1 <<< j) ||| (tab.getD j 0) ||| dnMask tab js
  | false => dnMask tab js
def dnTab : List Oper → List Nat → List Nat
 | [], tab => tab
 | o :: l, tab => dnTab l (tab ++ [dnMask tab (edgesOf o)])
def bfB (tab : List Nat) (i j : Nat) : Bool := Nat.testBit (tab.getD i 0) j
def bfOf (ops : Array Oper) (i : Nat) : List Nat := (List.range i).filter fun j => bfB (dnTab ops.toList []) i j
def isDst : Option Tmp → Nat → Bool
 | some d', d => Nat.beq d' d
 | none, _ => false
def uniqB : List Oper → Bool
 | [] => true
 | o :: l => match o.dst with
  | some d => l.all (fun o' => !isDst o'.dst d) && uniqB l
  | none => uniqB l
def dataB (tab : List Nat) (ops : Array Oper) (ds : List (Option Tmp)) : Nat → List Oper → Bool
 | _, [] => true
 | i, o :: l => (Oper.looksAt ops o).all (fun d => dataB.one tab i d 0 ds) && dataB tab ops ds (i + 1) l
 where one (tab : List Nat) (i d : Nat) : Nat → List (Option Tmp) → Bool
 | _, [] => true
 | j, d' :: ds => (match isDst d' d with
  | true => Nat.blt j i && bfB tab i j
  | false => true) && one tab i d (j + 1) ds
def statB (ops : Array Oper) : Bool := backOk ops.toList && (uniqB ops.toList && dataB (dnTab ops.toList []) ops (ops.toList.map (·.dst)) 0 ops.toList)
section
variable {ops : Array Oper} {tab : List Nat} {i j k : Nat}
theorem mask_bit : ∀ {es : List Nat}, Nat.testBit (dnMask tab es) j = true → ∃ e ∈ es, e < tab.length ∧ (j = e ∨ Nat.testBit (tab.getD e 0) j = true)
 | [], h => by simp [dnMask] at h
 | e :: es, h => by
  unfold dnMask at h
  split at h
  ·rename_i hl
   have hl : e < tab.length := by simpa [Nat.blt_eq] using hl
   rw [Nat.testBit_or, Nat.testBit_or, Bool.or_eq_true, Bool.or_eq_true] at h
   rcases h with (h | h) | h
   ·refine ⟨e, List.mem_cons_self, hl, .inl ?_⟩
    rw [Nat.one_shiftLeft, Nat.testBit_two_pow] at h
    exact (of_decide_eq_true h).symm
   ·exact ⟨e, List.mem_cons_self, hl, .inr h⟩
   ·obtain ⟨e', h1, h2⟩ := mask_bit h; exact ⟨e', List.mem_cons_of_mem _ h1, h2⟩
  ·obtain ⟨e', h1, h2⟩ := mask_bit h; exact ⟨e', List.mem_cons_of_mem _ h1, h2⟩
def TabOk (l : List Oper) (tab : List Nat) : Prop := ∀ i j, Nat.testBit (tab.getD i 0) j = true → j < i ∧ i < tab.length ∧ ∃ o, l[i]? = some o ∧ ∃ e ∈ edgesOf o, j = e ∨ Nat.testBit (tab.getD e 0) j = true ∧ e < i
theorem tab_step {done l : List Oper} {o : Oper} (hlen : tab.length = done.length) (h : TabOk (done ++ o :: l) tab) : TabOk (done ++ o :: l) (tab ++ [dnMask tab (edgesOf o)]) := by
 have hold : ∀ i, i < tab.length → (tab ++ [dnMask tab (edgesOf o)]).getD i 0 = tab.getD i 0 := fun i hi => by
  rw [List.getD_eq_getElem?_getD, List.getD_eq_getElem?_getD, List.getElem?_append_left hi]
 intro i j hb
 rcases Nat.lt_trichotomy i tab.length with hi | hi | hi
 ·rw [hold i hi] at hb
  obtain ⟨h1, h2, o', h3, e, h4, h5⟩ := h i j hb
  refine ⟨h1, by simp; omega, o', h3, e, h4, h5.imp id fun h5 => ⟨by rw [hold e (by omega)]; exact h5.1, h5.2⟩⟩
 ·subst hi
  have : (tab ++ [dnMask tab (edgesOf o)]).getD tab.length 0 = dnMask tab (edgesOf o) := by
   rw [List.getD_eq_getElem?_getD, List.getElem?_append_right (Nat.le_refl _), Nat.sub_self]; rfl
  rw [this] at hb
  obtain ⟨e, h1, h2, h3⟩ := mask_bit hb
  refine ⟨?_, by simp, o, by rw [hlen, List.getElem?_append_right (Nat.le_refl _), Nat.sub_self]; rfl, e, h1, h3.imp id fun h3 => ⟨by rw [hold e h2]; exact h3, h2⟩⟩
  rcases h3 with rfl | h3
  ·exact h2
  ·have := (h e j h3).1; omega
 ·rw [List.getD_eq_getElem?_getD, List.getElem?_eq_none (by simp; omega)] at hb
  simp at hb
theorem tab_ok : ∀ {l done : List Oper} {tab : List Nat}, tab.length = done.length → TabOk (done ++ l) tab → TabOk (done ++ l) (dnTab l tab)
 | [], _, _, _, h => h
 | o :: l, done, tab, hlen, h => by
  unfold dnTab
  have := tab_ok (l := l) (done := done ++ [o]) (tab := tab ++ [dnMask tab (edgesOf o)]) (by simp [hlen]) (by rw [List.append_assoc]; exact tab_step hlen h)
  rwa [List.append_assoc] at this
theorem tab_all (l : List Oper) : TabOk l (dnTab l []) := tab_ok (done := []) rfl fun i j h => by simp at h
theorem mem_bf : j ∈ bfOf ops i ↔ bfB (dnTab ops.toList []) i j = true := by
 unfold bfOf
 rw [List.mem_filter, List.mem_range]
 exact ⟨fun h => h.2, fun h => ⟨(tab_all ops.toList i j h).1, h⟩⟩
theorem isDst_iff {o : Option Tmp} {d : Nat} : isDst o d = true ↔ o = some d := by
 cases o with
 | none => simp [isDst]
 | some d' => simp only [isDst, Nat.beq_eq]; exact ⟨fun h => by rw [h], fun h => by injection h⟩
theorem uniq_of : ∀ {l : List Oper}, uniqB l = true → ∀ (i j : Nat) (o o' : Oper) (d : Nat), l[i]? = some o → l[j]? = some o' → o.dst = some d → o'.dst = some d → i = j
 | [], _, _, _, _, _, _, h, _, _, _ => by simp at h
 | x :: l, h, i, j, o, o', d, hi, hj, ho, ho' => by
  unfold uniqB at h
  have hl : uniqB l = true := by
   split at h
   ·rw [Bool.and_eq_true] at h; exact h.2
   ·exact h
  have hx : ∀ (j : Nat) (o' : Oper), x.dst = some d → l[j]? = some o' → o'.dst = some d → False := fun j o' hx hj ho' => by
   rw [hx] at h
   simp only [Bool.and_eq_true, List.all_eq_true, Bool.not_eq_true'] at h
   have := h.1 o' (List.mem_of_getElem? hj)
   rw [isDst_iff.2 ho'] at this
   cases this
  cases i with
  | zero =>
   simp only [List.getElem?_cons_zero, Option.some.injEq] at hi
   subst hi
   cases j with
   | zero => rfl
   | succ j => exact (hx j o' ho (by simpa using hj) ho').elim
  | succ i =>
   cases j with
   | zero =>
    simp only [List.getElem?_cons_zero, Option.some.injEq] at hj
    subst hj
    exact (hx i o ho' (by simpa using hi) ho).elim
   | succ j => rw [uniq_of hl i j o o' d (by simpa using hi) (by simpa using hj) ho ho']
theorem one_of {d : Nat} : ∀ {ds : List (Option Tmp)} {j0 : Nat}, dataB.one tab i d j0 ds = true → ∀ j, ds[j]? = some (some d) → bfB tab i (j0 + j) = true
 | [], _, _, j, h => by simp at h
 | d' :: ds, j0, h, j, hj => by
  unfold dataB.one at h
  rw [Bool.and_eq_true] at h
  cases j with
  | zero =>
   simp only [List.getElem?_cons_zero, Option.some.injEq] at hj
   have h1 := h.1
   rw [isDst_iff.2 hj] at h1
   simp only [Bool.and_eq_true] at h1
   exact h1.2
  | succ j =>
   have := one_of h.2 j (by simpa using hj)
   rw [show j0 + (j + 1) = j0 + 1 + j by omega]
   exact this
theorem data_of {ds : List (Option Tmp)} : ∀ {l : List Oper} {i0 : Nat}, dataB tab ops ds i0 l = true → ∀ i o, l[i]? = some o → ∀ d ∈ Oper.looksAt ops o, ∀ j, ds[j]? = some (some d) → bfB tab (i0 + i) j = true
 | [], _, _, i, _, h => by simp at h
 | x :: l, i0, h, i, o, hi => by
  unfold dataB at h
  rw [Bool.and_eq_true] at h
  cases i with
  | zero =>
   simp only [List.getElem?_cons_zero, Option.some.injEq] at hi
   subst hi
   intro d hd j hj
   have := one_of (List.all_eq_true.1 h.1 d hd) j hj
   simpa using this
  | succ i =>
   intro d hd j hj
   have := data_of h.2 i o (by simpa using hi) d hd j hj
   rw [show i0 + (i + 1) = i0 + 1 + i by omega]
   exact this
theorem stat_ok (h : statB ops = true) : backOk ops.toList = true ∧ DSt ops (bfOf ops) := by
 unfold statB at h
 simp only [Bool.and_eq_true] at h
 obtain ⟨h1, h2, h3⟩ := h
 refine ⟨h1, fun i j o o' d hi hj ho ho' => uniq_of h2 i j o o' d (by simpa using hi) (by simpa using hj) ho ho', fun i j o o' d hi hj hd ho' => ?_, fun i j hj => ?_, fun i j hj => ?_⟩
 ·rw [mem_bf]
  have := data_of h3 i o (by simpa using hi) d hd j (by rw [List.getElem?_map, Array.getElem?_toList, hj, Option.map_some, ho'])
  simpa using this
 ·obtain ⟨_, _, o, ho, e, he, h5⟩ := tab_all ops.toList i j (mem_bf.1 hj)
  refine ⟨o, by simpa using ho, h5.elim (fun h => .inl (by rw [h]; exact edgesOf_edge he)) fun h => .inr ⟨e, edgesOf_edge he, mem_bf.2 h.1⟩⟩
 ·exact (tab_all ops.toList i j (mem_bf.1 hj)).1
end
end Go.Proofs.YtjdgejfhnfnmgaaGreatDoor.Ax
namespace Go.Proofs.YtjdgejfhnfnmgaaGreatDoor.Ax
open Go.RowKit
section
variable {X : Cx} {st : St} {ρ : Nat → R} {a : Act} {w : World}
theorem okR_less {z : Bool} {b id : Nat} (h : okOf X ρ w z b) : okOf X (updR ρ id .dead) w z b := ⟨h.1, h.2.1, fun i b' cap hi => by
 unfold updR at hi
 split at hi
 ·cases hi
 ·exact h.2.2 i b' cap hi⟩
theorem row_melt (hH : Hold X st ρ a w) {id len : Nat} {e : TypeId} {size : Nat} {z : Bool} {rows : List (List T)} (hb : get id st.bl = some (.arr e size z rows)) (hl : rows.length = len) {x : Value} (hx : RdC w (okOf X ρ w) ρ (.own id len) x) :
  RdT w (okOf X (updR ρ id .dead) w z) (.sl rows) x := by
 have hB := hH.blocks _ _ hb
 subst hl
 unfold RdC at hx
 unfold HasB at hB
 unfold RdT
 cases hid : ρ id with
 | dead => simp [hid] at hx
 | nil =>
  simp only [hid] at hx hB
  obtain ⟨h1, A, hA⟩ := hx
  exact ⟨A, 0, 0, hA, h1, Nat.le_refl _, .inl rfl⟩
 | lie g cap =>
  simp only [hid] at hx hB
  obtain ⟨xs, h1, h2, h3⟩ := hB
  obtain ⟨_, hc, hcell⟩ := own_cells h1
  have hg := hH.ge id g cap hid
  have hok : okOf X (updR ρ id .dead) w z g := ⟨hg.1.imp (fun h => h) .inl, hg.2.2, fun i b' c' hi => by
   unfold updR at hi
   split at hi
   ·cases hi
   ·rename_i hne
    rintro rfl
    exact hne (hH.inj i id b' c' cap hi hid)⟩
  exact ⟨_, _, _, hx, rfl, hc, .inr ⟨g, 0, size, rfl, hok, RdRows.mk (RdL.mono (ok := okOf X ρ w z) (ok' := okOf X (updR ρ id .dead) w z) (fun b hb => ⟨okR_less hb, rfl⟩) h2) h3 fun j u hu => by rw [Nat.zero_add]; exact hcell j u hu⟩⟩
theorem evo_dead (hH : Hold X st ρ a w) {id : Nat} : Evo X ρ w (updR ρ id .dead) w [id] [id] := ⟨Below.refl _ _, fun _ _ _ => rfl, fun i hi => updR_ne (by simpa using hi), (fun i b cap hi hr => by
  simp only [List.mem_singleton] at hi
  subst hi
  rw [updR_same] at hr; cases hr), (fun i j b c d hi hj => by
  unfold updR at hi hj
  split at hi
  ·cases hi
  ·split at hj
   ·cases hj
   ·exact hH.inj i j b c d hi hj), fun i hi => .inr (by simp only [List.mem_singleton] at hi; rw [hi, updR_same])⟩
end
def meltSt (st : St) (t id : Nat) (z : Bool) (rows : List (List T)) : St := ⟨(t, .one (.t z (.sl rows))) :: (st.turn [id] [id] []).sl, (st.turn [id] [id] []).bl⟩
theorem cw_melt {P : Program} {X : Cx} {st : St} {c : Code} {Q : Exit → St → Prop} (t id : Nat) {e : TypeId} {size len : Nat} {z : Bool} {rows : List (List T)} (ht : get t st.sl = some (.one (.own id len))) (hb : get id st.bl = some (.arr e size z rows)) (hl : rows.length = len) (h : CW P X c Q (meltSt st t id z rows)) : CW P X c Q st := fun ρ a w hH => by
 refine h (updR ρ id .dead) a w ?_
 have hT := hH.turn (evo_dead hH (id := id)) (nb := []) (by intro id b h; cases h)
 refine ⟨hT.defers, hT.size, hT.below, hT.keep, hT.ge, hT.inj, hT.pin, fun t' v hv => ?_, hT.blocks, hT.gk, hT.gw⟩
 simp only [meltSt, get] at hv
 split at hv
 ·rename_i htt
  subst htt
  injection hv with hv
  subst hv
  obtain ⟨x, h1, h2⟩ := hH.slots _ _ ht
  refine ⟨x, h1, ?_⟩
  unfold RdV at h2 ⊢
  unfold RdC
  exact row_melt hH hb hl h2
 ·exact hT.slots t' v hv
end Go.Proofs.YtjdgejfhnfnmgaaGreatDoor.Ax
