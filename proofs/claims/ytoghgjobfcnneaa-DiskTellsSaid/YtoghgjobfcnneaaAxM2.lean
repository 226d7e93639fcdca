/- Operations that make memory, or write it: blocks. -/
import Derived.Test.YtoghgjobfcnneaaAxM
namespace Go.Proofs.Ytoghgjobfcnneaa.Ax
open Go.RowKit
def updR (ρ : Nat → R) (d : Nat) (r : R) (i : Nat) : R := if i = d then r else ρ i
section
variable {w w' : World} {ok : Bool → Nat → Prop} {ρ : Nat → R} {P : Program} {X : Cx} {st : St} {a : Act} {t : TypeId} {y : Ty}
theorem updR_same {d : Nat} {r : R} : updR ρ d r d = r := if_pos rfl
theorem updR_ne {d i : Nat} {r : R} (h : i ≠ d) : updR ρ d r i = ρ i := if_neg h
/-- a new block, known as d from now on -/
theorem evo_new (hH : Hold X st ρ a w) (d cap : Nat) (o : Obj) : Evo X ρ w (updR ρ d (.lie w.heap.size cap)) (w.alloc o) [d] [d] where
  below := (Below.refl _ _).alloc hH.below.size o
  heap b hb _ := Below.heap_alloc w o b hb
  rho id hid := updR_ne (by simpa using hid)
  new id b cap' hid h := by
    simp only [List.mem_singleton] at hid
    subst hid
    rw [updR_same] at h
    injection h with h1 h2
    subst h1
    exact ⟨hH.below.size, by simp, .inl (Nat.le_refl _)⟩
  inj i j b c c' hi hj := by
    by_cases h1 : i = d <;> by_cases h2 : j = d
    · rw [h1, h2]
    · subst h1
      rw [updR_same] at hi
      rw [updR_ne h2] at hj
      injection hi with hi _
      have := (hH.ge j b c' hj).2
      omega
    · subst h2
      rw [updR_same] at hj
      rw [updR_ne h1] at hi
      injection hj with hj _
      have := (hH.ge i b c hi).2
      omega
    · rw [updR_ne h1] at hi
      rw [updR_ne h2] at hj
      exact hH.inj i j b c c' hi hj
theorem new_var (hH : Hold X st ρ a w) (d : Nat) {cs : List C} {xs : List Value} (e : TypeId) (hm : C.ments [d] cs = false) (h : RdCs w (okOf X ρ w) ρ cs xs) :
    Out X ρ w (updR ρ d (.lie w.heap.size 0)) (w.alloc (.cells xs.toArray e)) (.pointer (some ⟨w.heap.size, 0, none⟩)) (.mod (.one (.optr d 0)) [d] [d] [(d, .var e cs)]) := by
  have he := evo_new hH d 0 (.cells xs.toArray e)
  refine ⟨he, ?_, fun id b hb => ?_⟩
  · unfold RdV RdC
    rw [updR_same]
  · unfold get get at hb
    split at hb
    · rename_i hid
      injection hb with hb
      subst hid
      subst hb
      unfold HasB
      exact ⟨w.heap.size, 0, updR_same, xs.toArray, heap_alloc_new w _, by simpa using he.rdCs hm h⟩
    · cases hb
theorem one_get {id d : Nat} {B' B'' : B} (h : get id [(d, B')] = some B'') : id = d ∧ B' = B'' := by
  unfold get get at h
  split at h
  · rename_i hid
    injection h with h
    exact ⟨hid, h⟩
  · cases h
/-- a block is written -/
theorem evo_put (hH : Hold X st ρ a w) {d b cap : Nat} (hd : ρ d = .lie b cap) {cs' : Array Value} : Evo X ρ w ρ (w.setRow b cs') [d] [] where
  below := ⟨rfl, rfl, rfl, by simp [World.setRow], fun k hk => setRow_other w b k cs' (by have := (hH.ge d b cap hd).1; omega)⟩
  heap k _ h := setRow_other w b k cs' (fun e => h d cap (by simp) (e ▸ hd))
  rho _ _ := rfl
  new _ _ _ h := by cases h
  inj := hH.inj
theorem put_var (hH : Hold X st ρ a w) {d b cap off : Nat} (hd : ρ d = .lie b cap) {e : TypeId} {cells vs : List C} {cs : Array Value} {xs : List Value} (hb : w.heap[b]? = some (.cells cs e (0, 0)))
    (hc : RdCs w (okOf X ρ w) ρ cells cs.toList) (hv : RdCs w (okOf X ρ w) ρ vs xs) (_hle : off + vs.length ≤ cells.length) (x : Value) :
    Out X ρ w ρ (w.setRow b (cs.toList.take off ++ xs ++ cs.toList.drop (off + xs.length)).toArray) x (.mod .junk [d] [] [(d, .var e (cells.take off ++ vs ++ cells.drop (off + vs.length)))]) := by
  have he := evo_put (cs' := (cs.toList.take off ++ xs ++ cs.toList.drop (off + xs.length)).toArray) hH hd
  refine ⟨he, by unfold RdV; trivial, fun id B' hB => ?_⟩
  obtain ⟨rfl, rfl⟩ := one_get hB
  unfold HasB
  refine ⟨b, cap, hd, _, setRow_heap w b cs _ e (0, 0) hb, ?_⟩
  refine he.rdCs (C.ments_nil _) ?_
  rw [hv.len]
  exact ((hc.take off).append hv).append (hc.drop _)
end
def modD (P : Program) (st : St) (dst : Option Tmp) : Op → Option Delta
  | .build t ps => (buildV P st t ps.toList).map Delta.pure
  | .alloc e => match dst with
    | some d => match tyOf P e with
      | some y => if y.zero.cells.toList.all (fun u => u.oneCell') then some (.mod (.one (.optr d 0)) [d] [d] [(d, .var e (y.zero.cells.toList.map constC))]) else none
      | none => none
    | none => none
  | .box e x => match dst with
    | some d => match ev st x with
      | some v => match cellsV v with
        | some cs => match C.ments [d] cs with
          | false => some (.mod (.one (.optr d 0)) [d] [d] [(d, .var e cs)])
          | true => none
        | none => none
      | none => none
    | none => none
  | .store t p x => match ev st p with
    | some (.one (.optr id off)) => match get id st.bl with
      | some (.var e cells) => match ev st x with
        | some v => match cellsV v with
          | some vs => match tyOf P t with
            | some y => if vs.length = y.size ∧ off + vs.length ≤ cells.length then some (.mod .junk [id] [] [(id, .var e (cells.take off ++ vs ++ cells.drop (off + vs.length)))]) else none
            | none => none
          | none => none
        | none => none
      | _ => none
    | _ => none
  | _ => none
section
variable {w w' : World} {ok : Bool → Nat → Prop} {ρ : Nat → R} {P : Program} {X : Cx} {st : St} {a : Act} {t : TypeId} {y : Ty}
theorem ments_const (d : List Nat) : ∀ l : List Value, C.ments d (l.map constC) = false
  | [] => rfl
  | v :: l => by
    rw [List.map_cons]
    simp only [C.ments, ments_const d l, Bool.or_false]
    unfold constC
    split <;> rfl
theorem mod_runs {o : Oper} {D : Delta} (h : modD P st o.dst o.op = some D) : Runs P X st o D := by
  intro ρ a w hH
  obtain ⟨dst, op, type, pos, after, guard⟩ := o
  simp only at h
  unfold modD at h
  split at h
  · rename_i t ps
    cases hb : buildV P st t ps.toList with
    | none => simp [hb] at h
    | some v =>
      simp only [hb, Option.map_some, Option.some.injEq] at h
      subst h
      obtain ⟨q, h1, h2⟩ := build_sound (P := P) hH hb
      exact ⟨q, ρ, w, .inl (by simp [execOp, h1]), rfl, rfl, h2⟩
  · rename_i e
    split at h
    · rename_i d
      split at h
      · rename_i y hy
        split at h
        · rename_i hz
          injection h with h
          subst h
          refine ⟨_, _, _, .inl ?_, new_var hH d e (ments_const _ _) (rd_constCs hz)⟩
          simp [execOp, Instr.alloc, ty_zero hy, newVar, newRow]
        · cases h
      · cases h
    · cases h
  · rename_i e x
    split at h
    · rename_i d
      split at h
      · rename_i v hv
        split at h
        · rename_i cs hcs
          split at h
          · rename_i hm
            injection h with h
            subst h
            refine ⟨_, _, _, .inl ?_, new_var hH d e hm (cells_rd hcs (ev_sound hH hv))⟩
            simp [execOp, Instr.box, newVar, newRow]
          · cases h
        · cases h
      · cases h
    · cases h
  · rename_i t p x
    split at h
    · rename_i id off hp
      split at h
      · rename_i e cells hb
        split at h
        · rename_i v hv
          split at h
          · rename_i vs hvs
            split at h
            · rename_i y hy
              split at h
              · rename_i hc
                injection h with h
                subst h
                have hx := cells_rd hvs (ev_sound hH hv)
                have hp' := ev_sound hH hp
                obtain ⟨b, cap, hid, cs, hheap, hcs⟩ := hH.blocks _ _ hb
                unfold RdV RdC at hp'
                rw [hid] at hp'
                simp only at hp'
                refine ⟨undef, ρ, _, .inr ⟨?_, rfl⟩, put_var hH hid hheap hcs hx hc.2 undef⟩
                have l1 := hcs.len
                have l2 := hx.len
                have hst := run_storeCells_at (P := P) b off e (a.eval x).cells.toList 0 cs w hheap (by simp at l1 l2 ⊢; omega) (List.all_eq_true.1 hx.one)
                rw [Nat.add_zero] at hst
                have hne : (a.eval x).cells.size = y.size := by rw [← hc.1, ← l2]; simp
                simp only [execOp, hp', Instr.storeAt, Instr.sureAddr, Sem.run_bind, Sem.run_pure, Result.andThen_ok, storeVar, ty_size hy, hne, ne_eq, not_true_eq_false, if_false, hst]
              · cases h
            · cases h
          · cases h
        · cases h
      · cases h
    · cases h
  · cases h
end
end Go.Proofs.Ytoghgjobfcnneaa.Ax
