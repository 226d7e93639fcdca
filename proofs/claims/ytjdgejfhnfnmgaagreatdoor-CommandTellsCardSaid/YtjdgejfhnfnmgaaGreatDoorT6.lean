/-  -/
import Derived.Test.YtjdgejfhnfnmgaaGreatDoorT5
import Derived.MapKept
namespace Go.Proofs.YtjdgejfhnfnmgaaGreatDoor.Ax
open Go.RowKit
def litCs : List C → Option (List Value)
 | [] => some []
 | .t _ (.lit v) :: cs => match litCs cs with
  | some vs => some (v :: vs)
  | none => none
 | _ => none
def wholeV : V → Option Value
 | .one (.t _ (.lit v)) => some v
 | .agg cs => match litCs cs with
  | some vs => some (.agg vs.toArray)
  | none => none
 | _ => none
def asC : List Value → Option (List C)
 | [] => some []
 | v :: vs => match v.oneCell' with
  | true => match asC vs with
   | some cs => some (.t true (.lit v) :: cs)
   | none => none
  | false => none
def asV : Value → Option V
 | .agg vs => match asC vs.toList with
  | some cs => some (.agg cs)
  | none => none
 | .tuple _ => none
 | v => match v.oneCell' with
  | true => some (.one (.t true (.lit v)))
  | false => none
def putM : List (Int × Value) → Int → Value → List (Int × Value)
 | [], k, v => [(k, v)]
 | p :: l, k, v => if p.1 = k then (k, v) :: l else p :: putM l k v
def getM : List (Int × Value) → Int → Option Value
 | [], _ => none
 | p :: l, k => if p.1 = k then some p.2 else getM l k
def keyOk (P : Program) (t : TypeId) (k : IntKind) : Option TypeId :=
 match tyOf P t with
 | some y => match y.d with
  | .map kt et => match tyOf P kt with
   | some yk => match yk.d with
    | .int j => if j = k then some et else none
    | _ => none
   | none => none
  | _ => none
 | none => none
def getOr (P : Program) (et : TypeId) : Option Value → Option V
 | some v => asV v
 | none => match tyOf P et with
  | some ye => asV ye.zero
  | none => none
def putD' (P : Program) (st : St) (t : TypeId) (m k x : Operand) : Option Delta :=
 match ev st m with
 | some (.one (.omap id)) => match get id st.bl with
  | some (.mp kk es) => match ev st k with
   | some (.one (.t _ (.lit (.int k2 n)))) => match ev st x with
    | some v => match wholeV v with
     | some u => match keyOk P t kk with
      | some _ => if k2 = kk then some (.mod .junk [id] [] [(id, .mp kk (putM es n u))]) else none
      | none => none
     | none => none
    | none => none
   | _ => none
  | _ => none
 | _ => none
def mapD (P : Program) (st : St) (dst : Option Tmp) : Op → Option Delta
 | .makeMap t none => match dst with
  | some d => match tyOf P t with
   | some y => match y.d with
    | .map kt _ => match tyOf P kt with
     | some yk => match yk.d with
      | .int k => some (.mod (.one (.omap d)) [d] [d] [(d, .mp k [])])
      | _ => none
     | none => none
    | _ => none
   | none => none
  | none => none
 | .mapUpdate t m k x => putD' P st t m k x
 | .insert t m k x => putD' P st t m k x
 | .lookup t m k false => match ev st m with
  | some (.one (.omap id)) => match get id st.bl with
   | some (.mp kk es) => match ev st k with
    | some (.one (.t _ (.lit (.int k2 n)))) => match keyOk P t kk with
     | some et => if k2 = kk then (getOr P et (getM es n)).map Delta.pure else none
     | none => none
    | _ => none
   | _ => none
  | _ => none
 | _ => none
section
variable {w w' : World} {ok : Bool → Nat → Prop} {ρ : Nat → R} {P : Program} {X : Cx} {st : St} {a : Act} {t : TypeId} {y : Ty}
theorem ty_map {k e : TypeId} (h : tyOf P t = some y) (hd : y.d = .map k e) : P.underlying t = some (.map k e) := by
 obtain ⟨d, i, h1, _, _, _, _, _, h7⟩ := tyOf_inv h
 rw [hd] at h7
 cases d <;> simp [tdOf] at h7
 rw [h1, h7.1, h7.2]
theorem litCs_rd : ∀ {cs : List C} {vs : List Value} {xs : List Value}, litCs cs = some vs → RdCs w ok ρ cs xs → xs = vs
 | [], vs, xs, h, hx => by
  simp only [litCs, Option.some.injEq] at h
  subst h
  cases xs with
  | nil => rfl
  | cons => unfold RdCs at hx; exact hx.elim
 | c :: cs, vs, xs, h, hx => by
  cases xs with
  | nil => unfold RdCs at hx; exact hx.elim
  | cons x xs =>
   unfold litCs at h
   split at h
   ·cases ‹_ = ([] : List C)›
   ·rename_i z v cs' heq
    cases heq
    split at h
    ·rename_i vs' hvs
     injection h with h
     subst h
     unfold RdCs at hx
     rw [litCs_rd hvs hx.2]
     have h1 := hx.1
     unfold RdC RdT at h1
     rw [h1.1]
    ·cases h
   ·cases h
theorem wholeV_rd {v : V} {u x : Value} (h : wholeV v = some u) (hx : RdV w ok ρ v x) : x = u := by
 unfold wholeV at h
 split at h
 ·injection h with h
  subst h
  unfold RdV RdC RdT at hx
  exact hx.1
 ·split at h
  ·rename_i vs hvs
   injection h with h
   subst h
   unfold RdV at hx
   obtain ⟨xs, rfl, h2⟩ := hx
   have := litCs_rd hvs h2
   rw [← this]
  ·cases h
 ·cases h
theorem asC_rd : ∀ {vs : List Value} {cs : List C}, asC vs = some cs → RdCs w ok ρ cs vs
 | [], cs, h => by
  simp only [asC, Option.some.injEq] at h
  subst h
  unfold RdCs; trivial
 | v :: vs, cs, h => by
  simp only [asC] at h
  split at h
  ·rename_i h1
   split at h
   ·rename_i cs' h2
    injection h with h
    subst h
    unfold RdCs
    refine ⟨?_, asC_rd h2⟩
    unfold RdC RdT
    exact ⟨rfl, h1⟩
   ·cases h
  ·cases h
theorem asV_rd {v : Value} {u : V} (h : asV v = some u) : RdV w ok ρ u v := by
 unfold asV at h
 split at h
 ·rename_i vs
  split at h
  ·rename_i cs hcs
   injection h with h
   subst h
   unfold RdV
   exact ⟨vs, rfl, asC_rd hcs⟩
  ·cases h
 ·cases h
 ·split at h
  ·rename_i h1
   injection h with h
   subst h
   unfold RdV RdC RdT
   exact ⟨rfl, h1⟩
  ·cases h
theorem keyOk_inv {k : IntKind} {et : TypeId} (h : keyOk P t k = some et) : ∃ kt, P.underlying t = some (.map kt et) ∧ P.underlying kt = some (.int k) := by
 unfold keyOk at h
 split at h
 ·rename_i y hy
  split at h
  ·rename_i kt e hd
   split at h
   ·rename_i yk hyk
    split at h
    ·rename_i j hj
     split at h
     ·rename_i hjk
      injection h with h
      subst h; subst hjk
      exact ⟨kt, ty_map hy hd, ty_int hyk hj⟩
     ·cases h
    ·cases h
   ·cases h
  ·cases h
 ·cases h
theorem find_get {k : IntKind} {n : Int} : ∀ {ms : List MapEntry} {es : List (Int × Value)} (i : Nat), ms.map (fun m => (m.key, m.val)) = es.map (fun p => (Value.int k p.1, p.2)) →
  (getM es n = none ∧ Instr.findNow (.int k) (.int k n) ms i = some none ∧ ∀ u, putM es n u = es ++ [(n, u)]) ∨
  ∃ j v m, getM es n = some v ∧ Instr.findNow (.int k) (.int k n) ms i = some (some (i + j, v)) ∧ ms[j]? = some m ∧ m.key = .int k n ∧ ∀ u, putM es n u = es.set j (n, u)
 | [], es, i, h => by
  cases es with
  | nil => exact .inl ⟨rfl, rfl, fun _ => rfl⟩
  | cons => cases h
 | m :: ms, es, i, h => by
  cases es with
  | nil => cases h
  | cons p es =>
   simp only [List.map_cons, List.cons.injEq, Prod.mk.injEq] at h
   obtain ⟨⟨h1, h2⟩, h3⟩ := h
   unfold Instr.findNow Instr.sameNow
   rw [h1]
   simp only [if_true]
   by_cases hp : p.1 = n
   ·right
    refine ⟨0, p.2, m, by simp [getM, hp], ?_, rfl, by rw [h1, hp], fun u => by simp [putM, hp]⟩
    simp [hp, h2]
   ·have hne : (n == p.1) = false := by simp; exact fun e => hp e.symm
    rw [hne]
    rcases find_get (i + 1) h3 with ⟨g1, g2, g3⟩ | ⟨j, v, m', g1, g2, g3, g4, g5⟩
    ·exact .inl ⟨by simp [getM, hp, g1], g2, fun u => by simp [putM, hp, g3]⟩
    ·exact .inr ⟨j + 1, v, m', by simp [getM, hp, g1], by rw [show i + (j + 1) = i + 1 + j by omega]; exact g2, by simpa using g3, g4, fun u => by simp [putM, hp, g5]⟩
theorem map_heap {b : Nat} {o o' : Obj} (h : w.heap[b]? = some o) : (w.heap.setIfInBounds b o')[b]? = some o' := (MapKept.heap_set h).1
theorem evo_obj (hH : Hold X st ρ a w) {d b cap : Nat} (hd : ρ d = .lie b cap) {o : Obj} : Evo X ρ w ρ { w with heap := w.heap.setIfInBounds b o } [d] [] where
 below := ⟨rfl, rfl, rfl, by simp, fun k hk => absurd hk (by omega)⟩
 heap k _ h := by
  have : k ≠ b := fun e => h d cap (by simp) (e ▸ hd)
  simp [Ne.symm this]
 rho _ _ := rfl
 new _ _ _ h := by cases h
 inj := hH.inj
 pin _ h := by cases h
theorem put_runs {t : TypeId} {m k x : Operand} {D : Delta} (hH : Hold X st ρ a w) (h : putD' P st t m k x = some D) : ∃ w', (Instr.mapUpdate t (a.eval m) (a.eval k) (a.eval x)).run P w = .ok () w' ∧ ∀ q, Out X ρ w ρ w' q D := by
 unfold putD' at h
 split at h
 ·rename_i id hm
  split at h
  ·rename_i kk es hb
   split at h
   ·rename_i zz k2 n hk
    split at h
    ·rename_i v hv
     split at h
     ·rename_i u hu
      split at h
      ·rename_i et hko
       split at h
       ·rename_i hkk
        injection h with h
        subst h; subst hkk
        obtain ⟨kt, hut, huk⟩ := keyOk_inv hko
        have hx := wholeV_rd hu (ev_sound hH hv)
        have hmv := ev_sound hH hm
        have hkv := ev_sound hH hk
        unfold RdV RdC at hmv
        unfold RdV RdC RdT at hkv
        have hB := hH.blocks _ _ hb
        unfold HasB at hB
        obtain ⟨b, cap, hid, ms, clock, hheap, hes⟩ := hB
        simp only [hid] at hmv
        have hisk : MapKept.IsKey (.int k2) (.int k2 n) := by simp [MapKept.IsKey]
        rw [hmv, hkv.1, hx]
        rcases find_get (k := k2) (n := n) 0 hes with ⟨g1, g2, g3⟩ | ⟨j, v', m', g1, g2, g3, g4, g5⟩
        ·refine ⟨{ w with heap := w.heap.setIfInBounds b (.map (ms.push ⟨.int k2 n, u, clock⟩) (clock + 1)) }, ?_, fun q => ⟨evo_obj hH hid, by unfold RdV; trivial, fun i B hi => ?_⟩⟩
         ·simp [Instr.mapUpdate, run_underlying hut, MapKept.run_getObj_map hheap, MapKept.run_checkKey huk hisk, MapKept.run_findKey huk g2, MapKept.run_setObj_map _ hheap, Result.andThen]
         ·obtain ⟨rfl, rfl⟩ := one_get hi
          unfold HasB
          refine ⟨b, cap, hid, _, _, map_heap hheap, ?_⟩
          rw [Array.toList_push, List.map_append, hes, g3, List.map_append]
          rfl
        ·have hj : ms[j]? = some m' := by simpa using g3
         rw [Nat.zero_add] at g2
         refine ⟨{ w with heap := w.heap.setIfInBounds b (.map (ms.modify j fun e => { e with key := .int k2 n, val := u }) clock) }, ?_, fun q => ⟨evo_obj hH hid, by unfold RdV; trivial, fun i B hi => ?_⟩⟩
         ·simp [Instr.mapUpdate, run_underlying hut, MapKept.run_getObj_map hheap, MapKept.run_checkKey huk hisk, MapKept.run_findKey huk g2, hj, g4, MapKept.run_keyThatStays hisk, MapKept.run_setObj_map _ hheap, Result.andThen]
         ·obtain ⟨rfl, rfl⟩ := one_get hi
          unfold HasB
          refine ⟨b, cap, hid, _, _, map_heap hheap, ?_⟩
          rw [g5, List.map_set, ← hes]
          apply List.ext_getElem?
          intro i
          rw [List.getElem?_map, Array.getElem?_toList, Array.getElem?_modify, List.getElem?_set, List.getElem?_map, List.length_map, Array.getElem?_toList]
          by_cases hij : j = i
          ·subst hij
           have hlt : j < ms.toList.length := (List.getElem?_eq_some_iff.1 g3).1
           simp [hj] at hlt ⊢
           simp [hlt]
          ·simp [hij]
       ·cases h
      ·cases h
     ·cases h
    ·cases h
   ·cases h
  ·cases h
 ·cases h
theorem map_runs {o : Oper} {D : Delta} (h : mapD P st o.dst o.op = some D) : Runs P X st o D := by
 intro hdo ρ a w hH
 obtain ⟨dst, op, type, pos, after, guard⟩ := o
 simp only at h
 unfold mapD at h
 split at h
 ·rename_i t
  split at h
  ·rename_i d
   split at h
   ·rename_i y hy
    split at h
    ·rename_i kt et hd
     split at h
     ·rename_i yk hyk
      split at h
      ·rename_i k hk
       injection h with h
       subst h
       have he := evo_new hH d 0 (by simpa [dstOk] using hdo) (.map #[] 0)
       refine ⟨.map (some w.heap.size), updR ρ d (.lie w.heap.size 0), w.alloc (.map #[] 0), .inl ?_, he, ?_, fun id b hb => ?_⟩
       ·simp [execOp, Instr.makeMap, Result.andThen]
       ·unfold RdV RdC
        rw [updR_same]
       ·obtain ⟨rfl, rfl⟩ := one_get hb
        unfold HasB
        exact ⟨w.heap.size, 0, updR_same, #[], 0, (MapKept.heap_alloc w _).1, rfl⟩
      ·cases h
     ·cases h
    ·cases h
   ·cases h
  ·cases h
 ·obtain ⟨w', h1, h2⟩ := put_runs hH h
  exact ⟨undef, ρ, w', .inr ⟨by simp [execOp, h1], rfl⟩, h2 _⟩
 ·obtain ⟨w', h1, h2⟩ := put_runs hH h
  exact ⟨undef, ρ, w', .inr ⟨by simp [execOp, h1], rfl⟩, h2 _⟩
 ·rename_i t m k
  split at h
  ·rename_i id hm
   split at h
   ·rename_i kk es hb
    split at h
    ·rename_i zz k2 n hk
     split at h
     ·rename_i et hko
      split at h
      ·rename_i hkk
       subst hkk
       obtain ⟨kt, hut, huk⟩ := keyOk_inv hko
       have hmv := ev_sound hH hm
       have hkv := ev_sound hH hk
       unfold RdV RdC at hmv
       unfold RdV RdC RdT at hkv
       have hB := hH.blocks _ _ hb
       unfold HasB at hB
       obtain ⟨b, cap, hid, ms, clock, hheap, hes⟩ := hB
       simp only [hid] at hmv
       have hisk : MapKept.IsKey (.int k2) (.int k2 n) := by simp [MapKept.IsKey]
       rcases find_get (k := k2) (n := n) 0 hes with ⟨g1, g2, _⟩ | ⟨j, v', m', g1, g2, _, _, _⟩
       ·rw [g1] at h
        simp only [getOr] at h
        split at h
        ·rename_i ye hye
         cases hz : asV ye.zero with
         | none => rw [hz] at h; cases h
         | some u =>
          rw [hz] at h
          simp only [Option.map_some, Option.some.injEq] at h
          subst h
          refine ⟨ye.zero, ρ, w, .inl ?_, rfl, rfl, asV_rd hz⟩
          simp [execOp, hmv, hkv.1, Instr.lookup, run_underlying hut, MapKept.run_getObj_map hheap, MapKept.run_checkKey huk hisk, MapKept.run_findKey huk g2, ty_zero hye, Result.andThen]
        ·cases h
       ·rw [g1] at h
        simp only [getOr] at h
        cases hz : asV v' with
        | none => rw [hz] at h; cases h
        | some u =>
         rw [hz] at h
         simp only [Option.map_some, Option.some.injEq] at h
         subst h
         refine ⟨v', ρ, w, .inl ?_, rfl, rfl, asV_rd hz⟩
         simp [execOp, hmv, hkv.1, Instr.lookup, run_underlying hut, MapKept.run_getObj_map hheap, MapKept.run_checkKey huk hisk, MapKept.run_findKey huk g2, Result.andThen]
      ·cases h
     ·cases h
    ·cases h
   ·cases h
  ·cases h
 ·cases h
end
end Go.Proofs.YtjdgejfhnfnmgaaGreatDoor.Ax
