/- An element of a row of the call's own is written. -/
import Derived.Test.YtoghgjobfcnneaaAxM4
namespace Go.Proofs.Ytoghgjobfcnneaa.Ax
open Go.RowKit
def setD (P : Program) (st : St) : Op → Option Delta
  | .store t p x => match ev st p with
    | some (.one (.eptr id k s j)) => match get id st.bl with
      | some (.arr e size z rows) => match ev st x with
        | some v => match cellsV v with
          | some vs => match toT vs with
            | some q => match tyOf P t with
              | some y => match rows[k]? with
                | some row => if s = size ∧ vs.length = y.size ∧ j + vs.length ≤ row.length then some (.mod .junk [id] [] [(id, .arr e size (z && q.1) (rows.set k (row.take j ++ q.2 ++ row.drop (j + vs.length))))]) else none
                | none => none
              | none => none
            | none => none
          | none => none
        | none => none
      | _ => none
    | _ => none
  | _ => none
section
variable {w w' : World} {ρ : Nat → R} {P : Program} {X : Cx} {st : St} {a : Act} {t : TypeId} {y : Ty}
theorem flatten_set {α : Type} {s : Nat} : ∀ (rows : List (List α)) (k : Nat) (row : List α), (∀ r ∈ rows, r.length = s) → k < rows.length → (rows.set k row).flatten = rows.flatten.take (k * s) ++ row ++ rows.flatten.drop (k * s + s)
  | [], k, _, _, h => by simp at h
  | r :: rs, 0, row, hr, _ => by
    have := hr r List.mem_cons_self
    simp [← this]
  | r :: rs, k + 1, row, hr, hk => by
    have h1 := hr r List.mem_cons_self
    have ih := flatten_set rs k row (fun r hr' => hr r (List.mem_cons_of_mem _ hr')) (by simpa using hk)
    have e1 : (r ++ rs.flatten).take (s + k * s) = r ++ rs.flatten.take (k * s) := by rw [← h1, List.take_length_add_append]
    have e2 : (r ++ rs.flatten).drop (s + (k * s + s)) = rs.flatten.drop (k * s + s) := by rw [show s + (k * s + s) = r.length + (k * s + s) by omega, List.drop_length_add_append]
    rw [List.set_cons_succ, List.flatten_cons, ih, List.flatten_cons, show (k + 1) * s = s + k * s by rw [Nat.succ_mul]; omega, Nat.add_assoc, e1, e2]
    simp only [List.append_assoc]
theorem take_seg (l vs : List Value) (off n : Nat) (h : off + vs.length ≤ n) (hn : n ≤ l.length) : (l.take off ++ vs ++ l.drop (off + vs.length)).take n = (l.take n).take off ++ vs ++ (l.take n).drop (off + vs.length) := by
  rw [List.take_take, Nat.min_eq_left (by omega), List.drop_take, List.take_append, List.take_of_length_le (by simp; omega)]
  congr 1
  simp
  omega
theorem set_runs {o : Oper} {D : Delta} (h : setD P st o.op = some D) : Runs P X st o D := by
  intro ρ a w hH
  obtain ⟨dst, op, type, pos, after, guard⟩ := o
  simp only at h
  unfold setD at h
  split at h
  · rename_i t p x
    split at h
    · rename_i id k s j hp
      split at h
      · rename_i e size z rows hb
        split at h
        · rename_i v hv
          split at h
          · rename_i vs hvs
            split at h
            · rename_i q hq
              split at h
              · rename_i y hy
                split at h
                · rename_i row hrow
                  split at h
                  · rename_i hc
                    injection h with h
                    subst h
                    obtain ⟨rfl, hc2, hc3⟩ := hc
                    have hx := cells_rd hvs (ev_sound hH hv)
                    have hp' := ev_sound hH hp
                    have hB := hH.blocks _ _ hb
                    unfold RdV RdC at hp'
                    unfold HasB at hB
                    cases hid : ρ id with
                    | dead => simp [hid] at hp'
                    | nil => simp [hid] at hp'
                    | lie b cap =>
                      simp only [hid] at hp' hB
                      obtain ⟨xs, hown, hrd, hrs⟩ := hB
                      have hl2 := hx.len
                      have hql := toT_len hq
                      have htv := toT_rd hq hx
                      generalize hvals : (a.eval x).cells.toList = vals at hx hl2 htv
                      have hne : (a.eval x).cells.size = y.size := by rw [← hc2, ← hl2, ← hvals]; simp
                      obtain ⟨g1, g2, g3⟩ := rows_at hrd hrs hrow
                      have hklt : k < rows.length := by
                        rcases Nat.lt_or_ge k rows.length with h | h
                        · exact h
                        · rw [List.getElem?_eq_none h] at hrow; cases hrow
                      have hxl : xs.length = rows.length * s := hown.1
                      rcases hown.2 with ⟨h1, _⟩ | ⟨g, cap', cur, h1, hbg, hheap, hnc, hcm, hcs, htk⟩
                      · cases h1
                      · cases h1
                        have hle : rows.length * s ≤ cur.size := by rw [hcs]; exact Nat.mul_le_mul_right _ hnc
                        have hoff : k * s + j + vals.length ≤ rows.length * s := by omega
                        have hst := run_storeCells_at (P := P) b (k * s + j) e vals 0 cur w hheap (by omega) (List.all_eq_true.1 hx.one)
                        rw [Nat.add_zero] at hst
                        have he := evo_put (cs' := (cur.toList.take (k * s + j) ++ vals ++ cur.toList.drop (k * s + j + vals.length)).toArray) hH hid
                        refine ⟨undef, ρ, _, .inr ⟨by
                          simp only [execOp, hp', Instr.storeAt, Instr.sureAddr, Sem.run_bind, Sem.run_pure, Result.andThen_ok, storeVar, ty_size hy, hne, ne_eq, not_true_eq_false, if_false, hvals, hst], rfl⟩, he, by unfold RdV; trivial, fun id' B' hB' => ?_⟩
                        obtain ⟨rfl, rfl⟩ := one_get hB'
                        unfold HasB
                        rw [hid]
                        simp only
                        rw [List.length_set]
                        refine ⟨xs.take (k * s + j) ++ vals ++ xs.drop (k * s + j + vals.length), ⟨by simp; omega, .inr ⟨b, cap, _, rfl, hbg, setRow_heap w b cur _ e (0, 0) hheap, hnc, hcm, by simp; omega, ?_⟩⟩, ?_, ?_⟩
                        · rw [List.toList_toArray, take_seg _ _ _ _ hoff (by simpa using hle), htk]
                        · refine RdL.mono (w := w) (fun b' hb' => he.okT _ b' hb') ?_
                          rw [flatten_set rows k _ hrs hklt]
                          have e1 : xs.take (k * s + j) ++ vals ++ xs.drop (k * s + j + vals.length) = xs.take (k * s) ++ (((xs.drop (k * s)).take s).take j ++ vals ++ ((xs.drop (k * s)).take s).drop (j + vals.length)) ++ xs.drop (k * s + s) := by
                            have e2 : xs.take (k * s + j) = xs.take (k * s) ++ ((xs.drop (k * s)).take s).take j := by
                              rw [List.take_take, Nat.min_eq_left (by omega), List.take_add]
                            have e3 : xs.drop (k * s + j + vals.length) = ((xs.drop (k * s)).take s).drop (j + vals.length) ++ xs.drop (k * s + s) := by
                              have : xs.drop (k * s) = (xs.drop (k * s)).take s ++ xs.drop (k * s + s) := by rw [← List.drop_drop]; exact (List.take_append_drop s _).symm
                              rw [Nat.add_assoc, ← List.drop_drop]
                              conv => lhs; rw [this, List.drop_append_of_le_length (by simp; omega)]
                            rw [e2, e3]
                            simp only [List.append_assoc]
                          rw [e1]
                          refine RdL.append (RdL.append (rdL_weak (fun h => (Bool.and_eq_true _ _ ▸ h).1) (hrd.take _)) ?_) (rdL_weak (fun h => (Bool.and_eq_true _ _ ▸ h).1) (hrd.drop _))
                          rw [hl2]
                          refine RdL.append (RdL.append (rdL_weak (fun h => (Bool.and_eq_true _ _ ▸ h).1) (g2.take _)) (rdL_weak (fun h => (Bool.and_eq_true _ _ ▸ h).2) htv)) (rdL_weak (fun h => (Bool.and_eq_true _ _ ▸ h).1) (g2.drop _))
                        · intro r hr
                          rcases List.mem_or_eq_of_mem_set hr with h | h
                          · exact hrs r h
                          · rw [h]; simp; omega
                  · cases h
                · cases h
              · cases h
            · cases h
          · cases h
        · cases h
      · cases h
    · cases h
  · cases h
end
end Go.Proofs.Ytoghgjobfcnneaa.Ax
