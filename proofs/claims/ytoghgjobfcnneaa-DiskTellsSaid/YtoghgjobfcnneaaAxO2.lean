/- Operations that leave memory as it is: what each gives. -/
import Derived.Test.YtoghgjobfcnneaaAxL
namespace Go.Proofs.Ytoghgjobfcnneaa.Ax
open Go.RowKit
def loadC (st : St) (y : Ty) : C → Option V
  | .optr id off => match get id st.bl with
    | some (.var _ cells) => match y.agg with
      | true => if off + y.size ≤ cells.length then some (.agg ((cells.drop off).take y.size)) else none
      | false => (cells[off]?).map V.one
    | _ => none
  | .eptr id k s j => match get id st.bl with
    | some (.arr _ size z rows) => if s = size then match rows[k]? with
        | some row => match y.agg with
          | true => if j + y.size ≤ row.length then some (.agg (((row.drop j).take y.size).map (C.t z))) else none
          | false => (row[j]?).map fun t => V.one (.t z t)
        | none => none
      else none
    | _ => none
  | .t z (.ptr row) => match y.agg with
    | true => if y.size ≤ row.length then some (.agg ((row.take y.size).map (C.t z))) else none
    | false => (row[0]?).map fun t => V.one (.t z t)
  | _ => none
def moveC (off : Nat) : C → Option C
  | .optr id o => some (.optr id (o + off))
  | .eptr id k s j => some (.eptr id k s (j + off))
  | .t z (.ptr row) => some (.t z (.ptr (row.drop off)))
  | _ => none
def fieldOf (P : Program) (s : TypeId) (f : Nat) : Option (Nat × Ty) :=
  match tyOf P s with
  | some y => match y.d with
    | .struct fs => match fs[f]? with
      | some (off, ft) => match tyOf P ft with
        | some yf => some (off, yf)
        | none => none
      | none => none
    | _ => none
  | none => none
def indexC (P : Program) (st : St) (t : TypeId) (n : Int) : C → Option C
  | .t z (.sl rows) => match tyOf P t with
    | some y => match y.d with
      | .sl e => match tyOf P e with
        | some ye => if 0 ≤ n then match rows[n.toNat]? with
            | some row => if row.length = ye.size then some (.t z (.ptr row)) else none
            | none => none
          else none
        | none => none
      | _ => none
    | none => none
  | .own id len => match tyOf P t with
    | some y => match y.d with
      | .sl e => match tyOf P e, get id st.bl with
        | some ye, some (.arr _ size _ rows) => if 0 ≤ n then if n.toNat < len ∧ size = ye.size then match rows[n.toNat]? with
              | some _ => some (.eptr id n.toNat size 0)
              | none => none
            else none
          else none
        | _, _ => none
      | _ => none
    | none => none
  | _ => none
section
variable {P : Program} {X : Cx} {st : St} {ρ : Nat → R} {a : Act} {w : World} {x : Value} {t : TypeId} {y : Ty}
theorem own_cells {base : Nat} {e : TypeId} {size b n c : Nat} {xs : List Value} (h : w.ownsRow base e size (.slice (some ⟨b, 0, none⟩) n c) n xs) : b < w.heap.size ∧ n ≤ c ∧ ∀ j u, xs[j]? = some u → w.cell? ⟨b, j, none⟩ = some u := by
  rcases h.2 with ⟨h1, _⟩ | ⟨g, cap, cur, h1, _, hh, hnc, hcm, hcs, ht⟩
  · cases h1
  · cases h1
    refine ⟨Blk.lt (t := e) (cs := cur) hh, hnc, fun j u hu => ?_⟩
    rw [cell_of_row w b j cur e (0, 0) hh]
    rw [← ht, List.getElem?_take] at hu
    split at hu
    · simpa using hu
    · cases hu
theorem load_sound (hH : Hold X st ρ a w) (hy : tyOf P t = some y) {c : C} {v : V} (h : loadC st y c = some v) (hx : RdC w (okOf X ρ w) ρ c x) : ∃ q, (Instr.loadAt t x).run P w = .ok q w ∧ RdV w (okOf X ρ w) ρ v q := by
  unfold loadC at h
  split at h
  · rename_i id off
    split at h
    · rename_i e cells hb
      obtain ⟨b, cap, hid, xs, hheap, hcs⟩ := hH.blocks _ _ hb
      unfold RdC at hx
      rw [hid] at hx
      simp only at hx
      subst hx
      have hcell : ∀ j, w.cell? ⟨b, j, none⟩ = xs[j]? := fun j => cell_of_row w b j xs e (0, 0) hheap
      cases hag : y.agg with
      | true =>
        simp only [hag] at h
        split at h
        · rename_i hle
          injection h with h
          subst h
          have hl := hcs.len
          refine ⟨.agg ((xs.toList.drop off).take y.size).toArray, ?_, ?_⟩
          · simp only [Instr.loadAt, Instr.sureAddr, Sem.run_bind, Sem.run_pure, Result.andThen_ok]
            refine load_agg hy hag (by simp at hl ⊢; omega) fun j u hu => ?_
            rw [hcell]
            rw [List.getElem?_take] at hu
            split at hu
            · rw [List.getElem?_drop] at hu
              simpa using hu
            · cases hu
          · unfold RdV
            exact ⟨_, rfl, by simpa using (hcs.drop off).take y.size⟩
        · cases h
      | false =>
        simp only [hag] at h
        cases hc : cells[off]? with
        | none => simp [hc] at h
        | some c =>
          simp [hc] at h
          subst h
          obtain ⟨u, h1, h2⟩ := hcs.get hc
          refine ⟨u, ?_, by unfold RdV; exact h2⟩
          simp only [Instr.loadAt, Instr.sureAddr, Sem.run_bind, Sem.run_pure, Result.andThen_ok]
          exact load_one hy hag (by rw [hcell]; simpa using h1)
    · cases h
  · rename_i id k s j
    split at h
    · rename_i e size z rows hb
      split at h
      · rename_i hs
        subst hs
        split at h
        · rename_i row hrow
          have hB := hH.blocks _ _ hb
          unfold RdC at hx
          unfold HasB at hB
          cases hid : ρ id with
          | dead => simp [hid] at hx
          | nil => simp [hid] at hx
          | lie b cap =>
            simp only [hid] at hx hB
            subst hx
            obtain ⟨xs, h1, h2, h3⟩ := hB
            obtain ⟨_, _, hcell⟩ := own_cells h1
            obtain ⟨g1, g2, g3⟩ := rows_at h2 h3 hrow
            have hcell' : ∀ i u, ((xs.drop (k * s)).take s)[i]? = some u → w.cell? ⟨b, k * s + i, none⟩ = some u := fun i u hu => by
              rw [List.getElem?_take] at hu
              split at hu
              · rw [List.getElem?_drop] at hu
                exact hcell _ u hu
              · cases hu
            generalize (xs.drop (k * s)).take s = ys at g2 hcell'
            have hl := g2.len
            cases hag : y.agg with
            | true =>
              simp only [hag] at h
              split at h
              · rename_i hle
                injection h with h
                subst h
                refine ⟨.agg ((ys.drop j).take y.size).toArray, ?_, ?_⟩
                · simp only [Instr.loadAt, Instr.sureAddr, Sem.run_bind, Sem.run_pure, Result.andThen_ok]
                  refine load_agg hy hag (by simp; omega) fun i u hu => ?_
                  rw [List.getElem?_take] at hu
                  split at hu
                  · rw [List.getElem?_drop] at hu
                    have := hcell' _ u hu
                    rwa [← Nat.add_assoc] at this
                  · cases hu
                · unfold RdV
                  exact ⟨_, rfl, ((g2.drop j).take y.size).toC⟩
              · cases h
            | false =>
              simp only [hag] at h
              cases hc : row[j]? with
              | none => simp [hc] at h
              | some c =>
                simp [hc] at h
                subst h
                obtain ⟨u, q1, q2⟩ := g2.get hc
                refine ⟨u, ?_, by unfold RdV RdC; exact q2⟩
                simp only [Instr.loadAt, Instr.sureAddr, Sem.run_bind, Sem.run_pure, Result.andThen_ok]
                exact load_one hy hag (hcell' _ u q1)
        · cases h
      · cases h
    · cases h
  · rename_i z row
    unfold RdC RdT at hx
    obtain ⟨b, o, rfl, hb, hr⟩ := hx
    obtain ⟨ys, g2, hcell'⟩ := hr.vals
    have hl := g2.len
    cases hag : y.agg with
    | true =>
      simp only [hag] at h
      split at h
      · rename_i hle
        injection h with h
        subst h
        refine ⟨.agg (ys.take y.size).toArray, ?_, ?_⟩
        · simp only [Instr.loadAt, Instr.sureAddr, Sem.run_bind, Sem.run_pure, Result.andThen_ok]
          refine load_agg hy hag (by simp; omega) fun i u hu => ?_
          rw [List.getElem?_take] at hu
          split at hu
          · exact hcell' _ u hu
          · cases hu
        · unfold RdV
          exact ⟨_, rfl, (g2.take y.size).toC⟩
      · cases h
    | false =>
      simp only [hag] at h
      cases hc : row[0]? with
      | none => simp [hc] at h
      | some c =>
        simp only [hc, Option.map_some, Option.some.injEq] at h
        subst h
        obtain ⟨u, q1, q2⟩ := g2.get hc
        refine ⟨u, ?_, by unfold RdV RdC; exact q2⟩
        simp only [Instr.loadAt, Instr.sureAddr, Sem.run_bind, Sem.run_pure, Result.andThen_ok]
        exact load_one hy hag (hcell' _ u q1)
  · cases h
theorem move_sound {ok : Bool → Nat → Prop} {off : Nat} {c d : C} (h : moveC off c = some d) (hx : RdC w ok ρ c x) : ∃ b o, x = .pointer (some ⟨b, o, none⟩) ∧ RdC w ok ρ d (.pointer (some ⟨b, o + off, none⟩)) := by
  unfold moveC at h
  split at h
  · rename_i id o
    injection h with h
    subst h
    unfold RdC at hx ⊢
    cases hid : ρ id with
    | lie b cap => simp only [hid] at hx ⊢; exact ⟨b, o, hx, rfl⟩
    | _ => simp [hid] at hx
  · rename_i id k s j
    injection h with h
    subst h
    unfold RdC at hx ⊢
    cases hid : ρ id with
    | lie b cap => simp only [hid] at hx ⊢; exact ⟨b, _, hx, by rw [Nat.add_assoc]⟩
    | _ => simp [hid] at hx
  · rename_i z row
    injection h with h
    subst h
    unfold RdC RdT at hx ⊢
    obtain ⟨b, o, rfl, hb, hr⟩ := hx
    exact ⟨b, o, rfl, b, o + off, rfl, hb, hr.drop off⟩
  · cases h
theorem fieldOf_inv {s : TypeId} {f off : Nat} {yf : Ty} (h : fieldOf P s f = some (off, yf)) : ∃ F : Array Field, P.underlying s = some (.struct F) ∧ ∃ fd, F[f]? = some fd ∧ fd.offset = off ∧ tyOf P fd.type = some yf := by
  unfold fieldOf at h
  split at h
  · rename_i y hy
    split at h
    · rename_i fs hd
      split at h
      · rename_i off' ft hf
        split at h
        · rename_i yf' hyf
          simp only [Option.some.injEq, Prod.mk.injEq] at h
          obtain ⟨rfl, rfl⟩ := h
          obtain ⟨F, h1, h2⟩ := ty_struct hy hd
          subst h2
          rw [List.getElem?_map] at hf
          cases hq : F.toList[f]? with
          | none => simp [hq] at hf
          | some fd =>
            simp only [hq, Option.map_some, Option.some.injEq, Prod.mk.injEq] at hf
            obtain ⟨rfl, rfl⟩ := hf
            exact ⟨F, h1, fd, by simpa using hq, rfl, hyf⟩
        · cases h
      · cases h
    · cases h
  · cases h
theorem fieldAt_sound {ok : Bool → Nat → Prop} {s : TypeId} {f off : Nat} {yf : Ty} (hf : fieldOf P s f = some (off, yf)) (hz : yf.size ≠ 0) {c d : C} (h : moveC off c = some d) (hx : RdC w ok ρ c x) : ∃ q, (Instr.fieldAt s x f).run P w = .ok q w ∧ RdC w ok ρ d q := by
  obtain ⟨F, h1, fd, h2, h3, h4⟩ := fieldOf_inv hf
  obtain ⟨b, o, rfl, hr⟩ := move_sound h hx
  refine ⟨_, ?_, hr⟩
  simp only [Instr.fieldAt, Sem.run_bind, run_underlying h1, Result.andThen_ok, h2, Instr.sureAddr, Sem.run_pure, fieldPlace, ty_size h4, Sem.run_ite, if_neg hz, h3, addAt]
theorem index_sound {n : Int} {c d : C} {k : IntKind} (h : indexC P st t n c = some d) (hx : RdC w (okOf X ρ w) ρ c x) : ∃ q, (Instr.indexAt t x (.int k n)).run P w = .ok q w ∧ RdC w (okOf X ρ w) ρ d q := by
  unfold indexC at h
  split at h
  · rename_i z rows
    split at h
    · rename_i y hy
      split at h
      · rename_i e hd
        split at h
        · rename_i ye hye
          split at h
          · rename_i hn
            split at h
            · rename_i row hrow
              split at h
              · rename_i hsz
                injection h with h
                subst h
                have hu := ty_sl hy hd
                unfold RdC RdT at hx
                obtain ⟨A, m, c, rfl, hlen, hmc, hr⟩ := hx
                have hlt : n.toNat < rows.length := by
                  rcases Nat.lt_or_ge n.toNat rows.length with h | h
                  · exact h
                  · rw [List.getElem?_eq_none h] at hrow; cases hrow
                rcases hr with hr | ⟨b, o, s, rfl, hb, hr⟩
                · omega
                · obtain ⟨g1, g2⟩ := hr.at_ hrow
                  refine ⟨.pointer (some ⟨b, o + n.toNat * s, none⟩), ?_, ?_⟩
                  · have hcond : 0 ≤ n ∧ n < (m : Int) := by omega
                    have es : ye.size = s := hsz.symm.trans g1
                    simp only [Instr.indexAt, asIntOf, Sem.run_bind, Sem.run_pure, run_underlying hu, Result.andThen_ok, Sem.run_ite, if_pos hcond, ty_size hye, addAt, es]
                  · unfold RdC RdT
                    exact ⟨b, _, rfl, hb, g2⟩
              · cases h
            · cases h
          · cases h
        · cases h
      · cases h
    · cases h
  · rename_i id len
    split at h
    · rename_i y hy
      split at h
      · rename_i e hd
        split at h
        · rename_i ye e' size z rows hye hb
          split at h
          · rename_i hn
            split at h
            · rename_i hc
              split at h
              · rename_i row hrow
                injection h with h
                subst h
                have hu := ty_sl hy hd
                unfold RdC at hx ⊢
                cases hid : ρ id with
                | dead => simp [hid] at hx
                | nil => simp only [hid] at hx; omega
                | lie b cap =>
                  simp only [hid] at hx ⊢
                  subst hx
                  refine ⟨_, ?_, rfl⟩
                  have hcond : 0 ≤ n ∧ n < (len : Int) := by omega
                  simp only [Instr.indexAt, asIntOf, Sem.run_bind, Sem.run_pure, run_underlying hu, Result.andThen_ok, Sem.run_ite, if_pos hcond, ty_size hye, addAt, ← hc.2, Nat.zero_add, Nat.add_zero]
              · cases h
            · cases h
          · cases h
        · cases h
      · cases h
    · cases h
  · cases h
/-- how long a slice is -/
def lenC : C → Option Nat
  | .t _ (.sl rows) => some rows.length
  | .nil => some 0
  | .own _ len => some len
  | .t _ (.lit (.string s)) => some s.size
  | _ => none
def cutC (P : Program) (t : TypeId) (lo hi : Option (Option Int)) : C → Option C
  | .t z (.lit (.string s)) => match tyOf P t with
    | some y => match y.d with
      | .str => match lo, hi with
        | some (some l), some (some h) => if 0 ≤ l ∧ l ≤ h ∧ h ≤ s.size then some (.t z (.lit (.string (s.extract l.toNat h.toNat)))) else none
        | some (some l), none => if 0 ≤ l ∧ l ≤ s.size then some (.t z (.lit (.string (s.extract l.toNat s.size)))) else none
        | none, some (some h) => if 0 ≤ h ∧ h ≤ s.size then some (.t z (.lit (.string (s.extract 0 h.toNat)))) else none
        | _, _ => none
      | _ => none
    | none => none
  | .t z (.sl rows) => match tyOf P t with
    | some y => match y.d with
      | .sl e => match tyOf P e with
        | some ye => match lo, hi with
          | some (some l), some (some h) => if 0 ≤ l ∧ l ≤ h ∧ h ≤ rows.length ∧ (∀ r ∈ rows, r.length = ye.size) then some (.t z (.sl ((rows.drop l.toNat).take (h - l).toNat))) else none
          | some (some l), none => if 0 ≤ l ∧ l ≤ rows.length ∧ (∀ r ∈ rows, r.length = ye.size) then some (.t z (.sl (rows.drop l.toNat))) else none
          | none, some (some h) => if 0 ≤ h ∧ h ≤ rows.length ∧ (∀ r ∈ rows, r.length = ye.size) then some (.t z (.sl (rows.take h.toNat))) else none
          | _, _ => none
        | none => none
      | _ => none
    | none => none
  | _ => none
theorem len_sound {ok : Bool → Nat → Prop} {c : C} {n : Nat} {ty : TypeId} (hy : tyOf P t = some y) (hd : (∃ e, y.d = .sl e ∧ ∀ z s, c ≠ .t z (.lit (.string s))) ∨ (y.d = .str ∧ ∃ z s, c = .t z (.lit (.string s)))) (h : lenC c = some n) (hx : RdC w ok ρ c x) :
    (Builtin.len_ #[t] ty #[x]).run P w = .ok (.int .i64 n) w := by
  rcases hd with ⟨e, hd, hne⟩ | ⟨hd, z, s, rfl⟩
  · have hu := ty_sl hy hd
    have key : ∃ A m, x = .slice A n m := by
      unfold lenC at h
      split at h
      · injection h with h
        subst h
        unfold RdC RdT at hx
        obtain ⟨A, n, c, rfl, rfl, _⟩ := hx
        exact ⟨_, _, rfl⟩
      · injection h with h
        subst h
        unfold RdC at hx
        obtain ⟨A, rfl⟩ := hx
        exact ⟨_, _, rfl⟩
      · rename_i id len
        injection h with h
        subst h
        unfold RdC at hx
        cases hid : ρ id with
        | dead => simp [hid] at hx
        | nil =>
          simp only [hid] at hx
          obtain ⟨h1, A, rfl⟩ := hx
          rw [h1]; exact ⟨_, _, rfl⟩
        | lie b cap => simp only [hid] at hx; exact ⟨_, _, hx⟩
      · exact absurd rfl (hne _ _)
      · cases h
    obtain ⟨A, m, rfl⟩ := key
    simp [Builtin.len_, run_underlying hu, goInt]
  · have hu := ty_str hy hd
    simp only [lenC, Option.some.injEq] at h
    unfold RdC RdT at hx
    rw [hx.1]
    simp [Builtin.len_, run_underlying hu, goInt, h]
theorem bound_sound {k : IntKind} {i : Int} {m : Nat} {c : BoundsCode} (h0 : 0 ≤ i) (h1 : i ≤ m) : (Instr.sliceBound (.int k i) m c).run P w = .ok i.toNat w := by
  simp only [Instr.sliceBound, asIntOf, Sem.run_bind, Sem.run_pure, Result.andThen_ok, Sem.run_ite, if_pos (And.intro h0 h1)]
/-- the bounds of a cut, by what they read as -/
def bnd (v : Option Value) (i : Option (Option Int)) : Prop :=
  match i with
  | none => v = none
  | some none => False
  | some (some n) => ∃ k, v = some (.int k n)
theorem cut_rows {ok : Nat → Prop} {A : Option Addr} {n c : Nat} {rows : List (List T)} {sz l h : Nat} (hlen : rows.length = n) (hc : n ≤ c) (hr : n = 0 ∨ ∃ b o s, A = some ⟨b, o, none⟩ ∧ ok b ∧ RdRows w ok s b o rows) (hsz : ∀ r ∈ rows, r.length = sz) (h1 : l ≤ h) (h2 : h ≤ n) :
    RdT w ok (.sl ((rows.drop l).take (h - l))) (.slice (if c = l then A else A.map (·.add (l * sz))) (h - l) (c - l)) := by
  unfold RdT
  refine ⟨_, _, _, rfl, by rw [List.length_take, List.length_drop]; omega, by omega, ?_⟩
  by_cases hz : h - l = 0
  · exact .inl hz
  · right
    rcases hr with hr | ⟨b, o, s, rfl, hb, hr⟩
    · omega
    · have hs : s = sz := by
        cases rows with
        | nil => simp at hlen; omega
        | cons r rs => unfold RdRows at hr; rw [← hr.1, hsz r List.mem_cons_self]
      subst hs
      rw [if_neg (by omega)]
      exact ⟨b, o + l * s, s, by simp [addAt], hb, (hr.drop l).take _⟩
theorem cut_sound {ok : Bool → Nat → Prop} {c d : C} {lo hi : Option (Option Int)} {vl vh : Option Value} (hl : bnd vl lo) (hh : bnd vh hi) (h : cutC P t lo hi c = some d) (hx : RdC w ok ρ c x) :
    ∃ q, (Instr.sliceAt t x vl vh none).run P w = .ok q w ∧ RdC w ok ρ d q := by
  unfold cutC at h
  split at h
  · rename_i z s
    split at h
    · rename_i y hy
      split at h
      · rename_i hd
        have hu := ty_str hy hd
        unfold RdC RdT at hx
        obtain ⟨rfl, _⟩ := hx
        split at h
        · rename_i l r
          obtain ⟨k1, rfl⟩ := hl
          obtain ⟨k2, rfl⟩ := hh
          split at h
          · rename_i hc
            injection h with h
            subst h
            refine ⟨_, ?_, by unfold RdC RdT; exact ⟨rfl, rfl⟩⟩
            simp only [Instr.sliceAt, Instr.slice, Instr.sliceBounds, Sem.run_bind, run_underlying hu, Result.andThen_ok, Option.isSome_none, Bool.false_eq_true, if_false, Sem.run_pure, bound_sound (k := k2) (show 0 ≤ r by omega) hc.2.2, bound_sound (P := P) (w := w) (k := k1) (c := .sliceB) hc.1 (show l ≤ (r.toNat : Int) by omega)]
          · cases h
        · rename_i l
          obtain ⟨k1, rfl⟩ := hl
          have hh : vh = none := hh
          subst hh
          split at h
          · rename_i hc
            injection h with h
            subst h
            refine ⟨_, ?_, by unfold RdC RdT; exact ⟨rfl, rfl⟩⟩
            simp only [Instr.sliceAt, Instr.slice, Instr.sliceBounds, Sem.run_bind, run_underlying hu, Result.andThen_ok, Option.isSome_none, Bool.false_eq_true, if_false, Sem.run_pure, bound_sound (P := P) (w := w) (k := k1) (c := .sliceB) hc.1 hc.2]
          · cases h
        · rename_i r
          obtain ⟨k2, rfl⟩ := hh
          have hl : vl = none := hl
          subst hl
          split at h
          · rename_i hc
            injection h with h
            subst h
            refine ⟨_, ?_, by unfold RdC RdT; exact ⟨rfl, rfl⟩⟩
            simp only [Instr.sliceAt, Instr.slice, Instr.sliceBounds, Sem.run_bind, run_underlying hu, Result.andThen_ok, Option.isSome_none, Bool.false_eq_true, if_false, Sem.run_pure, bound_sound (P := P) (w := w) (k := k2) (c := .sliceAlen) hc.1 hc.2]
          · cases h
        · cases h
      · cases h
    · cases h
  · rename_i z rows
    split at h
    · rename_i y hy
      split at h
      · rename_i e hd
        split at h
        · rename_i ye hye
          have hu := ty_sl hy hd
          unfold RdC RdT at hx
          obtain ⟨A, n, c, rfl, hlen, hnc, hr⟩ := hx
          split at h
          · rename_i l r
            obtain ⟨k1, rfl⟩ := hl
            obtain ⟨k2, rfl⟩ := hh
            split at h
            · rename_i hc
              injection h with h
              subst h
              have hT := cut_rows (w := w) (l := l.toNat) (h := r.toNat) hlen hnc hr hc.2.2.2 (by omega) (by omega)
              rw [show r.toNat - l.toNat = (r - l).toNat by omega] at hT
              refine ⟨_, ?_, by unfold RdC; exact hT⟩
              simp only [Instr.sliceAt, Instr.slice, Instr.sliceBounds, Sem.run_bind, run_underlying hu, Result.andThen_ok, Sem.run_pure, if_true, ty_size hye, Option.isSome_none, Bool.false_eq_true, if_false,
                bound_sound (P := P) (w := w) (k := k2) (c := .sliceAcap) (show 0 ≤ r by omega) (show r ≤ (c : Int) by omega), bound_sound (P := P) (w := w) (k := k1) (c := .sliceB) hc.1 (show l ≤ (r.toNat : Int) by omega)]
              rw [show r.toNat - l.toNat = (r - l).toNat by omega]
            · cases h
          · rename_i l
            obtain ⟨k1, rfl⟩ := hl
            have hh : vh = none := hh
            subst hh
            split at h
            · rename_i hc
              injection h with h
              subst h
              have hT := cut_rows (w := w) (l := l.toNat) (h := n) hlen hnc hr hc.2.2 (by omega) (by omega)
              rw [List.take_of_length_le (by rw [List.length_drop]; omega)] at hT
              refine ⟨_, ?_, by unfold RdC; exact hT⟩
              simp only [Instr.sliceAt, Instr.slice, Instr.sliceBounds, Sem.run_bind, run_underlying hu, Result.andThen_ok, Sem.run_pure, ty_size hye, Option.isSome_none, Bool.false_eq_true, if_false,
                bound_sound (P := P) (w := w) (k := k1) (c := .sliceB) hc.1 (show l ≤ (n : Int) by omega)]
            · cases h
          · rename_i r
            obtain ⟨k2, rfl⟩ := hh
            have hl : vl = none := hl
            subst hl
            split at h
            · rename_i hc
              injection h with h
              subst h
              have hT := cut_rows (w := w) (l := 0) (h := r.toNat) hlen hnc hr hc.2.2 (by omega) (by omega)
              rw [List.drop_zero, Nat.sub_zero] at hT
              refine ⟨_, ?_, by unfold RdC; exact hT⟩
              simp only [Instr.sliceAt, Instr.slice, Instr.sliceBounds, Sem.run_bind, run_underlying hu, Result.andThen_ok, Sem.run_pure, if_true, ty_size hye,
                bound_sound (P := P) (w := w) (k := k2) (c := .sliceAcap) hc.1 (show r ≤ (c : Int) by omega), Nat.sub_zero]
            · cases h
          · cases h
        · cases h
      · cases h
    · cases h
  · cases h
/-- 's[:0:0]' -/
theorem cut0_sound {ok : Bool → Nat → Prop} {e : TypeId} {c : C} {n : Nat} (hy : tyOf P t = some y) (hd : y.d = .sl e) {ye : Ty} (hye : tyOf P e = some ye) (h : lenC c = some n) (hs : ∀ z s, c ≠ .t z (.lit (.string s))) (hx : RdC w ok ρ c x) :
    ∃ q, (∀ k k' : IntKind, (Instr.sliceAt t x none (some (.int k 0)) (some (.int k' 0))).run P w = .ok q w) ∧ RdC w ok ρ .nil q := by
  have hu := ty_sl hy hd
  have key : ∃ A n m, x = .slice A n m := by
    unfold lenC at h
    split at h
    · unfold RdC RdT at hx
      obtain ⟨A, n, c, rfl, rfl, _⟩ := hx
      exact ⟨_, _, _, rfl⟩
    · unfold RdC at hx
      obtain ⟨A, rfl⟩ := hx
      exact ⟨_, _, _, rfl⟩
    · rename_i id len
      unfold RdC at hx
      cases hid : ρ id with
      | dead => simp [hid] at hx
      | nil =>
        simp only [hid] at hx
        obtain ⟨_, A, rfl⟩ := hx
        exact ⟨_, _, _, rfl⟩
      | lie b cap => simp only [hid] at hx; exact ⟨_, _, _, hx⟩
    · exact absurd rfl (hs _ _)
    · cases h
  obtain ⟨A, n, m, rfl⟩ := key
  refine ⟨.slice A 0 0, fun k k' => ?_, by unfold RdC; exact ⟨_, rfl⟩⟩
  simp only [Instr.sliceAt, Instr.slice, Instr.sliceBounds, Sem.run_bind, run_underlying hu, Result.andThen_ok, Sem.run_pure, ty_size hye, Option.isSome_some, if_true,
    bound_sound (P := P) (w := w) (k := k') (i := 0) (m := m) (c := .slice3Acap) (by omega) (by omega), bound_sound (P := P) (w := w) (k := k) (i := 0) (m := (0 : Int).toNat) (c := .slice3B) (by omega) (by omega)]
  rfl
end
end Go.Proofs.Ytoghgjobfcnneaa.Ax
