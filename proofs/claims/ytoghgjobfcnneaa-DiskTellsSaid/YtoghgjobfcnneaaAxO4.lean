/- More operations that leave memory as it is: bytes to a text, structs that are compared, the lesser of two. -/
import Derived.Test.YtoghgjobfcnneaaAxV
import Derived.Laws.StructEq
import Derived.Laws.BytesString
import Derived.Laws.BytesArg
namespace Go.Proofs.Ytoghgjobfcnneaa.Ax
open Go.RowKit
/-- rows of one byte each -/
def intsT : List (List T) → Option (List Int)
  | [] => some []
  | r :: rs => match r with
    | [.lit (.int .u8 n)] => match intsT rs with
      | some l => some (n :: l)
      | none => none
    | _ => none
def flatFs (P : Program) : Nat → List Field → Option (List TD)
  | _, [] => some []
  | i, f :: fs => if f.name ≠ "_" ∧ f.offset = i then match P.underlying f.type with
    | some d => match flatFs P (i + 1) fs with
      | some l => match d with
        | .int k => some (.int k :: l)
        | .string => some (.str :: l)
        | .bool => some (.bool :: l)
        | _ => none
      | none => none
    | none => none
    else none
/-- a struct of plain fields, that may be compared cell by cell -/
def flatEqT (P : Program) (t : TypeId) : Option (List TD) :=
  match P.underlying t with
  | some (.struct fs) => if (!P.stoodInHeld t && !P.eqGuardType P.depth t) = true then flatFs P 0 fs.toList else none
  | _ => none
def eq1 : TD → Value → Value → Option Bool
  | .int _, .int k a, .int k' b => if k = k' then some (a == b) else none
  | .str, .string a, .string b => some (a.toList == b.toList)
  | .bool, .bool a, .bool b => some (a == b)
  | _, _, _ => none
def valOf : C → Option Value
  | .t _ (.lit u) => some u
  | _ => none
def eqL : List TD → List C → List C → Option Bool
  | [], [], [] => some true
  | d :: ds, c :: l, c' :: l' => match valOf c with
    | some u => match valOf c' with
      | some v => match eq1 d u v with
        | some b => match eqL ds l l' with
          | some r => some (b && r)
          | none => none
        | none => none
      | none => none
    | none => none
  | _, _, _ => none
def min1 (b : Bool) : Value → Value → Option V
  | .int k x, .int k' y => if k = k' then some (litI k (if b = true then (if y < x then y else x) else (if x < y then y else x))) else none
  | _, _ => none
def moreV (P : Program) (st : St) : Op → Option V
  | .convert src dst x => match ev st x with
    | some (.one c) => match viewC st 9 c with
      | some (_, .sl rows) => match intsT rows with
        | some l => match tyOf P src with
          | some ys => match ys.d with
            | .sl e => match tyOf P e with
              | some ye => match ye.d with
                | .int .u8 => match tyOf P dst with
                  | some yd => match yd.d with
                    | .str => some (litS (strOfNums l))
                    | _ => none
                  | none => none
                | _ => none
              | none => none
            | _ => none
          | none => none
        | none => none
      | _ => none
    | _ => none
  | .binOp op t x y _ => match ev st x with
    | some (.agg l) => match ev st y with
      | some (.agg l') => match flatEqT P t with
        | some ds => match eqL ds l l' with
          | some b => match op with
            | .eql => some (litB b)
            | .neq => some (litB (!b))
            | _ => none
          | none => none
        | none => none
      | _ => none
    | some (.one (.t _ (.lit (.bool b)))) => match ev st y with
      | some (.one (.t _ (.lit (.bool b')))) => match tyOf P t with
        | some yd => match yd.d with
          | .bool => match op with
            | .eql => some (litB (b == b'))
            | .neq => some (litB (!(b == b')))
            | _ => none
          | _ => none
        | none => none
      | _ => none
    | _ => none
  | .call ⟨.builtin .min, ⟨[x, y]⟩, ⟨_⟩⟩ => match ev st x with
    | some (.one (.t _ (.lit u))) => match ev st y with
      | some (.one (.t _ (.lit v))) => min1 true u v
      | _ => none
    | _ => none
  | .call ⟨.builtin .max, ⟨[x, y]⟩, ⟨_⟩⟩ => match ev st x with
    | some (.one (.t _ (.lit u))) => match ev st y with
      | some (.one (.t _ (.lit v))) => min1 false u v
      | _ => none
    | _ => none
  | _ => none
section
variable {P : Program} {X : Cx} {st : St} {ρ : Nat → R} {a : Act} {w : World} {ok : Nat → Prop}
theorem rdRows_ints {b : Nat} : ∀ {rows : List (List T)} {l : List Int} {o s : Nat}, intsT rows = some l → RdRows w ok s b o rows → l.length = rows.length ∧ ∀ i, i < l.length → w.cell? ⟨b, o + i, none⟩ = some (.int .u8 (l.getD i 0))
  | [], l, o, s, h, _ => by
    simp only [intsT, Option.some.injEq] at h
    subst h
    exact ⟨rfl, fun i hi => by simp at hi⟩
  | r :: rs, l, o, s, h, hr => by
    simp only [intsT] at h
    split at h
    · rename_i n
      split at h
      · rename_i l' hl
        injection h with h
        subst h
        unfold RdRows RdRow RdT at hr
        obtain ⟨h1, ⟨⟨y, hy, hy2, _⟩, _⟩, h3⟩ := hr
        subst hy2
        simp only [List.length_cons, List.length_nil, Nat.zero_add] at h1
        subst h1
        obtain ⟨g1, g2⟩ := rdRows_ints hl h3
        refine ⟨by simp [g1], fun i hi => ?_⟩
        cases i with
        | zero => simpa using hy
        | succ i =>
          have := g2 i (by simpa using hi)
          rw [show o + (i + 1) = o + 1 + i by omega]
          simpa using this
      · cases h
    · cases h
theorem conv_bytes {src dst e : TypeId} (hs : P.underlying src = some (.slice e)) (he : P.underlying e = some (.int .u8)) (hd : P.underlying dst = some .string) {rows : List (List T)} {l : List Int} (hl : intsT rows = some l) {x : Value} (hx : RdT w ok (.sl rows) x) : (convert src dst x).run P w = .ok (.string (strOfNums l)) w := by
  unfold RdT at hx
  obtain ⟨A, n, c, rfl, hn, _, h0 | ⟨b, o, s, rfl, _, hr⟩⟩ := hx
  · subst h0
    obtain rfl : rows = [] := List.length_eq_zero_iff.1 hn
    simp only [intsT, Option.some.injEq] at hl
    subst hl
    rw [run_convert_bytes_string w src dst e _ _ _ hs he hd]
    cases A with
    | none => simp [Conv.bytesToString, strOfNums]; rfl
    | some A =>
      rw [run_bytesToString w A 0 c [] (by simp [loadCells, loadCellsFrom])]
      rfl
  · obtain ⟨g1, g2⟩ := rdRows_ints hl hr
    exact run_convert_bytes_arg w src e hs he b o n c l (by rw [g1, hn]) (fun i hi => g2 i (by rw [g1, hn]; exact hi)) dst hd
theorem eq1_run {t : TypeId} {d : TypeDesc} {u v : Value} {b : Bool} (w : World) (n : Nat) (ht : P.underlying t = some d) (h : eq1 (tdOf d) u v = some b) : (Op.equalIn (n + 1) t u v).run P w = .ok b w := by
  unfold eq1 at h
  split at h
  · rename_i k0 k a k' b' hd
    cases d <;> simp [tdOf] at hd
    split at h
    · rename_i hk
      subst hk
      injection h with h
      subst h
      simp [Op.equalIn, run_underlying ht]
    · cases h
  · rename_i a b' hd
    cases d <;> simp [tdOf] at hd
    injection h with h
    subst h
    simp [Op.equalIn, run_underlying ht, beq_toListBytes]
  · rename_i a b' hd
    cases d <;> simp [tdOf] at hd
    injection h with h
    subst h
    simp [Op.equalIn, run_underlying ht]
  · cases h
theorem eqFields_run {ok : Bool → Nat → Prop} (n : Nat) (X Y : Array Value) : ∀ {fs : List Field} {i : Nat} {ds : List TD} {l l' : List C} {b : Bool} {xs ys : List Value}, flatFs P i fs = some ds → eqL ds l l' = some b → RdCs w ok ρ l xs → RdCs w ok ρ l' ys → (∀ k, xs[k]? = X[i + k]?) → (∀ k, ys[k]? = Y[i + k]?) →
    (Op.eqFields (n + 1) X Y fs).run P w = .ok b w
  | [], i, ds, l, l', b, xs, ys, hf, he, hx, hy, hX, hY => by
    simp only [flatFs, Option.some.injEq] at hf
    subst hf
    cases l <;> cases l' <;> simp [eqL] at he
    subst he
    simp [Op.eqFields]
  | f :: fs, i, ds, l, l', b, xs, ys, hf, he, hx, hy, hX, hY => by
    unfold flatFs at hf
    split at hf
    · rename_i hn
      split at hf
      · rename_i d hd
        split at hf
        · rename_i dl hdl
          obtain ⟨hds, hag⟩ : ds = tdOf d :: dl ∧ (isAgg f.type).run P w = .ok false w := by
            cases d <;> simp only [Option.some.injEq] at hf <;> first
              | (subst hf; exact ⟨rfl, by simp [isAgg, run_underlying hd]⟩)
              | cases hf
          subst hds
          cases l with
          | nil => simp [eqL] at he
          | cons c l =>
            cases l' with
            | nil => simp [eqL] at he
            | cons c' l' =>
              unfold eqL at he
              split at he
              · rename_i u hu
                split at he
                · rename_i v hv
                  split at he
                  · rename_i b1 hb1
                    split at he
                    · rename_i r hr
                      injection he with he
                      subst he
                      cases xs with
                      | nil => unfold RdCs at hx; exact hx.elim
                      | cons x xs =>
                        cases ys with
                        | nil => unfold RdCs at hy; exact hy.elim
                        | cons y ys =>
                          unfold RdCs at hx hy
                          have hval : ∀ {c : C} {u x : Value}, valOf c = some u → RdC w ok ρ c x → x = u := by
                            intro c u x h1 h2
                            unfold valOf at h1
                            split at h1
                            · injection h1 with h1
                              subst h1
                              unfold RdC RdT at h2
                              exact h2.1
                            · cases h1
                          obtain rfl := hval hu hx.1
                          obtain rfl := hval hv hy.1
                          have e1 : (part f.type X f.offset).run P w = .ok x w := by
                            have := hX 0
                            simp only [List.getElem?_cons_zero, Nat.add_zero] at this
                            simp [part, hag, hn.2, ← this]
                          have e2 : (part f.type Y f.offset).run P w = .ok y w := by
                            have := hY 0
                            simp only [List.getElem?_cons_zero, Nat.add_zero] at this
                            simp [part, hag, hn.2, ← this]
                          have e3 := eqFields_run n X Y hdl hr hx.2 hy.2 (fun k => by have := hX (k + 1); rw [show i + 1 + k = i + (k + 1) by omega]; simpa using this) (fun k => by have := hY (k + 1); rw [show i + 1 + k = i + (k + 1) by omega]; simpa using this)
                          unfold Op.eqFields
                          rw [if_pos hn.1]
                          simp only [Sem.run_bind, e1, e2, Result.andThen_ok, eq1_run w n hd hb1]
                          cases b1 with
                          | true => simpa using e3
                          | false => simp
                    · cases he
                  · cases he
                · cases he
              · cases he
        · cases hf
      · cases hf
    · cases hf
theorem eqT_run {t : TypeId} {ds : List TD} (h : flatEqT P t = some ds) : ∃ F : Array Field, P.underlying t = some (.struct F) ∧ P.stoodInHeld t = false ∧ P.eqGuardType P.depth t = false ∧ flatFs P 0 F.toList = some ds := by
  unfold flatEqT at h
  split at h
  · rename_i F hF
    split at h
    · rename_i hc
      simp only [Bool.and_eq_true, Bool.not_eq_true'] at hc
      exact ⟨F, hF, hc.1, hc.2, h⟩
    · cases h
  · cases h
theorem min_run {b : Bool} {u v : Value} {r : V} {ok : Bool → Nat → Prop} (w : World) (t : Array TypeId) (t' : TypeId) (h : min1 b u v = some r) : ∃ q, ((if b = true then Builtin.min_ t t' #[u, v] else Builtin.max_ t t' #[u, v]) : Sem Value).run P w = .ok q w ∧ RdV w ok ρ r q := by
  unfold min1 at h
  split at h
  · rename_i k x k' y
    split at h
    · rename_i hk
      subst hk
      injection h with h
      subst h
      refine ⟨_, ?_, rd_lit rfl⟩
      cases b
      · simp [Builtin.max_, Builtin.max2]
      · simp [Builtin.min_, Builtin.min2]
    · cases h
  · cases h
theorem more_runs {o : Oper} {v : V} (h : moreV P st o.op = some v) : Runs P X st o (.pure v) := by
  intro ρ a w hH
  suffices hs : ∃ q, (execOp a.eval o).run P w = .ok (.value q) w ∧ RdV w (okOf X ρ w) ρ v q by
    obtain ⟨q, h1, h2⟩ := hs
    exact ⟨q, ρ, w, .inl h1, rfl, rfl, h2⟩
  obtain ⟨dst, op, type, pos, after, guard⟩ := o
  simp only at h
  unfold moreV at h
  split at h
  · rename_i src dst' x
    split at h
    · rename_i c hc
      split at h
      · rename_i z rows hv
        split at h
        · rename_i l hl
          split at h
          · rename_i ys hys
            split at h
            · rename_i e hde
              split at h
              · rename_i ye hye
                split at h
                · rename_i hk
                  split at h
                  · rename_i yd hyd
                    split at h
                    · rename_i hds
                      injection h with h
                      subst h
                      have h1 := ev_sound hH hc
                      unfold RdV at h1
                      have h2 := view_rd hH hv h1
                      refine ⟨_, ?_, rd_lit rfl⟩
                      have h3 := conv_bytes (w := w) (ty_sl hys hde) (ty_int hye hk) (ty_str hyd hds) hl h2
                      simp only [execOp, Sem.run_bind, h3, Result.andThen_ok, Sem.run_pure]
                    · cases h
                  · cases h
                · cases h
              · cases h
            · cases h
          · cases h
        · cases h
      · cases h
    · cases h
  · rename_i op t x y t'
    split at h
    · rename_i l hx
      split at h
      · rename_i l' hy
        split at h
        · rename_i ds hds
          split at h
          · rename_i b hb
            obtain ⟨F, hF, g1, g2, g3⟩ := eqT_run hds
            have h1 := ev_sound hH hx
            have h2 := ev_sound hH hy
            unfold RdV at h1 h2
            obtain ⟨xs, e1, r1⟩ := h1
            obtain ⟨ys, e2, r2⟩ := h2
            have hFo : P.fieldsOf t = F := by simp [Program.fieldsOf, hF]
            have key : (Op.equal t (.agg xs) (.agg ys)).run P w = .ok b w := by
              show (Op.equalIn (9999 + 1) t (.agg xs) (.agg ys)).run P w = _
              rw [run_equalIn_struct w 9999 t xs ys (by rw [hFo]; exact hF) g1, hFo]
              exact eqFields_run 9998 xs ys g3 hb r1 r2 (fun k => by simp) (fun k => by simp)
            have hg := run_eqGuard_agg (P := P) w op t x y xs ys g2
            split at h
            · injection h with h
              subst h
              refine ⟨_, ?_, rd_lit rfl⟩
              simp only [execOp, e1, e2, Sem.run_bind, hg, Result.andThen_ok, binOp, key, Sem.run_pure]
            · injection h with h
              subst h
              refine ⟨_, ?_, rd_lit rfl⟩
              simp only [execOp, e1, e2, Sem.run_bind, hg, Result.andThen_ok, binOp, key, Sem.run_pure]
            · cases h
          · cases h
        · cases h
      · cases h
    · rename_i z b hx
      split at h
      · rename_i z' b' hy
        split at h
        · rename_i yd hyd
          split at h
          · rename_i hd
            have h1 := ev_sound hH hx
            have h2 := ev_sound hH hy
            unfold RdV RdC RdT at h1 h2
            have hu := ty_bool hyd hd
            have key : (Op.equal t (.bool b) (.bool b')).run P w = .ok (b == b') w := by
              exact run_equalIn_bool' w 9999 t b b' hu
            have hg : (eqGuard op t x y (.bool b) (.bool b')).run P w = .ok () w := by cases op <;> rfl
            split at h
            · injection h with h
              subst h
              refine ⟨_, ?_, rd_lit rfl⟩
              simp only [execOp, h1.1, h2.1, Sem.run_bind, hg, Result.andThen_ok, binOp, key, Sem.run_pure]
            · injection h with h
              subst h
              refine ⟨_, ?_, rd_lit rfl⟩
              simp only [execOp, h1.1, h2.1, Sem.run_bind, hg, Result.andThen_ok, binOp, key, Sem.run_pure]
            · cases h
          · cases h
        · cases h
      · cases h
    · cases h
  · rename_i x y t
    split at h
    · rename_i u hx
      split at h
      · rename_i v' hy
        have h1 := ev_sound hH hx
        have h2 := ev_sound hH hy
        unfold RdV RdC RdT at h1 h2
        obtain ⟨q, h3, h4⟩ := min_run (P := P) (ρ := ρ) (ok := okOf X ρ w) w ⟨t⟩ type h
        refine ⟨q, ?_, h4⟩
        rw [if_pos rfl] at h3
        simp [execOp, resolve, invoke, h1.1, h2.1, builtin, h3]
      · cases h
    · cases h
  · rename_i x y t
    split at h
    · rename_i u hx
      split at h
      · rename_i v' hy
        have h1 := ev_sound hH hx
        have h2 := ev_sound hH hy
        unfold RdV RdC RdT at h1 h2
        obtain ⟨q, h3, h4⟩ := min_run (P := P) (ρ := ρ) (ok := okOf X ρ w) w ⟨t⟩ type h
        refine ⟨q, ?_, h4⟩
        rw [if_neg (by simp)] at h3
        simp [execOp, resolve, invoke, h1.1, h2.1, builtin, h3]
      · cases h
    · cases h
  · cases h
end
end Go.Proofs.Ytoghgjobfcnneaa.Ax
