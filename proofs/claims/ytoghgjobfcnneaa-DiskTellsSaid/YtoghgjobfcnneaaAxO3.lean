/- Operations that leave memory as it is: the whole table. -/
import Derived.Test.YtoghgjobfcnneaaAxO2
namespace Go.Proofs.Ytoghgjobfcnneaa.Ax
open Go.RowKit
def bndOf (st : St) : Option Operand → Option (Option (Option Int))
  | none => some none
  | some x => match ev st x with
    | some v => match litInt v with
      | some p => some (some (some p.2))
      | none => none
    | none => none
def evAll (st : St) : List Operand → Option (List C)
  | [] => some []
  | x :: xs => match ev st x with
    | some (.one c) => match evAll st xs with
      | some cs => some (c :: cs)
      | none => none
    | _ => none
def fieldV (cs : List C) (off : Nat) (yf : Ty) : Option V :=
  match yf.agg with
  | true => if off + yf.size ≤ cs.length then some (.agg ((cs.drop off).take yf.size)) else none
  | false => match cs[off]? with
    | some c => some (.one c)
    | none => none
def convV (y : Ty) : Value → Option V
  | .int _ n => match y.d with
    | .int k => some (litI k (k.wrap n))
    | _ => none
  | .string s => match y.d with
    | .str => some (litS s)
    | _ => none
  | _ => none
def unV : UnOp → Value → Option V
  | .not, .bool b => some (litB (!b))
  | .neg, .int k n => some (litI k (k.wrap (0 - n)))
  | _, _ => none
def lenOk (y : Ty) : C → Bool
  | .t _ (.lit (.string _)) => match y.d with
    | .str => true
    | _ => false
  | _ => match y.d with
    | .sl _ => true
    | _ => false
def pureV (P : Program) (st : St) : Op → Option V
  | .move x | .assign x => ev st x
  | .pick c a b => match ev st c with
    | some (.one (.t _ (.lit (.bool true)))) => ev st a
    | some (.one (.t _ (.lit (.bool false)))) => ev st b
    | _ => none
  | .load t p => match ev st p with
    | some (.one c) => match tyOf P t with
      | some y => loadC st y c
      | none => none
    | _ => none
  | .fieldAddr s x f => match ev st x with
    | some (.one c) => match fieldOf P s f with
      | some (off, yf) => if yf.size = 0 then none else match moveC off c with
        | some d => some (.one d)
        | none => none
      | none => none
    | _ => none
  | .field s x f => match ev st x with
    | some (.agg cs) => match fieldOf P s f with
      | some (off, yf) => fieldV cs off yf
      | none => none
    | _ => none
  | .indexAddr t x i => match ev st x with
    | some (.one c) => match ev st i with
      | some v => match litInt v with
        | some p => match indexC P st t p.2 c with
          | some d => some (.one d)
          | none => none
        | none => none
      | none => none
    | _ => none
  | .index t x i => match ev st x with
    | some (.one (.t _ (.lit (.string s)))) => match ev st i with
      | some v => match litInt v with
        | some p => match tyOf P t with
          | some y => match y.d with
            | .str => if 0 ≤ p.2 then match s[p.2.toNat]? with
                | some b => some (litI .u8 b.toNat)
                | none => none
              else none
            | _ => none
          | none => none
        | none => none
      | none => none
    | _ => none
  | .slice t x lo hi none => match ev st x with
    | some (.one c) => match bndOf st lo with
      | some l => match bndOf st hi with
        | some h => match cutC P t l h c with
          | some d => some (.one d)
          | none => none
        | none => none
      | none => none
    | _ => none
  | .slice t x none (some (.const (.int _ 0))) (some (.const (.int _ 0))) => match ev st x with
    | some (.one c) => match tyOf P t with
      | some y => match y.d with
        | .sl e => match tyOf P e with
          | some _ => match lenOk y c with
            | true => match lenC c with
              | some _ => some (.one .nil)
              | none => none
            | false => none
          | none => none
        | _ => none
      | none => none
    | _ => none
  | .binOp op _ x y _ => match ev st x with
    | some u => match lit1 u with
      | some a => match ev st y with
        | some v => match lit1 v with
          | some b => binV op a b
          | none => none
        | none => none
      | none => none
    | none => none
  | .unOp op _ x => match ev st x with
    | some u => match lit1 u with
      | some a => unV op a
      | none => none
    | none => none
  | .convert s d x => match ev st x with
    | some u => match lit1 u with
      | some a => match tyOf P s with
        | some _ => match tyOf P d with
          | some y => convV y a
          | none => none
        | none => none
      | none => none
    | none => none
  | .makeFunc (.func f) ⟨[]⟩ caps => match evAll st caps.toList with
    | some cs => some (.one (.fn f cs))
    | none => none
  | .extract x i => match ev st x with
    | some (.tup vs) => vs[i]?
    | _ => none
  | .call ⟨.builtin .len, ⟨[x]⟩, ⟨[t]⟩⟩ => match ev st x with
    | some (.one c) => match tyOf P t with
      | some y => match lenOk y c with
        | true => match lenC c with
          | some n => some (litI .i64 n)
          | none => none
        | false => none
      | none => none
    | _ => none
  | _ => none
section
variable {P : Program} {X : Cx} {st : St} {ρ : Nat → R} {a : Act} {w : World} {x : Value} {t : TypeId} {y : Ty} {ok : Bool → Nat → Prop}
theorem rd_litInt {v : V} {p : IntKind × Int} (h : litInt v = some p) (hr : RdV w ok ρ v x) : x = .int p.1 p.2 := by
  unfold litInt at h
  split at h
  · injection h with h
    subst h
    unfold RdV RdC RdT at hr
    exact hr.1
  · cases h
theorem bndOf_sound (hH : Hold X st ρ a w) {o : Option Operand} {l : Option (Option Int)} (h : bndOf st o = some l) : bnd (o.map a.eval) l := by
  unfold bndOf at h
  split at h
  · injection h with h; subst h; rfl
  · rename_i x
    split at h
    · rename_i v hv
      split at h
      · rename_i p hp
        injection h with h
        subst h
        have := rd_litInt hp (ev_sound hH hv)
        exact ⟨p.1, by simp [this]⟩
      · cases h
    · cases h
theorem evAll_sound (hH : Hold X st ρ a w) : ∀ {os : List Operand} {cs : List C}, evAll st os = some cs → RdCs w (okOf X ρ w) ρ cs (os.map a.eval)
  | [], cs, h => by
    simp only [evAll, Option.some.injEq] at h
    subst h
    rw [List.map_nil]; unfold RdCs; trivial
  | o :: os, cs, h => by
    simp only [evAll] at h
    split at h
    · rename_i c hc
      split at h
      · rename_i ds hd
        injection h with h
        subst h
        rw [List.map_cons]
        unfold RdCs
        have := ev_sound hH hc
        unfold RdV at this
        exact ⟨this, evAll_sound hH hd⟩
      · cases h
    · cases h
theorem RdVs.get : ∀ {cs : List V} {xs : List Value} {j : Nat} {c : V}, RdVs w ok ρ cs xs → cs[j]? = some c → ∃ x, xs[j]? = some x ∧ RdV w ok ρ c x
  | [], _, _, _, _, hc => by simp at hc
  | c :: cs, [], _, _, h, _ => by unfold RdVs at h; exact h.elim
  | c :: cs, x :: xs, 0, d, h, hc => by
    unfold RdVs at h
    simp at hc
    subst hc
    exact ⟨x, rfl, h.1⟩
  | c :: cs, x :: xs, j + 1, d, h, hc => by
    unfold RdVs at h
    simpa using RdVs.get h.2 (by simpa using hc)
theorem field_sound {s : TypeId} {f off : Nat} {yf : Ty} {cs : List C} {v : V} (hf : fieldOf P s f = some (off, yf)) (h : fieldV cs off yf = some v) (hx : RdV w ok ρ (.agg cs) x) : ∃ q, (Instr.field s x f).run P w = .ok q w ∧ RdV w ok ρ v q := by
  obtain ⟨F, h1, fd, h2, h3, h4⟩ := fieldOf_inv hf
  unfold RdV at hx
  obtain ⟨xs, rfl, hcs⟩ := hx
  have hl := hcs.len
  unfold fieldV at h
  split at h
  · rename_i hag
    split at h
    · rename_i hle
      injection h with h
      subst h
      refine ⟨.agg (xs.extract off (off + yf.size)), ?_, ?_⟩
      · simp only [Instr.field, Sem.run_bind, run_underlying h1, Result.andThen_ok, h2, asAgg, Sem.run_pure, part, ty_isAgg h4, hag, if_true, ty_size h4, h3]
      · unfold RdV
        refine ⟨_, rfl, ?_⟩
        rw [Array.toList_extract, List.extract_eq_take_drop, Nat.add_sub_cancel_left]
        exact (hcs.drop off).take _
    · cases h
  · rename_i hag
    split at h
    · rename_i c hc
      injection h with h
      subst h
      obtain ⟨u, q1, q2⟩ := hcs.get hc
      refine ⟨u, ?_, by unfold RdV; exact q2⟩
      have q1' : xs[off]? = some u := by simpa using q1
      simp only [Instr.field, Sem.run_bind, run_underlying h1, Result.andThen_ok, h2, asAgg, Sem.run_pure, part, ty_isAgg h4, hag, Bool.false_eq_true, if_false, h3, q1']
    · cases h
theorem eval_const (a : Act) (v : Value) : a.eval (.const v) = v := rfl
theorem pure_runs {o : Oper} {v : V} (h : pureV P st o.op = some v) : Runs P X st o (.pure v) := by
  intro ρ a w hH
  suffices hs : ∃ q, (execOp a.eval o).run P w = .ok (.value q) w ∧ RdV w (okOf X ρ w) ρ v q by
    obtain ⟨q, h1, h2⟩ := hs
    exact ⟨q, ρ, w, .inl h1, rfl, rfl, h2⟩
  obtain ⟨dst, op, type, pos, after, guard⟩ := o
  simp only at h
  unfold pureV at h
  split at h
  · exact ⟨_, rfl, ev_sound hH h⟩
  · exact ⟨_, rfl, ev_sound hH h⟩
  · split at h
    · rename_i c p q z hc
      have := ev_sound hH hc
      unfold RdV RdC RdT at this
      exact ⟨_, by simp [execOp, this.1, asBool], ev_sound hH h⟩
    · rename_i c p q z hc
      have := ev_sound hH hc
      unfold RdV RdC RdT at this
      exact ⟨_, by simp [execOp, this.1, asBool], ev_sound hH h⟩
    · cases h
  · split at h
    · rename_i c hc
      split at h
      · rename_i y hy
        have hx := ev_sound hH hc
        unfold RdV at hx
        obtain ⟨q, h1, h2⟩ := load_sound hH hy h hx
        exact ⟨q, by simp [execOp, h1], h2⟩
      · cases h
    · cases h
  · split at h
    · rename_i c hc
      split at h
      · rename_i off yf hf
        split at h
        · cases h
        · rename_i hz
          split at h
          · rename_i d hd
            injection h with h
            subst h
            have hx := ev_sound hH hc
            unfold RdV at hx
            obtain ⟨q, h1, h2⟩ := fieldAt_sound (P := P) hf hz hd hx
            exact ⟨q, by simp [execOp, h1], by unfold RdV; exact h2⟩
          · cases h
      · cases h
    · cases h
  · split at h
    · rename_i cs hc
      split at h
      · rename_i off yf hf
        obtain ⟨q, h1, h2⟩ := field_sound (P := P) hf h (ev_sound hH hc)
        exact ⟨q, by simp [execOp, h1], h2⟩
      · cases h
    · cases h
  · split at h
    · rename_i c hc
      split at h
      · rename_i i hi
        split at h
        · rename_i p hp
          split at h
          · rename_i d hd
            injection h with h
            subst h
            have hx := ev_sound hH hc
            unfold RdV at hx
            have hn := rd_litInt hp (ev_sound hH hi)
            obtain ⟨q, h1, h2⟩ := index_sound (P := P) (k := p.1) hd hx
            exact ⟨q, by simp [execOp, hn, h1], by unfold RdV; exact h2⟩
          · cases h
        · cases h
      · cases h
    · cases h
  · split at h
    · rename_i z s hc
      split at h
      · rename_i i hi
        split at h
        · rename_i p hp
          split at h
          · rename_i y hy
            split at h
            · rename_i hd
              split at h
              · rename_i h0
                split at h
                · rename_i b hb
                  injection h with h
                  subst h
                  have hx := ev_sound hH hc
                  unfold RdV RdC RdT at hx
                  have hn := rd_litInt hp (ev_sound hH hi)
                  refine ⟨_, ?_, rd_lit rfl⟩
                  simp only [execOp, hx.1, hn, Instr.index, asIntOf, Sem.run_bind, Sem.run_pure, Result.andThen_ok, run_underlying (ty_str hy hd), if_pos h0, hb]
                · cases h
              · cases h
            · cases h
          · cases h
        · cases h
      · cases h
    · cases h
  · split at h
    · rename_i c hc
      split at h
      · rename_i l hl
        split at h
        · rename_i r hr
          split at h
          · rename_i d hd
            injection h with h
            subst h
            have hx := ev_sound hH hc
            unfold RdV at hx
            obtain ⟨q, h1, h2⟩ := cut_sound (P := P) (bndOf_sound hH hl) (bndOf_sound hH hr) hd hx
            exact ⟨q, by simp [execOp, h1], by unfold RdV; exact h2⟩
          · cases h
        · cases h
      · cases h
    · cases h
  · split at h
    · rename_i c hc
      split at h
      · rename_i y hy
        split at h
        · rename_i e hd
          split at h
          · rename_i ye hye
            split at h
            · rename_i hok
              split at h
              · rename_i n hn
                injection h with h
                subst h
                have hx := ev_sound hH hc
                unfold RdV at hx
                obtain ⟨q, h1, h2⟩ := cut0_sound (P := P) hy hd hye hn (fun z s e => by
                  subst e
                  unfold lenOk at hok
                  simp only [hd] at hok
                  cases hok) hx
                exact ⟨q, by simp only [execOp, Option.map_none, Option.map_some, eval_const, Sem.run_bind, h1, Result.andThen_ok, Sem.run_pure], by unfold RdV; exact h2⟩
              · cases h
            · cases h
          · cases h
        · cases h
      · cases h
    · cases h
  · split at h
    · rename_i u hu
      split at h
      · rename_i p hp
        split at h
        · rename_i v' hv
          split at h
          · rename_i q hq
            have e1 := rd_lit1 hp (ev_sound hH hu)
            have e2 := rd_lit1 hq (ev_sound hH hv)
            obtain ⟨r, h1, h2⟩ := bin_sound (P := P) (w := w) (ρ := ρ) (ok := okOf X ρ w) (t := _) (x := _) (y := _) h
            refine ⟨r, ?_, h2⟩
            simp only [execOp, e1, e2]
            rw [Sem.run_bind, h1]
            rfl
          · cases h
        · cases h
      · cases h
    · cases h
  · split at h
    · rename_i u hu
      split at h
      · rename_i p hp
        have e1 := rd_lit1 hp (ev_sound hH hu)
        unfold unV at h
        split at h
        · injection h with h
          subst h
          exact ⟨_, by simp [execOp, e1, Op.unary], rd_lit rfl⟩
        · injection h with h
          subst h
          exact ⟨_, by simp [execOp, e1, Op.unary, Op.intArith], rd_lit rfl⟩
        · cases h
      · cases h
    · cases h
  · split at h
    · rename_i u hu
      split at h
      · rename_i p hp
        split at h
        · rename_i ys hys
          split at h
          · rename_i yd hyd
            have e1 := rd_lit1 hp (ev_sound hH hu)
            obtain ⟨ds, _, hds, _⟩ := tyOf_inv hys
            unfold convV at h
            split at h
            · split at h
              · rename_i k hd
                injection h with h
                subst h
                refine ⟨_, ?_, rd_lit rfl⟩
                simp only [execOp, e1, convert, Sem.run_bind, run_underlying hds, Result.andThen_ok, run_underlying (ty_int hyd hd), Conv.intToInt, Sem.run_pure]
              · cases h
            · split at h
              · rename_i hd
                injection h with h
                subst h
                refine ⟨_, ?_, rd_lit rfl⟩
                simp only [execOp, e1, convert, Sem.run_bind, run_underlying hds, Result.andThen_ok, run_underlying (ty_str hyd hd), Sem.run_pure]
              · cases h
            · cases h
          · cases h
        · cases h
      · cases h
    · cases h
  · split at h
    · rename_i cs hcs
      injection h with h
      subst h
      refine ⟨_, rfl, ?_⟩
      unfold RdV RdC
      exact ⟨_, by simp only [List.map_toArray, List.map_nil]; rfl, by simpa using evAll_sound hH hcs⟩
    · cases h
  · split at h
    · rename_i vs hvs
      have := ev_sound hH hvs
      unfold RdV at this
      obtain ⟨xs, e, hr⟩ := this
      obtain ⟨u, h1, h2⟩ := hr.get h
      have h1' : ∀ i : Nat, xs.toList[i]? = some u → xs[i]? = some u := fun i h => by simpa using h
      exact ⟨u, by simp [execOp, e, Instr.extract, h1' _ h1], h2⟩
    · cases h
  · split at h
    · rename_i c hc
      split at h
      · rename_i y hy
        split at h
        · rename_i hok
          split at h
          · rename_i n hn
            injection h with h
            subst h
            have hx := ev_sound hH hc
            unfold RdV at hx
            have hl := len_sound (P := P) (ty := type) hy (by
              unfold lenOk at hok
              split at hok
              · split at hok
                · rename_i hd; exact .inr ⟨hd, _, _, rfl⟩
                · cases hok
              · split at hok
                · rename_i hne _ _ hd; exact .inl ⟨_, hd, fun z s e => hne z s e⟩
                · cases hok) hn hx
            refine ⟨_, ?_, rd_lit rfl⟩
            simp [execOp, resolve, invoke, builtin, hl]
          · cases h
        · cases h
      · cases h
    · cases h
  · cases h
end
end Go.Proofs.Ytoghgjobfcnneaa.Ax
