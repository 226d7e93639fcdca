/- Operations that leave memory as it is, by what is known. -/
import Derived.Test.YtoghgjobfcnneaaAxS
namespace Go.Proofs.Ytoghgjobfcnneaa.Ax
open Go.RowKit
inductive TD where
  | int (k : IntKind)
  | bool
  | str
  | sl (e : TypeId)
  | ptr (e : TypeId)
  | struct (fs : List (Nat × TypeId))
  | other
structure Ty where
  agg : Bool
  size : Nat
  bytes : Nat
  zero : Value
  d : TD
def tdOf : TypeDesc → TD
  | .int k => .int k
  | .bool => .bool
  | .string => .str
  | .slice e => .sl e
  | .pointer e => .ptr e
  | .struct fs => .struct (fs.toList.map fun f => (f.offset, f.type))
  | _ => .other
def aggOf : TypeDesc → Bool
  | .struct _ | .array _ _ => true
  | _ => false
def tyOf (P : Program) (t : TypeId) : Option Ty :=
  match P.underlying t with
  | some d => match P.info? t with
    | some i => match i.zero with
      | some z => some ⟨aggOf d, i.size, i.bytes, z, tdOf d⟩
      | none => none
    | none => none
  | none => none
section
variable {P : Program} {t : TypeId} {y : Ty}
theorem tyOf_inv (h : tyOf P t = some y) : ∃ d i, P.underlying t = some d ∧ P.info? t = some i ∧ i.zero = some y.zero ∧ i.size = y.size ∧ i.bytes = y.bytes ∧ aggOf d = y.agg ∧ tdOf d = y.d := by
  unfold tyOf at h
  split at h
  · rename_i d hd
    split at h
    · rename_i i hi
      split at h
      · rename_i z hz
        injection h with h
        subst h
        exact ⟨d, i, hd, hi, hz, rfl, rfl, rfl, rfl⟩
      · cases h
    · cases h
  · cases h
theorem ty_isAgg (h : tyOf P t = some y) (w : World) : (isAgg t).run P w = .ok y.agg w := by
  obtain ⟨d, i, h1, _, _, _, _, h6, _⟩ := tyOf_inv h
  rw [← h6]
  unfold isAgg
  simp only [Sem.run_bind, run_underlying h1, Result.andThen_ok]
  cases d <;> rfl
theorem ty_size (h : tyOf P t = some y) (w : World) : (sizeOf t).run P w = .ok y.size w := by
  obtain ⟨d, i, _, h2, _, h4, _⟩ := tyOf_inv h
  simp [sizeOf, typeInfo, h2, h4]
theorem ty_zero (h : tyOf P t = some y) (w : World) : (zeroValue t).run P w = .ok y.zero w := by
  obtain ⟨d, i, _, h2, h3, _⟩ := tyOf_inv h
  simp [zeroValue, typeInfo, h2, h3]
theorem ty_int {k : IntKind} (h : tyOf P t = some y) (hd : y.d = .int k) : P.underlying t = some (.int k) := by
  obtain ⟨d, i, h1, _, _, _, _, _, h7⟩ := tyOf_inv h
  rw [hd] at h7
  cases d <;> simp [tdOf] at h7
  rw [h1, h7]
theorem ty_str (h : tyOf P t = some y) (hd : y.d = .str) : P.underlying t = some .string := by
  obtain ⟨d, i, h1, _, _, _, _, _, h7⟩ := tyOf_inv h
  rw [hd] at h7
  cases d <;> simp [tdOf] at h7
  exact h1
theorem ty_bool (h : tyOf P t = some y) (hd : y.d = .bool) : P.underlying t = some .bool := by
  obtain ⟨d, i, h1, _, _, _, _, _, h7⟩ := tyOf_inv h
  rw [hd] at h7
  cases d <;> simp [tdOf] at h7
  exact h1
theorem ty_sl {e : TypeId} (h : tyOf P t = some y) (hd : y.d = .sl e) : P.underlying t = some (.slice e) := by
  obtain ⟨d, i, h1, _, _, _, _, _, h7⟩ := tyOf_inv h
  rw [hd] at h7
  cases d <;> simp [tdOf] at h7
  rw [h1, h7]
theorem ty_struct {fs : List (Nat × TypeId)} (h : tyOf P t = some y) (hd : y.d = .struct fs) : ∃ F : Array Field, P.underlying t = some (.struct F) ∧ fs = F.toList.map fun f => (f.offset, f.type) := by
  obtain ⟨d, i, h1, _, _, _, _, _, h7⟩ := tyOf_inv h
  rw [hd] at h7
  cases d <;> simp [tdOf] at h7
  exact ⟨_, h1, h7.symm⟩
end
/-- a constant's cell -/
def constC : Value → C
  | .slice none 0 0 => .nil
  | v => .t true (.lit v)
def constV : Value → Option V
  | .agg cs => if cs.toList.all (fun u => u.oneCell') then some (.agg (cs.toList.map constC)) else none
  | .tuple _ => none
  | v => some (.one (constC v))
def ev (st : St) : Operand → Option V
  | .tmp t => get t st.sl
  | .const v => constV v
  | .func f => some (.one (.t true (.fn f [])))
  | .global _ => none
section
variable {P : Program} {X : Cx} {st : St} {ρ : Nat → R} {a : Act} {w : World} {ok : Bool → Nat → Prop}
theorem rd_constC {v : Value} (h : v.oneCell' = true) : RdC w ok ρ (constC v) v := by
  unfold constC
  split
  · unfold RdC; exact ⟨_, rfl⟩
  · unfold RdC RdT; exact ⟨rfl, h⟩
theorem rd_constCs : ∀ {l : List Value}, l.all (fun u => u.oneCell') = true → RdCs w ok ρ (l.map constC) l
  | [], _ => by unfold RdCs; trivial
  | v :: l, h => by
    rw [List.all_cons, Bool.and_eq_true] at h
    rw [List.map_cons]
    unfold RdCs
    exact ⟨rd_constC h.1, rd_constCs h.2⟩
theorem rd_constV {v : Value} {u : V} (h : constV v = some u) : RdV w ok ρ u v := by
  cases v with
  | agg cs =>
    simp only [constV] at h
    split at h
    · rename_i hc
      injection h with h
      subst h
      unfold RdV
      exact ⟨cs, rfl, rd_constCs hc⟩
    · cases h
  | tuple cs => cases h
  | _ =>
    simp only [constV] at h
    injection h with h
    subst h
    unfold RdV
    exact rd_constC rfl
theorem ev_sound (h : Hold X st ρ a w) {o : Operand} {v : V} (hv : ev st o = some v) : RdV w (okOf X ρ w) ρ v (a.eval o) := by
  cases o with
  | tmp t =>
    obtain ⟨x, h1, h2⟩ := h.slots t v hv
    simp only [Act.eval, Array.getD_eq_getD_getElem?, h1, Option.getD_some]
    exact h2
  | const v => exact rd_constV hv
  | global g => cases hv
  | func f =>
    simp only [ev] at hv
    injection hv with hv
    subst hv
    unfold RdV RdC RdT
    exact ⟨#[], rfl, by unfold RdL; trivial⟩
end
/-- what an operation does: a value; or a value, and blocks turn -/
inductive Delta where
  | pure (v : V)
  | mod (v : V) (ch kl : List Nat) (nb : List (Nat × B))
def Out (X : Cx) (ρ : Nat → R) (w : World) (ρ' : Nat → R) (w' : World) (x : Value) : Delta → Prop
  | .pure v => ρ' = ρ ∧ w' = w ∧ RdV w (okOf X ρ w) ρ v x
  | .mod v ch kl nb => Evo X ρ w ρ' w' ch kl ∧ RdV w' (okOf X ρ' w') ρ' v x ∧ ∀ id b, get id nb = some b → HasB X w' ρ' id b
/-- an operation without a call, by its run -/
def Runs (P : Program) (X : Cx) (st : St) (o : Oper) (D : Delta) : Prop :=
  ∀ ρ a w, Hold X st ρ a w → ∃ x ρ' w', ((execOp a.eval o).run P w = .ok (.value x) w' ∨ (execOp a.eval o).run P w = .ok .skip w' ∧ x = undef) ∧ Out X ρ w ρ' w' x D
/-- an operation, whatever it is -/
def Step (P : Program) (X : Cx) (st : St) (o : Oper) (D : Delta) : Prop :=
  ∀ ρ a w, Hold X st ρ a w → ∀ (K : Act → World → Prop) (Q : Exit → Act → World → Prop), (∀ x ρ' w', Out X ρ w ρ' w' x D → K (a.put o.dst x) w') → o.wp P a w K Q
theorem Runs.step {P : Program} {X : Cx} {st : St} {o : Oper} {D : Delta} (h : Runs P X st o D) : Step P X st o D := fun ρ a w hH K Q hK => by
  obtain ⟨x, ρ', w', h1, h2⟩ := h ρ a w hH
  unfold Oper.wp
  rcases h1 with h1 | ⟨h1, rfl⟩
  · rw [h1]; exact hK x ρ' w' h2
  · rw [h1]; exact hK undef ρ' w' h2
/-- a value, out of what the operands are -/
def lit1 : V → Option Value
  | .one (.t _ (.lit v)) => some v
  | _ => none
def litInt : V → Option (IntKind × Int)
  | .one (.t _ (.lit (.int k n))) => some (k, n)
  | _ => none
def litI (k : IntKind) (n : Int) : V := .one (.t true (.lit (.int k n)))
def litB (b : Bool) : V := .one (.t true (.lit (.bool b)))
def litS (s : ByteArray) : V := .one (.t true (.lit (.string s)))
def bitsV (k : IntKind) (r : BitVec k.bits) : V := litI k (k.wrap r.toNat)
def binI (op : BinOp) (k : IntKind) (a b : Int) : Option V :=
  match op with
  | .add => some (litI k (k.wrap (a + b)))
  | .sub => some (litI k (k.wrap (a - b)))
  | .mul => some (litI k (k.wrap (a * b)))
  | .eql => some (litB (a == b))
  | .neq => some (litB (a != b))
  | .lss => some (litB (decide (a < b)))
  | .leq => some (litB (decide (a ≤ b)))
  | .gtr => some (litB (decide (b < a)))
  | .geq => some (litB (decide (b ≤ a)))
  | .quo => if b = 0 then none else some (litI k (k.wrap (a.tdiv b)))
  | .rem => if b = 0 then none else some (litI k (a.tmod b))
  | .and => some (bitsV k (BitVec.ofInt k.bits a &&& BitVec.ofInt k.bits b))
  | .or => some (bitsV k (BitVec.ofInt k.bits a ||| BitVec.ofInt k.bits b))
  | .xor => some (bitsV k (BitVec.ofInt k.bits a ^^^ BitVec.ofInt k.bits b))
  | _ => none
def binV (op : BinOp) : Value → Value → Option V
  | .int k a, .int k' b =>
    match op with
    | .shl => if b < 0 then none else some (litI k (k.wrap (a * 2 ^ (min b.toNat k.bits))))
    | .shr => if b < 0 then none else some (litI k (a.fdiv (2 ^ (min b.toNat k.bits))))
    | _ => if k = k' then binI op k a b else none
  | .string a, .string b =>
    match op with
    | .eql => some (litB (a.toList == b.toList))
    | .neq => some (litB (!(a.toList == b.toList)))
    | .add => if a.size + b.size ≤ maxLen then some (litS (a ++ b)) else none
    | .lss => some (litB (Op.bytesLess a.toList b.toList))
    | .leq => some (litB (Op.bytesLess a.toList b.toList || a.toList == b.toList))
    | .gtr => some (litB (!(Op.bytesLess a.toList b.toList || a.toList == b.toList)))
    | .geq => some (litB (!Op.bytesLess a.toList b.toList))
    | _ => none
  | _, _ => none
section
variable {P : Program} {X : Cx} {st : St} {ρ : Nat → R} {a : Act} {w : World} {ok : Bool → Nat → Prop}
theorem rd_lit {v : Value} {z : Bool} (h : v.oneCell' = true) : RdV w ok ρ (.one (.t z (.lit v))) v := by
  unfold RdV RdC RdT; exact ⟨rfl, h⟩
theorem rd_lit1 {v : V} {u x : Value} (h : lit1 v = some u) (hr : RdV w ok ρ v x) : x = u := by
  unfold lit1 at h
  split at h
  · injection h with h
    subst h
    unfold RdV RdC RdT at hr
    exact hr.1
  · cases h
theorem bin_sound {op : BinOp} {t : TypeId} {x y : Operand} {u v : Value} {r : V} (h : binV op u v = some r) : ∃ q, ((do eqGuard op t x y u v; binOp op t u v) : Sem Value).run P w = .ok q w ∧ RdV w ok ρ r q := by
  unfold binV at h
  split at h
  · rename_i k a k' b
    have hquo : b ≠ 0 → ∀ r, r = litI k (k.wrap (a.tdiv b)) → ∃ q, ((do eqGuard .quo t x y (.int k a) (.int k b); binOp .quo t (.int k a) (.int k b)) : Sem Value).run P w = .ok q w ∧ RdV w ok ρ r q := by
      rintro hb r rfl
      refine ⟨_, ?_, rd_lit rfl⟩
      simp [eqGuard, binOp, Op.intDiv, hb]
    have hrem : b ≠ 0 → ∀ r, r = litI k (a.tmod b) → ∃ q, ((do eqGuard .rem t x y (.int k a) (.int k b); binOp .rem t (.int k a) (.int k b)) : Sem Value).run P w = .ok q w ∧ RdV w ok ρ r q := by
      rintro hb r rfl
      refine ⟨_, ?_, rd_lit rfl⟩
      simp [eqGuard, binOp, Op.intDiv, hb]
    have hshl : ¬ b < 0 → ∀ r, r = litI k (k.wrap (a * 2 ^ (min b.toNat k.bits))) → ∃ q, ((do eqGuard .shl t x y (.int k a) (.int k' b); binOp .shl t (.int k a) (.int k' b)) : Sem Value).run P w = .ok q w ∧ RdV w ok ρ r q := by
      rintro hb r rfl
      refine ⟨_, ?_, rd_lit rfl⟩
      simp only [eqGuard, binOp, Op.shift, hb, if_false, Sem.run_bind, Sem.run_pure]
      rfl
    have hshr : ¬ b < 0 → ∀ r, r = litI k (a.fdiv (2 ^ (min b.toNat k.bits))) → ∃ q, ((do eqGuard .shr t x y (.int k a) (.int k' b); binOp .shr t (.int k a) (.int k' b)) : Sem Value).run P w = .ok q w ∧ RdV w ok ρ r q := by
      rintro hb r rfl
      refine ⟨_, ?_, rd_lit rfl⟩
      simp only [eqGuard, binOp, Op.shift, hb, if_false, Sem.run_bind, Sem.run_pure]
      rfl
    by_cases hk : k = k'
    · subst hk
      simp only [if_true] at h
      cases op <;> simp only [binI] at h <;> first
        | (injection h with h
           subst h
           refine ⟨_, ?_, rd_lit rfl⟩
           simp [eqGuard, binOp, Op.intArith, Op.intCmp]
           done)
        | (injection h with h
           subst h
           refine ⟨_, ?_, rd_lit rfl⟩
           simp [eqGuard, binOp, Op.intBits]
           done)
        | (by_cases hb : b = 0
           · rw [if_pos hb] at h
             cases h
           · rw [if_neg hb] at h
             injection h with h
             exact hquo hb _ h.symm)
        | (by_cases hb : b = 0
           · rw [if_pos hb] at h
             cases h
           · rw [if_neg hb] at h
             injection h with h
             exact hrem hb _ h.symm)
        | (by_cases hb : b < 0
           · rw [if_pos hb] at h
             cases h
           · rw [if_neg hb] at h
             injection h with h
             exact hshl hb _ h.symm)
        | (by_cases hb : b < 0
           · rw [if_pos hb] at h
             cases h
           · rw [if_neg hb] at h
             injection h with h
             exact hshr hb _ h.symm)
        | cases h
    · simp only [if_neg hk] at h
      cases op <;> simp only at h <;> first
        | (by_cases hb : b < 0
           · rw [if_pos hb] at h
             cases h
           · rw [if_neg hb] at h
             injection h with h
             exact hshl hb _ h.symm)
        | (by_cases hb : b < 0
           · rw [if_pos hb] at h
             cases h
           · rw [if_neg hb] at h
             injection h with h
             exact hshr hb _ h.symm)
        | cases h
  · rename_i a b
    cases op <;> simp only at h <;> first
      | (injection h with h
         subst h
         refine ⟨_, ?_, rd_lit rfl⟩
         simp [eqGuard, binOp, Op.stringOp]
         done)
      | (split at h
         · rename_i hl
           injection h with h
           subst h
           refine ⟨_, ?_, rd_lit rfl⟩
           have hm : ¬ (((a.size + b.size : Nat) : Int) > IntKind.i64.max) := by
             unfold maxLen at hl
             have : IntKind.i64.max = 9223372036854775807 := by decide
             omega
           simp only [eqGuard, binOp, Op.stringOp, Sem.run_bind, if_neg hm]
           rfl
         · cases h)
      | cases h
  · cases h
end
end Go.Proofs.Ytoghgjobfcnneaa.Ax
