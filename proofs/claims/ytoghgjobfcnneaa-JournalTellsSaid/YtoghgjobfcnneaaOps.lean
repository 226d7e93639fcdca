/- Laws on single operations, for the walk: bytes to a text; append. -/
import Derived.Test.YtoghgjobfcnneaaMem
import Derived.Test.YtoghgjobfcnneaaRows
import Derived.Laws.BytesArg
import Derived.Lib.AppendStr
import Derived.OwnWalk
import Derived.Laws.BitsAllLaws
import Derived.Laws.BitsLemmas
namespace Go.Proofs.Ytoghgjobfcnneaa
open Go.RowKit
attribute [go_sem] bs_size
@[go_sem] theorem wrap64_u8 (x : UInt8) : wrap64 (x.toNat : Int) = x.toNat := IntWalk.wrap64_in _ (by have := x.toNat_lt; omega)

theorem ofInt_nat (a : Nat) (ha : a < 9223372036854775808) : (BitVec.ofInt 64 (a : Int)).toNat = a := by
  rw [BitVec.ofInt_natCast, BitVec.toNat_ofNat]; exact Nat.mod_eq_of_lt (by omega)
theorem or_nat (a b : Nat) (ha : a < 9223372036854775808) (hb : b < 9223372036854775808) : bits .or .i64 (a : Int) (b : Int) = ((a ||| b : Nat) : Int) := by
  have hx : a ||| b < 2 ^ 63 := Nat.or_lt_two_pow (by omega) (by omega)
  show IntKind.i64.wrap ((BitVec.ofInt 64 (a : Int) ||| BitVec.ofInt 64 (b : Int)).toNat : Int) = _
  rw [BitVec.toNat_or, ofInt_nat a ha, ofInt_nat b hb, IntKind.wrap_i64]
  omega
/-- bits that lie apart are added by 'or' -/
theorem or_apart (i m a b : Nat) (hm : m = 2 ^ i) (hi : m ≤ 16777216) (ha : a < m) (hb : b < 256) : bits .or .i64 (a : Int) ((b : Int) * (m : Int)) = ((a + b * m : Nat) : Int) := by
  have hmm : b * m ≤ 256 * 16777216 := Nat.mul_le_mul (by omega) hi
  rw [← Int.natCast_mul, or_nat _ _ (by omega) (by omega)]
  congr 1
  rw [Nat.or_comm, hm, ← Nat.shiftLeft_eq, ← Nat.shiftLeft_add_eq_or_of_lt (by omega), Nat.add_comm]
theorem or4 (b0 b1 b2 b3 : Nat) (h0 : b0 < 256) (h1 : b1 < 256) (h2 : b2 < 256) (h3 : b3 < 256) :
    bits .or .i64 (bits .or .i64 (bits .or .i64 (bits .or .i64 0 (b0 : Int)) ((b1 : Int) * 256)) ((b2 : Int) * 65536)) ((b3 : Int) * 16777216) = ((b0 + 256 * b1 + 65536 * b2 + 16777216 * b3 : Nat) : Int) := by
  have e0 : bits .or .i64 0 (b0 : Int) = (b0 : Int) := by have := or_nat 0 b0 (by omega) (by omega); simpa using this
  have e1 := or_apart 8 256 b0 b1 (by decide) (by omega) (by omega) h1
  have e2 := or_apart 16 65536 (b0 + b1 * 256) b2 (by decide) (by omega) (by omega) h2
  have e3 := or_apart 24 16777216 (b0 + b1 * 256 + b2 * 65536) b3 (by decide) (by omega) (by omega) h3
  rw [e0]
  refine (congrArg (fun x => bits .or .i64 (bits .or .i64 x ((b2 : Int) * 65536)) ((b3 : Int) * 16777216)) e1).trans ?_
  refine (congrArg (fun x => bits .or .i64 x ((b3 : Int) * 16777216)) e2).trans ?_
  refine e3.trans ?_
  omega
section
variable {P : Program} {w : World} {ops : Array Oper} {rest : List Oper} {o : Oper} {a : Act} {Q : Exit → Act → World → Prop}

/-- a text made of bytes that lie at a place -/
theorem wpList_conv (hgd : o.guard = none) (src dst e : TypeId) (x : Operand) (ho : o.op = .convert src dst x)
    (hs : P.underlying src = some (.slice e)) (he : P.underlying e = some (.int .u8)) (hd : P.underlying dst = some .string)
    (b off len c : Nat) (xs : List Int) (hx : a.eval x = .slice (some ⟨b, off, none⟩) len c) (hl : xs.length = len) (hcell : ∀ i, i < len → w.cell? ⟨b, off + i, none⟩ = some (.int .u8 (xs.getD i 0)))
    (h : wpList P ops Q rest (a.put o.dst (.string (strOfNums xs))) w) : wpList P ops Q (o :: rest) a w := by
  refine wpList_plain hgd fun K hK => ?_
  have hrun := run_convert_bytes_arg (P := P) w src e hs he b off len c xs hl hcell dst hd
  unfold Oper.wp
  simp [execOp, ho, hx, hrun, Result.andThen]
  exact hK _ _ h

end
def conv1Else (P : Program) (src dst : TypeId) (b c : Nat) (W : World) : Result Value := (convert src dst (.slice (some ⟨b, 0, none⟩) 1 c)).run P W
/-- the text of one byte, if there is one -/
def conv1K (els : Result Value) (W : World) : Option Value → Result Value
  | some (.int .u8 n) => .ok (.string (bs [UInt8.ofNat n.toNat])) W
  | _ => els
@[go_sem] theorem conv1K_some (els : Result Value) (W : World) (n : Int) : conv1K els W (some (.int .u8 n)) = .ok (.string (bs [UInt8.ofNat n.toNat])) W := rfl
theorem conv1_eq {P : Program} (src dst e : TypeId) (hs : P.underlying src = some (.slice e)) (he : P.underlying e = some (.int .u8)) (hd : P.underlying dst = some .string) (W : World) (b c : Nat) :
    (convert src dst (.slice (some ⟨b, 0, none⟩) 1 c)).run P W = conv1K (conv1Else P src dst b c W) W (W.cell? ⟨b, 0, none⟩) := by
  rcases h : W.cell? ⟨b, 0, none⟩ with _ | v
  · rfl
  · cases v with
    | int k n =>
      cases k
      case u8 =>
        rw [run_convert_bytes_arg (P := P) W src e hs he b 0 1 c [n] rfl (fun i hi => by obtain rfl : i = 0 := by omega
                                                                                         simpa using h) dst hd]
        rfl
      all_goals rfl
    | _ => rfl
@[go_sem] theorem conv1 (W : World) (b c : Nat) : (convert 58 9 (.slice (some ⟨b, 0, none⟩) 1 c)).run Try.prog W = conv1K (conv1Else Try.prog 58 9 b c W) W (W.cell? ⟨b, 0, none⟩) :=
  conv1_eq _ _ _ Try.underlying58 Try.underlying5 Try.underlying9 W b c

/-- What is known of a slice type's element type. -/
structure ElT (P : Program) (t e : TypeId) (z : Value) (size bytes : Nat) : Prop where
  ht : P.underlying t = some (.slice e)
  hi : ∃ i, P.info? e = some i ∧ i.zero = some z ∧ i.size = size ∧ i.bytes = bytes
  hzs : z.cells.size = size
  hsz : 0 < size
theorem elT_mk {P : Program} {t e : TypeId} {z : Value} {size bytes : Nat} (ht : P.underlying t = some (.slice e)) (h : (P.info? e).map (fun i => (i.zero, i.size, i.bytes)) = some (some z, size, bytes)) (hzs : z.cells.size = size) (hsz : 0 < size) : ElT P t e z size bytes :=
  ⟨ht, by obtain ⟨i, h1, h2, h3, h4⟩ := info_parts h; exact ⟨i, h1, h2, h3, h4⟩, hzs, hsz⟩

/-- what an append leaves of all that is not the row itself -/
structure Left (w0 w' : World) (base : Nat) (v : Value) : Prop where
  below : Below base w0 w'
  far : ∀ p : Addr, p.block < w0.heap.size → v.ownBlock ≠ some p.block → w'.cell? p = w0.cell? p
  farz : ∀ p : Addr, p.block < w0.heap.size → v.ownBlock ≠ some p.block → w'.frozen? p = w0.frozen? p
  blk : ∀ g, g < w0.heap.size → v.ownBlock ≠ some g → w'.heap[g]? = w0.heap[g]?

theorem Left.new {w0 w1 : World} {base : Nat} {v : Value} {cs : Array Value} {t : TypeId} (h : Left (w0.alloc (.cells cs t)) w1 base v) (hne : v.ownBlock ≠ some w0.heap.size) (j : Nat) : w1.cell? ⟨w0.heap.size, j, none⟩ = cs[j]? :=
  (h.far ⟨w0.heap.size, j, none⟩ (by simp) hne).trans (cell_of_row _ _ _ _ _ _ (heap_alloc_new w0 _))
theorem own_ne {w : World} {base : Nat} {e : TypeId} {size n : Nat} {v : Value} {xs : List Value} (h : w.ownsRow base e size v n xs) {g : Nat} (hg : w.heap.size ≤ g) : v.ownBlock ≠ some g := fun he => by
  have := (h.lt _ he).2; omega

theorem own_conv {w : World} {base : Nat} {e : TypeId} {v : Value} {n : Nat} {xs : List Value} (h : w.ownsRow base e 1 v n xs) (L : List UInt8) (hx : xs = byteC L) : w.ownsRow base e 1 v L.length (byteC L) := by
  subst hx
  have hn : L.length = n := by have := h.1; rw [byteC_len] at this; omega
  rw [hn]
  exact h
theorem at_ne {w : World} {base : Nat} {e : TypeId} {size n N : Nat} {v v' : Value} {xs : List Value} (h : w.ownsRow base e size v n xs) (ha : v'.ownBlock = v.ownBlock ∨ v'.ownBlock = some N) (hN : w.heap.size < N) : v'.ownBlock ≠ some w.heap.size := by
  rcases ha with ha | ha <;> rw [ha]
  · exact own_ne h (Nat.le_refl _)
  · intro e; injection e with e; omega
theorem strOfNums_bytes (L : List UInt8) : strOfNums (L.map fun b => (b.toNat : Int)) = bs L := by
  simp only [strOfNums, bs, List.map_map]
  congr 2
  have : (fun n : Int => UInt8.ofNat n.toNat) ∘ (fun b : UInt8 => (b.toNat : Int)) = id := by funext b; simp
  rw [this, List.map_id]
/-- a row of the call's own reads as a list -/
theorem rd_of_own {w : World} {base : Nat} {e : TypeId} {size n : Nat} {v : Value} {xs : List Value} (h : w.ownsRow base e size v n xs) : ∃ A c, v = .slice A n c ∧ Rd w w.heap.size size A n xs ∧ n ≤ maxLen := by
  rcases h.2 with ⟨rfl, rfl⟩ | ⟨g, cap, cur, rfl, _, hh, hnc, hcm, hcs, ht⟩
  · exact ⟨none, 0, rfl, ⟨h.1, .inl rfl⟩, Nat.zero_le _⟩
  · refine ⟨_, _, rfl, ⟨h.1, .inr ⟨g, 0, rfl, Blk.lt (t := e) (cs := cur) hh, fun j u hu => ?_⟩⟩, Nat.le_trans hnc hcm⟩
    rw [Nat.zero_add, cell_of_row w g j cur e (0, 0) hh]
    rw [← ht, List.getElem?_take] at hu
    split at hu
    · simpa using hu
    · cases hu
theorem own_vals {w : World} {base : Nat} {e : TypeId} {v : Value} {n : Nat} {vs : List Vl} {cs : List Value} (h : w.ownsRow base e 3 v n (cellsV vs ++ cs)) (u : Vl) (hcs : cs = u.cells) : w.ownsRow base e 3 v (vs ++ [u]).length (cellsV (vs ++ [u])) := by
  subst hcs
  rw [cellsV_snoc]
  have hn : (vs ++ [u]).length = n := by
    have := h.1
    rw [List.length_append, cellsV_len] at this
    simp at this ⊢
    omega
  rw [hn]
  exact h
theorem own_set {w : World} {base : Nat} {e : TypeId} {size n : Nat} {v : Value} {xs : List Value} (h : w.ownsRow base e size v n xs) {p : Addr} (hp : v.ownBlock ≠ some p.block) (u : Value) : (w.setCell p u).ownsRow base e size v n xs :=
  h.kept (row := some p.block) ⟨rfl, rfl, rfl, by simp [World.setCell], fun k _ hne => Below.heap_setCell _ _ _ _ (fun e => hne (by rw [e]))⟩ (.inr hp)
theorem own_below {w w' : World} {base : Nat} {e : TypeId} {size n : Nat} {v : Value} {xs : List Value} (h : w.ownsRow base e size v n xs) (hb : Below w.heap.size w w') : w'.ownsRow base e size v n xs := by
  have hg : w.grownBy w' none := ⟨hb.os, hb.tape, hb.output, hb.size, fun k hk _ => hb.block k hk⟩
  refine h.kept hg ?_
  rcases hv : v.ownBlock with _ | g
  · exact .inl rfl
  · exact .inr (by simp)
theorem left_of {w0 w1 w' : World} {base : Nat} {e : TypeId} {size n : Nat} {v : Value} {xs : List Value} (hown : w0.ownsRow base e size v n xs) (hbase : base ≤ w0.heap.size)
    (h0 : ∀ row, w0.grownBy w1 row) (hg : w1.grownBy w' v.ownBlock) : Left w0 w' base v := by
  have hgg := (h0 v.ownBlock).trans hg
  have hb := hown.lt
  refine ⟨(Below.refl _ _).grown hgg hbase (fun k hk => (hb k hk).1), fun p hp hne => World.cell?_of_block (hgg.block _ hp (fun e => hne e.symm)), fun p hp hne => World.frozen?_of_block (hgg.block _ hp (fun e => hne e.symm)), fun g hp hne => hgg.block _ hp (fun e => hne e.symm)⟩

section
variable {P : Program} {w0 : World} {ops : Array Oper} {rest : List Oper} {o : Oper} {a : Act} {Q : Exit → Act → World → Prop}
/-- 'append(out, x, ..)' onto a row of the call's own: what is appended lies in a block that was just laid -/
theorem wpList_app (hgd : o.guard = none) (s x : Operand) {t e : TypeId} {z : Value} {size bytes : Nat} (E : ElT P t e z size bytes)
    (ho : o.op = .call { callee := .builtin .append, args := #[s, x], argTypes := #[t, t] })
    {base : Nat} {v : Value} {n : Nat} {xs : List Value} (hown : w0.ownsRow base e size v n xs) (hs : a.eval s = v)
    {cs : List Value} {te : TypeId} {g m c : Nat} (hx : a.eval x = .slice (some ⟨g, 0, none⟩) m c) (hg : g = w0.heap.size) (hl : cs.length = m * size) (h1 : (cs.all fun u => u.oneCell') = true)
    (h63 : n + m ≤ maxLen) (hbytes : (n + m) * bytes ≤ 140737488355328) (hbase : base ≤ w0.heap.size)
    (h : ∀ v' w', w'.ownsRow base e size v' (n + m) (xs ++ cs) → Left w0 w' base v → (v'.ownBlock = v.ownBlock ∨ v'.ownBlock = some (w0.heap.size + 1)) → wpList P ops Q rest (a.put o.dst v') w') : wpList P ops Q (o :: rest) a (w0.alloc (.cells cs.toArray te)) := by
  obtain ⟨i, hi, hz, hz1, hz2⟩ := E.hi
  subst hg
  have hnb : (w0.alloc (.cells cs.toArray te)).heap[w0.heap.size]? = some (.cells cs.toArray te (0, 0)) := heap_alloc_new w0 _
  refine wpList_append_own_at _ hgd s x t ho base e i z size bytes E.ht hi hz hz1 hz2 E.hzs E.hsz v n xs hs (hown.alloc _) ⟨w0.heap.size, 0, none⟩ m c cs hx hl ?_ (by simpa using h1) h63 hbytes (by simp; omega) ?_
  · intro j u hj
    have := World.news_of_block hnb j u (by simpa using hj)
    exact this
  · intro v' w' hown' hg _ hat
    exact h v' w' hown' (left_of hown hbase (fun row => World.grownBy_alloc _ _ _) hg) (by simpa using hat)
/-- 'append(out, s...)', s a text -/
theorem wpList_appS (hgd : o.guard = none) (s x : Operand) {t u e : TypeId} (E : ElT P t e (.int .u8 0) 1 1) (hu : P.underlying u = some .string)
    (ho : o.op = .call { callee := .builtin .append, args := #[s, x], argTypes := #[t, u] })
    {base : Nat} {v : Value} {n : Nat} {xs : List Value} (hown : w0.ownsRow base e 1 v n xs) (hs : a.eval s = v) {S : ByteArray} (hx : a.eval x = .string S)
    (h63 : n + S.size ≤ maxLen) (hbytes : n + S.size ≤ 140737488355328) (hbase : base ≤ w0.heap.size)
    (h : ∀ v' w', w'.ownsRow base e 1 v' (n + S.size) (xs ++ Lib.strCells S) → Left w0 w' base v → wpList P ops Q rest (a.put o.dst v') w') : wpList P ops Q (o :: rest) a w0 := by
  obtain ⟨i, hi, hz, hz1, hz2⟩ := E.hi
  refine Lib.wpList_append_own_string _ hgd s x t u ho base e i E.ht hu hi hz hz1 hz2 v n xs hs hown S hx h63 hbytes hbase ?_
  intro v' w' hown' hg _
  exact h v' w' hown' (left_of hown hbase (fun row => World.grownBy.refl _ _) hg)
end
end Go.Proofs.Ytoghgjobfcnneaa
