/- Plain functions that say what the program's functions of values answer. Words for memory: a slice that reads as a list; what a call leaves. Contracts of small functions of numbers, bytes and values. Laws on single operations, for the walk: bytes to a text; append. Data in memory: what values, rows and structs read as; arguments opened. Laws on single operations, for the walk: append of a row that lies somewhere. Quiet calls: contracts that state 'w = w''. Regions that draw their order and make memory: what is carried from step to step. append of a row that may be nil. -/
import Derived.WalkKit
import Derived.Lib.Strings
import Derived.Deep.Draws
import Derived.Deep.AppendLies
import Derived.Maps.AppendAt
import Derived.Lib.Hide
import Derived.Test.YtnjjpblgcgikaaaDoorRows
import Derived.Laws.BytesArg
import Derived.Lib.AppendStr
import Derived.OwnWalk
import Derived.Laws.BitsAllLaws
import Derived.Laws.BitsLemmas
import Derived.ProofKit
import Derived.OpenShut
import Derived.ChangeOld
import Derived.ChangeArms
import Derived.Below
import Derived.Deep.Slices
import Derived.SizedLaws
import Derived.Laws.AppendOwnNone
import Derived.BigQuiet
import Derived.Handy
import Derived.Deep.QuietTactic
import Derived.Deep.LoopGhost
import Derived.Deep.RegionHeld3
namespace Go.Proofs.YtnjjpblgcgikaaaDoor
open Go.RowKit
/-- A value: its kind, its number, its text. -/
structure Vl where
  k : Int
  n : Int
  s : ByteArray
abbrev Vl.cells (v : Vl) : List Value := [.int .i64 v.k, .int .i64 v.n, .string v.s]
abbrev Vl.val (v : Vl) : Value := .agg #[.int .i64 v.k, .int .i64 v.n, .string v.s]
def Vl.zero : Vl := ⟨0, 0, .empty⟩
/-- may a byte stand between quotes? -/
def quotB (c : UInt8) : Bool := decide (32 ≤ (c.toNat : Int)) && decide ((c.toNat : Int) ≤ 126) && !((c.toNat : Int) == 39)
def quotS (s : ByteArray) : Bool := s.data.toList.all quotB && decide (s.size ≤ 20)
def isInt (n : Int) : Bool := decide (-999999999 ≤ n) && decide (n ≤ 999999999)
def emptyS (s : ByteArray) : Bool := s.toList.isEmpty
/-- is a value of a kind that there is right? -/
def Vl.fine (v : Vl) : Bool :=
  if v.k = 0 then (v.n == 0) && emptyS v.s
  else if v.k = 1 then isInt v.n && emptyS v.s
  else if v.k = 2 then (v.n == 0) && quotS v.s
  else (decide (0 ≤ v.n) && decide (v.n ≤ 1)) && emptyS v.s
/-- what is wrong with a value -/
def Vl.chk (v : Vl) : Int := if 0 ≤ v.k ∧ v.k ≤ 3 then (if v.fine = true then 0 else 3) else 7
/-- the first of some errors that is one -/
def firstErr : List Int → Int
  | [] => 0
  | e :: l => if e = 0 then firstErr l else e
theorem firstErr_hit (l : List Int) (k : Nat) (e : Int) (h : firstErr (l.take k) = 0) (hk : l[k]? = some e) (he : ¬ e = 0) : firstErr l = e := by
  induction l generalizing k with
  | nil => simp at hk
  | cons x l ih =>
    cases k with
    | zero => simp at hk; subst hk; simp [firstErr, he]
    | succ k =>
      simp only [List.take_succ_cons, firstErr] at h
      simp only [List.getElem?_cons_succ] at hk
      split at h
      · rename_i hx; simp [firstErr, hx, ih k h hk]
      · rename_i hx; exact absurd h hx
theorem firstErr_step (l : List Int) (k : Nat) (h : firstErr (l.take k) = 0) (hk : l[k]? = some 0) : firstErr (l.take (k + 1)) = 0 := by
  induction l generalizing k with
  | nil => simp at hk
  | cons x l ih =>
    cases k with
    | zero => simp at hk; subst hk; simp [firstErr]
    | succ k =>
      simp only [List.take_succ_cons, firstErr] at h ⊢
      simp only [List.getElem?_cons_succ] at hk
      split at h
      · rename_i hx; simp only [hx, if_true]; exact ih k h hk
      · rename_i hx; exact absurd h hx
/-- what is wrong with some values -/
def rightsE (vs : List Vl) : Int := if 5 < vs.length then 2 else firstErr (vs.map Vl.chk)
/-- are two values the same? -/
def Vl.same (a b : Vl) : Bool := (a.k == b.k) && (a.n == b.n) && (a.s.toList == b.s.toList)
theorem Vl.same_iff (a b : Vl) : a.same b = true ↔ a = b := by
  obtain ⟨k, n, s⟩ := a
  obtain ⟨k', n', s'⟩ := b
  simp only [Vl.same, Bool.and_eq_true, beq_iff_eq, Vl.mk.injEq, ByteArray.toList_eq, and_assoc]
  refine and_congr_right fun _ => and_congr_right fun _ => ⟨fun h => ?_, fun h => by rw [h]⟩
  obtain ⟨⟨l⟩⟩ := s
  obtain ⟨⟨l'⟩⟩ := s'
  simp only at h
  rw [h]
def le4 (x : Int) : List UInt8 := [UInt8.ofNat (x % 256).toNat, UInt8.ofNat (x / 256 % 256).toNat, UInt8.ofNat (x / 256 / 256 % 256).toNat, UInt8.ofNat (x / 256 / 256 / 256 % 256).toNat]
/-- a value's bytes -/
def Vl.enc (v : Vl) : List UInt8 :=
  UInt8.ofNat v.k.toNat :: (if v.k = 1 then le4 (v.n + 999999999) else if v.k = 2 then UInt8.ofNat v.s.size :: v.s.data.toList else if v.k = 3 then [UInt8.ofNat v.n.toNat] else [])
def encL (vs : List Vl) : List UInt8 := UInt8.ofNat vs.length :: vs.flatMap Vl.enc
/-- bytes as a string -/
def bs (l : List UInt8) : ByteArray := ⟨l.toArray⟩
theorem bs_size (l : List UInt8) : (bs l).size = l.length := by simp [bs, ByteArray.size]
theorem bs_data (l : List UInt8) : (bs l).data.toList = l := rfl
theorem bs_toList (l : List UInt8) : (bs l).toList = l := ByteArray.toList_mk l
theorem bs_append (l r : List UInt8) : bs l ++ bs r = bs (l ++ r) := ByteArray.mk_append_mk l r
theorem bs_of (s : ByteArray) : s = bs s.data.toList := rfl
theorem emptyS_eq (s : ByteArray) (h : emptyS s = true) : s = .empty := by
  rw [bs_of s]
  have : s.data.toList = [] := by simpa [emptyS, ByteArray.toList_eq] using h
  rw [this]; rfl
/-- values that are right, kind by kind -/
theorem Vl.right {v : Vl} (h : v.chk = 0) :
    v = ⟨0, 0, .empty⟩ ∨ (∃ n, v = ⟨1, n, .empty⟩ ∧ -999999999 ≤ n ∧ n ≤ 999999999) ∨ (∃ s, v = ⟨2, 0, s⟩ ∧ s.size ≤ 20 ∧ s.data.toList.all quotB = true) ∨ (∃ n, v = ⟨3, n, .empty⟩ ∧ 0 ≤ n ∧ n ≤ 1) := by
  obtain ⟨k, n, s⟩ := v
  simp only [Vl.chk] at h
  split at h
  · split at h
    · rename_i hk hf
      simp only [Vl.fine] at hf
      have h4 : k = 0 ∨ k = 1 ∨ k = 2 ∨ k = 3 := by omega
      rcases h4 with rfl | rfl | rfl | rfl
      · simp at hf; left; rw [emptyS_eq s hf.2, hf.1]
      · simp [isInt] at hf; right; left; exact ⟨n, by rw [emptyS_eq s hf.2], hf.1.1, hf.1.2⟩
      · simp [quotS] at hf; right; right; left; exact ⟨s, by rw [hf.1], by omega, by simpa using hf.2.1⟩
      · simp at hf; right; right; right; exact ⟨n, by rw [emptyS_eq s hf.2], hf.1.1, hf.1.2⟩
    · cases h
  · cases h
theorem flat_snoc {α : Type} (f : α → List UInt8) (l : List α) (k : Nat) (x : α) (h : l[k]? = some x) : (l.take (k + 1)).flatMap f = (l.take k).flatMap f ++ f x := by
  obtain ⟨hk, rfl⟩ := List.getElem?_eq_some_iff.1 h
  rw [List.take_succ_eq_append_getElem hk, List.flatMap_append]
  simp
/-- bytes as cells -/
def byteC (l : List UInt8) : List Value := l.map fun b => .int .u8 b.toNat
theorem byteC_append (l r : List UInt8) : byteC (l ++ r) = byteC l ++ byteC r := by simp [byteC]
theorem byteC_len (l : List UInt8) : (byteC l).length = l.length := by simp [byteC]
theorem byteC_le4 (x : Int) (h : 0 ≤ x) (h' : x < 4294967296) : byteC (le4 x) = [.int .u8 (x % 256), .int .u8 (x / 256 % 256), .int .u8 (x / 65536 % 256), .int .u8 (x / 16777216)] := by
  have g : ∀ y : Int, 0 ≤ y → y < 256 → ((UInt8.ofNat y.toNat).toNat : Int) = y := fun y h1 h2 => by
    rw [UInt8.toNat_ofNat']; omega
  simp only [byteC, le4, List.map_cons, List.map_nil]
  rw [g _ (by omega) (by omega), g _ (by omega) (by omega), g _ (by omega) (by omega), g _ (by omega) (by omega)]
  have e1 : x / 256 / 256 % 256 = x / 65536 % 256 := by omega
  have e2 : x / 256 / 256 / 256 % 256 = x / 16777216 := by omega
  rw [e1, e2]
theorem byteC_ofNat (n : Nat) (h : n < 256) : byteC [UInt8.ofNat n] = [.int .u8 n] := by
  simp only [byteC, List.map_cons, List.map_nil, UInt8.toNat_ofNat']
  rw [Nat.mod_eq_of_lt h]
theorem byteC_ofInt (n : Int) (h : 0 ≤ n) (h' : n < 256) : byteC [UInt8.ofNat n.toNat] = [.int .u8 n] := by
  rw [byteC_ofNat _ (by omega)]
  simp; omega
/-- A reader: what is left, and whether there were not enough. -/
def takeR (l : List UInt8) (sh : Bool) (n : Nat) : List UInt8 × List UInt8 × Bool := if l.length < n then ([], [], true) else (l.take n, l.drop n, sh)
def oneR (l : List UInt8) (sh : Bool) : Nat × List UInt8 × Bool :=
  match l with
  | [] => (0, [], true)
  | b :: r => (if sh then 0 else b.toNat, r, sh)
theorem extract_zero (S : ByteArray) (n : Nat) : S.extract 0 n = bs (S.data.toList.take n) := by
  rw [bs_of (S.extract 0 n), Lib.extract_data]
  simp
theorem extract_end (S : ByteArray) (n : Nat) : S.extract n S.size = bs (S.data.toList.drop n) := by
  rw [bs_of (S.extract n S.size), Lib.extract_data, List.take_of_length_le]
  simp
theorem oneR_len (l : List UInt8) (sh : Bool) : (oneR l sh).2.1.length ≤ l.length := by cases l <;> simp [oneR]
theorem oneR_lt (l : List UInt8) (sh : Bool) : (oneR l sh).1 < 256 := by
  cases l with
  | nil => simp [oneR]
  | cons b r => cases sh <;> simp [oneR]; exact b.toNat_lt
def num4 (l : List UInt8) (sh : Bool) : Nat × List UInt8 × Bool :=
  let a := oneR l sh
  let b := oneR a.2.1 a.2.2
  let c := oneR b.2.1 b.2.2
  let d := oneR c.2.1 c.2.2
  (a.1 + 256 * b.1 + 65536 * c.1 + 16777216 * d.1, d.2.1, d.2.2)
/-- one value of a reader -/
def valR (l : List UInt8) (sh : Bool) : Vl × List UInt8 × Bool :=
  let a := oneR l sh
  if a.1 = 0 then (⟨0, 0, .empty⟩, a.2.1, a.2.2)
  else if a.1 = 1 then (⟨1, ((num4 a.2.1 a.2.2).1 : Int) - 999999999, .empty⟩, (num4 a.2.1 a.2.2).2.1, (num4 a.2.1 a.2.2).2.2)
  else if a.1 = 2 then
    let b := oneR a.2.1 a.2.2
    let c := takeR b.2.1 b.2.2 b.1
    (⟨2, 0, bs c.1⟩, c.2.1, c.2.2)
  else if a.1 = 3 then
    let b := oneR a.2.1 a.2.2
    (⟨3, b.1, .empty⟩, b.2.1, b.2.2)
  else (⟨a.1, 0, .empty⟩, a.2.1, true)
/-- so many values of a reader, till there is not enough -/
def valsR : Nat → List UInt8 → Bool → List Vl × List UInt8 × Bool
  | 0, l, sh => ([], l, sh)
  | n + 1, l, sh => if sh = true then ([], l, sh) else ((valR l sh).1 :: (valsR n (valR l sh).2.1 (valR l sh).2.2).1, (valsR n (valR l sh).2.1 (valR l sh).2.2).2)
theorem takeR_len (l : List UInt8) (sh : Bool) (n : Nat) : (takeR l sh n).2.1.length ≤ l.length := by unfold takeR; split <;> simp
theorem num4_len (l : List UInt8) (sh : Bool) : (num4 l sh).2.1.length ≤ l.length := by
  unfold num4
  exact Nat.le_trans (oneR_len _ _) (Nat.le_trans (oneR_len _ _) (Nat.le_trans (oneR_len _ _) (oneR_len _ _)))
theorem valR_len (l : List UInt8) (sh : Bool) : (valR l sh).2.1.length ≤ l.length := by
  have h1 := oneR_len l sh
  unfold valR
  simp only
  split
  · exact h1
  split
  · exact Nat.le_trans (num4_len _ _) h1
  split
  · exact Nat.le_trans (takeR_len _ _ _) (Nat.le_trans (oneR_len _ _) h1)
  split
  · exact Nat.le_trans (oneR_len _ _) h1
  · exact h1
def cellsV (vs : List Vl) : List Value := vs.flatMap Vl.cells
theorem cellsV_snoc (vs : List Vl) (v : Vl) : cellsV (vs ++ [v]) = cellsV vs ++ v.cells := by simp [cellsV]
/-- what Decode answers -/
def decT (s : ByteArray) : List Vl × List UInt8 × Bool := valsR (oneR s.data.toList false).1 (oneR s.data.toList false).2.1 (oneR s.data.toList false).2.2
def decodeS (s : ByteArray) : List Vl × Int :=
  if (!(decT s).2.2 && (decT s).2.1.isEmpty) = true then (if rightsE (decT s).1 = 0 then ((decT s).1, 0) else ([], rightsE (decT s).1)) else ([], 1)
theorem valR_0 (k : UInt8) (r : List UInt8) (hk : k.toNat = 0) : valR (k :: r) false = (⟨0, 0, .empty⟩, r, false) := by simp [valR, oneR, hk]
theorem valR_1 (k a b c d : UInt8) (r : List UInt8) (hk : k.toNat = 1) : valR (k :: a :: b :: c :: d :: r) false = (⟨1, ((a.toNat + 256 * b.toNat + 65536 * c.toNat + 16777216 * d.toNat : Nat) : Int) - 999999999, .empty⟩, r, false) := by
  simp [valR, oneR, hk, num4]
theorem valR_2 (k n : UInt8) (r : List UInt8) (hk : k.toNat = 2) (hr : ¬ r.length < n.toNat) : valR (k :: n :: r) false = (⟨2, 0, bs (r.take n.toNat)⟩, r.drop n.toNat, false) := by simp [valR, oneR, hk, takeR, hr]
theorem valR_3 (k b : UInt8) (r : List UInt8) (hk : k.toNat = 3) : valR (k :: b :: r) false = (⟨3, b.toNat, .empty⟩, r, false) := by simp [valR, oneR, hk]
end Go.Proofs.YtnjjpblgcgikaaaDoor
namespace Go.Proofs.YtnjjpblgcgikaaaDoor
open Go.RowKit
theorem add_add' (a : Addr) (i j : Nat) : (a.add i).add j = a.add (i + j) := by
  unfold Addr.add
  by_cases hi : i = 0 <;> by_cases hj : j = 0 <;> simp [hi, hj, Nat.add_assoc]
/-- The slice at A (nil: none) of n elements of so many cells each holds the cells xs, below block B. -/
def Rd (w : World) (B size : Nat) (A : Option Addr) (n : Nat) (xs : List Value) : Prop :=
  xs.length = n * size ∧ (n = 0 ∨ ∃ b o, A = some ⟨b, o, none⟩ ∧ b < B ∧ ∀ j u, xs[j]? = some u → w.cell? ⟨b, o + j, none⟩ = some u)
section
variable {w w' : World} {B B' size n : Nat} {A : Option Addr} {xs : List Value}
theorem Rd.nil : Rd w B size A 0 [] := ⟨by simp, .inl rfl⟩
theorem Rd.keep (h : Rd w B size A n xs) (hk : ∀ p : Addr, p.block < B → w'.cell? p = w.cell? p) : Rd w' B size A n xs :=
  ⟨h.1, h.2.imp id fun ⟨b, o, e, hb, hc⟩ => ⟨b, o, e, hb, fun j u hu => (hk _ hb).trans (hc j u hu)⟩⟩
theorem Rd.more (h : Rd w B size A n xs) (hB : B ≤ B') : Rd w B' size A n xs := ⟨h.1, h.2.imp id fun ⟨b, o, e, hb, hc⟩ => ⟨b, o, e, by omega, hc⟩⟩
theorem Rd.below (h : Rd w B size A n xs) (hb : Below B w w') : Rd w' B size A n xs := h.keep fun _ hp => hb.cell hp
theorem Rd.at_ (h : Rd w B size A n xs) (hn : 0 < n) : ∃ b o, A = some ⟨b, o, none⟩ ∧ b < B ∧ ∀ j u, xs[j]? = some u → w.cell? ⟨b, o + j, none⟩ = some u := by
  rcases h.2 with h | h
  · omega
  · exact h
end
theorem below_two {w : World} (o : Obj) : Below w.heap.size w (w.alloc o) := (Below.refl _ _).alloc (Nat.le_refl _) o
/-- A list of values in memory. -/
def RdV (w : World) (B : Nat) (A : Option Addr) (n : Nat) (vs : List Vl) : Prop := Rd w B 3 A n (vs.flatMap Vl.cells)
theorem flat3_get {α : Type} (f : α → List Value) (hf : ∀ x, (f x).length = 3) (l : List α) (i j : Nat) (hj : j < 3) : (l.flatMap f)[3 * i + j]? = (l[i]?).bind fun x => (f x)[j]? := by
  induction l generalizing i with
  | nil => simp
  | cons x l ih =>
    rw [List.flatMap_cons]
    cases i with
    | zero => simp [List.getElem?_append, hf, hj]
    | succ i =>
      rw [List.getElem?_append_right (by rw [hf]; omega), hf, show 3 * (i + 1) + j - 3 = 3 * i + j by omega, ih i]
      simp
theorem RdV.len {w : World} {B n : Nat} {A : Option Addr} {vs : List Vl} (h : RdV w B A n vs) : vs.length = n := by
  have := h.1
  have e : (vs.flatMap Vl.cells).length = vs.length * 3 := by
    clear this h
    induction vs with
    | nil => rfl
    | cons x l ih => simp [List.flatMap_cons, Vl.cells] at *; omega
  omega
/-- Element k of a list of values: its three cells. -/
theorem RdV.at_ {w : World} {B n : Nat} {A : Option Addr} {vs : List Vl} (h : RdV w B A n vs) (k : Nat) (v : Vl) (hk : vs[k]? = some v) :
    ∃ b o, A = some ⟨b, o, none⟩ ∧ b < B ∧ w.cell? ⟨b, o + k * 3, none⟩ = some (.int .i64 v.k) ∧ w.cell? ⟨b, o + k * 3 + 1, none⟩ = some (.int .i64 v.n) ∧ w.cell? ⟨b, o + k * 3 + 2, none⟩ = some (.string v.s) := by
  have hl := h.len
  have hkn : k < n := by
    rw [← hl]
    rcases Nat.lt_or_ge k vs.length with h | h
    · exact h
    · rw [List.getElem?_eq_none h] at hk; cases hk
  obtain ⟨b, o, e, hb, hc⟩ := Rd.at_ h (by omega)
  have g := fun j (hj : j < 3) u (hu : (v.cells)[j]? = some u) => hc (3 * k + j) u (by rw [flat3_get _ (fun _ => rfl) _ _ _ hj, hk]; exact hu)
  have e3 : 3 * k = k * 3 := Nat.mul_comm _ _
  rw [e3] at g
  exact ⟨b, o, e, hb, g 0 (by omega) _ rfl, g 1 (by omega) _ rfl, g 2 (by omega) _ rfl⟩
/-- Block g is just these cells, none frozen. -/
def Blk (w : World) (g : Nat) (t : TypeId) (cs : Array Value) : Prop := w.heap[g]? = some (.cells cs t (0, 0))
section
variable {w w' : World} {g : Nat} {t : TypeId} {cs : Array Value}
theorem Blk.lt (h : Blk w g t cs) : g < w.heap.size := by
  rcases Nat.lt_or_ge g w.heap.size with hlt | hge
  · exact hlt
  · unfold Blk at h; rw [Array.getElem?_eq_none hge] at h; cases h
theorem Blk.cell (h : Blk w g t cs) (i : Nat) : w.cell? ⟨g, i, none⟩ = cs[i]? := cell_of_row w g i cs t (0, 0) h
theorem Blk.free (h : Blk w g t cs) (i : Nat) : w.frozen? ⟨g, i, none⟩ = false := frozen_of_row w g i cs t h
theorem Blk.fresh (w : World) (t : TypeId) (cs : Array Value) : Blk (w.alloc (.cells cs t)) w.heap.size t cs := heap_alloc_new w _
theorem Blk.alloc (h : Blk w g t cs) (o : Obj) : Blk (w.alloc o) g t cs := (Below.heap_alloc w o g h.lt).trans h
theorem Blk.put (h : Blk w g t cs) (i : Nat) (u : Value) : Blk (w.setCell ⟨g, i, none⟩ u) g t (cs.setIfInBounds i u) := heap_setCell_same w g i cs t u h
theorem Blk.far (h : Blk w g t cs) {p : Addr} (hp : g ≠ p.block) (u : Value) : Blk (w.setCell p u) g t cs := (Below.heap_setCell w p u g hp).trans h
theorem Blk.below {B : Nat} (h : Blk w g t cs) (hb : Below B w w') (hg : g < B) : Blk w' g t cs := (hb.block g hg).trans h
theorem Blk.turn (h : Blk w g t cs) {k : Nat} (hb : w.grownBy w' (some k)) (hg : g ≠ k) : Blk w' g t cs := (hb.block g h.lt (fun e => hg (by injection e))).trans h
end
theorem Blk.two {w : World} {g : Nat} {t : TypeId} {a b : Value} (h : Blk w g t #[a, b]) : w.cell? ⟨g, 0, none⟩ = some a ∧ w.cell? ⟨g, 1, none⟩ = some b ∧ w.frozen? ⟨g, 0, none⟩ = false ∧ w.frozen? ⟨g, 1, none⟩ = false ∧ g < w.heap.size :=
  ⟨h.cell 0, h.cell 1, h.free 0, h.free 1, h.lt⟩
theorem Blk.three {w : World} {g : Nat} {t : TypeId} {a b c : Value} (h : Blk w g t #[a, b, c]) : w.cell? ⟨g, 0, none⟩ = some a ∧ w.cell? ⟨g, 1, none⟩ = some b ∧ w.cell? ⟨g, 2, none⟩ = some c ∧
    w.frozen? ⟨g, 0, none⟩ = false ∧ w.frozen? ⟨g, 1, none⟩ = false ∧ w.frozen? ⟨g, 2, none⟩ = false ∧ g < w.heap.size :=
  ⟨h.cell 0, h.cell 1, h.cell 2, h.free 0, h.free 1, h.free 2, h.lt⟩
theorem turn_alloc {a w : World} {row : Option Nat} (h : a.grownBy w row) (o : Obj) : a.grownBy (w.alloc o) row :=
  ⟨h.os, h.tape, h.output, Nat.le_trans h.size (by simp), fun i hi hne => (Below.heap_alloc w o i (Nat.lt_of_lt_of_le hi h.size)).trans (h.block i hi hne)⟩
theorem turn_set {a w : World} {g : Nat} (h : a.grownBy w (some g)) {p : Addr} (hp : p.block = g ∨ a.heap.size ≤ p.block) (u : Value) : a.grownBy (w.setCell p u) (some g) :=
  ⟨h.os, h.tape, h.output, by simpa [World.setCell] using h.size, fun i hi hne => (Below.heap_setCell w p u i (by
    rintro rfl
    rcases hp with hp | hp
    · exact hne (by rw [hp])
    · omega)).trans (h.block i hi hne)⟩
theorem turn_put {a w : World} {g : Nat} (h : a.grownBy w (some g)) (i : Nat) (u : Value) : a.grownBy (w.setCell ⟨g, i, none⟩ u) (some g) := turn_set h (.inl rfl) u
theorem turn_past {w w' : World} {o : Obj} {row : Option Nat} (h : (w.alloc o).grownBy w' row) : w.grownBy w' row := (World.grownBy_alloc w o row).trans h
theorem below_drewN {B : Nat} {a w : World} (h : Below B a w) (n : Nat) : Below B a (w.drewN n) := ⟨h.os, h.tape, h.output, h.size, h.block⟩
theorem below_turn {B g : Nat} {a b w : World} (h : Below B a b) (hb : b.grownBy w (some g)) (hg : B ≤ g) (hB : B ≤ b.heap.size) : Below B a w := h.grown hb hB (fun k e => by injection e with e; omega)
end Go.Proofs.YtnjjpblgcgikaaaDoor
namespace Go.Proofs.YtnjjpblgcgikaaaDoor
open Go.RowKit
theorem within_any (n a b : Int) (w : World) :
    Calls Tryd.prog 49 #[.int .i64 n, .int .i64 a, .int .i64 b] w fun e w' => e = .returned (.bool (decide (a ≤ n) && decide (n ≤ b))) ∧ w = w' := by
  by_cases h1 : a ≤ n <;> by_cases h2 : n ≤ b
  all_goals
    go_enter Tryd.func49, Tryd.ntmps49
    go_wp2
    go_ret
    exact ⟨by simp [h1, h2], rfl⟩
theorem vint_any (n : Int) (w : World) :
    Calls Tryd.prog 47 #[.int .i64 n] w fun e w' => e = .returned (.bool (isInt n)) ∧ w = w' := by
  go_enter Tryd.func47, Tryd.ntmps47
  go_wp2_with (go_at_call 49; refine (within_any _ _ _ _).mono ?_; rintro e w' ⟨rfl, rfl⟩)
  go_ret
  exact ⟨rfl, rfl⟩
theorem tquot_any (c : UInt8) (w : World) :
    Calls Tryd.prog 62 #[.int .u8 c.toNat] w fun e w' => e = .returned (.bool (quotB c)) ∧ w = w' := by
  by_cases h1 : 32 ≤ (c.toNat : Int) <;> by_cases h2 : (c.toNat : Int) ≤ 126 <;> by_cases h3 : (c.toNat : Int) = 39
  all_goals
    try (exfalso; omega)
  all_goals
    have H3 := Lib.hid h3
    try have h4 : ((c.toNat : Int) != 39) = true := by simpa using h3
    try have h4 : ((c.toNat : Int) != 39) = false := by simpa using h3
    clear h3
    go_enter Tryd.func62, Tryd.ntmps62
    go_wp2
    go_ret
    exact ⟨by simp [quotB, h1, h2, H3.out], rfl⟩
theorem all_take_snoc (s : ByteArray) (k : Nat) (h : k < s.size) (hq : ((s.data.toList.take k).all quotB) = true) : ((s.data.toList.take (k + 1)).all quotB) = quotB s[k] := by
  have e : s.data.toList.take (k + 1) = s.data.toList.take k ++ [s[k]] := by
    rw [List.take_succ_eq_append_getElem (by simpa using h)]; rfl
  rw [e, List.all_append, hq]; simp
theorem all_false (s : ByteArray) (k : Nat) (h : k < s.size) (hq : quotB s[k] = false) : s.data.toList.all quotB = false := by
  rw [List.all_eq_false]
  exact ⟨s[k], by simp [ByteArray.getElem_eq_getElem_data, Array.getElem_mem], by simp [hq]⟩
theorem vquot_any (s : ByteArray) (w : World) (hs : s.size ≤ maxLen) :
    Calls Tryd.prog 48 #[.string s] w fun e w' => e = .returned (.bool (quotS s)) ∧ w = w' := by
  unfold maxLen at hs
  go_enter Tryd.func48, Tryd.ntmps48
  go_wp2
  go_loop [6] (fun i => ∃ k : Nat, k ≤ s.size ∧ ((s.data.toList.take k).all quotB) = true ∧ i = .int .i64 k) (fun i => s.size - (intOf i).toNat)
  case atStart => exact ⟨0, Nat.zero_le _, rfl, rfl⟩
  case round =>
    obtain ⟨k, hk, hq, rfl⟩ := hrel
    have HQ := Lib.hid hq
    clear hq
    by_cases hlt : k < s.size
    · by_cases hb : quotB s[k] = true
      · go_wp2_with (go_at_call 62; refine (tquot_any _ _).mono ?_; rintro e w' ⟨rfl, rfl⟩)
        go_round
        case rel => exact ⟨k + 1, by omega, by rw [all_take_snoc s k hlt HQ.out]; exact hb, by go_num⟩
        case measure => simp [intOf]; omega
      · have hb' : quotB s[k] = false := by simpa using hb
        clear hb
        go_wp2_with (go_at_call 62; refine (tquot_any _ _).mono ?_; rintro e w' ⟨rfl, rfl⟩)
        go_ret
        exact ⟨by simp [quotS, all_false s k hlt hb'], rfl⟩
    · go_wp2
      go_ret
      have e : s.data.toList.all quotB = true := by
        have := HQ.out; rwa [List.take_of_length_le (by simp; omega)] at this
      exact ⟨by simp only [quotS, e, Bool.true_and]; simp; omega, rfl⟩
set_option maxHeartbeats 1000000 in
theorem vcheck_any (v : Vl) (w : World) (hs : v.s.size ≤ maxLen) :
    Calls Tryd.prog 26 #[v.val] w fun e w' => e = .returned (.int .i64 v.chk) ∧ Below w.heap.size w w' := by
  obtain ⟨k, n, s⟩ := v
  dsimp only [Vl.val] at hs ⊢
  by_cases hk : k = 0 ∨ k = 1 ∨ k = 2 ∨ k = 3
  · rcases hk with rfl | rfl | rfl | rfl
    all_goals
      go_enter Tryd.func26, Tryd.ntmps26
      go_wp2_with (first | (go_at_call 49; refine (within_any _ _ _ _).mono ?_; rintro e w' ⟨rfl, rfl⟩) | (go_at_call 47; refine (vint_any _ _).mono ?_; rintro e w' ⟨rfl, rfl⟩) | (go_at_call 48; refine (vquot_any _ _ hs).mono ?_; rintro e w' ⟨rfl, rfl⟩))
    all_goals
      go_ret
      refine ⟨?_, below_two _⟩
      simp_all [Vl.chk, Vl.fine, emptyS]
      try omega
  · have h0 : ¬ k = 0 := by omega
    have h1 : ¬ k = 1 := by omega
    have h2 : ¬ k = 2 := by omega
    have h3 : ¬ k = 3 := by omega
    clear hk
    go_enter Tryd.func26, Tryd.ntmps26
    go_wp2
    go_ret
    exact ⟨by simp [Vl.chk]; omega, below_two _⟩
end Go.Proofs.YtnjjpblgcgikaaaDoor
namespace Go.Proofs.YtnjjpblgcgikaaaDoor
open Go.RowKit
attribute [go_sem] bs_size
@[go_sem] theorem wrap64_u8 (x : UInt8) : wrap64 (x.toNat : Int) = x.toNat := IntWalk.wrap64_in _ (by have := x.toNat_lt; omega)
theorem ofInt_nat (a : Nat) (ha : a < 9223372036854775808) : (BitVec.ofInt 64 (a : Int)).toNat = a := by
  rw [BitVec.ofInt_natCast, BitVec.toNat_ofNat]; exact Nat.mod_eq_of_lt (by omega)
theorem or_nat (a b : Nat) (ha : a < 9223372036854775808) (hb : b < 9223372036854775808) : bits .or .i64 (a : Int) (b : Int) = ((a ||| b : Nat) : Int) := by
  have hx : a ||| b < 2 ^ 63 := Nat.or_lt_two_pow (by omega) (by omega)
  show IntKind.i64.wrap ((BitVec.ofInt 64 (a : Int) ||| BitVec.ofInt 64 (b : Int)).toNat : Int) = _
  rw [BitVec.toNat_or, ofInt_nat a ha, ofInt_nat b hb, IntKind.wrap_i64]
  omega
/-- bits that lie apart are added by 'or' -/
theorem or_apart (i m a b : Nat) (hm : m = 2 ^ i) (hi : m ≤ 16777216) (ha : a < m) (hb : b < 256) : bits .or .i64 (a : Int) ((b : Int) * (m : Int)) = ((a + b * m : Nat) : Int) := by
  have hmm : b * m ≤ 256 * 16777216 := Nat.mul_le_mul (by omega) hi
  rw [← Int.natCast_mul, or_nat _ _ (by omega) (by omega)]
  congr 1
  rw [Nat.or_comm, hm, ← Nat.shiftLeft_eq, ← Nat.shiftLeft_add_eq_or_of_lt (by omega), Nat.add_comm]
theorem or4 (b0 b1 b2 b3 : Nat) (h0 : b0 < 256) (h1 : b1 < 256) (h2 : b2 < 256) (h3 : b3 < 256) :
    bits .or .i64 (bits .or .i64 (bits .or .i64 (bits .or .i64 0 (b0 : Int)) ((b1 : Int) * 256)) ((b2 : Int) * 65536)) ((b3 : Int) * 16777216) = ((b0 + 256 * b1 + 65536 * b2 + 16777216 * b3 : Nat) : Int) := by
  have e0 : bits .or .i64 0 (b0 : Int) = (b0 : Int) := by have := or_nat 0 b0 (by omega) (by omega); simpa using this
  have e1 := or_apart 8 256 b0 b1 (by decide) (by omega) (by omega) h1
  have e2 := or_apart 16 65536 (b0 + b1 * 256) b2 (by decide) (by omega) (by omega) h2
  have e3 := or_apart 24 16777216 (b0 + b1 * 256 + b2 * 65536) b3 (by decide) (by omega) (by omega) h3
  rw [e0]
  refine (congrArg (fun x => bits .or .i64 (bits .or .i64 x ((b2 : Int) * 65536)) ((b3 : Int) * 16777216)) e1).trans ?_
  refine (congrArg (fun x => bits .or .i64 x ((b3 : Int) * 16777216)) e2).trans ?_
  refine e3.trans ?_
  omega
section
variable {P : Program} {w : World} {ops : Array Oper} {rest : List Oper} {o : Oper} {a : Act} {Q : Exit → Act → World → Prop}
end
def conv1Else (P : Program) (src dst : TypeId) (b c : Nat) (W : World) : Result Value := (convert src dst (.slice (some ⟨b, 0, none⟩) 1 c)).run P W
/-- the text of one byte, if there is one -/
def conv1K (els : Result Value) (W : World) : Option Value → Result Value
  | some (.int .u8 n) => .ok (.string (bs [UInt8.ofNat n.toNat])) W
  | _ => els
@[go_sem] theorem conv1K_some (els : Result Value) (W : World) (n : Int) : conv1K els W (some (.int .u8 n)) = .ok (.string (bs [UInt8.ofNat n.toNat])) W := rfl
theorem conv1_eq {P : Program} (src dst e : TypeId) (hs : P.underlying src = some (.slice e)) (he : P.underlying e = some (.int .u8)) (hd : P.underlying dst = some .string) (W : World) (b c : Nat) :
    (convert src dst (.slice (some ⟨b, 0, none⟩) 1 c)).run P W = conv1K (conv1Else P src dst b c W) W (W.cell? ⟨b, 0, none⟩) := by
  rcases h : W.cell? ⟨b, 0, none⟩ with _ | v
  · rfl
  · cases v with
    | int k n =>
      cases k
      case u8 =>
        rw [run_convert_bytes_arg (P := P) W src e hs he b 0 1 c [n] rfl (fun i hi => by obtain rfl : i = 0 := by omega
                                                                                         simpa using h) dst hd]
        rfl
      all_goals rfl
    | _ => rfl
@[go_sem] theorem conv1 (W : World) (b c : Nat) : (convert 82 9 (.slice (some ⟨b, 0, none⟩) 1 c)).run Tryd.prog W = conv1K (conv1Else Tryd.prog 82 9 b c W) W (W.cell? ⟨b, 0, none⟩) :=
  conv1_eq _ _ _ Tryd.underlying82 Tryd.underlying5 Tryd.underlying9 W b c
/-- What is known of a slice type's element type. -/
structure ElT (P : Program) (t e : TypeId) (z : Value) (size bytes : Nat) : Prop where
  ht : P.underlying t = some (.slice e)
  hi : ∃ i, P.info? e = some i ∧ i.zero = some z ∧ i.size = size ∧ i.bytes = bytes
  hzs : z.cells.size = size
  hsz : 0 < size
theorem elT_mk {P : Program} {t e : TypeId} {z : Value} {size bytes : Nat} (ht : P.underlying t = some (.slice e)) (h : (P.info? e).map (fun i => (i.zero, i.size, i.bytes)) = some (some z, size, bytes)) (hzs : z.cells.size = size) (hsz : 0 < size) : ElT P t e z size bytes :=
  ⟨ht, by obtain ⟨i, h1, h2, h3, h4⟩ := info_parts h; exact ⟨i, h1, h2, h3, h4⟩, hzs, hsz⟩
/-- what an append leaves of all that is not the row itself -/
structure Left (w0 w' : World) (base : Nat) (v : Value) : Prop where
  below : Below base w0 w'
  far : ∀ p : Addr, p.block < w0.heap.size → v.ownBlock ≠ some p.block → w'.cell? p = w0.cell? p
  farz : ∀ p : Addr, p.block < w0.heap.size → v.ownBlock ≠ some p.block → w'.frozen? p = w0.frozen? p
  blk : ∀ g, g < w0.heap.size → v.ownBlock ≠ some g → w'.heap[g]? = w0.heap[g]?
theorem Left.new {w0 w1 : World} {base : Nat} {v : Value} {cs : Array Value} {t : TypeId} (h : Left (w0.alloc (.cells cs t)) w1 base v) (hne : v.ownBlock ≠ some w0.heap.size) (j : Nat) : w1.cell? ⟨w0.heap.size, j, none⟩ = cs[j]? :=
  (h.far ⟨w0.heap.size, j, none⟩ (by simp) hne).trans (cell_of_row _ _ _ _ _ _ (heap_alloc_new w0 _))
theorem own_ne {w : World} {base : Nat} {e : TypeId} {size n : Nat} {v : Value} {xs : List Value} (h : w.ownsRow base e size v n xs) {g : Nat} (hg : w.heap.size ≤ g) : v.ownBlock ≠ some g := fun he => by
  have := (h.lt _ he).2; omega
theorem own_conv {w : World} {base : Nat} {e : TypeId} {v : Value} {n : Nat} {xs : List Value} (h : w.ownsRow base e 1 v n xs) (L : List UInt8) (hx : xs = byteC L) : w.ownsRow base e 1 v L.length (byteC L) := by
  subst hx
  have hn : L.length = n := by have := h.1; rw [byteC_len] at this; omega
  rw [hn]
  exact h
theorem at_ne {w : World} {base : Nat} {e : TypeId} {size n N : Nat} {v v' : Value} {xs : List Value} (h : w.ownsRow base e size v n xs) (ha : v'.ownBlock = v.ownBlock ∨ v'.ownBlock = some N) (hN : w.heap.size < N) : v'.ownBlock ≠ some w.heap.size := by
  rcases ha with ha | ha <;> rw [ha]
  · exact own_ne h (Nat.le_refl _)
  · intro e; injection e with e; omega
theorem strOfNums_bytes (L : List UInt8) : strOfNums (L.map fun b => (b.toNat : Int)) = bs L := by
  simp only [strOfNums, bs, List.map_map]
  congr 2
  have : (fun n : Int => UInt8.ofNat n.toNat) ∘ (fun b : UInt8 => (b.toNat : Int)) = id := by funext b; simp
  rw [this, List.map_id]
/-- a row of the call's own reads as a list -/
theorem rd_of_own {w : World} {base : Nat} {e : TypeId} {size n : Nat} {v : Value} {xs : List Value} (h : w.ownsRow base e size v n xs) : ∃ A c, v = .slice A n c ∧ Rd w w.heap.size size A n xs ∧ n ≤ maxLen := by
  rcases h.2 with ⟨rfl, rfl⟩ | ⟨g, cap, cur, rfl, _, hh, hnc, hcm, hcs, ht⟩
  · exact ⟨none, 0, rfl, ⟨h.1, .inl rfl⟩, Nat.zero_le _⟩
  · refine ⟨_, _, rfl, ⟨h.1, .inr ⟨g, 0, rfl, Blk.lt (t := e) (cs := cur) hh, fun j u hu => ?_⟩⟩, Nat.le_trans hnc hcm⟩
    rw [Nat.zero_add, cell_of_row w g j cur e (0, 0) hh]
    rw [← ht, List.getElem?_take] at hu
    split at hu
    · simpa using hu
    · cases hu
theorem own_below {w w' : World} {base : Nat} {e : TypeId} {size n : Nat} {v : Value} {xs : List Value} (h : w.ownsRow base e size v n xs) (hb : Below w.heap.size w w') : w'.ownsRow base e size v n xs := by
  have hg : w.grownBy w' none := ⟨hb.os, hb.tape, hb.output, hb.size, fun k hk _ => hb.block k hk⟩
  refine h.kept hg ?_
  rcases hv : v.ownBlock with _ | g
  · exact .inl rfl
  · exact .inr (by simp)
theorem left_of {w0 w1 w' : World} {base : Nat} {e : TypeId} {size n : Nat} {v : Value} {xs : List Value} (hown : w0.ownsRow base e size v n xs) (hbase : base ≤ w0.heap.size)
    (h0 : ∀ row, w0.grownBy w1 row) (hg : w1.grownBy w' v.ownBlock) : Left w0 w' base v := by
  have hgg := (h0 v.ownBlock).trans hg
  have hb := hown.lt
  refine ⟨(Below.refl _ _).grown hgg hbase (fun k hk => (hb k hk).1), fun p hp hne => World.cell?_of_block (hgg.block _ hp (fun e => hne e.symm)), fun p hp hne => World.frozen?_of_block (hgg.block _ hp (fun e => hne e.symm)), fun g hp hne => hgg.block _ hp (fun e => hne e.symm)⟩
section
variable {P : Program} {w0 : World} {ops : Array Oper} {rest : List Oper} {o : Oper} {a : Act} {Q : Exit → Act → World → Prop}
/-- 'append(out, x, ..)' onto a row of the call's own: what is appended lies in a block that was just laid -/
theorem wpList_app (hgd : o.guard = none) (s x : Operand) {t e : TypeId} {z : Value} {size bytes : Nat} (E : ElT P t e z size bytes)
    (ho : o.op = .call { callee := .builtin .append, args := #[s, x], argTypes := #[t, t] })
    {base : Nat} {v : Value} {n : Nat} {xs : List Value} (hown : w0.ownsRow base e size v n xs) (hs : a.eval s = v)
    {cs : List Value} {te : TypeId} {g m c : Nat} (hx : a.eval x = .slice (some ⟨g, 0, none⟩) m c) (hg : g = w0.heap.size) (hl : cs.length = m * size) (h1 : (cs.all fun u => u.oneCell') = true)
    (h63 : n + m ≤ maxLen) (hbytes : (n + m) * bytes ≤ 140737488355328) (hbase : base ≤ w0.heap.size)
    (h : ∀ v' w', w'.ownsRow base e size v' (n + m) (xs ++ cs) → Left w0 w' base v → (v'.ownBlock = v.ownBlock ∨ v'.ownBlock = some (w0.heap.size + 1)) → wpList P ops Q rest (a.put o.dst v') w') : wpList P ops Q (o :: rest) a (w0.alloc (.cells cs.toArray te)) := by
  obtain ⟨i, hi, hz, hz1, hz2⟩ := E.hi
  subst hg
  have hnb : (w0.alloc (.cells cs.toArray te)).heap[w0.heap.size]? = some (.cells cs.toArray te (0, 0)) := heap_alloc_new w0 _
  refine wpList_append_own_at _ hgd s x t ho base e i z size bytes E.ht hi hz hz1 hz2 E.hzs E.hsz v n xs hs (hown.alloc _) ⟨w0.heap.size, 0, none⟩ m c cs hx hl ?_ (by simpa using h1) h63 hbytes (by simp; omega) ?_
  · intro j u hj
    have := World.news_of_block hnb j u (by simpa using hj)
    exact this
  · intro v' w' hown' hg _ hat
    exact h v' w' hown' (left_of hown hbase (fun row => World.grownBy_alloc _ _ _) hg) (by simpa using hat)
/-- 'append(out, s...)', s a text -/
theorem wpList_appS (hgd : o.guard = none) (s x : Operand) {t u e : TypeId} (E : ElT P t e (.int .u8 0) 1 1) (hu : P.underlying u = some .string)
    (ho : o.op = .call { callee := .builtin .append, args := #[s, x], argTypes := #[t, u] })
    {base : Nat} {v : Value} {n : Nat} {xs : List Value} (hown : w0.ownsRow base e 1 v n xs) (hs : a.eval s = v) {S : ByteArray} (hx : a.eval x = .string S)
    (h63 : n + S.size ≤ maxLen) (hbytes : n + S.size ≤ 140737488355328) (hbase : base ≤ w0.heap.size)
    (h : ∀ v' w', w'.ownsRow base e 1 v' (n + S.size) (xs ++ Lib.strCells S) → Left w0 w' base v → wpList P ops Q rest (a.put o.dst v') w') : wpList P ops Q (o :: rest) a w0 := by
  obtain ⟨i, hi, hz, hz1, hz2⟩ := E.hi
  refine Lib.wpList_append_own_string _ hgd s x t u ho base e i E.ht hu hi hz hz1 hz2 v n xs hs hown S hx h63 hbytes hbase ?_
  intro v' w' hown' hg _
  exact h v' w' hown' (left_of hown hbase (fun row => World.grownBy.refl _ _) hg)
end
end Go.Proofs.YtnjjpblgcgikaaaDoor
namespace Go.Proofs.YtnjjpblgcgikaaaDoor
open Go.RowKit Go.Deep
/-- How a datum of a type reads, out of its cells, below a block. -/
structure Rep (α : Type) where
  size : Nat
  R : World → Nat → Nat → α → List Value → Prop
  len : ∀ {w : World} {L B : Nat} {x : α} {cs : List Value}, R w L B x cs → cs.length = size
  keep : ∀ {w w' : World} {L B : Nat} {x : α} {cs : List Value}, R w L B x cs → (∀ p : Addr, L ≤ p.block → p.block < B → w'.cell? p = w.cell? p) → R w' L B x cs
  more : ∀ {w : World} {L L' B B' : Nat} {x : α} {cs : List Value}, R w L B x cs → L' ≤ L → B ≤ B' → R w L' B' x cs
  one : ∀ {w : World} {L B : Nat} {x : α} {cs : List Value}, R w L B x cs → (cs.all fun u => u.oneCell') = true
/-- A row of n data at A (nil: none). -/
def Rep.row {α : Type} (ρ : Rep α) (w : World) (L B : Nat) (A : Option Addr) (n : Nat) (l : List α) : Prop :=
  l.length = n ∧ (n = 0 ∨ ∃ b o, A = some ⟨b, o, none⟩ ∧ (L ≤ b ∧ b < B) ∧ ∀ k x, l[k]? = some x → ∃ cs, ρ.R w L B x cs ∧ ∀ j u, cs[j]? = some u → w.cell? ⟨b, o + k * ρ.size + j, none⟩ = some u)
section
variable {α β : Type} {ρ : Rep α} {σ : Rep β} {w w' : World} {L L' B B' n : Nat} {A : Option Addr} {l : List α} {x : α} {cs : List Value}
theorem Rep.below (h : ρ.R w L B x cs) (hb : Below B w w') : ρ.R w' L B x cs := ρ.keep h fun _ _ hp => hb.cell hp
theorem Rep.row.nil : ρ.row w L B A 0 [] := ⟨rfl, .inl rfl⟩
theorem Rep.row.keep (h : ρ.row w L B A n l) (hk : ∀ p : Addr, L ≤ p.block → p.block < B → w'.cell? p = w.cell? p) : ρ.row w' L B A n l :=
  ⟨h.1, h.2.imp id fun ⟨b, o, e, hb, hc⟩ => ⟨b, o, e, hb, fun k x hx => by
    obtain ⟨cs, h1, h2⟩ := hc k x hx
    exact ⟨cs, ρ.keep h1 hk, fun j u hu => (hk _ hb.1 hb.2).trans (h2 j u hu)⟩⟩⟩
theorem Rep.row.wide (h : ρ.row w L B A n l) (hL : L' ≤ L) (hB : B ≤ B') : ρ.row w L' B' A n l :=
  ⟨h.1, h.2.imp id fun ⟨b, o, e, hb, hc⟩ => ⟨b, o, e, by omega, fun k x hx => by
    obtain ⟨cs, h1, h2⟩ := hc k x hx
    exact ⟨cs, ρ.more h1 hL hB, h2⟩⟩⟩
theorem Rep.row.more (h : ρ.row w L B A n l) (hB : B ≤ B') : ρ.row w L B' A n l := h.wide (Nat.le_refl _) hB
/-- a store to a block below -/
theorem Rep.row.put (h : ρ.row w L B A n l) {p : Addr} (hp : p.block < L) (u : Value) : ρ.row (w.setCell p u) L B A n l :=
  h.keep fun q hq _ => World.cell?_of_block (Below.heap_setCell _ _ _ _ (by omega))
theorem Rep.row.below (h : ρ.row w L B A n l) (hb : Below B w w') : ρ.row w' L B A n l := h.keep fun _ _ hp => hb.cell hp
/-- a row at a world's end, some steps later -/
theorem Rep.row.on (h : ρ.row w L w.heap.size A n l) (hb : Below w.heap.size w w') : ρ.row w' L w'.heap.size A n l := (h.below hb).more hb.size
theorem Rep.row.at_ (h : ρ.row w L B A n l) (k : Nat) (hk : l[k]? = some x) : ∃ b o cs, A = some ⟨b, o, none⟩ ∧ (L ≤ b ∧ b < B) ∧ ρ.R w L B x cs ∧ ∀ j u, cs[j]? = some u → w.cell? ⟨b, o + k * ρ.size + j, none⟩ = some u := by
  have hl := h.1
  have hkn : k < n := by
    rw [← hl]
    rcases Nat.lt_or_ge k l.length with h | h
    · exact h
    · rw [List.getElem?_eq_none h] at hk; cases hk
  rcases h.2 with h | ⟨b, o, e, hb, hc⟩
  · omega
  · obtain ⟨cs, h1, h2⟩ := hc k x hk
    exact ⟨b, o, cs, e, hb, h1, h2⟩
/-- a part of a row -/
theorem Rep.row.part (h : ρ.row w L B A n l) (i j : Nat) (hij : i ≤ j) (hj : j ≤ n) : ρ.row w L B (A.map fun a => ⟨a.block, a.off + i * ρ.size, a.spot⟩) (j - i) ((l.drop i).take (j - i)) := by
  refine ⟨by rw [List.length_take, List.length_drop, h.1]; omega, ?_⟩
  rcases h.2 with h0 | ⟨b, o, rfl, hb, hc⟩
  · exact .inl (by omega)
  · refine .inr ⟨b, o + i * ρ.size, rfl, hb, fun k x hx => ?_⟩
    rw [List.getElem?_take] at hx
    split at hx
    · rw [List.getElem?_drop] at hx
      obtain ⟨cs, h1, h2⟩ := hc _ x hx
      refine ⟨cs, h1, fun m u hu => ?_⟩
      have := h2 m u hu
      rw [Nat.add_mul] at this
      rw [← this]
      congr 2
      omega
    · cases hx
end
def Rep.flat {α : Type} (f : α → List Value) (n : Nat) (h : ∀ x, (f x).length = n) (h1 : ∀ x, ((f x).all fun u => u.oneCell') = true) : Rep α :=
  { size := n, R := fun _ _ _ x cs => cs = f x, len := fun e => by rw [e, h], keep := fun e _ => e, more := fun e _ _ => e, one := fun e => by rw [e, h1] }
def Rep.slice {α : Type} (ρ : Rep α) : Rep (List α) :=
  { size := 1, R := fun w L B l cs => ∃ A n c, cs = [.slice A n c] ∧ ρ.row w L B A n l, len := fun ⟨_, _, _, e, _⟩ => by rw [e]; rfl,
    keep := fun ⟨A, n, c, e, h⟩ hk => ⟨A, n, c, e, h.keep hk⟩, more := fun ⟨A, n, c, e, h⟩ hL hB => ⟨A, n, c, e, h.wide hL hB⟩, one := fun ⟨_, _, _, e, _⟩ => by rw [e]; rfl }
def Rep.and {α β : Type} (ρ : Rep α) (σ : Rep β) : Rep (α × β) :=
  { size := ρ.size + σ.size, R := fun w L B x cs => ∃ a b, cs = a ++ b ∧ ρ.R w L B x.1 a ∧ σ.R w L B x.2 b,
    len := fun ⟨a, b, e, h1, h2⟩ => by rw [e, List.length_append, ρ.len h1, σ.len h2],
    keep := fun ⟨a, b, e, h1, h2⟩ hk => ⟨a, b, e, ρ.keep h1 hk, σ.keep h2 hk⟩, more := fun ⟨a, b, e, h1, h2⟩ hL hB => ⟨a, b, e, ρ.more h1 hL hB, σ.more h2 hL hB⟩,
    one := fun ⟨a, b, e, h1, h2⟩ => by rw [e, List.all_append, ρ.one h1, σ.one h2]; rfl }
def Rep.by {α β : Type} (ρ : Rep β) (f : α → β) : Rep α :=
  { size := ρ.size, R := fun w L B x cs => ρ.R w L B (f x) cs, len := fun h => ρ.len h, keep := fun h hk => ρ.keep h hk, more := fun h hL hB => ρ.more h hL hB, one := fun h => ρ.one h }
def repInt : Rep Int := Rep.flat (fun n => [.int .i64 n]) 1 (fun _ => rfl) fun _ => rfl
def repStr : Rep ByteArray := Rep.flat (fun s => [.string s]) 1 (fun _ => rfl) fun _ => rfl
def repBool : Rep Bool := Rep.flat (fun b => [.bool b]) 1 (fun _ => rfl) fun _ => rfl
/-- cells of data in a row -/
inductive RepAll {α : Type} (ρ : Rep α) (w : World) (L B : Nat) : List α → List Value → Prop
  | nil : RepAll ρ w L B [] []
  | cons {x : α} {l : List α} {a b : List Value} : ρ.R w L B x a → RepAll ρ w L B l b → RepAll ρ w L B (x :: l) (a ++ b)
section
variable {α : Type} {ρ : Rep α} {w w' : World} {L L' B B' : Nat} {l r : List α} {cs ds : List Value}
theorem RepAll.len (h : RepAll ρ w L B l cs) : cs.length = l.length * ρ.size := by
  induction h with
  | nil => simp
  | cons h1 _ ih => rw [List.length_append, ρ.len h1, ih, List.length_cons, Nat.succ_mul]; omega
theorem RepAll.append (h : RepAll ρ w L B l cs) (h' : RepAll ρ w L B r ds) : RepAll ρ w L B (l ++ r) (cs ++ ds) := by
  induction h with
  | nil => exact h'
  | cons h1 _ ih => rw [List.cons_append, List.append_assoc]; exact .cons h1 ih
theorem RepAll.keep (h : RepAll ρ w L B l cs) (hk : ∀ p : Addr, L ≤ p.block → p.block < B → w'.cell? p = w.cell? p) : RepAll ρ w' L B l cs := by
  induction h with
  | nil => exact .nil
  | cons h1 _ ih => exact .cons (ρ.keep h1 hk) ih
theorem RepAll.more (h : RepAll ρ w L B l cs) (hL : L' ≤ L) (hB : B ≤ B') : RepAll ρ w L' B' l cs := by
  induction h with
  | nil => exact .nil
  | cons h1 _ ih => exact .cons (ρ.more h1 hL hB) ih
theorem RepAll.at_ (h : RepAll ρ w L B l cs) (k : Nat) (x : α) (hx : l[k]? = some x) : ∃ a, ρ.R w L B x a ∧ ∀ j u, a[j]? = some u → cs[k * ρ.size + j]? = some u := by
  induction h generalizing k with
  | nil => simp at hx
  | @cons y l a b h1 h2 ih =>
    cases k with
    | zero =>
      simp at hx
      subst hx
      refine ⟨a, h1, fun j u hu => ?_⟩
      rw [Nat.zero_mul, Nat.zero_add, List.getElem?_append_left (by
        rcases Nat.lt_or_ge j a.length with h | h
        · exact h
        · rw [List.getElem?_eq_none h] at hu; cases hu)]
      exact hu
    | succ k =>
      obtain ⟨a', h3, h4⟩ := ih k (by simpa using hx)
      refine ⟨a', h3, fun j u hu => ?_⟩
      rw [Nat.succ_mul, List.getElem?_append_right (by rw [ρ.len h1]; omega), ρ.len h1, show k * ρ.size + ρ.size + j - ρ.size = k * ρ.size + j by omega]
      exact h4 j u hu
theorem RepAll.flat {α : Type} {f : α → List Value} {n : Nat} {h : ∀ x, (f x).length = n} {h1 : ∀ x, ((f x).all fun u => u.oneCell') = true} {w : World} {L B : Nat} (l : List α) : RepAll (Rep.flat f n h h1) w L B l (l.flatMap f) := by
  induction l with
  | nil => exact .nil
  | cons x l ih => rw [List.flatMap_cons]; exact .cons rfl ih
theorem RepAll.one (h : RepAll ρ w L B l cs) : (cs.all fun u => u.oneCell') = true := by
  induction h with
  | nil => rfl
  | cons h1 _ ih => rw [List.all_append, ρ.one h1, ih]; rfl
/-- a row of the call's own reads as a list -/
theorem Rep.row.of_own {base : Nat} {e : TypeId} {n : Nat} {v : Value} (h : w.ownsRow base e ρ.size v n cs) (hr : RepAll ρ w L w.heap.size l cs) (hL : L ≤ base) (hs : 0 < ρ.size) : ∃ A c, v = .slice A n c ∧ ρ.row w L w.heap.size A n l ∧ n ≤ maxLen ∧ n ≤ c := by
  have hl : l.length = n := by
    have h1 := h.1
    rw [hr.len] at h1
    exact Nat.eq_of_mul_eq_mul_right hs h1
  rcases h.2 with ⟨rfl, rfl⟩ | ⟨g, cap, cur, rfl, hbg, hh, hnc, hcm, hcs, ht⟩
  · exact ⟨none, 0, rfl, ⟨hl, .inl rfl⟩, Nat.zero_le _, Nat.le_refl _⟩
  · refine ⟨_, _, rfl, ⟨hl, .inr ⟨g, 0, rfl, ⟨Nat.le_trans hL hbg, Blk.lt (t := e) (cs := cur) hh⟩, fun k x hx => ?_⟩⟩, Nat.le_trans hnc hcm, hnc⟩
    obtain ⟨a, h1, h2⟩ := hr.at_ k x hx
    refine ⟨a, h1, fun j u hu => ?_⟩
    have hu2 := h2 j u hu
    rw [Nat.zero_add, cell_of_row w g _ cur e (0, 0) hh]
    rw [← ht, List.getElem?_take] at hu2
    split at hu2
    · simpa using hu2
    · cases hu2
end
/-- Arguments of a type read as data that are good. -/
structure Opens {α : Type} (P : Program) (N : Nat) (ρ : Rep α) (t : TypeId) (good : α → Prop) : Prop where
  cells : P.cellsOf t = ρ.size
  opens : ∀ {H : Type} {enc : TypeId × Value → H} {w : World} {base : Nat} {spare : Nat → Bool} {held : Bool} {fuel : Nat} {cs : List Value} {x : DataW H × List MemPlace},
    fuel ≤ N → DataW.trod enc P w base spare held fuel t cs = some x → (DataW.weights P t x.1).all (· ≤ reachBytes) = true → ∃ y, ρ.R w 0 w.heap.size y cs ∧ good y
section
variable {P : Program} {N : Nat} {t : TypeId}
theorem Opens.int (hu : P.underlying t = some (.int .i64)) (hc : P.cellsOf t = 1) : Opens P N repInt t fun n => -9223372036854775808 ≤ n ∧ n ≤ 9223372036854775807 where
  cells := hc
  opens _ h _ := by
    obtain ⟨n, rfl, _, hw⟩ := DataW.trod_int hu h
    refine ⟨n, rfl, ?_⟩
    simp only [Lit.wf, Bool.and_eq_true, decide_eq_true_eq] at hw
    exact hw
theorem Opens.str (hu : P.underlying t = some .string) (hc : P.cellsOf t = 1) : Opens P N repStr t fun s => s.size ≤ 140737488351232 where
  cells := hc
  opens _ h hw := by
    obtain ⟨s, rfl, hx, hs⟩ := DataW.trod_string hu h
    refine ⟨s, rfl, ?_⟩
    rw [hx] at hw
    simp only [DataW.weights, List.all_cons, List.all_nil, Bool.and_true, Array.length_toList] at hw
    exact of_decide_eq_true hw
theorem Opens.bool (hu : P.underlying t = some .bool) (hc : P.cellsOf t = 1) : Opens P N repBool t fun _ => True where
  cells := hc
  opens _ h _ := by
    obtain ⟨b, rfl, _⟩ := DataW.trod_bool hu h
    exact ⟨b, rfl, trivial⟩
theorem weightsAll_mem {H : Type} {e : TypeId} {l : List (DataW H)} {d : DataW H} (hd : d ∈ l) (h : (DataW.weightsAll P e l).all (· ≤ reachBytes) = true) : (DataW.weights P e d).all (· ≤ reachBytes) = true := by
  induction l with
  | nil => cases hd
  | cons y l ih =>
    rw [DataW.weightsAll, List.all_append, Bool.and_eq_true] at h
    cases hd with
    | head => exact h.1
    | tail _ hd => exact ih hd h.2
theorem Opens.slice {α : Type} {ρ : Rep α} {e : TypeId} {good : α → Prop} {by_ : Nat} (hu : P.underlying t = some (.slice e)) (hc : P.cellsOf t = 1) (hb : P.bytesOf e = by_) (hs : 0 < ρ.size) (O : ∀ M, M < N → Opens P M ρ e good) (hce : P.cellsOf e = ρ.size) :
    Opens P N ρ.slice t fun l => l.length * by_ ≤ 140737488351232 ∧ l.length ≤ maxLen ∧ ∀ x ∈ l, good x where
  cells := hc
  opens := by
    intro H enc w base spare held fuel cs x hN h hw
    have hlt := DataW.trod_lt fuel t cs x h
    rcases DataW.trod_slice hu h with ⟨rfl, _⟩ | ⟨a, len, cap, elems, rest, m, rfl, rfl, hx, hba, hl, hm, hlen, hel, _, _⟩
    · exact ⟨[], ⟨none, 0, 0, rfl, Rep.row.nil⟩, by simp [maxLen]⟩
    · have O' := O m (by omega)
      rw [hx] at hw
      simp only [DataW.weights, hu, List.all_cons, List.all_append, Bool.and_eq_true, hb, List.length_map] at hw
      obtain ⟨hw1', hw2, _⟩ := hw
      have hw1 : (elems.length + rest.length) * by_ ≤ 140737488351232 := of_decide_eq_true hw1'
      clear hw1'
      have hv : ∀ i, i < len → ∃ y : α, (∃ cs', ρ.R w 0 w.heap.size y cs' ∧ ∀ j u, cs'[j]? = some u → w.cell? (a.add (i * ρ.size + j)) = some u) ∧ good y := fun i hi => by
        have h1 := hel i hi
        rw [List.getElem?_eq_getElem (by omega)] at h1
        obtain ⟨cs', h2, h3⟩ := Option.bind_eq_some_iff.1 h1
        obtain ⟨y, h4, h5⟩ := O'.opens (Nat.le_refl _) h3 (weightsAll_mem (List.mem_map.2 ⟨_, List.getElem_mem _, rfl⟩) hw2)
        obtain ⟨_, hl', hg⟩ := World.cells?_some h2
        rw [hce] at hl' hg
        exact ⟨y, ⟨cs', h4, fun j u hu => by
          have hj : j < ρ.size := by
            rw [← hl']
            rcases Nat.lt_or_ge j cs'.length with h | h
            · exact h
            · rw [List.getElem?_eq_none h] at hu; cases hu
          rw [← add_add', hg j hj, hu]⟩, h5⟩
      rcases Nat.eq_zero_or_pos len with h0 | h0
      · subst h0
        exact ⟨[], ⟨some a, 0, cap, rfl, Rep.row.nil⟩, by simp [maxLen]⟩
      · obtain ⟨y0, ⟨cs0, hr0, hc0⟩, _⟩ := hv 0 h0
        have hl0 := ρ.len hr0
        have hsp : a.spot = none := by
          have := hc0 0 _ (List.getElem?_eq_getElem (by omega))
          exact (by simpa [Addr.add] using World.cell?_spot this)
        obtain ⟨b, o, s⟩ := a
        simp only at hsp
        subst hsp
        have hadd : ∀ i, (⟨b, o, none⟩ : Addr).add i = ⟨b, o + i, none⟩ := fun i => by unfold Addr.add; split <;> simp_all
        obtain ⟨f, hf⟩ := @choose_lt α ⟨y0⟩ len _ hv
        refine ⟨(List.range len).map f, ⟨_, len, cap, rfl, by simp, .inr ⟨b, o, rfl, ⟨Nat.zero_le _, ?_⟩, fun k x hx => ?_⟩⟩, ?_, ?_, ?_⟩
        · refine hlt (.cell b o) ?_
          rw [hx]
          refine List.mem_append_left _ ?_
          rw [hce]
          simp only [MemPlace.row, List.mem_map, List.mem_range]
          refine ⟨0, ?_, by simp⟩
          exact Nat.mul_pos (by omega) hs
        · have hk : k < len := by
            rcases Nat.lt_or_ge k len with h | h
            · exact h
            · rw [List.getElem?_eq_none (by simpa using h)] at hx; cases hx
          rw [List.getElem?_map, List.getElem?_range hk] at hx
          simp only [Option.map_some, Option.some.injEq] at hx
          subst hx
          obtain ⟨⟨cs', h1, h2⟩, _⟩ := hf k hk
          exact ⟨cs', h1, fun j u hu => by have := h2 j u hu; rwa [hadd, ← Nat.add_assoc] at this⟩
        · rw [List.length_map, List.length_range]
          rw [hlen] at hw1
          rw [Nat.add_mul] at hw1
          omega
        · rw [List.length_map, List.length_range]; omega
        · intro y hy
          obtain ⟨i, hi, rfl⟩ := List.mem_map.1 hy
          exact (hf i (List.mem_range.1 hi)).2
/-- the fields of a struct, one behind the other -/
def PartsOk {H : Type} (P : Program) (enc : TypeId × Value → H) (w : World) (base : Nat) (spare : Nat → Bool) (held : Bool) (n : Nat) : List TypeId → List Value → List (DataW H × List MemPlace) → Prop
  | [], cs, [] => cs = []
  | t :: ts, cs, x :: xs => DataW.trod enc P w base spare held n t (cs.take (P.cellsOf t)) = some x ∧ PartsOk P enc w base spare held n ts (cs.drop (P.cellsOf t)) xs
  | _, _, _ => False
structure OpensParts {α : Type} (P : Program) (N : Nat) (ρ : Rep α) (ts : List TypeId) (good : α → Prop) : Prop where
  cells : (ts.map P.cellsOf).sum = ρ.size
  opens : ∀ {H : Type} {enc : TypeId × Value → H} {w : World} {base : Nat} {spare : Nat → Bool} {held : Bool} {fuel : Nat} {cs : List Value} {xs : List (DataW H × List MemPlace)},
    fuel ≤ N → PartsOk P enc w base spare held fuel ts cs xs → (DataW.weightsEach P ts (xs.map (·.1))).all (· ≤ reachBytes) = true → ∃ y, ρ.R w 0 w.heap.size y cs ∧ good y
theorem OpensParts.one {α : Type} {ρ : Rep α} {good : α → Prop} (O : Opens P N ρ t good) : OpensParts P N ρ [t] good where
  cells := by simp [O.cells]
  opens := by
    intro H enc w base spare held fuel cs xs hN h hw
    match xs, h with
    | [x], ⟨h1, h2⟩ =>
      have h2 : cs.drop (P.cellsOf t) = [] := h2
      simp only [List.map_cons, List.map_nil, DataW.weightsEach, List.append_nil] at hw
      have e : cs.take (P.cellsOf t) = cs := by
        have := List.take_append_drop (P.cellsOf t) cs
        rw [h2, List.append_nil] at this
        exact this
      rw [e] at h1
      exact O.opens hN h1 hw
theorem OpensParts.cons {α β : Type} {ρ : Rep α} {σ : Rep β} {ts : List TypeId} {good : α → Prop} {good' : β → Prop} (O : Opens P N ρ t good) (O' : OpensParts P N σ ts good') : OpensParts P N (ρ.and σ) (t :: ts) fun x => good x.1 ∧ good' x.2 where
  cells := by rw [List.map_cons, List.sum_cons, O.cells, O'.cells]; rfl
  opens := by
    intro H enc w base spare held fuel cs xs hN h hw
    match xs, h with
    | x :: xs, ⟨h1, h2⟩ =>
      simp only [List.map_cons, DataW.weightsEach, List.all_append, Bool.and_eq_true] at hw
      obtain ⟨y, a1, a2⟩ := O.opens hN h1 hw.1
      obtain ⟨z, b1, b2⟩ := O'.opens hN h2 hw.2
      exact ⟨(y, z), ⟨_, _, (List.take_append_drop _ _).symm, a1, b1⟩, a2, b2⟩
/-- the fields lie one behind the other -/
def offsOk (P : Program) : Nat → List Field → Bool
  | _, [] => true
  | o, f :: fs => f.offset == o && offsOk P (o + P.cellsOf f.type) fs
theorem parts_of {H : Type} {enc : TypeId × Value → H} {w : World} {base : Nat} {spare : Nat → Bool} {held : Bool} {n : Nat} : ∀ (fs : List Field) (o : Nat) (cs0 : List Value) (xs : List (DataW H × List MemPlace)),
    offsOk P o fs = true → cs0.length = o + ((fs.map (·.type)).map P.cellsOf).sum → xs.length = fs.length → (∀ (i : Nat) (f : Field), fs[i]? = some f → DataW.trod enc P w base spare held n f.type ((cs0.drop f.offset).take (P.cellsOf f.type)) = xs[i]?) →
    PartsOk P enc w base spare held n (fs.map (·.type)) (cs0.drop o) xs
  | [], o, cs0, xs, _, hl, hx, _ => by
    obtain rfl : xs = [] := List.eq_nil_of_length_eq_zero hx
    show cs0.drop o = []
    simp at hl
    exact List.drop_eq_nil_of_le (by omega)
  | f :: fs, o, cs0, xs, ho, hl, hx, hf => by
    simp only [offsOk, Bool.and_eq_true, beq_iff_eq] at ho
    match xs, hx with
    | x :: xs, hx =>
      simp only [List.map_cons, List.sum_cons] at hl
      refine ⟨?_, ?_⟩
      · have := hf 0 f rfl
        rw [ho.1] at this
        simpa using this
      · rw [List.drop_drop]
        exact parts_of fs _ cs0 xs ho.2 (by simp only at hl ⊢; omega) (by simpa using hx) fun i g hg => by simpa using hf (i + 1) g (by simpa using hg)
theorem Opens.struct {α : Type} {ρ : Rep α} {good : α → Prop} {fs : Array Field} {ts : List TypeId} (hu : P.underlying t = some (.struct fs)) (hts : fs.toList.map (·.type) = ts) (ho : offsOk P 0 fs.toList = true) (hc : P.cellsOf t = (ts.map P.cellsOf).sum) (hcr : P.cellsOf t = ρ.size) (O : ∀ M, M < N → OpensParts P M ρ ts good) : Opens P N ρ t good where
  cells := hcr
  opens := by
    intro H enc w base spare held fuel cs x hN h hw
    obtain ⟨xs, n, rfl, hx, hlen, hxl, hf⟩ := DataW.trod_struct hu h
    subst hts
    have hp := parts_of (P := P) (n := n) (enc := enc) (w := w) (base := base) (spare := spare) (held := held) fs.toList 0 cs xs ho (by rw [hlen, hc]; omega) (by simpa using hxl) fun i f hfi => hf i f (by simpa using hfi)
    rw [List.drop_zero] at hp
    rw [hx] at hw
    simp only [DataW.weights, hu] at hw
    exact (O n (by omega)).opens (Nat.le_refl _) hp hw
theorem Opens.by {α β : Type} {ρ : Rep β} {good : β → Prop} (O : Opens P N ρ t good) (f : α → β) (g : β → α) (h : ∀ y, f (g y) = y) {good' : α → Prop} (hg : ∀ y, good y → good' (g y)) : Opens P N (ρ.by f) t good' where
  cells := O.cells
  opens := by
    intro H enc w base spare held fuel cs x hN ht hw
    obtain ⟨y, h1, h2⟩ := O.opens hN ht hw
    refine ⟨g y, ?_, hg y h2⟩
    show ρ.R w 0 w.heap.size (f (g y)) cs
    rw [h]
    exact h1
end
end Go.Proofs.YtnjjpblgcgikaaaDoor
namespace Go.Proofs.YtnjjpblgcgikaaaDoor
open Go.RowKit
section
variable {P : Program} {w0 : World} {ops : Array Oper} {rest : List Oper} {o : Oper} {a : Act} {Q : Exit → Act → World → Prop}
end
/-- what 'RepAll' leaves of a row that was appended to -/
theorem RepAll.left {α : Type} {ρ : Rep α} {w0 w' : World} {L B base : Nat} {v : Value} {l : List α} {cs : List Value} (h : RepAll ρ w0 L B l cs) (hL : Left w0 w' base v) (hB : B ≤ base) : RepAll ρ w' L B l cs :=
  h.keep fun _ _ hp => hL.below.cell (Nat.lt_of_lt_of_le hp hB)
/-- a row that is returned reads as a list -/
theorem RepAll.row {α : Type} {ρ : Rep α} {w : World} {L B base : Nat} {e : TypeId} {v : Value} {l : List α} {cs : List Value} (h : RepAll ρ w L B l cs) (hown : w.ownsRow base e ρ.size v l.length cs) (hL : L ≤ base) (hB : B ≤ w.heap.size) (hs : 0 < ρ.size) : ∃ A c, v = .slice A l.length c ∧ ρ.row w L w.heap.size A l.length l ∧ l.length ≤ maxLen ∧ l.length ≤ c :=
  Rep.row.of_own hown (h.more (Nat.le_refl _) hB) hL hs
end Go.Proofs.YtnjjpblgcgikaaaDoor
namespace Go.Proofs.YtnjjpblgcgikaaaDoor
open Go.RowKit
section
variable {P : Program} {f : FuncId} {args : Array Value} {w : World} {a n : Nat} {v : Value}
end
/-- function G is one of the text's own: a call of it enters it -/
def Enters (P : Program) (G : FuncId) : Prop := ∀ (args : Array Value) (w : World), (callFunc G args).run P w = .ok (.enter G args) w
theorem enters_of {P : Program} {f : FuncId} {fn : Func} (hf : P.funcs[f]? = some fn) (hname : (fn.name == "runtime.NumGoroutine") = false) (hb' : fn.body.isSome = true) : Enters P f := fun args w => by
  obtain ⟨c, hb⟩ := Option.isSome_iff_exists.1 hb'
  have h1 : fn.name ≠ "runtime.NumGoroutine" := by simpa using hname
  simp [callFunc, hf, h1, hb]
end Go.Proofs.YtnjjpblgcgikaaaDoor
namespace Go.Proofs.YtnjjpblgcgikaaaDoor
open Go.RowKit
theorem own_low {w : World} {base base' : Nat} {e : TypeId} {size n : Nat} {v : Value} {xs : List Value} (h : w.ownsRow base e size v n xs) (hb : base' ≤ base) : w.ownsRow base' e size v n xs := by
  refine ⟨h.1, h.2.imp id ?_⟩
  rintro ⟨g, cap, cur, h1, h2, h3⟩
  exact ⟨g, cap, cur, h1, by omega, h3⟩
theorem Blk.call {w w' : World} {g : Nat} {t : TypeId} {cs : Array Value} (h : Blk w g t cs) (hb : Below w.heap.size w w') : Blk w' g t cs := h.below hb h.lt
theorem Blk.left {w w' : World} {g base : Nat} {t : TypeId} {cs : Array Value} {v : Value} (h : Blk w g t cs) (hL : Left w w' base v) (hg : g < base) : Blk w' g t cs := h.below hL.below hg
section
variable {P : Program} {w : World} {ops : Array Oper} {o : Oper} {a : Act} {K : Act → World → Prop} {Q : Exit → Act → World → Prop} {E : Prop}
end
/-- what a region keeps: all that lay below a block, and two cells -/
theorem Held2.below {w W W' : World} {g m : Nat} {x y : Value} (h : Below w.heap.size w W ∧ m ≤ W.heap.size ∧ W.cell? ⟨g, 0, none⟩ = some x ∧ W.cell? ⟨g, 1, none⟩ = some y) (hg : w.heap.size ≤ m) (hgm : g < m) (hb : Below m W W') :
    Below w.heap.size w W' ∧ m ≤ W'.heap.size ∧ W'.cell? ⟨g, 0, none⟩ = some x ∧ W'.cell? ⟨g, 1, none⟩ = some y :=
  ⟨h.1.trans (hb.mono hg), Nat.le_trans h.2.1 hb.size, (hb.cell (p := ⟨g, 0, none⟩) hgm).trans h.2.2.1, (hb.cell (p := ⟨g, 1, none⟩) hgm).trans h.2.2.2⟩
theorem Held2.call {w W W' : World} {g m : Nat} {x y : Value} (h : Below w.heap.size w W ∧ m ≤ W.heap.size ∧ W.cell? ⟨g, 0, none⟩ = some x ∧ W.cell? ⟨g, 1, none⟩ = some y) (hg : w.heap.size ≤ m) (hgm : g < m) (hb : Below W.heap.size W W') :
    Below w.heap.size w W' ∧ m ≤ W'.heap.size ∧ W'.cell? ⟨g, 0, none⟩ = some x ∧ W'.cell? ⟨g, 1, none⟩ = some y := Held2.below h hg hgm (hb.mono h.2.1)
theorem Held2.alloc {w W : World} {g m : Nat} {x y : Value} (h : Below w.heap.size w W ∧ m ≤ W.heap.size ∧ W.cell? ⟨g, 0, none⟩ = some x ∧ W.cell? ⟨g, 1, none⟩ = some y) (hg : w.heap.size ≤ m) (hgm : g < m) (o : Obj) :
    Below w.heap.size w (W.alloc o) ∧ m ≤ (W.alloc o).heap.size ∧ (W.alloc o).cell? ⟨g, 0, none⟩ = some x ∧ (W.alloc o).cell? ⟨g, 1, none⟩ = some y := Held2.call h hg hgm (below_two o)
theorem Held2.put {w W : World} {g m : Nat} {x y u : Value} {p : Addr} (h : Below w.heap.size w W ∧ m ≤ W.heap.size ∧ W.cell? ⟨g, 0, none⟩ = some x ∧ W.cell? ⟨g, 1, none⟩ = some y) (hp : p.block ≠ g) (hpw : w.heap.size ≤ p.block) :
    Below w.heap.size w (W.setCell p u) ∧ m ≤ (W.setCell p u).heap.size ∧ (W.setCell p u).cell? ⟨g, 0, none⟩ = some x ∧ (W.setCell p u).cell? ⟨g, 1, none⟩ = some y :=
  ⟨h.1.setCell hpw u, by simpa [World.setCell] using h.2.1, (World.cell?_setCell_far _ _ _ _ hp).trans h.2.2.1, (World.cell?_setCell_far _ _ _ _ hp).trans h.2.2.2⟩
end Go.Proofs.YtnjjpblgcgikaaaDoor
namespace Go.Proofs.YtnjjpblgcgikaaaDoor
open Go.RowKit
theorem Left.refl (w : World) (base : Nat) (v : Value) : Left w w base v := ⟨Below.refl _ _, fun _ _ _ => rfl, fun _ _ _ => rfl, fun _ _ _ => rfl⟩
theorem run_append_none_c {P : Program} {w : World} (base : Nat) (t ty e : TypeId) (i : TypeInfo) (size : Nat) (ht : P.underlying t = some (.slice e)) (hi : P.info? e = some i)
    (v : Value) (n : Nat) (xs : List Value) (c : Nat) (hown : w.ownsRow base e size v n xs) :
    (Builtin.append_ #[t, t] ty #[v, .slice none 0 c]).run P w = .ok v w := by
  rcases hown.2 with ⟨rfl, rfl⟩ | ⟨g, cap, cur, rfl, _, _, hnc, _⟩
  · simp [Builtin.append_, run_underlying ht, sizeOf, typeInfo, hi, Builtin.lenOf, Builtin.firstCells]
  · simp [Builtin.append_, run_underlying ht, sizeOf, typeInfo, hi, Builtin.lenOf, Builtin.firstCells, hnc, storeCells]
theorem run_app_any {P : Program} {w : World} {t e : TypeId} {z : Value} {size bytes : Nat} (E : ElT P t e z size bytes) (ty : TypeId) {base : Nat} {v : Value} {n : Nat} {xs : List Value} (hown : w.ownsRow base e size v n xs)
    {ao : Option Addr} {m c : Nat} {cs : List Value} (hnone : ao = none → m = 0) (hc : ∀ ad, ao = some ad → ∀ j u, cs[j]? = some u → w.cell? (ad.add j) = some u) (hl : cs.length = m * size) (h1 : (cs.all fun u => u.oneCell') = true)
    (h63 : n + m ≤ maxLen) (hbytes : (n + m) * bytes ≤ 140737488355328) (hbase : base ≤ w.heap.size) :
    ∃ v' w', (Builtin.append_ #[t, t] ty #[v, .slice ao m c]).run P w = .ok v' w' ∧ w'.ownsRow base e size v' (n + m) (xs ++ cs) ∧ Left w w' base v ∧ (v'.ownBlock = v.ownBlock ∨ v'.ownBlock = some w.heap.size) := by
  obtain ⟨i, hi, hz, hz1, hz2⟩ := E.hi
  cases ao with
  | none =>
    obtain rfl := hnone rfl
    obtain rfl : cs = [] := List.eq_nil_of_length_eq_zero (by simpa using hl)
    exact ⟨v, w, run_append_none_c base t ty e i size E.ht hi v n xs c hown, by simpa using hown, Left.refl _ _ _, .inl rfl⟩
  | some ad =>
    obtain ⟨v', w', h2, h3, h4, _, h5⟩ := run_append_own_at (P := P) w base t ty e i z size bytes E.ht hi hz hz1 hz2 E.hzs E.hsz v n xs hown ad m c cs hl (hc ad rfl) (List.all_eq_true.1 h1) h63 hbytes hbase
    exact ⟨v', w', h2, h3, left_of hown hbase (fun row => World.grownBy.refl _ _) h4, h5⟩
section
variable {P : Program} {w : World} {ops : Array Oper} {o : Oper} {a : Act} {K : Act → World → Prop} {Q : Exit → Act → World → Prop} {EE : Prop}
end
end Go.Proofs.YtnjjpblgcgikaaaDoor
