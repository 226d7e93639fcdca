/- Plain functions that say what the program's functions of values answer. -/
import Derived.WalkKit
import Derived.Lib.Strings
namespace Go.Proofs.Ytoghgjobfcnneaa
open Go.RowKit

/-- A value: its kind, its number, its text. -/
structure Vl where
  k : Int
  n : Int
  s : ByteArray

abbrev Vl.cells (v : Vl) : List Value := [.int .i64 v.k, .int .i64 v.n, .string v.s]
abbrev Vl.val (v : Vl) : Value := .agg #[.int .i64 v.k, .int .i64 v.n, .string v.s]
def Vl.zero : Vl := ⟨0, 0, .empty⟩

/-- may a byte stand between quotes? -/
def quotB (c : UInt8) : Bool := decide (32 ≤ (c.toNat : Int)) && decide ((c.toNat : Int) ≤ 126) && !((c.toNat : Int) == 39)
def quotS (s : ByteArray) : Bool := s.data.toList.all quotB && decide (s.size ≤ 20)
def isInt (n : Int) : Bool := decide (-999999999 ≤ n) && decide (n ≤ 999999999)
def emptyS (s : ByteArray) : Bool := s.toList.isEmpty

/-- is a value of a kind that there is right? -/
def Vl.fine (v : Vl) : Bool :=
  if v.k = 0 then (v.n == 0) && emptyS v.s
  else if v.k = 1 then isInt v.n && emptyS v.s
  else if v.k = 2 then (v.n == 0) && quotS v.s
  else (decide (0 ≤ v.n) && decide (v.n ≤ 1)) && emptyS v.s

/-- what is wrong with a value -/
def Vl.chk (v : Vl) : Int := if 0 ≤ v.k ∧ v.k ≤ 3 then (if v.fine = true then 0 else 3) else 7

/-- the first of some errors that is one -/
def firstErr : List Int → Int
  | [] => 0
  | e :: l => if e = 0 then firstErr l else e
theorem firstErr_hit (l : List Int) (k : Nat) (e : Int) (h : firstErr (l.take k) = 0) (hk : l[k]? = some e) (he : ¬ e = 0) : firstErr l = e := by
  induction l generalizing k with
  | nil => simp at hk
  | cons x l ih =>
    cases k with
    | zero => simp at hk; subst hk; simp [firstErr, he]
    | succ k =>
      simp only [List.take_succ_cons, firstErr] at h
      simp only [List.getElem?_cons_succ] at hk
      split at h
      · rename_i hx; simp [firstErr, hx, ih k h hk]
      · rename_i hx; exact absurd h hx
theorem firstErr_step (l : List Int) (k : Nat) (h : firstErr (l.take k) = 0) (hk : l[k]? = some 0) : firstErr (l.take (k + 1)) = 0 := by
  induction l generalizing k with
  | nil => simp at hk
  | cons x l ih =>
    cases k with
    | zero => simp at hk; subst hk; simp [firstErr]
    | succ k =>
      simp only [List.take_succ_cons, firstErr] at h ⊢
      simp only [List.getElem?_cons_succ] at hk
      split at h
      · rename_i hx; simp only [hx, if_true]; exact ih k h hk
      · rename_i hx; exact absurd h hx
/-- what is wrong with some values -/
def rightsE (vs : List Vl) : Int := if 5 < vs.length then 2 else firstErr (vs.map Vl.chk)

/-- are two values the same? -/
def Vl.same (a b : Vl) : Bool := (a.k == b.k) && (a.n == b.n) && (a.s.toList == b.s.toList)
theorem Vl.same_iff (a b : Vl) : a.same b = true ↔ a = b := by
  obtain ⟨k, n, s⟩ := a
  obtain ⟨k', n', s'⟩ := b
  simp only [Vl.same, Bool.and_eq_true, beq_iff_eq, Vl.mk.injEq, ByteArray.toList_eq, and_assoc]
  refine and_congr_right fun _ => and_congr_right fun _ => ⟨fun h => ?_, fun h => by rw [h]⟩
  obtain ⟨⟨l⟩⟩ := s
  obtain ⟨⟨l'⟩⟩ := s'
  simp only at h
  rw [h]
def sameVs : List Vl → List Vl → Bool
  | [], [] => true
  | a :: l, b :: r => a.same b && sameVs l r
  | _, _ => false
theorem sameVs_iff (l r : List Vl) : sameVs l r = true ↔ l = r := by
  induction l generalizing r with
  | nil => cases r <;> simp [sameVs]
  | cons a l ih => cases r <;> simp [sameVs, ih, Vl.same_iff]
theorem sameVs_self (l : List Vl) : sameVs l l = true := (sameVs_iff l l).2 rfl

def le4 (x : Int) : List UInt8 := [UInt8.ofNat (x % 256).toNat, UInt8.ofNat (x / 256 % 256).toNat, UInt8.ofNat (x / 256 / 256 % 256).toNat, UInt8.ofNat (x / 256 / 256 / 256 % 256).toNat]
/-- a value's bytes -/
def Vl.enc (v : Vl) : List UInt8 :=
  UInt8.ofNat v.k.toNat :: (if v.k = 1 then le4 (v.n + 999999999) else if v.k = 2 then UInt8.ofNat v.s.size :: v.s.data.toList else if v.k = 3 then [UInt8.ofNat v.n.toNat] else [])
def encL (vs : List Vl) : List UInt8 := UInt8.ofNat vs.length :: vs.flatMap Vl.enc
/-- bytes as a string -/
def bs (l : List UInt8) : ByteArray := ⟨l.toArray⟩

theorem bs_size (l : List UInt8) : (bs l).size = l.length := by simp [bs, ByteArray.size]
theorem bs_data (l : List UInt8) : (bs l).data.toList = l := rfl
theorem bs_toList (l : List UInt8) : (bs l).toList = l := ByteArray.toList_mk l
theorem bs_append (l r : List UInt8) : bs l ++ bs r = bs (l ++ r) := ByteArray.mk_append_mk l r
theorem bs_append_s (l : List UInt8) (s : ByteArray) : bs l ++ s = bs (l ++ s.data.toList) := bs_append l s.data.toList
theorem bs_of (s : ByteArray) : s = bs s.data.toList := rfl
theorem emptyS_eq (s : ByteArray) (h : emptyS s = true) : s = .empty := by
  rw [bs_of s]
  have : s.data.toList = [] := by simpa [emptyS, ByteArray.toList_eq] using h
  rw [this]; rfl
/-- values that are right, kind by kind -/
theorem Vl.right {v : Vl} (h : v.chk = 0) :
    v = ⟨0, 0, .empty⟩ ∨ (∃ n, v = ⟨1, n, .empty⟩ ∧ -999999999 ≤ n ∧ n ≤ 999999999) ∨ (∃ s, v = ⟨2, 0, s⟩ ∧ s.size ≤ 20 ∧ s.data.toList.all quotB = true) ∨ (∃ n, v = ⟨3, n, .empty⟩ ∧ 0 ≤ n ∧ n ≤ 1) := by
  obtain ⟨k, n, s⟩ := v
  simp only [Vl.chk] at h
  split at h
  · split at h
    · rename_i hk hf
      simp only [Vl.fine] at hf
      have h4 : k = 0 ∨ k = 1 ∨ k = 2 ∨ k = 3 := by omega
      rcases h4 with rfl | rfl | rfl | rfl
      · simp at hf; left; rw [emptyS_eq s hf.2, hf.1]
      · simp [isInt] at hf; right; left; exact ⟨n, by rw [emptyS_eq s hf.2], hf.1.1, hf.1.2⟩
      · simp [quotS] at hf; right; right; left; exact ⟨s, by rw [hf.1], by omega, by simpa using hf.2.1⟩
      · simp at hf; right; right; right; exact ⟨n, by rw [emptyS_eq s hf.2], hf.1.1, hf.1.2⟩
    · cases h
  · cases h
theorem flat_snoc {α : Type} (f : α → List UInt8) (l : List α) (k : Nat) (x : α) (h : l[k]? = some x) : (l.take (k + 1)).flatMap f = (l.take k).flatMap f ++ f x := by
  obtain ⟨hk, rfl⟩ := List.getElem?_eq_some_iff.1 h
  rw [List.take_succ_eq_append_getElem hk, List.flatMap_append]
  simp
/-- bytes as cells -/
def byteC (l : List UInt8) : List Value := l.map fun b => .int .u8 b.toNat
theorem byteC_append (l r : List UInt8) : byteC (l ++ r) = byteC l ++ byteC r := by simp [byteC]
theorem byteC_len (l : List UInt8) : (byteC l).length = l.length := by simp [byteC]
theorem byteC_one (l : List UInt8) : ∀ u ∈ byteC l, u.oneCell' = true := by
  intro u hu
  simp only [byteC, List.mem_map] at hu
  obtain ⟨b, _, rfl⟩ := hu
  rfl
theorem byteC_le4 (x : Int) (h : 0 ≤ x) (h' : x < 4294967296) : byteC (le4 x) = [.int .u8 (x % 256), .int .u8 (x / 256 % 256), .int .u8 (x / 65536 % 256), .int .u8 (x / 16777216)] := by
  have g : ∀ y : Int, 0 ≤ y → y < 256 → ((UInt8.ofNat y.toNat).toNat : Int) = y := fun y h1 h2 => by
    rw [UInt8.toNat_ofNat']; omega
  simp only [byteC, le4, List.map_cons, List.map_nil]
  rw [g _ (by omega) (by omega), g _ (by omega) (by omega), g _ (by omega) (by omega), g _ (by omega) (by omega)]
  have e1 : x / 256 / 256 % 256 = x / 65536 % 256 := by omega
  have e2 : x / 256 / 256 / 256 % 256 = x / 16777216 := by omega
  rw [e1, e2]
theorem byteC_ofNat (n : Nat) (h : n < 256) : byteC [UInt8.ofNat n] = [.int .u8 n] := by
  simp only [byteC, List.map_cons, List.map_nil, UInt8.toNat_ofNat']
  rw [Nat.mod_eq_of_lt h]
theorem byteC_ofInt (n : Int) (h : 0 ≤ n) (h' : n < 256) : byteC [UInt8.ofNat n.toNat] = [.int .u8 n] := by
  rw [byteC_ofNat _ (by omega)]
  simp; omega

/-- A reader: what is left, and whether there were not enough. -/
def takeR (l : List UInt8) (sh : Bool) (n : Nat) : List UInt8 × List UInt8 × Bool := if l.length < n then ([], [], true) else (l.take n, l.drop n, sh)
def oneR (l : List UInt8) (sh : Bool) : Nat × List UInt8 × Bool :=
  match l with
  | [] => (0, [], true)
  | b :: r => (if sh then 0 else b.toNat, r, sh)
theorem extract_zero (S : ByteArray) (n : Nat) : S.extract 0 n = bs (S.data.toList.take n) := by
  rw [bs_of (S.extract 0 n), Lib.extract_data]
  simp
theorem extract_mid (S : ByteArray) (a n : Nat) : S.extract a (a + n) = bs ((S.data.toList.drop a).take n) := by
  rw [bs_of (S.extract a (a + n)), Lib.extract_data]
  simp
theorem extract_end (S : ByteArray) (n : Nat) : S.extract n S.size = bs (S.data.toList.drop n) := by
  rw [bs_of (S.extract n S.size), Lib.extract_data, List.take_of_length_le]
  simp
theorem oneR_len (l : List UInt8) (sh : Bool) : (oneR l sh).2.1.length ≤ l.length := by cases l <;> simp [oneR]
theorem oneR_lt (l : List UInt8) (sh : Bool) : (oneR l sh).1 < 256 := by
  cases l with
  | nil => simp [oneR]
  | cons b r => cases sh <;> simp [oneR]; exact b.toNat_lt
def num4 (l : List UInt8) (sh : Bool) : Nat × List UInt8 × Bool :=
  let a := oneR l sh
  let b := oneR a.2.1 a.2.2
  let c := oneR b.2.1 b.2.2
  let d := oneR c.2.1 c.2.2
  (a.1 + 256 * b.1 + 65536 * c.1 + 16777216 * d.1, d.2.1, d.2.2)
/-- one value of a reader -/
def valR (l : List UInt8) (sh : Bool) : Vl × List UInt8 × Bool :=
  let a := oneR l sh
  if a.1 = 0 then (⟨0, 0, .empty⟩, a.2.1, a.2.2)
  else if a.1 = 1 then (⟨1, ((num4 a.2.1 a.2.2).1 : Int) - 999999999, .empty⟩, (num4 a.2.1 a.2.2).2.1, (num4 a.2.1 a.2.2).2.2)
  else if a.1 = 2 then
    let b := oneR a.2.1 a.2.2
    let c := takeR b.2.1 b.2.2 b.1
    (⟨2, 0, bs c.1⟩, c.2.1, c.2.2)
  else if a.1 = 3 then
    let b := oneR a.2.1 a.2.2
    (⟨3, b.1, .empty⟩, b.2.1, b.2.2)
  else (⟨a.1, 0, .empty⟩, a.2.1, true)
/-- so many values of a reader, till there is not enough -/
def valsR : Nat → List UInt8 → Bool → List Vl × List UInt8 × Bool
  | 0, l, sh => ([], l, sh)
  | n + 1, l, sh => if sh = true then ([], l, sh) else ((valR l sh).1 :: (valsR n (valR l sh).2.1 (valR l sh).2.2).1, (valsR n (valR l sh).2.1 (valR l sh).2.2).2)
theorem takeR_len (l : List UInt8) (sh : Bool) (n : Nat) : (takeR l sh n).2.1.length ≤ l.length := by unfold takeR; split <;> simp
theorem num4_len (l : List UInt8) (sh : Bool) : (num4 l sh).2.1.length ≤ l.length := by
  unfold num4
  exact Nat.le_trans (oneR_len _ _) (Nat.le_trans (oneR_len _ _) (Nat.le_trans (oneR_len _ _) (oneR_len _ _)))
theorem valR_len (l : List UInt8) (sh : Bool) : (valR l sh).2.1.length ≤ l.length := by
  have h1 := oneR_len l sh
  unfold valR
  simp only
  split
  · exact h1
  split
  · exact Nat.le_trans (num4_len _ _) h1
  split
  · exact Nat.le_trans (takeR_len _ _ _) (Nat.le_trans (oneR_len _ _) h1)
  split
  · exact Nat.le_trans (oneR_len _ _) h1
  · exact h1
def cellsV (vs : List Vl) : List Value := vs.flatMap Vl.cells
theorem cellsV_len (vs : List Vl) : (cellsV vs).length = vs.length * 3 := by
  induction vs with
  | nil => rfl
  | cons x l ih => simp only [cellsV, List.flatMap_cons, List.length_append] at *; simp [Vl.cells] at *; omega
theorem cellsV_snoc (vs : List Vl) (v : Vl) : cellsV (vs ++ [v]) = cellsV vs ++ v.cells := by simp [cellsV]
/-- what Decode answers -/
def decT (s : ByteArray) : List Vl × List UInt8 × Bool := valsR (oneR s.data.toList false).1 (oneR s.data.toList false).2.1 (oneR s.data.toList false).2.2
def decodeS (s : ByteArray) : List Vl × Int :=
  if (!(decT s).2.2 && (decT s).2.1.isEmpty) = true then (if rightsE (decT s).1 = 0 then ((decT s).1, 0) else ([], rightsE (decT s).1)) else ([], 1)
theorem valsR_short (m : Nat) (l : List UInt8) : valsR m l true = ([], l, true) := by cases m <;> simp [valsR]
/-- one step of 'decT': what is left to read is short: nothing comes -/
theorem dec_short {s : ByteArray} {vs : List Vl} {m : Nat} {l : List UInt8} (hT : (vs ++ (valsR (m + 1) l false).1, (valsR (m + 1) l false).2) = decT s) (h : (valR l false).2.2 = true) : decodeS s = ([], 1) := by
  have e : (valsR (m + 1) l false).2.2 = true := by rw [valsR]; simp [h, valsR_short]
  have : (decT s).2.2 = true := by rw [← hT]; exact e
  simp [decodeS, this]
theorem dec_step {s : ByteArray} {vs : List Vl} {m : Nat} {l l' : List UInt8} {u : Vl} (hT : (vs ++ (valsR (m + 1) l false).1, (valsR (m + 1) l false).2) = decT s) (h : valR l false = (u, l', false)) :
    ((vs ++ [u]) ++ (valsR m l' false).1, (valsR m l' false).2) = decT s := by
  rw [← hT, valsR]; simp [h]
theorem valR_nil : (valR [] false).2.2 = true := by simp [valR, oneR]
theorem valR_0 (k : UInt8) (r : List UInt8) (hk : k.toNat = 0) : valR (k :: r) false = (⟨0, 0, .empty⟩, r, false) := by simp [valR, oneR, hk]
theorem valR_1s (k : UInt8) (r : List UInt8) (hk : k.toNat = 1) (hr : r.length < 4) : (valR (k :: r) false).2.2 = true := by
  rcases r with _ | ⟨a, _ | ⟨b, _ | ⟨c, _ | ⟨d, r⟩⟩⟩⟩
  · simp [valR, oneR, hk, num4]
  · simp [valR, oneR, hk, num4]
  · simp [valR, oneR, hk, num4]
  · simp [valR, oneR, hk, num4]
  · simp at hr; omega
theorem valR_1 (k a b c d : UInt8) (r : List UInt8) (hk : k.toNat = 1) : valR (k :: a :: b :: c :: d :: r) false = (⟨1, ((a.toNat + 256 * b.toNat + 65536 * c.toNat + 16777216 * d.toNat : Nat) : Int) - 999999999, .empty⟩, r, false) := by
  simp [valR, oneR, hk, num4]
theorem valR_2n (k : UInt8) (hk : k.toNat = 2) : (valR [k] false).2.2 = true := by simp [valR, oneR, hk, takeR]
theorem valR_2s (k n : UInt8) (r : List UInt8) (hk : k.toNat = 2) (hr : r.length < n.toNat) : (valR (k :: n :: r) false).2.2 = true := by simp [valR, oneR, hk, takeR, hr]
theorem valR_2 (k n : UInt8) (r : List UInt8) (hk : k.toNat = 2) (hr : ¬ r.length < n.toNat) : valR (k :: n :: r) false = (⟨2, 0, bs (r.take n.toNat)⟩, r.drop n.toNat, false) := by simp [valR, oneR, hk, takeR, hr]
theorem valR_3n (k : UInt8) (hk : k.toNat = 3) : (valR [k] false).2.2 = true := by simp [valR, oneR, hk]
theorem valR_3 (k b : UInt8) (r : List UInt8) (hk : k.toNat = 3) : valR (k :: b :: r) false = (⟨3, b.toNat, .empty⟩, r, false) := by simp [valR, oneR, hk]
theorem valR_x (k : UInt8) (r : List UInt8) (hk : 3 < k.toNat) : (valR (k :: r) false).2.2 = true := by
  have e0 : ¬ k.toNat = 0 := by omega
  have e1 : ¬ k.toNat = 1 := by omega
  have e2 : ¬ k.toNat = 2 := by omega
  have e3 : ¬ k.toNat = 3 := by omega
  simp [valR, oneR, e0, e1, e2, e3]
theorem drop_at (s : ByteArray) (p : Nat) (h : p < s.size) : s.data.toList.drop p = s[p] :: s.data.toList.drop (p + 1) := by
  rw [List.drop_eq_getElem_cons (by simpa using h)]; rfl
theorem drop_off (s : ByteArray) (p : Nat) (h : ¬ p < s.size) : s.data.toList.drop p = [] := List.drop_eq_nil_of_le (by simp; omega)
/-- a number of bytes, the least first -/
def leV : List UInt8 → Int
  | [] => 0
  | b :: r => b.toNat + 256 * leV r
def pow256 : Nat → Int
  | 0 => 1
  | n + 1 => 256 * pow256 n
theorem leV_step (l : List UInt8) (j : Nat) (b : UInt8) (h : l[j]? = some b) : leV (l.take (j + 1)) = leV (l.take j) + b.toNat * pow256 j := by
  induction l generalizing j with
  | nil => simp at h
  | cons x l ih =>
    cases j with
    | zero => simp at h; subst h; simp [leV, pow256]
    | succ j =>
      simp only [List.getElem?_cons_succ] at h
      simp only [List.take_succ_cons, leV, pow256, ih j h]
      rw [Int.mul_add, ← Int.add_assoc, Int.mul_left_comm]
theorem leV_bd (l : List UInt8) (j : Nat) : 0 ≤ leV (l.take j) ∧ leV (l.take j) < pow256 j := by
  induction l generalizing j with
  | nil => cases j <;> simp [leV, pow256] <;> (rename_i n; induction n <;> simp [pow256] at * <;> omega)
  | cons x l ih =>
    cases j with
    | zero => simp [leV, pow256]
    | succ j =>
      have := ih j
      have hx := x.toNat_lt
      simp only [List.take_succ_cons, leV, pow256]
      omega
theorem pow256_bd (j : Nat) (hj : j < 4) : 1 ≤ pow256 j ∧ pow256 j ≤ 16777216 := by
  have : j = 0 ∨ j = 1 ∨ j = 2 ∨ j = 3 := by omega
  rcases this with rfl | rfl | rfl | rfl <;> simp [pow256]
theorem mul_bd (c T : Int) (h0 : 0 ≤ c) (h1 : c ≤ 255) (t0 : 1 ≤ T) (t1 : T ≤ 16777216) : 0 ≤ c * T ∧ c * T ≤ 4278190080 :=
  ⟨Int.mul_nonneg h0 (by omega), Int.le_trans (Int.mul_le_mul_of_nonneg_right h1 (by omega)) (by omega)⟩
theorem get_drop (s : ByteArray) (p j : Nat) (h : p + j < s.size) : (s.data.toList.drop p)[j]? = some s[p + j] := by
  rw [List.getElem?_drop, List.getElem?_eq_getElem (by simpa using h)]; rfl
theorem valR_le4 (k : UInt8) (r : List UInt8) (hk : k.toNat = 1) (hr : 4 ≤ r.length) : valR (k :: r) false = (⟨1, leV (r.take 4) - 999999999, .empty⟩, r.drop 4, false) := by
  rcases r with _ | ⟨a, _ | ⟨b, _ | ⟨c, _ | ⟨d, r⟩⟩⟩⟩
  · simp at hr
  · simp at hr
  · simp at hr
  · simp at hr
  · rw [valR_1 _ _ _ _ _ _ hk]; simp [leV]; omega
theorem valR_le1 (k : UInt8) (r : List UInt8) (hk : k.toNat = 3) (hr : 1 ≤ r.length) : valR (k :: r) false = (⟨3, leV (r.take 1), .empty⟩, r.drop 1, false) := by
  rcases r with _ | ⟨a, r⟩
  · simp at hr
  · rw [valR_3 _ _ _ hk]; simp [leV]
end Go.Proofs.Ytoghgjobfcnneaa
