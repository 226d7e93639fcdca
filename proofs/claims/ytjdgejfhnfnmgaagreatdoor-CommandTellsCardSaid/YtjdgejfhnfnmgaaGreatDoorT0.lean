/-  -/
import Derived.WalkKit
import Derived.Lib.Strings
import Derived.Deep.Draws
import Derived.Deep.AppendLies
import Derived.Maps.AppendAt
import Derived.Lib.Hide
import Derived.Test.YtjdgejfhnfnmgaaGreatDoorRows
import Derived.Laws.BytesArg
import Derived.Lib.AppendStr
import Derived.OwnWalk
import Derived.Laws.BitsAllLaws
import Derived.Laws.BitsLemmas
namespace Go.Proofs.YtjdgejfhnfnmgaaGreatDoor
open Go.RowKit
structure Vl where
 k : Int
 n : Int
 s : ByteArray
abbrev Vl.cells (v : Vl) : List Value := [.int .i64 v.k, .int .i64 v.n, .string v.s]
abbrev Vl.val (v : Vl) : Value := .agg #[.int .i64 v.k, .int .i64 v.n, .string v.s]
def Vl.zero : Vl := ⟨0, 0, .empty⟩
def quotB (c : UInt8) : Bool := decide (32 ≤ (c.toNat : Int)) && decide ((c.toNat : Int) ≤ 126) && !((c.toNat : Int) == 39)
def quotS (s : ByteArray) : Bool := s.data.toList.all quotB && decide (s.size ≤ 20)
def isInt (n : Int) : Bool := decide (-999999999 ≤ n) && decide (n ≤ 999999999)
def emptyS (s : ByteArray) : Bool := s.toList.isEmpty
def Vl.fine (v : Vl) : Bool :=
 if v.k = 0 then (v.n == 0) && emptyS v.s
 else if v.k = 1 then isInt v.n && emptyS v.s
 else if v.k = 2 then (v.n == 0) && quotS v.s
 else (decide (0 ≤ v.n) && decide (v.n ≤ 1)) && emptyS v.s
def Vl.chk (v : Vl) : Int := if 0 ≤ v.k ∧ v.k ≤ 3 then (if v.fine = true then 0 else 3) else 7
def Vl.same (a b : Vl) : Bool := (a.k == b.k) && (a.n == b.n) && (a.s.toList == b.s.toList)
theorem Vl.same_iff (a b : Vl) : a.same b = true ↔ a = b := by
 obtain ⟨k, n, s⟩ := a
 obtain ⟨k', n', s'⟩ := b
 simp only [Vl.same, Bool.and_eq_true, beq_iff_eq, Vl.mk.injEq, ByteArray.toList_eq, and_assoc]
 refine and_congr_right fun _ => and_congr_right fun _ => ⟨fun h => ?_, fun h => by rw [h]⟩
 obtain ⟨⟨l⟩⟩ := s
 obtain ⟨⟨l'⟩⟩ := s'
 simp only at h
 rw [h]
def le4 (x : Int) : List UInt8 := [UInt8.ofNat (x % 256).toNat, UInt8.ofNat (x / 256 % 256).toNat, UInt8.ofNat (x / 256 / 256 % 256).toNat, UInt8.ofNat (x / 256 / 256 / 256 % 256).toNat]
def Vl.enc (v : Vl) : List UInt8 :=
 UInt8.ofNat v.k.toNat :: (if v.k = 1 then le4 (v.n + 999999999) else if v.k = 2 then UInt8.ofNat v.s.size :: v.s.data.toList else if v.k = 3 then [UInt8.ofNat v.n.toNat] else [])
def bs (l : List UInt8) : ByteArray := ⟨l.toArray⟩
theorem bs_size (l : List UInt8) : (bs l).size = l.length := by simp [bs, ByteArray.size]
theorem bs_data (l : List UInt8) : (bs l).data.toList = l := rfl
theorem bs_toList (l : List UInt8) : (bs l).toList = l := ByteArray.toList_mk l
theorem bs_append (l r : List UInt8) : bs l ++ bs r = bs (l ++ r) := ByteArray.mk_append_mk l r
theorem bs_of (s : ByteArray) : s = bs s.data.toList := rfl
theorem emptyS_eq (s : ByteArray) (h : emptyS s = true) : s = .empty := by
 rw [bs_of s]
 have : s.data.toList = [] := by simpa [emptyS, ByteArray.toList_eq] using h
 rw [this]; rfl
theorem Vl.right {v : Vl} (h : v.chk = 0) :
  v = ⟨0, 0, .empty⟩ ∨ (∃ n, v = ⟨1, n, .empty⟩ ∧ -999999999 ≤ n ∧ n ≤ 999999999) ∨ (∃ s, v = ⟨2, 0, s⟩ ∧ s.size ≤ 20 ∧ s.data.toList.all quotB = true) ∨ (∃ n, v = ⟨3, n, .empty⟩ ∧ 0 ≤ n ∧ n ≤ 1) := by
 obtain ⟨k, n, s⟩ := v
 simp only [Vl.chk] at h
 split at h
 ·split at h
  ·rename_i hk hf
   simp only [Vl.fine] at hf
   have h4 : k = 0 ∨ k = 1 ∨ k = 2 ∨ k = 3 := by omega
   rcases h4 with rfl | rfl | rfl | rfl
   ·simp at hf; left; rw [emptyS_eq s hf.2, hf.1]
   ·simp [isInt] at hf; right; left; exact ⟨n, by rw [emptyS_eq s hf.2], hf.1.1, hf.1.2⟩
   ·simp [quotS] at hf; right; right; left; exact ⟨s, by rw [hf.1], by omega, by simpa using hf.2.1⟩
   ·simp at hf; right; right; right; exact ⟨n, by rw [emptyS_eq s hf.2], hf.1.1, hf.1.2⟩
  ·cases h
 ·cases h
theorem extract_mid (S : ByteArray) (a n : Nat) : S.extract a (a + n) = bs ((S.data.toList.drop a).take n) := by
 rw [bs_of (S.extract a (a + n)), Lib.extract_data]
 simp
theorem extract_end (S : ByteArray) (n : Nat) : S.extract n S.size = bs (S.data.toList.drop n) := by
 rw [bs_of (S.extract n S.size), Lib.extract_data, List.take_of_length_le]
 simp
def cellsV (vs : List Vl) : List Value := vs.flatMap Vl.cells
theorem cellsV_len (vs : List Vl) : (cellsV vs).length = vs.length * 3 := by
 induction vs with
 | nil => rfl
 | cons x l ih => simp only [cellsV, List.flatMap_cons, List.length_append] at *; simp [Vl.cells] at *; omega
theorem cellsV_snoc (vs : List Vl) (v : Vl) : cellsV (vs ++ [v]) = cellsV vs ++ v.cells := by simp [cellsV]
theorem drop_at (s : ByteArray) (p : Nat) (h : p < s.size) : s.data.toList.drop p = s[p] :: s.data.toList.drop (p + 1) := by
 rw [List.drop_eq_getElem_cons (by simpa using h)]; rfl
theorem drop_off (s : ByteArray) (p : Nat) (h : ¬ p < s.size) : s.data.toList.drop p = [] := List.drop_eq_nil_of_le (by simp; omega)
end Go.Proofs.YtjdgejfhnfnmgaaGreatDoor
namespace Go.Proofs.YtjdgejfhnfnmgaaGreatDoor
open Go.RowKit
theorem add_add' (a : Addr) (i j : Nat) : (a.add i).add j = a.add (i + j) := by
 unfold Addr.add
 by_cases hi : i = 0 <;> by_cases hj : j = 0 <;> simp [hi, hj, Nat.add_assoc]
def Rd (w : World) (B size : Nat) (A : Option Addr) (n : Nat) (xs : List Value) : Prop :=
 xs.length = n * size ∧ (n = 0 ∨ ∃ b o, A = some ⟨b, o, none⟩ ∧ b < B ∧ ∀ j u, xs[j]? = some u → w.cell? ⟨b, o + j, none⟩ = some u)
section
variable {w w' : World} {B B' size n : Nat} {A : Option Addr} {xs : List Value}
theorem Rd.nil : Rd w B size A 0 [] := ⟨by simp, .inl rfl⟩
theorem Rd.keep (h : Rd w B size A n xs) (hk : ∀ p : Addr, p.block < B → w'.cell? p = w.cell? p) : Rd w' B size A n xs :=
 ⟨h.1, h.2.imp id fun ⟨b, o, e, hb, hc⟩ => ⟨b, o, e, hb, fun j u hu => (hk _ hb).trans (hc j u hu)⟩⟩
theorem Rd.more (h : Rd w B size A n xs) (hB : B ≤ B') : Rd w B' size A n xs := ⟨h.1, h.2.imp id fun ⟨b, o, e, hb, hc⟩ => ⟨b, o, e, by omega, hc⟩⟩
theorem Rd.below (h : Rd w B size A n xs) (hb : Below B w w') : Rd w' B size A n xs := h.keep fun _ hp => hb.cell hp
theorem Rd.at_ (h : Rd w B size A n xs) (hn : 0 < n) : ∃ b o, A = some ⟨b, o, none⟩ ∧ b < B ∧ ∀ j u, xs[j]? = some u → w.cell? ⟨b, o + j, none⟩ = some u := by
 rcases h.2 with h | h
 ·omega
 ·exact h
end
theorem below_two {w : World} (o : Obj) : Below w.heap.size w (w.alloc o) := (Below.refl _ _).alloc (Nat.le_refl _) o
theorem drop_eq {α : Type} (l : List α) (k : Nat) (x : α) (h : l[k]? = some x) : l.drop k = x :: l.drop (k + 1) := by
 obtain ⟨hk, rfl⟩ := List.getElem?_eq_some_iff.1 h
 exact List.drop_eq_getElem_cons hk
def RdV (w : World) (B : Nat) (A : Option Addr) (n : Nat) (vs : List Vl) : Prop := Rd w B 3 A n (vs.flatMap Vl.cells)
theorem flat3_get {α : Type} (f : α → List Value) (hf : ∀ x, (f x).length = 3) (l : List α) (i j : Nat) (hj : j < 3) : (l.flatMap f)[3 * i + j]? = (l[i]?).bind fun x => (f x)[j]? := by
 induction l generalizing i with
 | nil => simp
 | cons x l ih =>
  rw [List.flatMap_cons]
  cases i with
  | zero => simp [List.getElem?_append, hf, hj]
  | succ i =>
   rw [List.getElem?_append_right (by rw [hf]; omega), hf, show 3 * (i + 1) + j - 3 = 3 * i + j by omega, ih i]
   simp
theorem RdV.len {w : World} {B n : Nat} {A : Option Addr} {vs : List Vl} (h : RdV w B A n vs) : vs.length = n := by
 have := h.1
 have e : (vs.flatMap Vl.cells).length = vs.length * 3 := by
  clear this h
  induction vs with
  | nil => rfl
  | cons x l ih => simp [List.flatMap_cons, Vl.cells] at *; omega
 omega
theorem RdV.at_ {w : World} {B n : Nat} {A : Option Addr} {vs : List Vl} (h : RdV w B A n vs) (k : Nat) (v : Vl) (hk : vs[k]? = some v) :
  ∃ b o, A = some ⟨b, o, none⟩ ∧ b < B ∧ w.cell? ⟨b, o + k * 3, none⟩ = some (.int .i64 v.k) ∧ w.cell? ⟨b, o + k * 3 + 1, none⟩ = some (.int .i64 v.n) ∧ w.cell? ⟨b, o + k * 3 + 2, none⟩ = some (.string v.s) := by
 have hl := h.len
 have hkn : k < n := by
  rw [← hl]
  rcases Nat.lt_or_ge k vs.length with h | h
  ·exact h
  ·rw [List.getElem?_eq_none h] at hk; cases hk
 obtain ⟨b, o, e, hb, hc⟩ := Rd.at_ h (by omega)
 have g := fun j (hj : j < 3) u (hu : (v.cells)[j]? = some u) => hc (3 * k + j) u (by rw [flat3_get _ (fun _ => rfl) _ _ _ hj, hk]; exact hu)
 have e3 : 3 * k = k * 3 := Nat.mul_comm _ _
 rw [e3] at g
 exact ⟨b, o, e, hb, g 0 (by omega) _ rfl, g 1 (by omega) _ rfl, g 2 (by omega) _ rfl⟩
def Blk (w : World) (g : Nat) (t : TypeId) (cs : Array Value) : Prop := w.heap[g]? = some (.cells cs t (0, 0))
section
variable {w w' : World} {g : Nat} {t : TypeId} {cs : Array Value}
theorem Blk.lt (h : Blk w g t cs) : g < w.heap.size := by
 rcases Nat.lt_or_ge g w.heap.size with hlt | hge
 ·exact hlt
 ·unfold Blk at h; rw [Array.getElem?_eq_none hge] at h; cases h
theorem Blk.cell (h : Blk w g t cs) (i : Nat) : w.cell? ⟨g, i, none⟩ = cs[i]? := cell_of_row w g i cs t (0, 0) h
theorem Blk.free (h : Blk w g t cs) (i : Nat) : w.frozen? ⟨g, i, none⟩ = false := frozen_of_row w g i cs t h
theorem Blk.fresh (w : World) (t : TypeId) (cs : Array Value) : Blk (w.alloc (.cells cs t)) w.heap.size t cs := heap_alloc_new w _
theorem Blk.alloc (h : Blk w g t cs) (o : Obj) : Blk (w.alloc o) g t cs := (Below.heap_alloc w o g h.lt).trans h
theorem Blk.put (h : Blk w g t cs) (i : Nat) (u : Value) : Blk (w.setCell ⟨g, i, none⟩ u) g t (cs.setIfInBounds i u) := heap_setCell_same w g i cs t u h
theorem Blk.far (h : Blk w g t cs) {p : Addr} (hp : g ≠ p.block) (u : Value) : Blk (w.setCell p u) g t cs := (Below.heap_setCell w p u g hp).trans h
theorem Blk.below {B : Nat} (h : Blk w g t cs) (hb : Below B w w') (hg : g < B) : Blk w' g t cs := (hb.block g hg).trans h
theorem Blk.turn (h : Blk w g t cs) {k : Nat} (hb : w.grownBy w' (some k)) (hg : g ≠ k) : Blk w' g t cs := (hb.block g h.lt (fun e => hg (by injection e))).trans h
end
theorem Blk.two {w : World} {g : Nat} {t : TypeId} {a b : Value} (h : Blk w g t #[a, b]) : w.cell? ⟨g, 0, none⟩ = some a ∧ w.cell? ⟨g, 1, none⟩ = some b ∧ w.frozen? ⟨g, 0, none⟩ = false ∧ w.frozen? ⟨g, 1, none⟩ = false ∧ g < w.heap.size :=
 ⟨h.cell 0, h.cell 1, h.free 0, h.free 1, h.lt⟩
theorem Blk.three {w : World} {g : Nat} {t : TypeId} {a b c : Value} (h : Blk w g t #[a, b, c]) : w.cell? ⟨g, 0, none⟩ = some a ∧ w.cell? ⟨g, 1, none⟩ = some b ∧ w.cell? ⟨g, 2, none⟩ = some c ∧
  w.frozen? ⟨g, 0, none⟩ = false ∧ w.frozen? ⟨g, 1, none⟩ = false ∧ w.frozen? ⟨g, 2, none⟩ = false ∧ g < w.heap.size :=
 ⟨h.cell 0, h.cell 1, h.cell 2, h.free 0, h.free 1, h.free 2, h.lt⟩
theorem turn_alloc {a w : World} {row : Option Nat} (h : a.grownBy w row) (o : Obj) : a.grownBy (w.alloc o) row :=
 ⟨h.os, h.tape, h.output, Nat.le_trans h.size (by simp), fun i hi hne => (Below.heap_alloc w o i (Nat.lt_of_lt_of_le hi h.size)).trans (h.block i hi hne)⟩
theorem turn_set {a w : World} {g : Nat} (h : a.grownBy w (some g)) {p : Addr} (hp : p.block = g ∨ a.heap.size ≤ p.block) (u : Value) : a.grownBy (w.setCell p u) (some g) :=
 ⟨h.os, h.tape, h.output, by simpa [World.setCell] using h.size, fun i hi hne => (Below.heap_setCell w p u i (by
  rintro rfl
  rcases hp with hp | hp
  ·exact hne (by rw [hp])
  ·omega)).trans (h.block i hi hne)⟩
theorem turn_put {a w : World} {g : Nat} (h : a.grownBy w (some g)) (i : Nat) (u : Value) : a.grownBy (w.setCell ⟨g, i, none⟩ u) (some g) := turn_set h (.inl rfl) u
theorem turn_drewN {a w : World} {row : Option Nat} (h : a.grownBy w row) (n : Nat) : a.grownBy (w.drewN n) row := ⟨h.os, h.tape, h.output, h.size, h.block⟩
theorem below_drewN {B : Nat} {a w : World} (h : Below B a w) (n : Nat) : Below B a (w.drewN n) := ⟨h.os, h.tape, h.output, h.size, h.block⟩
theorem below_turn {B g : Nat} {a b w : World} (h : Below B a b) (hb : b.grownBy w (some g)) (hg : B ≤ g) (hB : B ≤ b.heap.size) : Below B a w := h.grown hb hB (fun k e => by injection e with e; omega)
end Go.Proofs.YtjdgejfhnfnmgaaGreatDoor
namespace Go.Proofs.YtjdgejfhnfnmgaaGreatDoor
open Go.RowKit
attribute [go_sem] bs_size
@[go_sem] theorem wrap64_u8 (x : UInt8) : wrap64 (x.toNat : Int) = x.toNat := IntWalk.wrap64_in _ (by have := x.toNat_lt; omega)
section
variable {P : Program} {w : World} {ops : Array Oper} {rest : List Oper} {o : Oper} {a : Act} {Q : Exit → Act → World → Prop}
end
def conv1Else (P : Program) (src dst : TypeId) (b c : Nat) (W : World) : Result Value := (convert src dst (.slice (some ⟨b, 0, none⟩) 1 c)).run P W
def conv1K (els : Result Value) (W : World) : Option Value → Result Value
 | some (.int .u8 n) => .ok (.string (bs [UInt8.ofNat n.toNat])) W
 | _ => els
@[go_sem] theorem conv1K_some (els : Result Value) (W : World) (n : Int) : conv1K els W (some (.int .u8 n)) = .ok (.string (bs [UInt8.ofNat n.toNat])) W := rfl
theorem conv1_eq {P : Program} (src dst e : TypeId) (hs : P.underlying src = some (.slice e)) (he : P.underlying e = some (.int .u8)) (hd : P.underlying dst = some .string) (W : World) (b c : Nat) :
  (convert src dst (.slice (some ⟨b, 0, none⟩) 1 c)).run P W = conv1K (conv1Else P src dst b c W) W (W.cell? ⟨b, 0, none⟩) := by
 rcases h : W.cell? ⟨b, 0, none⟩ with _ | v
 ·rfl
 ·cases v with
  | int k n =>
   cases k
   case u8 =>
    rw [run_convert_bytes_arg (P := P) W src e hs he b 0 1 c [n] rfl (fun i hi => by obtain rfl : i = 0 := by omega
                                                                                     simpa using h) dst hd]
    rfl
   all_goals rfl
  | _ => rfl
@[go_sem] theorem conv1 (W : World) (b c : Nat) : (convert 87 9 (.slice (some ⟨b, 0, none⟩) 1 c)).run Tryz.prog W = conv1K (conv1Else Tryz.prog 87 9 b c W) W (W.cell? ⟨b, 0, none⟩) :=
 conv1_eq _ _ _ Tryz.underlying87 Tryz.underlying5 Tryz.underlying9 W b c
structure ElT (P : Program) (t e : TypeId) (z : Value) (size bytes : Nat) : Prop where
 ht : P.underlying t = some (.slice e)
 hi : ∃ i, P.info? e = some i ∧ i.zero = some z ∧ i.size = size ∧ i.bytes = bytes
 hzs : z.cells.size = size
 hsz : 0 < size
theorem elT_mk {P : Program} {t e : TypeId} {z : Value} {size bytes : Nat} (ht : P.underlying t = some (.slice e)) (h : (P.info? e).map (fun i => (i.zero, i.size, i.bytes)) = some (some z, size, bytes)) (hzs : z.cells.size = size) (hsz : 0 < size) : ElT P t e z size bytes :=
 ⟨ht, by obtain ⟨i, h1, h2, h3, h4⟩ := info_parts h; exact ⟨i, h1, h2, h3, h4⟩, hzs, hsz⟩
structure Left (w0 w' : World) (base : Nat) (v : Value) : Prop where
 below : Below base w0 w'
 far : ∀ p : Addr, p.block < w0.heap.size → v.ownBlock ≠ some p.block → w'.cell? p = w0.cell? p
 farz : ∀ p : Addr, p.block < w0.heap.size → v.ownBlock ≠ some p.block → w'.frozen? p = w0.frozen? p
 blk : ∀ g, g < w0.heap.size → v.ownBlock ≠ some g → w'.heap[g]? = w0.heap[g]?
theorem Left.new {w0 w1 : World} {base : Nat} {v : Value} {cs : Array Value} {t : TypeId} (h : Left (w0.alloc (.cells cs t)) w1 base v) (hne : v.ownBlock ≠ some w0.heap.size) (j : Nat) : w1.cell? ⟨w0.heap.size, j, none⟩ = cs[j]? :=
 (h.far ⟨w0.heap.size, j, none⟩ (by simp) hne).trans (cell_of_row _ _ _ _ _ _ (heap_alloc_new w0 _))
theorem own_ne {w : World} {base : Nat} {e : TypeId} {size n : Nat} {v : Value} {xs : List Value} (h : w.ownsRow base e size v n xs) {g : Nat} (hg : w.heap.size ≤ g) : v.ownBlock ≠ some g := fun he => by
 have := (h.lt _ he).2; omega
theorem rd_of_own {w : World} {base : Nat} {e : TypeId} {size n : Nat} {v : Value} {xs : List Value} (h : w.ownsRow base e size v n xs) : ∃ A c, v = .slice A n c ∧ Rd w w.heap.size size A n xs ∧ n ≤ maxLen := by
 rcases h.2 with ⟨rfl, rfl⟩ | ⟨g, cap, cur, rfl, _, hh, hnc, hcm, hcs, ht⟩
 ·exact ⟨none, 0, rfl, ⟨h.1, .inl rfl⟩, Nat.zero_le _⟩
 ·refine ⟨_, _, rfl, ⟨h.1, .inr ⟨g, 0, rfl, Blk.lt (t := e) (cs := cur) hh, fun j u hu => ?_⟩⟩, Nat.le_trans hnc hcm⟩
  rw [Nat.zero_add, cell_of_row w g j cur e (0, 0) hh]
  rw [← ht, List.getElem?_take] at hu
  split at hu
  ·simpa using hu
  ·cases hu
theorem own_vals {w : World} {base : Nat} {e : TypeId} {v : Value} {n : Nat} {vs : List Vl} {cs : List Value} (h : w.ownsRow base e 3 v n (cellsV vs ++ cs)) (u : Vl) (hcs : cs = u.cells) : w.ownsRow base e 3 v (vs ++ [u]).length (cellsV (vs ++ [u])) := by
 subst hcs
 rw [cellsV_snoc]
 have hn : (vs ++ [u]).length = n := by
  have := h.1
  rw [List.length_append, cellsV_len] at this
  simp at this ⊢
  omega
 rw [hn]
 exact h
theorem own_below {w w' : World} {base : Nat} {e : TypeId} {size n : Nat} {v : Value} {xs : List Value} (h : w.ownsRow base e size v n xs) (hb : Below w.heap.size w w') : w'.ownsRow base e size v n xs := by
 have hg : w.grownBy w' none := ⟨hb.os, hb.tape, hb.output, hb.size, fun k hk _ => hb.block k hk⟩
 refine h.kept hg ?_
 rcases hv : v.ownBlock with _ | g
 ·exact .inl rfl
 ·exact .inr (by simp)
theorem left_of {w0 w1 w' : World} {base : Nat} {e : TypeId} {size n : Nat} {v : Value} {xs : List Value} (hown : w0.ownsRow base e size v n xs) (hbase : base ≤ w0.heap.size)
  (h0 : ∀ row, w0.grownBy w1 row) (hg : w1.grownBy w' v.ownBlock) : Left w0 w' base v := by
 have hgg := (h0 v.ownBlock).trans hg
 have hb := hown.lt
 refine ⟨(Below.refl _ _).grown hgg hbase (fun k hk => (hb k hk).1), fun p hp hne => World.cell?_of_block (hgg.block _ hp (fun e => hne e.symm)), fun p hp hne => World.frozen?_of_block (hgg.block _ hp (fun e => hne e.symm)), fun g hp hne => hgg.block _ hp (fun e => hne e.symm)⟩
section
variable {P : Program} {w0 : World} {ops : Array Oper} {rest : List Oper} {o : Oper} {a : Act} {Q : Exit → Act → World → Prop}
theorem wpList_app (hgd : o.guard = none) (s x : Operand) {t e : TypeId} {z : Value} {size bytes : Nat} (E : ElT P t e z size bytes)
  (ho : o.op = .call { callee := .builtin .append, args := #[s, x], argTypes := #[t, t] })
  {base : Nat} {v : Value} {n : Nat} {xs : List Value} (hown : w0.ownsRow base e size v n xs) (hs : a.eval s = v)
  {cs : List Value} {te : TypeId} {g m c : Nat} (hx : a.eval x = .slice (some ⟨g, 0, none⟩) m c) (hg : g = w0.heap.size) (hl : cs.length = m * size) (h1 : (cs.all fun u => u.oneCell') = true)
  (h63 : n + m ≤ maxLen) (hbytes : (n + m) * bytes ≤ 140737488355328) (hbase : base ≤ w0.heap.size)
  (h : ∀ v' w', w'.ownsRow base e size v' (n + m) (xs ++ cs) → Left w0 w' base v → (v'.ownBlock = v.ownBlock ∨ v'.ownBlock = some (w0.heap.size + 1)) → wpList P ops Q rest (a.put o.dst v') w') : wpList P ops Q (o :: rest) a (w0.alloc (.cells cs.toArray te)) := by
 obtain ⟨i, hi, hz, hz1, hz2⟩ := E.hi
 subst hg
 have hnb : (w0.alloc (.cells cs.toArray te)).heap[w0.heap.size]? = some (.cells cs.toArray te (0, 0)) := heap_alloc_new w0 _
 refine wpList_append_own_at _ hgd s x t ho base e i z size bytes E.ht hi hz hz1 hz2 E.hzs E.hsz v n xs hs (hown.alloc _) ⟨w0.heap.size, 0, none⟩ m c cs hx hl ?_ (by simpa using h1) h63 hbytes (by simp; omega) ?_
 ·intro j u hj
  have := World.news_of_block hnb j u (by simpa using hj)
  exact this
 ·intro v' w' hown' hg _ hat
  exact h v' w' hown' (left_of hown hbase (fun row => World.grownBy_alloc _ _ _) hg) (by simpa using hat)
end
end Go.Proofs.YtjdgejfhnfnmgaaGreatDoor
