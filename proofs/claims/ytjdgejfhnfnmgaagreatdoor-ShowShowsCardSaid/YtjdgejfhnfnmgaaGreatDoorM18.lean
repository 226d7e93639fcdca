/-  -/
import Derived.Test.YtjdgejfhnfnmgaaGreatDoorM0
import Derived.Lib.Bytealg
import Derived.Test.YtjdgejfhnfnmgaaGreatDoorM16
import Derived.Lib.Join
import Derived.Test.YtjdgejfhnfnmgaaGreatDoorAxTy
import Derived.Test.YtjdgejfhnfnmgaaGreatDoorAxG5
namespace Go.Proofs.YtjdgejfhnfnmgaaGreatDoor
open Go.RowKit
set_option linter.unusedVariables false
instance : DecidableEq Vl := fun a b => decidable_of_iff _ (Vl.same_iff a b)
def placeF {α : Type} (p : α → Bool) : List α → Nat → Int
 | [], _ => -1
 | x :: l, i => if p x = true then (i : Int) else placeF p l (i + 1)
structure Col where
 name : ByteArray
 ty : Int
def isCol (nm : ByteArray) (c : Col) : Bool := c.name.toList == nm.toList
def findC (cols : List Col) (nm : ByteArray) : Int := placeF (isCol nm) cols 0
inductive Ex where
 | mk (k : Int) (v : Vl) (nm : ByteArray) (args : List Ex)
theorem Ex.ind {P : Ex → Prop} (h : ∀ k v nm ar, (∀ a ∈ ar, P a) → P (.mk k v nm ar)) : ∀ e, P e
 | .mk k v nm ar => h k v nm ar fun a ha => Ex.ind h a
termination_by e => SizeOf.sizeOf e
decreasing_by have := List.sizeOf_lt_of_mem ha; simp; omega
mutual
def sizeE : Ex → Int → Int
 | .mk _ _ _ ar, m => sizeL ar m 1
def sizeL : List Ex → Int → Int → Int
 | [], _, n => n
 | x :: l, m, n => if m < n then n else sizeL l m (n + sizeE x (m - n))
end
mutual
theorem sizeE_le : ∀ (e : Ex) (m : Int), 0 ≤ m → 1 ≤ sizeE e m ∧ sizeE e m ≤ m + 1
 | .mk _ _ _ ar, m, h => by rw [sizeE]; exact sizeL_le ar m 1 (by omega) (by omega)
theorem sizeL_le : ∀ (l : List Ex) (m n : Int), 1 ≤ n → n ≤ m + 1 → 1 ≤ sizeL l m n ∧ sizeL l m n ≤ m + 1
 | [], m, n, h1, h2 => by rw [sizeL]; omega
 | x :: l, m, n, h1, h2 => by
  rw [sizeL]
  split
  ·omega
  ·have := sizeE_le x (m - n) (by omega)
   exact sizeL_le l m _ (by omega) (by omega)
end
def argsK (k : Int) : Int := if k < 1 ∨ 11 < k then -1 else if k ≤ 2 then 0 else if k ≤ 4 then 1 else 2
def plainB (k : Int) (v : Vl) (nm : ByteArray) (n : Nat) : Bool := ((n : Int) == argsK k) && ((k == 2 || emptyS nm) && (k == 1 || v.same Vl.zero))
inductive Gx where
 | val (v : Vl)
 | col (nm : ByteArray)
 | un (k : Int) (x : Gx)
 | bin (k : Int) (x y : Gx)
def Gx.ex : Gx → Ex
 | .val v => .mk 1 v .empty []
 | .col nm => .mk 2 Vl.zero nm []
 | .un k x => .mk k Vl.zero .empty [x.ex]
 | .bin k x y => .mk k Vl.zero .empty [x.ex, y.ex]
def Gx.right (cols : List Col) : Gx → Prop
 | .val v => v.chk = 0
 | .col nm => 0 ≤ findC cols nm
 | .un k x => (k = 3 ∨ k = 4) ∧ x.right cols
 | .bin k x y => (5 ≤ k ∧ k ≤ 11) ∧ x.right cols ∧ y.right cols
theorem plain_inv {k : Int} {v : Vl} {nm : ByteArray} {n : Nat} (h : plainB k v nm n = true) : (n : Int) = argsK k ∧ (k ≠ 2 → nm = .empty) ∧ (k ≠ 1 → v = Vl.zero) := by
 simp only [plainB, Bool.and_eq_true, Bool.or_eq_true, beq_iff_eq, Vl.same_iff] at h
 exact ⟨h.1, fun g => emptyS_eq _ (h.2.1.resolve_left g), fun g => h.2.2.resolve_left g⟩
end Go.Proofs.YtjdgejfhnfnmgaaGreatDoor
namespace Go.Proofs.YtjdgejfhnfnmgaaGreatDoor
open Go.RowKit
def wordsL : List ByteArray := [⟨#[99, 114, 101, 97, 116, 101]⟩, ⟨#[116, 97, 98, 108, 101]⟩, ⟨#[100, 114, 111, 112]⟩, ⟨#[97, 108, 116, 101, 114]⟩, ⟨#[97, 100, 100]⟩, ⟨#[100, 101, 102, 97, 117, 108, 116]⟩, ⟨#[114, 101, 110, 97, 109, 101]⟩, ⟨#[116, 111]⟩, ⟨#[114, 101, 116, 121, 112, 101]⟩, ⟨#[105, 110, 100, 101, 120]⟩, ⟨#[111, 110]⟩, ⟨#[105, 110, 115, 101, 114, 116]⟩, ⟨#[105, 110, 116, 111]⟩, ⟨#[118, 97, 108, 117, 101, 115]⟩, ⟨#[100, 101, 108, 101, 116, 101]⟩, ⟨#[102, 114, 111, 109]⟩, ⟨#[119, 104, 101, 114, 101]⟩, ⟨#[117, 112, 100, 97, 116, 101]⟩, ⟨#[115, 101, 116]⟩, ⟨#[115, 101, 108, 101, 99, 116]⟩, ⟨#[111, 114, 100, 101, 114]⟩, ⟨#[98, 121]⟩, ⟨#[108, 105, 109, 105, 116]⟩, ⟨#[98, 101, 103, 105, 110]⟩, ⟨#[99, 111, 109, 109, 105, 116]⟩, ⟨#[114, 111, 108, 108, 98, 97, 99, 107]⟩, ⟨#[105, 110, 116]⟩, ⟨#[116, 101, 120, 116]⟩, ⟨#[98, 111, 111, 108]⟩, ⟨#[116, 114, 117, 101]⟩, ⟨#[102, 97, 108, 115, 101]⟩, ⟨#[110, 117, 108, 108]⟩, ⟨#[110, 111, 116]⟩, ⟨#[105, 115]⟩, ⟨#[97, 110, 100]⟩, ⟨#[111, 114]⟩]
def isWordB (s : ByteArray) : Bool := wordsL.any fun x => x.toList == s.toList
def nameB (s : ByteArray) : Bool := tokB 1 s && !isWordB s
mutual
def exprB : Ex → Bool
 | .mk k v nm ar => plainB k v nm ar.length && ((!(k == 2) || nameB nm) && ((v.chk == 0) && exprsB ar))
def exprsB : List Ex → Bool
 | [] => true
 | x :: l => exprB x && exprsB l
end
def Ex.k : Ex → Int | .mk k _ _ _ => k
def noneB : Ex → Bool
 | .mk k v nm ar => (k == 0) && (v.same Vl.zero && (emptyS nm && ((ar.length : Int) == 0)))
mutual
def sameE : Ex → Ex → Bool
 | .mk k v nm ar, .mk k' v' nm' ar' => (k == k') && ((nm.toList == nm'.toList) && (v.same v' && sameEs ar ar'))
def sameEs : List Ex → List Ex → Bool
 | [], [] => true
 | x :: l, y :: m => sameE x y && sameEs l m
 | _, _ => false
end
theorem sameEs_len : ∀ (l m : List Ex), sameEs l m = true → l.length = m.length
 | [], [], _ => rfl
 | x :: l, y :: m, h => by
  rw [sameEs, Bool.and_eq_true] at h
  rw [List.length_cons, List.length_cons, sameEs_len l m h.2]
 | [], _ :: _, h => by rw [sameEs] at h; cases h; all_goals simp
 | _ :: _, [], h => by rw [sameEs] at h; cases h; all_goals simp
theorem exprsB_any : ∀ l : List Ex, exprsB l = !(l.any fun x => !exprB x)
 | [] => rfl
 | x :: l => by
  rw [exprsB, List.any_cons, exprsB_any l]
  cases exprB x <;> simp
structure Cm where
 k : Int
 name : ByteArray
 other : ByteArray
 column : ByteArray
 cols : List Col
 ty : Int
 v : Vl
 vals : List Vl
 fields : List ByteArray
 ex : Ex
 all : Bool
 wh : Ex
 order : ByteArray
 limit : Int
def eqBy {α : Type} (p : α → α → Bool) : List α → List α → Bool
 | [], [] => true
 | a :: l, b :: m => p a b && eqBy p l m
 | _, _ => false
theorem eqBy_len {α : Type} (p : α → α → Bool) : ∀ (l m : List α), eqBy p l m = true → l.length = m.length
 | [], [], _ => rfl
 | x :: l, y :: m, h => by
  rw [eqBy, Bool.and_eq_true] at h
  rw [List.length_cons, List.length_cons, eqBy_len p l m h.2]
 | [], _ :: _, h => by simp [eqBy] at h
 | _ :: _, [], h => by simp [eqBy] at h
theorem eqBy_not {α : Type} {p : α → α → Bool} {l m : List α} (h : ¬ l.length = m.length) : eqBy p l m = false := by
 rw [Bool.eq_false_iff]
 exact fun g => h (eqBy_len p l m g)
theorem eqBy_drop {α : Type} {p : α → α → Bool} {l m : List α} {i : Nat} {x y : α} (hx : l[i]? = some x) (hy : m[i]? = some y) : eqBy p (l.drop i) (m.drop i) = (p x y && eqBy p (l.drop (i + 1)) (m.drop (i + 1))) := by
 rw [drop_eq' _ _ _ hx, drop_eq' _ _ _ hy, eqBy]
def colEq (a b : Col) : Bool := (a.name.toList == b.name.toList) && (a.ty == b.ty)
def strEq (a b : ByteArray) : Bool := a.toList == b.toList
def sameC (c d : Cm) : Bool :=
 (c.k == d.k) && (c.name.toList == d.name.toList) && (c.other.toList == d.other.toList) && (c.column.toList == d.column.toList) && (c.ty == d.ty) && c.v.same d.v && (c.all == d.all) && (c.order.toList == d.order.toList) && (c.limit == d.limit) &&
 sameE c.ex d.ex && sameE c.wh d.wh && eqBy colEq c.cols d.cols && eqBy strEq c.fields d.fields && eqBy Vl.same c.vals d.vals
def namedB (s : ByteArray) (must : Bool) : Bool := if must = true then nameB s else emptyS s
def kName (k : Int) : Bool := decide (1 ≤ k) && decide (k ≤ 13)
def kOther (k : Int) : Bool := (k == 5) || ((k == 7) || (k == 8))
def kColumn (k : Int) : Bool := (decide (3 ≤ k) && decide (k ≤ 6)) || ((k == 8) || (k == 12))
def kType (k : Int) : Bool := (k == 3) || (k == 6)
def kWhere (k : Int) : Bool := decide (11 ≤ k) && decide (k ≤ 13)
end Go.Proofs.YtjdgejfhnfnmgaaGreatDoor
namespace Go.Proofs.YtjdgejfhnfnmgaaGreatDoor
open Go.RowKit
def Gx.ok : Gx → Prop
 | .val v => v.chk = 0
 | .col nm => nameB nm = true
 | .un k x => (k = 3 ∨ k = 4) ∧ x.ok
 | .bin k x y => (5 ≤ k ∧ k ≤ 11) ∧ x.ok ∧ y.ok
theorem exprB_gx (e : Ex) : exprB e = true → ∃ g : Gx, g.ex = e ∧ g.ok := by
 induction e using Ex.ind with
 | h k v nm ar ih =>
  intro h
  rw [exprB] at h
  simp only [Bool.and_eq_true, Bool.or_eq_true, Bool.not_eq_true', beq_iff_eq, beq_eq_false_iff_ne, ne_eq] at h
  obtain ⟨h1, h2, h3, h4⟩ := h
  obtain ⟨p1, p2, p3⟩ := plain_inv h1
  unfold argsK at p1
  match ar, ih, h4, p1 with
  | [], _, _, p1 =>
   have hk : k = 1 ∨ k = 2 := by
    simp only [List.length_nil] at p1
    repeat' split at p1
    all_goals omega
   rcases hk with rfl | rfl
   ·exact ⟨.val v, by rw [Gx.ex, p2 (by omega)], h3⟩
   ·exact ⟨.col nm, by rw [Gx.ex, p3 (by omega)], h2.resolve_left (fun h => h rfl)⟩
  | [x], ih, h4, p1 =>
   have hk : k = 3 ∨ k = 4 := by
    simp only [List.length_cons, List.length_nil] at p1
    repeat' split at p1
    all_goals omega
   rw [exprsB, exprsB, Bool.and_true] at h4
   obtain ⟨g, rfl, hg⟩ := ih x (by simp) h4
   exact ⟨.un k g, by rw [Gx.ex, p2 (by omega), p3 (by omega)], hk, hg⟩
  | [x, y], ih, h4, p1 =>
   have hk : 5 ≤ k ∧ k ≤ 11 := by
    simp only [List.length_cons, List.length_nil] at p1
    repeat' split at p1
    all_goals omega
   rw [exprsB, exprsB, exprsB, Bool.and_true, Bool.and_eq_true] at h4
   obtain ⟨g, rfl, hg⟩ := ih x (by simp) h4.1
   obtain ⟨g', rfl, hg'⟩ := ih y (by simp) h4.2
   exact ⟨.bin k g g', by rw [Gx.ex, p2 (by omega), p3 (by omega)], hk, hg, hg'⟩
  | x :: y :: z :: l, _, _, p1 =>
   simp only [List.length_cons] at p1
   repeat' split at p1
   all_goals omega
def signs7 : List ByteArray := [⟨#[97, 110, 100]⟩, ⟨#[111, 114]⟩, ⟨#[43]⟩, ⟨#[45]⟩, ⟨#[124, 124]⟩, ⟨#[60]⟩, ⟨#[61]⟩]
def signT (k : Int) : ByteArray := signs7.getD (k - 5).toNat .empty
def gN : Gx → Nat
 | .val _ => 1
 | .col _ => 1
 | .un _ x => 1 + gN x
 | .bin _ x y => 1 + gN x + gN y
theorem sizeE_gN (g : Gx) : ∀ m : Int, 0 ≤ m → sizeE g.ex m ≤ m → sizeE g.ex m = gN g := by
 induction g with
 | val v => intro m _ _; rw [Gx.ex, sizeE, sizeL]; rfl
 | col nm => intro m _ _; rw [Gx.ex, sizeE, sizeL]; rfl
 | un k x ih =>
  intro m h0 h
  rw [Gx.ex, sizeE, sizeL] at h ⊢
  by_cases hm : m < 1
  ·rw [if_pos hm] at h; omega
  ·rw [if_neg hm, sizeL] at h ⊢
   rw [ih (m - 1) (by omega) (by omega), gN]
   omega
 | bin k x y ih1 ih2 =>
  intro m h0 h
  rw [Gx.ex, sizeE, sizeL] at h ⊢
  by_cases hm : m < 1
  ·rw [if_pos hm] at h; omega
  ·rw [if_neg hm, sizeL] at h ⊢
   by_cases hn : m < 1 + sizeE x.ex (m - 1)
   ·rw [if_pos hn] at h; omega
   ·rw [if_neg hn, sizeL] at h ⊢
    have e1 := ih1 (m - 1) (by omega) (by omega)
    rw [e1] at h hn ⊢
    have e2 := ih2 (m - (1 + gN x)) (by omega) (by omega)
    rw [e2, gN]
    omega
end Go.Proofs.YtjdgejfhnfnmgaaGreatDoor
namespace Go.Proofs.YtjdgejfhnfnmgaaGreatDoor
open Go.RowKit
def commaL (l : List ByteArray) : List UInt8 := Lib.join (l.map fun s => s.data.toList) [44, 32]
theorem comma_take {l : List ByteArray} {k : Nat} {s : ByteArray} (h : l[k]? = some s) : commaL (l.take (k + 1)) = commaL (l.take k) ++ (if k = 0 then [] else [44, 32]) ++ s.data.toList := by
 unfold commaL
 cases l with
 | nil => simp at h
 | cons x r =>
  cases k with
  | zero =>
   simp only [List.getElem?_cons_zero, Option.some.injEq] at h
   subst h
   rw [if_pos rfl]
   show Lib.join [x.data.toList] [44, 32] = Lib.join [] [44, 32] ++ [] ++ x.data.toList
   rw [Lib.join_one, Lib.join_nil]
   rfl
  | succ k =>
   rw [List.getElem?_cons_succ] at h
   rw [if_neg (by omega), List.take_succ_cons, List.take_succ_cons, List.map_cons, List.map_cons, Lib.join_cons, Lib.join_cons, List.map_take, List.map_take,
    Lib.joinTail_take_succ [44, 32] (r.map fun s => s.data.toList) k s.data.toList (by rw [List.getElem?_map, h]; rfl)]
   simp only [List.append_assoc]
theorem comma_le (l : List ByteArray) (k : Nat) : (commaL (l.take k)).length ≤ (commaL l).length := by
 unfold commaL
 cases l with
 | nil => simp
 | cons x r =>
  cases k with
  | zero => rw [List.take_zero, List.map_nil, Lib.join_nil]; exact Nat.zero_le _
  | succ k =>
   rw [List.take_succ_cons, List.map_cons, List.map_cons, Lib.join_cons, Lib.join_cons, List.map_take, List.length_append, List.length_append]
   exact Nat.add_le_add_left (Lib.joinTail_take_le _ _ _) _
end Go.Proofs.YtjdgejfhnfnmgaaGreatDoor
namespace Go.Proofs.YtjdgejfhnfnmgaaGreatDoor
open Go.RowKit
theorem runN_take (q : UInt8 → Bool) (l : List UInt8) (j : Nat) : runN q (l.take j) = min j (runN q l) := by
 induction l generalizing j with
 | nil => simp [runN]
 | cons x l ih =>
  cases j with
  | zero => simp [runN]
  | succ j =>
   simp only [List.take_succ_cons, runN, ih]
   split
   ·omega
   ·simp
theorem quot_lt {l : List UInt8} (h : quotEnds l = true) : quotN l < l.length := by
 unfold quotEnds at h
 rcases Nat.lt_or_ge (quotN l) l.length with h2 | h2
 ·exact h2
 ·rw [List.drop_eq_nil_of_le h2] at h; cases h
def Beh (S : List UInt8) : Prop := S = [] ∨ ∃ S', S = 32 :: S'
theorem Beh.run {S : List UInt8} (h : Beh S) (q : UInt8 → Bool) (hq : q 32 = false) : runN q S = 0 := by
 rcases h with rfl | ⟨S', rfl⟩
 ·rfl
 ·rw [runN, if_neg (by simp [hq])]
theorem bars_two (x y : UInt8) (S : List UInt8) : bars (x :: y :: S) = (x == 124 && y == 124) := by
 unfold bars Lib.hasPrefix
 simp only [List.isPrefixOf, Bool.and_true]
 rw [BEq.comm (a := (124 : UInt8)), BEq.comm (a := (124 : UInt8))]
theorem bars_one (x : UInt8) : bars [x] = false := by
 unfold bars Lib.hasPrefix
 simp [List.isPrefixOf]
theorem tokL_take (x : UInt8) (r : List UInt8) (h0 : (tokL x r).2.2 = 0) : tokL x (r.take ((tokL x r).2.1 - 1)) = tokL x r := by
 unfold tokL at h0 ⊢
 by_cases hl : letterB x = true
 ·simp only [if_pos hl, Nat.add_sub_cancel, runN_take, Nat.min_self]
 simp only [if_neg hl] at h0 ⊢
 by_cases hd : digitB x = true
 ·simp only [if_pos hd, Nat.add_sub_cancel, runN_take, Nat.min_self]
 simp only [if_neg hd] at h0 ⊢
 by_cases h39 : x = 39
 ·simp only [if_pos h39] at h0 ⊢
  by_cases hq : quotEnds r = true
  ·have hlt := quot_lt hq
   simp only [if_pos hq, show quotN r + 2 - 1 = quotN r + 1 from rfl]
   have e : quotN (r.take (quotN r + 1)) = quotN r := by
    rw [quotN, runN_take]
    show min (quotN r + 1) (quotN r) = _
    omega
   have e2 : quotEnds (r.take (quotN r + 1)) = true := by
    rw [← hq]
    unfold quotEnds
    rw [e, List.drop_take]
    obtain ⟨y, z, hyz⟩ : ∃ y z, r.drop (quotN r) = y :: z := ⟨_, _, List.drop_eq_getElem_cons hlt⟩
    rw [hyz, show quotN r + 1 - quotN r = 1 from by omega]; rfl
   rw [if_pos e2, e]
  ·rw [if_neg hq] at h0; simp at h0
 simp only [if_neg h39] at h0 ⊢
 by_cases hb : bars (x :: r) = true
 ·simp only [if_pos hb] at h0 ⊢
  rcases r with _ | ⟨y, z⟩
  ·rw [bars_one] at hb; cases hb
  ·rw [bars_two] at hb
   rw [if_pos (by simp only [List.take_succ_cons, List.take_zero, show 2 - 1 = 1 from rfl]; rw [bars_two]; exact hb)]
 simp only [if_neg hb] at h0 ⊢
 by_cases hs : sign1 x = true
 ·simp only [if_pos hs, Nat.sub_self, List.take_zero, bars_one, Bool.false_eq_true, if_false]
 ·simp only [if_neg hs] at h0; simp at h0
theorem tokB_of (x : UInt8) (r : List UInt8) (h0 : (tokL x r).2.2 = 0) (hsz : (tokL x r).2.1 ≤ 2000) : oneB (tokL x r).1 (bs ((x :: r).take (tokL x r).2.1)) = true := by
 obtain ⟨h1, h2⟩ := tokL_pos x r h0
 obtain ⟨m, hm⟩ : ∃ m, (tokL x r).2.1 = m + 1 := ⟨(tokL x r).2.1 - 1, by omega⟩
 have ht := tokL_take x r h0
 rw [one_tok]
 unfold tokB
 have hl : (bs ((x :: r).take (tokL x r).2.1)).data.toList = x :: r.take ((tokL x r).2.1 - 1) := by
  rw [hm]; rfl
 have hs : (bs ((x :: r).take (tokL x r).2.1)).size = (tokL x r).2.1 := by rw [bs_size, List.length_take, List.length_cons]; omega
 rw [hl, hs]
 dsimp only
 rw [tok_same x (r.take ((tokL x r).2.1 - 1)) (by rw [ht]; exact h0), ht]
 have hk := tokL_kind x r
 simp only [Bool.and_eq_true, Bool.not_eq_true', beq_eq_false_iff_ne, decide_eq_true_eq, beq_iff_eq]
 exact ⟨⟨⟨⟨hsz, by omega⟩, trivial⟩, trivial⟩, h0⟩
def allOne (vs : List Vl) : Bool := vs.all fun v => oneB v.k v.s
theorem size_list (s : ByteArray) : s.data.toList.length = s.size := by rw [Array.length_toList]; rfl
theorem scanF_both {f : Nat} {l : List UInt8} {p : Nat} {ts : List Vl} {q e : Nat} (h : scanF f l p = (ts, q, e)) : (e = 0 → q = 0) ∧ (¬ e = 0 → ts = []) := by
 cases f with
 | zero => simp [scanF] at h; obtain ⟨rfl, rfl, rfl⟩ := h; simp
 | succ f =>
  rw [scanF] at h
  split at h
  ·simp at h; obtain ⟨rfl, rfl, rfl⟩ := h; simp
  ·split at h
   ·split at h
    ·simp only [Prod.mk.injEq] at h
     obtain ⟨_, rfl, rfl⟩ := h
     simp
    ·rename_i h2
     simp only [Prod.mk.injEq] at h
     obtain ⟨rfl, h⟩ := h
     refine ⟨fun h3 => absurd ?_ h2, fun _ => rfl⟩
     rw [h]; exact h3
   ·rename_i h2
    simp only [Prod.mk.injEq] at h
    obtain ⟨rfl, rfl, rfl⟩ := h
    exact ⟨fun h3 => absurd h3 h2, fun _ => rfl⟩
theorem scanF_zero {f : Nat} {l : List UInt8} {p : Nat} {ts : List Vl} {q : Nat} (h : scanF f l p = (ts, q, 0)) : q = 0 := (scanF_both h).1 rfl
theorem scanF_one (f : Nat) (l : List UInt8) (p : Nat) (hl : l.length ≤ 2000) (ts : List Vl) (h : scanF f l p = (ts, 0, 0)) : allOne ts = true ∧ ts.length ≤ l.length := by
 induction f generalizing l p ts with
 | zero => simp [scanF] at h; subst h; simp [allOne]
 | succ f ih =>
  rcases hd : l.drop (runN blankB l) with _ | ⟨x, r⟩
  ·rw [← scanF_norm, scan_end _ _ _ _ hd] at h
   simp at h; subst h; simp [allOne]
  ·have hlr : r.length + 1 ≤ l.length := by
    have := congrArg List.length hd
    rw [List.length_drop, List.length_cons] at this; omega
   rw [scan_front _ _ _ _ _ hd] at h
   split at h
   ·rename_i h0
    obtain ⟨h1, h2⟩ := tokL_pos x r h0
    rcases hF : scanF f ((x :: r).drop (tokL x r).2.1) (p + runN blankB l + (tokL x r).2.1) with ⟨us, q, e⟩
    rw [hF, comb] at h
    split at h
    ·rename_i he
     simp only at he
     subst he
     simp only [List.singleton_append, Prod.mk.injEq, and_true] at h
     have hq : q = 0 := scanF_zero hF
     subst hq
     obtain ⟨a1, a2⟩ := ih _ _ (by rw [List.length_drop, List.length_cons]; omega) us hF
     rw [List.length_drop, List.length_cons] at a2
     subst h
     refine ⟨?_, by rw [List.length_cons]; omega⟩
     simp only [allOne, List.all_cons, Bool.and_eq_true] at a1 ⊢
     exact ⟨tokB_of x r h0 (by omega), a1⟩
    ·rename_i he; simp at h; exact absurd h.2.2 he
   ·rename_i h0; simp at h; exact absurd h.2.2 h0
theorem scanS_one (s : ByteArray) (h : (scanS s).2.2 = 0) : allOne (scanS s).1 = true ∧ (scanS s).2.1 = 0 := by
 unfold scanS at h ⊢
 split at h
 ·cases h
 ·rename_i h2
  rw [if_neg h2]
  rcases hF : scanF (s.size + 1) s.data.toList 0 with ⟨ts, q, e⟩
  rw [hF] at h
  simp only at h
  subst h
  have := scanF_zero hF
  subst this
  exact ⟨(scanF_one _ _ _ (by rw [size_list]; omega) _ hF).1, rfl⟩
end Go.Proofs.YtjdgejfhnfnmgaaGreatDoor
namespace Go.Proofs.YtjdgejfhnfnmgaaGreatDoor
open Go.RowKit
structure RS where
 at_ : Nat
 bad : Bool
def txQ (l : List Vl) (r : RS) : ByteArray := if r.bad = true then ⟨#[]⟩ else match l[r.at_]? with
 | some t => t.s
 | none => ⟨#[]⟩
def takeQ (l : List Vl) (s : ByteArray) (r : RS) : Bool × RS := if r.bad = true then (false, r) else if strEq (txQ l r) s = true then (true, ⟨r.at_ + 1, false⟩) else (false, r)
def needQ (l : List Vl) (s : ByteArray) (r : RS) : RS := if (takeQ l s r).1 = true then (takeQ l s r).2 else ⟨r.at_, true⟩
def nameQ (l : List Vl) (r : RS) : ByteArray × RS := if nameB (txQ l r) = true then (txQ l r, ⟨r.at_ + 1, r.bad⟩) else (⟨#[]⟩, ⟨r.at_, true⟩)
theorem txQ_bad {l : List Vl} {r : RS} (h : r.bad = true) : txQ l r = ⟨#[]⟩ := by unfold txQ; rw [if_pos h]
theorem txQ_some {l : List Vl} {r : RS} {t : Vl} (h : r.bad = false) (ht : l[r.at_]? = some t) : txQ l r = t.s := by unfold txQ; rw [if_neg (by rw [h]; decide), ht]
theorem txQ_none {l : List Vl} {r : RS} (ht : l[r.at_]? = none) : txQ l r = ⟨#[]⟩ := by
 unfold txQ
 split
 ·rfl
 ·rw [ht]
theorem strEq_iff {a b : ByteArray} : strEq a b = true ↔ a = b := by
 unfold strEq
 rw [ByteArray.toList_eq, ByteArray.toList_eq, beq_iff_eq]
 constructor
 ·intro h
  exact ByteArray.ext (Array.ext' h)
 ·intro h; rw [h]
def fst8 (u : ByteArray) : Option UInt8 := u.data.toList.head?
def digF (u : ByteArray) : Bool := match fst8 u with
 | some c => digitB c
 | none => false
def quoF (u : ByteArray) : Bool := match fst8 u with
 | some c => c == 39
 | none => false
def numL (l : List UInt8) : Int := l.foldl (fun n c => 10 * n + (c.toNat : Int) - 48) 0
def numQ (l : List Vl) (r : RS) : Int × RS := if digF (txQ l r) = true then (numL (txQ l r).data.toList, ⟨r.at_ + 1, r.bad⟩) else (0, ⟨r.at_, true⟩)
def wTrue : ByteArray := ⟨#[116, 114, 117, 101]⟩
def wFalse : ByteArray := ⟨#[102, 97, 108, 115, 101]⟩
def wNull : ByteArray := ⟨#[110, 117, 108, 108]⟩
def isVB (u : ByteArray) : Bool := strEq u wTrue || (strEq u wFalse || (strEq u wNull || (strEq u ⟨#[45]⟩ || (digF u || quoF u))))
def unq (u : ByteArray) : ByteArray := u.extract 1 (u.size - 1)
def vQ (l : List Vl) (r : RS) : Vl × RS :=
 if isVB (txQ l r) = false then (⟨0, 0, ⟨#[]⟩⟩, ⟨r.at_, true⟩)
 else if strEq (txQ l r) wTrue = true then (⟨3, 1, ⟨#[]⟩⟩, ⟨r.at_ + 1, r.bad⟩)
 else if strEq (txQ l r) wFalse = true then (⟨3, 0, ⟨#[]⟩⟩, ⟨r.at_ + 1, r.bad⟩)
 else if strEq (txQ l r) wNull = true then (⟨0, 0, ⟨#[]⟩⟩, ⟨r.at_ + 1, r.bad⟩)
 else if strEq (txQ l r) ⟨#[45]⟩ = true then
  (⟨1, -(numQ l (if strEq (txQ l ⟨r.at_ + 1, r.bad⟩) ⟨#[48]⟩ = true then ⟨r.at_ + 1, true⟩ else ⟨r.at_ + 1, r.bad⟩)).1, ⟨#[]⟩⟩, (numQ l (if strEq (txQ l ⟨r.at_ + 1, r.bad⟩) ⟨#[48]⟩ = true then ⟨r.at_ + 1, true⟩ else ⟨r.at_ + 1, r.bad⟩)).2)
 else if quoF (txQ l r) = true then (⟨2, 0, unq (txQ l r)⟩, ⟨r.at_ + 1, r.bad⟩)
 else (⟨1, (numQ l r).1, ⟨#[]⟩⟩, (numQ l r).2)
def wAnd7 : List ByteArray := [⟨#[97, 110, 100]⟩, ⟨#[111, 114]⟩, ⟨#[43]⟩, ⟨#[45]⟩, ⟨#[124, 124]⟩, ⟨#[60]⟩, ⟨#[61]⟩]
def signK (u : ByteArray) : Nat → Int
 | 0 => 0
 | i + 1 => if strEq u (wAnd7.getD i ⟨#[]⟩) = true then 5 + (i : Int) else signK u i
def signQ (u : ByteArray) : Int := signK u 7
def wOpen : ByteArray := ⟨#[40]⟩
def wShut : ByteArray := ⟨#[41]⟩
def wNot : ByteArray := ⟨#[110, 111, 116]⟩
def wIs : ByteArray := ⟨#[105, 115]⟩
def exQ (l : List Vl) : Nat → RS → Ex × RS
 | 0, r =>
  if (strEq (txQ l r) wOpen || strEq (txQ l r) wNot) = true then (.mk 0 Vl.zero .empty [], ⟨r.at_, true⟩)
  else if isVB (txQ l r) = true then (.mk 1 (vQ l r).1 .empty [], (vQ l r).2)
  else (.mk 2 Vl.zero (nameQ l r).1 [], (nameQ l r).2)
 | f + 1, r =>
  if strEq (txQ l r) wNot = true then
   (.mk 3 Vl.zero .empty [(exQ l f ⟨r.at_ + 1, r.bad⟩).1], (exQ l f ⟨r.at_ + 1, r.bad⟩).2)
  else if strEq (txQ l r) wOpen = true then
   let a := exQ l f ⟨r.at_ + 1, r.bad⟩
   let t := takeQ l wIs a.2
   if t.1 = true then (.mk 4 Vl.zero .empty [a.1], needQ l wShut (needQ l wNull t.2))
   else
    let k := signQ (txQ l t.2)
    let r3 : RS := if k = 0 then ⟨t.2.at_, true⟩ else needQ l (wAnd7.getD (k - 5).toNat ⟨#[]⟩) t.2
    let b := exQ l f r3
    (.mk k Vl.zero .empty [a.1, b.1], needQ l wShut b.2)
  else if isVB (txQ l r) = true then (.mk 1 (vQ l r).1 .empty [], (vQ l r).2)
  else (.mk 2 Vl.zero (nameQ l r).1 [], (nameQ l r).2)
theorem needQ_le {l : List Vl} {s : ByteArray} {r : RS} (h : (takeQ l s r).2.at_ ≤ l.length) (hr : r.at_ ≤ l.length) : (needQ l s r).at_ ≤ l.length := by
 unfold needQ
 split
 ·exact h
 ·exact hr
structure GoodL (l : List Vl) : Prop where
 len : l.length ≤ 2000
 tok : ∀ t ∈ l, tokB t.k t.s = true
theorem tok_facts {k : Int} {s : ByteArray} (h : tokB k s = true) : ∃ x r, s.data.toList = x :: r ∧ s.size ≤ 2000 ∧ (tokA x r).1 = k ∧ (tokA x r).2 = s.size ∧ (tokL x r).2.2 = 0 := by
 unfold tokB at h
 split at h
 ·cases h
 ·rename_i x r hs
  simp only [Bool.and_eq_true, decide_eq_true_eq, beq_iff_eq] at h
  exact ⟨x, r, hs, h.1.1.1.1, h.1.1.2, h.1.2, h.2⟩
theorem letter_digit {x : UInt8} (h : letterB x = true) : digitB x = false ∧ (x == 39) = false := by
 unfold letterB at h
 unfold digitB
 simp only [Bool.and_eq_true, decide_eq_true_eq] at h
 constructor
 ·simp only [Bool.and_eq_false_iff, decide_eq_false_iff_not]; omega
 ·rw [beq_eq_false_iff_ne]
  rintro rfl
  have : (39 : UInt8).toNat = 39 := rfl
  omega
theorem digit_quo {x : UInt8} (h : digitB x = true) : (x == 39) = false := by
 unfold digitB at h
 simp only [Bool.and_eq_true, decide_eq_true_eq] at h
 rw [beq_eq_false_iff_ne]
 rintro rfl
 have : (39 : UInt8).toNat = 39 := rfl
 omega
theorem fst8_of {s : ByteArray} {x : UInt8} {r : List UInt8} (h : s.data.toList = x :: r) : fst8 s = some x := by unfold fst8; rw [h]; rfl
theorem tok_num {k : Int} {s : ByteArray} (h : tokB k s = true) : (digF s = true ↔ k = 2) ∧ (k = 2 → s.size ≤ 9 ∧ s.data.toList.all digitB = true) ∧ (quoF s = true ↔ k = 3) ∧ (k = 3 → 2 ≤ s.size ∧ s.size ≤ 22) := by
 obtain ⟨x, r, hs, hz, h1, h2, h3⟩ := tok_facts h
 have hsz : s.size = r.length + 1 := by
  have : s.data.toList.length = s.size := rfl
  rw [hs, List.length_cons] at this
  omega
 unfold digF quoF
 rw [fst8_of hs]
 dsimp only
 unfold tokA at h1 h2
 unfold tokL at h3
 by_cases c1 : letterB x = true
 ·rw [if_pos c1] at h1 h2
  obtain ⟨d1, d2⟩ := letter_digit c1
  rw [d1, d2]
  dsimp only at h1
  exact ⟨⟨fun h => (by cases h), fun h => (by omega)⟩, fun h => (by omega), ⟨fun h => (by cases h), fun h => (by omega)⟩, fun h => (by omega)⟩
 ·rw [if_neg c1] at h1 h2 h3
  by_cases c2 : digitB x = true
  ·rw [if_pos c2] at h1 h2 h3
   dsimp only at h1 h2 h3
   rw [c2, digit_quo c2]
   refine ⟨⟨fun _ => (by omega), fun _ => rfl⟩, fun _ => ⟨?_, ?_⟩, ⟨fun h => (by cases h), fun h => (by omega)⟩, fun h => (by omega)⟩
   ·split at h3
    ·cases h3
    ·omega
   ·rw [hs, List.all_cons, c2, Bool.true_and]
    have hr : runN digitB r = r.length := by omega
    have key : ∀ l : List UInt8, runN digitB l = l.length → l.all digitB = true := by
     intro l
     induction l with
     | nil => intro _; rfl
     | cons y l ih =>
      intro hl
      rw [runN] at hl
      split at hl
      ·rename_i hy
       rw [List.all_cons, hy, Bool.true_and]
       exact ih (by rw [List.length_cons] at hl; omega)
      ·rw [List.length_cons] at hl; omega
    exact key r hr
  ·rw [if_neg c2] at h1 h2 h3
   rw [Bool.not_eq_true] at c2
   rw [c2]
   by_cases c3 : x = 39
   ·rw [if_pos c3] at h1 h2 h3
    subst c3
    split at h1
    ·rename_i hq
     rw [if_pos hq] at h2 h3
     dsimp only at h1 h2 h3
     refine ⟨⟨fun h => (by cases h), fun h => (by omega)⟩, fun h => (by omega), ⟨fun _ => (by omega), fun _ => rfl⟩, fun _ => ⟨by omega, ?_⟩⟩
     split at h3
     ·cases h3
     ·omega
    ·rename_i hq
     rw [if_neg hq] at h3
     cases h3
   ·rw [if_neg c3] at h1 h2 h3
    have c4 : (x == 39) = false := by rw [beq_eq_false_iff_ne]; exact c3
    rw [c4]
    have hk : k ≠ 2 ∧ k ≠ 3 := by
     split at h1
     ·dsimp only at h1; omega
     ·split at h1
      ·dsimp only at h1; omega
      ·dsimp only at h1; omega
    exact ⟨⟨fun h => (by cases h), fun h => absurd h hk.1⟩, fun h => absurd h hk.1, ⟨fun h => (by cases h), fun h => absurd h hk.2⟩, fun h => absurd h hk.2⟩
theorem txQ_mem {l : List Vl} {r : RS} (h : txQ l r ≠ ⟨#[]⟩) : r.bad = false ∧ ∃ t, l[r.at_]? = some t ∧ txQ l r = t.s := by
 unfold txQ at h ⊢
 split at h
 ·exact absurd rfl h
 ·rename_i hb
  rw [if_neg hb]
  rw [Bool.not_eq_true] at hb
  refine ⟨hb, ?_⟩
  split at h
  ·rename_i t ht; exact ⟨t, ht, rfl⟩
  ·exact absurd rfl h
theorem txQ_size {l : List Vl} (hl : GoodL l) (r : RS) : (txQ l r).size ≤ 2000 := by
 by_cases h : txQ l r = ⟨#[]⟩
 ·rw [h]; decide
 ·obtain ⟨_, t, h1, h2⟩ := txQ_mem h
  obtain ⟨x, s, h3, h4, _⟩ := tok_facts (hl.tok t (List.mem_of_getElem? h1))
  rw [h2]
  exact h4
theorem digF_ne {u : ByteArray} (h : digF u = true) : u ≠ ⟨#[]⟩ := by rintro rfl; cases h
theorem quoF_ne {u : ByteArray} (h : quoF u = true) : u ≠ ⟨#[]⟩ := by rintro rfl; cases h
theorem txQ_num {l : List Vl} (hl : GoodL l) {r : RS} (h : digF (txQ l r) = true) : (txQ l r).size ≤ 9 ∧ (txQ l r).data.toList.all digitB = true ∧ r.bad = false ∧ r.at_ < l.length := by
 obtain ⟨h0, t, h1, h2⟩ := txQ_mem (digF_ne h)
 rw [h2] at h ⊢
 obtain ⟨g1, g2, _⟩ := tok_num (hl.tok t (List.mem_of_getElem? h1))
 exact ⟨(g2 (g1.1 h)).1, (g2 (g1.1 h)).2, h0, (List.getElem?_eq_some_iff.1 h1).1⟩
theorem txQ_quo {l : List Vl} (hl : GoodL l) {r : RS} (h : quoF (txQ l r) = true) : 2 ≤ (txQ l r).size ∧ (txQ l r).size ≤ 22 ∧ r.bad = false ∧ r.at_ < l.length := by
 obtain ⟨h0, t, h1, h2⟩ := txQ_mem (quoF_ne h)
 rw [h2] at h ⊢
 obtain ⟨_, _, g1, g2⟩ := tok_num (hl.tok t (List.mem_of_getElem? h1))
 exact ⟨(g2 (g1.1 h)).1, (g2 (g1.1 h)).2, h0, (List.getElem?_eq_some_iff.1 h1).1⟩
theorem txQ_lt {l : List Vl} {r : RS} (h : txQ l r ≠ ⟨#[]⟩) : r.bad = false ∧ r.at_ < l.length := by
 obtain ⟨h0, t, h1, h2⟩ := txQ_mem h
 exact ⟨h0, (List.getElem?_eq_some_iff.1 h1).1⟩
theorem numL_step {l : List UInt8} {i : Nat} {c : UInt8} (h : l[i]? = some c) : numL (l.take (i + 1)) = 10 * numL (l.take i) + (c.toNat : Int) - 48 := by
 obtain ⟨hk, rfl⟩ := List.getElem?_eq_some_iff.1 h
 unfold numL
 rw [List.take_succ_eq_append_getElem hk, List.foldl_append]
 rfl
theorem numL_range {l : List UInt8} (h : l.all digitB = true) : ∀ i, i ≤ l.length → 0 ≤ numL (l.take i) ∧ numL (l.take i) < 10 ^ i
 | 0, _ => by rw [List.take_zero]; exact ⟨by decide, by decide⟩
 | i + 1, hi => by
  obtain ⟨c, hc⟩ : ∃ c, l[i]? = some c := ⟨_, List.getElem?_eq_getElem (by omega)⟩
  obtain ⟨h1, h2⟩ := numL_range h i (by omega)
  have hd := List.all_eq_true.1 h c (List.mem_of_getElem? hc)
  unfold digitB at hd
  simp only [Bool.and_eq_true, decide_eq_true_eq] at hd
  rw [numL_step hc, Int.pow_succ]
  omega
theorem numL_small {l : List UInt8} (h : l.all digitB = true) (hl : l.length ≤ 9) (i : Nat) (hi : i ≤ l.length) : 0 ≤ numL (l.take i) ∧ numL (l.take i) < 1000000000 := by
 obtain ⟨h1, h2⟩ := numL_range h i hi
 refine ⟨h1, Int.lt_of_lt_of_le h2 ?_⟩
 have : (10 : Int) ^ i ≤ 10 ^ 9 := by
  have : (10 : Nat) ^ i ≤ 10 ^ 9 := Nat.pow_le_pow_right (by decide) (by omega)
  exact_mod_cast this
 exact this
end Go.Proofs.YtjdgejfhnfnmgaaGreatDoor
namespace Go.Proofs.YtjdgejfhnfnmgaaGreatDoor.Ax
open Go.RowKit
set_option linter.unusedSimpArgs false
attribute [local go_sem] extV appD cutOwn appOwn clearOwn bdI mapD putD' keyOk getOr getM putM wholeV litCs asV asC ptrC fnC nilC nilPtr strRows_len runs runsN guardOf exec1 pureV modD rowD ev get St.app St.put St.turn loadC moveC fieldOf indexC lenC lenOk cutC bndOf evAll fieldV convV unV binV binI bitsV moreV intsT eqL eq1 valOf min1 lit1 litInt litI litB litS constV constC cellsV partsOf placesOf buildV fillL toT elemsOf rowsOf baseOf dstOk V.kill V.ment V.ments C.kill C.ment C.ments B.kill setD litRows litRows_append T.isLit callAll calleeV argsV argV viewC viewCs modeOk freeOps V.free C.free V.allF V.allFs C.allF C.allFs B.allF callD leL growSt C.flat V.flat B.flat flatL flatB St.flat List.set_cons_zero List.set_cons_succ C.only C.onlys V.only V.onlys B.only renI C.ren C.rens V.ren V.rens B.ren renB renOk nodK Option.getD_some Option.getD_none Option.isSome_some implies_true false_implies C.fit C.fits V.fit V.fit1 V.fits Bool.and_self ite_self exitV resV resL resC outV outV.outs eqB nn cast0 Int.toNat_natCast List.getElem?_map Value.cells Value.oneCell' Nat.lt_irrefl decide_true decide_false and_true true_and and_self and_false false_and not_true_eq_false not_false_eq_true not_true not_false List.size_toArray all_len Nat.zero_add Nat.add_zero List.length_cons List.length_append List.length_replicate List.length_set List.length_nil List.length_map List.map_cons List.map_nil List.take_succ_cons List.take_zero List.take_nil List.drop_succ_cons List.drop_zero List.drop_nil List.cons_append List.nil_append List.append_nil List.all_cons List.all_nil Bool.and_true Bool.true_and Bool.and_false Bool.false_and Bool.not_true Bool.not_false Bool.or_false Bool.or_true Bool.false_or Bool.true_or List.filter_cons List.filter_nil List.contains_cons List.contains_nil beq_self_eq_true List.getElem?_cons_zero List.getElem?_cons_succ List.getElem?_nil Option.map_some Option.map_none Option.toList_some Option.toList_none List.isEmpty_cons List.isEmpty_nil Bool.false_eq_true Bool.true_eq_false List.getElem?_toArray List.not_mem_nil List.mem_cons or_false forall_eq List.mem_singleton forall_const Option.toArray tailF addF flSl dKeeps flFree closF notF if_true if_false plans inD cleanSt dstsOf Oper.looksAt Op.operands Call.operands dnOf insN insAll prods pick stOf goneOf slOf blOf keepB' entD addB edge B.ment Region.binds tailOk clos List.any_cons List.any_nil List.filterMap_cons List.filterMap_nil ne_eq Bool.or_self List.isEmpty_iff Array.toList_append List.append_toArray Array.append_empty Option.bind_some Option.bind_none List.push_toArray
abbrev rV1 (v : Vl) : List T := [.lit (.int .i64 v.k), .lit (.int .i64 v.n), .lit (.string v.s)]
abbrev aV1 (v : Vl) : A := .agg (rV1 v)
abbrev rVs (l : List Vl) : List (List T) := l.map rV1
theorem nilE : (⟨#[]⟩ : ByteArray).toList = [] := ByteArray.toList_mk []
theorem isE (s : ByteArray) : (s.toList == (⟨#[]⟩ : ByteArray).toList) = emptyS s := by
 rw [nilE]
 unfold emptyS
 cases s.toList <;> rfl
theorem sameZ (v : Vl) : ((v.k == 0) && ((v.n == 0) && emptyS v.s)) = v.same Vl.zero := by
 unfold Vl.same Vl.zero emptyS
 rw [show ByteArray.empty = (⟨#[]⟩ : ByteArray) from rfl, nilE, Bool.and_assoc]
 cases v.s.toList <;> rfl
end Go.Proofs.YtjdgejfhnfnmgaaGreatDoor.Ax
