/-  -/
import Derived.Test.YtjdgejfhnfnmgaaGreatDoorM16
import Derived.Lib.Join
namespace Go.Proofs.YtjdgejfhnfnmgaaGreatDoor
open Go.RowKit
def scanF : Nat → List UInt8 → Nat → List Vl × Nat × Nat
 | 0, _, _ => ([], 0, 0)
 | f + 1, l, p =>
  match l.drop (runN blankB l) with
  | [] => ([], 0, 0)
  | x :: r =>
   if (tokL x r).2.2 = 0 then
    (if (scanF f ((x :: r).drop (tokL x r).2.1) (p + runN blankB l + (tokL x r).2.1)).2.2 = 0 then
     (⟨(tokL x r).1, (p + runN blankB l : Nat), bs ((x :: r).take (tokL x r).2.1)⟩ :: (scanF f ((x :: r).drop (tokL x r).2.1) (p + runN blankB l + (tokL x r).2.1)).1, 0, 0)
    else ([], (scanF f ((x :: r).drop (tokL x r).2.1) (p + runN blankB l + (tokL x r).2.1)).2))
   else ([], p + runN blankB l, (tokL x r).2.2)
def scanS (s : ByteArray) : List Vl × Nat × Nat := if 2000 < s.size then ([], 0, 2) else scanF (s.size + 1) s.data.toList 0
def comb (vs : List Vl) (r : List Vl × Nat × Nat) : List Vl × Nat × Nat := if r.2.2 = 0 then (vs ++ r.1, 0, 0) else ([], r.2)
theorem tokL_pos (x : UInt8) (r : List UInt8) (h : (tokL x r).2.2 = 0) : 0 < (tokL x r).2.1 ∧ (tokL x r).2.1 ≤ r.length + 1 := by
 have h1 := runN_le wordB r
 have h2 := runN_le digitB r
 have h3 := runN_le quotB r
 unfold tokL at h ⊢
 split at h
 ·rename_i hl; rw [if_pos hl]; simp only; omega
 rename_i hl
 split at h
 ·rename_i hd; rw [if_neg hl, if_pos hd]; simp only; omega
 rename_i hd
 split at h
 ·rename_i h39
  split at h
  ·rename_i hq
   rw [if_neg hl, if_neg hd, if_pos h39, if_pos hq]
   simp only [quotN]
   have : runN quotB r < r.length := by
    unfold quotEnds quotN at hq
    rcases Nat.lt_or_ge (runN quotB r) r.length with h | h
    ·exact h
    ·rw [List.drop_eq_nil_of_le h] at hq; cases hq
   omega
  ·cases h
 rename_i h39
 split at h
 ·rename_i hb
  rw [if_neg hl, if_neg hd, if_neg h39, if_pos hb]
  have : [124, 124] <+: x :: r := List.isPrefixOf_iff_prefix.1 hb
  have := this.length_le
  simp at this ⊢
  omega
 rename_i hb
 split at h
 ·rename_i hs; rw [if_neg hl, if_neg hd, if_neg h39, if_neg hb, if_pos hs]; simp
 ·cases h
theorem scan_step (f : Nat) (l : List UInt8) (p : Nat) (x : UInt8) (r : List UInt8) (vs : List Vl) (hl : l.drop (runN blankB l) = x :: r) (h0 : (tokL x r).2.2 = 0) :
  comb vs (scanF (f + 1) l p) = comb (vs ++ [⟨(tokL x r).1, (p + runN blankB l : Nat), bs ((x :: r).take (tokL x r).2.1)⟩]) (scanF f ((x :: r).drop (tokL x r).2.1) (p + runN blankB l + (tokL x r).2.1)) := by
 rw [scanF, hl]
 simp only
 rw [if_pos h0]
 simp only [comb]
 split
 ·simp
 ·simp
theorem scan_bad (f : Nat) (l : List UInt8) (p : Nat) (x : UInt8) (r : List UInt8) (vs : List Vl) (hl : l.drop (runN blankB l) = x :: r) (h0 : ¬ (tokL x r).2.2 = 0) :
  comb vs (scanF (f + 1) l p) = ([], p + runN blankB l, (tokL x r).2.2) := by
 rw [scanF, hl]
 simp only
 rw [if_neg h0]
 simp [comb, h0]
theorem scan_end (f : Nat) (l : List UInt8) (p : Nat) (vs : List Vl) (hl : l.drop (runN blankB l) = []) : comb vs (scanF (f + 1) l p) = (vs, 0, 0) := by
 rw [scanF, hl]
 simp [comb]
theorem scanF_norm (f : Nat) (l : List UInt8) (p : Nat) : comb [] (scanF f l p) = scanF f l p := by
 cases f with
 | zero => simp [scanF, comb]
 | succ f =>
  rw [scanF]
  split
  ·simp [comb]
  ·split
   ·split
    ·simp [comb]
    ·rename_i h; simp [comb, h]
   ·rename_i h; simp [comb, h]
end Go.Proofs.YtjdgejfhnfnmgaaGreatDoor
namespace Go.Proofs.YtjdgejfhnfnmgaaGreatDoor
open Go.RowKit
def tokA (x : UInt8) (l : List UInt8) : Nat × Nat :=
 if letterB x = true then (1, runN wordB l + 1)
 else if digitB x = true then (2, runN digitB l + 1)
 else if x = 39 then (if quotEnds l = true then (3, quotN l + 2) else (0, 0))
 else if bars (x :: l) = true then (4, 2)
 else if sign1 x = true then (4, 1)
 else (0, 0)
def wrongA (k n : Nat) (x : UInt8) : Nat :=
 if k = 0 then 1 else if (k = 1 ∧ 12 < n) ∨ (k = 2 ∧ 9 < n) ∨ (k = 3 ∧ 22 < n) then 2 else if k = 2 ∧ 1 < n ∧ x = 48 then 1 else 0
theorem tokA_kind (x : UInt8) (r : List UInt8) : (tokA x r).1 ≤ 4 := by
 unfold tokA
 repeat' split
 all_goals simp
theorem tokA_len (x : UInt8) (r : List UInt8) : (tokA x r).2 ≤ r.length + 1 := by
 have h1 := runN_le wordB r
 have h2 := runN_le digitB r
 unfold tokA
 split
 ·simp only; omega
 split
 ·simp only; omega
 split
 ·split
  ·rename_i hq
   have : runN quotB r < r.length := by
    unfold quotEnds quotN at hq
    rcases Nat.lt_or_ge (runN quotB r) r.length with h | h
    ·exact h
    ·rw [List.drop_eq_nil_of_le h] at hq; cases hq
   simp only [quotN]; omega
  ·simp
 split
 ·rename_i hb
  have : [124, 124] <+: x :: r := List.isPrefixOf_iff_prefix.1 hb
  have := this.length_le
  simp at this ⊢
  omega
 split <;> simp
theorem wrong_tok (x : UInt8) (r : List UInt8) : wrongA (tokA x r).1 (tokA x r).2 x = (tokL x r).2.2 := by
 unfold tokA tokL
 split
 ·simp only [wrongA]; repeat' split
  all_goals (first | rfl | omega | (simp_all; done) | (simp_all; omega))
 split
 ·simp only [wrongA]; repeat' split
  all_goals (first | rfl | omega | (simp_all; done) | (simp_all; omega))
 split
 ·split
  ·simp only [wrongA]; repeat' split
   all_goals (first | rfl | omega | (simp_all; done) | (simp_all; omega))
  ·rfl
 split
 ·simp [wrongA]
 split
 ·simp [wrongA]
 ·simp [wrongA]
theorem tok_same (x : UInt8) (r : List UInt8) (h : (tokL x r).2.2 = 0) : tokA x r = ((tokL x r).1, (tokL x r).2.1) := by
 unfold tokL at h
 unfold tokA tokL
 repeat' split
 all_goals first | rfl | (exfalso; simp_all)
theorem tokL_kind (x : UInt8) (r : List UInt8) : (tokL x r).1 ≠ 0 := by
 unfold tokL
 repeat' split
 all_goals simp
theorem tokA_blank (x : UInt8) (r : List UInt8) (h : blankB x = true) : tokA x r = (0, 0) := by
 have h3 : x = 32 ∨ x = 9 ∨ x = 10 := by
  simp only [blankB, Bool.or_eq_true, beq_iff_eq] at h
  rcases h with (h | h) | h
  ·exact .inl (UInt8.toNat_inj.1 (by rw [show (32 : UInt8).toNat = 32 from rfl]; omega))
  ·exact .inr (.inl (UInt8.toNat_inj.1 (by rw [show (9 : UInt8).toNat = 9 from rfl]; omega)))
  ·exact .inr (.inr (UInt8.toNat_inj.1 (by rw [show (10 : UInt8).toNat = 10 from rfl]; omega)))
 rcases h3 with rfl | rfl | rfl
 all_goals
  unfold tokA
  rw [if_neg (by decide), if_neg (by decide), if_neg (by decide), if_neg (by simp [bars, Lib.hasPrefix, List.isPrefixOf]), if_neg (by decide)]
def oneB (k : Int) (s : ByteArray) : Bool := match scanS s with | ([t], _, 0) => (t.k == k) && (t.s.toList == s.toList) | _ => false
def tokB (k : Int) (s : ByteArray) : Bool := match s.data.toList with
 | [] => false
 | x :: r => decide (s.size ≤ 2000) && !(k == 0) && (((tokA x r).1 : Int) == k) && decide ((tokA x r).2 = s.size) && decide ((tokL x r).2.2 = 0)
theorem oneB_of {k : Int} {s : ByteArray} (h : oneB k s = true) : ∃ t p, scanS s = ([t], p, 0) ∧ t.k = k ∧ t.s = s := by
 unfold oneB at h
 split at h
 ·rename_i t p heq
  simp only [Bool.and_eq_true, beq_iff_eq] at h
  refine ⟨t, p, heq, h.1, ?_⟩
  have h2 := h.2
  rw [ByteArray.toList_eq, ByteArray.toList_eq] at h2
  obtain ⟨k', n, ⟨⟨l⟩⟩⟩ := t
  obtain ⟨⟨l'⟩⟩ := s
  simp only at h2 ⊢
  rw [h2]
 ·cases h
theorem oneB_intro {k : Int} {s : ByteArray} {t : Vl} {p : Nat} (h : scanS s = ([t], p, 0)) (hk : t.k = k) (hs : t.s = s) : oneB k s = true := by
 unfold oneB
 rw [h]
 simp [hk, hs]
theorem scan_front (f : Nat) (l : List UInt8) (p : Nat) (x : UInt8) (r : List UInt8) (hl : l.drop (runN blankB l) = x :: r) :
  scanF (f + 1) l p = if (tokL x r).2.2 = 0 then comb [⟨(tokL x r).1, (p + runN blankB l : Nat), bs ((x :: r).take (tokL x r).2.1)⟩] (scanF f ((x :: r).drop (tokL x r).2.1) (p + runN blankB l + (tokL x r).2.1)) else ([], p + runN blankB l, (tokL x r).2.2) := by
 split
 ·rename_i h0
  rw [← scanF_norm (f + 1), scan_step f l p x r [] hl h0]
  rfl
 ·rename_i h0
  rw [← scanF_norm (f + 1), scan_bad f l p x r [] hl h0]
theorem one_tok (k : Int) (s : ByteArray) : oneB k s = tokB k s := by
 have hsz : s.size = s.data.toList.length := by rw [Array.length_toList]; rfl
 rw [Bool.eq_iff_iff]
 unfold tokB
 by_cases h2 : 2000 < s.size
 ·constructor
  ·intro h
   obtain ⟨t, p, h, _, _⟩ := oneB_of h
   rw [scanS, if_pos h2] at h
   simp at h
  ·intro h
   split at h
   ·cases h
   ·simp only [Bool.and_eq_true, decide_eq_true_eq] at h; omega
 have hS : scanS s = scanF (s.size + 1) s.data.toList 0 := by rw [scanS, if_neg h2]
 rcases hl : s.data.toList with _ | ⟨x, r⟩
 ·constructor
  ·intro h
   obtain ⟨t, p, h, _, _⟩ := oneB_of h
   rw [hS, hl] at h
   simp [scanF] at h
  ·intro h; cases h
 rw [hl] at hsz hS
 simp only [List.length_cons] at hsz
 dsimp only
 have hb : bs (x :: r) = s := by rw [← hl]; obtain ⟨⟨l⟩⟩ := s; rfl
 by_cases hbl : blankB x = true
 ·simp only [tokA_blank _ _ hbl]
  constructor
  ·intro h
   exfalso
   obtain ⟨t, p, h, _, hts⟩ := oneB_of h
   rw [hS] at h
   have hr : runN blankB (x :: r) = runN blankB r + 1 := by rw [runN, if_pos hbl]
   have hle := runN_le blankB r
   rcases hd : (x :: r).drop (runN blankB (x :: r)) with _ | ⟨y, r'⟩
   ·rw [← scanF_norm, scan_end _ _ _ _ hd] at h
    simp at h
   ·rw [scan_front _ _ _ _ _ hd] at h
    split at h
    ·simp only [comb] at h
     split at h
     ·simp only [List.singleton_append, Prod.mk.injEq, List.cons.injEq] at h
      obtain ⟨⟨rfl, _⟩, _⟩ := h
      simp only at hts
      have := congrArg ByteArray.size hts
      have e := congrArg List.length hd
      rw [List.length_drop, hr] at e
      simp only [List.length_cons] at e
      rw [bs_size, List.length_take, List.length_cons] at this
      omega
     ·simp at h
    ·simp at h
  ·intro h
   simp only [Bool.and_eq_true, Bool.not_eq_true', beq_eq_false_iff_ne, decide_eq_true_eq, beq_iff_eq] at h
   obtain ⟨⟨⟨⟨_, h0⟩, h1⟩, _⟩, _⟩ := h
   omega
 ·have hr : runN blankB (x :: r) = 0 := by rw [runN, if_neg hbl]
  have hd : (x :: r).drop (runN blankB (x :: r)) = x :: r := by rw [hr]; rfl
  have hF := scan_front s.size _ 0 _ _ hd
  rw [← hS] at hF
  by_cases h0 : (tokL x r).2.2 = 0
  ·rw [if_pos h0] at hF
   rw [tok_same _ _ h0]
   obtain ⟨hn1, hn2⟩ := tokL_pos _ _ h0
   have hk := tokL_kind x r
   have htk : ((x :: r).take (tokL x r).2.1).length = (tokL x r).2.1 := by rw [List.length_take, List.length_cons]; omega
   constructor
   ·intro h
    obtain ⟨t, p, h, h3, h4⟩ := oneB_of h
    rw [hF, comb] at h
    split at h
    ·simp only [List.singleton_append, Prod.mk.injEq, List.cons.injEq] at h
     obtain ⟨⟨rfl, _⟩, _⟩ := h
     simp only at h3 h4
     have := congrArg ByteArray.size h4
     rw [bs_size, htk] at this
     simp only [h0, Bool.and_eq_true, Bool.not_eq_true', beq_eq_false_iff_ne, decide_eq_true_eq, beq_iff_eq]
     exact ⟨⟨⟨⟨by omega, by omega⟩, h3⟩, this⟩, trivial⟩
    ·simp at h
   ·intro h
    simp only [Bool.and_eq_true, Bool.not_eq_true', beq_eq_false_iff_ne, decide_eq_true_eq, beq_iff_eq] at h
    obtain ⟨⟨⟨⟨_, _⟩, h1⟩, h3⟩, _⟩ := h
    have hdn : (x :: r).drop (tokL x r).2.1 = [] := List.drop_eq_nil_of_le (by rw [List.length_cons]; omega)
    have htn : (x :: r).take (tokL x r).2.1 = x :: r := List.take_of_length_le (by rw [List.length_cons]; omega)
    rw [hdn, htn] at hF
    have hnil : ∀ p, scanF s.size [] p = ([], 0, 0) := by
     intro p
     obtain ⟨z, hz⟩ : ∃ z, s.size = z + 1 := ⟨s.size - 1, by omega⟩
     rw [hz, scanF]; rfl
    rw [hnil] at hF
    exact oneB_intro (p := 0) (by rw [hF]; rfl) h1 hb
  ·rw [if_neg h0] at hF
   simp only [h0, decide_false, Bool.and_false]
   constructor
   ·intro h
    obtain ⟨t, p, h, _, _⟩ := oneB_of h
    rw [hF] at h
    simp at h
   ·intro h; cases h
end Go.Proofs.YtjdgejfhnfnmgaaGreatDoor
namespace Go.Proofs.YtjdgejfhnfnmgaaGreatDoor
open Go.RowKit
def wordsL : List ByteArray := [⟨#[99, 114, 101, 97, 116, 101]⟩, ⟨#[116, 97, 98, 108, 101]⟩, ⟨#[100, 114, 111, 112]⟩, ⟨#[97, 108, 116, 101, 114]⟩, ⟨#[97, 100, 100]⟩, ⟨#[100, 101, 102, 97, 117, 108, 116]⟩, ⟨#[114, 101, 110, 97, 109, 101]⟩, ⟨#[116, 111]⟩, ⟨#[114, 101, 116, 121, 112, 101]⟩, ⟨#[105, 110, 100, 101, 120]⟩, ⟨#[111, 110]⟩, ⟨#[105, 110, 115, 101, 114, 116]⟩, ⟨#[105, 110, 116, 111]⟩, ⟨#[118, 97, 108, 117, 101, 115]⟩, ⟨#[100, 101, 108, 101, 116, 101]⟩, ⟨#[102, 114, 111, 109]⟩, ⟨#[119, 104, 101, 114, 101]⟩, ⟨#[117, 112, 100, 97, 116, 101]⟩, ⟨#[115, 101, 116]⟩, ⟨#[115, 101, 108, 101, 99, 116]⟩, ⟨#[111, 114, 100, 101, 114]⟩, ⟨#[98, 121]⟩, ⟨#[108, 105, 109, 105, 116]⟩, ⟨#[98, 101, 103, 105, 110]⟩, ⟨#[99, 111, 109, 109, 105, 116]⟩, ⟨#[114, 111, 108, 108, 98, 97, 99, 107]⟩, ⟨#[105, 110, 116]⟩, ⟨#[116, 101, 120, 116]⟩, ⟨#[98, 111, 111, 108]⟩, ⟨#[116, 114, 117, 101]⟩, ⟨#[102, 97, 108, 115, 101]⟩, ⟨#[110, 117, 108, 108]⟩, ⟨#[110, 111, 116]⟩, ⟨#[105, 115]⟩, ⟨#[97, 110, 100]⟩, ⟨#[111, 114]⟩]
def isWordB (s : ByteArray) : Bool := wordsL.any fun x => x.toList == s.toList
def nameB (s : ByteArray) : Bool := tokB 1 s && !isWordB s
mutual
def exprB : Ex → Bool
 | .mk k v nm ar => plainB k v nm ar.length && ((!(k == 2) || nameB nm) && ((v.chk == 0) && exprsB ar))
def exprsB : List Ex → Bool
 | [] => true
 | x :: l => exprB x && exprsB l
end
def Ex.k : Ex → Int | .mk k _ _ _ => k
def noneB : Ex → Bool
 | .mk k v nm ar => (k == 0) && (v.same Vl.zero && (emptyS nm && ((ar.length : Int) == 0)))
theorem exprsB_any : ∀ l : List Ex, exprsB l = !(l.any fun x => !exprB x)
 | [] => rfl
 | x :: l => by
  rw [exprsB, List.any_cons, exprsB_any l]
  cases exprB x <;> simp
structure Cm where
 k : Int
 name : ByteArray
 other : ByteArray
 column : ByteArray
 cols : List Col
 ty : Int
 v : Vl
 vals : List Vl
 fields : List ByteArray
 ex : Ex
 all : Bool
 wh : Ex
 order : ByteArray
 limit : Int
def strEq (a b : ByteArray) : Bool := a.toList == b.toList
def namedB (s : ByteArray) (must : Bool) : Bool := if must = true then nameB s else emptyS s
def kName (k : Int) : Bool := decide (1 ≤ k) && decide (k ≤ 13)
def kOther (k : Int) : Bool := (k == 5) || ((k == 7) || (k == 8))
def kColumn (k : Int) : Bool := (decide (3 ≤ k) && decide (k ≤ 6)) || ((k == 8) || (k == 12))
def kType (k : Int) : Bool := (k == 3) || (k == 6)
def kWhere (k : Int) : Bool := decide (11 ≤ k) && decide (k ≤ 13)
end Go.Proofs.YtjdgejfhnfnmgaaGreatDoor
namespace Go.Proofs.YtjdgejfhnfnmgaaGreatDoor
open Go.RowKit
def Gx.ok : Gx → Prop
 | .val v => v.chk = 0
 | .col nm => nameB nm = true
 | .un k x => (k = 3 ∨ k = 4) ∧ x.ok
 | .bin k x y => (5 ≤ k ∧ k ≤ 11) ∧ x.ok ∧ y.ok
end Go.Proofs.YtjdgejfhnfnmgaaGreatDoor
namespace Go.Proofs.YtjdgejfhnfnmgaaGreatDoor
open Go.RowKit
end Go.Proofs.YtjdgejfhnfnmgaaGreatDoor
namespace Go.Proofs.YtjdgejfhnfnmgaaGreatDoor
open Go.RowKit
theorem runN_take (q : UInt8 → Bool) (l : List UInt8) (j : Nat) : runN q (l.take j) = min j (runN q l) := by
 induction l generalizing j with
 | nil => simp [runN]
 | cons x l ih =>
  cases j with
  | zero => simp [runN]
  | succ j =>
   simp only [List.take_succ_cons, runN, ih]
   split
   ·omega
   ·simp
theorem quot_lt {l : List UInt8} (h : quotEnds l = true) : quotN l < l.length := by
 unfold quotEnds at h
 rcases Nat.lt_or_ge (quotN l) l.length with h2 | h2
 ·exact h2
 ·rw [List.drop_eq_nil_of_le h2] at h; cases h
def Beh (S : List UInt8) : Prop := S = [] ∨ ∃ S', S = 32 :: S'
theorem Beh.run {S : List UInt8} (h : Beh S) (q : UInt8 → Bool) (hq : q 32 = false) : runN q S = 0 := by
 rcases h with rfl | ⟨S', rfl⟩
 ·rfl
 ·rw [runN, if_neg (by simp [hq])]
theorem bars_two (x y : UInt8) (S : List UInt8) : bars (x :: y :: S) = (x == 124 && y == 124) := by
 unfold bars Lib.hasPrefix
 simp only [List.isPrefixOf, Bool.and_true]
 rw [BEq.comm (a := (124 : UInt8)), BEq.comm (a := (124 : UInt8))]
theorem bars_one (x : UInt8) : bars [x] = false := by
 unfold bars Lib.hasPrefix
 simp [List.isPrefixOf]
theorem tokL_take (x : UInt8) (r : List UInt8) (h0 : (tokL x r).2.2 = 0) : tokL x (r.take ((tokL x r).2.1 - 1)) = tokL x r := by
 unfold tokL at h0 ⊢
 by_cases hl : letterB x = true
 ·simp only [if_pos hl, Nat.add_sub_cancel, runN_take, Nat.min_self]
 simp only [if_neg hl] at h0 ⊢
 by_cases hd : digitB x = true
 ·simp only [if_pos hd, Nat.add_sub_cancel, runN_take, Nat.min_self]
 simp only [if_neg hd] at h0 ⊢
 by_cases h39 : x = 39
 ·simp only [if_pos h39] at h0 ⊢
  by_cases hq : quotEnds r = true
  ·have hlt := quot_lt hq
   simp only [if_pos hq, show quotN r + 2 - 1 = quotN r + 1 from rfl]
   have e : quotN (r.take (quotN r + 1)) = quotN r := by
    rw [quotN, runN_take]
    show min (quotN r + 1) (quotN r) = _
    omega
   have e2 : quotEnds (r.take (quotN r + 1)) = true := by
    rw [← hq]
    unfold quotEnds
    rw [e, List.drop_take]
    obtain ⟨y, z, hyz⟩ : ∃ y z, r.drop (quotN r) = y :: z := ⟨_, _, List.drop_eq_getElem_cons hlt⟩
    rw [hyz, show quotN r + 1 - quotN r = 1 from by omega]; rfl
   rw [if_pos e2, e]
  ·rw [if_neg hq] at h0; simp at h0
 simp only [if_neg h39] at h0 ⊢
 by_cases hb : bars (x :: r) = true
 ·simp only [if_pos hb] at h0 ⊢
  rcases r with _ | ⟨y, z⟩
  ·rw [bars_one] at hb; cases hb
  ·rw [bars_two] at hb
   rw [if_pos (by simp only [List.take_succ_cons, List.take_zero, show 2 - 1 = 1 from rfl]; rw [bars_two]; exact hb)]
 simp only [if_neg hb] at h0 ⊢
 by_cases hs : sign1 x = true
 ·simp only [if_pos hs, Nat.sub_self, List.take_zero, bars_one, Bool.false_eq_true, if_false]
 ·simp only [if_neg hs] at h0; simp at h0
theorem tokB_of (x : UInt8) (r : List UInt8) (h0 : (tokL x r).2.2 = 0) (hsz : (tokL x r).2.1 ≤ 2000) : oneB (tokL x r).1 (bs ((x :: r).take (tokL x r).2.1)) = true := by
 obtain ⟨h1, h2⟩ := tokL_pos x r h0
 obtain ⟨m, hm⟩ : ∃ m, (tokL x r).2.1 = m + 1 := ⟨(tokL x r).2.1 - 1, by omega⟩
 have ht := tokL_take x r h0
 rw [one_tok]
 unfold tokB
 have hl : (bs ((x :: r).take (tokL x r).2.1)).data.toList = x :: r.take ((tokL x r).2.1 - 1) := by
  rw [hm]; rfl
 have hs : (bs ((x :: r).take (tokL x r).2.1)).size = (tokL x r).2.1 := by rw [bs_size, List.length_take, List.length_cons]; omega
 rw [hl, hs]
 dsimp only
 rw [tok_same x (r.take ((tokL x r).2.1 - 1)) (by rw [ht]; exact h0), ht]
 have hk := tokL_kind x r
 simp only [Bool.and_eq_true, Bool.not_eq_true', beq_eq_false_iff_ne, decide_eq_true_eq, beq_iff_eq]
 exact ⟨⟨⟨⟨hsz, by omega⟩, trivial⟩, trivial⟩, h0⟩
def allOne (vs : List Vl) : Bool := vs.all fun v => oneB v.k v.s
theorem size_list (s : ByteArray) : s.data.toList.length = s.size := by rw [Array.length_toList]; rfl
theorem scanF_both {f : Nat} {l : List UInt8} {p : Nat} {ts : List Vl} {q e : Nat} (h : scanF f l p = (ts, q, e)) : (e = 0 → q = 0) ∧ (¬ e = 0 → ts = []) := by
 cases f with
 | zero => simp [scanF] at h; obtain ⟨rfl, rfl, rfl⟩ := h; simp
 | succ f =>
  rw [scanF] at h
  split at h
  ·simp at h; obtain ⟨rfl, rfl, rfl⟩ := h; simp
  ·split at h
   ·split at h
    ·simp only [Prod.mk.injEq] at h
     obtain ⟨_, rfl, rfl⟩ := h
     simp
    ·rename_i h2
     simp only [Prod.mk.injEq] at h
     obtain ⟨rfl, h⟩ := h
     refine ⟨fun h3 => absurd ?_ h2, fun _ => rfl⟩
     rw [h]; exact h3
   ·rename_i h2
    simp only [Prod.mk.injEq] at h
    obtain ⟨rfl, rfl, rfl⟩ := h
    exact ⟨fun h3 => absurd h3 h2, fun _ => rfl⟩
theorem scanF_zero {f : Nat} {l : List UInt8} {p : Nat} {ts : List Vl} {q : Nat} (h : scanF f l p = (ts, q, 0)) : q = 0 := (scanF_both h).1 rfl
theorem scanF_one (f : Nat) (l : List UInt8) (p : Nat) (hl : l.length ≤ 2000) (ts : List Vl) (h : scanF f l p = (ts, 0, 0)) : allOne ts = true ∧ ts.length ≤ l.length := by
 induction f generalizing l p ts with
 | zero => simp [scanF] at h; subst h; simp [allOne]
 | succ f ih =>
  rcases hd : l.drop (runN blankB l) with _ | ⟨x, r⟩
  ·rw [← scanF_norm, scan_end _ _ _ _ hd] at h
   simp at h; subst h; simp [allOne]
  ·have hlr : r.length + 1 ≤ l.length := by
    have := congrArg List.length hd
    rw [List.length_drop, List.length_cons] at this; omega
   rw [scan_front _ _ _ _ _ hd] at h
   split at h
   ·rename_i h0
    obtain ⟨h1, h2⟩ := tokL_pos x r h0
    rcases hF : scanF f ((x :: r).drop (tokL x r).2.1) (p + runN blankB l + (tokL x r).2.1) with ⟨us, q, e⟩
    rw [hF, comb] at h
    split at h
    ·rename_i he
     simp only at he
     subst he
     simp only [List.singleton_append, Prod.mk.injEq, and_true] at h
     have hq : q = 0 := scanF_zero hF
     subst hq
     obtain ⟨a1, a2⟩ := ih _ _ (by rw [List.length_drop, List.length_cons]; omega) us hF
     rw [List.length_drop, List.length_cons] at a2
     subst h
     refine ⟨?_, by rw [List.length_cons]; omega⟩
     simp only [allOne, List.all_cons, Bool.and_eq_true] at a1 ⊢
     exact ⟨tokB_of x r h0 (by omega), a1⟩
    ·rename_i he; simp at h; exact absurd h.2.2 he
   ·rename_i h0; simp at h; exact absurd h.2.2 h0
theorem scanS_one (s : ByteArray) (h : (scanS s).2.2 = 0) : allOne (scanS s).1 = true ∧ (scanS s).2.1 = 0 := by
 unfold scanS at h ⊢
 split at h
 ·cases h
 ·rename_i h2
  rw [if_neg h2]
  rcases hF : scanF (s.size + 1) s.data.toList 0 with ⟨ts, q, e⟩
  rw [hF] at h
  simp only at h
  subst h
  have := scanF_zero hF
  subst this
  exact ⟨(scanF_one _ _ _ (by rw [size_list]; omega) _ hF).1, rfl⟩
end Go.Proofs.YtjdgejfhnfnmgaaGreatDoor
namespace Go.Proofs.YtjdgejfhnfnmgaaGreatDoor
open Go.RowKit
def fst8 (u : ByteArray) : Option UInt8 := u.data.toList.head?
def digF (u : ByteArray) : Bool := match fst8 u with
 | some c => digitB c
 | none => false
def quoF (u : ByteArray) : Bool := match fst8 u with
 | some c => c == 39
 | none => false
def numL (l : List UInt8) : Int := l.foldl (fun n c => 10 * n + (c.toNat : Int) - 48) 0
def wTrue : ByteArray := ⟨#[116, 114, 117, 101]⟩
def wFalse : ByteArray := ⟨#[102, 97, 108, 115, 101]⟩
def wNull : ByteArray := ⟨#[110, 117, 108, 108]⟩
def unq (u : ByteArray) : ByteArray := u.extract 1 (u.size - 1)
def wAnd7 : List ByteArray := [⟨#[97, 110, 100]⟩, ⟨#[111, 114]⟩, ⟨#[43]⟩, ⟨#[45]⟩, ⟨#[124, 124]⟩, ⟨#[60]⟩, ⟨#[61]⟩]
def wOpen : ByteArray := ⟨#[40]⟩
def wShut : ByteArray := ⟨#[41]⟩
def wNot : ByteArray := ⟨#[110, 111, 116]⟩
def wIs : ByteArray := ⟨#[105, 115]⟩
structure GoodL (l : List Vl) : Prop where
 len : l.length ≤ 2000
 tok : ∀ t ∈ l, tokB t.k t.s = true
theorem tok_facts {k : Int} {s : ByteArray} (h : tokB k s = true) : ∃ x r, s.data.toList = x :: r ∧ s.size ≤ 2000 ∧ (tokA x r).1 = k ∧ (tokA x r).2 = s.size ∧ (tokL x r).2.2 = 0 := by
 unfold tokB at h
 split at h
 ·cases h
 ·rename_i x r hs
  simp only [Bool.and_eq_true, decide_eq_true_eq, beq_iff_eq] at h
  exact ⟨x, r, hs, h.1.1.1.1, h.1.1.2, h.1.2, h.2⟩
theorem letter_digit {x : UInt8} (h : letterB x = true) : digitB x = false ∧ (x == 39) = false := by
 unfold letterB at h
 unfold digitB
 simp only [Bool.and_eq_true, decide_eq_true_eq] at h
 constructor
 ·simp only [Bool.and_eq_false_iff, decide_eq_false_iff_not]; omega
 ·rw [beq_eq_false_iff_ne]
  rintro rfl
  have : (39 : UInt8).toNat = 39 := rfl
  omega
theorem digit_quo {x : UInt8} (h : digitB x = true) : (x == 39) = false := by
 unfold digitB at h
 simp only [Bool.and_eq_true, decide_eq_true_eq] at h
 rw [beq_eq_false_iff_ne]
 rintro rfl
 have : (39 : UInt8).toNat = 39 := rfl
 omega
theorem fst8_of {s : ByteArray} {x : UInt8} {r : List UInt8} (h : s.data.toList = x :: r) : fst8 s = some x := by unfold fst8; rw [h]; rfl
theorem tok_num {k : Int} {s : ByteArray} (h : tokB k s = true) : (digF s = true ↔ k = 2) ∧ (k = 2 → s.size ≤ 9 ∧ s.data.toList.all digitB = true) ∧ (quoF s = true ↔ k = 3) ∧ (k = 3 → 2 ≤ s.size ∧ s.size ≤ 22) := by
 obtain ⟨x, r, hs, hz, h1, h2, h3⟩ := tok_facts h
 have hsz : s.size = r.length + 1 := by
  have : s.data.toList.length = s.size := rfl
  rw [hs, List.length_cons] at this
  omega
 unfold digF quoF
 rw [fst8_of hs]
 dsimp only
 unfold tokA at h1 h2
 unfold tokL at h3
 by_cases c1 : letterB x = true
 ·rw [if_pos c1] at h1 h2
  obtain ⟨d1, d2⟩ := letter_digit c1
  rw [d1, d2]
  dsimp only at h1
  exact ⟨⟨fun h => (by cases h), fun h => (by omega)⟩, fun h => (by omega), ⟨fun h => (by cases h), fun h => (by omega)⟩, fun h => (by omega)⟩
 ·rw [if_neg c1] at h1 h2 h3
  by_cases c2 : digitB x = true
  ·rw [if_pos c2] at h1 h2 h3
   dsimp only at h1 h2 h3
   rw [c2, digit_quo c2]
   refine ⟨⟨fun _ => (by omega), fun _ => rfl⟩, fun _ => ⟨?_, ?_⟩, ⟨fun h => (by cases h), fun h => (by omega)⟩, fun h => (by omega)⟩
   ·split at h3
    ·cases h3
    ·omega
   ·rw [hs, List.all_cons, c2, Bool.true_and]
    have hr : runN digitB r = r.length := by omega
    have key : ∀ l : List UInt8, runN digitB l = l.length → l.all digitB = true := by
     intro l
     induction l with
     | nil => intro _; rfl
     | cons y l ih =>
      intro hl
      rw [runN] at hl
      split at hl
      ·rename_i hy
       rw [List.all_cons, hy, Bool.true_and]
       exact ih (by rw [List.length_cons] at hl; omega)
      ·rw [List.length_cons] at hl; omega
    exact key r hr
  ·rw [if_neg c2] at h1 h2 h3
   rw [Bool.not_eq_true] at c2
   rw [c2]
   by_cases c3 : x = 39
   ·rw [if_pos c3] at h1 h2 h3
    subst c3
    split at h1
    ·rename_i hq
     rw [if_pos hq] at h2 h3
     dsimp only at h1 h2 h3
     refine ⟨⟨fun h => (by cases h), fun h => (by omega)⟩, fun h => (by omega), ⟨fun _ => (by omega), fun _ => rfl⟩, fun _ => ⟨by omega, ?_⟩⟩
     split at h3
     ·cases h3
     ·omega
    ·rename_i hq
     rw [if_neg hq] at h3
     cases h3
   ·rw [if_neg c3] at h1 h2 h3
    have c4 : (x == 39) = false := by rw [beq_eq_false_iff_ne]; exact c3
    rw [c4]
    have hk : k ≠ 2 ∧ k ≠ 3 := by
     split at h1
     ·dsimp only at h1; omega
     ·split at h1
      ·dsimp only at h1; omega
      ·dsimp only at h1; omega
    exact ⟨⟨fun h => (by cases h), fun h => absurd h hk.1⟩, fun h => absurd h hk.1, ⟨fun h => (by cases h), fun h => absurd h hk.2⟩, fun h => absurd h hk.2⟩
theorem numL_step {l : List UInt8} {i : Nat} {c : UInt8} (h : l[i]? = some c) : numL (l.take (i + 1)) = 10 * numL (l.take i) + (c.toNat : Int) - 48 := by
 obtain ⟨hk, rfl⟩ := List.getElem?_eq_some_iff.1 h
 unfold numL
 rw [List.take_succ_eq_append_getElem hk, List.foldl_append]
 rfl
theorem numL_range {l : List UInt8} (h : l.all digitB = true) : ∀ i, i ≤ l.length → 0 ≤ numL (l.take i) ∧ numL (l.take i) < 10 ^ i
 | 0, _ => by rw [List.take_zero]; exact ⟨by decide, by decide⟩
 | i + 1, hi => by
  obtain ⟨c, hc⟩ : ∃ c, l[i]? = some c := ⟨_, List.getElem?_eq_getElem (by omega)⟩
  obtain ⟨h1, h2⟩ := numL_range h i (by omega)
  have hd := List.all_eq_true.1 h c (List.mem_of_getElem? hc)
  unfold digitB at hd
  simp only [Bool.and_eq_true, decide_eq_true_eq] at hd
  rw [numL_step hc, Int.pow_succ]
  omega
theorem numL_small {l : List UInt8} (h : l.all digitB = true) (hl : l.length ≤ 9) (i : Nat) (hi : i ≤ l.length) : 0 ≤ numL (l.take i) ∧ numL (l.take i) < 1000000000 := by
 obtain ⟨h1, h2⟩ := numL_range h i hi
 refine ⟨h1, Int.lt_of_lt_of_le h2 ?_⟩
 have : (10 : Int) ^ i ≤ 10 ^ 9 := by
  have : (10 : Nat) ^ i ≤ 10 ^ 9 := Nat.pow_le_pow_right (by decide) (by omega)
  exact_mod_cast this
 exact this
end Go.Proofs.YtjdgejfhnfnmgaaGreatDoor
