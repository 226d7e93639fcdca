/-  -/
import Derived.Test.YtjdgejfhnfnmgaaGreatDoorM14
import Derived.Test.YtjdgejfhnfnmgaaGreatDoorM0
import Derived.Test.YtjdgejfhnfnmgaaGreatDoorM15
import Derived.WalkKit
import Derived.Lib.Hide
import Derived.Test.YtjdgejfhnfnmgaaGreatDoorRows
import Derived.Lib.Join
import Derived.BigQuiet
import Derived.Handy
import Derived.Deep.QuietTactic
import Derived.Deep.LoopGhost
import Derived.Lib.IndexLaws
namespace Go.Proofs.YtjdgejfhnfnmgaaGreatDoor
open Go.RowKit
def scanF : Nat → List UInt8 → Nat → List Vl × Nat × Nat
 | 0, _, _ => ([], 0, 0)
 | f + 1, l, p =>
  match l.drop (runN blankB l) with
  | [] => ([], 0, 0)
  | x :: r =>
   if (tokL x r).2.2 = 0 then
    (if (scanF f ((x :: r).drop (tokL x r).2.1) (p + runN blankB l + (tokL x r).2.1)).2.2 = 0 then
     (⟨(tokL x r).1, (p + runN blankB l : Nat), bs ((x :: r).take (tokL x r).2.1)⟩ :: (scanF f ((x :: r).drop (tokL x r).2.1) (p + runN blankB l + (tokL x r).2.1)).1, 0, 0)
    else ([], (scanF f ((x :: r).drop (tokL x r).2.1) (p + runN blankB l + (tokL x r).2.1)).2))
   else ([], p + runN blankB l, (tokL x r).2.2)
def scanS (s : ByteArray) : List Vl × Nat × Nat := if 2000 < s.size then ([], 0, 2) else scanF (s.size + 1) s.data.toList 0
def comb (vs : List Vl) (r : List Vl × Nat × Nat) : List Vl × Nat × Nat := if r.2.2 = 0 then (vs ++ r.1, 0, 0) else ([], r.2)
theorem tokL_pos (x : UInt8) (r : List UInt8) (h : (tokL x r).2.2 = 0) : 0 < (tokL x r).2.1 ∧ (tokL x r).2.1 ≤ r.length + 1 := by
 have h1 := runN_le wordB r
 have h2 := runN_le digitB r
 have h3 := runN_le quotB r
 unfold tokL at h ⊢
 split at h
 ·rename_i hl; rw [if_pos hl]; simp only; omega
 rename_i hl
 split at h
 ·rename_i hd; rw [if_neg hl, if_pos hd]; simp only; omega
 rename_i hd
 split at h
 ·rename_i h39
  split at h
  ·rename_i hq
   rw [if_neg hl, if_neg hd, if_pos h39, if_pos hq]
   simp only [quotN]
   have : runN quotB r < r.length := by
    unfold quotEnds quotN at hq
    rcases Nat.lt_or_ge (runN quotB r) r.length with h | h
    ·exact h
    ·rw [List.drop_eq_nil_of_le h] at hq; cases hq
   omega
  ·cases h
 rename_i h39
 split at h
 ·rename_i hb
  rw [if_neg hl, if_neg hd, if_neg h39, if_pos hb]
  have : [124, 124] <+: x :: r := List.isPrefixOf_iff_prefix.1 hb
  have := this.length_le
  simp at this ⊢
  omega
 rename_i hb
 split at h
 ·rename_i hs; rw [if_neg hl, if_neg hd, if_neg h39, if_neg hb, if_pos hs]; simp
 ·cases h
theorem scan_step (f : Nat) (l : List UInt8) (p : Nat) (x : UInt8) (r : List UInt8) (vs : List Vl) (hl : l.drop (runN blankB l) = x :: r) (h0 : (tokL x r).2.2 = 0) :
  comb vs (scanF (f + 1) l p) = comb (vs ++ [⟨(tokL x r).1, (p + runN blankB l : Nat), bs ((x :: r).take (tokL x r).2.1)⟩]) (scanF f ((x :: r).drop (tokL x r).2.1) (p + runN blankB l + (tokL x r).2.1)) := by
 rw [scanF, hl]
 simp only
 rw [if_pos h0]
 simp only [comb]
 split
 ·simp
 ·simp
theorem scan_bad (f : Nat) (l : List UInt8) (p : Nat) (x : UInt8) (r : List UInt8) (vs : List Vl) (hl : l.drop (runN blankB l) = x :: r) (h0 : ¬ (tokL x r).2.2 = 0) :
  comb vs (scanF (f + 1) l p) = ([], p + runN blankB l, (tokL x r).2.2) := by
 rw [scanF, hl]
 simp only
 rw [if_neg h0]
 simp [comb, h0]
theorem scan_end (f : Nat) (l : List UInt8) (p : Nat) (vs : List Vl) (hl : l.drop (runN blankB l) = []) : comb vs (scanF (f + 1) l p) = (vs, 0, 0) := by
 rw [scanF, hl]
 simp [comb]
theorem scanF_norm (f : Nat) (l : List UInt8) (p : Nat) : comb [] (scanF f l p) = scanF f l p := by
 cases f with
 | zero => simp [scanF, comb]
 | succ f =>
  rw [scanF]
  split
  ·simp [comb]
  ·split
   ·split
    ·simp [comb]
    ·rename_i h; simp [comb, h]
   ·rename_i h; simp [comb, h]
end Go.Proofs.YtjdgejfhnfnmgaaGreatDoor
namespace Go.Proofs.YtjdgejfhnfnmgaaGreatDoor
open Go.RowKit
theorem elTok : ElT Tryz.prog 43 77 (.agg #[.int .i64 0, .int .i64 0, .string ⟨#[]⟩]) 3 32 := elT_mk Tryz.underlying43 (by kernel_rfl) rfl (by decide)
end Go.Proofs.YtjdgejfhnfnmgaaGreatDoor
namespace Go.Proofs.YtjdgejfhnfnmgaaGreatDoor
open Go.RowKit
def ScanPost (T : List Vl × Nat × Nat) (w : World) (e : Ending) (w' : World) : Prop :=
 ∃ v, e = .returned (.tuple #[v, .int .i64 T.2.1, .int .i64 T.2.2]) ∧ w'.ownsRow (w.heap.size + 1) 77 3 v T.1.length (cellsV T.1) ∧ Below w.heap.size w w'
set_option maxHeartbeats 4000000 in
theorem scan_any (s : ByteArray) (w : World) (hs : s.size ≤ maxLen) :
  Calls Tryz.prog 19 #[.string s] w (ScanPost (scanS s) w) := by
 unfold maxLen at hs
 by_cases h2 : 2000 < s.size
 ·have HT : Hid (scanS s = ([], 0, 2)) := Lib.hid (by rw [scanS, if_pos h2])
  go_enter Tryz.func19, Tryz.ntmps19
  go_wp2_with fail
  go_ret3
  rw [HT.out]
  exact ⟨_, rfl, World.ownsRow_nil _ _ _ _, Below.refl _ _⟩
 have HS : Hid (comb [] (scanF (s.size + 1) s.data.toList 0) = scanS s) := Lib.hid (by
  rw [scanS, if_neg h2, scanF_norm])
 have hg0 : Blk (w.alloc (.cells #[.string s, .int .i64 0] 80)) w.heap.size 80 #[.string s, .int .i64 ((0 : Nat) : Int)] := Blk.fresh w _ _
 go_enter Tryz.func19, Tryz.ntmps19
 go_wp2_with fail
 refine (skip_any s 0 w.heap.size _ (Nat.zero_le _) (by omega) hg0).mono ?_
 rintro e w1 ⟨rfl, hg1, ht1⟩
 have hw1 := ht1.size
 simp only [World.size_alloc] at hw1
 go_wp2_with fail
 go_loopg [6] (s.size + 1) (fun m v wr => ∃ (vs : List Vl) (p f : Nat), m = s.size - p + 1 ∧ s.size - p < f ∧ p ≤ s.size ∧ vs.length ≤ p ∧ wr.ownsRow (w.heap.size + 1) 77 3 v vs.length (cellsV vs) ∧
   comb vs (scanF f (s.data.toList.drop p) p) = scanS s ∧ Blk wr w.heap.size 80 #[.string s, .int .i64 ((p + runN blankB (s.data.toList.drop p) : Nat) : Int)] ∧ Below w.heap.size w wr ∧ w.heap.size + 1 ≤ wr.heap.size)
 case atStart => exact ⟨[], 0, s.size + 1, rfl, by omega, Nat.zero_le _, Nat.zero_le _, World.ownsRow_nil _ _ _ _, HS.out, hg1, below_turn (below_two _) ht1 (Nat.le_refl _) (by simp), hw1⟩
 case round =>
  obtain ⟨vs, p, f, rfl, hf, hp, hvp, hown, hT, hg, hb, hz⟩ := hrel
  obtain ⟨f, rfl⟩ : ∃ f', f = f' + 1 := ⟨f - 1, by omega⟩
  obtain ⟨q, hq⟩ : ∃ q, q = p + runN blankB (s.data.toList.drop p) := ⟨_, rfl⟩
  have hqs : q ≤ s.size := by
   have := runN_le blankB (s.data.toList.drop p)
   rw [List.length_drop, Array.length_toList, show s.data.size = s.size from rfl] at this
   omega
  have hpq : p ≤ q := by omega
  have hdq : (s.data.toList.drop p).drop (runN blankB (s.data.toList.drop p)) = s.data.toList.drop q := by rw [List.drop_drop, hq]
  obtain ⟨d0, d1, _, _, hgl⟩ := hg.two
  by_cases hlt : q < s.size
  ·have hx := drop_at s q hlt
   rw [hx] at hdq
   have hC := token_any s q w.heap.size wr hlt (by omega) (by rw [hq]; exact hg)
   rw [← hq] at hg d1
   by_cases h0 : (tokL s[q] (s.data.toList.drop (q + 1))).2.2 = 0
   ·have hst := scan_step f _ p _ _ vs hdq h0
    obtain ⟨hn1, hn2⟩ := tokL_pos _ _ h0
    rw [hT, ← hq, ← hx, List.drop_drop] at hst
    rw [List.length_drop, Array.length_toList, show s.data.size = s.size from rfl] at hn2
    have HST := Lib.hid hst
    have HC := Lib.hid hC
    clear hT HS hdq hx hst hC hq
    generalize tokL s[q] (s.data.toList.drop (q + 1)) = t at *
    obtain ⟨tk, tn, te⟩ := t
    simp only at h0 hn1 hn2 HST HC
    subst h0
    go_wp2_with fail
    refine HC.out.mono ?_
    rintro e w2 ⟨u, j, rfl, hjs, hg2, ht2, _, hu⟩
    obtain ⟨rfl, rfl⟩ := hu rfl
    clear hu
    have hown2 := hown.kept ht2 (.inr (by intro e; have := (hown.lt _ e).1; omega))
    have z2 := ht2.size
    dsimp only at hjs hg2 ⊢
    have hvl : vs.length < 2001 := by omega
    have HSK := Lib.hid (fun W hG => skip_any s (q + tn) w.heap.size W hjs (by omega) hG)
    go_wp2_with (at_builtin; refine wpList_app rfl (.tmp 36) (.tmp 38) elTok rfl (hown2.alloc _) rfl rfl (by simp) (by simp) rfl (by unfold maxLen; omega) (by omega) (by first | omega | (simp; omega)) ?_; intro v3 w3 hown3 hl3 hat3)
    have hg3 : Blk w3 w.heap.size 80 #[.string s, .int .i64 ((q + tn : Nat) : Int)] := (hl3.blk _ (by rw [World.size_alloc]; omega) (fun e => by have := (hown.lt _ e).1; omega)).trans (hg2.alloc _)
    have hz3 := hl3.below.size
    simp only [World.size_alloc] at hz3
    refine (HSK.out w3 hg3).mono ?_
    rintro e w4 ⟨rfl, hg4, ht4⟩
    have z4 := ht4.size
    have hown4 := hown3.kept ht4 (.inr (by intro e; have := (hown3.lt _ e).1; omega))
    have hbw := (below_turn hb ht2 (Nat.le_refl _) (by omega)).alloc (by omega) (.cells #[.int .i64 (tk : Int), .int .i64 (q : Int), .string (s.extract q (q + tn))] 77)
    have hb3 := hbw.trans (hl3.below.mono (by omega))
    go_wp2_with fail
    go_roundg (s.size - (q + tn) + 1)
    case rel => exact ⟨vs ++ [⟨(tk : Int), (q : Int), bs (List.take tn (List.drop q s.data.toList))⟩], q + tn, f, rfl, by omega, hjs, by simp; omega, own_vals hown4 _ (by rw [extract_mid s q tn]), HST.out.symm, hg4, below_turn hb3 ht4 (Nat.le_refl _) (by omega), by omega⟩
    case measure => omega
   ·have hst := scan_bad f _ p _ _ vs hdq h0
    rw [hT, ← hq] at hst
    have HST := Lib.hid hst
    have HC := Lib.hid hC
    clear hT HS hdq hx hst hC hq
    generalize tokL s[q] (s.data.toList.drop (q + 1)) = t at *
    obtain ⟨tk, tn, te⟩ := t
    simp only at h0 HST HC
    have hte : ((te : Int) != 0) = true := by rw [bne_iff_ne]; omega
    have H0 := Lib.hid h0
    clear h0
    go_wp2_with fail
    refine HC.out.mono ?_
    rintro e w2 ⟨u, j, rfl, hjs, hg2, ht2, hat, _⟩
    obtain ⟨uk, ua, us⟩ := u
    simp only at hat
    subst hat
    go_wp2_with fail
    go_quiet (fail)
    go_wp2_with fail
    go_ret3
    rw [HST.out]
    exact ⟨_, rfl, World.ownsRow_nil _ _ _ _, below_drewN ((below_turn hb ht2 (Nat.le_refl _) (by omega)).alloc (by have := ht2.size; omega) _) _⟩
  ·have hqq : q = s.size := by omega
   have hld : decide (q < s.size) = false := by simp; omega
   have hst := scan_end f _ p vs (by rw [hdq]; exact List.drop_eq_nil_of_le (by rw [Array.length_toList]; exact Nat.le_of_eq hqq.symm))
   rw [hT] at hst
   have HST := Lib.hid hst
   rw [← hq] at hg d1
   clear hT HS hdq hst hq hqq
   go_wp2_with fail
   go_ret3
   rw [HST.out]
   exact ⟨_, rfl, hown, hb⟩
end Go.Proofs.YtjdgejfhnfnmgaaGreatDoor
namespace Go.Proofs.YtjdgejfhnfnmgaaGreatDoor
open Go.RowKit
theorem between_any (n a b : Int) (w : World) :
  Calls Tryz.prog 23 #[.int .i64 n, .int .i64 a, .int .i64 b] w fun e w' => e = .returned (.bool (decide (a ≤ n) && decide (n ≤ b))) ∧ w = w' := by
 by_cases h1 : a ≤ n <;> by_cases h2 : n ≤ b
 all_goals
  go_enter Tryz.func23, Tryz.ntmps23
  go_wp2
  go_ret
  exact ⟨by simp [h1, h2], rfl⟩
end Go.Proofs.YtjdgejfhnfnmgaaGreatDoor
namespace Go.Proofs.YtjdgejfhnfnmgaaGreatDoor
open Go.RowKit
theorem isquot_any (c : UInt8) (w : World) :
  Calls Tryz.prog 59 #[.int .u8 c.toNat] w fun e w' => e = .returned (.bool (quotB c)) ∧ w = w' := by
 by_cases h1 : 32 ≤ (c.toNat : Int) <;> by_cases h2 : (c.toNat : Int) ≤ 126 <;> by_cases h3 : (c.toNat : Int) = 39
 all_goals
  try (exfalso; omega)
 all_goals
  have hu : (c.toNat : Int) ≤ 255 := by have := c.toNat_lt; omega
  have H3 := Lib.hid h3
  try have h4 : ((c.toNat : Int) != 39) = true := by simpa using h3
  try have h4 : ((c.toNat : Int) != 39) = false := by simpa using h3
  clear h3
  go_enter Tryz.func59, Tryz.ntmps59
  go_wp2_with (go_at_call 23; refine (between_any _ _ _ _).mono ?_; rintro e w' ⟨rfl, rfl⟩)
  go_ret
  exact ⟨by simp [quotB, h1, h2, H3.out], rfl⟩
end Go.Proofs.YtjdgejfhnfnmgaaGreatDoor
namespace Go.Proofs.YtjdgejfhnfnmgaaGreatDoor
open Go.RowKit
def tokA (x : UInt8) (l : List UInt8) : Nat × Nat :=
 if letterB x = true then (1, runN wordB l + 1)
 else if digitB x = true then (2, runN digitB l + 1)
 else if x = 39 then (if quotEnds l = true then (3, quotN l + 2) else (0, 0))
 else if bars (x :: l) = true then (4, 2)
 else if sign1 x = true then (4, 1)
 else (0, 0)
def wrongA (k n : Nat) (x : UInt8) : Nat :=
 if k = 0 then 1 else if (k = 1 ∧ 12 < n) ∨ (k = 2 ∧ 9 < n) ∨ (k = 3 ∧ 22 < n) then 2 else if k = 2 ∧ 1 < n ∧ x = 48 then 1 else 0
theorem tokA_kind (x : UInt8) (r : List UInt8) : (tokA x r).1 ≤ 4 := by
 unfold tokA
 repeat' split
 all_goals simp
theorem tokA_len (x : UInt8) (r : List UInt8) : (tokA x r).2 ≤ r.length + 1 := by
 have h1 := runN_le wordB r
 have h2 := runN_le digitB r
 unfold tokA
 split
 ·simp only; omega
 split
 ·simp only; omega
 split
 ·split
  ·rename_i hq
   have : runN quotB r < r.length := by
    unfold quotEnds quotN at hq
    rcases Nat.lt_or_ge (runN quotB r) r.length with h | h
    ·exact h
    ·rw [List.drop_eq_nil_of_le h] at hq; cases hq
   simp only [quotN]; omega
  ·simp
 split
 ·rename_i hb
  have : [124, 124] <+: x :: r := List.isPrefixOf_iff_prefix.1 hb
  have := this.length_le
  simp at this ⊢
  omega
 split <;> simp
theorem wrong_tok (x : UInt8) (r : List UInt8) : wrongA (tokA x r).1 (tokA x r).2 x = (tokL x r).2.2 := by
 unfold tokA tokL
 split
 ·simp only [wrongA]; repeat' split
  all_goals (first | rfl | omega | (simp_all; done) | (simp_all; omega))
 split
 ·simp only [wrongA]; repeat' split
  all_goals (first | rfl | omega | (simp_all; done) | (simp_all; omega))
 split
 ·split
  ·simp only [wrongA]; repeat' split
   all_goals (first | rfl | omega | (simp_all; done) | (simp_all; omega))
  ·rfl
 split
 ·simp [wrongA]
 split
 ·simp [wrongA]
 ·simp [wrongA]
theorem tok_same (x : UInt8) (r : List UInt8) (h : (tokL x r).2.2 = 0) : tokA x r = ((tokL x r).1, (tokL x r).2.1) := by
 unfold tokL at h
 unfold tokA tokL
 repeat' split
 all_goals first | rfl | (exfalso; simp_all)
theorem tokL_kind (x : UInt8) (r : List UInt8) : (tokL x r).1 ≠ 0 := by
 unfold tokL
 repeat' split
 all_goals simp
theorem tokA_blank (x : UInt8) (r : List UInt8) (h : blankB x = true) : tokA x r = (0, 0) := by
 have h3 : x = 32 ∨ x = 9 ∨ x = 10 := by
  simp only [blankB, Bool.or_eq_true, beq_iff_eq] at h
  rcases h with (h | h) | h
  ·exact .inl (UInt8.toNat_inj.1 (by rw [show (32 : UInt8).toNat = 32 from rfl]; omega))
  ·exact .inr (.inl (UInt8.toNat_inj.1 (by rw [show (9 : UInt8).toNat = 9 from rfl]; omega)))
  ·exact .inr (.inr (UInt8.toNat_inj.1 (by rw [show (10 : UInt8).toNat = 10 from rfl]; omega)))
 rcases h3 with rfl | rfl | rfl
 all_goals
  unfold tokA
  rw [if_neg (by decide), if_neg (by decide), if_neg (by decide), if_neg (by simp [bars, Lib.hasPrefix, List.isPrefixOf]), if_neg (by decide)]
def oneB (k : Int) (s : ByteArray) : Bool := match scanS s with | ([t], _, 0) => (t.k == k) && (t.s.toList == s.toList) | _ => false
def tokB (k : Int) (s : ByteArray) : Bool := match s.data.toList with
 | [] => false
 | x :: r => decide (s.size ≤ 2000) && !(k == 0) && (((tokA x r).1 : Int) == k) && decide ((tokA x r).2 = s.size) && decide ((tokL x r).2.2 = 0)
theorem oneB_of {k : Int} {s : ByteArray} (h : oneB k s = true) : ∃ t p, scanS s = ([t], p, 0) ∧ t.k = k ∧ t.s = s := by
 unfold oneB at h
 split at h
 ·rename_i t p heq
  simp only [Bool.and_eq_true, beq_iff_eq] at h
  refine ⟨t, p, heq, h.1, ?_⟩
  have h2 := h.2
  rw [ByteArray.toList_eq, ByteArray.toList_eq] at h2
  obtain ⟨k', n, ⟨⟨l⟩⟩⟩ := t
  obtain ⟨⟨l'⟩⟩ := s
  simp only at h2 ⊢
  rw [h2]
 ·cases h
theorem oneB_intro {k : Int} {s : ByteArray} {t : Vl} {p : Nat} (h : scanS s = ([t], p, 0)) (hk : t.k = k) (hs : t.s = s) : oneB k s = true := by
 unfold oneB
 rw [h]
 simp [hk, hs]
theorem scan_front (f : Nat) (l : List UInt8) (p : Nat) (x : UInt8) (r : List UInt8) (hl : l.drop (runN blankB l) = x :: r) :
  scanF (f + 1) l p = if (tokL x r).2.2 = 0 then comb [⟨(tokL x r).1, (p + runN blankB l : Nat), bs ((x :: r).take (tokL x r).2.1)⟩] (scanF f ((x :: r).drop (tokL x r).2.1) (p + runN blankB l + (tokL x r).2.1)) else ([], p + runN blankB l, (tokL x r).2.2) := by
 split
 ·rename_i h0
  rw [← scanF_norm (f + 1), scan_step f l p x r [] hl h0]
  rfl
 ·rename_i h0
  rw [← scanF_norm (f + 1), scan_bad f l p x r [] hl h0]
theorem one_tok (k : Int) (s : ByteArray) : oneB k s = tokB k s := by
 have hsz : s.size = s.data.toList.length := by rw [Array.length_toList]; rfl
 rw [Bool.eq_iff_iff]
 unfold tokB
 by_cases h2 : 2000 < s.size
 ·constructor
  ·intro h
   obtain ⟨t, p, h, _, _⟩ := oneB_of h
   rw [scanS, if_pos h2] at h
   simp at h
  ·intro h
   split at h
   ·cases h
   ·simp only [Bool.and_eq_true, decide_eq_true_eq] at h; omega
 have hS : scanS s = scanF (s.size + 1) s.data.toList 0 := by rw [scanS, if_neg h2]
 rcases hl : s.data.toList with _ | ⟨x, r⟩
 ·constructor
  ·intro h
   obtain ⟨t, p, h, _, _⟩ := oneB_of h
   rw [hS, hl] at h
   simp [scanF] at h
  ·intro h; cases h
 rw [hl] at hsz hS
 simp only [List.length_cons] at hsz
 dsimp only
 have hb : bs (x :: r) = s := by rw [← hl]; obtain ⟨⟨l⟩⟩ := s; rfl
 by_cases hbl : blankB x = true
 ·simp only [tokA_blank _ _ hbl]
  constructor
  ·intro h
   exfalso
   obtain ⟨t, p, h, _, hts⟩ := oneB_of h
   rw [hS] at h
   have hr : runN blankB (x :: r) = runN blankB r + 1 := by rw [runN, if_pos hbl]
   have hle := runN_le blankB r
   rcases hd : (x :: r).drop (runN blankB (x :: r)) with _ | ⟨y, r'⟩
   ·rw [← scanF_norm, scan_end _ _ _ _ hd] at h
    simp at h
   ·rw [scan_front _ _ _ _ _ hd] at h
    split at h
    ·simp only [comb] at h
     split at h
     ·simp only [List.singleton_append, Prod.mk.injEq, List.cons.injEq] at h
      obtain ⟨⟨rfl, _⟩, _⟩ := h
      simp only at hts
      have := congrArg ByteArray.size hts
      have e := congrArg List.length hd
      rw [List.length_drop, hr] at e
      simp only [List.length_cons] at e
      rw [bs_size, List.length_take, List.length_cons] at this
      omega
     ·simp at h
    ·simp at h
  ·intro h
   simp only [Bool.and_eq_true, Bool.not_eq_true', beq_eq_false_iff_ne, decide_eq_true_eq, beq_iff_eq] at h
   obtain ⟨⟨⟨⟨_, h0⟩, h1⟩, _⟩, _⟩ := h
   omega
 ·have hr : runN blankB (x :: r) = 0 := by rw [runN, if_neg hbl]
  have hd : (x :: r).drop (runN blankB (x :: r)) = x :: r := by rw [hr]; rfl
  have hF := scan_front s.size _ 0 _ _ hd
  rw [← hS] at hF
  by_cases h0 : (tokL x r).2.2 = 0
  ·rw [if_pos h0] at hF
   rw [tok_same _ _ h0]
   obtain ⟨hn1, hn2⟩ := tokL_pos _ _ h0
   have hk := tokL_kind x r
   have htk : ((x :: r).take (tokL x r).2.1).length = (tokL x r).2.1 := by rw [List.length_take, List.length_cons]; omega
   constructor
   ·intro h
    obtain ⟨t, p, h, h3, h4⟩ := oneB_of h
    rw [hF, comb] at h
    split at h
    ·simp only [List.singleton_append, Prod.mk.injEq, List.cons.injEq] at h
     obtain ⟨⟨rfl, _⟩, _⟩ := h
     simp only at h3 h4
     have := congrArg ByteArray.size h4
     rw [bs_size, htk] at this
     simp only [h0, Bool.and_eq_true, Bool.not_eq_true', beq_eq_false_iff_ne, decide_eq_true_eq, beq_iff_eq]
     exact ⟨⟨⟨⟨by omega, by omega⟩, h3⟩, this⟩, trivial⟩
    ·simp at h
   ·intro h
    simp only [Bool.and_eq_true, Bool.not_eq_true', beq_eq_false_iff_ne, decide_eq_true_eq, beq_iff_eq] at h
    obtain ⟨⟨⟨⟨_, _⟩, h1⟩, h3⟩, _⟩ := h
    have hdn : (x :: r).drop (tokL x r).2.1 = [] := List.drop_eq_nil_of_le (by rw [List.length_cons]; omega)
    have htn : (x :: r).take (tokL x r).2.1 = x :: r := List.take_of_length_le (by rw [List.length_cons]; omega)
    rw [hdn, htn] at hF
    have hnil : ∀ p, scanF s.size [] p = ([], 0, 0) := by
     intro p
     obtain ⟨z, hz⟩ : ∃ z, s.size = z + 1 := ⟨s.size - 1, by omega⟩
     rw [hz, scanF]; rfl
    rw [hnil] at hF
    exact oneB_intro (p := 0) (by rw [hF]; rfl) h1 hb
  ·rw [if_neg h0] at hF
   simp only [h0, decide_false, Bool.and_false]
   constructor
   ·intro h
    obtain ⟨t, p, h, _, _⟩ := oneB_of h
    rw [hF] at h
    simp at h
   ·intro h; cases h
end Go.Proofs.YtjdgejfhnfnmgaaGreatDoor
namespace Go.Proofs.YtjdgejfhnfnmgaaGreatDoor
open Go.RowKit
theorem isletter_any (c : UInt8) (w : World) :
  Calls Tryz.prog 121 #[.int .u8 c.toNat] w fun e w' => e = .returned (.bool (letterB c)) ∧ w = w' := by
 have hu : (c.toNat : Int) ≤ 255 := by have := c.toNat_lt; omega
 go_enter Tryz.func121, Tryz.ntmps121
 go_wp2_with (go_at_call 23; refine (between_any _ _ _ _).mono ?_; rintro e w' ⟨rfl, rfl⟩)
 go_ret
 exact ⟨rfl, rfl⟩
theorem isdigit_any (c : UInt8) (w : World) :
  Calls Tryz.prog 122 #[.int .u8 c.toNat] w fun e w' => e = .returned (.bool (digitB c)) ∧ w = w' := by
 have hu : (c.toNat : Int) ≤ 255 := by have := c.toNat_lt; omega
 go_enter Tryz.func122, Tryz.ntmps122
 go_wp2_with (go_at_call 23; refine (between_any _ _ _ _).mono ?_; rintro e w' ⟨rfl, rfl⟩)
 go_ret
 exact ⟨rfl, rfl⟩
def AtPost (T : Nat × Nat) (w : World) (e : Ending) (w' : World) : Prop := e = .returned (.tuple #[.int .i64 T.1, .int .i64 T.2]) ∧ w = w'
set_option maxHeartbeats 2000000 in
theorem at_letter (s : ByteArray) (p : Nat) (w : World) (hp : p < s.size) (hs : s.size ≤ 2000) (hl : letterB s[p] = true) :
  Calls Tryz.prog 66 #[.string s, .int .i64 p] w (AtPost (tokA s[p] (s.data.toList.drop (p + 1))) w) := by
 have hR := runN_le wordB (s.data.toList.drop (p + 1))
 rw [List.length_drop, Array.length_toList, show s.data.size = s.size from rfl] at hR
 have HD := Lib.hid (fun k (h : k < s.size) => drop_at s k h)
 have HT := Lib.hid (show tokA s[p] (s.data.toList.drop (p + 1)) = (1, runN wordB (s.data.toList.drop (p + 1)) + 1) by rw [tokA, if_pos hl])
 have HL := Lib.hid (isletter_any s[p])
 rw [hl] at HL
 obtain ⟨z, hz⟩ : ∃ z, z = runN wordB (s.data.toList.drop (p + 1)) + 1 := ⟨_, rfl⟩
 have hz1 : 1 ≤ z := by omega
 have hz2 : p + z ≤ s.size := by omega
 have HN := Lib.hid hz
 rw [← hz] at HT
 clear hz hR hl
 go_enter Tryz.func66, Tryz.ntmps66
 go_wp2_with fail
 refine (HL.out w).mono ?_
 rintro e w1 ⟨rfl, rfl⟩
 go_wp2_with fail
 go_loopg [7] (z - 1) (fun m v wr => ∃ j : Nat, v = .int .i64 j ∧ m = z - j ∧ 1 ≤ j ∧ j ≤ z ∧ j + runN wordB (s.data.toList.drop (p + j)) = z ∧ w = wr)
 case atStart => exact ⟨1, rfl, rfl, Nat.le_refl _, hz1, by rw [HN.out]; omega, rfl⟩
 case round =>
  obtain ⟨j, rfl, rfl, h1, hjz, hrun, rfl⟩ := hrel
  have HRN := Lib.hid hrun
  clear hrun
  by_cases hlt : p + j < s.size
  ·have HC := Lib.hid (isletter_any s[p + j])
   have HE := Lib.hid (isdigit_any s[p + j])
   have hq : wordB s[p + j] = (letterB s[p + j] || digitB s[p + j]) := rfl
   have hk := HRN.out
   rw [HD.out _ hlt, runN] at hk
   by_cases hab : wordB s[p + j] = true
   ·rw [if_pos hab] at hk
    rw [hab] at hq
    have HK := Lib.hid (show j + 1 ≤ z ∧ (j + 1) + runN wordB (s.data.toList.drop (p + (j + 1))) = z from by rw [show p + (j + 1) = p + j + 1 from rfl]; omega)
    have HQ := Lib.hid hq
    clear hab hk hq
    generalize letterB s[p + j] = a at *
    generalize digitB s[p + j] = b at *
    cases a
    ·obtain rfl : b = true := by simpa using HQ.out.symm
     go_wp2_with fail
     refine (HC.out w).mono ?_
     rintro e w1 ⟨rfl, rfl⟩
     go_wp2_with fail
     refine (HE.out w).mono ?_
     rintro e w1 ⟨rfl, rfl⟩
     go_wp2_with fail
     go_roundg (z - (j + 1))
     case rel => exact ⟨j + 1, rfl, rfl, by omega, HK.out.1, HK.out.2, rfl⟩
     case measure => have := HK.out.1; omega
    ·go_wp2_with fail
     refine (HC.out w).mono ?_
     rintro e w1 ⟨rfl, rfl⟩
     go_wp2_with fail
     go_roundg (z - (j + 1))
     case rel => exact ⟨j + 1, rfl, rfl, by omega, HK.out.1, HK.out.2, rfl⟩
     case measure => have := HK.out.1; omega
   ·rw [if_neg hab] at hk
    have hq2 : wordB s[p + j] = false := by simpa using hab
    rw [hq2] at hq
    have HQ := Lib.hid hq
    obtain rfl : j = z := by omega
    clear hab hk hq hq2
    generalize letterB s[p + j] = a at *
    generalize digitB s[p + j] = b at *
    obtain ⟨rfl, rfl⟩ : a = false ∧ b = false := Bool.or_eq_false_iff.1 HQ.out.symm
    go_wp2_with fail
    refine (HC.out w).mono ?_
    rintro e w1 ⟨rfl, rfl⟩
    go_wp2_with fail
    refine (HE.out w).mono ?_
    rintro e w1 ⟨rfl, rfl⟩
    go_wp2_with fail
    go_ret2
    rw [HT.out]
    exact ⟨rfl, rfl⟩
  ·have hk : j = z := by
    have := HRN.out
    rw [List.drop_eq_nil_of_le (by rw [Array.length_toList, show s.data.size = s.size from rfl]; omega)] at this
    simp only [runN] at this
    omega
   subst hk
   go_wp2_with fail
   go_ret2
   rw [HT.out]
   exact ⟨rfl, rfl⟩
set_option maxHeartbeats 2000000 in
theorem at_digit (s : ByteArray) (p : Nat) (w : World) (hp : p < s.size) (hs : s.size ≤ 2000) (hl : letterB s[p] = false) (hd : digitB s[p] = true) :
  Calls Tryz.prog 66 #[.string s, .int .i64 p] w (AtPost (tokA s[p] (s.data.toList.drop (p + 1))) w) := by
 have hR := runN_le digitB (s.data.toList.drop (p + 1))
 rw [List.length_drop, Array.length_toList, show s.data.size = s.size from rfl] at hR
 have HD := Lib.hid (fun k (h : k < s.size) => drop_at s k h)
 have HT := Lib.hid (show tokA s[p] (s.data.toList.drop (p + 1)) = (2, runN digitB (s.data.toList.drop (p + 1)) + 1) by rw [tokA, if_neg (by simp [hl]), if_pos hd])
 have HL := Lib.hid (isletter_any s[p])
 rw [hl] at HL
 have HG := Lib.hid (isdigit_any s[p])
 rw [hd] at HG
 obtain ⟨z, hz⟩ : ∃ z, z = runN digitB (s.data.toList.drop (p + 1)) + 1 := ⟨_, rfl⟩
 have hz1 : 1 ≤ z := by omega
 have hz2 : p + z ≤ s.size := by omega
 have HN := Lib.hid hz
 rw [← hz] at HT
 clear hz hR hl hd
 go_enter Tryz.func66, Tryz.ntmps66
 go_wp2_with fail
 refine (HL.out w).mono ?_
 rintro e w1 ⟨rfl, rfl⟩
 go_wp2_with fail
 refine (HG.out w).mono ?_
 rintro e w1 ⟨rfl, rfl⟩
 go_wp2_with fail
 go_loopg [7] (z - 1) (fun m v wr => ∃ j : Nat, v = .int .i64 j ∧ m = z - j ∧ 1 ≤ j ∧ j ≤ z ∧ j + runN digitB (s.data.toList.drop (p + j)) = z ∧ w = wr)
 case atStart => exact ⟨1, rfl, rfl, Nat.le_refl _, hz1, by rw [HN.out]; omega, rfl⟩
 case round =>
  obtain ⟨j, rfl, rfl, h1, hjz, hrun, rfl⟩ := hrel
  have HRN := Lib.hid hrun
  clear hrun
  by_cases hlt : p + j < s.size
  ·have HC := Lib.hid (isdigit_any s[p + j])
   have hk := HRN.out
   rw [HD.out _ hlt, runN] at hk
   by_cases hab : digitB s[p + j] = true
   ·rw [if_pos hab] at hk
    have HK := Lib.hid (show j + 1 ≤ z ∧ (j + 1) + runN digitB (s.data.toList.drop (p + (j + 1))) = z from by rw [show p + (j + 1) = p + j + 1 from rfl]; omega)
    rw [hab] at HC
    clear hab hk
    go_wp2_with fail
    refine (HC.out w).mono ?_
    rintro e w1 ⟨rfl, rfl⟩
    go_wp2_with fail
    go_roundg (z - (j + 1))
    case rel => exact ⟨j + 1, rfl, rfl, by omega, HK.out.1, HK.out.2, rfl⟩
    case measure => have := HK.out.1; omega
   ·rw [if_neg hab] at hk
    rw [show digitB s[p + j] = false by simpa using hab] at HC
    obtain rfl : j = z := by omega
    clear hab hk
    go_wp2_with fail
    refine (HC.out w).mono ?_
    rintro e w1 ⟨rfl, rfl⟩
    go_wp2_with fail
    go_ret2
    rw [HT.out]
    exact ⟨rfl, rfl⟩
  ·have hk : j = z := by
    have := HRN.out
    rw [List.drop_eq_nil_of_le (by rw [Array.length_toList, show s.data.size = s.size from rfl]; omega)] at this
    simp only [runN] at this
    omega
   subst hk
   go_wp2_with fail
   go_ret2
   rw [HT.out]
   exact ⟨rfl, rfl⟩
set_option maxHeartbeats 2000000 in
theorem at_quote (s : ByteArray) (p : Nat) (w : World) (hp : p < s.size) (hs : s.size ≤ 2000) (hl : letterB s[p] = false) (hd : digitB s[p] = false) (h39 : s[p] = 39) :
  Calls Tryz.prog 66 #[.string s, .int .i64 p] w (AtPost (tokA s[p] (s.data.toList.drop (p + 1))) w) := by
 have hR := runN_le quotB (s.data.toList.drop (p + 1))
 rw [List.length_drop, Array.length_toList, show s.data.size = s.size from rfl] at hR
 have HD := Lib.hid (fun k (h : k < s.size) => drop_at s k h)
 have HT := Lib.hid (show tokA s[p] (s.data.toList.drop (p + 1)) = (if quotEnds (s.data.toList.drop (p + 1)) = true then (3, runN quotB (s.data.toList.drop (p + 1)) + 1 + 1) else (0, 0)) by rw [tokA, if_neg (by simp [hl]), if_neg (by simp [hd]), if_pos h39]; rfl)
 have HL := Lib.hid (isletter_any s[p])
 rw [hl] at HL
 have HG := Lib.hid (isdigit_any s[p])
 rw [hd] at HG
 have h39' : ((s[p].toNat : Int) == 39) = true := by rw [h39]; rfl
 have hqe : quotEnds (s.data.toList.drop (p + 1)) = match s.data.toList.drop (p + (runN quotB (s.data.toList.drop (p + 1)) + 1)) with | x :: _ => x == 39 | [] => false := by
  unfold quotEnds quotN
  rw [List.drop_drop, show p + 1 + runN quotB (s.data.toList.drop (p + 1)) = p + (runN quotB (s.data.toList.drop (p + 1)) + 1) from by omega]
  generalize s.data.toList.drop (p + (runN quotB (s.data.toList.drop (p + 1)) + 1)) = L
  cases L <;> rfl
 obtain ⟨z, hz⟩ : ∃ z, z = runN quotB (s.data.toList.drop (p + 1)) + 1 := ⟨_, rfl⟩
 have hz1 : 1 ≤ z := by omega
 have hz2 : p + z ≤ s.size := by omega
 have HN := Lib.hid hz
 rw [← hz] at HT hqe
 have HQE := Lib.hid hqe
 clear hz hR hl hd h39 hqe
 generalize quotEnds (s.data.toList.drop (p + 1)) = qe at *
 go_enter Tryz.func66, Tryz.ntmps66
 go_wp2_with fail
 refine (HL.out w).mono ?_
 rintro e w1 ⟨rfl, rfl⟩
 go_wp2_with fail
 refine (HG.out w).mono ?_
 rintro e w1 ⟨rfl, rfl⟩
 go_wp2_with fail
 go_loopg [7] (z - 1) (fun m v wr => ∃ j : Nat, v = .int .i64 j ∧ m = z - j ∧ 1 ≤ j ∧ j ≤ z ∧ j + runN quotB (s.data.toList.drop (p + j)) = z ∧ w = wr)
 case atStart => exact ⟨1, rfl, rfl, Nat.le_refl _, hz1, by rw [HN.out]; omega, rfl⟩
 case round =>
  obtain ⟨j, rfl, rfl, h1, hjz, hrun, rfl⟩ := hrel
  have HRN := Lib.hid hrun
  clear hrun
  by_cases hlt : p + j < s.size
  ·have HC := Lib.hid (isquot_any s[p + j])
   have hk := HRN.out
   rw [HD.out _ hlt, runN] at hk
   by_cases hab : quotB s[p + j] = true
   ·rw [if_pos hab] at hk
    have HK := Lib.hid (show j + 1 ≤ z ∧ (j + 1) + runN quotB (s.data.toList.drop (p + (j + 1))) = z from by rw [show p + (j + 1) = p + j + 1 from rfl]; omega)
    rw [hab] at HC
    clear hab hk
    go_wp2_with fail
    refine (HC.out w).mono ?_
    rintro e w1 ⟨rfl, rfl⟩
    go_wp2_with fail
    go_roundg (z - (j + 1))
    case rel => exact ⟨j + 1, rfl, rfl, by omega, HK.out.1, HK.out.2, rfl⟩
    case measure => have := HK.out.1; omega
   ·rw [if_neg hab] at hk
    rw [show quotB s[p + j] = false by simpa using hab] at HC
    obtain rfl : j = z := by omega
    have hq := HQE.out
    rw [HD.out _ hlt] at hq
    simp only at hq
    clear hab hk
    by_cases he : s[p + j] = 39
    ·have hq2 : ((s[p + j].toNat : Int) == 39) = true := by rw [he]; rfl
     have hq3 : qe = true := by rw [hq, he]; rfl
     subst hq3
     clear hq he
     go_wp2_with fail
     refine (HC.out w).mono ?_
     rintro e w1 ⟨rfl, rfl⟩
     go_wp2_with fail
     go_ret2
     rw [HT.out]
     exact ⟨rfl, rfl⟩
    ·have hq2 : ((s[p + j].toNat : Int) == 39) = false := by rw [beq_eq_false_iff_ne]; exact fun h => he (UInt8.toNat_inj.1 (by rw [show (39 : UInt8).toNat = 39 from rfl]; omega))
     have hq3 : qe = false := by rw [hq]; simpa using he
     subst hq3
     clear hq he
     go_wp2_with fail
     refine (HC.out w).mono ?_
     rintro e w1 ⟨rfl, rfl⟩
     go_wp2_with fail
     go_ret2
     rw [HT.out]
     exact ⟨rfl, rfl⟩
  ·have hnil : s.data.toList.drop (p + j) = [] := List.drop_eq_nil_of_le (by rw [Array.length_toList, show s.data.size = s.size from rfl]; omega)
   have hk : j = z := by
    have := HRN.out
    rw [hnil] at this
    simp only [runN] at this
    omega
   subst hk
   have hq := HQE.out
   rw [hnil] at hq
   simp only at hq
   subst hq
   clear hnil
   go_wp2_with fail
   go_ret2
   rw [HT.out]
   exact ⟨rfl, rfl⟩
theorem sign1_cases (x : UInt8) : sign1 x = decide (x ∈ [40, 41, 44, 59, 42, 61, 60, 43, 45]) := by
 by_cases h : x ∈ [40, 41, 44, 59, 42, 61, 60, 43, 45]
 ·simp only [List.mem_cons, List.not_mem_nil, or_false] at h
  rcases h with rfl | rfl | rfl | rfl | rfl | rfl | rfl | rfl | rfl <;> kernel_rfl
 ·rw [decide_eq_false h]
  cases hs : sign1 x
  ·rfl
  ·exfalso
   simp only [sign1, decide_eq_true_eq] at hs
   obtain ⟨o, ho⟩ := Int.eq_ofNat_of_zero_le hs
   exact h (List.mem_of_getElem? (Lib.indexByte_some ho).1)
def signFrom (x : UInt8) (i : Nat) : Bool := decide (x ∈ (⟨#[40, 41, 44, 59, 42, 61, 60, 43, 45]⟩ : ByteArray).data.toList.drop i)
theorem sign_step (x : UInt8) (i : Nat) (h : i < (⟨#[40, 41, 44, 59, 42, 61, 60, 43, 45]⟩ : ByteArray).size) : signFrom x i = (((((⟨#[40, 41, 44, 59, 42, 61, 60, 43, 45]⟩ : ByteArray)[i]).toNat : Int) == (x.toNat : Int)) || signFrom x (i + 1)) := by
 unfold signFrom
 rw [drop_at _ i h, Bool.eq_iff_iff, decide_eq_true_eq, Bool.or_eq_true, decide_eq_true_eq, beq_iff_eq, List.mem_cons]
 generalize (⟨#[40, 41, 44, 59, 42, 61, 60, 43, 45]⟩ : ByteArray)[i] = y
 refine or_congr ⟨fun h => by rw [h], fun h => UInt8.toNat_inj.1 (by omega)⟩ Iff.rfl
theorem sign_end (x : UInt8) : signFrom x 9 = false := by simp [signFrom]
theorem barsAt (s : ByteArray) (p : Nat) (hp : p < s.size) : bars (s[p] :: s.data.toList.drop (p + 1)) = (if h : p + 1 < s.size then ((s[p].toNat : Int) == 124) && ((s[p + 1].toNat : Int) == 124) else false) := by
 have key : ∀ a : UInt8, (a == 124) = ((a.toNat : Int) == 124) := fun a => by
  by_cases h : a = 124
  ·subst h; rfl
  ·rw [beq_eq_false_iff_ne.2 h, eq_comm, beq_eq_false_iff_ne]; exact fun h2 => h (UInt8.toNat_inj.1 (by rw [show (124 : UInt8).toNat = 124 from rfl]; omega))
 by_cases h : p + 1 < s.size
 ·rw [dif_pos h, drop_at s (p + 1) h, ← key, ← key]
  unfold bars Lib.hasPrefix
  simp only [List.isPrefixOf, Bool.and_true]
  rw [BEq.comm (a := (124 : UInt8)), BEq.comm (a := (124 : UInt8))]
 ·rw [dif_neg h, List.drop_eq_nil_of_le (by rw [Array.length_toList, show s.data.size = s.size from rfl]; omega)]
  unfold bars Lib.hasPrefix
  simp [List.isPrefixOf]
set_option maxHeartbeats 2000000 in
theorem at_sign (s : ByteArray) (p : Nat) (w : World) (hp : p < s.size) (hs : s.size ≤ 2000) (hl : letterB s[p] = false) (hd : digitB s[p] = false) (h39 : ¬ s[p] = 39) :
  Calls Tryz.prog 66 #[.string s, .int .i64 p] w (AtPost (tokA s[p] (s.data.toList.drop (p + 1))) w) := by
 have HT := Lib.hid (show tokA s[p] (s.data.toList.drop (p + 1)) = (if bars (s[p] :: s.data.toList.drop (p + 1)) = true then (4, 2) else if signFrom s[p] 0 = true then (4, 1) else (0, 0)) by rw [tokA, if_neg (by simp [hl]), if_neg (by simp [hd]), if_neg h39, sign1_cases]; rfl)
 have HB := barsAt s p hp
 have HL := Lib.hid (isletter_any s[p])
 rw [hl] at HL
 have HG := Lib.hid (isdigit_any s[p])
 rw [hd] at HG
 have h0 : ((s[p].toNat : Int) == 39) = false := by rw [beq_eq_false_iff_ne]; exact fun h => h39 (UInt8.toNat_inj.1 (by rw [show (39 : UInt8).toNat = 39 from rfl]; omega))
 clear hl hd h39
 generalize bars (s[p] :: s.data.toList.drop (p + 1)) = bb at *
 have HS : Hid (signFrom s[p] 0 = signFrom s[p] 0) := Lib.hid rfl
 by_cases hb : bb = true
 ·subst hb
  have hps : p + 1 < s.size := by
   by_cases h : p + 1 < s.size
   ·exact h
   ·rw [dif_neg h] at HB; cases HB
  rw [dif_pos hps] at HB
  obtain ⟨hb1, hb2⟩ := Bool.and_eq_true_iff.1 HB.symm
  clear HB
  go_enter Tryz.func66, Tryz.ntmps66
  go_wp2_with fail
  refine (HL.out w).mono ?_
  rintro e w1 ⟨rfl, rfl⟩
  go_wp2_with fail
  refine (HG.out w).mono ?_
  rintro e w1 ⟨rfl, rfl⟩
  go_wp2_with fail
  go_ret2
  rw [HT.out]
  exact ⟨rfl, rfl⟩
 ·obtain rfl : bb = false := by simpa using hb
  have h3 : ((s[p].toNat : Int) == 124) = false ∨ (((s[p].toNat : Int) == 124) = true ∧ ¬ p + 1 < s.size) ∨ (((s[p].toNat : Int) == 124) = true ∧ ∃ h : p + 1 < s.size, ((s[p + 1].toNat : Int) == 124) = false) := by
   rcases h124 : ((s[p].toNat : Int) == 124) with _ | _
   ·exact .inl rfl
   ·by_cases h : p + 1 < s.size
    ·rw [dif_pos h, h124] at HB
     exact .inr (.inr ⟨rfl, h, HB.symm⟩)
    ·exact .inr (.inl ⟨rfl, h⟩)
  clear HB hb
  rcases h3 with h1 | ⟨h1, h2⟩ | ⟨h1, h2, h4⟩
  all_goals
   go_enter Tryz.func66, Tryz.ntmps66
   go_wp2_with fail
   refine (HL.out w).mono ?_
   rintro e w1 ⟨rfl, rfl⟩
   go_wp2_with fail
   refine (HG.out w).mono ?_
   rintro e w1 ⟨rfl, rfl⟩
   go_wp2_with fail
  all_goals
   go_loopg [9] 9 (fun m v wr => ∃ i : Nat, v = .int .i64 i ∧ m = 9 - i ∧ i ≤ 9 ∧ signFrom s[p] i = signFrom s[p] 0 ∧ w = wr)
   case atStart => exact ⟨0, rfl, rfl, by omega, rfl, rfl⟩
   case round =>
    obtain ⟨i, rfl, rfl, hi, hsf, rfl⟩ := hrel
    have HSF := Lib.hid hsf
    clear hsf HS
    by_cases hi9 : i < 9
    ·have hst := sign_step s[p] i hi9
     rcases hx : ((((⟨#[40, 41, 44, 59, 42, 61, 60, 43, 45]⟩ : ByteArray)[i]).toNat : Int) == (s[p].toNat : Int)) with _ | _
     ·rw [hx, Bool.false_or] at hst
      have HST := Lib.hid hst
      clear hst
      go_wp2_with fail
      go_roundg (9 - (i + 1))
      case rel => exact ⟨i + 1, rfl, rfl, by omega, HST.out.symm.trans HSF.out, rfl⟩
      case measure => omega
     ·rw [hx, Bool.true_or, HSF.out] at hst
      have HST := Lib.hid hst
      clear hst
      go_wp2_with fail
      go_ret2
      rw [HT.out, HST.out]
      exact ⟨rfl, rfl⟩
    ·obtain rfl : i = 9 := by omega
     rw [sign_end] at HSF
     go_wp2_with fail
     go_ret2
     rw [HT.out, ← HSF.out]
     exact ⟨rfl, rfl⟩
theorem at_any (s : ByteArray) (p : Nat) (w : World) (hp : p < s.size) (hs : s.size ≤ 2000) :
  Calls Tryz.prog 66 #[.string s, .int .i64 p] w (AtPost (tokA s[p] (s.data.toList.drop (p + 1))) w) := by
 rcases hl : letterB s[p] with _ | _
 ·rcases hd : digitB s[p] with _ | _
  ·by_cases h39 : s[p] = 39
   ·exact at_quote s p w hp hs hl hd h39
   ·exact at_sign s p w hp hs hl hd h39
  ·exact at_digit s p w hp hs hl hd
 ·exact at_letter s p w hp hs hl
end Go.Proofs.YtjdgejfhnfnmgaaGreatDoor
