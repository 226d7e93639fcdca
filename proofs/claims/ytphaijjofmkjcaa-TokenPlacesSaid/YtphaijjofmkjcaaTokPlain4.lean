/- Plain laws of tokens joined, and scanned again. -/
import Derived.Test.YtphaijjofmkjcaaTokPlain3
namespace Go.Proofs.Ytphaijjofmkjcaa
open Go.RowKit
theorem runN_app (q : UInt8 → Bool) (l S : List UInt8) (h : runN q S = 0) : runN q (l ++ S) = runN q l := by
  induction l with
  | nil => simpa [runN] using h
  | cons x l ih => simp only [List.cons_append, runN, ih]
theorem runN_app_lt (q : UInt8 → Bool) (l S : List UInt8) (h : runN q l < l.length) : runN q (l ++ S) = runN q l := by
  induction l with
  | nil => simp at h
  | cons x l ih =>
    simp only [List.cons_append, runN] at h ⊢
    split
    · rename_i hx; rw [if_pos hx, List.length_cons] at h; rw [ih (by omega)]
    · rfl
theorem runN_take (q : UInt8 → Bool) (l : List UInt8) (j : Nat) : runN q (l.take j) = min j (runN q l) := by
  induction l generalizing j with
  | nil => simp [runN]
  | cons x l ih =>
    cases j with
    | zero => simp [runN]
    | succ j =>
      simp only [List.take_succ_cons, runN, ih]
      split
      · omega
      · simp
theorem quot_lt {l : List UInt8} (h : quotEnds l = true) : quotN l < l.length := by
  unfold quotEnds at h
  rcases Nat.lt_or_ge (quotN l) l.length with h2 | h2
  · exact h2
  · rw [List.drop_eq_nil_of_le h2] at h; cases h
/-- what may stand behind a token -/
def Beh (S : List UInt8) : Prop := S = [] ∨ ∃ S', S = 32 :: S'
theorem Beh.run {S : List UInt8} (h : Beh S) (q : UInt8 → Bool) (hq : q 32 = false) : runN q S = 0 := by
  rcases h with rfl | ⟨S', rfl⟩
  · rfl
  · rw [runN, if_neg (by simp [hq])]
theorem bars_two (x y : UInt8) (S : List UInt8) : bars (x :: y :: S) = (x == 124 && y == 124) := by
  unfold bars Lib.hasPrefix
  simp only [List.isPrefixOf, Bool.and_true]
  rw [BEq.comm (a := (124 : UInt8)), BEq.comm (a := (124 : UInt8))]
theorem bars_one (x : UInt8) : bars [x] = false := by
  unfold bars Lib.hasPrefix
  simp [List.isPrefixOf]
theorem bars_beh (x : UInt8) {S : List UInt8} (h : Beh S) : bars (x :: S) = false := by
  rcases h with rfl | ⟨S', rfl⟩
  · exact bars_one x
  · rw [bars_two]; simp
theorem tokL_app (x : UInt8) (r S : List UInt8) (h0 : (tokL x r).2.2 = 0) (hn : (tokL x r).2.1 = r.length + 1) (hS : Beh S) : tokL x (r ++ S) = tokL x r := by
  unfold tokL at h0 hn ⊢
  by_cases hl : letterB x = true
  · rw [if_pos hl, if_pos hl, runN_app _ _ _ (hS.run _ (by decide))]
  rw [if_neg hl] at h0 hn ⊢
  rw [if_neg hl]
  by_cases hd : digitB x = true
  · rw [if_pos hd, if_pos hd, runN_app _ _ _ (hS.run _ (by decide))]
  rw [if_neg hd] at h0 hn ⊢
  rw [if_neg hd]
  by_cases h39 : x = 39
  · rw [if_pos h39] at h0 hn ⊢
    rw [if_pos h39]
    by_cases hq : quotEnds r = true
    · have hlt := quot_lt hq
      have e : quotN (r ++ S) = quotN r := runN_app_lt _ _ _ hlt
      have e2 : quotEnds (r ++ S) = true := by
        rw [← hq]
        unfold quotEnds
        rw [e, List.drop_append_of_le_length (by omega)]
        obtain ⟨y, z, hyz⟩ : ∃ y z, r.drop (quotN r) = y :: z := ⟨_, _, List.drop_eq_getElem_cons hlt⟩
        rw [hyz]; rfl
      rw [if_pos e2, if_pos hq, e]
    · rw [if_neg hq] at h0; simp at h0
  rw [if_neg h39] at h0 hn ⊢
  rw [if_neg h39]
  by_cases hb : bars (x :: r) = true
  · rw [if_pos hb] at hn ⊢
    simp only at hn
    obtain ⟨y, rfl⟩ : ∃ y, r = [y] := by
      rcases r with _ | ⟨y, _ | _⟩
      · simp at hn
      · exact ⟨y, rfl⟩
      · simp at hn
    rw [if_pos (by rw [List.singleton_append, bars_two]; rw [bars_two] at hb; exact hb)]
  rw [if_neg hb] at h0 hn ⊢
  by_cases hs : sign1 x = true
  · rw [if_pos hs] at hn ⊢
    simp only at hn
    obtain rfl : r = [] := List.eq_nil_of_length_eq_zero (by omega)
    rw [List.nil_append, if_neg (by simp [bars_beh x hS])]
  · rw [if_neg hs] at h0; simp at h0
theorem tokL_take (x : UInt8) (r : List UInt8) (h0 : (tokL x r).2.2 = 0) : tokL x (r.take ((tokL x r).2.1 - 1)) = tokL x r := by
  unfold tokL at h0 ⊢
  by_cases hl : letterB x = true
  · simp only [if_pos hl, Nat.add_sub_cancel, runN_take, Nat.min_self]
  simp only [if_neg hl] at h0 ⊢
  by_cases hd : digitB x = true
  · simp only [if_pos hd, Nat.add_sub_cancel, runN_take, Nat.min_self]
  simp only [if_neg hd] at h0 ⊢
  by_cases h39 : x = 39
  · simp only [if_pos h39] at h0 ⊢
    by_cases hq : quotEnds r = true
    · have hlt := quot_lt hq
      simp only [if_pos hq, show quotN r + 2 - 1 = quotN r + 1 from rfl]
      have e : quotN (r.take (quotN r + 1)) = quotN r := by
        rw [quotN, runN_take]
        show min (quotN r + 1) (quotN r) = _
        omega
      have e2 : quotEnds (r.take (quotN r + 1)) = true := by
        rw [← hq]
        unfold quotEnds
        rw [e, List.drop_take]
        obtain ⟨y, z, hyz⟩ : ∃ y z, r.drop (quotN r) = y :: z := ⟨_, _, List.drop_eq_getElem_cons hlt⟩
        rw [hyz, show quotN r + 1 - quotN r = 1 from by omega]; rfl
      rw [if_pos e2, e]
    · rw [if_neg hq] at h0; simp at h0
  simp only [if_neg h39] at h0 ⊢
  by_cases hb : bars (x :: r) = true
  · simp only [if_pos hb] at h0 ⊢
    rcases r with _ | ⟨y, z⟩
    · rw [bars_one] at hb; cases hb
    · rw [bars_two] at hb
      rw [if_pos (by simp only [List.take_succ_cons, List.take_zero, show 2 - 1 = 1 from rfl]; rw [bars_two]; exact hb)]
  simp only [if_neg hb] at h0 ⊢
  by_cases hs : sign1 x = true
  · simp only [if_pos hs, Nat.sub_self, List.take_zero, bars_one, Bool.false_eq_true, if_false]
  · simp only [if_neg hs] at h0; simp at h0
theorem tokB_of (x : UInt8) (r : List UInt8) (h0 : (tokL x r).2.2 = 0) (hsz : (tokL x r).2.1 ≤ 2000) : oneB (tokL x r).1 (bs ((x :: r).take (tokL x r).2.1)) = true := by
  obtain ⟨h1, h2⟩ := tokL_pos x r h0
  obtain ⟨m, hm⟩ : ∃ m, (tokL x r).2.1 = m + 1 := ⟨(tokL x r).2.1 - 1, by omega⟩
  have ht := tokL_take x r h0
  rw [one_tok]
  unfold tokB
  have hl : (bs ((x :: r).take (tokL x r).2.1)).data.toList = x :: r.take ((tokL x r).2.1 - 1) := by
    rw [hm]; rfl
  have hs : (bs ((x :: r).take (tokL x r).2.1)).size = (tokL x r).2.1 := by rw [bs_size, List.length_take, List.length_cons]; omega
  rw [hl, hs]
  dsimp only
  rw [tok_same x (r.take ((tokL x r).2.1 - 1)) (by rw [ht]; exact h0), ht]
  have hk := tokL_kind x r
  simp only [Bool.and_eq_true, Bool.not_eq_true', beq_eq_false_iff_ne, decide_eq_true_eq, beq_iff_eq]
  exact ⟨⟨⟨⟨hsz, by omega⟩, trivial⟩, trivial⟩, h0⟩

def txts (vs : List Vl) : List (List UInt8) := vs.map fun v => v.s.data.toList
def allOne (vs : List Vl) : Bool := vs.all fun v => oneB v.k v.s
def lenJ : List Vl → Nat
  | [] => 0
  | v :: l => 1 + v.s.size + lenJ l
def joinL (vs : List Vl) : List UInt8 := Lib.join (txts vs) [32]
def joinS (vs : List Vl) : ByteArray × Nat := if allOne vs = true then (if 2001 < lenJ vs then (bs [], 2) else (bs (joinL vs), 0)) else (bs [], 1)
theorem size_list (s : ByteArray) : s.data.toList.length = s.size := by rw [Array.length_toList]; rfl
theorem joinTail_cons (sep y : List UInt8) (r : List (List UInt8)) : Lib.joinTail sep (y :: r) = sep ++ Lib.join (y :: r) sep := by
  rw [Lib.join_cons]
  simp [Lib.joinTail, List.append_assoc]
theorem joinL_one (v : Vl) : joinL [v] = v.s.data.toList := Lib.join_one _ _
theorem joinL_cons (v u : Vl) (vs : List Vl) : joinL (v :: u :: vs) = v.s.data.toList ++ 32 :: joinL (u :: vs) := by
  have := Lib.join_cons v.s.data.toList (txts (u :: vs)) [32]
  have e := joinTail_cons [32] u.s.data.toList (txts vs)
  refine this.trans ?_
  rw [show txts (u :: vs) = u.s.data.toList :: txts vs from rfl, e]
  rfl
theorem scan_blank' (f : Nat) (x : UInt8) (l : List UInt8) (p : Nat) (h : blankB x = true) : scanF (f + 1) (x :: l) p = scanF (f + 1) l (p + 1) := by
  have e : runN blankB (x :: l) = runN blankB l + 1 := by rw [runN, if_pos h]
  rw [scanF, scanF, e, List.drop_succ_cons, show p + (runN blankB l + 1) = p + 1 + runN blankB l from by omega]
theorem joinL_len (v : Vl) (vs : List Vl) : (joinL (v :: vs)).length + 1 = lenJ (v :: vs) := by
  induction vs generalizing v with
  | nil => rw [joinL_one, size_list, lenJ, lenJ]; omega
  | cons u vs ih => rw [joinL_cons, List.length_append, size_list, List.length_cons, lenJ, ← ih]; omega
/-- tokens of the same kinds and texts -/
def sameTK : List Vl → List Vl → Prop
  | [], [] => True
  | x :: l, y :: r => x.k = y.k ∧ x.s = y.s ∧ sameTK l r
  | _, _ => False
theorem bs_self (s : ByteArray) : bs s.data.toList = s := by obtain ⟨⟨l⟩⟩ := s; rfl
theorem scanF_both {f : Nat} {l : List UInt8} {p : Nat} {ts : List Vl} {q e : Nat} (h : scanF f l p = (ts, q, e)) : (e = 0 → q = 0) ∧ (¬ e = 0 → ts = []) := by
  cases f with
  | zero => simp [scanF] at h; obtain ⟨rfl, rfl, rfl⟩ := h; simp
  | succ f =>
    rw [scanF] at h
    split at h
    · simp at h; obtain ⟨rfl, rfl, rfl⟩ := h; simp
    · split at h
      · split at h
        · simp only [Prod.mk.injEq] at h
          obtain ⟨_, rfl, rfl⟩ := h
          simp
        · rename_i h2
          simp only [Prod.mk.injEq] at h
          obtain ⟨rfl, h⟩ := h
          refine ⟨fun h3 => absurd ?_ h2, fun _ => rfl⟩
          rw [h]; exact h3
      · rename_i h2
        simp only [Prod.mk.injEq] at h
        obtain ⟨rfl, rfl, rfl⟩ := h
        exact ⟨fun h3 => absurd h3 h2, fun _ => rfl⟩
theorem scanF_zero {f : Nat} {l : List UInt8} {p : Nat} {ts : List Vl} {q : Nat} (h : scanF f l p = (ts, q, 0)) : q = 0 := (scanF_both h).1 rfl
theorem scanF_nil {f : Nat} {l : List UInt8} {p : Nat} {ts : List Vl} {q e : Nat} (h : scanF f l p = (ts, q, e)) (he : ¬ e = 0) : ts = [] := (scanF_both h).2 he
/-- what is joined is scanned as it was -/
theorem join_scanF (vs : List Vl) (f p : Nat) (h : allOne vs = true) (hf : (joinL vs).length < f) : ∃ ts, scanF f (joinL vs) p = (ts, 0, 0) ∧ sameTK vs ts := by
  induction vs generalizing f p with
  | nil =>
    obtain ⟨f, rfl⟩ : ∃ g, f = g + 1 := ⟨f - 1, by omega⟩
    exact ⟨[], by rw [show joinL [] = [] from rfl, scanF]; rfl, trivial⟩
  | cons v vs ih =>
    obtain ⟨f, rfl⟩ : ∃ g, f = g + 1 := ⟨f - 1, by omega⟩
    simp only [allOne, List.all_cons, Bool.and_eq_true] at h ih
    obtain ⟨hv, hall⟩ := h
    have hsz := oneB_size hv
    rw [one_tok] at hv
    unfold tokB at hv
    rcases hl : v.s.data.toList with _ | ⟨x, r⟩
    · rw [hl] at hv; cases hv
    rw [hl] at hv
    dsimp only at hv
    simp only [Bool.and_eq_true, Bool.not_eq_true', beq_eq_false_iff_ne, decide_eq_true_eq, beq_iff_eq] at hv
    obtain ⟨⟨⟨⟨_, hk0⟩, hk⟩, hn⟩, h0⟩ := hv
    have hbl : ¬ blankB x = true := fun hb => by rw [tokA_blank _ _ hb] at hk; simp at hk; omega
    rw [tok_same _ _ h0] at hk hn
    simp only at hk hn
    have hln : v.s.size = r.length + 1 := by rw [← size_list, hl]; rfl
    rw [hln] at hn
    obtain ⟨S, hS, hJ, hJ2⟩ : ∃ S, Beh S ∧ joinL (v :: vs) = x :: (r ++ S) ∧ ((S = [] ∧ vs = []) ∨ S = 32 :: joinL vs) := by
      cases vs with
      | nil => exact ⟨[], .inl rfl, by rw [joinL_one, hl, List.append_nil], .inl ⟨rfl, rfl⟩⟩
      | cons u l => exact ⟨32 :: joinL (u :: l), .inr ⟨_, rfl⟩, by rw [joinL_cons, hl]; rfl, .inr rfl⟩
    have ht := tokL_app x r S h0 hn hS
    rw [hJ] at hf ⊢
    have hb0 : runN blankB (x :: (r ++ S)) = 0 := by rw [runN, if_neg hbl]
    have hd : (x :: (r ++ S)).drop (runN blankB (x :: (r ++ S))) = x :: (r ++ S) := by rw [hb0]; rfl
    have hdS : (x :: (r ++ S)).drop (r.length + 1) = S := by simp
    have htS : (x :: (r ++ S)).take (r.length + 1) = x :: r := by simp
    rw [scan_front _ _ _ _ _ hd, ht, if_pos h0, hn, hdS, htS, hb0]
    rw [List.length_cons, List.length_append] at hf
    have hvs : bs (x :: r) = v.s := by rw [← hl]; exact bs_self v.s
    have key : ∀ q, ∃ ts, scanF f S q = (ts, 0, 0) ∧ sameTK vs ts := by
      intro q
      obtain ⟨f, rfl⟩ : ∃ g, f = g + 1 := ⟨f - 1, by omega⟩
      rcases hJ2 with ⟨rfl, rfl⟩ | rfl
      · exact ⟨[], by rw [scanF]; rfl, trivial⟩
      · rw [scan_blank' _ _ _ _ (by decide)]
        rw [List.length_cons] at hf
        exact ih _ _ hall (by omega)
    obtain ⟨ts, h1, h2⟩ := key (p + 0 + (r.length + 1))
    refine ⟨_ :: ts, by rw [h1]; rfl, ?_⟩
    exact ⟨hk.symm, hvs.symm, h2⟩
theorem join_scan (vs : List Vl) (h : allOne vs = true) (hn : ¬ 2001 < lenJ vs) : ∃ ts, scanS (bs (joinL vs)) = (ts, 0, 0) ∧ sameTK vs ts := by
  have hs : (joinL vs).length ≤ 2000 := by
    cases vs with
    | nil => simp [joinL, txts, Lib.join_nil]
    | cons v l => have := joinL_len v l; omega
  rw [scanS, if_neg (by rw [bs_size]; omega)]
  exact join_scanF vs _ 0 h (by rw [bs_size]; omega)
/-- what is scanned is of tokens -/
theorem scanF_one (f : Nat) (l : List UInt8) (p : Nat) (hl : l.length ≤ 2000) (ts : List Vl) (h : scanF f l p = (ts, 0, 0)) : allOne ts = true ∧ ts.length ≤ l.length := by
  induction f generalizing l p ts with
  | zero => simp [scanF] at h; subst h; simp [allOne]
  | succ f ih =>
    rcases hd : l.drop (runN blankB l) with _ | ⟨x, r⟩
    · rw [← scanF_norm, scan_end _ _ _ _ hd] at h
      simp at h; subst h; simp [allOne]
    · have hlr : r.length + 1 ≤ l.length := by
        have := congrArg List.length hd
        rw [List.length_drop, List.length_cons] at this; omega
      rw [scan_front _ _ _ _ _ hd] at h
      split at h
      · rename_i h0
        obtain ⟨h1, h2⟩ := tokL_pos x r h0
        rcases hF : scanF f ((x :: r).drop (tokL x r).2.1) (p + runN blankB l + (tokL x r).2.1) with ⟨us, q, e⟩
        rw [hF, comb] at h
        split at h
        · rename_i he
          simp only at he
          subst he
          simp only [List.singleton_append, Prod.mk.injEq, and_true] at h
          have hq : q = 0 := scanF_zero hF
          subst hq
          obtain ⟨a1, a2⟩ := ih _ _ (by rw [List.length_drop, List.length_cons]; omega) us hF
          rw [List.length_drop, List.length_cons] at a2
          subst h
          refine ⟨?_, by rw [List.length_cons]; omega⟩
          simp only [allOne, List.all_cons, Bool.and_eq_true] at a1 ⊢
          exact ⟨tokB_of x r h0 (by omega), a1⟩
        · rename_i he; simp at h; exact absurd h.2.2 he
      · rename_i h0; simp at h; exact absurd h.2.2 h0
theorem scanS_one (s : ByteArray) (h : (scanS s).2.2 = 0) : allOne (scanS s).1 = true ∧ (scanS s).2.1 = 0 := by
  unfold scanS at h ⊢
  split at h
  · cases h
  · rename_i h2
    rw [if_neg h2]
    rcases hF : scanF (s.size + 1) s.data.toList 0 with ⟨ts, q, e⟩
    rw [hF] at h
    simp only at h
    subst h
    have := scanF_zero hF
    subst this
    exact ⟨(scanF_one _ _ _ (by rw [size_list]; omega) _ hF).1, rfl⟩
theorem scanS_bad (s : ByteArray) (h : ¬ (scanS s).2.2 = 0) : (scanS s).1 = [] := by
  unfold scanS at h ⊢
  split at h
  · rename_i h2; rw [if_pos h2]
  · rename_i h2
    rw [if_neg h2]
    rcases hF : scanF (s.size + 1) s.data.toList 0 with ⟨ts, q, e⟩
    rw [hF] at h
    exact scanF_nil hF h
/-- each token stands where it is told -/
def Places (s : List UInt8) : Nat → List Vl → Prop
  | _, [] => True
  | p, v :: l => ∃ a : Nat, v.n = a ∧ p ≤ a ∧ 0 < v.s.size ∧ a + v.s.size ≤ s.length ∧ v.s = bs ((s.drop a).take v.s.size) ∧ Places s (a + v.s.size) l
theorem scanF_places (f : Nat) (s : List UInt8) (p : Nat) (hp : p ≤ s.length) (ts : List Vl) (h : scanF f (s.drop p) p = (ts, 0, 0)) : Places s p ts := by
  induction f generalizing p ts with
  | zero => simp [scanF] at h; subst h; trivial
  | succ f ih =>
    rcases hd : (s.drop p).drop (runN blankB (s.drop p)) with _ | ⟨x, r⟩
    · rw [← scanF_norm, scan_end _ _ _ _ hd] at h
      simp at h; subst h; trivial
    · rw [scan_front _ _ _ _ _ hd] at h
      split at h
      · rename_i h0
        obtain ⟨h1, h2⟩ := tokL_pos x r h0
        rw [← hd, List.drop_drop, List.drop_drop] at h
        rw [List.drop_drop] at hd
        have hlr := congrArg List.length hd
        rw [List.length_drop, List.length_cons] at hlr
        rcases hF : scanF f (s.drop (p + runN blankB (s.drop p) + (tokL x r).2.1)) (p + runN blankB (s.drop p) + (tokL x r).2.1) with ⟨us, q, e⟩
        rw [hF, comb] at h
        split at h
        · rename_i he
          simp only at he
          subst he
          simp only [List.singleton_append, Prod.mk.injEq, and_true] at h
          have hq : q = 0 := scanF_zero hF
          subst hq
          have := ih _ (by omega) us hF
          subst h
          have hsz : (bs ((s.drop (p + runN blankB (s.drop p))).take (tokL x r).2.1)).size = (tokL x r).2.1 := by rw [bs_size, List.length_take, List.length_drop]; omega
          exact ⟨_, rfl, by omega, by rw [hsz]; omega, by rw [hsz]; omega, by rw [hsz], by rw [hsz]; exact this⟩
        · rename_i he; simp at h; exact absurd h.2.2 he
      · rename_i h0; simp at h; exact absurd h.2.2 h0
theorem scanS_places (s : ByteArray) (h : (scanS s).2.2 = 0) : Places s.data.toList 0 (scanS s).1 := by
  unfold scanS at h ⊢
  split at h
  · cases h
  · rename_i h2
    rw [if_neg h2]
    rcases hF : scanF (s.size + 1) s.data.toList 0 with ⟨ts, q, e⟩
    rw [hF] at h
    simp only at h
    subst h
    have := scanF_zero hF
    subst this
    exact scanF_places _ s.data.toList 0 (Nat.zero_le _) _ hF
end Go.Proofs.Ytphaijjofmkjcaa
