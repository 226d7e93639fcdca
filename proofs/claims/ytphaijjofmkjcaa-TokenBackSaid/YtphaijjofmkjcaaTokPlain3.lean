/- Plain functions of tokens: one token; tokens joined. -/
import Derived.Test.YtphaijjofmkjcaaTokPlain2
import Derived.Lib.Join
namespace Go.Proofs.Ytphaijjofmkjcaa
open Go.RowKit
/-- the token that the reference finds: its kind, its length -/
def tokA (x : UInt8) (l : List UInt8) : Nat × Nat :=
  if letterB x = true then (1, runN wordB l + 1)
  else if digitB x = true then (2, runN digitB l + 1)
  else if x = 39 then (if quotEnds l = true then (3, quotN l + 2) else (0, 0))
  else if bars (x :: l) = true then (4, 2)
  else if sign1 x = true then (4, 1)
  else (0, 0)
def wrongA (k n : Nat) (x : UInt8) : Nat :=
  if k = 0 then 1 else if (k = 1 ∧ 12 < n) ∨ (k = 2 ∧ 9 < n) ∨ (k = 3 ∧ 22 < n) then 2 else if k = 2 ∧ 1 < n ∧ x = 48 then 1 else 0
theorem tokA_kind (x : UInt8) (r : List UInt8) : (tokA x r).1 ≤ 4 := by
  unfold tokA
  repeat' split
  all_goals simp
theorem tokA_len (x : UInt8) (r : List UInt8) : (tokA x r).2 ≤ r.length + 1 := by
  have h1 := runN_le wordB r
  have h2 := runN_le digitB r
  unfold tokA
  split
  · simp only; omega
  split
  · simp only; omega
  split
  · split
    · rename_i hq
      have : runN quotB r < r.length := by
        unfold quotEnds quotN at hq
        rcases Nat.lt_or_ge (runN quotB r) r.length with h | h
        · exact h
        · rw [List.drop_eq_nil_of_le h] at hq; cases hq
      simp only [quotN]; omega
    · simp
  split
  · rename_i hb
    have : [124, 124] <+: x :: r := List.isPrefixOf_iff_prefix.1 hb
    have := this.length_le
    simp at this ⊢
    omega
  split <;> simp
/-- what is wrong is the same for both -/
theorem wrong_tok (x : UInt8) (r : List UInt8) : wrongA (tokA x r).1 (tokA x r).2 x = (tokL x r).2.2 := by
  unfold tokA tokL
  split
  · simp only [wrongA]; repeat' split
    all_goals (first | rfl | omega | (simp_all; done) | (simp_all; omega))
  split
  · simp only [wrongA]; repeat' split
    all_goals (first | rfl | omega | (simp_all; done) | (simp_all; omega))
  split
  · split
    · simp only [wrongA]; repeat' split
      all_goals (first | rfl | omega | (simp_all; done) | (simp_all; omega))
    · rfl
  split
  · simp [wrongA]
  split
  · simp [wrongA]
  · simp [wrongA]
theorem tok_same (x : UInt8) (r : List UInt8) (h : (tokL x r).2.2 = 0) : tokA x r = ((tokL x r).1, (tokL x r).2.1) := by
  unfold tokL at h
  unfold tokA tokL
  repeat' split
  all_goals first | rfl | (exfalso; simp_all)
theorem tokL_kind (x : UInt8) (r : List UInt8) : (tokL x r).1 ≠ 0 := by
  unfold tokL
  repeat' split
  all_goals simp
/-- a blank begins no token -/
theorem tokA_blank (x : UInt8) (r : List UInt8) (h : blankB x = true) : tokA x r = (0, 0) := by
  have h3 : x = 32 ∨ x = 9 ∨ x = 10 := by
    simp only [blankB, Bool.or_eq_true, beq_iff_eq] at h
    rcases h with (h | h) | h
    · exact .inl (UInt8.toNat_inj.1 (by rw [show (32 : UInt8).toNat = 32 from rfl]; omega))
    · exact .inr (.inl (UInt8.toNat_inj.1 (by rw [show (9 : UInt8).toNat = 9 from rfl]; omega)))
    · exact .inr (.inr (UInt8.toNat_inj.1 (by rw [show (10 : UInt8).toNat = 10 from rfl]; omega)))
  rcases h3 with rfl | rfl | rfl
  all_goals
    unfold tokA
    rw [if_neg (by decide), if_neg (by decide), if_neg (by decide), if_neg (by simp [bars, Lib.hasPrefix, List.isPrefixOf]), if_neg (by decide)]
/-- is a text just one token of a kind? as the program asks it -/
def oneB (k : Int) (s : ByteArray) : Bool := match scanS s with | ([t], _, 0) => (t.k == k) && (t.s.toList == s.toList) | _ => false
/-- .. and as the reference asks it -/
def tokB (k : Int) (s : ByteArray) : Bool := match s.data.toList with
  | [] => false
  | x :: r => decide (s.size ≤ 2000) && !(k == 0) && (((tokA x r).1 : Int) == k) && decide ((tokA x r).2 = s.size) && decide ((tokL x r).2.2 = 0)
theorem oneB_of {k : Int} {s : ByteArray} (h : oneB k s = true) : ∃ t p, scanS s = ([t], p, 0) ∧ t.k = k ∧ t.s = s := by
  unfold oneB at h
  split at h
  · rename_i t p heq
    simp only [Bool.and_eq_true, beq_iff_eq] at h
    refine ⟨t, p, heq, h.1, ?_⟩
    have h2 := h.2
    rw [ByteArray.toList_eq, ByteArray.toList_eq] at h2
    obtain ⟨k', n, ⟨⟨l⟩⟩⟩ := t
    obtain ⟨⟨l'⟩⟩ := s
    simp only at h2 ⊢
    rw [h2]
  · cases h
theorem oneB_intro {k : Int} {s : ByteArray} {t : Vl} {p : Nat} (h : scanS s = ([t], p, 0)) (hk : t.k = k) (hs : t.s = s) : oneB k s = true := by
  unfold oneB
  rw [h]
  simp [hk, hs]
/-- one step of a scan, from its front -/
theorem scan_front (f : Nat) (l : List UInt8) (p : Nat) (x : UInt8) (r : List UInt8) (hl : l.drop (runN blankB l) = x :: r) :
    scanF (f + 1) l p = if (tokL x r).2.2 = 0 then comb [⟨(tokL x r).1, (p + runN blankB l : Nat), bs ((x :: r).take (tokL x r).2.1)⟩] (scanF f ((x :: r).drop (tokL x r).2.1) (p + runN blankB l + (tokL x r).2.1)) else ([], p + runN blankB l, (tokL x r).2.2) := by
  split
  · rename_i h0
    rw [← scanF_norm (f + 1), scan_step f l p x r [] hl h0]
    rfl
  · rename_i h0
    rw [← scanF_norm (f + 1), scan_bad f l p x r [] hl h0]
theorem one_tok (k : Int) (s : ByteArray) : oneB k s = tokB k s := by
  have hsz : s.size = s.data.toList.length := by rw [Array.length_toList]; rfl
  rw [Bool.eq_iff_iff]
  unfold tokB
  by_cases h2 : 2000 < s.size
  · constructor
    · intro h
      obtain ⟨t, p, h, _, _⟩ := oneB_of h
      rw [scanS, if_pos h2] at h
      simp at h
    · intro h
      split at h
      · cases h
      · simp only [Bool.and_eq_true, decide_eq_true_eq] at h; omega
  have hS : scanS s = scanF (s.size + 1) s.data.toList 0 := by rw [scanS, if_neg h2]
  rcases hl : s.data.toList with _ | ⟨x, r⟩
  · constructor
    · intro h
      obtain ⟨t, p, h, _, _⟩ := oneB_of h
      rw [hS, hl] at h
      simp [scanF] at h
    · intro h; cases h
  rw [hl] at hsz hS
  simp only [List.length_cons] at hsz
  dsimp only
  have hb : bs (x :: r) = s := by rw [← hl]; obtain ⟨⟨l⟩⟩ := s; rfl
  by_cases hbl : blankB x = true
  · simp only [tokA_blank _ _ hbl]
    constructor
    · intro h
      exfalso
      obtain ⟨t, p, h, _, hts⟩ := oneB_of h
      rw [hS] at h
      have hr : runN blankB (x :: r) = runN blankB r + 1 := by rw [runN, if_pos hbl]
      have hle := runN_le blankB r
      rcases hd : (x :: r).drop (runN blankB (x :: r)) with _ | ⟨y, r'⟩
      · rw [← scanF_norm, scan_end _ _ _ _ hd] at h
        simp at h
      · rw [scan_front _ _ _ _ _ hd] at h
        split at h
        · simp only [comb] at h
          split at h
          · simp only [List.singleton_append, Prod.mk.injEq, List.cons.injEq] at h
            obtain ⟨⟨rfl, _⟩, _⟩ := h
            simp only at hts
            have := congrArg ByteArray.size hts
            have e := congrArg List.length hd
            rw [List.length_drop, hr] at e
            simp only [List.length_cons] at e
            rw [bs_size, List.length_take, List.length_cons] at this
            omega
          · simp at h
        · simp at h
    · intro h
      simp only [Bool.and_eq_true, Bool.not_eq_true', beq_eq_false_iff_ne, decide_eq_true_eq, beq_iff_eq] at h
      obtain ⟨⟨⟨⟨_, h0⟩, h1⟩, _⟩, _⟩ := h
      omega
  · have hr : runN blankB (x :: r) = 0 := by rw [runN, if_neg hbl]
    have hd : (x :: r).drop (runN blankB (x :: r)) = x :: r := by rw [hr]; rfl
    have hF := scan_front s.size _ 0 _ _ hd
    rw [← hS] at hF
    by_cases h0 : (tokL x r).2.2 = 0
    · rw [if_pos h0] at hF
      rw [tok_same _ _ h0]
      obtain ⟨hn1, hn2⟩ := tokL_pos _ _ h0
      have hk := tokL_kind x r
      have htk : ((x :: r).take (tokL x r).2.1).length = (tokL x r).2.1 := by rw [List.length_take, List.length_cons]; omega
      constructor
      · intro h
        obtain ⟨t, p, h, h3, h4⟩ := oneB_of h
        rw [hF, comb] at h
        split at h
        · simp only [List.singleton_append, Prod.mk.injEq, List.cons.injEq] at h
          obtain ⟨⟨rfl, _⟩, _⟩ := h
          simp only at h3 h4
          have := congrArg ByteArray.size h4
          rw [bs_size, htk] at this
          simp only [h0, Bool.and_eq_true, Bool.not_eq_true', beq_eq_false_iff_ne, decide_eq_true_eq, beq_iff_eq]
          exact ⟨⟨⟨⟨by omega, by omega⟩, h3⟩, this⟩, trivial⟩
        · simp at h
      · intro h
        simp only [Bool.and_eq_true, Bool.not_eq_true', beq_eq_false_iff_ne, decide_eq_true_eq, beq_iff_eq] at h
        obtain ⟨⟨⟨⟨_, _⟩, h1⟩, h3⟩, _⟩ := h
        have hdn : (x :: r).drop (tokL x r).2.1 = [] := List.drop_eq_nil_of_le (by rw [List.length_cons]; omega)
        have htn : (x :: r).take (tokL x r).2.1 = x :: r := List.take_of_length_le (by rw [List.length_cons]; omega)
        rw [hdn, htn] at hF
        have hnil : ∀ p, scanF s.size [] p = ([], 0, 0) := by
          intro p
          obtain ⟨z, hz⟩ : ∃ z, s.size = z + 1 := ⟨s.size - 1, by omega⟩
          rw [hz, scanF]; rfl
        rw [hnil] at hF
        exact oneB_intro (p := 0) (by rw [hF]; rfl) h1 hb
    · rw [if_neg h0] at hF
      simp only [h0, decide_false, Bool.and_false]
      constructor
      · intro h
        obtain ⟨t, p, h, _, _⟩ := oneB_of h
        rw [hF] at h
        simp at h
      · intro h; cases h
theorem oneB_size {k : Int} {s : ByteArray} (h : oneB k s = true) : s.size ≤ 2000 ∧ 0 < s.size := by
  have hsz : s.size = s.data.toList.length := by rw [Array.length_toList]; rfl
  rw [one_tok] at h
  unfold tokB at h
  split at h
  · cases h
  · rename_i hl
    rw [hl, List.length_cons] at hsz
    simp only [Bool.and_eq_true, decide_eq_true_eq] at h; omega
end Go.Proofs.Ytphaijjofmkjcaa
