/- Plain: keys stand in order just as values do; what is cast to a text and back is what it was. -/
import Derived.Test.YtnjjpblgcgikaaaDoorVlPlain2
namespace Go.Proofs.YtnjjpblgcgikaaaDoor
open Go.RowKit
/-- the order of bytes, as a number -/
theorem cmp_less : ∀ (l r : List UInt8), (Op.bytesLess l r = true ↔ Lib.compareBytes l r = -1) ∧ (l = r ↔ Lib.compareBytes l r = 0)
  | [], [] => by simp [Op.bytesLess, Lib.compareBytes]
  | [], _ :: _ => by simp [Op.bytesLess, Lib.compareBytes]
  | _ :: _, [] => by simp [Op.bytesLess, Lib.compareBytes]
  | a :: l, b :: r => by
    obtain ⟨h1, h2⟩ := cmp_less l r
    unfold Op.bytesLess Lib.compareBytes
    by_cases hab : a < b
    · simp only [hab, if_true, decide_true, Bool.true_or, List.cons.injEq]
      refine ⟨by simp, ⟨fun h => ?_, by simp⟩⟩
      rw [h.1] at hab
      exact absurd hab (by simp)
    · by_cases hba : b < a
      · have hne : a ≠ b := by rintro rfl; exact hab hba
        simp only [hab, hba, if_true, if_false, List.cons.injEq]
        refine ⟨⟨fun h => ?_, fun h => by omega⟩, ⟨fun h => absurd h.1 hne, fun h => by omega⟩⟩
        simp [hne] at h
      · have heq : a = b := by
          apply UInt8.toNat_inj.1
          have h3 : ¬ a.toNat < b.toNat := hab
          have h4 : ¬ b.toNat < a.toNat := hba
          omega
        subst heq
        simp only [hab, if_false, decide_false, Bool.false_or, beq_self_eq_true, Bool.true_and, List.cons.injEq, true_and]
        exact ⟨h1, h2⟩
theorem cmp_range : ∀ (l r : List UInt8), Lib.compareBytes l r = -1 ∨ Lib.compareBytes l r = 0 ∨ Lib.compareBytes l r = 1
  | [], [] => by simp [Lib.compareBytes]
  | [], _ :: _ => by simp [Lib.compareBytes]
  | _ :: _, [] => by simp [Lib.compareBytes]
  | a :: l, b :: r => by
    unfold Lib.compareBytes
    split
    · simp
    · split
      · simp
      · exact cmp_range l r
/-- behind the same first bytes -/
theorem cmp_same (p l r : List UInt8) : Lib.compareBytes (p ++ l) (p ++ r) = Lib.compareBytes l r := by
  induction p with
  | nil => rfl
  | cons a p ih =>
    rw [List.cons_append, List.cons_append, Lib.compareBytes]
    have : ¬ a < a := by simp
    rw [if_neg this, if_neg this]
    exact ih
/-- so many digits -/
def fw : Nat → Nat → List UInt8
  | 0, _ => []
  | k + 1, u => fw k (u / 10) ++ [UInt8.ofNat (48 + u % 10)]
theorem fw_len : ∀ k u, (fw k u).length = k
  | 0, _ => rfl
  | k + 1, u => by rw [fw, List.length_append, fw_len k]; rfl
theorem fw_zero : ∀ k, fw k 0 = List.replicate k 48
  | 0 => rfl
  | k + 1 => by rw [fw, fw_zero k, List.replicate_succ']; rfl
theorem pad_fw : ∀ (k u : Nat), 1 ≤ k → u < 10 ^ k → List.replicate (k - (Lib.decDigits u).length) 48 ++ Lib.decDigits u = fw k u
  | 0, _, h, _ => by omega
  | k + 1, u, _, hu => by
    by_cases h : u < 10
    · rw [dig_small h, fw, show u / 10 = 0 by omega, fw_zero, show u % 10 = u by omega]
      rfl
    · rw [Nat.pow_succ] at hu
      have hk : 1 ≤ k := by
        rcases Nat.eq_zero_or_pos k with rfl | h
        · simp at hu; omega
        · exact h
      have ih := pad_fw k (u / 10) hk (by omega)
      rw [dig_big h, fw, ← ih, List.length_append, List.length_singleton, show k + 1 - ((Lib.decDigits (u / 10)).length + 1) = k - (Lib.decDigits (u / 10)).length by omega, List.append_assoc]
theorem cmp_snoc : ∀ (l r : List UInt8) (x y : UInt8), l.length = r.length → Lib.compareBytes (l ++ [x]) (r ++ [y]) = if Lib.compareBytes l r = 0 then (if x < y then -1 else if y < x then 1 else 0) else Lib.compareBytes l r
  | [], [], x, y, _ => by
    simp only [List.nil_append, Lib.compareBytes]
    rfl
  | a :: l, b :: r, x, y, h => by
    rw [List.cons_append, List.cons_append, Lib.compareBytes, Lib.compareBytes, cmp_snoc l r x y (by simpa using h)]
    by_cases h1 : a < b
    · simp [h1]
    · by_cases h2 : b < a
      · simp [h1, h2]
      · simp [h1, h2]
  | [], _ :: _, _, _, h => by simp at h
  | _ :: _, [], _, _, h => by simp at h
theorem fw_cmp : ∀ (k u v : Nat), u < 10 ^ k → v < 10 ^ k → Lib.compareBytes (fw k u) (fw k v) = if u < v then -1 else if v < u then 1 else 0
  | 0, u, v, hu, hv => by
    simp at hu hv
    subst hu; subst hv
    rfl
  | k + 1, u, v, hu, hv => by
    rw [Nat.pow_succ] at hu hv
    have ih := fw_cmp k (u / 10) (v / 10) (by omega) (by omega)
    rw [fw, fw, cmp_snoc _ _ _ _ (by rw [fw_len, fw_len]), ih]
    have e : ∀ d, d < 10 → (UInt8.ofNat (48 + d)).toNat = 48 + d := fun d hd => by rw [UInt8.toNat_ofNat']; omega
    have hlt : (UInt8.ofNat (48 + u % 10) < UInt8.ofNat (48 + v % 10)) ↔ u % 10 < v % 10 := by
      show (UInt8.ofNat (48 + u % 10)).toNat < (UInt8.ofNat (48 + v % 10)).toNat ↔ _
      rw [e _ (by omega), e _ (by omega)]; omega
    have hgt : (UInt8.ofNat (48 + v % 10) < UInt8.ofNat (48 + u % 10)) ↔ v % 10 < u % 10 := by
      show (UInt8.ofNat (48 + v % 10)).toNat < (UInt8.ofNat (48 + u % 10)).toNat ↔ _
      rw [e _ (by omega), e _ (by omega)]; omega
    by_cases h1 : u / 10 < v / 10
    · rw [if_pos h1, if_neg (by omega), if_pos (by omega)]
    · by_cases h2 : v / 10 < u / 10
      · rw [if_neg h1, if_pos h2, if_neg (by omega), if_neg (by omega), if_pos (by omega)]
      · rw [if_neg h1, if_neg h2, if_pos rfl]
        by_cases h3 : u % 10 < v % 10
        · rw [if_pos (hlt.2 h3), if_pos (by omega)]
        · rw [if_neg (fun h => h3 (hlt.1 h))]
          by_cases h4 : v % 10 < u % 10
          · rw [if_pos (hgt.2 h4), if_neg (by omega), if_pos (by omega)]
          · rw [if_neg (fun h => h4 (hgt.1 h)), if_neg (by omega), if_neg (by omega)]
theorem key_int {n : Int} (h0 : -999999999 ≤ n) (h1 : n ≤ 999999999) : keyS ⟨1, n, .empty⟩ = bs (49 :: fw 10 (n + 1000000000).toNat) := by
  show bs ([49] ++ List.replicate (10 - (Lib.itoa (n + 1000000000)).length) 48 ++ Lib.itoa (n + 1000000000)) = _
  obtain ⟨u, hu⟩ : ∃ u : Nat, n + 1000000000 = (u : Int) := ⟨(n + 1000000000).toNat, by omega⟩
  rw [hu, Lib.itoa_nonneg, Int.toNat_natCast, ← pad_fw 10 u (by decide) (by omega)]
  rfl
theorem ordV_int (n m : Int) : ordV ⟨1, n, .empty⟩ ⟨1, m, .empty⟩ = if n < m then -1 else if m < n then 1 else 0 := by
  unfold ordV
  rw [if_neg (by simp)]
  by_cases h : n = m
  · subst h
    rw [if_neg (by simp), if_neg (by simp), if_neg (by simp)]
    rfl
  · rw [if_pos h]
    by_cases h1 : n < m
    · rw [if_pos h1, if_pos h1]
    · rw [if_neg h1, if_neg h1, if_pos (by omega)]
/-- KEYS STAND IN ORDER JUST AS VALUES DO -/
theorem keys_cmp {a b : Vl} (ha : a.chk = 0) (hb : b.chk = 0) : Lib.compareBytes (keyS a).data.toList (keyS b).data.toList = ordV a b := by
  have hk : ∀ (x y : UInt8) (l r : List UInt8), x < y → Lib.compareBytes (bs (x :: l)).data.toList (bs (y :: r)).data.toList = -1 := fun x y l r h => by
    show Lib.compareBytes (x :: l) (y :: r) = -1
    rw [Lib.compareBytes, if_pos h]
  have hk' : ∀ (x y : UInt8) (l r : List UInt8), y < x → Lib.compareBytes (bs (x :: l)).data.toList (bs (y :: r)).data.toList = 1 := fun x y l r h => by
    show Lib.compareBytes (x :: l) (y :: r) = 1
    have h1 : ¬ x < y := by
      intro h2
      have h3 : y.toNat < x.toNat := h
      have h4 : x.toNat < y.toNat := h2
      omega
    rw [Lib.compareBytes, if_neg h1, if_pos h]
  have d0 : keyS ⟨0, 0, .empty⟩ = bs [48] := rfl
  have d2 : ∀ s, keyS ⟨2, 0, s⟩ = bs (50 :: s.data.toList) := fun s => rfl
  have d3 : ∀ n, keyS ⟨3, n, .empty⟩ = bs (51 :: Lib.itoa n) := fun n => rfl
  have i01 : ∀ n : Int, 0 ≤ n → n ≤ 1 → Lib.itoa n = [UInt8.ofNat (48 + n.toNat)] := fun n h0 h1 => by
    obtain ⟨u, rfl⟩ : ∃ u : Nat, n = (u : Int) := ⟨n.toNat, by omega⟩
    rw [Lib.itoa_nonneg, dig_small (by omega)]
    rfl
  rcases Vl.right ha with rfl | ⟨n, rfl, p0, p1⟩ | ⟨s, rfl, p0, _⟩ | ⟨n, rfl, p0, p1⟩ <;> rcases Vl.right hb with rfl | ⟨m, rfl, q0, q1⟩ | ⟨t, rfl, q0, _⟩ | ⟨m, rfl, q0, q1⟩
  · rfl
  · rw [d0, key_int q0 q1]; exact hk _ _ _ _ (by decide)
  · rw [d0, d2]; exact hk _ _ _ _ (by decide)
  · rw [d0, d3]; exact hk _ _ _ _ (by decide)
  · rw [d0, key_int p0 p1]; exact hk' _ _ _ _ (by decide)
  · rw [key_int p0 p1, key_int q0 q1]
    show Lib.compareBytes ([49] ++ fw 10 _) ([49] ++ fw 10 _) = _
    rw [cmp_same, fw_cmp 10 _ _ (by omega) (by omega)]
    rw [ordV_int]
    by_cases h1 : n < m
    · rw [if_pos (show (n + 1000000000).toNat < (m + 1000000000).toNat by omega), if_pos h1]
    · rw [if_neg (show ¬ (n + 1000000000).toNat < (m + 1000000000).toNat by omega), if_neg h1]
      by_cases h2 : m < n
      · rw [if_pos (show (m + 1000000000).toNat < (n + 1000000000).toNat by omega), if_pos h2]
      · rw [if_neg (show ¬ (m + 1000000000).toNat < (n + 1000000000).toNat by omega), if_neg h2]
  · rw [key_int p0 p1, d2]; exact hk _ _ _ _ (by decide)
  · rw [key_int p0 p1, d3]; exact hk _ _ _ _ (by decide)
  · rw [d0, d2]; exact hk' _ _ _ _ (by decide)
  · rw [key_int q0 q1, d2]; exact hk' _ _ _ _ (by decide)
  · rw [d2, d2]
    show Lib.compareBytes ([50] ++ _) ([50] ++ _) = _
    rw [cmp_same]
    unfold ordV
    simp
  · rw [d2, d3]; exact hk _ _ _ _ (by decide)
  · rw [d0, d3]; exact hk' _ _ _ _ (by decide)
  · rw [key_int q0 q1, d3]; exact hk' _ _ _ _ (by decide)
  · rw [d2, d3]; exact hk' _ _ _ _ (by decide)
  · rw [d3, d3, i01 n p0 p1, i01 m q0 q1]
    have hn : n = 0 ∨ n = 1 := by omega
    have hm : m = 0 ∨ m = 1 := by omega
    rcases hn with rfl | rfl <;> rcases hm with rfl | rfl <;> rfl
theorem ordV_range {a b : Vl} (ha : a.chk = 0) (hb : b.chk = 0) : ordV a b = -1 ∨ ordV a b = 0 ∨ ordV a b = 1 := by
  rw [← keys_cmp ha hb]; exact cmp_range _ _
theorem keys_less {a b : Vl} (ha : a.chk = 0) (hb : b.chk = 0) : Op.bytesLess (keyS a).toList (keyS b).toList = decide (ordV a b < 0) ∧ ((keyS a).toList == (keyS b).toList) = (ordV a b == 0) := by
  have h := cmp_less (keyS a).data.toList (keyS b).data.toList
  rw [keys_cmp ha hb] at h
  have hr := ordV_range ha hb
  rw [ByteArray.toList_eq, ByteArray.toList_eq]
  constructor
  · rw [Bool.eq_iff_iff, h.1, decide_eq_true_eq]
    omega
  · rw [Bool.eq_iff_iff, beq_iff_eq, beq_iff_eq]
    exact h.2
/-- to a text and back -/
theorem cast_back {a : Vl} (ha : a.chk = 0) (h1 : ¬ a.k = 0) (h2 : ¬ a.k = 2) : (castV a 2).chk = 0 ∧ castV (castV a 2) a.k = a ∧ 1 ≤ a.k ∧ a.k ≤ 3 := by
  rcases Vl.right ha with rfl | ⟨n, rfl, p0, p1⟩ | ⟨s, rfl, p0, _⟩ | ⟨n, rfl, p0, p1⟩
  · exact absurd rfl h1
  · have e : castV ⟨1, n, .empty⟩ 2 = ⟨2, 0, digS n⟩ := rfl
    rw [e]
    have hi : intS (digS n) = some n := intS_iff.2 ⟨rfl, p0, p1⟩
    refine ⟨?_, ?_, by simp, by simp⟩
    · have hall : ∀ c ∈ Lib.itoa n, c = 45 ∨ 48 ≤ c.toNat ∧ c.toNat ≤ 57 := by
        intro c hc
        by_cases hn : n < 0
        · obtain ⟨u, rfl⟩ : ∃ u : Nat, n = -(u : Int) := ⟨n.natAbs, by omega⟩
          rw [Lib.itoa_neg u (by omega)] at hc
          rcases List.mem_cons.1 hc with h | h
          · exact .inl h
          · exact .inr (digits_all u c h)
        · obtain ⟨u, rfl⟩ : ∃ u : Nat, n = (u : Int) := ⟨n.toNat, by omega⟩
          rw [Lib.itoa_nonneg] at hc
          exact .inr (digits_all u c hc)
      have hlen : (Lib.itoa n).length ≤ 20 := by
        by_cases hn : n < 0
        · obtain ⟨u, rfl⟩ : ∃ u : Nat, n = -(u : Int) := ⟨n.natAbs, by omega⟩
          rw [Lib.itoa_neg u (by omega), List.length_cons]
          have := (digits_len u 9 (by decide)).2 (by omega)
          omega
        · obtain ⟨u, rfl⟩ : ∃ u : Nat, n = (u : Int) := ⟨n.toNat, by omega⟩
          rw [Lib.itoa_nonneg]
          have := (digits_len u 9 (by decide)).2 (by omega)
          omega
      have hq : quotS (digS n) = true := by
        unfold quotS
        rw [Bool.and_eq_true, List.all_eq_true]
        refine ⟨fun c hc => ?_, decide_eq_true (show (Lib.itoa n).length ≤ 20 from hlen)⟩
        unfold quotB
        rcases hall c hc with rfl | h
        · decide
        · simp; omega
      simp [Vl.chk, Vl.fine, hq]
    · unfold castV
      simp [hi]
  · exact absurd rfl h2
  · have hn : n = 0 ∨ n = 1 := by omega
    rcases hn with rfl | rfl
    · exact ⟨by decide +kernel, by decide +kernel, by simp, by simp⟩
    · exact ⟨by decide +kernel, by decide +kernel, by simp, by simp⟩
end Go.Proofs.YtnjjpblgcgikaaaDoor
