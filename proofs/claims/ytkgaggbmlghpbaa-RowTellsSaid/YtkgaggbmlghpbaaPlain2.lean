/- Plain laws: what is encoded is decoded as it was, and nothing else is. -/
import Derived.Test.YtkgaggbmlghpbaaPlain
namespace Go.Proofs.Ytkgaggbmlghpbaa
open Go.RowKit

theorem le4_bytes (a b c d : UInt8) : le4 ((a.toNat + 256 * b.toNat + 65536 * c.toNat + 16777216 * d.toNat : Nat) : Int) = [a, b, c, d] := by
  have ha := a.toNat_lt
  have hb := b.toNat_lt
  have hc := c.toNat_lt
  have hd := d.toNat_lt
  have g : ∀ (x : UInt8) (n : Int), n = x.toNat → UInt8.ofNat n.toNat = x := fun x n h => by subst h; simp
  simp only [le4]
  rw [g a _ (by omega), g b _ (by omega), g c _ (by omega), g d _ (by omega)]
theorem le4_back (x : Int) (h : 0 ≤ x) (h' : x < 4294967296) : ∃ a b c d, le4 x = [a, b, c, d] ∧ ((a.toNat + 256 * b.toNat + 65536 * c.toNat + 16777216 * d.toNat : Nat) : Int) = x := by
  refine ⟨_, _, _, _, rfl, ?_⟩
  have g : ∀ y : Int, 0 ≤ y → y < 256 → ((UInt8.ofNat y.toNat).toNat : Int) = y := fun y h1 h2 => by
    rw [UInt8.toNat_ofNat']; omega
  have e1 := g (x % 256) (by omega) (by omega)
  have e2 := g (x / 256 % 256) (by omega) (by omega)
  have e3 := g (x / 256 / 256 % 256) (by omega) (by omega)
  have e4 := g (x / 256 / 256 / 256 % 256) (by omega) (by omega)
  omega
theorem ofNat_id (b : UInt8) : UInt8.ofNat b.toNat = b := by simp
theorem valR_enc (v : Vl) (h : v.chk = 0) (r : List UInt8) : valR (v.enc ++ r) false = (v, r, false) := by
  rcases Vl.right h with rfl | ⟨m, rfl, m1, m2⟩ | ⟨s, rfl, s1, s2⟩ | ⟨m, rfl, m1, m2⟩
  · exact valR_0 _ _ rfl
  · obtain ⟨a, b, c, d, e, e'⟩ := le4_back (m + 999999999) (by omega) (by omega)
    simp only [Vl.enc, if_true, e]
    rw [show (UInt8.ofNat (1 : Int).toNat :: [a, b, c, d]) ++ r = 1 :: a :: b :: c :: d :: r from rfl, valR_1 _ _ _ _ _ _ rfl, e']
    simp
  · have hn : (UInt8.ofNat s.size).toNat = s.size := by rw [UInt8.toNat_ofNat']; omega
    have hl : s.data.toList.length = s.size := by simp
    rw [show (⟨2, 0, s⟩ : Vl).enc ++ r = 2 :: UInt8.ofNat s.size :: (s.data.toList ++ r) from rfl, valR_2 _ _ _ rfl (by rw [hn]; simp), hn]
    rw [List.take_append_of_le_length (by omega), List.take_of_length_le (by omega), List.drop_append_of_le_length (by omega), List.drop_eq_nil_of_le (by omega), ← bs_of]
    rfl
  · rw [show (⟨3, m, .empty⟩ : Vl).enc ++ r = 3 :: UInt8.ofNat m.toNat :: r from rfl, valR_3 _ _ _ rfl]
    have : ((UInt8.ofNat m.toNat).toNat : Int) = m := by rw [UInt8.toNat_ofNat']; omega
    rw [this]
theorem valsR_enc (vs : List Vl) (h : ∀ v ∈ vs, v.chk = 0) (r : List UInt8) : valsR vs.length (vs.flatMap Vl.enc ++ r) false = (vs, r, false) := by
  induction vs with
  | nil => rfl
  | cons v vs ih =>
    rw [List.length_cons, valsR, List.flatMap_cons, List.append_assoc, valR_enc v (h v (by simp)), if_neg (by simp)]
    simp only
    rw [ih (fun u hu => h u (by simp [hu]))]
theorem firstErr_all (l : List Int) (h : firstErr l = 0) : ∀ e ∈ l, e = 0 := by
  induction l with
  | nil => simp
  | cons x l ih =>
    simp only [firstErr] at h
    split at h
    · rename_i hx; intro e he; rcases List.mem_cons.1 he with rfl | he; exact hx; exact ih h e he
    · rename_i hx; exact absurd h hx
theorem rights_all {vs : List Vl} (h : rightsE vs = 0) : vs.length ≤ 5 ∧ ∀ v ∈ vs, v.chk = 0 := by
  unfold rightsE at h
  split at h
  · cases h
  · exact ⟨by omega, fun v hv => firstErr_all _ h _ (List.mem_map.2 ⟨v, hv, rfl⟩)⟩
/-- WHAT IS ENCODED IS DECODED AS IT WAS -/
theorem decode_enc (vs : List Vl) (h : rightsE vs = 0) : decodeS (bs (encL vs)) = (vs, 0) := by
  obtain ⟨hl, hv⟩ := rights_all h
  have h0 : (UInt8.ofNat vs.length).toNat = vs.length := by rw [UInt8.toNat_ofNat']; omega
  have hT : decT (bs (encL vs)) = (vs, [], false) := by
    simp only [decT, bs_data, encL, oneR]
    have := valsR_enc vs hv []
    rw [List.append_nil] at this
    simp [h0, this]
  simp [decodeS, hT, h]
theorem valR_of (l r : List UInt8) (v : Vl) (h : valR l false = (v, r, false)) (hc : v.chk = 0) : l = v.enc ++ r := by
  cases l with
  | nil => have := valR_nil; rw [h] at this; cases this
  | cons k l =>
    have hk := k.toNat_lt
    have ho := ofNat_id k
    by_cases k0 : k.toNat = 0
    · rw [valR_0 k l k0] at h
      obtain ⟨rfl, rfl, _⟩ := by simpa using h
      rw [k0] at ho
      rw [← ho]; rfl
    by_cases k1 : k.toNat = 1
    · rw [k1] at ho
      rcases l with _ | ⟨a, _ | ⟨b, _ | ⟨c, _ | ⟨d, l⟩⟩⟩⟩
      · have := valR_1s k [] k1 (by simp); rw [h] at this; cases this
      · have := valR_1s k [a] k1 (by simp); rw [h] at this; cases this
      · have := valR_1s k [a, b] k1 (by simp); rw [h] at this; cases this
      · have := valR_1s k [a, b, c] k1 (by simp); rw [h] at this; cases this
      · rw [valR_1 k a b c d l k1] at h
        obtain ⟨rfl, rfl, _⟩ := Prod.mk.injEq .. ▸ h
        have e : ∀ x : Int, x - 999999999 + 999999999 = x := fun x => by omega
        simp only [Vl.enc, if_true, e, le4_bytes, ← ho]
        rfl
    by_cases k2 : k.toNat = 2
    · rw [k2] at ho
      rcases l with _ | ⟨n, l⟩
      · have := valR_2n k k2; rw [h] at this; cases this
      · by_cases hn : l.length < n.toNat
        · have := valR_2s k n l k2 hn; rw [h] at this; cases this
        · rw [valR_2 k n l k2 hn] at h
          obtain ⟨rfl, rfl, _⟩ := by simpa using h
          have e : (⟨2, 0, bs (l.take n.toNat)⟩ : Vl).enc = 2 :: UInt8.ofNat (bs (l.take n.toNat)).size :: l.take n.toNat := rfl
          rw [e, bs_size, List.length_take, Nat.min_eq_left (by omega), ofNat_id, ← ho]
          simp
    by_cases k3 : k.toNat = 3
    · rw [k3] at ho
      rcases l with _ | ⟨b, l⟩
      · have := valR_3n k k3; rw [h] at this; cases this
      · rw [valR_3 k b l k3] at h
        obtain ⟨rfl, rfl, _⟩ := by simpa using h
        have e : (⟨3, b.toNat, .empty⟩ : Vl).enc = [3, UInt8.ofNat (b.toNat : Int).toNat] := rfl
        rw [e, Int.toNat_natCast, ofNat_id, ← ho]; rfl
    · have := valR_x k l (by omega); rw [h] at this; cases this
theorem valsR_of (n : Nat) : ∀ (l r : List UInt8) (vs : List Vl), valsR n l false = (vs, r, false) → (∀ v ∈ vs, v.chk = 0) → l = vs.flatMap Vl.enc ++ r ∧ vs.length = n := by
  induction n with
  | zero => intro l r vs h _; simp [valsR] at h; obtain ⟨rfl, rfl⟩ := h; simp
  | succ n ih =>
    intro l r vs h hc
    rw [valsR, if_neg (by simp)] at h
    rcases hv : valR l false with ⟨v, l', sh⟩
    rw [hv] at h
    simp only at h
    cases sh
    · rcases hs : valsR n l' false with ⟨us, r', sh'⟩
      rw [hs] at h
      simp only [Prod.mk.injEq] at h
      obtain ⟨rfl, rfl, rfl⟩ := h
      have h1 := valR_of l l' v hv (hc v (by simp))
      obtain ⟨h2, h3⟩ := ih l' r' us hs (fun u hu => hc u (by simp [hu]))
      exact ⟨by rw [h1, h2]; simp, by simp [h3]⟩
    · rw [valsR_short] at h
      simp at h
/-- NOTHING ELSE IS DECODED -/
theorem decode_of (s : ByteArray) (h : (decodeS s).2 = 0) : rightsE (decodeS s).1 = 0 ∧ bs (encL (decodeS s).1) = s := by
  unfold decodeS at h ⊢
  split at h
  · rename_i hok
    split at h
    · rename_i hr
      rw [if_pos hok, if_pos hr]
      refine ⟨hr, ?_⟩
      obtain ⟨_, hc⟩ := rights_all hr
      rcases hT : decT s with ⟨vs, l, sh⟩
      rw [hT] at hok hc
      simp only [Bool.and_eq_true, Bool.not_eq_true', List.isEmpty_iff] at hok hc
      obtain ⟨rfl, rfl⟩ := hok
      simp only
      unfold decT at hT
      rcases hl : s.data.toList with _ | ⟨k, r⟩
      · rw [hl] at hT; simp [oneR, valsR_short] at hT
      · rw [hl] at hT
        simp only [oneR] at hT
        obtain ⟨h1, h2⟩ := valsR_of _ _ _ _ hT hc
        rw [encL, bs_of s, hl, h1, h2, List.append_nil]
        simp
    · rename_i hr; exact absurd h hr
  · cases h
theorem decode_bad (s : ByteArray) (h : ¬ (decodeS s).2 = 0) : (decodeS s).1 = [] := by
  unfold decodeS at h ⊢
  split at h
  · rename_i hok
    split at h
    · exact absurd rfl h
    · rename_i hr; rw [if_pos hok, if_neg hr]
  · rename_i hok; rw [if_neg hok]
end Go.Proofs.Ytkgaggbmlghpbaa
