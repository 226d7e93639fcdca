/- The reference's joining. -/
import Derived.Test.YtphaijjofmkjcaaTokR5
import Derived.Test.YtphaijjofmkjcaaTokElem
import Derived.Test.YtphaijjofmkjcaaQuiet
namespace Go.Proofs.Ytphaijjofmkjcaa
open Go.RowKit
theorem lenJ_take (vs : List Vl) (k : Nat) (v : Vl) (h : vs[k]? = some v) : lenJ (vs.take (k + 1)) = lenJ (vs.take k) + 1 + v.s.size := by
  induction vs generalizing k with
  | nil => simp at h
  | cons u l ih =>
    cases k with
    | zero => simp at h; subst h; simp [lenJ]
    | succ k => rw [List.take_succ_cons, List.take_succ_cons, lenJ, lenJ, ih k (by simpa using h)]; omega
theorem lenJ_le (vs : List Vl) (k : Nat) : lenJ (vs.take k) ≤ lenJ vs := by
  induction vs generalizing k with
  | nil => simp
  | cons u l ih =>
    cases k with
    | zero => simp [lenJ]
    | succ k => rw [List.take_succ_cons, lenJ, lenJ]; have := ih k; omega
theorem lenJ_bound (vs : List Vl) (h : allOne vs = true) : lenJ vs ≤ 2001 * vs.length := by
  induction vs with
  | nil => simp [lenJ]
  | cons v l ih =>
    simp only [allOne, List.all_cons, Bool.and_eq_true] at h ih
    have := oneB_size h.1
    rw [lenJ, List.length_cons]
    have := ih h.2
    omega
theorem allOne_take (vs : List Vl) (k : Nat) (v : Vl) (h : vs[k]? = some v) (ha : allOne (vs.take k) = true) (hv : oneB v.k v.s = true) : allOne (vs.take (k + 1)) = true := by
  rw [List.take_add_one, h]
  simp only [allOne, List.all_append, Bool.and_eq_true] at ha ⊢
  exact ⟨ha, by simp [hv]⟩
theorem allOne_not (vs : List Vl) (k : Nat) (v : Vl) (h : vs[k]? = some v) (hv : oneB v.k v.s = false) : allOne vs = false := by
  rw [← Bool.not_eq_true]
  intro ha
  simp only [allOne, List.all_eq_true] at ha
  rw [ha v (List.mem_of_getElem? h)] at hv
  cases hv
theorem joinL_snoc (vs : List Vl) (v : Vl) : joinL (vs ++ [v]) = joinL vs ++ (if vs = [] then [] else [32]) ++ v.s.data.toList := by
  induction vs with
  | nil => rw [List.nil_append, joinL_one]; simp [joinL, txts, Lib.join_nil]
  | cons u l ih =>
    cases l with
    | nil => rw [List.singleton_append, joinL_cons, joinL_one, joinL_one]; simp
    | cons u' l =>
      rw [List.cons_append, List.cons_append, joinL_cons, joinL_cons]
      rw [List.cons_append] at ih
      rw [ih]
      simp [List.append_assoc]
theorem joinL_take (vs : List Vl) (k : Nat) (v : Vl) (h : vs[k]? = some v) : joinL (vs.take (k + 1)) = joinL (vs.take k) ++ (if k = 0 then [] else [32]) ++ v.s.data.toList := by
  have hk : k < vs.length := by
    rcases Nat.lt_or_ge k vs.length with h2 | h2
    · exact h2
    · rw [List.getElem?_eq_none h2] at h; cases h
  rw [List.take_add_one, h, Option.toList_some, joinL_snoc]
  congr 2
  by_cases h0 : k = 0
  · rw [if_pos h0, if_pos (by rw [h0]; rfl)]
  · rw [if_neg h0, if_neg (by intro e; have := congrArg List.length e; rw [List.length_take, List.length_nil] at this; omega)]
theorem join_size (vs : List Vl) (k : Nat) (hk : 0 < k) (hl : k ≤ vs.length) : (joinL (vs.take k)).length + 1 = lenJ (vs.take k) := by
  rcases h : vs.take k with _ | ⟨v, l⟩
  · have := congrArg List.length h
    rw [List.length_take, List.length_nil] at this; omega
  · exact joinL_len v l
theorem bs_add (a : List UInt8) (s : ByteArray) : bs a ++ s = bs (a ++ s.data.toList) := by
  obtain ⟨⟨l⟩⟩ := s
  apply ByteArray.ext
  simp [bs, ByteArray.data_append]
def JoinPost (T : ByteArray × Nat) (w : World) (e : Ending) (w' : World) : Prop :=
  e = .returned (.tuple #[.string T.1, .int .i64 T.2]) ∧ Below w.heap.size w w'
set_option maxHeartbeats 4000000 in
theorem joinof_any (vs : List Vl) (A : Option Addr) (n c : Nat) (w : World) (hr : RdV w w.heap.size A n vs) (hn : n * 32 ≤ 140737488351232) (hm : ∀ v ∈ vs, v.s.size ≤ maxLen) :
    Calls Try.prog 12 #[.slice A n c] w (JoinPost (joinS vs) w) := by
  have HL := Lib.hid hr.len
  have hn1 : n ≤ 9223372036854775807 := by omega
  have HS : Hid (joinS vs = (if allOne vs = true then (if 2001 < lenJ vs then (bs [], 2) else (bs (joinL vs), 0)) else (bs [], 1))) := Lib.hid rfl
  go_enter Try.func12, Try.ntmps12
  go_wp2_with fail
  go_loopg [4, 5, 6] n (fun m s u i wr => ∃ (k q : Nat) (t : ByteArray), s = .string t ∧ u = .int .i64 ((q : Int) - 1) ∧ i = .int .i64 k ∧ k ≤ n ∧ m = n - k ∧ q = lenJ (vs.take k) ∧ q ≤ 2001 * k ∧ t.size ≤ 2000 ∧ (q ≤ 2001 → t = bs (joinL (vs.take k))) ∧ allOne (vs.take k) = true ∧ Below w.heap.size w wr)
  case atStart => exact ⟨0, 0, ⟨#[]⟩, rfl, rfl, rfl, Nat.zero_le _, rfl, rfl, Nat.zero_le _, Nat.zero_le _, fun _ => rfl, rfl, Below.refl _ _⟩
  case round =>
    obtain ⟨k, q, t, rfl, rfl, rfl, hk, rfl, hq, hqk, ht, hts, ha, hb⟩ := hrel
    by_cases hlt : k < n
    · obtain ⟨v, hv⟩ : ∃ v, vs[k]? = some v := ⟨vs[k]'(by rw [HL.out]; exact hlt), List.getElem?_eq_getElem _⟩
      obtain ⟨b, o, rfl, hbl, c0, c1, c2⟩ := (show RdV wr w.heap.size A n vs from Rd.below hr hb).at_ k v hv
      have hvm := hm v (List.mem_of_getElem? hv)
      have HI := Lib.hid (fun W => istok_any v.k v.s W hvm)
      have HF := Lib.hid (allOne_not vs k v hv)
      have HA := Lib.hid (allOne_take vs k v hv ha)
      have HLN := Lib.hid (lenJ_take vs k v hv)
      have HJ := Lib.hid (joinL_take vs k v hv)
      have HO := Lib.hid (@oneB_size v.k v.s)
      rw [← one_tok] at HI
      have HTS := Lib.hid hts
      have HQ := Lib.hid hq
      clear hv ha hm hts hq
      obtain ⟨vk, vn, vs1⟩ := v
      simp only at c0 c1 c2 HI HF HA HLN HJ HO
      rcases h1 : oneB vk vs1 with _ | _
      · have HR := Lib.hid (show joinS vs = (bs [], 1) by rw [HS.out, HF.out h1]; rfl)
        rw [h1] at HI
        clear h1 HA
        go_wp2_with fail
        go_quiet ((go_at_call 19; exact quiet_left (HI.out _)))
        go_wp2_with fail
        go_ret2
        rw [HR.out]
        exact ⟨rfl, below_drewN hb _⟩
      · have ha' := HA.out h1
        have hsz := HO.out h1
        rw [h1] at HI
        have hq2 := HLN.out
        rw [← HQ.out] at hq2
        have HA' := Lib.hid ha'
        have HQ2 := Lib.hid hq2
        obtain ⟨hsz1, hsz2⟩ := hsz
        clear h1 ha' hq2 HLN HF HA HO
        obtain ⟨q', hq'⟩ : ∃ q' : Nat, q' = q + 1 + vs1.size := ⟨_, rfl⟩
        have HQ3 := Lib.hid hq'
        have hqi : (q : Int) - 1 + (1 + (vs1.size : Int)) = (q' : Int) - 1 := by omega
        have hqq : q' ≤ 2001 * (k + 1) := by omega
        have hqb : (q' : Int) - 1 ≤ 9223372036854775807 := by omega
        have hqm : q ≤ q' := by omega
        clear hq'
        by_cases hle : q' ≤ 2001
        · have htt := HTS.out (by omega)
          have hz := HJ.out
          by_cases hk0 : k = 0
          · rw [if_pos hk0] at hz
            have hz0 : joinL (vs.take k) = [] := by rw [hk0]; rfl
            rw [hz0] at hz htt
            have hnew : t ++ vs1 = bs (joinL (vs.take (k + 1))) := by rw [hz, htt, bs_add]; rfl
            have hsz : (t ++ vs1).size ≤ 2000 := by rw [htt, ByteArray.size_append, bs_size, List.length_nil]; omega
            have HT := Lib.hid hnew
            have HZ := Lib.hid hsz
            have hkp : ¬ 0 < k := by omega
            clear htt hz hnew hsz hk0 hz0
            go_wp2_with fail
            go_quiet ((go_at_call 19; exact quiet_left (HI.out _)))
            go_wp2_with fail
            go_roundg (n - (k + 1))
            case rel => exact ⟨k + 1, q', _, rfl, rfl, rfl, by omega, rfl, by rw [HQ3.out, HQ2.out], hqq, HZ.out, fun _ => HT.out, HA'.out, below_drewN hb _⟩
            case measure => omega
          · have hkp : (0 : Int) < k := by omega
            have hjs := join_size vs k (by omega) (by rw [HL.out]; omega)
            rw [← HQ.out] at hjs
            rw [if_neg hk0] at hz
            have htl : t.size + 1 = q := by rw [htt, bs_size]; exact hjs
            have hnew : t ++ ⟨#[32]⟩ ++ vs1 = bs (joinL (vs.take (k + 1))) := by rw [hz, htt, bs_add, bs_add]
            have hsz : (t ++ ⟨#[32]⟩ ++ vs1).size ≤ 2000 := by rw [ByteArray.size_append, ByteArray.size_append]; rw [HQ3.out] at hle; show t.size + 1 + vs1.size ≤ 2000; omega
            have HT := Lib.hid hnew
            have HZ := Lib.hid hsz
            clear htt hz hnew hsz htl hjs
            go_wp2_with fail
            go_quiet ((go_at_call 19; exact quiet_left (HI.out _)))
            go_wp2_with fail
            go_roundg (n - (k + 1))
            case rel => exact ⟨k + 1, q', _, rfl, rfl, rfl, by omega, rfl, by rw [HQ3.out, HQ2.out], hqq, HZ.out, fun _ => HT.out, HA'.out, below_drewN hb _⟩
            case measure => omega
        · have hle' : ¬ (q' : Int) - 1 ≤ 2000 := by omega
          go_wp2_with fail
          go_quiet ((go_at_call 19; exact quiet_left (HI.out _)))
          go_wp2_with fail
          go_roundg (n - (k + 1))
          case rel => exact ⟨k + 1, q', t, rfl, rfl, rfl, by omega, rfl, by rw [HQ3.out, HQ2.out], hqq, ht, fun h => absurd h hle, HA'.out, below_drewN hb _⟩
          case measure => omega
    · have hkn : k = n := by omega
      have htk : vs.take k = vs := List.take_of_length_le (by rw [HL.out]; omega)
      rw [htk] at hts ha hq
      have hR := HS.out
      rw [if_pos ha, ← hq] at hR
      by_cases hle : 2001 < q
      · rw [if_pos hle] at hR
        have HR := Lib.hid hR
        clear hR hts ha hq htk hkn
        have hle' : 2000 < (q : Int) - 1 := by omega
        go_wp2_with fail
        go_ret2
        rw [HR.out]
        exact ⟨rfl, hb⟩
      · rw [if_neg hle, ← hts (by omega)] at hR
        have HR := Lib.hid hR
        clear hR hts ha hq htk hkn
        have hle' : ¬ 2000 < (q : Int) - 1 := by omega
        go_wp2_with fail
        go_ret2
        rw [HR.out]
        exact ⟨rfl, hb⟩
end Go.Proofs.Ytphaijjofmkjcaa
