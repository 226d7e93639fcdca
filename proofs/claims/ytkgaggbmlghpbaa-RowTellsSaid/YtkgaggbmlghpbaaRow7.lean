/- The laws of rows, walked. -/
import Derived.Test.YtkgaggbmlghpbaaRow6
import Derived.Test.YtkgaggbmlghpbaaRef2
import Derived.Test.YtkgaggbmlghpbaaRef3
import Derived.Test.YtkgaggbmlghpbaaRef4
namespace Go.Proofs.Ytkgaggbmlghpbaa
open Go.RowKit
set_option maxHeartbeats 4000000 in
theorem tells_any (vs : List Vl) (A : Option Addr) (n c : Nat) (s : ByteArray) (w : World) (hr : RdV w w.heap.size A n vs) (hn : n ≤ maxLen) (hs : ∀ v ∈ vs, v.s.size ≤ maxLen) (hm : s.size ≤ maxLen) :
    Calls Try.prog 3 #[.slice A n c, .string s] w fun e w' => e = .returned (.bool true) ∧ Below w.heap.size w w' := by
  have HE := Lib.hid (fun w1 hr1 => encode_any vs A n c w1 hr1 hn hs)
  have HC := Lib.hid (fun w1 hr1 => rchecks_any vs A n c w1 hr1 hn hs)
  have HD := Lib.hid (fun w1 => decode_any s w1 hm)
  have HRD := Lib.hid (fun w1 => rdecode_any s w1 hm)
  have HV : Hid (encodeV vs = if rightsE vs = 0 then bs (encL vs) else bs []) := Lib.hid rfl
  have HL := Lib.hid hr.len
  go_enter Try.func3, Try.ntmps3
  go_wp2_with fail
  refine (HE.out w hr).mono ?_
  rintro e w1 ⟨rfl, hb1⟩
  have z1 := hb1.size
  go_wp2_with fail
  refine (HD.out w1).mono ?_
  rintro e w2 ⟨v, rfl, hown, hb2⟩
  dsimp only at hown ⊢
  have z2 := hb2.size
  have hr2 := Rd.below' (Rd.below hr hb1) hb2 z1
  go_wp2_with fail
  refine (HC.out w2 (Rd.more hr2 (by omega))).mono ?_
  rintro e w3 ⟨rfl, hb3⟩
  have z3 := hb3.size
  have hr3 := Rd.below' hr2 hb3 (by omega)
  have HB3 := Lib.hid ((hb1.trans (hb2.mono z1)).trans (hb3.mono (by omega)))
  by_cases h0 : rightsE vs = 0
  · have hE : encodeV vs = bs (encL vs) := by simp [encodeV, h0]
    obtain ⟨h5, hall⟩ := rights_all h0
    have HX := Lib.hid (fun w1 hr1 => rencode_any vs A n c w1 hr1 hall (by rw [← HL.out]; exact h5))
    rw [hE]
    rw [h0]
    generalize bs (encL vs) = X at HX ⊢
    generalize decodeS s = D at *
    obtain ⟨ds, de⟩ := D
    dsimp only at hown ⊢
    clear h0 hE h5 hall
    go_wp2_with fail
    refine (HX.out w3 (Rd.more hr3 (by omega))).mono ?_
    rintro e w4 ⟨rfl, hb4⟩
    have z4 := hb4.size
    go_wp2_with fail
    refine (HRD.out w4).mono ?_
    rintro e w5 ⟨v', rfl, hown', hb5⟩
    dsimp only at hown' ⊢
    have z5 := hb5.size
    go_wp2_with fail
    refine (begun_any w5).mono ?_
    rintro e w6 ⟨rfl, hb6⟩
    have z6 := hb6.size
    have h1 := own_below (own_below (own_below (own_below hown hb3) hb4) hb5) hb6
    have h2 := own_below hown' hb6
    obtain ⟨A1, c1, rfl, hrd1, hn1⟩ := rd_of_own h1
    obtain ⟨A2, c2, rfl, hrd2, hn2⟩ := rd_of_own h2
    go_wp2_with fail
    refine (rsames_any ds ds A1 A2 ds.length ds.length c1 c2 w6 hrd1 hrd2 hn1 hn2).mono ?_
    rw [sameVs_self]
    rintro e w7 ⟨rfl, hb7⟩
    go_wp2_with fail
    go_ret
    exact ⟨rfl, (HB3.out.trans (hb4.mono (by omega))).trans (((hb5.trans (hb6.mono z5)).trans (hb7.mono (by omega))).mono (by omega))⟩
  · have hE : encodeV vs = ⟨#[]⟩ := by simp [encodeV, h0]; rfl
    have h0' : (rightsE vs == 0) = false := by simpa using h0
    rw [hE]
    generalize rightsE vs = E at *
    generalize decodeS s = D at *
    obtain ⟨ds, de⟩ := D
    dsimp only at hown ⊢
    clear h0 hE
    go_wp2_with fail
    refine (HRD.out w3).mono ?_
    rintro e w5 ⟨v', rfl, hown', hb5⟩
    dsimp only at hown' ⊢
    have z5 := hb5.size
    go_wp2_with fail
    refine (begun_any w5).mono ?_
    rintro e w6 ⟨rfl, hb6⟩
    have z6 := hb6.size
    have h1 := own_below (own_below (own_below hown hb3) hb5) hb6
    have h2 := own_below hown' hb6
    obtain ⟨A1, c1, rfl, hrd1, hn1⟩ := rd_of_own h1
    obtain ⟨A2, c2, rfl, hrd2, hn2⟩ := rd_of_own h2
    go_wp2_with fail
    refine (rsames_any ds ds A1 A2 ds.length ds.length c1 c2 w6 hrd1 hrd2 hn1 hn2).mono ?_
    rw [sameVs_self]
    rintro e w7 ⟨rfl, hb7⟩
    go_wp2_with fail
    go_ret
    exact ⟨rfl, HB3.out.trans (((hb5.trans (hb6.mono z5)).trans (hb7.mono (by omega))).mono (by omega))⟩

theorem decodeS_text (s : ByteArray) : ∀ v ∈ (decodeS s).1, v.s.size ≤ s.size := by
  intro v hv
  unfold decodeS at hv
  split at hv
  · split at hv
    · exact decT_text s v hv
    · simp at hv
  · simp at hv
set_option maxHeartbeats 4000000 in
theorem back_any (vs : List Vl) (A : Option Addr) (n c : Nat) (s : ByteArray) (w : World) (hr : RdV w w.heap.size A n vs) (hn : n ≤ maxLen) (hs : ∀ v ∈ vs, v.s.size ≤ maxLen) (hm : s.size ≤ maxLen) :
    Calls Try.prog 4 #[.slice A n c, .string s] w fun e w' => e = .returned (.bool true) ∧ Below w.heap.size w w' := by
  have HE := Lib.hid (fun w1 hr1 => encode_any vs A n c w1 hr1 hn hs)
  have HL := Lib.hid hr.len
  go_enter Try.func4, Try.ntmps4
  go_wp2_with fail
  refine (begun_any w).mono ?_
  rintro e w0 ⟨rfl, hb0⟩
  have z0 := hb0.size
  have hr0 := Rd.below hr hb0
  go_wp2_with fail
  refine (HE.out w0 (Rd.more hr0 z0)).mono ?_
  rintro e w1 ⟨rfl, hb1⟩
  have z1 := hb1.size
  have hr1 := Rd.below' hr0 hb1 z0
  have HB1 := Lib.hid (hb0.trans (hb1.mono z0))
  by_cases h0 : rightsE vs = 0
  · have hE : encodeV vs = bs (encL vs) := by simp [encodeV, h0]
    have hD := decode_enc vs h0
    have hX : (bs (encL vs)).size ≤ maxLen := by
      rw [← hE]
      exact encodeV_size vs
    rw [hE, h0]
    clear h0 hE
    generalize bs (encL vs) = X at *
    have HDX := Lib.hid (decode_any X w1 hX)
    rw [hD] at HDX
    clear hD
    go_wp2_with fail
    refine HDX.out.mono ?_
    rintro e w2 ⟨v, rfl, hown, hb2⟩
    dsimp only at hown ⊢
    have z2 := hb2.size
    have hr2 := Rd.below' hr1 hb2 (by omega)
    obtain ⟨A1, c1, rfl, hrd1, hn1⟩ := rd_of_own hown
    go_wp2_with fail
    refine (rsames_any vs vs A1 A vs.length n c1 c w2 hrd1 (Rd.more hr2 (by omega)) hn1 hn).mono ?_
    rw [sameVs_self]
    rintro e w3 ⟨rfl, hb3⟩
    have z3 := hb3.size
    go_wp2_with fail
    refine (decode_any s w3 hm).mono ?_
    rintro e w5 ⟨v', rfl, hown', hb5⟩
    dsimp only at hown' ⊢
    have z5 := hb5.size
    obtain ⟨A2, c2, rfl, hrd2, hn2⟩ := rd_of_own hown'
    have HB5 := Lib.hid ((HB1.out.trans ((hb2.trans (hb3.mono z2)).mono (by omega))).trans (hb5.mono (by omega)))
    by_cases hd : (decodeS s).2 = 0
    · obtain ⟨d1, d2⟩ := decode_of s hd
      have HT := Lib.hid (decodeS_text s)
      have HE5 := Lib.hid (encode_any (decodeS s).1 A2 _ c2 w5 hrd2 hn2 (fun v hv => Nat.le_trans (HT.out v hv) hm))
      have hV : encodeV (decodeS s).1 = s := by simp [encodeV, d1, d2]
      rw [hV, d1] at HE5
      rw [hd]
      clear hV d1 d2 hd HT
      go_wp2_with fail
      refine HE5.out.mono ?_
      rintro e w6 ⟨rfl, hb6⟩
      go_wp2_with fail
      go_ret
      exact ⟨rfl, HB5.out.trans (hb6.mono (Nat.le_trans (by omega) z5))⟩
    · have hl : (decodeS s).1.length = 0 := by rw [decode_bad s hd]; rfl
      have hd' : ((decodeS s).2 != 0) = true := by simpa using hd
      rw [hl] at hrd2 hn2 ⊢
      clear hd hl
      go_wp2_with fail
      go_ret
      exact ⟨rfl, HB5.out⟩
  · have h0' : (rightsE vs == 0) = false := by simpa using h0
    clear h0
    go_wp2_with fail
    refine (decode_any s w1 hm).mono ?_
    rintro e w5 ⟨v', rfl, hown', hb5⟩
    dsimp only at hown' ⊢
    have z5 := hb5.size
    obtain ⟨A2, c2, rfl, hrd2, hn2⟩ := rd_of_own hown'
    have HB5 := Lib.hid (HB1.out.trans (hb5.mono (by omega)))
    by_cases hd : (decodeS s).2 = 0
    · obtain ⟨d1, d2⟩ := decode_of s hd
      have HT := Lib.hid (decodeS_text s)
      have HE5 := Lib.hid (encode_any (decodeS s).1 A2 _ c2 w5 hrd2 hn2 (fun v hv => Nat.le_trans (HT.out v hv) hm))
      have hV : encodeV (decodeS s).1 = s := by simp [encodeV, d1, d2]
      rw [hV, d1] at HE5
      rw [hd]
      clear hV d1 d2 hd HT
      go_wp2_with fail
      refine HE5.out.mono ?_
      rintro e w6 ⟨rfl, hb6⟩
      go_wp2_with fail
      go_ret
      exact ⟨rfl, HB5.out.trans (hb6.mono (Nat.le_trans (by omega) z5))⟩
    · have hl : (decodeS s).1.length = 0 := by rw [decode_bad s hd]; rfl
      have hd' : ((decodeS s).2 != 0) = true := by simpa using hd
      rw [hl] at hrd2 hn2 ⊢
      clear hd hl
      go_wp2_with fail
      go_ret
      exact ⟨rfl, HB5.out⟩
end Go.Proofs.Ytkgaggbmlghpbaa
