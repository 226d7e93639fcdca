/- The law TokenBack, walked. -/
import Derived.Test.YtphaijjofmkjcaaTokLaw1
namespace Go.Proofs.Ytphaijjofmkjcaa
open Go.RowKit
/-- what is joined, scanned -/
theorem joinS_cases (vs : List Vl) : (joinS vs).2 = 0 ∧ (∃ ts, scanS (joinS vs).1 = (ts, 0, 0) ∧ sameTs false vs ts = true) ∧ (joinS vs).1.size ≤ maxLen ∨ ¬ (joinS vs).2 = 0 := by
  by_cases h : (joinS vs).2 = 0
  · refine .inl ⟨h, ?_⟩
    unfold joinS at h ⊢
    by_cases ha : allOne vs = true
    · rw [if_pos ha] at h ⊢
      by_cases hn : 2001 < lenJ vs
      · rw [if_pos hn] at h; cases h
      · rw [if_neg hn]
        obtain ⟨ts, h1, h2⟩ := join_scan vs ha hn
        refine ⟨⟨ts, h1, sameTK_same h2⟩, ?_⟩
        rcases vs with _ | ⟨v, l⟩
        · exact Nat.zero_le _
        · have := joinL_len v l
          show (bs (joinL (v :: l))).size ≤ maxLen
          rw [bs_size]
          unfold maxLen
          omega
    · rw [if_neg ha] at h; cases h
  · exact .inr h
theorem joinS_many (s : ByteArray) (h : (scanS s).2.2 = 0) : (joinS (scanS s).1).2 = 0 ∨ (joinS (scanS s).1).2 = 2 := by
  have ha := (scanS_one s h).1
  unfold joinS
  rw [if_pos ha]
  split
  · exact .inr rfl
  · exact .inl rfl
/-- the second half of the law: from the scan of s on -/
theorem len_of_nil {vs : List Vl} (h : vs = []) : vs.length = 0 := by rw [h]; rfl
set_option maxHeartbeats 8000000 in
theorem backt_any (vs : List Vl) (A : Option Addr) (n c : Nat) (s : ByteArray) (w : World) (hr : RdV w w.heap.size A n vs) (hn : n * 32 ≤ 140737488351232) (hm : ∀ v ∈ vs, v.s.size ≤ maxLen) (hs : s.size ≤ maxLen) :
    Calls Try.prog 5 #[.slice A n c, .string s] w fun e w' => e = .returned (.bool true) ∧ Below w.heap.size w w' := by
  have HJ := Lib.hid (fun W hr => join_any vs A n c W hr hn hm)
  have HC := Lib.hid (fun W => scan_any s W hs)
  have HK := Lib.hid (joinS_cases vs)
  have HL := Lib.hid hr.len
  obtain ⟨hl1, hl2⟩ := scanS_len s
  have HM := Lib.hid (joinS_cases (scanS s).1)
  have HD := Lib.hid (joinS_many s)
  have HE := Lib.hid (scanS_bad s)
  have HJ2 := Lib.hid (fun A c W hr => join_any (scanS s).1 A (scanS s).1.length c W hr (by omega) hl2)
  have hnm : n ≤ maxLen := by unfold maxLen; omega
  clear hm hl2 hn
  generalize hTd : scanS s = T at *
  obtain ⟨us, p, e⟩ := T
  clear hTd
  simp only at hl1 HM HD HE HJ2
  generalize joinS vs = J at *
  obtain ⟨t, je⟩ := J
  simp only at HK
  -- the way from the second scan on
  have key : ∀ (W : World) (Q : Ending → World → Prop), Hid (Q = Q) := fun _ _ => Lib.hid rfl
  clear key
  rcases HK.out with ⟨h0, ⟨ts, h1, h2⟩, h3⟩ | h0
  · subst h0
    have HC1 := Lib.hid (fun W => h1 ▸ scan_any t W h3)
    have hlen := sameTs_len _ _ _ h2
    have HS1 := Lib.hid h2
    clear h1 h2 h3 HK
    go_enter Try.func5, Try.ntmps5
    go_wp2_with fail
    refine (begun_any w).mono ?_
    rintro ee w0 ⟨rfl, hb0⟩
    have z0 := hb0.size
    have hr0 := Rd.below hr hb0
    go_wp2_with fail
    refine (HJ.out w0 (Rd.more hr0 z0)).mono ?_
    rintro ee w1 ⟨rfl, hb1⟩
    have z1 := hb1.size
    have hr1 := Rd.below' hr0 hb1 z0
    dsimp only
    go_wp2_with fail
    refine (HC1.out w1).mono ?_
    rintro ee w2 ⟨v, rfl, hown, hb2⟩
    have z2 := hb2.size
    have hr2 := Rd.below' hr1 hb2 (by omega)
    dsimp only at hown ⊢
    obtain ⟨A1, c1, rfl, hrd1, hn1⟩ := rd_of_own hown
    go_wp2_with fail
    refine (rsamet_any false vs ts A A1 n ts.length c c1 w2 (Rd.more hr2 (by omega)) hrd1 hnm hn1).mono ?_
    rw [HS1.out]
    rintro ee w3 ⟨rfl, hb3⟩
    have z3 := hb3.size
    have HB3 := Lib.hid ((hb0.trans (hb1.mono z0)).trans ((hb2.trans (hb3.mono z2)).mono (by omega)))
    go_wp2_with fail
    refine (HC.out w3).mono ?_
    rintro ee w4 ⟨v4, rfl, hown4, hb4⟩
    have z4 := hb4.size
    dsimp only at hown4 ⊢
    obtain ⟨A4, c4, rfl, hrd4, hn4⟩ := rd_of_own hown4
    have HB4 := Lib.hid (HB3.out.trans (hb4.mono (by omega)))
    by_cases he : e = 0
    · subst he
      rcases HM.out with ⟨g0, ⟨ts2, g1, g2⟩, g3⟩ | g0
      · have HC5 := Lib.hid (fun W => g1 ▸ scan_any _ W g3)
        have HS5 := Lib.hid g2
        generalize joinS us = J2 at *
        obtain ⟨t2, j2⟩ := J2
        simp only at g0 g1 HC5
        subst g0
        clear g1 g2 g3 HM
        go_wp2_with fail
        refine (HJ2.out A4 c4 w4 hrd4).mono ?_
        rintro ee w5 ⟨rfl, hb5⟩
        have z5 := hb5.size
        dsimp only
        go_wp2_with fail
        refine (HC5.out w5).mono ?_
        rintro ee w6 ⟨v6, rfl, hown6, hb6⟩
        have z6 := hb6.size
        dsimp only at hown6 ⊢
        obtain ⟨A6, c6, rfl, hrd6, hn6⟩ := rd_of_own hown6
        go_wp2_with fail
        refine (rsamet_any false us ts2 A4 A6 us.length ts2.length c4 c6 w6 (Rd.more (Rd.below' (Rd.below hrd4 hb5) hb6 z5) (by omega)) hrd6 hn4 hn6).mono ?_
        rw [HS5.out]
        rintro ee w7 ⟨rfl, hb7⟩
        go_wp2_with fail
        go_ret
        exact ⟨rfl, HB4.out.trans (((hb5.trans (hb6.mono z5)).trans (hb7.mono (by omega))).mono (by omega))⟩
      · have hd := HD.out rfl
        generalize joinS us = J2 at *
        obtain ⟨t2, j2⟩ := J2
        simp only at g0 hd
        obtain rfl : j2 = 2 := by omega
        clear g0 hd HM
        go_wp2_with fail
        refine (HJ2.out A4 c4 w4 hrd4).mono ?_
        rintro ee w5 ⟨rfl, hb5⟩
        dsimp only
        go_wp2_with fail
        go_ret
        exact ⟨rfl, HB4.out.trans (hb5.mono (by omega))⟩
    · have hl0 := len_of_nil (HE.out he)
      have he' : ((e : Int) != 0) = true := by rw [bne_iff_ne]; omega
      rw [hl0] at hrd4 hn4 ⊢
      clear he hl0
      go_wp2_with fail
      go_ret
      exact ⟨rfl, HB4.out⟩
  · have he0 : ((je : Int) == 0) = false := by rw [beq_eq_false_iff_ne]; omega
    clear h0 HK
    go_enter Try.func5, Try.ntmps5
    go_wp2_with fail
    refine (begun_any w).mono ?_
    rintro ee w0 ⟨rfl, hb0⟩
    have z0 := hb0.size
    have hr0 := Rd.below hr hb0
    go_wp2_with fail
    refine (HJ.out w0 (Rd.more hr0 z0)).mono ?_
    rintro ee w3 ⟨rfl, hb1⟩
    have z1 := hb1.size
    dsimp only
    have HB3 := Lib.hid (hb0.trans (hb1.mono z0))
    go_wp2_with fail
    refine (HC.out w3).mono ?_
    rintro ee w4 ⟨v4, rfl, hown4, hb4⟩
    have z4 := hb4.size
    dsimp only at hown4 ⊢
    obtain ⟨A4, c4, rfl, hrd4, hn4⟩ := rd_of_own hown4
    have HB4 := Lib.hid (HB3.out.trans (hb4.mono (by omega)))
    by_cases he : e = 0
    · subst he
      rcases HM.out with ⟨g0, ⟨ts2, g1, g2⟩, g3⟩ | g0
      · have HC5 := Lib.hid (fun W => g1 ▸ scan_any _ W g3)
        have HS5 := Lib.hid g2
        generalize joinS us = J2 at *
        obtain ⟨t2, j2⟩ := J2
        simp only at g0 g1 HC5
        subst g0
        clear g1 g2 g3 HM
        go_wp2_with fail
        refine (HJ2.out A4 c4 w4 hrd4).mono ?_
        rintro ee w5 ⟨rfl, hb5⟩
        have z5 := hb5.size
        dsimp only
        go_wp2_with fail
        refine (HC5.out w5).mono ?_
        rintro ee w6 ⟨v6, rfl, hown6, hb6⟩
        have z6 := hb6.size
        dsimp only at hown6 ⊢
        obtain ⟨A6, c6, rfl, hrd6, hn6⟩ := rd_of_own hown6
        go_wp2_with fail
        refine (rsamet_any false us ts2 A4 A6 us.length ts2.length c4 c6 w6 (Rd.more (Rd.below' (Rd.below hrd4 hb5) hb6 z5) (by omega)) hrd6 hn4 hn6).mono ?_
        rw [HS5.out]
        rintro ee w7 ⟨rfl, hb7⟩
        go_wp2_with fail
        go_ret
        exact ⟨rfl, HB4.out.trans (((hb5.trans (hb6.mono z5)).trans (hb7.mono (by omega))).mono (by omega))⟩
      · have hd := HD.out rfl
        generalize joinS us = J2 at *
        obtain ⟨t2, j2⟩ := J2
        simp only at g0 hd
        obtain rfl : j2 = 2 := by omega
        clear g0 hd HM
        go_wp2_with fail
        refine (HJ2.out A4 c4 w4 hrd4).mono ?_
        rintro ee w5 ⟨rfl, hb5⟩
        dsimp only
        go_wp2_with fail
        go_ret
        exact ⟨rfl, HB4.out.trans (hb5.mono (by omega))⟩
    · have hl0 := len_of_nil (HE.out he)
      have he' : ((e : Int) != 0) = true := by rw [bne_iff_ne]; omega
      rw [hl0] at hrd4 hn4 ⊢
      clear he hl0
      go_wp2_with fail
      go_ret
      exact ⟨rfl, HB4.out⟩
end Go.Proofs.Ytphaijjofmkjcaa
