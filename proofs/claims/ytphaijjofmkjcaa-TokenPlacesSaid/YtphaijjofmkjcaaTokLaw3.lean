/- The law TokenPlaces, walked. -/
import Derived.Test.YtphaijjofmkjcaaTokLaw1
namespace Go.Proofs.Ytphaijjofmkjcaa
open Go.RowKit
theorem len_of_nil' {vs : List Vl} (h : vs = []) : vs.length = 0 := by rw [h]; rfl
set_option maxRecDepth 100000 in
set_option maxHeartbeats 8000000 in
theorem places_any (s : ByteArray) (w : World) (hs : s.size ≤ maxLen) :
    Calls Try.prog 6 #[.string s] w fun e w' => e = .returned (.bool true) ∧ Below w.heap.size w w' := by
  have HC := Lib.hid (fun W => scan_any s W hs)
  obtain ⟨hl1, hl2⟩ := scanS_len s
  have HE := Lib.hid (scanS_bad s)
  have HP := Lib.hid (scanS_places s)
  generalize hTd : scanS s = T at *
  obtain ⟨us, p, e⟩ := T
  clear hTd hl2
  unfold maxLen at hs
  simp only at hl1 HE HP
  by_cases he : e = 0
  · subst he
    have HPL := Lib.hid (HP.out rfl)
    clear HP HE
    go_enter Try.func6, Try.ntmps6
    go_wp2_with fail
    refine (HC.out w).mono ?_
    rintro ee w0 ⟨v, rfl, hown, hb0⟩
    dsimp only at hown ⊢
    have z0 := hb0.size
    go_wp2_with fail
    refine (begun_any w0).mono ?_
    rintro ee w1 ⟨rfl, hb1⟩
    have z1 := hb1.size
    obtain ⟨A1, c1, rfl, hrd1, hn1⟩ := rd_of_own (own_below hown hb1)
    have HB := Lib.hid (hb0.trans (hb1.mono z0))
    go_wp2_with fail
    go_loopg [6, 7] us.length (fun m u i wr => ∃ (k p : Nat), i = .int .i64 k ∧ u = .int .i64 p ∧ k ≤ us.length ∧ m = us.length - k ∧ Places s.data.toList p (us.drop k) ∧ Below w1.heap.size w1 wr)
    case atStart => exact ⟨0, 0, rfl, rfl, Nat.zero_le _, rfl, HPL.out, Below.refl _ _⟩
    case round =>
      obtain ⟨k, q, rfl, rfl, hk, rfl, hpl, hb⟩ := hrel
      by_cases hlt : k < us.length
      · obtain ⟨v, hv⟩ : ∃ v, us[k]? = some v := ⟨us[k]'hlt, List.getElem?_eq_getElem _⟩
        obtain ⟨b, o, rfl, hbl, c0, c1, c2⟩ := (show RdV wr w1.heap.size A1 us.length us from Rd.below hrd1 hb).at_ k v hv
        rw [drop_eq _ _ _ hv] at hpl
        obtain ⟨a, ha, hqa, hp0, hple, hsub, hrest⟩ := hpl
        obtain ⟨vk, vn, vs⟩ := v
        simp only at ha hp0 hple hsub hrest c0 c1 c2
        subst ha
        rw [size_list] at hple
        have hex : s.extract a (a + vs.size) = vs := (extract_mid s a vs.size).trans hsub.symm
        have HR := Lib.hid hrest
        have HX := Lib.hid hex
        obtain ⟨z, hz⟩ : ∃ z, z = a + vs.size := ⟨_, rfl⟩
        have hai : (a : Int) + (vs.size : Int) = (z : Int) := by omega
        have haz : a ≤ z := by omega
        have hzs : z ≤ s.size := by omega
        rw [← hz] at HX HR
        have HXX := HX.out
        clear hz
        have hg1 : decide ((a : Int) < (q : Int)) = false := by simp; omega
        have hn1 : decide (a < q) = false := by simp; omega
        have hn3 : decide (s.size < a) = false := by simp; omega
        have hg2 : ((vs.size : Int) == 0) = false := by rw [beq_eq_false_iff_ne]; omega
        have hg3 : decide ((s.size : Int) < (a : Int)) = false := by simp; omega
        have hg4 : decide ((s.size : Int) - (a : Int) < (vs.size : Int)) = false := by simp; omega
        clear hv hsub hrest hex
        go_wp2_with fail
        go_quiet (fail)
        go_wp2_with fail
        go_roundg (us.length - (k + 1))
        case rel => exact ⟨k + 1, z, rfl, rfl, by omega, rfl, HR.out, below_drewN hb _⟩
        case measure => omega
      · go_wp2_with fail
        go_ret
        exact ⟨rfl, HB.out.trans (hb.mono (by omega))⟩
  · have hl0 := len_of_nil' (HE.out he)
    have he' : ((e : Int) != 0) = true := by rw [bne_iff_ne]; omega
    clear he HP HE
    go_enter Try.func6, Try.ntmps6
    go_wp2_with fail
    refine (HC.out w).mono ?_
    rintro ee w0 ⟨v, rfl, hown, hb0⟩
    dsimp only at hown ⊢
    have z0 := hb0.size
    go_wp2_with fail
    refine (begun_any w0).mono ?_
    rintro ee w1 ⟨rfl, hb1⟩
    obtain ⟨A1, c1, rfl, hrd1, hn1⟩ := rd_of_own (own_below hown hb1)
    rw [hl0] at hrd1 hn1 ⊢
    clear hl0
    go_wp2_with fail
    go_ret
    exact ⟨rfl, hb0.trans (hb1.mono z0)⟩
end Go.Proofs.Ytphaijjofmkjcaa
