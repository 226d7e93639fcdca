/- One token. -/
import Derived.Test.YtphaijjofmkjcaaTok6
import Derived.Test.YtphaijjofmkjcaaTokPlain4
namespace Go.Proofs.Ytphaijjofmkjcaa
open Go.RowKit
theorem oneB_false {k : Int} {s : ByteArray} {T : List Vl × Nat × Nat} (hT : scanS s = T) (h : ¬ T.2.2 = 0 ∨ ¬ T.1.length = 1) : oneB k s = false := by
  rw [← Bool.not_eq_true]
  intro h1
  obtain ⟨t, p, h2, _, _⟩ := oneB_of h1
  rw [← hT, h2] at h
  simp at h
theorem oneB_one {k : Int} {s : ByteArray} {t : Vl} {p : Nat} (hT : scanS s = ([t], p, 0)) : oneB k s = ((t.k == k) && (t.s.toList == s.toList)) := by
  unfold oneB
  rw [hT]
  rfl
set_option maxHeartbeats 2000000 in
theorem one_any (k : Int) (s : ByteArray) (w : World) (hs : s.size ≤ maxLen) :
    Calls Try.prog 17 #[.int .i64 k, .string s] w fun e w' => e = .returned (.bool (oneB k s)) ∧ Below w.heap.size w w' := by
  have HC := Lib.hid (fun W => scan_any s W hs)
  have HT : Hid (scanS s = scanS s) := Lib.hid rfl
  have HF := Lib.hid (fun T h1 h2 => @oneB_false k s T h1 h2)
  have HO := Lib.hid (fun t p h => @oneB_one k s t p h)
  generalize hT : scanS s = T at HC HT
  have HT := Lib.hid hT
  clear hT
  obtain ⟨vs, p, e⟩ := T
  by_cases he : e = 0
  · subst he
    by_cases hn : vs.length = 1
    · obtain ⟨t, rfl⟩ : ∃ t, vs = [t] := by
        rcases vs with _ | ⟨t, _ | _⟩
        · simp at hn
        · exact ⟨t, rfl⟩
        · simp at hn
      obtain ⟨tk, tn, ts⟩ := t
      clear hn
      obtain rfl : p = 0 := by
        have := (scanS_one s (by rw [HT.out])).2
        rw [HT.out] at this
        exact this
      have HR := Lib.hid (HO.out _ _ HT.out)
      simp only at HR
      rcases h1 : (tk == k) with _ | _
      · rw [h1, Bool.false_and] at HR
        go_enter Try.func17, Try.ntmps17
        go_wp2_with fail
        refine (HC.out w).mono ?_
        rintro e w1 ⟨v, rfl, hown, hb⟩
        dsimp only at hown ⊢
        obtain ⟨g, cap, rfl, hg1, hg2⟩ := hown.form Nat.zero_lt_one
        have c0 : w1.cell? ⟨g, 0, none⟩ = some (.int .i64 tk) := hown.cellAt 0 (show 0 < 3 by decide)
        have c2 : w1.cell? ⟨g, 2, none⟩ = some (.string ts) := hown.cellAt 2 (show 2 < 3 by decide)
        go_wp2_with fail
        go_ret
        exact ⟨by rw [HR.out]; rfl, hb⟩
      · rw [h1, Bool.true_and] at HR
        go_enter Try.func17, Try.ntmps17
        go_wp2_with fail
        refine (HC.out w).mono ?_
        rintro e w1 ⟨v, rfl, hown, hb⟩
        dsimp only at hown ⊢
        obtain ⟨g, cap, rfl, hg1, hg2⟩ := hown.form Nat.zero_lt_one
        have c0 : w1.cell? ⟨g, 0, none⟩ = some (.int .i64 tk) := hown.cellAt 0 (show 0 < 3 by decide)
        have c2 : w1.cell? ⟨g, 2, none⟩ = some (.string ts) := hown.cellAt 2 (show 2 < 3 by decide)
        go_wp2_with fail
        go_ret
        exact ⟨by rw [HR.out]; rfl, hb⟩
    · have HR := Lib.hid (HF.out _ HT.out (.inr hn))
      have hl : ((vs.length : Int) == 1) = false := by rw [beq_eq_false_iff_ne]; omega
      clear hn
      go_enter Try.func17, Try.ntmps17
      go_wp2_with fail
      refine (HC.out w).mono ?_
      rintro e w1 ⟨v, rfl, hown, hb⟩
      dsimp only at hown ⊢
      obtain ⟨A1, c1, rfl, hrd1, hn1⟩ := rd_of_own hown
      go_wp2_with fail
      go_ret
      exact ⟨by rw [HR.out]; rfl, hb⟩
  · have HR := Lib.hid (HF.out _ HT.out (.inl he))
    have hl : ((e : Int) == 0) = false := by rw [beq_eq_false_iff_ne]; omega
    clear he
    go_enter Try.func17, Try.ntmps17
    go_wp2_with fail
    refine (HC.out w).mono ?_
    rintro e w1 ⟨v, rfl, hown, hb⟩
    dsimp only at hown ⊢
    go_wp2_with fail
    go_ret
    exact ⟨by rw [HR.out]; rfl, hb⟩
end Go.Proofs.Ytphaijjofmkjcaa
