/- The program's reader of bytes: all values; Decode. -/
import Derived.Test.YtkgaggbmlghpbaaRow4
import Derived.Test.YtkgaggbmlghpbaaRow1
import Derived.BigQuiet
import Derived.Deep.QuietTactic
namespace Go.Proofs.Ytkgaggbmlghpbaa
open Go.RowKit
theorem elVal : ElT Try.prog 22 37 (.agg #[.int .i64 0, .int .i64 0, .string ⟨#[]⟩]) 3 32 := elT_mk Try.underlying22 (by kernel_rfl) rfl (by decide)
def ValuesPost (T : List Vl × List UInt8 × Bool) (w : World) (e : Ending) (w' : World) : Prop :=
  ∃ v, e = .returned (.tuple #[v, .bool (!T.2.2 && T.2.1.isEmpty)]) ∧ w'.ownsRow (w.heap.size + 1) 37 3 v T.1.length (cellsV T.1) ∧ Below w.heap.size w w'
set_option maxHeartbeats 2000000 in
theorem values_any (s : ByteArray) (w : World) (hs : s.size ≤ 9223372036854775807) :
    Calls Try.prog 14 #[.string s] w (ValuesPost (decT s) w) := by
  unfold decT
  have hl : s.data.toList.length ≤ 9223372036854775807 := by simpa using hs
  obtain ⟨n, l1, s1, e1, k1, hl1, H1⟩ := one_names s.data.toList false hl
  rw [e1]
  dsimp only
  have C1 := Lib.hid H1
  clear e1 H1
  have hg0 : Blk (w.alloc (.cells #[.string s, .bool false] 46)) w.heap.size 46 #[.string (bs s.data.toList), .bool false] := Blk.fresh w _ _
  go_enter Try.func14, Try.ntmps14
  go_wp2_with fail
  refine (C1.out w.heap.size _ hg0).mono ?_
  rintro e w1 ⟨rfl, hg1, ht1⟩
  have hw1 := ht1.size
  simp only [World.size_alloc] at hw1
  go_wp2_with fail
  go_loopw [5, 6] (fun v i wr => ∃ (m : Nat) (vs : List Vl) (l : List UInt8) (sh : Bool), i = .int .i64 m ∧ wr.ownsRow (w.heap.size + 1) 37 3 v vs.length (cellsV vs) ∧ vs.length + m < 256 ∧ l.length ≤ 9223372036854775807 ∧
      (vs ++ (valsR m l sh).1, (valsR m l sh).2) = valsR n l1 s1 ∧ Blk wr w.heap.size 46 #[.string (bs l), .bool sh] ∧ Below w.heap.size w wr ∧ w.heap.size + 1 ≤ wr.heap.size) (fun _ i _ => (intOf i).toNat)
  case atStart => exact ⟨n, [], l1, s1, rfl, World.ownsRow_nil _ _ _ _, by simpa using k1, hl1, rfl, hg1, below_turn (below_two _) ht1 (Nat.le_refl _) (by simp), hw1⟩
  case round =>
    obtain ⟨m, vs, l, sh, rfl, hown, hm, hll, hT, hg, hb, hz⟩ := hrel
    have HT := Lib.hid hT
    clear hT
    obtain ⟨d0, d1, _, _, _⟩ := hg.two
    by_cases hsh : sh = true
    · subst hsh
      have HE : Hid (valsR n l1 s1 = (vs, l, true)) := Lib.hid (by rw [← HT.out]; cases m <;> simp [valsR])
      by_cases hm0 : 0 < m
      all_goals
        go_wp2
        go_quiet (fail)
        go_wp2
        go_ret2
        rw [HE.out]
        exact ⟨_, rfl, hown, below_drewN hb _⟩
    · have hsf : sh = false := by simpa using hsh
      subst hsf
      clear hsh
      by_cases hm0 : 0 < m
      · obtain ⟨m, rfl⟩ : ∃ m', m = m' + 1 := ⟨m - 1, by omega⟩
        have HN : Hid ((valsR (m + 1) l false) = ((valR l false).1 :: (valsR m (valR l false).2.1 (valR l false).2.2).1, (valsR m (valR l false).2.1 (valR l false).2.2).2)) := Lib.hid (by rw [valsR]; simp)
        have HL := Lib.hid (Nat.le_trans (valR_len l false) hll)
        have C2 := Lib.hid (value_any l false w.heap.size wr hll hg)
        generalize valR l false = a at *
        obtain ⟨u, l', s'⟩ := a
        dsimp only at HN HL C2
        go_wp2_with fail
        refine (C2.out).mono ?_
        rintro e w2 ⟨rfl, hg2, ht2⟩
        have hown2 := hown.kept ht2 (.inr (by intro e; have := (hown.lt _ e).1; omega))
        have z2 := ht2.size
        go_wp2_with (at_builtin; refine wpList_app rfl (.tmp 26) (.tmp 28) elVal rfl (hown2.alloc _) rfl rfl (by simp) (by simp) rfl (by unfold maxLen; omega) (by omega) (by first | omega | (simp; omega)) ?_; intro v3 w3 hown3 hl3 hat3)
        have hg3 : Blk w3 w.heap.size 46 #[.string (bs l'), .bool s'] := (hl3.blk _ (by rw [World.size_alloc]; omega) (fun e => by have := (hown.lt _ e).1; omega)).trans (hg2.alloc _)
        have hz3 := hl3.below.size
        simp only [World.size_alloc] at hz3
        go_roundw
        case rel => exact ⟨m, vs ++ [u], l', s', by go_num, by rw [cellsV_snoc]; simpa using hown3, by simp; omega, HL.out, by rw [← HT.out, HN.out]; simp, hg3, (((below_turn hb ht2 (Nat.le_refl _) (by omega)).alloc (by omega) _).trans (hl3.below.mono (by omega))), by omega⟩
        case measure => simp [intOf]
      · obtain rfl : m = 0 := by omega
        have HE : Hid (valsR n l1 s1 = (vs, l, false)) := Lib.hid (by rw [← HT.out]; simp [valsR])
        go_wp2
        go_quiet (fail)
        go_wp2
        go_ret2
        rw [HE.out]
        refine ⟨_, ?_, hown, below_drewN hb _⟩
        show Ending.returned (.tuple #[_, .bool (bs l).toList.isEmpty]) = _
        rw [bs_toList]
        rfl

def DecodePost (T : List Vl × Int) (w : World) (e : Ending) (w' : World) : Prop :=
  ∃ v, e = .returned (.tuple #[v, .int .i64 T.2]) ∧ w'.ownsRow (w.heap.size + 1) 37 3 v T.1.length (cellsV T.1) ∧ Below w.heap.size w w'
/-- texts of decoded values are no longer than what was decoded -/
theorem valR_text (l : List UInt8) (sh : Bool) : (valR l sh).1.s.size ≤ l.length := by
  have h1 := oneR_len l sh
  unfold valR
  simp only
  split
  · simp
  split
  · simp
  split
  · rw [bs_size]
    have h2 := oneR_len (oneR l sh).2.1 (oneR l sh).2.2
    unfold takeR
    split
    · simp
    · simp; omega
  split
  · simp
  · simp
theorem valsR_text (n : Nat) : ∀ (l : List UInt8) (sh : Bool), ∀ v ∈ (valsR n l sh).1, v.s.size ≤ l.length := by
  induction n with
  | zero => intro l sh v hv; simp [valsR] at hv
  | succ n ih =>
    intro l sh v hv
    rw [valsR] at hv
    split at hv
    · simp at hv
    · rcases List.mem_cons.1 hv with rfl | hv
      · exact valR_text l sh
      · exact Nat.le_trans (ih _ _ v hv) (valR_len l sh)
theorem decT_text (s : ByteArray) : ∀ v ∈ (decT s).1, v.s.size ≤ s.size := by
  intro v hv
  have h := valsR_text _ _ _ v hv
  have h1 := oneR_len s.data.toList false
  simp only [Array.length_toList] at h1
  exact Nat.le_trans h h1
set_option maxHeartbeats 2000000 in
theorem decode_any (s : ByteArray) (w : World) (hs : s.size ≤ maxLen) :
    Calls Try.prog 6 #[.string s] w (DecodePost (decodeS s) w) := by
  have hs' : s.size ≤ 9223372036854775807 := by unfold maxLen at hs; omega
  have HT := Lib.hid (decT_text s)
  have HV := Lib.hid (values_any s w hs')
  have HD : Hid (decodeS s = (if (!(decT s).2.2 && (decT s).2.1.isEmpty) = true then (if rightsE (decT s).1 = 0 then ((decT s).1, 0) else ([], rightsE (decT s).1)) else ([], 1))) := Lib.hid rfl
  generalize decT s = T at *
  obtain ⟨vs, l, sh⟩ := T
  dsimp only at HT HV HD
  go_enter Try.func6, Try.ntmps6
  go_wp2_with fail
  refine HV.out.mono ?_
  rintro e w1 ⟨v, rfl, hown, hb⟩
  dsimp only at hown ⊢
  obtain ⟨A, c, rfl, hrd, hnm⟩ := rd_of_own hown
  have HR := Lib.hid (rights_any vs A vs.length c w1 hrd hnm (fun v hv => Nat.le_trans (HT.out v hv) hs))
  have hz := hb.size
  by_cases hok : (!sh && l.isEmpty) = true
  · have HO := Lib.hid hok
    rw [hok]
    rw [if_pos hok] at HD
    clear hok
    by_cases hr : rightsE vs = 0
    · rw [if_pos hr] at HD
      rw [hr] at HR
      clear hr
      go_wp2_with fail
      refine HR.out.mono ?_
      rintro e w2 ⟨rfl, hb2⟩
      go_wp2_with fail
      go_ret2
      rw [HD.out]
      exact ⟨_, rfl, own_below hown hb2, hb.trans (hb2.mono hz)⟩
    · have hr' : (rightsE vs != 0) = true := by simpa using hr
      rw [if_neg hr] at HD
      clear hr
      go_wp2_with fail
      refine HR.out.mono ?_
      rintro e w2 ⟨rfl, hb2⟩
      go_wp2_with fail
      go_ret2
      rw [HD.out]
      exact ⟨_, rfl, World.ownsRow_nil _ _ _ _, hb.trans (hb2.mono hz)⟩
  · have hof : (!sh && l.isEmpty) = false := by simpa using hok
    rw [if_neg hok] at HD
    rw [hof]
    clear hok hof
    go_wp2_with fail
    go_ret2
    rw [HD.out]
    exact ⟨_, rfl, World.ownsRow_nil _ _ _ _, hb⟩
end Go.Proofs.Ytkgaggbmlghpbaa
