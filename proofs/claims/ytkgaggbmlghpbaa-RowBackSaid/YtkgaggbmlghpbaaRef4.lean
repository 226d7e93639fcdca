/- The reference's values of bytes. -/
import Derived.Test.YtkgaggbmlghpbaaRow5
import Derived.Test.YtkgaggbmlghpbaaRef1
import Derived.BigRegion
import Derived.StillTailTactics
namespace Go.Proofs.Ytkgaggbmlghpbaa
open Go.RowKit
set_option maxRecDepth 100000 in
set_option maxHeartbeats 4000000 in
theorem rdecode_any (s : ByteArray) (w : World) (hs : s.size ≤ maxLen) :
    Calls Try.prog 9 #[.string s] w (DecodePost (decodeS s) w) := by
  have hs' : s.size ≤ 9223372036854775807 := by unfold maxLen at hs; omega
  by_cases hnil : s.size = 0
  · have hl : s.data.toList = [] := List.eq_nil_of_length_eq_zero (by simpa using hnil)
    have h1 : s.toList.isEmpty = true := by rw [ByteArray.toList_eq, hl]; rfl
    have HD : Hid (decodeS s = ([], 1)) := Lib.hid (by simp [decodeS, decT, hl, oneR, valsR])
    clear hl hnil
    go_enter Try.func9, Try.ntmps9
    go_wp2_with fail
    go_ret2
    rw [HD.out]
    exact ⟨_, rfl, World.ownsRow_nil _ _ _ _, Below.refl _ _⟩
  have h0 : 0 < s.size := by omega
  have hne : (!s.toList.isEmpty) = true ∧ s.toList.isEmpty = false := by
    have : s.data.toList ≠ [] := fun e => by
      have : s.data.toList.length = 0 := by rw [e]; rfl
      rw [Array.length_toList] at this
      exact hnil this
    rw [ByteArray.toList_eq]
    simp only [List.isEmpty_eq_false_iff, Bool.not_eq_true']
    exact ⟨this, this⟩
  obtain ⟨hne1, hne2⟩ := hne
  have hD := drop_at s 0 h0
  have hstart : ([] ++ (valsR s[0].toNat (s.data.toList.drop 1) false).1, (valsR s[0].toNat (s.data.toList.drop 1) false).2) = decT s := by
    have e1 : oneR s.data.toList false = (s[0].toNat, s.data.toList.drop 1, false) := by
      rw [List.drop_zero, Nat.zero_add] at hD
      conv => lhs; rw [hD]
      rfl
    simp [decT, e1]
  have HS := Lib.hid hstart
  have hb0 : (s[0].toNat : Int) ≤ 255 := by have := s[0].toNat_lt; omega
  clear hD hstart hnil
  go_enter Try.func9, Try.ntmps9
  go_wp2_with fail
  go_loopw [4, 5, 6] (fun v p i wr => ∃ (k : Nat) (vs : List Vl) (q : Nat), p = .int .i64 q ∧ k ≤ s[0].toNat ∧ i = .int .i64 k ∧ wr.ownsRow (w.heap.size + 1) 37 3 v vs.length (cellsV vs) ∧ vs.length = k ∧ q ≤ s.size ∧
      (vs ++ (valsR (s[0].toNat - k) (s.data.toList.drop q) false).1, (valsR (s[0].toNat - k) (s.data.toList.drop q) false).2) = decT s ∧ Below w.heap.size w wr) (fun _ _ i _ => 256 - (intOf i).toNat)
  case atStart => exact ⟨0, [], 1, rfl, Nat.zero_le _, rfl, World.ownsRow_nil _ _ _ _, rfl, by omega, HS.out, Below.refl _ _⟩
  case round =>
    obtain ⟨k, vs, q, rfl, hkn, rfl, hown, hvk, hq, hT, hb⟩ := hrel
    have HT := Lib.hid hT
    have HK := Lib.hid hvk
    clear hT HS hvk
    by_cases hm0 : k < s[0].toNat
    · have hm' : s[0].toNat - k = (s[0].toNat - (k + 1)) + 1 := by omega
      have HT := Lib.hid (hm' ▸ HT.out)
      clear hm'
      by_cases hqs : q < s.size
      · have HD := Lib.hid (drop_at s q hqs)
        have hk : (s[q].toNat : Int) ≤ 255 := by have := s[q].toNat_lt; omega
        have hz := hb.size
        have hvl := Nat.le_of_eq HK.out
        have hvl := Nat.le_of_eq HK.out
        by_cases k0 : s[q].toNat ≤ 0
        · have HT2 := Lib.hid (dec_step HT.out (by rw [HD.out]; exact valR_0 _ _ (by omega)))
          go_wp2_with fail
          refine wp_loop_rounds 1 ?_
          rw [rounds_succ]
          go_wp2_with (at_builtin; refine wpList_app rfl (.tmp 100) (.tmp 102) elVal rfl (hown.alloc _) rfl rfl (by simp) (by simp) rfl (by unfold maxLen; omega) (by omega) (by first | omega | (simp; omega)) ?_; intro v3 w3 hown3 hl3 hat3)
          go_roundw
          case rel => exact ⟨k + 1, vs ++ [⟨0, 0, .empty⟩], q + 1, by go_num, by omega, by go_num, own_vals hown3 _ (by rw [show (s[q].toNat : Int) = 0 from by omega]; rfl), by simp [HK.out], by omega, HT2.out, (hb.alloc hz _).trans (hl3.below.mono (by omega))⟩
          case measure => simp [intOf]; omega
        by_cases k4 : 4 ≤ s[q].toNat
        · go_wp2_with fail
          go_ret2
          rw [dec_short HT.out (by rw [HD.out]; exact valR_x _ _ (by omega))]
          exact ⟨_, rfl, World.ownsRow_nil _ _ _ _, hb.alloc hz _⟩

        by_cases k1 : s[q].toNat ≤ 1
        · by_cases hr : s.size < q + 1 + 4
          · go_wp2_with fail
            go_ret2
            rw [dec_short HT.out (by rw [HD.out]; exact valR_1s _ _ (by omega) (by simp; omega))]
            exact ⟨_, rfl, World.ownsRow_nil _ _ _ _, hb.alloc hz _⟩

          · have HT2 := Lib.hid (dec_step HT.out (by rw [HD.out]; exact valR_le4 _ _ (by omega) (by simp; omega)))
            have b9 : decide (s.size ≤ q) = false := by simp; omega
            have b8 : decide ((s.size : Int) - ((q : Int) + 1) < 4) = false := by simp; omega
            have b0 : ((s[q].toNat : Int) == 0) = false := by rw [beq_eq_false_iff_ne]; omega
            have b1 : ((s[q].toNat : Int) == 1) = true := by rw [beq_iff_eq]; omega
            have b2 : ((s[q].toNat : Int) == 2) = false := by rw [beq_eq_false_iff_ne]; omega
            have b3 : ((s[q].toNat : Int) == 3) = false := by rw [beq_eq_false_iff_ne]; omega
            have HG := Lib.hid (get_drop s (q + 1))
            have HLd := Lib.hid (List.drop_drop (i := 4) (j := q + 1) (l := s.data.toList))
            have HL := Lib.hid (leV_step (s.data.toList.drop (q + 1)))
            have HB := Lib.hid (leV_bd (s.data.toList.drop (q + 1)))
            generalize s.data.toList.drop (q + 1) = l at HL HB HG HT2 HLd
            go_wp2_with fail
            have hbx := Blk.fresh wr 37 #[.int .i64 s[q].toNat, .int .i64 0, .string ⟨#[]⟩]
            have hownW := hown.alloc (.cells #[.int .i64 s[q].toNat, .int .i64 0, .string ⟨#[]⟩] 37)
            have hbW := hb.alloc hz (.cells #[.int .i64 s[q].toNat, .int .i64 0, .string ⟨#[]⟩] 37)
            have hne := own_ne hown (Nat.le_refl _)
            generalize (wr.alloc (.cells #[.int .i64 s[q].toNat, .int .i64 0, .string ⟨#[]⟩] 37)) = W at *
            obtain ⟨wo, rfl⟩ : ∃ wo : World, wo = wr := ⟨_, rfl⟩
            go_loopw [9, 10] (fun t i wq => ∃ (j : Nat), j ≤ 4 ∧ i = .int .i64 j ∧ t = .int .i64 (pow256 j) ∧ Blk wq wo.heap.size 37 #[.int .i64 s[q].toNat, .int .i64 (leV (l.take j)), .string ⟨#[]⟩] ∧
                wq.ownsRow (w.heap.size + 1) 37 3 u4 vs.length (cellsV vs) ∧ Below w.heap.size w wq) (fun _ i _ => 4 - (intOf i).toNat)
            case atStart => exact ⟨0, by omega, rfl, rfl, hbx, hownW, hbW⟩
            case round =>
              clear hbx hownW hbW
              obtain ⟨j, hj, rfl, rfl, hbx, hown1, hb1⟩ := hrel
              obtain ⟨c0, c1, c2, f0, f1, f2, zz⟩ := hbx.three
              by_cases hj4 : j < 4
              · obtain ⟨t1, t2⟩ := pow256_bd j (by omega)
                obtain ⟨n1, n2⟩ := HB.out j
                have hqr : q + 1 + j < s.size := by omega
                have hc : (s[q + 1 + j].toNat : Int) ≤ 255 := by have := s[q + 1 + j].toNat_lt; omega
                have HL2 := Lib.hid (HL.out j _ (HG.out j hqr))
                have hm := mul_bd (s[q + 1 + j].toNat : Int) (pow256 j) (by omega) hc t1 t2
                have hT := Lib.hid (show pow256 (j + 1) = pow256 j * 256 by rw [pow256]; omega)
                generalize pow256 j = T at *
                generalize leV (l.take j) = N at *
                have hw0 : IntKind.i64.wrap ((q : Int) + 1 + j) = q + 1 + j := IntWalk.i64_in _ (by omega)
                have hw1 : IntKind.i64.wrap (s[q + 1 + j].toNat : Int) = s[q + 1 + j].toNat := IntWalk.i64_in _ (by omega)
                have hw2 : IntKind.i64.wrap (s[q + 1 + j].toNat * T) = s[q + 1 + j].toNat * T := IntWalk.i64_in _ (by omega)
                have hw3 : IntKind.i64.wrap (N + s[q + 1 + j].toNat * T) = N + s[q + 1 + j].toNat * T := IntWalk.i64_in _ (by omega)
                have hw4 : ((q : Int) + 1 + j).toNat = q + 1 + j := by omega
                have hw5 : (0 : Int) ≤ (q : Int) + 1 + j := by omega
                have hw6 : ((q : Int) + 1 + j) < (s.size : Int) := by omega
                go_wp2_with fail
                go_still_tail 12, (by kernel_rfl)
                change wpList _ _ _ _ _ wr.drew
                go_wp2_with fail
                go_roundw
                case rel => exact ⟨j + 1, by omega, by go_num, by rw [hT.out], by rw [HL2.out]; exact hbx.put 1 _, (own_set hown1 (p := ⟨wo.heap.size, 1, none⟩) hne _).drew, (hb1.setCell (p := ⟨wo.heap.size, 1, none⟩) hz _).drew⟩
                case measure => simp [intOf]; omega
              · obtain rfl : j = 4 := by omega
                obtain ⟨n1, n2⟩ := HB.out 4
                simp only [pow256] at n2
                generalize leV (l.take 4) = N at *
                have hownN := own_set hown1 (p := ⟨wo.heap.size, 1, none⟩) hne (.int .i64 (N - 999999999))
                go_wp2_with (at_builtin; refine wpList_app rfl (.tmp 100) (.tmp 102) elVal rfl hownN rfl rfl (by simp) (by simp) rfl (by unfold maxLen; omega) (by omega) (by first | omega | (simp; omega)) ?_; intro v3 w3 hown3 hl3 hat3)
                go_roundw
                case rel => exact ⟨k + 1, vs ++ [⟨1, N - 999999999, .empty⟩], q + 1 + 4, by go_num, by omega, by go_num, own_vals hown3 _ (by rw [show (s[q].toNat : Int) = 1 from by omega]; rfl), by simp [HK.out], by omega, by rw [← HT2.out, HLd.out], (hb1.setCell (p := ⟨wo.heap.size, 1, none⟩) hz _).trans (hl3.below.mono (by omega))⟩
                case measure => simp [intOf]; omega
        by_cases k2 : s[q].toNat ≤ 2
        · by_cases hr : s.size ≤ q + 1
          · go_wp2_with fail
            go_ret2
            rw [dec_short HT.out (by rw [HD.out, drop_off s (q + 1) (by omega)]; exact valR_2n _ (by omega))]
            exact ⟨_, rfl, World.ownsRow_nil _ _ _ _, hb.alloc hz _⟩

          · have hq1 : q + 1 < s.size := by omega
            have HD1 := Lib.hid (drop_at s (q + 1) hq1)
            have hc : (s[q + 1].toNat : Int) ≤ 255 := by have := s[q + 1].toNat_lt; omega
            have b9 : decide (s.size ≤ q) = false := by simp; omega
            have b7 : decide ((s.size : Int) ≤ (q : Int) + 1) = false := by simp; omega
            have b6 : ((s[q].toNat : Int) != 2) = false := by simp; omega
            have b0 : ((s[q].toNat : Int) == 0) = false := by rw [beq_eq_false_iff_ne]; omega
            have b1 : ((s[q].toNat : Int) == 1) = false := by rw [beq_eq_false_iff_ne]; omega
            have b2 : ((s[q].toNat : Int) == 2) = true := by rw [beq_iff_eq]; omega
            have b3 : ((s[q].toNat : Int) == 3) = false := by rw [beq_eq_false_iff_ne]; omega
            by_cases hr2 : s.size < q + 1 + 1 + s[q + 1].toNat
            · go_wp2_with fail
              go_ret2
              rw [dec_short HT.out (by rw [HD.out, HD1.out]; exact valR_2s _ _ _ (by omega) (by simp; omega))]
              exact ⟨_, rfl, World.ownsRow_nil _ _ _ _, hb.alloc hz _⟩
            · have b8 : decide ((s.size : Int) - ((q : Int) + 1 + 1) < (s[q + 1].toNat : Int)) = false := by simp; omega
              have HT2 := Lib.hid (dec_step HT.out (by rw [HD.out, HD1.out]; exact valR_2 _ _ _ (by omega) (by simp; omega)))
              go_wp2_with fail
              go_loop [10] (fun i => ∃ j : Nat, j ≤ s[q + 1].toNat ∧ i = .int .i64 j) (fun i => s[q + 1].toNat - (intOf i).toNat)
              case atStart => exact ⟨0, Nat.zero_le _, rfl⟩
              case round =>
                obtain ⟨j, hj, rfl⟩ := hrel
                by_cases hlt : j < s[q + 1].toNat
                · go_wp2_with fail
                  go_round
                  case rel => exact ⟨j + 1, by omega, by go_num⟩
                  case measure => simp [intOf]; omega
                · have hex := extract_mid s (q + 1 + 1) s[q + 1].toNat
                  have HX := Lib.hid hex
                  clear hex
                  have hsl : ∀ W : World, (Instr.slice 9 (.string s) (some (.int .i64 ((q : Int) + 1 + 1))) (some (.int .i64 ((q : Int) + 1 + 1 + s[q + 1].toNat))) none).run Try.prog W = .ok (.string (s.extract (q + 1 + 1) (q + 1 + 1 + s[q + 1].toNat))) W := fun W => by
                    rw [run_slice_string W 9 s .i64 .i64 _ _ Try.underlying9 (by omega) (by omega) (by omega)]
                    rw [show ((q : Int) + 1 + 1).toNat = q + 1 + 1 from by omega, show ((q : Int) + 1 + 1 + s[q + 1].toNat).toNat = q + 1 + 1 + s[q + 1].toNat from by omega]
                  go_wp2_with (at_builtin; refine wpList_app rfl (.tmp 100) (.tmp 102) elVal rfl (hown.alloc _) rfl rfl (by simp) (by simp) rfl (by unfold maxLen; omega) (by omega) (by first | omega | (simp; omega)) ?_; intro v3 w3 hown3 hl3 hat3)
                  go_roundw
                  case rel => exact ⟨k + 1, vs ++ [⟨2, 0, bs ((s.data.toList.drop (q + 1 + 1)).take s[q + 1].toNat)⟩], q + 1 + 1 + s[q + 1].toNat, by go_num, by omega, by go_num, own_vals hown3 _ (by rw [show (s[q].toNat : Int) = 2 from by omega, ← HX.out]), by simp [HK.out], by omega, by rw [← HT2.out, List.drop_drop], (hb.alloc hz _).trans (hl3.below.mono (by omega))⟩
                  case measure => simp [intOf]; omega
        · by_cases hr : s.size ≤ q + 1
          · go_wp2_with fail
            go_ret2
            rw [dec_short HT.out (by rw [HD.out, drop_off s (q + 1) (by omega)]; exact valR_3n _ (by omega))]
            exact ⟨_, rfl, World.ownsRow_nil _ _ _ _, hb.alloc hz _⟩

          · have HT2 := Lib.hid (dec_step HT.out (by rw [HD.out]; exact valR_le1 _ _ (by omega) (by simp; omega)))
            have b9 : decide (s.size ≤ q) = false := by simp; omega
            have b8 : decide ((s.size : Int) - ((q : Int) + 1) < 1) = false := by simp; omega
            have b0 : ((s[q].toNat : Int) == 0) = false := by rw [beq_eq_false_iff_ne]; omega
            have b1 : ((s[q].toNat : Int) == 1) = false := by rw [beq_eq_false_iff_ne]; omega
            have b2 : ((s[q].toNat : Int) == 2) = false := by rw [beq_eq_false_iff_ne]; omega
            have b3 : ((s[q].toNat : Int) == 3) = true := by rw [beq_iff_eq]; omega
            have HG := Lib.hid (get_drop s (q + 1))
            have HLd := Lib.hid (List.drop_drop (i := 1) (j := q + 1) (l := s.data.toList))
            have HL := Lib.hid (leV_step (s.data.toList.drop (q + 1)))
            have HB := Lib.hid (leV_bd (s.data.toList.drop (q + 1)))
            generalize s.data.toList.drop (q + 1) = l at HL HB HG HT2 HLd
            go_wp2_with fail
            have hbx := Blk.fresh wr 37 #[.int .i64 s[q].toNat, .int .i64 0, .string ⟨#[]⟩]
            have hownW := hown.alloc (.cells #[.int .i64 s[q].toNat, .int .i64 0, .string ⟨#[]⟩] 37)
            have hbW := hb.alloc hz (.cells #[.int .i64 s[q].toNat, .int .i64 0, .string ⟨#[]⟩] 37)
            have hne := own_ne hown (Nat.le_refl _)
            generalize (wr.alloc (.cells #[.int .i64 s[q].toNat, .int .i64 0, .string ⟨#[]⟩] 37)) = W at *
            obtain ⟨wo, rfl⟩ : ∃ wo : World, wo = wr := ⟨_, rfl⟩
            go_loopw [9, 10] (fun t i wq => ∃ (j : Nat), j ≤ 1 ∧ i = .int .i64 j ∧ t = .int .i64 (pow256 j) ∧ Blk wq wo.heap.size 37 #[.int .i64 s[q].toNat, .int .i64 (leV (l.take j)), .string ⟨#[]⟩] ∧
                wq.ownsRow (w.heap.size + 1) 37 3 u4 vs.length (cellsV vs) ∧ Below w.heap.size w wq) (fun _ i _ => 1 - (intOf i).toNat)
            case atStart => exact ⟨0, by omega, rfl, rfl, hbx, hownW, hbW⟩
            case round =>
              clear hbx hownW hbW
              obtain ⟨j, hj, rfl, rfl, hbx, hown1, hb1⟩ := hrel
              obtain ⟨c0, c1, c2, f0, f1, f2, zz⟩ := hbx.three
              by_cases hj4 : j < 1
              · obtain ⟨t1, t2⟩ := pow256_bd j (by omega)
                obtain ⟨n1, n2⟩ := HB.out j
                have hqr : q + 1 + j < s.size := by omega
                have hc : (s[q + 1 + j].toNat : Int) ≤ 255 := by have := s[q + 1 + j].toNat_lt; omega
                have HL2 := Lib.hid (HL.out j _ (HG.out j hqr))
                have hm := mul_bd (s[q + 1 + j].toNat : Int) (pow256 j) (by omega) hc t1 t2
                have hT := Lib.hid (show pow256 (j + 1) = pow256 j * 256 by rw [pow256]; omega)
                generalize pow256 j = T at *
                generalize leV (l.take j) = N at *
                have hw0 : IntKind.i64.wrap ((q : Int) + 1 + j) = q + 1 + j := IntWalk.i64_in _ (by omega)
                have hw1 : IntKind.i64.wrap (s[q + 1 + j].toNat : Int) = s[q + 1 + j].toNat := IntWalk.i64_in _ (by omega)
                have hw2 : IntKind.i64.wrap (s[q + 1 + j].toNat * T) = s[q + 1 + j].toNat * T := IntWalk.i64_in _ (by omega)
                have hw3 : IntKind.i64.wrap (N + s[q + 1 + j].toNat * T) = N + s[q + 1 + j].toNat * T := IntWalk.i64_in _ (by omega)
                have hw4 : ((q : Int) + 1 + j).toNat = q + 1 + j := by omega
                have hw5 : (0 : Int) ≤ (q : Int) + 1 + j := by omega
                have hw6 : ((q : Int) + 1 + j) < (s.size : Int) := by omega
                go_wp2_with fail
                go_still_tail 12, (by kernel_rfl)
                change wpList _ _ _ _ _ wr.drew
                go_wp2_with fail
                go_roundw
                case rel => exact ⟨j + 1, by omega, by go_num, by rw [hT.out], by rw [HL2.out]; exact hbx.put 1 _, (own_set hown1 (p := ⟨wo.heap.size, 1, none⟩) hne _).drew, (hb1.setCell (p := ⟨wo.heap.size, 1, none⟩) hz _).drew⟩
                case measure => simp [intOf]; omega
              · obtain rfl : j = 1 := by omega
                obtain ⟨n1, n2⟩ := HB.out 1
                simp only [pow256] at n2
                generalize leV (l.take 1) = N at *
                have hownN := hown1
                go_wp2_with (at_builtin; refine wpList_app rfl (.tmp 100) (.tmp 102) elVal rfl hownN rfl rfl (by simp) (by simp) rfl (by unfold maxLen; omega) (by omega) (by first | omega | (simp; omega)) ?_; intro v3 w3 hown3 hl3 hat3)
                go_roundw
                case rel => exact ⟨k + 1, vs ++ [⟨3, N, .empty⟩], q + 1 + 1, by go_num, by omega, by go_num, own_vals hown3 _ (by rw [show (s[q].toNat : Int) = 3 from by omega]; rfl), by simp [HK.out], by omega, by rw [← HT2.out, HLd.out], hb1.trans (hl3.below.mono (by omega))⟩
                case measure => simp [intOf]; omega
      · go_wp2_with fail
        go_ret2
        rw [dec_short HT.out (by rw [drop_off s q hqs]; exact valR_nil)]
        exact ⟨_, rfl, World.ownsRow_nil _ _ _ _, hb⟩
    · have hkn' : k = s[0].toNat := by omega
      have HE : Hid (decT s = (vs, s.data.toList.drop q, false)) := Lib.hid (by rw [← HT.out, hkn', Nat.sub_self]; simp [valsR])
      have hle : decide (k < s[0].toNat) = false := by simp; omega
      by_cases hqs : q < s.size
      · have HD : Hid (decodeS s = ([], 1)) := Lib.hid (by simp only [decodeS, HE.out]; rw [drop_at s q hqs]; simp)
        clear hkn'
        go_wp2_with fail
        go_ret2
        rw [HD.out]
        exact ⟨_, rfl, World.ownsRow_nil _ _ _ _, hb⟩
      · have HD : Hid (decodeS s = if rightsE vs = 0 then (vs, 0) else ([], rightsE vs)) := Lib.hid (by simp only [decodeS, HE.out]; rw [drop_off s q hqs]; simp)
        obtain ⟨A, c, rfl, hrd, hnm⟩ := rd_of_own hown
        have htx : ∀ v ∈ vs, v.s.size ≤ maxLen := fun v hv => Nat.le_trans (decT_text s v (by rw [HE.out]; exact hv)) hs
        have HR := Lib.hid (rchecks_any vs A vs.length c wr hrd hnm htx)
        have hz := hb.size
        clear hkn' htx
        by_cases hr : rightsE vs = 0
        · have hD := HD.out
          rw [if_pos hr] at hD
          have HD := Lib.hid hD
          rw [hr] at HR
          clear hr hD
          go_wp2_with fail
          refine HR.out.mono ?_
          rintro e w2 ⟨rfl, hb2⟩
          go_wp2_with fail
          go_ret2
          rw [HD.out]
          exact ⟨_, rfl, own_below hown hb2, hb.trans (hb2.mono hz)⟩
        · have hr' : (rightsE vs != 0) = true := by simpa using hr
          have hD := HD.out
          rw [if_neg hr] at hD
          have HD := Lib.hid hD
          clear hr hD
          go_wp2_with fail
          refine HR.out.mono ?_
          rintro e w2 ⟨rfl, hb2⟩
          go_wp2_with fail
          go_ret2
          rw [HD.out]
          exact ⟨_, rfl, World.ownsRow_nil _ _ _ _, hb.trans (hb2.mono hz)⟩
end Go.Proofs.Ytkgaggbmlghpbaa
