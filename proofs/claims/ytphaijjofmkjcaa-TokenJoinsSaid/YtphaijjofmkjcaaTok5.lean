/- The scanner: signs; any token. -/
import Derived.Test.YtphaijjofmkjcaaTok4
import Derived.Lib.IndexLaws
namespace Go.Proofs.Ytphaijjofmkjcaa
open Go.RowKit
theorem sign1_mem (x : UInt8) (h : sign1 x = true) : x ∈ [40, 41, 44, 59, 42, 61, 60, 43, 45] := by
  simp only [sign1, decide_eq_true_eq] at h
  obtain ⟨o, ho⟩ := Int.eq_ofNat_of_zero_le h
  exact List.mem_of_getElem? (Lib.indexByte_some ho).1
theorem encode_sign (x : UInt8) (hm : x ∈ [40, 41, 44, 59, 42, 61, 60, 43, 45]) : Utf8.encode (x.toNat : Int) = bs [x] := by
  simp only [List.mem_cons, List.not_mem_nil, or_false] at hm
  rcases hm with rfl | rfl | rfl | rfl | rfl | rfl | rfl | rfl | rfl <;> kernel_rfl
theorem sign1_text (s : ByteArray) (p : Nat) (hp : p < s.size) (h : sign1 s[p] = true) : Utf8.encode (s[p].toNat : Int) = s.extract p (p + 1) := by
  have hm := sign1_mem _ h
  have he : s.extract p (p + 1) = bs [s[p]] := by rw [extract_mid s p 1, drop_at s p hp]; rfl
  rw [he]
  exact encode_sign _ hm
set_option maxHeartbeats 4000000 in
theorem token_bars (s : ByteArray) (p g : Nat) (w : World) (hp : p < s.size) (hs : s.size ≤ 2000) (hg : Blk w g 37 #[.string s, .int .i64 p]) (hl : letterB s[p] = false) (hx : digitB s[p] = false) (h39 : ¬ s[p] = 39) (hb : bars (s[p] :: s.data.toList.drop (p + 1)) = true) :
    Calls Try.prog 14 #[.pointer (some ⟨g, 0, none⟩)] w (TokenPost s p g (tokL s[p] (s.data.toList.drop (p + 1))) w) := by
  have HL := Lib.hid (fun W => letter_any s[p] W)
  rw [hl] at HL
  have HDg := Lib.hid (fun W => digit_any s[p] W)
  rw [hx] at HDg
  have h0 : ((s[p].toNat : Int) == 39) = false := by rw [beq_eq_false_iff_ne]; exact fun h => h39 (UInt8.toNat_inj.1 (by rw [show (39 : UInt8).toNat = 39 from rfl]; omega))
  have hbl : Lib.hasPrefix (s.extract p s.size).data.toList (⟨#[124, 124]⟩ : ByteArray).data.toList = bars (s[p] :: s.data.toList.drop (p + 1)) := by rw [extract_end, bs_data, drop_at s p hp]; rfl
  have HP := Lib.hid (fun W => Try.strings_HasPrefix (s.extract p s.size) ⟨#[124, 124]⟩ W)
  rw [hbl, hb] at HP
  have HT := Lib.hid (show tokL s[p] (s.data.toList.drop (p + 1)) = (4, 2, 0) by rw [tokL, if_neg (by simp [hl]), if_neg (by simp [hx]), if_neg h39, if_pos hb])
  have hb2 := bars_text s p hp hb
  obtain ⟨hp2, hX⟩ := hb2
  have HX := Lib.hid hX
  clear hx hl h39 hb hbl hX
  obtain ⟨c0, c1, f0, f1, hgl⟩ := hg.two
  obtain ⟨r, hr⟩ : ∃ r, r = w.heap.size := ⟨_, rfl⟩
  have hr1 : w.heap.size ≤ r := by omega
  have hr2 : r ≤ w.heap.size := by omega
  have hgr : g < r := by omega
  go_enter Try.func14, Try.ntmps14
  go_wp2_with fail
  go_quiet (fail)
  have hG : Blk (((w.alloc (.cells #[.int .i64 0, .int .i64 0, .string ⟨#[]⟩] 34)).alloc (.cells #[.int .i64 4, .int .i64 p, .string ⟨#[]⟩] 34)).drewN nq) g 37 #[.string s, .int .i64 p] := (hg.alloc (.cells #[.int .i64 0, .int .i64 0, .string ⟨#[]⟩] 34)).alloc (.cells #[.int .i64 4, .int .i64 p, .string ⟨#[]⟩] 34)
  have hR : Blk (((w.alloc (.cells #[.int .i64 0, .int .i64 0, .string ⟨#[]⟩] 34)).alloc (.cells #[.int .i64 4, .int .i64 p, .string ⟨#[]⟩] 34)).drewN nq) w.heap.size 34 #[.int .i64 0, .int .i64 0, .string ⟨#[]⟩] := (Blk.fresh w 34 #[.int .i64 0, .int .i64 0, .string ⟨#[]⟩]).alloc (.cells #[.int .i64 4, .int .i64 p, .string ⟨#[]⟩] 34)
  have hB : Blk (((w.alloc (.cells #[.int .i64 0, .int .i64 0, .string ⟨#[]⟩] 34)).alloc (.cells #[.int .i64 4, .int .i64 p, .string ⟨#[]⟩] 34)).drewN nq) (w.heap.size + 1) 34 #[.int .i64 4, .int .i64 p, .string ⟨#[]⟩] := fresh_two w (.cells #[.int .i64 0, .int .i64 0, .string ⟨#[]⟩] 34) 34 #[.int .i64 4, .int .i64 p, .string ⟨#[]⟩]
  have ht : w.grownBy (((w.alloc (.cells #[.int .i64 0, .int .i64 0, .string ⟨#[]⟩] 34)).alloc (.cells #[.int .i64 4, .int .i64 p, .string ⟨#[]⟩] 34)).drewN nq) (some g) := turn_drewN (turn_alloc (turn_alloc (World.grownBy.refl w (some g)) (.cells #[.int .i64 0, .int .i64 0, .string ⟨#[]⟩] 34)) (.cells #[.int .i64 4, .int .i64 p, .string ⟨#[]⟩] 34)) nq
  generalize ((w.alloc (.cells #[.int .i64 0, .int .i64 0, .string ⟨#[]⟩] 34)).alloc (.cells #[.int .i64 4, .int .i64 p, .string ⟨#[]⟩] 34)).drewN nq = W at *
  rw [← hr] at hR hB ⊢
  clear hr c0 c1 f0 f1 hgl
  obtain ⟨c0, c1, f0, f1, hgl⟩ := hG.two
  obtain ⟨t0, t1, t2, q0, q1, q2, hbl⟩ := hB.three
  obtain ⟨r0, r1, r2, z0, z1, z2, hrl⟩ := hR.three
  go_wp2_with fail
  refine (HL.out _).mono ?_
  rintro e w1 ⟨rfl, rfl⟩
  go_wp2_with fail
  refine (HDg.out _).mono ?_
  rintro e w1 ⟨rfl, rfl⟩
  go_wp2_with fail
  go_quiet ((go_at_call 26; exact Calls.quiet_of_same (HP.out _)))
  go_wp2_with fail
  refine bodyPost_ret (v := .tuple #[.agg #[.int .i64 4, .int .i64 p, .string ⟨#[124, 124]⟩], .int .i64 0]) (by simp [results, Try.results14, go_sem, *]) rfl ?_
  rw [HT.out]
  exact ⟨⟨4, p, ⟨#[124, 124]⟩⟩, p + 2, rfl, hp2, ((((hG.far (p := ⟨r + 1, 2, none⟩) (by simp; omega) _).put 1 _).far (by simp; omega) _).far (by simp; omega) _).far (by simp; omega) _, turn_set (turn_set (turn_set (turn_put (turn_set (turn_drewN ht _) (.inr (by simp; omega)) _) 1 _) (.inr (by simp; omega)) _) (.inr (by simp; omega)) _) (.inr (by simp; omega)) _, rfl, fun _ => ⟨by rw [← HX.out]; rfl, rfl⟩⟩
set_option maxHeartbeats 4000000 in
theorem token_sign (s : ByteArray) (p g : Nat) (w : World) (hp : p < s.size) (hs : s.size ≤ 2000) (hg : Blk w g 37 #[.string s, .int .i64 p]) (hl : letterB s[p] = false) (hx : digitB s[p] = false) (h39 : ¬ s[p] = 39) (hb : bars (s[p] :: s.data.toList.drop (p + 1)) = false) (hs1 : sign1 s[p] = true) :
    Calls Try.prog 14 #[.pointer (some ⟨g, 0, none⟩)] w (TokenPost s p g (tokL s[p] (s.data.toList.drop (p + 1))) w) := by
  have HL := Lib.hid (fun W => letter_any s[p] W)
  rw [hl] at HL
  have HDg := Lib.hid (fun W => digit_any s[p] W)
  rw [hx] at HDg
  have h0 : ((s[p].toNat : Int) == 39) = false := by rw [beq_eq_false_iff_ne]; exact fun h => h39 (UInt8.toNat_inj.1 (by rw [show (39 : UInt8).toNat = 39 from rfl]; omega))
  have hbl : Lib.hasPrefix (s.extract p s.size).data.toList (⟨#[124, 124]⟩ : ByteArray).data.toList = bars (s[p] :: s.data.toList.drop (p + 1)) := by rw [extract_end, bs_data, drop_at s p hp]; rfl
  have HP := Lib.hid (fun W => Try.strings_HasPrefix (s.extract p s.size) ⟨#[124, 124]⟩ W)
  rw [hbl, hb] at HP
  have HT := Lib.hid (show tokL s[p] (s.data.toList.drop (p + 1)) = (4, 1, 0) by rw [tokL, if_neg (by simp [hl]), if_neg (by simp [hx]), if_neg h39, if_neg (by simp [hb]), if_pos hs1])
  obtain ⟨I, hI⟩ : ∃ I, I = Lib.indexByte [40, 41, 44, 59, 42, 61, 60, 43, 45] s[p] := ⟨_, rfl⟩
  have hI2 : 0 ≤ I := by rw [hI]; simpa [sign1] using hs1
  have HI := Lib.hid (fun W => Try.strings_IndexByte ⟨#[40, 41, 44, 59, 42, 61, 60, 43, 45]⟩ (s[p].toNat : Int) W)
  rw [show ((s[p].toNat : Int).toNat.toUInt8) = s[p] from by simp, show (⟨#[40, 41, 44, 59, 42, 61, 60, 43, 45]⟩ : ByteArray).data.toList = [40, 41, 44, 59, 42, 61, 60, 43, 45] from rfl, ← hI] at HI
  clear hI
  have HX := Lib.hid (sign1_text s p hp hs1)
  clear hx hl h39 hb hbl hs1
  obtain ⟨c0, c1, f0, f1, hgl⟩ := hg.two
  obtain ⟨r, hr⟩ : ∃ r, r = w.heap.size := ⟨_, rfl⟩
  have hr1 : w.heap.size ≤ r := by omega
  have hr2 : r ≤ w.heap.size := by omega
  have hgr : g < r := by omega
  go_enter Try.func14, Try.ntmps14
  go_wp2_with fail
  go_quiet (fail)
  have hG : Blk (((w.alloc (.cells #[.int .i64 0, .int .i64 0, .string ⟨#[]⟩] 34)).alloc (.cells #[.int .i64 4, .int .i64 p, .string ⟨#[]⟩] 34)).drewN nq) g 37 #[.string s, .int .i64 p] := (hg.alloc (.cells #[.int .i64 0, .int .i64 0, .string ⟨#[]⟩] 34)).alloc (.cells #[.int .i64 4, .int .i64 p, .string ⟨#[]⟩] 34)
  have hR : Blk (((w.alloc (.cells #[.int .i64 0, .int .i64 0, .string ⟨#[]⟩] 34)).alloc (.cells #[.int .i64 4, .int .i64 p, .string ⟨#[]⟩] 34)).drewN nq) w.heap.size 34 #[.int .i64 0, .int .i64 0, .string ⟨#[]⟩] := (Blk.fresh w 34 #[.int .i64 0, .int .i64 0, .string ⟨#[]⟩]).alloc (.cells #[.int .i64 4, .int .i64 p, .string ⟨#[]⟩] 34)
  have hB : Blk (((w.alloc (.cells #[.int .i64 0, .int .i64 0, .string ⟨#[]⟩] 34)).alloc (.cells #[.int .i64 4, .int .i64 p, .string ⟨#[]⟩] 34)).drewN nq) (w.heap.size + 1) 34 #[.int .i64 4, .int .i64 p, .string ⟨#[]⟩] := fresh_two w (.cells #[.int .i64 0, .int .i64 0, .string ⟨#[]⟩] 34) 34 #[.int .i64 4, .int .i64 p, .string ⟨#[]⟩]
  have ht : w.grownBy (((w.alloc (.cells #[.int .i64 0, .int .i64 0, .string ⟨#[]⟩] 34)).alloc (.cells #[.int .i64 4, .int .i64 p, .string ⟨#[]⟩] 34)).drewN nq) (some g) := turn_drewN (turn_alloc (turn_alloc (World.grownBy.refl w (some g)) (.cells #[.int .i64 0, .int .i64 0, .string ⟨#[]⟩] 34)) (.cells #[.int .i64 4, .int .i64 p, .string ⟨#[]⟩] 34)) nq
  generalize ((w.alloc (.cells #[.int .i64 0, .int .i64 0, .string ⟨#[]⟩] 34)).alloc (.cells #[.int .i64 4, .int .i64 p, .string ⟨#[]⟩] 34)).drewN nq = W at *
  rw [← hr] at hR hB ⊢
  clear hr c0 c1 f0 f1 hgl
  obtain ⟨c0, c1, f0, f1, hgl⟩ := hG.two
  obtain ⟨t0, t1, t2, q0, q1, q2, hbl⟩ := hB.three
  obtain ⟨r0, r1, r2, z0, z1, z2, hrl⟩ := hR.three
  go_wp2_with fail
  refine (HL.out _).mono ?_
  rintro e w1 ⟨rfl, rfl⟩
  go_wp2_with fail
  refine (HDg.out _).mono ?_
  rintro e w1 ⟨rfl, rfl⟩
  go_wp2_with fail
  go_quiet ((go_at_call 26; exact Calls.quiet_of_same (HP.out _)))
  go_wp2_with fail
  refine (HI.out _).mono ?_
  rintro e w1 ⟨rfl, rfl⟩
  go_wp2_with fail
  rw [HX.out]
  refine bodyPost_ret (v := .tuple #[.agg #[.int .i64 4, .int .i64 p, .string (s.extract p (p + 1))], .int .i64 0]) (by simp [results, Try.results14, go_sem, *]) rfl ?_
  rw [HT.out]
  exact ⟨⟨4, p, s.extract p (p + 1)⟩, p + 1, rfl, by omega, ((((hG.far (p := ⟨r + 1, 2, none⟩) (by simp; omega) _).put 1 _).far (by simp; omega) _).far (by simp; omega) _).far (by simp; omega) _, turn_set (turn_set (turn_set (turn_put (turn_set (turn_drewN ht _) (.inr (by simp; omega)) _) 1 _) (.inr (by simp; omega)) _) (.inr (by simp; omega)) _) (.inr (by simp; omega)) _, rfl, fun _ => ⟨rfl, rfl⟩⟩
set_option maxHeartbeats 4000000 in
theorem token_bad (s : ByteArray) (p g : Nat) (w : World) (hp : p < s.size) (_hs : s.size ≤ 2000) (hg : Blk w g 37 #[.string s, .int .i64 p]) (hl : letterB s[p] = false) (hx : digitB s[p] = false) (h39 : ¬ s[p] = 39) (hb : bars (s[p] :: s.data.toList.drop (p + 1)) = false) (hs1 : sign1 s[p] = false) :
    Calls Try.prog 14 #[.pointer (some ⟨g, 0, none⟩)] w (TokenPost s p g (tokL s[p] (s.data.toList.drop (p + 1))) w) := by
  have HL := Lib.hid (fun W => letter_any s[p] W)
  rw [hl] at HL
  have HDg := Lib.hid (fun W => digit_any s[p] W)
  rw [hx] at HDg
  have h0 : ((s[p].toNat : Int) == 39) = false := by rw [beq_eq_false_iff_ne]; exact fun h => h39 (UInt8.toNat_inj.1 (by rw [show (39 : UInt8).toNat = 39 from rfl]; omega))
  have hbl : Lib.hasPrefix (s.extract p s.size).data.toList (⟨#[124, 124]⟩ : ByteArray).data.toList = bars (s[p] :: s.data.toList.drop (p + 1)) := by rw [extract_end, bs_data, drop_at s p hp]; rfl
  have HP := Lib.hid (fun W => Try.strings_HasPrefix (s.extract p s.size) ⟨#[124, 124]⟩ W)
  rw [hbl, hb] at HP
  have HT := Lib.hid (show tokL s[p] (s.data.toList.drop (p + 1)) = (4, 0, 1) by rw [tokL, if_neg (by simp [hl]), if_neg (by simp [hx]), if_neg h39, if_neg (by simp [hb]), if_neg (by simp [hs1])])
  obtain ⟨I, hI⟩ : ∃ I, I = Lib.indexByte [40, 41, 44, 59, 42, 61, 60, 43, 45] s[p] := ⟨_, rfl⟩
  have hI2 : ¬ 0 ≤ I := by rw [hI]; simpa [sign1] using hs1
  have HI := Lib.hid (fun W => Try.strings_IndexByte ⟨#[40, 41, 44, 59, 42, 61, 60, 43, 45]⟩ (s[p].toNat : Int) W)
  rw [show ((s[p].toNat : Int).toNat.toUInt8) = s[p] from by simp, show (⟨#[40, 41, 44, 59, 42, 61, 60, 43, 45]⟩ : ByteArray).data.toList = [40, 41, 44, 59, 42, 61, 60, 43, 45] from rfl, ← hI] at HI
  clear hI
  clear hx hl h39 hb hbl hs1
  obtain ⟨c0, c1, f0, f1, hgl⟩ := hg.two
  obtain ⟨r, hr⟩ : ∃ r, r = w.heap.size := ⟨_, rfl⟩
  have hr1 : w.heap.size ≤ r := by omega
  have hr2 : r ≤ w.heap.size := by omega
  have hgr : g < r := by omega
  go_enter Try.func14, Try.ntmps14
  go_wp2_with fail
  go_quiet (fail)
  have hG : Blk (((w.alloc (.cells #[.int .i64 0, .int .i64 0, .string ⟨#[]⟩] 34)).alloc (.cells #[.int .i64 4, .int .i64 p, .string ⟨#[]⟩] 34)).drewN nq) g 37 #[.string s, .int .i64 p] := (hg.alloc (.cells #[.int .i64 0, .int .i64 0, .string ⟨#[]⟩] 34)).alloc (.cells #[.int .i64 4, .int .i64 p, .string ⟨#[]⟩] 34)
  have hR : Blk (((w.alloc (.cells #[.int .i64 0, .int .i64 0, .string ⟨#[]⟩] 34)).alloc (.cells #[.int .i64 4, .int .i64 p, .string ⟨#[]⟩] 34)).drewN nq) w.heap.size 34 #[.int .i64 0, .int .i64 0, .string ⟨#[]⟩] := (Blk.fresh w 34 #[.int .i64 0, .int .i64 0, .string ⟨#[]⟩]).alloc (.cells #[.int .i64 4, .int .i64 p, .string ⟨#[]⟩] 34)
  have hB : Blk (((w.alloc (.cells #[.int .i64 0, .int .i64 0, .string ⟨#[]⟩] 34)).alloc (.cells #[.int .i64 4, .int .i64 p, .string ⟨#[]⟩] 34)).drewN nq) (w.heap.size + 1) 34 #[.int .i64 4, .int .i64 p, .string ⟨#[]⟩] := fresh_two w (.cells #[.int .i64 0, .int .i64 0, .string ⟨#[]⟩] 34) 34 #[.int .i64 4, .int .i64 p, .string ⟨#[]⟩]
  have ht : w.grownBy (((w.alloc (.cells #[.int .i64 0, .int .i64 0, .string ⟨#[]⟩] 34)).alloc (.cells #[.int .i64 4, .int .i64 p, .string ⟨#[]⟩] 34)).drewN nq) (some g) := turn_drewN (turn_alloc (turn_alloc (World.grownBy.refl w (some g)) (.cells #[.int .i64 0, .int .i64 0, .string ⟨#[]⟩] 34)) (.cells #[.int .i64 4, .int .i64 p, .string ⟨#[]⟩] 34)) nq
  generalize ((w.alloc (.cells #[.int .i64 0, .int .i64 0, .string ⟨#[]⟩] 34)).alloc (.cells #[.int .i64 4, .int .i64 p, .string ⟨#[]⟩] 34)).drewN nq = W at *
  rw [← hr] at hR hB ⊢
  clear hr c0 c1 f0 f1 hgl
  obtain ⟨c0, c1, f0, f1, hgl⟩ := hG.two
  obtain ⟨t0, t1, t2, q0, q1, q2, hbl⟩ := hB.three
  obtain ⟨r0, r1, r2, z0, z1, z2, hrl⟩ := hR.three
  go_wp2_with fail
  refine (HL.out _).mono ?_
  rintro e w1 ⟨rfl, rfl⟩
  go_wp2_with fail
  refine (HDg.out _).mono ?_
  rintro e w1 ⟨rfl, rfl⟩
  go_wp2_with fail
  go_quiet ((go_at_call 26; exact Calls.quiet_of_same (HP.out _)))
  go_wp2_with fail
  refine (HI.out _).mono ?_
  rintro e w1 ⟨rfl, rfl⟩
  go_wp2_with fail
  refine bodyPost_ret (v := .tuple #[.agg #[.int .i64 4, .int .i64 p, .string ⟨#[]⟩], .int .i64 1]) (by simp [results, Try.results14, go_sem, *]) rfl ?_
  rw [HT.out]
  exact ⟨⟨4, p, ⟨#[]⟩⟩, p, rfl, by omega, ((hG.far (p := ⟨r, 0, none⟩) (by simp; omega) _).far (by simp; omega) _).far (by simp; omega) _, turn_set (turn_set (turn_set (turn_drewN ht _) (.inr (by simp; omega)) _) (.inr (by simp; omega)) _) (.inr (by simp; omega)) _, rfl, fun h => by cases h⟩
theorem token_any (s : ByteArray) (p g : Nat) (w : World) (hp : p < s.size) (hs : s.size ≤ 2000) (hg : Blk w g 37 #[.string s, .int .i64 p]) :
    Calls Try.prog 14 #[.pointer (some ⟨g, 0, none⟩)] w (TokenPost s p g (tokL s[p] (s.data.toList.drop (p + 1))) w) := by
  rcases hl : letterB s[p] with _ | _
  · rcases hx : digitB s[p] with _ | _
    · by_cases h39 : s[p] = 39
      · exact token_text s p g w hp hs hg hl hx h39
      · rcases hb : bars (s[p] :: s.data.toList.drop (p + 1)) with _ | _
        · rcases hs1 : sign1 s[p] with _ | _
          · exact token_bad s p g w hp hs hg hl hx h39 hb hs1
          · exact token_sign s p g w hp hs hg hl hx h39 hb hs1
        · exact token_bars s p g w hp hs hg hl hx h39 hb
    · exact token_number s p g w hp hs hg hl hx
  · exact token_word s p g w hp hs hg hl
end Go.Proofs.Ytphaijjofmkjcaa
