/- slices.Repeat of one text. -/
import Derived.Test.YtoghgjobfcnneaaHeld
import Derived.Test.YtoghgjobfcnneaaDkClone
import Derived.Test.YtoghgjobfcnneaaShelf
import Derived.Laws.CopyOwn
namespace Go.Proofs.Ytoghgjobfcnneaa
open Go.RowKit
def repC (s : ByteArray) (m k : Nat) : List Value := List.replicate m (.string s) ++ List.replicate k (.string ⟨#[]⟩)
theorem repC_len (s : ByteArray) (m k : Nat) : (repC s m k).length = m + k := by simp [repC]
theorem rep_splice (s : ByteArray) (m k j : Nat) (_hj : j ≤ k) : splice (repC s m k) m (List.replicate j (.string s)) = repC s (m + j) (k - j) := by
  unfold splice repC
  rw [List.take_left' (by simp), List.length_replicate, ← List.drop_drop, List.drop_left' (by simp), List.drop_replicate, ← List.append_assoc, List.replicate_append_replicate]
theorem rep_one (s : ByteArray) (j : Nat) : ∀ v ∈ List.replicate j (Value.string s), v.oneCell' = true := fun v hv => by rw [(List.mem_replicate.1 hv).2]; rfl
theorem rep_at (s : ByteArray) (m k j : Nat) (hj : j ≤ m) (g : Nat) (W : World) (hB : Blk W g 9 (repC s m k).toArray) : ∀ i v, (List.replicate j (Value.string s))[i]? = some v → W.cell? ((⟨g, 0, none⟩ : Addr).add i) = some v := fun i v hv => by
  have hadd : (⟨g, 0, none⟩ : Addr).add i = ⟨g, i, none⟩ := by unfold Addr.add; split <;> simp_all
  rw [hadd, hB.cell i]
  obtain ⟨hi, rfl⟩ := List.getElem?_eq_some_iff.1 hv
  rw [List.length_replicate] at hi
  unfold repC
  simp [List.getElem?_append, show i < m by omega]
theorem infoStr : (Try.prog.info? 9).map (·.size) = some 1 := by kernel_rfl
theorem make_rep (s : ByteArray) (N : Nat) (h2 : N ≤ 400) {ops : Array Oper} {rest : List Oper} {o : Oper} {a : Act} {Q : Exit → Act → World → Prop} (W : World) (hg : o.guard = none) (l c : Operand) (ho : o.op = Op.makeSlice 22 l c) (hl : a.eval l = .int .i64 N) (hc : a.eval c = .int .i64 N)
    (hK : ∀ w', Blk w' W.heap.size 9 (repC s 0 N).toArray → Below W.heap.size W w' → wpList Try.prog ops Q rest (a.put o.dst (.slice (some ⟨W.heap.size, 0, none⟩) N N)) w') : wpList Try.prog ops Q (o :: rest) a W := by
  obtain ⟨i0, hi, hz0, hz1, hz2⟩ := elStr.hi
  refine wpList_make_full W hg l c 22 ho W.heap.size 9 i0 _ 1 elStr.ht hi hz0 hz1 .i64 .i64 N N N hl hc rfl rfl (by rw [hz2]; omega) (by unfold maxLen; omega) (Nat.le_refl _) ?_
  intro w' hown hgr
  refine hK w' ?_ ⟨hgr.os, hgr.tape, hgr.output, hgr.size, fun k hk => hgr.block k hk (by simp)⟩
  rcases hown.2 with ⟨h, _⟩ | ⟨g, cap, cur, h, _, hh, _, _, hcs, ht⟩
  · cases h
  · simp only [Value.slice.injEq, Option.some.injEq, Addr.mk.injEq, and_true, true_and] at h
    obtain ⟨rfl, rfl⟩ := h
    have : cur = (repC s 0 N).toArray := by
      apply Array.toList_inj.1
      rw [List.take_of_length_le (by rw [Array.length_toList, hcs]; exact Nat.le_refl _)] at ht
      rw [ht, Nat.mul_one]
      unfold repC
      apply List.ext_getElem
      · simp [size_madeCells]
      · intro n h1 h2
        simp [madeCells, Value.cells, Nat.mod_one]
    rw [← this]
    exact hh
set_option maxRecDepth 20000 in
set_option maxHeartbeats 300000 in
theorem repeatS_any (s : ByteArray) (b N : Nat) (w : World) (hb : Blk w b 9 #[.string s]) (h1 : 1 ≤ N) (h2 : N ≤ 400) :
    Calls Try.prog 26 #[.slice (some ⟨b, 0, none⟩) 1 1, .int .i64 N] w fun e w' => ∃ v, e = .returned v ∧ w'.ownsRow w.heap.size 9 1 v N (List.replicate N (.string s)) ∧ Below w.heap.size w w' := by
  have c0 := hb.cell 0
  have hbl := hb.lt
  have HM := Lib.hid (show ∀ W, Calls Try.prog 45 #[.int .u64 1, .int .u64 N] W fun e w' => e = .returned (.tuple #[.int .u64 0, .int .u64 N]) ∧ W = w' from fun W => by
    have h := Try.bits_Mul 1 N (by omega) (by omega) W
    rw [Nat.one_mul, Nat.div_eq_of_lt (by omega), Nat.mod_eq_of_lt (by omega)] at h
    exact h.mono fun _ _ ⟨a, b⟩ => ⟨a, b.symm⟩)
  have hN0 : decide ((N : Int) < 0) = false := by simp
  go_enter Try.func26, Try.ntmps26
  go_wp2_with fail
  refine (HM.out _).mono ?_
  rintro e w1 ⟨rfl, rfl⟩
  have HS := Lib.hid (rep_splice s 0 N 1 h1)
  go_wp2_with (first
    | (at_make; refine make_rep s N h2 _ rfl _ _ rfl rfl rfl ?_; intro w2 hB hb2; have d0 := (hb.below hb2 hbl).cell 0)
    | ((with_reducible show wpList _ _ _ (⟨some 33, _, _, _, _, _⟩ :: _) _ _); refine wpList_copy_splice rfl (.tmp 31) (.tmp 32) 22 22 rfl 9 elStr.ht infoStr (some ⟨w.heap.size, 0, none⟩) (some ⟨b, 0, none⟩) N N 1 1 rfl rfl w.heap.size 0 (repC s 0 N) 9 hB (List.replicate 1 (.string s)) (Nat.min_eq_left h1).symm (fun _ => ⟨rfl, _, rfl, fun j v hv => by match j, hv with | 0, hv => exact d0.trans hv⟩) (by rw [repC_len]; simp; omega) (rep_one s 1) w.heap.size w hb2 (Nat.le_refl _) ?_; intro w3 hg3 hb3))
  rw [HS.out] at hg3
  have hB3 : Blk w3 w.heap.size 9 (repC s 1 (N - 1)).toArray := by have := hg3.out; rwa [Nat.zero_add] at this
  clear hg3 HS d0 hB hb2
  go_loopg [8] (N - 1) (fun u i wr => ∃ m : Nat, 1 ≤ m ∧ m ≤ N ∧ i = .int .i64 m ∧ u = N - m ∧ Blk wr w.heap.size 9 (repC s m (N - m)).toArray ∧ Below w.heap.size w wr)
  case atStart => exact ⟨1, Nat.le_refl _, h1, rfl, rfl, hB3, hb3⟩
  case round =>
    obtain ⟨m, hm1, hm2, rfl, rfl, hBr, hbr⟩ := hrel
    by_cases hlt : m < N
    · obtain ⟨j, hj⟩ : ∃ j, j = Nat.min m (N - m) := ⟨_, rfl⟩
      have hj1 : 1 ≤ j := by rw [hj]; exact Nat.le_min.2 ⟨hm1, by omega⟩
      have hj2 : j ≤ N - m := by rw [hj]; exact Nat.min_le_right _ _
      have hj3 : j ≤ m := by rw [hj]; exact Nat.min_le_left _ _
      have HJ := Lib.hid hj
      have HS := Lib.hid (rep_splice s m (N - m) j hj2)
      have hwr : IntKind.i64.wrap ((m : Int) + (j : Int)) = (m : Int) + (j : Int) := by rw [IntKind.wrap_i64]; omega
      have hNm : ¬ N = m := by omega
      clear hj
      go_wp2_with fail
      go_region_held3 (fun W => Below w.heap.size w W) (first | exact hbr.drew | assumption | exact hb4)
        (first | (refine step_copy_splice rfl (.tmp 41) (.tmp 44) 22 22 rfl 9 elStr.ht infoStr (some ⟨w.heap.size, m, none⟩) (some ⟨w.heap.size, 0, none⟩) (N - m) (N - m) m N (by simp [Act.eval]) (by simp [Act.eval]) w.heap.size m (repC s m (N - m)) 9 hBr (List.replicate j (.string s)) (by rw [List.length_replicate]; exact HJ.out) (fun _ => ⟨rfl, _, rfl, rep_at s m (N - m) j hj3 w.heap.size _ hBr⟩) (by rw [repC_len, List.length_replicate]; omega) (rep_one s j) w.heap.size w hbr.drew (Nat.le_refl _) ?_; intro w4 hg4 hb4))
      rw [HS.out] at hg4
      go_wp2_with fail
      go_roundg (N - (m + j))
      case rel => exact ⟨m + j, by omega, by omega, by go_num, rfl, by rw [show N - (m + j) = N - m - j by omega]; exact hg4.out, hb4⟩
      case measure => omega
    · obtain rfl : m = N := by omega
      rw [Nat.sub_self] at hBr
      go_wp2_with fail
      go_ret
      exact ⟨_, rfl, ⟨by simp, .inr ⟨w.heap.size, m, _, rfl, Nat.le_refl _, hBr, Nat.le_refl _, by unfold maxLen; omega, by simp [repC], by simp [repC]⟩⟩, hbr⟩
end Go.Proofs.Ytoghgjobfcnneaa
