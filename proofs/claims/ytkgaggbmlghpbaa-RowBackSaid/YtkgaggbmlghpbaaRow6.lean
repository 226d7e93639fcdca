/- Encode; what must be in any case. -/
import Derived.Test.YtkgaggbmlghpbaaRow5
import Derived.Test.YtkgaggbmlghpbaaRow2
import Derived.Test.YtkgaggbmlghpbaaPlain2
import Derived.Deep.RegionHeld3
namespace Go.Proofs.Ytkgaggbmlghpbaa
open Go.RowKit
def encodeV (vs : List Vl) : ByteArray := if rightsE vs = 0 then bs (encL vs) else bs []
theorem enc_len {v : Vl} (h : v.chk = 0) : v.enc.length ≤ 22 := by
  rcases Vl.right h with rfl | ⟨m, rfl, m1, m2⟩ | ⟨s, rfl, s1, s2⟩ | ⟨m, rfl, m1, m2⟩ <;> simp [Vl.enc, le4]
  exact s1
theorem flat_len (vs : List Vl) (h : ∀ v ∈ vs, v.chk = 0) : (vs.flatMap Vl.enc).length ≤ 22 * vs.length := by
  induction vs with
  | nil => simp
  | cons v vs ih =>
    have h1 := enc_len (h v (by simp))
    have h2 := ih (fun u hu => h u (by simp [hu]))
    simp only [List.flatMap_cons, List.length_append, List.length_cons]
    omega
theorem encodeV_size (vs : List Vl) : (encodeV vs).size ≤ maxLen := by
  unfold encodeV maxLen
  split
  · rename_i h
    obtain ⟨h1, h2⟩ := rights_all h
    have := flat_len vs h2
    rw [bs_size, encL, List.length_cons]
    omega
  · rw [bs_size]; simp
set_option maxHeartbeats 1000000 in
theorem encode_any (vs : List Vl) (A : Option Addr) (n c : Nat) (w : World) (hr : RdV w w.heap.size A n vs) (hn : n ≤ maxLen) (hs : ∀ v ∈ vs, v.s.size ≤ maxLen) :
    Calls Try.prog 5 #[.slice A n c] w fun e w' => e = .returned (.tuple #[.string (encodeV vs), .int .i64 (rightsE vs)]) ∧ Below w.heap.size w w' := by
  have HR := Lib.hid (rights_any vs A n c w hr hn hs)
  by_cases h0 : rightsE vs = 0
  · have hE : encodeV vs = bs (encL vs) := by simp [encodeV, h0]
    obtain ⟨h5, hall⟩ := rights_all h0
    have hl := hr.len
    have HE := Lib.hid hE
    rw [h0] at HR ⊢
    have HB := Lib.hid (fun w1 hr1 => bytes_any vs A n c w1 hr1 hall (by omega))
    clear h0 hE hl h5
    go_enter Try.func5, Try.ntmps5
    go_wp2_with fail
    refine HR.out.mono ?_
    rintro e w1 ⟨rfl, hb1⟩
    go_wp2_with fail
    refine (HB.out w1 (Rd.more (Rd.below hr hb1) hb1.size)).mono ?_
    rintro e w2 ⟨rfl, hb2⟩
    go_wp2_with fail
    go_ret2
    rw [HE.out]
    exact ⟨rfl, hb1.trans (hb2.mono hb1.size)⟩
  · have hE : encodeV vs = bs [] := by simp [encodeV, h0]
    have HE := Lib.hid hE
    have h0' : (rightsE vs != 0) = true := by simpa using h0
    clear h0 hE
    go_enter Try.func5, Try.ntmps5
    go_wp2_with fail
    refine HR.out.mono ?_
    rintro e w1 ⟨rfl, hb1⟩
    go_wp2_with fail
    go_ret2
    rw [HE.out]
    exact ⟨rfl, hb1⟩
theorem num_any (n : Int) (w : World) :
    Calls Try.prog 16 #[.int .i64 n] w fun e w' => e = .returned (Vl.val ⟨1, n, .empty⟩) ∧ Below w.heap.size w w' := by
  go_enter Try.func16, Try.ntmps16
  go_wp2
  exact bodyPost_ret (v := .agg #[.int .i64 1, .int .i64 n, .string ⟨#[]⟩]) (by simp [results, Try.results16, go_sem]) rfl ⟨rfl, below_two _⟩
theorem txt_any (s : ByteArray) (w : World) :
    Calls Try.prog 17 #[.string s] w fun e w' => e = .returned (Vl.val ⟨2, 0, s⟩) ∧ Below w.heap.size w w' := by
  go_enter Try.func17, Try.ntmps17
  go_wp2
  exact bodyPost_ret (v := .agg #[.int .i64 2, .int .i64 0, .string s]) (by simp [results, Try.results17, go_sem]) rfl ⟨rfl, below_two _⟩
theorem held3 {w W W' : World} {g a b c : Nat} {x y z : Value} (h : Below w.heap.size w W ∧ W.cell? ⟨g, a, none⟩ = some x ∧ W.cell? ⟨g, b, none⟩ = some y ∧ W.cell? ⟨g, c, none⟩ = some z) (hg : g < w.heap.size) (hb : Below W.heap.size W W') :
    Below w.heap.size w W' ∧ W'.cell? ⟨g, a, none⟩ = some x ∧ W'.cell? ⟨g, b, none⟩ = some y ∧ W'.cell? ⟨g, c, none⟩ = some z :=
  have hz := h.1.size
  ⟨h.1.trans (hb.mono hz), (hb.cell (p := ⟨g, a, none⟩) (by exact Nat.lt_of_lt_of_le hg hz)).trans h.2.1, (hb.cell (p := ⟨g, b, none⟩) (by exact Nat.lt_of_lt_of_le hg hz)).trans h.2.2.1, (hb.cell (p := ⟨g, c, none⟩) (by exact Nat.lt_of_lt_of_le hg hz)).trans h.2.2.2⟩
def begunVs : List Vl := [⟨1, 1, .empty⟩, ⟨2, 0, ⟨#[120]⟩⟩, ⟨0, 0, .empty⟩]
theorem begun_rights : rightsE begunVs = 0 := by decide +kernel
theorem begun_enc : encL begunVs = [3, 1, 0, 202, 154, 59, 2, 1, 120, 0] := by decide +kernel
set_option maxHeartbeats 1000000 in
theorem begun_any (w : World) :
    Calls Try.prog 10 #[] w fun e w' => e = .returned (.bool true) ∧ Below w.heap.size w w' := by
  go_enter Try.func10, Try.ntmps10
  go_wp2_with fail
  refine (num_any _ _).mono ?_
  rintro e w1 ⟨rfl, hb1⟩
  go_wp2_with fail
  refine (txt_any _ _).mono ?_
  rintro e w2 ⟨rfl, hb2⟩
  go_wp2_with fail
  have hrd : RdV (w2.alloc (.cells (cellsV begunVs).toArray 37)) (w2.alloc (.cells (cellsV begunVs).toArray 37)).heap.size (some ⟨w2.heap.size, 0, none⟩) 3 begunVs :=
    ⟨rfl, .inr ⟨w2.heap.size, 0, rfl, by simp, fun j u hu => by rw [Nat.zero_add, cell_of_row _ _ _ _ _ _ (heap_alloc_new w2 _)]; simpa [cellsV] using hu⟩⟩
  refine (encode_any begunVs _ 3 3 _ hrd (by unfold maxLen; omega) (by decide +kernel)).mono ?_
  rintro e w3 ⟨rfl, hb3⟩
  rw [begun_rights, show encodeV begunVs = bs (encL begunVs) from by simp [encodeV, begun_rights]]
  go_wp2_with fail
  refine (decode_any _ _ (by rw [bs_size, begun_enc]; unfold maxLen; simp)).mono ?_
  rw [decode_enc begunVs begun_rights]
  rintro e w4 ⟨v, rfl, hown, hb4⟩
  dsimp only at hown ⊢
  obtain ⟨g, cap, rfl, hg1, hg2⟩ := hown.form (by decide)
  go_wp2_with fail
  simp only [begun_enc, show begunVs.length = 3 from rfl, bs] at hown ⊢
  have hg : g < w4.heap.size := (hown.lt g rfl).2
  have z1 := hb1.size
  have z2 := hb2.size
  have z3 := hb3.size
  simp only [World.size_alloc] at z3
  have HB := Lib.hid ((((hb1.trans (hb2.mono z1)).alloc (by omega) _).trans (hb3.mono (by simp; omega))).trans (hb4.mono (by omega)))
  clear z1 z2 z3
  have c3 : w4.cell? ⟨g, 3, none⟩ = some (.int .i64 2) := hown.cellAt 3 (by omega)
  have c4 : w4.cell? ⟨g, 4, none⟩ = some (.int .i64 0) := hown.cellAt 4 (by omega)
  have c5 : w4.cell? ⟨g, 5, none⟩ = some (.string ⟨#[120]⟩) := hown.cellAt 5 (by omega)
  go_region_held3 (fun W => Below w4.heap.size w4 W ∧ W.cell? ⟨g, 3, none⟩ = some (.int .i64 2) ∧ W.cell? ⟨g, 4, none⟩ = some (.int .i64 0) ∧ W.cell? ⟨g, 5, none⟩ = some (.string ⟨#[120]⟩)) (first | exact ⟨(Below.refl _ _).drew, c3, c4, c5⟩ | assumption | exact held3 (by assumption) hg hb5)
    (first | (go_at_call 17; refine (txt_any _ _).mono ?_; rintro e w5 ⟨rfl, hb5⟩))
  all_goals go_wp2
  all_goals go_ret
  all_goals
    rename_i hH
    exact ⟨rfl, HB.out.trans (hH.1.mono HB.out.size)⟩
end Go.Proofs.Ytkgaggbmlghpbaa
