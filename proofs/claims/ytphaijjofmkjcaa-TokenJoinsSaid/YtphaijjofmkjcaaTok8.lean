/- Join. -/
import Derived.Test.YtphaijjofmkjcaaTok7
import Derived.Test.YtphaijjofmkjcaaTokR6
import Derived.Test.YtphaijjofmkjcaaShelf
namespace Go.Proofs.Ytphaijjofmkjcaa
open Go.RowKit
theorem elStr : ElT Try.prog 43 9 (.string ⟨#[]⟩) 1 16 := elT_mk Try.underlying43 (by kernel_rfl) rfl (by decide)
def strsC (vs : List Vl) : List Value := vs.map fun v => .string v.s
theorem strsC_take (vs : List Vl) (k : Nat) (v : Vl) (h : vs[k]? = some v) : strsC (vs.take (k + 1)) = strsC (vs.take k) ++ [.string v.s] := by
  rw [List.take_add_one, h]; simp [strsC]
/-- a row of texts, joined -/
theorem joins_any (vs : List Vl) (v : Value) (n : Nat) (base : Nat) (w : World) (hown : w.ownsRow base 9 1 v n (strsC vs)) (hl : (joinL vs).length ≤ 2000) (hn : n ≤ 140737488355328) :
    Calls Try.prog 18 #[v, .string ⟨#[32]⟩] w fun e w' => e = .returned (.string (bs (joinL vs))) ∧ Below w.heap.size w w' := by
  have hlen : vs.length = n := by have := hown.1; simpa [strsC] using this
  rcases hown.2 with ⟨rfl, h0⟩ | ⟨g, cap, cur, rfl, _, hh, hnc, hcm, hcs, ht⟩
  · obtain rfl := h0
    obtain rfl : vs = [] := List.eq_nil_of_length_eq_zero hlen
    refine (Try.strings_Join_none none 0 _ w).mono ?_
    rintro e w' ⟨rfl, rfl⟩
    exact ⟨rfl, Below.refl _ _⟩
  · have e1 : (vs.map (·.s)).length = n := by rw [List.length_map]; exact hlen
    have e2 : Lib.join ((vs.map (·.s)).map (·.data.toList)) (⟨#[32]⟩ : ByteArray).data.toList = joinL vs := by
      unfold joinL txts
      rw [List.map_map]; rfl
    have := Try.strings_Join g 0 cap (vs.map (·.s)) ⟨#[32]⟩ w (fun j x hx => by
      rw [Nat.zero_add, cell_of_row w g j cur 9 (0, 0) hh]
      have hu : (strsC vs)[j]? = some (.string x) := by
        rw [List.getElem?_map] at hx
        unfold strsC
        rw [List.getElem?_map]
        rcases hj : vs[j]? with _ | y
        · rw [hj] at hx; cases hx
        · rw [hj] at hx; simp at hx; simp [hx]
      rw [← ht, List.getElem?_take] at hu
      split at hu
      · simpa using hu
      · cases hu) (Blk.lt (t := 9) (cs := cur) hh) (by rw [e1]; exact hn) (by rw [e1]; exact hnc) (by rw [e2]; omega)
    rw [e1, e2] at this
    refine this.mono ?_
    rintro e w' ⟨rfl, hb⟩
    exact ⟨rfl, hb⟩
set_option maxHeartbeats 1000000 in
theorem join_any (vs : List Vl) (A : Option Addr) (n c : Nat) (w : World) (hr : RdV w w.heap.size A n vs) (hn : n * 32 ≤ 140737488351232) (hm : ∀ v ∈ vs, v.s.size ≤ maxLen) :
    Calls Try.prog 11 #[.slice A n c] w (JoinPost (joinS vs) w) := by
  have HL := Lib.hid hr.len
  have hn1 : n ≤ 9223372036854775807 := by omega
  have HS : Hid (joinS vs = (if allOne vs = true then (if 2001 < lenJ vs then (bs [], 2) else (bs (joinL vs), 0)) else (bs [], 1))) := Lib.hid rfl
  go_enter Try.func11, Try.ntmps11
  go_wp2_with fail
  go_loopg [4, 5, 10] n (fun m s u i wr => ∃ (k q : Nat), u = .int .i64 (q : Int) ∧ i = .int .i64 k ∧ k ≤ n ∧ m = n - k ∧ q = lenJ (vs.take k) ∧ q ≤ 2001 * k ∧ wr.ownsRow w.heap.size 9 1 s k (strsC (vs.take k)) ∧ allOne (vs.take k) = true ∧ Below w.heap.size w wr)
  case atStart => exact ⟨0, 0, rfl, rfl, Nat.zero_le _, rfl, rfl, Nat.zero_le _, World.ownsRow_nil _ _ _ _, rfl, Below.refl _ _⟩
  case round =>
    obtain ⟨k, q, rfl, rfl, hk, rfl, hq, hqk, hown, ha, hb⟩ := hrel
    by_cases hlt : k < n
    · obtain ⟨v, hv⟩ : ∃ v, vs[k]? = some v := ⟨vs[k]'(by rw [HL.out]; exact hlt), List.getElem?_eq_getElem _⟩
      obtain ⟨b, o, rfl, hbl, c0, c1, c2⟩ := (show RdV wr w.heap.size A n vs from Rd.below hr hb).at_ k v hv
      have hvm := hm v (List.mem_of_getElem? hv)
      have HI := Lib.hid (fun W => one_any v.k v.s W hvm)
      have HF := Lib.hid (allOne_not vs k v hv)
      have HA := Lib.hid (allOne_take vs k v hv ha)
      have HLN := Lib.hid (lenJ_take vs k v hv)
      have HST := Lib.hid (strsC_take vs k v hv)
      have HO := Lib.hid (@oneB_size v.k v.s)
      have HQ := Lib.hid hq
      clear hv ha hm hq
      obtain ⟨vk, vn, vs1⟩ := v
      simp only at c0 c1 c2 HI HF HA HLN HO HST
      rcases h1 : oneB vk vs1 with _ | _
      · have HR := Lib.hid (show joinS vs = (bs [], 1) by rw [HS.out, HF.out h1]; rfl)
        rw [h1] at HI
        clear h1 HA
        go_wp2_with fail
        refine (HI.out _).mono ?_
        rintro e w1 ⟨rfl, hb1⟩
        go_wp2_with fail
        go_ret2
        rw [HR.out]
        exact ⟨rfl, (hb.alloc hb.size _).trans (hb1.mono (by have := hb.size; simp; omega))⟩
      · have ha' := HA.out h1
        have hsz := HO.out h1
        rw [h1] at HI
        have hq2 := HLN.out
        rw [← HQ.out] at hq2
        have HA' := Lib.hid ha'
        have HQ2 := Lib.hid hq2
        obtain ⟨hsz1, hsz2⟩ := hsz
        clear h1 ha' hq2 HQ HLN HF HA HO
        obtain ⟨q', hq'⟩ : ∃ q' : Nat, q' = q + 1 + vs1.size := ⟨_, rfl⟩
        have HQ3 := Lib.hid hq'
        have hqi : (q : Int) + (1 + (vs1.size : Int)) = (q' : Int) := by omega
        have hqq : q' ≤ 2001 * (k + 1) := by omega
        have hqb : (q' : Int) ≤ 9223372036854775807 := by omega
        have hqm : q ≤ q' := by omega
        clear hq'
        have hz := hb.size
        go_wp2_with fail
        refine (HI.out _).mono ?_
        rintro e w1 ⟨rfl, hb1⟩
        have z1 := hb1.size
        simp only [World.size_alloc] at z1
        have hbA := (hb.alloc hz (.cells #[.int .i64 vk, .int .i64 vn, .string vs1] 34)).trans (hb1.mono (by simp; omega))
        have d2 : w1.cell? ⟨wr.heap.size, 2, none⟩ = some (.string vs1) := (hb1.cell (by simp)).trans ((Blk.fresh wr _ _).cell 2)
        have hown1 := own_below (hown.alloc _) hb1
        have hne := own_ne hown (Nat.le_refl _)
        have hlt1 : wr.heap.size < w1.heap.size := by omega
        go_wp2_with (at_builtin; refine wpList_app rfl (.tmp 20) (.tmp 23) elStr rfl hown1 rfl rfl (by simp) (by simp) rfl (by unfold maxLen; omega) (by omega) (by omega) ?_; intro v3 w3 hown3 hl3 hat3; have d3 := (hl3.far ⟨wr.heap.size, 2, none⟩ hlt1 hne).trans d2)
        go_roundg (n - (k + 1))
        case rel => exact ⟨k + 1, q', rfl, rfl, by omega, rfl, by rw [HQ3.out, HQ2.out], hqq, by rw [HST.out]; exact hown3, HA'.out, hbA.trans (hl3.below.mono (by omega))⟩
        case measure => omega
    · have hkn : k = n := by omega
      have htk : vs.take k = vs := List.take_of_length_le (by rw [HL.out]; omega)
      rw [htk] at hown ha hq
      have hR := HS.out
      rw [if_pos ha, ← hq] at hR
      by_cases hle : 2001 < q
      · rw [if_pos hle] at hR
        have HR := Lib.hid hR
        clear hR ha hq htk hkn
        go_wp2_with fail
        go_ret2
        rw [HR.out]
        exact ⟨rfl, hb⟩
      · rw [if_neg hle] at hR
        have hjl : (joinL vs).length ≤ 2000 := by
          rcases vs with _ | ⟨v, l⟩
          · simp [joinL, txts, Lib.join_nil]
          · have := joinL_len v l; omega
        have HJ := Lib.hid (joins_any vs _ k w.heap.size wr hown hjl (by omega))
        have HR := Lib.hid hR
        clear hR ha hq htk hkn hjl
        go_wp2_with fail
        refine HJ.out.mono ?_
        rintro e w1 ⟨rfl, hb1⟩
        go_wp2_with fail
        go_ret2
        rw [HR.out]
        exact ⟨rfl, hb.trans (hb1.mono hb.size)⟩
end Go.Proofs.Ytphaijjofmkjcaa
