/- Rows of the call's own that are written no more: read as trees. -/
import Derived.Test.YtnjjpblgcgikaaaDoorAxG8
namespace Go.Proofs.YtnjjpblgcgikaaaDoor.Ax
open Go.RowKit
section
variable {X : Cx} {st : St} {ρ : Nat → R} {a : Act} {w : World}
theorem okR_less {z : Bool} {b id : Nat} (h : okOf X ρ w z b) : okOf X (updR ρ id .dead) w z b := ⟨h.1, h.2.1, fun i b' cap hi => by
  unfold updR at hi
  split at hi
  · cases hi
  · exact h.2.2 i b' cap hi⟩
theorem row_melt (hH : Hold X st ρ a w) {id len : Nat} {e : TypeId} {size : Nat} {z : Bool} {rows : List (List T)} (hb : get id st.bl = some (.arr e size z rows)) (hl : rows.length = len) {x : Value} (hx : RdC w (okOf X ρ w) ρ (.own id len) x) :
    RdT w (okOf X (updR ρ id .dead) w z) (.sl rows) x := by
  have hB := hH.blocks _ _ hb
  subst hl
  unfold RdC at hx
  unfold HasB at hB
  unfold RdT
  cases hid : ρ id with
  | dead => simp [hid] at hx
  | nil =>
    simp only [hid] at hx hB
    obtain ⟨h1, A, hA⟩ := hx
    exact ⟨A, 0, 0, hA, h1, Nat.le_refl _, .inl rfl⟩
  | lie g cap =>
    simp only [hid] at hx hB
    obtain ⟨xs, h1, h2, h3⟩ := hB
    obtain ⟨_, hc, hcell⟩ := own_cells h1
    have hg := hH.ge id g cap hid
    have hok : okOf X (updR ρ id .dead) w z g := ⟨hg.1.imp (fun h => h) .inl, hg.2.2, fun i b' c' hi => by
      unfold updR at hi
      split at hi
      · cases hi
      · rename_i hne
        rintro rfl
        exact hne (hH.inj i id b' c' cap hi hid)⟩
    exact ⟨_, _, _, hx, rfl, hc, .inr ⟨g, 0, size, rfl, hok, RdRows.mk (RdL.mono (ok := okOf X ρ w z) (ok' := okOf X (updR ρ id .dead) w z) (fun b hb => ⟨okR_less hb, rfl⟩) h2) h3 fun j u hu => by rw [Nat.zero_add]; exact hcell j u hu⟩⟩
theorem evo_dead (hH : Hold X st ρ a w) {id : Nat} : Evo X ρ w (updR ρ id .dead) w [id] [id] := ⟨Below.refl _ _, fun _ _ _ => rfl, fun i hi => updR_ne (by simpa using hi), (fun i b cap hi hr => by
    simp only [List.mem_singleton] at hi
    subst hi
    rw [updR_same] at hr; cases hr), (fun i j b c d hi hj => by
    unfold updR at hi hj
    split at hi
    · cases hi
    · split at hj
      · cases hj
      · exact hH.inj i j b c d hi hj), fun i hi => .inr (by simp only [List.mem_singleton] at hi; rw [hi, updR_same])⟩
end
def meltSt (st : St) (t id : Nat) (z : Bool) (rows : List (List T)) : St := ⟨(t, .one (.t z (.sl rows))) :: (st.turn [id] [id] []).sl, (st.turn [id] [id] []).bl⟩
/-- a temporary that holds a row of the call's own: from now on nobody writes it -/
theorem cw_melt {P : Program} {X : Cx} {st : St} {c : Code} {Q : Exit → St → Prop} (t id : Nat) {e : TypeId} {size len : Nat} {z : Bool} {rows : List (List T)} (ht : get t st.sl = some (.one (.own id len))) (hb : get id st.bl = some (.arr e size z rows)) (hl : rows.length = len) (h : CW P X c Q (meltSt st t id z rows)) : CW P X c Q st := fun ρ a w hH => by
  refine h (updR ρ id .dead) a w ?_
  have hT := hH.turn (evo_dead hH (id := id)) (nb := []) (by intro id b h; cases h)
  refine ⟨hT.defers, hT.size, hT.below, hT.keep, hT.ge, hT.inj, hT.pin, fun t' v hv => ?_, hT.blocks, hT.gk, hT.gw⟩
  simp only [meltSt, get] at hv
  split at hv
  · rename_i htt
    subst htt
    injection hv with hv
    subst hv
    obtain ⟨x, h1, h2⟩ := hH.slots _ _ ht
    refine ⟨x, h1, ?_⟩
    unfold RdV at h2 ⊢
    unfold RdC
    exact row_melt hH hb hl h2
  · exact hT.slots t' v hv
/-- a row's last elements count no more -/
theorem cw_shrink {P : Program} {X : Cx} {st : St} {c : Code} {Q : Exit → St → Prop} (id k : Nat) {e : TypeId} {size : Nat} {z : Bool} {rows : List (List T)} (hb : get id st.bl = some (.arr e size z rows)) (hk : k ≤ rows.length) (h : CW P X c Q ⟨st.sl, (id, .arr e size z (rows.take k)) :: st.bl⟩) : CW P X c Q st := fun ρ a w hH => by
  refine h ρ a w ⟨hH.defers, hH.size, hH.below, hH.keep, hH.ge, hH.inj, hH.pin, hH.slots, fun id' b' hb' => ?_, hH.gk, hH.gw⟩
  simp only [get] at hb'
  split at hb'
  · rename_i hid
    subst hid
    injection hb' with hb'
    subst hb'
    have hB := hH.blocks _ _ hb
    unfold HasB at hB ⊢
    cases hr : ρ id' with
    | dead => simp [hr] at hB
    | nil =>
      simp only [hr] at hB ⊢
      rw [hB]; simp
    | lie b cap =>
      simp only [hr] at hB ⊢
      obtain ⟨xs, ⟨hxl, hown⟩, g2, g3⟩ := hB
      have hks : k * size ≤ rows.length * size := Nat.mul_le_mul_right _ hk
      have hlen : (rows.take k).length = k := by rw [List.length_take]; omega
      refine ⟨xs.take (k * size), ⟨by rw [List.length_take, hlen]; omega, ?_⟩, by rw [flat_take rows k g3]; exact g2.take _, fun r hr => g3 r (List.mem_of_mem_take hr)⟩
      rcases hown with ⟨h1, _⟩ | ⟨g, cap', cur, h1, h2, h3, h4, h5, h6, h7⟩
      · cases h1
      · cases h1
        refine .inr ⟨b, cap, cur, by rw [hlen], h2, h3, by rw [hlen]; omega, h5, h6, ?_⟩
        rw [hlen, ← h7, List.take_take, Nat.min_eq_left hks]
  · exact hH.blocks id' b' hb'
end Go.Proofs.YtnjjpblgcgikaaaDoor.Ax
