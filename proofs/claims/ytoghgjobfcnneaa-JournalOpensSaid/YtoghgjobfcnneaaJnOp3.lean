/- Plain laws: journals outlast crashes: the way of an Append, and a crash on it. -/
import Derived.Test.YtoghgjobfcnneaaJnOp2
namespace Go.Proofs.Ytoghgjobfcnneaa
open Go.RowKit
theorem JInv.checkW {n : Nat} {kept : List ByteArray} {turn used : Nat} {there : List ByteArray} (h : JInv n kept turn used there) {wr : List Wr} (hw : ∀ x ∈ wr, 0 ≤ x.sec ∧ x.sec.toNat < n ∧ x.s.size = 64) (hl : wr.length ≤ 400) : checkD ⟨kept, wr⟩ = 0 := by
  have h1 := h.len
  have h2 := h.n4
  have h3 := h.n400
  refine checkD_of _ (by simp only; omega) (by simp only; omega) h.sz hl fun x hx => ?_
  have := hw x hx
  simp only
  omega
theorem writes_eq (s : ByteArray) (kept : List ByteArray) (u : Nat) : ∀ k : Nat, writesJ s (u + 1) k (⟨kept, wJ s u 0⟩, [⟨kept, wJ s u 0⟩]) = (⟨kept, wJ s u k⟩, (List.range (k + 1)).map fun j => ⟨kept, wJ s u j⟩)
  | 0 => rfl
  | k + 1 => by
    have e : putD ⟨kept, wJ s u k⟩ ((u + 1 + k : Nat) : Int) (partS s k) = ⟨kept, wJ s u (k + 1)⟩ := by
      unfold putD wJ
      rw [List.range_succ, List.map_append]
      rfl
    rw [writesJ, writes_eq s kept u k]
    simp only
    rw [e, List.range_succ (n := k + 1), List.map_append]
    rfl
/-- the disk behind the text's head and parts; and behind all -/
def k2J (kept : List ByteArray) (turn u : Nat) (s : ByteArray) : List ByteArray := (fullJ kept s u).set ((turn + 1) % 2) (nextH turn (u + 1 + partsJ s.size))
def headD (kept : List ByteArray) (turn u : Nat) (s : ByteArray) : Dk := putD ⟨fullJ kept s u, []⟩ (((turn + 1) % 2 : Nat) : Int) (nextH turn (u + 1 + partsJ s.size))
theorem way_eq (kept : List ByteArray) (turn u : Nat) (s : ByteArray) : wayJ kept turn u s = (⟨k2J kept turn u s, []⟩, ((List.range (partsJ s.size + 1)).map fun j => ⟨kept, wJ s u j⟩) ++ [⟨fullJ kept s u, []⟩, headD kept turn u s, ⟨k2J kept turn u s, []⟩]) := by
  have h0 : goJ (⟨kept, []⟩, []) (putD ⟨kept, []⟩ u (secJ 84 (numJ s.size))) = (⟨kept, wJ s u 0⟩, [⟨kept, wJ s u 0⟩]) := rfl
  unfold wayJ
  simp only
  rw [h0, writes_eq]
  have h1 : keepD allB ⟨kept, wJ s u (partsJ s.size)⟩ = ⟨fullJ kept s u, []⟩ := rfl
  have h2 : keepD allB (headD kept turn u s) = ⟨k2J kept turn u s, []⟩ := rfl
  unfold goJ
  simp only
  rw [h1]
  show (keepD allB (headD kept turn u s), _ ++ [⟨fullJ kept s u, []⟩] ++ [headD kept turn u s] ++ [keepD allB (headD kept turn u s)]) = _
  rw [h2]
  simp only [List.append_assoc, List.cons_append, List.nil_append]
theorem way_len (kept : List ByteArray) (turn u : Nat) (s : ByteArray) : (wayJ kept turn u s).2.length = partsJ s.size + 4 := by
  rw [way_eq]
  simp
theorem way_get {kept : List ByteArray} {turn u : Nat} {s : ByteArray} {k : Nat} {b : Dk} (h : (wayJ kept turn u s).2[k]? = some b) :
    (k ≤ partsJ s.size ∧ b = ⟨kept, wJ s u k⟩) ∨ (k = partsJ s.size + 1 ∧ b = ⟨fullJ kept s u, []⟩) ∨ (k = partsJ s.size + 2 ∧ b = headD kept turn u s) ∨ (k = partsJ s.size + 3 ∧ b = ⟨k2J kept turn u s, []⟩) := by
  rw [way_eq] at h
  simp only at h
  by_cases hk : k < partsJ s.size + 1
  · rw [List.getElem?_append_left (by simpa using hk), List.getElem?_map, List.getElem?_range hk] at h
    injection h with h
    exact .inl ⟨by omega, h.symm⟩
  · obtain ⟨j, rfl⟩ : ∃ j, k = partsJ s.size + 1 + j := ⟨k - (partsJ s.size + 1), by omega⟩
    rw [List.getElem?_append_right (by simp)] at h
    simp only [List.length_map, List.length_range, Nat.add_sub_cancel_left] at h
    match j, h with
    | 0, h => injection h with h; exact .inr (.inl ⟨rfl, h.symm⟩)
    | 1, h => injection h with h; exact .inr (.inr (.inl ⟨rfl, h.symm⟩))
    | 2, h => injection h with h; exact .inr (.inr (.inr ⟨rfl, h.symm⟩))
    | j + 3, h => simp at h
/-- one step: all is kept, or one sector is written -/
def StepOk (a b : Dk) : Prop := checkD a = 0 ∧ (b = keepD allB a ∨ ∃ (n : Int) (s : ByteArray), b = putD a n s ∧ 0 ≤ n ∧ n < a.kept.length ∧ s.size = 64 ∧ a.wr.length < 400)
theorem wJ_ok {n : Nat} {s : ByteArray} {u k : Nat} (h : u + 1 + k ≤ n) : ∀ x ∈ wJ s u k, 0 ≤ x.sec ∧ x.sec.toNat < n ∧ x.s.size = 64 := fun x hx => by
  have := wJ_sec hx
  exact ⟨by omega, by omega, wJ_size hx⟩
theorem parts_le {s : ByteArray} (h : s.size ≤ 2000) : partsJ s.size ≤ 32 := by unfold partsJ; omega
theorem way_steps {n : Nat} {kept : List ByteArray} {turn u : Nat} {there : List ByteArray} (h : JInv n kept turn u there) {s : ByteArray} (hs : s.size ≤ 2000) (hu : u + 1 + partsJ s.size ≤ n) {i : Nat} {a b : Dk}
    (ha : ((⟨kept, []⟩ : Dk) :: (wayJ kept turn u s).2)[i]? = some a) (hb : (wayJ kept turn u s).2[i]? = some b) : StepOk a b := by
  have hP := parts_le hs
  have hI : JInv n (fullJ kept s u) turn u there := h.part allB s (partsJ s.size)
  have hlen := h.len
  have hlenI := hI.len
  have h4 := h.n4
  have hput : ∀ k : Nat, ⟨kept, wJ s u (k + 1)⟩ = putD ⟨kept, wJ s u k⟩ ((u + 1 + k : Nat) : Int) (partS s k) := fun k => by
    unfold putD wJ
    rw [List.range_succ, List.map_append]
    rfl
  cases i with
  | zero =>
    injection ha with ha
    subst ha
    rcases way_get hb with ⟨h1, rfl⟩ | ⟨h1, _⟩ | ⟨h1, _⟩ | ⟨h1, _⟩
    · exact ⟨h.check, .inr ⟨(u : Nat), secJ 84 (numJ s.size), rfl, by omega, by simp only; omega, secJ_size (show 4 ≤ 63 by decide), by simp only [List.length_nil]; omega⟩⟩
    all_goals omega
  | succ j =>
    rw [List.getElem?_cons_succ] at ha
    rcases way_get ha with ⟨h1, rfl⟩ | ⟨h1, rfl⟩ | ⟨h1, rfl⟩ | ⟨h1, rfl⟩
    · refine ⟨h.checkW (wJ_ok (by omega)) (by rw [wJ_len]; omega), ?_⟩
      rcases way_get hb with ⟨h2, rfl⟩ | ⟨h2, rfl⟩ | ⟨h2, rfl⟩ | ⟨h2, rfl⟩
      · exact .inr ⟨_, _, hput j, by omega, by simp only; omega, partS_size s j, by simp only [wJ_len]; omega⟩
      · obtain rfl : j = partsJ s.size := by omega
        exact .inl rfl
      all_goals omega
    · rcases way_get hb with ⟨h2, rfl⟩ | ⟨h2, rfl⟩ | ⟨h2, rfl⟩ | ⟨h2, rfl⟩ <;> try omega
      exact ⟨hI.check, .inr ⟨_, _, rfl, by omega, by simp only; omega, secJ_size (show 8 ≤ 63 by decide), by simp only [List.length_nil]; omega⟩⟩
    · rcases way_get hb with ⟨h2, rfl⟩ | ⟨h2, rfl⟩ | ⟨h2, rfl⟩ | ⟨h2, rfl⟩ <;> try omega
      refine ⟨hI.checkW (wr := [⟨(((turn + 1) % 2 : Nat) : Int), nextH turn (u + 1 + partsJ s.size)⟩]) (fun x hx => ?_) (by simp), .inl rfl⟩
      rw [List.mem_singleton] at hx
      subst hx
      exact ⟨by simp only; omega, by simp only; omega, secJ_size (show 8 ≤ 63 by decide)⟩
    · rcases way_get hb with ⟨h2, _⟩ | ⟨h2, _⟩ | ⟨h2, _⟩ | ⟨h2, _⟩ <;> omega
/-- a crash on the way -/
theorem way_crash {n : Nat} {kept : List ByteArray} {turn u : Nat} {there : List ByteArray} (h : JInv n kept turn u there) {s : ByteArray} (hs : s.size ≤ 2000) (hu : u + 1 + partsJ s.size ≤ n) (ht : turn ≤ 30) {k : Nat} {b : Dk}
    (hb : (wayJ kept turn u s).2[k]? = some b) (keep : List Bool) : ∃ l, crashD b keep = (⟨l, []⟩, 0) ∧ ((JInv n l turn u there ∧ k ≠ partsJ s.size + 3) ∨ JInv n l (turn + 1) (u + 1 + partsJ s.size) (there ++ [s])) := by
  have hP := parts_le hs
  have hI : JInv n (fullJ kept s u) turn u there := h.part allB s (partsJ s.size)
  have hN : JInv n (k2J kept turn u s) (turn + 1) (u + 1 + partsJ s.size) (there ++ [s]) := h.next hs hu ht
  have h4 := h.n4
  have hc : ∀ d : Dk, checkD d = 0 → crashD d keep = (keepD (keepB keep) d, 0) := fun d hd => by unfold crashD; rw [if_pos hd]
  rcases way_get hb with ⟨h1, rfl⟩ | ⟨h1, rfl⟩ | ⟨h1, rfl⟩ | ⟨h1, rfl⟩
  · rw [hc _ (h.checkW (wJ_ok (by omega)) (by rw [wJ_len]; omega))]
    exact ⟨_, rfl, .inl ⟨h.part _ s k, by omega⟩⟩
  · rw [hc _ hI.check]
    exact ⟨_, rfl, .inl ⟨hI, by omega⟩⟩
  · rw [hc (headD kept turn u s) (hI.checkW (wr := [⟨(((turn + 1) % 2 : Nat) : Int), nextH turn (u + 1 + partsJ s.size)⟩]) (fun x hx => by
      rw [List.mem_singleton] at hx
      subst hx
      exact ⟨by simp only; omega, by simp only; omega, secJ_size (show 8 ≤ 63 by decide)⟩) (by simp))]
    refine ⟨_, rfl, ?_⟩
    by_cases hk : keepB keep 0 = true
    · right
      have e : keptF (keepB keep) 0 [⟨(((turn + 1) % 2 : Nat) : Int), nextH turn (u + 1 + partsJ s.size)⟩] (fullJ kept s u) = k2J kept turn u s := by
        rw [keptF, keptF, if_pos hk]
        rfl
      show JInv n (keptF (keepB keep) 0 [⟨(((turn + 1) % 2 : Nat) : Int), nextH turn (u + 1 + partsJ s.size)⟩] (fullJ kept s u)) _ _ _
      rw [e]
      exact hN
    · left
      refine ⟨?_, by omega⟩
      have e : keptF (keepB keep) 0 [⟨(((turn + 1) % 2 : Nat) : Int), nextH turn (u + 1 + partsJ s.size)⟩] (fullJ kept s u) = fullJ kept s u := by
        rw [keptF, keptF, if_neg hk]
      show JInv n (keptF (keepB keep) 0 [⟨(((turn + 1) % 2 : Nat) : Int), nextH turn (u + 1 + partsJ s.size)⟩] (fullJ kept s u)) _ _ _
      rw [e]
      exact hI
  · rw [hc _ hN.check]
    exact ⟨_, rfl, .inr hN⟩
/-- one text of the law -/
theorem append_law {n : Nat} {kept : List ByteArray} {turn u : Nat} {there : List ByteArray} (h : JInv n kept turn u there) (s : ByteArray) (hs : s.size ≤ 2000) (ht : turn ≤ 30) {need : Nat} (hn : u + 2 ≤ need) :
    (appendJ ⟨kept, []⟩ s = (Dk.none, [], 8) ∧ n < need + needJ s) ∨
    ∃ (x : Dk) (way : List Dk), appendJ ⟨kept, []⟩ s = (x, way, 0) ∧ x.wr = [] ∧ 0 < way.length ∧ way.length ≤ 40 ∧ ((⟨kept, []⟩ : Dk) :: way)[way.length]? = some x ∧ (∀ (i : Nat) (a b : Dk), ((⟨kept, []⟩ : Dk) :: way)[i]? = some a → way[i]? = some b → StepOk a b) ∧
      ∀ (k : Nat) (b : Dk), way[k]? = some b → ∀ keep, ∃ l, crashD b keep = (⟨l, []⟩, 0) ∧ ∃ t' u', (JInv n l t' u' there ∧ k + 1 ≠ way.length ∧ t' ≤ turn ∧ u' + 2 ≤ need ∨ JInv n l t' u' (there ++ [s]) ∧ t' ≤ turn + 1 ∧ u' + 2 ≤ need + needJ s) := by
  have hp := need_parts s
  have hP := parts_le hs
  have e : appendJ ⟨kept, []⟩ s = if u + 1 + partsJ s.size ≤ n then ((wayJ kept turn u s).1, (wayJ kept turn u s).2, 0) else (Dk.none, [], 8) := by
    unfold appendJ
    rw [if_pos h.check, if_pos hs]
    simp only
    rw [h.load]
    simp only
    rw [h.len]
  by_cases hu : u + 1 + partsJ s.size ≤ n
  · right
    rw [if_pos hu] at e
    have hl := way_len kept turn u s
    refine ⟨_, _, e, by rw [way_eq], by omega, by omega, ?_, fun i a b ha hb => way_steps h hs hu ha hb, fun k b hb keep => ?_⟩
    · rw [hl, List.getElem?_cons_succ, way_eq]
      rw [List.getElem?_append_right (by simp)]
      simp
    · obtain ⟨l, h1, h2⟩ := way_crash h hs hu ht hb keep
      refine ⟨l, h1, ?_⟩
      rcases h2 with ⟨h2, h3⟩ | h2
      · exact ⟨turn, u, .inl ⟨h2, by omega, Nat.le_refl _, hn⟩⟩
      · exact ⟨turn + 1, _, .inr ⟨h2, Nat.le_refl _, by omega⟩⟩
  · left
    rw [if_neg hu] at e
    exact ⟨e, by omega⟩
end Go.Proofs.Ytoghgjobfcnneaa
