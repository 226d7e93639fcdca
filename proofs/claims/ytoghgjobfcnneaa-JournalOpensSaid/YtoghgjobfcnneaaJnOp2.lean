/- Plain laws: journals outlast crashes: what a disk holds, and behind a crash on the way. -/
import Derived.Test.YtoghgjobfcnneaaJnOpens
import Derived.Test.YtoghgjobfcnneaaDkPlain2
namespace Go.Proofs.Ytoghgjobfcnneaa
open Go.RowKit
/-- what is read of the texts lies from `2` on, below `used` -/
theorem pieces_congr2 {a b : List ByteArray} {u : Nat} (h : ∀ i, 2 ≤ i → i < u → secAt a i = secAt b i) : ∀ (n i : Nat), 2 ≤ i → i + n ≤ u → piecesJ a i n = piecesJ b i n
  | 0, _, _, _ => rfl
  | n + 1, i, h2, hi => by
    rw [piecesJ, piecesJ, h i h2 (by omega), pieces_congr2 h n (i + 1) (by omega) (by omega)]
theorem text_congr2 {a b : List ByteArray} {u : Nat} (h : ∀ i, 2 ≤ i → i < u → secAt a i = secAt b i) (i : Nat) (h2 : 2 ≤ i) (hi : i < u) : textJ a i u = textJ b i u := by
  unfold textJ
  rw [h i h2 hi]
  split
  · split
    · rename_i h1
      rw [pieces_congr2 h _ (i + 1) (by omega) (by omega)]
    · rfl
  · rfl
theorem texts_congr2 {a b : List ByteArray} {u : Nat} (h : ∀ i, 2 ≤ i → i < u → secAt a i = secAt b i) : ∀ (f i : Nat), 2 ≤ i → textsJ a u f i = textsJ b u f i
  | 0, _, _ => rfl
  | f + 1, i, h2 => by
    rw [textsJ, textsJ]
    split
    · rename_i hi
      rw [text_congr2 h i h2 hi]
      cases hx : textJ b i u with
      | none => rfl
      | some p =>
        have := textJ_end hx
        simp only [texts_congr2 h f p.2 (by omega)]
    · rfl
/-- what a disk of ours holds -/
structure JInv (n : Nat) (kept : List ByteArray) (turn used : Nat) (there : List ByteArray) : Prop where
  len : kept.length = n
  n4 : 4 ≤ n
  n400 : n ≤ 400
  sz : ∀ s ∈ kept, s.size = 64
  hd : headJ kept = ((turn : Int), used)
  tx : textsJ kept used used 2 = some there
  lo : 2 ≤ used
  hi : used ≤ n
theorem JInv.load {n : Nat} {kept : List ByteArray} {turn used : Nat} {there : List ByteArray} (h : JInv n kept turn used there) : loadJ kept = some (turn, used, there) := by
  unfold loadJ
  rw [h.hd]
  simp only
  rw [if_neg (by omega), h.tx]
  rfl
theorem JInv.check {n : Nat} {kept : List ByteArray} {turn used : Nat} {there : List ByteArray} (h : JInv n kept turn used there) : checkD ⟨kept, []⟩ = 0 := by
  have := h.len
  have := h.n4
  have := h.n400
  exact checkD_of _ (by simp only; omega) (by simp only; omega) h.sz (Nat.zero_le _) fun x hx => by cases hx
/-- a text's writes: its own sector, then so many parts -/
def headW (s : ByteArray) (u : Nat) : Wr := ⟨(u : Nat), secJ 84 (numJ s.size)⟩
def partW (s : ByteArray) (u i : Nat) : Wr := ⟨((u + 1 + i : Nat) : Int), partS s i⟩
def wJ (s : ByteArray) (u k : Nat) : List Wr := headW s u :: (List.range k).map (partW s u)
theorem wJ_mem {s : ByteArray} {u k : Nat} {x : Wr} (h : x ∈ wJ s u k) : x = headW s u ∨ ∃ i, i < k ∧ x = partW s u i := by
  rcases List.mem_cons.1 h with h | h
  · exact .inl h
  · obtain ⟨i, hi, rfl⟩ := List.mem_map.1 h
    exact .inr ⟨i, List.mem_range.1 hi, rfl⟩
theorem secJ_size {k : UInt8} {s : ByteArray} (h : s.size ≤ 63) : (secJ k s).size = 64 := by
  have h1 : (secJ k s).size = (secJ k s).data.toList.length := rfl
  have h2 : s.data.toList.length = s.size := rfl
  rw [h1, secJ_data]
  simp only [List.length_append, List.length_cons, List.length_nil, List.length_replicate]
  omega
theorem partS_size (s : ByteArray) (i : Nat) : (partS s i).size = 64 := by
  unfold partS
  apply secJ_size
  have : ∀ l : List UInt8, (bs l).size = l.length := fun l => rfl
  rw [this, List.length_take]
  omega
theorem wJ_size {s : ByteArray} {u k : Nat} {x : Wr} (h : x ∈ wJ s u k) : x.s.size = 64 := by
  rcases wJ_mem h with rfl | ⟨i, _, rfl⟩
  · exact secJ_size (show 4 ≤ 63 by decide)
  · exact partS_size s i
theorem wJ_sec {s : ByteArray} {u k : Nat} {x : Wr} (h : x ∈ wJ s u k) : u ≤ x.sec.toNat ∧ x.sec.toNat ≤ u + k ∧ 0 ≤ x.sec := by
  rcases wJ_mem h with rfl | ⟨i, hi, rfl⟩
  · simp only [headW]; omega
  · simp only [partW]; omega
theorem wJ_len (s : ByteArray) (u k : Nat) : (wJ s u k).length = k + 1 := by simp [wJ]
theorem wJ_pair (s : ByteArray) (u k : Nat) : (wJ s u k).Pairwise (fun x y => x.sec.toNat ≠ y.sec.toNat) := by
  unfold wJ
  refine List.pairwise_cons.2 ⟨fun y hy => ?_, ?_⟩
  · obtain ⟨i, _, rfl⟩ := List.mem_map.1 hy
    simp only [headW, partW]; omega
  · rw [List.pairwise_map]
    refine List.Pairwise.imp ?_ (List.nodup_range (n := k))
    intro a b hab
    simp only [partW]
    omega
theorem head_congr {a b : List ByteArray} (hl : a.length = b.length) (h0 : secAt a 0 = secAt b 0) (h1 : secAt a 1 = secAt b 1) (h2 : 2 ≤ a.length) : headJ a = headJ b := by
  rw [head_two h2, head_two (by omega)]
  unfold headStep headOk
  rw [h0, h1, hl]
/-- what lies behind all that is used may be anything -/
theorem JInv.same {n : Nat} {a b : List ByteArray} {turn used : Nat} {there : List ByteArray} (h : JInv n a turn used there) (hl : b.length = a.length) (hsz : ∀ s ∈ b, s.size = 64) (hs : ∀ i, i < used → secAt b i = secAt a i) : JInv n b turn used there := by
  have hlo := h.lo
  have h4 := h.n4
  have hle := h.len
  refine ⟨by omega, h4, h.n400, hsz, ?_, ?_, hlo, h.hi⟩
  · rw [head_congr hl (hs 0 (by omega)) (hs 1 (by omega)) (by omega)]
    exact h.hd
  · rw [texts_congr hs]
    exact h.tx
theorem JInv.part {n : Nat} {kept : List ByteArray} {turn used : Nat} {there : List ByteArray} (h : JInv n kept turn used there) (f : Nat → Bool) (s : ByteArray) (k : Nat) : JInv n (keptF f 0 (wJ s used k) kept) turn used there := by
  refine h.same (keptF_len _ _ _ _) (keptF_all f 0 _ _ (fun x hx => wJ_size hx) h.sz) fun i hi => keptF_sec f i _ _ _ fun x hx => ?_
  have := wJ_sec hx
  omega
/-- the text, written whole -/
def fullJ (kept : List ByteArray) (s : ByteArray) (u : Nat) : List ByteArray := keptF allB 0 (wJ s u (partsJ s.size)) kept
theorem full_head {kept : List ByteArray} {s : ByteArray} {u : Nat} (h : u + 1 + partsJ s.size ≤ kept.length) : secAt (fullJ kept s u) u = secJ 84 (numJ s.size) :=
  keptF_whole _ 0 kept (wJ_pair s u _) (fun x hx => by have := wJ_sec hx; omega) (headW s u) List.mem_cons_self
theorem full_part {kept : List ByteArray} {s : ByteArray} {u : Nat} (h : u + 1 + partsJ s.size ≤ kept.length) {i : Nat} (hi : i < partsJ s.size) : secAt (fullJ kept s u) (u + 1 + i) = partS s i :=
  keptF_whole _ 0 kept (wJ_pair s u _) (fun x hx => by have := wJ_sec hx; omega) (partW s u i) (List.mem_cons_of_mem _ (List.mem_map.2 ⟨i, List.mem_range.2 hi, rfl⟩))
theorem full_pieces {kept : List ByteArray} {s : ByteArray} {u : Nat} (h : u + 1 + partsJ s.size ≤ kept.length) : ∀ (m i : Nat), i + m = partsJ s.size → ∃ z, piecesJ (fullJ kept s u) (u + 1 + i) m = some (s.data.toList.drop (63 * i) ++ z)
  | 0, i, hi => by
    refine ⟨[], ?_⟩
    have hl : s.data.toList.length = s.size := rfl
    unfold partsJ at hi
    rw [piecesJ, List.drop_eq_nil_of_le (by omega)]
    rfl
  | m + 1, i, hi => by
    obtain ⟨z, hz⟩ := full_pieces h m (i + 1) (by omega)
    have hl : s.data.toList.length = s.size := rfl
    have hp : (partS s i).data.toList = [80] ++ (s.data.toList.drop (63 * i)).take 63 ++ List.replicate (63 - ((s.data.toList.drop (63 * i)).take 63).length) 0 := rfl
    have hb : byteJ (partS s i) 0 = 80 := rfl
    rw [piecesJ, full_part h (by omega), if_pos hb, show u + 1 + i + 1 = u + 1 + (i + 1) by omega, hz, hp]
    simp only
    rw [List.append_assoc, List.singleton_append, List.drop_succ_cons, List.drop_zero]
    by_cases hc : 63 * (i + 1) ≤ s.size
    · have h1 : 63 - ((s.data.toList.drop (63 * i)).take 63).length = 0 := by
        rw [List.length_take, List.length_drop]; omega
      refine ⟨z, ?_⟩
      rw [h1, List.replicate_zero, List.append_nil, ← List.append_assoc, show 63 * (i + 1) = 63 * i + 63 by omega, ← List.drop_drop, List.take_append_drop]
    · have h1 : s.data.toList.drop (63 * (i + 1)) = [] := List.drop_eq_nil_of_le (by omega)
      have h2 : (s.data.toList.drop (63 * i)).take 63 = s.data.toList.drop (63 * i) := List.take_of_length_le (by rw [List.length_drop]; omega)
      exact ⟨_, by rw [h1, h2, List.nil_append, List.append_assoc]⟩
theorem full_text {kept : List ByteArray} {s : ByteArray} {u : Nat} (h : u + 1 + partsJ s.size ≤ kept.length) (hs : s.size ≤ 2000) : textJ (fullJ kept s u) u (u + 1 + partsJ s.size) = some (s, u + 1 + partsJ s.size) := by
  have ht : toldJ (secJ 84 (numJ s.size)) 1 = s.size := byteJ_num 84 s.size (List.replicate (63 - (numJ s.size).size) 0) _ rfl (by omega)
  obtain ⟨z, hz⟩ := full_pieces h (partsJ s.size) 0 (by omega)
  have hb : byteJ (secJ 84 (numJ s.size)) 0 = 84 := rfl
  unfold textJ
  rw [full_head h, if_pos hb, ht, if_pos ⟨hs, by omega⟩]
  rw [Nat.add_zero, Nat.mul_zero, List.drop_zero] at hz
  rw [hz]
  simp only
  rw [show s.size = s.data.toList.length from rfl, List.take_left]
  rfl
theorem full_texts {n : Nat} {kept : List ByteArray} {turn u : Nat} {there : List ByteArray} (h : JInv n kept turn u there) {s : ByteArray} (hs : s.size ≤ 2000) (hu : u + 1 + partsJ s.size ≤ kept.length) :
    textsJ (fullJ kept s u) (u + 1 + partsJ s.size) (u + 1 + partsJ s.size) 2 = some (there ++ [s]) := by
  have hI := h.part allB s (partsJ s.size)
  refine texts_more (a := fullJ kept s u) (b := fullJ kept s u) (fun _ _ => rfl) (by omega) (fun g hg => ?_) u 2 there h.lo (by omega) hI.tx _ (by omega)
  obtain ⟨g, rfl⟩ : ∃ k, g = k + 1 := ⟨g - 1, by omega⟩
  rw [textsJ, if_pos (by omega), full_text hu hs]
  simp only
  cases g with
  | zero => rfl
  | succ g => rw [textsJ, if_neg (by omega)]
/-- the head of the turn behind it -/
def nextH (turn u : Nat) : ByteArray := secJ 72 (bs ((numJ (turn + 1)).data.toList ++ (numJ u).data.toList))
theorem nextH_told (turn u : Nat) (h1 : turn + 1 < 4294967296) (h2 : u < 4294967296) : byteJ (nextH turn u) 0 = 72 ∧ toldJ (nextH turn u) 1 = turn + 1 ∧ toldJ (nextH turn u) 5 = u := by
  refine ⟨rfl, byteJ_num 72 (turn + 1) ((numJ u).data.toList ++ List.replicate (63 - (bs ((numJ (turn + 1)).data.toList ++ (numJ u).data.toList)).size) 0) _ ?_ h1, ?_⟩
  · show [72] ++ ((numJ (turn + 1)).data.toList ++ (numJ u).data.toList) ++ _ = _
    simp only [List.append_assoc]
  · unfold toldJ byteJ
    show (UInt8.ofNat u).toNat + 256 * (UInt8.ofNat (u / 256)).toNat + 65536 * (UInt8.ofNat (u / 65536)).toNat + 16777216 * (UInt8.ofNat (u / 16777216)).toNat = u
    simp only [UInt8.toNat_ofNat']
    omega
theorem head_next {kept : List ByteArray} {turn used u : Nat} {s : ByteArray} (hl : 2 ≤ kept.length) (h : headJ kept = ((turn : Int), used)) (hb : byteJ s 0 = 72) (ht : toldJ s 1 = turn + 1) (hu : toldJ s 5 = u) (h2 : 2 ≤ u) (hk : u ≤ kept.length) :
    headJ (kept.set ((turn + 1) % 2) s) = (((turn + 1 : Nat) : Int), u) := by
  rw [head_two hl] at h
  rw [head_two (by rw [List.length_set]; exact hl)]
  have hlen : (kept.set ((turn + 1) % 2) s).length = kept.length := List.length_set
  rcases Nat.mod_two_eq_zero_or_one (turn + 1) with hp | hp
  · rw [hp] at hlen ⊢
    have e0 : headStep (kept.set 0 s) 0 (-1, 0) = (((turn + 1 : Nat) : Int), u) := by
      unfold headStep headOk
      rw [secAt_set_same (by omega), ht, hu, hlen, if_pos]
      simp only [Bool.and_eq_true, decide_eq_true_eq]
      omega
    rw [e0]
    unfold headStep headOk
    rw [secAt_set (by omega : 0 ≠ 1), if_neg]
    simp only [Bool.and_eq_true, decide_eq_true_eq]
    rintro ⟨⟨⟨⟨q1, q2⟩, q3⟩, q4⟩, q5⟩
    rw [hlen] at q5
    generalize hp0 : headStep kept 0 (-1, 0) = p0 at h
    unfold headStep at h hp0
    split at h
    · have := congrArg Prod.fst h
      simp only at this
      omega
    · subst h
      split at hp0
      · rename_i hok0
        unfold headOk at hok0
        simp only [Bool.and_eq_true, decide_eq_true_eq] at hok0
        have := congrArg Prod.fst hp0
        simp only at this
        omega
      · have := congrArg Prod.fst hp0
        simp only at this
        omega
  · rw [hp] at hlen ⊢
    have e0 : headStep (kept.set 1 s) 0 (-1, 0) = headStep kept 0 (-1, 0) := by
      unfold headStep headOk
      rw [secAt_set (by omega : 1 ≠ 0), hlen]
    rw [e0]
    have e1 : (headStep kept 0 (-1, 0)).1 ≤ turn := by
      have h3 : ∀ p : Int × Nat, p.1 ≤ (headStep kept 1 p).1 := fun p => by
        unfold headStep
        split
        · rename_i hok
          unfold headOk at hok
          simp only [Bool.and_eq_true, decide_eq_true_eq] at hok
          simp only
          omega
        · exact Int.le_refl _
      have := h3 (headStep kept 0 (-1, 0))
      rw [h] at this
      exact this
    generalize headStep kept 0 (-1, 0) = p at e1
    unfold headStep headOk
    rw [secAt_set_same (by omega), ht, hu, hlen, if_pos]
    simp only [Bool.and_eq_true, decide_eq_true_eq]
    omega
/-- behind the head's write -/
theorem JInv.next {n : Nat} {kept : List ByteArray} {turn u : Nat} {there : List ByteArray} (h : JInv n kept turn u there) {s : ByteArray} (hs : s.size ≤ 2000) (hu : u + 1 + partsJ s.size ≤ n) (ht : turn ≤ 30) :
    JInv n ((fullJ kept s u).set ((turn + 1) % 2) (nextH turn (u + 1 + partsJ s.size))) (turn + 1) (u + 1 + partsJ s.size) (there ++ [s]) := by
  have hI : JInv n (fullJ kept s u) turn u there := h.part allB s (partsJ s.size)
  have h4 := h.n4
  have h400 := h.n400
  have hl := hI.len
  have hlo := h.lo
  obtain ⟨n1, n2, n3⟩ := nextH_told turn (u + 1 + partsJ s.size) (by omega) (by omega)
  refine ⟨by rw [List.length_set]; exact hl, h4, h400, fun x hx => ?_, head_next (by omega) hI.hd n1 n2 n3 (by omega) (by omega), ?_, by omega, hu⟩
  · rcases List.mem_or_eq_of_mem_set hx with hx | rfl
    · exact hI.sz x hx
    · exact secJ_size (show 8 ≤ 63 by decide)
  · rw [texts_congr2 (b := fullJ kept s u) (fun i hi _ => secAt_set (by omega)) _ 2 (Nat.le_refl _)]
    exact full_texts h hs (by rw [h.len]; exact hu)
/-- a fresh one -/
theorem JInv.fresh {n : Nat} (h4 : 4 ≤ n) (h400 : n ≤ 400) : (formatJ n).2 = 0 ∧ (formatJ n).1.wr = [] ∧ JInv n (formatJ n).1.kept 0 2 [] := by
  have e : formatJ n = (⟨secJ 72 (bs ((numJ 0).data.toList ++ (numJ 2).data.toList)) :: List.replicate (n - 1) blank, []⟩, 0) := by
    unfold formatJ
    rw [if_neg (by omega), if_neg (by omega), show ((n : Nat) : Int).toNat = n from rfl]
  rw [e]
  refine ⟨rfl, rfl, by simp; omega, h4, h400, fun s hs => ?_, ?_, rfl, Nat.le_refl _, by omega⟩
  · rcases List.mem_cons.1 hs with rfl | hs
    · exact secJ_size (by decide)
    · rw [(List.mem_replicate.1 hs).2]; rfl
  · obtain ⟨m, rfl⟩ : ∃ m, n = m + 2 := ⟨n - 2, by omega⟩
    rw [head_two (by simp)]
    have s0 : ∀ l, secAt (secJ 72 (bs ((numJ 0).data.toList ++ (numJ 2).data.toList)) :: l) 0 = secJ 72 (bs ((numJ 0).data.toList ++ (numJ 2).data.toList)) := fun l => rfl
    have s1 : ∀ x l, secAt (x :: blank :: l) 1 = blank := fun x l => rfl
    have e0 : headStep (secJ 72 (bs ((numJ 0).data.toList ++ (numJ 2).data.toList)) :: List.replicate (m + 2 - 1) blank) 0 (-1, 0) = (0, 2) := by
      unfold headStep headOk
      rw [s0]
      have t1 : toldJ (secJ 72 (bs ((numJ 0).data.toList ++ (numJ 2).data.toList))) 1 = 0 := rfl
      have t2 : toldJ (secJ 72 (bs ((numJ 0).data.toList ++ (numJ 2).data.toList))) 5 = 2 := rfl
      have t3 : byteJ (secJ 72 (bs ((numJ 0).data.toList ++ (numJ 2).data.toList))) 0 = 72 := rfl
      rw [t1, t2, t3, if_pos]
      · rfl
      · simp
    rw [e0]
    unfold headStep headOk
    rw [show m + 2 - 1 = m + 1 by omega, List.replicate_succ, s1, if_neg]
    · rfl
    · have : byteJ blank 0 = 0 := rfl
      rw [this]
      simp
end Go.Proofs.Ytoghgjobfcnneaa
