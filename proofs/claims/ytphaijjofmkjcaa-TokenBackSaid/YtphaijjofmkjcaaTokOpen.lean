/- Arguments opened: a list of tokens. -/
import Derived.Test.YtphaijjofmkjcaaOps
import Derived.WalkKit
import Derived.ProofKit
import Derived.OpenShut
import Derived.ShutString
import Derived.ChangeOld
import Derived.Below
import Derived.Deep.Slices
import Derived.Deep.Fields
import Derived.ChangeSame
namespace Go.Proofs.Ytphaijjofmkjcaa
open Go.ChangeShapes Go.WideShapes Go.ChangeAt Go.RowKit Go.Deep
theorem cellsTok : Try.prog.cellsOf 34 = 3 := by kernel_rfl
theorem cellsInt : Try.prog.cellsOf 3 = 1 := by kernel_rfl
theorem cellsStr : Try.prog.cellsOf 9 = 1 := by kernel_rfl
section
variable {H : Type} {enc : TypeId × Value → H} {w : World} {base : Nat} {spare : Nat → Bool} {held : Bool}
/-- a value's three cells, read as data -/
theorem trod_tok {fuel : Nat} {cs : List Value} {x : DataW H × List MemPlace} (h : DataW.trod enc Try.prog w base spare held fuel 34 cs = some x) : ∃ v : Vl, cs = v.cells ∧ v.s.size ≤ maxLen := by
  obtain ⟨ys, n, _, _, hlen, hyl, hf⟩ := DataW.trod_struct Try.underlying34 h
  rw [cellsTok] at hlen
  match cs, hlen with
  | [c0, c1, c2], _ =>
    have hl3 : ys.length = 3 := hyl
    have e0 : DataW.trod enc Try.prog w base spare held n 3 [c0] = some ys[0] := by
      have := hf 0 _ rfl
      rw [List.getElem?_eq_getElem (by omega)] at this
      simpa [cellsInt] using this
    have e1 : DataW.trod enc Try.prog w base spare held n 3 [c1] = some ys[1] := by
      have := hf 1 _ rfl
      rw [List.getElem?_eq_getElem (by omega)] at this
      simpa [cellsInt] using this
    have e2 : DataW.trod enc Try.prog w base spare held n 9 [c2] = some ys[2] := by
      have := hf 2 _ rfl
      rw [List.getElem?_eq_getElem (by omega)] at this
      simpa [cellsStr] using this
    obtain ⟨k, hk, _, _⟩ := DataW.trod_int Try.underlying3 e0
    obtain ⟨m, hm, _, _⟩ := DataW.trod_int Try.underlying3 e1
    obtain ⟨t, ht, _, hs⟩ := DataW.trod_string Try.underlying9 e2
    simp only [List.cons.injEq, and_true] at hk hm ht
    exact ⟨⟨k, m, t⟩, by rw [hk, hm, ht], hs⟩
/-- a list of tokens that came in -/
theorem open_toks {fuel : Nat} {A : Option Addr} {len cap : Nat} {x : DataW H × List MemPlace} (h : DataW.trod enc Try.prog w base spare held fuel 22 [.slice A len cap] = some x) (hlt : ∀ p ∈ x.2, p.block < w.heap.size) :
    (∃ vs, RdV w w.heap.size A len vs ∧ len ≤ maxLen ∧ ∀ v ∈ vs, v.s.size ≤ maxLen) ∧ (len = 0 ∨ ∃ es sp, x.1 = .slice es sp ∧ len = es.length) := by
  rcases open_slice Try.underlying22 h with ⟨hcs, _⟩ | ⟨a, l, c, m, n, D, Pl, hcs, hb, hl, hm, hmm, rfl, hi⟩
  · simp only [List.cons.injEq, Value.slice.injEq, and_true] at hcs
    obtain ⟨rfl, rfl, rfl⟩ := hcs
    exact ⟨⟨[], Rd.nil, Nat.zero_le _, by simp⟩, .inl rfl⟩
  · simp only [List.cons.injEq, Value.slice.injEq, and_true] at hcs
    obtain ⟨rfl, rfl, rfl⟩ := hcs
    refine ⟨?_, .inr ⟨_, _, rfl, by simp⟩⟩
    rw [cellsTok] at hi
    have hle : len ≤ m := by rw [hmm]; split <;> omega
    have hv : ∀ i, i < len → ∃ v : Vl, (∀ j, j < 3 → w.cell? (a.add (i * 3 + j)) = v.cells[j]?) ∧ v.s.size ≤ maxLen := fun i hil => by
      obtain ⟨cs', h1, h2⟩ := hi i (by omega)
      obtain ⟨v, rfl, hs⟩ := trod_tok h2
      obtain ⟨_, _, hg⟩ := World.cells?_some h1
      exact ⟨v, fun j hj => by rw [← hg j hj, add_add'], hs⟩
    obtain ⟨f, hf⟩ := @choose_lt Vl ⟨Vl.zero⟩ len _ hv
    rcases Nat.eq_zero_or_pos len with h0 | h0
    · subst h0; exact ⟨[], Rd.nil, Nat.zero_le _, by simp⟩
    · have hsp : a.spot = none := by
        have := (hf 0 h0).1 0 (by omega)
        have h1 : w.cell? (a.add 0) = some (.int .i64 (f 0).k) := by simpa using this
        simpa [Addr.add] using World.cell?_spot h1
      obtain ⟨b, o, s⟩ := a
      simp only at hsp
      subst hsp
      have hadd : ∀ i, (⟨b, o, none⟩ : Addr).add i = ⟨b, o + i, none⟩ := fun i => by unfold Addr.add; split <;> simp_all
      refine ⟨(List.range len).map f, ⟨?_, .inr ⟨b, o, rfl, ?_, ?_⟩⟩, Nat.le_trans hl hm, ?_⟩
      · rw [show ((List.range len).map f).flatMap Vl.cells = cellsV ((List.range len).map f) from rfl, cellsV_len]; simp
      · refine hlt (.cell b o) ?_
        refine List.mem_append_left _ ?_
        rw [cellsTok]
        simp only [MemPlace.row, List.mem_map, List.mem_range]
        exact ⟨0, by omega, by simp⟩
      · intro j u hu
        have hj : j = 3 * (j / 3) + j % 3 := by omega
        rw [hj, flat3_get _ (fun _ => rfl) _ _ _ (by omega)] at hu
        rcases Nat.lt_or_ge (j / 3) len with hq | hq
        · have := (hf (j / 3) hq).1 (j % 3) (by omega)
          rw [hadd, show j / 3 * 3 + j % 3 = j by omega] at this
          rw [this, ← hu]
          simp [hq]
        · rw [List.getElem?_eq_none (by simpa using hq)] at hu
          cases hu
      · intro v hv
        obtain ⟨i, hi, rfl⟩ := List.mem_map.1 hv
        exact (hf i (List.mem_range.1 hi)).2
end
end Go.Proofs.Ytphaijjofmkjcaa
