/- Trees: how data read out of memory; what a frame knows. -/
import Derived.Test.YtoghgjobfcnneaaApp
namespace Go.Proofs.Ytoghgjobfcnneaa.Ax
open Go.RowKit
/-- what a cell of memory that nobody writes reads as -/
inductive T where
  | lit (v : Value)
  | sl (rows : List (List T))
  | ptr (row : List T)
  | fn (f : FuncId) (caps : List T)
mutual
def RdT (w : World) (ok : Nat → Prop) : T → Value → Prop
  | .lit v, x => x = v ∧ v.oneCell' = true
  | .sl rows, x => ∃ A n c, x = .slice A n c ∧ rows.length = n ∧ n ≤ c ∧ (n = 0 ∨ ∃ b o s, A = some ⟨b, o, none⟩ ∧ ok b ∧ RdRows w ok s b o rows)
  | .ptr row, x => ∃ b o, x = .pointer (some ⟨b, o, none⟩) ∧ ok b ∧ RdRow w ok b o row
  | .fn f caps, x => ∃ xs, x = .func (.func f) #[] xs ∧ RdL w ok caps xs.toList
def RdRow (w : World) (ok : Nat → Prop) (b : Nat) : Nat → List T → Prop
  | _, [] => True
  | o, c :: cs => (∃ y, w.cell? ⟨b, o, none⟩ = some y ∧ RdT w ok c y) ∧ RdRow w ok b (o + 1) cs
def RdRows (w : World) (ok : Nat → Prop) (s : Nat) (b : Nat) : Nat → List (List T) → Prop
  | _, [] => True
  | o, r :: rs => r.length = s ∧ RdRow w ok b o r ∧ RdRows w ok s b (o + s) rs
def RdL (w : World) (ok : Nat → Prop) : List T → List Value → Prop
  | [], [] => True
  | c :: cs, x :: xs => RdT w ok c x ∧ RdL w ok cs xs
  | _, _ => False
end
section
variable {w w' : World} {ok ok' : Nat → Prop}
mutual
theorem RdT.mono (h : ∀ b, ok b → ok' b ∧ w'.heap[b]? = w.heap[b]?) : ∀ {t : T} {x : Value}, RdT w ok t x → RdT w' ok' t x
  | .lit v, x, hr => by unfold RdT at hr ⊢; exact hr
  | .sl rows, x, hr => by
    unfold RdT at hr ⊢
    obtain ⟨A, n, c, h1, h2, h3, h4⟩ := hr
    refine ⟨A, n, c, h1, h2, h3, h4.imp id ?_⟩
    rintro ⟨b, o, s, h5, h6, h7⟩
    exact ⟨b, o, s, h5, (h b h6).1, RdRows.mono h (h b h6).2 h7⟩
  | .ptr row, x, hr => by
    unfold RdT at hr ⊢
    obtain ⟨b, o, h1, h2, h3⟩ := hr
    exact ⟨b, o, h1, (h b h2).1, RdRow.mono h (h b h2).2 h3⟩
  | .fn f caps, x, hr => by
    unfold RdT at hr ⊢
    obtain ⟨xs, h1, h2⟩ := hr
    exact ⟨xs, h1, RdL.mono h h2⟩
theorem RdRow.mono (h : ∀ b, ok b → ok' b ∧ w'.heap[b]? = w.heap[b]?) {b : Nat} (hb : w'.heap[b]? = w.heap[b]?) : ∀ {cs : List T} {o : Nat}, RdRow w ok b o cs → RdRow w' ok' b o cs
  | [], _, hr => by unfold RdRow; trivial
  | c :: cs, o, hr => by
    unfold RdRow at hr ⊢
    obtain ⟨⟨y, h1, h2⟩, h3⟩ := hr
    exact ⟨⟨y, (World.cell?_of_block (w := w) (a := ⟨b, o, none⟩) hb).trans h1, RdT.mono h h2⟩, RdRow.mono h hb h3⟩
theorem RdRows.mono (h : ∀ b, ok b → ok' b ∧ w'.heap[b]? = w.heap[b]?) {b s : Nat} (hb : w'.heap[b]? = w.heap[b]?) : ∀ {rs : List (List T)} {o : Nat}, RdRows w ok s b o rs → RdRows w' ok' s b o rs
  | [], _, hr => by unfold RdRows; trivial
  | r :: rs, o, hr => by
    unfold RdRows at hr ⊢
    exact ⟨hr.1, RdRow.mono h hb hr.2.1, RdRows.mono h hb hr.2.2⟩
theorem RdL.mono (h : ∀ b, ok b → ok' b ∧ w'.heap[b]? = w.heap[b]?) : ∀ {cs : List T} {xs : List Value}, RdL w ok cs xs → RdL w' ok' cs xs
  | [], [], _ => by unfold RdL; trivial
  | c :: cs, x :: xs, hr => by
    unfold RdL at hr ⊢
    exact ⟨RdT.mono h hr.1, RdL.mono h hr.2⟩
  | [], _ :: _, hr => by unfold RdL at hr; exact hr.elim
  | _ :: _, [], hr => by unfold RdL at hr; exact hr.elim
end
end
end Go.Proofs.Ytoghgjobfcnneaa.Ax
