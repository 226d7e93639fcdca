/- Arguments that come in, read as trees. -/
import Derived.Test.YtnjjpblgcgikaaaDoorAxG5
import Derived.Test.YtnjjpblgcgikaaaDoorOpens
namespace Go.Proofs.YtnjjpblgcgikaaaDoor.Ax
open Go.RowKit Go.Deep
section
variable {w : World} {ok : Nat → Prop}
end
/-- arguments of a type read as data, whose trees these are -/
structure OpensE {α : Type} (P : Program) (N : Nat) (sz : Nat) (f : α → List T) (t : TypeId) (good : α → Prop) : Prop where
  cells : P.cellsOf t = sz
  len : ∀ y, (f y).length = sz
  opens : ∀ {H : Type} {enc : TypeId × Value → H} {w : World} {base : Nat} {spare : Nat → Bool} {held : Bool} {fuel : Nat} {cs : List Value} {x : DataW H × List MemPlace},
    fuel ≤ N → DataW.trod enc P w base spare held fuel t cs = some x → (DataW.weights P t x.1).all (· ≤ reachBytes) = true → ∃ y, RdL w (fun b => b < w.heap.size) (f y) cs ∧ good y
section
variable {P : Program} {N : Nat} {t : TypeId}
theorem rdL_one {w : World} {ok : Nat → Prop} {v : Value} (h : v.oneCell' = true) : RdL w ok [.lit v] [v] := by
  unfold RdL RdT RdL
  exact ⟨⟨rfl, h⟩, trivial⟩
theorem oeInt (hu : P.underlying t = some (.int .i64)) (hc : P.cellsOf t = 1) : OpensE P N 1 (fun n => [.lit (.int .i64 n)]) t fun n => -9223372036854775808 ≤ n ∧ n ≤ 9223372036854775807 where
  cells := hc
  len _ := rfl
  opens _ h _ := by
    obtain ⟨n, rfl, _, hw⟩ := DataW.trod_int hu h
    refine ⟨n, rdL_one rfl, ?_⟩
    simp only [Lit.wf, Bool.and_eq_true, decide_eq_true_eq] at hw
    exact hw
theorem oeStr (hu : P.underlying t = some .string) (hc : P.cellsOf t = 1) : OpensE P N 1 (fun s => [.lit (.string s)]) t fun s => s.size ≤ 140737488351232 where
  cells := hc
  len _ := rfl
  opens _ h hw := by
    obtain ⟨s, rfl, hx, hs⟩ := DataW.trod_string hu h
    refine ⟨s, rdL_one rfl, ?_⟩
    rw [hx] at hw
    simp only [DataW.weights, List.all_cons, List.all_nil, Bool.and_true, Array.length_toList] at hw
    exact of_decide_eq_true hw
structure OeParts {α : Type} (P : Program) (N : Nat) (sz : Nat) (f : α → List T) (ts : List TypeId) (good : α → Prop) : Prop where
  cells : (ts.map P.cellsOf).sum = sz
  len : ∀ y, (f y).length = sz
  opens : ∀ {H : Type} {enc : TypeId × Value → H} {w : World} {base : Nat} {spare : Nat → Bool} {held : Bool} {fuel : Nat} {cs : List Value} {xs : List (DataW H × List MemPlace)},
    fuel ≤ N → PartsOk P enc w base spare held fuel ts cs xs → (DataW.weightsEach P ts (xs.map (·.1))).all (· ≤ reachBytes) = true → ∃ y, RdL w (fun b => b < w.heap.size) (f y) cs ∧ good y
theorem oeOne {α : Type} {f : α → List T} {sz : Nat} {good : α → Prop} (O : OpensE P N sz f t good) : OeParts P N sz f [t] good where
  cells := by simp [O.cells]
  len := O.len
  opens := by
    intro H enc w base spare held fuel cs xs hN h hw
    match xs, h with
    | [x], ⟨h1, h2⟩ =>
      have h2 : cs.drop (P.cellsOf t) = [] := h2
      simp only [List.map_cons, List.map_nil, DataW.weightsEach, List.append_nil] at hw
      have e : cs.take (P.cellsOf t) = cs := by
        have := List.take_append_drop (P.cellsOf t) cs
        rw [h2, List.append_nil] at this
        exact this
      rw [e] at h1
      exact O.opens hN h1 hw
theorem oeCons {α β : Type} {f : α → List T} {g : β → List T} {sz sz' : Nat} {ts : List TypeId} {good : α → Prop} {good' : β → Prop} (O : OpensE P N sz f t good) (O' : OeParts P N sz' g ts good') : OeParts P N (sz + sz') (fun x : α × β => f x.1 ++ g x.2) (t :: ts) fun x => good x.1 ∧ good' x.2 where
  cells := by rw [List.map_cons, List.sum_cons, O.cells, O'.cells]
  len y := by rw [List.length_append, O.len, O'.len]
  opens := by
    intro H enc w base spare held fuel cs xs hN h hw
    match xs, h with
    | x :: xs, ⟨h1, h2⟩ =>
      simp only [List.map_cons, DataW.weightsEach, List.all_append, Bool.and_eq_true] at hw
      obtain ⟨y, a1, a2⟩ := O.opens hN h1 hw.1
      obtain ⟨z, b1, b2⟩ := O'.opens hN h2 hw.2
      refine ⟨(y, z), ?_, a2, b2⟩
      rw [← List.take_append_drop (P.cellsOf t) cs]
      exact a1.append b1
theorem oeStruct {α : Type} {f : α → List T} {sz : Nat} {good : α → Prop} {fs : Array Field} {ts : List TypeId} (hu : P.underlying t = some (.struct fs)) (hts : fs.toList.map (·.type) = ts) (ho : offsOk P 0 fs.toList = true) (hc : P.cellsOf t = (ts.map P.cellsOf).sum) (hcr : P.cellsOf t = sz) (hlen : ∀ y, (f y).length = sz) (O : ∀ M, M < N → OeParts P M sz f ts good) : OpensE P N sz f t good where
  cells := hcr
  len := hlen
  opens := by
    intro H enc w base spare held fuel cs x hN h hw
    obtain ⟨xs, n, rfl, hx, hln, hxl, hf⟩ := DataW.trod_struct hu h
    subst hts
    have hp := parts_of (P := P) (n := n) (enc := enc) (w := w) (base := base) (spare := spare) (held := held) fs.toList 0 cs xs ho (by rw [hln, hc]; omega) (by simpa using hxl) fun i f hfi => hf i f (by simpa using hfi)
    rw [List.drop_zero] at hp
    rw [hx] at hw
    simp only [DataW.weights, hu] at hw
    exact (O n (by omega)).opens (Nat.le_refl _) hp hw
/-- the same data in other words -/
theorem oeTo {α β : Type} {f : α → List T} {sz : Nat} {good : α → Prop} (O : OpensE P N sz f t good) (m : α → β) {f' : β → List T} {good' : β → Prop} (hf : ∀ x, f' (m x) = f x) (hl : ∀ y, (f' y).length = sz) (hg : ∀ x, good x → good' (m x)) : OpensE P N sz f' t good' where
  cells := O.cells
  len := hl
  opens := by
    intro H enc w base spare held fuel cs x hN ht hw
    obtain ⟨y, h1, h2⟩ := O.opens hN ht hw
    exact ⟨m y, by rw [hf]; exact h1, hg y h2⟩
/-- an argument -/
theorem oeArg {α : Type} {f : α → List T} {sz : Nat} {good : α → Prop} (O : ∀ N, OpensE P N sz f t good) {H : Type} {enc : TypeId × Value → H} {w : World} {base : Nat} {spare : Nat → Bool} {held : Bool} {cs : List Value} {x : DataW H × List MemPlace}
    (h : ∃ fuel, DataW.trod enc P w base spare held fuel t cs = some x) (hw : (DataW.weights P t x.1).all (· ≤ reachBytes) = true) : ∃ y, RdL w (fun b => b < w.heap.size) (f y) cs ∧ good y := by
  obtain ⟨fuel, hf⟩ := h
  exact (O fuel).opens (Nat.le_refl _) hf hw
end
/-- a law, walked: what its row needs -/
theorem Sp.law {P : Program} {f : FuncId} {args : List A} {w : World} {vs : List Value} (h : Sp P f args (.one (.t true (.lit (.bool true)))) []) (hG : GW w) (hvs : RdAs w (fun b => b < w.heap.size) args vs) : Calls P f vs.toArray w fun e w' => e = .returned (.bool true) ∧ Below w.heap.size w w' :=
  (h.calls w (fun b => b < w.heap.size) (fun _ h => h) vs hG hvs).mono fun e w' => by
    rintro ⟨x, ρ, rfl, hb, _, _, _, hx, _⟩
    unfold RdV RdC RdT at hx
    exact ⟨by rw [hx.1], hb⟩
section
variable {w : World} {ok : Nat → Prop}
theorem rdAs_nil : RdAs w ok [] [] := by unfold RdAs; trivial
theorem rdAs_cons {a : A} {as_ : List A} {v : Value} {vs : List Value} (h : RdA w ok a v) (h' : RdAs w ok as_ vs) : RdAs w ok (a :: as_) (v :: vs) := by unfold RdAs; exact ⟨h, h'⟩
theorem rdA_agg {ts : List T} {cs : Array Value} (h : RdL w ok ts (Value.agg cs).cells.toList) : RdA w ok (.agg ts) (.agg cs) := by unfold RdA; exact ⟨cs, rfl, h⟩
theorem rdA_lit {v : Value} (h : v.oneCell' = true) : RdA w ok (.one (.lit v)) v := by unfold RdA RdT; exact ⟨rfl, h⟩
end
end Go.Proofs.YtnjjpblgcgikaaaDoor.Ax
