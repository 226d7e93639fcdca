/- A row of one's own cleared from its start. -/
import Derived.Test.YtnjjpblgcgikaaaDoorAxG9
namespace Go.Proofs.YtnjjpblgcgikaaaDoor.Ax
open Go.RowKit
set_option linter.unusedSimpArgs false
attribute [local go_sem] extV appD cutOwn appOwn clearOwn bdI mapD putD' keyOk getOr getM putM wholeV litCs asV asC ptrC fnC nilC nilPtr strRows_len runs runsN guardOf exec1 pureV modD rowD ev get St.app St.put St.turn loadC moveC fieldOf indexC lenC lenOk cutC bndOf evAll fieldV convV unV binV binI bitsV moreV intsT eqL eq1 valOf min1 lit1 litInt litI litB litS constV constC cellsV partsOf placesOf buildV fillL toT elemsOf rowsOf baseOf dstOk V.kill V.ment V.ments C.kill C.ment C.ments B.kill setD litRows litRows_append T.isLit callAll calleeV argsV argV viewC viewCs modeOk freeOps V.free C.free V.allF V.allFs C.allF C.allFs B.allF callD leL growSt C.flat V.flat B.flat flatL flatB St.flat List.set_cons_zero List.set_cons_succ C.only C.onlys V.only V.onlys B.only renI C.ren C.rens V.ren V.rens B.ren renB renOk nodK Option.getD_some Option.getD_none Option.isSome_some implies_true false_implies C.fit C.fits V.fit V.fit1 V.fits Bool.and_self ite_self exitV resV resL resC outV outV.outs eqB nn cast0 Int.toNat_natCast List.getElem?_map Value.cells Value.oneCell' Nat.lt_irrefl decide_true decide_false and_true true_and and_self and_false false_and not_true_eq_false not_false_eq_true not_true not_false List.size_toArray all_len Nat.zero_add Nat.add_zero List.length_cons List.length_append List.length_replicate List.length_set List.length_nil List.length_map List.map_cons List.map_nil List.take_succ_cons List.take_zero List.take_nil List.drop_succ_cons List.drop_zero List.drop_nil List.cons_append List.nil_append List.append_nil List.all_cons List.all_nil Bool.and_true Bool.true_and Bool.and_false Bool.false_and Bool.not_true Bool.not_false Bool.or_false Bool.or_true Bool.false_or Bool.true_or List.filter_cons List.filter_nil List.contains_cons List.contains_nil beq_self_eq_true List.getElem?_cons_zero List.getElem?_cons_succ List.getElem?_nil Option.map_some Option.map_none Option.toList_some Option.toList_none List.isEmpty_cons List.isEmpty_nil Bool.false_eq_true Bool.true_eq_false List.getElem?_toArray List.not_mem_nil List.mem_cons or_false forall_eq List.mem_singleton forall_const Option.toArray tailF addF flSl dKeeps flFree closF notF if_true if_false plans inD cleanSt dstsOf Oper.looksAt Op.operands Call.operands dnOf insN insAll prods pick stOf goneOf slOf blOf keepB' entD addB edge B.ment Region.binds tailOk clos List.any_cons List.any_nil List.filterMap_cons List.filterMap_nil ne_eq Bool.or_self List.isEmpty_iff Array.toList_append List.append_toArray Array.append_empty Option.bind_some Option.bind_none List.push_toArray
set_option linter.unusedVariables false
def clearOwn0 (P : Program) (st : St) : Op → Option Delta
  | .call ⟨.builtin .clear, ⟨[x]⟩, ⟨[t]⟩⟩ => match ev st x with
    | some (.one (.own id len)) => match get id st.bl with
      | some (.arr e size z rows) => match tyOf P t with
        | some y => match y.d with
          | .sl e1 => match tyOf P e1 with
            | some ye => if ye.zero.cells.toList.length = size ∧ len ≤ rows.length ∧ 1 ≤ len ∧ ye.zero.cells.toList.all (fun u => u.oneCell') = true then some (.mod (.tup []) [id] [] [(id, .arr e size z (rows.take 0 ++ List.replicate len (ye.zero.cells.toList.map T.lit) ++ rows.drop (0 + len)))]) else none
            | none => none
          | _ => none
        | none => none
      | _ => none
    | _ => none
  | _ => none
section
variable {w w' : World} {ρ : Nat → R} {P : Program} {X : Cx} {st : St} {a : Act} {t : TypeId} {y : Ty}
theorem clearOwn0_runs {o : Oper} {D : Delta} (h : clearOwn0 P st o.op = some D) : Runs P X st o D := by
  intro hdo ρ a w hH; clear hdo
  obtain ⟨dst, op, type, pos, after, guard⟩ := o
  simp only at h
  unfold clearOwn0 at h
  split at h
  · rename_i x t
    split at h
    · rename_i id len hx
      split at h
      · rename_i e s z rows hb
        split at h
        · rename_i y hy
          split at h
          · rename_i e1 hd
            split at h
            · rename_i ye hye
              split at h
              · rename_i hc
                obtain ⟨c1, c2, c3, c4⟩ := hc
                injection h with h
                subst h
                have hu := ty_sl hy hd
                have hv := ev_sound hH hx
                unfold RdV RdC at hv
                have hB := hH.blocks _ _ hb
                unfold HasB at hB
                cases hid : ρ id with
                | dead => simp [hid] at hv
                | nil =>
                  simp only [hid] at hv
                  omega
                | lie b cap =>
                  simp only [hid] at hv hB
                  obtain ⟨xs, g1, g2, g3⟩ := hB
                  have hls : 0 * s + len * s ≤ rows.length * s := by rw [← Nat.add_mul, Nat.zero_add]; exact Nat.mul_le_mul_right _ c2
                  have hrd := rd_zreps (w := w) (X := X) (ρ := ρ) z c4 len
                  have hvl : (List.replicate len ye.zero.cells.toList).flatten.length = len * s := by
                    rw [List.length_flatten, List.map_replicate, List.sum_replicate_nat, c1]
                  have htl := hrd.len
                  have hone : ∀ v ∈ (List.replicate len ye.zero.cells.toList).flatten, v.oneCell' = true := fun v hv => List.all_eq_true.1 hrd.one v hv
                  obtain ⟨cur, k1, k2, k3⟩ := put_seg hH hb hid (rows' := rows.take 0 ++ List.replicate len (ye.zero.cells.toList.map T.lit) ++ rows.drop (0 + len)) hrd (off := 0 * s) (by rw [hvl]; exact hls)
                    (by rw [List.flatten_append, List.flatten_append, flat_take rows 0 g3, flat_drop rows (0 + len) g3, ← htl, hvl, Nat.add_mul])
                    (fun r hr => by
                      rcases List.mem_append.1 hr with hr | hr
                      · rcases List.mem_append.1 hr with hr | hr
                        · exact g3 r (List.mem_of_mem_take hr)
                        · rw [(List.mem_replicate.1 hr).2, List.length_map, c1]
                      · exact g3 r (List.mem_of_mem_drop hr))
                    (by simp only [List.length_append, List.length_take, List.length_drop, List.length_replicate]; omega)
                  refine ⟨.tuple #[], ρ, _, .inl ?_, k3 _ _ ?_⟩
                  · have hstore := run_storeCells_at (P := P) b (0 * s) e ((List.replicate len ye.zero.cells.toList).flatten) 0 cur w k1 (by rw [Nat.add_zero]; exact k2) hone
                    rw [Nat.add_zero] at hstore
                    have hz := ty_zero hye w
                    have hzr := zero_rep ye.zero.cells len
                    obtain ⟨len', rfl⟩ : ∃ l, len = l + 1 := ⟨len - 1, by omega⟩
                    have hrun : (Builtin.clear_ #[t] type #[.slice (some ⟨b, 0 * s, none⟩) (len' + 1) (cap - 0)]).run P w = .ok (.tuple #[]) (w.setRow b (cur.toList.take (0 * s) ++ (List.replicate (len' + 1) ye.zero.cells.toList).flatten ++ cur.toList.drop (0 * s + ((List.replicate (len' + 1) ye.zero.cells.toList).flatten).length)).toArray) := by
                      simp only [Builtin.clear_, List.getElem?_toArray, List.getElem?_cons_zero, Sem.run_bind, run_underlying hu, Result.andThen_ok, hz, Sem.run_pure, hzr, hstore]
                    rw [Nat.zero_mul, Nat.sub_zero] at hrun
                    simp [execOp, resolve, invoke, builtin, hv, hrun]
                  · unfold RdV
                    exact ⟨#[], rfl, by unfold RdVs; trivial⟩
              · cases h
            · cases h
          · cases h
        · cases h
      · cases h
    · cases h
  · cases h
theorem rwr_clear0 {ops : Array Oper} {K : St → Prop} {o : Oper} {l : List Oper} {D : Delta} (hx : clearOwn0 P st o.op = some D) (hg : guardOf st ops o = some true) (hd : dstOk X.n o.dst = true) (h : RWr P X ops K (runs P X.n ops l (st.app D o.dst))) : RWr P X ops K (o :: l, st) := rw_step (clearOwn0_runs hx).step hg hd (rw_go h)
end
end Go.Proofs.YtnjjpblgcgikaaaDoor.Ax
