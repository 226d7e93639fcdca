/- Expressions, by what is known: their trees. -/
import Derived.Test.YtnjjpblgcgikaaaAxTy
import Derived.Test.YtnjjpblgcgikaaaAxG5
import Derived.Test.YtnjjpblgcgikaaaExPlain
namespace Go.Proofs.Ytnjjpblgcgikaaa.Ax
open Go.RowKit
set_option linter.unusedSimpArgs false
attribute [local go_sem] runs runsN guardOf exec1 pureV modD rowD ev get St.app St.put St.turn loadC moveC fieldOf indexC lenC lenOk cutC bndOf evAll fieldV convV unV binV binI bitsV moreV intsT eqL eq1 valOf min1 lit1 litInt litI litB litS constV constC cellsV partsOf placesOf buildV fillL toT elemsOf rowsOf baseOf dstOk V.kill V.ment V.ments C.kill C.ment C.ments B.kill setD litRows litRows_append T.isLit callAll calleeV argsV argV viewC viewCs modeOk freeOps V.free C.free V.allF V.allFs C.allF C.allFs B.allF callD leL growSt growB C.flat V.flat B.flat flatL flatB St.flat List.set_cons_zero List.set_cons_succ C.only C.onlys V.only V.onlys B.only renI C.ren C.rens V.ren V.rens B.ren renB renOk nodK Option.getD_some Option.getD_none Option.isSome_some implies_true false_implies C.fit C.fits V.fit V.fit1 V.fits Bool.and_self ite_self exitV resV resL resC outV outV.outs eqB nn cast0 Int.toNat_natCast List.getElem?_map Value.cells Value.oneCell' Nat.lt_irrefl decide_true decide_false and_true true_and and_self and_false false_and not_true_eq_false not_false_eq_true not_true not_false List.size_toArray all_len Nat.zero_add Nat.add_zero List.length_cons List.length_append List.length_replicate List.length_set List.length_nil List.length_map List.map_cons List.map_nil List.take_succ_cons List.take_zero List.take_nil List.drop_succ_cons List.drop_zero List.drop_nil List.cons_append List.nil_append List.append_nil List.all_cons List.all_nil Bool.and_true Bool.true_and Bool.and_false Bool.false_and Bool.not_true Bool.not_false Bool.or_false Bool.or_true Bool.false_or Bool.true_or List.filter_cons List.filter_nil List.contains_cons List.contains_nil beq_self_eq_true List.getElem?_cons_zero List.getElem?_cons_succ List.getElem?_nil Option.map_some Option.map_none Option.toList_some Option.toList_none List.isEmpty_cons List.isEmpty_nil Bool.false_eq_true Bool.true_eq_false List.getElem?_toArray List.not_mem_nil List.mem_cons or_false forall_eq List.mem_singleton forall_const Option.toArray flsOf flOf flDist flRd flChk flLe tailF addF flSl dKeeps flFree closF notF if_true if_false plans stepE inD cleanSt dstsOf Oper.looksAt Op.operands Call.operands dnOf insN insAll prods pick stOf goneOf slOf blOf keepB' entD addB edge B.ment Region.binds idsOf tailOk clos List.any_cons List.any_nil List.filterMap_cons List.filterMap_nil ne_eq Bool.or_self List.isEmpty_iff Array.toList_append List.append_toArray Array.append_empty Option.bind_some Option.bind_none List.push_toArray
abbrev rV1 (v : Vl) : List T := [.lit (.int .i64 v.k), .lit (.int .i64 v.n), .lit (.string v.s)]
abbrev aV1 (v : Vl) : A := .agg (rV1 v)
abbrev vV1 (z z' z'' : Bool) (v : Vl) : V := .agg [.t z (.lit (.int .i64 v.k)), .t z' (.lit (.int .i64 v.n)), .t z'' (.lit (.string v.s))]
abbrev vVt (v : Vl) : V := vV1 true true true v
abbrev rVs (l : List Vl) : List (List T) := l.map rV1
abbrev rC1 (c : Col) : List T := [.lit (.string c.name), .lit (.int .i64 c.ty)]
abbrev rCs (l : List Col) : List (List T) := l.map rC1
theorem litV_ (l : List Vl) : litRows (rVs l) = true := litRows_map fun _ => rfl
theorem litC_ (l : List Col) : litRows (rCs l) = true := litRows_map fun _ => rfl
theorem lenV_ (l : List Vl) : (∀ r ∈ rVs l, r.length = 3) = True := all_len fun _ => rfl
theorem lenC_ (l : List Col) : (∀ r ∈ rCs l, r.length = 2) = True := all_len fun _ => rfl
mutual
def rE : Ex → List T
  | .mk k v nm ar => [.lit (.int .i64 k), .lit (.int .i64 v.k), .lit (.int .i64 v.n), .lit (.string v.s), .lit (.string nm), .sl (rEs ar)]
def rEs : List Ex → List (List T)
  | [] => []
  | x :: l => rE x :: rEs l
end
theorem rEs_map : ∀ l : List Ex, rEs l = l.map rE
  | [] => by rw [rEs]; rfl
  | x :: l => by rw [rEs, rEs_map l, List.map_cons]
theorem rE_mk (k : Int) (v : Vl) (nm : ByteArray) (ar : List Ex) : rE (.mk k v nm ar) = [.lit (.int .i64 k), .lit (.int .i64 v.k), .lit (.int .i64 v.n), .lit (.string v.s), .lit (.string nm), .sl (ar.map rE)] := by
  rw [rE, rEs_map]
theorem rE_len (e : Ex) : (rE e).length = 6 := by obtain ⟨k, v, nm, ar⟩ := e; rw [rE_mk]; rfl
theorem rE_val (v : Vl) : rE (Gx.val v).ex = [.lit (.int .i64 1), .lit (.int .i64 v.k), .lit (.int .i64 v.n), .lit (.string v.s), .lit (.string .empty), .sl []] := by rw [Gx.ex, rE_mk]; rfl
theorem rE_col (nm : ByteArray) : rE (Gx.col nm).ex = [.lit (.int .i64 2), .lit (.int .i64 0), .lit (.int .i64 0), .lit (.string .empty), .lit (.string nm), .sl []] := by rw [Gx.ex, rE_mk]; rfl
theorem rE_un (k : Int) (x : Gx) : rE (Gx.un k x).ex = [.lit (.int .i64 k), .lit (.int .i64 0), .lit (.int .i64 0), .lit (.string .empty), .lit (.string .empty), .sl [rE x.ex]] := by rw [Gx.ex, rE_mk]; rfl
theorem rE_bin (k : Int) (x y : Gx) : rE (Gx.bin k x y).ex = [.lit (.int .i64 k), .lit (.int .i64 0), .lit (.int .i64 0), .lit (.string .empty), .lit (.string .empty), .sl [rE x.ex, rE y.ex]] := by rw [Gx.ex, rE_mk]; rfl
theorem nilE : (⟨#[]⟩ : ByteArray).toList = [] := ByteArray.toList_mk []
theorem isE (s : ByteArray) : (s.toList == (⟨#[]⟩ : ByteArray).toList) = emptyS s := by
  rw [nilE]
  unfold emptyS
  cases s.toList <;> rfl
theorem isE0 : emptyS .empty = true := by
  unfold emptyS
  rw [show ByteArray.empty = (⟨#[]⟩ : ByteArray) from rfl, nilE]; rfl
theorem sameZ (v : Vl) : ((v.k == 0) && ((v.n == 0) && emptyS v.s)) = v.same Vl.zero := by
  unfold Vl.same Vl.zero emptyS
  rw [show ByteArray.empty = (⟨#[]⟩ : ByteArray) from rfl, nilE, Bool.and_assoc]
  cases v.s.toList <;> rfl
theorem same3 (v u : Vl) : ((v.k == u.k) && ((v.n == u.n) && (v.s.toList == u.s.toList))) = v.same u := by
  unfold Vl.same
  rw [Bool.and_assoc]
end Go.Proofs.Ytnjjpblgcgikaaa.Ax
