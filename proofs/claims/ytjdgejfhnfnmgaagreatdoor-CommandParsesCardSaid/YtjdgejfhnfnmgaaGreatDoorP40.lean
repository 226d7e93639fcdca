/-  -/
import Derived.Test.YtjdgejfhnfnmgaaGreatDoorP39
import Derived.Test.YtjdgejfhnfnmgaaGreatDoorP20
namespace Go.Proofs.YtjdgejfhnfnmgaaGreatDoor.Ax
open Go.RowKit
theorem same_refl (v:Vl):v.same v=true:=by
 obtain ⟨k,n,s⟩:=v
 unfold Vl.same
 simp
theorem sameE_refl (e:Ex):sameE e e=true:=by
 induction e using Ex.ind with
 | h k v nm ar ih =>
  rw [sameE]
  have key:∀ l:List Ex,(∀ x ∈ l,sameE x x=true)→sameEs l l=true:=by
   intro l
   induction l with
   | nil=>intro _;rw [sameEs]
   | cons x l ih2 =>
    intro h
    rw [sameEs,h x List.mem_cons_self,ih2 fun y hy=>h y (List.mem_cons_of_mem _ hy)]
    rfl
  rw [same_refl,key ar ih]
  simp
theorem eqBy_refl {α:Type} {p:α→α→Bool} (h:∀ x,p x x=true):∀ l:List α,eqBy p l l=true
 | []=>rfl
 | x :: l=>by rw [eqBy,h x,eqBy_refl h l];rfl
theorem sameC_refl (c:Cm):sameC c c=true:=by
 unfold sameC
 rw [same_refl,sameE_refl,sameE_refl,eqBy_refl (fun x=>by unfold colEq;simp),eqBy_refl (fun x=>by unfold strEq;simp),eqBy_refl same_refl]
 simp
end Go.Proofs.YtjdgejfhnfnmgaaGreatDoor.Ax
namespace Go.Proofs.YtjdgejfhnfnmgaaGreatDoor.Ax
open Go.RowKit
set_option linter.unusedSimpArgs false
attribute [local go_sem] ty3 ty4 ty9 ty5 ty26 ty24 ty29 ty27 ty54 ty22 ty25 ty31 ty32
set_option linter.unusedVariables false
set_option maxRecDepth 100000
set_option maxHeartbeats 16000000 in
theorem cparses_sp (s:ByteArray) (hs:s.size≤maxLen):Sp Tryz.prog 4 [.one (.lit (.string s))] (.one (.t true (.lit (.bool true)))) []:=by
 have hB:=cbegun_sp
 have hP:=parse_sp s hs
 have hQ:=parseof_sp s hs
 have hg:=parseP_good s
 have hC:=samecmd_sp (parseP s).1 (parseP s).1 hg.cols hg.vals hg.fields hg.ex hg.wh
 rw [sameC_refl,rCm_eta] at hC
 unfold vParse at hP hQ
 rw [cmC_map,rCm_eta] at hP hQ
 clear hg
 generalize parseP s=p at *
 obtain ⟨c,at_,e⟩:=p
 dsimp only at *
 have e1:(e==e)=true:=beq_self_eq_true _
 have e2:(at_==at_)=true:=beq_self_eq_true _
 (refine en_ Tryz.func4 Tryz.ntmps4 Tryz.results4 fun X hX=>?_)
 refine gs_ ?_
 refine au_ (an2 e1 e2) ?_
 exact oq_ an0
end Go.Proofs.YtjdgejfhnfnmgaaGreatDoor.Ax
