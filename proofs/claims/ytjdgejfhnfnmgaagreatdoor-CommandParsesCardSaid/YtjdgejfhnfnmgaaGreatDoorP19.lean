/-  -/
import Derived.Test.YtjdgejfhnfnmgaaGreatDoorP18
import Derived.Test.YtjdgejfhnfnmgaaGreatDoorP1
import Derived.Test.YtjdgejfhnfnmgaaGreatDoorRows
import Derived.Stop.LaidErr
import Derived.Lib.LaidTab
import Derived.MakeChecks
namespace Go.Proofs.YtjdgejfhnfnmgaaGreatDoor
open Go.RowKit
def insertQ (l:List Vl) (r:RS):Cm × RS:=({ zCm with k:=10,name:=(nameQ l (needQ l ⟨#[105,110,116,111]⟩ r)).1,vals:=(someQ l (vQ l) (needQ l wOpen (needQ l ⟨#[118,97,108,117,101,115]⟩ (nameQ l (needQ l ⟨#[105,110,116,111]⟩ r)).2))).1 },needQ l wShut (someQ l (vQ l) (needQ l wOpen (needQ l ⟨#[118,97,108,117,101,115]⟩ (nameQ l (needQ l ⟨#[105,110,116,111]⟩ r)).2))).2)
theorem sim_insert {l:List Vl} (hl:GoodL l):Sim (insertR l) (insertQ l):=by
 have hI:Sim (needR l ⟨#[105,110,116,111]⟩) (fun r=>((),needQ l ⟨#[105,110,116,111]⟩ r)):=sim_need (by kernel_rfl)
 have hV:Sim (needR l ⟨#[118,97,108,117,101,115]⟩) (fun r=>((),needQ l ⟨#[118,97,108,117,101,115]⟩ r)):=sim_need (by kernel_rfl)
 have hO:Sim (needR l wOpen) (fun r=>((),needQ l wOpen r)):=sim_need (by kernel_rfl)
 have hS:Sim (needR l wShut) (fun r=>((),needQ l wShut r)):=sim_need (by kernel_rfl)
 have h:=hI.bind fun _=>(sim_name (l:=l)).bind fun nm=>hV.bind fun _=>hO.bind fun _=>(sim_some (l:=l) (sim_v hl)).bind fun r=>hS.map fun _=>({ zCm with k:=10,name:=nm,vals:=r }:Cm)
 have e:insertR l=fun k=>(needR l ⟨#[105,110,116,111]⟩ k).bind fun _ k=>(nameR l k).bind fun nm k=>(needR l ⟨#[118,97,108,117,101,115]⟩ k).bind fun _ k=>(needR l wOpen k).bind fun _ k=>(someR l (mustR l) k).bind fun r k=>(needR l wShut k).bind fun _ k=>PR.ok ({ zCm with k:=10,name:=nm,vals:=r }:Cm) k:=by
  funext k
  unfold insertR listR
  simp only [PR.bind_assoc,PR.ret_bind]
 rw [e]
 exact h
def deleteQ (l:List Vl) (r:RS):Cm × RS:=({ zCm with k:=11,name:=(nameQ l (needQ l ⟨#[102,114,111,109]⟩ r)).1,all:=(whereQ l (nameQ l (needQ l ⟨#[102,114,111,109]⟩ r)).2).1.1,wh:=(whereQ l (nameQ l (needQ l ⟨#[102,114,111,109]⟩ r)).2).1.2 },(whereQ l (nameQ l (needQ l ⟨#[102,114,111,109]⟩ r)).2).2)
theorem sim_delete {l:List Vl} (hl:GoodL l):Sim (deleteR l) (deleteQ l):=by
 have hF:Sim (needR l ⟨#[102,114,111,109]⟩) (fun r=>((),needQ l ⟨#[102,114,111,109]⟩ r)):=sim_need (by kernel_rfl)
 exact hF.bind fun _=>(sim_name (l:=l)).bind fun nm=>(sim_where hl).map fun w=>({ zCm with k:=11,name:=nm,all:=w.1,wh:=w.2 }:Cm)
def updateE (l:List Vl) (nm c:ByteArray) (r:RS):Cm × RS:=({ zCm with k:=12,name:=nm,column:=c,ex:=(exQ l 60 r).1,all:=(whereQ l (exQ l 60 r).2).1.1,wh:=(whereQ l (exQ l 60 r).2).1.2 },(whereQ l (exQ l 60 r).2).2)
def updateQ (l:List Vl) (r:RS):Cm × RS:=updateE l (nameQ l r).1 (nameQ l (needQ l ⟨#[115,101,116]⟩ (nameQ l r).2)).1 (needQ l ⟨#[61]⟩ (nameQ l (needQ l ⟨#[115,101,116]⟩ (nameQ l r).2)).2)
theorem sim_update {l:List Vl} (hl:GoodL l):Sim (updateR l) (updateQ l):=by
 have hS:Sim (needR l ⟨#[115,101,116]⟩) (fun r=>((),needQ l ⟨#[115,101,116]⟩ r)):=sim_need (by kernel_rfl)
 have hE:Sim (needR l ⟨#[61]⟩) (fun r=>((),needQ l ⟨#[61]⟩ r)):=sim_need (by kernel_rfl)
 have hX:∀ nm c:ByteArray,Sim (fun k=>(exR l 60 k).bind fun e k=>(whereR l k).bind fun w k=>PR.ok ({ zCm with k:=12,name:=nm,column:=c,ex:=e,all:=w.1,wh:=w.2 }:Cm) k) (updateE l nm c):=fun nm c =>
  (sim_ex hl 60).bind fun e=>(sim_where hl).map fun w=>({ zCm with k:=12,name:=nm,column:=c,ex:=e,all:=w.1,wh:=w.2 }:Cm)
 exact (sim_name (l:=l)).bind fun nm=>hS.bind fun _=>(sim_name (l:=l)).bind fun c=>hE.bind fun _=>hX nm c
def fieldsQ (l:List Vl) (r:RS):List ByteArray × RS:=if (takeQ l ⟨#[42]⟩ r).1=true then ([],(takeQ l ⟨#[42]⟩ r).2) else someQ l (nameQ l) (takeQ l ⟨#[42]⟩ r).2
theorem sim_fields {l:List Vl}:Sim (fieldsR l) (fieldsQ l) :=
 Sim.take (l:=l) (s:=⟨#[42]⟩) (P1:=fun k=>.ok [] k) (Q1:=fun r=>([],r)) (P2:=someR l (nameR l)) (Q2:=someQ l (nameQ l)) (by kernel_rfl) (Sim.ret _) (sim_some sim_name)
def orderQ (l:List Vl) (r:RS):ByteArray × RS:=if (takeQ l ⟨#[111,114,100,101,114]⟩ r).1=true then nameQ l (needQ l ⟨#[98,121]⟩ (takeQ l ⟨#[111,114,100,101,114]⟩ r).2) else (.empty,(takeQ l ⟨#[111,114,100,101,114]⟩ r).2)
theorem sim_order {l:List Vl}:Sim (orderR l) (orderQ l):=by
 have hB:Sim (needR l ⟨#[98,121]⟩) (fun r=>((),needQ l ⟨#[98,121]⟩ r)):=sim_need (by kernel_rfl)
 exact Sim.take (l:=l) (s:=⟨#[111,114,100,101,114]⟩) (P1:=fun k=>(needR l ⟨#[98,121]⟩ k).bind fun _ k=>nameR l k) (Q1:=fun r=>nameQ l (needQ l ⟨#[98,121]⟩ r)) (P2:=fun k=>.ok .empty k) (Q2:=fun r=>(.empty,r)) (by kernel_rfl) (hB.bind fun _=>sim_name) (Sim.ret _)
def limitQ (l:List Vl) (r:RS):Int × RS:=if (takeQ l ⟨#[108,105,109,105,116]⟩ r).1=true then numQ l (takeQ l ⟨#[108,105,109,105,116]⟩ r).2 else (-1,(takeQ l ⟨#[108,105,109,105,116]⟩ r).2)
theorem sim_limit {l:List Vl} (hl:GoodL l):Sim (limitR l) (limitQ l) :=
 Sim.take (l:=l) (s:=⟨#[108,105,109,105,116]⟩) (P1:=numR l) (Q1:=numQ l) (P2:=fun k=>.ok (-1) k) (Q2:=fun r=>(-1,r)) (by kernel_rfl) (sim_num hl) (Sim.ret _)
def selectW (l:List Vl) (fs:List ByteArray) (nm:ByteArray) (r:RS):Cm × RS :=
 ({ zCm with k:=13,name:=nm,fields:=fs,all:=(whereQ l r).1.1,wh:=(whereQ l r).1.2,order:=(orderQ l (whereQ l r).2).1,limit:=(limitQ l (orderQ l (whereQ l r).2).2).1 },(limitQ l (orderQ l (whereQ l r).2).2).2)
def selectQ (l:List Vl) (r:RS):Cm × RS:=selectW l (fieldsQ l r).1 (nameQ l (needQ l ⟨#[102,114,111,109]⟩ (fieldsQ l r).2)).1 (nameQ l (needQ l ⟨#[102,114,111,109]⟩ (fieldsQ l r).2)).2
theorem sim_select {l:List Vl} (hl:GoodL l):Sim (selectsR l) (selectQ l):=by
 have hF:Sim (needR l ⟨#[102,114,111,109]⟩) (fun r=>((),needQ l ⟨#[102,114,111,109]⟩ r)):=sim_need (by kernel_rfl)
 have hW:∀ (fs:List ByteArray) (nm:ByteArray),Sim (fun k=>(whereR l k).bind fun w k=>(orderR l k).bind fun o k=>(limitR l k).bind fun n k=>PR.ok ({ zCm with k:=13,name:=nm,fields:=fs,all:=w.1,wh:=w.2,order:=o,limit:=n }:Cm) k) (selectW l fs nm):=fun fs nm =>
  (sim_where hl).bind fun w=>(sim_order (l:=l)).bind fun o=>(sim_limit hl).map fun n=>({ zCm with k:=13,name:=nm,fields:=fs,all:=w.1,wh:=w.2,order:=o,limit:=n }:Cm)
 exact (sim_fields (l:=l)).bind fun fs=>hF.bind fun _=>(sim_name (l:=l)).bind fun nm=>hW fs nm
def cmdW (l:List Vl):List (ByteArray × (RS→Cm × RS))→(ByteArray × (RS→Cm × RS))→RS→Cm × RS
 | [],e,r=>e.2 (needQ l e.1 r)
 | p :: ps,e,r=>if (takeQ l p.1 r).1=true then p.2 (takeQ l p.1 r).2 else cmdW l ps e (takeQ l p.1 r).2
def cmdQ (l:List Vl):RS→Cm × RS:=cmdW l [(⟨#[99,114,101,97,116,101]⟩,createQ l),(⟨#[100,114,111,112]⟩,dropQ l),(⟨#[97,108,116,101,114]⟩,alterQ l),(⟨#[105,110,115,101,114,116]⟩,insertQ l),(⟨#[100,101,108,101,116,101]⟩,deleteQ l),(⟨#[117,112,100,97,116,101]⟩,updateQ l),(⟨#[115,101,108,101,99,116]⟩,selectQ l),(⟨#[98,101,103,105,110]⟩,fun r=>({ zCm with k:=14 },r)),(⟨#[99,111,109,109,105,116]⟩,fun r=>({ zCm with k:=15 },r))] (⟨#[114,111,108,108,98,97,99,107]⟩,fun r=>({ zCm with k:=16 },r))
theorem sim_cmd {l:List Vl} (hl:GoodL l):Sim (fun k=>(wordR l wCmds k).bind (bodyR l)) (cmdQ l):=by
 have h0:Sim (bodyR l ((0:Nat):Int)) (createQ l):=sim_create
 have h1:Sim (bodyR l ((1:Nat):Int)) (dropQ l):=sim_drop
 have h2:Sim (bodyR l ((2:Nat):Int)) (alterQ l):=sim_alter hl
 have h3:Sim (bodyR l ((3:Nat):Int)) (insertQ l):=sim_insert hl
 have h4:Sim (bodyR l ((4:Nat):Int)) (deleteQ l):=sim_delete hl
 have h5:Sim (bodyR l ((5:Nat):Int)) (updateQ l):=sim_update hl
 have h6:Sim (bodyR l ((6:Nat):Int)) (selectQ l):=sim_select hl
 have h7:Sim (bodyR l ((7:Nat):Int)) (fun r=>({ zCm with k:=14 },r)):=Sim.ret _
 have h8:Sim (bodyR l ((8:Nat):Int)) (fun r=>({ zCm with k:=15 },r)):=Sim.ret _
 have h9:Sim (bodyR l ((9:Nat):Int)) (fun r=>({ zCm with k:=16 },r)):=Sim.ret _
 rw [show (fun k=>(wordR l wCmds k).bind (bodyR l))=fun k=>(wordI l wCmds 0 k).bind (bodyR l) from rfl]
 unfold wCmds
 exact Sim.word (by kernel_rfl) h0 (Sim.word (by kernel_rfl) h1 (Sim.word (by kernel_rfl) h2 (Sim.word (by kernel_rfl) h3 (Sim.word (by kernel_rfl) h4 (Sim.word (by kernel_rfl) h5 (Sim.word (by kernel_rfl) h6 (Sim.word (by kernel_rfl) h7 (Sim.word (by kernel_rfl) h8 (Sim.last (by kernel_rfl) h9)))))))))
theorem cmd_both {l:List Vl} (hl:GoodL l):(∀ c k,cmdR l=.ok c k→cmdQ l ⟨0,false⟩=(c,⟨k,false⟩)∧¬ k < l.length)∧∀ k,cmdR l=.bad k→(cmdQ l ⟨0,false⟩).2.at_=k∧((cmdQ l ⟨0,false⟩).2.bad=true ∨ k < l.length):=by
 have h:=(sim_cmd hl).run 0
 have e:cmdR l=((wordR l wCmds 0).bind (bodyR l)).bind fun c k=>bif decide (k < l.length) then .bad k else .ok c k:=by
  unfold cmdR
  rw [PR.bind_assoc]
 rw [e]
 cases hx:(wordR l wCmds 0).bind (bodyR l) with
 | ok c k =>
  have h1:=h.1 c k hx
  rw [PR.ret_bind,h1]
  cases hk:decide (k < l.length) with
  | true =>
   refine ⟨fun _ _ e=>(by cases e),fun k2 e=>?_⟩
   cases e
   exact ⟨rfl,.inr (of_decide_eq_true hk)⟩
  | false =>
   refine ⟨fun c2 k2 e=>?_,fun _ e=>(by cases e)⟩
   cases e
   exact ⟨rfl,of_decide_eq_false hk⟩
 | bad k =>
  have h1:=h.2 k hx
  refine ⟨fun _ _ e=>(by cases e),fun k2 e=>?_⟩
  cases e
  rw [h1]
  exact ⟨rfl,.inl rfl⟩
end Go.Proofs.YtjdgejfhnfnmgaaGreatDoor
namespace Go.Proofs.YtjdgejfhnfnmgaaGreatDoor.Ax
open Go.RowKit
theorem tab_data:(Rows.laid_internal_strconv_uint64pow10:DataW Unit)=Lib.tabData .u64 Lib.pow10Tab:=by rfl
abbrev laidL5 : List (String × DataW Unit) := [("math/bits.deBruijn32tab", Rows.laid_math_bits_deBruijn32tab), ("math/bits.deBruijn64tab", Rows.laid_math_bits_deBruijn64tab), ("internal/strconv.uint64pow10", Rows.laid_internal_strconv_uint64pow10), ("strconv.ErrRange", Rows.laid_strconv_ErrRange), ("strconv.ErrSyntax", Rows.laid_strconv_ErrSyntax)]
theorem gw_of_laid5 {W:World} (h:laidMetH Tryz.prog laidL5 W):GW W:=by
 rw [MakeChecks.laidMetH_plain _ _ _ (by kernel_rfl)] at h
 have h3:=h.tail.tail
 rw [show (Rows.laid_internal_strconv_uint64pow10:DataW Unit)=Lib.tabData .u64 Lib.pow10Tab from tab_data] at h3
 have hT : Lib.TabIs Tryz.prog W "internal/strconv.uint64pow10" .u64 Lib.pow10Tab :=
  Lib.tabIs_of_head (g:=1) (t:=161) (e:=149) (n:=20) (by kernel_rfl) (by kernel_rfl) (by kernel_rfl) (by kernel_rfl) (by kernel_rfl) (by kernel_rfl) h3
 have hlt:∀ {name:String} {g:Nat} {cs:Array Value},Tryz.prog.globalNamed name=some g→W.var? Tryz.prog name=some cs→g < W.heap.size:=fun {name g cs} hg hv=>by
  unfold World.var? at hv
  rw [hg] at hv
  simp only [Option.bind_some] at hv
  split at hv
  ·rename_i h
   exact (Array.getElem?_eq_some_iff.1 h).1
  ·cases hv
 have g1:=hlt (g:=1) (by kernel_rfl) hT
 exact ⟨by unfold NG;omega,hT⟩
end Go.Proofs.YtjdgejfhnfnmgaaGreatDoor.Ax
