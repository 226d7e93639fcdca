/-  -/
import Derived.Test.YtjdgejfhnfnmgaaGreatDoorS19
import Derived.Test.YtjdgejfhnfnmgaaGreatDoorSxTy
import Derived.Test.YtjdgejfhnfnmgaaGreatDoorS9
import Derived.Test.YtjdgejfhnfnmgaaGreatDoorS13
import Derived.Test.YtjdgejfhnfnmgaaGreatDoorS7
import Derived.Test.YtjdgejfhnfnmgaaGreatDoorS11
import Derived.Test.YtjdgejfhnfnmgaaGreatDoorShelf
import Derived.Lib.ItoaLen
import Derived.Test.YtjdgejfhnfnmgaaGreatDoorS14
namespace Go.Proofs.YtjdgejfhnfnmgaaGreatDoor.Ax
open Go.RowKit
set_option linter.unusedSimpArgs false
attribute [local go_sem] ty3 ty4 ty5 ty9 ty87 ty89 ty86 ty123 ty91 ty85
set_option maxRecDepth 100000
abbrev prnNew:B:=.var 91 [.t true (.lit (.pointer none)),.nil]
attribute [local go_sem] prnNew
abbrev prnUsed (id k n:Nat):B:=.var 91 [.optr id 0,.own k n]
attribute [local go_sem] prnUsed
abbrev rowW (rows:List (List T)):B:=.arr 5 1 true rows
attribute [local go_sem] rowW
theorem pcc_new_io:SpIO Tryz.prog 142 [.one (.optr 1000 0)] [(1000,prnNew)] (.tup []) [(1000,.var 91 [.optr 1000 0,.nil])] [1000] where
 enters:=enters_of Tryz.func142 (by kernel_rfl) rfl
 calls w S F hS ρ hF hinj hdead hins vs hG hvs:=by
  have hB:=hins 1000 _ rfl
  unfold HasB at hB
  obtain ⟨b,cap,hid,xs,hb,hcs⟩:=hB
  match vs,hvs with
  | [x],hvs =>
   unfold RdVs RdV RdC at hvs
   simp only [hid] at hvs
   obtain ⟨rfl,_⟩:=hvs
   obtain ⟨l⟩:=xs
   match l,hcs,hb with
   | [u,v],hcs,hb =>
    unfold RdCs RdC RdT at hcs
    obtain ⟨⟨rfl,_⟩,hcs⟩:=hcs
    unfold RdCs RdC at hcs
    obtain ⟨hv,_⟩:=hcs
    refine (cc_fresh (T:=91) b w (by rw [Lib.cell_of_heap hb];rfl) (by simp [World.shape?,hb]) (by kernel_rfl) (by simp [World.frozen?,hb])).mono ?_
    rintro e w' ⟨rfl,rfl⟩
    refine ⟨_,ρ,rfl,⟨rfl,rfl,rfl,by simp [World.setCell],fun k hk=>absurd hk (by omega)⟩,fun k hk=>Below.heap_setCell _ _ _ _ fun e=>hk.2 1000 cap (e ▸ hid),fun id b cap hid=>⟨.inr (hF id b cap hid).1,fun hk=>hk.2 id cap hid,by simpa [World.setCell] using (hF id b cap hid).2.1⟩,hinj,hdead,fun _ _=>rfl,?_,fun id B hB=>?_⟩
    ·unfold RdV;exact ⟨#[],rfl,by unfold RdVs;trivial⟩
    ·obtain ⟨rfl,rfl⟩:=one_get hB
     unfold HasB
     refine ⟨b,cap,hid,#[.pointer (some ⟨b,0,none⟩),v],by simp [World.setCell,Array.getElem?_modify,hb],?_⟩
     unfold RdCs RdC RdCs RdC RdCs
     simp only [hid]
     exact ⟨trivial,hv,trivial⟩
theorem pcc_used_io (rows:List (List T)):SpIO Tryz.prog 142 [.one (.optr 1000 0)] [(1000,prnUsed 1000 1001 rows.length),(1001,rowW rows)] (.tup []) [(1000,prnUsed 1000 1001 rows.length),(1001,rowW rows)] [1000,1001] where
 enters:=enters_of Tryz.func142 (by kernel_rfl) rfl
 calls w S F hS ρ hF hinj hdead hins vs hG hvs:=by
  have hB:=hins 1000 _ rfl
  unfold HasB at hB
  obtain ⟨b,cap,hid,xs,hb,hcs⟩:=hB
  match vs,hvs with
  | [x],hvs =>
   unfold RdVs RdV RdC at hvs
   simp only [hid] at hvs
   obtain ⟨rfl,_⟩:=hvs
   obtain ⟨l⟩:=xs
   match l,hcs,hb with
   | [u,v],hcs,hb =>
    unfold RdCs RdC at hcs
    simp only [hid] at hcs
    obtain ⟨rfl,_⟩:=hcs
    refine (cc_used b w (by rw [Lib.cell_of_heap hb];rfl)).mono ?_
    rintro e w' ⟨rfl,rfl⟩
    exact ⟨_,ρ,rfl,Below.refl _ _,fun _ _=>rfl,fun id b cap hid=>⟨.inr (hF id b cap hid).1,fun hk=>hk.2 id cap hid,(hF id b cap hid).2.1⟩,hinj,hdead,fun _ _=>rfl,by unfold RdV;exact ⟨#[],rfl,by unfold RdVs;trivial⟩,hins⟩
theorem pwstr_new_io (s:ByteArray) (hs:s.size≤140737488355328) (z:Bool):SpIO Tryz.prog 98 [.one (.optr 1000 0),.one (.t z (.lit (.string s)))] [(1000,prnNew)] (.tup [litI .i64 s.size,.one (.t true (.lit .nilIface))]) [(1000,prnUsed 1000 14 s.size),(14,rowW (strRows s))] [1000]:=by
 have h1:s.size≤maxLen:=by unfold maxLen;omega
 (refine ei_ Tryz.func98 Tryz.ntmps98 Tryz.results98 fun X hX=>?_)
 (refine go_ an0 ?_)
 (refine rn_ 8 an0 fun K hK=>?_;refine rr_ an0 ?_)
 (refine rwr_io 40 (SpIO.ren (pcc_new_io) [(1000,1000)] rfl) rfl rfl (by simp only [go_sem,prnNew,prnUsed,rowW,hX];exact rfl) (by simp only [go_sem,prnNew,prnUsed,rowW,hX]) (by simp only [go_sem,prnNew,prnUsed,rowW,hX]) (by simp only [go_sem,prnNew,prnUsed,rowW,hX]) (by simp only [go_sem,prnNew,prnUsed,rowW,hX]) rfl (by rw [hX];rfl) ?_;simp only [go_sem,prnNew,prnUsed,rowW,hX])
 ((first | refine rwr_nil (hK _ ?_) | refine de_ (hK _ ?_));clear hK K)
 (refine go_ (an2 h1 hs) ?_)
 (first | exact oi_ (an2 h1 hs) (.inl rfl) | exact oi_ (an2 h1 hs) (.inr rfl))
theorem pwstr_used_io (rows:List (List T)) (s:ByteArray) (hs:rows.length + s.size≤140737488355328) (z:Bool):SpIO Tryz.prog 98 [.one (.optr 1000 0),.one (.t z (.lit (.string s)))] [(1000,prnUsed 1000 1001 rows.length),(1001,rowW rows)] (.tup [litI .i64 s.size,.one (.t true (.lit .nilIface))]) [(1000,prnUsed 1000 14 (rows.length + s.size)),(14,rowW (rows++strRows s))] [1000]:=by
 have h1:rows.length + s.size≤maxLen:=by unfold maxLen;omega
 (refine ei_ Tryz.func98 Tryz.ntmps98 Tryz.results98 fun X hX=>?_)
 (refine go_ an0 ?_)
 (refine rn_ 8 an0 fun K hK=>?_;refine rr_ an0 ?_)
 (refine rwr_io 40 (SpIO.ren (pcc_used_io rows) [(1000,1000),(1001,1001)] rfl) rfl rfl (by simp only [go_sem,prnNew,prnUsed,rowW,hX];exact rfl) (by simp only [go_sem,prnNew,prnUsed,rowW,hX]) (by simp only [go_sem,prnNew,prnUsed,rowW,hX]) (by simp only [go_sem,prnNew,prnUsed,rowW,hX]) (by simp only [go_sem,prnNew,prnUsed,rowW,hX]) rfl (by rw [hX];rfl) ?_;simp only [go_sem,prnNew,prnUsed,rowW,hX])
 ((first | refine rwr_nil (hK _ ?_) | refine de_ (hK _ ?_));clear hK K)
 (refine go_ (an2 h1 hs) ?_)
 (first | exact oi_ (an2 h1 hs) (.inl rfl) | exact oi_ (an2 h1 hs) (.inr rfl))
theorem strRowsP_append (a b:ByteArray):strRows a++strRows b=strRows (a++b):=by
 unfold strRows
 rw [← List.map_append]
 congr 1
theorem strRowsP_cells {w:World} {ok:Nat→Prop} (s:ByteArray) {xs:List Value} (h:RdL w ok (strRows s).flatten xs):xs=Lib.byteCells s.data.toList:=by
 unfold strRows at h
 unfold Lib.byteCells
 generalize s.data.toList=l at h ⊢
 induction l generalizing xs with
 | nil =>
  cases xs with
  | nil=>rfl
  | cons=>simp only [List.map_nil,List.flatten_nil] at h;unfold RdL at h;exact h.elim
 | cons b l ih =>
  replace h:RdL w ok (T.lit (.int .u8 b.toNat) :: (l.map fun b:UInt8=>[T.lit (.int .u8 b.toNat)]).flatten) xs:=h
  cases xs with
  | nil=>unfold RdL at h;exact h.elim
  | cons x xs =>
   unfold RdL RdT at h
   rw [h.1.1,ih h.2,List.map_cons]
theorem pstr_used_io (s:ByteArray) (h0:s.data.toList ≠ []):SpIO Tryz.prog 57 [.one (.optr 1000 0)] [(1000,prnUsed 1000 1001 s.size),(1001,rowW (strRows s))] (.one (.t true (.lit (.string s)))) [] [] where
 enters:=enters_of Tryz.func57 (by kernel_rfl) rfl
 calls w S F hS ρ hF hinj hdead hins vs hG hvs:=by
  have hB:=hins 1000 _ rfl
  have hA:=hins 1001 _ rfl
  unfold HasB at hB hA
  obtain ⟨b,cap,hid,xs,hb,hcs⟩:=hB
  match vs,hvs with
  | [x],hvs =>
   unfold RdVs RdV RdC at hvs
   simp only [hid] at hvs
   obtain ⟨rfl,_⟩:=hvs
   obtain ⟨l⟩:=xs
   match l,hcs,hb with
   | [u,v],hcs,hb =>
    unfold RdCs RdC at hcs
    simp only [hid] at hcs
    obtain ⟨rfl,hcs⟩:=hcs
    unfold RdCs RdC at hcs
    obtain ⟨hv,_⟩:=hcs
    have hlen:s.data.toList.length=s.size:=rfl
    have hpos:s.size ≠ 0:=fun e=>h0 (List.length_eq_zero_iff.1 (hlen.trans e))
    cases hid2:ρ 1001 with
    | dead=>simp [hid2] at hv
    | nil=>simp only [hid2] at hv;exact absurd hv.1 hpos
    | lie g cap2 =>
     simp only [hid2] at hv hA
     subst hv
     obtain ⟨ys,h1,h2,_⟩:=hA
     rw [strRows_len] at h1
     have hys:=strRowsP_cells s h2
     subst hys
     refine (str_some Tryz.lays169 Tryz.Builder_Extra_169 b g cap2 _ s.data.toList w hb h1 h0).mono ?_
     rintro e w' ⟨rfl,rfl⟩
     have hother:∀ k,k ≠ g→(w.drew.freeze ⟨g,0,none⟩ s.data.toList.length).heap[k]?=w.heap[k]?:=fun k hk=>by
      unfold World.freeze
      split
      ·rfl
      ·show (w.heap.modify g _)[k]?=_
       rw [Array.getElem?_modify,if_neg (fun e=>hk e.symm)]
     have hbel:Below 0 w w.drew:=⟨rfl,rfl,rfl,Nat.le_refl _,fun k hk=>absurd hk (by omega)⟩
     refine ⟨_,deadR,rfl,Lib.below_freeze hbel (Nat.zero_le _) _,fun k hk=>hother k fun e=>hk.2 1001 cap2 (e ▸ hid2),(by intro _ _ _ h;cases h),(by intro _ _ _ _ _ h;cases h),fun _ _=>rfl,(fun _ h=>by cases h),rd_lit rfl,(fun _ _ h=>by cases h)⟩
theorem plen_new_io:SpIO Tryz.prog 144 [.one (.optr 1000 0)] [(1000,prnNew)] (litI .i64 0) [(1000,prnNew)] [1000]:=by
 (refine ei_ Tryz.func144 Tryz.ntmps144 Tryz.results144 fun X hX=>?_)
 refine au_ an0 ?_
 (first | exact oi_ an0 (.inl rfl) | exact oi_ an0 (.inr rfl))
theorem plen_used_io (rows:List (List T)):SpIO Tryz.prog 144 [.one (.optr 1000 0)] [(1000,prnUsed 1000 1001 rows.length),(1001,rowW rows)] (litI .i64 rows.length) [(1000,prnUsed 1000 1001 rows.length),(1001,rowW rows)] [1000,1001]:=by
 (refine ei_ Tryz.func144 Tryz.ntmps144 Tryz.results144 fun X hX=>?_)
 refine au_ an0 ?_
 (first | exact oi_ an0 (.inl rfl) | exact oi_ an0 (.inr rfl))
theorem wbyte_used_io (rows:List (List T)) (c:UInt8) (hs:rows.length + 1≤140737488355328):SpIO Tryz.prog 145 [.one (.optr 1000 0),.one (.t false (.lit (.int .u8 c.toNat)))] [(1000,prnUsed 1000 1001 rows.length),(1001,rowW rows)] (.one (.t true (.lit .nilIface))) [(1000,prnUsed 1000 14 (rows.length + 1)),(14,rowW (rows++[[.lit (.int .u8 c.toNat)]]))] [1000]:=by
 have h1:rows.length + 1≤maxLen:=by unfold maxLen;omega
 have h2:(rows.length + 1) * 1≤140737488355328:=by omega
 (refine ei_ Tryz.func145 Tryz.ntmps145 Tryz.results145 fun X hX=>?_)
 refine gs_ ?_
 refine au_ an0 ?_
 (refine rn_ 8 an0 fun K hK=>?_;refine rr_ an0 ?_)
 (refine rwr_io 40 (SpIO.ren (pcc_used_io rows) [(1000,1000),(1001,1001)] rfl) rfl rfl (by simp only [go_sem,prnNew,prnUsed,rowW,hX];exact rfl) (by simp only [go_sem,prnNew,prnUsed,rowW,hX]) (by simp only [go_sem,prnNew,prnUsed,rowW,hX]) (by simp only [go_sem,prnNew,prnUsed,rowW,hX]) (by simp only [go_sem,prnNew,prnUsed,rowW,hX]) rfl (by rw [hX];rfl) ?_;simp only [go_sem,prnNew,prnUsed,rowW,hX])
 ((first | refine rwr_nil (hK _ ?_) | refine de_ (hK _ ?_));clear hK K)
 refine gs_ ?_
 refine rn_ 0 an0 fun K hK=>?_
 refine rx_ (an2 h1 h2) ?_
 refine rwr_nil (hK _ ?_)
 clear hK K
 refine au_ an0 ?_
 exact oi_ an0 (.inl rfl)
end Go.Proofs.YtjdgejfhnfnmgaaGreatDoor.Ax
namespace Go.Proofs.YtjdgejfhnfnmgaaGreatDoor.Ax
open Go.RowKit
set_option linter.unusedSimpArgs false
attribute [local go_sem] ty3 ty4 ty9 ty24 ty32 ty137
set_option maxRecDepth 100000
theorem vcheck_sp (v:Vl) (hs:v.s.size≤maxLen):Sp Tryz.prog 81 [aV1 v] (.one (.t true (.lit (.int .i64 v.chk)))) [] :=
 sp_lits (enters_of Tryz.func81 (by kernel_rfl) rfl) [v.val] _ rfl rfl fun w=>(vcheck_any v w hs).mono fun _ _ h=>h
theorem rcheck_sp (v:Vl) (hs:v.s.size≤maxLen):Sp Tryz.prog 25 [aV1 v] (.one (.t true (.lit (.int .i64 v.chk)))) [] :=
 sp_lits (enters_of Tryz.func25 (by kernel_rfl) rfl) [v.val] _ rfl rfl fun w=>(rcheck_any v w hs).mono fun _ _ h=>h
theorem rsame_sp (a b:Vl):Sp Tryz.prog 26 [aV1 a,aV1 b] (.one (.t true (.lit (.bool (a.same b))))) [] :=
 sp_lits (enters_of Tryz.func26 (by kernel_rfl) rfl) [a.val,b.val] _ rfl rfl fun w=>(rsame_any a b w).mono fun _ _ h=>h
theorem between_sp (n a b:Int):Sp Tryz.prog 23 [.one (.lit (.int .i64 n)),.one (.lit (.int .i64 a)),.one (.lit (.int .i64 b))] (.one (.t true (.lit (.bool (decide (a≤n) && decide (n≤b)))))) [] :=
 sp_lits (enters_of Tryz.func23 (by kernel_rfl) rfl) [.int .i64 n,.int .i64 a,.int .i64 b] _ rfl rfl fun w=>(between_any n a b w).mono fun _ _ h=>⟨h.1,h.2 ▸ Below.refl _ _⟩
theorem truth_sp (b:Bool):Sp Tryz.prog 164 [.one (.lit (.bool b))] (vVt (truth b)) []:=by
 cases b
 all_goals
  (refine en_ Tryz.func164 Tryz.ntmps164 Tryz.results164 fun X hX=>?_)
  (refine go_ an0 ?_)
  (first | exact oq_ an0 | refine ou_ an0 ?_)
  try rfl
end Go.Proofs.YtjdgejfhnfnmgaaGreatDoor.Ax
namespace Go.Proofs.YtjdgejfhnfnmgaaGreatDoor.Ax
open Go.RowKit Go.Sort
set_option linter.unusedSimpArgs false
attribute [local go_sem] extV appD cutOwn appOwn clearOwn bdI mapD putD' keyOk getOr getM putM wholeV litCs asV asC ptrC fnC nilC nilPtr strRows_len runs runsN guardOf exec1 pureV modD rowD ev get St.app St.put St.turn loadC moveC fieldOf indexC lenC lenOk cutC bndOf evAll fieldV convV unV binV binI bitsV moreV intsT eqL eq1 valOf min1 lit1 litInt litI litB litS constV constC cellsV partsOf placesOf buildV fillL toT elemsOf rowsOf baseOf dstOk V.kill V.ment V.ments C.kill C.ment C.ments B.kill setD litRows litRows_append T.isLit callAll calleeV argsV argV viewC viewCs modeOk freeOps V.free C.free V.allF V.allFs C.allF C.allFs B.allF callD leL growSt growB C.flat V.flat B.flat flatL flatB St.flat List.set_cons_zero List.set_cons_succ C.only C.onlys V.only V.onlys B.only renI C.ren C.rens V.ren V.rens B.ren renB renOk nodK Option.getD_some Option.getD_none Option.isSome_some implies_true false_implies C.fit C.fits V.fit V.fit1 V.fits Bool.and_self ite_self exitV resV resL resC outV outV.outs eqB nn cast0 Int.toNat_natCast List.getElem?_map Value.cells Value.oneCell' Nat.lt_irrefl decide_true decide_false and_true true_and and_self and_false false_and not_true_eq_false not_false_eq_true not_true not_false List.size_toArray all_len Nat.zero_add Nat.add_zero List.length_cons List.length_append List.length_replicate List.length_set List.length_nil List.length_map List.map_cons List.map_nil List.take_succ_cons List.take_zero List.take_nil List.drop_succ_cons List.drop_zero List.drop_nil List.cons_append List.nil_append List.append_nil List.all_cons List.all_nil Bool.and_true Bool.true_and Bool.and_false Bool.false_and Bool.not_true Bool.not_false Bool.or_false Bool.or_true Bool.false_or Bool.true_or List.filter_cons List.filter_nil List.contains_cons List.contains_nil beq_self_eq_true List.getElem?_cons_zero List.getElem?_cons_succ List.getElem?_nil Option.map_some Option.map_none Option.toList_some Option.toList_none List.isEmpty_cons List.isEmpty_nil Bool.false_eq_true Bool.true_eq_false List.getElem?_toArray List.not_mem_nil List.mem_cons or_false forall_eq List.mem_singleton forall_const Option.toArray tailF addF flSl dKeeps flFree closF notF if_true if_false dstsOf Oper.looksAt Op.operands Call.operands pick stOf goneOf slOf blOf keepB' edge B.ment Region.binds tailOk clos List.any_cons List.any_nil List.filterMap_cons List.filterMap_nil ne_eq Bool.or_self List.isEmpty_iff Array.toList_append List.append_toArray Array.append_empty Option.bind_some Option.bind_none List.push_toArray argSv ioD modeIO staysOk callIO calleeIO argsIO valIO cellsIO cellIO butB zLe cLe csLe vLe vsLe bLe insLe renIOk nbOk anyText anyGc aliveF mK kdN klAt klAt.atL dstNe edgesOf foSl inL C.ids C.idss V.ids V.idss NDst klOf dropS true_or or_true or_self ty3 ty4 ty9 ty5 ty24 ty116 ty87 ty32
set_option linter.unusedVariables false
set_option maxRecDepth 100000
theorem sp_by {P:Program} {f:FuncId} (hen:Enters P f) {args:List A} (vs:List Value) (ha:litAs args=some vs) {res:V} (h:∀ w,GW w→Calls P f vs.toArray w fun e w'=>∃ x,e=.returned x∧Below w.heap.size w w'∧∀ (ok:Bool→Nat→Prop) (ρ:Nat→R),RdV w' ok ρ res x):Sp P f args res [] where
 enters:=hen
 calls w S hS us hG hus:=by
  rw [litAs_rd ha hus]
  refine (h w hG).mono fun e w'=>?_
  rintro ⟨x,rfl,hb,hx⟩
  exact ⟨x,deadR,rfl,hb,(by intro _ _ _ h;cases h),(by intro _ _ _ _ _ h;cases h),fun _ _=>rfl,hx _ _,(by intro _ _ h;cases h)⟩
theorem below_more (w:World) (k:Nat) (os:Array Obj):Below w.heap.size w (grow (w.drewN k) os):=by
 refine ⟨rfl,rfl,rfl,by simp [grow,World.drewN],fun b hb=>?_⟩
 simp [grow,World.drewN,Array.getElem?_append,hb]
theorem below_bytes (w:World) (e:TypeId) (t:ByteArray):Below w.heap.size w (Lib.bytesWorld w e t):=by
 unfold Lib.bytesWorld
 generalize Lib.bytesCells w e t=cs
 have h1:(w.drew.alloc (.cells cs e)).heap=w.heap.push (.cells cs e):=rfl
 unfold World.freeze
 refine ⟨rfl,rfl,rfl,?_,fun b hb=>?_⟩
 ·rw [if_neg (by decide)]
  show _≤Array.size _
  rw [Array.size_modify,h1,Array.size_push]
  omega
 ·rw [if_neg (by decide)]
  show (Array.modify _ _ _)[b]?=_
  rw [Array.getElem?_modify,h1,Array.getElem?_push,if_neg (show ¬ (w.heap.size=b) by omega),if_neg (show ¬ (b=w.heap.size) by omega)]
theorem itoa_sp (n:Int) (h0:-9223372036854775808≤n) (h1:n≤9223372036854775807):Sp Tryz.prog 146 [.one (.lit (.int .i64 n))] (.one (.t true (.lit (.string (digS n))))) [] :=
 sp_by (enters_of Tryz.func146 (by kernel_rfl) rfl) [.int .i64 n] rfl fun w hG=>(Tryz.strconv_Itoa n h0 h1 w hG.tab).mono fun e w'=>by
  rintro ⟨rfl,k,os,rfl⟩
  refine ⟨_,rfl,below_more w k os,fun ok ρ=>?_⟩
  unfold RdV RdC RdT
  exact ⟨rfl,rfl⟩
def boolS (b:Bool):ByteArray:=if b then trueS else falseS
theorem fmtbool_sp (b:Bool):Sp Tryz.prog 147 [.one (.lit (.bool b))] (.one (.t true (.lit (.string (boolS b))))) [] :=
 sp_by (enters_of Tryz.func147 (by kernel_rfl) rfl) [.bool b] rfl fun w _=>(Tryz.strconv_FormatBool b w).mono fun e w'=>by
  rintro ⟨rfl,rfl⟩
  refine ⟨_,rfl,Below.refl _ _,fun ok ρ=>?_⟩
  unfold RdV RdC RdT
  refine ⟨?_,rfl⟩
  congr 1
  cases b <;> rfl
end Go.Proofs.YtjdgejfhnfnmgaaGreatDoor.Ax
namespace Go.Proofs.YtjdgejfhnfnmgaaGreatDoor.Ax
open Go.RowKit
set_option linter.unusedSimpArgs false
attribute [local go_sem] ty3 ty4 ty9 ty5 ty24 ty25 ty87 ty32
set_option linter.unusedVariables false
set_option maxRecDepth 100000
theorem digS_size (n:Int) (h0:-9223372036854775808≤n) (h1:n≤9223372036854775807):(digS n).size≤21:=Lib.itoa_length_le n h0 h1
end Go.Proofs.YtjdgejfhnfnmgaaGreatDoor.Ax
namespace Go.Proofs.YtjdgejfhnfnmgaaGreatDoor.Ax
open Go.RowKit
set_option linter.unusedSimpArgs false
attribute [local go_sem] ty3 ty4 ty9 ty27 ty29 ty24 ty32 ty137
set_option maxRecDepth 100000
theorem argsk_sp (k:Int):Sp Tryz.prog 137 [.one (.lit (.int .i64 k))] (.one (.t true (.lit (.int .i64 (argsK k))))) []:=by
 unfold argsK
 by_cases c1:k < 1
 ·have e1:decide (k < 1)=true:=decide_eq_true c1
  (refine en_ Tryz.func137 Tryz.ntmps137 Tryz.results137 fun X hX=>?_)
  (refine go_ e1 ?_)
  (first | exact oq_ an0 | refine ou_ an0 ?_)
  rw [if_pos (.inl c1)]
 by_cases c2:11 < k
 ·have e1:decide (k < 1)=false:=decide_eq_false c1
  have e2:decide (11 < k)=true:=decide_eq_true c2
  (refine en_ Tryz.func137 Tryz.ntmps137 Tryz.results137 fun X hX=>?_)
  (refine go_ (an2 e1 e2) ?_)
  (first | exact oq_ an0 | refine ou_ an0 ?_)
  rw [if_pos (.inr c2)]
 have e1:decide (k < 1)=false:=decide_eq_false c1
 have e2:decide (11 < k)=false:=decide_eq_false c2
 rw [if_neg (by omega)]
 by_cases c3:k≤2
 ·have e3:decide (k≤2)=true:=decide_eq_true c3
  (refine en_ Tryz.func137 Tryz.ntmps137 Tryz.results137 fun X hX=>?_)
  (refine go_ (an3 e1 e2 e3) ?_)
  (first | exact oq_ an0 | refine ou_ an0 ?_)
  rw [if_pos c3]
 have e3:decide (k≤2)=false:=decide_eq_false c3
 rw [if_neg c3]
 by_cases c4:k≤4
 ·have e4:decide (k≤4)=true:=decide_eq_true c4
  (refine en_ Tryz.func137 Tryz.ntmps137 Tryz.results137 fun X hX=>?_)
  (refine go_ (an4 e1 e2 e3 e4) ?_)
  (first | exact oq_ an0 | refine ou_ an0 ?_)
  rw [if_pos c4]
 have e4:decide (k≤4)=false:=decide_eq_false c4
 rw [if_neg c4]
 (refine en_ Tryz.func137 Tryz.ntmps137 Tryz.results137 fun X hX=>?_)
 (refine go_ (an4 e1 e2 e3 e4) ?_)
 (first | exact oq_ an0 | refine ou_ an0 ?_)
theorem argsof_sp (k:Int):Sp Tryz.prog 108 [.one (.lit (.int .i64 k))] (.one (.t true (.lit (.int .i64 (argsK k))))) []:=by
 have H:=between_sp k 1 11
 unfold argsK
 by_cases c1:k < 1 ∨ 11 < k
 ·have e1:(decide (1≤k) && decide (k≤11))=false:=by simp;omega
  rw [e1] at H
  (refine en_ Tryz.func108 Tryz.ntmps108 Tryz.results108 fun X hX=>?_)
  (refine go_ an0 ?_)
  (refine rn_ 8 an0 fun K hK=>?_;refine rr_ an0 ?_)
  (refine ca_ an0 ?_ (hsp:=H);refine rr_ an0 ?_)
  ((first | refine rwr_nil (hK _ ?_) | refine de_ (hK _ ?_));clear hK K)
  (refine go_ an0 ?_)
  (first | exact oq_ an0 | refine ou_ an0 ?_)
  rw [if_pos c1]
 ·have e1:(decide (1≤k) && decide (k≤11))=true:=by simp;omega
  rw [e1] at H
  rw [if_neg c1]
  (refine en_ Tryz.func108 Tryz.ntmps108 Tryz.results108 fun X hX=>?_)
  (refine go_ an0 ?_)
  (refine rn_ 8 an0 fun K hK=>?_;refine rr_ an0 ?_)
  (refine ca_ an0 ?_ (hsp:=H);refine rr_ an0 ?_)
  ((first | refine rwr_nil (hK _ ?_) | refine de_ (hK _ ?_));clear hK K)
  (refine go_ an0 ?_)
  obtain rfl | rfl | rfl | rfl | rfl | rfl | rfl | rfl | rfl | rfl | rfl:k=1 ∨ k=2 ∨ k=3 ∨ k=4 ∨ k=5 ∨ k=6 ∨ k=7 ∨ k=8 ∨ k=9 ∨ k=10 ∨ k=11:=by omega
  all_goals
   (refine go_ an0 ?_)
   (first | exact oq_ an0 | refine ou_ an0 ?_)
   try rfl
attribute [local go_sem] rE_mk
set_option maxHeartbeats 1000000 in
theorem size_sp (e:Ex):∀ m:Int,0≤m→m≤100→Sp Tryz.prog 77 [.agg (rE e),.one (.lit (.int .i64 m))] (.one (.t true (.lit (.int .i64 (sizeE e m))))) []:=by
 induction e using Ex.ind with
 | h k v nm ar ih =>
  intro m hm hm'
  rw [rE_mk,sizeE]
  (refine en_ Tryz.func77 Tryz.ntmps77 Tryz.results77 fun X hX=>?_)
  (refine go_ an0 ?_)
  refine cw_loop (fun z s=>∃ (i:Nat) (n:Int),i≤ar.length∧z=ar.length - i∧1≤n∧n≤m + 1∧i < n∧sizeL (ar.drop i) m n=sizeL ar m 1∧s=⟨[(11,litI .i64 i),(10,litI .i64 ar.length),(9,.one (.t false (.sl (ar.map rE)))),(5,litI .i64 n),(1,.one (.t false (.lit (.int .i64 m))))],[]⟩) ar.length ⟨_,⟨0,1,Nat.zero_le _,rfl,by omega,by omega,by omega,rfl,rfl⟩,le_⟩ ?_
  rintro z s ⟨i,n,hi,rfl,hn,hn',hin,hf,rfl⟩
  by_cases hlt:i < ar.length
  ·have e1:decide ((i:Int) < (ar.length:Int))=true:=by simp;omega
   obtain ⟨x,hx⟩:∃ x,ar[i]?=some x:=⟨_,List.getElem?_eq_getElem hlt⟩
   have e4:IntKind.i64.wrap ((i:Int) + 1)=((i + 1:Nat):Int):=by rw [IntWalk.i64_in _ (by omega)];rfl
   rw [drop_eq _ _ _ hx,sizeL] at hf
   have ih1:=ih x (List.mem_of_getElem? hx)
   have hb:=sizeE_le x
   obtain ⟨k',v',nm',ar'⟩:=x
   rw [rE_mk] at ih1
   by_cases hmn:m < n
   ·have e2:decide (m < n)=true:=decide_eq_true hmn
    rw [if_pos hmn] at hf
    (refine go_ (an3 e1 e2 hx) ?_)
    (first | exact oq_ an0 | refine ou_ an0 ?_)
    rw [← hf]
   ·have e2:decide (m < n)=false:=decide_eq_false hmn
    rw [if_neg hmn] at hf
    have e5:IntKind.i64.wrap (m - n)=m - n:=IntWalk.i64_in _ (by omega)
    have hb1:=hb (m - n) (by omega)
    have e6:IntKind.i64.wrap (n + sizeE (.mk k' v' nm' ar') (m - n))=n + sizeE (.mk k' v' nm' ar') (m - n):=IntWalk.i64_in _ (by omega)
    (refine go_ (an3 e1 e2 hx) ?_)
    (refine rn_ 8 e5 fun K hK=>?_;refine rr_ e5 ?_)
    (refine ca_ (an2 e5 e6) ?_ (hsp:=ih1 (m - n) (by omega) (by omega));refine rr_ (an2 e5 e6) ?_)
    ((first | refine rwr_nil (hK _ ?_) | refine de_ (hK _ ?_));clear hK K)
    (refine go_ e4 ?_)
    exact ⟨ar.length - (i + 1),by omega,_,⟨i + 1,n + sizeE (.mk k' v' nm' ar') (m - n),by omega,rfl,by omega,by omega,by omega,hf,rfl⟩,le_⟩
  ·have e1:decide ((i:Int) < (ar.length:Int))=false:=by simp;omega
   rw [List.drop_eq_nil_of_le (by omega)] at hf
   (refine go_ e1 ?_)
   (first | exact oq_ an0 | refine ou_ an0 ?_)
   rw [← hf,sizeL]
theorem sizes_le {n:Nat} (h:n≤140737488351232):n≤maxLen:=by unfold maxLen;omega
theorem goodE.inv {k:Int} {v:Vl} {nm:ByteArray} {ar:List Ex} (h:goodE (.mk k v nm ar)):goodV v∧ar.length≤maxLen∧∀ a ∈ ar,goodE a:=by
 cases h with
 | mk hk hv hn hl ha=>exact ⟨hv,hl.2,ha⟩
set_option maxHeartbeats 1000000 in
theorem partsof_sp (e:Ex):∀ m:Int,0≤m→m≤100→Sp Tryz.prog 22 [.agg (rE e),.one (.lit (.int .i64 m))] (.one (.t true (.lit (.int .i64 (sizeE e m))))) []:=by
 induction e using Ex.ind with
 | h k v nm ar ih =>
  intro m hm hm'
  rw [rE_mk,sizeE]
  (refine en_ Tryz.func22 Tryz.ntmps22 Tryz.results22 fun X hX=>?_)
  (refine go_ an0 ?_)
  refine cw_loop (fun z s=>∃ (i:Nat) (n:Int),i≤ar.length∧z=ar.length - i∧1≤n∧n≤m + 1∧i < n∧sizeL (ar.drop i) m n=sizeL ar m 1∧s=⟨[(6,litI .i64 i),(5,litI .i64 n),(1,.one (.t false (.lit (.int .i64 m)))),(2,.one (.optr 2 0))],[(2,.var 29 [.t false (.lit (.int .i64 k)),.t false (.lit (.int .i64 v.k)),.t false (.lit (.int .i64 v.n)),.t false (.lit (.string v.s)),.t false (.lit (.string nm)),.t false (.sl (ar.map rE))])]⟩) ar.length ⟨_,⟨0,1,Nat.zero_le _,rfl,by omega,by omega,by omega,rfl,rfl⟩,le_⟩ ?_
  rintro z s ⟨i,n,hi,rfl,hn,hn',hin,hf,rfl⟩
  by_cases hlt:i < ar.length
  ·have e1:decide ((i:Int) < (ar.length:Int))=true:=by simp;omega
   obtain ⟨x,hx⟩:∃ x,ar[i]?=some x:=⟨_,List.getElem?_eq_getElem hlt⟩
   have e4:IntKind.i64.wrap ((i:Int) + 1)=((i + 1:Nat):Int):=by rw [IntWalk.i64_in _ (by omega)];rfl
   rw [drop_eq _ _ _ hx,sizeL] at hf
   have ih1:=ih x (List.mem_of_getElem? hx)
   have hb:=sizeE_le x
   obtain ⟨k',v',nm',ar'⟩:=x
   rw [rE_mk] at ih1
   by_cases hmn:m < n
   ·have e2:decide (n≤m)=false:=decide_eq_false (by omega)
    rw [if_pos hmn] at hf
    (refine go_ (an2 e1 e2) ?_)
    (first | exact oq_ an0 | refine ou_ an0 ?_)
    rw [← hf]
   ·have e2:decide (n≤m)=true:=decide_eq_true (by omega)
    rw [if_neg hmn] at hf
    have e5:IntKind.i64.wrap (m - n)=m - n:=IntWalk.i64_in _ (by omega)
    have hb1:=hb (m - n) (by omega)
    have e6:IntKind.i64.wrap (n + sizeE (.mk k' v' nm' ar') (m - n))=n + sizeE (.mk k' v' nm' ar') (m - n):=IntWalk.i64_in _ (by omega)
    (refine go_ (an3 e1 e2 hx) ?_)
    (refine rn_ 8 (an2 e5 hx) fun K hK=>?_;refine rr_ (an2 e5 hx) ?_)
    (refine ca_ (an2 e5 e6) ?_ (hsp:=ih1 (m - n) (by omega) (by omega));refine rr_ (an2 e5 e6) ?_)
    ((first | refine rwr_nil (hK _ ?_) | refine de_ (hK _ ?_));clear hK K)
    (refine go_ e4 ?_)
    exact ⟨ar.length - (i + 1),by omega,_,⟨i + 1,n + sizeE (.mk k' v' nm' ar') (m - n),by omega,rfl,by omega,by omega,by omega,hf,rfl⟩,le_⟩
  ·have e1:decide ((i:Int) < (ar.length:Int))=false:=by simp;omega
   rw [List.drop_eq_nil_of_le (by omega)] at hf
   (refine go_ e1 ?_)
   (first | exact oq_ an0 | refine ou_ an0 ?_)
   rw [← hf,sizeL]
theorem isEd (s:ByteArray):(s.toList==ByteArray.empty.toList)=emptyS s:=isE s
theorem vtype_sp (n:Int):Sp Tryz.prog 47 [.one (.lit (.int .i64 n))] (.one (.t true (.lit (.bool (decide (1≤n) && decide (n≤3)))))) []:=by
 have hw:Sp Tryz.prog 79 [.one (.lit (.int .i64 n)),.one (.lit (.int .i64 1)),.one (.lit (.int .i64 3))] (.one (.t true (.lit (.bool (decide (1≤n) && decide (n≤3)))))) [] :=
  sp_lits (enters_of Tryz.func79 (by kernel_rfl) rfl) [.int .i64 n,.int .i64 1,.int .i64 3] _ rfl rfl fun w=>(within_any n 1 3 w).mono fun _ _ h=>⟨h.1,h.2 ▸ Below.refl _ _⟩
 (refine en_ Tryz.func47 Tryz.ntmps47 Tryz.results47 fun X hX=>?_)
 (refine gs_ ?_)
 (refine rn_ 8 an0 fun K hK=>?_;refine rr_ an0 ?_)
 ((first | refine rwr_nil (hK _ ?_) | refine de_ (hK _ ?_));clear hK K)
 (refine gs_ ?_)
 (refine rn_ 8 an0 fun K hK=>?_;refine rr_ an0 ?_)
 (refine ca_ an0 ?_ (hsp:=hw);refine rr_ an0 ?_)
 ((first | refine rwr_nil (hK _ ?_) | refine de_ (hK _ ?_));clear hK K)
 (refine go_ an0 ?_)
 (first | exact oq_ an0 | refine ou_ an0 ?_)
end Go.Proofs.YtjdgejfhnfnmgaaGreatDoor.Ax
namespace Go.Proofs.YtjdgejfhnfnmgaaGreatDoor.Ax
open Go.RowKit
set_option linter.unusedSimpArgs false
attribute [local go_sem] ty3 ty4 ty9 ty24 feq24 ty27 ty29
set_option maxRecDepth 100000
attribute [local go_sem] isE
set_option maxHeartbeats 4000000 in
theorem plain_sp (k:Int) (v:Vl) (nm:ByteArray) (ar:List Ex):Sp Tryz.prog 86 [.agg (rE (.mk k v nm ar))] (.one (.t true (.lit (.bool (plainB k v nm ar.length))))) []:=by
 rw [rE_mk]
 have H:=argsk_sp k
 (refine en_ Tryz.func86 Tryz.ntmps86 Tryz.results86 fun X hX=>?_)
 (refine go_ an0 ?_)
 cases e1:((ar.length:Int)==argsK k)
 ·(refine dr_ 0 an0 fun K hK=>?_)
  (refine dd_ e1 ?_)
  (first | refine dcf_ 0 an0 ?_ (hsp:=H) | refine dc_ 0 an0 ?_ (hsp:=H))
  (refine dd_ e1 ?_)
  (refine dd_ e1 ?_)
  ((first | refine rwr_nil (hK _ ?_) | refine de_ (hK _ ?_));clear hK K)
  (refine go_ e1 ?_)
  (first | exact oq_ an0 | refine ou_ an0 ?_)
  simp [plainB,e1]
  try exact sameZ v
 have h:k=1 ∨ k=2 ∨ (k ≠ 1∧k ≠ 2):=by omega
 rcases h with h | h | ⟨h,h'⟩
 ·subst h
  cases e3:emptyS nm
  all_goals
   (refine dr_ 0 an0 fun K hK=>?_)
   (refine dd_ (an2 e1 e3) ?_)
   (first | refine dcf_ 0 an0 ?_ (hsp:=H) | refine dc_ 0 an0 ?_ (hsp:=H))
   (refine dd_ (an2 e1 e3) ?_)
   (refine dd_ (an2 e1 e3) ?_)
   ((first | refine rwr_nil (hK _ ?_) | refine de_ (hK _ ?_));clear hK K)
   (refine go_ (an2 e1 e3) ?_)
   (first | exact oq_ an0 | refine ou_ an0 ?_)
   simp [plainB,e1,e3]
 ·subst h
  (refine dr_ 0 an0 fun K hK=>?_)
  (refine dd_ e1 ?_)
  (first | refine dcf_ 0 an0 ?_ (hsp:=H) | refine dc_ 0 an0 ?_ (hsp:=H))
  (refine dd_ e1 ?_)
  (refine dd_ e1 ?_)
  ((first | refine rwr_nil (hK _ ?_) | refine de_ (hK _ ?_));clear hK K)
  (refine go_ e1 ?_)
  (first | exact oq_ an0 | refine ou_ an0 ?_)
  simp [plainB,e1]
  try exact sameZ v
 ·have e2:(k==1)=false:=by simpa using h
  have e2':(k==2)=false:=by simpa using h'
  cases e3:emptyS nm
  all_goals
   (refine dr_ 0 an0 fun K hK=>?_)
   (refine dd_ (an4 e1 e2 e2' e3) ?_)
   (first | refine dcf_ 0 an0 ?_ (hsp:=H) | refine dc_ 0 an0 ?_ (hsp:=H))
   (refine dd_ (an4 e1 e2 e2' e3) ?_)
   (refine dd_ (an4 e1 e2 e2' e3) ?_)
   ((first | refine rwr_nil (hK _ ?_) | refine de_ (hK _ ?_));clear hK K)
   (refine go_ (an4 e1 e2 e2' e3) ?_)
   (first | exact oq_ an0 | refine ou_ an0 ?_)
   simp [plainB,e1,e2,e2',e3]
   try exact sameZ v
end Go.Proofs.YtjdgejfhnfnmgaaGreatDoor.Ax
