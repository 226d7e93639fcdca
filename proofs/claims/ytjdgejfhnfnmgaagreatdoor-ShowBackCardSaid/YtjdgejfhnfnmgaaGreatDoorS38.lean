/-  -/
import Derived.Test.YtjdgejfhnfnmgaaGreatDoorS19
import Derived.Test.YtjdgejfhnfnmgaaGreatDoorS16
import Derived.Test.YtjdgejfhnfnmgaaGreatDoorS17
import Derived.Test.YtjdgejfhnfnmgaaGreatDoorS33
import Derived.Test.YtjdgejfhnfnmgaaGreatDoorS13
import Derived.Test.YtjdgejfhnfnmgaaGreatDoorS37
import Derived.KernelRfl
import Derived.Test.YtjdgejfhnfnmgaaGreatDoorS36
import Derived.Test.YtjdgejfhnfnmgaaGreatDoorS23
import Derived.Test.YtjdgejfhnfnmgaaGreatDoorS18
import Derived.Test.YtjdgejfhnfnmgaaGreatDoorS27
namespace Go.Proofs.YtjdgejfhnfnmgaaGreatDoor.Ax
open Go.RowKit
theorem rdL_cellsT {w:World} {ok:Nat→Prop}:∀ T:List Vl,RdL w ok (rVs T).flatten (_root_.Go.Proofs.YtjdgejfhnfnmgaaGreatDoor.cellsV T)
 | []=>by
  show RdL w ok [] []
  unfold RdL;trivial
 | v :: T=>by
  show RdL w ok (.lit (.int .i64 v.k) :: .lit (.int .i64 v.n) :: .lit (.string v.s) :: (rVs T).flatten) (.int .i64 v.k :: .int .i64 v.n :: .string v.s :: _root_.Go.Proofs.YtjdgejfhnfnmgaaGreatDoor.cellsV T)
  unfold RdL RdL RdL RdT
  exact ⟨⟨rfl,rfl⟩,⟨rfl,rfl⟩,⟨rfl,rfl⟩,rdL_cellsT T⟩
theorem sp_rowsT {P:Program} {f:FuncId} (hen:Enters P f) {args:List A} (us:List Value) (ha:litAs args=some us) (e:TypeId) (T:List Vl) (k k2:Int)
  (h:∀ w,Calls P f us.toArray w fun en w'=>∃ v,en=.returned (.tuple #[v,.int .i64 k,.int .i64 k2])∧w'.ownsRow w.heap.size e 3 v T.length (_root_.Go.Proofs.YtjdgejfhnfnmgaaGreatDoor.cellsV T)∧Below w.heap.size w w') :
  Sp P f args (.tup [.one (.own 0 T.length),.one (.t true (.lit (.int .i64 k))),.one (.t true (.lit (.int .i64 k2)))]) [(0,.arr e 3 true (rVs T))] where
 enters:=hen
 calls w S hS vs _ hvs:=by
  rw [litAs_rd ha hvs]
  refine (h w).mono fun en w'=>?_
  rintro ⟨v,rfl,hown,hb⟩
  rcases hown with ⟨hl,⟨rfl,hn⟩ | ⟨g,cap,cur,rfl,hbg,hg,h1,h2,h3,h4⟩⟩
  ·refine ⟨_,updR deadR 0 .nil,rfl,hb,?_,?_,?_,?_,?_⟩
   ·intro id b c hi
    unfold updR at hi
    split at hi <;> cases hi
   ·intro i j b c d hi
    unfold updR at hi
    split at hi <;> cases hi
   ·intro id hi
    rw [updR_ne (by simpa using hi)];rfl
   ·unfold RdV
    refine ⟨_,rfl,?_⟩
    unfold RdVs RdV RdC
    rw [updR_same]
    refine ⟨⟨hn,none,rfl⟩,?_⟩
    unfold RdVs RdV RdC RdT RdVs RdV RdC RdT RdVs
    exact ⟨⟨rfl,rfl⟩,⟨rfl,rfl⟩,trivial⟩
   ·intro id b hb'
    simp only [get] at hb'
    split at hb'
    ·rename_i hid
     subst hid
     injection hb' with hb'
     subst hb'
     unfold HasB
     rw [updR_same]
     rw [List.eq_nil_of_length_eq_zero hn];rfl
    ·cases hb'
  ·refine ⟨_,updR deadR 0 (.lie g cap),rfl,hb,?_,?_,?_,?_,?_⟩
   ·intro id b c hi
    unfold updR at hi
    split at hi
    ·injection hi with h5 h6
     subst h5
     exact ⟨by omega,(Array.getElem?_eq_some_iff.1 hg).1⟩
    ·cases hi
   ·intro i j b c d hi hj
    unfold updR at hi hj
    split at hi
    ·split at hj
     ·rename_i h5 h6
      rw [h5,h6]
     ·cases hj
    ·cases hi
   ·intro id hi
    rw [updR_ne (by simpa using hi)];rfl
   ·unfold RdV
    refine ⟨_,rfl,?_⟩
    unfold RdVs RdV RdC
    rw [updR_same]
    refine ⟨rfl,?_⟩
    unfold RdVs RdV RdC RdT RdVs RdV RdC RdT RdVs
    exact ⟨⟨rfl,rfl⟩,⟨rfl,rfl⟩,trivial⟩
   ·intro id b hb'
    simp only [get] at hb'
    split at hb'
    ·rename_i hid
     subst hid
     injection hb' with hb'
     subst hb'
     unfold HasB
     rw [updR_same]
     have hlen:(rVs T).length=T.length:=List.length_map _
     refine ⟨_root_.Go.Proofs.YtjdgejfhnfnmgaaGreatDoor.cellsV T,?_,rdL_cellsT T,?_⟩
     ·rw [hlen]
      exact ⟨hl,.inr ⟨g,cap,cur,rfl,Nat.zero_le _,hg,h1,h2,h3,h4⟩⟩
     ·intro r hr
      obtain ⟨v,_,rfl⟩:=List.mem_map.1 hr
      rfl
    ·cases hb'
theorem rscan_sp (s:ByteArray) (hs:s.size≤maxLen):Sp Tryz.prog 41 [.one (.lit (.string s))] (.tup [.one (.own 0 (scanS s).1.length),.one (.t true (.lit (.int .i64 (scanS s).2.1))),.one (.t true (.lit (.int .i64 (scanS s).2.2)))]) [(0,.arr 77 3 true (rVs (scanS s).1))] :=
 sp_rowsT (enters_of Tryz.func41 (by kernel_rfl) rfl) [.string s] rfl 77 _ _ _ fun w=>(scanof_any s w hs).mono fun _ _ h=>h
set_option linter.unusedSimpArgs false
attribute [local go_sem] ty3 ty4 ty9 ty5 ty26 ty24 ty29 ty27 ty54 ty22 ty25 ty31 ty77 ty43 ty69 ty101 ty32 meltSt
set_option linter.unusedVariables false
set_option maxRecDepth 100000
def smallT:ByteArray:=⟨#[117,112,100,97,116,101,32,116,32,115,101,116,32,97,32,61,32,40,97,32,43,32,49,41,32,119,104,101,114,101,32,40,98,32,61,32,39,120,39,41,32]⟩
def small0:List Vl:=[⟨1,0,bs [117,112,100,97,116,101]⟩,⟨1,7,bs [116]⟩,⟨1,9,bs [115,101,116]⟩,⟨1,13,bs [97]⟩,⟨4,15,bs [61]⟩,⟨4,17,bs [40]⟩,⟨1,18,bs [97]⟩,⟨4,20,bs [43]⟩,⟨2,22,bs [49]⟩,⟨4,23,bs [41]⟩,⟨1,25,bs [119,104,101,114,101]⟩,⟨4,31,bs [40]⟩,⟨1,32,bs [98]⟩,⟨4,34,bs [61]⟩,⟨3,36,bs [39,120,39]⟩,⟨4,39,bs [41]⟩]
def smallAE:List Ex:=[.mk 2 Vl.zero ⟨#[97]⟩ [],.mk 1 ⟨1,1,⟨#[]⟩⟩ .empty []]
def smallAW:List Ex:=[.mk 2 Vl.zero ⟨#[98]⟩ [],.mk 1 ⟨2,0,⟨#[120]⟩⟩ .empty []]
def smallE:Ex:=.mk 7 Vl.zero .empty smallAE
def smallW:Ex:=.mk 11 Vl.zero .empty smallAW
def smallC:Cm:=⟨12,⟨#[116]⟩,.empty,⟨#[97]⟩,[],0,Vl.zero,[],[],smallE,false,smallW,.empty,0⟩
theorem small_scan:scanS smallT=(small0,0,0):=by kernel_rfl
theorem small_good:GoodL small0:=⟨by decide,fun t ht=>by
 have h:small0.all (fun t=>tokB t.k t.s)=true:=by kernel_rfl
 exact List.all_eq_true.1 h t ht⟩
theorem small_check:checkP smallC=0:=by kernel_rfl
theorem small_goodCm:goodCm smallC where
 name:=by decide
 other:=by decide
 column:=by decide
 cols:=by decide
 colN:=by intro x hx;cases hx
 v:=by decide
 vals:=by decide
 valS:=by intro x hx;cases hx
 fields:=by decide
 fieldS:=by intro x hx;cases hx
 ex:=.mk (by decide) ⟨by decide,by decide,Nat.zero_le _⟩ (Nat.zero_le _) (by decide) (by
  intro a ha
  unfold smallAE at ha
  simp only [List.mem_cons,List.not_mem_nil,or_false] at ha
  rcases ha with rfl | rfl
  ·exact .mk (by decide) ⟨by decide,by decide,Nat.zero_le _⟩ (by decide) (by decide) (by simp)
  ·exact .mk (by decide) ⟨by decide,by decide,Nat.zero_le _⟩ (Nat.zero_le _) (by decide) (by simp))
 wh:=.mk (by decide) ⟨by decide,by decide,Nat.zero_le _⟩ (Nat.zero_le _) (by decide) (by
  intro a ha
  unfold smallAW at ha
  simp only [List.mem_cons,List.not_mem_nil,or_false] at ha
  rcases ha with rfl | rfl
  ·exact .mk (by decide) ⟨by decide,by decide,Nat.zero_le _⟩ (by decide) (by decide) (by simp)
  ·exact .mk (by decide) ⟨by decide,by decide,by decide⟩ (Nat.zero_le _) (by decide) (by simp))
 order:=by decide
set_option maxHeartbeats 16000000 in
theorem small_parse:Sp Tryz.prog 15 [.one (.lit (.string smallT))] (.tup [vCm smallC,litI .i64 0,litI .i64 0]) []:=by
 have hS:=(rscan_sp smallT (by decide)).ren [(0,11)] rfl rfl rfl rfl
 rw [small_scan] at hS
 have hC:=rcmd_upd small0 small_good 41 ⟨0,false⟩ ⟨1,false⟩ ⟨2,false⟩ ⟨3,false⟩ ⟨4,false⟩ ⟨5,false⟩ ⟨10,false⟩ ⟨11,false⟩ ⟨16,false⟩ ⟨#[116]⟩ ⟨#[97]⟩ 7 Vl.zero .empty smallAE 11 Vl.zero .empty smallAW (by decide) (by kernel_rfl) (by kernel_rfl) (by kernel_rfl) (by kernel_rfl) (by kernel_rfl) (by kernel_rfl) (by kernel_rfl) (by kernel_rfl) (by kernel_rfl) (by kernel_rfl) (by kernel_rfl) (by kernel_rfl) (by kernel_rfl)
 have hK:=rcheck_csp smallC small_goodCm
 rw [small_check] at hK
 unfold rdH zC at hC
 dsimp only at hC
 have hz:((smallT.size:Nat):Int)=41:=by decide
 have hl:small0.length=16:=rfl
 have hR:(rVs small0).length=16:=rfl
 unfold vCm smallC smallE smallW
 unfold smallC smallE smallW at hK
 rw [rCm_mk] at hK ⊢
 simp only [rCs,rVs,rS,List.map_nil,Vl.zero] at hK hC ⊢
 generalize small0=l0 at *
 generalize smallT=t0 at *
 (refine en_ Tryz.func15 Tryz.ntmps15 Tryz.results15 fun X hX=>?_)
 refine gs_ ?_
 (refine rn_ 8 an0 fun K hK=>?_;refine rr_ an0 ?_)
 ((first | refine rwr_nil (hK _ ?_) | refine de_ (hK _ ?_));clear hK K)
 refine gs_ ?_
 (refine rn_ 8 an0 fun K hK=>?_;refine rr_ an0 ?_)
 (refine ca_ an0 ?_ (hsp:=hS);refine rr_ an0 ?_)
 ((first | refine rwr_nil (hK _ ?_) | refine de_ (hK _ ?_));clear hK K)
 refine gs_ ?_
 refine cw_melt 5 11 rfl rfl (by first | exact List.length_map _ | rfl) ?_
 refine au_ (an3 hz hl hR) ?_
 (refine rn_ 8 (an3 hz hl hR) fun K hK=>?_;refine rr_ (an3 hz hl hR) ?_)
 (refine rwr_io 40 (SpIO.ren (hC) [(1000,8)] rfl) rfl rfl (by simp only [go_sem,meltSt,hX];exact rfl) (by simp only [go_sem,meltSt,hX]) (by simp only [go_sem,meltSt,hX]) (by simp only [go_sem,meltSt,hX]) (by simp only [go_sem,meltSt,hX]) rfl (by rw [hX];rfl) ?_;simp only [go_sem,meltSt,hX])
 ((first | refine rwr_nil (hK _ ?_) | refine de_ (hK _ ?_));clear hK K)
 refine au_ (an3 hz hl hR) ?_
 exact op_ an0 (.inl rfl)
end Go.Proofs.YtjdgejfhnfnmgaaGreatDoor.Ax
namespace Go.Proofs.YtjdgejfhnfnmgaaGreatDoor.Ax
open Go.RowKit
theorem pscan_sp (s:ByteArray) (hs:s.size≤maxLen):Sp Tryz.prog 19 [.one (.lit (.string s))] (.tup [.one (.own 0 (scanS s).1.length),.one (.t true (.lit (.int .i64 (scanS s).2.1))),.one (.t true (.lit (.int .i64 (scanS s).2.2)))]) [(0,.arr 77 3 true (rVs (scanS s).1))] :=
 sp_rowsT (enters_of Tryz.func19 (by kernel_rfl) rfl) [.string s] rfl 77 _ _ _ fun w=>(scan_any s w hs).mono fun _ _ ⟨v,h1,h2,h3⟩=>⟨v,h1,own_low h2 (Nat.le_succ _),h3⟩
set_option linter.unusedSimpArgs false
attribute [local go_sem] ty3 ty4 ty9 ty5 ty26 ty24 ty29 ty27 ty54 ty22 ty25 ty31 ty32 ty77 ty43 ty67 ty65 meltSt zC zK
set_option linter.unusedVariables false
set_option maxRecDepth 100000
theorem rCm_eta (c:Cm):rCm c=[.lit (.int .i64 c.k),.lit (.string c.name),.lit (.string c.other),.lit (.string c.column),.sl (rCs c.cols),.lit (.int .i64 c.ty),.lit (.int .i64 c.v.k),.lit (.int .i64 c.v.n),.lit (.string c.v.s),.sl (rVs c.vals),.sl (rS c.fields),.lit (.int .i64 c.ex.k),.lit (.int .i64 c.ex.vk.k),.lit (.int .i64 c.ex.vk.n),.lit (.string c.ex.vk.s),.lit (.string c.ex.nm),.sl (c.ex.ar.map rE),.lit (.bool c.all),.lit (.int .i64 c.wh.k),.lit (.int .i64 c.wh.vk.k),.lit (.int .i64 c.wh.vk.n),.lit (.string c.wh.vk.s),.lit (.string c.wh.nm),.sl (c.wh.ar.map rE),.lit (.string c.order),.lit (.int .i64 c.limit)]:=by
 unfold rCm
 rw [rE_eta,rE_eta]
 rfl
theorem cmC_map (c:Cm):cmC c=(rCm c).map (C.t true):=by
 rw [rCm_eta]
 rfl
def parseP (s:ByteArray):Cm × Int × Int :=
 if (scanS s).2.2=0 then match cmdR (scanS s).1 with
  | .ok c _=>if checkP c=0 then (c,0,0) else (zCm,0,checkP c)
  | .bad k=>(zCm,hereP (scanS s).1 s.size k,1)
 else (zCm,(scanS s).2.1,(scanS s).2.2)
def vParse (r:Cm × Int × Int):V:=.tup [.agg (cmC r.1),.one (.t true (.lit (.int .i64 r.2.1))),.one (.t true (.lit (.int .i64 r.2.2)))]
set_option maxHeartbeats 16000000 in
theorem parse_sp (s:ByteArray) (hs:s.size≤maxLen):Sp Tryz.prog 14 [.one (.lit (.string s))] (vParse (parseP s)) []:=by
 have hS:=(pscan_sp s hs).ren [(0,11)] rfl rfl rfl rfl
 have hgl:=scanS_good (s:=s)
 unfold parseP
 generalize scanS s=x at *
 obtain ⟨l,at_,e⟩:=x
 dsimp only at hS hgl ⊢
 by_cases he:e=0
 ·subst he
  have hl:=hgl rfl
  rw [if_pos rfl]
  have hP:=pparse_io l hl s.size
  rw [← cmdR_eq] at hP
  unfold zC at hP
  have hgd:=fun c k h=>cmd_good (c:=c) (k:=k) hl h
  have hR:(rVs l).length=l.length:=List.length_map _
  have hz:((0:Nat):Int)=0:=rfl
  cases hc:cmdR l with
  | ok c k =>
   have hK:=ccheck_sp c (hgd c k hc)
   rw [rCm_eta] at hK
   rw [hc] at hP
   unfold parseV at hP
   have hP:=hP.ren [(1000,25)] rfl
   unfold vParse
   by_cases hck:checkP c=0
   ·rw [hck] at hK
    dsimp only
    rw [if_pos hck]
    dsimp only
    unfold cmC at hP ⊢
    ((refine en_ Tryz.func14 Tryz.ntmps14 Tryz.results14 fun X hX=>?_);refine gs_ ?_;(refine rn_ 8 an0 fun K hK=>?_;refine rr_ an0 ?_);((first | refine rwr_nil (hK _ ?_) | refine de_ (hK _ ?_));clear hK K);refine gs_ ?_;(refine rn_ 8 an0 fun K hK=>?_;refine rr_ an0 ?_);(refine ca_ an0 ?_ (hsp:=hS);refine rr_ an0 ?_);((first | refine rwr_nil (hK _ ?_) | refine de_ (hK _ ?_));clear hK K);refine gs_ ?_;refine cw_melt 5 11 rfl rfl (by first | exact List.length_map _ | rfl) ?_;refine au_ (an2 hR hz) ?_)
    (refine rn_ 8 (an2 hz hR) fun K hK=>?_;refine rr_ (an2 hz hR) ?_)
    (refine rwr_io 40 (SpIO.ren (hP) [(25,25)] rfl) rfl rfl (by simp only [go_sem,meltSt,zC,zK,hX];exact rfl) (by simp only [go_sem,meltSt,zC,zK,hX]) (by simp only [go_sem,meltSt,zC,zK,hX]) (by simp only [go_sem,meltSt,zC,zK,hX]) (by simp only [go_sem,meltSt,zC,zK,hX]) rfl (by rw [hX];rfl) ?_;simp only [go_sem,meltSt,zC,zK,hX])
    ((first | refine rwr_nil (hK _ ?_) | refine de_ (hK _ ?_));clear hK K)
    refine au_ (an2 hR hz) ?_
    exact op_ an0 (.inl rfl)
   ·dsimp only
    rw [if_neg hck]
    generalize checkP c=q at *
    have e1:(q != 0)=true:=by simp;omega
    have e2:(q==0)=false:=by simp;omega
    dsimp only
    unfold cmC at hP
    unfold cmC zCm zE
    ((refine en_ Tryz.func14 Tryz.ntmps14 Tryz.results14 fun X hX=>?_);refine gs_ ?_;(refine rn_ 8 an0 fun K hK=>?_;refine rr_ an0 ?_);((first | refine rwr_nil (hK _ ?_) | refine de_ (hK _ ?_));clear hK K);refine gs_ ?_;(refine rn_ 8 an0 fun K hK=>?_;refine rr_ an0 ?_);(refine ca_ an0 ?_ (hsp:=hS);refine rr_ an0 ?_);((first | refine rwr_nil (hK _ ?_) | refine de_ (hK _ ?_));clear hK K);refine gs_ ?_;refine cw_melt 5 11 rfl rfl (by first | exact List.length_map _ | rfl) ?_;refine au_ (an2 hR hz) ?_)
    (refine rn_ 8 (an2 hz hR) fun K hK=>?_;refine rr_ (an2 hz hR) ?_)
    (refine rwr_io 40 (SpIO.ren (hP) [(25,25)] rfl) rfl rfl (by simp only [go_sem,meltSt,zC,zK,hX];exact rfl) (by simp only [go_sem,meltSt,zC,zK,hX]) (by simp only [go_sem,meltSt,zC,zK,hX]) (by simp only [go_sem,meltSt,zC,zK,hX]) (by simp only [go_sem,meltSt,zC,zK,hX]) rfl (by rw [hX];rfl) ?_;simp only [go_sem,meltSt,zC,zK,hX])
    ((first | refine rwr_nil (hK _ ?_) | refine de_ (hK _ ?_));clear hK K)
    refine au_ (an4 hR hz e1 e2) ?_
    exact op_ an0 (.inl rfl)
  | bad k =>
   rw [hc] at hP
   unfold parseV at hP
   have hP:=hP.ren [(1000,25)] rfl
   unfold vParse cmC zCm zE
   dsimp only
   ((refine en_ Tryz.func14 Tryz.ntmps14 Tryz.results14 fun X hX=>?_);refine gs_ ?_;(refine rn_ 8 an0 fun K hK=>?_;refine rr_ an0 ?_);((first | refine rwr_nil (hK _ ?_) | refine de_ (hK _ ?_));clear hK K);refine gs_ ?_;(refine rn_ 8 an0 fun K hK=>?_;refine rr_ an0 ?_);(refine ca_ an0 ?_ (hsp:=hS);refine rr_ an0 ?_);((first | refine rwr_nil (hK _ ?_) | refine de_ (hK _ ?_));clear hK K);refine gs_ ?_;refine cw_melt 5 11 rfl rfl (by first | exact List.length_map _ | rfl) ?_;refine au_ (an2 hR hz) ?_)
   (refine rn_ 8 (an2 hz hR) fun K hK=>?_;refine rr_ (an2 hz hR) ?_)
   (refine rwr_io 40 (SpIO.ren (hP) [(25,25)] rfl) rfl rfl (by simp only [go_sem,meltSt,zC,zK,hX];exact rfl) (by simp only [go_sem,meltSt,zC,zK,hX]) (by simp only [go_sem,meltSt,zC,zK,hX]) (by simp only [go_sem,meltSt,zC,zK,hX]) (by simp only [go_sem,meltSt,zC,zK,hX]) rfl (by rw [hX];rfl) ?_;simp only [go_sem,meltSt,zC,zK,hX])
   ((first | refine rwr_nil (hK _ ?_) | refine de_ (hK _ ?_));clear hK K)
   refine au_ (an2 hR hz) ?_
   exact op_ an0 (.inl rfl)
 ·rw [if_neg he]
  have e1:((e:Int) != 0)=true:=by simp;omega
  have e2:((e:Int)==0)=false:=by simp;omega
  unfold vParse cmC zCm zE
  dsimp only
  (refine en_ Tryz.func14 Tryz.ntmps14 Tryz.results14 fun X hX=>?_)
  refine gs_ ?_
  (refine rn_ 8 an0 fun K hK=>?_;refine rr_ an0 ?_)
  ((first | refine rwr_nil (hK _ ?_) | refine de_ (hK _ ?_));clear hK K)
  refine gs_ ?_
  (refine rn_ 8 an0 fun K hK=>?_;refine rr_ an0 ?_)
  (refine ca_ an0 ?_ (hsp:=hS);refine rr_ an0 ?_)
  ((first | refine rwr_nil (hK _ ?_) | refine de_ (hK _ ?_));clear hK K)
  refine au_ (an2 e1 e2) ?_
  exact op_ an0 (.inl rfl)
end Go.Proofs.YtjdgejfhnfnmgaaGreatDoor.Ax
namespace Go.Proofs.YtjdgejfhnfnmgaaGreatDoor.Ax
open Go.RowKit
set_option linter.unusedSimpArgs false
attribute [local go_sem] ty3 ty4 ty9 ty5 ty26 ty24 ty29 ty27 ty54 ty22 ty25 ty31 ty32
set_option linter.unusedVariables false
set_option maxRecDepth 100000
theorem small_parseP:parseP smallT=(smallC,0,0):=by kernel_rfl
set_option maxHeartbeats 16000000 in
theorem cbegun_sp:Sp Tryz.prog 16 [] (.one (.t true (.lit (.bool true)))) []:=by
 have h1:=parse_sp smallT (by decide)
 rw [small_parseP] at h1
 have h2:=ccheck_sp smallC small_goodCm
 rw [small_check] at h2
 unfold vParse at h1
 rw [cmC_map] at h1
 unfold smallT at h1
 unfold smallC smallE smallW at h1 h2
 rw [rCm_mk] at h1 h2
 simp only [List.map_cons,List.map_nil,Vl.zero,rCs,rVs,rS] at h1 h2
 generalize hq:List.map rE smallAE=q1 at *
 generalize hw:List.map rE smallAW=q2 at *
 have e1:((⟨#[97]⟩:ByteArray).toList==(⟨#[97]⟩:ByteArray).toList)=true:=beq_self_eq_true _
 (refine en_ Tryz.func16 Tryz.ntmps16 Tryz.results16 fun X hX=>?_)
 refine gs_ ?_
 refine au_ e1 ?_
 exact oq_ an0
end Go.Proofs.YtjdgejfhnfnmgaaGreatDoor.Ax
namespace Go.Proofs.YtjdgejfhnfnmgaaGreatDoor.Ax
open Go.RowKit
set_option linter.unusedSimpArgs false
attribute [local go_sem] ty3 ty4 ty9 feq24 ty24 ty25 feq54 ty54 ty22 ty26 ty27 ty29 ty31 List.append_eq
set_option linter.unusedVariables false
set_option maxRecDepth 100000
end Go.Proofs.YtjdgejfhnfnmgaaGreatDoor.Ax
namespace Go.Proofs.YtjdgejfhnfnmgaaGreatDoor.Ax
open Go.RowKit
theorem gx_inj:∀ (g h:Gx),g.ex=h.ex→g=h:=by
 intro g
 induction g with
 | val v =>
  intro h e
  cases h with
  | val u=>rw [Gx.ex,Gx.ex] at e;injection e with _ e2 _ _;rw [e2]
  | col nm=>rw [Gx.ex,Gx.ex] at e;injection e with e1 _ _ _;cases e1
  | un k x=>rw [Gx.ex,Gx.ex] at e;injection e with _ _ _ e4;cases e4
  | bin k x y=>rw [Gx.ex,Gx.ex] at e;injection e with _ _ _ e4;cases e4
 | col nm =>
  intro h e
  cases h with
  | val u=>rw [Gx.ex,Gx.ex] at e;injection e with e1 _ _ _;cases e1
  | col nm=>rw [Gx.ex,Gx.ex] at e;injection e with _ _ e3 _;rw [e3]
  | un k x=>rw [Gx.ex,Gx.ex] at e;injection e with _ _ _ e4;cases e4
  | bin k x y=>rw [Gx.ex,Gx.ex] at e;injection e with _ _ _ e4;cases e4
 | un k x ih =>
  intro h e
  cases h with
  | val u=>rw [Gx.ex,Gx.ex] at e;injection e with _ _ _ e4;cases e4
  | col nm=>rw [Gx.ex,Gx.ex] at e;injection e with _ _ _ e4;cases e4
  | un k' x' =>
   rw [Gx.ex,Gx.ex] at e
   injection e with e1 _ _ e4
   injection e4 with e5 _
   rw [e1,ih x' e5]
  | bin k x y=>rw [Gx.ex,Gx.ex] at e;injection e with _ _ _ e4;injection e4 with _ e5;cases e5
 | bin k x y ih1 ih2 =>
  intro h e
  cases h with
  | val u=>rw [Gx.ex,Gx.ex] at e;injection e with _ _ _ e4;cases e4
  | col nm=>rw [Gx.ex,Gx.ex] at e;injection e with _ _ _ e4;cases e4
  | un k' x'=>rw [Gx.ex,Gx.ex] at e;injection e with _ _ _ e4;injection e4 with _ e5;cases e5
  | bin k' x' y' =>
   rw [Gx.ex,Gx.ex] at e
   injection e with e1 _ _ e4
   injection e4 with e5 e6
   injection e6 with e7 _
   rw [e1,ih1 x' e5,ih2 y' e7]
set_option linter.unusedSimpArgs false
attribute [local go_sem] ty3 ty4 ty9 ty5 ty26 ty24 ty29 ty27 ty54 ty22 ty25 ty31 ty32
set_option linter.unusedVariables false
set_option maxRecDepth 100000
def smallOut:ByteArray:=⟨#[117,112,100,97,116,101,32,116,32,115,101,116,32,97,32,61,32,40,97,32,43,32,49,41,32,119,104,101,114,101,32,40,98,32,61,32,39,120,39,41]⟩
def smallGE:Gx:=.bin 7 (.col ⟨#[97]⟩) (.val ⟨1,1,⟨#[]⟩⟩)
def smallGW:Gx:=.bin 11 (.col ⟨#[98]⟩) (.val ⟨2,0,⟨#[120]⟩⟩)
theorem small_show:Sp Tryz.prog 8 [.agg (rCm smallC)] (.tup [litS smallOut,litI .i64 0]) []:=by
 obtain ⟨te,tw,ht,hT⟩:=text_sp smallC (rt_of small_check)
 have h:=show_ok smallC small_goodCm small_check hT
 obtain ⟨g,hg,_,_,rfl⟩:=ht.ex rfl
 obtain ⟨g',hg',_,_,rfl⟩:=ht.wh (by decide) rfl
 have e1:g=smallGE:=gx_inj _ _ (hg.trans (by rfl))
 have e2:g'=smallGW:=gx_inj _ _ (hg'.trans (by rfl))
 subst e1
 subst e2
 have e3:bs (cmdS smallC (gT smallGE) (gT smallGW))=smallOut:=by kernel_rfl
 rw [e3] at h
 exact h
def zeroCm:Cm:=⟨0,.empty,.empty,.empty,[],0,⟨0,0,.empty⟩,[],[],.mk 0 ⟨0,0,.empty⟩ .empty [],false,.mk 0 ⟨0,0,.empty⟩ .empty [],.empty,0⟩
set_option maxHeartbeats 16000000 in
theorem showbegun_sp:Sp Tryz.prog 11 [] (.one (.t true (.lit (.bool true)))) []:=by
 have h1:=small_parse
 have h2:=small_show
 have h3:=same_sp smallC smallC (by decide) (by decide) (by decide) small_goodCm.ex small_goodCm.wh
 have h4:=same_sp smallC zeroCm (by decide) (by decide) (by decide) small_goodCm.ex small_goodCm.wh
 rw [show sameC smallC smallC=true by kernel_rfl] at h3
 rw [show sameC smallC zeroCm=false by kernel_rfl] at h4
 have e0:(smallOut.toList==(⟨#[117,112,100,97,116,101,32,116,32,115,101,116,32,97,32,61,32,40,97,32,43,32,49,41,32,119,104,101,114,101,32,40,98,32,61,32,39,120,39,41]⟩:ByteArray).toList)=true:=beq_self_eq_true _
 generalize smallOut=so at *
 unfold smallT vCm at h1
 unfold zeroCm at h4
 unfold smallC smallE smallW at h1 h2 h3 h4
 rw [rCm_mk] at h1 h2 h3 h4
 rw [rCm_mk] at h4
 simp only [rCs,rVs,rS,List.map_nil,Vl.zero] at h1 h2 h3 h4
 (refine en_ Tryz.func11 Tryz.ntmps11 Tryz.results11 fun X hX=>?_)
 refine au_ e0 ?_
 exact oq_ an0
end Go.Proofs.YtjdgejfhnfnmgaaGreatDoor.Ax
namespace Go.Proofs.YtjdgejfhnfnmgaaGreatDoor.Ax
open Go.RowKit
theorem same_refl (v:Vl):v.same v=true:=by
 obtain ⟨k,n,s⟩:=v
 unfold Vl.same
 simp
theorem sameE_refl (e:Ex):sameE e e=true:=by
 induction e using Ex.ind with
 | h k v nm ar ih =>
  rw [sameE]
  have key:∀ l:List Ex,(∀ x ∈ l,sameE x x=true)→sameEs l l=true:=by
   intro l
   induction l with
   | nil=>intro _;rw [sameEs]
   | cons x l ih2 =>
    intro h
    rw [sameEs,h x List.mem_cons_self,ih2 fun y hy=>h y (List.mem_cons_of_mem _ hy)]
    rfl
  rw [same_refl,key ar ih]
  simp
theorem eqBy_refl {α:Type} {p:α→α→Bool} (h:∀ x,p x x=true):∀ l:List α,eqBy p l l=true
 | []=>rfl
 | x :: l=>by rw [eqBy,h x,eqBy_refl h l];rfl
theorem sameC_refl (c:Cm):sameC c c=true:=by
 unfold sameC
 rw [same_refl,sameE_refl,sameE_refl,eqBy_refl (fun x=>by unfold colEq;simp),eqBy_refl (fun x=>by unfold strEq;simp),eqBy_refl same_refl]
 simp
set_option linter.unusedSimpArgs false
attribute [local go_sem] ty3 ty4 ty9 ty5 ty26 ty24 ty29 ty27 ty54 ty22 ty25 ty31 ty32
set_option linter.unusedVariables false
set_option maxRecDepth 100000
end Go.Proofs.YtjdgejfhnfnmgaaGreatDoor.Ax
namespace Go.Proofs.YtjdgejfhnfnmgaaGreatDoor
open Go.RowKit
theorem sameTK_get:∀ {l r:List Vl},sameTK l r→∀ k:Nat,(l[k]?).map (fun v=>(v.k,v.s))=(r[k]?).map (fun v=>(v.k,v.s))
 | [],[],_,k=>rfl
 | [],_ :: _,h,_=>by unfold sameTK at h;exact h.elim
 | _ :: _,[],h,_=>by unfold sameTK at h;exact h.elim
 | v :: l,u :: r,h,0=>by
  unfold sameTK at h
  simp only [List.getElem?_cons_zero,Option.map_some]
  rw [h.1,h.2.1]
 | v :: l,u :: r,h,k + 1=>by
  unfold sameTK at h
  simp only [List.getElem?_cons_succ]
  exact sameTK_get h.2.2 k
theorem sameTK_len:∀ {l r:List Vl},sameTK l r→l.length=r.length
 | [],[],_=>rfl
 | [],_ :: _,h=>by unfold sameTK at h;exact h.elim
 | _ :: _,[],h=>by unfold sameTK at h;exact h.elim
 | v :: l,u :: r,h=>by
  unfold sameTK at h
  rw [List.length_cons,List.length_cons,sameTK_len h.2.2]
section
variable {l r:List Vl} (h:sameTK l r)
include h
end
end Go.Proofs.YtjdgejfhnfnmgaaGreatDoor
namespace Go.Proofs.YtjdgejfhnfnmgaaGreatDoor.Ax
open Go.RowKit
set_option linter.unusedSimpArgs false
attribute [local go_sem] ty3 ty4 ty9 ty5 ty26 ty24 ty29 ty27 ty54 ty22 ty25 ty31 ty32 ty77 ty43 meltSt
set_option linter.unusedVariables false
set_option maxRecDepth 100000
theorem parseP_ok {s:ByteArray} (h:(parseP s).2.2=0):checkP (parseP s).1=0∧goodCm (parseP s).1:=by
 unfold parseP at h ⊢
 by_cases he:(scanS s).2.2=0
 ·rw [if_pos he] at h ⊢
  cases hc:cmdR (scanS s).1 with
  | ok c k =>
   rw [hc] at h
   dsimp only at h ⊢
   by_cases hk:checkP c=0
   ·rw [if_pos hk]
    exact ⟨hk,cmd_good (scanS_good he) hc⟩
   ·rw [if_neg hk] at h
    exact absurd h hk
  | bad k =>
   rw [hc] at h
   cases h
 ·rw [if_neg he] at h
  dsimp only at h
  omega
theorem parseP_zero {s:ByteArray} (h:¬ (parseP s).2.2=0):(parseP s).1=zCm:=by
 unfold parseP at h ⊢
 by_cases he:(scanS s).2.2=0
 ·rw [if_pos he] at h ⊢
  cases hc:cmdR (scanS s).1 with
  | ok c k =>
   rw [hc] at h
   dsimp only at h ⊢
   by_cases hk:checkP c=0
   ·rw [if_pos hk] at h
    exact absurd rfl h
   ·rw [if_neg hk]
  | bad k=>rfl
 ·rw [if_neg he]
end Go.Proofs.YtjdgejfhnfnmgaaGreatDoor.Ax
namespace Go.Proofs.YtjdgejfhnfnmgaaGreatDoor.Ax
open Go.RowKit
def AtT (l:List Vl) (k:Nat) (vs:List Vl):Prop:=∀ i v,vs[i]?=some v→∃ t,l[k + i]?=some t∧t.k=v.k∧t.s=v.s
theorem AtT.of {vs l:List Vl} (h:sameTK vs l):AtT l 0 vs:=fun i v hv=>by
 have:=sameTK_get h i
 rw [hv,Nat.zero_add] at *
 cases ht:l[i]? with
 | none=>rw [ht] at this;simp at this
 | some t =>
  rw [ht] at this
  simp at this
  exact ⟨t,rfl,this.1.symm,this.2.symm⟩
section
variable {l vs ws:List Vl} {k:Nat} {v:Vl}
theorem AtT.tail (h:AtT l k (v :: vs)):AtT l (k + 1) vs:=fun i u hu=>by
 have:=h (i + 1) u (by simpa using hu)
 rwa [show k + (i + 1)=k + 1 + i by omega] at this
theorem AtT.left (h:AtT l k (vs++ws)):AtT l k vs:=fun i u hu=>h i u (by rw [List.getElem?_append_left (List.getElem?_eq_some_iff.1 hu).1];exact hu)
theorem AtT.right (h:AtT l k (vs++ws)):AtT l (k + vs.length) ws:=fun i u hu=>by
 have:=h (vs.length + i) u (by rw [List.getElem?_append_right (by omega)];simpa using hu)
 rwa [← Nat.add_assoc] at this
theorem AtT.head (h:AtT l k (v :: vs)):∃ t,l[k]?=some t∧t.k=v.k∧t.s=v.s:=by
 have:=h 0 v rfl
 rwa [Nat.add_zero] at this
theorem AtT.take (h:AtT l k (v :: vs)) (s:ByteArray):takeB l s k=strEq v.s s:=by
 obtain ⟨t,h1,_,h2⟩:=h.head
 unfold takeB
 rw [h1,← h2]
theorem AtT.name (h:AtT l k (v :: vs)):nameP l k=nameB v.s:=by
 obtain ⟨t,h1,_,h2⟩:=h.head
 unfold nameP
 rw [h1,← h2]
theorem AtT.tx (h:AtT l k (v :: vs)):txP l k=v.s:=by
 obtain ⟨t,h1,_,h2⟩:=h.head
 unfold txP
 rw [h1,← h2]
theorem AtT.kind (h:AtT l k (v :: vs)) (n:Int):kindP l n k=(v.k==n):=by
 obtain ⟨t,h1,h2,_⟩:=h.head
 unfold kindP
 rw [h1,← h2]
theorem AtT.need {s:ByteArray} (h:AtT l k (v :: vs)) (hs:v.s=s):needR l s k=.ok () (k + 1):=by
 unfold needR
 rw [h.take,hs,strEq_iff.2 rfl]
 rfl
theorem AtT.nameR (h:AtT l k (v :: vs)) (hs:nameB v.s=true):nameR l k=.ok v.s (k + 1):=by
 unfold _root_.Go.Proofs.YtjdgejfhnfnmgaaGreatDoor.nameR
 rw [h.name,hs,h.tx]
 rfl
end
theorem tokB_kind {k k':Int} {s:ByteArray} (h:tokB k s=true) (h':tokB k' s=true):k=k':=by
 obtain ⟨x,r,e1,_,h1,_⟩:=tok_facts h
 obtain ⟨x',r',e2,_,h2,_⟩:=tok_facts h'
 rw [e1] at e2
 injection e2 with e3 e4
 subst e3
 subst e4
 rw [← h1,← h2]
theorem ne_kind {k k':Int} {s s':ByteArray} (h:tokB k s=true) (h':tokB k' s'=true) (hk:k ≠ k'):strEq s s'=false:=by
 rw [Bool.eq_false_iff]
 intro he
 have:=strEq_iff.1 he
 subst this
 exact hk (tokB_kind h h')
theorem ne_word {nm w:ByteArray} (h:nameB nm=true) (hw:wordsL.any (fun x=>x.toList==w.toList)=true):strEq nm w=false:=by
 rw [Bool.eq_false_iff]
 intro he
 have:=strEq_iff.1 he
 subst this
 unfold nameB isWordB at h
 rw [hw] at h
 simp at h
theorem numL_dig (u:Nat):numL (Lib.decDigits u)=(u:Int):=by
 obtain ⟨m,h1,h2⟩:=dec_numF (Lib.decDigits u) 0 (List.all_eq_true.2 num_digit)
 rw [dec_digits] at h1
 cases h1
 exact h2.symm
theorem numL_S {n:Int} (h:0≤n):numL (digS n).data.toList=n:=by
 obtain ⟨u,rfl⟩:∃ u:Nat,n=(u:Int):=⟨n.toNat,by omega⟩
 rw [digS_nat]
 exact numL_dig u
theorem unq_qu (s:ByteArray):unq ((⟨#[39]⟩++s)++⟨#[39]⟩)=s:=by
 unfold unq
 have hz:((⟨#[39]⟩++s)++⟨#[39]⟩:ByteArray).size=s.size + 2:=by rw [ByteArray.size_append,ByteArray.size_append];show 1 + s.size + 1=_;omega
 rw [hz]
 apply ByteArray.ext
 apply Array.ext'
 rw [ByteArray.data_extract,Array.toList_extract,List.extract_eq_take_drop]
 have hd:((⟨#[39]⟩++s)++⟨#[39]⟩:ByteArray).data.toList=39 :: (s.data.toList++[39]):=by simp [ByteArray.data_append]
 rw [hd]
 show ((s.data.toList++[39]).take (s.size + 2 - 1 - 1))=_
 rw [show s.size + 2 - 1 - 1=s.data.toList.length by rw [size_list];omega,List.take_left]
theorem tk2 {n:Int} (h0:0≤n) (h1:n≤999999999):tokB 2 (digS n)=true:=by
 obtain ⟨u,rfl⟩:∃ u:Nat,n=(u:Int):=⟨n.toNat,by omega⟩
 rw [digS_nat]
 exact num_tokB (by omega)
theorem t_true:tokB 1 wTrue=true:=by kernel_rfl
theorem t_false:tokB 1 wFalse=true:=by kernel_rfl
theorem t_null:tokB 1 wNull=true:=by kernel_rfl
theorem t_minus:tokB 4 ⟨#[45]⟩=true:=by kernel_rfl
theorem t_open:tokB 4 wOpen=true:=by kernel_rfl
theorem t_not:tokB 1 wNot=true:=by kernel_rfl
theorem strEq_false {a b:ByteArray} (h:a ≠ b):strEq a b=false:=by
 rw [Bool.eq_false_iff]
 exact fun he=>h (strEq_iff.1 he)
theorem vP_val {l ws:List Vl} {k:Nat} {v:Vl} (hv:v.chk=0) (h:AtT l k (toksV v++ws)):vP l k=.yes v (k + (toksV v).length)∧takeB l wOpen k=false∧takeB l wNot k=false:=by
 rcases Vl.right hv with rfl | ⟨n,rfl,h0,h1⟩ | ⟨s,rfl,hs,hq⟩ | ⟨n,rfl,h0,h1⟩
 ·have h:AtT l k (wd wNull :: ws):=h
  unfold vP
  simp only [h.take]
  refine ⟨?_,by kernel_rfl,by kernel_rfl⟩
  rw [if_neg (by rw [show strEq (wd wNull).s wTrue=false by kernel_rfl];decide),if_neg (by rw [show strEq (wd wNull).s wFalse=false by kernel_rfl];decide),if_pos (by kernel_rfl)]
  rfl
 ·by_cases hn:n < 0
  ·have e:toksV ⟨1,n,.empty⟩=[sg ⟨#[45]⟩,nu (digS (-n))]:=by
    show (if n < 0 then _ else _)=_
    rw [if_pos hn]
   rw [e] at h ⊢
   have h:AtT l k (sg ⟨#[45]⟩ :: nu (digS (-n)) :: ws):=h
   have h2:=h.tail
   unfold vP
   simp only [h.take,h.kind,h2.take,h2.kind,h2.tx]
   refine ⟨?_,by kernel_rfl,by kernel_rfl⟩
   have hz:strEq (digS (-n)) ⟨#[48]⟩=false:=strEq_false fun he=>by
    have:=numL_S (n:=-n) (by omega)
    rw [he] at this
    have h0:numL [48]=0:=by decide
    have:numL [48]=-n:=this
    omega
   rw [if_neg (by rw [show strEq (sg ⟨#[45]⟩).s wTrue=false by kernel_rfl];decide),if_neg (by rw [show strEq (sg ⟨#[45]⟩).s wFalse=false by kernel_rfl];decide),if_neg (by rw [show strEq (sg ⟨#[45]⟩).s wNull=false by kernel_rfl];decide),if_neg (show ¬ ((4:Int)==3)=true by decide),if_pos (by kernel_rfl),if_neg (by rw [hz];decide),if_pos (show ((2:Int)==2)=true by decide),numL_S (by omega),Int.neg_neg]
   rfl
  ·have e:toksV ⟨1,n,.empty⟩=[nu (digS n)]:=by
    show (if n < 0 then _ else _)=_
    rw [if_neg hn]
   rw [e] at h ⊢
   have h:AtT l k (nu (digS n) :: ws):=h
   have ht:=tk2 (by omega) h1
   unfold vP
   simp only [h.take,h.kind,h.tx]
   refine ⟨?_,ne_kind ht t_open (by decide),ne_kind ht t_not (by decide)⟩
   rw [if_neg (by rw [ne_kind ht t_true (by decide)];decide),if_neg (by rw [ne_kind ht t_false (by decide)];decide),if_neg (by rw [ne_kind ht t_null (by decide)];decide),if_neg (show ¬ ((2:Int)==3)=true by decide),if_neg (by rw [ne_kind ht t_minus (by decide)];decide),if_pos (show ((2:Int)==2)=true by decide),numL_S (by omega)]
   rfl
 ·have h:AtT l k (qu s :: ws):=h
  have ht:=quo_tokB hs hq
  unfold vP
  simp only [h.take,h.kind,h.tx]
  refine ⟨?_,ne_kind ht t_open (by decide),ne_kind ht t_not (by decide)⟩
  rw [if_neg (by rw [ne_kind ht t_true (by decide)];decide),if_neg (by rw [ne_kind ht t_false (by decide)];decide),if_neg (by rw [ne_kind ht t_null (by decide)];decide),if_pos (show ((3:Int)==3)=true by decide),unq_qu]
  rfl
 ·obtain rfl | rfl:n=0 ∨ n=1:=by omega
  ·have h:AtT l k (wd wFalse :: ws):=h
   unfold vP
   simp only [h.take]
   refine ⟨?_,by kernel_rfl,by kernel_rfl⟩
   rw [if_neg (by rw [show strEq (wd wFalse).s wTrue=false by kernel_rfl];decide),if_pos (by kernel_rfl)]
   rfl
  ·have h:AtT l k (wd wTrue :: ws):=h
   unfold vP
   simp only [h.take]
   refine ⟨?_,by kernel_rfl,by kernel_rfl⟩
   rw [if_pos (by kernel_rfl)]
   rfl
theorem vP_name {l ws:List Vl} {k:Nat} {nm:ByteArray} (hn:nameB nm=true) (h:AtT l k (wd nm :: ws)):vP l k=.no∧takeB l wOpen k=false∧takeB l wNot k=false:=by
 have ht:=name_tok hn
 have n1:=ne_word (w:=wTrue) hn (by kernel_rfl)
 have n2:=ne_word (w:=wFalse) hn (by kernel_rfl)
 have n3:=ne_word (w:=wNull) hn (by kernel_rfl)
 have n4:=ne_word (w:=wNot) hn (by kernel_rfl)
 have n5:=ne_kind ht t_minus (by decide)
 unfold vP
 simp only [h.take,h.kind]
 refine ⟨?_,ne_kind ht t_open (by decide),n4⟩
 rw [if_neg (by rw [n1];decide),if_neg (by rw [n2];decide),if_neg (by rw [n3];decide),if_neg (show ¬ ((1:Int)==3)=true by decide),if_neg (by rw [n5];decide),if_neg (show ¬ ((1:Int)==2)=true by decide)]
end Go.Proofs.YtjdgejfhnfnmgaaGreatDoor.Ax
