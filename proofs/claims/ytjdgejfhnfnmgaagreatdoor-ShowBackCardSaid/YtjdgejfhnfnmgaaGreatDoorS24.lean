/-  -/
import Derived.Test.YtjdgejfhnfnmgaaGreatDoorS19
import Derived.Test.YtjdgejfhnfnmgaaGreatDoorS23
import Derived.Test.YtjdgejfhnfnmgaaGreatDoorS17
import Derived.Test.YtjdgejfhnfnmgaaGreatDoorS20
namespace Go.Proofs.YtjdgejfhnfnmgaaGreatDoor.Ax
open Go.RowKit
set_option linter.unusedSimpArgs false
attribute [local go_sem] ty3 ty4 ty9 ty5 ty26
set_option linter.unusedVariables false
set_option maxRecDepth 100000
theorem bs_put (a:List UInt8) (s:ByteArray):bs a++s=bs (a++s.data.toList):=bs_append_s a s
end Go.Proofs.YtjdgejfhnfnmgaaGreatDoor.Ax
namespace Go.Proofs.YtjdgejfhnfnmgaaGreatDoor.Ax
open Go.RowKit
theorem name_small {s:ByteArray} (h:nameB s=true):s.size≤2000:=by
 unfold nameB tokB at h
 split at h
 ·cases h
 ·simp only [Bool.and_eq_true,decide_eq_true_eq] at h
  exact h.1.1.1.1.1
theorem valT_small {v:Vl} (h:v.chk=0):(valT v).size≤22:=by
 rcases Vl.right h with rfl | ⟨n,rfl,h0,h1⟩ | ⟨s,rfl,hs,_⟩ | ⟨n,rfl,h0,h1⟩
 ·decide
 ·have:=digS_size n (by omega) (by omega)
  show (digS n).size≤22
  omega
 ·show ((⟨#[39]⟩++s)++⟨#[39]⟩:ByteArray).size≤22
  rw [ByteArray.size_append,ByteArray.size_append]
  show 1 + s.size + 1≤22
  omega
 ·show (boolS (n==1)).size≤22
  cases (n==1) <;> decide
theorem kindT_small (k:Int):(kindT k).size≤4:=by
 unfold kindT
 split
 ·decide
 ·split <;> decide
theorem signT_small (k:Int):(signT k).size≤3:=by
 unfold signT
 generalize (k - 5).toNat=j
 match j with
 | 0=>decide
 | 1=>decide
 | 2=>decide
 | 3=>decide
 | 4=>decide
 | 5=>decide
 | 6=>decide
 | j + 7=>exact Nat.zero_le _
theorem gT_small (g:Gx):g.ok→(gT g).size≤2020 * gN g:=by
 induction g with
 | val v =>
  intro h
  have:=valT_small (v:=v) h
  rw [gT,gN]
  omega
 | col nm =>
  intro h
  have:=name_small (s:=nm) h
  rw [gT,gN]
  omega
 | un k x ih =>
  rintro ⟨_,hx⟩
  have:=ih hx
  rw [gT,gN]
  split
  ·rw [ByteArray.size_append]
   show 4 + _≤_
   omega
  ·rw [ByteArray.size_append,ByteArray.size_append]
   show 1 + _ + 9≤_
   omega
 | bin k x y ih1 ih2 =>
  rintro ⟨_,hx,hy⟩
  have h1:=ih1 hx
  have h2:=ih2 hy
  have h3:=signT_small k
  rw [gT,gN,ByteArray.size_append,ByteArray.size_append,ByteArray.size_append,ByteArray.size_append,ByteArray.size_append,ByteArray.size_append]
  show 1 + _ + 1 + _ + 1 + _ + 1≤_
  omega
theorem ex_text {e:Ex} (h:exprB e=true) (hz:sizeE e 15≤15):∃ g:Gx,g.ex=e∧g.ok∧(gT g).size≤30300:=by
 obtain ⟨g,rfl,hg⟩:=exprB_gx e h
 refine ⟨g,rfl,hg,?_⟩
 have h1:=sizeE_gN g 15 (by omega) hz
 have h2:=gT_small g hg
 omega
structure Rt (c:Cm):Prop where
 k1:1≤c.k
 k16:c.k≤16
 name:c.name.size≤2000
 other:c.other.size≤2000
 column:c.column.size≤2000
 ty:kType c.k=true→1≤c.ty∧c.ty≤3
 v:c.v.chk=0
 cols:c.cols.length≤5
 colOk:∀ x ∈ c.cols,x.name.size≤2000∧1≤x.ty∧x.ty≤3
 vals:c.vals.length≤5
 valOk:∀ x ∈ c.vals,x.chk=0
 fields:c.fields.length≤5
 fieldOk:∀ x ∈ c.fields,x.size≤2000
 order:c.order.size≤2000
 limit:-1≤c.limit∧c.limit≤999999999
 ex:c.k=12→∃ g:Gx,g.ex=c.ex∧g.ok∧(gT g).size≤30300
 wh:kWhere c.k=true→c.all=false→∃ g:Gx,g.ex=c.wh∧g.ok∧(gT g).size≤30300
theorem named_small {s:ByteArray} {b:Bool} (h:namedB s b=true):s.size≤2000:=by
 unfold namedB at h
 split at h
 ·exact name_small h
 ·have h1:s.toList=[]:=by
   unfold emptyS at h
   simpa using h
  rw [ByteArray.toList_eq] at h1
  have h2:s.data.toList.length=s.size:=rfl
  rw [h1] at h2
  simp only [List.length_nil] at h2
  omega
theorem rt_of {c:Cm} (h:checkP c=0):Rt c:=by
 unfold checkP at h
 split at h
 ·cases h
 ·rename_i hb
  split at h
  ·rename_i ho
   rw [Bool.not_eq_true] at hb
   unfold bigB at hb
   simp only [Bool.or_eq_false_iff,decide_eq_false_iff_not] at hb
   obtain ⟨b1,b2,b3,b4,b5⟩:=hb
   unfold okP listsG wheresG at ho
   simp only [Bool.and_eq_true,decide_eq_true_eq] at ho
   obtain ⟨o1,o2,o3,o4,o5,o6,⟨l1,l2,l3,l4,l5,l6,l7,l8⟩,⟨w1,w2,w3,w4⟩,o9⟩:=ho
   simp only [Bool.not_eq_true',List.any_eq_false] at l2 l4 l8
   refine ⟨o1,o2,named_small o3,named_small o4,named_small o5,fun hk=>?_,by simpa using l5,by omega,fun x hx=>?_,by omega,fun x hx=>?_,by omega,fun x hx=>?_,?_,?_,fun hk=>?_,fun hk ha=>?_⟩
   ·unfold typeOk at o6
    rw [if_pos hk] at o6
    simpa using o6
   ·have:=l2 x hx
    unfold badCol at this
    simp only [Bool.not_eq_true,Bool.or_eq_false_iff,Bool.not_eq_false',Bool.and_eq_true,decide_eq_true_eq] at this
    exact ⟨name_small this.1,this.2.1,this.2.2⟩
   ·have:=l4 x hx
    unfold badV at this
    simpa using this
   ·have:=l8 x hx
    unfold badF at this
    exact name_small (by simpa using this)
   ·rw [Bool.or_eq_true,Bool.and_eq_true] at w4
    rcases w4 with h | h
    ·exact named_small (b:=false) (by unfold namedB;rw [if_neg (by decide)];exact h)
    ·exact name_small h.2
   ·split at w2
    ·simpa using w2
    ·have:c.limit=0:=by simpa using w2
     omega
   ·unfold exOk at o9
    rw [hk] at o9
    exact ex_text (by simpa using o9) (by omega)
   ·rw [if_pos ⟨hk,ha⟩] at w1
    exact ex_text w1 (by omega)
  ·cases h
def wordsT:List ByteArray→List UInt8
 | []=>[]
 | x :: l=>32 :: (x.data.toList++wordsT l)
def textW:List ByteArray→List UInt8
 | []=>[]
 | x :: l=>x.data.toList++wordsT l
theorem wordsT_append:∀ (l m:List ByteArray),wordsT (l++m)=wordsT l++wordsT m
 | [],_=>rfl
 | x :: l,m=>by
  rw [List.cons_append,wordsT,wordsT,wordsT_append l m,List.cons_append,List.append_assoc]
theorem textW_append {l m:List ByteArray} (h:l ≠ []):textW (l++m)=textW l++wordsT m:=by
 cases l with
 | nil=>exact absurd rfl h
 | cons x l=>rw [List.cons_append,textW,textW,wordsT_append,List.append_assoc]
def colT (x:Col):ByteArray:=(x.name++⟨#[32]⟩)++kindT x.ty
def listT (l:List ByteArray):ByteArray:=(⟨#[40]⟩++bs (commaL l))++⟨#[41]⟩
end Go.Proofs.YtjdgejfhnfnmgaaGreatDoor.Ax
namespace Go.Proofs.YtjdgejfhnfnmgaaGreatDoor.Ax
open Go.RowKit
set_option linter.unusedSimpArgs false
attribute [local go_sem] ty3 ty4 ty9 ty5 ty26 ty91 ty85 ty86 prnNew prnUsed rowW
set_option linter.unusedVariables false
set_option maxRecDepth 100000
theorem bs_data (s:ByteArray):bs s.data.toList=s:=by
 apply ByteArray.ext
 simp [bs]
theorem strRows_bs (a:List UInt8) (s:ByteArray):strRows (bs a)++strRows s=strRows (bs (a++s.data.toList)):=by
 rw [strRowsP_append,← bs_put]
theorem strRows_blank (a:List UInt8):strRows (bs a)++[[.lit (.int .u8 32)]]=strRows (bs (a++[32])):=by
 rw [← bs_put a ⟨#[32]⟩,← strRowsP_append]
 rfl
theorem strRows_bsl (a:List UInt8):(strRows (bs a)).length=a.length:=by rw [strRows_len,bs_size]
theorem wordsT_take {L:List ByteArray} {k:Nat} {x:ByteArray} (h:L[k]?=some x):wordsT (L.take (k + 1))=wordsT (L.take k)++[32]++x.data.toList:=by
 obtain ⟨hk,rfl⟩:=List.getElem?_eq_some_iff.1 h
 rw [List.take_succ_eq_append_getElem hk,wordsT_append,List.append_assoc,wordsT,wordsT,List.append_nil]
 rfl
theorem wordsT_len:∀ {L:List ByteArray},(∀ y ∈ L,y.size≤100000)→(wordsT L).length≤L.length * 100001
 | [],_=>Nat.zero_le _
 | x :: l,h=>by
  have h1:=h x List.mem_cons_self
  have h2:=wordsT_len fun y hy=>h y (List.mem_cons_of_mem _ hy)
  rw [wordsT,List.length_cons,List.length_append,List.length_cons]
  have h3:x.data.toList.length=x.size:=rfl
  omega
set_option maxHeartbeats 4000000 in
theorem words_used (s:List UInt8) (L:List ByteArray) (h0:0 < s.length) (hs:s.length≤1000000000) (hl:∀ y ∈ L,y.size≤100000) (hn:L.length≤1000) (hL:¬ L.length=0) :
  SpIO Tryz.prog 99 [.one (.optr 1000 0),.one (.t false (.sl (rS L)))] [(1000,prnUsed 1000 1001 s.length),(1001,rowW (strRows (bs s)))] (.tup []) [(1000,prnUsed 1000 25 (s++wordsT L).length),(25,rowW (strRows (bs (s++wordsT L))))] [1000]:=by
 (refine ei_ Tryz.func99 Tryz.ntmps99 Tryz.results99 fun X hX=>?_)
 refine au_ an0 ?_
 refine cw_loop (fun m st=>∃ (k r:Nat) (u:List UInt8),k≤L.length∧m=L.length - k∧u=s++wordsT (L.take k)∧(k=0∧r=1001 ∨ 0 < k∧r=25)∧st=⟨[(8,litI .i64 k),(7,litI .i64 L.length),(6,.one (.t false (.sl (rS L)))),(0,.one (.optr 1000 0))],[(1000,prnUsed 1000 r u.length),(r,rowW (strRows (bs u)))]⟩) L.length ⟨_,⟨0,1001,s,Nat.zero_le _,rfl,(List.append_nil _).symm,.inl ⟨rfl,rfl⟩,rfl⟩,le_⟩ ?_
 rintro m st ⟨k,r,u,hk,rfl,hu,hr,rfl⟩
 by_cases hlt:k < L.length
 ·have z1:decide ((k:Int) < (L.length:Int))=true:=by simp;omega
  obtain ⟨x,hx⟩:∃ x,L[k]?=some x:=⟨_,List.getElem?_eq_getElem hlt⟩
  have z4:IntKind.i64.wrap ((k:Int) + 1)=((k + 1:Nat):Int):=by rw [IntWalk.i64_in _ (by omega)];rfl
  have j2:(k:Int) < (L.length:Int):=by omega
  have j3:(0:Int)≤(k:Int):=by omega
  have hxs:=hl x (List.mem_of_getElem? hx)
  have hul:u.length≤1100002000:=by
   have:=wordsT_len (L:=L.take k) fun y hy=>hl y (List.mem_of_mem_take hy)
   rw [List.length_take] at this
   rw [hu,List.length_append]
   have:min k L.length≤1000:=by omega
   have:=Nat.mul_le_mul_right 100001 this
   omega
  have hu0:0 < u.length:=by rw [hu,List.length_append];omega
  have z5:decide ((0:Int) < (u.length:Int))=true:=by simp;omega
  have w1:(strRows (bs u)).length=u.length:=strRows_bsl u
  have w2:(strRows (bs (u++[32]))).length=u.length + 1:=by rw [strRows_bsl,List.length_append];rfl
  have hL1:=plen_used_io (strRows (bs u))
  have hW1:=wbyte_used_io (strRows (bs u)) 32 (by omega)
  have hS1:=pwstr_used_io (strRows (bs (u++[32]))) x (by omega) false
  rw [show ((32:UInt8).toNat:Int)=32 from rfl,strRows_blank,w1] at hW1
  rw [strRows_bs,w2] at hS1
  rw [w1] at hL1
  have hn:u++[32]++x.data.toList=s++wordsT (L.take (k + 1)):=by rw [wordsT_take hx,hu];simp only [List.append_assoc]
  generalize hun:u++[32]++x.data.toList=un at *
  have w3:u.length + 1 + x.size=un.length:=by rw [← hun];simp only [List.length_append,List.length_cons,List.length_nil];rfl
  rw [w3] at hS1
  rcases hr with ⟨hr1,rfl⟩ | ⟨hr1,rfl⟩
  ·refine au_ (an6 z1 z4 hx hlt j2 j3) ?_
   (refine rn_ 8 an0 fun K hK=>?_;refine rr_ an0 ?_)
   (refine rwr_io 40 (SpIO.ren (hL1) [(1000,1000),(1001,1001)] rfl) rfl rfl (by simp only [go_sem,prnNew,prnUsed,rowW,z5,hX];exact rfl) (by simp only [go_sem,prnNew,prnUsed,rowW,z5,hX]) (by simp only [go_sem,prnNew,prnUsed,rowW,z5,hX]) (by simp only [go_sem,prnNew,prnUsed,rowW,z5,hX]) (by simp only [go_sem,prnNew,prnUsed,rowW,z5,hX]) rfl (by rw [hX];rfl) ?_;simp only [go_sem,prnNew,prnUsed,rowW,z5,hX])
   ((first | refine rwr_nil (hK _ ?_) | refine de_ (hK _ ?_));clear hK K)
   refine gs_ ?_
   (refine rn_ 8 an0 fun K hK=>?_;refine rr_ an0 ?_)
   (refine rwr_io 40 (SpIO.ren (hW1) [(1000,1000),(1001,1001),(14,20)] rfl) rfl rfl (by simp only [go_sem,prnNew,prnUsed,rowW,hX];exact rfl) (by simp only [go_sem,prnNew,prnUsed,rowW,hX]) (by simp only [go_sem,prnNew,prnUsed,rowW,hX]) (by simp only [go_sem,prnNew,prnUsed,rowW,hX]) (by simp only [go_sem,prnNew,prnUsed,rowW,hX]) rfl (by rw [hX];rfl) ?_;simp only [go_sem,prnNew,prnUsed,rowW,hX])
   ((first | refine rwr_nil (hK _ ?_) | refine de_ (hK _ ?_));clear hK K)
   refine gs_ ?_
   (refine rn_ 8 an0 fun K hK=>?_;refine rr_ an0 ?_)
   (refine rwr_io 40 (SpIO.ren (hS1) [(1000,1000),(1001,20),(14,25)] rfl) rfl rfl (by simp only [go_sem,prnNew,prnUsed,rowW,hX];exact rfl) (by simp only [go_sem,prnNew,prnUsed,rowW,hX]) (by simp only [go_sem,prnNew,prnUsed,rowW,hX]) (by simp only [go_sem,prnNew,prnUsed,rowW,hX]) (by simp only [go_sem,prnNew,prnUsed,rowW,hX]) rfl (by rw [hX];rfl) ?_;simp only [go_sem,prnNew,prnUsed,rowW,hX])
   ((first | refine rwr_nil (hK _ ?_) | refine de_ (hK _ ?_));clear hK K)
   refine au_ z4 ?_
   exact ⟨L.length - (k + 1),by omega,_,⟨k + 1,25,un,by omega,rfl,hn,.inr ⟨by omega,rfl⟩,rfl⟩,le_⟩
  ·refine au_ (an6 z1 z4 hx hlt j2 j3) ?_
   (refine rn_ 8 an0 fun K hK=>?_;refine rr_ an0 ?_)
   (refine rwr_io 40 (SpIO.ren (hL1) [(1000,1000),(1001,25)] rfl) rfl rfl (by simp only [go_sem,prnNew,prnUsed,rowW,z5,hX];exact rfl) (by simp only [go_sem,prnNew,prnUsed,rowW,z5,hX]) (by simp only [go_sem,prnNew,prnUsed,rowW,z5,hX]) (by simp only [go_sem,prnNew,prnUsed,rowW,z5,hX]) (by simp only [go_sem,prnNew,prnUsed,rowW,z5,hX]) rfl (by rw [hX];rfl) ?_;simp only [go_sem,prnNew,prnUsed,rowW,z5,hX])
   ((first | refine rwr_nil (hK _ ?_) | refine de_ (hK _ ?_));clear hK K)
   refine gs_ ?_
   (refine rn_ 8 an0 fun K hK=>?_;refine rr_ an0 ?_)
   (refine rwr_io 40 (SpIO.ren (hW1) [(1000,1000),(1001,25),(14,20)] rfl) rfl rfl (by simp only [go_sem,prnNew,prnUsed,rowW,hX];exact rfl) (by simp only [go_sem,prnNew,prnUsed,rowW,hX]) (by simp only [go_sem,prnNew,prnUsed,rowW,hX]) (by simp only [go_sem,prnNew,prnUsed,rowW,hX]) (by simp only [go_sem,prnNew,prnUsed,rowW,hX]) rfl (by rw [hX];rfl) ?_;simp only [go_sem,prnNew,prnUsed,rowW,hX])
   ((first | refine rwr_nil (hK _ ?_) | refine de_ (hK _ ?_));clear hK K)
   refine gs_ ?_
   (refine rn_ 8 an0 fun K hK=>?_;refine rr_ an0 ?_)
   (refine rwr_io 40 (SpIO.ren (hS1) [(1000,1000),(1001,20),(14,25)] rfl) rfl rfl (by simp only [go_sem,prnNew,prnUsed,rowW,hX];exact rfl) (by simp only [go_sem,prnNew,prnUsed,rowW,hX]) (by simp only [go_sem,prnNew,prnUsed,rowW,hX]) (by simp only [go_sem,prnNew,prnUsed,rowW,hX]) (by simp only [go_sem,prnNew,prnUsed,rowW,hX]) rfl (by rw [hX];rfl) ?_;simp only [go_sem,prnNew,prnUsed,rowW,hX])
   ((first | refine rwr_nil (hK _ ?_) | refine de_ (hK _ ?_));clear hK K)
   refine au_ z4 ?_
   exact ⟨L.length - (k + 1),by omega,_,⟨k + 1,25,un,by omega,rfl,hn,.inr ⟨by omega,rfl⟩,rfl⟩,le_⟩
 ·obtain rfl:k=L.length:=by omega
  have z1:decide ((L.length:Int) < (L.length:Int))=false:=by simp
  rw [List.take_length] at hu
  rw [← hu]
  rcases hr with ⟨hr1,rfl⟩ | ⟨hr1,rfl⟩
  ·exact absurd hr1 hL
  ·refine au_ z1 ?_
   exact oi_ an0 (.inr rfl)
set_option maxHeartbeats 4000000 in
theorem words_new (x0:ByteArray) (l0:List ByteArray) (h0:0 < x0.size) (hl:∀ y ∈ x0 :: l0,y.size≤100000) (hn:(x0 :: l0).length≤1000) :
  SpIO Tryz.prog 99 [.one (.optr 1000 0),.one (.t false (.sl (rS (x0 :: l0))))] [(1000,prnNew)] (.tup []) [(1000,prnUsed 1000 25 (textW (x0 :: l0)).length),(25,rowW (strRows (bs (textW (x0 :: l0)))))] [1000]:=by
 obtain ⟨L,hL⟩:∃ L,L=x0 :: l0:=⟨_,rfl⟩
 have hL0:L[0]?=some x0:=by rw [hL];rfl
 have hLn:L.length ≠ 0:=by rw [hL];simp
 have htx:∀ k,textW (L.take (k + 1))=x0.data.toList++wordsT (l0.take k):=fun k=>by rw [hL];rfl
 have hLk:∀ k,L[k + 1]?=l0[k]?:=fun k=>by rw [hL];rfl
 have hLl:L.length=l0.length + 1:=by rw [hL];rfl
 rw [← hL] at hl hn ⊢
 clear hL
 (refine ei_ Tryz.func99 Tryz.ntmps99 Tryz.results99 fun X hX=>?_)
 refine au_ an0 ?_
 refine cw_loop (fun m st=>∃ (k:Nat) (u:List UInt8) (bl:List (Nat × B)),k≤L.length∧m=L.length - k∧u=textW (L.take k)∧(k=0∧bl=[(1000,prnNew)] ∨ 0 < k∧bl=[(1000,prnUsed 1000 25 u.length),(25,rowW (strRows (bs u)))])∧st=⟨[(8,litI .i64 k),(7,litI .i64 L.length),(6,.one (.t false (.sl (rS L)))),(0,.one (.optr 1000 0))],bl⟩) L.length ⟨_,⟨0,[],_,Nat.zero_le _,rfl,rfl,.inl ⟨rfl,rfl⟩,rfl⟩,le_⟩ ?_
 rintro m st ⟨k,u,bl,hk,rfl,hu,hr,rfl⟩
 by_cases hlt:k < L.length
 ·have z1:decide ((k:Int) < (L.length:Int))=true:=by simp;omega
  obtain ⟨x,hx⟩:∃ x,L[k]?=some x:=⟨_,List.getElem?_eq_getElem hlt⟩
  have z4:IntKind.i64.wrap ((k:Int) + 1)=((k + 1:Nat):Int):=by rw [IntWalk.i64_in _ (by omega)];rfl
  have j2:(k:Int) < (L.length:Int):=by omega
  have j3:(0:Int)≤(k:Int):=by omega
  have hxs:=hl x (List.mem_of_getElem? hx)
  rcases hr with ⟨hk0,rfl⟩ | ⟨hr1,rfl⟩
  ·obtain rfl:x0=x:=by rw [hk0,hL0] at hx;exact Option.some.inj hx
   have hL1:=plen_new_io
   have hS1:=pwstr_new_io x0 (by omega) false
   have hn:x0.data.toList=textW (L.take (k + 1)):=by rw [hk0,htx];simp [wordsT]
   have hb:=bs_data x0
   obtain ⟨un,hun⟩:∃ un,un=x0.data.toList:=⟨_,rfl⟩
   have w3:x0.size=un.length:=by rw [hun];rfl
   rw [← hun] at hn hb
   rw [← hb,show (bs un).size=un.length from bs_size un] at hS1
   rw [← hb] at hx
   have z0:decide ((0:Int) < 0)=false:=rfl
   refine au_ (an6 z1 z4 hx hlt j2 j3) ?_
   (refine rn_ 8 an0 fun K hK=>?_;refine rr_ an0 ?_)
   (refine rwr_io 40 (SpIO.ren (hL1) [(1000,1000)] rfl) rfl rfl (by simp only [go_sem,prnNew,prnUsed,rowW,z0,hX];exact rfl) (by simp only [go_sem,prnNew,prnUsed,rowW,z0,hX]) (by simp only [go_sem,prnNew,prnUsed,rowW,z0,hX]) (by simp only [go_sem,prnNew,prnUsed,rowW,z0,hX]) (by simp only [go_sem,prnNew,prnUsed,rowW,z0,hX]) rfl (by rw [hX];rfl) ?_;simp only [go_sem,prnNew,prnUsed,rowW,z0,hX])
   ((first | refine rwr_nil (hK _ ?_) | refine de_ (hK _ ?_));clear hK K)
   refine gs_ ?_
   (refine rn_ 8 an0 fun K hK=>?_;refine rr_ an0 ?_)
   (refine rwr_io 40 (SpIO.ren (hS1) [(1000,1000),(14,25)] rfl) rfl rfl (by simp only [go_sem,prnNew,prnUsed,rowW,hX];exact rfl) (by simp only [go_sem,prnNew,prnUsed,rowW,hX]) (by simp only [go_sem,prnNew,prnUsed,rowW,hX]) (by simp only [go_sem,prnNew,prnUsed,rowW,hX]) (by simp only [go_sem,prnNew,prnUsed,rowW,hX]) rfl (by rw [hX];rfl) ?_;simp only [go_sem,prnNew,prnUsed,rowW,hX])
   ((first | refine rwr_nil (hK _ ?_) | refine de_ (hK _ ?_));clear hK K)
   refine au_ z4 ?_
   exact ⟨L.length - (k + 1),by omega,_,⟨k + 1,un,_,by omega,rfl,hn,.inr ⟨by omega,rfl⟩,rfl⟩,le_⟩
  ·obtain ⟨j,rfl⟩:∃ j,k=j + 1:=⟨k - 1,by omega⟩
   rw [htx] at hu
   have hl0:∀ y ∈ l0,y.size≤100000:=fun y hy=>by
    obtain ⟨i,hi⟩:=List.mem_iff_getElem?.1 hy
    exact hl y (List.mem_of_getElem? (by rw [hLk];exact hi))
   have hx0:=hl x0 (List.mem_of_getElem? hL0)
   have hx0l:x0.data.toList.length=x0.size:=rfl
   have hul:u.length≤1100002000:=by
    have:=wordsT_len (L:=l0.take j) fun y hy=>hl0 y (List.mem_of_mem_take hy)
    rw [List.length_take] at this
    rw [hu,List.length_append]
    have:min j l0.length≤1000:=by omega
    have:=Nat.mul_le_mul_right 100001 this
    omega
   have hu0:0 < u.length:=by rw [hu,List.length_append];omega
   have z5:decide ((0:Int) < (u.length:Int))=true:=by simp;omega
   have w1:(strRows (bs u)).length=u.length:=strRows_bsl u
   have w2:(strRows (bs (u++[32]))).length=u.length + 1:=by rw [strRows_bsl,List.length_append];rfl
   have hL1:=plen_used_io (strRows (bs u))
   have hW1:=wbyte_used_io (strRows (bs u)) 32 (by omega)
   have hS1:=pwstr_used_io (strRows (bs (u++[32]))) x (by omega) false
   rw [show ((32:UInt8).toNat:Int)=32 from rfl,strRows_blank,w1] at hW1
   rw [strRows_bs,w2] at hS1
   rw [w1] at hL1
   have hn:u++[32]++x.data.toList=textW (L.take (j + 1 + 1)):=by rw [htx,wordsT_take (by rw [← hLk];exact hx),hu];simp only [List.append_assoc]
   generalize hun:u++[32]++x.data.toList=un at *
   have w3:u.length + 1 + x.size=un.length:=by rw [← hun];simp only [List.length_append,List.length_cons,List.length_nil];rfl
   rw [w3] at hS1
   generalize j + 1=k at *
   refine au_ (an6 z1 z4 hx hlt j2 j3) ?_
   (refine rn_ 8 an0 fun K hK=>?_;refine rr_ an0 ?_)
   (refine rwr_io 40 (SpIO.ren (hL1) [(1000,1000),(1001,25)] rfl) rfl rfl (by simp only [go_sem,prnNew,prnUsed,rowW,z5,hX];exact rfl) (by simp only [go_sem,prnNew,prnUsed,rowW,z5,hX]) (by simp only [go_sem,prnNew,prnUsed,rowW,z5,hX]) (by simp only [go_sem,prnNew,prnUsed,rowW,z5,hX]) (by simp only [go_sem,prnNew,prnUsed,rowW,z5,hX]) rfl (by rw [hX];rfl) ?_;simp only [go_sem,prnNew,prnUsed,rowW,z5,hX])
   ((first | refine rwr_nil (hK _ ?_) | refine de_ (hK _ ?_));clear hK K)
   refine gs_ ?_
   (refine rn_ 8 an0 fun K hK=>?_;refine rr_ an0 ?_)
   (refine rwr_io 40 (SpIO.ren (hW1) [(1000,1000),(1001,25),(14,20)] rfl) rfl rfl (by simp only [go_sem,prnNew,prnUsed,rowW,hX];exact rfl) (by simp only [go_sem,prnNew,prnUsed,rowW,hX]) (by simp only [go_sem,prnNew,prnUsed,rowW,hX]) (by simp only [go_sem,prnNew,prnUsed,rowW,hX]) (by simp only [go_sem,prnNew,prnUsed,rowW,hX]) rfl (by rw [hX];rfl) ?_;simp only [go_sem,prnNew,prnUsed,rowW,hX])
   ((first | refine rwr_nil (hK _ ?_) | refine de_ (hK _ ?_));clear hK K)
   refine gs_ ?_
   (refine rn_ 8 an0 fun K hK=>?_;refine rr_ an0 ?_)
   (refine rwr_io 40 (SpIO.ren (hS1) [(1000,1000),(1001,20),(14,25)] rfl) rfl rfl (by simp only [go_sem,prnNew,prnUsed,rowW,hX];exact rfl) (by simp only [go_sem,prnNew,prnUsed,rowW,hX]) (by simp only [go_sem,prnNew,prnUsed,rowW,hX]) (by simp only [go_sem,prnNew,prnUsed,rowW,hX]) (by simp only [go_sem,prnNew,prnUsed,rowW,hX]) rfl (by rw [hX];rfl) ?_;simp only [go_sem,prnNew,prnUsed,rowW,hX])
   ((first | refine rwr_nil (hK _ ?_) | refine de_ (hK _ ?_));clear hK K)
   refine au_ z4 ?_
   exact ⟨L.length - (k + 1),by omega,_,⟨k + 1,un,_,by omega,rfl,hn,.inr ⟨by omega,rfl⟩,rfl⟩,le_⟩
 ·obtain rfl:k=L.length:=by omega
  have z1:decide ((L.length:Int) < (L.length:Int))=false:=by simp
  rw [List.take_length] at hu
  rw [← hu]
  rcases hr with ⟨hr1,rfl⟩ | ⟨hr1,rfl⟩
  ·exact absurd hr1 hLn
  ·refine au_ z1 ?_
   exact oi_ an0 (.inr rfl)
end Go.Proofs.YtjdgejfhnfnmgaaGreatDoor.Ax
namespace Go.Proofs.YtjdgejfhnfnmgaaGreatDoor.Ax
open Go.RowKit
set_option linter.unusedSimpArgs false
attribute [local go_sem] ty3 ty4 ty9 ty5 ty26 ty54 ty22 ty24 ty25
set_option linter.unusedVariables false
set_option maxRecDepth 100000
theorem rdRows_strs {w:World} {ok:Nat→Prop} {s b:Nat}:∀ {l:List ByteArray} {o:Nat},RdRows w ok s b o (rS l)→∀ (j:Nat) x,l[j]?=some x→w.cell? ⟨b,o + j,none⟩=some (.string x)
 | [],_,_,_,_,hx=>by cases hx
 | y :: l,o,h,j,x,hx=>by
  unfold rS at h
  rw [List.map_cons] at h
  unfold RdRows at h
  obtain ⟨h1,h2,h3⟩:=h
  have hs:s=1:=h1.symm
  subst hs
  cases j with
  | zero =>
   obtain rfl:y=x:=by simpa using hx
   unfold RdRow at h2
   obtain ⟨⟨v,h4,h5⟩,_⟩:=h2
   unfold RdT at h5
   rw [← h5.1]
   exact h4
  | succ j =>
   have:=rdRows_strs (l:=l) h3 j x (by simpa using hx)
   rwa [show o + (j + 1)=o + 1 + j by omega]
theorem join_sp (l:List ByteArray) (hl:l.length≤140737488355328) (hz:(commaL l).length≤140737488355328):Sp Tryz.prog 55 [.one (.sl (rS l)),.one (.lit (.string ⟨#[44,32]⟩))] (.one (.t true (.lit (.string (bs (commaL l)))))) [] where
 enters:=enters_of Tryz.func55 (by kernel_rfl) rfl
 calls w S hS vs hG hvs:=by
  match vs,hvs with
  | [x,y],hvs =>
   unfold RdAs RdA RdT at hvs
   obtain ⟨⟨A,n,c,rfl,h1,h2,h3⟩,hvs⟩:=hvs
   unfold RdAs RdA RdT at hvs
   obtain ⟨⟨rfl,_⟩,_⟩:=hvs
   have h1':l.length=n:=by rw [← h1];unfold rS;rw [List.length_map]
   subst h1'
   have key:∀ e w',(e=.returned (.string (bs (commaL l)))∧Below w.heap.size w w')→Post w S hS (.one (.t true (.lit (.string (bs (commaL l)))))) [] e w':=by
    rintro e w' ⟨rfl,hb⟩
    exact ⟨_,deadR,rfl,hb,(by intro _ _ _ h;cases h),(by intro _ _ _ _ _ h;cases h),fun _ _=>rfl,rd_lit rfl,(by intro _ _ h;cases h)⟩
   by_cases h0:l.length=0
   ·have hl0:l=[]:=List.length_eq_zero_iff.1 h0
    subst hl0
    refine (Tryz.strings_Join_none A c ⟨#[44,32]⟩ w).mono fun e w'=>?_
    rintro ⟨rfl,rfl⟩
    exact key _ _ ⟨rfl,Below.refl _ _⟩
   ·obtain ⟨b,o,s,rfl,hok,hr⟩:=h3.resolve_left h0
    refine (Tryz.strings_Join b o c l ⟨#[44,32]⟩ w (rdRows_strs hr) (hS b hok) hl h2 hz).mono fun e w'=>?_
    rintro ⟨rfl,hb⟩
    exact key _ _ ⟨rfl,hb⟩
theorem colfn_sp (x:Col) (hx:x.name.size≤2000∧1≤x.ty∧x.ty≤3):Sp Tryz.prog 101 [.agg (rC1 x)] (.one (.t true (.lit (.string (colT x))))) []:=by
 have hK:=skind_sp x.ty hx.2.1 hx.2.2
 have hk:=kindT_small x.ty
 have f1:x.name.size + 1≤maxLen:=by unfold maxLen;omega
 have f2:x.name.size + 1 + (kindT x.ty).size≤maxLen:=by unfold maxLen;omega
 unfold colT
 generalize kindT x.ty=t at *
 (refine en_ Tryz.func101 Tryz.ntmps101 Tryz.results101 fun X hX=>?_)
 refine au_ (an2 f1 f2) ?_
 exact oq_ an0
set_option maxHeartbeats 4000000 in
theorem listCol_sp (l:List Col) (hl:l.length≤5) (hok:∀ x ∈ l,x.name.size≤2000∧1≤x.ty∧x.ty≤3) (hz:(commaL (l.map colT)).length≤1000000) :
  Sp Tryz.prog 100 [.one (.sl (rCs l)),.one (.fn 101 [])] (.one (.t true (.lit (.string (listT (l.map colT)))))) []:=by
 (refine en_ Tryz.func100 Tryz.ntmps100 Tryz.results100 fun X hX=>?_)
 refine au_ an0 ?_
 refine cw_grow 5 19 9 1 rfl ?_
 refine cw_loop (fun m st=>∃ (k:Nat) (u:List ByteArray),k≤l.length∧m=l.length - k∧u=(l.take k).map colT∧st=⟨[(10,litI .i64 k),(9,litI .i64 l.length),(8,.one (.t false (.sl (rCs l)))),(5,.one (.own 19 u.length)),(0,.one (.t false (.sl (rCs l)))),(1,.one (.t false (.fn 101 [])))],[(19,.arr 9 1 true (rS u))]⟩) l.length ⟨_,⟨0,[],Nat.zero_le _,rfl,rfl,rfl⟩,by simp only [growSt];exact le_⟩ ?_
 rintro m st ⟨k,u,hk,rfl,hu,rfl⟩
 by_cases hlt:k < l.length
 ·have z1:decide ((k:Int) < (l.length:Int))=true:=by simp;omega
  obtain ⟨x,hx⟩:∃ x,l[k]?=some x:=⟨_,List.getElem?_eq_getElem hlt⟩
  have z4:IntKind.i64.wrap ((k:Int) + 1)=((k + 1:Nat):Int):=by rw [IntWalk.i64_in _ (by omega)];rfl
  have j2:(k:Int) < (l.length:Int):=by omega
  have j3:(0:Int)≤(k:Int):=by omega
  have hF:=colfn_sp x (hok x (List.mem_of_getElem? hx))
  have hn:u++[colT x]=(l.take (k + 1)).map colT:=by
   obtain ⟨h1,rfl⟩:=List.getElem?_eq_some_iff.1 hx
   rw [hu,List.take_succ_eq_append_getElem h1,List.map_append]
   rfl
  have hul:u.length≤5:=by rw [hu,List.length_map,List.length_take];omega
  have f1:u.length + 1≤maxLen:=by unfold maxLen;omega
  have f2:(u.length + 1) * 16≤140737488355328:=by omega
  have f3:(u.map fun s=>[T.lit (.string s)])++[[T.lit (.string (colT x))]]=(u++[colT x]).map fun s=>[T.lit (.string s)]:=by rw [List.map_append];rfl
  have f4:(u++[colT x]).length=u.length + 1:=by rw [List.length_append];rfl
  generalize hun:u++[colT x]=un at *
  generalize colT x=tx at *
  refine au_ (an2 (an7 z1 hx hlt j2 j3 f1 f2) z4) ?_
  exact ⟨l.length - (k + 1),by omega,_,⟨k + 1,un,by omega,rfl,hn,rfl⟩,lf_ (an2 f3 f4)⟩
 ·obtain rfl:k=l.length:=by omega
  have z1:decide ((l.length:Int) < (l.length:Int))=false:=by simp
  rw [List.take_length] at hu
  rw [← hu] at hz ⊢
  have hul:u.length≤5:=by rw [hu,List.length_map];omega
  have hJ:=join_sp u (by omega) (by omega)
  have hbz:(bs (commaL u)).size=(commaL u).length:=bs_size _
  have f1:1 + (bs (commaL u)).size≤maxLen:=by unfold maxLen;omega
  have f2:1 + (bs (commaL u)).size + 1≤maxLen:=by unfold maxLen;omega
  unfold listT
  generalize bs (commaL u)=js at *
  refine au_ (an3 z1 f1 f2) ?_
  exact oq_ an0
set_option maxHeartbeats 4000000 in
theorem listVl_sp (l:List Vl) (hl:l.length≤5) (hok:∀ x ∈ l,x.chk=0) (hz:(commaL (l.map valT)).length≤1000000) :
  Sp Tryz.prog 104 [.one (.sl (rVs l)),.one (.fn 103 [])] (.one (.t true (.lit (.string (listT (l.map valT)))))) []:=by
 (refine en_ Tryz.func104 Tryz.ntmps104 Tryz.results104 fun X hX=>?_)
 refine au_ an0 ?_
 refine cw_grow 5 19 9 1 rfl ?_
 refine cw_loop (fun m st=>∃ (k:Nat) (u:List ByteArray),k≤l.length∧m=l.length - k∧u=(l.take k).map valT∧st=⟨[(10,litI .i64 k),(9,litI .i64 l.length),(8,.one (.t false (.sl (rVs l)))),(5,.one (.own 19 u.length)),(0,.one (.t false (.sl (rVs l)))),(1,.one (.t false (.fn 103 [])))],[(19,.arr 9 1 true (rS u))]⟩) l.length ⟨_,⟨0,[],Nat.zero_le _,rfl,rfl,rfl⟩,by simp only [growSt];exact le_⟩ ?_
 rintro m st ⟨k,u,hk,rfl,hu,rfl⟩
 by_cases hlt:k < l.length
 ·have z1:decide ((k:Int) < (l.length:Int))=true:=by simp;omega
  obtain ⟨x,hx⟩:∃ x,l[k]?=some x:=⟨_,List.getElem?_eq_getElem hlt⟩
  have z4:IntKind.i64.wrap ((k:Int) + 1)=((k + 1:Nat):Int):=by rw [IntWalk.i64_in _ (by omega)];rfl
  have j2:(k:Int) < (l.length:Int):=by omega
  have j3:(0:Int)≤(k:Int):=by omega
  have hF:=sval_sp x (hok x (List.mem_of_getElem? hx))
  have hn:u++[valT x]=(l.take (k + 1)).map valT:=by
   obtain ⟨h1,rfl⟩:=List.getElem?_eq_some_iff.1 hx
   rw [hu,List.take_succ_eq_append_getElem h1,List.map_append]
   rfl
  have hul:u.length≤5:=by rw [hu,List.length_map,List.length_take];omega
  have f1:u.length + 1≤maxLen:=by unfold maxLen;omega
  have f2:(u.length + 1) * 16≤140737488355328:=by omega
  have f3:(u.map fun s=>[T.lit (.string s)])++[[T.lit (.string (valT x))]]=(u++[valT x]).map fun s=>[T.lit (.string s)]:=by rw [List.map_append];rfl
  have f4:(u++[valT x]).length=u.length + 1:=by rw [List.length_append];rfl
  generalize hun:u++[valT x]=un at *
  generalize valT x=tx at *
  refine au_ (an2 (an7 z1 hx hlt j2 j3 f1 f2) z4) ?_
  exact ⟨l.length - (k + 1),by omega,_,⟨k + 1,un,by omega,rfl,hn,rfl⟩,lf_ (an2 f3 f4)⟩
 ·obtain rfl:k=l.length:=by omega
  have z1:decide ((l.length:Int) < (l.length:Int))=false:=by simp
  rw [List.take_length] at hu
  rw [← hu] at hz ⊢
  have hul:u.length≤5:=by rw [hu,List.length_map];omega
  have hJ:=join_sp u (by omega) (by omega)
  have hbz:(bs (commaL u)).size=(commaL u).length:=bs_size _
  have f1:1 + (bs (commaL u)).size≤maxLen:=by unfold maxLen;omega
  have f2:1 + (bs (commaL u)).size + 1≤maxLen:=by unfold maxLen;omega
  unfold listT
  generalize bs (commaL u)=js at *
  refine au_ (an3 z1 f1 f2) ?_
  exact oq_ an0
end Go.Proofs.YtjdgejfhnfnmgaaGreatDoor.Ax
