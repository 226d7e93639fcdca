/-  -/
import Derived.Test.YtjdgejfhnfnmgaaGreatDoorS19
import Derived.Test.YtjdgejfhnfnmgaaGreatDoorS25
namespace Go.Proofs.YtjdgejfhnfnmgaaGreatDoor.Ax
open Go.RowKit
set_option linter.unusedSimpArgs false
attribute [local go_sem] ty3 ty4 ty9 ty5 ty26 ty54 ty22 ty24 ty25 ty27 ty29 ty31 ty91 ty85 prnNew prnUsed rowW
set_option linter.unusedVariables false
set_option maxRecDepth 100000
set_option maxHeartbeats 8000000 in
theorem cmd9_io (c:Cm) (hr:Rt c) (hk:c.k=9):∃ un:List UInt8,un=textW [⟨#[100,114,111,112]⟩,⟨#[105,110,100,101,120]⟩,c.name]∧SpIO Tryz.prog 56 [.one (.optr 1000 0),vCm c] [(1000,prnNew)] (.tup []) [(1000,prnUsed 1000 162 un.length),(162,rowW (strRows (bs un)))] [1000]:=by
 have q1:=hr.name
 have q2:=hr.other
 have q3:=hr.column
 have q4:=kindT_small c.ty
 have q5:=valT_small hr.v
 have hW0:=words_new ⟨#[100,114,111,112]⟩ [⟨#[105,110,100,101,120]⟩,c.name] (by decide) (fun y hy=>by
  simp only [List.mem_cons,List.not_mem_nil,or_false] at hy
  rcases hy with rfl | rfl | rfl
  all_goals first | decide | omega) (by show 3≤1000;decide)
 obtain ⟨s0,hs0⟩:∃ s,s=textW [⟨#[100,114,111,112]⟩,⟨#[105,110,100,101,120]⟩,c.name]:=⟨_,rfl⟩
 rw [← hs0] at hW0
 refine ⟨s0,by rw [hs0],?_⟩
 clear hs0
 generalize kindT c.ty=kt at *
 generalize valT c.v=vt at *
 clear hr
 obtain ⟨k,name,other,column,cols,ty,v,vals,fields,⟨k1,v1,n1,a1⟩,all,⟨k2,v2,n2,a2⟩,order,limit⟩:=c
 dsimp only at *
 unfold vCm
 rw [rCm_mk]
 have F:=kF hk
 (refine ei_ Tryz.func56 Tryz.ntmps56 Tryz.results56 fun X hX=>?_)
 refine au_ F ?_
 (refine rn_ 8 an0 fun K hK=>?_;refine rr_ an0 ?_)
 (refine rwr_io 40 (SpIO.ren (hW0) [(1000,1000),(25,162)] rfl) rfl rfl (by simp only [go_sem,prnNew,prnUsed,rowW,hX];exact rfl) (by simp only [go_sem,prnNew,prnUsed,rowW,hX]) (by simp only [go_sem,prnNew,prnUsed,rowW,hX]) (by simp only [go_sem,prnNew,prnUsed,rowW,hX]) (by simp only [go_sem,prnNew,prnUsed,rowW,hX]) rfl (by rw [hX];rfl) ?_;simp only [go_sem,prnNew,prnUsed,rowW,hX])
 ((first | refine rwr_nil (hK _ ?_) | refine de_ (hK _ ?_));clear hK K)
 refine au_ an0 ?_
 exact oi_ an0 (.inr rfl)
set_option maxHeartbeats 8000000 in
theorem cmd10_io (c:Cm) (hr:Rt c) (hk:c.k=10):∃ un:List UInt8,un=textW [⟨#[105,110,115,101,114,116]⟩,⟨#[105,110,116,111]⟩,c.name,⟨#[118,97,108,117,101,115]⟩,listT (c.vals.map valT)]∧SpIO Tryz.prog 56 [.one (.optr 1000 0),vCm c] [(1000,prnNew)] (.tup []) [(1000,prnUsed 1000 162 un.length),(162,rowW (strRows (bs un)))] [1000]:=by
 have q1:=hr.name
 have q2:=hr.other
 have q3:=hr.column
 have q4:=kindT_small c.ty
 have q5:=valT_small hr.v
 have q6:=vals_comma hr
 have q7:=listT_size (c.vals.map valT)
 have hLv:=listVl_sp c.vals hr.vals hr.valOk (by omega)
 have hW0:=words_new ⟨#[105,110,115,101,114,116]⟩ [⟨#[105,110,116,111]⟩,c.name,⟨#[118,97,108,117,101,115]⟩,listT (c.vals.map valT)] (by decide) (fun y hy=>by
  simp only [List.mem_cons,List.not_mem_nil,or_false] at hy
  rcases hy with rfl | rfl | rfl | rfl | rfl
  all_goals first | decide | omega) (by show 5≤1000;decide)
 obtain ⟨s0,hs0⟩:∃ s,s=textW [⟨#[105,110,115,101,114,116]⟩,⟨#[105,110,116,111]⟩,c.name,⟨#[118,97,108,117,101,115]⟩,listT (c.vals.map valT)]:=⟨_,rfl⟩
 rw [← hs0] at hW0
 refine ⟨s0,by rw [hs0],?_⟩
 clear hs0
 generalize listT (c.vals.map valT)=lt at *
 generalize kindT c.ty=kt at *
 generalize valT c.v=vt at *
 clear hr
 obtain ⟨k,name,other,column,cols,ty,v,vals,fields,⟨k1,v1,n1,a1⟩,all,⟨k2,v2,n2,a2⟩,order,limit⟩:=c
 dsimp only at *
 unfold vCm
 rw [rCm_mk]
 have F:=kF hk
 (refine ei_ Tryz.func56 Tryz.ntmps56 Tryz.results56 fun X hX=>?_)
 refine au_ F ?_
 (refine dr_ 0 an0 fun K hK=>?_)
 refine dx_ an0 ?_
 (refine di_ 0 an0 (SpIO.ren (hW0) [(1000,1000),(25,162)] rfl) ?_)
 (refine de_ (hK _ ?_);clear hK K)
 refine au_ an0 ?_
 exact oi_ an0 (.inr rfl)
set_option maxHeartbeats 8000000 in
theorem cmd11_io (c:Cm) (hr:Rt c) (hk:c.k=11):∃ tw:ByteArray,(c.all=false→∃ g:Gx,g.ex=c.wh∧g.ok∧(gT g).size≤30300∧tw=gT g)∧tw.size≤30300∧∃ un:List UInt8,un=textW [⟨#[100,101,108,101,116,101]⟩,⟨#[102,114,111,109]⟩,c.name]++wordsT (whereW c tw)∧SpIO Tryz.prog 56 [.one (.optr 1000 0),vCm c] [(1000,prnNew)] (.tup []) [(1000,prnUsed 1000 162 un.length),(162,rowW (strRows (bs un)))] [1000]:=by
 have q1:=hr.name
 have q2:=hr.other
 have q3:=hr.column
 have q4:=kindT_small c.ty
 have q5:=valT_small hr.v
 have hW0:=words_new ⟨#[100,101,108,101,116,101]⟩ [⟨#[102,114,111,109]⟩,c.name] (by decide) (fun y hy=>by
  simp only [List.mem_cons,List.not_mem_nil,or_false] at hy
  rcases hy with rfl | rfl | rfl
  all_goals first | decide | omega) (by show 3≤1000;decide)
 obtain ⟨s0,hs0⟩:∃ s,s=textW [⟨#[100,101,108,101,116,101]⟩,⟨#[102,114,111,109]⟩,c.name]:=⟨_,rfl⟩
 rw [← hs0] at hW0
 have hb0:0 < s0.length∧s0.length≤100000:=by
  rw [hs0]
  simp only [textW,wordsT,List.length_append,List.length_cons,List.length_nil,siz_]
  have:∀ s:ByteArray,s.data.toList.length=s.size:=fun _=>rfl
  simp only [this]
  refine ⟨?_,?_⟩ <;> (try simp only [siz_lit]) <;> omega
 obtain ⟨tw,htw,htz,hW1⟩:=where_io s0 c (hr.wh (by rw [hk];rfl)) hb0.1 (by omega)
 obtain ⟨s1,hs1⟩:∃ s,s=s0++wordsT (whereW c tw):=⟨_,rfl⟩
 rw [← hs1] at hW1
 refine ⟨tw,htw,htz,s1,by rw [hs1,hs0],?_⟩
 clear htw
 clear hs0 hs1
 generalize kindT c.ty=kt at *
 generalize valT c.v=vt at *
 clear hr
 obtain ⟨k,name,other,column,cols,ty,v,vals,fields,⟨k1,v1,n1,a1⟩,all,⟨k2,v2,n2,a2⟩,order,limit⟩:=c
 dsimp only at *
 unfold vCm at hW1 ⊢
 rw [rCm_mk] at hW1 ⊢
 have F:=kF hk
 (refine ei_ Tryz.func56 Tryz.ntmps56 Tryz.results56 fun X hX=>?_)
 refine au_ F ?_
 (refine rn_ 8 an0 fun K hK=>?_;refine rr_ an0 ?_)
 (refine rwr_io 40 (SpIO.ren (hW0) [(1000,1000),(25,162)] rfl) rfl rfl (by simp only [go_sem,prnNew,prnUsed,rowW,hX];exact rfl) (by simp only [go_sem,prnNew,prnUsed,rowW,hX]) (by simp only [go_sem,prnNew,prnUsed,rowW,hX]) (by simp only [go_sem,prnNew,prnUsed,rowW,hX]) (by simp only [go_sem,prnNew,prnUsed,rowW,hX]) rfl (by rw [hX];rfl) ?_;simp only [go_sem,prnNew,prnUsed,rowW,hX])
 ((first | refine rwr_nil (hK _ ?_) | refine de_ (hK _ ?_));clear hK K)
 refine gs_ ?_
 (refine rn_ 8 an0 fun K hK=>?_;refine rr_ an0 ?_)
 (refine rwr_io 40 (SpIO.ren (hW1) [(1000,1000),(1001,162)] rfl) rfl rfl (by simp only [go_sem,prnNew,prnUsed,rowW,hX];exact rfl) (by simp only [go_sem,prnNew,prnUsed,rowW,hX]) (by simp only [go_sem,prnNew,prnUsed,rowW,hX]) (by simp only [go_sem,prnNew,prnUsed,rowW,hX]) (by simp only [go_sem,prnNew,prnUsed,rowW,hX]) rfl (by rw [hX];rfl) ?_;simp only [go_sem,prnNew,prnUsed,rowW,hX])
 ((first | refine rwr_nil (hK _ ?_) | refine de_ (hK _ ?_));clear hK K)
 refine au_ an0 ?_
 exact oi_ an0 (.inr rfl)
set_option maxHeartbeats 8000000 in
theorem cmd12_io (c:Cm) (hr:Rt c) (hk:c.k=12) (te:ByteArray) (g:Gx) (hge:g.ex=c.ex) (hgo:g.ok) (hgz:(gT g).size≤30300) (hte:te=gT g):∃ tw:ByteArray,(c.all=false→∃ g:Gx,g.ex=c.wh∧g.ok∧(gT g).size≤30300∧tw=gT g)∧tw.size≤30300∧∃ un:List UInt8,un=textW [⟨#[117,112,100,97,116,101]⟩,c.name,⟨#[115,101,116]⟩,c.column,⟨#[61]⟩,te]++wordsT (whereW c tw)∧SpIO Tryz.prog 56 [.one (.optr 1000 0),vCm c] [(1000,prnNew)] (.tup []) [(1000,prnUsed 1000 162 un.length),(162,rowW (strRows (bs un)))] [1000]:=by
 have q1:=hr.name
 have q2:=hr.other
 have q3:=hr.column
 have q4:=kindT_small c.ty
 have q5:=valT_small hr.v
 have hE:=sexpr_sp g hgo (by unfold maxLen;omega)
 rw [← hte] at hE hgz
 have hW0:=words_new ⟨#[117,112,100,97,116,101]⟩ [c.name,⟨#[115,101,116]⟩,c.column,⟨#[61]⟩,te] (by decide) (fun y hy=>by
  simp only [List.mem_cons,List.not_mem_nil,or_false] at hy
  rcases hy with rfl | rfl | rfl | rfl | rfl | rfl
  all_goals first | decide | omega) (by show 6≤1000;decide)
 obtain ⟨s0,hs0⟩:∃ s,s=textW [⟨#[117,112,100,97,116,101]⟩,c.name,⟨#[115,101,116]⟩,c.column,⟨#[61]⟩,te]:=⟨_,rfl⟩
 rw [← hs0] at hW0
 have hb0:0 < s0.length∧s0.length≤100000:=by
  rw [hs0]
  simp only [textW,wordsT,List.length_append,List.length_cons,List.length_nil,siz_]
  have:∀ s:ByteArray,s.data.toList.length=s.size:=fun _=>rfl
  simp only [this]
  refine ⟨?_,?_⟩ <;> (try simp only [siz_lit]) <;> omega
 obtain ⟨tw,htw,htz,hW1⟩:=where_io s0 c (hr.wh (by rw [hk];rfl)) hb0.1 (by omega)
 obtain ⟨s1,hs1⟩:∃ s,s=s0++wordsT (whereW c tw):=⟨_,rfl⟩
 rw [← hs1] at hW1
 refine ⟨tw,htw,htz,s1,by rw [hs1,hs0],?_⟩
 clear htw
 clear hs0 hs1
 generalize kindT c.ty=kt at *
 generalize valT c.v=vt at *
 clear hr
 rw [hge] at hE
 clear hge hte
 obtain ⟨k,name,other,column,cols,ty,v,vals,fields,⟨k1,v1,n1,a1⟩,all,⟨k2,v2,n2,a2⟩,order,limit⟩:=c
 dsimp only at *
 rw [rE_mk] at hE
 unfold vCm at hW1 ⊢
 rw [rCm_mk] at hW1 ⊢
 have F:=kF hk
 (refine ei_ Tryz.func56 Tryz.ntmps56 Tryz.results56 fun X hX=>?_)
 refine au_ F ?_
 (refine dr_ 0 an0 fun K hK=>?_)
 refine dx_ an0 ?_
 (refine di_ 0 an0 (SpIO.ren (hW0) [(1000,1000),(25,162)] rfl) ?_)
 (refine de_ (hK _ ?_);clear hK K)
 refine gs_ ?_
 (refine rn_ 8 an0 fun K hK=>?_;refine rr_ an0 ?_)
 (refine rwr_io 40 (SpIO.ren (hW1) [(1000,1000),(1001,162)] rfl) rfl rfl (by simp only [go_sem,prnNew,prnUsed,rowW,hX];exact rfl) (by simp only [go_sem,prnNew,prnUsed,rowW,hX]) (by simp only [go_sem,prnNew,prnUsed,rowW,hX]) (by simp only [go_sem,prnNew,prnUsed,rowW,hX]) (by simp only [go_sem,prnNew,prnUsed,rowW,hX]) rfl (by rw [hX];rfl) ?_;simp only [go_sem,prnNew,prnUsed,rowW,hX])
 ((first | refine rwr_nil (hK _ ?_) | refine de_ (hK _ ?_));clear hK K)
 refine au_ an0 ?_
 exact oi_ an0 (.inr rfl)
set_option maxHeartbeats 8000000 in
theorem cmd14_io (c:Cm) (hr:Rt c) (hk:c.k=14):∃ un:List UInt8,un=textW [⟨#[98,101,103,105,110]⟩]∧SpIO Tryz.prog 56 [.one (.optr 1000 0),vCm c] [(1000,prnNew)] (.tup []) [(1000,prnUsed 1000 162 un.length),(162,rowW (strRows (bs un)))] [1000]:=by
 have q1:=hr.name
 have q2:=hr.other
 have q3:=hr.column
 have q4:=kindT_small c.ty
 have q5:=valT_small hr.v
 have hW0:=words_new ⟨#[98,101,103,105,110]⟩ [] (by decide) (fun y hy=>by
  simp only [List.mem_cons,List.not_mem_nil,or_false] at hy
  rcases hy with rfl
  all_goals first | decide | omega) (by show 1≤1000;decide)
 obtain ⟨s0,hs0⟩:∃ s,s=textW [⟨#[98,101,103,105,110]⟩]:=⟨_,rfl⟩
 rw [← hs0] at hW0
 refine ⟨s0,by rw [hs0],?_⟩
 clear hs0
 generalize kindT c.ty=kt at *
 generalize valT c.v=vt at *
 clear hr
 obtain ⟨k,name,other,column,cols,ty,v,vals,fields,⟨k1,v1,n1,a1⟩,all,⟨k2,v2,n2,a2⟩,order,limit⟩:=c
 dsimp only at *
 unfold vCm
 rw [rCm_mk]
 have F:=kF hk
 (refine ei_ Tryz.func56 Tryz.ntmps56 Tryz.results56 fun X hX=>?_)
 refine au_ F ?_
 (refine rn_ 8 an0 fun K hK=>?_;refine rr_ an0 ?_)
 (refine rwr_io 40 (SpIO.ren (hW0) [(1000,1000),(25,162)] rfl) rfl rfl (by simp only [go_sem,prnNew,prnUsed,rowW,hX];exact rfl) (by simp only [go_sem,prnNew,prnUsed,rowW,hX]) (by simp only [go_sem,prnNew,prnUsed,rowW,hX]) (by simp only [go_sem,prnNew,prnUsed,rowW,hX]) (by simp only [go_sem,prnNew,prnUsed,rowW,hX]) rfl (by rw [hX];rfl) ?_;simp only [go_sem,prnNew,prnUsed,rowW,hX])
 ((first | refine rwr_nil (hK _ ?_) | refine de_ (hK _ ?_));clear hK K)
 refine au_ an0 ?_
 exact oi_ an0 (.inr rfl)
set_option maxHeartbeats 8000000 in
theorem cmd15_io (c:Cm) (hr:Rt c) (hk:c.k=15):∃ un:List UInt8,un=textW [⟨#[99,111,109,109,105,116]⟩]∧SpIO Tryz.prog 56 [.one (.optr 1000 0),vCm c] [(1000,prnNew)] (.tup []) [(1000,prnUsed 1000 162 un.length),(162,rowW (strRows (bs un)))] [1000]:=by
 have q1:=hr.name
 have q2:=hr.other
 have q3:=hr.column
 have q4:=kindT_small c.ty
 have q5:=valT_small hr.v
 have hW0:=words_new ⟨#[99,111,109,109,105,116]⟩ [] (by decide) (fun y hy=>by
  simp only [List.mem_cons,List.not_mem_nil,or_false] at hy
  rcases hy with rfl
  all_goals first | decide | omega) (by show 1≤1000;decide)
 obtain ⟨s0,hs0⟩:∃ s,s=textW [⟨#[99,111,109,109,105,116]⟩]:=⟨_,rfl⟩
 rw [← hs0] at hW0
 refine ⟨s0,by rw [hs0],?_⟩
 clear hs0
 generalize kindT c.ty=kt at *
 generalize valT c.v=vt at *
 clear hr
 obtain ⟨k,name,other,column,cols,ty,v,vals,fields,⟨k1,v1,n1,a1⟩,all,⟨k2,v2,n2,a2⟩,order,limit⟩:=c
 dsimp only at *
 unfold vCm
 rw [rCm_mk]
 have F:=kF hk
 (refine ei_ Tryz.func56 Tryz.ntmps56 Tryz.results56 fun X hX=>?_)
 refine au_ F ?_
 (refine rn_ 8 an0 fun K hK=>?_;refine rr_ an0 ?_)
 (refine rwr_io 40 (SpIO.ren (hW0) [(1000,1000),(25,162)] rfl) rfl rfl (by simp only [go_sem,prnNew,prnUsed,rowW,hX];exact rfl) (by simp only [go_sem,prnNew,prnUsed,rowW,hX]) (by simp only [go_sem,prnNew,prnUsed,rowW,hX]) (by simp only [go_sem,prnNew,prnUsed,rowW,hX]) (by simp only [go_sem,prnNew,prnUsed,rowW,hX]) rfl (by rw [hX];rfl) ?_;simp only [go_sem,prnNew,prnUsed,rowW,hX])
 ((first | refine rwr_nil (hK _ ?_) | refine de_ (hK _ ?_));clear hK K)
 refine au_ an0 ?_
 exact oi_ an0 (.inr rfl)
set_option maxHeartbeats 8000000 in
theorem cmd16_io (c:Cm) (hr:Rt c) (hk:c.k=16):∃ un:List UInt8,un=textW [⟨#[114,111,108,108,98,97,99,107]⟩]∧SpIO Tryz.prog 56 [.one (.optr 1000 0),vCm c] [(1000,prnNew)] (.tup []) [(1000,prnUsed 1000 162 un.length),(162,rowW (strRows (bs un)))] [1000]:=by
 have q1:=hr.name
 have q2:=hr.other
 have q3:=hr.column
 have q4:=kindT_small c.ty
 have q5:=valT_small hr.v
 have hW0:=words_new ⟨#[114,111,108,108,98,97,99,107]⟩ [] (by decide) (fun y hy=>by
  simp only [List.mem_cons,List.not_mem_nil,or_false] at hy
  rcases hy with rfl
  all_goals first | decide | omega) (by show 1≤1000;decide)
 obtain ⟨s0,hs0⟩:∃ s,s=textW [⟨#[114,111,108,108,98,97,99,107]⟩]:=⟨_,rfl⟩
 rw [← hs0] at hW0
 refine ⟨s0,by rw [hs0],?_⟩
 clear hs0
 generalize kindT c.ty=kt at *
 generalize valT c.v=vt at *
 clear hr
 obtain ⟨k,name,other,column,cols,ty,v,vals,fields,⟨k1,v1,n1,a1⟩,all,⟨k2,v2,n2,a2⟩,order,limit⟩:=c
 dsimp only at *
 unfold vCm
 rw [rCm_mk]
 have F:=kF hk
 (refine ei_ Tryz.func56 Tryz.ntmps56 Tryz.results56 fun X hX=>?_)
 refine au_ F ?_
 (refine rn_ 8 an0 fun K hK=>?_;refine rr_ an0 ?_)
 (refine rwr_io 40 (SpIO.ren (hW0) [(1000,1000),(25,162)] rfl) rfl rfl (by simp only [go_sem,prnNew,prnUsed,rowW,hX];exact rfl) (by simp only [go_sem,prnNew,prnUsed,rowW,hX]) (by simp only [go_sem,prnNew,prnUsed,rowW,hX]) (by simp only [go_sem,prnNew,prnUsed,rowW,hX]) (by simp only [go_sem,prnNew,prnUsed,rowW,hX]) rfl (by rw [hX];rfl) ?_;simp only [go_sem,prnNew,prnUsed,rowW,hX])
 ((first | refine rwr_nil (hK _ ?_) | refine de_ (hK _ ?_));clear hK K)
 refine au_ an0 ?_
 exact oi_ an0 (.inr rfl)
end Go.Proofs.YtjdgejfhnfnmgaaGreatDoor.Ax
namespace Go.Proofs.YtjdgejfhnfnmgaaGreatDoor.Ax
open Go.RowKit
set_option linter.unusedSimpArgs false
attribute [local go_sem] ty3 ty4 ty9 ty5 ty26 ty54 ty22 ty24 ty25 ty27 ty29 ty31 ty91 ty85 prnNew prnUsed rowW
set_option linter.unusedVariables false
set_option maxRecDepth 100000
def cmdS (c:Cm) (te tw:ByteArray):List UInt8 :=
 if c.k=1 then textW [⟨#[99,114,101,97,116,101]⟩,⟨#[116,97,98,108,101]⟩,c.name,listT (c.cols.map colT)]
 else if c.k=2 then textW [⟨#[100,114,111,112]⟩,⟨#[116,97,98,108,101]⟩,c.name]
 else if c.k=3 then textW [⟨#[97,108,116,101,114]⟩,⟨#[116,97,98,108,101]⟩,c.name]++wordsT [⟨#[97,100,100]⟩,c.column,kindT c.ty,⟨#[100,101,102,97,117,108,116]⟩,valT c.v]
 else if c.k=4 then textW [⟨#[97,108,116,101,114]⟩,⟨#[116,97,98,108,101]⟩,c.name]++wordsT [⟨#[100,114,111,112]⟩,c.column]
 else if c.k=5 then textW [⟨#[97,108,116,101,114]⟩,⟨#[116,97,98,108,101]⟩,c.name]++wordsT [⟨#[114,101,110,97,109,101]⟩,c.column,⟨#[116,111]⟩,c.other]
 else if c.k=6 then textW [⟨#[97,108,116,101,114]⟩,⟨#[116,97,98,108,101]⟩,c.name]++wordsT [⟨#[114,101,116,121,112,101]⟩,c.column,kindT c.ty]
 else if c.k=7 then textW [⟨#[97,108,116,101,114]⟩,⟨#[116,97,98,108,101]⟩,c.name]++wordsT [⟨#[114,101,110,97,109,101]⟩,⟨#[116,111]⟩,c.other]
 else if c.k=8 then textW [⟨#[99,114,101,97,116,101]⟩,⟨#[105,110,100,101,120]⟩,c.name,⟨#[111,110]⟩,c.other,bracT c.column]
 else if c.k=9 then textW [⟨#[100,114,111,112]⟩,⟨#[105,110,100,101,120]⟩,c.name]
 else if c.k=10 then textW [⟨#[105,110,115,101,114,116]⟩,⟨#[105,110,116,111]⟩,c.name,⟨#[118,97,108,117,101,115]⟩,listT (c.vals.map valT)]
 else if c.k=11 then textW [⟨#[100,101,108,101,116,101]⟩,⟨#[102,114,111,109]⟩,c.name]++wordsT (whereW c tw)
 else if c.k=12 then textW [⟨#[117,112,100,97,116,101]⟩,c.name,⟨#[115,101,116]⟩,c.column,⟨#[61]⟩,te]++wordsT (whereW c tw)
 else if c.k=13 then textW [wSelect,fieldsT c,wFrom,c.name]++wordsT (whereW c tw)++wordsT (orderW c)++wordsT (limitW c)
 else if c.k=14 then textW [⟨#[98,101,103,105,110]⟩]
 else if c.k=15 then textW [⟨#[99,111,109,109,105,116]⟩]
 else textW [⟨#[114,111,108,108,98,97,99,107]⟩]
structure TextIs (c:Cm) (te tw:ByteArray):Prop where
 ex:c.k=12→∃ g:Gx,g.ex=c.ex∧g.ok∧(gT g).size≤30300∧te=gT g
 wh:kWhere c.k=true→c.all=false→∃ g:Gx,g.ex=c.wh∧g.ok∧(gT g).size≤30300∧tw=gT g
theorem textW_pos (x:ByteArray) (l:List ByteArray) (r:List UInt8) (h:0 < x.size):0 < (textW (x :: l)++r).length:=by
 rw [textW,List.length_append,List.length_append]
 have:x.data.toList.length=x.size:=rfl
 omega
theorem textW_pos0 (x:ByteArray) (l:List ByteArray) (h:0 < x.size):0 < (textW (x :: l)).length:=by
 have:=textW_pos x l [] h
 rwa [List.append_nil] at this
set_option maxHeartbeats 8000000 in
theorem cmd13_io (c:Cm) (hr:Rt c) (hk:c.k=13) (tw:ByteArray) {un:List UInt8} (hW0:SpIO Tryz.prog 107 [.one (.optr 1000 0),vCm c] [(1000,prnNew)] (.tup []) [(1000,prnUsed 1000 17 un.length),(17,rowW (strRows (bs un)))] [1000]) :
  SpIO Tryz.prog 56 [.one (.optr 1000 0),vCm c] [(1000,prnNew)] (.tup []) [(1000,prnUsed 1000 162 un.length),(162,rowW (strRows (bs un)))] [1000]:=by
 clear hr
 obtain ⟨k,name,other,column,cols,ty,v,vals,fields,⟨k1,v1,n1,a1⟩,all,⟨k2,v2,n2,a2⟩,order,limit⟩:=c
 dsimp only at *
 unfold vCm at hW0 ⊢
 rw [rCm_mk] at hW0 ⊢
 have F:=kF hk
 (refine ei_ Tryz.func56 Tryz.ntmps56 Tryz.results56 fun X hX=>?_)
 refine au_ F ?_
 (refine rn_ 8 an0 fun K hK=>?_;refine rr_ an0 ?_)
 (refine rwr_io 40 (SpIO.ren (hW0) [(1000,1000),(17,162)] rfl) rfl rfl (by simp only [go_sem,prnNew,prnUsed,rowW,hX];exact rfl) (by simp only [go_sem,prnNew,prnUsed,rowW,hX]) (by simp only [go_sem,prnNew,prnUsed,rowW,hX]) (by simp only [go_sem,prnNew,prnUsed,rowW,hX]) (by simp only [go_sem,prnNew,prnUsed,rowW,hX]) rfl (by rw [hX];rfl) ?_;simp only [go_sem,prnNew,prnUsed,rowW,hX])
 ((first | refine rwr_nil (hK _ ?_) | refine de_ (hK _ ?_));clear hK K)
 refine au_ an0 ?_
 exact oi_ an0 (.inr rfl)
theorem command_io (c:Cm) (hr:Rt c):∃ te tw:ByteArray,TextIs c te tw∧∃ un:List UInt8,un=cmdS c te tw∧0 < un.length ∧
  SpIO Tryz.prog 56 [.one (.optr 1000 0),vCm c] [(1000,prnNew)] (.tup []) [(1000,prnUsed 1000 162 un.length),(162,rowW (strRows (bs un)))] [1000]:=by
 have h1:=hr.k1
 have h2:=hr.k16
 obtain hk | hk | hk | hk | hk | hk | hk | hk | hk | hk | hk | hk | hk | hk | hk | hk:c.k=1 ∨ c.k=2 ∨ c.k=3 ∨ c.k=4 ∨ c.k=5 ∨ c.k=6 ∨ c.k=7 ∨ c.k=8 ∨ c.k=9 ∨ c.k=10 ∨ c.k=11 ∨ c.k=12 ∨ c.k=13 ∨ c.k=14 ∨ c.k=15 ∨ c.k=16:=by omega
 ·obtain ⟨un,hun,hsp⟩:=cmd1_io c hr hk
  refine ⟨.empty,.empty,⟨fun h=>absurd (hk.symm.trans h) (by decide),fun h=>absurd h (by rw [hk];decide)⟩,un,hun.trans (Eq.symm (by unfold cmdS;rw [if_pos hk])),?_,hsp⟩
  rw [hun]
  exact textW_pos0 _ _ (by decide)
 ·obtain ⟨un,hun,hsp⟩:=cmd2_io c hr hk
  refine ⟨.empty,.empty,⟨fun h=>absurd (hk.symm.trans h) (by decide),fun h=>absurd h (by rw [hk];decide)⟩,un,hun.trans (Eq.symm (by unfold cmdS;rw [if_neg (by rw [hk];decide)];rw [if_pos hk])),?_,hsp⟩
  rw [hun]
  exact textW_pos0 _ _ (by decide)
 ·obtain ⟨un,hun,hsp⟩:=cmd3_io c hr hk
  refine ⟨.empty,.empty,⟨fun h=>absurd (hk.symm.trans h) (by decide),fun h=>absurd h (by rw [hk];decide)⟩,un,hun.trans (Eq.symm (by unfold cmdS;rw [if_neg (by rw [hk];decide)];rw [if_neg (by rw [hk];decide)];rw [if_pos hk])),?_,hsp⟩
  rw [hun]
  exact textW_pos _ _ _ (by decide)
 ·obtain ⟨un,hun,hsp⟩:=cmd4_io c hr hk
  refine ⟨.empty,.empty,⟨fun h=>absurd (hk.symm.trans h) (by decide),fun h=>absurd h (by rw [hk];decide)⟩,un,hun.trans (Eq.symm (by unfold cmdS;rw [if_neg (by rw [hk];decide)];rw [if_neg (by rw [hk];decide)];rw [if_neg (by rw [hk];decide)];rw [if_pos hk])),?_,hsp⟩
  rw [hun]
  exact textW_pos _ _ _ (by decide)
 ·obtain ⟨un,hun,hsp⟩:=cmd5_io c hr hk
  refine ⟨.empty,.empty,⟨fun h=>absurd (hk.symm.trans h) (by decide),fun h=>absurd h (by rw [hk];decide)⟩,un,hun.trans (Eq.symm (by unfold cmdS;rw [if_neg (by rw [hk];decide)];rw [if_neg (by rw [hk];decide)];rw [if_neg (by rw [hk];decide)];rw [if_neg (by rw [hk];decide)];rw [if_pos hk])),?_,hsp⟩
  rw [hun]
  exact textW_pos _ _ _ (by decide)
 ·obtain ⟨un,hun,hsp⟩:=cmd6_io c hr hk
  refine ⟨.empty,.empty,⟨fun h=>absurd (hk.symm.trans h) (by decide),fun h=>absurd h (by rw [hk];decide)⟩,un,hun.trans (Eq.symm (by unfold cmdS;rw [if_neg (by rw [hk];decide)];rw [if_neg (by rw [hk];decide)];rw [if_neg (by rw [hk];decide)];rw [if_neg (by rw [hk];decide)];rw [if_neg (by rw [hk];decide)];rw [if_pos hk])),?_,hsp⟩
  rw [hun]
  exact textW_pos _ _ _ (by decide)
 ·obtain ⟨un,hun,hsp⟩:=cmd7_io c hr hk
  refine ⟨.empty,.empty,⟨fun h=>absurd (hk.symm.trans h) (by decide),fun h=>absurd h (by rw [hk];decide)⟩,un,hun.trans (Eq.symm (by unfold cmdS;rw [if_neg (by rw [hk];decide)];rw [if_neg (by rw [hk];decide)];rw [if_neg (by rw [hk];decide)];rw [if_neg (by rw [hk];decide)];rw [if_neg (by rw [hk];decide)];rw [if_neg (by rw [hk];decide)];rw [if_pos hk])),?_,hsp⟩
  rw [hun]
  exact textW_pos _ _ _ (by decide)
 ·obtain ⟨un,hun,hsp⟩:=cmd8_io c hr hk
  refine ⟨.empty,.empty,⟨fun h=>absurd (hk.symm.trans h) (by decide),fun h=>absurd h (by rw [hk];decide)⟩,un,hun.trans (Eq.symm (by unfold cmdS;rw [if_neg (by rw [hk];decide)];rw [if_neg (by rw [hk];decide)];rw [if_neg (by rw [hk];decide)];rw [if_neg (by rw [hk];decide)];rw [if_neg (by rw [hk];decide)];rw [if_neg (by rw [hk];decide)];rw [if_neg (by rw [hk];decide)];rw [if_pos hk])),?_,hsp⟩
  rw [hun]
  exact textW_pos0 _ _ (by decide)
 ·obtain ⟨un,hun,hsp⟩:=cmd9_io c hr hk
  refine ⟨.empty,.empty,⟨fun h=>absurd (hk.symm.trans h) (by decide),fun h=>absurd h (by rw [hk];decide)⟩,un,hun.trans (Eq.symm (by unfold cmdS;rw [if_neg (by rw [hk];decide)];rw [if_neg (by rw [hk];decide)];rw [if_neg (by rw [hk];decide)];rw [if_neg (by rw [hk];decide)];rw [if_neg (by rw [hk];decide)];rw [if_neg (by rw [hk];decide)];rw [if_neg (by rw [hk];decide)];rw [if_neg (by rw [hk];decide)];rw [if_pos hk])),?_,hsp⟩
  rw [hun]
  exact textW_pos0 _ _ (by decide)
 ·obtain ⟨un,hun,hsp⟩:=cmd10_io c hr hk
  refine ⟨.empty,.empty,⟨fun h=>absurd (hk.symm.trans h) (by decide),fun h=>absurd h (by rw [hk];decide)⟩,un,hun.trans (Eq.symm (by unfold cmdS;rw [if_neg (by rw [hk];decide)];rw [if_neg (by rw [hk];decide)];rw [if_neg (by rw [hk];decide)];rw [if_neg (by rw [hk];decide)];rw [if_neg (by rw [hk];decide)];rw [if_neg (by rw [hk];decide)];rw [if_neg (by rw [hk];decide)];rw [if_neg (by rw [hk];decide)];rw [if_neg (by rw [hk];decide)];rw [if_pos hk])),?_,hsp⟩
  rw [hun]
  exact textW_pos0 _ _ (by decide)
 ·obtain ⟨tw,htw,htz,un,hun,hsp⟩:=cmd11_io c hr hk
  refine ⟨.empty,tw,⟨fun h=>absurd (hk.symm.trans h) (by decide),fun _=>htw⟩,un,hun.trans (Eq.symm (by unfold cmdS;rw [if_neg (by rw [hk];decide)];rw [if_neg (by rw [hk];decide)];rw [if_neg (by rw [hk];decide)];rw [if_neg (by rw [hk];decide)];rw [if_neg (by rw [hk];decide)];rw [if_neg (by rw [hk];decide)];rw [if_neg (by rw [hk];decide)];rw [if_neg (by rw [hk];decide)];rw [if_neg (by rw [hk];decide)];rw [if_neg (by rw [hk];decide)];rw [if_pos hk])),?_,hsp⟩
  rw [hun]
  exact textW_pos _ _ _ (by decide)
 ·obtain ⟨g,hg,hgo,hgz⟩:=hr.ex hk
  obtain ⟨tw,htw,htz,un,hun,hsp⟩:=cmd12_io c hr hk (gT g) g hg hgo hgz rfl
  refine ⟨gT g,tw,⟨fun _=>⟨g,hg,hgo,hgz,rfl⟩,fun _=>htw⟩,un,hun.trans (Eq.symm (by unfold cmdS;rw [if_neg (by rw [hk];decide)];rw [if_neg (by rw [hk];decide)];rw [if_neg (by rw [hk];decide)];rw [if_neg (by rw [hk];decide)];rw [if_neg (by rw [hk];decide)];rw [if_neg (by rw [hk];decide)];rw [if_neg (by rw [hk];decide)];rw [if_neg (by rw [hk];decide)];rw [if_neg (by rw [hk];decide)];rw [if_neg (by rw [hk];decide)];rw [if_neg (by rw [hk];decide)];rw [if_pos hk])),?_,hsp⟩
  rw [hun]
  exact textW_pos _ _ _ (by decide)
 ·obtain ⟨tw,htw,htz,un,hun,hsp⟩:=selects_io c hr hk (fields_comma hr)
  refine ⟨.empty,tw,⟨fun h=>absurd (hk.symm.trans h) (by decide),fun _=>htw⟩,un,hun.trans (Eq.symm (by unfold cmdS;rw [if_neg (by rw [hk];decide)];rw [if_neg (by rw [hk];decide)];rw [if_neg (by rw [hk];decide)];rw [if_neg (by rw [hk];decide)];rw [if_neg (by rw [hk];decide)];rw [if_neg (by rw [hk];decide)];rw [if_neg (by rw [hk];decide)];rw [if_neg (by rw [hk];decide)];rw [if_neg (by rw [hk];decide)];rw [if_neg (by rw [hk];decide)];rw [if_neg (by rw [hk];decide)];rw [if_neg (by rw [hk];decide)];rw [if_pos hk])),?_,cmd13_io c hr hk tw hsp⟩
  rw [hun,List.append_assoc,List.append_assoc]
  exact textW_pos _ _ _ (by decide)
 ·obtain ⟨un,hun,hsp⟩:=cmd14_io c hr hk
  refine ⟨.empty,.empty,⟨fun h=>absurd (hk.symm.trans h) (by decide),fun h=>absurd h (by rw [hk];decide)⟩,un,hun.trans (Eq.symm (by unfold cmdS;rw [if_neg (by rw [hk];decide)];rw [if_neg (by rw [hk];decide)];rw [if_neg (by rw [hk];decide)];rw [if_neg (by rw [hk];decide)];rw [if_neg (by rw [hk];decide)];rw [if_neg (by rw [hk];decide)];rw [if_neg (by rw [hk];decide)];rw [if_neg (by rw [hk];decide)];rw [if_neg (by rw [hk];decide)];rw [if_neg (by rw [hk];decide)];rw [if_neg (by rw [hk];decide)];rw [if_neg (by rw [hk];decide)];rw [if_neg (by rw [hk];decide)];rw [if_pos hk])),?_,hsp⟩
  rw [hun]
  exact textW_pos0 _ _ (by decide)
 ·obtain ⟨un,hun,hsp⟩:=cmd15_io c hr hk
  refine ⟨.empty,.empty,⟨fun h=>absurd (hk.symm.trans h) (by decide),fun h=>absurd h (by rw [hk];decide)⟩,un,hun.trans (Eq.symm (by unfold cmdS;rw [if_neg (by rw [hk];decide)];rw [if_neg (by rw [hk];decide)];rw [if_neg (by rw [hk];decide)];rw [if_neg (by rw [hk];decide)];rw [if_neg (by rw [hk];decide)];rw [if_neg (by rw [hk];decide)];rw [if_neg (by rw [hk];decide)];rw [if_neg (by rw [hk];decide)];rw [if_neg (by rw [hk];decide)];rw [if_neg (by rw [hk];decide)];rw [if_neg (by rw [hk];decide)];rw [if_neg (by rw [hk];decide)];rw [if_neg (by rw [hk];decide)];rw [if_neg (by rw [hk];decide)];rw [if_pos hk])),?_,hsp⟩
  rw [hun]
  exact textW_pos0 _ _ (by decide)
 ·obtain ⟨un,hun,hsp⟩:=cmd16_io c hr hk
  refine ⟨.empty,.empty,⟨fun h=>absurd (hk.symm.trans h) (by decide),fun h=>absurd h (by rw [hk];decide)⟩,un,hun.trans (Eq.symm (by unfold cmdS;rw [if_neg (by rw [hk];decide)];rw [if_neg (by rw [hk];decide)];rw [if_neg (by rw [hk];decide)];rw [if_neg (by rw [hk];decide)];rw [if_neg (by rw [hk];decide)];rw [if_neg (by rw [hk];decide)];rw [if_neg (by rw [hk];decide)];rw [if_neg (by rw [hk];decide)];rw [if_neg (by rw [hk];decide)];rw [if_neg (by rw [hk];decide)];rw [if_neg (by rw [hk];decide)];rw [if_neg (by rw [hk];decide)];rw [if_neg (by rw [hk];decide)];rw [if_neg (by rw [hk];decide)];rw [if_neg (by rw [hk];decide)])),?_,hsp⟩
  rw [hun]
  exact textW_pos0 _ _ (by decide)
set_option maxHeartbeats 8000000 in
theorem text_sp (c:Cm) (hr:Rt c):∃ te tw:ByteArray,TextIs c te tw∧Sp Tryz.prog 21 [.agg (rCm c)] (.one (.t true (.lit (.string (bs (cmdS c te tw)))))) []:=by
 obtain ⟨te,tw,ht,un,hun,h0,hC⟩:=command_io c hr
 refine ⟨te,tw,ht,?_⟩
 have hS:=pstr_used_io (bs un) (by intro h;rw [show (bs un).data.toList=un from rfl] at h;rw [h] at h0;cases h0)
 rw [bs_size] at hS
 rw [← hun]
 clear hun ht hr h0
 obtain ⟨k,name,other,column,cols,ty,v,vals,fields,⟨k1,v1,n1,a1⟩,all,⟨k2,v2,n2,a2⟩,order,limit⟩:=c
 unfold vCm at hC
 rw [rCm_mk] at hC ⊢
 (refine en_ Tryz.func21 Tryz.ntmps21 Tryz.results21 fun X hX=>?_)
 refine au_ an0 ?_
 (refine rn_ 8 an0 fun K hK=>?_;refine rr_ an0 ?_)
 (refine rwr_io 40 (SpIO.ren (hC) [(1000,5),(162,8)] rfl) rfl rfl (by simp only [go_sem,prnNew,prnUsed,rowW,hX];exact rfl) (by simp only [go_sem,prnNew,prnUsed,rowW,hX]) (by simp only [go_sem,prnNew,prnUsed,rowW,hX]) (by simp only [go_sem,prnNew,prnUsed,rowW,hX]) (by simp only [go_sem,prnNew,prnUsed,rowW,hX]) rfl (by rw [hX];rfl) ?_;simp only [go_sem,prnNew,prnUsed,rowW,hX])
 ((first | refine rwr_nil (hK _ ?_) | refine de_ (hK _ ?_));clear hK K)
 refine gs_ ?_
 (refine rn_ 8 an0 fun K hK=>?_;refine rr_ an0 ?_)
 (refine rwr_io 40 (SpIO.ren (hS) [(1000,5),(1001,8)] rfl) rfl rfl (by simp only [go_sem,prnNew,prnUsed,rowW,hX];exact rfl) (by simp only [go_sem,prnNew,prnUsed,rowW,hX]) (by simp only [go_sem,prnNew,prnUsed,rowW,hX]) (by simp only [go_sem,prnNew,prnUsed,rowW,hX]) (by simp only [go_sem,prnNew,prnUsed,rowW,hX]) rfl (by rw [hX];rfl) ?_;simp only [go_sem,prnNew,prnUsed,rowW,hX])
 ((first | refine rwr_nil (hK _ ?_) | refine de_ (hK _ ?_));clear hK K)
 refine au_ an0 ?_
 exact oq_ an0
theorem show_bad (c:Cm) (hg:goodCm c) (h:¬ checkP c=0):Sp Tryz.prog 8 [.agg (rCm c)] (.tup [litS ⟨#[]⟩,litI .i64 (checkP c)]) []:=by
 have hC:=ccheck_sp c hg
 have e1:(checkP c != 0)=true:=by simp;exact h
 generalize checkP c=e at *
 obtain ⟨k,name,other,column,cols,ty,v,vals,fields,⟨k1,v1,n1,a1⟩,all,⟨k2,v2,n2,a2⟩,order,limit⟩:=c
 rw [rCm_mk] at hC ⊢
 (refine en_ Tryz.func8 Tryz.ntmps8 Tryz.results8 fun X hX=>?_)
 refine au_ e1 ?_
 exact oq_ an0
theorem show_ok (c:Cm) (hg:goodCm c) (h:checkP c=0) {t:ByteArray} (hT:Sp Tryz.prog 21 [.agg (rCm c)] (.one (.t true (.lit (.string t)))) []):Sp Tryz.prog 8 [.agg (rCm c)] (.tup [litS t,litI .i64 0]) []:=by
 have hC:=ccheck_sp c hg
 rw [h] at hC
 obtain ⟨k,name,other,column,cols,ty,v,vals,fields,⟨k1,v1,n1,a1⟩,all,⟨k2,v2,n2,a2⟩,order,limit⟩:=c
 rw [rCm_mk] at hC hT ⊢
 (refine en_ Tryz.func8 Tryz.ntmps8 Tryz.results8 fun X hX=>?_)
 refine au_ an0 ?_
 exact oq_ an0
end Go.Proofs.YtjdgejfhnfnmgaaGreatDoor.Ax
