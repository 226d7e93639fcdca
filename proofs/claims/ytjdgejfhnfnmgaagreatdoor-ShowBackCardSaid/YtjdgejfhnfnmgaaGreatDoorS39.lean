/-  -/
import Derived.Test.YtjdgejfhnfnmgaaGreatDoorS38
namespace Go.Proofs.YtjdgejfhnfnmgaaGreatDoor.Ax
open Go.RowKit
theorem sign_word {l ws:List Vl} {k:Nat} {s:Int} (hs:5≤s∧s≤11) (h:AtT l k (sgT s :: ws)):takeB l wIs k=false∧wordR l wAnd7 k=.ok (s - 5) (k + 1):=by
 have e:∀ i:Int,oneP l k wAnd7 0=i→i ≠ -1→wordR l wAnd7 k=.ok i (k + 1):=fun i hi hne=>by
  unfold wordR
  rw [hi,decide_eq_false hne]
  rfl
 have ho:oneP l k wAnd7 0=oneP [sgT s] 0 wAnd7 0:=by
  have key:∀ (L:List ByteArray) (i:Nat),oneP l k L i=oneP [sgT s] 0 L i:=by
   intro L
   induction L with
   | nil=>intro i;rfl
   | cons x L ih =>
    intro i
    unfold oneP
    rw [h.take,ih]
    rfl
  exact key _ _
 rw [h.take]
 obtain rfl | rfl | rfl | rfl | rfl | rfl | rfl:s=5 ∨ s=6 ∨ s=7 ∨ s=8 ∨ s=9 ∨ s=10 ∨ s=11:=by omega
 ·exact ⟨by kernel_rfl,e 0 (ho.trans (by kernel_rfl)) (by decide)⟩
 ·exact ⟨by kernel_rfl,e 1 (ho.trans (by kernel_rfl)) (by decide)⟩
 ·exact ⟨by kernel_rfl,e 2 (ho.trans (by kernel_rfl)) (by decide)⟩
 ·exact ⟨by kernel_rfl,e 3 (ho.trans (by kernel_rfl)) (by decide)⟩
 ·exact ⟨by kernel_rfl,e 4 (ho.trans (by kernel_rfl)) (by decide)⟩
 ·exact ⟨by kernel_rfl,e 5 (ho.trans (by kernel_rfl)) (by decide)⟩
 ·exact ⟨by kernel_rfl,e 6 (ho.trans (by kernel_rfl)) (by decide)⟩
theorem exR_leaf {l:List Vl} {k:Nat} (f:Nat) (h1:takeB l wOpen k=false) (h2:takeB l wNot k=false):exR l f k=leafR l k:=by
 cases f with
 | zero=>unfold exR;rw [h1,h2];rfl
 | succ f=>unfold exR;rw [h1,h2];rfl
theorem ok_bind {α β:Type} (a:α) (k:Nat) (f:α→Nat→PR β):(PR.ok a k).bind f=f a k:=rfl
theorem gN_pos:∀ g:Gx,1≤gN g
 | .val _=>Nat.le_refl _
 | .col _=>Nat.le_refl _
 | .un _ x=>by rw [gN];omega
 | .bin _ x y=>by rw [gN];omega
theorem exR_gx {l:List Vl}:∀ (g:Gx),g.ok→∀ (f k:Nat) (ws:List Vl),gN g≤f + 1→AtT l k (toksG g++ws)→exR l f k=.ok g.ex (k + (toksG g).length)
 | .val v,hg,f,k,ws,hf,h=>by
  obtain ⟨h1,h2,h3⟩:=vP_val hg h
  rw [exR_leaf f h2 h3]
  unfold leafR
  rw [h1]
  rfl
 | .col nm,hg,f,k,ws,hf,h=>by
  have h:AtT l k (wd nm :: ws):=h
  obtain ⟨h1,h2,h3⟩:=vP_name hg h
  rw [exR_leaf f h2 h3]
  unfold leafR
  rw [h1]
  dsimp only
  rw [h.nameR hg]
  rfl
 | .un s x,hg,f,k,ws,hf,h=>by
  rw [gN] at hf
  have hp:=gN_pos x
  obtain ⟨f,rfl⟩:∃ f',f=f' + 1:=⟨f - 1,by omega⟩
  by_cases hs:s=3
  ·subst hs
   have e:toksG (.un 3 x)=wd wNot :: toksG x:=by rw [toksG,if_pos rfl]
   rw [e] at h ⊢
   have h:AtT l k (wd wNot :: (toksG x++ws)):=h
   have ih:=exR_gx x hg.2 f (k + 1) ws (by omega) h.tail
   unfold exR
   rw [h.take,h.take,show strEq (wd wNot).s wOpen=false by kernel_rfl,show strEq (wd wNot).s wNot=true by kernel_rfl]
   dsimp only [cond]
   rw [ih]
   show PR.ok _ _=PR.ok _ _
   rw [Gx.ex,List.length_cons]
   congr 1
   omega
  ·obtain rfl:s=4:=hg.1.resolve_left hs
   have e:toksG (.un 4 x)=sg wOpen :: ((toksG x++[wd wIs,wd wNull])++[sg wShut]):=by rw [toksG,if_neg (by decide)]
   rw [e] at h ⊢
   have h:AtT l k (sg wOpen :: (((toksG x++[wd wIs,wd wNull])++[sg wShut])++ws)):=h
   have h2:=h.tail
   rw [List.append_assoc,List.append_assoc] at h2
   have ih:=exR_gx x hg.2 f (k + 1) _ (by omega) h2
   have h3:AtT l (k + 1 + (toksG x).length) (wd wIs :: wd wNull :: sg wShut :: ws):=h2.right
   have h4:=h3.tail
   have h5:=h4.tail
   have hw:=h3.take wIs
   rw [show strEq (wd wIs).s wIs=true by kernel_rfl] at hw
   unfold exR pairR
   rw [h.take,show strEq (sg wOpen).s wOpen=true by kernel_rfl,cond_true,ih,ok_bind,hw,cond_true,h4.need rfl,ok_bind,ok_bind,h5.need rfl,ok_bind,Gx.ex]
   congr 1
   simp only [List.length_cons,List.length_append,List.length_nil]
   omega
 | .bin s x y,hg,f,k,ws,hf,h=>by
  rw [gN] at hf
  have hp:=gN_pos x
  have hp2:=gN_pos y
  obtain ⟨f,rfl⟩:∃ f',f=f' + 1:=⟨f - 1,by omega⟩
  have e:toksG (.bin s x y)=sg wOpen :: ((toksG x++sgT s :: toksG y)++[sg wShut]):=by rw [toksG]
  rw [e] at h ⊢
  have h:AtT l k (sg wOpen :: (((toksG x++sgT s :: toksG y)++[sg wShut])++ws)):=h
  have h2:=h.tail
  rw [List.append_assoc,List.append_assoc] at h2
  have ih:=exR_gx x hg.2.1 f (k + 1) _ (by omega) h2
  have h3:AtT l (k + 1 + (toksG x).length) (sgT s :: (toksG y++([sg wShut]++ws))):=h2.right
  obtain ⟨s1,s2⟩:=sign_word hg.1 h3
  have h4:=h3.tail
  have ih2:=exR_gx y hg.2.2 f _ _ (by omega) h4
  have h5:AtT l (k + 1 + (toksG x).length + 1 + (toksG y).length) (sg wShut :: ws):=h4.right
  unfold exR pairR
  rw [h.take,show strEq (sg wOpen).s wOpen=true by kernel_rfl,cond_true,ih,ok_bind,s1,cond_false,s2,ok_bind,ih2,ok_bind,ok_bind,h5.need rfl,ok_bind,Gx.ex,show 5 + (s - 5)=s by omega]
  congr 1
  simp only [List.length_cons,List.length_append,List.length_nil]
  omega
end Go.Proofs.YtjdgejfhnfnmgaaGreatDoor.Ax
namespace Go.Proofs.YtjdgejfhnfnmgaaGreatDoor.Ax
open Go.RowKit
theorem Piece.none:Piece [] []:=fun _ _ _ h=>h
theorem fol_words {L:List UInt8} (h:Fol L):∀ l:List ByteArray,Fol (wordsT l++L)
 | []=>h
 | _ :: _=>fol32 _
theorem piece_words:∀ l:List (ByteArray × List Vl),(∀ p ∈ l,Piece p.1.data.toList p.2)→Piece (wordsT (l.map (·.1))) (l.flatMap (·.2))
 | [],_=>Piece.none
 | p :: l,h=>fun L ws hF hS=>by
  have h1:=h p List.mem_cons_self
  have h2:=piece_words l fun q hq=>h q (List.mem_cons_of_mem _ hq)
  rw [List.map_cons,wordsT,List.flatMap_cons,List.cons_append,List.append_assoc,List.append_assoc]
  exact .blank (h1 _ _ (fol_words hF _) (h2 L ws hF hS))
theorem piece_text {l:List (ByteArray × List Vl)} (h:∀ p ∈ l,Piece p.1.data.toList p.2):Piece (textW (l.map (·.1))) (l.flatMap (·.2)):=by
 cases l with
 | nil=>exact Piece.none
 | cons p l =>
  intro L ws hF hS
  have h1:=h p List.mem_cons_self
  have h2:=piece_words l fun q hq=>h q (List.mem_cons_of_mem _ hq)
  rw [List.map_cons,textW,List.flatMap_cons,List.append_assoc,List.append_assoc]
  exact h1 _ _ (fol_words hF _) (h2 L ws hF hS)
def toksC:List (List Vl)→List Vl
 | []=>[]
 | [x]=>x
 | x :: y :: r=>x++sg ⟨#[44]⟩ :: toksC (y :: r)
theorem commaL_one (s:ByteArray):commaL [s]=s.data.toList:=Lib.join_one _ _
theorem commaL_cons (s t:ByteArray) (r:List ByteArray):commaL (s :: t :: r)=s.data.toList++44 :: 32 :: commaL (t :: r):=by
 unfold commaL
 rw [List.map_cons,List.map_cons]
 rw [Lib.join_cons,joinTail_cons]
 rfl
theorem piece_comma:∀ l:List (ByteArray × List Vl),l ≠ []→(∀ p ∈ l,Piece p.1.data.toList p.2)→Piece (commaL (l.map (·.1))) (toksC (l.map (·.2)))
 | [],h,_=>absurd rfl h
 | [p],_,h=>by
  rw [List.map_cons,List.map_nil,commaL_one]
  exact h p List.mem_cons_self
 | p :: q :: r,_,h=>by
  have h1:=h p List.mem_cons_self
  have h2:=piece_comma (q :: r) (by simp) fun x hx=>h x (List.mem_cons_of_mem _ hx)
  rw [List.map_cons,List.map_cons,commaL_cons]
  exact h1.comma h2
theorem piece_list {l:List (ByteArray × List Vl)} (hl:l ≠ []) (h:∀ p ∈ l,Piece p.1.data.toList p.2):Piece (listT (l.map (·.1))).data.toList (sg wOpen :: (toksC (l.map (·.2))++[sg wShut])):=by
 have:=(piece_comma l hl h).brac
 have e:(listT (l.map (·.1))).data.toList=40 :: (commaL (l.map (·.1))++[41]):=by
  unfold listT
  simp [ByteArray.data_append,bs]
 rw [e]
 exact this
theorem piece_brac {s:ByteArray} {vs:List Vl} (h:Piece s.data.toList vs):Piece (bracT s).data.toList (sg wOpen :: (vs++[sg wShut])):=by
 have e:(bracT s).data.toList=40 :: (s.data.toList++[41]):=by
  unfold bracT
  simp [ByteArray.data_append]
 rw [e]
 exact h.brac
theorem more_back {α:Type} {l:List Vl} {E:Nat→PR α}:∀ (its:List (α × List Vl)),(∀ p ∈ its,∀ k ws,AtT l k (p.2++ws)→E k=.ok p.1 (k + p.2.length))→∀ (f k:Nat) (v:Vl) (ws:List Vl),strEq v.s ⟨#[44]⟩=false→its.length≤f →
  AtT l k ((its.flatMap fun p=>sg ⟨#[44]⟩ :: p.2)++v :: ws)→moreR l E f k=.ok (its.map (·.1)) (k + (its.flatMap fun p=>sg ⟨#[44]⟩ :: p.2).length)
 | [],_,f,k,v,ws,hv,_,h=>by
  have h:AtT l k (v :: ws):=h
  cases f with
  | zero=>rfl
  | succ f =>
   unfold moreR
   rw [h.take,hv]
   rfl
 | p :: its,hE,f,k,v,ws,hv,hf,h=>by
  rw [List.length_cons] at hf
  obtain ⟨f,rfl⟩:∃ f',f=f' + 1:=⟨f - 1,by omega⟩
  rw [List.flatMap_cons] at h ⊢
  have h:AtT l k (sg ⟨#[44]⟩ :: (p.2++((its.flatMap fun p=>sg ⟨#[44]⟩ :: p.2)++v :: ws))):=by
   have e:((sg ⟨#[44]⟩ :: p.2)++its.flatMap fun p=>sg ⟨#[44]⟩ :: p.2)++v :: ws=sg ⟨#[44]⟩ :: (p.2++((its.flatMap fun p=>sg ⟨#[44]⟩ :: p.2)++v :: ws)):=by simp
   rw [e] at h
   exact h
  have h2:=h.tail
  have e1:=hE p List.mem_cons_self _ _ h2
  have ih:=more_back its (fun q hq=>hE q (List.mem_cons_of_mem _ hq)) f _ v ws hv (by omega) h2.right
  unfold moreR
  rw [h.take,show strEq (sg ⟨#[44]⟩).s ⟨#[44]⟩=true by kernel_rfl,cond_true,e1,ok_bind,ih,ok_bind]
  show PR.ok _ _=PR.ok _ _
  congr 1
  simp only [List.length_cons,List.length_append]
  omega
theorem toksC_flat (x:List Vl):∀ r:List (List Vl),toksC (x :: r)=x++r.flatMap fun y=>sg ⟨#[44]⟩ :: y:=by
 intro r
 induction r generalizing x with
 | nil=>simp [toksC]
 | cons y r ih=>rw [toksC,ih,List.flatMap_cons];simp
theorem AtT.len {l vs:List Vl} {k:Nat} (h:AtT l k vs) (hk:vs ≠ []):k + vs.length≤l.length:=by
 have hp:0 < vs.length:=List.length_pos_iff.2 hk
 obtain ⟨t,ht,_⟩:=h (vs.length - 1) _ (List.getElem?_eq_getElem (by omega))
 have:=(List.getElem?_eq_some_iff.1 ht).1
 omega
theorem some_back {α:Type} {l:List Vl} {E:Nat→PR α} {its:List (α × List Vl)} (hne:its ≠ []) (hE:∀ p ∈ its,∀ k ws,AtT l k (p.2++ws)→E k=.ok p.1 (k + p.2.length)) {k:Nat} {v:Vl} {ws:List Vl} (hv:strEq v.s ⟨#[44]⟩=false)
  (h:AtT l k (toksC (its.map (·.2))++v :: ws)):someR l E k=.ok (its.map (·.1)) (k + (toksC (its.map (·.2))).length):=by
 cases its with
 | nil=>exact absurd rfl hne
 | cons p its =>
  have hlen:=h.len (by simp)
  simp only [List.map_cons,toksC_flat,List.flatMap_map] at h hlen ⊢
  rw [List.append_assoc] at h
  have e1:=hE p List.mem_cons_self _ _ h
  have hfl:its.length≤(its.flatMap fun p=>sg ⟨#[44]⟩ :: p.2).length:=by
   clear h hE e1 hlen hne
   induction its with
   | nil=>exact Nat.le_refl _
   | cons q its ih=>rw [List.flatMap_cons,List.length_append,List.length_cons,List.length_cons];omega
  have ih:=more_back its (fun q hq=>hE q (List.mem_cons_of_mem _ hq)) (l.length + 1) _ v ws hv (by simp only [List.length_append,List.length_cons] at hlen;omega) h.right
  unfold someR
  rw [e1,ok_bind,ih,ok_bind]
  show PR.ok _ _=PR.ok _ _
  congr 1
  simp only [List.length_append]
  omega
theorem list_back {α:Type} {l:List Vl} {E:Nat→PR α} {its:List (α × List Vl)} (hne:its ≠ []) (hE:∀ p ∈ its,∀ k ws,AtT l k (p.2++ws)→E k=.ok p.1 (k + p.2.length)) {k:Nat} {ws:List Vl}
  (h:AtT l k (sg wOpen :: (toksC (its.map (·.2))++sg wShut :: ws))):listR l E k=.ok (its.map (·.1)) (k + (toksC (its.map (·.2))).length + 2):=by
 have h2:=h.tail
 have e:=some_back hne hE (v:=sg wShut) (by kernel_rfl) h2
 have h3:AtT l (k + 1 + (toksC (its.map (·.2))).length) (sg wShut :: ws):=h2.right
 unfold listR
 rw [h.need rfl,ok_bind,e,ok_bind,h3.need rfl,ok_bind]
 congr 1
 omega
end Go.Proofs.YtjdgejfhnfnmgaaGreatDoor.Ax
namespace Go.Proofs.YtjdgejfhnfnmgaaGreatDoor.Ax
open Go.RowKit
set_option linter.unnecessarySimpa false
theorem empty_of {s:ByteArray} (h:emptyS s=true):s=.empty:=by
 unfold emptyS at h
 rw [List.isEmpty_iff,ByteArray.toList_eq] at h
 apply ByteArray.ext
 apply Array.ext'
 rw [h]
 rfl
theorem zE_of {e:Ex} (h:noneB e=true):e=zE:=by
 obtain ⟨k,v,nm,ar⟩:=e
 unfold noneB at h
 simp only [Bool.and_eq_true,beq_iff_eq] at h
 obtain ⟨rfl,h2,h3,h4⟩:=h
 obtain rfl:=(Vl.same_iff _ _).1 h2
 obtain rfl:=empty_of h3
 obtain rfl:ar=[]:=List.length_eq_zero_iff.1 (by omega)
 rfl
structure Fx (c:Cm):Prop where
 k1:1≤c.k
 k16:c.k≤16
 name:kName c.k=true→nameB c.name=true
 name0:kName c.k=false→c.name=.empty
 other:kOther c.k=true→nameB c.other=true
 other0:kOther c.k=false→c.other=.empty
 column:kColumn c.k=true→nameB c.column=true
 column0:kColumn c.k=false→c.column=.empty
 ty:kType c.k=true→1≤c.ty∧c.ty≤3
 ty0:kType c.k=false→c.ty=0
 cols:c.k=1→c.cols ≠ []
 cols0:c.k ≠ 1→c.cols=[]
 colOk:∀ x ∈ c.cols,nameB x.name=true∧1≤x.ty∧x.ty≤3
 vals:c.k=10→c.vals ≠ []
 vals0:c.k ≠ 10→c.vals=[]
 valOk:∀ x ∈ c.vals,x.chk=0
 v:c.v.chk=0
 v0:c.k ≠ 3→c.v=Vl.zero
 fields0:c.k ≠ 13→c.fields=[]
 fieldOk:∀ x ∈ c.fields,nameB x=true
 ex:c.k=12→∃ g:Gx,g.ex=c.ex∧g.ok∧gN g≤15
 ex0:c.k ≠ 12→c.ex=zE
 wh:kWhere c.k=true→c.all=false→∃ g:Gx,g.ex=c.wh∧g.ok∧gN g≤15
 wh0:kWhere c.k=false ∨ c.all=true→c.wh=zE
 all0:kWhere c.k=false→c.all=false
 order:c.order=.empty ∨ nameB c.order=true
 order0:c.k ≠ 13→c.order=.empty
 limit:c.k=13→-1≤c.limit∧c.limit≤999999999
 limit0:c.k ≠ 13→c.limit=0
theorem gx_of {e:Ex} (h:exprB e=true) (hs:¬ 15 < sizeE e 15):∃ g:Gx,g.ex=e∧g.ok∧gN g≤15:=by
 obtain ⟨g,rfl,hg⟩:=exprB_gx e h
 refine ⟨g,rfl,hg,?_⟩
 have:=sizeE_gN g 15 (by decide) (by omega)
 omega
theorem fx_of {c:Cm} (h:checkP c=0):Fx c:=by
 unfold checkP at h
 split at h
 ·cases h
 ·rename_i hb
  split at h
  ·rename_i ho
   rw [Bool.not_eq_true] at hb
   unfold bigB at hb
   simp only [Bool.or_eq_false_iff,decide_eq_false_iff_not] at hb
   obtain ⟨b1,b2,b3,b4,b5⟩:=hb
   unfold okP listsG wheresG at ho
   simp only [Bool.and_eq_true,decide_eq_true_eq] at ho
   obtain ⟨o1,o2,o3,o4,o5,o6,⟨l1,l2,l3,l4,l5,l6,l7,l8⟩,⟨w1,w2,w3,w4⟩,o9⟩:=ho
   simp only [Bool.not_eq_true',List.any_eq_false] at l2 l4 l8
   have nb:∀ {s:ByteArray} {b:Bool},namedB s b=true→(b=true→nameB s=true)∧(b=false→s=.empty):=fun {s b} h=>by
    unfold namedB at h
    cases b with
    | true=>exact ⟨fun _=>(by simpa using h),fun h=>(by cases h)⟩
    | false=>exact ⟨fun h=>(by cases h),fun _=>empty_of (by simpa using h)⟩
   refine ⟨o1,o2,(nb o3).1,(nb o3).2,(nb o4).1,(nb o4).2,(nb o5).1,(nb o5).2,fun hk=>?_,fun hk=>?_,fun hk=>?_,fun hk=>?_,fun x hx=>?_,fun hk=>?_,fun hk=>?_,fun x hx=>?_,by simpa using l5,fun hk=>?_,fun hk=>?_,fun x hx=>?_,fun hk=>?_,fun hk=>?_,fun hk ha=>?_,fun hk=>?_,fun hk=>?_,?_,fun hk=>?_,fun hk=>?_,fun hk=>?_⟩
   ·unfold typeOk at o6
    rw [if_pos hk] at o6
    simpa using o6
   ·unfold typeOk at o6
    rw [if_neg (by rw [hk];decide)] at o6
    simpa using o6
   ·rw [hk] at l1
    intro he
    rw [he] at l1
    simp at l1
   ·have e1:(c.k==1)=false:=by simpa using hk
    rw [e1] at l1
    simp at l1
    exact l1
   ·have:=l2 x hx
    unfold badCol at this
    simp only [Bool.not_eq_true,Bool.or_eq_false_iff,Bool.not_eq_false',Bool.and_eq_true,decide_eq_true_eq] at this
    exact ⟨this.1,this.2.1,this.2.2⟩
   ·rw [hk] at l3
    intro he
    rw [he] at l3
    simp at l3
   ·have e1:(c.k==10)=false:=by simpa using hk
    rw [e1] at l3
    simp at l3
    exact l3
   ·have:=l4 x hx
    unfold badV at this
    simpa using this
   ·have e1:(c.k==3)=false:=by simpa using hk
    rw [e1,Bool.false_or] at l6
    exact (Vl.same_iff _ _).1 l6
   ·have e1:(c.k==13)=false:=by simpa using hk
    rw [e1,Bool.false_or] at l7
    exact List.length_eq_zero_iff.1 (by simpa using l7)
   ·have:=l8 x hx
    unfold badF at this
    simpa using this
   ·unfold exOk at o9
    rw [hk] at o9
    exact gx_of (by simpa using o9) b4
   ·unfold exOk at o9
    have e1:(c.k==12)=false:=by simpa using hk
    rw [e1] at o9
    exact zE_of (by simpa using o9)
   ·rw [if_pos ⟨hk,ha⟩] at w1
    exact gx_of w1 b5
   ·rw [if_neg (by
     rintro ⟨h1,h2⟩
     rcases hk with h | h
     ·rw [h] at h1;cases h1
     ·rw [h] at h2;cases h2)] at w1
    exact zE_of w1
   ·rw [hk,Bool.false_or] at w3
    simpa using w3
   ·rw [Bool.or_eq_true,Bool.and_eq_true] at w4
    rcases w4 with h | h
    ·exact .inl (empty_of h)
    ·exact .inr h.2
   ·have e1:(c.k==13)=false:=by simpa using hk
    rw [e1,Bool.false_and,Bool.or_false] at w4
    exact empty_of w4
   ·rw [hk] at w2
    simpa using w2
   ·have e1:(c.k==13)=false:=by simpa using hk
    rw [e1] at w2
    simpa using w2
  ·cases h
end Go.Proofs.YtjdgejfhnfnmgaaGreatDoor.Ax
namespace Go.Proofs.YtjdgejfhnfnmgaaGreatDoor.Ax
open Go.RowKit
set_option linter.unnecessarySimpa false
set_option linter.unusedVariables false
theorem one_at {l ws:List Vl} {k:Nat} {v:Vl} (h:AtT l k (v :: ws)) (L:List ByteArray):∀ i:Nat,oneP l k L i=oneP [v] 0 L i:=by
 induction L with
 | nil=>intro i;rfl
 | cons x L ih =>
  intro i
  unfold oneP
  rw [h.take,ih]
  rfl
theorem word_at {l ws:List Vl} {k:Nat} {v:Vl} (h:AtT l k (v :: ws)) (L:List ByteArray) (i:Int) (hi:oneP [v] 0 L 0=i) (hne:i ≠ -1):wordR l L k=.ok i (k + 1):=by
 unfold wordR
 rw [one_at h L 0,hi,decide_eq_false hne]
 rfl
def Back (c:Cm) (te tw:ByteArray):Prop:=∃ vs,Scans (cmdS c te tw) vs∧∀ l,AtT l 0 vs→l.length=vs.length→cmdR l=.ok c vs.length
theorem back_of {c:Cm} {te tw:ByteArray} (W:List (ByteArray × List Vl)) (hW:cmdS c te tw=textW (W.map (·.1))) (hP:∀ p ∈ W,Piece p.1.data.toList p.2) (hR:∀ l,AtT l 0 (W.flatMap (·.2))→l.length=(W.flatMap (·.2)).length→cmdR l=.ok c (W.flatMap (·.2)).length):Back c te tw :=
 ⟨_,by rw [hW];exact (piece_text hP).scans,hR⟩
theorem cmd_at {l ws:List Vl} {v:Vl} {c:Cm} {k:Nat} (h:AtT l 0 (v :: ws)) (i:Int) (hi:oneP [v] 0 wCmds 0=i) (hne:i ≠ -1) (hk:l.length=k) (hb:bodyR l i 1=.ok c k):cmdR l=.ok c k:=by
 unfold cmdR
 rw [word_at h wCmds i hi hne,ok_bind,hb,ok_bind,decide_eq_false (by omega)]
 rfl
abbrev wl (s:ByteArray):ByteArray × List Vl:=(s,[wd s])
theorem wl_name {s:ByteArray} (h:nameB s=true):Piece (wl s).1.data.toList (wl s).2:=Piece.word (name_tok h)
theorem pieces_nil:∀ p ∈ ([]:List (ByteArray × List Vl)),Piece p.1.data.toList p.2:=by intro p h;cases h
theorem pieces_cons {p:ByteArray × List Vl} {W:List (ByteArray × List Vl)} (h:Piece p.1.data.toList p.2) (hW:∀ p ∈ W,Piece p.1.data.toList p.2):∀ q ∈ p :: W,Piece q.1.data.toList q.2:=by
 intro q hq
 rcases List.mem_cons.1 hq with rfl | hq
 ·exact h
 ·exact hW q hq
theorem pieces_append {V W:List (ByteArray × List Vl)} (hV:∀ p ∈ V,Piece p.1.data.toList p.2) (hW:∀ p ∈ W,Piece p.1.data.toList p.2):∀ q ∈ V++W,Piece q.1.data.toList q.2:=by
 intro q hq
 rcases List.mem_append.1 hq with hq | hq
 ·exact hV q hq
 ·exact hW q hq
theorem must_at {l ws:List Vl} {k:Nat} {v:Vl} (hv:v.chk=0) (h:AtT l k (toksV v++ws)):mustR l k=.ok v (k + (toksV v).length):=by
 unfold mustR
 rw [(vP_val hv h).1]
theorem typ_at {l ws:List Vl} {k:Nat} {t:Int} (ht:1≤t∧t≤3) (h:AtT l k (wd (kindT t) :: ws)):typR l k=.ok t (k + 1):=by
 unfold typR
 obtain rfl | rfl | rfl:t=1 ∨ t=2 ∨ t=3:=by omega
 ·rw [word_at h _ 0 (by kernel_rfl) (by decide),ok_bind];rfl
 ·rw [word_at h _ 1 (by kernel_rfl) (by decide),ok_bind];rfl
 ·rw [word_at h _ 2 (by kernel_rfl) (by decide),ok_bind];rfl
theorem wl_kind {t:Int} (ht:1≤t∧t≤3):Piece (wl (kindT t)).1.data.toList (wl (kindT t)).2:=by
 obtain rfl | rfl | rfl:t=1 ∨ t=2 ∨ t=3:=by omega
 ·exact Piece.word (by kernel_rfl)
 ·exact Piece.word (by kernel_rfl)
 ·exact Piece.word (by kernel_rfl)
theorem col_piece {x:Col} (h:nameB x.name=true∧1≤x.ty∧x.ty≤3):Piece (colT x).data.toList [wd x.name,wd (kindT x.ty)]:=by
 have:=(wl_name h.1).two (wl_kind h.2)
 unfold colT
 simpa [ByteArray.data_append] using this
theorem col_at {l ws:List Vl} {k:Nat} {x:Col} (hx:nameB x.name=true∧1≤x.ty∧x.ty≤3) (h:AtT l k ([wd x.name,wd (kindT x.ty)]++ws)):colR l k=.ok x (k + 2):=by
 have h:AtT l k (wd x.name :: wd (kindT x.ty) :: ws):=h
 unfold colR
 rw [h.nameR hx.1,ok_bind,typ_at hx.2 h.tail,ok_bind]
theorem where_none {l:List Vl} {k:Nat} (h:takeB l ⟨#[119,104,101,114,101]⟩ k=false):whereR l k=.ok (true,zE) k:=by
 unfold whereR
 rw [h]
 rfl
theorem where_some {l ws:List Vl} {k:Nat} {g:Gx} (hg:g.ok) (hn:gN g≤15) (h:AtT l k (wd ⟨#[119,104,101,114,101]⟩ :: (toksG g++ws))):whereR l k=.ok (false,g.ex) (k + 1 + (toksG g).length):=by
 unfold whereR
 rw [h.take,show strEq (wd ⟨#[119,104,101,114,101]⟩).s ⟨#[119,104,101,114,101]⟩=true by kernel_rfl,cond_true,exR_gx g hg 60 _ ws (by omega) h.tail,ok_bind]
theorem back2 (c:Cm) (f:Fx c) (hk:c.k=2) (te tw:ByteArray) (ht:TextIs c te tw):Back c te tw:=by
 obtain ⟨k,name,other,column,cols,ty,v,vals,fields,ex,all,wh,order,limit⟩:=c
 obtain rfl:k=2:=hk
 obtain rfl:other=.empty:=f.other0 rfl
 obtain rfl:column=.empty:=f.column0 rfl
 obtain rfl:cols=[]:=f.cols0 (by dsimp only;decide)
 obtain rfl:ty=0:=f.ty0 rfl
 obtain rfl:v=Vl.zero:=f.v0 (by dsimp only;decide)
 obtain rfl:vals=[]:=f.vals0 (by dsimp only;decide)
 obtain rfl:fields=[]:=f.fields0 (by dsimp only;decide)
 obtain rfl:ex=zE:=f.ex0 (by dsimp only;decide)
 obtain rfl:all=false:=f.all0 rfl
 obtain rfl:wh=zE:=f.wh0 (.inl rfl)
 obtain rfl:order=.empty:=f.order0 (by dsimp only;decide)
 obtain rfl:limit=0:=f.limit0 (by dsimp only;decide)
 have n1:nameB name=true:=f.name rfl
 refine back_of [wl ⟨#[100,114,111,112]⟩,wl ⟨#[116,97,98,108,101]⟩,wl name] ?_ (pieces_cons (Piece.word (by kernel_rfl)) (pieces_cons (Piece.word (by kernel_rfl)) (pieces_cons (wl_name n1) pieces_nil))) ?_
 ·rfl
 ·intro l h hl
  have h:AtT l 0 (wd ⟨#[100,114,111,112]⟩ :: wd ⟨#[116,97,98,108,101]⟩ :: wd name :: []):=h
  have h1:=h.tail
  have h2:=h1.tail
  refine cmd_at h 1 (by kernel_rfl) (by decide) hl ?_
  show dropR l 1=_
  unfold dropR
  rw [word_at h1 _ 0 (by kernel_rfl) (by decide),ok_bind,h2.nameR n1,ok_bind]
  rfl
theorem back9 (c:Cm) (f:Fx c) (hk:c.k=9) (te tw:ByteArray) (ht:TextIs c te tw):Back c te tw:=by
 obtain ⟨k,name,other,column,cols,ty,v,vals,fields,ex,all,wh,order,limit⟩:=c
 obtain rfl:k=9:=hk
 obtain rfl:other=.empty:=f.other0 rfl
 obtain rfl:column=.empty:=f.column0 rfl
 obtain rfl:cols=[]:=f.cols0 (by dsimp only;decide)
 obtain rfl:ty=0:=f.ty0 rfl
 obtain rfl:v=Vl.zero:=f.v0 (by dsimp only;decide)
 obtain rfl:vals=[]:=f.vals0 (by dsimp only;decide)
 obtain rfl:fields=[]:=f.fields0 (by dsimp only;decide)
 obtain rfl:ex=zE:=f.ex0 (by dsimp only;decide)
 obtain rfl:all=false:=f.all0 rfl
 obtain rfl:wh=zE:=f.wh0 (.inl rfl)
 obtain rfl:order=.empty:=f.order0 (by dsimp only;decide)
 obtain rfl:limit=0:=f.limit0 (by dsimp only;decide)
 have n1:nameB name=true:=f.name rfl
 refine back_of [wl ⟨#[100,114,111,112]⟩,wl ⟨#[105,110,100,101,120]⟩,wl name] ?_ (pieces_cons (Piece.word (by kernel_rfl)) (pieces_cons (Piece.word (by kernel_rfl)) (pieces_cons (wl_name n1) pieces_nil))) ?_
 ·rfl
 ·intro l h hl
  have h:AtT l 0 (wd ⟨#[100,114,111,112]⟩ :: wd ⟨#[105,110,100,101,120]⟩ :: wd name :: []):=h
  have h1:=h.tail
  have h2:=h1.tail
  refine cmd_at h 1 (by kernel_rfl) (by decide) hl ?_
  show dropR l 1=_
  unfold dropR
  rw [word_at h1 _ 1 (by kernel_rfl) (by decide),ok_bind,h2.nameR n1,ok_bind]
  rfl
theorem back4 (c:Cm) (f:Fx c) (hk:c.k=4) (te tw:ByteArray) (ht:TextIs c te tw):Back c te tw:=by
 obtain ⟨k,name,other,column,cols,ty,v,vals,fields,ex,all,wh,order,limit⟩:=c
 obtain rfl:k=4:=hk
 obtain rfl:other=.empty:=f.other0 rfl
 obtain rfl:cols=[]:=f.cols0 (by dsimp only;decide)
 obtain rfl:ty=0:=f.ty0 rfl
 obtain rfl:v=Vl.zero:=f.v0 (by dsimp only;decide)
 obtain rfl:vals=[]:=f.vals0 (by dsimp only;decide)
 obtain rfl:fields=[]:=f.fields0 (by dsimp only;decide)
 obtain rfl:ex=zE:=f.ex0 (by dsimp only;decide)
 obtain rfl:all=false:=f.all0 rfl
 obtain rfl:wh=zE:=f.wh0 (.inl rfl)
 obtain rfl:order=.empty:=f.order0 (by dsimp only;decide)
 obtain rfl:limit=0:=f.limit0 (by dsimp only;decide)
 have n1:nameB name=true:=f.name rfl
 have n3:nameB column=true:=f.column rfl
 refine back_of [wl ⟨#[97,108,116,101,114]⟩,wl ⟨#[116,97,98,108,101]⟩,wl name,wl ⟨#[100,114,111,112]⟩,wl column] ?_ (pieces_cons (Piece.word (by kernel_rfl)) (pieces_cons (Piece.word (by kernel_rfl)) (pieces_cons (wl_name n1) (pieces_cons (Piece.word (by kernel_rfl)) (pieces_cons (wl_name n3) pieces_nil))))) ?_
 ·show textW _++wordsT _=_
  rw [← textW_append (by simp)]
  rfl
 ·intro l h hl
  have h:AtT l 0 (wd ⟨#[97,108,116,101,114]⟩ :: wd ⟨#[116,97,98,108,101]⟩ :: wd name :: wd ⟨#[100,114,111,112]⟩ :: wd column :: []):=h
  have h1:=h.tail
  have h2:=h1.tail
  have h3:=h2.tail
  have h4:=h3.tail
  refine cmd_at h 2 (by kernel_rfl) (by decide) hl ?_
  show alterR l 1=_
  unfold alterR
  rw [h1.need rfl,ok_bind,h2.nameR n1,ok_bind,word_at h3 _ 1 (by kernel_rfl) (by decide),ok_bind]
  show PR.bind _ _=_
  rw [h4.nameR n3,ok_bind]
  rfl
theorem back5 (c:Cm) (f:Fx c) (hk:c.k=5) (te tw:ByteArray) (ht:TextIs c te tw):Back c te tw:=by
 obtain ⟨k,name,other,column,cols,ty,v,vals,fields,ex,all,wh,order,limit⟩:=c
 obtain rfl:k=5:=hk
 obtain rfl:cols=[]:=f.cols0 (by dsimp only;decide)
 obtain rfl:ty=0:=f.ty0 rfl
 obtain rfl:v=Vl.zero:=f.v0 (by dsimp only;decide)
 obtain rfl:vals=[]:=f.vals0 (by dsimp only;decide)
 obtain rfl:fields=[]:=f.fields0 (by dsimp only;decide)
 obtain rfl:ex=zE:=f.ex0 (by dsimp only;decide)
 obtain rfl:all=false:=f.all0 rfl
 obtain rfl:wh=zE:=f.wh0 (.inl rfl)
 obtain rfl:order=.empty:=f.order0 (by dsimp only;decide)
 obtain rfl:limit=0:=f.limit0 (by dsimp only;decide)
 have n1:nameB name=true:=f.name rfl
 have n2:nameB other=true:=f.other rfl
 have n3:nameB column=true:=f.column rfl
 refine back_of [wl ⟨#[97,108,116,101,114]⟩,wl ⟨#[116,97,98,108,101]⟩,wl name,wl ⟨#[114,101,110,97,109,101]⟩,wl column,wl ⟨#[116,111]⟩,wl other] ?_ (pieces_cons (Piece.word (by kernel_rfl)) (pieces_cons (Piece.word (by kernel_rfl)) (pieces_cons (wl_name n1) (pieces_cons (Piece.word (by kernel_rfl)) (pieces_cons (wl_name n3) (pieces_cons (Piece.word (by kernel_rfl)) (pieces_cons (wl_name n2) pieces_nil))))))) ?_
 ·show textW _++wordsT _=_
  rw [← textW_append (by simp)]
  rfl
 ·intro l h hl
  have h:AtT l 0 (wd ⟨#[97,108,116,101,114]⟩ :: wd ⟨#[116,97,98,108,101]⟩ :: wd name :: wd ⟨#[114,101,110,97,109,101]⟩ :: wd column :: wd ⟨#[116,111]⟩ :: wd other :: []):=h
  have h1:=h.tail
  have h2:=h1.tail
  have h3:=h2.tail
  have h4:=h3.tail
  have h5:=h4.tail
  have h6:=h5.tail
  refine cmd_at h 2 (by kernel_rfl) (by decide) hl ?_
  show alterR l 1=_
  unfold alterR
  rw [h1.need rfl,ok_bind,h2.nameR n1,ok_bind,word_at h3 _ 2 (by kernel_rfl) (by decide),ok_bind]
  show (bif takeB l ⟨#[116,111]⟩ 4 then _ else _)=_
  rw [h4.take,ne_word n3 (by kernel_rfl),cond_false,h4.nameR n3,ok_bind,h5.need rfl,ok_bind,h6.nameR n2,ok_bind]
  rfl
theorem back6 (c:Cm) (f:Fx c) (hk:c.k=6) (te tw:ByteArray) (ht:TextIs c te tw):Back c te tw:=by
 obtain ⟨k,name,other,column,cols,ty,v,vals,fields,ex,all,wh,order,limit⟩:=c
 obtain rfl:k=6:=hk
 obtain rfl:other=.empty:=f.other0 rfl
 obtain rfl:cols=[]:=f.cols0 (by dsimp only;decide)
 obtain rfl:v=Vl.zero:=f.v0 (by dsimp only;decide)
 obtain rfl:vals=[]:=f.vals0 (by dsimp only;decide)
 obtain rfl:fields=[]:=f.fields0 (by dsimp only;decide)
 obtain rfl:ex=zE:=f.ex0 (by dsimp only;decide)
 obtain rfl:all=false:=f.all0 rfl
 obtain rfl:wh=zE:=f.wh0 (.inl rfl)
 obtain rfl:order=.empty:=f.order0 (by dsimp only;decide)
 obtain rfl:limit=0:=f.limit0 (by dsimp only;decide)
 have n1:nameB name=true:=f.name rfl
 have n3:nameB column=true:=f.column rfl
 have n4:1≤ty∧ty≤3:=f.ty rfl
 refine back_of [wl ⟨#[97,108,116,101,114]⟩,wl ⟨#[116,97,98,108,101]⟩,wl name,wl ⟨#[114,101,116,121,112,101]⟩,wl column,wl (kindT ty)] ?_ (pieces_cons (Piece.word (by kernel_rfl)) (pieces_cons (Piece.word (by kernel_rfl)) (pieces_cons (wl_name n1) (pieces_cons (Piece.word (by kernel_rfl)) (pieces_cons (wl_name n3) (pieces_cons (wl_kind n4) pieces_nil)))))) ?_
 ·show textW _++wordsT _=_
  rw [← textW_append (by simp)]
  rfl
 ·intro l h hl
  have h:AtT l 0 (wd ⟨#[97,108,116,101,114]⟩ :: wd ⟨#[116,97,98,108,101]⟩ :: wd name :: wd ⟨#[114,101,116,121,112,101]⟩ :: wd column :: wd (kindT ty) :: []):=h
  have h1:=h.tail
  have h2:=h1.tail
  have h3:=h2.tail
  have h4:=h3.tail
  have h5:=h4.tail
  refine cmd_at h 2 (by kernel_rfl) (by decide) hl ?_
  show alterR l 1=_
  unfold alterR
  rw [h1.need rfl,ok_bind,h2.nameR n1,ok_bind,word_at h3 _ 3 (by kernel_rfl) (by decide),ok_bind]
  show PR.bind _ _=_
  rw [h4.nameR n3,ok_bind,typ_at n4 h5,ok_bind]
  rfl
theorem back7 (c:Cm) (f:Fx c) (hk:c.k=7) (te tw:ByteArray) (ht:TextIs c te tw):Back c te tw:=by
 obtain ⟨k,name,other,column,cols,ty,v,vals,fields,ex,all,wh,order,limit⟩:=c
 obtain rfl:k=7:=hk
 obtain rfl:column=.empty:=f.column0 rfl
 obtain rfl:cols=[]:=f.cols0 (by dsimp only;decide)
 obtain rfl:ty=0:=f.ty0 rfl
 obtain rfl:v=Vl.zero:=f.v0 (by dsimp only;decide)
 obtain rfl:vals=[]:=f.vals0 (by dsimp only;decide)
 obtain rfl:fields=[]:=f.fields0 (by dsimp only;decide)
 obtain rfl:ex=zE:=f.ex0 (by dsimp only;decide)
 obtain rfl:all=false:=f.all0 rfl
 obtain rfl:wh=zE:=f.wh0 (.inl rfl)
 obtain rfl:order=.empty:=f.order0 (by dsimp only;decide)
 obtain rfl:limit=0:=f.limit0 (by dsimp only;decide)
 have n1:nameB name=true:=f.name rfl
 have n2:nameB other=true:=f.other rfl
 refine back_of [wl ⟨#[97,108,116,101,114]⟩,wl ⟨#[116,97,98,108,101]⟩,wl name,wl ⟨#[114,101,110,97,109,101]⟩,wl ⟨#[116,111]⟩,wl other] ?_ (pieces_cons (Piece.word (by kernel_rfl)) (pieces_cons (Piece.word (by kernel_rfl)) (pieces_cons (wl_name n1) (pieces_cons (Piece.word (by kernel_rfl)) (pieces_cons (Piece.word (by kernel_rfl)) (pieces_cons (wl_name n2) pieces_nil)))))) ?_
 ·show textW _++wordsT _=_
  rw [← textW_append (by simp)]
  rfl
 ·intro l h hl
  have h:AtT l 0 (wd ⟨#[97,108,116,101,114]⟩ :: wd ⟨#[116,97,98,108,101]⟩ :: wd name :: wd ⟨#[114,101,110,97,109,101]⟩ :: wd ⟨#[116,111]⟩ :: wd other :: []):=h
  have h1:=h.tail
  have h2:=h1.tail
  have h3:=h2.tail
  have h4:=h3.tail
  have h5:=h4.tail
  refine cmd_at h 2 (by kernel_rfl) (by decide) hl ?_
  show alterR l 1=_
  unfold alterR
  rw [h1.need rfl,ok_bind,h2.nameR n1,ok_bind,word_at h3 _ 2 (by kernel_rfl) (by decide),ok_bind]
  show (bif takeB l ⟨#[116,111]⟩ 4 then _ else _)=_
  rw [h4.take,show strEq (wd ⟨#[116,111]⟩).s ⟨#[116,111]⟩=true by kernel_rfl,cond_true,h5.nameR n2,ok_bind]
  rfl
theorem back14 (c:Cm) (f:Fx c) (hk:c.k=14) (te tw:ByteArray) (ht:TextIs c te tw):Back c te tw:=by
 obtain ⟨k,name,other,column,cols,ty,v,vals,fields,ex,all,wh,order,limit⟩:=c
 obtain rfl:k=14:=hk
 obtain rfl:name=.empty:=f.name0 rfl
 obtain rfl:other=.empty:=f.other0 rfl
 obtain rfl:column=.empty:=f.column0 rfl
 obtain rfl:cols=[]:=f.cols0 (by dsimp only;decide)
 obtain rfl:ty=0:=f.ty0 rfl
 obtain rfl:v=Vl.zero:=f.v0 (by dsimp only;decide)
 obtain rfl:vals=[]:=f.vals0 (by dsimp only;decide)
 obtain rfl:fields=[]:=f.fields0 (by dsimp only;decide)
 obtain rfl:ex=zE:=f.ex0 (by dsimp only;decide)
 obtain rfl:all=false:=f.all0 rfl
 obtain rfl:wh=zE:=f.wh0 (.inl rfl)
 obtain rfl:order=.empty:=f.order0 (by dsimp only;decide)
 obtain rfl:limit=0:=f.limit0 (by dsimp only;decide)
 refine back_of [wl ⟨#[98,101,103,105,110]⟩] ?_ (pieces_cons (Piece.word (by kernel_rfl)) pieces_nil) ?_
 ·rfl
 ·intro l h hl
  have h:AtT l 0 (wd ⟨#[98,101,103,105,110]⟩ :: []):=h
  refine cmd_at h 7 (by kernel_rfl) (by decide) hl ?_
  rfl
theorem back15 (c:Cm) (f:Fx c) (hk:c.k=15) (te tw:ByteArray) (ht:TextIs c te tw):Back c te tw:=by
 obtain ⟨k,name,other,column,cols,ty,v,vals,fields,ex,all,wh,order,limit⟩:=c
 obtain rfl:k=15:=hk
 obtain rfl:name=.empty:=f.name0 rfl
 obtain rfl:other=.empty:=f.other0 rfl
 obtain rfl:column=.empty:=f.column0 rfl
 obtain rfl:cols=[]:=f.cols0 (by dsimp only;decide)
 obtain rfl:ty=0:=f.ty0 rfl
 obtain rfl:v=Vl.zero:=f.v0 (by dsimp only;decide)
 obtain rfl:vals=[]:=f.vals0 (by dsimp only;decide)
 obtain rfl:fields=[]:=f.fields0 (by dsimp only;decide)
 obtain rfl:ex=zE:=f.ex0 (by dsimp only;decide)
 obtain rfl:all=false:=f.all0 rfl
 obtain rfl:wh=zE:=f.wh0 (.inl rfl)
 obtain rfl:order=.empty:=f.order0 (by dsimp only;decide)
 obtain rfl:limit=0:=f.limit0 (by dsimp only;decide)
 refine back_of [wl ⟨#[99,111,109,109,105,116]⟩] ?_ (pieces_cons (Piece.word (by kernel_rfl)) pieces_nil) ?_
 ·rfl
 ·intro l h hl
  have h:AtT l 0 (wd ⟨#[99,111,109,109,105,116]⟩ :: []):=h
  refine cmd_at h 8 (by kernel_rfl) (by decide) hl ?_
  rfl
theorem back16 (c:Cm) (f:Fx c) (hk:c.k=16) (te tw:ByteArray) (ht:TextIs c te tw):Back c te tw:=by
 obtain ⟨k,name,other,column,cols,ty,v,vals,fields,ex,all,wh,order,limit⟩:=c
 obtain rfl:k=16:=hk
 obtain rfl:name=.empty:=f.name0 rfl
 obtain rfl:other=.empty:=f.other0 rfl
 obtain rfl:column=.empty:=f.column0 rfl
 obtain rfl:cols=[]:=f.cols0 (by dsimp only;decide)
 obtain rfl:ty=0:=f.ty0 rfl
 obtain rfl:v=Vl.zero:=f.v0 (by dsimp only;decide)
 obtain rfl:vals=[]:=f.vals0 (by dsimp only;decide)
 obtain rfl:fields=[]:=f.fields0 (by dsimp only;decide)
 obtain rfl:ex=zE:=f.ex0 (by dsimp only;decide)
 obtain rfl:all=false:=f.all0 rfl
 obtain rfl:wh=zE:=f.wh0 (.inl rfl)
 obtain rfl:order=.empty:=f.order0 (by dsimp only;decide)
 obtain rfl:limit=0:=f.limit0 (by dsimp only;decide)
 refine back_of [wl ⟨#[114,111,108,108,98,97,99,107]⟩] ?_ (pieces_cons (Piece.word (by kernel_rfl)) pieces_nil) ?_
 ·rfl
 ·intro l h hl
  have h:AtT l 0 (wd ⟨#[114,111,108,108,98,97,99,107]⟩ :: []):=h
  refine cmd_at h 9 (by kernel_rfl) (by decide) hl ?_
  rfl
theorem back3 (c:Cm) (f:Fx c) (hk:c.k=3) (te tw:ByteArray) (ht:TextIs c te tw):Back c te tw:=by
 obtain ⟨k,name,other,column,cols,ty,v,vals,fields,ex,all,wh,order,limit⟩:=c
 obtain rfl:k=3:=hk
 obtain rfl:other=.empty:=f.other0 rfl
 obtain rfl:cols=[]:=f.cols0 (by dsimp only;decide)
 obtain rfl:vals=[]:=f.vals0 (by dsimp only;decide)
 obtain rfl:fields=[]:=f.fields0 (by dsimp only;decide)
 obtain rfl:ex=zE:=f.ex0 (by dsimp only;decide)
 obtain rfl:all=false:=f.all0 rfl
 obtain rfl:wh=zE:=f.wh0 (.inl rfl)
 obtain rfl:order=.empty:=f.order0 (by dsimp only;decide)
 obtain rfl:limit=0:=f.limit0 (by dsimp only;decide)
 have n1:nameB name=true:=f.name rfl
 have n3:nameB column=true:=f.column rfl
 have n4:1≤ty∧ty≤3:=f.ty rfl
 refine back_of [wl ⟨#[97,108,116,101,114]⟩,wl ⟨#[116,97,98,108,101]⟩,wl name,wl ⟨#[97,100,100]⟩,wl column,wl (kindT ty),wl ⟨#[100,101,102,97,117,108,116]⟩,(valT v,toksV v)] ?_ (pieces_cons (Piece.word (by kernel_rfl)) (pieces_cons (Piece.word (by kernel_rfl)) (pieces_cons (wl_name n1) (pieces_cons (Piece.word (by kernel_rfl)) (pieces_cons (wl_name n3) (pieces_cons (wl_kind n4) (pieces_cons (Piece.word (by kernel_rfl)) (pieces_cons (piece_val f.v) pieces_nil)))))))) ?_
 ·show textW _++wordsT _=_
  rw [← textW_append (by simp)]
  rfl
 ·intro l h hl
  have h:AtT l 0 (wd ⟨#[97,108,116,101,114]⟩ :: wd ⟨#[116,97,98,108,101]⟩ :: wd name :: wd ⟨#[97,100,100]⟩ :: wd column :: wd (kindT ty) :: wd ⟨#[100,101,102,97,117,108,116]⟩ :: (toksV v++[])):=h
  have h1:=h.tail
  have h2:=h1.tail
  have h3:=h2.tail
  have h4:=h3.tail
  have h5:=h4.tail
  have h6:=h5.tail
  have h7:=h6.tail
  refine cmd_at h 2 (by kernel_rfl) (by decide) hl ?_
  show alterR l 1=_
  unfold alterR
  rw [h1.need rfl,ok_bind,h2.nameR n1,ok_bind,word_at h3 _ 0 (by kernel_rfl) (by decide),ok_bind]
  show PR.bind (colR l 4) _=_
  have hc:colR l 4=.ok ⟨column,ty⟩ 6:=by
   unfold colR
   rw [h4.nameR n3,ok_bind,typ_at n4 h5,ok_bind]
  rw [hc,ok_bind,h6.need rfl,ok_bind,must_at f.v h7,ok_bind]
  show PR.ok _ _=PR.ok _ _
  congr 1
  simp only [List.flatMap_cons,List.flatMap_nil,List.length_append,List.length_cons,List.length_nil]
  omega
theorem back8 (c:Cm) (f:Fx c) (hk:c.k=8) (te tw:ByteArray) (ht:TextIs c te tw):Back c te tw:=by
 obtain ⟨k,name,other,column,cols,ty,v,vals,fields,ex,all,wh,order,limit⟩:=c
 obtain rfl:k=8:=hk
 obtain rfl:cols=[]:=f.cols0 (by dsimp only;decide)
 obtain rfl:ty=0:=f.ty0 rfl
 obtain rfl:v=Vl.zero:=f.v0 (by dsimp only;decide)
 obtain rfl:vals=[]:=f.vals0 (by dsimp only;decide)
 obtain rfl:fields=[]:=f.fields0 (by dsimp only;decide)
 obtain rfl:ex=zE:=f.ex0 (by dsimp only;decide)
 obtain rfl:all=false:=f.all0 rfl
 obtain rfl:wh=zE:=f.wh0 (.inl rfl)
 obtain rfl:order=.empty:=f.order0 (by dsimp only;decide)
 obtain rfl:limit=0:=f.limit0 (by dsimp only;decide)
 have n1:nameB name=true:=f.name rfl
 have n2:nameB other=true:=f.other rfl
 have n3:nameB column=true:=f.column rfl
 refine back_of [wl ⟨#[99,114,101,97,116,101]⟩,wl ⟨#[105,110,100,101,120]⟩,wl name,wl ⟨#[111,110]⟩,wl other,(bracT column,[sg wOpen,wd column,sg wShut])] ?_ (pieces_cons (Piece.word (by kernel_rfl)) (pieces_cons (Piece.word (by kernel_rfl)) (pieces_cons (wl_name n1) (pieces_cons (Piece.word (by kernel_rfl)) (pieces_cons (wl_name n2) (pieces_cons (piece_brac (wl_name n3)) pieces_nil)))))) ?_
 ·rfl
 ·intro l h hl
  have h:AtT l 0 (wd ⟨#[99,114,101,97,116,101]⟩ :: wd ⟨#[105,110,100,101,120]⟩ :: wd name :: wd ⟨#[111,110]⟩ :: wd other :: sg wOpen :: wd column :: sg wShut :: []):=h
  have h1:=h.tail
  have h2:=h1.tail
  have h3:=h2.tail
  have h4:=h3.tail
  have h5:=h4.tail
  have h6:=h5.tail
  have h7:=h6.tail
  refine cmd_at h 0 (by kernel_rfl) (by decide) hl ?_
  show createR l 1=_
  unfold createR
  rw [word_at h1 _ 1 (by kernel_rfl) (by decide),ok_bind,h2.nameR n1,ok_bind]
  show PR.bind _ _=_
  rw [h3.need rfl,ok_bind,h4.nameR n2,ok_bind,h5.need rfl,ok_bind,h6.nameR n3,ok_bind,h7.need rfl,ok_bind]
  rfl
theorem back1 (c:Cm) (f:Fx c) (hk:c.k=1) (te tw:ByteArray) (ht:TextIs c te tw):Back c te tw:=by
 obtain ⟨k,name,other,column,cols,ty,v,vals,fields,ex,all,wh,order,limit⟩:=c
 obtain rfl:k=1:=hk
 obtain rfl:other=.empty:=f.other0 rfl
 obtain rfl:column=.empty:=f.column0 rfl
 obtain rfl:ty=0:=f.ty0 rfl
 obtain rfl:v=Vl.zero:=f.v0 (by dsimp only;decide)
 obtain rfl:vals=[]:=f.vals0 (by dsimp only;decide)
 obtain rfl:fields=[]:=f.fields0 (by dsimp only;decide)
 obtain rfl:ex=zE:=f.ex0 (by dsimp only;decide)
 obtain rfl:all=false:=f.all0 rfl
 obtain rfl:wh=zE:=f.wh0 (.inl rfl)
 obtain rfl:order=.empty:=f.order0 (by dsimp only;decide)
 obtain rfl:limit=0:=f.limit0 (by dsimp only;decide)
 have n1:nameB name=true:=f.name rfl
 have hne:(cols.map fun x=>(x,[wd x.name,wd (kindT x.ty)])) ≠ []:=by
  intro he
  exact f.cols rfl (List.map_eq_nil_iff.1 he)
 have hne2:(cols.map fun x=>(colT x,[wd x.name,wd (kindT x.ty)])) ≠ []:=by
  intro he
  exact f.cols rfl (List.map_eq_nil_iff.1 he)
 have hp:=piece_list hne2 (by
  intro p hp
  obtain ⟨x,hx,rfl⟩:=List.mem_map.1 hp
  exact col_piece (f.colOk x hx))
 have e1:(cols.map fun x=>(colT x,[wd x.name,wd (kindT x.ty)])).map (·.1)=cols.map colT:=by rw [List.map_map];rfl
 have e2:(cols.map fun x=>(colT x,[wd x.name,wd (kindT x.ty)])).map (·.2)=(cols.map fun x=>(x,[wd x.name,wd (kindT x.ty)])).map (·.2):=by rw [List.map_map,List.map_map];rfl
 have e3:(cols.map fun x=>(x,[wd x.name,wd (kindT x.ty)])).map (·.1)=cols:=by rw [List.map_map];exact List.map_id _
 rw [e1,e2] at hp
 refine back_of [wl ⟨#[99,114,101,97,116,101]⟩,wl ⟨#[116,97,98,108,101]⟩,wl name,(listT (cols.map colT),sg wOpen :: (toksC ((cols.map fun x=>(x,[wd x.name,wd (kindT x.ty)])).map (·.2))++[sg wShut]))] ?_ (pieces_cons (Piece.word (by kernel_rfl)) (pieces_cons (Piece.word (by kernel_rfl)) (pieces_cons (wl_name n1) (pieces_cons hp pieces_nil)))) ?_
 ·rfl
 ·intro l h hl
  have h:AtT l 0 (wd ⟨#[99,114,101,97,116,101]⟩ :: wd ⟨#[116,97,98,108,101]⟩ :: wd name :: ((sg wOpen :: (toksC ((cols.map fun x=>(x,[wd x.name,wd (kindT x.ty)])).map (·.2))++[sg wShut]))++[])):=h
  have h1:=h.tail
  have h2:=h1.tail
  have h3:=h2.tail
  rw [List.append_nil] at h3
  have hL:=list_back (l:=l) (E:=colR l) hne (by
   intro p hp k ws hk
   obtain ⟨x,hx,rfl⟩:=List.mem_map.1 hp
   exact col_at (f.colOk x hx) hk) h3
  rw [e3] at hL
  refine cmd_at h 0 (by kernel_rfl) (by decide) hl ?_
  show createR l 1=_
  unfold createR
  rw [word_at h1 _ 0 (by kernel_rfl) (by decide),ok_bind,h2.nameR n1,ok_bind]
  show PR.bind _ _=_
  rw [hL,ok_bind]
  show PR.ok _ _=PR.ok _ _
  congr 1
  simp only [List.flatMap_cons,List.flatMap_nil,List.length_append,List.length_cons,List.length_nil]
  omega
theorem back10 (c:Cm) (f:Fx c) (hk:c.k=10) (te tw:ByteArray) (ht:TextIs c te tw):Back c te tw:=by
 obtain ⟨k,name,other,column,cols,ty,v,vals,fields,ex,all,wh,order,limit⟩:=c
 obtain rfl:k=10:=hk
 obtain rfl:other=.empty:=f.other0 rfl
 obtain rfl:column=.empty:=f.column0 rfl
 obtain rfl:cols=[]:=f.cols0 (by dsimp only;decide)
 obtain rfl:ty=0:=f.ty0 rfl
 obtain rfl:v=Vl.zero:=f.v0 (by dsimp only;decide)
 obtain rfl:fields=[]:=f.fields0 (by dsimp only;decide)
 obtain rfl:ex=zE:=f.ex0 (by dsimp only;decide)
 obtain rfl:all=false:=f.all0 rfl
 obtain rfl:wh=zE:=f.wh0 (.inl rfl)
 obtain rfl:order=.empty:=f.order0 (by dsimp only;decide)
 obtain rfl:limit=0:=f.limit0 (by dsimp only;decide)
 have n1:nameB name=true:=f.name rfl
 have hne:(vals.map fun x=>(x,toksV x)) ≠ []:=by
  intro he
  exact f.vals rfl (List.map_eq_nil_iff.1 he)
 have hne2:(vals.map fun x=>(valT x,toksV x)) ≠ []:=by
  intro he
  exact f.vals rfl (List.map_eq_nil_iff.1 he)
 have hp:=piece_list hne2 (by
  intro p hp
  obtain ⟨x,hx,rfl⟩:=List.mem_map.1 hp
  exact piece_val (f.valOk x hx))
 have e1:(vals.map fun x=>(valT x,toksV x)).map (·.1)=vals.map valT:=by rw [List.map_map];rfl
 have e2:(vals.map fun x=>(valT x,toksV x)).map (·.2)=(vals.map fun x=>(x,toksV x)).map (·.2):=by rw [List.map_map,List.map_map];rfl
 have e3:(vals.map fun x=>(x,toksV x)).map (·.1)=vals:=by rw [List.map_map];exact List.map_id _
 rw [e1,e2] at hp
 refine back_of [wl ⟨#[105,110,115,101,114,116]⟩,wl ⟨#[105,110,116,111]⟩,wl name,wl ⟨#[118,97,108,117,101,115]⟩,(listT (vals.map valT),sg wOpen :: (toksC ((vals.map fun x=>(x,toksV x)).map (·.2))++[sg wShut]))] ?_ (pieces_cons (Piece.word (by kernel_rfl)) (pieces_cons (Piece.word (by kernel_rfl)) (pieces_cons (wl_name n1) (pieces_cons (Piece.word (by kernel_rfl)) (pieces_cons hp pieces_nil))))) ?_
 ·rfl
 ·intro l h hl
  have h:AtT l 0 (wd ⟨#[105,110,115,101,114,116]⟩ :: wd ⟨#[105,110,116,111]⟩ :: wd name :: wd ⟨#[118,97,108,117,101,115]⟩ :: ((sg wOpen :: (toksC ((vals.map fun x=>(x,toksV x)).map (·.2))++[sg wShut]))++[])):=h
  have h1:=h.tail
  have h2:=h1.tail
  have h3:=h2.tail
  have h4:=h3.tail
  rw [List.append_nil] at h4
  have hL:=list_back (l:=l) (E:=mustR l) hne (by
   intro p hp k ws hk
   obtain ⟨x,hx,rfl⟩:=List.mem_map.1 hp
   exact must_at (f.valOk x hx) hk) h4
  rw [e3] at hL
  refine cmd_at h 3 (by kernel_rfl) (by decide) hl ?_
  show insertR l 1=_
  unfold insertR
  rw [h1.need rfl,ok_bind,h2.nameR n1,ok_bind,h3.need rfl,ok_bind,hL,ok_bind]
  show PR.ok _ _=PR.ok _ _
  congr 1
  simp only [List.flatMap_cons,List.flatMap_nil,List.length_append,List.length_cons,List.length_nil]
  omega
end Go.Proofs.YtjdgejfhnfnmgaaGreatDoor.Ax
