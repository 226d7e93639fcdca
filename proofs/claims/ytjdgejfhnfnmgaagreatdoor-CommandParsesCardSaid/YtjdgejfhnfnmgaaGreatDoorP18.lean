/-  -/
import Derived.Test.YtjdgejfhnfnmgaaGreatDoorP17
namespace Go.Proofs.YtjdgejfhnfnmgaaGreatDoor
open Go.RowKit
theorem dash_quo {u:ByteArray} (h:strEq u ⟨#[45]⟩=true):quoF u=false:=by
 rw [strEq_iff.1 h];rfl
theorem vP_tx {l:List Vl} (hl:GoodL l) (k:Nat):vP l k=bif strEq (txP l k) wTrue then .yes ⟨3,1,⟨#[]⟩⟩ (k + 1)
  else bif strEq (txP l k) wFalse then .yes ⟨3,0,⟨#[]⟩⟩ (k + 1)
  else bif strEq (txP l k) wNull then .yes ⟨0,0,⟨#[]⟩⟩ (k + 1)
  else bif quoF (txP l k) then .yes ⟨2,0,unq (txP l k)⟩ (k + 1)
  else bif strEq (txP l k) ⟨#[45]⟩ then
   bif strEq (txP l (k + 1)) ⟨#[48]⟩ then .bad (k + 1)
   else bif digF (txP l (k + 1)) then .yes ⟨1,-(numL (txP l (k + 1)).data.toList),⟨#[]⟩⟩ (k + 2)
   else .bad (k + 1)
  else bif digF (txP l k) then .yes ⟨1,numL (txP l k).data.toList,⟨#[]⟩⟩ (k + 1)
  else .no:=by
 unfold vP
 rw [take_tx (by kernel_rfl),take_tx (by kernel_rfl),take_tx (by kernel_rfl),take_tx (by kernel_rfl),take_tx (by kernel_rfl),kind3_quo hl,kind2_dig hl,kind2_dig hl]
 cases strEq (txP l k) wTrue <;> cases strEq (txP l k) wFalse <;> cases strEq (txP l k) wNull <;> cases quoF (txP l k) <;> cases strEq (txP l k) ⟨#[45]⟩ <;> cases strEq (txP l (k + 1)) ⟨#[48]⟩ <;> cases digF (txP l (k + 1)) <;> cases digF (txP l k) <;> rfl
theorem vQ_tx {l : List Vl} (k : Nat) : vQ l ⟨k, false⟩ = bif isVB (txP l k) then
   bif strEq (txP l k) wTrue then (⟨3,1,⟨#[]⟩⟩,⟨k + 1,false⟩)
   else bif strEq (txP l k) wFalse then (⟨3,0,⟨#[]⟩⟩,⟨k + 1,false⟩)
   else bif strEq (txP l k) wNull then (⟨0,0,⟨#[]⟩⟩,⟨k + 1,false⟩)
   else bif strEq (txP l k) ⟨#[45]⟩ then
    bif strEq (txP l (k + 1)) ⟨#[48]⟩ then (⟨1,-(numQ l ⟨k + 1,true⟩).1,⟨#[]⟩⟩,(numQ l ⟨k + 1,true⟩).2)
    else (⟨1,-(numQ l ⟨k + 1,false⟩).1,⟨#[]⟩⟩,(numQ l ⟨k + 1,false⟩).2)
   else bif quoF (txP l k) then (⟨2,0,unq (txP l k)⟩,⟨k + 1,false⟩)
   else (⟨1,(numQ l ⟨k,false⟩).1,⟨#[]⟩⟩,(numQ l ⟨k,false⟩).2)
  else (⟨0,0,⟨#[]⟩⟩,⟨k,true⟩):=by
 unfold vQ
 rw [txP_txQ,txP_txQ]
 cases isVB (txP l k) <;> cases strEq (txP l k) wTrue <;> cases strEq (txP l k) wFalse <;> cases strEq (txP l k) wNull <;> cases quoF (txP l k) <;> cases strEq (txP l k) ⟨#[45]⟩ <;> cases strEq (txP l (k + 1)) ⟨#[48]⟩ <;> rfl
theorem numQ_tx {l:List Vl} (k:Nat):numQ l ⟨k,false⟩=bif digF (txP l k) then (numL (txP l k).data.toList,⟨k + 1,false⟩) else (0,⟨k,true⟩):=by
 unfold numQ
 rw [txP_txQ]
 cases digF (txP l k) <;> rfl
theorem numQ_b {l:List Vl} (k:Nat):(numQ l ⟨k,true⟩).2=⟨k,true⟩:=by
 unfold numQ
 rw [txQ_bad rfl]
 rfl
theorem isVB_tx (u:ByteArray):isVB u=(strEq u wTrue || (strEq u wFalse || (strEq u wNull || (strEq u ⟨#[45]⟩ || (digF u || quoF u))))):=rfl
theorem vP_no {l:List Vl} (hl:GoodL l) {k:Nat} (h:isVB (txP l k)=false):vP l k=.no:=by
 rw [isVB_tx] at h
 simp only [Bool.or_eq_false_iff] at h
 obtain ⟨h1,h2,h3,h4,h5,h6⟩:=h
 rw [vP_tx hl,h1,h2,h3,h4,h5,h6]
 rfl
theorem vP_is {l:List Vl} (hl:GoodL l) {k:Nat} (h:isVB (txP l k)=true):(∀ v k2,vP l k=.yes v k2→vQ l ⟨k,false⟩=(v,⟨k2,false⟩))∧(∀ k2,vP l k=.bad k2→(vQ l ⟨k,false⟩).2=⟨k2,true⟩)∧vP l k ≠ .no:=by
 have hq:=fun h=>dash_quo (u:=txP l k) h
 have hi:=isVB_tx (txP l k)
 rw [vP_tx hl,vQ_tx,h,numQ_tx,numQ_tx]
 rw [h] at hi
 have hb:=numQ_b (l:=l) (k + 1)
 generalize numQ l ⟨k + 1,true⟩=nb at *
 generalize strEq (txP l k) wTrue=b1 at *
 generalize strEq (txP l k) wFalse=b2 at *
 generalize strEq (txP l k) wNull=b3 at *
 generalize strEq (txP l k) ⟨#[45]⟩=b4 at *
 generalize quoF (txP l k)=b5 at *
 generalize digF (txP l k)=b6 at *
 generalize strEq (txP l (k + 1)) ⟨#[48]⟩=b7 at *
 generalize digF (txP l (k + 1))=b8 at *
 cases b1 <;> cases b2 <;> cases b3 <;> cases b4 <;> cases b5 <;> cases b6 <;> cases b7 <;> cases b8 <;> first
  | (refine ⟨fun v k2 h=>?_,fun k2 h=>?_,fun h=>?_⟩ <;> first | (cases h;done) | (cases h;rfl) | (cases h;exact hb))
  | (cases hi;done)
  | (have:=hq rfl;cases this)
theorem sim_v {l:List Vl} (hl:GoodL l):Sim (mustR l) (vQ l):=by
 refine ⟨fun k=>?_,fun k=>?_⟩
 ·unfold mustR
  cases h:isVB (txP l k) with
  | true =>
   obtain ⟨h1,h2,h3⟩:=vP_is hl h
   cases hv:vP l k with
   | yes v k2=>exact ⟨fun a k3 e=>(by cases e;exact h1 _ _ hv),fun _ e=>(by cases e)⟩
   | bad k2=>exact ⟨fun _ _ e=>(by cases e),fun k3 e=>(by cases e;exact h2 _ hv)⟩
   | no=>exact absurd hv h3
  | false =>
   rw [vP_no hl h,vQ_tx,h]
   exact ⟨fun _ _ e=>(by cases e),fun k3 e=>(by cases e;rfl)⟩
 ·unfold vQ
  rw [txQ_bad rfl,if_pos (by kernel_rfl)]
def leafQ (l:List Vl) (r:RS):Ex × RS:=if isVB (txQ l r)=true then (.mk 1 (vQ l r).1 .empty [],(vQ l r).2) else (.mk 2 Vl.zero (nameQ l r).1 [],(nameQ l r).2)
theorem sim_leaf {l:List Vl} (hl:GoodL l):Sim (leafR l) (leafQ l):=by
 refine ⟨fun k=>?_,fun k=>?_⟩
 ·unfold leafR leafQ
  rw [txP_txQ]
  cases h:isVB (txP l k) with
  | true =>
   obtain ⟨h1,h2,h3⟩:=vP_is hl h
   rw [if_pos rfl]
   cases hv:vP l k with
   | yes v k2=>exact ⟨fun a k3 e=>(by cases e;rw [h1 _ _ hv]),fun _ e=>(by cases e)⟩
   | bad k2=>exact ⟨fun _ _ e=>(by cases e),fun k3 e=>(by cases e;exact h2 _ hv)⟩
   | no=>exact absurd hv h3
  | false =>
   rw [vP_no hl h,if_neg Bool.false_ne_true]
   exact (sim_name.map fun s=>Ex.mk 2 Vl.zero s []).run k
 ·unfold leafQ
  rw [txQ_bad rfl,if_neg (by rw [show isVB ⟨#[]⟩=false by kernel_rfl];exact Bool.false_ne_true)]
  show (nameQ l ⟨k,true⟩).2=_
  exact (sim_name (l:=l)).stay k
theorem PR.bind_bif {α β:Type} (b:Bool) (x y:PR α) (f:α→Nat→PR β):(bif b then x else y).bind f=bif b then x.bind f else y.bind f:=by cases b <;> rfl
def signR (l:List Vl) (r:RS):Int × RS:=(signQ (txQ l r),if signQ (txQ l r)=0 then ⟨r.at_,true⟩ else needQ l (wAnd7.getD (signQ (txQ l r) - 5).toNat ⟨#[]⟩) r)
theorem word7 {l:List Vl} (k:Nat):wordR l wAnd7 k=bif signQ (txP l k)==0 then .bad k else .ok (signQ (txP l k) - 5) (k + 1):=by
 unfold wordR
 have e:oneP l k wAnd7 0=(bif strEq (txP l k) ⟨#[97,110,100]⟩ then 0 else bif strEq (txP l k) ⟨#[111,114]⟩ then 1 else bif strEq (txP l k) ⟨#[43]⟩ then 2 else bif strEq (txP l k) ⟨#[45]⟩ then 3 else bif strEq (txP l k) ⟨#[124,124]⟩ then 4 else bif strEq (txP l k) ⟨#[60]⟩ then 5 else bif strEq (txP l k) ⟨#[61]⟩ then 6 else -1):=by
  unfold wAnd7 oneP oneP oneP oneP oneP oneP oneP oneP
  rw [take_tx (by kernel_rfl),take_tx (by kernel_rfl),take_tx (by kernel_rfl),take_tx (by kernel_rfl),take_tx (by kernel_rfl),take_tx (by kernel_rfl),take_tx (by kernel_rfl)]
  cases strEq (txP l k) ⟨#[97,110,100]⟩ <;> cases strEq (txP l k) ⟨#[111,114]⟩ <;> cases strEq (txP l k) ⟨#[43]⟩ <;> cases strEq (txP l k) ⟨#[45]⟩ <;> cases strEq (txP l k) ⟨#[124,124]⟩ <;> cases strEq (txP l k) ⟨#[60]⟩ <;> cases strEq (txP l k) ⟨#[61]⟩ <;> rfl
 rw [e]
 generalize txP l k=u
 by_cases h1:u=⟨#[97,110,100]⟩
 ·subst h1
  rw [show strEq ⟨#[97,110,100]⟩ ⟨#[97,110,100]⟩=true by kernel_rfl,show signQ ⟨#[97,110,100]⟩=5 by kernel_rfl]
  rfl
 by_cases h2:u=⟨#[111,114]⟩
 ·subst h2
  rw [show strEq ⟨#[111,114]⟩ ⟨#[97,110,100]⟩=false by kernel_rfl,show strEq ⟨#[111,114]⟩ ⟨#[111,114]⟩=true by kernel_rfl,show signQ ⟨#[111,114]⟩=6 by kernel_rfl]
  rfl
 by_cases h3:u=⟨#[43]⟩
 ·subst h3
  rw [show strEq ⟨#[43]⟩ ⟨#[97,110,100]⟩=false by kernel_rfl,show strEq ⟨#[43]⟩ ⟨#[111,114]⟩=false by kernel_rfl,show strEq ⟨#[43]⟩ ⟨#[43]⟩=true by kernel_rfl,show signQ ⟨#[43]⟩=7 by kernel_rfl]
  rfl
 by_cases h4:u=⟨#[45]⟩
 ·subst h4
  rw [show strEq ⟨#[45]⟩ ⟨#[97,110,100]⟩=false by kernel_rfl,show strEq ⟨#[45]⟩ ⟨#[111,114]⟩=false by kernel_rfl,show strEq ⟨#[45]⟩ ⟨#[43]⟩=false by kernel_rfl,show strEq ⟨#[45]⟩ ⟨#[45]⟩=true by kernel_rfl,show signQ ⟨#[45]⟩=8 by kernel_rfl]
  rfl
 by_cases h5:u=⟨#[124,124]⟩
 ·subst h5
  rw [show strEq ⟨#[124,124]⟩ ⟨#[97,110,100]⟩=false by kernel_rfl,show strEq ⟨#[124,124]⟩ ⟨#[111,114]⟩=false by kernel_rfl,show strEq ⟨#[124,124]⟩ ⟨#[43]⟩=false by kernel_rfl,show strEq ⟨#[124,124]⟩ ⟨#[45]⟩=false by kernel_rfl,show strEq ⟨#[124,124]⟩ ⟨#[124,124]⟩=true by kernel_rfl,show signQ ⟨#[124,124]⟩=9 by kernel_rfl]
  rfl
 by_cases h6:u=⟨#[60]⟩
 ·subst h6
  rw [show strEq ⟨#[60]⟩ ⟨#[97,110,100]⟩=false by kernel_rfl,show strEq ⟨#[60]⟩ ⟨#[111,114]⟩=false by kernel_rfl,show strEq ⟨#[60]⟩ ⟨#[43]⟩=false by kernel_rfl,show strEq ⟨#[60]⟩ ⟨#[45]⟩=false by kernel_rfl,show strEq ⟨#[60]⟩ ⟨#[124,124]⟩=false by kernel_rfl,show strEq ⟨#[60]⟩ ⟨#[60]⟩=true by kernel_rfl,show signQ ⟨#[60]⟩=10 by kernel_rfl]
  rfl
 by_cases h7:u=⟨#[61]⟩
 ·subst h7
  rw [show strEq ⟨#[61]⟩ ⟨#[97,110,100]⟩=false by kernel_rfl,show strEq ⟨#[61]⟩ ⟨#[111,114]⟩=false by kernel_rfl,show strEq ⟨#[61]⟩ ⟨#[43]⟩=false by kernel_rfl,show strEq ⟨#[61]⟩ ⟨#[45]⟩=false by kernel_rfl,show strEq ⟨#[61]⟩ ⟨#[124,124]⟩=false by kernel_rfl,show strEq ⟨#[61]⟩ ⟨#[60]⟩=false by kernel_rfl,show strEq ⟨#[61]⟩ ⟨#[61]⟩=true by kernel_rfl,show signQ ⟨#[61]⟩=11 by kernel_rfl]
  rfl
 have n:∀ {s:ByteArray},u ≠ s→strEq u s=false:=fun {s} h=>by
  cases hs:strEq u s with
  | true=>exact absurd (strEq_iff.1 hs) h
  | false=>rfl
 have e2:signQ u=0:=by
  unfold signQ signK signK signK signK signK signK signK signK wAnd7
  simp only [List.getD_cons_zero,List.getD_cons_succ,n h1,n h2,n h3,n h4,n h5,n h6,n h7,if_neg Bool.false_ne_true]
 rw [n h1,n h2,n h3,n h4,n h5,n h6,n h7,e2]
 rfl
end Go.Proofs.YtjdgejfhnfnmgaaGreatDoor
namespace Go.Proofs.YtjdgejfhnfnmgaaGreatDoor
open Go.RowKit
theorem PR.ret_bind {α β:Type} (a:α) (k:Nat) (f:α→Nat→PR β):(PR.ok a k).bind f=f a k:=rfl
theorem sign_val {u:ByteArray} (h:signQ u ≠ 0):strEq u (wAnd7.getD (signQ u - 5).toNat ⟨#[]⟩)=true:=by
 have key:∀ i,signK u i ≠ 0→strEq u (wAnd7.getD (signK u i - 5).toNat ⟨#[]⟩)=true:=by
  intro i
  induction i with
  | zero=>intro h;exact absurd rfl h
  | succ i ih =>
   intro h
   unfold signK at h ⊢
   by_cases hs:strEq u (wAnd7.getD i ⟨#[]⟩)=true
   ·rw [if_pos hs] at h ⊢
    rw [show ((5 + (i:Int)) - 5).toNat=i by omega]
    exact hs
   ·rw [if_neg hs] at h ⊢
    exact ih h
 exact key 7 h
theorem sim_sign {l:List Vl}:Sim (fun k=>(wordR l wAnd7 k).bind fun i k=>.ok (5 + i) k) (signR l):=by
 refine ⟨fun k=>?_,fun k=>?_⟩
 ·unfold signR
  rw [word7,txP_txQ]
  cases h:(signQ (txP l k)==0) with
  | true =>
   rw [if_pos (by simpa using h)]
   exact ⟨fun _ _ e=>(by cases e),fun k3 e=>(by cases e;rfl)⟩
  | false =>
   have h:signQ (txP l k) ≠ 0:=by simpa using h
   have hv:=sign_val h
   have hne:strEq ⟨#[]⟩ (wAnd7.getD (signQ (txP l k) - 5).toNat ⟨#[]⟩)=false:=by
    rw [← strEq_iff.1 hv]
    cases he:strEq ⟨#[]⟩ (txP l k) with
    | false=>rfl
    | true =>
     exfalso
     apply h
     rw [← strEq_iff.1 he]
     kernel_rfl
   rw [if_neg h]
   unfold needQ
   rw [take_q hne,take_tx hne,hv]
   refine ⟨fun a k3 e=>?_,fun _ e=>(by cases e)⟩
   cases e
   rw [show 5 + (signQ (txP l k) - 5)=signQ (txP l k) by omega]
   rfl
 ·unfold signR
  rw [txQ_bad rfl,show signQ ⟨#[]⟩=0 by kernel_rfl,if_pos rfl]
def pairQ (l:List Vl) (E:RS→Ex × RS) (r:RS):Ex × RS :=
 if (takeQ l wIs (E r).2).1=true then (.mk 4 Vl.zero .empty [(E r).1],needQ l wShut (needQ l wNull (takeQ l wIs (E r).2).2))
 else (.mk (signR l (takeQ l wIs (E r).2).2).1 Vl.zero .empty [(E r).1,(E (signR l (takeQ l wIs (E r).2).2).2).1],needQ l wShut (E (signR l (takeQ l wIs (E r).2).2).2).2)
theorem sim_pair {l:List Vl} {E:Nat→PR Ex} {E':RS→Ex × RS} (h:Sim E E'):Sim (fun k=>(pairR l E k).bind fun e k=>(needR l wShut k).bind fun _ k=>.ok e k) (pairQ l E'):=by
 have hsh:Sim (needR l wShut) (fun r=>((),needQ l wShut r)):=sim_need (by kernel_rfl)
 have key:∀ a:Ex,Sim (fun k=>bif takeB l wIs k then (needR l wNull (k + 1)).bind fun _ k=>(needR l wShut k).bind fun _ k=>PR.ok (Ex.mk 4 Vl.zero .empty [a]) k
   else ((wordR l wAnd7 k).bind fun i k=>.ok (5 + i) k).bind fun i k=>(E k).bind fun b k=>(needR l wShut k).bind fun _ k=>PR.ok (Ex.mk i Vl.zero .empty [a,b]) k)
   (fun r=>if (takeQ l wIs r).1=true then (Ex.mk 4 Vl.zero .empty [a],needQ l wShut (needQ l wNull (takeQ l wIs r).2)) else (Ex.mk (signR l (takeQ l wIs r).2).1 Vl.zero .empty [a,(E' (signR l (takeQ l wIs r).2).2).1],needQ l wShut (E' (signR l (takeQ l wIs r).2).2).2)):=fun a =>
  Sim.take (P1:=fun k=>(needR l wNull k).bind fun _ k=>(needR l wShut k).bind fun _ k=>PR.ok (Ex.mk 4 Vl.zero .empty [a]) k) (Q1:=fun r=>(Ex.mk 4 Vl.zero .empty [a],needQ l wShut (needQ l wNull r)))
   (P2:=fun k=>((wordR l wAnd7 k).bind fun i k=>.ok (5 + i) k).bind fun i k=>(E k).bind fun b k=>(needR l wShut k).bind fun _ k=>PR.ok (Ex.mk i Vl.zero .empty [a,b]) k) (Q2:=fun r=>(Ex.mk (signR l r).1 Vl.zero .empty [a,(E' (signR l r).2).1],needQ l wShut (E' (signR l r).2).2))
   (by kernel_rfl) ((sim_need (by kernel_rfl)).bind fun _=>hsh.map fun _=>Ex.mk 4 Vl.zero .empty [a]) (sim_sign.bind fun i=>h.bind fun b=>hsh.map fun _=>Ex.mk i Vl.zero .empty [a,b])
 have h2:=h.bind key
 have e:(fun k=>(pairR l E k).bind fun e k=>(needR l wShut k).bind fun _ k=>PR.ok e k)=fun k=>(E k).bind fun a k=>bif takeB l wIs k then (needR l wNull (k + 1)).bind fun _ k=>(needR l wShut k).bind fun _ k=>PR.ok (Ex.mk 4 Vl.zero .empty [a]) k
   else ((wordR l wAnd7 k).bind fun i k=>.ok (5 + i) k).bind fun i k=>(E k).bind fun b k=>(needR l wShut k).bind fun _ k=>PR.ok (Ex.mk i Vl.zero .empty [a,b]) k:=by
  funext k
  unfold pairR
  simp only [PR.bind_assoc,PR.bind_bif,PR.ret_bind]
 rw [e]
 exact h2
theorem exQ_succ (l:List Vl) (f:Nat) (r:RS):exQ l (f + 1) r=if strEq (txQ l r) wNot=true then (.mk 3 Vl.zero .empty [(exQ l f ⟨r.at_ + 1,r.bad⟩).1],(exQ l f ⟨r.at_ + 1,r.bad⟩).2)
  else if strEq (txQ l r) wOpen=true then pairQ l (exQ l f) ⟨r.at_ + 1,r.bad⟩ else leafQ l r:=rfl
theorem exQ_zero (l:List Vl) (r:RS):exQ l 0 r=if (strEq (txQ l r) wOpen || strEq (txQ l r) wNot)=true then (.mk 0 Vl.zero .empty [],⟨r.at_,true⟩) else leafQ l r:=rfl
theorem sim_ex {l:List Vl} (hl:GoodL l):∀ f,Sim (exR l f) (exQ l f)
 | 0=>by
  have hL:=sim_leaf hl
  refine ⟨fun k=>?_,fun k=>?_⟩
  ·unfold exR
   rw [exQ_zero,txP_txQ,take_tx (by kernel_rfl),take_tx (by kernel_rfl)]
   cases (strEq (txP l k) wOpen || strEq (txP l k) wNot) with
   | true=>exact ⟨fun _ _ e=>(by cases e),fun k3 e=>(by cases e;rfl)⟩
   | false=>exact hL.run k
  ·rw [exQ_zero,txQ_bad rfl,show (strEq ⟨#[]⟩ wOpen || strEq ⟨#[]⟩ wNot)=false by kernel_rfl,if_neg Bool.false_ne_true]
   exact hL.stay k
 | f + 1=>by
  have hL:=sim_leaf hl
  have ih:=sim_ex hl f
  have hP:=sim_pair (l:=l) ih
  have hN:=ih.map fun e=>Ex.mk 3 Vl.zero .empty [e]
  refine ⟨fun k=>?_,fun k=>?_⟩
  ·unfold exR
   rw [exQ_succ,txP_txQ,take_tx (by kernel_rfl),take_tx (by kernel_rfl)]
   by_cases h1:strEq (txP l k) wOpen=true
   ·have h2:strEq (txP l k) wNot=false:=by rw [strEq_iff.1 h1];kernel_rfl
    rw [h1,h2,if_neg Bool.false_ne_true,if_pos rfl]
    exact hP.run (k + 1)
   ·have h1:strEq (txP l k) wOpen=false:=by simpa using h1
    rw [h1]
    by_cases h2:strEq (txP l k) wNot=true
    ·rw [h2,if_pos rfl]
     exact hN.run (k + 1)
    ·have h2:strEq (txP l k) wNot=false:=by simpa using h2
     rw [h2,if_neg Bool.false_ne_true,if_neg Bool.false_ne_true]
     exact hL.run k
  ·rw [exQ_succ,txQ_bad rfl,show strEq ⟨#[]⟩ wNot=false by kernel_rfl,show strEq ⟨#[]⟩ wOpen=false by kernel_rfl,if_neg Bool.false_ne_true,if_neg Bool.false_ne_true]
   exact hL.stay k
def whereQ (l:List Vl) (r:RS):(Bool × Ex) × RS:=if (takeQ l ⟨#[119,104,101,114,101]⟩ r).1=true then ((false,(exQ l 60 (takeQ l ⟨#[119,104,101,114,101]⟩ r).2).1),(exQ l 60 (takeQ l ⟨#[119,104,101,114,101]⟩ r).2).2) else ((true,zE),(takeQ l ⟨#[119,104,101,114,101]⟩ r).2)
theorem sim_where {l:List Vl} (hl:GoodL l):Sim (whereR l) (whereQ l) :=
 Sim.take (P1:=fun k=>(exR l 60 k).bind fun e k=>.ok (false,e) k) (Q1:=fun r=>((false,(exQ l 60 r).1),(exQ l 60 r).2)) (P2:=fun k=>.ok (true,zE) k) (Q2:=fun r=>((true,zE),r)) (by kernel_rfl) ((sim_ex hl 60).map fun e=>(false,e)) (Sim.ret _)
def moreQ {α:Type} (l:List Vl) (E:RS→α × RS):Nat→RS→List α × RS
 | 0,r=>([],r)
 | f + 1,r=>if (takeQ l ⟨#[44]⟩ r).1=true then ((E (takeQ l ⟨#[44]⟩ r).2).1 :: (moreQ l E f (E (takeQ l ⟨#[44]⟩ r).2).2).1,(moreQ l E f (E (takeQ l ⟨#[44]⟩ r).2).2).2) else ([],(takeQ l ⟨#[44]⟩ r).2)
theorem sim_more {α:Type} {l:List Vl} {E:Nat→PR α} {E':RS→α × RS} (h:Sim E E'):∀ f,Sim (moreR l E f) (moreQ l E' f)
 | 0=>Sim.ret _
 | f + 1 => Sim.take (P1 := fun k => (E k).bind fun a k => (moreR l E f k).bind fun r k => .ok (a :: r) k) (Q1 := fun r => ((E' r).1 :: (moreQ l E' f (E' r).2).1, (moreQ l E' f (E' r).2).2)) (P2 := fun k => .ok [] k) (Q2 := fun r => ([], r)) (by kernel_rfl)
     (h.bind fun a=>(sim_more h f).map fun r=>a :: r) (Sim.ret _)
def someQ {α:Type} (l:List Vl) (E:RS→α × RS) (r:RS):List α × RS:=if r.bad=true then ([],r) else ((E r).1 :: (moreQ l E (l.length + 1) (E r).2).1,(moreQ l E (l.length + 1) (E r).2).2)
theorem sim_some {α:Type} {l:List Vl} {E:Nat→PR α} {E':RS→α × RS} (h:Sim E E'):Sim (someR l E) (someQ l E'):=by
 refine ⟨fun k=>?_,fun k=>?_⟩
 ·unfold someQ
  rw [if_neg Bool.false_ne_true]
  exact (h.bind fun a=>(sim_more h (l.length + 1)).map fun r=>a :: r).run k
 ·unfold someQ
  rw [if_pos rfl]
def colQ (l:List Vl) (r:RS):Col × RS:=(⟨(nameQ l r).1,(typeQ l (nameQ l r).2).1⟩,(typeQ l (nameQ l r).2).2)
theorem sim_col {l:List Vl}:Sim (colR l) (colQ l):=sim_name.bind fun s=>sim_typ.map fun t=>(⟨s,t⟩:Col)
end Go.Proofs.YtjdgejfhnfnmgaaGreatDoor
namespace Go.Proofs.YtjdgejfhnfnmgaaGreatDoor
open Go.RowKit
def wordI (l:List Vl) (L:List ByteArray) (i k:Nat):PR Int:=bif decide (oneP l k L i=-1) then .bad k else .ok (oneP l k L i) (k + 1)
theorem wordR_I (l:List Vl) (L:List ByteArray):wordR l L=wordI l L 0:=rfl
theorem wordI_cons (l:List Vl) (s:ByteArray) (L:List ByteArray) (i k:Nat):wordI l (s :: L) i k=bif takeB l s k then .ok (i:Int) (k + 1) else wordI l L (i + 1) k:=by
 unfold wordI
 rw [oneP]
 cases takeB l s k with
 | true =>
  rw [if_pos rfl,decide_eq_false (by omega)]
  rfl
 | false=>rw [if_neg Bool.false_ne_true];rfl
theorem wordI_nil (l:List Vl) (i k:Nat):wordI l [] i k=.bad k:=rfl
theorem Sim.word {α:Type} {l:List Vl} {s:ByteArray} {L:List ByteArray} {i:Nat} {f:Int→Nat→PR α} {Q1 Q2:RS→α × RS} (hs:strEq ⟨#[]⟩ s=false) (h1:Sim (f (i:Int)) Q1) (h2:Sim (fun k=>(wordI l L (i + 1) k).bind f) Q2) :
  Sim (fun k=>(wordI l (s :: L) i k).bind f) (fun r=>if (takeQ l s r).1=true then Q1 (takeQ l s r).2 else Q2 (takeQ l s r).2):=by
 have h:=Sim.take (l:=l) hs h1 h2
 have e:(fun k=>(wordI l (s :: L) i k).bind f)=fun k=>bif takeB l s k then f (i:Int) (k + 1) else (wordI l L (i + 1) k).bind f:=by
  funext k
  rw [wordI_cons,PR.bind_bif,PR.ret_bind]
 rw [e]
 exact h
theorem Sim.last {α:Type} {l:List Vl} {s:ByteArray} {i:Nat} {f:Int→Nat→PR α} {Q:RS→α × RS} (hs:strEq ⟨#[]⟩ s=false) (h:Sim (f (i:Int)) Q):Sim (fun k=>(wordI l [s] i k).bind f) (fun r=>Q (needQ l s r)):=by
 have h2:=(sim_need (l:=l) hs).bind fun _=>h
 have e:(fun k=>(wordI l [s] i k).bind f)=fun k=>(needR l s k).bind fun _=>f (i:Int):=by
  funext k
  rw [wordI_cons,wordI_nil]
  unfold needR
  cases takeB l s k <;> rfl
 rw [e]
 exact h2
theorem Sim.two {α:Type} {l:List Vl} {s t:ByteArray} {f:Int→Nat→PR α} {Q1 Q2:RS→α × RS} (hs:strEq ⟨#[]⟩ s=false) (ht:strEq ⟨#[]⟩ t=false) (hst:strEq t s=false) (h1:Sim (f 0) Q1) (h2:Sim (f 1) Q2) :
  Sim (fun k=>(wordR l [s,t] k).bind f) (fun r=>if (takeQ l t r).1=true then Q2 (takeQ l t r).2 else Q1 (needQ l s (takeQ l t r).2)):=by
 have h:=Sim.take (l:=l) ht h2 ((sim_need (l:=l) hs).bind fun _=>h1)
 have e:(fun k=>(wordR l [s,t] k).bind f)=fun k=>bif takeB l t k then f 1 (k + 1) else (needR l s k).bind fun _=>f 0:=by
  funext k
  rw [wordR_I,wordI_cons,wordI_cons,wordI_nil]
  unfold needR
  rw [take_tx hs,take_tx ht]
  by_cases hx:strEq (txP l k) t=true
  ·rw [hx,show strEq (txP l k) s=false by rw [strEq_iff.1 hx];exact hst]
   rfl
  ·have hx:strEq (txP l k) t=false:=by simpa using hx
   rw [hx]
   cases strEq (txP l k) s <;> rfl
 rw [e]
 exact h
def tableQ (l:List Vl) (r:RS):Cm × RS:=({ zCm with k:=1,name:=(nameQ l r).1,cols:=(someQ l (colQ l) (needQ l wOpen (nameQ l r).2)).1 },needQ l wShut (someQ l (colQ l) (needQ l wOpen (nameQ l r).2)).2)
def indexQ (l:List Vl) (r:RS):Cm × RS:=({ zCm with k:=8,name:=(nameQ l r).1,other:=(nameQ l (needQ l ⟨#[111,110]⟩ (nameQ l r).2)).1,column:=(nameQ l (needQ l wOpen (nameQ l (needQ l ⟨#[111,110]⟩ (nameQ l r).2)).2)).1 },needQ l wShut (nameQ l (needQ l wOpen (nameQ l (needQ l ⟨#[111,110]⟩ (nameQ l r).2)).2)).2)
def createQ (l:List Vl) (r:RS):Cm × RS:=if (takeQ l ⟨#[105,110,100,101,120]⟩ r).1=true then indexQ l (takeQ l ⟨#[105,110,100,101,120]⟩ r).2 else tableQ l (needQ l ⟨#[116,97,98,108,101]⟩ (takeQ l ⟨#[105,110,100,101,120]⟩ r).2)
theorem sim_create {l:List Vl}:Sim (createR l) (createQ l):=by
 have hO:Sim (needR l wOpen) (fun r=>((),needQ l wOpen r)):=sim_need (by kernel_rfl)
 have hS:Sim (needR l wShut) (fun r=>((),needQ l wShut r)):=sim_need (by kernel_rfl)
 have hN:Sim (needR l ⟨#[111,110]⟩) (fun r=>((),needQ l ⟨#[111,110]⟩ r)):=sim_need (by kernel_rfl)
 refine Sim.two (f:=fun i k=>(nameR l k).bind fun nm k=>bif i==0 then (listR l (colR l) k).bind fun r k=>.ok { zCm with k:=1,name:=nm,cols:=r } k
  else (needR l ⟨#[111,110]⟩ k).bind fun _ k=>(nameR l k).bind fun o k=>(needR l wOpen k).bind fun _ k=>(nameR l k).bind fun c k=>(needR l wShut k).bind fun _ k=>.ok { zCm with k:=8,name:=nm,other:=o,column:=c } k) (Q1:=tableQ l) (Q2:=indexQ l) (by kernel_rfl) (by kernel_rfl) (by kernel_rfl) ?_ ?_
 ·have h:=(sim_name (l:=l)).bind fun nm=>hO.bind fun _=>(sim_some (l:=l) (sim_col (l:=l))).bind fun r=>hS.map fun _=>({ zCm with k:=1,name:=nm,cols:=r }:Cm)
  have e:(fun k=>(nameR l k).bind fun nm k=>bif (0:Int)==0 then (listR l (colR l) k).bind fun r k=>PR.ok ({ zCm with k:=1,name:=nm,cols:=r }:Cm) k
    else (needR l ⟨#[111,110]⟩ k).bind fun _ k=>(nameR l k).bind fun o k=>(needR l wOpen k).bind fun _ k=>(nameR l k).bind fun c k=>(needR l wShut k).bind fun _ k=>PR.ok { zCm with k:=8,name:=nm,other:=o,column:=c } k)=fun k=>(nameR l k).bind fun nm k=>(needR l wOpen k).bind fun _ k=>(someR l (colR l) k).bind fun r k=>(needR l wShut k).bind fun _ k=>PR.ok ({ zCm with k:=1,name:=nm,cols:=r }:Cm) k:=by
   funext k
   show (nameR l k).bind (fun nm k=>(listR l (colR l) k).bind fun r k=>PR.ok ({ zCm with k:=1,name:=nm,cols:=r }:Cm) k)=_
   unfold listR
   simp only [PR.bind_assoc,PR.ret_bind]
  rw [e]
  exact h
 ·exact (sim_name (l:=l)).bind fun nm=>hN.bind fun _=>(sim_name (l:=l)).bind fun o=>hO.bind fun _=>(sim_name (l:=l)).bind fun c=>hS.map fun _=>({ zCm with k:=8,name:=nm,other:=o,column:=c }:Cm)
def dropQ (l:List Vl) (r:RS):Cm × RS:=if (takeQ l ⟨#[105,110,100,101,120]⟩ r).1=true then ({ zCm with k:=9,name:=(nameQ l (takeQ l ⟨#[105,110,100,101,120]⟩ r).2).1 },(nameQ l (takeQ l ⟨#[105,110,100,101,120]⟩ r).2).2) else ({ zCm with k:=2,name:=(nameQ l (needQ l ⟨#[116,97,98,108,101]⟩ (takeQ l ⟨#[105,110,100,101,120]⟩ r).2)).1 },(nameQ l (needQ l ⟨#[116,97,98,108,101]⟩ (takeQ l ⟨#[105,110,100,101,120]⟩ r).2)).2)
theorem sim_drop {l:List Vl}:Sim (dropR l) (dropQ l):=by
 refine Sim.two (l:=l) (s:=⟨#[116,97,98,108,101]⟩) (t:=⟨#[105,110,100,101,120]⟩) (f:=fun i k=>(nameR l k).bind fun nm k=>PR.ok ({ zCm with k:=bif i==1 then 9 else 2,name:=nm }:Cm) k) (Q1:=fun r=>(({ zCm with k:=2,name:=(nameQ l r).1 }:Cm),(nameQ l r).2)) (Q2:=fun r=>(({ zCm with k:=9,name:=(nameQ l r).1 }:Cm),(nameQ l r).2)) (by kernel_rfl) (by kernel_rfl) (by kernel_rfl) ?_ ?_
 ·exact (sim_name (l:=l)).map fun nm=>({ zCm with k:=2,name:=nm }:Cm)
 ·exact (sim_name (l:=l)).map fun nm=>({ zCm with k:=9,name:=nm }:Cm)
def alterAdd (l:List Vl) (nm:ByteArray) (r:RS):Cm × RS:=({ zCm with k:=3,name:=nm,column:=(nameQ l r).1,ty:=(typeQ l (nameQ l r).2).1,v:=(vQ l (needQ l ⟨#[100,101,102,97,117,108,116]⟩ (typeQ l (nameQ l r).2).2)).1 },(vQ l (needQ l ⟨#[100,101,102,97,117,108,116]⟩ (typeQ l (nameQ l r).2).2)).2)
def alterDrop (l:List Vl) (nm:ByteArray) (r:RS):Cm × RS:=({ zCm with k:=4,name:=nm,column:=(nameQ l r).1 },(nameQ l r).2)
def alterRen (l:List Vl) (nm:ByteArray) (r:RS):Cm × RS:=if (takeQ l ⟨#[116,111]⟩ r).1=true then ({ zCm with k:=7,name:=nm,other:=(nameQ l (takeQ l ⟨#[116,111]⟩ r).2).1 },(nameQ l (takeQ l ⟨#[116,111]⟩ r).2).2)
 else ({ zCm with k:=5,name:=nm,column:=(nameQ l (takeQ l ⟨#[116,111]⟩ r).2).1,other:=(nameQ l (needQ l ⟨#[116,111]⟩ (nameQ l (takeQ l ⟨#[116,111]⟩ r).2).2)).1 },(nameQ l (needQ l ⟨#[116,111]⟩ (nameQ l (takeQ l ⟨#[116,111]⟩ r).2).2)).2)
def alterRet (l:List Vl) (nm:ByteArray) (r:RS):Cm × RS:=({ zCm with k:=6,name:=nm,column:=(nameQ l r).1,ty:=(typeQ l (nameQ l r).2).1 },(typeQ l (nameQ l r).2).2)
def alterW (l:List Vl) (nm:ByteArray) (r:RS):Cm × RS :=
 if (takeQ l ⟨#[97,100,100]⟩ r).1=true then alterAdd l nm (takeQ l ⟨#[97,100,100]⟩ r).2
 else if (takeQ l ⟨#[100,114,111,112]⟩ (takeQ l ⟨#[97,100,100]⟩ r).2).1=true then alterDrop l nm (takeQ l ⟨#[100,114,111,112]⟩ (takeQ l ⟨#[97,100,100]⟩ r).2).2
 else if (takeQ l ⟨#[114,101,110,97,109,101]⟩ (takeQ l ⟨#[100,114,111,112]⟩ (takeQ l ⟨#[97,100,100]⟩ r).2).2).1=true then alterRen l nm (takeQ l ⟨#[114,101,110,97,109,101]⟩ (takeQ l ⟨#[100,114,111,112]⟩ (takeQ l ⟨#[97,100,100]⟩ r).2).2).2
 else alterRet l nm (needQ l ⟨#[114,101,116,121,112,101]⟩ (takeQ l ⟨#[114,101,110,97,109,101]⟩ (takeQ l ⟨#[100,114,111,112]⟩ (takeQ l ⟨#[97,100,100]⟩ r).2).2).2)
def alterQ (l:List Vl) (r:RS):Cm × RS:=alterW l (nameQ l (needQ l ⟨#[116,97,98,108,101]⟩ r)).1 (nameQ l (needQ l ⟨#[116,97,98,108,101]⟩ r)).2
def alterF (l:List Vl) (nm:ByteArray) (i:Int) (k:Nat):PR Cm :=
 bif i==0 then (colR l k).bind fun x k=>(needR l ⟨#[100,101,102,97,117,108,116]⟩ k).bind fun _ k=>(mustR l k).bind fun v k=>.ok { zCm with k:=3,name:=nm,column:=x.name,ty:=x.ty,v:=v } k
 else bif i==1 then (nameR l k).bind fun c k=>.ok { zCm with k:=4,name:=nm,column:=c } k
 else bif i==2 then
  bif takeB l ⟨#[116,111]⟩ k then (nameR l (k + 1)).bind fun o k=>.ok { zCm with k:=7,name:=nm,other:=o } k
  else (nameR l k).bind fun c k=>(needR l ⟨#[116,111]⟩ k).bind fun _ k=>(nameR l k).bind fun o k=>.ok { zCm with k:=5,name:=nm,column:=c,other:=o } k
 else (nameR l k).bind fun c k=>(typR l k).bind fun t k=>.ok { zCm with k:=6,name:=nm,column:=c,ty:=t } k
theorem sim_alterF {l:List Vl} (hl:GoodL l) (nm:ByteArray):Sim (fun k=>(wordR l [⟨#[97,100,100]⟩,⟨#[100,114,111,112]⟩,⟨#[114,101,110,97,109,101]⟩,⟨#[114,101,116,121,112,101]⟩] k).bind (alterF l nm)) (alterW l nm):=by
 have hD:Sim (needR l ⟨#[100,101,102,97,117,108,116]⟩) (fun r=>((),needQ l ⟨#[100,101,102,97,117,108,116]⟩ r)):=sim_need (by kernel_rfl)
 have hT:Sim (needR l ⟨#[116,111]⟩) (fun r=>((),needQ l ⟨#[116,111]⟩ r)):=sim_need (by kernel_rfl)
 have hN:=sim_name (l:=l)
 have hY:=sim_typ (l:=l)
 have hV:=sim_v hl
 have h0:Sim (alterF l nm ((0:Nat):Int)) (alterAdd l nm):=(sim_col (l:=l)).bind fun x=>hD.bind fun _=>hV.map fun v=>({ zCm with k:=3,name:=nm,column:=x.name,ty:=x.ty,v:=v }:Cm)
 have h1:Sim (alterF l nm ((1:Nat):Int)) (alterDrop l nm):=hN.map fun c=>({ zCm with k:=4,name:=nm,column:=c }:Cm)
 have h2:Sim (alterF l nm ((2:Nat):Int)) (alterRen l nm) :=
  Sim.take (l:=l) (s:=⟨#[116,111]⟩) (P1:=fun k=>(nameR l k).bind fun o k=>PR.ok ({ zCm with k:=7,name:=nm,other:=o }:Cm) k) (Q1:=fun r=>(({ zCm with k:=7,name:=nm,other:=(nameQ l r).1 }:Cm),(nameQ l r).2))
   (P2:=fun k=>(nameR l k).bind fun c k=>(needR l ⟨#[116,111]⟩ k).bind fun _ k=>(nameR l k).bind fun o k=>PR.ok ({ zCm with k:=5,name:=nm,column:=c,other:=o }:Cm) k) (Q2:=fun r=>(({ zCm with k:=5,name:=nm,column:=(nameQ l r).1,other:=(nameQ l (needQ l ⟨#[116,111]⟩ (nameQ l r).2)).1 }:Cm),(nameQ l (needQ l ⟨#[116,111]⟩ (nameQ l r).2)).2))
   (by kernel_rfl) (hN.map fun o=>({ zCm with k:=7,name:=nm,other:=o }:Cm)) (hN.bind fun c=>hT.bind fun _=>hN.map fun o=>({ zCm with k:=5,name:=nm,column:=c,other:=o }:Cm))
 have h3:Sim (alterF l nm ((3:Nat):Int)) (alterRet l nm):=hN.bind fun c=>hY.map fun t=>({ zCm with k:=6,name:=nm,column:=c,ty:=t }:Cm)
 rw [show (fun k=>(wordR l [⟨#[97,100,100]⟩,⟨#[100,114,111,112]⟩,⟨#[114,101,110,97,109,101]⟩,⟨#[114,101,116,121,112,101]⟩] k).bind (alterF l nm))=fun k=>(wordI l [⟨#[97,100,100]⟩,⟨#[100,114,111,112]⟩,⟨#[114,101,110,97,109,101]⟩,⟨#[114,101,116,121,112,101]⟩] 0 k).bind (alterF l nm) from rfl]
 exact Sim.word (by kernel_rfl) h0 (Sim.word (by kernel_rfl) h1 (Sim.word (by kernel_rfl) h2 (Sim.last (by kernel_rfl) h3)))
theorem sim_alter {l:List Vl} (hl:GoodL l):Sim (alterR l) (alterQ l):=by
 have hT:Sim (needR l ⟨#[116,97,98,108,101]⟩) (fun r=>((),needQ l ⟨#[116,97,98,108,101]⟩ r)):=sim_need (by kernel_rfl)
 exact hT.bind fun _=>(sim_name (l:=l)).bind fun nm=>sim_alterF hl nm
end Go.Proofs.YtjdgejfhnfnmgaaGreatDoor
