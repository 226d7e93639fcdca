/-  -/
import Derived.Test.YtjdgejfhnfnmgaaGreatDoorS7
import Derived.Test.YtjdgejfhnfnmgaaGreatDoorS13
import Derived.Test.YtjdgejfhnfnmgaaGreatDoorS12
import Derived.Test.YtjdgejfhnfnmgaaGreatDoorRows
import Derived.Test.YtjdgejfhnfnmgaaGreatDoorS0
import Derived.BigQuiet
import Derived.Deep.QuietTactic
import Derived.Handy
import Derived.Deep.LoopGhost
namespace Go.Proofs.YtjdgejfhnfnmgaaGreatDoor.Ax
open Go.RowKit Go.Deep
section
variable {w:World} {ok:Nat→Prop}
theorem RdL.len':∀ {ts:List T} {cs:List Value},RdL w ok ts cs→cs.length=ts.length
 | [],[],_=>rfl
 | _ :: _,_ :: _,h=>by unfold RdL at h;rw [List.length_cons,List.length_cons,RdL.len' h.2]
 | [],_ :: _,h=>by unfold RdL at h;exact h.elim
 | _ :: _,[],h=>by unfold RdL at h;exact h.elim
theorem rdRow_of {b:Nat}:∀ {ts:List T} {cs:List Value} {o:Nat},RdL w ok ts cs→(∀ j u,cs[j]?=some u→w.cell? ⟨b,o + j,none⟩=some u)→RdRow w ok b o ts
 | [],_,_,_,_=>by unfold RdRow;trivial
 | t :: ts,[],_,h,_=>by unfold RdL at h;exact h.elim
 | t :: ts,c :: cs,o,h,hc=>by
  unfold RdL at h
  unfold RdRow
  exact ⟨⟨c,hc 0 c rfl,h.1⟩,rdRow_of h.2 fun j u hu=>by have:=hc (j + 1) u (by simpa using hu);rwa [show o + 1 + j=o + (j + 1) by omega]⟩
theorem rdRows_of {b s:Nat}:∀ {rows:List (List T)} {o:Nat},(∀ k r,rows[k]?=some r→r.length=s∧∃ cs,RdL w ok r cs∧∀ j u,cs[j]?=some u→w.cell? ⟨b,o + k * s + j,none⟩=some u)→RdRows w ok s b o rows
 | [],_,_=>by unfold RdRows;trivial
 | r :: rs,o,h=>by
  obtain ⟨h1,cs,h2,h3⟩:=h 0 r rfl
  unfold RdRows
  refine ⟨h1,rdRow_of h2 fun j u hu=>by have:=h3 j u hu;rwa [Nat.zero_mul,Nat.add_zero] at this,rdRows_of fun k r hr=>?_⟩
  obtain ⟨g1,cs,g2,g3⟩:=h (k + 1) r (by simpa using hr)
  refine ⟨g1,cs,g2,fun j u hu=>?_⟩
  have:=g3 j u hu
  rwa [Nat.succ_mul,show o + (k * s + s) + j=o + s + k * s + j by omega] at this
end
structure OpensE {α:Type} (P:Program) (N:Nat) (sz:Nat) (f:α→List T) (t:TypeId) (good:α→Prop):Prop where
 cells:P.cellsOf t=sz
 len:∀ y,(f y).length=sz
 opens:∀ {H:Type} {enc:TypeId × Value→H} {w:World} {base:Nat} {spare:Nat→Bool} {held:Bool} {fuel:Nat} {cs:List Value} {x:DataW H × List MemPlace},
  fuel≤N→DataW.trod enc P w base spare held fuel t cs=some x→(DataW.weights P t x.1).all (·≤reachBytes)=true→∃ y,RdL w (fun b=>b < w.heap.size) (f y) cs∧good y
section
variable {P:Program} {N:Nat} {t:TypeId}
theorem rdL_one {w:World} {ok:Nat→Prop} {v:Value} (h:v.oneCell'=true):RdL w ok [.lit v] [v]:=by
 unfold RdL RdT RdL
 exact ⟨⟨rfl,h⟩,trivial⟩
theorem oeInt (hu:P.underlying t=some (.int .i64)) (hc:P.cellsOf t=1):OpensE P N 1 (fun n=>[.lit (.int .i64 n)]) t fun n=>-9223372036854775808≤n∧n≤9223372036854775807 where
 cells:=hc
 len _:=rfl
 opens _ h _:=by
  obtain ⟨n,rfl,_,hw⟩:=DataW.trod_int hu h
  refine ⟨n,rdL_one rfl,?_⟩
  simp only [Lit.wf,Bool.and_eq_true,decide_eq_true_eq] at hw
  exact hw
theorem oeStr (hu:P.underlying t=some .string) (hc:P.cellsOf t=1):OpensE P N 1 (fun s=>[.lit (.string s)]) t fun s=>s.size≤140737488351232 where
 cells:=hc
 len _:=rfl
 opens _ h hw:=by
  obtain ⟨s,rfl,hx,hs⟩:=DataW.trod_string hu h
  refine ⟨s,rdL_one rfl,?_⟩
  rw [hx] at hw
  simp only [DataW.weights,List.all_cons,List.all_nil,Bool.and_true,Array.length_toList] at hw
  exact of_decide_eq_true hw
theorem oeBool (hu:P.underlying t=some .bool) (hc:P.cellsOf t=1):OpensE P N 1 (fun b=>[.lit (.bool b)]) t fun _=>True where
 cells:=hc
 len _:=rfl
 opens _ h _:=by
  obtain ⟨b,rfl,_⟩:=DataW.trod_bool hu h
  exact ⟨b,rdL_one rfl,trivial⟩
theorem oeSlice {α:Type} {f:α→List T} {sz:Nat} {e:TypeId} {good:α→Prop} {by_:Nat} (hu:P.underlying t=some (.slice e)) (hc:P.cellsOf t=1) (hb:P.bytesOf e=by_) (hs:0 < sz) (O:∀ M,M < N→OpensE P M sz f e good) (hce:P.cellsOf e=sz) :
  OpensE P N 1 (fun l:List α=>[.sl (l.map f)]) t fun l=>l.length * by_≤140737488351232∧l.length≤maxLen∧∀ x ∈ l,good x where
 cells:=hc
 len _:=rfl
 opens:=by
  intro H enc w base spare held fuel cs x hN h hw
  have hlt:=DataW.trod_lt fuel t cs x h
  rcases DataW.trod_slice hu h with ⟨rfl,_⟩ | ⟨a,len,cap,elems,rest,m,rfl,rfl,hx,hba,hl,hm,hlen,hel,_,_⟩
  ·refine ⟨[],?_,by simp [maxLen]⟩
   unfold RdL RdT RdL
   exact ⟨⟨none,0,0,rfl,rfl,Nat.le_refl _,.inl rfl⟩,trivial⟩
  ·have O':=O m (by omega)
   rw [hx] at hw
   simp only [DataW.weights,hu,List.all_cons,List.all_append,Bool.and_eq_true,hb,List.length_map] at hw
   obtain ⟨hw1',hw2,_⟩:=hw
   have hw1:(elems.length + rest.length) * by_≤140737488351232:=of_decide_eq_true hw1'
   clear hw1'
   have hv:∀ i,i < len→∃ y:α,(∃ cs',RdL w (fun b=>b < w.heap.size) (f y) cs'∧∀ j u,cs'[j]?=some u→w.cell? (a.add (i * sz + j))=some u)∧good y:=fun i hi=>by
    have h1:=hel i hi
    rw [List.getElem?_eq_getElem (by omega)] at h1
    obtain ⟨cs',h2,h3⟩:=Option.bind_eq_some_iff.1 h1
    obtain ⟨y,h4,h5⟩:=O'.opens (Nat.le_refl _) h3 (weightsAll_mem (List.mem_map.2 ⟨_,List.getElem_mem _,rfl⟩) hw2)
    obtain ⟨_,hl',hg⟩:=World.cells?_some h2
    rw [hce] at hl' hg
    exact ⟨y,⟨cs',h4,fun j u hu=>by
     have hj:j < sz:=by
      rw [← hl']
      rcases Nat.lt_or_ge j cs'.length with h | h
      ·exact h
      ·rw [List.getElem?_eq_none h] at hu;cases hu
     rw [← add_add',hg j hj,hu]⟩,h5⟩
   rcases Nat.eq_zero_or_pos len with h0 | h0
   ·subst h0
    refine ⟨[],?_,by simp [maxLen]⟩
    unfold RdL RdT RdL
    exact ⟨⟨some a,0,cap,rfl,rfl,hl,.inl rfl⟩,trivial⟩
   ·obtain ⟨y0,⟨cs0,hr0,hc0⟩,_⟩:=hv 0 h0
    have hl0:cs0.length=sz:=by rw [hr0.len',(O m (by omega)).len]
    have hsp:a.spot=none:=by
     have:=hc0 0 _ (List.getElem?_eq_getElem (by omega))
     exact (by simpa [Addr.add] using World.cell?_spot this)
    obtain ⟨b,o,s⟩:=a
    simp only at hsp
    subst hsp
    have hadd:∀ i,(⟨b,o,none⟩:Addr).add i=⟨b,o + i,none⟩:=fun i=>by unfold Addr.add;split <;> simp_all
    obtain ⟨g,hf⟩:=@choose_lt α ⟨y0⟩ len _ hv
    have hbl:b < w.heap.size:=by
     refine hlt (.cell b o) ?_
     rw [hx]
     refine List.mem_append_left _ ?_
     rw [hce]
     simp only [MemPlace.row,List.mem_map,List.mem_range]
     refine ⟨0,?_,by simp⟩
     exact Nat.mul_pos (by omega) hs
    refine ⟨(List.range len).map g,?_,?_,?_,?_⟩
    ·unfold RdL RdT RdL
     refine ⟨⟨_,len,cap,rfl,by simp,hl,.inr ⟨b,o,sz,rfl,hbl,rdRows_of fun k x hx=>?_⟩⟩,trivial⟩
     have hk:k < len:=by
      rcases Nat.lt_or_ge k len with h | h
      ·exact h
      ·rw [List.getElem?_eq_none (by simpa using h)] at hx;cases hx
     rw [List.getElem?_map,List.getElem?_map,List.getElem?_range hk] at hx
     simp only [Option.map_some,Option.some.injEq] at hx
     subst hx
     obtain ⟨⟨cs',h1,h2⟩,_⟩:=hf k hk
     exact ⟨(O m (by omega)).len _,cs',h1,fun j u hu=>by have:=h2 j u hu;rwa [hadd,← Nat.add_assoc] at this⟩
    ·rw [List.length_map,List.length_range]
     rw [hlen] at hw1
     rw [Nat.add_mul] at hw1
     omega
    ·rw [List.length_map,List.length_range];omega
    ·intro y hy
     obtain ⟨i,hi,rfl⟩:=List.mem_map.1 hy
     exact (hf i (List.mem_range.1 hi)).2
structure OeParts {α:Type} (P:Program) (N:Nat) (sz:Nat) (f:α→List T) (ts:List TypeId) (good:α→Prop):Prop where
 cells:(ts.map P.cellsOf).sum=sz
 len:∀ y,(f y).length=sz
 opens:∀ {H:Type} {enc:TypeId × Value→H} {w:World} {base:Nat} {spare:Nat→Bool} {held:Bool} {fuel:Nat} {cs:List Value} {xs:List (DataW H × List MemPlace)},
  fuel≤N→PartsOk P enc w base spare held fuel ts cs xs→(DataW.weightsEach P ts (xs.map (·.1))).all (·≤reachBytes)=true→∃ y,RdL w (fun b=>b < w.heap.size) (f y) cs∧good y
theorem oeOne {α:Type} {f:α→List T} {sz:Nat} {good:α→Prop} (O:OpensE P N sz f t good):OeParts P N sz f [t] good where
 cells:=by simp [O.cells]
 len:=O.len
 opens:=by
  intro H enc w base spare held fuel cs xs hN h hw
  match xs,h with
  | [x],⟨h1,h2⟩ =>
   have h2:cs.drop (P.cellsOf t)=[]:=h2
   simp only [List.map_cons,List.map_nil,DataW.weightsEach,List.append_nil] at hw
   have e:cs.take (P.cellsOf t)=cs:=by
    have:=List.take_append_drop (P.cellsOf t) cs
    rw [h2,List.append_nil] at this
    exact this
   rw [e] at h1
   exact O.opens hN h1 hw
theorem oeCons {α β:Type} {f:α→List T} {g:β→List T} {sz sz':Nat} {ts:List TypeId} {good:α→Prop} {good':β→Prop} (O:OpensE P N sz f t good) (O':OeParts P N sz' g ts good'):OeParts P N (sz + sz') (fun x:α × β=>f x.1++g x.2) (t :: ts) fun x=>good x.1∧good' x.2 where
 cells:=by rw [List.map_cons,List.sum_cons,O.cells,O'.cells]
 len y:=by rw [List.length_append,O.len,O'.len]
 opens:=by
  intro H enc w base spare held fuel cs xs hN h hw
  match xs,h with
  | x :: xs,⟨h1,h2⟩ =>
   simp only [List.map_cons,DataW.weightsEach,List.all_append,Bool.and_eq_true] at hw
   obtain ⟨y,a1,a2⟩:=O.opens hN h1 hw.1
   obtain ⟨z,b1,b2⟩:=O'.opens hN h2 hw.2
   refine ⟨(y,z),?_,a2,b2⟩
   rw [← List.take_append_drop (P.cellsOf t) cs]
   exact a1.append b1
theorem oeStruct {α:Type} {f:α→List T} {sz:Nat} {good:α→Prop} {fs:Array Field} {ts:List TypeId} (hu:P.underlying t=some (.struct fs)) (hts:fs.toList.map (·.type)=ts) (ho:offsOk P 0 fs.toList=true) (hc:P.cellsOf t=(ts.map P.cellsOf).sum) (hcr:P.cellsOf t=sz) (hlen:∀ y,(f y).length=sz) (O:∀ M,M < N→OeParts P M sz f ts good):OpensE P N sz f t good where
 cells:=hcr
 len:=hlen
 opens:=by
  intro H enc w base spare held fuel cs x hN h hw
  obtain ⟨xs,n,rfl,hx,hln,hxl,hf⟩:=DataW.trod_struct hu h
  subst hts
  have hp:=parts_of (P:=P) (n:=n) (enc:=enc) (w:=w) (base:=base) (spare:=spare) (held:=held) fs.toList 0 cs xs ho (by rw [hln,hc];omega) (by simpa using hxl) fun i f hfi=>hf i f (by simpa using hfi)
  rw [List.drop_zero] at hp
  rw [hx] at hw
  simp only [DataW.weights,hu] at hw
  exact (O n (by omega)).opens (Nat.le_refl _) hp hw
theorem oeTo {α β:Type} {f:α→List T} {sz:Nat} {good:α→Prop} (O:OpensE P N sz f t good) (m:α→β) {f':β→List T} {good':β→Prop} (hf:∀ x,f' (m x)=f x) (hl:∀ y,(f' y).length=sz) (hg:∀ x,good x→good' (m x)):OpensE P N sz f' t good' where
 cells:=O.cells
 len:=hl
 opens:=by
  intro H enc w base spare held fuel cs x hN ht hw
  obtain ⟨y,h1,h2⟩:=O.opens hN ht hw
  exact ⟨m y,by rw [hf];exact h1,hg y h2⟩
theorem oeArg {α:Type} {f:α→List T} {sz:Nat} {good:α→Prop} (O:∀ N,OpensE P N sz f t good) {H:Type} {enc:TypeId × Value→H} {w:World} {base:Nat} {spare:Nat→Bool} {held:Bool} {cs:List Value} {x:DataW H × List MemPlace}
  (h:∃ fuel,DataW.trod enc P w base spare held fuel t cs=some x) (hw:(DataW.weights P t x.1).all (·≤reachBytes)=true):∃ y,RdL w (fun b=>b < w.heap.size) (f y) cs∧good y:=by
 obtain ⟨fuel,hf⟩:=h
 exact (O fuel).opens (Nat.le_refl _) hf hw
end
theorem Sp.law {P:Program} {f:FuncId} {args:List A} {w:World} {vs:List Value} (h:Sp P f args (.one (.t true (.lit (.bool true)))) []) (hG:GW w) (hvs:RdAs w (fun b=>b < w.heap.size) args vs):Calls P f vs.toArray w fun e w'=>e=.returned (.bool true)∧Below w.heap.size w w' :=
 (h.calls w (fun b=>b < w.heap.size) (fun _ h=>h) vs hG hvs).mono fun e w'=>by
  rintro ⟨x,ρ,rfl,hb,_,_,_,hx,_⟩
  unfold RdV RdC RdT at hx
  exact ⟨by rw [hx.1],hb⟩
section
variable {w:World} {ok:Nat→Prop}
theorem rdAs_nil:RdAs w ok [] []:=by unfold RdAs;trivial
theorem rdAs_cons {a:A} {as_:List A} {v:Value} {vs:List Value} (h:RdA w ok a v) (h':RdAs w ok as_ vs):RdAs w ok (a :: as_) (v :: vs):=by unfold RdAs;exact ⟨h,h'⟩
theorem rdA_agg {ts:List T} {cs:Array Value} (h:RdL w ok ts (Value.agg cs).cells.toList):RdA w ok (.agg ts) (.agg cs):=by unfold RdA;exact ⟨cs,rfl,h⟩
theorem rdA_lit {v:Value} (h:v.oneCell'=true):RdA w ok (.one (.lit v)) v:=by unfold RdA RdT;exact ⟨rfl,h⟩
end
end Go.Proofs.YtjdgejfhnfnmgaaGreatDoor.Ax
namespace Go.Proofs.YtjdgejfhnfnmgaaGreatDoor.Ax
open Go.RowKit
theorem opensStrE (N:Nat):OpensE Tryz.prog N 1 (fun s=>[.lit (.string s)]) 9 fun s=>s.size≤140737488351232:=oeStr Tryz.underlying9 (by kernel_rfl)
theorem opensIntE (N:Nat):OpensE Tryz.prog N 1 (fun n=>[.lit (.int .i64 n)]) 3 fun n=>-9223372036854775808≤n∧n≤9223372036854775807:=oeInt Tryz.underlying3 (by kernel_rfl)
def goodV (v:Vl):Prop:=(-9223372036854775808≤v.k∧v.k≤9223372036854775807)∧(-9223372036854775808≤v.n∧v.n≤9223372036854775807)∧v.s.size≤140737488351232
theorem opensVlE (N:Nat):OpensE Tryz.prog N 3 rV1 24 goodV :=
 oeTo (oeStruct (f:=fun x:Int × Int × ByteArray=>[.lit (.int .i64 x.1)]++([.lit (.int .i64 x.2.1)]++[.lit (.string x.2.2)])) (sz:=1 + (1 + 1)) Tryz.underlying24 (ts:=[3,3,9]) rfl (by kernel_rfl) (by kernel_rfl) (by kernel_rfl) (fun _=>rfl) (fun M _=>oeCons (opensIntE M) (oeCons (opensIntE M) (oeOne (opensStrE M)))))
  (fun x=>(⟨x.1,x.2.1,x.2.2⟩:Vl)) (fun _=>rfl) (fun _=>rfl) (fun _ h=>h)
theorem opensVlsE (N:Nat):OpensE Tryz.prog N 1 (fun l=>[.sl (rVs l)]) 25 fun l=>l.length * 32≤140737488351232∧l.length≤maxLen∧∀ x ∈ l,goodV x :=
 oeSlice Tryz.underlying25 (by kernel_rfl) (by kernel_rfl) (by decide) (fun M _=>opensVlE M) (by kernel_rfl)
def goodC (c:Col):Prop:=c.name.size≤140737488351232∧(-9223372036854775808≤c.ty∧c.ty≤9223372036854775807)
end Go.Proofs.YtjdgejfhnfnmgaaGreatDoor.Ax
namespace Go.Proofs.YtjdgejfhnfnmgaaGreatDoor.Ax
open Go.RowKit
theorem opensColE (N:Nat):OpensE Tryz.prog N 2 rC1 54 goodC :=
 oeTo (oeStruct (f:=fun x:ByteArray × Int=>[.lit (.string x.1)]++[.lit (.int .i64 x.2)]) (sz:=1 + 1) Tryz.underlying54 (ts:=[9,3]) rfl (by kernel_rfl) (by kernel_rfl) (by kernel_rfl) (fun _=>rfl) (fun M _=>oeCons (opensStrE M) (oeOne (opensIntE M))))
  (fun x=>(⟨x.1,x.2⟩:Col)) (fun _=>rfl) (fun _=>rfl) (fun _ h=>h)
theorem opensColsE (N:Nat):OpensE Tryz.prog N 1 (fun l=>[.sl (rCs l)]) 22 fun l=>l.length * 24≤140737488351232∧l.length≤maxLen∧∀ x ∈ l,goodC x :=
 oeSlice Tryz.underlying22 (by kernel_rfl) (by kernel_rfl) (by decide) (fun M _=>opensColE M) (by kernel_rfl)
inductive goodE:Ex→Prop
 | mk {k:Int} {v:Vl} {nm:ByteArray} {ar:List Ex} (hk:-9223372036854775808≤k∧k≤9223372036854775807) (hv:goodV v) (hn:nm.size≤140737488351232) (hl:ar.length * 80≤140737488351232∧ar.length≤maxLen) (ha:∀ a ∈ ar,goodE a):goodE (.mk k v nm ar)
theorem opensExE (N:Nat):OpensE Tryz.prog N 6 rE 29 goodE:=by
 induction N using Nat.strongRecOn with
 | ind N ih =>
  exact oeTo (oeStruct (f:=fun x:Int × Vl × ByteArray × List Ex=>[.lit (.int .i64 x.1)]++(rV1 x.2.1++([.lit (.string x.2.2.1)]++[.sl (x.2.2.2.map rE)]))) (sz:=1 + (3 + (1 + 1))) Tryz.underlying29 (ts:=[3,24,9,27]) rfl (by kernel_rfl) (by kernel_rfl) (by kernel_rfl) (fun _=>rfl)
   (fun M hM=>oeCons (opensIntE M) (oeCons (opensVlE M) (oeCons (opensStrE M) (oeOne (oeSlice Tryz.underlying27 (by kernel_rfl) (by_:=80) (by kernel_rfl) (by decide) (fun M' h=>ih M' (by omega)) (by kernel_rfl)))))))
   (fun x=>(Ex.mk x.1 x.2.1 x.2.2.1 x.2.2.2)) (fun _=>by rw [rE_mk];rfl) (fun _=>by rw [rE_len]) (fun _ h=>.mk h.1 h.2.1 h.2.2.1 ⟨h.2.2.2.1,h.2.2.2.2.1⟩ h.2.2.2.2.2)
end Go.Proofs.YtjdgejfhnfnmgaaGreatDoor.Ax
namespace Go.Proofs.YtjdgejfhnfnmgaaGreatDoor
open Go.RowKit
def wordsL:List ByteArray:=[⟨#[99,114,101,97,116,101]⟩,⟨#[116,97,98,108,101]⟩,⟨#[100,114,111,112]⟩,⟨#[97,108,116,101,114]⟩,⟨#[97,100,100]⟩,⟨#[100,101,102,97,117,108,116]⟩,⟨#[114,101,110,97,109,101]⟩,⟨#[116,111]⟩,⟨#[114,101,116,121,112,101]⟩,⟨#[105,110,100,101,120]⟩,⟨#[111,110]⟩,⟨#[105,110,115,101,114,116]⟩,⟨#[105,110,116,111]⟩,⟨#[118,97,108,117,101,115]⟩,⟨#[100,101,108,101,116,101]⟩,⟨#[102,114,111,109]⟩,⟨#[119,104,101,114,101]⟩,⟨#[117,112,100,97,116,101]⟩,⟨#[115,101,116]⟩,⟨#[115,101,108,101,99,116]⟩,⟨#[111,114,100,101,114]⟩,⟨#[98,121]⟩,⟨#[108,105,109,105,116]⟩,⟨#[98,101,103,105,110]⟩,⟨#[99,111,109,109,105,116]⟩,⟨#[114,111,108,108,98,97,99,107]⟩,⟨#[105,110,116]⟩,⟨#[116,101,120,116]⟩,⟨#[98,111,111,108]⟩,⟨#[116,114,117,101]⟩,⟨#[102,97,108,115,101]⟩,⟨#[110,117,108,108]⟩,⟨#[110,111,116]⟩,⟨#[105,115]⟩,⟨#[97,110,100]⟩,⟨#[111,114]⟩]
def isWordB (s:ByteArray):Bool:=wordsL.any fun x=>x.toList==s.toList
def nameB (s:ByteArray):Bool:=tokB 1 s && !isWordB s
mutual
def exprB:Ex→Bool
 | .mk k v nm ar=>plainB k v nm ar.length && ((!(k==2) || nameB nm) && ((v.chk==0) && exprsB ar))
def exprsB:List Ex→Bool
 | []=>true
 | x :: l=>exprB x && exprsB l
end
def Ex.k:Ex→Int | .mk k _ _ _=>k
def noneB:Ex→Bool
 | .mk k v nm ar=>(k==0) && (v.same Vl.zero && (emptyS nm && ((ar.length:Int)==0)))
mutual
def sameE:Ex→Ex→Bool
 | .mk k v nm ar,.mk k' v' nm' ar'=>(k==k') && ((nm.toList==nm'.toList) && (v.same v' && sameEs ar ar'))
def sameEs:List Ex→List Ex→Bool
 | [],[]=>true
 | x :: l,y :: m=>sameE x y && sameEs l m
 | _,_=>false
end
theorem sameEs_len:∀ (l m:List Ex),sameEs l m=true→l.length=m.length
 | [],[],_=>rfl
 | x :: l,y :: m,h=>by
  rw [sameEs,Bool.and_eq_true] at h
  rw [List.length_cons,List.length_cons,sameEs_len l m h.2]
 | [],_ :: _,h=>by rw [sameEs] at h;cases h;all_goals simp
 | _ :: _,[],h=>by rw [sameEs] at h;cases h;all_goals simp
theorem exprsB_any:∀ l:List Ex,exprsB l=!(l.any fun x=>!exprB x)
 | []=>rfl
 | x :: l=>by
  rw [exprsB,List.any_cons,exprsB_any l]
  cases exprB x <;> simp
structure Cm where
 k:Int
 name:ByteArray
 other:ByteArray
 column:ByteArray
 cols:List Col
 ty:Int
 v:Vl
 vals:List Vl
 fields:List ByteArray
 ex:Ex
 all:Bool
 wh:Ex
 order:ByteArray
 limit:Int
def eqBy {α:Type} (p:α→α→Bool):List α→List α→Bool
 | [],[]=>true
 | a :: l,b :: m=>p a b && eqBy p l m
 | _,_=>false
theorem eqBy_len {α:Type} (p:α→α→Bool):∀ (l m:List α),eqBy p l m=true→l.length=m.length
 | [],[],_=>rfl
 | x :: l,y :: m,h=>by
  rw [eqBy,Bool.and_eq_true] at h
  rw [List.length_cons,List.length_cons,eqBy_len p l m h.2]
 | [],_ :: _,h=>by simp [eqBy] at h
 | _ :: _,[],h=>by simp [eqBy] at h
theorem eqBy_not {α:Type} {p:α→α→Bool} {l m:List α} (h:¬ l.length=m.length):eqBy p l m=false:=by
 rw [Bool.eq_false_iff]
 exact fun g=>h (eqBy_len p l m g)
theorem eqBy_drop {α:Type} {p:α→α→Bool} {l m:List α} {i:Nat} {x y:α} (hx:l[i]?=some x) (hy:m[i]?=some y):eqBy p (l.drop i) (m.drop i)=(p x y && eqBy p (l.drop (i + 1)) (m.drop (i + 1))):=by
 rw [drop_eq' _ _ _ hx,drop_eq' _ _ _ hy,eqBy]
def colEq (a b:Col):Bool:=(a.name.toList==b.name.toList) && (a.ty==b.ty)
def strEq (a b:ByteArray):Bool:=a.toList==b.toList
def sameC (c d:Cm):Bool :=
 (c.k==d.k) && (c.name.toList==d.name.toList) && (c.other.toList==d.other.toList) && (c.column.toList==d.column.toList) && (c.ty==d.ty) && c.v.same d.v && (c.all==d.all) && (c.order.toList==d.order.toList) && (c.limit==d.limit) &&
 sameE c.ex d.ex && sameE c.wh d.wh && eqBy colEq c.cols d.cols && eqBy strEq c.fields d.fields && eqBy Vl.same c.vals d.vals
def namedB (s:ByteArray) (must:Bool):Bool:=if must=true then nameB s else emptyS s
def kName (k:Int):Bool:=decide (1≤k) && decide (k≤13)
def kOther (k:Int):Bool:=(k==5) || ((k==7) || (k==8))
def kColumn (k:Int):Bool:=(decide (3≤k) && decide (k≤6)) || ((k==8) || (k==12))
def kType (k:Int):Bool:=(k==3) || (k==6)
def kWhere (k:Int):Bool:=decide (11≤k) && decide (k≤13)
end Go.Proofs.YtjdgejfhnfnmgaaGreatDoor
namespace Go.Proofs.YtjdgejfhnfnmgaaGreatDoor
open Go.RowKit
theorem letter_any (c:UInt8) (w:World) :
  Calls Tryz.prog 91 #[.int .u8 c.toNat] w fun e w'=>e=.returned (.bool (letterB c))∧w=w':=by
 by_cases h1:97≤(c.toNat:Int) <;> by_cases h2:(c.toNat:Int)≤122
 all_goals
  try (exfalso;omega)
 all_goals
  go_enter Tryz.func91,Tryz.ntmps91
  go_wp2
  go_ret
  exact ⟨by simp [letterB,h1,h2],rfl⟩
theorem digit_any (c:UInt8) (w:World) :
  Calls Tryz.prog 93 #[.int .u8 c.toNat] w fun e w'=>e=.returned (.bool (digitB c))∧w=w':=by
 by_cases h1:48≤(c.toNat:Int) <;> by_cases h2:(c.toNat:Int)≤57
 all_goals
  try (exfalso;omega)
 all_goals
  go_enter Tryz.func93,Tryz.ntmps93
  go_wp2
  go_ret
  exact ⟨by simp [digitB,h1,h2],rfl⟩
theorem tquot1_any (c:UInt8) (w:World) :
  Calls Tryz.prog 139 #[.int .u8 c.toNat] w fun e w'=>e=.returned (.bool (quotB c))∧w=w':=by
 by_cases h1:32≤(c.toNat:Int) <;> by_cases h2:(c.toNat:Int)≤126 <;> by_cases h3:(c.toNat:Int)=39
 all_goals
  try (exfalso;omega)
 all_goals
  have H3:=Lib.hid h3
  try have h4:((c.toNat:Int) != 39)=true:=by simpa using h3
  try have h4:((c.toNat:Int) != 39)=false:=by simpa using h3
  clear h3
  go_enter Tryz.func139,Tryz.ntmps139
  go_wp2
  go_ret
  exact ⟨by simp [quotB,h1,h2,H3.out],rfl⟩
theorem blank_any (c:UInt8) (w:World) :
  Calls Tryz.prog 90 #[.int .u8 c.toNat] w fun e w'=>e=.returned (.bool (blankB c))∧w=w':=by
 have hb:blankB c=(((c.toNat:Int)==32) || ((c.toNat:Int)==9) || ((c.toNat:Int)==10)):=rfl
 have HB:=Lib.hid hb
 clear hb
 rcases h1:((c.toNat:Int)==32) with _ | _ <;> rcases h2:((c.toNat:Int)==9) with _ | _ <;> rcases h3:((c.toNat:Int)==10) with _ | _
 all_goals
  rw [h1,h2,h3] at HB
  go_enter Tryz.func90,Tryz.ntmps90
  go_wp2
  go_ret
  exact ⟨by rw [HB.out];rfl,rfl⟩
theorem word_any (c:UInt8) (w:World) :
  Calls Tryz.prog 92 #[.int .u8 c.toNat] w fun e w'=>e=.returned (.bool (wordB c))∧w=w':=by
 have HB:Hid (wordB c=(letterB c || digitB c)):=Lib.hid rfl
 have H1:=Lib.hid (letter_any c)
 have H2:=Lib.hid (digit_any c)
 generalize letterB c=a at *
 generalize digitB c=b at *
 cases a
 ·go_enter Tryz.func92,Tryz.ntmps92
  go_wp2_with fail
  refine (H1.out w).mono ?_
  rintro e w1 ⟨rfl,rfl⟩
  go_wp2_with fail
  refine (H2.out w).mono ?_
  rintro e w1 ⟨rfl,rfl⟩
  go_wp2_with fail
  go_ret
  exact ⟨by rw [HB.out];simp,rfl⟩
 ·go_enter Tryz.func92,Tryz.ntmps92
  go_wp2_with fail
  refine (H1.out w).mono ?_
  rintro e w1 ⟨rfl,rfl⟩
  go_wp2_with fail
  go_ret
  exact ⟨by rw [HB.out];simp,rfl⟩
end Go.Proofs.YtjdgejfhnfnmgaaGreatDoor
namespace Go.Proofs.YtjdgejfhnfnmgaaGreatDoor
open Go.RowKit
set_option maxHeartbeats 2000000 in
theorem run_blank (s:ByteArray) (p g:Nat) (w:World) (hp:p≤s.size) (hs:s.size≤9223372036854775807) (hg:Blk w g 80 #[.string s,.int .i64 p]) :
  Calls Tryz.prog 89 #[.pointer (some ⟨g,0,none⟩),.func (.func 90) #[] #[]] w fun e w'=>e=.returned (.string (s.extract p (p + runN blankB (s.data.toList.drop p)))) ∧
   Blk w' g 80 #[.string s,.int .i64 ((p + runN blankB (s.data.toList.drop p):Nat):Int)]∧w.grownBy w' (some g):=by
 obtain ⟨c0,c1,f0,f1,hgl⟩:=hg.two
 have hR:=runN_le blankB (s.data.toList.drop p)
 rw [List.length_drop,Array.length_toList,show s.data.size=s.size from rfl] at hR
 have HD:=Lib.hid (fun k (h:k < s.size)=>drop_at s k h)
 obtain ⟨z,hz⟩:∃ z,z=p + runN blankB (s.data.toList.drop p):=⟨_,rfl⟩
 have hz1:p≤z:=by omega
 have hz2:z≤s.size:=by omega
 have HN:=Lib.hid hz
 rw [← hz]
 clear hz hR
 go_enter Tryz.func89,Tryz.ntmps89
 go_wp2_with fail
 go_loopg [] (z - p) (fun m wr=>∃ j:Nat,m=z - j∧p≤j∧j≤z∧j + runN blankB (s.data.toList.drop j)=z∧Blk wr g 80 #[.string s,.int .i64 j]∧w.grownBy wr (some g))
 case atStart=>exact ⟨p,rfl,Nat.le_refl _,hz1,HN.out.symm,hg,World.grownBy.refl _ _⟩
 case round =>
  clear c0 c1 f0 f1 hgl
  obtain ⟨j,rfl,hpj,hjz,hrun,hg,ht⟩:=hrel
  obtain ⟨c0,c1,f0,f1,hgl⟩:=hg.two
  have HRN:=Lib.hid hrun
  clear hrun
  by_cases hlt:j < s.size
  ·have HC:=Lib.hid (fun W=>blank_any s[j] W)
   by_cases hq:blankB s[j]=true
   ·have hk1:j + 1≤z∧(j + 1) + runN blankB (s.data.toList.drop (j + 1))=z:=by
     have h1:=HRN.out
     rw [HD.out j hlt,runN,if_pos hq] at h1
     omega
    have HK:=Lib.hid hk1
    rw [hq] at HC
    clear hq hk1
    go_wp2_with fail
    go_quiet ((go_at_call 90;exact Calls.quiet_of_same ((HC.out _).mono fun _ _ h=>⟨h.1,h.2.symm⟩)))
    go_wp2_with fail
    go_roundg (z - (j + 1))
    case rel=>exact ⟨j + 1,rfl,by omega,HK.out.1,HK.out.2,by rw [show ((j + 1:Nat):Int)=(j:Int) + 1 from by omega];exact (hg.put 1 _),turn_drewN (turn_put ht 1 _) _⟩
    case measure=>have:=HK.out.1;omega
   ·have hq':blankB s[j]=false:=by simpa using hq
    have hk0:j=z:=by
     have h1:=HRN.out
     rw [HD.out j hlt,runN,if_neg hq] at h1
     omega
    rw [hq'] at HC
    clear hq hq'
    subst hk0
    go_wp2_with fail
    go_quiet ((go_at_call 90;exact Calls.quiet_of_same ((HC.out _).mono fun _ _ h=>⟨h.1,h.2.symm⟩)))
    go_wp2_with fail
    go_quiet (fail)
    go_wp2_with fail
    go_ret
    exact ⟨rfl,hg,turn_drewN (turn_drewN ht _) _⟩
  ·have hk0:j=z:=by omega
   subst hk0
   have hld:decide (j < s.size)=false:=by simpa using hlt
   go_wp2_with fail
   go_quiet (fail)
   go_wp2_with fail
   go_quiet (fail)
   go_wp2_with fail
   go_ret
   exact ⟨rfl,hg,turn_drewN (turn_drewN ht _) _⟩
set_option maxHeartbeats 2000000 in
theorem run_word (s:ByteArray) (p g:Nat) (w:World) (hp:p≤s.size) (hs:s.size≤9223372036854775807) (hg:Blk w g 80 #[.string s,.int .i64 p]) :
  Calls Tryz.prog 89 #[.pointer (some ⟨g,0,none⟩),.func (.func 92) #[] #[]] w fun e w'=>e=.returned (.string (s.extract p (p + runN wordB (s.data.toList.drop p)))) ∧
   Blk w' g 80 #[.string s,.int .i64 ((p + runN wordB (s.data.toList.drop p):Nat):Int)]∧w.grownBy w' (some g):=by
 obtain ⟨c0,c1,f0,f1,hgl⟩:=hg.two
 have hR:=runN_le wordB (s.data.toList.drop p)
 rw [List.length_drop,Array.length_toList,show s.data.size=s.size from rfl] at hR
 have HD:=Lib.hid (fun k (h:k < s.size)=>drop_at s k h)
 obtain ⟨z,hz⟩:∃ z,z=p + runN wordB (s.data.toList.drop p):=⟨_,rfl⟩
 have hz1:p≤z:=by omega
 have hz2:z≤s.size:=by omega
 have HN:=Lib.hid hz
 rw [← hz]
 clear hz hR
 go_enter Tryz.func89,Tryz.ntmps89
 go_wp2_with fail
 go_loopg [] (z - p) (fun m wr=>∃ j:Nat,m=z - j∧p≤j∧j≤z∧j + runN wordB (s.data.toList.drop j)=z∧Blk wr g 80 #[.string s,.int .i64 j]∧w.grownBy wr (some g))
 case atStart=>exact ⟨p,rfl,Nat.le_refl _,hz1,HN.out.symm,hg,World.grownBy.refl _ _⟩
 case round =>
  clear c0 c1 f0 f1 hgl
  obtain ⟨j,rfl,hpj,hjz,hrun,hg,ht⟩:=hrel
  obtain ⟨c0,c1,f0,f1,hgl⟩:=hg.two
  have HRN:=Lib.hid hrun
  clear hrun
  by_cases hlt:j < s.size
  ·have HC:=Lib.hid (fun W=>word_any s[j] W)
   by_cases hq:wordB s[j]=true
   ·have hk1:j + 1≤z∧(j + 1) + runN wordB (s.data.toList.drop (j + 1))=z:=by
     have h1:=HRN.out
     rw [HD.out j hlt,runN,if_pos hq] at h1
     omega
    have HK:=Lib.hid hk1
    rw [hq] at HC
    clear hq hk1
    go_wp2_with fail
    go_quiet ((go_at_call 92;exact Calls.quiet_of_same ((HC.out _).mono fun _ _ h=>⟨h.1,h.2.symm⟩)))
    go_wp2_with fail
    go_roundg (z - (j + 1))
    case rel=>exact ⟨j + 1,rfl,by omega,HK.out.1,HK.out.2,by rw [show ((j + 1:Nat):Int)=(j:Int) + 1 from by omega];exact (hg.put 1 _),turn_drewN (turn_put ht 1 _) _⟩
    case measure=>have:=HK.out.1;omega
   ·have hq':wordB s[j]=false:=by simpa using hq
    have hk0:j=z:=by
     have h1:=HRN.out
     rw [HD.out j hlt,runN,if_neg hq] at h1
     omega
    rw [hq'] at HC
    clear hq hq'
    subst hk0
    go_wp2_with fail
    go_quiet ((go_at_call 92;exact Calls.quiet_of_same ((HC.out _).mono fun _ _ h=>⟨h.1,h.2.symm⟩)))
    go_wp2_with fail
    go_quiet (fail)
    go_wp2_with fail
    go_ret
    exact ⟨rfl,hg,turn_drewN (turn_drewN ht _) _⟩
  ·have hk0:j=z:=by omega
   subst hk0
   have hld:decide (j < s.size)=false:=by simpa using hlt
   go_wp2_with fail
   go_quiet (fail)
   go_wp2_with fail
   go_quiet (fail)
   go_wp2_with fail
   go_ret
   exact ⟨rfl,hg,turn_drewN (turn_drewN ht _) _⟩
set_option maxHeartbeats 2000000 in
theorem run_digit (s:ByteArray) (p g:Nat) (w:World) (hp:p≤s.size) (hs:s.size≤9223372036854775807) (hg:Blk w g 80 #[.string s,.int .i64 p]) :
  Calls Tryz.prog 89 #[.pointer (some ⟨g,0,none⟩),.func (.func 93) #[] #[]] w fun e w'=>e=.returned (.string (s.extract p (p + runN digitB (s.data.toList.drop p)))) ∧
   Blk w' g 80 #[.string s,.int .i64 ((p + runN digitB (s.data.toList.drop p):Nat):Int)]∧w.grownBy w' (some g):=by
 obtain ⟨c0,c1,f0,f1,hgl⟩:=hg.two
 have hR:=runN_le digitB (s.data.toList.drop p)
 rw [List.length_drop,Array.length_toList,show s.data.size=s.size from rfl] at hR
 have HD:=Lib.hid (fun k (h:k < s.size)=>drop_at s k h)
 obtain ⟨z,hz⟩:∃ z,z=p + runN digitB (s.data.toList.drop p):=⟨_,rfl⟩
 have hz1:p≤z:=by omega
 have hz2:z≤s.size:=by omega
 have HN:=Lib.hid hz
 rw [← hz]
 clear hz hR
 go_enter Tryz.func89,Tryz.ntmps89
 go_wp2_with fail
 go_loopg [] (z - p) (fun m wr=>∃ j:Nat,m=z - j∧p≤j∧j≤z∧j + runN digitB (s.data.toList.drop j)=z∧Blk wr g 80 #[.string s,.int .i64 j]∧w.grownBy wr (some g))
 case atStart=>exact ⟨p,rfl,Nat.le_refl _,hz1,HN.out.symm,hg,World.grownBy.refl _ _⟩
 case round =>
  clear c0 c1 f0 f1 hgl
  obtain ⟨j,rfl,hpj,hjz,hrun,hg,ht⟩:=hrel
  obtain ⟨c0,c1,f0,f1,hgl⟩:=hg.two
  have HRN:=Lib.hid hrun
  clear hrun
  by_cases hlt:j < s.size
  ·have HC:=Lib.hid (fun W=>digit_any s[j] W)
   by_cases hq:digitB s[j]=true
   ·have hk1:j + 1≤z∧(j + 1) + runN digitB (s.data.toList.drop (j + 1))=z:=by
     have h1:=HRN.out
     rw [HD.out j hlt,runN,if_pos hq] at h1
     omega
    have HK:=Lib.hid hk1
    rw [hq] at HC
    clear hq hk1
    go_wp2_with fail
    go_quiet ((go_at_call 93;exact Calls.quiet_of_same ((HC.out _).mono fun _ _ h=>⟨h.1,h.2.symm⟩)))
    go_wp2_with fail
    go_roundg (z - (j + 1))
    case rel=>exact ⟨j + 1,rfl,by omega,HK.out.1,HK.out.2,by rw [show ((j + 1:Nat):Int)=(j:Int) + 1 from by omega];exact (hg.put 1 _),turn_drewN (turn_put ht 1 _) _⟩
    case measure=>have:=HK.out.1;omega
   ·have hq':digitB s[j]=false:=by simpa using hq
    have hk0:j=z:=by
     have h1:=HRN.out
     rw [HD.out j hlt,runN,if_neg hq] at h1
     omega
    rw [hq'] at HC
    clear hq hq'
    subst hk0
    go_wp2_with fail
    go_quiet ((go_at_call 93;exact Calls.quiet_of_same ((HC.out _).mono fun _ _ h=>⟨h.1,h.2.symm⟩)))
    go_wp2_with fail
    go_quiet (fail)
    go_wp2_with fail
    go_ret
    exact ⟨rfl,hg,turn_drewN (turn_drewN ht _) _⟩
  ·have hk0:j=z:=by omega
   subst hk0
   have hld:decide (j < s.size)=false:=by simpa using hlt
   go_wp2_with fail
   go_quiet (fail)
   go_wp2_with fail
   go_quiet (fail)
   go_wp2_with fail
   go_ret
   exact ⟨rfl,hg,turn_drewN (turn_drewN ht _) _⟩
set_option maxHeartbeats 2000000 in
theorem run_quot (s:ByteArray) (p g:Nat) (w:World) (hp:p≤s.size) (hs:s.size≤9223372036854775807) (hg:Blk w g 80 #[.string s,.int .i64 p]) :
  Calls Tryz.prog 89 #[.pointer (some ⟨g,0,none⟩),.func (.func 139) #[] #[]] w fun e w'=>e=.returned (.string (s.extract p (p + runN quotB (s.data.toList.drop p)))) ∧
   Blk w' g 80 #[.string s,.int .i64 ((p + runN quotB (s.data.toList.drop p):Nat):Int)]∧w.grownBy w' (some g):=by
 obtain ⟨c0,c1,f0,f1,hgl⟩:=hg.two
 have hR:=runN_le quotB (s.data.toList.drop p)
 rw [List.length_drop,Array.length_toList,show s.data.size=s.size from rfl] at hR
 have HD:=Lib.hid (fun k (h:k < s.size)=>drop_at s k h)
 obtain ⟨z,hz⟩:∃ z,z=p + runN quotB (s.data.toList.drop p):=⟨_,rfl⟩
 have hz1:p≤z:=by omega
 have hz2:z≤s.size:=by omega
 have HN:=Lib.hid hz
 rw [← hz]
 clear hz hR
 go_enter Tryz.func89,Tryz.ntmps89
 go_wp2_with fail
 go_loopg [] (z - p) (fun m wr=>∃ j:Nat,m=z - j∧p≤j∧j≤z∧j + runN quotB (s.data.toList.drop j)=z∧Blk wr g 80 #[.string s,.int .i64 j]∧w.grownBy wr (some g))
 case atStart=>exact ⟨p,rfl,Nat.le_refl _,hz1,HN.out.symm,hg,World.grownBy.refl _ _⟩
 case round =>
  clear c0 c1 f0 f1 hgl
  obtain ⟨j,rfl,hpj,hjz,hrun,hg,ht⟩:=hrel
  obtain ⟨c0,c1,f0,f1,hgl⟩:=hg.two
  have HRN:=Lib.hid hrun
  clear hrun
  by_cases hlt:j < s.size
  ·have HC:=Lib.hid (fun W=>tquot1_any s[j] W)
   by_cases hq:quotB s[j]=true
   ·have hk1:j + 1≤z∧(j + 1) + runN quotB (s.data.toList.drop (j + 1))=z:=by
     have h1:=HRN.out
     rw [HD.out j hlt,runN,if_pos hq] at h1
     omega
    have HK:=Lib.hid hk1
    rw [hq] at HC
    clear hq hk1
    go_wp2_with fail
    go_quiet ((go_at_call 139;exact Calls.quiet_of_same ((HC.out _).mono fun _ _ h=>⟨h.1,h.2.symm⟩)))
    go_wp2_with fail
    go_roundg (z - (j + 1))
    case rel=>exact ⟨j + 1,rfl,by omega,HK.out.1,HK.out.2,by rw [show ((j + 1:Nat):Int)=(j:Int) + 1 from by omega];exact (hg.put 1 _),turn_drewN (turn_put ht 1 _) _⟩
    case measure=>have:=HK.out.1;omega
   ·have hq':quotB s[j]=false:=by simpa using hq
    have hk0:j=z:=by
     have h1:=HRN.out
     rw [HD.out j hlt,runN,if_neg hq] at h1
     omega
    rw [hq'] at HC
    clear hq hq'
    subst hk0
    go_wp2_with fail
    go_quiet ((go_at_call 139;exact Calls.quiet_of_same ((HC.out _).mono fun _ _ h=>⟨h.1,h.2.symm⟩)))
    go_wp2_with fail
    go_quiet (fail)
    go_wp2_with fail
    go_ret
    exact ⟨rfl,hg,turn_drewN (turn_drewN ht _) _⟩
  ·have hk0:j=z:=by omega
   subst hk0
   have hld:decide (j < s.size)=false:=by simpa using hlt
   go_wp2_with fail
   go_quiet (fail)
   go_wp2_with fail
   go_quiet (fail)
   go_wp2_with fail
   go_ret
   exact ⟨rfl,hg,turn_drewN (turn_drewN ht _) _⟩
end Go.Proofs.YtjdgejfhnfnmgaaGreatDoor
