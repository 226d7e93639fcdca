/-  -/
import Derived.Test.YtjdgejfhnfnmgaaGreatDoorP2
namespace Go.Proofs.YtjdgejfhnfnmgaaGreatDoor.Ax
open Go.RowKit
def fillL {α:Type} (place:Nat→Option (Nat × Nat)):List α→List (Nat × List α)→Option (List α)
 | cells,[]=>some cells
 | cells,(i,v) :: rest=>match place i with
  | none=>none
  | some (off,size)=>if v.length=size∧off + v.length≤cells.length then fillL place (cells.take off++v++cells.drop (off + v.length)) rest else none
theorem fold_set (off:Nat):∀ (vs:List Value) (k:Nat) (cs:Array Value),off + k + vs.length≤cs.size →
  ((vs.zipIdx k).foldl (fun cs p=>cs.setIfInBounds (off + p.2) p.1) cs)=(cs.toList.take (off + k)++vs++cs.toList.drop (off + k + vs.length)).toArray
 | [],k,cs,_=>by simp
 | v :: vs,k,cs,h=>by
  rw [List.zipIdx_cons,List.foldl_cons,fold_set off vs (k + 1) _ (by simp at h ⊢;omega)]
  have e:=list_seg_step cs.toList (off + k) v vs (by simp at h ⊢;omega)
  congr 1
  simpa [Array.toList_setIfInBounds,Nat.add_assoc] using e
theorem fill_eq (place:Nat→Option (Nat × Nat)):∀ (parts:List (Nat × Value)) (cells:Array Value),Instr.fill place cells parts=(fillL place cells.toList (parts.map fun p=>(p.1,p.2.cells.toList))).map List.toArray
 | [],cells=>by simp [Instr.fill,fillL]
 | (i,v) :: rest,cells=>by
  simp only [Instr.fill,List.map_cons,fillL]
  cases hp:place i with
  | none=>rfl
  | some q =>
   obtain ⟨off,size⟩:=q
   simp only [Array.length_toList]
   by_cases hc:v.cells.size=size∧off + v.cells.size≤cells.size
   ·rw [if_neg (by simp [hc.1];omega),if_pos (by simpa using hc),fill_eq place rest]
    congr 2
    have:=fold_set off v.cells.toList 0 cells (by simpa using hc.2)
    rw [← Array.foldl_toList,Array.toList_zipIdx]
    rw [Nat.add_zero] at this
    rw [this]
    simp
   ·rw [if_pos (by
     simp only [Bool.or_eq_true,decide_eq_true_eq,ne_eq]
     by_cases h1:v.cells.size=size
     ·exact .inr (by have:=fun h=>hc ⟨h1,h⟩;omega)
     ·exact .inl h1),if_neg (by simpa using hc)]
    rfl
section
variable {w:World} {ok:Bool→Nat→Prop} {ρ:Nat→R} {P:Program} {X:Cx} {st:St} {a:Act} {t:TypeId} {y:Ty}
def RdParts (w:World) (ok:Bool→Nat→Prop) (ρ:Nat→R):List (Nat × List C)→List (Nat × List Value)→Prop
 | [],[]=>True
 | p :: ps,q :: qs=>p.1=q.1∧RdCs w ok ρ p.2 q.2∧RdParts w ok ρ ps qs
 | _,_=>False
theorem fillL_rd {place:Nat→Option (Nat × Nat)}:∀ {ps:List (Nat × List C)} {qs:List (Nat × List Value)} {cs cs':List C} {xs:List Value},RdParts w ok ρ ps qs→RdCs w ok ρ cs xs→fillL place cs ps=some cs'→∃ xs',fillL place xs qs=some xs'∧RdCs w ok ρ cs' xs'
 | [],[],cs,cs',xs,_,h,hf=>by
  simp only [fillL,Option.some.injEq] at hf
  subst hf
  exact ⟨xs,rfl,h⟩
 | (i,p) :: ps,(j,q) :: qs,cs,cs',xs,hp,h,hf=>by
  unfold RdParts at hp
  obtain ⟨h1,h2,h3⟩:=hp
  simp only at h1 h2
  subst h1
  simp only [fillL] at hf ⊢
  cases hpl:place i with
  | none=>simp [hpl] at hf
  | some r =>
   obtain ⟨off,size⟩:=r
   simp only [hpl] at hf ⊢
   have l1:=h.len
   have l2:=h2.len
   split at hf
   ·rename_i hc
    rw [if_pos (by rw [l1,l2];exact hc)]
    refine fillL_rd h3 ?_ hf
    rw [l2]
    exact ((h.take off).append h2).append (h.drop _)
   ·cases hf
 | [],_ :: _,_,_,_,hp,_,_=>by unfold RdParts at hp;exact hp.elim
 | _ :: _,[],_,_,_,hp,_,_=>by unfold RdParts at hp;exact hp.elim
def cellsV:V→Option (List C)
 | .one c=>some [c]
 | .agg cs=>some cs
 | _=>none
def partsOf (st:St):List (Nat × Operand)→Option (List (Nat × List C))
 | []=>some []
 | (i,x) :: ps=>match ev st x with
  | some v=>match cellsV v with
   | some cs=>match partsOf st ps with
    | some qs=>some ((i,cs) :: qs)
    | none=>none
   | none=>none
  | none=>none
theorem cells_rd {v:V} {cs:List C} {x:Value} (h:cellsV v=some cs) (hx:RdV w ok ρ v x):RdCs w ok ρ cs x.cells.toList:=by
 cases v with
 | one c =>
  simp only [cellsV,Option.some.injEq] at h
  subst h
  unfold RdV at hx
  have h1:=hx.oneCell
  have:x.cells=#[x]:=by cases x <;> first | rfl | simp [Value.oneCell'] at h1
  rw [this]
  unfold RdCs
  exact ⟨hx,by unfold RdCs;trivial⟩
 | agg cs' =>
  simp only [cellsV,Option.some.injEq] at h
  subst h
  unfold RdV at hx
  obtain ⟨xs,rfl,h2⟩:=hx
  exact h2
 | tup _=>cases h
 | junk=>cases h
theorem parts_rd (hH:Hold X st ρ a w):∀ {ps:List (Nat × Operand)} {qs:List (Nat × List C)},partsOf st ps=some qs→RdParts w (okOf X ρ w) ρ qs ((ps.map fun p=>(p.1,a.eval p.2)).map fun p=>(p.1,p.2.cells.toList))
 | [],qs,h=>by
  simp only [partsOf,Option.some.injEq] at h
  subst h
  simp only [List.map_nil];unfold RdParts;trivial
 | (i,x) :: ps,qs,h=>by
  simp only [partsOf] at h
  split at h
  ·rename_i v hv
   split at h
   ·rename_i cs hcs
    split at h
    ·rename_i rs hrs
     injection h with h
     subst h
     simp only [List.map_cons]
     unfold RdParts
     exact ⟨rfl,cells_rd hcs (ev_sound hH hv),parts_rd hH hrs⟩
    ·cases h
   ·cases h
  ·cases h
def placesOf (P:Program):List (Nat × TypeId)→Option (List (Nat × Nat))
 | []=>some []
 | (o,t) :: fs=>match tyOf P t with
  | some y=>match placesOf P fs with
   | some ps=>some ((o,y.size) :: ps)
   | none=>none
  | none=>none
theorem places_run:∀ {F:List Field} {ps:List (Nat × Nat)},placesOf P (F.map fun f=>(f.offset,f.type))=some ps→(F.mapM fun f=>do pure (f.offset,← sizeOf f.type):Sem (List (Nat × Nat))).run P w=.ok ps w
 | [],ps,h=>by
  simp only [List.map_nil,placesOf,Option.some.injEq] at h
  subst h
  rfl
 | f :: F,ps,h=>by
  simp only [List.map_cons,placesOf] at h
  split at h
  ·rename_i y hy
   split at h
   ·rename_i qs hq
    injection h with h
    subst h
    simp only [List.mapM_cons,Sem.run_bind,ty_size hy,Result.andThen_ok,Sem.run_pure,places_run hq]
   ·cases h
  ·cases h
def buildV (P:Program) (st:St) (t:TypeId) (parts:List (Nat × Operand)):Option V :=
 match tyOf P t with
 | some y=>match y.d with
  | .struct fs=>match placesOf P fs with
   | some ps=>match partsOf st parts with
    | some qs=>if y.zero.cells.toList.all (fun u=>u.oneCell') then match fillL (fun i=>ps[i]?) (y.zero.cells.toList.map constC) qs with
      | some cs=>some (.agg cs)
      | none=>none
     else none
    | none=>none
   | none=>none
  | _=>none
 | none=>none
theorem build_sound (hH:Hold X st ρ a w) {parts:Array (Nat × Operand)} {v:V} (h:buildV P st t parts.toList=some v):∃ q,(Instr.build t (parts.map fun (i,x)=>(i,a.eval x))).run P w=.ok q w∧RdV w (okOf X ρ w) ρ v q:=by
 unfold buildV at h
 split at h
 ·rename_i y hy
  split at h
  ·rename_i fs hd
   split at h
   ·rename_i ps hps
    split at h
    ·rename_i qs hqs
     split at h
     ·rename_i hz
      split at h
      ·rename_i cs hcs
       injection h with h
       subst h
       obtain ⟨F,h1,h2⟩:=ty_struct hy hd
       subst h2
       obtain ⟨xs,hx1,hx2⟩:=fillL_rd (parts_rd hH hqs) (rd_constCs hz) hcs
       have hm:(F.mapM fun f=>do pure (f.offset,← sizeOf f.type):Sem (Array (Nat × Nat))).run P w=.ok ps.toArray w:=by
        obtain ⟨F⟩:=F
        rw [List.mapM_toArray]
        simp only [Sem.run_map,places_run hps,Result.andThen_ok]
       refine ⟨.agg xs.toArray,?_,by unfold RdV;exact ⟨_,rfl,by simpa using hx2⟩⟩
       have hf:=fill_eq (fun i=>ps.toArray[i]?) (parts.map fun (i,x)=>(i,a.eval x)).toList y.zero.cells
       have he:((parts.map fun (i,x)=>(i,a.eval x)).toList.map fun p=>(p.1,p.2.cells.toList))=((parts.toList.map fun p=>(p.1,a.eval p.2)).map fun p=>(p.1,p.2.cells.toList)):=by simp
       rw [he] at hf
       simp only [List.getElem?_toArray] at hf
       rw [hx1] at hf
       simp only [Instr.build,Sem.run_bind,ty_zero hy,Result.andThen_ok,run_underlying h1,hm,List.getElem?_toArray,hf,Option.map_some,Sem.run_pure]
      ·cases h
     ·cases h
    ·cases h
   ·cases h
  ·cases h
 ·cases h
end
end Go.Proofs.YtjdgejfhnfnmgaaGreatDoor.Ax
namespace Go.Proofs.YtjdgejfhnfnmgaaGreatDoor.Ax
open Go.RowKit
def updR (ρ:Nat→R) (d:Nat) (r:R) (i:Nat):R:=if i=d then r else ρ i
section
variable {w w':World} {ok:Bool→Nat→Prop} {ρ:Nat→R} {P:Program} {X:Cx} {st:St} {a:Act} {t:TypeId} {y:Ty}
theorem updR_same {d:Nat} {r:R}:updR ρ d r d=r:=if_pos rfl
theorem updR_ne {d i:Nat} {r:R} (h:i ≠ d):updR ρ d r i=ρ i:=if_neg h
theorem evo_new (hH:Hold X st ρ a w) (d cap:Nat) (hdn:d < X.n) (o:Obj):Evo X ρ w (updR ρ d (.lie w.heap.size cap)) (w.alloc o) [d] [d] where
 below:=(Below.refl _ _).alloc (Nat.zero_le _) o
 heap b hb _:=Below.heap_alloc w o b hb
 rho id hid:=updR_ne (by simpa using hid)
 new id b cap' hid h:=by
  simp only [List.mem_singleton] at hid
  subst hid
  rw [updR_same] at h
  injection h with h1 h2
  subst h1
  exact ⟨by simp,.inl (Nat.le_refl _)⟩
 inj i j b c c' hi hj:=by
  by_cases h1:i=d <;> by_cases h2:j=d
  ·rw [h1,h2]
  ·subst h1
   rw [updR_same] at hi
   rw [updR_ne h2] at hj
   injection hi with hi _
   have:=(hH.ge j b c' hj).2.2
   omega
  ·subst h2
   rw [updR_same] at hj
   rw [updR_ne h1] at hi
   injection hj with hj _
   have:=(hH.ge i b c hi).2.2
   omega
  ·rw [updR_ne h1] at hi
   rw [updR_ne h2] at hj
   exact hH.inj i j b c c' hi hj
 pin id hid:=.inl (by simp only [List.mem_singleton] at hid;rw [hid];exact hdn)
theorem new_var (hH:Hold X st ρ a w) (d:Nat) (hdn:d < X.n) {cs:List C} {xs:List Value} (e:TypeId) (hm:C.ments [d] cs=false) (h:RdCs w (okOf X ρ w) ρ cs xs) :
  Out X ρ w (updR ρ d (.lie w.heap.size 0)) (w.alloc (.cells xs.toArray e)) (.pointer (some ⟨w.heap.size,0,none⟩)) (.mod (.one (.optr d 0)) [d] [d] [(d,.var e cs)]):=by
 have he:=evo_new hH d 0 hdn (.cells xs.toArray e)
 refine ⟨he,?_,fun id b hb=>?_⟩
 ·unfold RdV RdC
  rw [updR_same]
 ·unfold get get at hb
  split at hb
  ·rename_i hid
   injection hb with hb
   subst hid
   subst hb
   unfold HasB
   exact ⟨w.heap.size,0,updR_same,xs.toArray,heap_alloc_new w _,by simpa using he.rdCs hm h⟩
  ·cases hb
theorem one_get {id d:Nat} {B' B'':B} (h:get id [(d,B')]=some B''):id=d∧B'=B'':=by
 unfold get get at h
 split at h
 ·rename_i hid
  injection h with h
  exact ⟨hid,h⟩
 ·cases h
theorem evo_put (hH:Hold X st ρ a w) {d b cap:Nat} (hd:ρ d=.lie b cap) {cs':Array Value}:Evo X ρ w ρ (w.setRow b cs') [d] [] where
 below:=⟨rfl,rfl,rfl,by simp [World.setRow],fun k hk=>absurd hk (by omega)⟩
 heap k _ h:=setRow_other w b k cs' (fun e=>h d cap (by simp) (e ▸ hd))
 rho _ _:=rfl
 new _ _ _ h:=by cases h
 inj:=hH.inj
 pin _ h:=by cases h
theorem put_var (hH:Hold X st ρ a w) {d b cap off:Nat} (hd:ρ d=.lie b cap) {e:TypeId} {cells vs:List C} {cs:Array Value} {xs:List Value} (hb:w.heap[b]?=some (.cells cs e (0,0)))
  (hc:RdCs w (okOf X ρ w) ρ cells cs.toList) (hv:RdCs w (okOf X ρ w) ρ vs xs) (_hle:off + vs.length≤cells.length) (x:Value) :
  Out X ρ w ρ (w.setRow b (cs.toList.take off++xs++cs.toList.drop (off + xs.length)).toArray) x (.mod .junk [d] [] [(d,.var e (cells.take off++vs++cells.drop (off + vs.length)))]):=by
 have he:=evo_put (cs':=(cs.toList.take off++xs++cs.toList.drop (off + xs.length)).toArray) hH hd
 refine ⟨he,by unfold RdV;trivial,fun id B' hB=>?_⟩
 obtain ⟨rfl,rfl⟩:=one_get hB
 unfold HasB
 refine ⟨b,cap,hd,_,setRow_heap w b cs _ e (0,0) hb,?_⟩
 refine he.rdCs (C.ments_nil _) ?_
 rw [hv.len]
 exact ((hc.take off).append hv).append (hc.drop _)
end
def modD (P:Program) (st:St) (dst:Option Tmp):Op→Option Delta
 | .build t ps=>(buildV P st t ps.toList).map Delta.pure
 | .alloc e=>match dst with
  | some d=>match tyOf P e with
   | some y=>if y.zero.cells.toList.all (fun u=>u.oneCell') then some (.mod (.one (.optr d 0)) [d] [d] [(d,.var e (y.zero.cells.toList.map constC))]) else none
   | none=>none
  | none=>none
 | .box e x=>match dst with
  | some d=>match ev st x with
   | some v=>match cellsV v with
    | some cs=>match C.ments [d] cs with
     | false=>some (.mod (.one (.optr d 0)) [d] [d] [(d,.var e cs)])
     | true=>none
    | none=>none
   | none=>none
  | none=>none
 | .store t p x=>match ev st p with
  | some (.one (.optr id off))=>match get id st.bl with
   | some (.var e cells)=>match ev st x with
    | some v=>match cellsV v with
     | some vs=>match tyOf P t with
      | some y=>if vs.length=y.size∧off + vs.length≤cells.length then some (.mod .junk [id] [] [(id,.var e (cells.take off++vs++cells.drop (off + vs.length)))]) else none
      | none=>none
     | none=>none
    | none=>none
   | _=>none
  | _=>none
 | _=>none
section
variable {w w':World} {ok:Bool→Nat→Prop} {ρ:Nat→R} {P:Program} {X:Cx} {st:St} {a:Act} {t:TypeId} {y:Ty}
theorem ments_const (d:List Nat):∀ l:List Value,C.ments d (l.map constC)=false
 | []=>rfl
 | v :: l=>by
  rw [List.map_cons]
  simp only [C.ments,ments_const d l,Bool.or_false]
  unfold constC
  split <;> rfl
theorem mod_runs {o:Oper} {D:Delta} (h:modD P st o.dst o.op=some D):Runs P X st o D:=by
 intro hdo ρ a w hH
 obtain ⟨dst,op,type,pos,after,guard⟩:=o
 simp only at h
 unfold modD at h
 split at h
 ·rename_i t ps
  cases hb:buildV P st t ps.toList with
  | none=>simp [hb] at h
  | some v =>
   simp only [hb,Option.map_some,Option.some.injEq] at h
   subst h
   obtain ⟨q,h1,h2⟩:=build_sound (P:=P) hH hb
   exact ⟨q,ρ,w,.inl (by simp [execOp,h1]),rfl,rfl,h2⟩
 ·rename_i e
  split at h
  ·rename_i d
   split at h
   ·rename_i y hy
    split at h
    ·rename_i hz
     injection h with h
     subst h
     refine ⟨_,_,_,.inl ?_,new_var hH d (by simpa [dstOk] using hdo) e (ments_const _ _) (rd_constCs hz)⟩
     simp [execOp,Instr.alloc,ty_zero hy,newVar,newRow]
    ·cases h
   ·cases h
  ·cases h
 ·rename_i e x
  split at h
  ·rename_i d
   split at h
   ·rename_i v hv
    split at h
    ·rename_i cs hcs
     split at h
     ·rename_i hm
      injection h with h
      subst h
      refine ⟨_,_,_,.inl ?_,new_var hH d (by simpa [dstOk] using hdo) e hm (cells_rd hcs (ev_sound hH hv))⟩
      simp [execOp,Instr.box,newVar,newRow]
     ·cases h
    ·cases h
   ·cases h
  ·cases h
 ·rename_i t p x
  split at h
  ·rename_i id off hp
   split at h
   ·rename_i e cells hb
    split at h
    ·rename_i v hv
     split at h
     ·rename_i vs hvs
      split at h
      ·rename_i y hy
       split at h
       ·rename_i hc
        injection h with h
        subst h
        have hx:=cells_rd hvs (ev_sound hH hv)
        have hp':=ev_sound hH hp
        obtain ⟨b,cap,hid,cs,hheap,hcs⟩:=hH.blocks _ _ hb
        unfold RdV RdC at hp'
        rw [hid] at hp'
        simp only at hp'
        refine ⟨undef,ρ,_,.inr ⟨?_,rfl⟩,put_var hH hid hheap hcs hx hc.2 undef⟩
        have l1:=hcs.len
        have l2:=hx.len
        have hst:=run_storeCells_at (P:=P) b off e (a.eval x).cells.toList 0 cs w hheap (by simp at l1 l2 ⊢;omega) (List.all_eq_true.1 hx.one)
        rw [Nat.add_zero] at hst
        have hne:(a.eval x).cells.size=y.size:=by rw [← hc.1,← l2];simp
        simp only [execOp,hp',Instr.storeAt,Instr.sureAddr,Sem.run_bind,Sem.run_pure,Result.andThen_ok,storeVar,ty_size hy,hne,ne_eq,not_true_eq_false,if_false,hst]
       ·cases h
      ·cases h
     ·cases h
    ·cases h
   ·cases h
  ·cases h
 ·cases h
end
end Go.Proofs.YtjdgejfhnfnmgaaGreatDoor.Ax
namespace Go.Proofs.YtjdgejfhnfnmgaaGreatDoor.Ax
open Go.RowKit
def T.isLit:T→Bool
 | .lit _=>true
 | _=>false
def litRows:List (List T)→Bool
 | []=>true
 | r :: rs=>r.all T.isLit && litRows rs
theorem litRows_map {α:Type} {f:α→List T} {l:List α} (h:∀ x,(f x).all T.isLit=true):litRows (l.map f)=true:=by
 induction l with
 | nil=>rfl
 | cons x l ih=>rw [List.map_cons,litRows,h x,ih];rfl
theorem all_len {α:Type} {f:α→List T} {l:List α} {n:Nat} (h:∀ x,(f x).length=n):(∀ r ∈ l.map f,r.length=n)=True:=by
 refine eq_true fun r hr=>?_
 obtain ⟨x,_,rfl⟩:=List.mem_map.1 hr
 exact h x
theorem litRows_append {l r:List (List T)}:litRows (l++r)=(litRows l && litRows r):=by
 induction l with
 | nil=>rfl
 | cons x l ih=>rw [List.cons_append,litRows,litRows,ih,Bool.and_assoc]
def toT:List C→Option (Bool × List T)
 | []=>some (true,[])
 | .t z x :: cs=>match toT cs with
  | some p=>some ((z || x.isLit) && p.1,x :: p.2)
  | none=>none
 | .nil :: cs=>match toT cs with
  | some p=>some (p.1,.sl [] :: p.2)
  | none=>none
 | _=>none
def elemsOf (st:St) (size:Nat):Nat→List (Nat × Operand)→Option (Bool × List (List T))
 | _,[]=>some (true,[])
 | k,(i,x) :: ps=>if i=k then match ev st x with
   | some v=>match cellsV v with
    | some cs=>if cs.length=size then match toT cs with
      | some q=>match elemsOf st size (k + 1) ps with
       | some r=>some (q.1 && r.1,q.2 :: r.2)
       | none=>none
      | none=>none
     else none
    | none=>none
   | none=>none
  else none
def rowsOf (st:St):C→Option (Bool × List (List T))
 | .t z (.sl rows)=>some (z,rows)
 | .nil=>some (true,[])
 | .own id len=>match get id st.bl with
  | some (.arr _ _ z rows)=>if rows.length=len then some (z,rows) else none
  | _=>none
 | _=>none
def baseOf (st:St) (e:TypeId) (size:Nat):C→Option (Option Nat × Bool × List (List T))
 | .nil=>some (none,true,[])
 | .own id len=>match get id st.bl with
  | some (.arr e' s z rows)=>if rows.length=len∧e'=e∧s=size then some (some id,z,rows) else none
  | _=>none
 | _=>none
def rowD (P:Program) (st:St) (dst:Option Tmp):Op→Option Delta
 | .buildSlice t len ps=>match dst with
  | some d=>match tyOf P t with
   | some y=>match y.d with
    | .sl e=>match tyOf P e with
     | some ye=>match elemsOf st ye.size 0 ps.toList with
      | some q=>if q.2.length=len∧len * ye.size≤16777216∧0 < ye.size∧ye.zero.cells.size=ye.size then some (.mod (.one (.own d len)) [d] [d] [(d,.arr e ye.size q.1 q.2)]) else none
      | none=>none
     | none=>none
    | _=>none
   | none=>none
  | none=>none
 | .call ⟨.builtin .append,⟨[s,x]⟩,⟨[t,t']⟩⟩=>match dst with
  | some d=>if t=t' then match tyOf P t with
   | some y=>match y.d with
    | .sl e=>match tyOf P e with
     | some ye=>match ev st s with
      | some (.one c)=>match baseOf st e ye.size c with
       | some b=>match ev st x with
        | some (.one c')=>match rowsOf st c' with
         | some q=>if b.2.2.length + q.2.length≤maxLen∧(b.2.2.length + q.2.length) * ye.bytes≤140737488355328∧(∀ r ∈ q.2,r.length=ye.size)∧0 < ye.size∧ye.zero.cells.size=ye.size
          then some (.mod (.one (.own d (b.2.2.length + q.2.length))) (b.1.toList++[d]) (b.1.toList++[d]) [(d,.arr e ye.size (b.2.1 && (q.1 || litRows q.2)) (b.2.2++q.2))]) else none
         | none=>none
        | _=>none
       | none=>none
      | _=>none
     | none=>none
    | _=>none
   | none=>none
  else none
  | none=>none
 | _=>none
section
variable {w w':World} {ρ:Nat→R} {P:Program} {X:Cx} {st:St} {a:Act} {t:TypeId} {y:Ty}
theorem ok_weak {z z':Bool} (h:z'=true→z=true) (b:Nat) (hb:okOf X ρ w z b):okOf X ρ w z' b:=by
 obtain ⟨h1,h2⟩:=hb
 refine ⟨h1.imp id fun h1=>h1.imp id fun ⟨e,hs⟩=>⟨?_,hs⟩,h2⟩
 cases z' with
 | false=>rfl
 | true=>rw [h rfl] at e;exact e
theorem rdT_weak {z z':Bool} {t:T} {x:Value} (h:z'=true→z=true) (hr:RdT w (okOf X ρ w z) t x):RdT w (okOf X ρ w z') t x:=hr.mono fun b hb=>⟨ok_weak h b hb,rfl⟩
theorem rdL_weak {z z':Bool} {t:List T} {x:List Value} (h:z'=true→z=true) (hr:RdL w (okOf X ρ w z) t x):RdL w (okOf X ρ w z') t x:=hr.mono fun b hb=>⟨ok_weak h b hb,rfl⟩
theorem rdT_lit {z z':Bool} {t:T} {x:Value} (hr:RdT w (okOf X ρ w z) t x):RdT w (okOf X ρ w ((z || t.isLit) && z')) t x:=by
 cases t with
 | lit v=>unfold RdT at hr ⊢;exact hr
 | _=>exact rdT_weak (by simp only [T.isLit,Bool.or_false];exact fun h=>(Bool.and_eq_true _ _ ▸ h).1) hr
theorem rdL_lit {z:Bool}:∀ {rows:List (List T)} {xs:List Value},litRows rows=true→RdL w (okOf X ρ w z) rows.flatten xs→RdL w (okOf X ρ w true) rows.flatten xs:=by
 have key:∀ {l:List T} {xs:List Value},l.all T.isLit=true→RdL w (okOf X ρ w z) l xs→RdL w (okOf X ρ w true) l xs:=by
  intro l
  induction l with
  | nil=>intro xs _ h;cases xs <;> unfold RdL at h ⊢ <;> first | trivial | exact h.elim
  | cons t l ih =>
   intro xs hl h
   rw [List.all_cons,Bool.and_eq_true] at hl
   cases xs with
   | nil=>unfold RdL at h;exact h.elim
   | cons x xs =>
    unfold RdL at h ⊢
    refine ⟨?_,ih hl.2 h.2⟩
    cases t with
    | lit v=>have:=h.1;unfold RdT at this ⊢;exact this
    | _=>exact absurd hl.1 (by simp [T.isLit])
 intro rows xs hl h
 refine key ?_ h
 clear h
 induction rows with
 | nil=>rfl
 | cons r rs ih =>
  rw [litRows,Bool.and_eq_true] at hl
  rw [List.flatten_cons,List.all_append,hl.1,ih hl.2];rfl
theorem rdL_or {z:Bool} {rows:List (List T)} {xs:List Value} (h:RdL w (okOf X ρ w z) rows.flatten xs):RdL w (okOf X ρ w (z || litRows rows)) rows.flatten xs:=by
 cases hl:litRows rows with
 | false=>rw [Bool.or_false];exact h
 | true=>rw [Bool.or_true];exact rdL_lit hl h
theorem toT_rd:∀ {cs:List C} {q:Bool × List T} {xs:List Value},toT cs=some q→RdCs w (okOf X ρ w) ρ cs xs→RdL w (okOf X ρ w q.1) q.2 xs
 | [],q,xs,h,hr=>by
  simp only [toT,Option.some.injEq] at h
  subst h
  cases xs with
  | nil=>unfold RdL;trivial
  | cons=>unfold RdCs at hr;exact hr.elim
 | .t z x :: cs,q,xs,h,hr=>by
  simp only [toT] at h
  split at h
  ·rename_i p hp
   injection h with h
   subst h
   cases xs with
   | nil=>unfold RdCs at hr;exact hr.elim
   | cons u xs =>
    unfold RdCs RdC at hr
    unfold RdL
    exact ⟨rdT_lit hr.1,rdL_weak (fun h=>(Bool.and_eq_true _ _ ▸ h).2) (toT_rd hp hr.2)⟩
  ·cases h
 | .nil :: cs,q,xs,h,hr=>by
  simp only [toT] at h
  split at h
  ·rename_i p hp
   injection h with h
   subst h
   cases xs with
   | nil=>unfold RdCs at hr;exact hr.elim
   | cons u xs =>
    unfold RdCs RdC at hr
    unfold RdL RdT
    obtain ⟨⟨A,hA⟩,hr2⟩:=hr
    exact ⟨⟨_,_,_,hA,rfl,Nat.le_refl _,.inl rfl⟩,toT_rd hp hr2⟩
  ·cases h
 | .own _ _ :: _,_,_,h,_=>by simp [toT] at h
 | .optr _ _ :: _,_,_,h,_=>by simp [toT] at h
 | .eptr _ _ _ _ :: _,_,_,h,_=>by simp [toT] at h
 | .fn _ _ :: _,_,_,h,_=>by simp [toT] at h
 | .junk :: _,_,_,h,_=>by simp [toT] at h
theorem toT_len:∀ {cs:List C} {q:Bool × List T},toT cs=some q→q.2.length=cs.length
 | [],q,h=>by simp only [toT,Option.some.injEq] at h;subst h;rfl
 | .t z x :: cs,q,h=>by
  simp only [toT] at h
  split at h
  ·rename_i p hp
   injection h with h
   subst h
   simp [toT_len hp]
  ·cases h
 | .nil :: cs,q,h=>by
  simp only [toT] at h
  split at h
  ·rename_i p hp
   injection h with h
   subst h
   simp [toT_len hp]
  ·cases h
 | .own _ _ :: _,_,h=>by simp [toT] at h
 | .optr _ _ :: _,_,h=>by simp [toT] at h
 | .eptr _ _ _ _ :: _,_,h=>by simp [toT] at h
 | .fn _ _ :: _,_,h=>by simp [toT] at h
 | .junk :: _,_,h=>by simp [toT] at h
theorem elems_rd (hH:Hold X st ρ a w) {size:Nat}:∀ {ps:List (Nat × Operand)} {k:Nat} {q:Bool × List (List T)},elemsOf st size k ps=some q →
  RdL w (okOf X ρ w q.1) q.2.flatten (ps.flatMap fun p=>(a.eval p.2).cells.toList)∧(∀ r ∈ q.2,r.length=size)∧(∀ i p,ps[i]?=some p→p.1=k + i∧(a.eval p.2).cells.size=size)∧q.2.length=ps.length
 | [],k,q,h=>by
  simp only [elemsOf,Option.some.injEq] at h
  subst h
  exact ⟨by simp [RdL],by simp,by simp,rfl⟩
 | (i,x) :: ps,k,q,h=>by
  simp only [elemsOf] at h
  split at h
  ·rename_i hik
   split at h
   ·rename_i v hv
    split at h
    ·rename_i cs hcs
     split at h
     ·rename_i hl
      split at h
      ·rename_i p hp
       split at h
       ·rename_i r hr
        injection h with h
        subst h
        obtain ⟨g1,g2,g3,g4⟩:=elems_rd hH hr
        have hx:=cells_rd hcs (ev_sound hH hv)
        refine ⟨?_,?_,?_,by simp [g4]⟩
        ·rw [List.flatten_cons,List.flatMap_cons]
         exact (rdL_weak (by simp;intro h _;exact h) (toT_rd hp hx)).append (rdL_weak (by simp) g1)
        ·intro r' hr'
         cases hr' with
         | head=>rw [toT_len hp,hl]
         | tail _ h=>exact g2 _ h
        ·intro j p' hj
         cases j with
         | zero =>
          simp at hj
          subst hj
          have:=hx.len
          simp at this
          exact ⟨by simp [hik],by simp only;omega⟩
         | succ j =>
          have:=g3 j p' (by simpa using hj)
          exact ⟨by omega,this.2⟩
       ·cases h
      ·cases h
     ·cases h
    ·cases h
   ·cases h
  ·cases h
theorem fill_all {size:Nat}:∀ (vs:List (List Value)) (k:Nat) (cells:List Value),(∀ v ∈ vs,v.length=size)→cells.length=(k + vs.length) * size →
  fillL (fun i=>some (i * size,size)) cells (vs.zipIdx k |>.map fun p=>(p.2,p.1))=some (cells.take (k * size)++vs.flatten)
 | [],k,cells,_,h=>by
  simp only [List.zipIdx_nil,List.map_nil,fillL,List.flatten_nil,List.append_nil]
  rw [List.take_of_length_le (by rw [h];simp)]
 | v :: vs,k,cells,hv,h=>by
  have h1:=hv v List.mem_cons_self
  have h2:cells.length=k * size + size + vs.length * size:=by rw [h,List.length_cons,Nat.add_mul,Nat.succ_mul];omega
  rw [List.zipIdx_cons,List.map_cons]
  simp only [fillL]
  rw [if_pos ⟨h1,by omega⟩,fill_all vs (k + 1) _ (fun u hu=>hv u (List.mem_cons_of_mem _ hu)) (by
   simp only [List.length_append,List.length_take,List.length_drop,h1]
   rw [Nat.add_mul,Nat.add_mul,Nat.one_mul]
   omega),List.flatten_cons]
  congr 1
  rw [Nat.add_mul,Nat.one_mul,List.take_append_of_le_length (by simp [h1];omega),List.take_of_length_le (by simp [h1];omega),List.append_assoc]
end
end Go.Proofs.YtjdgejfhnfnmgaaGreatDoor.Ax
namespace Go.Proofs.YtjdgejfhnfnmgaaGreatDoor.Ax
open Go.RowKit
section
variable {w w':World} {ρ:Nat→R} {P:Program} {X:Cx} {st:St} {a:Act} {t:TypeId} {y:Ty}
theorem zip_parts {size:Nat} (f:Nat × Operand→List Value):∀ (ps:List (Nat × Operand)) (k:Nat),(∀ i p,ps[i]?=some p→p.1=k + i∧(f p).length=size)→ps.map (fun p=>(p.1,f p))=((ps.map f).zipIdx k).map fun p=>(p.2,p.1)
 | [],_,_=>rfl
 | p :: ps,k,h=>by
  rw [List.map_cons,List.map_cons,List.zipIdx_cons,List.map_cons,zip_parts f ps (k + 1) fun i q hq=>by
   have:=h (i + 1) q (by simpa using hq)
   exact ⟨by omega,this.2⟩]
  rw [(h 0 p rfl).1]
  rfl
theorem new_arr (hH:Hold X st ρ a w) (d:Nat) (hdn:d < X.n) {rows:List (List T)} {z:Bool} {xs:List Value} (e:TypeId) {size:Nat} (h:RdL w (okOf X ρ w z) rows.flatten xs) (hr:∀ r ∈ rows,r.length=size) (hl:xs.length=rows.length * size) (hm:rows.length≤maxLen) :
  Out X ρ w (updR ρ d (.lie w.heap.size rows.length)) (w.alloc (.cells xs.toArray e)) (.slice (some ⟨w.heap.size,0,none⟩) rows.length rows.length) (.mod (.one (.own d rows.length)) [d] [d] [(d,.arr e size z rows)]):=by
 have he:=evo_new hH d rows.length hdn (.cells xs.toArray e)
 refine ⟨he,?_,fun id b hb=>?_⟩
 ·unfold RdV RdC
  rw [updR_same]
 ·obtain ⟨rfl,rfl⟩:=one_get hb
  unfold HasB
  rw [updR_same]
  simp only
  refine ⟨xs,⟨hl,.inr ⟨_,_,xs.toArray,rfl,Nat.zero_le _,heap_alloc_new w _,Nat.le_refl _,hm,by simpa using hl,by show List.take _ xs=xs;rw [← hl,List.take_length]⟩⟩,he.rdL z h,hr⟩
theorem append_zero {e:TypeId} (hu:P.underlying t=some (.slice e)) {i:TypeInfo} (hi:P.info? e=some i) (ty:TypeId) (A:Option Addr) {ao:Option Addr} {m c:Nat} (hm:0 < m) (hb:m * i.bytes≤140737488355328) :
  (Builtin.append_ #[t,t] ty #[.slice A 0 0,.slice ao m c]).run P w=(Builtin.append_ #[t,t] ty #[.slice none 0 0,.slice ao m c]).run P w:=by
 cases A with
 | none=>rfl
 | some ad =>
  have h1:¬ m=0:=by omega
  have h2:Builtin.nextslicecap m 0=m:=by unfold Builtin.nextslicecap;rw [if_pos (by omega)]
  have h3:¬ 281474976710656 < m * i.bytes:=by omega
  simp [Builtin.append_,run_underlying hu,sizeOf,typeInfo,hi,Builtin.lenOf,h1,h2,h3,Builtin.firstCells,loadCells,loadCellsFrom]
theorem append_none {e:TypeId} (hu:P.underlying t=some (.slice e)) {i:TypeInfo} (hi:P.info? e=some i) (ty:TypeId) (A:Option Addr) {ao:Option Addr} {c:Nat} :
  (Builtin.append_ #[t,t] ty #[.slice A 0 0,.slice ao 0 c]).run P w=.ok (.slice A 0 0) w:=by
 cases A with
 | none=>cases ao <;> simp [Builtin.append_,run_underlying hu,sizeOf,typeInfo,hi,Builtin.lenOf,Builtin.firstCells,loadCells,loadCellsFrom]
 | some ad=>cases ao <;> simp [Builtin.append_,run_underlying hu,sizeOf,typeInfo,hi,Builtin.lenOf,Builtin.firstCells,loadCells,loadCellsFrom,storeCells]
theorem app_all (hH:Hold X st ρ a w) {e:TypeId} {z:Value} {size bytes:Nat} (EL:ElT P t e z size bytes) (ty:TypeId) {c:C} {b:Option Nat × Bool × List (List T)} {v:Value} (h:baseOf st e size c=some b) (hv:RdC w (okOf X ρ w) ρ c v)
  {ao:Option Addr} {m cc:Nat} {cs:List Value} (hnone:ao=none→m=0) (hc:∀ ad,ao=some ad→∀ j u,cs[j]?=some u→w.cell? (ad.add j)=some u) (hl:cs.length=m * size) (h1:(cs.all fun u=>u.oneCell')=true)
  (h63:b.2.2.length + m≤maxLen) (hbytes:(b.2.2.length + m) * bytes≤140737488355328) :
  ∃ v' w',∃ r:R,(Builtin.append_ #[t,t] ty #[v,.slice ao m cc]).run P w=.ok v' w'∧Below 0 w w'∧(∀ g,g < w.heap.size→(∀ id c',id ∈ b.1.toList→ρ id ≠ .lie g c')→w'.heap[g]?=w.heap[g]?)∧(∀ r ∈ b.2.2,r.length=size) ∧
   (((∃ A,v'=.slice A 0 0)∧b.2.2.length + m=0∧r=.nil) ∨
    ∃ g c' xs,v'=.slice (some ⟨g,0,none⟩) (b.2.2.length + m) c'∧r=.lie g c'∧g < w'.heap.size∧(w.heap.size≤g ∨ ∃ id c',id ∈ b.1.toList∧ρ id=.lie g c')∧w'.ownsRow 0 e size v' (b.2.2.length + m) (xs++cs)∧RdL w (okOf X ρ w b.2.1) b.2.2.flatten xs):=by
 obtain ⟨i,hi,hz,hz1,hz2⟩:=EL.hi
 have onto:∀ (v:Value) (xs:List Value),w.ownsRow 0 e size v b.2.2.length xs→RdL w (okOf X ρ w b.2.1) b.2.2.flatten xs→((v=.slice none 0 0) ∨ ∃ id g cap,b.1=some id∧ρ id=.lie g cap∧v.ownBlock=some g) →
   ∃ v' w',∃ r:R,(Builtin.append_ #[t,t] ty #[v,.slice ao m cc]).run P w=.ok v' w'∧Below 0 w w'∧(∀ g,g < w.heap.size→(∀ id c',id ∈ b.1.toList→ρ id ≠ .lie g c')→w'.heap[g]?=w.heap[g]?) ∧
   (((∃ A,v'=.slice A 0 0)∧b.2.2.length + m=0∧r=.nil) ∨
    ∃ g c' xs,v'=.slice (some ⟨g,0,none⟩) (b.2.2.length + m) c'∧r=.lie g c'∧g < w'.heap.size∧(w.heap.size≤g ∨ ∃ id c',id ∈ b.1.toList∧ρ id=.lie g c')∧w'.ownsRow 0 e size v' (b.2.2.length + m) (xs++cs)∧RdL w (okOf X ρ w b.2.1) b.2.2.flatten xs):=by
  intro v xs hown hrd hwhere
  obtain ⟨v',w',hrun,hown',hleft,hat⟩:=run_app_any (w:=w) EL ty hown (cs:=cs) (ao:=ao) (m:=m) (c:=cc) hnone hc hl h1 h63 hbytes (Nat.zero_le _)
  have far:∀ g,g < w.heap.size→(∀ id c',id ∈ b.1.toList→ρ id ≠ .lie g c')→w'.heap[g]?=w.heap[g]?:=fun g hg hcond=>hleft.blk g hg fun he=>by
   rcases hwhere with h4 | ⟨id,g',c',h4,h5,h6⟩
   ·rw [h4] at he;cases he
   ·rw [h6] at he
    injection he with he
    subst he
    exact hcond id c' (by rw [h4];simp) h5
  rcases hown'.2 with ⟨h4,h5⟩ | ⟨g,c',cur,h4,h5,h6,_⟩
  ·exact ⟨v',w',.nil,hrun,hleft.below,far,.inl ⟨⟨_,h4⟩,h5,rfl⟩⟩
  ·refine ⟨v',w',.lie g c',hrun,hleft.below,far,.inr ⟨g,c',xs,h4,rfl,Blk.lt (t:=e) (cs:=cur) h6,?_,hown',hrd⟩⟩
   rcases hat with hat | hat
   ·rw [h4] at hat
    rcases hwhere with h7 | ⟨id,g',c2,h7,h8,h9⟩
    ·rw [h7] at hat;cases hat
    ·rw [h9] at hat
     injection hat with hat
     simp only at hat
     subst hat
     exact .inr ⟨id,c2,by rw [h7];simp,h8⟩
   ·rw [h4] at hat
    injection hat with hat
    simp only at hat
    exact .inl (by omega)
 have empty:∀ A,v=.slice A 0 0→b.2.2=[]→∃ v' w',∃ r:R,(Builtin.append_ #[t,t] ty #[v,.slice ao m cc]).run P w=.ok v' w'∧Below 0 w w'∧(∀ g,g < w.heap.size→(∀ id c',id ∈ b.1.toList→ρ id ≠ .lie g c')→w'.heap[g]?=w.heap[g]?) ∧
   (((∃ A,v'=.slice A 0 0)∧b.2.2.length + m=0∧r=.nil) ∨
    ∃ g c' xs,v'=.slice (some ⟨g,0,none⟩) (b.2.2.length + m) c'∧r=.lie g c'∧g < w'.heap.size∧(w.heap.size≤g ∨ ∃ id c',id ∈ b.1.toList∧ρ id=.lie g c')∧w'.ownsRow 0 e size v' (b.2.2.length + m) (xs++cs)∧RdL w (okOf X ρ w b.2.1) b.2.2.flatten xs):=by
  rintro A rfl hb
  rcases Nat.eq_zero_or_pos m with rfl | hm
  ·exact ⟨_,w,.nil,append_none EL.ht hi ty A,Below.refl _ _,fun _ _ _=>rfl,.inl ⟨⟨_,rfl⟩,by rw [hb];rfl,rfl⟩⟩
  ·rw [append_zero EL.ht hi ty A hm (by rw [hz2];rw [hb] at hbytes;simpa using hbytes)]
   exact onto (.slice none 0 0) [] (by rw [hb];exact World.ownsRow_nil _ _ _ _) (by rw [hb];unfold List.flatten RdL;trivial) (.inl rfl)
 have fin:∀ {p:Prop},(∀ r ∈ b.2.2,r.length=size)→(∃ v' w',∃ r:R,(Builtin.append_ #[t,t] ty #[v,.slice ao m cc]).run P w=.ok v' w'∧Below 0 w w'∧(∀ g,g < w.heap.size→(∀ id c',id ∈ b.1.toList→ρ id ≠ .lie g c')→w'.heap[g]?=w.heap[g]?) ∧
   (((∃ A,v'=.slice A 0 0)∧b.2.2.length + m=0∧r=.nil) ∨
    ∃ g c' xs,v'=.slice (some ⟨g,0,none⟩) (b.2.2.length + m) c'∧r=.lie g c'∧g < w'.heap.size∧(w.heap.size≤g ∨ ∃ id c',id ∈ b.1.toList∧ρ id=.lie g c')∧w'.ownsRow 0 e size v' (b.2.2.length + m) (xs++cs)∧RdL w (okOf X ρ w b.2.1) b.2.2.flatten xs))→((∀ (v':Value) (w':World) (r:R),(Builtin.append_ #[t,t] ty #[v,.slice ao m cc]).run P w=.ok v' w'→Below 0 w w'→(∀ g,g < w.heap.size→(∀ id c',id ∈ b.1.toList→ρ id ≠ .lie g c')→w'.heap[g]?=w.heap[g]?)→(∀ r ∈ b.2.2,r.length=size) →
   (((∃ A,v'=.slice A 0 0)∧b.2.2.length + m=0∧r=.nil) ∨
    ∃ g c' xs,v'=.slice (some ⟨g,0,none⟩) (b.2.2.length + m) c'∧r=.lie g c'∧g < w'.heap.size∧(w.heap.size≤g ∨ ∃ id c',id ∈ b.1.toList∧ρ id=.lie g c')∧w'.ownsRow 0 e size v' (b.2.2.length + m) (xs++cs)∧RdL w (okOf X ρ w b.2.1) b.2.2.flatten xs)→p)→p):=fun hs ⟨v',w',r,q1,q2,q3,q4⟩ k=>k v' w' r q1 q2 q3 hs q4
 refine fin ?_ ?_ fun v' w' r q1 q2 q3 q4 q5=>⟨v',w',r,q1,q2,q3,q4,q5⟩
 ·unfold baseOf at h
  split at h
  ·injection h with h
   subst h
   intro r hr;cases hr
  ·split at h
   ·rename_i e' s z rows hb
    split at h
    ·rename_i hcc
     obtain ⟨rfl,rfl,rfl⟩:=hcc
     injection h with h
     subst h
     have hB:=hH.blocks _ _ hb
     rename_i id _
     unfold HasB at hB
     cases hid:ρ id with
     | dead=>simp [hid] at hB
     | nil=>simp only [hid] at hB;subst hB;intro r hr;cases hr
     | lie g cap=>simp only [hid] at hB;exact hB.choose_spec.2.2
    ·cases h
   ·cases h
  ·cases h
 ·unfold baseOf at h
  split at h
  ·injection h with h
   subst h
   unfold RdC at hv
   obtain ⟨A,rfl⟩:=hv
   exact empty A rfl rfl
  ·rename_i id len
   split at h
   ·rename_i e' s z rows hb
    split at h
    ·rename_i hcc
     obtain ⟨rfl,rfl,rfl⟩:=hcc
     injection h with h
     subst h
     have hB:=hH.blocks _ _ hb
     unfold RdC at hv
     unfold HasB at hB
     cases hid:ρ id with
     | dead=>simp [hid] at hv
     | nil =>
      simp only [hid] at hv hB
      obtain ⟨_,A,rfl⟩:=hv
      exact empty A rfl hB
     | lie g cap =>
      simp only [hid] at hv hB
      subst hv
      obtain ⟨xs,g1,g2,g3⟩:=hB
      exact onto _ xs g1 g2 (.inr ⟨id,g,cap,rfl,hid,rfl⟩)
    ·cases h
   ·cases h
  ·cases h
theorem rows_rd (hH:Hold X st ρ a w) {c:C} {q:Bool × List (List T)} {v:Value} (h:rowsOf st c=some q) (hv:RdC w (okOf X ρ w) ρ c v) {size:Nat} (hs:∀ r ∈ q.2,r.length=size) :
  ∃ A m cap xs,v=.slice A m cap∧m=q.2.length∧RdL w (okOf X ρ w q.1) q.2.flatten xs∧(A=none→m=0)∧(∀ ad,A=some ad→∀ j u,xs[j]?=some u→w.cell? (ad.add j)=some u)∧xs.length=m * size:=by
 have hlen:∀ (rows:List (List T)),(∀ r ∈ rows,r.length=size)→rows.flatten.length=rows.length * size:=by
  intro rows
  induction rows with
  | nil=>intro _;simp
  | cons r rs ih=>intro h;rw [List.flatten_cons,List.length_append,h r List.mem_cons_self,ih fun r hr=>h r (List.mem_cons_of_mem _ hr),List.length_cons,Nat.succ_mul];omega
 unfold rowsOf at h
 split at h
 ·rename_i z rows
  injection h with h
  subst h
  unfold RdC RdT at hv
  obtain ⟨A,n,c,rfl,hl,_,hr⟩:=hv
  have key:∀ (rows:List (List T)) (s b o:Nat),RdRows w (okOf X ρ w z) s b o rows→∃ xs,RdL w (okOf X ρ w z) rows.flatten xs∧∀ j u,xs[j]?=some u→w.cell? ⟨b,o + j,none⟩=some u:=by
   intro rows s b
   induction rows with
   | nil=>intro o _;exact ⟨[],by unfold List.flatten RdL;trivial,by simp⟩
   | cons r rs ih =>
    intro o h
    unfold RdRows at h
    obtain ⟨h1,h2,h3⟩:=h
    obtain ⟨ys,g1,g2⟩:=h2.vals
    obtain ⟨zs,g3,g4⟩:=ih _ h3
    have hl:=g1.len
    refine ⟨ys++zs,by rw [List.flatten_cons];exact g1.append g3,fun j u hu=>?_⟩
    rcases Nat.lt_or_ge j ys.length with hj | hj
    ·rw [List.getElem?_append_left hj] at hu
     exact g2 j u hu
    ·rw [List.getElem?_append_right hj] at hu
     have:=g4 _ u hu
     rwa [show o + s + (j - ys.length)=o + j by omega] at this
  rcases hr with hr | ⟨b,o,s,rfl,hb,hr⟩
  ·subst hr
   obtain rfl:rows=[]:=List.eq_nil_of_length_eq_zero hl
   exact ⟨A,0,c,[],rfl,rfl,by unfold List.flatten RdL;trivial,fun _=>rfl,(by intro ad _ j u hu;simp at hu),by simp⟩
  ·obtain ⟨xs,g1,g2⟩:=key rows s b o hr
   refine ⟨_,n,c,xs,rfl,hl.symm,g1,(by intro h;cases h),?_,by rw [g1.len,hlen rows hs,hl]⟩
   intro ad had j u hu
   cases had
   rw [addAt]
   exact g2 j u hu
 ·injection h with h
  subst h
  unfold RdC at hv
  obtain ⟨A,rfl⟩:=hv
  exact ⟨A,0,0,[],rfl,rfl,by unfold List.flatten RdL;trivial,fun _=>rfl,(by intro ad _ j u hu;simp at hu),by simp⟩
 ·rename_i id len
  split at h
  ·rename_i e' s z rows hb
   split at h
   ·rename_i hc
    subst hc
    injection h with h
    subst h
    have hB:=hH.blocks _ _ hb
    unfold RdC at hv
    unfold HasB at hB
    cases hid:ρ id with
    | dead=>simp [hid] at hv
    | nil =>
     simp only [hid] at hv hB
     subst hB
     obtain ⟨_,A,rfl⟩:=hv
     exact ⟨A,0,0,[],rfl,rfl,by unfold List.flatten RdL;trivial,fun _=>rfl,(by intro ad _ j u hu;simp at hu),by simp⟩
    | lie g cap =>
     simp only [hid] at hv hB
     subst hv
     obtain ⟨xs,h1,h2,h3⟩:=hB
     obtain ⟨_,_,hcell⟩:=own_cells h1
     refine ⟨_,_,cap,xs,rfl,rfl,h2,(by intro h;cases h),?_,by rw [h2.len,hlen rows hs]⟩
     intro ad had j u hu
     cases had
     rw [addAt,Nat.zero_add]
     exact hcell j u hu
   ·cases h
  ·cases h
 ·cases h
theorem row_runs {o:Oper} {D:Delta} (h:rowD P st o.dst o.op=some D):Runs P X st o D:=by
 intro hdo ρ a w hH
 obtain ⟨dst,op,type,pos,after,guard⟩:=o
 simp only at h
 unfold rowD at h
 split at h
 ·rename_i t len ps
  split at h
  ·rename_i d
   replace hdo:d < X.n:=by simpa [dstOk] using hdo
   split at h
   ·rename_i y hy
    split at h
    ·rename_i e hd
     split at h
     ·rename_i ye hye
      split at h
      ·rename_i q hq
       split at h
       ·rename_i hc
        injection h with h
        subst h
        obtain ⟨hc1,hc2,hc3,hc4⟩:=hc
        subst hc1
        obtain ⟨g1,g2,g3,g4⟩:=elems_rd hH hq
        obtain ⟨ps⟩:=ps
        simp only at g1 g3 g4 hq
        have hxl:(ps.flatMap fun p=>(a.eval p.2).cells.toList).length=q.2.length * ye.size:=by
         have hs:∀ p ∈ ps,(a.eval p.2).cells.size=ye.size:=fun p hp=>by
          obtain ⟨i,hi⟩:=List.getElem?_of_mem hp
          exact (g3 i p hi).2
         rw [g4]
         clear g1 g2 g3 g4 hq
         induction ps with
         | nil=>simp
         | cons p ps ih =>
          rw [List.flatMap_cons,List.length_append,ih fun p hp=>hs p (List.mem_cons_of_mem _ hp),List.length_cons,Nat.succ_mul]
          have:=hs p List.mem_cons_self
          simp
          omega
        have hm:q.2.length≤maxLen:=by
         unfold maxLen
         have:q.2.length * 1≤q.2.length * ye.size:=Nat.mul_le_mul_left _ hc3
         omega
        refine ⟨_,_,_,.inl ?_,new_arr hH d hdo e g1 g2 hxl hm⟩
        have hu:=ty_sl hy hd
        have hfl:∀ cells:Array Value,cells.size=q.2.length * ye.size→Instr.fill (fun i=>some (i * ye.size,ye.size)) cells (ps.map fun p=>(p.1,a.eval p.2))=some (ps.flatMap fun p=>(a.eval p.2).cells.toList).toArray:=fun cells hcs=>by
         rw [fill_eq,List.map_map]
         have hz:=zip_parts (size:=ye.size) (fun p=>(a.eval p.2).cells.toList) ps 0 (fun i p hp=>⟨(g3 i p hp).1,by simpa using (g3 i p hp).2⟩)
         rw [show ((fun p:Nat × Value=>(p.1,p.2.cells.toList)) ∘ fun p:Nat × Operand=>(p.1,a.eval p.2))=fun p=>(p.1,(a.eval p.2).cells.toList) from rfl,hz,
          fill_all _ 0 _ (by
           intro v hv
           obtain ⟨p,hp,rfl⟩:=List.mem_map.1 hv
           obtain ⟨i,hi⟩:=List.getElem?_of_mem hp
           simpa using (g3 i p hi).2) (by simp [hcs,g4])]
         simp [List.flatMap]
        simp only [execOp,Instr.buildSlice,Sem.run_bind,run_underlying hu,Result.andThen_ok,ty_size hye,List.map_toArray]
        rw [if_neg (by omega)]
        by_cases hz:q.2.length * ye.size=0
        ·simp only [hz,if_true,Sem.run_bind,Sem.run_pure,Result.andThen_ok]
         rw [hfl _ (by simp [hz])]
         simp [newRow]
        ·simp only [hz,if_false,Sem.run_bind,ty_zero hye,Sem.run_pure,Result.andThen_ok]
         rw [hfl _ (by simp)]
         simp [newRow]
       ·cases h
      ·cases h
     ·cases h
    ·cases h
   ·cases h
  ·cases h
 ·rename_i s x t t'
  split at h
  ·rename_i d
   split at h
   ·rename_i htt
    subst htt
    split at h
    ·rename_i y hy
     split at h
     ·rename_i e hd
      split at h
      ·rename_i ye hye
       split at h
       ·rename_i c hc
        split at h
        ·rename_i b hb
         split at h
         ·rename_i c' hc'
          split at h
          ·rename_i q hq
           split at h
           ·rename_i hcond
            injection h with h
            subst h
            obtain ⟨k1,k2,k3,k4,k5⟩:=hcond
            have hv:=ev_sound hH hc
            have hx:=ev_sound hH hc'
            unfold RdV at hv hx
            obtain ⟨A,m,cap,ys,hxe,hm,hrd',hnone,hcell,hyl⟩:=rows_rd hH hq hx k3
            obtain ⟨dd,ii,hu,hii,hz0,hsz0,hby0,_,hdd⟩:=tyOf_inv hye
            have hut:=ty_sl hy hd
            have EL:ElT P t e ye.zero ye.size ye.bytes:=⟨hut,⟨ii,hii,hz0,hsz0,hby0⟩,k5,k4⟩
            subst hm
            obtain ⟨v',w',r,hrun,hbel,hfar,hrs,hform⟩:=app_all hH EL type hb hv (cs:=ys) (ao:=A) (m:=q.2.length) (cc:=cap) hnone hcell hyl hrd'.one k1 k2
            rw [← hxe] at hrun
            refine ⟨v',fun i=>if i=d then r else if i ∈ b.1.toList then .dead else ρ i,w',.inl (by simp [execOp,resolve,invoke,builtin,hrun]),?_⟩
            have hevo:Evo X ρ w (fun i=>if i=d then r else if i ∈ b.1.toList then .dead else ρ i) w' (b.1.toList++[d]) (b.1.toList++[d]):=by
             refine ⟨hbel,fun k hk hcond=>hfar k hk fun id c' hid=>hcond id c' (List.mem_append_left _ hid),fun id hid=>?_,fun id k c hid hρ=>?_,fun i j k c c' hi hj=>?_,fun i hi=>?_⟩
             ·simp only [List.mem_append,List.mem_singleton,not_or] at hid
              simp only [if_neg hid.2,if_neg hid.1]
             ·split at hρ
              ·rcases hform with ⟨_,_,h3⟩ | ⟨g,c',_,_,h3,h5,h6,_⟩
               ·rw [h3] at hρ;cases hρ
               ·rw [h3] at hρ
                injection hρ with hρ _
                subst hρ
                exact ⟨h5,h6.imp (fun h=>h) fun ⟨i,c2,_,h⟩=>⟨i,c2,h⟩⟩
              ·rename_i hne'
               rcases List.mem_append.1 hid with hid | hid
               ·rw [if_pos hid] at hρ;cases hρ
               ·exact absurd (List.mem_singleton.1 hid) hne'
             ·have oth:∀ i k c,i ≠ d→(if i=d then r else if i ∈ b.1.toList then R.dead else ρ i)=.lie k c→ρ i=.lie k c∧i ∉ b.1.toList:=fun i k c hid h=>by
               rw [if_neg hid] at h
               split at h
               ·cases h
               ·exact ⟨h,by assumption⟩
              have clash:∀ i k c c',i ≠ d→(if i=d then r else if i ∈ b.1.toList then R.dead else ρ i)=.lie k c→r=.lie k c'→False:=fun i k c c' hid h h'=>by
               obtain ⟨h1,h2⟩:=oth i k c hid h
               rcases hform with ⟨_,_,h3⟩ | ⟨g,c2,_,_,h3,h5,h6,_⟩
               ·rw [h3] at h';cases h'
               ·rw [h3] at h'
                injection h' with h' _
                subst h'
                rcases h6 with h6 | ⟨id,c3,h6,h7⟩
                ·have:=(hH.ge i _ c h1).2.2;omega
                ·exact h2 (by rw [hH.inj i id _ _ _ h1 h7];exact h6)
              by_cases h1:i=d <;> by_cases h2:j=d
              ·rw [h1,h2]
              ·rw [if_pos h1] at hi
               exact (clash j k c' c h2 hj hi).elim
              ·rw [if_pos h2] at hj
               exact (clash i k c c' h1 hi hj).elim
              ·exact hH.inj i j k c c' (oth i k c h1 hi).1 (oth j k c' h2 hj).1
             ·by_cases h1:i=d
              ·exact .inl (by rw [h1];simpa [dstOk] using hdo)
              ·refine .inr ?_
               rcases List.mem_append.1 hi with hi | hi
               ·simp only [if_neg h1,if_pos hi]
               ·exact absurd (List.mem_singleton.1 hi) h1
            refine ⟨hevo,?_,fun id B' hB=>?_⟩
            ·unfold RdV RdC
             simp only [if_true]
             rcases hform with ⟨h1,h2,h3⟩ | ⟨g,c2,_,h1,h3,_⟩
             ·rw [h3];exact ⟨h2,h1⟩
             ·rw [h3];exact h1
            ·obtain ⟨rfl,rfl⟩:=one_get hB
             unfold HasB
             simp only [if_true]
             rcases hform with ⟨h1,h2,h3⟩ | ⟨g,c2,xs,h1,h3,_,_,hown',hrd⟩
             ·rw [h3]
              simp only
              exact List.eq_nil_of_length_eq_zero (by rw [List.length_append];exact h2)
             ·rw [h3]
              simp only
              refine ⟨xs++ys,?_,?_,?_⟩
              ·rw [List.length_append,← h1];exact hown'
              ·rw [List.flatten_append,← h3]
               exact (rdL_weak (fun h=>(Bool.and_eq_true _ _ ▸ h).1) (hevo.rdL _ hrd)).append (rdL_weak (fun h=>(Bool.and_eq_true _ _ ▸ h).2) (rdL_or (hevo.rdL _ hrd')))
              ·intro r' hr'
               rcases List.mem_append.1 hr' with h | h
               ·exact hrs _ h
               ·exact k3 _ h
           ·cases h
          ·cases h
         ·cases h
        ·cases h
       ·cases h
      ·cases h
     ·cases h
    ·cases h
   ·cases h
  ·cases h
 ·cases h
end
end Go.Proofs.YtjdgejfhnfnmgaaGreatDoor.Ax
namespace Go.Proofs.YtjdgejfhnfnmgaaGreatDoor.Ax
open Go.RowKit
def setD (P:Program) (st:St):Op→Option Delta
 | .store t p x=>match ev st p with
  | some (.one (.eptr id k s j))=>match get id st.bl with
   | some (.arr e size z rows)=>match ev st x with
    | some v=>match cellsV v with
     | some vs=>match toT vs with
      | some q=>match tyOf P t with
       | some y=>match rows[k]? with
        | some row=>if s=size∧vs.length=y.size∧j + vs.length≤row.length then some (.mod .junk [id] [] [(id,.arr e size (z && q.1) (rows.set k (row.take j++q.2++row.drop (j + vs.length))))]) else none
        | none=>none
       | none=>none
      | none=>none
     | none=>none
    | none=>none
   | _=>none
  | _=>none
 | _=>none
section
variable {w w':World} {ρ:Nat→R} {P:Program} {X:Cx} {st:St} {a:Act} {t:TypeId} {y:Ty}
theorem flatten_set {α:Type} {s:Nat}:∀ (rows:List (List α)) (k:Nat) (row:List α),(∀ r ∈ rows,r.length=s)→k < rows.length→(rows.set k row).flatten=rows.flatten.take (k * s)++row++rows.flatten.drop (k * s + s)
 | [],k,_,_,h=>by simp at h
 | r :: rs,0,row,hr,_=>by
  have:=hr r List.mem_cons_self
  simp [← this]
 | r :: rs,k + 1,row,hr,hk=>by
  have h1:=hr r List.mem_cons_self
  have ih:=flatten_set rs k row (fun r hr'=>hr r (List.mem_cons_of_mem _ hr')) (by simpa using hk)
  have e1:(r++rs.flatten).take (s + k * s)=r++rs.flatten.take (k * s):=by rw [← h1,List.take_length_add_append]
  have e2:(r++rs.flatten).drop (s + (k * s + s))=rs.flatten.drop (k * s + s):=by rw [show s + (k * s + s)=r.length + (k * s + s) by omega,List.drop_length_add_append]
  rw [List.set_cons_succ,List.flatten_cons,ih,List.flatten_cons,show (k + 1) * s=s + k * s by rw [Nat.succ_mul];omega,Nat.add_assoc,e1,e2]
  simp only [List.append_assoc]
theorem take_seg (l vs:List Value) (off n:Nat) (h:off + vs.length≤n) (hn:n≤l.length):(l.take off++vs++l.drop (off + vs.length)).take n=(l.take n).take off++vs++(l.take n).drop (off + vs.length):=by
 rw [List.take_take,Nat.min_eq_left (by omega),List.drop_take,List.take_append,List.take_of_length_le (by simp;omega)]
 congr 1
 simp
 omega
theorem set_runs {o:Oper} {D:Delta} (h:setD P st o.op=some D):Runs P X st o D:=by
 intro hdo ρ a w hH;clear hdo
 obtain ⟨dst,op,type,pos,after,guard⟩:=o
 simp only at h
 unfold setD at h
 split at h
 ·rename_i t p x
  split at h
  ·rename_i id k s j hp
   split at h
   ·rename_i e size z rows hb
    split at h
    ·rename_i v hv
     split at h
     ·rename_i vs hvs
      split at h
      ·rename_i q hq
       split at h
       ·rename_i y hy
        split at h
        ·rename_i row hrow
         split at h
         ·rename_i hc
          injection h with h
          subst h
          obtain ⟨rfl,hc2,hc3⟩:=hc
          have hx:=cells_rd hvs (ev_sound hH hv)
          have hp':=ev_sound hH hp
          have hB:=hH.blocks _ _ hb
          unfold RdV RdC at hp'
          unfold HasB at hB
          cases hid:ρ id with
          | dead=>simp [hid] at hp'
          | nil=>simp [hid] at hp'
          | lie b cap =>
           simp only [hid] at hp' hB
           obtain ⟨xs,hown,hrd,hrs⟩:=hB
           have hl2:=hx.len
           have hql:=toT_len hq
           have htv:=toT_rd hq hx
           generalize hvals:(a.eval x).cells.toList=vals at hx hl2 htv
           have hne:(a.eval x).cells.size=y.size:=by rw [← hc2,← hl2,← hvals];simp
           obtain ⟨g1,g2,g3⟩:=rows_at hrd hrs hrow
           have hklt:k < rows.length:=by
            rcases Nat.lt_or_ge k rows.length with h | h
            ·exact h
            ·rw [List.getElem?_eq_none h] at hrow;cases hrow
           have hxl:xs.length=rows.length * s:=hown.1
           rcases hown.2 with ⟨h1,_⟩ | ⟨g,cap',cur,h1,hbg,hheap,hnc,hcm,hcs,htk⟩
           ·cases h1
           ·cases h1
            have hle:rows.length * s≤cur.size:=by rw [hcs];exact Nat.mul_le_mul_right _ hnc
            have hoff:k * s + j + vals.length≤rows.length * s:=by omega
            have hst:=run_storeCells_at (P:=P) b (k * s + j) e vals 0 cur w hheap (by omega) (List.all_eq_true.1 hx.one)
            rw [Nat.add_zero] at hst
            have he:=evo_put (cs':=(cur.toList.take (k * s + j)++vals++cur.toList.drop (k * s + j + vals.length)).toArray) hH hid
            refine ⟨undef,ρ,_,.inr ⟨by
             simp only [execOp,hp',Instr.storeAt,Instr.sureAddr,Sem.run_bind,Sem.run_pure,Result.andThen_ok,storeVar,ty_size hy,hne,ne_eq,not_true_eq_false,if_false,hvals,hst],rfl⟩,he,by unfold RdV;trivial,fun id' B' hB'=>?_⟩
            obtain ⟨rfl,rfl⟩:=one_get hB'
            unfold HasB
            rw [hid]
            simp only
            rw [List.length_set]
            refine ⟨xs.take (k * s + j)++vals++xs.drop (k * s + j + vals.length),⟨by simp;omega,.inr ⟨b,cap,_,rfl,hbg,setRow_heap w b cur _ e (0,0) hheap,hnc,hcm,by simp;omega,?_⟩⟩,?_,?_⟩
            ·rw [List.toList_toArray,take_seg _ _ _ _ hoff (by simpa using hle),htk]
            ·refine RdL.mono (w:=w) (fun b' hb'=>he.okT _ b' hb') ?_
             rw [flatten_set rows k _ hrs hklt]
             have e1:xs.take (k * s + j)++vals++xs.drop (k * s + j + vals.length)=xs.take (k * s)++(((xs.drop (k * s)).take s).take j++vals++((xs.drop (k * s)).take s).drop (j + vals.length))++xs.drop (k * s + s):=by
              have e2:xs.take (k * s + j)=xs.take (k * s)++((xs.drop (k * s)).take s).take j:=by
               rw [List.take_take,Nat.min_eq_left (by omega),List.take_add]
              have e3:xs.drop (k * s + j + vals.length)=((xs.drop (k * s)).take s).drop (j + vals.length)++xs.drop (k * s + s):=by
               have:xs.drop (k * s)=(xs.drop (k * s)).take s++xs.drop (k * s + s):=by rw [← List.drop_drop];exact (List.take_append_drop s _).symm
               rw [Nat.add_assoc,← List.drop_drop]
               conv=>lhs;rw [this,List.drop_append_of_le_length (by simp;omega)]
              rw [e2,e3]
              simp only [List.append_assoc]
             rw [e1]
             refine RdL.append (RdL.append (rdL_weak (fun h=>(Bool.and_eq_true _ _ ▸ h).1) (hrd.take _)) ?_) (rdL_weak (fun h=>(Bool.and_eq_true _ _ ▸ h).1) (hrd.drop _))
             rw [hl2]
             refine RdL.append (RdL.append (rdL_weak (fun h=>(Bool.and_eq_true _ _ ▸ h).1) (g2.take _)) (rdL_weak (fun h=>(Bool.and_eq_true _ _ ▸ h).2) htv)) (rdL_weak (fun h=>(Bool.and_eq_true _ _ ▸ h).1) (g2.drop _))
            ·intro r hr
             rcases List.mem_or_eq_of_mem_set hr with h | h
             ·exact hrs r h
             ·rw [h];simp;omega
         ·cases h
        ·cases h
       ·cases h
      ·cases h
     ·cases h
    ·cases h
   ·cases h
  ·cases h
 ·cases h
end
end Go.Proofs.YtjdgejfhnfnmgaaGreatDoor.Ax
