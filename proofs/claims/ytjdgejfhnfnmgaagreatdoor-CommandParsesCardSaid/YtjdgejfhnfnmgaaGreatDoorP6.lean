/-  -/
import Derived.Test.YtjdgejfhnfnmgaaGreatDoorP4
import Derived.Test.YtjdgejfhnfnmgaaGreatDoorP5
import Derived.Laws.StructEq
import Derived.Laws.BytesString
import Derived.Laws.BytesArg
namespace Go.Proofs.YtjdgejfhnfnmgaaGreatDoor.Ax
open Go.RowKit
mutual
def viewC (st:St):Nat→C→Option (Bool × T)
 | _,.t z x=>some (z,x)
 | _,.nil=>some (true,.sl [])
 | _,.own id len=>match get id st.bl with
  | some (.arr _ _ z rows)=>if rows.length=len then some (z,.sl rows) else none
  | _=>none
 | n + 1,.optr id off=>match get id st.bl with
  | some (.var _ cells)=>match viewCs st n cells with
   | some (z,ts)=>some (z,.ptr (ts.drop off))
   | none=>none
  | _=>none
 | n + 1,.fn f caps=>match viewCs st n caps with
  | some (z,ts)=>match decide (f < 1024) with
   | true=>some (z,.fn f ts)
   | false=>none
  | none=>none
 | _,_=>none
def viewCs (st:St):Nat→List C→Option (Bool × List T)
 | _,[]=>some (true,[])
 | 0,_=>none
 | n + 1,c :: cs=>match viewC st n c with
  | some (z,t)=>match viewCs st n cs with
   | some (z',ts)=>some (z && z',t :: ts)
   | none=>none
  | none=>none
end
def deadR:Nat→R:=fun _=>.dead
section
variable {w w':World} {ρ:Nat→R} {P:Program} {X:Cx} {st:St} {a:Act}
theorem ok_dead {z:Bool} {b:Nat} (h:okOf X ρ w z b):okOf X deadR w z b:=⟨h.1,h.2.1,fun _ _ _ h=>by cases h⟩
theorem ok_own (hH:Hold X st ρ a w) {id b cap:Nat} (h:ρ id=.lie b cap) (z:Bool):okOf X deadR w z b:=⟨(hH.ge id b cap h).1.imp (fun h=>h) .inl,(hH.ge id b cap h).2.2,fun _ _ _ h=>by cases h⟩
theorem rdT_dead {z:Bool} {t:T} {x:Value} (h:RdT w (okOf X ρ w z) t x):RdT w (okOf X deadR w z) t x:=h.mono fun _ hb=>⟨ok_dead hb,rfl⟩
theorem rdL_dead {z:Bool} {t:List T} {x:List Value} (h:RdL w (okOf X ρ w z) t x):RdL w (okOf X deadR w z) t x:=h.mono fun _ hb=>⟨ok_dead hb,rfl⟩
mutual
theorem view_rd (hH:Hold X st ρ a w):∀ {n:Nat} {c:C} {q:Bool × T} {x:Value},viewC st n c=some q→RdC w (okOf X ρ w) ρ c x→RdT w (okOf X deadR w q.1) q.2 x
 | _,.t z t,q,x,h,hx=>by
  simp only [viewC,Option.some.injEq] at h
  subst h
  unfold RdC at hx
  exact rdT_dead hx
 | _,.nil,q,x,h,hx=>by
  simp only [viewC,Option.some.injEq] at h
  subst h
  unfold RdC at hx
  unfold RdT
  obtain ⟨A,hA⟩:=hx
  exact ⟨A,0,0,hA,rfl,Nat.le_refl _,.inl rfl⟩
 | _,.own id len,q,x,h,hx=>by
  simp only [viewC] at h
  split at h
  ·rename_i e s z rows hb
   split at h
   ·rename_i hl
    injection h with h
    subst h
    subst hl
    have hB:=hH.blocks _ _ hb
    unfold RdC at hx
    unfold HasB at hB
    unfold RdT
    cases hid:ρ id with
    | dead=>simp [hid] at hx
    | nil =>
     simp only [hid] at hx hB
     obtain ⟨h1,A,hA⟩:=hx
     exact ⟨A,0,0,hA,h1,Nat.le_refl _,.inl rfl⟩
    | lie g cap =>
     simp only [hid] at hx hB
     obtain ⟨xs,h1,h2,h3⟩:=hB
     obtain ⟨_,hc,hcell⟩:=own_cells h1
     refine ⟨_,_,_,hx,rfl,hc,.inr ⟨g,0,s,rfl,ok_own hH hid z,RdRows.mk (rdL_dead h2) h3 fun j u hu=>by rw [Nat.zero_add];exact hcell j u hu⟩⟩
   ·cases h
  ·cases h
 | n + 1,.optr id off,q,x,h,hx=>by
  simp only [viewC] at h
  split at h
  ·rename_i e cells hb
   split at h
   ·rename_i z ts hv
    injection h with h
    subst h
    obtain ⟨b,cap,hid,xs,hheap,hcs⟩:=hH.blocks _ _ hb
    unfold RdC at hx
    rw [hid] at hx
    simp only at hx
    have:=views_rd hH hv hcs
    unfold RdT
    refine ⟨b,off,hx,ok_own hH hid z,?_⟩
    have h1:RdRow w (okOf X deadR w z) b 0 ts:=RdRow.mk this fun j u hu=>by
     rw [Nat.zero_add,cell_of_row w b j xs e (0,0) hheap]
     simpa using hu
    have h2:=h1.drop off
    rwa [Nat.zero_add] at h2
   ·cases h
  ·cases h
 | n + 1,.fn f caps,q,x,h,hx=>by
  simp only [viewC] at h
  split at h
  ·rename_i z ts hv
   split at h
   ·rename_i hlt
    injection h with h
    subst h
    unfold RdC fnV at hx
    rw [hlt] at hx
    obtain ⟨xs,h1,h2⟩:=hx
    unfold RdT
    exact ⟨xs,h1,views_rd hH hv h2⟩
   ·cases h
  ·cases h
 | 0,.optr _ _,_,_,h,_=>by simp [viewC] at h
 | 0,.fn _ _,_,_,h,_=>by simp [viewC] at h
 | _,.eptr _ _ _ _,_,_,h,_=>by simp [viewC] at h
 | _,.junk,_,_,h,_=>by simp [viewC] at h
 | _,.omap _,_,_,h,_=>by simp [viewC] at h
 | _,.ocut _ _ _ _,_,_,h,_=>by simp [viewC] at h
theorem views_rd (hH:Hold X st ρ a w):∀ {n:Nat} {cs:List C} {q:Bool × List T} {xs:List Value},viewCs st n cs=some q→RdCs w (okOf X ρ w) ρ cs xs→RdL w (okOf X deadR w q.1) q.2 xs
 | _,[],q,xs,h,hx=>by
  simp only [viewCs,Option.some.injEq] at h
  subst h
  cases xs with
  | nil=>unfold RdL;trivial
  | cons=>unfold RdCs at hx;exact hx.elim
 | 0,_ :: _,_,_,h,_=>by simp [viewCs] at h
 | n + 1,c :: cs,q,xs,h,hx=>by
  simp only [viewCs] at h
  split at h
  ·rename_i z t hv
   split at h
   ·rename_i z' ts hvs
    injection h with h
    subst h
    cases xs with
    | nil=>unfold RdCs at hx;exact hx.elim
    | cons u xs =>
     unfold RdCs at hx
     unfold RdL
     exact ⟨rdT_weak (fun h=>(Bool.and_eq_true _ _ ▸ h).1) (view_rd hH hv hx.1),rdL_weak (fun h=>(Bool.and_eq_true _ _ ▸ h).2) (views_rd hH hvs hx.2)⟩
   ·cases h
  ·cases h
end
end
inductive A where
 | one (x:T)
 | agg (xs:List T)
def RdA (w:World) (ok:Nat→Prop):A→Value→Prop
 | .one t,x=>RdT w ok t x
 | .agg ts,x=>∃ xs,x=.agg xs∧RdL w ok ts xs.toList
def RdAs (w:World) (ok:Nat→Prop):List A→List Value→Prop
 | [],[]=>True
 | c :: cs,x :: xs=>RdA w ok c x∧RdAs w ok cs xs
 | _,_=>False
theorem RdA.mono {w w':World} {ok ok':Nat→Prop} (h:∀ b,ok b→ok' b∧w'.heap[b]?=w.heap[b]?) {t:A} {x:Value} (hr:RdA w ok t x):RdA w' ok' t x:=by
 cases t <;> unfold RdA at hr ⊢
 ·exact hr.mono h
 ·obtain ⟨xs,h1,h2⟩:=hr;exact ⟨xs,h1,h2.mono h⟩
theorem RdAs.mono {w w':World} {ok ok':Nat→Prop} (h:∀ b,ok b→ok' b∧w'.heap[b]?=w.heap[b]?):∀ {ts:List A} {xs:List Value},RdAs w ok ts xs→RdAs w' ok' ts xs
 | [],[],_=>by unfold RdAs;trivial
 | _ :: _,_ :: _,hr=>by unfold RdAs at hr ⊢;exact ⟨hr.1.mono h,RdAs.mono h hr.2⟩
 | [],_ :: _,hr=>by unfold RdAs at hr;exact hr.elim
 | _ :: _,[],hr=>by unfold RdAs at hr;exact hr.elim
def C.fresh:C→Bool
 | .t z _=>z
 | .nil=>true
 | _=>false
mutual
def V.fresh:V→Bool
 | .one c=>c.fresh
 | .agg cs=>cs.all C.fresh
 | .tup vs=>V.freshs vs
 | .junk=>true
def V.freshs:List V→Bool
 | []=>true
 | v :: vs=>v.fresh && V.freshs vs
end
def B.fresh:B→Bool
 | .arr _ _ z _=>z
 | .var _ cells=>cells.all C.fresh
 | .mp _ _=>true
def Post (w:World) (S:Nat→Prop) (hS:∀ b,S b→b < w.heap.size) (res:V) (nb:List (Nat × B)) (e:Ending) (w':World):Prop :=
 ∃ x ρ,e=.returned x∧Below w.heap.size w w'∧(∀ id b cap,ρ id=.lie b cap→w.heap.size≤b∧b < w'.heap.size)∧(∀ i j b c d,ρ i=.lie b c→ρ j=.lie b d→i=j) ∧
  (∀ id,id ∉ nb.map (·.1)→ρ id=.dead)∧RdV w' (okOf (Cx.plain w S hS 0) ρ w') ρ res x∧∀ id b,get id nb=some b→HasB (Cx.plain w S hS 0) w' ρ id b
structure Sp (P:Program) (f:FuncId) (args:List A) (res:V) (nb:List (Nat × B)):Prop where
 enters:Enters P f
 calls:∀ (w:World) (S:Nat→Prop) (hS:∀ b,S b→b < w.heap.size) (vs:List Value),GW w→RdAs w S args vs→Calls P f vs.toArray w (Post w S hS res nb)
def argV (st:St) (n:Nat):V→Option A
 | .one c=>match viewC st n c with
  | some q=>some (.one q.2)
  | none=>none
 | .agg cs=>match viewCs st n cs with
  | some q=>some (.agg q.2)
  | none=>none
 | _=>none
def argsV (st:St) (n:Nat):List Operand→Option (List A)
 | []=>some []
 | x :: xs=>match ev st x with
  | some v=>match argV st n v with
   | some a=>match argsV st n xs with
    | some q=>some (a :: q)
    | none=>none
   | none=>none
  | none=>none
def calleeV (st:St) (n:Nat) (c:Operand):Option (FuncId × List A) :=
 match ev st c with
 | some (.one (.t _ (.fn f ts)))=>some (f,ts.map A.one)
 | some (.one (.fn f cs))=>match viewCs st n cs with
  | some q=>match decide (f < 1024) with
   | true=>some (f,q.2.map A.one)
   | false=>none
  | none=>none
 | _=>none
def C.free:C→Bool
 | .t _ _=>true
 | .nil=>true
 | _=>false
def V.free:V→Bool
 | .one c=>c.free
 | .agg cs=>cs.all C.free
 | _=>false
def freeOps (st:St) (xs:List Operand):Bool:=xs.all fun x=>match ev st x with
 | some v=>v.free
 | none=>false
section
variable {w w':World} {ρ:Nat→R} {P:Program} {X:Cx} {st:St} {a:Act}
theorem ok_all {z:Bool} {b:Nat} (h:okOf X deadR w z b):b < w.heap.size:=h.2.1
theorem argV_rd (hH:Hold X st ρ a w) {n:Nat} {v:V} {q:A} {x:Value} (h:argV st n v=some q) (hx:RdV w (okOf X ρ w) ρ v x):RdA w (fun b=>b < w.heap.size) q x:=by
 unfold argV at h
 split at h
 ·split at h
  ·rename_i r hr
   injection h with h
   subst h
   unfold RdV at hx
   unfold RdA
   exact (view_rd hH hr hx).mono fun b hb=>⟨ok_all hb,rfl⟩
  ·cases h
 ·split at h
  ·rename_i r hr
   injection h with h
   subst h
   unfold RdV at hx
   obtain ⟨xs,h1,h2⟩:=hx
   unfold RdA
   exact ⟨xs,h1,(views_rd hH hr h2).mono fun b hb=>⟨ok_all hb,rfl⟩⟩
  ·cases h
 ·cases h
theorem argsV_rd (hH:Hold X st ρ a w) {n:Nat}:∀ {os:List Operand} {qa:List A},argsV st n os=some qa→RdAs w (fun b=>b < w.heap.size) qa (os.map a.eval)
 | [],qa,h=>by
  simp only [argsV,Option.some.injEq] at h
  subst h
  rw [List.map_nil];unfold RdAs;trivial
 | x :: xs,qa,h=>by
  simp only [argsV] at h
  split at h
  ·rename_i v hv
   split at h
   ·rename_i q hq
    split at h
    ·rename_i qs hqs
     injection h with h
     subst h
     rw [List.map_cons]
     unfold RdAs
     exact ⟨argV_rd hH hq (ev_sound hH hv),argsV_rd hH hqs⟩
    ·cases h
   ·cases h
  ·cases h
theorem free_rd {n:Nat} {c:C} {q:Bool × T} {x:Value} (hf:c.free=true) (h:viewC st n c=some q) (hx:RdC w (okOf X ρ w) ρ c x):RdT w (okOf X ρ w false) q.2 x:=by
 cases c <;> simp only [C.free] at hf <;> try (cases hf)
 ·simp only [viewC,Option.some.injEq] at h
  subst h
  unfold RdC at hx
  exact rdT_weak (by intro h;cases h) hx
 ·simp only [viewC,Option.some.injEq] at h
  subst h
  unfold RdC at hx
  unfold RdT
  obtain ⟨A,hA⟩:=hx
  exact ⟨A,0,0,hA,rfl,Nat.le_refl _,.inl rfl⟩
theorem frees_rd:∀ {n:Nat} {cs:List C} {q:Bool × List T} {xs:List Value},cs.all C.free=true→viewCs st n cs=some q→RdCs w (okOf X ρ w) ρ cs xs→RdL w (okOf X ρ w false) q.2 xs
 | _,[],q,xs,_,h,hx=>by
  simp only [viewCs,Option.some.injEq] at h
  subst h
  cases xs with
  | nil=>unfold RdL;trivial
  | cons=>unfold RdCs at hx;exact hx.elim
 | 0,_ :: _,_,_,_,h,_=>by simp [viewCs] at h
 | n + 1,c :: cs,q,xs,hf,h,hx=>by
  rw [List.all_cons,Bool.and_eq_true] at hf
  simp only [viewCs] at h
  split at h
  ·rename_i z t hv
   split at h
   ·rename_i z' ts hvs
    injection h with h
    subst h
    cases xs with
    | nil=>unfold RdCs at hx;exact hx.elim
    | cons u xs =>
     unfold RdCs at hx
     unfold RdL
     exact ⟨free_rd hf.1 hv hx.1,frees_rd hf.2 hvs hx.2⟩
   ·cases h
  ·cases h
theorem argF_rd {n:Nat} {v:V} {q:A} {x:Value} (hf:v.free=true) (h:argV st n v=some q) (hx:RdV w (okOf X ρ w) ρ v x):RdA w (okOf X ρ w false) q x:=by
 unfold argV at h
 split at h
 ·split at h
  ·rename_i r hr
   injection h with h
   subst h
   unfold RdV at hx
   unfold RdA
   exact free_rd hf hr hx
  ·cases h
 ·split at h
  ·rename_i r hr
   injection h with h
   subst h
   unfold RdV at hx
   obtain ⟨xs,h1,h2⟩:=hx
   unfold RdA
   exact ⟨xs,h1,frees_rd hf hr h2⟩
  ·cases h
 ·cases h
theorem argsF_rd (hH:Hold X st ρ a w) {n:Nat}:∀ {os:List Operand} {qa:List A},freeOps st os=true→argsV st n os=some qa→RdAs w (okOf X ρ w false) qa (os.map a.eval)
 | [],qa,_,h=>by
  simp only [argsV,Option.some.injEq] at h
  subst h
  rw [List.map_nil];unfold RdAs;trivial
 | x :: xs,qa,hf,h=>by
  simp only [argsV] at h
  unfold freeOps at hf
  rw [List.all_cons,Bool.and_eq_true] at hf
  split at h
  ·rename_i v hv
   split at h
   ·rename_i q hq
    split at h
    ·rename_i qs hqs
     injection h with h
     subst h
     rw [List.map_cons]
     unfold RdAs
     have h1:=hf.1
     simp only [hv] at h1
     exact ⟨argF_rd h1 hq (ev_sound hH hv),argsF_rd hH hf.2 hqs⟩
    ·cases h
   ·cases h
  ·cases h
theorem RdAs.append {ok:Nat→Prop}:∀ {cs ds:List A} {xs ys:List Value},RdAs w ok cs xs→RdAs w ok ds ys→RdAs w ok (cs++ds) (xs++ys)
 | [],_,[],_,_,h2=>by simpa using h2
 | c :: cs,ds,x :: xs,ys,h,h2=>by
  unfold RdAs at h
  rw [List.cons_append,List.cons_append]
  unfold RdAs
  exact ⟨h.1,RdAs.append h.2 h2⟩
 | [],_,_ :: _,_,h,_=>by unfold RdAs at h;exact h.elim
 | _ :: _,_,[],_,h,_=>by unfold RdAs at h;exact h.elim
theorem RdL.toA {ok:Nat→Prop}:∀ {ts:List T} {xs:List Value},RdL w ok ts xs→RdAs w ok (ts.map A.one) xs
 | [],[],_=>by rw [List.map_nil];unfold RdAs;trivial
 | _ :: _,_ :: _,h=>by
  unfold RdL at h
  rw [List.map_cons]
  unfold RdAs RdA
  exact ⟨h.1,RdL.toA h.2⟩
 | [],_ :: _,h=>by unfold RdL at h;exact h.elim
 | _ :: _,[],h=>by unfold RdL at h;exact h.elim
end
end Go.Proofs.YtjdgejfhnfnmgaaGreatDoor.Ax
namespace Go.Proofs.YtjdgejfhnfnmgaaGreatDoor.Ax
open Go.RowKit
def intsT:List (List T)→Option (List Int)
 | []=>some []
 | r :: rs=>match r with
  | [.lit (.int .u8 n)]=>match intsT rs with
   | some l=>some (n :: l)
   | none=>none
  | _=>none
def flatFs (P:Program):Nat→List Field→Option (List TD)
 | _,[]=>some []
 | i, f :: fs => if f.name ≠ "_" ∧ f.offset = i then match P.underlying f.type with
  | some d=>match flatFs P (i + 1) fs with
   | some l=>match d with
    | .int k=>some (.int k :: l)
    | .string=>some (.str :: l)
    | .bool=>some (.bool :: l)
    | _=>none
   | none=>none
  | none=>none
  else none
def flatEqT (P:Program) (t:TypeId):Option (List TD) :=
 match P.underlying t with
 | some (.struct fs)=>if (!P.stoodInHeld t && !P.eqGuardType P.depth t)=true then flatFs P 0 fs.toList else none
 | _=>none
def eq1:TD→Value→Value→Option Bool
 | .int _,.int k a,.int k' b=>if k=k' then some (a==b) else none
 | .str,.string a,.string b=>some (a.toList==b.toList)
 | .bool,.bool a,.bool b=>some (a==b)
 | _,_,_=>none
def valOf:C→Option Value
 | .t _ (.lit u)=>some u
 | _=>none
def eqL:List TD→List C→List C→Option Bool
 | [],[],[]=>some true
 | d :: ds,c :: l,c' :: l'=>match valOf c with
  | some u=>match valOf c' with
   | some v=>match eq1 d u v with
    | some b=>match eqL ds l l' with
     | some r=>some (b && r)
     | none=>none
    | none=>none
   | none=>none
  | none=>none
 | _,_,_=>none
def min1 (b:Bool):Value→Value→Option V
 | .int k x,.int k' y=>if k=k' then some (litI k (if b=true then (if y < x then y else x) else (if x < y then y else x))) else none
 | _,_=>none
def moreV (P:Program) (st:St):Op→Option V
 | .convert src dst x=>match ev st x with
  | some (.one c)=>match viewC st 40 c with
   | some (_,.sl rows)=>match intsT rows with
    | some l=>match tyOf P src with
     | some ys=>match ys.d with
      | .sl e=>match tyOf P e with
       | some ye=>match ye.d with
        | .int .u8=>match tyOf P dst with
         | some yd=>match yd.d with
          | .str=>some (litS (strOfNums l))
          | _=>none
         | none=>none
        | _=>none
       | none=>none
      | _=>none
     | none=>none
    | none=>none
   | _=>none
  | _=>none
 | .binOp op t x y _=>match ev st x with
  | some (.agg l)=>match ev st y with
   | some (.agg l')=>match flatEqT P t with
    | some ds=>match eqL ds l l' with
     | some b=>match op with
      | .eql=>some (litB b)
      | .neq=>some (litB (!b))
      | _=>none
     | none=>none
    | none=>none
   | _=>none
  | some (.one (.t _ (.lit (.bool b))))=>match ev st y with
   | some (.one (.t _ (.lit (.bool b'))))=>match tyOf P t with
    | some yd=>match yd.d with
     | .bool=>match op with
      | .eql=>some (litB (b==b'))
      | .neq=>some (litB (!(b==b')))
      | _=>none
     | _=>none
    | none=>none
   | _=>none
  | _=>none
 | .call ⟨.builtin .min,⟨[x,y]⟩,⟨_⟩⟩=>match ev st x with
  | some (.one (.t _ (.lit u)))=>match ev st y with
   | some (.one (.t _ (.lit v)))=>min1 true u v
   | _=>none
  | _=>none
 | .call ⟨.builtin .max,⟨[x,y]⟩,⟨_⟩⟩=>match ev st x with
  | some (.one (.t _ (.lit u)))=>match ev st y with
   | some (.one (.t _ (.lit v)))=>min1 false u v
   | _=>none
  | _=>none
 | _=>none
section
variable {P:Program} {X:Cx} {st:St} {ρ:Nat→R} {a:Act} {w:World} {ok:Nat→Prop}
theorem rdRows_ints {b:Nat}:∀ {rows:List (List T)} {l:List Int} {o s:Nat},intsT rows=some l→RdRows w ok s b o rows→l.length=rows.length∧∀ i,i < l.length→w.cell? ⟨b,o + i,none⟩=some (.int .u8 (l.getD i 0))
 | [],l,o,s,h,_=>by
  simp only [intsT,Option.some.injEq] at h
  subst h
  exact ⟨rfl,fun i hi=>by simp at hi⟩
 | r :: rs,l,o,s,h,hr=>by
  simp only [intsT] at h
  split at h
  ·rename_i n
   split at h
   ·rename_i l' hl
    injection h with h
    subst h
    unfold RdRows RdRow RdT at hr
    obtain ⟨h1,⟨⟨y,hy,hy2,_⟩,_⟩,h3⟩:=hr
    subst hy2
    simp only [List.length_cons,List.length_nil,Nat.zero_add] at h1
    subst h1
    obtain ⟨g1,g2⟩:=rdRows_ints hl h3
    refine ⟨by simp [g1],fun i hi=>?_⟩
    cases i with
    | zero=>simpa using hy
    | succ i =>
     have:=g2 i (by simpa using hi)
     rw [show o + (i + 1)=o + 1 + i by omega]
     simpa using this
   ·cases h
  ·cases h
theorem conv_bytes {src dst e:TypeId} (hs:P.underlying src=some (.slice e)) (he:P.underlying e=some (.int .u8)) (hd:P.underlying dst=some .string) {rows:List (List T)} {l:List Int} (hl:intsT rows=some l) {x:Value} (hx:RdT w ok (.sl rows) x):(convert src dst x).run P w=.ok (.string (strOfNums l)) w:=by
 unfold RdT at hx
 obtain ⟨A,n,c,rfl,hn,_,h0 | ⟨b,o,s,rfl,_,hr⟩⟩:=hx
 ·subst h0
  obtain rfl:rows=[]:=List.length_eq_zero_iff.1 hn
  simp only [intsT,Option.some.injEq] at hl
  subst hl
  rw [run_convert_bytes_string w src dst e _ _ _ hs he hd]
  cases A with
  | none=>simp [Conv.bytesToString,strOfNums];rfl
  | some A =>
   rw [run_bytesToString w A 0 c [] (by simp [loadCells,loadCellsFrom])]
   rfl
 ·obtain ⟨g1,g2⟩:=rdRows_ints hl hr
  exact run_convert_bytes_arg w src e hs he b o n c l (by rw [g1,hn]) (fun i hi=>g2 i (by rw [g1,hn];exact hi)) dst hd
theorem eq1_run {t:TypeId} {d:TypeDesc} {u v:Value} {b:Bool} (w:World) (n:Nat) (ht:P.underlying t=some d) (h:eq1 (tdOf d) u v=some b):(Op.equalIn (n + 1) t u v).run P w=.ok b w:=by
 unfold eq1 at h
 split at h
 ·rename_i k0 k a k' b' hd
  cases d <;> simp [tdOf] at hd
  split at h
  ·rename_i hk
   subst hk
   injection h with h
   subst h
   simp [Op.equalIn,run_underlying ht]
  ·cases h
 ·rename_i a b' hd
  cases d <;> simp [tdOf] at hd
  injection h with h
  subst h
  simp [Op.equalIn,run_underlying ht,beq_toListBytes]
 ·rename_i a b' hd
  cases d <;> simp [tdOf] at hd
  injection h with h
  subst h
  simp [Op.equalIn,run_underlying ht]
 ·cases h
theorem eqFields_run {ok:Bool→Nat→Prop} (n:Nat) (X Y:Array Value):∀ {fs:List Field} {i:Nat} {ds:List TD} {l l':List C} {b:Bool} {xs ys:List Value},flatFs P i fs=some ds→eqL ds l l'=some b→RdCs w ok ρ l xs→RdCs w ok ρ l' ys→(∀ k,xs[k]?=X[i + k]?)→(∀ k,ys[k]?=Y[i + k]?) →
  (Op.eqFields (n + 1) X Y fs).run P w=.ok b w
 | [],i,ds,l,l',b,xs,ys,hf,he,hx,hy,hX,hY=>by
  simp only [flatFs,Option.some.injEq] at hf
  subst hf
  cases l <;> cases l' <;> simp [eqL] at he
  subst he
  simp [Op.eqFields]
 | f :: fs,i,ds,l,l',b,xs,ys,hf,he,hx,hy,hX,hY=>by
  unfold flatFs at hf
  split at hf
  ·rename_i hn
   split at hf
   ·rename_i d hd
    split at hf
    ·rename_i dl hdl
     obtain ⟨hds,hag⟩:ds=tdOf d :: dl∧(isAgg f.type).run P w=.ok false w:=by
      cases d <;> simp only [Option.some.injEq] at hf <;> first
       | (subst hf;exact ⟨rfl,by simp [isAgg,run_underlying hd]⟩)
       | cases hf
     subst hds
     cases l with
     | nil=>simp [eqL] at he
     | cons c l =>
      cases l' with
      | nil=>simp [eqL] at he
      | cons c' l' =>
       unfold eqL at he
       split at he
       ·rename_i u hu
        split at he
        ·rename_i v hv
         split at he
         ·rename_i b1 hb1
          split at he
          ·rename_i r hr
           injection he with he
           subst he
           cases xs with
           | nil=>unfold RdCs at hx;exact hx.elim
           | cons x xs =>
            cases ys with
            | nil=>unfold RdCs at hy;exact hy.elim
            | cons y ys =>
             unfold RdCs at hx hy
             have hval:∀ {c:C} {u x:Value},valOf c=some u→RdC w ok ρ c x→x=u:=by
              intro c u x h1 h2
              unfold valOf at h1
              split at h1
              ·injection h1 with h1
               subst h1
               unfold RdC RdT at h2
               exact h2.1
              ·cases h1
             obtain rfl:=hval hu hx.1
             obtain rfl:=hval hv hy.1
             have e1:(part f.type X f.offset).run P w=.ok x w:=by
              have:=hX 0
              simp only [List.getElem?_cons_zero,Nat.add_zero] at this
              simp [part,hag,hn.2,← this]
             have e2:(part f.type Y f.offset).run P w=.ok y w:=by
              have:=hY 0
              simp only [List.getElem?_cons_zero,Nat.add_zero] at this
              simp [part,hag,hn.2,← this]
             have e3:=eqFields_run n X Y hdl hr hx.2 hy.2 (fun k=>by have:=hX (k + 1);rw [show i + 1 + k=i + (k + 1) by omega];simpa using this) (fun k=>by have:=hY (k + 1);rw [show i + 1 + k=i + (k + 1) by omega];simpa using this)
             unfold Op.eqFields
             rw [if_pos hn.1]
             simp only [Sem.run_bind,e1,e2,Result.andThen_ok,eq1_run w n hd hb1]
             cases b1 with
             | true=>simpa using e3
             | false=>simp
          ·cases he
         ·cases he
        ·cases he
       ·cases he
    ·cases hf
   ·cases hf
  ·cases hf
theorem eqT_run {t:TypeId} {ds:List TD} (h:flatEqT P t=some ds):∃ F:Array Field,P.underlying t=some (.struct F)∧P.stoodInHeld t=false∧P.eqGuardType P.depth t=false∧flatFs P 0 F.toList=some ds:=by
 unfold flatEqT at h
 split at h
 ·rename_i F hF
  split at h
  ·rename_i hc
   simp only [Bool.and_eq_true,Bool.not_eq_true'] at hc
   exact ⟨F,hF,hc.1,hc.2,h⟩
  ·cases h
 ·cases h
theorem min_run {b:Bool} {u v:Value} {r:V} {ok:Bool→Nat→Prop} (w:World) (t:Array TypeId) (t':TypeId) (h:min1 b u v=some r):∃ q,((if b=true then Builtin.min_ t t' #[u,v] else Builtin.max_ t t' #[u,v]):Sem Value).run P w=.ok q w∧RdV w ok ρ r q:=by
 unfold min1 at h
 split at h
 ·rename_i k x k' y
  split at h
  ·rename_i hk
   subst hk
   injection h with h
   subst h
   refine ⟨_,?_,rd_lit rfl⟩
   cases b
   ·simp [Builtin.max_,Builtin.max2]
   ·simp [Builtin.min_,Builtin.min2]
  ·cases h
 ·cases h
theorem more_runs {o:Oper} {v:V} (h:moreV P st o.op=some v):Runs P X st o (.pure v):=by
 intro hdo ρ a w hH;clear hdo
 suffices hs:∃ q,(execOp a.eval o).run P w=.ok (.value q) w∧RdV w (okOf X ρ w) ρ v q by
  obtain ⟨q,h1,h2⟩:=hs
  exact ⟨q,ρ,w,.inl h1,rfl,rfl,h2⟩
 obtain ⟨dst,op,type,pos,after,guard⟩:=o
 simp only at h
 unfold moreV at h
 split at h
 ·rename_i src dst' x
  split at h
  ·rename_i c hc
   split at h
   ·rename_i z rows hv
    split at h
    ·rename_i l hl
     split at h
     ·rename_i ys hys
      split at h
      ·rename_i e hde
       split at h
       ·rename_i ye hye
        split at h
        ·rename_i hk
         split at h
         ·rename_i yd hyd
          split at h
          ·rename_i hds
           injection h with h
           subst h
           have h1:=ev_sound hH hc
           unfold RdV at h1
           have h2:=view_rd hH hv h1
           refine ⟨_,?_,rd_lit rfl⟩
           have h3:=conv_bytes (w:=w) (ty_sl hys hde) (ty_int hye hk) (ty_str hyd hds) hl h2
           simp only [execOp,Sem.run_bind,h3,Result.andThen_ok,Sem.run_pure]
          ·cases h
         ·cases h
        ·cases h
       ·cases h
      ·cases h
     ·cases h
    ·cases h
   ·cases h
  ·cases h
 ·rename_i op t x y t'
  split at h
  ·rename_i l hx
   split at h
   ·rename_i l' hy
    split at h
    ·rename_i ds hds
     split at h
     ·rename_i b hb
      obtain ⟨F,hF,g1,g2,g3⟩:=eqT_run hds
      have h1:=ev_sound hH hx
      have h2:=ev_sound hH hy
      unfold RdV at h1 h2
      obtain ⟨xs,e1,r1⟩:=h1
      obtain ⟨ys,e2,r2⟩:=h2
      have hFo:P.fieldsOf t=F:=by simp [Program.fieldsOf,hF]
      have key:(Op.equal t (.agg xs) (.agg ys)).run P w=.ok b w:=by
       show (Op.equalIn (9999 + 1) t (.agg xs) (.agg ys)).run P w=_
       rw [run_equalIn_struct w 9999 t xs ys (by rw [hFo];exact hF) g1,hFo]
       exact eqFields_run 9998 xs ys g3 hb r1 r2 (fun k=>by simp) (fun k=>by simp)
      have hg:=run_eqGuard_agg (P:=P) w op t x y xs ys g2
      split at h
      ·injection h with h
       subst h
       refine ⟨_,?_,rd_lit rfl⟩
       simp only [execOp,e1,e2,Sem.run_bind,hg,Result.andThen_ok,binOp,key,Sem.run_pure]
      ·injection h with h
       subst h
       refine ⟨_,?_,rd_lit rfl⟩
       simp only [execOp,e1,e2,Sem.run_bind,hg,Result.andThen_ok,binOp,key,Sem.run_pure]
      ·cases h
     ·cases h
    ·cases h
   ·cases h
  ·rename_i z b hx
   split at h
   ·rename_i z' b' hy
    split at h
    ·rename_i yd hyd
     split at h
     ·rename_i hd
      have h1:=ev_sound hH hx
      have h2:=ev_sound hH hy
      unfold RdV RdC RdT at h1 h2
      have hu:=ty_bool hyd hd
      have key:(Op.equal t (.bool b) (.bool b')).run P w=.ok (b==b') w:=by
       exact run_equalIn_bool' w 9999 t b b' hu
      have hg:(eqGuard op t x y (.bool b) (.bool b')).run P w=.ok () w:=by cases op <;> rfl
      split at h
      ·injection h with h
       subst h
       refine ⟨_,?_,rd_lit rfl⟩
       simp only [execOp,h1.1,h2.1,Sem.run_bind,hg,Result.andThen_ok,binOp,key,Sem.run_pure]
      ·injection h with h
       subst h
       refine ⟨_,?_,rd_lit rfl⟩
       simp only [execOp,h1.1,h2.1,Sem.run_bind,hg,Result.andThen_ok,binOp,key,Sem.run_pure]
      ·cases h
     ·cases h
    ·cases h
   ·cases h
  ·cases h
 ·rename_i x y t
  split at h
  ·rename_i u hx
   split at h
   ·rename_i v' hy
    have h1:=ev_sound hH hx
    have h2:=ev_sound hH hy
    unfold RdV RdC RdT at h1 h2
    obtain ⟨q,h3,h4⟩:=min_run (P:=P) (ρ:=ρ) (ok:=okOf X ρ w) w ⟨t⟩ type h
    refine ⟨q,?_,h4⟩
    rw [if_pos rfl] at h3
    simp [execOp,resolve,invoke,h1.1,h2.1,builtin,h3]
   ·cases h
  ·cases h
 ·rename_i x y t
  split at h
  ·rename_i u hx
   split at h
   ·rename_i v' hy
    have h1:=ev_sound hH hx
    have h2:=ev_sound hH hy
    unfold RdV RdC RdT at h1 h2
    obtain ⟨q,h3,h4⟩:=min_run (P:=P) (ρ:=ρ) (ok:=okOf X ρ w) w ⟨t⟩ type h
    refine ⟨q,?_,h4⟩
    rw [if_neg (by simp)] at h3
    simp [execOp,resolve,invoke,h1.1,h2.1,builtin,h3]
   ·cases h
  ·cases h
 ·cases h
end
end Go.Proofs.YtjdgejfhnfnmgaaGreatDoor.Ax
namespace Go.Proofs.YtjdgejfhnfnmgaaGreatDoor.Ax
open Go.RowKit
section
variable {w w':World} {ρ ρ':Nat→R} {P:Program} {X:Cx} {st:St} {a:Act}
theorem RdC.more {ok ok':Bool→Nat→Prop} (hT:∀ z t x,RdT w (ok z) t x→RdT w (ok' z) t x) (hρ:∀ id,ρ id=.dead ∨ ρ' id=ρ id) {c:C} {x:Value} (h:RdC w ok ρ c x):RdC w ok' ρ' c x:=by
 refine C.rec (motive_1:=fun c=>∀ x,RdC w ok ρ c x→RdC w ok' ρ' c x) (motive_2:=fun cs=>∀ xs,RdCs w ok ρ cs xs→RdCs w ok' ρ' cs xs) ?_ ?_ ?_ ?_ ?_ ?_ ?_ ?_ ?_ ?_ ?_ c x h
 ·intro z t x h;unfold RdC at h ⊢;exact hT _ _ _ h
 ·intro x h;unfold RdC at h ⊢;exact h
 ·intro id len x h
  unfold RdC at h ⊢
  rcases hρ id with h1 | h1
  ·simp [h1] at h
  ·rw [h1];exact h
 ·intro id len x h
  unfold RdC at h ⊢
  rcases hρ id with h1 | h1
  ·simp [h1] at h
  ·rw [h1];exact h
 ·intro id k s j x h
  unfold RdC at h ⊢
  rcases hρ id with h1 | h1
  ·simp [h1] at h
  ·rw [h1];exact h
 ·intro f caps ih x h
  unfold RdC at h ⊢
  obtain ⟨xs,h1,h2⟩:=h
  exact ⟨xs,h1,ih _ h2⟩
 ·intro x h;unfold RdC at h ⊢;exact h
 ·intro id x h
  unfold RdC at h ⊢
  rcases hρ id with h1 | h1
  ·simp [h1] at h
  ·rw [h1];exact h
 ·intro id s lo len x h
  unfold RdC at h ⊢
  rcases hρ id with h1 | h1
  ·simp [h1] at h
  ·rw [h1];exact h
 ·intro xs h
  cases xs with
  | nil=>unfold RdCs;trivial
  | cons=>unfold RdCs at h;exact h.elim
 ·intro c cs ih1 ih2 xs h
  cases xs with
  | nil=>unfold RdCs at h;exact h.elim
  | cons u xs=>unfold RdCs at h ⊢;exact ⟨ih1 _ h.1,ih2 _ h.2⟩
theorem RdCs.more {ok ok':Bool→Nat→Prop} (hT:∀ z t x,RdT w (ok z) t x→RdT w (ok' z) t x) (hρ:∀ id,ρ id=.dead ∨ ρ' id=ρ id):∀ {cs:List C} {xs:List Value},RdCs w ok ρ cs xs→RdCs w ok' ρ' cs xs
 | [],[],_=>by unfold RdCs;trivial
 | _ :: _,_ :: _,h=>by unfold RdCs at h ⊢;exact ⟨h.1.more hT hρ,RdCs.more hT hρ h.2⟩
 | [],_ :: _,h=>by unfold RdCs at h;exact h.elim
 | _ :: _,[],h=>by unfold RdCs at h;exact h.elim
theorem RdV.more {ok ok':Bool→Nat→Prop} (hT:∀ z t x,RdT w (ok z) t x→RdT w (ok' z) t x) (hρ:∀ id,ρ id=.dead ∨ ρ' id=ρ id) {v:V} {x:Value} (h:RdV w ok ρ v x):RdV w ok' ρ' v x:=by
 refine V.rec (motive_1:=fun v=>∀ x,RdV w ok ρ v x→RdV w ok' ρ' v x) (motive_2:=fun vs=>∀ xs,RdVs w ok ρ vs xs→RdVs w ok' ρ' vs xs) ?_ ?_ ?_ ?_ ?_ ?_ v x h
 ·intro c x h;unfold RdV at h ⊢;exact h.more hT hρ
 ·intro cs x h
  unfold RdV at h ⊢
  obtain ⟨xs,h1,h2⟩:=h
  exact ⟨xs,h1,h2.more hT hρ⟩
 ·intro vs ih x h
  unfold RdV at h ⊢
  obtain ⟨xs,h1,h2⟩:=h
  exact ⟨xs,h1,ih _ h2⟩
 ·intro x _;unfold RdV;trivial
 ·intro xs h
  cases xs with
  | nil=>unfold RdVs;trivial
  | cons=>unfold RdVs at h;exact h.elim
 ·intro c cs ih1 ih2 xs h
  cases xs with
  | nil=>unfold RdVs at h;exact h.elim
  | cons u xs=>unfold RdVs at h ⊢;exact ⟨ih1 _ h.1,ih2 _ h.2⟩
end
def joinR (ids:List Nat) (ρ ρc:Nat→R) (i:Nat):R:=if i ∈ ids then ρc i else ρ i
section
variable {w w':World} {ρ ρc:Nat→R} {P:Program} {X:Cx} {st:St} {a:Act}
theorem evo_call (hH:Hold X st ρ a w) {ids:List Nat} (hb:Below w.heap.size w w') (hge:∀ id b cap,ρc id=.lie b cap→w.heap.size≤b∧b < w'.heap.size) (hinj:∀ i j b c d,ρc i=.lie b c→ρc j=.lie b d→i=j) (hids:∀ id ∈ ids,id < X.n) :
  Evo X ρ w (joinR ids ρ ρc) w' [] ids where
 below:=hb.mono (Nat.zero_le _)
 heap b hlt _:=hb.block b hlt
 rho id hid:=if_neg hid
 new id b cap hid h:=by
  rw [joinR,if_pos hid] at h
  have:=hge id b cap h
  exact ⟨this.2,.inl this.1⟩
 inj i j b c d hi hj:=by
  unfold joinR at hi hj
  split at hi <;> split at hj
  ·exact hinj i j b c d hi hj
  ·have h1:=hge i b c hi
   have h2:=(hH.ge j b d hj).2.2
   omega
  ·have h1:=hge j b d hj
   have h2:=(hH.ge i b c hi).2.2
   omega
  ·exact hH.inj i j b c d hi hj
 pin id hid:=.inl (hids id hid)
theorem ok_join (hH:Hold X st ρ a w) {ids:List Nat} {S:Nat→Prop} {hS:∀ b,S b→b < w.heap.size} {z:Bool} (hz:z=true ∨ ∀ b,S b→okOf X ρ w false b) {b:Nat} (h:okOf (Cx.plain w S hS 0) ρc w' z b) :
  okOf X (joinR ids ρ ρc) w' z b:=by
 obtain ⟨h1,h2,h3⟩:=h
 have hnew:∀ id b' cap,w.heap.size≤b→joinR ids ρ ρc id=.lie b' cap→b' ≠ b:=fun id b' cap hb hid e=>by
  subst e
  unfold joinR at hid
  split at hid
  ·exact h3 id _ cap hid rfl
  ·have:=(hH.ge id _ cap hid).2.2;omega
 rcases h1 with h1 | h1 | ⟨hz',h1⟩
 rotate_left
 ·exact False.elim h1
 rotate_left
 ·exact ⟨.inl (Nat.le_trans hH.below.size h1),h2,fun id b' cap hid=>hnew id b' cap h1 hid⟩
 ·rcases hz with hz | hz
  ·rw [hz'] at hz;cases hz
  ·have h4:=hz b h1
   refine ⟨h4.1.imp id fun hh=>hh.imp id fun hh=>⟨hz',hh.2⟩,h2,fun id b' cap hid e=>?_⟩
   subst e
   unfold joinR at hid
   split at hid
   ·exact h3 id _ cap hid rfl
   ·exact h4.2.2 id _ cap hid rfl
end
mutual
def C.allF:C→Bool
 | .t z _=>z
 | .fn _ caps=>C.allFs caps
 | _=>true
def C.allFs:List C→Bool
 | []=>true
 | c :: cs=>c.allF && C.allFs cs
end
mutual
def V.allF:V→Bool
 | .one c=>c.allF
 | .agg cs=>C.allFs cs
 | .tup vs=>V.allFs vs
 | .junk=>true
def V.allFs:List V→Bool
 | []=>true
 | v :: vs=>v.allF && V.allFs vs
end
def B.allF:B→Bool
 | .arr _ _ z _=>z
 | .var _ cells=>C.allFs cells
 | .mp _ _=>true
section
variable {w:World} {ok ok':Bool→Nat→Prop} {ρ ρ':Nat→R}
mutual
theorem RdC.moreF (hT:∀ t x,RdT w (ok true) t x→RdT w (ok' true) t x) (hρ:∀ id,ρ id=.dead ∨ ρ' id=ρ id):∀ {c:C} {x:Value},c.allF=true→RdC w ok ρ c x→RdC w ok' ρ' c x
 | .t z t,x,hf,h=>by
  simp only [C.allF] at hf
  subst hf
  unfold RdC at h ⊢;exact hT _ _ h
 | .nil,x,_,h=>by unfold RdC at h ⊢;exact h
 | .own id len,x,_,h=>by
  unfold RdC at h ⊢
  rcases hρ id with h1 | h1
  ·simp [h1] at h
  ·rw [h1];exact h
 | .optr id len,x,_,h=>by
  unfold RdC at h ⊢
  rcases hρ id with h1 | h1
  ·simp [h1] at h
  ·rw [h1];exact h
 | .eptr id k s j,x,_,h=>by
  unfold RdC at h ⊢
  rcases hρ id with h1 | h1
  ·simp [h1] at h
  ·rw [h1];exact h
 | .omap id,x,_,h=>by
  unfold RdC at h ⊢
  rcases hρ id with h1 | h1
  ·simp [h1] at h
  ·rw [h1];exact h
 | .ocut id s lo len,x,_,h=>by
  unfold RdC at h ⊢
  rcases hρ id with h1 | h1
  ·simp [h1] at h
  ·rw [h1];exact h
 | .fn f caps,x,hf,h=>by
  simp only [C.allF] at hf
  unfold RdC at h ⊢
  obtain ⟨xs,h1,h2⟩:=h
  exact ⟨xs,h1,RdCs.moreF hT hρ hf h2⟩
 | .junk,x,_,h=>by unfold RdC at h ⊢;exact h
theorem RdCs.moreF (hT:∀ t x,RdT w (ok true) t x→RdT w (ok' true) t x) (hρ:∀ id,ρ id=.dead ∨ ρ' id=ρ id):∀ {cs:List C} {xs:List Value},C.allFs cs=true→RdCs w ok ρ cs xs→RdCs w ok' ρ' cs xs
 | [],[],_,_=>by unfold RdCs;trivial
 | _ :: _,_ :: _,hf,h=>by
  simp only [C.allFs,Bool.and_eq_true] at hf
  unfold RdCs at h ⊢
  exact ⟨RdC.moreF hT hρ hf.1 h.1,RdCs.moreF hT hρ hf.2 h.2⟩
 | [],_ :: _,_,h=>by unfold RdCs at h;exact h.elim
 | _ :: _,[],_,h=>by unfold RdCs at h;exact h.elim
end
mutual
theorem RdV.moreF (hT:∀ t x,RdT w (ok true) t x→RdT w (ok' true) t x) (hρ:∀ id,ρ id=.dead ∨ ρ' id=ρ id):∀ {c:V} {x:Value},c.allF=true→RdV w ok ρ c x→RdV w ok' ρ' c x
 | .one c,x,hf,h=>by
  simp only [V.allF] at hf
  unfold RdV at h ⊢;exact RdC.moreF hT hρ hf h
 | .agg cs,x,hf,h=>by
  simp only [V.allF] at hf
  unfold RdV at h ⊢
  obtain ⟨xs,h1,h2⟩:=h
  exact ⟨xs,h1,RdCs.moreF hT hρ hf h2⟩
 | .tup vs,x,hf,h=>by
  simp only [V.allF] at hf
  unfold RdV at h ⊢
  obtain ⟨xs,h1,h2⟩:=h
  exact ⟨xs,h1,RdVs.moreF hT hρ hf h2⟩
 | .junk,x,_,_=>by unfold RdV;trivial
theorem RdVs.moreF (hT:∀ t x,RdT w (ok true) t x→RdT w (ok' true) t x) (hρ:∀ id,ρ id=.dead ∨ ρ' id=ρ id):∀ {cs:List V} {xs:List Value},V.allFs cs=true→RdVs w ok ρ cs xs→RdVs w ok' ρ' cs xs
 | [],[],_,_=>by unfold RdVs;trivial
 | _ :: _,_ :: _,hf,h=>by
  simp only [V.allFs,Bool.and_eq_true] at hf
  unfold RdVs at h ⊢
  exact ⟨RdV.moreF hT hρ hf.1 h.1,RdVs.moreF hT hρ hf.2 h.2⟩
 | [],_ :: _,_,h=>by unfold RdVs at h;exact h.elim
 | _ :: _,[],_,h=>by unfold RdVs at h;exact h.elim
end
end
section
variable {w w':World} {ρ ρc:Nat→R} {P:Program} {X:Cx} {st:St} {a:Act}
theorem hasB_join (hH:Hold X st ρ a w) {ids:List Nat} {S:Nat→Prop} {hS:∀ b,S b→b < w.heap.size} (hids:∀ id,id ∉ ids→ρc id=.dead) {b:B} {id:Nat} (hz:b.allF=true ∨ ∀ b,S b→okOf X ρ w false b) (h:HasB (Cx.plain w S hS 0) w' ρc id b):HasB X w' (joinR ids ρ ρc) id b:=by
 have hj:∀ id,ρc id=.dead ∨ joinR ids ρ ρc id=ρc id:=fun id=>by
  by_cases hm:id ∈ ids
  ·exact .inr (if_pos hm)
  ·exact .inl (hids id hm)
 have hT:∀ z,(z=true ∨ ∀ b,S b→okOf X ρ w false b)→∀ t x,RdT w' (okOf (Cx.plain w S hS 0) ρc w' z) t x→RdT w' (okOf X (joinR ids ρ ρc) w' z) t x:=fun z hz t x hr=>hr.mono fun b hb=>⟨ok_join hH hz hb,rfl⟩
 have hL:∀ z,(z=true ∨ ∀ b,S b→okOf X ρ w false b)→∀ t x,RdL w' (okOf (Cx.plain w S hS 0) ρc w' z) t x→RdL w' (okOf X (joinR ids ρ ρc) w' z) t x:=fun z hz t x hr=>hr.mono fun b hb=>⟨ok_join hH hz hb,rfl⟩
 cases b with
 | arr e s z rows =>
  unfold HasB at h ⊢
  rcases hj id with h1 | h1
  ·simp [h1] at h
  ·rw [h1]
   cases hid:ρc id with
   | dead=>simp [hid] at h
   | nil=>simp only [hid] at h ⊢;exact h
   | lie g cap =>
    simp only [hid] at h ⊢
    obtain ⟨xs,h1,h2,h3⟩:=h
    refine ⟨xs,own_low h1 (Nat.zero_le _),hL z (hz.imp (fun h=>by simpa [B.allF] using h) (fun h=>h)) _ _ h2,h3⟩
 | var e cells =>
  unfold HasB at h ⊢
  obtain ⟨g,cap,hid,xs,h1,h2⟩:=h
  have hid':joinR ids ρ ρc id=.lie g cap:=by
   rcases hj id with h3 | h3
   ·rw [h3] at hid;cases hid
   ·rw [h3];exact hid
  refine ⟨g,cap,hid',xs,h1,?_⟩
  rcases hz with hz | hz
  ·exact RdCs.moreF (hT true (.inl rfl)) hj (by simpa [B.allF] using hz) h2
  ·exact h2.more (fun z=>hT z (.inr hz)) hj
 | mp k es =>
  unfold HasB at h ⊢
  obtain ⟨g,cap,hid,rest⟩:=h
  have hid':joinR ids ρ ρc id=.lie g cap:=by
   rcases hj id with h3 | h3
   ·rw [h3] at hid;cases hid
   ·rw [h3];exact hid
  exact ⟨g,cap,hid',rest⟩
def nbOk (n:Nat) (nb:List (Nat × B)):Bool:=nb.all fun p=>decide (p.1 < n)
theorem nbOk_lt {n:Nat} {nb:List (Nat × B)} (h:nbOk n nb=true):∀ id ∈ nb.map (·.1),id < n:=fun id hid=>by
 obtain ⟨p,h1,rfl⟩:=List.mem_map.1 hid
 simpa using List.all_eq_true.1 h p h1
def callD (res:V) (nb:List (Nat × B)):Delta:=.mod res [] (nb.map (·.1)) nb
theorem call_step {o:Oper} {c:Call} {cv:Operand} {f:FuncId} {qs caps:List A} {res:V} {nb:List (Nat × B)} {n:Nat} (hop:o.op=.call c) (hcal:c.callee=.value cv) (hcv:calleeV st n cv=some (f,caps)) (hqs:argsV st n c.args.toList=some qs)
  (hsp:Sp P f (qs++caps) res nb) (hm:freeOps st (cv :: c.args.toList)=true∧caps=[] ∨ res.allF=true∧∀ p ∈ nb,p.2.allF=true) (hnlt:nbOk X.n nb=true):Step P X st o (callD res nb):=by
 intro _ ρ a w hH K Q hK
 have hval:∃ xs,a.eval cv=.func (.func f) #[] xs∧RdAs w (fun b=>b < w.heap.size) caps xs.toList:=by
  unfold calleeV at hcv
  split at hcv
  ·rename_i z g ts he
   simp only [Option.some.injEq,Prod.mk.injEq] at hcv
   obtain ⟨rfl,rfl⟩:=hcv
   have:=ev_sound hH he
   unfold RdV RdC RdT at this
   obtain ⟨xs,h1,h2⟩:=this
   exact ⟨xs,h1,(h2.mono fun b hb=>⟨hb.2.1,rfl⟩).toA⟩
  ·rename_i g cs he
   split at hcv
   ·rename_i q hq
    split at hcv
    ·rename_i hlt
     simp only [Option.some.injEq,Prod.mk.injEq] at hcv
     obtain ⟨rfl,rfl⟩:=hcv
     have:=ev_sound hH he
     unfold RdV RdC fnV at this
     rw [hlt] at this
     obtain ⟨xs,h1,h2⟩:=this
     exact ⟨xs,h1,((views_rd hH hq h2).mono fun b hb=>⟨ok_all hb,rfl⟩).toA⟩
    ·cases hcv
   ·cases hcv
  ·cases hcv
 obtain ⟨xs,hfv,hcaps⟩:=hval
 have hrun:(execOp a.eval o).run P w=.ok (.enter f ((c.args.toList.map a.eval)++xs.toList).toArray) w:=by
  have he:=hsp.enters ((c.args.toList.map a.eval)++xs.toList).toArray w
  simp only [execOp,hop,resolve,hcal,Deferred.ofValue,hfv,Sem.run_bind,Sem.run_pure,Result.andThen_ok,invoke]
  rw [← he]
  congr 2
  obtain ⟨xs⟩:=xs
  obtain ⟨ar⟩:∃ l:List Operand,c.args=l.toArray:=⟨c.args.toList,by simp⟩
  simp [*]
 have key:∃ S:Nat→Prop,∃ hS:∀ b,S b→b < w.heap.size,RdAs w S (qs++caps) (c.args.toList.map a.eval++xs.toList)∧((∀ b,S b→okOf X ρ w false b) ∨ res.allF=true∧∀ p ∈ nb,p.2.allF=true):=by
  rcases hm with ⟨h1,rfl⟩ | h1
  ·unfold freeOps at h1
   rw [List.all_cons,Bool.and_eq_true] at h1
   refine ⟨okOf X ρ w false,fun b hb=>hb.2.1,(argsF_rd hH h1.2 hqs).append ?_,.inl fun _ h=>h⟩
   cases hx:xs.toList with
   | nil=>unfold RdAs;trivial
   | cons=>rw [hx] at hcaps;unfold RdAs at hcaps;exact hcaps.elim
  ·exact ⟨fun b=>b < w.heap.size,fun _ h=>h,(argsV_rd hH hqs).append hcaps,.inr h1⟩
 obtain ⟨S,hS,hargs,hmode⟩:=key
 unfold Oper.wp
 rw [hrun,Oper.upon_enter]
 refine (hsp.calls w S hS _ hH.gww hargs).mono ?_
 rintro e w' ⟨x,ρc,rfl,hb,hge,hinj,hids,hx,hnb⟩
 refine hK x (joinR (nb.map (·.1)) ρ ρc) w' ⟨evo_call hH hb hge hinj (nbOk_lt hnlt),?_,fun id b hid=>?_⟩
 ·have hj:∀ id,ρc id=.dead ∨ joinR (nb.map (·.1)) ρ ρc id=ρc id:=fun id=>by
   by_cases hm:id ∈ nb.map (·.1)
   ·exact .inr (if_pos hm)
   ·exact .inl (hids id hm)
  rcases hmode with hmode | hmode
  ·exact hx.more (fun z t x hr=>hr.mono fun b hb=>⟨ok_join hH (.inr hmode) hb,rfl⟩) hj
  ·exact RdV.moreF (fun t x hr=>hr.mono fun b hb=>⟨ok_join hH (.inl rfl) hb,rfl⟩) hj hmode.1 hx
 ·refine hasB_join hH hids ?_ (hnb id b hid)
  rcases hmode with hmode | hmode
  ·exact .inr hmode
  ·have:∀ {l:List (Nat × B)} {b:B},get id l=some b→∃ p ∈ l,p.2=b:=by
    intro l
    induction l with
    | nil=>intro b h;cases h
    | cons p l ih =>
     intro b h
     unfold get at h
     split at h
     ·injection h with h;exact ⟨p,List.mem_cons_self,h⟩
     ·obtain ⟨q,h1,h2⟩:=ih h;exact ⟨q,List.mem_cons_of_mem _ h1,h2⟩
   obtain ⟨p,h1,h2⟩:=this hid
   exact .inl (h2 ▸ hmode.2 p h1)
end
end Go.Proofs.YtjdgejfhnfnmgaaGreatDoor.Ax
namespace Go.Proofs.YtjdgejfhnfnmgaaGreatDoor.Ax
open Go.RowKit
def St.app (st:St) (D:Delta) (dst:Option Tmp):St :=
 match D with
 | .pure v=>st.put dst v
 | .mod v [] [] []=>st.put dst v
 | .mod v ch kl nb=>(st.turn ch kl nb).put dst v
section
variable {w w':World} {ρ ρ':Nat→R} {P:Program} {X:Cx} {st:St} {a:Act} {x:Value} {D:Delta}
theorem Hold.app (h:Hold X st ρ a w) (ho:Out X ρ w ρ' w' x D) {dst:Option Tmp} (hd:∀ d,dst=some d→d < X.n):Hold X (st.app D dst) ρ' (a.put dst x) w':=by
 cases D with
 | pure v =>
  obtain ⟨rfl,rfl,h3⟩:=ho
  exact h.put hd h3
 | mod v ch kl nb =>
  obtain ⟨h1,h2,h3⟩:=ho
  unfold St.app
  split
  ·rename_i v' he;cases he
  ·rename_i v' he
   cases he
   have hρ:ρ'=ρ:=funext fun id=>h1.rho id (by simp)
   subst hρ
   exact (h.evo h1).put hd h2
  ·rename_i v' ch' kl' nb' _ he
   cases he
   exact (h.turn h1 h3).put hd h2
end
def eqB (b:Bool):Bool→Bool
 | true=>b
 | false=>!b
theorem eqB_eq (b c:Bool):eqB b c=(b==c):=by cases b <;> cases c <;> rfl
theorem cast0:((0:Nat):Int)=0:=rfl
theorem nn (k:Nat):(0≤(k:Int))=True:=eq_true (by omega)
def gv (want:Bool):Option V→Option Bool
 | some (.one (.t _ (.lit (.bool b))))=>some (eqB b want)
 | some (.tup [])=>some false
 | _=>none
def mkW (b:Bool) (v:V):V:=match b with
 | true=>v
 | false=>.tup []
theorem mkW_true (v:V):mkW true v=v:=rfl
theorem mkW_false (v:V):mkW false v=.tup []:=rfl
theorem gv_lit (b want z:Bool):gv want (some (.one (.t z (.lit (.bool b)))))=some (eqB b want):=rfl
theorem gv_skip (want:Bool):gv want (some (.tup []))=some false:=rfl
theorem gv_none (want:Bool):gv want none=none:=rfl
theorem gv_mkW (b g want z:Bool):gv want (some (mkW b (.one (.t z (.lit (.bool g))))))=some (b && eqB g want):=by cases b <;> rfl
theorem ment_mkW (kl:List Nat) (v:V) (b:Bool):(mkW b v).ment kl=(b && v.ment kl):=by cases b <;> rfl
def guardOf (st:St) (ops:Array Oper) (o:Oper):Option Bool :=
 match o.guard with
 | none=>some true
 | some (j,want)=>match ops[j]? with
  | some oj=>match oj.dst with
   | some t=>gv want (get t st.sl)
   | none=>none
  | none=>none
def exec1 (P:Program) (st:St) (o:Oper):Option Delta :=
 match pureV P st o.op with
 | some v=>some (.pure v)
 | none=>match modD P st o.dst o.op with
  | some D=>some D
  | none=>match rowD P st o.dst o.op with
   | some D=>some D
   | none=>match setD P st o.op with
    | some D=>some D
    | none=>match moreV P st o.op with
     | some v=>some (.pure v)
     | none=>match extV P st o.op with
      | some v=>some (.pure v)
      | none=>match appD P st o.dst o.op with
       | some D=>some D
       | none=>match mapD P st o.dst o.op with
        | some D=>some D
        | none=>match cutOwn P st o.op with
         | some v=>some (.pure v)
         | none=>match appOwn P st o.op with
          | some D=>some D
          | none=>clearOwn P st o.op
def RW (P:Program) (X:Cx) (ops:Array Oper) (l:List Oper) (K:St→Prop) (st:St):Prop :=
 ∀ ρ a w,Hold X st ρ a w→∀ Q:Exit→Act→World→Prop,(∀ st' ρ' a' w',K st'→Hold X st' ρ' a' w'→Q .normal a' w')∧(∀ ch st' ρ' a' w',X.pan ch→Hold X st' ρ' a' w'→Q (.panic ch) a' w')→wpList P ops Q l a w
section
variable {P:Program} {X:Cx} {st:St} {ops:Array Oper} {l:List Oper} {o:Oper} {K:St→Prop} {D:Delta}
theorem guard_sound {ρ:Nat→R} {a:Act} {w:World} (h:Hold X st ρ a w) {b:Bool} (hg:guardOf st ops o=some b):Region.wanted o (yielded ops a.tmps)=b:=by
 unfold guardOf at hg
 unfold Region.wanted
 split at hg
 ·rename_i hn
  injection hg with hg
  subst hg
  simp [hn]
 ·rename_i j want hn
  split at hg
  ·rename_i oj hj
   split at hg
   ·rename_i t ht
    unfold gv at hg
    split at hg
    ·rename_i z b' hb
     injection hg with hg
     subst hg
     obtain ⟨x,h1,h2⟩:=h.slots _ _ hb
     unfold RdV RdC RdT at h2
     obtain ⟨rfl,_⟩:=h2
     simp [hn,yielded,hj,ht,h1,eqB_eq]
    ·rename_i hb
     injection hg with hg
     subst hg
     obtain ⟨x,h1,h2⟩:=h.slots _ _ hb
     unfold RdV at h2
     obtain ⟨xs,rfl,_⟩:=h2
     simp [hn,yielded,hj,ht,h1]
    ·cases hg
   ·cases hg
  ·cases hg
theorem rw_nil (h:K st):RW P X ops [] K st:=fun ρ a w hH _ hQ=>hQ.1 st ρ a w h hH
theorem dst_lt {n:Nat} {dst:Option Tmp} (h:dstOk n dst=true):∀ d,dst=some d→d < n:=fun d hd=>by
 subst hd
 simpa [dstOk] using h
theorem rw_stepP (hs:StepP P X st o D) (hg:guardOf st ops o=some true) (hd:dstOk X.n o.dst=true) (h:RW P X ops l K (st.app D o.dst)):RW P X ops (o :: l) K st:=fun ρ a w hH Q hQ=>by
 unfold wpList
 rw [guard_sound hH hg,if_pos rfl]
 refine .inl (hs hd ρ a w hH _ _ (fun x ρ' w' ho=>?_) hQ.2)
 exact h ρ' _ w' (hH.app ho (dst_lt hd)) Q hQ
theorem rw_step (hs:Step P X st o D) (hg:guardOf st ops o=some true) (hd:dstOk X.n o.dst=true) (h:RW P X ops l K (st.app D o.dst)):RW P X ops (o :: l) K st:=rw_stepP hs.p hg hd h
theorem rw_skip (hg:guardOf st ops o=some false) (hd:dstOk X.n o.dst=true) (h:RW P X ops l K (st.put o.dst (.tup []))):RW P X ops (o :: l) K st:=fun ρ a w hH Q hQ=>by
 unfold wpList
 rw [guard_sound hH hg,if_neg (by simp)]
 exact h ρ _ w (hH.put (dst_lt hd) (by unfold RdV;exact ⟨#[],rfl,by unfold RdVs;trivial⟩)) Q hQ
theorem exec1_runs (h:exec1 P st o=some D):Runs P X st o D:=by
 unfold exec1 at h
 split at h
 ·rename_i v hv
  injection h with h
  subst h
  exact pure_runs hv
 ·split at h
  ·rename_i D' hD
   injection h with h
   subst h
   exact mod_runs hD
  ·split at h
   ·rename_i D' hD
    injection h with h
    subst h
    exact row_runs hD
   ·split at h
    ·rename_i D' hD
     injection h with h
     subst h
     exact set_runs hD
    ·split at h
     ·rename_i v hv
      injection h with h
      subst h
      exact more_runs hv
     ·split at h
      ·rename_i v hv
       injection h with h
       subst h
       exact ext_runs hv
      ·split at h
       ·rename_i D' hD
        injection h with h
        subst h
        exact app_runs hD
       ·split at h
        ·rename_i D' hD
         injection h with h
         subst h
         exact map_runs hD
        ·split at h
         ·rename_i v hv
          injection h with h
          subst h
          exact cutOwn_runs hv
         ·split at h
          ·rename_i D' hD
           injection h with h
           subst h
           exact appOwn_runs hD
          ·exact clearOwn_runs h
def runs (P:Program) (n:Nat) (ops:Array Oper):List Oper→St→List Oper × St
 | [],st=>([],st)
 | o :: l,st=>match dstOk n o.dst with
  | false=>(o :: l,st)
  | true=>match guardOf st ops o with
   | some true=>match exec1 P st o with
    | some D=>runs P n ops l (st.app D o.dst)
    | none=>(o :: l,st)
   | some false=>runs P n ops l (st.put o.dst (.tup []))
   | none=>(o :: l,st)
theorem rw_runs:∀ {l l':List Oper} {st st':St},runs P X.n ops l st=(l',st')→RW P X ops l' K st'→RW P X ops l K st
 | [],l',st,st',h,hr=>by
  simp only [runs,Prod.mk.injEq] at h
  obtain ⟨rfl,rfl⟩:=h
  exact hr
 | o :: l,l',st,st',h,hr=>by
  unfold runs at h
  split at h
  ·obtain ⟨rfl,rfl⟩:=Prod.mk.inj h
   exact hr
  ·rename_i hd
   split at h
   ·rename_i hg
    split at h
    ·rename_i D hD
     exact rw_step (exec1_runs hD).step hg hd (rw_runs h hr)
    ·obtain ⟨rfl,rfl⟩:=Prod.mk.inj h
     exact hr
   ·rename_i hg
    exact rw_skip hg hd (rw_runs h hr)
   ·obtain ⟨rfl,rfl⟩:=Prod.mk.inj h
    exact hr
end
def RWr (P:Program) (X:Cx) (ops:Array Oper) (K:St→Prop) (r:List Oper × St):Prop:=RW P X ops r.1 K r.2
theorem rw_go {P:Program} {X:Cx} {ops:Array Oper} {l:List Oper} {K:St→Prop} {st:St} (h:RWr P X ops K (runs P X.n ops l st)):RW P X ops l K st:=rw_runs (l':=(runs P X.n ops l st).1) (st':=(runs P X.n ops l st).2) rfl h
theorem rwr_nil {P:Program} {X:Cx} {ops:Array Oper} {K:St→Prop} {st:St} (h:K st):RWr P X ops K ([],st):=rw_nil h
def callAll (st:St) (n:Nat) (cv:Operand) (xs:List Operand):Option (FuncId × List A) :=
 match calleeV st n cv with
 | some p=>match argsV st n xs with
  | some qs=>some (p.1,qs++p.2)
  | none=>none
 | none=>none
def modeOk (st:St) (n:Nat) (cv:Operand) (xs:List Operand) (res:V) (nb:List (Nat × B)):Bool :=
 (match calleeV st n cv with
  | some p=>p.2.isEmpty && freeOps st (cv :: xs)
  | none=>false) || (res.allF && nb.all fun p=>p.2.allF)
def CW (P:Program) (X:Cx) (c:Code) (Q:Exit→St→Prop) (st:St):Prop :=
 ∀ ρ a w,Hold X st ρ a w→c.wp P (fun e a' w'=>∃ st' ρ',Q e st'∧Hold X st' ρ' a' w') a w
def thenX (K:St→Prop) (Q:Exit→St→Prop):Exit→St→Prop
 | .normal,st=>K st
 | e,st=>Q e st
def inBlk (id:Nat) (Q:Exit→St→Prop):Exit→St→Prop
 | .exit i,st=>if i=id then Q .normal st else Q (.exit i) st
 | e,st=>Q e st
section
variable {P:Program} {X:Cx} {st:St} {Q:Exit→St→Prop} {c x y:Code}
theorem cw_seq (h:∀ K:St→Prop,(∀ s,CW P X y Q s→K s)→CW P X x (thenX K Q) st):CW P X (.seq x y) Q st:=fun ρ a w hH=>by
 refine wp_seq (wp_mono (h (CW P X y Q) (fun _ h=>h) ρ a w hH) fun e a' w' ⟨st',ρ',hq,hH'⟩=>?_)
 cases e <;> first
  | exact hq ρ' a' w' hH'
  | exact ⟨st',ρ',hq,hH'⟩
theorem cw_block {id:Nat} (h:CW P X c (inBlk id Q) st):CW P X (.block id c) Q st:=fun ρ a w hH=>by
 refine wp_block (wp_mono (h ρ a w hH) fun e a' w' ⟨st',ρ',hq,hH'⟩=>?_)
 cases e with
 | exit i =>
  simp only [inBlk] at hq
  simp only [Exit.inBlock]
  split at hq
  ·rename_i hi;rw [if_pos hi];exact ⟨st',ρ',hq,hH'⟩
  ·rename_i hi;rw [if_neg hi];exact ⟨st',ρ',hq,hH'⟩
 | _=>exact ⟨st',ρ',hq,hH'⟩
theorem cw_cond {o:Operand} {b z:Bool} (ho:ev st o=some (.one (.t z (.lit (.bool b))))) (h1:b=true→CW P X x Q st) (h2:b=false→CW P X y Q st):CW P X (.cond o x y) Q st:=fun ρ a w hH=>by
 have:=ev_sound hH ho
 unfold RdV RdC RdT at this
 exact wp_cond_split this.1 (fun h=>h1 h ρ a w hH) (fun h=>h2 h ρ a w hH)
theorem cw_ret (h:Q .ret st):CW P X .ret Q st:=fun ρ _ _ hH=>wp_ret ⟨st,ρ,h,hH⟩
theorem cw_exit {id:Nat} (h:Q (.exit id) st):CW P X (.exit id) Q st:=fun ρ _ _ hH=>wp_exit ⟨st,ρ,h,hH⟩
theorem cw_skip (h:Q .normal st):CW P X .skip Q st:=fun ρ _ _ hH=>wp_skip ⟨st,ρ,h,hH⟩
theorem cw_region {id:Nat} {l:List Oper} (h:RW P X l.toArray l (fun s=>Q .normal s) st) (hp:∀ ch s,X.pan ch→Q (.panic ch) s:=by intro ch s h;exact h):CW P X (.region id l.toArray false) Q st:=fun ρ a w hH =>
 wp_region_lit (h ρ a w hH _ ⟨fun st' ρ' _ _ hk hH'=>⟨st',ρ',hk,hH'⟩,fun ch st' ρ' _ _ hk hH'=>⟨st',ρ',hp ch st' hk,hH'⟩⟩)
theorem cw_loop (I:Nat→St→Prop) (n0:Nat) (h0:∃ s,I n0 s∧s.le st) (hr:∀ n s,I n s→CW P X c (thenX (fun s'=>∃ m,m < n∧∃ s2,I m s2∧s2.le s') Q) s):CW P X (.loop c) Q st:=fun ρ a w hH=>by
 refine wp_loop_ghost (fun n a w=>∃ s ρ,I n s∧Hold X s ρ a w) n0 ?_ ?_
 ·obtain ⟨s,h1,h2⟩:=h0
  exact ⟨s,ρ,h1,hH.le h2⟩
 ·rintro n a' w' ⟨s,ρ',hI,hH'⟩
  refine wp_mono (hr n s hI ρ' a' w' hH') fun e a2 w2 ⟨s',ρ2,hq,hH2⟩=>?_
  cases e with
  | normal =>
   obtain ⟨m,h1,s2,h2,h3⟩:=hq
   exact ⟨m,h1,s2,ρ2,h2,hH2.le h3⟩
  | _=>exact ⟨s',ρ2,hq,hH2⟩
end
section
variable {P:Program} {X:Cx} {st:St} {K:St→Prop} {Q:Exit→St→Prop} {c x y:Code} {id i:Nat}
theorem cw_seq' (h:CW P X x (thenX (fun s=>CW P X y Q s) Q) st):CW P X (.seq x y) Q st:=cw_seq fun K hK ρ a w hH=>wp_mono (h ρ a w hH) fun e a' w' ⟨s,ρ',hq,hH'⟩=>⟨s,ρ',(by cases e <;> first | exact hK _ hq | exact hq),hH'⟩
theorem then_mk (h:K st):thenX K Q .normal st:=h
theorem then_exit (h:Q (.exit i) st):thenX K Q (.exit i) st:=h
theorem then_ret (h:Q .ret st):thenX K Q .ret st:=h
theorem blk_mk (h:Q .normal st):inBlk id Q .normal st:=h
theorem blk_ret (h:Q .ret st):inBlk id Q .ret st:=h
theorem blk_same (h:Q .normal st):inBlk id Q (.exit id) st:=by show (if id=id then Q .normal st else Q (.exit id) st);rw [if_pos rfl];exact h
theorem blk_ne (hn:i ≠ id) (h:Q (.exit i) st):inBlk id Q (.exit i) st:=by show (if i=id then Q .normal st else Q (.exit i) st);rw [if_neg hn];exact h
theorem cw_true {o:Operand} {z:Bool} (ho:ev st o=some (.one (.t z (.lit (.bool true))))) (h:CW P X x Q st):CW P X (.cond o x y) Q st:=cw_cond ho (fun _=>h) (fun h=>by cases h)
theorem cw_false {o:Operand} {z:Bool} (ho:ev st o=some (.one (.t z (.lit (.bool false))))) (h:CW P X y Q st):CW P X (.cond o x y) Q st:=cw_cond ho (fun h=>by cases h) (fun _=>h)
def leL {α:Type}:List (Nat × α)→List (Nat × α)→Prop
 | [],_=>True
 | p :: l,big=>get p.1 big=some p.2∧leL l big
theorem leL_get {α:Type} {t:Nat} {v:α}:∀ {l big:List (Nat × α)},leL l big→get t l=some v→get t big=some v
 | [],_,_,h=>by cases h
 | (k,u) :: l,big,hl,h=>by
  unfold leL at hl
  unfold get at h
  split at h
  ·rename_i hk
   subst hk
   injection h with h
   rw [← h];exact hl.1
  ·exact leL_get hl.2 h
theorem le_mk {s:St} (h1:leL s.sl st.sl) (h2:leL s.bl st.bl):s.le st:=⟨fun _ _=>leL_get h1,fun _ _=>leL_get h2⟩
end
def resC (P:Program) (st:St):ResultVar→Option V
 | .tmp t=>get t st.sl
 | .cell p t=>match get p st.sl with
  | some (.one c)=>match tyOf P t with
   | some y=>loadC st y c
   | none=>none
  | _=>none
def resL (P:Program) (st:St):List ResultVar→Option (List V)
 | []=>some []
 | r :: rs=>match resC P st r with
  | some v=>match resL P st rs with
   | some vs=>some (v :: vs)
   | none=>none
  | none=>none
def resV (P:Program) (st:St) (rs:List ResultVar):Option V :=
 match resL P st rs with
 | some [v]=>some v
 | some vs=>some (.tup vs)
 | none=>none
section
variable {P:Program} {X:Cx} {st:St} {ρ:Nat→R} {a:Act} {w:World} {fn:Func}
def resOne (tmps:Array Value):ResultVar→Sem Value
 | .tmp t=>pure (tmps.getD t undef)
 | .cell p t=>do loadVar t (← asAddr (tmps.getD p undef))
theorem results_eq (fn:Func) (tmps:Array Value):results fn tmps=(do let vs ← fn.results.mapM (resOne tmps);pure (if h:vs.size=1 then vs[0] else .tuple vs)):=by
 unfold results
 congr 2
theorem RdC.addr {ok:Bool→Nat→Prop} {y:Ty} {c:C} {v:V} {x:Value} (h:loadC st y c=some v) (hx:RdC w ok ρ c x):∃ p,x=.pointer (some p):=by
 unfold loadC at h
 split at h
 ·unfold RdC at hx
  split at hx
  ·exact ⟨_,hx⟩
  ·exact hx.elim
 ·unfold RdC at hx
  split at hx
  ·exact ⟨_,hx⟩
  ·exact hx.elim
 ·unfold RdC RdT at hx
  obtain ⟨b,o,rfl,_⟩:=hx
  exact ⟨_,rfl⟩
 ·cases h
theorem resC_sound (hH:Hold X st ρ a w) {r:ResultVar} {v:V} (h:resC P st r=some v):∃ q,(resOne a.tmps r).run P w=.ok q w∧RdV w (okOf X ρ w) ρ v q:=by
 cases r with
 | tmp t =>
  obtain ⟨x,h1,h2⟩:=hH.slots _ _ h
  exact ⟨x,by simp [resOne,h1],h2⟩
 | cell p t =>
  simp only [resC] at h
  split at h
  ·rename_i c hc
   split at h
   ·rename_i y hy
    obtain ⟨x,h1,h2⟩:=hH.slots _ _ hc
    unfold RdV at h2
    obtain ⟨q,h3,h4⟩:=load_sound hH hy h h2
    obtain ⟨p',rfl⟩:=RdC.addr h h2
    refine ⟨q,?_,h4⟩
    simp only [Instr.loadAt,Instr.sureAddr,Sem.run_bind,Sem.run_pure,Result.andThen_ok] at h3
    simp only [resOne,Array.getD_eq_getD_getElem?,h1,Option.getD_some,asAddr,Sem.run_bind,Sem.run_pure,Result.andThen_ok,h3]
   ·cases h
  ·cases h
theorem resL_sound (hH:Hold X st ρ a w):∀ {rs:List ResultVar} {vs:List V},resL P st rs=some vs→∃ qs,(rs.mapM (resOne a.tmps):Sem (List Value)).run P w=.ok qs w∧RdVs w (okOf X ρ w) ρ vs qs∧qs.length=rs.length
 | [],vs,h=>by
  simp only [resL,Option.some.injEq] at h
  subst h
  exact ⟨[],rfl,by unfold RdVs;trivial,rfl⟩
 | r :: rs,vs,h=>by
  simp only [resL] at h
  split at h
  ·rename_i v hv
   split at h
   ·rename_i us hu
    injection h with h
    subst h
    obtain ⟨q,h1,h2⟩:=resC_sound hH hv
    obtain ⟨qs,h3,h4,h5⟩:=resL_sound hH hu
    refine ⟨q :: qs,?_,by unfold RdVs;exact ⟨h2,h4⟩,by simp [h5]⟩
    rw [List.mapM_cons]
    simp only [Sem.run_bind,h1,Result.andThen_ok,h3,Sem.run_pure]
   ·cases h
  ·cases h
theorem resL_len:∀ {rs:List ResultVar} {vs:List V},resL P st rs=some vs→vs.length=rs.length
 | [],vs,h=>by simp only [resL,Option.some.injEq] at h;subst h;rfl
 | r :: rs,vs,h=>by
  simp only [resL] at h
  split at h
  ·split at h
   ·rename_i us hu
    injection h with h
    subst h
    simp [resL_len hu]
   ·cases h
  ·cases h
theorem resV_sound (hH:Hold X st ρ a w) {v:V} (h:resV P st fn.results.toList=some v):∃ q,(results fn a.tmps).run P w=.ok q w∧RdV w (okOf X ρ w) ρ v q:=by
 have hm:∀ {qs:List Value},(fn.results.toList.mapM (resOne a.tmps):Sem (List Value)).run P w=.ok qs w→(results fn a.tmps).run P w=.ok (if h:qs.toArray.size=1 then qs.toArray[0] else .tuple qs.toArray) w:=by
  intro qs hq
  obtain ⟨rs,hrs⟩:∃ l:List ResultVar,fn.results=l.toArray:=⟨fn.results.toList,by simp⟩
  rw [results_eq]
  rw [hrs] at hq ⊢
  rw [List.mapM_toArray]
  simp only [Sem.run_bind,Sem.run_map] at hq ⊢
  rw [hq]
  rfl
 unfold resV at h
 split at h
 ·rename_i u hu
  injection h with h
  subst h
  obtain ⟨qs,h1,h2,h3⟩:=resL_sound hH hu
  have hl:=resL_len hu
  rw [← hl] at h3
  match qs,h3,h2,h1 with
  | [q],_,h2,h1 =>
   unfold RdVs at h2
   exact ⟨q,by rw [hm h1];rfl,h2.1⟩
 ·rename_i vs hne hvs
  injection h with h
  subst h
  obtain ⟨qs,h1,h2,h3⟩:=resL_sound hH hvs
  have hl:=resL_len hvs
  refine ⟨_,hm h1,?_⟩
  have hn:¬ qs.toArray.size=1:=by
   intro he
   rw [List.size_toArray,h3,← hl] at he
   match vs,he,hne with
   | [v],_,hne=>exact hne v rfl
  rw [dif_neg hn]
  unfold RdV
  exact ⟨_,rfl,h2⟩
 ·cases h
def outV (st:St) (n:Nat):V→Option V
 | .one c=>match viewC st n c with
  | some q=>some (.one (.t q.1 q.2))
  | none=>none
 | .agg cs=>match viewCs st n cs with
  | some q=>some (.agg (q.2.map (C.t q.1)))
  | none=>none
 | .tup vs=>match outs vs with
  | some us=>some (.tup us)
  | none=>none
 | .junk=>none
 where outs:List V→Option (List V)
 | []=>some []
 | .one c :: vs=>match viewC st n c with
  | some q=>match outs vs with
   | some us=>some (.one (.t q.1 q.2) :: us)
   | none=>none
  | none=>none
 | .agg cs :: vs=>match viewCs st n cs with
  | some q=>match outs vs with
   | some us=>some (.agg (q.2.map (C.t q.1)) :: us)
   | none=>none
  | none=>none
 | _=>none
theorem outs_rd (hH:Hold X st ρ a w) {n:Nat}:∀ {vs us:List V} {xs:List Value},outV.outs st n vs=some us→RdVs w (okOf X ρ w) ρ vs xs→RdVs w (okOf X deadR w) deadR us xs
 | [],us,xs,h,hx=>by
  simp only [outV.outs,Option.some.injEq] at h
  subst h
  cases xs with
  | nil=>unfold RdVs;trivial
  | cons=>unfold RdVs at hx;exact hx.elim
 | .one c :: vs,us,xs,h,hx=>by
  simp only [outV.outs] at h
  split at h
  ·rename_i q hq
   split at h
   ·rename_i ws hws
    injection h with h
    subst h
    cases xs with
    | nil=>unfold RdVs at hx;exact hx.elim
    | cons u xs =>
     unfold RdVs RdV at hx
     unfold RdVs RdV RdC
     exact ⟨view_rd hH hq hx.1,outs_rd hH hws hx.2⟩
   ·cases h
  ·cases h
 | .agg c :: vs,us,xs,h,hx=>by
  simp only [outV.outs] at h
  split at h
  ·rename_i q hq
   split at h
   ·rename_i ws hws
    injection h with h
    subst h
    cases xs with
    | nil=>unfold RdVs at hx;exact hx.elim
    | cons u xs =>
     unfold RdVs RdV at hx
     unfold RdVs RdV
     obtain ⟨⟨ys,h1,h2⟩,h3⟩:=hx
     exact ⟨⟨ys,h1,(views_rd hH hq h2).toC⟩,outs_rd hH hws h3⟩
   ·cases h
  ·cases h
 | .tup _ :: _,_,_,h,_=>by simp [outV.outs] at h
 | .junk :: _,_,_,h,_=>by simp [outV.outs] at h
theorem out_rd (hH:Hold X st ρ a w) {n:Nat} {v u:V} {x:Value} (h:outV st n v=some u) (hx:RdV w (okOf X ρ w) ρ v x):RdV w (okOf X deadR w) deadR u x:=by
 cases v with
 | one c =>
  simp only [outV] at h
  split at h
  ·rename_i q hq
   injection h with h
   subst h
   unfold RdV at hx ⊢
   unfold RdC
   exact view_rd hH hq hx
  ·cases h
 | agg cs =>
  simp only [outV] at h
  split at h
  ·rename_i q hq
   injection h with h
   subst h
   unfold RdV at hx ⊢
   obtain ⟨ys,h1,h2⟩:=hx
   exact ⟨ys,h1,(views_rd hH hq h2).toC⟩
  ·cases h
 | tup vs =>
  simp only [outV] at h
  split at h
  ·rename_i us hu
   injection h with h
   subst h
   unfold RdV at hx ⊢
   obtain ⟨ys,h1,h2⟩:=hx
   exact ⟨ys,h1,outs_rd hH hu h2⟩
  ·cases h
 | junk=>cases h
end
def argSl:Nat→List A→List (Nat × V)
 | _,[]=>[]
 | k,.one t :: as_=>(k,.one (.t false t)) :: argSl (k + 1) as_
 | k,.agg ts :: as_=>(k,.agg (ts.map (C.t false))) :: argSl (k + 1) as_
theorem argSl_rd {w:World} {ok:Bool→Nat→Prop} {ρ:Nat→R}:∀ {as_:List A} {xs:List Value} {k t:Nat} {v:V},RdAs w (ok false) as_ xs→get t (argSl k as_)=some v→k≤t∧∃ x,xs[t - k]?=some x∧RdV w ok ρ v x
 | [],_,_,_,_,_,h=>by simp [argSl,get] at h
 | q :: qs,[],_,_,_,hr,_=>by unfold RdAs at hr;exact hr.elim
 | q :: qs,x :: xs,k,t,v,hr,h=>by
  unfold RdAs at hr
  have hstep:∀ u,argSl k (q :: qs)=(k,u) :: argSl (k + 1) qs→RdV w ok ρ u x→k≤t∧∃ y,(x :: xs)[t - k]?=some y∧RdV w ok ρ v y:=fun u hu hru=>by
   rw [hu] at h
   unfold get at h
   split at h
   ·rename_i ht
    subst ht
    injection h with h
    subst h
    exact ⟨Nat.le_refl _,x,by simp,hru⟩
   ·rename_i ht
    obtain ⟨h1,y,h2,h3⟩:=argSl_rd hr.2 h
    refine ⟨by omega,y,?_,h3⟩
    rw [show t - k=(t - (k + 1)) + 1 by omega]
    simpa using h2
  cases q with
  | one t' =>
   refine hstep _ rfl ?_
   have:=hr.1
   unfold RdA at this
   unfold RdV RdC
   exact this
  | agg ts =>
   refine hstep _ rfl ?_
   have:=hr.1
   unfold RdA at this
   obtain ⟨ys,h1,h2⟩:=this
   unfold RdV
   exact ⟨ys,h1,h2.toC⟩
def Ends (P:Program) (X:Cx) (rs:Array ResultVar) (res:V) (nb:List (Nat × B)) (st:St):Prop :=
 ∀ ρ a w,Hold X st ρ a w→∃ q ρc,(∀ fn:Func,fn.results=rs→(results fn a.tmps).run P w=.ok q w)∧(∀ id b cap,ρc id=.lie b cap→(X.base.heap.size≤b ∨ X.F b)∧¬ X.K b∧b < w.heap.size)∧(∀ i j b c d,ρc i=.lie b c→ρc j=.lie b d→i=j) ∧
  (∀ id,id ∉ nb.map (·.1)→ρc id=.dead)∧RdV w (okOf X ρc w) ρc res q∧∀ id b,get id nb=some b→HasB X w ρc id b
def exitQ (P:Program) (X:Cx) (rs:Array ResultVar) (res:V) (nb:List (Nat × B)):Exit→St→Prop
 | .normal,st | .ret,st=>Ends P X rs res nb st
 | .panic ch,_=>X.pan ch
 | _,_=>False
def exitV (P:Program) (st:St) (rs:List ResultVar):Option V :=
 match resV P st rs with
 | some v=>outV st 40 v
 | none=>none
theorem ends_plain {P:Program} {X:Cx} {rs:Array ResultVar} {res:V} {st:St} (h:exitV P st rs.toList=some res):Ends P X rs res [] st:=fun ρ a w hH=>by
 unfold exitV at h
 split at h
 ·rename_i v hv
  obtain ⟨q,hrun,h2⟩:=resV_sound (fn:={ (default:Func) with results:=rs }) hH hv
  refine ⟨q,deadR,fun fn hfn=>?_,(by intro _ _ _ h;cases h),(by intro _ _ _ _ _ h;cases h),fun _ _=>rfl,out_rd hH h h2,(by intro _ _ h;cases h)⟩
  subst hfn
  rw [results_eq] at hrun ⊢
  exact hrun
 ·cases h
mutual
def C.only (ids:List Nat):C→Bool
 | .own i _ | .optr i _ | .eptr i _ _ _ | .omap i | .ocut i _ _ _=>ids.contains i
 | .fn _ caps=>C.onlys ids caps
 | _=>true
def C.onlys (ids:List Nat):List C→Bool
 | []=>true
 | c :: cs=>c.only ids && C.onlys ids cs
end
mutual
def V.only (ids:List Nat):V→Bool
 | .one c=>c.only ids
 | .agg cs=>C.onlys ids cs
 | .tup vs=>V.onlys ids vs
 | .junk=>true
def V.onlys (ids:List Nat):List V→Bool
 | []=>true
 | c :: cs=>c.only ids && V.onlys ids cs
end
def B.only (ids:List Nat):B→Bool
 | .arr _ _ _ _=>true
 | .var _ cells=>C.onlys ids cells
 | .mp _ _=>true
section
variable {w:World} {ok ok':Bool→Nat→Prop} {ρ ρ':Nat→R} {ids:List Nat}
mutual
theorem RdC.less (hT:∀ z t x,RdT w (ok z) t x→RdT w (ok' z) t x) (hρ:∀ id ∈ ids,ρ' id=ρ id):∀ {c:C} {x:Value},c.only ids=true→RdC w ok ρ c x→RdC w ok' ρ' c x
 | .t z t,x,_,h=>by unfold RdC at h ⊢;exact hT _ _ _ h
 | .nil,x,_,h=>by unfold RdC at h ⊢;exact h
 | .own id len,x,hm,h=>by
  unfold RdC at h ⊢
  rw [hρ id (by simpa [C.only] using hm)];exact h
 | .optr id len,x,hm,h=>by
  unfold RdC at h ⊢
  rw [hρ id (by simpa [C.only] using hm)];exact h
 | .eptr id k s j,x,hm,h=>by
  unfold RdC at h ⊢
  rw [hρ id (by simpa [C.only] using hm)];exact h
 | .omap id,x,hm,h=>by
  unfold RdC at h ⊢
  rw [hρ id (by simpa [C.only] using hm)];exact h
 | .ocut id s lo len,x,hm,h=>by
  unfold RdC at h ⊢
  rw [hρ id (by simpa [C.only] using hm)];exact h
 | .fn f caps,x,hm,h=>by
  unfold RdC at h ⊢
  obtain ⟨xs,h1,h2⟩:=h
  exact ⟨xs,h1,RdCs.less hT hρ (by simpa [C.only] using hm) h2⟩
 | .junk,x,_,h=>by unfold RdC at h ⊢;exact h
theorem RdCs.less (hT:∀ z t x,RdT w (ok z) t x→RdT w (ok' z) t x) (hρ:∀ id ∈ ids,ρ' id=ρ id):∀ {cs:List C} {xs:List Value},C.onlys ids cs=true→RdCs w ok ρ cs xs→RdCs w ok' ρ' cs xs
 | [],[],_,_=>by unfold RdCs;trivial
 | _ :: _,_ :: _,hm,h=>by
  simp only [C.onlys,Bool.and_eq_true] at hm
  unfold RdCs at h ⊢
  exact ⟨RdC.less hT hρ hm.1 h.1,RdCs.less hT hρ hm.2 h.2⟩
 | [],_ :: _,_,h=>by unfold RdCs at h;exact h.elim
 | _ :: _,[],_,h=>by unfold RdCs at h;exact h.elim
end
mutual
theorem RdV.less (hT:∀ z t x,RdT w (ok z) t x→RdT w (ok' z) t x) (hρ:∀ id ∈ ids,ρ' id=ρ id):∀ {c:V} {x:Value},c.only ids=true→RdV w ok ρ c x→RdV w ok' ρ' c x
 | .one c,x,hm,h=>by unfold RdV at h ⊢;exact RdC.less hT hρ (by simpa [V.only] using hm) h
 | .agg cs,x,hm,h=>by
  unfold RdV at h ⊢
  obtain ⟨xs,h1,h2⟩:=h
  exact ⟨xs,h1,RdCs.less hT hρ (by simpa [V.only] using hm) h2⟩
 | .tup vs,x,hm,h=>by
  unfold RdV at h ⊢
  obtain ⟨xs,h1,h2⟩:=h
  exact ⟨xs,h1,RdVs.less hT hρ (by simpa [V.only] using hm) h2⟩
 | .junk,x,_,_=>by unfold RdV;trivial
theorem RdVs.less (hT:∀ z t x,RdT w (ok z) t x→RdT w (ok' z) t x) (hρ:∀ id ∈ ids,ρ' id=ρ id):∀ {cs:List V} {xs:List Value},V.onlys ids cs=true→RdVs w ok ρ cs xs→RdVs w ok' ρ' cs xs
 | [],[],_,_=>by unfold RdVs;trivial
 | _ :: _,_ :: _,hm,h=>by
  simp only [V.onlys,Bool.and_eq_true] at hm
  unfold RdVs at h ⊢
  exact ⟨RdV.less hT hρ hm.1 h.1,RdVs.less hT hρ hm.2 h.2⟩
 | [],_ :: _,_,h=>by unfold RdVs at h;exact h.elim
 | _ :: _,[],_,h=>by unfold RdVs at h;exact h.elim
end
end
theorem get_mem {α:Type} {t:Nat} {v:α}:∀ {l:List (Nat × α)},get t l=some v→(t,v) ∈ l
 | [],h=>by cases h
 | (k,u) :: l,h=>by
  unfold get at h
  split at h
  ·rename_i hk;injection h with h;subst hk;subst h;exact List.mem_cons_self
  ·exact List.mem_cons_of_mem _ (get_mem h)
def onlyR (ids:List Nat) (ρ:Nat→R) (i:Nat):R:=if i ∈ ids then ρ i else .dead
theorem ends_own {P:Program} {X:Cx} {rs:Array ResultVar} {res:V} {nb:List (Nat × B)} {st:St} (h:resV P st rs.toList=some res) (hb:leL nb st.bl) (ho:res.only (nb.map (·.1))=true) (hbo:∀ p ∈ nb,p.2.only (nb.map (·.1))=true):Ends P X rs res nb st:=fun ρ a w hH=>by
 obtain ⟨q,h1,h2⟩:=resV_sound (fn:={ (default:Func) with results:=rs }) hH h
 have hT:∀ z t x,RdT w (okOf X ρ w z) t x→RdT w (okOf X (onlyR (nb.map fun p:Nat × B=>p.1) ρ) w z) t x:=fun z t x hr=>hr.mono fun b hb=>⟨⟨hb.1,hb.2.1,fun id b' cap hid=>by
  unfold onlyR at hid
  split at hid
  ·exact hb.2.2 id b' cap hid
  ·cases hid⟩,rfl⟩
 refine ⟨q,onlyR (nb.map fun p:Nat × B=>p.1) ρ,fun fn hfn=>?_,fun id b cap hid=>?_,fun i j b c d hi hj=>?_,fun id hid=>if_neg hid,h2.less hT (fun id hid=>if_pos hid) ho,fun id b hid=>?_⟩
 ·subst hfn;rw [results_eq] at h1 ⊢;exact h1
 ·unfold onlyR at hid
  split at hid
  ·exact hH.ge id b cap hid
  ·cases hid
 ·unfold onlyR at hi hj
  split at hi
  ·split at hj
   ·exact hH.inj i j b c d hi hj
   ·cases hj
  ·cases hi
 ·have hm:id ∈ nb.map (·.1):=List.mem_map.2 ⟨_,get_mem hid,rfl⟩
  have hB:=hH.blocks id b (leL_get hb hid)
  cases b with
  | arr e s z rows =>
   unfold HasB at hB ⊢
   rw [show onlyR (nb.map fun p:Nat × B=>p.1) ρ id=ρ id from if_pos hm]
   cases hr:ρ id with
   | dead=>simp [hr] at hB
   | nil=>simp only [hr] at hB ⊢;exact hB
   | lie g cap =>
    simp only [hr] at hB ⊢
    obtain ⟨xs,g1,g2,g3⟩:=hB
    exact ⟨xs,g1,g2.mono fun b hb=>⟨⟨hb.1,hb.2.1,fun id b' cap hid=>by
     unfold onlyR at hid
     split at hid
     ·exact hb.2.2 id b' cap hid
     ·cases hid⟩,rfl⟩,g3⟩
  | var e cells =>
   unfold HasB at hB ⊢
   obtain ⟨g,cap,hr,xs,g1,g2⟩:=hB
   exact ⟨g,cap,(if_pos hm).trans hr,xs,g1,g2.less hT (fun id hid=>if_pos hid) (hbo _ (get_mem hid))⟩
  | mp k es =>
   unfold HasB at hB ⊢
   obtain ⟨g,cap,hr,rest⟩:=hB
   exact ⟨g,cap,(if_pos hm).trans hr,rest⟩
theorem RdAs.len {w:World} {ok:Nat→Prop}:∀ {cs:List A} {xs:List Value},RdAs w ok cs xs→xs.length=cs.length
 | [],[],_=>rfl
 | _ :: _,_ :: _,h=>by unfold RdAs at h;rw [List.length_cons,List.length_cons,RdAs.len h.2]
 | [],_ :: _,h=>by unfold RdAs at h;exact h.elim
 | _ :: _,[],h=>by unfold RdAs at h;exact h.elim
theorem below_plain {w w':World} {S:Nat→Prop} {hS:∀ b,S b→b < w.heap.size} {n:Nat} {st:St} {ρ:Nat→R} {a:Act} (h:Hold (Cx.plain w S hS n) st ρ a w'):Below w.heap.size w w':=⟨h.below.os,h.below.tape,h.below.output,h.below.size,fun k hk=>h.keep k hk⟩
theorem ge_plain {w w':World} {S:Nat→Prop} {hS:∀ b,S b→b < w.heap.size} {n b:Nat} (h:((Cx.plain w S hS n).base.heap.size≤b ∨ (Cx.plain w S hS n).F b)∧¬ (Cx.plain w S hS n).K b∧b < w'.heap.size):w.heap.size≤b∧b < w'.heap.size:=⟨h.1.elim (fun h=>h) False.elim,h.2.2⟩
theorem sp_of {P : Program} {f : FuncId} {fn : Func} {c : Code} {as_ : List A} {res : V} {nb : List (Nat × B)} (hf : P.funcs[f]? = some fn) (hn : (fn.name == "runtime.NumGoroutine") = false) (hb : fn.body = some c) (hle : as_.length ≤ fn.ntmps)
  (h:∀ X:Cx,X.n=fn.ntmps→CW P X c (exitQ P X fn.results res nb) ⟨argSl 0 as_,[]⟩):Sp P f as_ res nb where
 enters:=enters_of hf hn (by rw [hb];rfl)
 calls w S hS vs hG hvs:=by
  refine calls_of_wp hf hb ?_
  have hl:=hvs.len
  have hH:Hold (Cx.plain w S hS fn.ntmps) ⟨argSl 0 as_,[]⟩ deadR { tmps:=vs.toArray++Array.replicate (fn.ntmps - vs.toArray.size) undef,defers:=[] } w:=by
   refine ⟨rfl,by simp [Cx.plain];omega,Below.refl _ _,fun _ _=>rfl,(by intro _ _ _ h;cases h),(by intro _ _ _ _ _ h;cases h),(fun _ _=>.inr rfl),fun t v hv=>?_,(by intro _ _ h;cases h),fun b hb=>Nat.lt_of_lt_of_le hb (gw_ng hG),hG⟩
   have hvs':RdAs w (okOf (Cx.plain w S hS fn.ntmps) deadR w false) as_ vs:=hvs.mono fun b hb=>⟨⟨.inr (.inr ⟨rfl,hb⟩),hS b hb,fun _ _ _ h=>by cases h⟩,rfl⟩
   obtain ⟨_,x,h1,h2⟩:=argSl_rd (ok:=okOf (Cx.plain w S hS fn.ntmps) deadR w) (ρ:=deadR) hvs' hv
   refine ⟨x,?_,h2⟩
   rw [Nat.sub_zero] at h1
   have:t < vs.length:=by
    rcases Nat.lt_or_ge t vs.length with h | h
    ·exact h
    ·rw [List.getElem?_eq_none h] at h1;cases h1
   simp only [Array.getElem?_append,List.size_toArray,this,if_true]
   simpa using h1
  refine wp_mono (h _ rfl deadR _ w hH) fun e a' w' ⟨st',ρ',hq,hH'⟩=>?_
  have fin:Ends P (Cx.plain w S hS fn.ntmps) fn.results res nb st'→a'.defers=[]∧∃ v,(results fn a'.tmps).run P w'=.ok v w'∧Post w S hS res nb (.returned v) w':=fun he=>by
   obtain ⟨q,ρc,h1,h2,h3,h4,h5,h6⟩:=he ρ' a' w' hH'
   exact ⟨hH'.defers,q,h1 fn rfl,q,ρc,rfl,below_plain hH',fun id b cap hid=>ge_plain (h2 id b cap hid),h3,h4,h5,h6⟩
  cases e <;> first
   | exact fin hq
   | exact hq.elim
end Go.Proofs.YtjdgejfhnfnmgaaGreatDoor.Ax
