/-  -/
import Derived.Test.YtjdgejfhnfnmgaaGreatDoorP3
import Derived.Lib.AppendStr
import Derived.MapKept
namespace Go.Proofs.YtjdgejfhnfnmgaaGreatDoor.Ax
open Go.RowKit
def ptrC:C→Bool
 | .optr _ _ | .eptr _ _ _ _ | .t _ (.ptr _)=>true
 | _=>false
def fnC:C→Bool
 | .fn _ _ | .t _ (.fn _ _)=>true
 | _=>false
def nilC:C→Bool
 | .t _ (.lit (.pointer none))=>true
 | _=>false
def nilPtr:Operand→Bool
 | .const (.pointer none)=>true
 | _=>false
def extV (P:Program) (st:St):Op→Option V
 | .nilCheck x=>match ev st x with
  | some (.one c)=>if (ptrC c || fnC c)=true then some (.one c) else none
  | _=>none
 | .binOp op t x y _=>match nilPtr y with
  | true=>match ev st x with
   | some (.one c)=>match tyOf P t with
    | some yt=>match yt.d with
     | .ptr _=>match op with
      | .eql=>if ptrC c=true then some (litB false) else if nilC c=true then some (litB true) else none
      | .neq=>if ptrC c=true then some (litB true) else if nilC c=true then some (litB false) else none
      | _=>none
     | _=>none
    | none=>none
   | _=>none
  | false=>none
 | .convert s d x=>match ev st x with
  | some (.one (.t _ (.lit (.int k n))))=>match tyOf P s with
   | some ys=>match ys.d with
    | .int k'=>if k=k' then match tyOf P d with
     | some y=>match y.d with
      | .str=>some (litS (Utf8.encode n))
      | _=>none
     | none=>none
     else none
    | _=>none
   | none=>none
  | _=>none
 | _=>none
def strRows (s:ByteArray):List (List T):=s.data.toList.map fun b=>[T.lit (.int .u8 b.toNat)]
def appD (P:Program) (st:St) (dst:Option Tmp):Op→Option Delta
 | .call ⟨.builtin .append,⟨[s,x]⟩,⟨[t,t']⟩⟩=>match dst with
  | some d=>match ev st x with
   | some (.one (.t _ (.lit (.string u))))=>match tyOf P t with
    | some y=>match y.d with
     | .sl e=>match tyOf P e with
      | some ye=>match ye.zero with
       | .int .u8 n=>match tyOf P t' with
        | some yt=>match yt.d with
         | .str=>match ev st s with
          | some (.one c)=>match baseOf st e ye.size c with
           | some b=>if n=0∧b.2.2.length + u.size≤maxLen∧b.2.2.length + u.size≤140737488355328∧ye.size=1∧ye.bytes=1
            then some (.mod (.one (.own d (b.2.2.length + u.size))) (b.1.toList++[d]) (b.1.toList++[d]) [(d,.arr e ye.size b.2.1 (b.2.2++strRows u))]) else none
           | none=>none
          | _=>none
         | _=>none
        | none=>none
       | _=>none
      | none=>none
     | _=>none
    | none=>none
   | _=>none
  | none=>none
 | _=>none
section
variable {w w':World} {ρ:Nat→R} {P:Program} {X:Cx} {st:St} {a:Act} {t:TypeId} {y:Ty}
theorem ty_ptr {e:TypeId} (h:tyOf P t=some y) (hd:y.d=.ptr e):P.underlying t=some (.pointer e):=by
 obtain ⟨d,i,h1,_,_,_,_,_,h7⟩:=tyOf_inv h
 rw [hd] at h7
 cases d <;> simp [tdOf] at h7
 rw [h1,h7]
theorem ptrC_rd {ok:Bool→Nat→Prop} {c:C} {x:Value} (h:ptrC c=true) (hx:RdC w ok ρ c x):∃ p,x=.pointer (some p):=by
 cases c with
 | t z t =>
  cases t with
  | ptr row =>
   unfold RdC RdT at hx
   obtain ⟨b,o,rfl,_⟩:=hx
   exact ⟨_,rfl⟩
  | _=>simp [ptrC] at h
 | optr id off =>
  unfold RdC at hx
  split at hx
  ·exact ⟨_,hx⟩
  ·exact hx.elim
 | eptr id k s j =>
  unfold RdC at hx
  split at hx
  ·exact ⟨_,hx⟩
  ·exact hx.elim
 | _=>simp [ptrC] at h
theorem fnC_rd {ok:Bool→Nat→Prop} {c:C} {x:Value} (h:fnC c=true) (hx:RdC w ok ρ c x):∃ f bs xs,x=.func (.func f) bs xs:=by
 cases c with
 | t z t =>
  cases t with
  | fn f caps =>
   unfold RdC RdT at hx
   obtain ⟨xs,rfl,_⟩:=hx
   exact ⟨_,_,_,rfl⟩
  | _=>simp [fnC] at h
 | fn f caps =>
  unfold RdC at hx
  obtain ⟨xs,rfl,_⟩:=hx
  unfold fnV
  split
  ·exact ⟨_,_,_,rfl⟩
  ·exact ⟨_,_,_,rfl⟩
 | _=>simp [fnC] at h
theorem nilC_rd {ok:Bool→Nat→Prop} {c:C} {x:Value} (h:nilC c=true) (hx:RdC w ok ρ c x):x=.pointer none:=by
 unfold nilC at h
 split at h
 ·unfold RdC RdT at hx;exact hx.1
 ·cases h
theorem ptr_nil {e:TypeId} (w:World) {op:BinOp} {b:Bool} (hu:P.underlying t=some (.pointer e)) (x y:Operand) (p:Option Addr) (h:op=.eql∧b=p.isNone ∨ op=.neq∧b=!p.isNone) :
  ((do eqGuard op t x y (.pointer p) (.pointer none);binOp op t (.pointer p) (.pointer none)):Sem Value).run P w=.ok (.bool b) w:=by
 have key:(Op.equal t (.pointer p) (.pointer none)).run P w=.ok p.isNone w:=by
  show (Op.equalIn (9999 + 1) t (.pointer p) (.pointer none)).run P w=_
  unfold Op.equalIn
  cases p <;> simp [run_underlying hu]
 rcases h with ⟨rfl,rfl⟩ | ⟨rfl,rfl⟩
 ·have hg:(eqGuard .eql t x y (.pointer p) (.pointer none)).run P w=.ok () w:=rfl
  simp only [Sem.run_bind,hg,Result.andThen_ok,binOp,key,Sem.run_pure]
 ·have hg:(eqGuard .neq t x y (.pointer p) (.pointer none)).run P w=.ok () w:=rfl
  simp only [Sem.run_bind,hg,Result.andThen_ok,binOp,key,Sem.run_pure]
theorem ext_runs {o:Oper} {v:V} (h:extV P st o.op=some v):Runs P X st o (.pure v):=by
 intro hdo ρ a w hH
 clear hdo
 suffices hs:∃ q,(execOp a.eval o).run P w=.ok (.value q) w∧RdV w (okOf X ρ w) ρ v q by
  obtain ⟨q,h1,h2⟩:=hs
  exact ⟨q,ρ,w,.inl h1,rfl,rfl,h2⟩
 obtain ⟨dst,op,type,pos,after,guard⟩:=o
 simp only at h
 unfold extV at h
 split at h
 ·split at h
  ·rename_i c hc
   split at h
   ·rename_i hk
    injection h with h
    subst h
    have hx:=ev_sound hH hc
    have hx':=hx
    unfold RdV at hx'
    rw [Bool.or_eq_true] at hk
    rcases hk with hk | hk
    ·obtain ⟨p,hp⟩:=ptrC_rd hk hx'
     exact ⟨_,by simp [execOp,hp],hp ▸ hx⟩
    ·obtain ⟨f,bs,xs,hp⟩:=fnC_rd hk hx'
     exact ⟨_,by simp [execOp,hp],hp ▸ hx⟩
   ·cases h
  ·cases h
 ·rename_i op t' x y' yty
  split at h
  ·rename_i hny
   have hy:y'=.const (.pointer none):=by
    unfold nilPtr at hny
    split at hny
    ·rfl
    ·cases hny
   subst hy
   split at h
   ·rename_i c hc
    split at h
    ·rename_i yt hyt
     split at h
     ·rename_i e hd
      have hu:=ty_ptr hyt hd
      have hx:=ev_sound hH hc
      unfold RdV at hx
      have fin:∀ (p:Option Addr) (b:Bool),a.eval x=.pointer p→(op=.eql∧b=p.isNone ∨ op=.neq∧b=!p.isNone)→v=litB b→∃ q,(execOp a.eval ⟨dst,.binOp op t' x (.const (.pointer none)) yty,type,pos,after,guard⟩).run P w=.ok (.value q) w∧RdV w (okOf X ρ w) ρ v q:=fun p b hp hb hv=>by
       subst hv
       refine ⟨_,?_,rd_lit rfl⟩
       simp only [execOp,hp,eval_const]
       rw [Sem.run_bind,ptr_nil w hu _ _ p hb]
       rfl
      by_cases hp:ptrC c=true
      ·obtain ⟨p,hpe⟩:=ptrC_rd hp hx
       simp only [hp,if_true] at h
       split at h
       ·injection h with h
        exact fin _ false hpe (.inl ⟨rfl,rfl⟩) h.symm
       ·injection h with h
        exact fin _ true hpe (.inr ⟨rfl,rfl⟩) h.symm
       ·cases h
      ·simp only [if_neg hp] at h
       by_cases hn:nilC c=true
       ·simp only [hn,if_true] at h
        split at h
        ·injection h with h
         exact fin _ true (nilC_rd hn hx) (.inl ⟨rfl,rfl⟩) h.symm
        ·injection h with h
         exact fin _ false (nilC_rd hn hx) (.inr ⟨rfl,rfl⟩) h.symm
        ·cases h
       ·simp only [if_neg hn] at h
        split at h <;> cases h
     ·cases h
    ·cases h
   ·cases h
  ·cases h
 ·split at h
  ·rename_i z k n hc
   split at h
   ·rename_i ys hys
    split at h
    ·rename_i k' hk
     split at h
     ·rename_i hkk
      subst hkk
      split at h
      ·rename_i yd hyd
       split at h
       ·rename_i hd
        injection h with h
        subst h
        have hx:=ev_sound hH hc
        unfold RdV RdC RdT at hx
        refine ⟨_,?_,rd_lit rfl⟩
        simp only [execOp,hx.1,convert,Sem.run_bind,run_underlying (ty_int hys hk),Result.andThen_ok,run_underlying (ty_str hyd hd),Conv.intToString,Sem.run_pure]
       ·cases h
      ·cases h
     ·cases h
    ·cases h
   ·cases h
  ·cases h
 ·cases h
theorem run_app_str (t u ty e:TypeId) (i:TypeInfo) (ht:P.underlying t=some (.slice e)) (hu:P.underlying u=some .string) (hi:P.info? e=some i) (hz:i.zero=some (.int .u8 0)) (hsize:i.size=1) (hby:i.bytes=1)
  (v:Value) (n:Nat) (xs:List Value) (hown:w.ownsRow 0 e 1 v n xs) (s:ByteArray) (h63:n + s.size≤maxLen) (hbytes:n + s.size≤140737488355328) :
  ∃ v' w',(Builtin.append_ #[t,u] ty #[v,.string s]).run P w=.ok v' w'∧w'.ownsRow 0 e 1 v' (n + s.size) (xs++Lib.strCells s)∧w.grownBy w' v.ownBlock∧(v'.ownBlock=v.ownBlock ∨ ∃ g,v'.ownBlock=some g∧w.heap.size≤g):=by
 obtain ⟨v',w',h1,h2,h3,_⟩:=Lib.run_append_own_string w 0 t u ty e i ht hu hi hz hsize hby v n xs hown s h63 hbytes (Nat.zero_le _)
 refine ⟨v',w',h1,h2,h3,?_⟩
 have hxl:xs.length=n:=by simpa using hown.1
 rcases hown.2 with ⟨rfl,rfl⟩ | ⟨g,cap,cur,rfl,_,hg,hnc,hcm,hcs,htake⟩
 ·obtain rfl:xs=[]:=List.eq_nil_of_length_eq_zero hxl
  obtain ⟨v2,w2,k1,k2,_⟩:=Lib.run_append_own_string w w.heap.size t u ty e i ht hu hi hz hsize hby (.slice none 0 0) 0 [] (World.ownsRow_nil _ _ _ _) s h63 hbytes (Nat.le_refl _)
  rw [k1] at h1
  injection h1 with h1 _
  subst h1
  rcases k2.2 with ⟨rfl,_⟩ | ⟨g,cap,cur,rfl,hge,_⟩
  ·exact .inl rfl
  ·exact .inr ⟨g,rfl,hge⟩
 ·by_cases hroom:n + s.size≤cap
  ·have hcs':cur.size=cap:=by simpa using hcs
   have hr:=Lib.run_append_room_string (P:=P) w t u ty e i ht hu hi hsize g n cap cur hg s hroom (by omega)
   rw [hr] at h1
   injection h1 with h1 _
   subst h1
   exact .inl rfl
  ·have holds:∀ j u,xs[j]?=some u→w.cell? ((⟨g,0,none⟩:Addr).add j)=some u:=hown.cells (g:=g) rfl
   have hr:=Lib.run_append_grow_string (P:=P) w t u ty e i (.int .u8 0) ht hu hi hz ⟨g,0,none⟩ n cap xs (by rw [hsize];simpa using hxl) holds s (by omega) (by simp only [maxLen] at h63;omega) (by rw [hby];exact growslice_fits (by omega) (by omega))
   rw [hr] at h1
   injection h1 with h1 _
   subst h1
   exact .inr ⟨_,rfl,Nat.le_refl _⟩
theorem append_zero_s {e u:TypeId} (ht:P.underlying t=some (.slice e)) (hu:P.underlying u=some .string) {i:TypeInfo} (hi:P.info? e=some i) (ty:TypeId) (A:Option Addr) {s:ByteArray} (hm:0 < s.size) (hb:s.size * i.bytes≤140737488355328) :
  (Builtin.append_ #[t,u] ty #[.slice A 0 0,.string s]).run P w=(Builtin.append_ #[t,u] ty #[.slice none 0 0,.string s]).run P w:=by
 cases A with
 | none=>rfl
 | some ad =>
  have h1:¬ s.size=0:=by omega
  have h2:Builtin.nextslicecap s.size 0=s.size:=by unfold Builtin.nextslicecap;rw [if_pos (by omega)]
  have h3:¬ 281474976710656 < s.size * i.bytes:=by omega
  simp [Builtin.append_,run_underlying ht,run_underlying hu,sizeOf,typeInfo,hi,Builtin.lenOf,h1,h2,h3,Builtin.firstCells,loadCells,loadCellsFrom]
theorem append_none_s {e u:TypeId} (ht:P.underlying t=some (.slice e)) (hu:P.underlying u=some .string) {i:TypeInfo} (hi:P.info? e=some i) (ty:TypeId) (A:Option Addr) {s:ByteArray} (hm:s.size=0) :
  (Builtin.append_ #[t,u] ty #[.slice A 0 0,.string s]).run P w=.ok (.slice A 0 0) w:=by
 have hs:s=⟨#[]⟩:=by
  obtain ⟨d⟩:=s
  have:d.size=0:=hm
  rw [Array.size_eq_zero_iff.1 this]
 subst hs
 cases A with
 | none=>simp [Builtin.append_,run_underlying ht,run_underlying hu,sizeOf,typeInfo,hi,Builtin.lenOf,Builtin.firstCells,ByteArray.size]
 | some ad=>simp [Builtin.append_,run_underlying ht,run_underlying hu,sizeOf,typeInfo,hi,Builtin.lenOf,Builtin.firstCells,loadCells,loadCellsFrom,storeCells,ByteArray.size]
theorem strRows_len (s:ByteArray):(strRows s).length=s.size:=by unfold strRows;rw [List.length_map,Array.length_toList];rfl
theorem strRows_rd {ok:Nat→Prop} (s:ByteArray):RdL w ok (strRows s).flatten (Lib.strCells s):=by
 unfold strRows Lib.strCells
 induction s.data.toList with
 | nil=>unfold RdL;simp
 | cons b l ih =>
  simp only [List.map_cons,List.flatten_cons,List.cons_append,List.nil_append]
  unfold RdL RdT
  exact ⟨⟨rfl,rfl⟩,ih⟩
theorem strRows_one (s:ByteArray):∀ r ∈ strRows s,r.length=1:=fun r hr=>by
 unfold strRows at hr
 obtain ⟨b,_,rfl⟩:=List.mem_map.1 hr
 rfl
theorem app_runs {o:Oper} {D:Delta} (h:appD P st o.dst o.op=some D):Runs P X st o D:=by
 intro hdo ρ a w hH
 obtain ⟨dst,op,type,pos,after,guard⟩:=o
 simp only at h
 unfold appD at h
 split at h
 ·rename_i s x t u
  split at h
  ·rename_i d
   replace hdo:d < X.n:=by simpa [dstOk] using hdo
   split at h
   ·rename_i z us hxs
    split at h
    ·rename_i y hy
     split at h
     ·rename_i e hd
      split at h
      ·rename_i ye hye
       split at h
       ·rename_i n hzero
        split at h
        ·rename_i yt hyt
         split at h
         ·rename_i hds
          split at h
          ·rename_i c hc
           split at h
           ·rename_i b hb
            split at h
            ·rename_i hcond
             obtain ⟨rfl,k1,k2,k3,k4⟩:=hcond
             injection h with h
             subst h
             have hv:=ev_sound hH hc
             have hx:=ev_sound hH hxs
             unfold RdV at hv
             unfold RdV RdC RdT at hx
             obtain ⟨dd,ii,hu',hii,hz0,hsz0,hby0,_,_⟩:=tyOf_inv hye
             have hut:=ty_sl hy hd
             have hus:=ty_str hyt hds
             rw [hzero] at hz0
             rw [k3] at hsz0
             rw [k4] at hby0
             have key:∃ v' w',∃ r:R,(Builtin.append_ #[t,u] type #[a.eval s,.string us]).run P w=.ok v' w'∧Below 0 w w'∧(∀ g,g < w.heap.size→(∀ id c',id ∈ b.1.toList→ρ id ≠ .lie g c')→w'.heap[g]?=w.heap[g]?)∧(∀ r ∈ b.2.2,r.length=ye.size) ∧
               (((∃ A,v'=.slice A 0 0)∧b.2.2.length + us.size=0∧r=.nil) ∨
                ∃ g c' xs,v'=.slice (some ⟨g,0,none⟩) (b.2.2.length + us.size) c'∧r=.lie g c'∧g < w'.heap.size∧(w.heap.size≤g ∨ ∃ id c',id ∈ b.1.toList∧ρ id=.lie g c')∧w'.ownsRow 0 e 1 v' (b.2.2.length + us.size) (xs++Lib.strCells us)∧RdL w (okOf X ρ w b.2.1) b.2.2.flatten xs):=by
              have onto:∀ (v:Value) (xs:List Value),w.ownsRow 0 e 1 v b.2.2.length xs→RdL w (okOf X ρ w b.2.1) b.2.2.flatten xs→(∀ r ∈ b.2.2,r.length=ye.size)→((v=.slice none 0 0) ∨ ∃ id g cap,b.1=some id∧ρ id=.lie g cap∧v.ownBlock=some g)→∀ v0:Value,(Builtin.append_ #[t,u] type #[v0,.string us]).run P w=(Builtin.append_ #[t,u] type #[v,.string us]).run P w →
                ∃ v' w',∃ r:R,(Builtin.append_ #[t,u] type #[v0,.string us]).run P w=.ok v' w'∧Below 0 w w'∧(∀ g,g < w.heap.size→(∀ id c',id ∈ b.1.toList→ρ id ≠ .lie g c')→w'.heap[g]?=w.heap[g]?)∧(∀ r ∈ b.2.2,r.length=ye.size) ∧
                 (((∃ A,v'=.slice A 0 0)∧b.2.2.length + us.size=0∧r=.nil) ∨
                  ∃ g c' xs,v'=.slice (some ⟨g,0,none⟩) (b.2.2.length + us.size) c'∧r=.lie g c'∧g < w'.heap.size∧(w.heap.size≤g ∨ ∃ id c',id ∈ b.1.toList∧ρ id=.lie g c')∧w'.ownsRow 0 e 1 v' (b.2.2.length + us.size) (xs++Lib.strCells us)∧RdL w (okOf X ρ w b.2.1) b.2.2.flatten xs):=by
               intro v xs hown hrd hrs hwhere v0 hv0
               obtain ⟨v',w',hrun,hown',hgrow,hat⟩:=run_app_str t u type e ii hut hus hii hz0 hsz0 hby0 v _ xs hown us k1 k2
               rw [hv0]
               have far:∀ g,g < w.heap.size→(∀ id c',id ∈ b.1.toList→ρ id ≠ .lie g c')→w'.heap[g]?=w.heap[g]?:=fun g hg hcond=>hgrow.block g hg fun he=>by
                rcases hwhere with h4 | ⟨id,g',c',h4,h5,h6⟩
                ·rw [h4] at he;cases he
                ·rw [h6] at he
                 injection he with he
                 subst he
                 exact hcond id c' (by rw [h4];simp) h5
               have hbel:Below 0 w w':=⟨hgrow.os,hgrow.tape,hgrow.output,hgrow.size,fun k hk=>absurd hk (by omega)⟩
               rcases hown'.2 with ⟨h4,h5⟩ | ⟨g,c',cur,h4,h5,h6,_⟩
               ·exact ⟨v',w',.nil,hrun,hbel,far,hrs,.inl ⟨⟨_,h4⟩,h5,rfl⟩⟩
               ·refine ⟨v',w',.lie g c',hrun,hbel,far,hrs,.inr ⟨g,c',xs,h4,rfl,Blk.lt (t:=e) (cs:=cur) h6,?_,hown',hrd⟩⟩
                rcases hat with hat | ⟨g2,hat,hge⟩
                ·rw [h4] at hat
                 rcases hwhere with h7 | ⟨id,g',c2,h7,h8,h9⟩
                 ·rw [h7] at hat;cases hat
                 ·rw [h9] at hat
                  injection hat with hat
                  simp only at hat
                  subst hat
                  exact .inr ⟨id,c2,by rw [h7];simp,h8⟩
                ·rw [h4] at hat
                 injection hat with hat
                 simp only at hat
                 exact .inl (by omega)
              have empty : ∀ A, a.eval s = .slice A 0 0 → b.2.2 = [] → ∃ v' w', ∃ r : R, (Builtin.append_ #[t, u] type #[a.eval s, .string us]).run P w = .ok v' w' ∧ Below 0 w w' ∧ (∀ g, g < w.heap.size → (∀ id c', id ∈ b.1.toList → ρ id ≠ .lie g c') → w'.heap[g]? = w.heap[g]?) ∧ (∀ r ∈ b.2.2, r.length = ye.size) ∧
                 (((∃ A,v'=.slice A 0 0)∧b.2.2.length + us.size=0∧r=.nil) ∨
                  ∃ g c' xs,v'=.slice (some ⟨g,0,none⟩) (b.2.2.length + us.size) c'∧r=.lie g c'∧g < w'.heap.size∧(w.heap.size≤g ∨ ∃ id c',id ∈ b.1.toList∧ρ id=.lie g c')∧w'.ownsRow 0 e 1 v' (b.2.2.length + us.size) (xs++Lib.strCells us)∧RdL w (okOf X ρ w b.2.1) b.2.2.flatten xs):=by
               intro A hA hbe
               rw [hA]
               rcases Nat.eq_zero_or_pos us.size with hm | hm
               ·exact ⟨_,w,.nil,append_none_s hut hus hii type A hm,Below.refl _ _,fun _ _ _=>rfl,(by rw [hbe];intro r hr;cases hr),.inl ⟨⟨_,rfl⟩,by rw [hbe,hm];rfl,rfl⟩⟩
               ·exact onto (.slice none 0 0) [] (by rw [hbe];exact World.ownsRow_nil _ _ _ _) (by rw [hbe];unfold List.flatten RdL;trivial) (by rw [hbe];intro r hr;cases hr) (.inl rfl) _ (append_zero_s hut hus hii type A hm (by rw [hby0];omega))
              unfold baseOf at hb
              split at hb
              ·injection hb with hb
               subst hb
               unfold RdC at hv
               obtain ⟨A,hA⟩:=hv
               exact empty A hA rfl
              ·rename_i id len
               split at hb
               ·rename_i e' s' z' rows hbl
                split at hb
                ·rename_i hcc
                 obtain ⟨rfl,rfl,rfl⟩:=hcc
                 injection hb with hb
                 subst hb
                 have hB:=hH.blocks _ _ hbl
                 unfold RdC at hv
                 unfold HasB at hB
                 cases hid:ρ id with
                 | dead=>simp [hid] at hv
                 | nil =>
                  simp only [hid] at hv hB
                  obtain ⟨_,A,hA⟩:=hv
                  exact empty A hA hB
                 | lie g cap =>
                  simp only [hid] at hv hB
                  obtain ⟨xs,g1,g2,g3⟩:=hB
                  rw [k3] at g1
                  exact onto _ xs g1 g2 g3 (.inr ⟨id,g,cap,rfl,hid,rfl⟩) _ (by rw [hv])
                ·cases hb
               ·cases hb
              ·cases hb
             obtain ⟨v',w',r,hrun,hbel,hfar,hrs,hform⟩:=key
             refine ⟨v',fun i=>if i=d then r else if i ∈ b.1.toList then .dead else ρ i,w',.inl (by simp [execOp,resolve,invoke,builtin,hx.1,hrun]),?_⟩
             have hevo:Evo X ρ w (fun i=>if i=d then r else if i ∈ b.1.toList then .dead else ρ i) w' (b.1.toList++[d]) (b.1.toList++[d]):=by
              refine ⟨hbel,fun k hk hcond=>hfar k hk fun id c' hid=>hcond id c' (List.mem_append_left _ hid),fun id hid=>?_,fun id k c hid hρ=>?_,fun i j k c c' hi hj=>?_,fun i hi=>?_⟩
              ·simp only [List.mem_append,List.mem_singleton,not_or] at hid
               simp only [if_neg hid.2,if_neg hid.1]
              ·split at hρ
               ·rcases hform with ⟨_,_,h3⟩ | ⟨g,c',_,_,h3,h5,h6,_⟩
                ·rw [h3] at hρ;cases hρ
                ·rw [h3] at hρ
                 injection hρ with hρ _
                 subst hρ
                 exact ⟨h5,h6.imp (fun h=>h) fun ⟨i,c2,_,h⟩=>⟨i,c2,h⟩⟩
               ·rename_i hne'
                rcases List.mem_append.1 hid with hid | hid
                ·rw [if_pos hid] at hρ;cases hρ
                ·exact absurd (List.mem_singleton.1 hid) hne'
              ·have oth:∀ i k c,i ≠ d→(if i=d then r else if i ∈ b.1.toList then R.dead else ρ i)=.lie k c→ρ i=.lie k c∧i ∉ b.1.toList:=fun i k c hid h=>by
                rw [if_neg hid] at h
                split at h
                ·cases h
                ·exact ⟨h,by assumption⟩
               have clash:∀ i k c c',i ≠ d→(if i=d then r else if i ∈ b.1.toList then R.dead else ρ i)=.lie k c→r=.lie k c'→False:=fun i k c c' hid h h'=>by
                obtain ⟨h1,h2⟩:=oth i k c hid h
                rcases hform with ⟨_,_,h3⟩ | ⟨g,c2,_,_,h3,h5,h6,_⟩
                ·rw [h3] at h';cases h'
                ·rw [h3] at h'
                 injection h' with h' _
                 subst h'
                 rcases h6 with h6 | ⟨id,c3,h6,h7⟩
                 ·have:=(hH.ge i _ c h1).2.2;omega
                 ·exact h2 (by rw [hH.inj i id _ _ _ h1 h7];exact h6)
               by_cases h1:i=d <;> by_cases h2:j=d
               ·rw [h1,h2]
               ·rw [if_pos h1] at hi
                exact (clash j k c' c h2 hj hi).elim
               ·rw [if_pos h2] at hj
                exact (clash i k c c' h1 hi hj).elim
               ·exact hH.inj i j k c c' (oth i k c h1 hi).1 (oth j k c' h2 hj).1
              ·by_cases h1:i=d
               ·exact .inl (by rw [h1];exact hdo)
               ·refine .inr ?_
                rcases List.mem_append.1 hi with hi | hi
                ·simp only [if_neg h1,if_pos hi]
                ·exact absurd (List.mem_singleton.1 hi) h1
             refine ⟨hevo,?_,fun id B' hB=>?_⟩
             ·unfold RdV RdC
              simp only [if_true]
              rcases hform with ⟨h1,h2,h3⟩ | ⟨g,c2,_,h1,h3,_⟩
              ·rw [h3];exact ⟨h2,h1⟩
              ·rw [h3];exact h1
             ·obtain ⟨rfl,rfl⟩:=one_get hB
              unfold HasB
              simp only [if_true]
              rcases hform with ⟨h1,h2,h3⟩ | ⟨g,c2,xs,h1,h3,_,_,hown',hrd⟩
              ·rw [h3]
               simp only
               exact List.eq_nil_of_length_eq_zero (by rw [List.length_append,strRows_len];exact h2)
              ·rw [h3]
               simp only
               refine ⟨xs++Lib.strCells us,?_,?_,?_⟩
               ·rw [List.length_append,strRows_len,← h1,k3];exact hown'
               ·rw [List.flatten_append,← h3]
                exact (hevo.rdL _ hrd).append (strRows_rd us)
               ·intro r' hr'
                rcases List.mem_append.1 hr' with h | h
                ·exact hrs _ h
                ·rw [k3];exact strRows_one us _ h
            ·cases h
           ·cases h
          ·cases h
         ·cases h
        ·cases h
       ·cases h
      ·cases h
     ·cases h
    ·cases h
   ·cases h
  ·cases h
 ·cases h
end
end Go.Proofs.YtjdgejfhnfnmgaaGreatDoor.Ax
namespace Go.Proofs.YtjdgejfhnfnmgaaGreatDoor.Ax
open Go.RowKit
def litCs:List C→Option (List Value)
 | []=>some []
 | .t _ (.lit v) :: cs=>match litCs cs with
  | some vs=>some (v :: vs)
  | none=>none
 | _=>none
def wholeV:V→Option Value
 | .one (.t _ (.lit v))=>some v
 | .agg cs=>match litCs cs with
  | some vs=>some (.agg vs.toArray)
  | none=>none
 | _=>none
def asC:List Value→Option (List C)
 | []=>some []
 | v :: vs=>match v.oneCell' with
  | true=>match asC vs with
   | some cs=>some (.t true (.lit v) :: cs)
   | none=>none
  | false=>none
def asV:Value→Option V
 | .agg vs=>match asC vs.toList with
  | some cs=>some (.agg cs)
  | none=>none
 | .tuple _=>none
 | v=>match v.oneCell' with
  | true=>some (.one (.t true (.lit v)))
  | false=>none
def putM:List (Int × Value)→Int→Value→List (Int × Value)
 | [],k,v=>[(k,v)]
 | p :: l,k,v=>if p.1=k then (k,v) :: l else p :: putM l k v
def getM:List (Int × Value)→Int→Option Value
 | [],_=>none
 | p :: l,k=>if p.1=k then some p.2 else getM l k
def keyOk (P:Program) (t:TypeId) (k:IntKind):Option TypeId :=
 match tyOf P t with
 | some y=>match y.d with
  | .map kt et=>match tyOf P kt with
   | some yk=>match yk.d with
    | .int j=>if j=k then some et else none
    | _=>none
   | none=>none
  | _=>none
 | none=>none
def getOr (P:Program) (et:TypeId):Option Value→Option V
 | some v=>asV v
 | none=>match tyOf P et with
  | some ye=>asV ye.zero
  | none=>none
def putD' (P:Program) (st:St) (t:TypeId) (m k x:Operand):Option Delta :=
 match ev st m with
 | some (.one (.omap id))=>match get id st.bl with
  | some (.mp kk es)=>match ev st k with
   | some (.one (.t _ (.lit (.int k2 n))))=>match ev st x with
    | some v=>match wholeV v with
     | some u=>match keyOk P t kk with
      | some _=>if k2=kk then some (.mod .junk [id] [] [(id,.mp kk (putM es n u))]) else none
      | none=>none
     | none=>none
    | none=>none
   | _=>none
  | _=>none
 | _=>none
def mapD (P:Program) (st:St) (dst:Option Tmp):Op→Option Delta
 | .makeMap t none=>match dst with
  | some d=>match tyOf P t with
   | some y=>match y.d with
    | .map kt _=>match tyOf P kt with
     | some yk=>match yk.d with
      | .int k=>some (.mod (.one (.omap d)) [d] [d] [(d,.mp k [])])
      | _=>none
     | none=>none
    | _=>none
   | none=>none
  | none=>none
 | .mapUpdate t m k x=>putD' P st t m k x
 | .insert t m k x=>putD' P st t m k x
 | .lookup t m k false=>match ev st m with
  | some (.one (.omap id))=>match get id st.bl with
   | some (.mp kk es)=>match ev st k with
    | some (.one (.t _ (.lit (.int k2 n))))=>match keyOk P t kk with
     | some et=>if k2=kk then (getOr P et (getM es n)).map Delta.pure else none
     | none=>none
    | _=>none
   | _=>none
  | _=>none
 | _=>none
section
variable {w w':World} {ok:Bool→Nat→Prop} {ρ:Nat→R} {P:Program} {X:Cx} {st:St} {a:Act} {t:TypeId} {y:Ty}
theorem ty_map {k e:TypeId} (h:tyOf P t=some y) (hd:y.d=.map k e):P.underlying t=some (.map k e):=by
 obtain ⟨d,i,h1,_,_,_,_,_,h7⟩:=tyOf_inv h
 rw [hd] at h7
 cases d <;> simp [tdOf] at h7
 rw [h1,h7.1,h7.2]
theorem litCs_rd:∀ {cs:List C} {vs:List Value} {xs:List Value},litCs cs=some vs→RdCs w ok ρ cs xs→xs=vs
 | [],vs,xs,h,hx=>by
  simp only [litCs,Option.some.injEq] at h
  subst h
  cases xs with
  | nil=>rfl
  | cons=>unfold RdCs at hx;exact hx.elim
 | c :: cs,vs,xs,h,hx=>by
  cases xs with
  | nil=>unfold RdCs at hx;exact hx.elim
  | cons x xs =>
   unfold litCs at h
   split at h
   ·cases ‹_=([]:List C)›
   ·rename_i z v cs' heq
    cases heq
    split at h
    ·rename_i vs' hvs
     injection h with h
     subst h
     unfold RdCs at hx
     rw [litCs_rd hvs hx.2]
     have h1:=hx.1
     unfold RdC RdT at h1
     rw [h1.1]
    ·cases h
   ·cases h
theorem wholeV_rd {v:V} {u x:Value} (h:wholeV v=some u) (hx:RdV w ok ρ v x):x=u:=by
 unfold wholeV at h
 split at h
 ·injection h with h
  subst h
  unfold RdV RdC RdT at hx
  exact hx.1
 ·split at h
  ·rename_i vs hvs
   injection h with h
   subst h
   unfold RdV at hx
   obtain ⟨xs,rfl,h2⟩:=hx
   have:=litCs_rd hvs h2
   rw [← this]
  ·cases h
 ·cases h
theorem asC_rd:∀ {vs:List Value} {cs:List C},asC vs=some cs→RdCs w ok ρ cs vs
 | [],cs,h=>by
  simp only [asC,Option.some.injEq] at h
  subst h
  unfold RdCs;trivial
 | v :: vs,cs,h=>by
  simp only [asC] at h
  split at h
  ·rename_i h1
   split at h
   ·rename_i cs' h2
    injection h with h
    subst h
    unfold RdCs
    refine ⟨?_,asC_rd h2⟩
    unfold RdC RdT
    exact ⟨rfl,h1⟩
   ·cases h
  ·cases h
theorem asV_rd {v:Value} {u:V} (h:asV v=some u):RdV w ok ρ u v:=by
 unfold asV at h
 split at h
 ·rename_i vs
  split at h
  ·rename_i cs hcs
   injection h with h
   subst h
   unfold RdV
   exact ⟨vs,rfl,asC_rd hcs⟩
  ·cases h
 ·cases h
 ·split at h
  ·rename_i h1
   injection h with h
   subst h
   unfold RdV RdC RdT
   exact ⟨rfl,h1⟩
  ·cases h
theorem keyOk_inv {k:IntKind} {et:TypeId} (h:keyOk P t k=some et):∃ kt,P.underlying t=some (.map kt et)∧P.underlying kt=some (.int k):=by
 unfold keyOk at h
 split at h
 ·rename_i y hy
  split at h
  ·rename_i kt e hd
   split at h
   ·rename_i yk hyk
    split at h
    ·rename_i j hj
     split at h
     ·rename_i hjk
      injection h with h
      subst h;subst hjk
      exact ⟨kt,ty_map hy hd,ty_int hyk hj⟩
     ·cases h
    ·cases h
   ·cases h
  ·cases h
 ·cases h
theorem find_get {k:IntKind} {n:Int}:∀ {ms:List MapEntry} {es:List (Int × Value)} (i:Nat),ms.map (fun m=>(m.key,m.val))=es.map (fun p=>(Value.int k p.1,p.2)) →
  (getM es n=none∧Instr.findNow (.int k) (.int k n) ms i=some none∧∀ u,putM es n u=es++[(n,u)]) ∨
  ∃ j v m,getM es n=some v∧Instr.findNow (.int k) (.int k n) ms i=some (some (i + j,v))∧ms[j]?=some m∧m.key=.int k n∧∀ u,putM es n u=es.set j (n,u)
 | [],es,i,h=>by
  cases es with
  | nil=>exact .inl ⟨rfl,rfl,fun _=>rfl⟩
  | cons=>cases h
 | m :: ms,es,i,h=>by
  cases es with
  | nil=>cases h
  | cons p es =>
   simp only [List.map_cons,List.cons.injEq,Prod.mk.injEq] at h
   obtain ⟨⟨h1,h2⟩,h3⟩:=h
   unfold Instr.findNow Instr.sameNow
   rw [h1]
   simp only [if_true]
   by_cases hp:p.1=n
   ·right
    refine ⟨0,p.2,m,by simp [getM,hp],?_,rfl,by rw [h1,hp],fun u=>by simp [putM,hp]⟩
    simp [hp,h2]
   ·have hne:(n==p.1)=false:=by simp;exact fun e=>hp e.symm
    rw [hne]
    rcases find_get (i + 1) h3 with ⟨g1,g2,g3⟩ | ⟨j,v,m',g1,g2,g3,g4,g5⟩
    ·exact .inl ⟨by simp [getM,hp,g1],g2,fun u=>by simp [putM,hp,g3]⟩
    ·exact .inr ⟨j + 1,v,m',by simp [getM,hp,g1],by rw [show i + (j + 1)=i + 1 + j by omega];exact g2,by simpa using g3,g4,fun u=>by simp [putM,hp,g5]⟩
theorem map_heap {b:Nat} {o o':Obj} (h:w.heap[b]?=some o):(w.heap.setIfInBounds b o')[b]?=some o':=(MapKept.heap_set h).1
theorem evo_obj (hH:Hold X st ρ a w) {d b cap:Nat} (hd:ρ d=.lie b cap) {o:Obj}:Evo X ρ w ρ { w with heap:=w.heap.setIfInBounds b o } [d] [] where
 below:=⟨rfl,rfl,rfl,by simp,fun k hk=>absurd hk (by omega)⟩
 heap k _ h:=by
  have:k ≠ b:=fun e=>h d cap (by simp) (e ▸ hd)
  simp [Ne.symm this]
 rho _ _:=rfl
 new _ _ _ h:=by cases h
 inj:=hH.inj
 pin _ h:=by cases h
theorem put_runs {t:TypeId} {m k x:Operand} {D:Delta} (hH:Hold X st ρ a w) (h:putD' P st t m k x=some D):∃ w',(Instr.mapUpdate t (a.eval m) (a.eval k) (a.eval x)).run P w=.ok () w'∧∀ q,Out X ρ w ρ w' q D:=by
 unfold putD' at h
 split at h
 ·rename_i id hm
  split at h
  ·rename_i kk es hb
   split at h
   ·rename_i zz k2 n hk
    split at h
    ·rename_i v hv
     split at h
     ·rename_i u hu
      split at h
      ·rename_i et hko
       split at h
       ·rename_i hkk
        injection h with h
        subst h;subst hkk
        obtain ⟨kt,hut,huk⟩:=keyOk_inv hko
        have hx:=wholeV_rd hu (ev_sound hH hv)
        have hmv:=ev_sound hH hm
        have hkv:=ev_sound hH hk
        unfold RdV RdC at hmv
        unfold RdV RdC RdT at hkv
        have hB:=hH.blocks _ _ hb
        unfold HasB at hB
        obtain ⟨b,cap,hid,ms,clock,hheap,hes⟩:=hB
        simp only [hid] at hmv
        have hisk:MapKept.IsKey (.int k2) (.int k2 n):=by simp [MapKept.IsKey]
        rw [hmv,hkv.1,hx]
        rcases find_get (k:=k2) (n:=n) 0 hes with ⟨g1,g2,g3⟩ | ⟨j,v',m',g1,g2,g3,g4,g5⟩
        ·refine ⟨{ w with heap:=w.heap.setIfInBounds b (.map (ms.push ⟨.int k2 n,u,clock⟩) (clock + 1)) },?_,fun q=>⟨evo_obj hH hid,by unfold RdV;trivial,fun i B hi=>?_⟩⟩
         ·simp [Instr.mapUpdate,run_underlying hut,MapKept.run_getObj_map hheap,MapKept.run_checkKey huk hisk,MapKept.run_findKey huk g2,MapKept.run_setObj_map _ hheap,Result.andThen]
         ·obtain ⟨rfl,rfl⟩:=one_get hi
          unfold HasB
          refine ⟨b,cap,hid,_,_,map_heap hheap,?_⟩
          rw [Array.toList_push,List.map_append,hes,g3,List.map_append]
          rfl
        ·have hj:ms[j]?=some m':=by simpa using g3
         rw [Nat.zero_add] at g2
         refine ⟨{ w with heap:=w.heap.setIfInBounds b (.map (ms.modify j fun e=>{ e with key:=.int k2 n,val:=u }) clock) },?_,fun q=>⟨evo_obj hH hid,by unfold RdV;trivial,fun i B hi=>?_⟩⟩
         ·simp [Instr.mapUpdate,run_underlying hut,MapKept.run_getObj_map hheap,MapKept.run_checkKey huk hisk,MapKept.run_findKey huk g2,hj,g4,MapKept.run_keyThatStays hisk,MapKept.run_setObj_map _ hheap,Result.andThen]
         ·obtain ⟨rfl,rfl⟩:=one_get hi
          unfold HasB
          refine ⟨b,cap,hid,_,_,map_heap hheap,?_⟩
          rw [g5,List.map_set,← hes]
          apply List.ext_getElem?
          intro i
          rw [List.getElem?_map,Array.getElem?_toList,Array.getElem?_modify,List.getElem?_set,List.getElem?_map,List.length_map,Array.getElem?_toList]
          by_cases hij:j=i
          ·subst hij
           have hlt:j < ms.toList.length:=(List.getElem?_eq_some_iff.1 g3).1
           simp [hj] at hlt ⊢
           simp [hlt]
          ·simp [hij]
       ·cases h
      ·cases h
     ·cases h
    ·cases h
   ·cases h
  ·cases h
 ·cases h
theorem map_runs {o:Oper} {D:Delta} (h:mapD P st o.dst o.op=some D):Runs P X st o D:=by
 intro hdo ρ a w hH
 obtain ⟨dst,op,type,pos,after,guard⟩:=o
 simp only at h
 unfold mapD at h
 split at h
 ·rename_i t
  split at h
  ·rename_i d
   split at h
   ·rename_i y hy
    split at h
    ·rename_i kt et hd
     split at h
     ·rename_i yk hyk
      split at h
      ·rename_i k hk
       injection h with h
       subst h
       have he:=evo_new hH d 0 (by simpa [dstOk] using hdo) (.map #[] 0)
       refine ⟨.map (some w.heap.size),updR ρ d (.lie w.heap.size 0),w.alloc (.map #[] 0),.inl ?_,he,?_,fun id b hb=>?_⟩
       ·simp [execOp,Instr.makeMap,Result.andThen]
       ·unfold RdV RdC
        rw [updR_same]
       ·obtain ⟨rfl,rfl⟩:=one_get hb
        unfold HasB
        exact ⟨w.heap.size,0,updR_same,#[],0,(MapKept.heap_alloc w _).1,rfl⟩
      ·cases h
     ·cases h
    ·cases h
   ·cases h
  ·cases h
 ·obtain ⟨w',h1,h2⟩:=put_runs hH h
  exact ⟨undef,ρ,w',.inr ⟨by simp [execOp,h1],rfl⟩,h2 _⟩
 ·obtain ⟨w',h1,h2⟩:=put_runs hH h
  exact ⟨undef,ρ,w',.inr ⟨by simp [execOp,h1],rfl⟩,h2 _⟩
 ·rename_i t m k
  split at h
  ·rename_i id hm
   split at h
   ·rename_i kk es hb
    split at h
    ·rename_i zz k2 n hk
     split at h
     ·rename_i et hko
      split at h
      ·rename_i hkk
       subst hkk
       obtain ⟨kt,hut,huk⟩:=keyOk_inv hko
       have hmv:=ev_sound hH hm
       have hkv:=ev_sound hH hk
       unfold RdV RdC at hmv
       unfold RdV RdC RdT at hkv
       have hB:=hH.blocks _ _ hb
       unfold HasB at hB
       obtain ⟨b,cap,hid,ms,clock,hheap,hes⟩:=hB
       simp only [hid] at hmv
       have hisk:MapKept.IsKey (.int k2) (.int k2 n):=by simp [MapKept.IsKey]
       rcases find_get (k:=k2) (n:=n) 0 hes with ⟨g1,g2,_⟩ | ⟨j,v',m',g1,g2,_,_,_⟩
       ·rw [g1] at h
        simp only [getOr] at h
        split at h
        ·rename_i ye hye
         cases hz:asV ye.zero with
         | none=>rw [hz] at h;cases h
         | some u =>
          rw [hz] at h
          simp only [Option.map_some,Option.some.injEq] at h
          subst h
          refine ⟨ye.zero,ρ,w,.inl ?_,rfl,rfl,asV_rd hz⟩
          simp [execOp,hmv,hkv.1,Instr.lookup,run_underlying hut,MapKept.run_getObj_map hheap,MapKept.run_checkKey huk hisk,MapKept.run_findKey huk g2,ty_zero hye,Result.andThen]
        ·cases h
       ·rw [g1] at h
        simp only [getOr] at h
        cases hz:asV v' with
        | none=>rw [hz] at h;cases h
        | some u =>
         rw [hz] at h
         simp only [Option.map_some,Option.some.injEq] at h
         subst h
         refine ⟨v',ρ,w,.inl ?_,rfl,rfl,asV_rd hz⟩
         simp [execOp,hmv,hkv.1,Instr.lookup,run_underlying hut,MapKept.run_getObj_map hheap,MapKept.run_checkKey huk hisk,MapKept.run_findKey huk g2,Result.andThen]
      ·cases h
     ·cases h
    ·cases h
   ·cases h
  ·cases h
 ·cases h
end
end Go.Proofs.YtjdgejfhnfnmgaaGreatDoor.Ax
