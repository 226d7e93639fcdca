/-  -/
import Derived.Test.YtjdgejfhnfnmgaaGreatDoorP4
import Derived.Laws.CopyRow
namespace Go.Proofs.YtjdgejfhnfnmgaaGreatDoor.Ax
open Go.RowKit
def bdI (st:St) (d:Int):Option Operand→Option Int
 | none=>some d
 | some o=>match ev st o with
  | some (.one (.t _ (.lit (.int _ i))))=>some i
  | _=>none
def cutOwn (P:Program) (st:St):Op→Option V
 | .slice t x lo hi mx=>match ev st x with
  | some (.one (.own id n))=>match get id st.bl with
   | some (.arr _ s _ rows)=>match tyOf P t with
    | some y=>match y.d with
     | .sl e=>match tyOf P e with
      | some ye=>match bdI st 0 lo with
       | some l=>match bdI st n hi with
        | some h=>match mx with
         | none=>if ye.size=s∧0≤l∧l≤h∧h≤rows.length then (if l=0 then some (.one (.own id h.toNat)) else some (.one (.ocut id s l.toNat (h - l).toNat))) else none
         | some _=>match bdI st 0 mx with
          | some m=>match hi with
           | some _=>if 0≤l∧l≤h∧h≤m∧m≤rows.length then some (.one .junk) else none
           | none=>none
          | none=>none
        | none=>none
       | none=>none
      | none=>none
     | _=>none
    | none=>none
   | _=>none
  | _=>none
 | _=>none
def appOwn (P:Program) (st:St):Op→Option Delta
 | .call ⟨.builtin .append,⟨[x1,x2]⟩,⟨[t,t']⟩⟩=>match ev st x1 with
  | some (.one (.own id i))=>match ev st x2 with
   | some (.one (.ocut id2 s j m))=>match get id st.bl with
    | some (.arr e size z rows)=>match tyOf P t with
     | some y=>match y.d with
      | .sl e1=>match tyOf P e1 with
       | some ye=>match tyOf P t' with
        | some y'=>match y'.d with
         | .sl _=>if id2=id∧s=size∧ye.size=size∧i + m≤rows.length∧j + m≤rows.length∧1≤rows.length then some (.mod (.one (.own id (i + m))) [id] [] [(id,.arr e size z (rows.take i++(rows.drop j).take m++rows.drop (i + m)))]) else none
         | _=>none
        | none=>none
       | none=>none
      | _=>none
     | none=>none
    | _=>none
   | _=>none
  | _=>none
 | _=>none
def clearOwn (P:Program) (st:St):Op→Option Delta
 | .call ⟨.builtin .clear,⟨[x]⟩,⟨[t]⟩⟩=>match ev st x with
  | some (.one (.ocut id s lo len))=>match get id st.bl with
   | some (.arr e size z rows)=>match tyOf P t with
    | some y=>match y.d with
     | .sl e1=>match tyOf P e1 with
      | some ye=>if s=size∧ye.zero.cells.toList.length=size∧lo + len≤rows.length∧1≤len∧ye.zero.cells.toList.all (fun u=>u.oneCell')=true then some (.mod (.tup []) [id] [] [(id,.arr e size z (rows.take lo++List.replicate len (ye.zero.cells.toList.map T.lit)++rows.drop (lo + len)))]) else none
      | none=>none
     | _=>none
    | none=>none
   | _=>none
  | _=>none
 | _=>none
section
variable {w w':World} {ρ:Nat→R} {P:Program} {X:Cx} {st:St} {a:Act} {t:TypeId} {y:Ty}
theorem flat_take {α:Type} {s:Nat}:∀ (rows:List (List α)) (k:Nat),(∀ r ∈ rows,r.length=s)→(rows.take k).flatten=rows.flatten.take (k * s)
 | [],k,_=>by simp
 | r :: rs,0,_=>by simp
 | r :: rs,k + 1,h=>by
  have h1:=h r List.mem_cons_self
  rw [List.take_succ_cons,List.flatten_cons,List.flatten_cons,flat_take rs k (fun r hr=>h r (List.mem_cons_of_mem _ hr)),Nat.succ_mul,Nat.add_comm,← h1,List.take_length_add_append]
theorem flat_drop {α:Type} {s:Nat}:∀ (rows:List (List α)) (k:Nat),(∀ r ∈ rows,r.length=s)→(rows.drop k).flatten=rows.flatten.drop (k * s)
 | [],k,_=>by simp
 | r :: rs,0,_=>by simp
 | r :: rs,k + 1,h=>by
  have h1:=h r List.mem_cons_self
  rw [List.drop_succ_cons,List.flatten_cons,flat_drop rs k (fun r hr=>h r (List.mem_cons_of_mem _ hr)),Nat.succ_mul,Nat.add_comm,← h1,List.drop_length_add_append]
theorem flat_len {α:Type} {s:Nat}:∀ (rows:List (List α)),(∀ r ∈ rows,r.length=s)→rows.flatten.length=rows.length * s
 | [],_=>by simp
 | r :: rs,h=>by
  rw [List.flatten_cons,List.length_append,flat_len rs (fun r hr=>h r (List.mem_cons_of_mem _ hr)),h r List.mem_cons_self,List.length_cons,Nat.succ_mul,Nat.add_comm]
theorem put_seg (hH:Hold X st ρ a w) {id:Nat} {e:TypeId} {size:Nat} {z:Bool} {rows rows':List (List T)} (hb:get id st.bl=some (.arr e size z rows)) {b cap:Nat} (hid:ρ id=.lie b cap) {tvs:List T} {vs:List Value} (hv:RdL w (okOf X ρ w z) tvs vs) {off:Nat}
  (hle:off + vs.length≤rows.length * size) (hr:rows'.flatten=rows.flatten.take off++tvs++rows.flatten.drop (off + tvs.length)) (hs:∀ r ∈ rows',r.length=size) (hlen:rows'.length=rows.length) :
  ∃ cur:Array Value,w.heap[b]?=some (.cells cur e (0,0))∧off + vs.length≤cur.size∧∀ q v,RdV (w.setRow b (cur.toList.take off++vs++cur.toList.drop (off + vs.length)).toArray) (okOf X ρ (w.setRow b (cur.toList.take off++vs++cur.toList.drop (off + vs.length)).toArray)) ρ v q →
   Out X ρ w ρ (w.setRow b (cur.toList.take off++vs++cur.toList.drop (off + vs.length)).toArray) q (.mod v [id] [] [(id,.arr e size z rows')]):=by
 have hB:=hH.blocks _ _ hb
 unfold HasB at hB
 simp only [hid] at hB
 obtain ⟨xs,⟨hxl,hown⟩,hrd,hrs⟩:=hB
 rcases hown with ⟨h1,_⟩ | ⟨g,cap',cur,h1,h2,h3,h4,h5,h6,h7⟩
 ·cases h1
 ·cases h1
  have hcl:cur.toList.length=cap * size:=by rw [Array.length_toList];exact h6
  have hnc:rows.length * size≤cap * size:=Nat.mul_le_mul_right _ h4
  refine ⟨cur,h3,by omega,fun q v hq=>?_⟩
  have he:=evo_put (cs':=(cur.toList.take off++vs++cur.toList.drop (off + vs.length)).toArray) hH hid
  refine ⟨he,hq,fun id' B' hB'=>?_⟩
  obtain ⟨rfl,rfl⟩:=one_get hB'
  unfold HasB
  simp only [hid]
  have hseg:=take_seg cur.toList vs off (rows.length * size) hle (by omega)
  have htl:=hv.len
  refine ⟨xs.take off++vs++xs.drop (off + vs.length),⟨?_,.inr ⟨b,cap,_,?_,h2,setRow_heap w b cur _ e (0,0) h3,?_,h5,?_,?_⟩⟩,?_,hs⟩
  ·rw [← h7,← hseg,List.length_take,hlen]
   simp only [List.length_append,List.length_take,List.length_drop]
   omega
  ·rw [hlen]
  ·rw [hlen];exact h4
  ·rw [← h6]
   simp only [List.size_toArray,List.length_append,List.length_take,List.length_drop,Array.length_toList]
   omega
  ·rw [hlen,← h7,← hseg]
  ·rw [hr,← htl]
   refine he.rdL z ?_
   exact ((hrd.take off).append hv).append (hrd.drop _)
theorem bdI_sound (hH:Hold X st ρ a w) {d:Int} {o:Option Operand} {i:Int} (h:bdI st d o=some i):(o=none∧i=d) ∨ ∃ x k,o=some x∧a.eval x=.int k i:=by
 cases o with
 | none =>
  simp only [bdI,Option.some.injEq] at h
  exact .inl ⟨rfl,h.symm⟩
 | some x =>
  simp only [bdI] at h
  split at h
  ·rename_i z k i' hx
   injection h with h
   subst h
   have:=ev_sound hH hx
   unfold RdV RdC RdT at this
   exact .inr ⟨x,k,rfl,this.1⟩
  ·cases h
def bdV (v:Option Value) (d i:Int):Prop:=(v=none∧i=d) ∨ ∃ k,v=some (.int k i)
theorem bdI_v (hH:Hold X st ρ a w) {d:Int} {o:Option Operand} {i:Int} (h:bdI st d o=some i):bdV (o.map a.eval) d i:=by
 rcases bdI_sound hH h with ⟨rfl,rfl⟩ | ⟨x,k,rfl,hx⟩
 ·exact .inl ⟨rfl,rfl⟩
 ·exact .inr ⟨k,by rw [Option.map_some,hx]⟩
theorem cut_run {lo hi:Option Value} {l h:Int} {n cap:Nat} {A:Option Addr} {e:TypeId} {ye:Ty} (hu:P.underlying t=some (.slice e)) (hye:tyOf P e=some ye) (hl:bdV lo 0 l) (hh:bdV hi n h) (h0:0≤l) (h1:l≤h) (h2:h≤cap) :
  (Instr.sliceAt t (.slice A n cap) lo hi none).run P w=.ok (.slice (if cap=l.toNat then A else A.map (·.add (l.toNat * ye.size))) (h.toNat - l.toNat) (cap - l.toNat)) w:=by
 have hs:=ty_size hye w
 rcases hl with ⟨rfl,rfl⟩ | ⟨k1,rfl⟩ <;> rcases hh with ⟨rfl,rfl⟩ | ⟨k2,rfl⟩
 ·simp only [Instr.sliceAt,Instr.slice,Instr.sliceBounds,Sem.run_bind,run_underlying hu,Result.andThen_ok,Option.isSome_none,Bool.false_eq_true,if_false,Sem.run_pure,hs,Int.toNat_zero,Int.toNat_natCast]
 ·simp only [Instr.sliceAt,Instr.slice,Instr.sliceBounds,Sem.run_bind,run_underlying hu,Result.andThen_ok,Option.isSome_none,Bool.false_eq_true,if_false,if_true,Sem.run_pure,hs,Int.toNat_zero,bound_sound (P:=P) (w:=w) (k:=k2) (c:=.sliceAcap) (show 0≤h by omega) h2]
 ·simp only [Instr.sliceAt,Instr.slice,Instr.sliceBounds,Sem.run_bind,run_underlying hu,Result.andThen_ok,Option.isSome_none,Bool.false_eq_true,if_false,Sem.run_pure,hs,Int.toNat_natCast,bound_sound (P:=P) (w:=w) (k:=k1) (c:=.sliceB) h0 h1]
 ·simp only [Instr.sliceAt,Instr.slice,Instr.sliceBounds,Sem.run_bind,run_underlying hu,Result.andThen_ok,Option.isSome_none,Bool.false_eq_true,if_false,if_true,Sem.run_pure,hs,bound_sound (P:=P) (w:=w) (k:=k2) (c:=.sliceAcap) (show 0≤h by omega) h2,bound_sound (P:=P) (w:=w) (k:=k1) (c:=.sliceB) (m:=h.toNat) h0 (by omega)]
theorem cut3_run {lo:Option Value} {l h m:Int} {kh km:IntKind} {n cap:Nat} {A:Option Addr} {e:TypeId} {ye:Ty} (hu:P.underlying t=some (.slice e)) (hye:tyOf P e=some ye) (hl:bdV lo 0 l) (h0:0≤l) (h1:l≤h) (h2:h≤m) (h3:m≤cap) :
  (Instr.sliceAt t (.slice A n cap) lo (some (.int kh h)) (some (.int km m))).run P w=.ok (.slice (if m.toNat=l.toNat then A else A.map (·.add (l.toNat * ye.size))) (h.toNat - l.toNat) (m.toNat - l.toNat)) w:=by
 have hs:=ty_size hye w
 rcases hl with ⟨rfl,rfl⟩ | ⟨k1,rfl⟩
 ·simp only [Instr.sliceAt,Instr.slice,Instr.sliceBounds,Sem.run_bind,run_underlying hu,Result.andThen_ok,Option.isSome_some,if_true,Sem.run_pure,hs,Int.toNat_zero,bound_sound (P:=P) (w:=w) (k:=km) (c:=.slice3Acap) (show 0≤m by omega) h3,bound_sound (P:=P) (w:=w) (k:=kh) (c:=.slice3B) (m:=m.toNat) (show 0≤h by omega) (by omega)]
 ·simp only [Instr.sliceAt,Instr.slice,Instr.sliceBounds,Sem.run_bind,run_underlying hu,Result.andThen_ok,Option.isSome_some,if_true,Sem.run_pure,hs,bound_sound (P:=P) (w:=w) (k:=km) (c:=.slice3Acap) (show 0≤m by omega) h3,bound_sound (P:=P) (w:=w) (k:=kh) (c:=.slice3B) (m:=m.toNat) (show 0≤h by omega) (by omega),bound_sound (P:=P) (w:=w) (k:=k1) (c:=.slice3C) (m:=h.toNat) h0 (by omega)]
theorem cutOwn_runs {o:Oper} {v:V} (h:cutOwn P st o.op=some v):Runs P X st o (.pure v):=by
 intro hdo ρ a w hH;clear hdo
 obtain ⟨dst,op,type,pos,after,guard⟩:=o
 simp only at h
 unfold cutOwn at h
 split at h
 ·rename_i t x lo hi mx
  split at h
  ·rename_i id n hx
   split at h
   ·rename_i e0 s z rows hb
    split at h
    ·rename_i y hy
     split at h
     ·rename_i e hd
      split at h
      ·rename_i ye hye
       split at h
       ·rename_i l hl
        split at h
        ·rename_i hh' hhi
         have hu:=ty_sl hy hd
         have hlv:=bdI_v hH hl
         have hhv:=bdI_v hH hhi
         have hxv:=ev_sound hH hx
         unfold RdV RdC at hxv
         have hB:=hH.blocks _ _ hb
         unfold HasB at hB
         split at h
         ·split at h
          ·rename_i hc
           obtain ⟨c1,c2,c3,c4⟩:=hc
           cases hid:ρ id with
           | dead=>simp [hid] at hxv
           | nil =>
            simp only [hid] at hxv hB
            subst hB
            obtain ⟨rfl,A,hA⟩:=hxv
            simp only [List.length_nil] at c4
            have hl0:l=0:=by omega
            have hh0:hh'=0:=by omega
            subst hl0;subst hh0
            rw [if_pos rfl] at h
            injection h with h
            subst h
            have hrun:=cut_run (w:=w) (A:=A) (cap:=0) hu hye hlv hhv (Int.le_refl _) (Int.le_refl _) (by omega)
            refine ⟨.slice A 0 0,ρ,w,.inl (by simp [execOp,hA,hrun]),rfl,rfl,?_⟩
            unfold RdV RdC
            simp only [hid]
            exact ⟨rfl,_,rfl⟩
           | lie b cap =>
            simp only [hid] at hxv hB
            obtain ⟨xs,g1,g2,g3⟩:=hB
            obtain ⟨_,hcap,_⟩:=own_cells g1
            have hrun:=cut_run (w:=w) (A:=some ⟨b,0,none⟩) hu hye hlv hhv c2 c3 (by omega:hh'≤(cap:Int))
            refine ⟨.slice (if cap=l.toNat then some ⟨b,0,none⟩ else (some ⟨b,0,none⟩:Option Addr).map (·.add (l.toNat * ye.size))) (hh'.toNat - l.toNat) (cap - l.toNat),ρ,w,.inl (by simp [execOp,hxv,hrun]),rfl,rfl,?_⟩
            split at h
            ·rename_i hl0
             injection h with h
             subst h;subst hl0
             unfold RdV RdC
             simp only [hid,Int.toNat_zero,Nat.zero_mul,Nat.sub_zero]
             split
             ·rfl
             ·simp [addAt]
            ·injection h with h
             subst h;subst c1
             unfold RdV RdC
             simp only [hid]
             have hlen:(hh' - l).toNat=hh'.toNat - l.toNat:=by omega
             rw [hlen]
             by_cases hcl:cap=l.toNat
             ·rw [if_pos hcl]
              exact ⟨0,rfl,.inl (by omega)⟩
             ·rw [if_neg hcl]
              exact ⟨l.toNat * ye.size,by simp [addAt],.inr rfl⟩
          ·cases h
         ·rename_i mo
          split at h
          ·rename_i m hm
           split at h
           ·rename_i ho
            split at h
            ·rename_i hc
             obtain ⟨c2,c3,c4,c5⟩:=hc
             injection h with h
             subst h
             obtain ⟨km,hkm⟩:∃ km,(some mo:Option Operand).map a.eval=some (.int km m):=by
              rcases bdI_v hH hm with ⟨h1,_⟩ | h1
              ·cases h1
              ·exact h1
             obtain ⟨kh,hkh⟩:∃ kh,(some ho:Option Operand).map a.eval=some (.int kh hh'):=by
              rcases hhv with ⟨h1,_⟩ | h1
              ·cases h1
              ·exact h1
             simp only [Option.map_some,Option.some.injEq] at hkm hkh
             obtain ⟨A,cap,hA,hcap⟩:∃ A cap,a.eval x=.slice A n cap∧rows.length≤cap:=by
              cases hid:ρ id with
              | dead=>simp [hid] at hxv
              | nil =>
               simp only [hid] at hxv hB
               subst hB
               obtain ⟨rfl,A,hA⟩:=hxv
               exact ⟨A,0,hA,Nat.le_refl _⟩
              | lie b cap =>
               simp only [hid] at hxv hB
               obtain ⟨xs,g1,g2,g3⟩:=hB
               exact ⟨_,cap,hxv,(own_cells g1).2.1⟩
             have hrun:=cut3_run (w:=w) (A:=A) (n:=n) (kh:=kh) (km:=km) (cap:=cap) hu hye hlv c2 c3 c4 (by omega)
             refine ⟨.slice (if m.toNat=l.toNat then A else A.map (·.add (l.toNat * ye.size))) (hh'.toNat - l.toNat) (m.toNat - l.toNat),ρ,w,.inl (by simp [execOp,hA,hkm,hkh,hrun]),rfl,rfl,?_⟩
             unfold RdV RdC
             rfl
            ·cases h
           ·cases h
          ·cases h
        ·cases h
       ·cases h
      ·cases h
     ·cases h
    ·cases h
   ·cases h
  ·cases h
 ·cases h
theorem seg_cells {b size n cap:Nat} {e:TypeId} {xs:List Value} (h:w.ownsRow 0 e size (.slice (some ⟨b,0,none⟩) n cap) n xs) (off len:Nat):∀ j u,((xs.drop off).take len)[j]?=some u→w.cell? ((⟨b,off,none⟩:Addr).add j)=some u:=fun j u hu=>by
 rw [addAt]
 refine (own_cells h).2.2 (off + j) u ?_
 rw [List.getElem?_take] at hu
 split at hu
 ·rw [List.getElem?_drop] at hu;exact hu
 ·cases hu
theorem appOwn_runs {o:Oper} {D:Delta} (h:appOwn P st o.op=some D):Runs P X st o D:=by
 intro hdo ρ a w hH;clear hdo
 obtain ⟨dst,op,type,pos,after,guard⟩:=o
 simp only at h
 unfold appOwn at h
 split at h
 ·rename_i x1 x2 t t'
  split at h
  ·rename_i id i hx1
   split at h
   ·rename_i id2 s j m hx2
    split at h
    ·rename_i e size z rows hb
     split at h
     ·rename_i y hy
      split at h
      ·rename_i e1 hd
       split at h
       ·rename_i ye hye
        split at h
        ·rename_i y' hy'
         split at h
         ·rename_i e2 hd'
          split at h
          ·rename_i hc
           obtain ⟨rfl,rfl,c1',c2,c3,c4⟩:=hc
           injection h with h
           subst h
           have hu:=ty_sl hy hd
           have hu':=ty_sl hy' hd'
           have hv1:=ev_sound hH hx1
           have hv2:=ev_sound hH hx2
           unfold RdV RdC at hv1 hv2
           have hB:=hH.blocks _ _ hb
           unfold HasB at hB
           cases hid:ρ id2 with
           | dead=>simp [hid] at hv1
           | nil =>
            simp only [hid] at hB
            subst hB
            simp at c4
           | lie b cap =>
            simp only [hid] at hv1 hv2 hB
            obtain ⟨o2,hv2,ho2⟩:=hv2
            obtain ⟨xs,g1,g2,g3⟩:=hB
            have hxl:xs.length=rows.length * s:=g1.1
            obtain ⟨_,hcap,_⟩:=own_cells g1
            have hms:j * s + m * s≤rows.length * s:=by rw [← Nat.add_mul];exact Nat.mul_le_mul_right _ c3
            have his:i * s + m * s≤rows.length * s:=by rw [← Nat.add_mul];exact Nat.mul_le_mul_right _ c2
            have hvl:((xs.drop (j * s)).take (m * s)).length=m * s:=by rw [List.length_take,List.length_drop];omega
            have hft:=flat_len rows g3
            have hrd:RdL w (okOf X ρ w z) ((rows.flatten.drop (j * s)).take (m * s)) ((xs.drop (j * s)).take (m * s)):=(g2.drop _).take _
            have htl:((rows.flatten.drop (j * s)).take (m * s)).length=m * s:=by rw [List.length_take,List.length_drop];omega
            have hone:∀ v ∈ (xs.drop (j * s)).take (m * s),v.oneCell'=true:=fun v hv=>List.all_eq_true.1 hrd.one v hv
            obtain ⟨cur,k1,k2,k3⟩:=put_seg hH hb hid (rows':=rows.take i++(rows.drop j).take m++rows.drop (i + m)) hrd (off:=i * s) (by rw [hvl];exact his)
             (by
              rw [List.flatten_append,List.flatten_append,flat_take rows i g3,flat_drop rows (i + m) g3,flat_take (rows.drop j) m (fun r hr=>g3 r (List.mem_of_mem_drop hr)),flat_drop rows j g3,htl,Nat.add_mul])
             (fun r hr=>by
              rcases List.mem_append.1 hr with hr | hr
              ·rcases List.mem_append.1 hr with hr | hr
               ·exact g3 r (List.mem_of_mem_take hr)
               ·exact g3 r (List.mem_of_mem_drop (List.mem_of_mem_take hr))
              ·exact g3 r (List.mem_of_mem_drop hr))
             (by simp only [List.length_append,List.length_take,List.length_drop];omega)
            refine ⟨.slice (some ⟨b,0,none⟩) (i + m) cap,ρ,_,.inl ?_,k3 _ _ ?_⟩
            ·have hload:(Builtin.firstCells s m (.slice (some ⟨b,o2,none⟩) m (cap - j))).run P w=.ok ((xs.drop (j * s)).take (m * s)).toArray w:=by
              refine run_firstCells_some w s m ⟨b,o2,none⟩ m (cap - j) _ hvl fun q u hq=>?_
              rcases ho2 with hm0 | ho2
              ·subst hm0
               simp at hq
              ·subst ho2
               exact seg_cells g1 (j * s) (m * s) q u hq
             have hstore:=run_storeCells_at (P:=P) b (i * s) e ((xs.drop (j * s)).take (m * s)) 0 cur w k1 (by rw [Nat.add_zero];exact k2) hone
             rw [Nat.add_zero] at hstore
             have hsz:=ty_size hye w
             rw [c1'] at hsz
             have hneed:i + m≤cap:=by omega
             have hrun:(Builtin.append_ #[t,t'] type #[.slice (some ⟨b,0,none⟩) i cap,.slice (some ⟨b,o2,none⟩) m (cap - j)]).run P w=.ok (.slice (some ⟨b,0,none⟩) (i + m) cap) (w.setRow b (cur.toList.take (i * s)++(xs.drop (j * s)).take (m * s)++cur.toList.drop (i * s + ((xs.drop (j * s)).take (m * s)).length)).toArray):=by
              simp only [Builtin.append_,List.getElem?_toArray,List.getElem?_cons_zero,List.getElem?_cons_succ,Sem.run_bind,run_underlying hu,run_underlying hu',Result.andThen_ok,hsz,Sem.run_pure,Builtin.lenOf,hneed,if_true,Bool.false_eq_true,if_false,Bool.not_false,hload,addAt,Nat.zero_add,hstore]
             simp [execOp,resolve,invoke,builtin,hv1,hv2,hrun]
            ·unfold RdV RdC
             simp only [hid]
          ·cases h
         ·cases h
        ·cases h
       ·cases h
      ·cases h
     ·cases h
    ·cases h
   ·cases h
  ·cases h
 ·cases h
theorem rep_at {α:Type} (l:List α):∀ (n k:Nat),k < n * l.length→(List.replicate n l).flatten[k]?=l[k % l.length]?
 | 0,k,h=>by simp at h
 | n + 1,k,h=>by
  rw [List.replicate_succ,List.flatten_cons]
  by_cases hk:k < l.length
  ·rw [List.getElem?_append_left hk,Nat.mod_eq_of_lt hk]
  ·rw [List.getElem?_append_right (by omega),rep_at l n (k - l.length) (by rw [Nat.succ_mul] at h;omega),Nat.mod_eq_sub_mod (by omega:k ≥ l.length)]
theorem zero_rep (zs:Array Value) (n:Nat):(Builtin.zeroCells zs n).toList=(List.replicate n zs.toList).flatten:=by
 have hlen:(List.replicate n zs.toList).flatten.length=n * zs.size:=by
  rw [List.length_flatten,List.map_replicate,List.sum_replicate_nat,Array.length_toList]
 apply List.ext_getElem?
 intro k
 unfold Builtin.zeroCells
 rw [Array.getElem?_toList,Array.getElem?_map]
 by_cases hk:k < n * zs.size
 ·have hpos:0 < zs.size:=by
   rcases Nat.eq_zero_or_pos zs.size with h | h
   ·rw [h] at hk;omega
   ·exact h
  rw [rep_at zs.toList n k (by simpa using hk)]
  have hm:k % zs.size < zs.size:=Nat.mod_lt _ hpos
  simp [hk,hm]
 ·rw [List.getElem?_eq_none (by omega)]
  simp
  omega
theorem rd_zlits (z:Bool):∀ {l:List Value},l.all (fun u=>u.oneCell')=true→RdL w (okOf X ρ w z) (l.map T.lit) l
 | [],_=>by unfold RdL;trivial
 | u :: l,h=>by
  simp only [List.all_cons,Bool.and_eq_true] at h
  rw [List.map_cons]
  unfold RdL
  refine ⟨?_,rd_zlits z h.2⟩
  unfold RdT
  exact ⟨rfl,h.1⟩
theorem rd_zreps (z:Bool) {l:List Value} (h:l.all (fun u=>u.oneCell')=true):∀ n:Nat,RdL w (okOf X ρ w z) (List.replicate n (l.map T.lit)).flatten (List.replicate n l).flatten
 | 0=>by unfold RdL;trivial
 | n + 1=>by
  rw [List.replicate_succ,List.replicate_succ,List.flatten_cons,List.flatten_cons]
  exact (rd_zlits z h).append (rd_zreps z h n)
theorem clearOwn_runs {o:Oper} {D:Delta} (h:clearOwn P st o.op=some D):Runs P X st o D:=by
 intro hdo ρ a w hH;clear hdo
 obtain ⟨dst,op,type,pos,after,guard⟩:=o
 simp only at h
 unfold clearOwn at h
 split at h
 ·rename_i x t
  split at h
  ·rename_i id s lo len hx
   split at h
   ·rename_i e size z rows hb
    split at h
    ·rename_i y hy
     split at h
     ·rename_i e1 hd
      split at h
      ·rename_i ye hye
       split at h
       ·rename_i hc
        obtain ⟨rfl,c1,c2,c3,c4⟩:=hc
        injection h with h
        subst h
        have hu:=ty_sl hy hd
        have hv:=ev_sound hH hx
        unfold RdV RdC at hv
        have hB:=hH.blocks _ _ hb
        unfold HasB at hB
        cases hid:ρ id with
        | dead=>simp [hid] at hv
        | nil =>
         simp only [hid] at hv
         omega
        | lie b cap =>
         simp only [hid] at hv hB
         obtain ⟨o2,hv,ho2⟩:=hv
         have ho2:o2=lo * s:=by omega
         subst ho2
         obtain ⟨xs,g1,g2,g3⟩:=hB
         have hls:lo * s + len * s≤rows.length * s:=by rw [← Nat.add_mul];exact Nat.mul_le_mul_right _ c2
         have hrd:=rd_zreps (w:=w) (X:=X) (ρ:=ρ) z c4 len
         have hvl:(List.replicate len ye.zero.cells.toList).flatten.length=len * s:=by
          rw [List.length_flatten,List.map_replicate,List.sum_replicate_nat,c1]
         have htl:=hrd.len
         have hone:∀ v ∈ (List.replicate len ye.zero.cells.toList).flatten,v.oneCell'=true:=fun v hv=>List.all_eq_true.1 hrd.one v hv
         obtain ⟨cur,k1,k2,k3⟩:=put_seg hH hb hid (rows':=rows.take lo++List.replicate len (ye.zero.cells.toList.map T.lit)++rows.drop (lo + len)) hrd (off:=lo * s) (by rw [hvl];exact hls)
          (by rw [List.flatten_append,List.flatten_append,flat_take rows lo g3,flat_drop rows (lo + len) g3,← htl,hvl,Nat.add_mul])
          (fun r hr=>by
           rcases List.mem_append.1 hr with hr | hr
           ·rcases List.mem_append.1 hr with hr | hr
            ·exact g3 r (List.mem_of_mem_take hr)
            ·rw [(List.mem_replicate.1 hr).2,List.length_map,c1]
           ·exact g3 r (List.mem_of_mem_drop hr))
          (by simp only [List.length_append,List.length_take,List.length_drop,List.length_replicate];omega)
         refine ⟨.tuple #[],ρ,_,.inl ?_,k3 _ _ ?_⟩
         ·have hstore:=run_storeCells_at (P:=P) b (lo * s) e ((List.replicate len ye.zero.cells.toList).flatten) 0 cur w k1 (by rw [Nat.add_zero];exact k2) hone
          rw [Nat.add_zero] at hstore
          have hz:=ty_zero hye w
          have hzr:=zero_rep ye.zero.cells len
          obtain ⟨len',rfl⟩:∃ l,len=l + 1:=⟨len - 1,by omega⟩
          have hrun:(Builtin.clear_ #[t] type #[.slice (some ⟨b,lo * s,none⟩) (len' + 1) (cap - lo)]).run P w=.ok (.tuple #[]) (w.setRow b (cur.toList.take (lo * s)++(List.replicate (len' + 1) ye.zero.cells.toList).flatten++cur.toList.drop (lo * s + ((List.replicate (len' + 1) ye.zero.cells.toList).flatten).length)).toArray):=by
           simp only [Builtin.clear_,List.getElem?_toArray,List.getElem?_cons_zero,Sem.run_bind,run_underlying hu,Result.andThen_ok,hz,Sem.run_pure,hzr,hstore]
          simp [execOp,resolve,invoke,builtin,hv,hrun]
         ·unfold RdV
          exact ⟨#[],rfl,by unfold RdVs;trivial⟩
       ·cases h
      ·cases h
     ·cases h
    ·cases h
   ·cases h
  ·cases h
 ·cases h
end
end Go.Proofs.YtjdgejfhnfnmgaaGreatDoor.Ax
