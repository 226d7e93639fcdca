/-  -/
import Derived.Test.YtjdgejfhnfnmgaaGreatDoorP0
import Derived.Laws.AppendOwnNone
import Derived.WalkKit
import Derived.BigQuiet
import Derived.Handy
import Derived.Deep.QuietTactic
import Derived.Deep.LoopGhost
import Derived.Deep.RegionHeld3
import Derived.Deep.AppendLies
import Derived.Lib.LaidTab
import Derived.Lib.ItoaNum
import Derived.KernelRfl
namespace Go.Proofs.YtjdgejfhnfnmgaaGreatDoor
open Go.RowKit
section
variable {P:Program} {w0:World} {ops:Array Oper} {rest:List Oper} {o:Oper} {a:Act} {Q:Exit→Act→World→Prop}
end
theorem RepAll.left {α:Type} {ρ:Rep α} {w0 w':World} {L B base:Nat} {v:Value} {l:List α} {cs:List Value} (h:RepAll ρ w0 L B l cs) (hL:Left w0 w' base v) (hB:B≤base):RepAll ρ w' L B l cs :=
 h.keep fun _ _ hp=>hL.below.cell (Nat.lt_of_lt_of_le hp hB)
theorem RepAll.row {α:Type} {ρ:Rep α} {w:World} {L B base:Nat} {e:TypeId} {v:Value} {l:List α} {cs:List Value} (h:RepAll ρ w L B l cs) (hown:w.ownsRow base e ρ.size v l.length cs) (hL:L≤base) (hB:B≤w.heap.size) (hs:0 < ρ.size):∃ A c,v=.slice A l.length c∧ρ.row w L w.heap.size A l.length l∧l.length≤maxLen∧l.length≤c :=
 Rep.row.of_own hown (h.more (Nat.le_refl _) hB) hL hs
end Go.Proofs.YtjdgejfhnfnmgaaGreatDoor
namespace Go.Proofs.YtjdgejfhnfnmgaaGreatDoor
open Go.RowKit
section
variable {P:Program} {f:FuncId} {args:Array Value} {w:World} {a n:Nat} {v:Value}
end
def Enters (P:Program) (G:FuncId):Prop:=∀ (args:Array Value) (w:World),(callFunc G args).run P w=.ok (.enter G args) w
theorem enters_of {P : Program} {f : FuncId} {fn : Func} (hf : P.funcs[f]? = some fn) (hname : (fn.name == "runtime.NumGoroutine") = false) (hb' : fn.body.isSome = true) : Enters P f := fun args w => by
 obtain ⟨c,hb⟩:=Option.isSome_iff_exists.1 hb'
 have h1 : fn.name ≠ "runtime.NumGoroutine" := by simpa using hname
 simp [callFunc,hf,h1,hb]
end Go.Proofs.YtjdgejfhnfnmgaaGreatDoor
namespace Go.Proofs.YtjdgejfhnfnmgaaGreatDoor
open Go.RowKit
theorem own_low {w:World} {base base':Nat} {e:TypeId} {size n:Nat} {v:Value} {xs:List Value} (h:w.ownsRow base e size v n xs) (hb:base'≤base):w.ownsRow base' e size v n xs:=by
 refine ⟨h.1,h.2.imp id ?_⟩
 rintro ⟨g,cap,cur,h1,h2,h3⟩
 exact ⟨g,cap,cur,h1,by omega,h3⟩
theorem Blk.call {w w':World} {g:Nat} {t:TypeId} {cs:Array Value} (h:Blk w g t cs) (hb:Below w.heap.size w w'):Blk w' g t cs:=h.below hb h.lt
theorem Blk.left {w w':World} {g base:Nat} {t:TypeId} {cs:Array Value} {v:Value} (h:Blk w g t cs) (hL:Left w w' base v) (hg:g < base):Blk w' g t cs:=h.below hL.below hg
section
variable {P:Program} {w:World} {ops:Array Oper} {o:Oper} {a:Act} {K:Act→World→Prop} {Q:Exit→Act→World→Prop} {E:Prop}
end
theorem Held2.below {w W W':World} {g m:Nat} {x y:Value} (h:Below w.heap.size w W∧m≤W.heap.size∧W.cell? ⟨g,0,none⟩=some x∧W.cell? ⟨g,1,none⟩=some y) (hg:w.heap.size≤m) (hgm:g < m) (hb:Below m W W') :
  Below w.heap.size w W'∧m≤W'.heap.size∧W'.cell? ⟨g,0,none⟩=some x∧W'.cell? ⟨g,1,none⟩=some y :=
 ⟨h.1.trans (hb.mono hg),Nat.le_trans h.2.1 hb.size,(hb.cell (p:=⟨g,0,none⟩) hgm).trans h.2.2.1,(hb.cell (p:=⟨g,1,none⟩) hgm).trans h.2.2.2⟩
theorem Held2.call {w W W':World} {g m:Nat} {x y:Value} (h:Below w.heap.size w W∧m≤W.heap.size∧W.cell? ⟨g,0,none⟩=some x∧W.cell? ⟨g,1,none⟩=some y) (hg:w.heap.size≤m) (hgm:g < m) (hb:Below W.heap.size W W') :
  Below w.heap.size w W'∧m≤W'.heap.size∧W'.cell? ⟨g,0,none⟩=some x∧W'.cell? ⟨g,1,none⟩=some y:=Held2.below h hg hgm (hb.mono h.2.1)
theorem Held2.alloc {w W:World} {g m:Nat} {x y:Value} (h:Below w.heap.size w W∧m≤W.heap.size∧W.cell? ⟨g,0,none⟩=some x∧W.cell? ⟨g,1,none⟩=some y) (hg:w.heap.size≤m) (hgm:g < m) (o:Obj) :
  Below w.heap.size w (W.alloc o)∧m≤(W.alloc o).heap.size∧(W.alloc o).cell? ⟨g,0,none⟩=some x∧(W.alloc o).cell? ⟨g,1,none⟩=some y:=Held2.call h hg hgm (below_two o)
theorem Held2.put {w W:World} {g m:Nat} {x y u:Value} {p:Addr} (h:Below w.heap.size w W∧m≤W.heap.size∧W.cell? ⟨g,0,none⟩=some x∧W.cell? ⟨g,1,none⟩=some y) (hp:p.block ≠ g) (hpw:w.heap.size≤p.block) :
  Below w.heap.size w (W.setCell p u)∧m≤(W.setCell p u).heap.size∧(W.setCell p u).cell? ⟨g,0,none⟩=some x∧(W.setCell p u).cell? ⟨g,1,none⟩=some y :=
 ⟨h.1.setCell hpw u,by simpa [World.setCell] using h.2.1,(World.cell?_setCell_far _ _ _ _ hp).trans h.2.2.1,(World.cell?_setCell_far _ _ _ _ hp).trans h.2.2.2⟩
end Go.Proofs.YtjdgejfhnfnmgaaGreatDoor
namespace Go.Proofs.YtjdgejfhnfnmgaaGreatDoor
open Go.RowKit
theorem Left.refl (w:World) (base:Nat) (v:Value):Left w w base v:=⟨Below.refl _ _,fun _ _ _=>rfl,fun _ _ _=>rfl,fun _ _ _=>rfl⟩
theorem run_append_none_c {P:Program} {w:World} (base:Nat) (t ty e:TypeId) (i:TypeInfo) (size:Nat) (ht:P.underlying t=some (.slice e)) (hi:P.info? e=some i)
  (v:Value) (n:Nat) (xs:List Value) (c:Nat) (hown:w.ownsRow base e size v n xs) :
  (Builtin.append_ #[t,t] ty #[v,.slice none 0 c]).run P w=.ok v w:=by
 rcases hown.2 with ⟨rfl,rfl⟩ | ⟨g,cap,cur,rfl,_,_,hnc,_⟩
 ·simp [Builtin.append_,run_underlying ht,sizeOf,typeInfo,hi,Builtin.lenOf,Builtin.firstCells]
 ·simp [Builtin.append_,run_underlying ht,sizeOf,typeInfo,hi,Builtin.lenOf,Builtin.firstCells,hnc,storeCells]
theorem run_app_any {P:Program} {w:World} {t e:TypeId} {z:Value} {size bytes:Nat} (E:ElT P t e z size bytes) (ty:TypeId) {base:Nat} {v:Value} {n:Nat} {xs:List Value} (hown:w.ownsRow base e size v n xs)
  {ao:Option Addr} {m c:Nat} {cs:List Value} (hnone:ao=none→m=0) (hc:∀ ad,ao=some ad→∀ j u,cs[j]?=some u→w.cell? (ad.add j)=some u) (hl:cs.length=m * size) (h1:(cs.all fun u=>u.oneCell')=true)
  (h63:n + m≤maxLen) (hbytes:(n + m) * bytes≤140737488355328) (hbase:base≤w.heap.size) :
  ∃ v' w',(Builtin.append_ #[t,t] ty #[v,.slice ao m c]).run P w=.ok v' w'∧w'.ownsRow base e size v' (n + m) (xs++cs)∧Left w w' base v∧(v'.ownBlock=v.ownBlock ∨ v'.ownBlock=some w.heap.size):=by
 obtain ⟨i,hi,hz,hz1,hz2⟩:=E.hi
 cases ao with
 | none =>
  obtain rfl:=hnone rfl
  obtain rfl:cs=[]:=List.eq_nil_of_length_eq_zero (by simpa using hl)
  exact ⟨v,w,run_append_none_c base t ty e i size E.ht hi v n xs c hown,by simpa using hown,Left.refl _ _ _,.inl rfl⟩
 | some ad =>
  obtain ⟨v',w',h2,h3,h4,_,h5⟩:=run_append_own_at (P:=P) w base t ty e i z size bytes E.ht hi hz hz1 hz2 E.hzs E.hsz v n xs hown ad m c cs hl (hc ad rfl) (List.all_eq_true.1 h1) h63 hbytes hbase
  exact ⟨v',w',h2,h3,left_of hown hbase (fun row=>World.grownBy.refl _ _) h4,h5⟩
section
variable {P:Program} {w:World} {ops:Array Oper} {o:Oper} {a:Act} {K:Act→World→Prop} {Q:Exit→Act→World→Prop} {EE:Prop}
end
end Go.Proofs.YtjdgejfhnfnmgaaGreatDoor
namespace Go.Proofs.YtjdgejfhnfnmgaaGreatDoor.Ax
open Go.RowKit
def NG:Nat:=1 + 1
structure GW (w:World):Prop where
 size:NG≤w.heap.size
 tab : Lib.TabIs Tryz.prog w "internal/strconv.uint64pow10" .u64 Lib.pow10Tab
theorem gw_ng {w:World} (h:GW w):NG≤w.heap.size:=h.size
theorem var_keep {w w':World} {name:String} {cs:Array Value} (hk:∀ b,b < NG→w'.heap[b]?=w.heap[b]?) (hn:∀ g,Tryz.prog.globalNamed name=some g→g < NG) (h:w.var? Tryz.prog name=some cs):w'.var? Tryz.prog name=some cs:=by
 unfold World.var? at h ⊢
 cases hg:Tryz.prog.globalNamed name with
 | none=>rw [hg] at h;cases h
 | some g =>
  rw [hg] at h
  simp only [Option.bind_some] at h ⊢
  rw [hk g (hn g hg)]
  exact h
theorem named_lt {name:String} {g0:Nat} (h0:Tryz.prog.globalNamed name=some g0) (hl:g0 < NG):∀ g,Tryz.prog.globalNamed name=some g→g < NG:=fun g h=>by
 rw [h0] at h
 injection h with h
 exact h ▸ hl
theorem named1 : ∀ g, Tryz.prog.globalNamed "internal/strconv.uint64pow10" = some g → g < NG := named_lt (g0 := 1) (by kernel_rfl) (by decide)
theorem gw_keep {w w':World} (h:GW w) (hs:w.heap.size≤w'.heap.size) (hk:∀ b,b < NG→w'.heap[b]?=w.heap[b]?):GW w' :=
 ⟨Nat.le_trans h.size hs,var_keep hk named1 h.tab⟩
end Go.Proofs.YtjdgejfhnfnmgaaGreatDoor.Ax
