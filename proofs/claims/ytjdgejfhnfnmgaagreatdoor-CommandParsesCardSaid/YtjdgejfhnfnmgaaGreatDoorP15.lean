/-  -/
import Derived.Test.YtjdgejfhnfnmgaaGreatDoorP14
import Derived.Test.YtjdgejfhnfnmgaaGreatDoorPxShelf
import Derived.Lib.IndexLaws
namespace Go.Proofs.YtjdgejfhnfnmgaaGreatDoor
open Go.RowKit
def TokenPost (s:ByteArray) (p g:Nat) (r:Nat × Nat × Nat) (w:World) (e:Ending) (w':World):Prop :=
 ∃ (t:Tk) (j:Nat),e=.returned (.tuple #[t.val,.int .i64 r.2.2])∧j≤s.size∧Blk w' g 80 #[.string s,.int .i64 j]∧w.grownBy w' (some g)∧t.at_=p ∧
  (r.2.2=0→t=⟨r.1,p,s.extract p (p + r.2.1)⟩∧j=p + r.2.1)
theorem fresh_two (w:World) (o:Obj) (t:TypeId) (cs:Array Value):Blk ((w.alloc o).alloc (.cells cs t)) (w.heap.size + 1) t cs:=by
 have h:=Blk.fresh (w.alloc o) t cs
 rwa [World.size_alloc] at h
set_option maxHeartbeats 4000000 in
theorem token_word (s:ByteArray) (p g:Nat) (w:World) (hp:p < s.size) (hs:s.size≤2000) (hg:Blk w g 80 #[.string s,.int .i64 p]) (hx:letterB s[p]=true) :
  Calls Tryz.prog 53 #[.pointer (some ⟨g,0,none⟩)] w (TokenPost s p g (tokL s[p] (s.data.toList.drop (p + 1))) w):=by
 have HL:=Lib.hid (fun W=>letter_any s[p] W)
 rw [hx] at HL
 have hN:=runN_le wordB (s.data.toList.drop (p + 1))
 rw [List.length_drop,Array.length_toList,show s.data.size=s.size from rfl] at hN
 have hN':runN wordB (s.data.toList.drop p)=runN wordB (s.data.toList.drop (p + 1)) + 1:=by rw [drop_at s p hp,runN,if_pos (by simp [wordB,hx])]
 have HT:=Lib.hid (show tokL s[p] (s.data.toList.drop (p + 1))=(1,runN wordB (s.data.toList.drop (p + 1)) + 1,if 12 < runN wordB (s.data.toList.drop (p + 1)) + 1 then 2 else 0) by rw [tokL,if_pos hx])
 have HW:=Lib.hid (fun W=>run_word s p g W (by omega) (by omega))
 rw [hN'] at HW
 generalize runN wordB (s.data.toList.drop (p + 1))=n at *
 obtain ⟨X,hX⟩:∃ X,X=s.extract p (p + (n + 1)):=⟨_,rfl⟩
 have hX1:X.size=n + 1:=by rw [hX,ByteArray.size_extract];omega
 have hX2:X.size≤n + 1:=by omega
 have hX3:n + 1≤X.size:=by omega
 rw [← hX] at HW
 have HX:=Lib.hid hX
 clear hx hN' hX hX1
 obtain ⟨c0,c1,f0,f1,hgl⟩:=hg.two
 obtain ⟨r,hr⟩:∃ r,r=w.heap.size:=⟨_,rfl⟩
 have hr1:w.heap.size≤r:=by omega
 have hr2:r≤w.heap.size:=by omega
 have hgr:g < r:=by omega
 go_enter Tryz.func53,Tryz.ntmps53
 go_wp2_with fail
 go_quiet (fail)
 have hG:Blk (((w.alloc (.cells #[.int .i64 0,.int .i64 0,.string ⟨#[]⟩] 77)).alloc (.cells #[.int .i64 4,.int .i64 p,.string ⟨#[]⟩] 77)).drewN nq) g 80 #[.string s,.int .i64 p]:=(hg.alloc (.cells #[.int .i64 0,.int .i64 0,.string ⟨#[]⟩] 77)).alloc (.cells #[.int .i64 4,.int .i64 p,.string ⟨#[]⟩] 77)
 have hR:Blk (((w.alloc (.cells #[.int .i64 0,.int .i64 0,.string ⟨#[]⟩] 77)).alloc (.cells #[.int .i64 4,.int .i64 p,.string ⟨#[]⟩] 77)).drewN nq) w.heap.size 77 #[.int .i64 0,.int .i64 0,.string ⟨#[]⟩]:=(Blk.fresh w 77 #[.int .i64 0,.int .i64 0,.string ⟨#[]⟩]).alloc (.cells #[.int .i64 4,.int .i64 p,.string ⟨#[]⟩] 77)
 have hB:Blk (((w.alloc (.cells #[.int .i64 0,.int .i64 0,.string ⟨#[]⟩] 77)).alloc (.cells #[.int .i64 4,.int .i64 p,.string ⟨#[]⟩] 77)).drewN nq) (w.heap.size + 1) 77 #[.int .i64 4,.int .i64 p,.string ⟨#[]⟩]:=fresh_two w (.cells #[.int .i64 0,.int .i64 0,.string ⟨#[]⟩] 77) 77 #[.int .i64 4,.int .i64 p,.string ⟨#[]⟩]
 have ht:w.grownBy (((w.alloc (.cells #[.int .i64 0,.int .i64 0,.string ⟨#[]⟩] 77)).alloc (.cells #[.int .i64 4,.int .i64 p,.string ⟨#[]⟩] 77)).drewN nq) (some g):=turn_drewN (turn_alloc (turn_alloc (World.grownBy.refl w (some g)) (.cells #[.int .i64 0,.int .i64 0,.string ⟨#[]⟩] 77)) (.cells #[.int .i64 4,.int .i64 p,.string ⟨#[]⟩] 77)) nq
 generalize ((w.alloc (.cells #[.int .i64 0,.int .i64 0,.string ⟨#[]⟩] 77)).alloc (.cells #[.int .i64 4,.int .i64 p,.string ⟨#[]⟩] 77)).drewN nq=W at *
 rw [← hr] at hR hB ⊢
 clear hr c0 c1 f0 f1 hgl
 obtain ⟨c0,c1,f0,f1,hgl⟩:=hG.two
 obtain ⟨t0,t1,t2,q0,q1,q2,hbl⟩:=hB.three
 obtain ⟨r0,r1,r2,z0,z1,z2,hrl⟩:=hR.three
 go_wp2_with fail
 refine (HL.out _).mono ?_
 rintro e w1 ⟨rfl,rfl⟩
 go_wp2_with fail
 refine (HW.out _ (hG.far (by simp;omega) _)).mono ?_
 rintro e w2 ⟨rfl,hG2,ht2⟩
 have hB2:=(hB.put 0 (.int .i64 1)).turn ht2 (by omega)
 have hR2:=(hR.far (p:=⟨r + 1,0,none⟩) (by simp) (.int .i64 1)).turn ht2 (by omega)
 have ht2:=(turn_set ht (p:=⟨r + 1,0,none⟩) (.inr (by simp;omega)) (.int .i64 1)).trans ht2
 clear c0 c1 f0 f1 hgl t0 t1 t2 q0 q1 q2 hbl r0 r1 r2 z0 z1 z2 hrl
 obtain ⟨c0,c1,f0,f1,hgl⟩:=hG2.two
 obtain ⟨t0,t1,t2,q0,q1,q2,hbl⟩:=hB2.three
 obtain ⟨r0,r1,r2,z0,z1,z2,hrl⟩:=hR2.three
 by_cases h12:12 < n + 1
 ·go_wp2_with fail
  refine bodyPost_ret (v:=.tuple #[.agg #[.int .i64 1,.int .i64 p,.string X],.int .i64 2]) (by simp [results,Tryz.results53,go_sem, *]) rfl ?_
  rw [HT.out,if_pos h12]
  exact ⟨⟨1,p,X⟩,p + (n + 1),rfl,by omega,((((hG2).far (by simp;omega) _).far (by simp;omega) _).far (by simp;omega) _).far (by simp;omega) _,turn_set (turn_set (turn_set (turn_set (ht2) (.inr (by simp;omega)) _) (.inr (by simp;omega)) _) (.inr (by simp;omega)) _) (.inr (by simp;omega)) _,rfl,fun h=>by cases h⟩
 ·go_wp2_with fail
  refine bodyPost_ret (v:=.tuple #[.agg #[.int .i64 1,.int .i64 p,.string X],.int .i64 0]) (by simp [results,Tryz.results53,go_sem, *]) rfl ?_
  rw [HT.out,if_neg h12]
  exact ⟨⟨1,p,X⟩,p + (n + 1),rfl,by omega,((((hG2).far (by simp;omega) _).far (by simp;omega) _).far (by simp;omega) _).far (by simp;omega) _,turn_set (turn_set (turn_set (turn_set (ht2) (.inr (by simp;omega)) _) (.inr (by simp;omega)) _) (.inr (by simp;omega)) _) (.inr (by simp;omega)) _,rfl,fun _=>⟨by rw [← HX.out];rfl,rfl⟩⟩
set_option maxHeartbeats 4000000 in
theorem token_number (s:ByteArray) (p g:Nat) (w:World) (hp:p < s.size) (hs:s.size≤2000) (hg:Blk w g 80 #[.string s,.int .i64 p]) (hl:letterB s[p]=false) (hx:digitB s[p]=true) :
  Calls Tryz.prog 53 #[.pointer (some ⟨g,0,none⟩)] w (TokenPost s p g (tokL s[p] (s.data.toList.drop (p + 1))) w):=by
 have HL:=Lib.hid (fun W=>letter_any s[p] W)
 rw [hl] at HL
 have HDg:=Lib.hid (fun W=>digit_any s[p] W)
 rw [hx] at HDg
 have hN:=runN_le digitB (s.data.toList.drop (p + 1))
 rw [List.length_drop,Array.length_toList,show s.data.size=s.size from rfl] at hN
 have hN':runN digitB (s.data.toList.drop p)=runN digitB (s.data.toList.drop (p + 1)) + 1:=by rw [drop_at s p hp,runN,if_pos hx]
 have HT:=Lib.hid (show tokL s[p] (s.data.toList.drop (p + 1))=(2,runN digitB (s.data.toList.drop (p + 1)) + 1,if 9 < runN digitB (s.data.toList.drop (p + 1)) + 1 then 2 else if 1 < runN digitB (s.data.toList.drop (p + 1)) + 1∧s[p]=48 then 1 else 0) by rw [tokL,if_neg (by simp [hl]),if_pos hx])
 have HW:=Lib.hid (fun W=>run_digit s p g W (by omega) (by omega))
 rw [hN'] at HW
 generalize runN digitB (s.data.toList.drop (p + 1))=n at *
 obtain ⟨X,hX⟩:∃ X,X=s.extract p (p + (n + 1)):=⟨_,rfl⟩
 have hX1:X.size=n + 1:=by rw [hX,ByteArray.size_extract];omega
 have hX2:X.size≤n + 1:=by omega
 have hX3:n + 1≤X.size:=by omega
 rw [← hX] at HW
 have HX:=Lib.hid hX
 clear hx hl hN' hX hX1
 have H48:=Lib.hid (show ((s[p].toNat:Int)==48)=true ↔ s[p]=48 by rw [beq_iff_eq];exact ⟨fun h=>UInt8.toNat_inj.1 (by rw [show (48:UInt8).toNat=48 from rfl];omega),fun h=>by rw [h];rfl⟩)
 obtain ⟨c0,c1,f0,f1,hgl⟩:=hg.two
 obtain ⟨r,hr⟩:∃ r,r=w.heap.size:=⟨_,rfl⟩
 have hr1:w.heap.size≤r:=by omega
 have hr2:r≤w.heap.size:=by omega
 have hgr:g < r:=by omega
 go_enter Tryz.func53,Tryz.ntmps53
 go_wp2_with fail
 go_quiet (fail)
 have hG:Blk (((w.alloc (.cells #[.int .i64 0,.int .i64 0,.string ⟨#[]⟩] 77)).alloc (.cells #[.int .i64 4,.int .i64 p,.string ⟨#[]⟩] 77)).drewN nq) g 80 #[.string s,.int .i64 p]:=(hg.alloc (.cells #[.int .i64 0,.int .i64 0,.string ⟨#[]⟩] 77)).alloc (.cells #[.int .i64 4,.int .i64 p,.string ⟨#[]⟩] 77)
 have hR:Blk (((w.alloc (.cells #[.int .i64 0,.int .i64 0,.string ⟨#[]⟩] 77)).alloc (.cells #[.int .i64 4,.int .i64 p,.string ⟨#[]⟩] 77)).drewN nq) w.heap.size 77 #[.int .i64 0,.int .i64 0,.string ⟨#[]⟩]:=(Blk.fresh w 77 #[.int .i64 0,.int .i64 0,.string ⟨#[]⟩]).alloc (.cells #[.int .i64 4,.int .i64 p,.string ⟨#[]⟩] 77)
 have hB:Blk (((w.alloc (.cells #[.int .i64 0,.int .i64 0,.string ⟨#[]⟩] 77)).alloc (.cells #[.int .i64 4,.int .i64 p,.string ⟨#[]⟩] 77)).drewN nq) (w.heap.size + 1) 77 #[.int .i64 4,.int .i64 p,.string ⟨#[]⟩]:=fresh_two w (.cells #[.int .i64 0,.int .i64 0,.string ⟨#[]⟩] 77) 77 #[.int .i64 4,.int .i64 p,.string ⟨#[]⟩]
 have ht:w.grownBy (((w.alloc (.cells #[.int .i64 0,.int .i64 0,.string ⟨#[]⟩] 77)).alloc (.cells #[.int .i64 4,.int .i64 p,.string ⟨#[]⟩] 77)).drewN nq) (some g):=turn_drewN (turn_alloc (turn_alloc (World.grownBy.refl w (some g)) (.cells #[.int .i64 0,.int .i64 0,.string ⟨#[]⟩] 77)) (.cells #[.int .i64 4,.int .i64 p,.string ⟨#[]⟩] 77)) nq
 generalize ((w.alloc (.cells #[.int .i64 0,.int .i64 0,.string ⟨#[]⟩] 77)).alloc (.cells #[.int .i64 4,.int .i64 p,.string ⟨#[]⟩] 77)).drewN nq=W at *
 rw [← hr] at hR hB ⊢
 clear hr c0 c1 f0 f1 hgl
 obtain ⟨c0,c1,f0,f1,hgl⟩:=hG.two
 obtain ⟨t0,t1,t2,q0,q1,q2,hbl⟩:=hB.three
 obtain ⟨r0,r1,r2,z0,z1,z2,hrl⟩:=hR.three
 go_wp2_with fail
 refine (HL.out _).mono ?_
 rintro e w1 ⟨rfl,rfl⟩
 go_wp2_with fail
 refine (HDg.out _).mono ?_
 rintro e w1 ⟨rfl,rfl⟩
 go_wp2_with fail
 refine (HW.out _ (hG.far (by simp;omega) _)).mono ?_
 rintro e w2 ⟨rfl,hG2,ht2⟩
 have hB2:=(hB.put 0 (.int .i64 2)).turn ht2 (by omega)
 have hR2:=(hR.far (p:=⟨r + 1,0,none⟩) (by simp) (.int .i64 2)).turn ht2 (by omega)
 have ht2:=(turn_set ht (p:=⟨r + 1,0,none⟩) (.inr (by simp;omega)) (.int .i64 2)).trans ht2
 clear c0 c1 f0 f1 hgl t0 t1 t2 q0 q1 q2 hbl r0 r1 r2 z0 z1 z2 hrl
 obtain ⟨c0,c1,f0,f1,hgl⟩:=hG2.two
 obtain ⟨t0,t1,t2,q0,q1,q2,hbl⟩:=hB2.three
 obtain ⟨r0,r1,r2,z0,z1,z2,hrl⟩:=hR2.three
 by_cases h12:9 < n + 1
 ·go_wp2_with fail
  refine bodyPost_ret (v:=.tuple #[.agg #[.int .i64 2,.int .i64 p,.string X],.int .i64 2]) (by simp [results,Tryz.results53,go_sem, *]) rfl ?_
  rw [HT.out,if_pos h12]
  exact ⟨⟨2,p,X⟩,p + (n + 1),rfl,by omega,((((hG2).far (by simp;omega) _).far (by simp;omega) _).far (by simp;omega) _).far (by simp;omega) _,turn_set (turn_set (turn_set (turn_set (ht2) (.inr (by simp;omega)) _) (.inr (by simp;omega)) _) (.inr (by simp;omega)) _) (.inr (by simp;omega)) _,rfl,fun h=>by cases h⟩
 ·rcases h48:((s[p].toNat:Int)==48) with _ | _
  ·have hh:=fun h=>H48.out.2 h
   have H0:=Lib.hid (show ¬ (1 < n + 1∧s[p]=48) from fun h=>by have:=hh h.2;rw [h48] at this;cases this)
   clear hh
   by_cases h1:1 < n + 1
   all_goals
    go_wp2_with fail
    refine bodyPost_ret (v:=.tuple #[.agg #[.int .i64 2,.int .i64 p,.string X],.int .i64 0]) (by simp [results,Tryz.results53,go_sem, *]) rfl ?_
    rw [HT.out,if_neg h12,if_neg H0.out]
    exact ⟨⟨2,p,X⟩,p + (n + 1),rfl,by omega,((((hG2).far (by simp;omega) _).far (by simp;omega) _).far (by simp;omega) _).far (by simp;omega) _,turn_set (turn_set (turn_set (turn_set (ht2) (.inr (by simp;omega)) _) (.inr (by simp;omega)) _) (.inr (by simp;omega)) _) (.inr (by simp;omega)) _,rfl,fun _=>⟨by rw [← HX.out];rfl,rfl⟩⟩
  ·have H1:=Lib.hid (H48.out.1 h48)
   by_cases h1:1 < n + 1
   ·go_wp2_with fail
    refine bodyPost_ret (v:=.tuple #[.agg #[.int .i64 2,.int .i64 p,.string X],.int .i64 1]) (by simp [results,Tryz.results53,go_sem, *]) rfl ?_
    rw [HT.out,if_neg h12,if_pos ⟨h1,H1.out⟩]
    exact ⟨⟨2,p,X⟩,p + (n + 1),rfl,by omega,((((hG2).far (by simp;omega) _).far (by simp;omega) _).far (by simp;omega) _).far (by simp;omega) _,turn_set (turn_set (turn_set (turn_set (ht2) (.inr (by simp;omega)) _) (.inr (by simp;omega)) _) (.inr (by simp;omega)) _) (.inr (by simp;omega)) _,rfl,fun h=>by cases h⟩
   ·go_wp2_with fail
    refine bodyPost_ret (v:=.tuple #[.agg #[.int .i64 2,.int .i64 p,.string X],.int .i64 0]) (by simp [results,Tryz.results53,go_sem, *]) rfl ?_
    rw [HT.out,if_neg h12,if_neg (fun h=>h1 h.1)]
    exact ⟨⟨2,p,X⟩,p + (n + 1),rfl,by omega,((((hG2).far (by simp;omega) _).far (by simp;omega) _).far (by simp;omega) _).far (by simp;omega) _,turn_set (turn_set (turn_set (turn_set (ht2) (.inr (by simp;omega)) _) (.inr (by simp;omega)) _) (.inr (by simp;omega)) _) (.inr (by simp;omega)) _,rfl,fun _=>⟨by rw [← HX.out];rfl,rfl⟩⟩
set_option maxHeartbeats 4000000 in
theorem token_text (s:ByteArray) (p g:Nat) (w:World) (hp:p < s.size) (hs:s.size≤2000) (hg:Blk w g 80 #[.string s,.int .i64 p]) (hl:letterB s[p]=false) (hx:digitB s[p]=false) (h39:s[p]=39) :
  Calls Tryz.prog 53 #[.pointer (some ⟨g,0,none⟩)] w (TokenPost s p g (tokL s[p] (s.data.toList.drop (p + 1))) w):=by
 have HL:=Lib.hid (fun W=>letter_any s[p] W)
 rw [hl] at HL
 have HDg:=Lib.hid (fun W=>digit_any s[p] W)
 rw [hx] at HDg
 have HT:=Lib.hid (show tokL s[p] (s.data.toList.drop (p + 1))=if quotEnds (s.data.toList.drop (p + 1))=true then (3,quotN (s.data.toList.drop (p + 1)) + 2,if 20 < quotN (s.data.toList.drop (p + 1)) then 2 else 0) else (3,1,1) by rw [tokL,if_neg (by simp [hl]),if_neg (by simp [hx]),if_pos h39])
 have HW:=Lib.hid (fun W=>quoted_any s p g W hp h39 hs)
 have h0:((s[p].toNat:Int)==39)=true:=by rw [beq_iff_eq,h39];rfl
 clear hx hl h39
 obtain ⟨c0,c1,f0,f1,hgl⟩:=hg.two
 obtain ⟨r,hr⟩:∃ r,r=w.heap.size:=⟨_,rfl⟩
 have hr1:w.heap.size≤r:=by omega
 have hr2:r≤w.heap.size:=by omega
 have hgr:g < r:=by omega
 go_enter Tryz.func53,Tryz.ntmps53
 go_wp2_with fail
 go_quiet (fail)
 have hG:Blk (((w.alloc (.cells #[.int .i64 0,.int .i64 0,.string ⟨#[]⟩] 77)).alloc (.cells #[.int .i64 4,.int .i64 p,.string ⟨#[]⟩] 77)).drewN nq) g 80 #[.string s,.int .i64 p]:=(hg.alloc (.cells #[.int .i64 0,.int .i64 0,.string ⟨#[]⟩] 77)).alloc (.cells #[.int .i64 4,.int .i64 p,.string ⟨#[]⟩] 77)
 have hR:Blk (((w.alloc (.cells #[.int .i64 0,.int .i64 0,.string ⟨#[]⟩] 77)).alloc (.cells #[.int .i64 4,.int .i64 p,.string ⟨#[]⟩] 77)).drewN nq) w.heap.size 77 #[.int .i64 0,.int .i64 0,.string ⟨#[]⟩]:=(Blk.fresh w 77 #[.int .i64 0,.int .i64 0,.string ⟨#[]⟩]).alloc (.cells #[.int .i64 4,.int .i64 p,.string ⟨#[]⟩] 77)
 have hB:Blk (((w.alloc (.cells #[.int .i64 0,.int .i64 0,.string ⟨#[]⟩] 77)).alloc (.cells #[.int .i64 4,.int .i64 p,.string ⟨#[]⟩] 77)).drewN nq) (w.heap.size + 1) 77 #[.int .i64 4,.int .i64 p,.string ⟨#[]⟩]:=fresh_two w (.cells #[.int .i64 0,.int .i64 0,.string ⟨#[]⟩] 77) 77 #[.int .i64 4,.int .i64 p,.string ⟨#[]⟩]
 have ht:w.grownBy (((w.alloc (.cells #[.int .i64 0,.int .i64 0,.string ⟨#[]⟩] 77)).alloc (.cells #[.int .i64 4,.int .i64 p,.string ⟨#[]⟩] 77)).drewN nq) (some g):=turn_drewN (turn_alloc (turn_alloc (World.grownBy.refl w (some g)) (.cells #[.int .i64 0,.int .i64 0,.string ⟨#[]⟩] 77)) (.cells #[.int .i64 4,.int .i64 p,.string ⟨#[]⟩] 77)) nq
 generalize ((w.alloc (.cells #[.int .i64 0,.int .i64 0,.string ⟨#[]⟩] 77)).alloc (.cells #[.int .i64 4,.int .i64 p,.string ⟨#[]⟩] 77)).drewN nq=W at *
 rw [← hr] at hR hB ⊢
 clear hr c0 c1 f0 f1 hgl
 obtain ⟨c0,c1,f0,f1,hgl⟩:=hG.two
 obtain ⟨t0,t1,t2,q0,q1,q2,hbl⟩:=hB.three
 obtain ⟨r0,r1,r2,z0,z1,z2,hrl⟩:=hR.three
 go_wp2_with fail
 refine (HL.out _).mono ?_
 rintro e w1 ⟨rfl,rfl⟩
 go_wp2_with fail
 refine (HDg.out _).mono ?_
 rintro e w1 ⟨rfl,rfl⟩
 go_wp2_with fail
 refine (HW.out _ (hG.far (by simp;omega) _)).mono ?_
 rintro e w2 ⟨X,x,j,rfl,hjs,hG2,ht2,hq1,hq2⟩
 have HQ1:=Lib.hid hq1
 have HQ2:=Lib.hid hq2
 clear hq1 hq2
 have hB2:=(hB.put 0 (.int .i64 3)).turn ht2 (by omega)
 have hR2:=(hR.far (p:=⟨r + 1,0,none⟩) (by simp) (.int .i64 3)).turn ht2 (by omega)
 have ht2:=(turn_set ht (p:=⟨r + 1,0,none⟩) (.inr (by simp;omega)) (.int .i64 3)).trans ht2
 clear c0 c1 f0 f1 hgl t0 t1 t2 q0 q1 q2 hbl r0 r1 r2 z0 z1 z2 hrl
 obtain ⟨c0,c1,f0,f1,hgl⟩:=hG2.two
 obtain ⟨t0,t1,t2,q0,q1,q2,hbl⟩:=hB2.three
 obtain ⟨r0,r1,r2,z0,z1,z2,hrl⟩:=hR2.three
 have HTT:=Lib.hid (show (tokL s[p] (s.data.toList.drop (p + 1))).2.2=x∧((tokL s[p] (s.data.toList.drop (p + 1))).2.2=0→(⟨3,p,X⟩:Tk)=⟨(tokL s[p] (s.data.toList.drop (p + 1))).1,p,s.extract p (p + (tokL s[p] (s.data.toList.drop (p + 1))).2.1)⟩∧j=p + (tokL s[p] (s.data.toList.drop (p + 1))).2.1) by
  rw [HT.out]
  rcases hq:quotEnds (s.data.toList.drop (p + 1)) with _ | _
  ·rw [if_neg (by simp)]
   exact ⟨(HQ1.out hq).symm,fun h=>by cases h⟩
  ·rw [if_pos rfl]
   obtain ⟨a,b,c⟩:=HQ2.out hq
   refine ⟨b.symm,fun h=>⟨?_,a⟩⟩
   rw [c (by rw [b];exact h)]
   rfl)
 go_wp2_with fail
 refine bodyPost_ret (v:=.tuple #[.agg #[.int .i64 3,.int .i64 p,.string X],.int .i64 x]) (by simp [results,Tryz.results53,go_sem, *]) rfl ?_
 exact ⟨⟨3,p,X⟩,j,by rw [HTT.out.1],hjs,(((hG2.far (by simp;omega) _).far (by simp;omega) _).far (by simp;omega) _).far (by simp;omega) _,turn_set (turn_set (turn_set (turn_set ht2 (.inr (by simp;omega)) _) (.inr (by simp;omega)) _) (.inr (by simp;omega)) _) (.inr (by simp;omega)) _,rfl,HTT.out.2⟩
end Go.Proofs.YtjdgejfhnfnmgaaGreatDoor
namespace Go.Proofs.YtjdgejfhnfnmgaaGreatDoor
open Go.RowKit
theorem sign1_mem (x:UInt8) (h:sign1 x=true):x ∈ [40,41,44,59,42,61,60,43,45]:=by
 simp only [sign1,decide_eq_true_eq] at h
 obtain ⟨o,ho⟩:=Int.eq_ofNat_of_zero_le h
 exact List.mem_of_getElem? (Lib.indexByte_some ho).1
theorem encode_sign (x:UInt8) (hm:x ∈ [40,41,44,59,42,61,60,43,45]):Utf8.encode (x.toNat:Int)=bs [x]:=by
 simp only [List.mem_cons,List.not_mem_nil,or_false] at hm
 rcases hm with rfl | rfl | rfl | rfl | rfl | rfl | rfl | rfl | rfl <;> kernel_rfl
theorem sign1_text (s:ByteArray) (p:Nat) (hp:p < s.size) (h:sign1 s[p]=true):Utf8.encode (s[p].toNat:Int)=s.extract p (p + 1):=by
 have hm:=sign1_mem _ h
 have he:s.extract p (p + 1)=bs [s[p]]:=by rw [extract_mid s p 1,drop_at s p hp];rfl
 rw [he]
 exact encode_sign _ hm
set_option maxHeartbeats 4000000 in
theorem token_bars (s:ByteArray) (p g:Nat) (w:World) (hp:p < s.size) (hs:s.size≤2000) (hg:Blk w g 80 #[.string s,.int .i64 p]) (hl:letterB s[p]=false) (hx:digitB s[p]=false) (h39:¬ s[p]=39) (hb:bars (s[p] :: s.data.toList.drop (p + 1))=true) :
  Calls Tryz.prog 53 #[.pointer (some ⟨g,0,none⟩)] w (TokenPost s p g (tokL s[p] (s.data.toList.drop (p + 1))) w):=by
 have HL:=Lib.hid (fun W=>letter_any s[p] W)
 rw [hl] at HL
 have HDg:=Lib.hid (fun W=>digit_any s[p] W)
 rw [hx] at HDg
 have h0:((s[p].toNat:Int)==39)=false:=by rw [beq_eq_false_iff_ne];exact fun h=>h39 (UInt8.toNat_inj.1 (by rw [show (39:UInt8).toNat=39 from rfl];omega))
 have hbl:Lib.hasPrefix (s.extract p s.size).data.toList (⟨#[124,124]⟩:ByteArray).data.toList=bars (s[p] :: s.data.toList.drop (p + 1)):=by rw [extract_end,bs_data,drop_at s p hp];rfl
 have HP:=Lib.hid (fun W=>Tryz.strings_HasPrefix (s.extract p s.size) ⟨#[124,124]⟩ W)
 rw [hbl,hb] at HP
 have HT:=Lib.hid (show tokL s[p] (s.data.toList.drop (p + 1))=(4,2,0) by rw [tokL,if_neg (by simp [hl]),if_neg (by simp [hx]),if_neg h39,if_pos hb])
 have hb2:=bars_text s p hp hb
 obtain ⟨hp2,hX⟩:=hb2
 have HX:=Lib.hid hX
 clear hx hl h39 hb hbl hX
 obtain ⟨c0,c1,f0,f1,hgl⟩:=hg.two
 obtain ⟨r,hr⟩:∃ r,r=w.heap.size:=⟨_,rfl⟩
 have hr1:w.heap.size≤r:=by omega
 have hr2:r≤w.heap.size:=by omega
 have hgr:g < r:=by omega
 go_enter Tryz.func53,Tryz.ntmps53
 go_wp2_with fail
 go_quiet (fail)
 have hG:Blk (((w.alloc (.cells #[.int .i64 0,.int .i64 0,.string ⟨#[]⟩] 77)).alloc (.cells #[.int .i64 4,.int .i64 p,.string ⟨#[]⟩] 77)).drewN nq) g 80 #[.string s,.int .i64 p]:=(hg.alloc (.cells #[.int .i64 0,.int .i64 0,.string ⟨#[]⟩] 77)).alloc (.cells #[.int .i64 4,.int .i64 p,.string ⟨#[]⟩] 77)
 have hR:Blk (((w.alloc (.cells #[.int .i64 0,.int .i64 0,.string ⟨#[]⟩] 77)).alloc (.cells #[.int .i64 4,.int .i64 p,.string ⟨#[]⟩] 77)).drewN nq) w.heap.size 77 #[.int .i64 0,.int .i64 0,.string ⟨#[]⟩]:=(Blk.fresh w 77 #[.int .i64 0,.int .i64 0,.string ⟨#[]⟩]).alloc (.cells #[.int .i64 4,.int .i64 p,.string ⟨#[]⟩] 77)
 have hB:Blk (((w.alloc (.cells #[.int .i64 0,.int .i64 0,.string ⟨#[]⟩] 77)).alloc (.cells #[.int .i64 4,.int .i64 p,.string ⟨#[]⟩] 77)).drewN nq) (w.heap.size + 1) 77 #[.int .i64 4,.int .i64 p,.string ⟨#[]⟩]:=fresh_two w (.cells #[.int .i64 0,.int .i64 0,.string ⟨#[]⟩] 77) 77 #[.int .i64 4,.int .i64 p,.string ⟨#[]⟩]
 have ht:w.grownBy (((w.alloc (.cells #[.int .i64 0,.int .i64 0,.string ⟨#[]⟩] 77)).alloc (.cells #[.int .i64 4,.int .i64 p,.string ⟨#[]⟩] 77)).drewN nq) (some g):=turn_drewN (turn_alloc (turn_alloc (World.grownBy.refl w (some g)) (.cells #[.int .i64 0,.int .i64 0,.string ⟨#[]⟩] 77)) (.cells #[.int .i64 4,.int .i64 p,.string ⟨#[]⟩] 77)) nq
 generalize ((w.alloc (.cells #[.int .i64 0,.int .i64 0,.string ⟨#[]⟩] 77)).alloc (.cells #[.int .i64 4,.int .i64 p,.string ⟨#[]⟩] 77)).drewN nq=W at *
 rw [← hr] at hR hB ⊢
 clear hr c0 c1 f0 f1 hgl
 obtain ⟨c0,c1,f0,f1,hgl⟩:=hG.two
 obtain ⟨t0,t1,t2,q0,q1,q2,hbl⟩:=hB.three
 obtain ⟨r0,r1,r2,z0,z1,z2,hrl⟩:=hR.three
 go_wp2_with fail
 refine (HL.out _).mono ?_
 rintro e w1 ⟨rfl,rfl⟩
 go_wp2_with fail
 refine (HDg.out _).mono ?_
 rintro e w1 ⟨rfl,rfl⟩
 go_wp2_with fail
 go_quiet ((go_at_call 95;exact Calls.quiet_of_same (HP.out _)))
 go_wp2_with fail
 refine bodyPost_ret (v:=.tuple #[.agg #[.int .i64 4,.int .i64 p,.string ⟨#[124,124]⟩],.int .i64 0]) (by simp [results,Tryz.results53,go_sem, *]) rfl ?_
 rw [HT.out]
 exact ⟨⟨4,p,⟨#[124,124]⟩⟩,p + 2,rfl,hp2,((((hG.far (p:=⟨r + 1,2,none⟩) (by simp;omega) _).put 1 _).far (by simp;omega) _).far (by simp;omega) _).far (by simp;omega) _,turn_set (turn_set (turn_set (turn_put (turn_set (turn_drewN ht _) (.inr (by simp;omega)) _) 1 _) (.inr (by simp;omega)) _) (.inr (by simp;omega)) _) (.inr (by simp;omega)) _,rfl,fun _=>⟨by rw [← HX.out];rfl,rfl⟩⟩
set_option maxHeartbeats 4000000 in
theorem token_sign (s:ByteArray) (p g:Nat) (w:World) (hp:p < s.size) (hs:s.size≤2000) (hg:Blk w g 80 #[.string s,.int .i64 p]) (hl:letterB s[p]=false) (hx:digitB s[p]=false) (h39:¬ s[p]=39) (hb:bars (s[p] :: s.data.toList.drop (p + 1))=false) (hs1:sign1 s[p]=true) :
  Calls Tryz.prog 53 #[.pointer (some ⟨g,0,none⟩)] w (TokenPost s p g (tokL s[p] (s.data.toList.drop (p + 1))) w):=by
 have HL:=Lib.hid (fun W=>letter_any s[p] W)
 rw [hl] at HL
 have HDg:=Lib.hid (fun W=>digit_any s[p] W)
 rw [hx] at HDg
 have h0:((s[p].toNat:Int)==39)=false:=by rw [beq_eq_false_iff_ne];exact fun h=>h39 (UInt8.toNat_inj.1 (by rw [show (39:UInt8).toNat=39 from rfl];omega))
 have hbl:Lib.hasPrefix (s.extract p s.size).data.toList (⟨#[124,124]⟩:ByteArray).data.toList=bars (s[p] :: s.data.toList.drop (p + 1)):=by rw [extract_end,bs_data,drop_at s p hp];rfl
 have HP:=Lib.hid (fun W=>Tryz.strings_HasPrefix (s.extract p s.size) ⟨#[124,124]⟩ W)
 rw [hbl,hb] at HP
 have HT:=Lib.hid (show tokL s[p] (s.data.toList.drop (p + 1))=(4,1,0) by rw [tokL,if_neg (by simp [hl]),if_neg (by simp [hx]),if_neg h39,if_neg (by simp [hb]),if_pos hs1])
 obtain ⟨I,hI⟩:∃ I,I=Lib.indexByte [40,41,44,59,42,61,60,43,45] s[p]:=⟨_,rfl⟩
 have hI2:0≤I:=by rw [hI];simpa [sign1] using hs1
 have HI:=Lib.hid (fun W=>Tryz.strings_IndexByte ⟨#[40,41,44,59,42,61,60,43,45]⟩ (s[p].toNat:Int) W)
 rw [show ((s[p].toNat:Int).toNat.toUInt8)=s[p] from by simp,show (⟨#[40,41,44,59,42,61,60,43,45]⟩:ByteArray).data.toList=[40,41,44,59,42,61,60,43,45] from rfl,← hI] at HI
 clear hI
 have HX:=Lib.hid (sign1_text s p hp hs1)
 clear hx hl h39 hb hbl hs1
 obtain ⟨c0,c1,f0,f1,hgl⟩:=hg.two
 obtain ⟨r,hr⟩:∃ r,r=w.heap.size:=⟨_,rfl⟩
 have hr1:w.heap.size≤r:=by omega
 have hr2:r≤w.heap.size:=by omega
 have hgr:g < r:=by omega
 go_enter Tryz.func53,Tryz.ntmps53
 go_wp2_with fail
 go_quiet (fail)
 have hG:Blk (((w.alloc (.cells #[.int .i64 0,.int .i64 0,.string ⟨#[]⟩] 77)).alloc (.cells #[.int .i64 4,.int .i64 p,.string ⟨#[]⟩] 77)).drewN nq) g 80 #[.string s,.int .i64 p]:=(hg.alloc (.cells #[.int .i64 0,.int .i64 0,.string ⟨#[]⟩] 77)).alloc (.cells #[.int .i64 4,.int .i64 p,.string ⟨#[]⟩] 77)
 have hR:Blk (((w.alloc (.cells #[.int .i64 0,.int .i64 0,.string ⟨#[]⟩] 77)).alloc (.cells #[.int .i64 4,.int .i64 p,.string ⟨#[]⟩] 77)).drewN nq) w.heap.size 77 #[.int .i64 0,.int .i64 0,.string ⟨#[]⟩]:=(Blk.fresh w 77 #[.int .i64 0,.int .i64 0,.string ⟨#[]⟩]).alloc (.cells #[.int .i64 4,.int .i64 p,.string ⟨#[]⟩] 77)
 have hB:Blk (((w.alloc (.cells #[.int .i64 0,.int .i64 0,.string ⟨#[]⟩] 77)).alloc (.cells #[.int .i64 4,.int .i64 p,.string ⟨#[]⟩] 77)).drewN nq) (w.heap.size + 1) 77 #[.int .i64 4,.int .i64 p,.string ⟨#[]⟩]:=fresh_two w (.cells #[.int .i64 0,.int .i64 0,.string ⟨#[]⟩] 77) 77 #[.int .i64 4,.int .i64 p,.string ⟨#[]⟩]
 have ht:w.grownBy (((w.alloc (.cells #[.int .i64 0,.int .i64 0,.string ⟨#[]⟩] 77)).alloc (.cells #[.int .i64 4,.int .i64 p,.string ⟨#[]⟩] 77)).drewN nq) (some g):=turn_drewN (turn_alloc (turn_alloc (World.grownBy.refl w (some g)) (.cells #[.int .i64 0,.int .i64 0,.string ⟨#[]⟩] 77)) (.cells #[.int .i64 4,.int .i64 p,.string ⟨#[]⟩] 77)) nq
 generalize ((w.alloc (.cells #[.int .i64 0,.int .i64 0,.string ⟨#[]⟩] 77)).alloc (.cells #[.int .i64 4,.int .i64 p,.string ⟨#[]⟩] 77)).drewN nq=W at *
 rw [← hr] at hR hB ⊢
 clear hr c0 c1 f0 f1 hgl
 obtain ⟨c0,c1,f0,f1,hgl⟩:=hG.two
 obtain ⟨t0,t1,t2,q0,q1,q2,hbl⟩:=hB.three
 obtain ⟨r0,r1,r2,z0,z1,z2,hrl⟩:=hR.three
 go_wp2_with fail
 refine (HL.out _).mono ?_
 rintro e w1 ⟨rfl,rfl⟩
 go_wp2_with fail
 refine (HDg.out _).mono ?_
 rintro e w1 ⟨rfl,rfl⟩
 go_wp2_with fail
 go_quiet ((go_at_call 95;exact Calls.quiet_of_same (HP.out _)))
 go_wp2_with fail
 refine (HI.out _).mono ?_
 rintro e w1 ⟨rfl,rfl⟩
 go_wp2_with fail
 rw [HX.out]
 refine bodyPost_ret (v:=.tuple #[.agg #[.int .i64 4,.int .i64 p,.string (s.extract p (p + 1))],.int .i64 0]) (by simp [results,Tryz.results53,go_sem, *]) rfl ?_
 rw [HT.out]
 exact ⟨⟨4,p,s.extract p (p + 1)⟩,p + 1,rfl,by omega,((((hG.far (p:=⟨r + 1,2,none⟩) (by simp;omega) _).put 1 _).far (by simp;omega) _).far (by simp;omega) _).far (by simp;omega) _,turn_set (turn_set (turn_set (turn_put (turn_set (turn_drewN ht _) (.inr (by simp;omega)) _) 1 _) (.inr (by simp;omega)) _) (.inr (by simp;omega)) _) (.inr (by simp;omega)) _,rfl,fun _=>⟨rfl,rfl⟩⟩
set_option maxHeartbeats 4000000 in
theorem token_bad (s:ByteArray) (p g:Nat) (w:World) (hp:p < s.size) (_hs:s.size≤2000) (hg:Blk w g 80 #[.string s,.int .i64 p]) (hl:letterB s[p]=false) (hx:digitB s[p]=false) (h39:¬ s[p]=39) (hb:bars (s[p] :: s.data.toList.drop (p + 1))=false) (hs1:sign1 s[p]=false) :
  Calls Tryz.prog 53 #[.pointer (some ⟨g,0,none⟩)] w (TokenPost s p g (tokL s[p] (s.data.toList.drop (p + 1))) w):=by
 have HL:=Lib.hid (fun W=>letter_any s[p] W)
 rw [hl] at HL
 have HDg:=Lib.hid (fun W=>digit_any s[p] W)
 rw [hx] at HDg
 have h0:((s[p].toNat:Int)==39)=false:=by rw [beq_eq_false_iff_ne];exact fun h=>h39 (UInt8.toNat_inj.1 (by rw [show (39:UInt8).toNat=39 from rfl];omega))
 have hbl:Lib.hasPrefix (s.extract p s.size).data.toList (⟨#[124,124]⟩:ByteArray).data.toList=bars (s[p] :: s.data.toList.drop (p + 1)):=by rw [extract_end,bs_data,drop_at s p hp];rfl
 have HP:=Lib.hid (fun W=>Tryz.strings_HasPrefix (s.extract p s.size) ⟨#[124,124]⟩ W)
 rw [hbl,hb] at HP
 have HT:=Lib.hid (show tokL s[p] (s.data.toList.drop (p + 1))=(4,0,1) by rw [tokL,if_neg (by simp [hl]),if_neg (by simp [hx]),if_neg h39,if_neg (by simp [hb]),if_neg (by simp [hs1])])
 obtain ⟨I,hI⟩:∃ I,I=Lib.indexByte [40,41,44,59,42,61,60,43,45] s[p]:=⟨_,rfl⟩
 have hI2:¬ 0≤I:=by rw [hI];simpa [sign1] using hs1
 have HI:=Lib.hid (fun W=>Tryz.strings_IndexByte ⟨#[40,41,44,59,42,61,60,43,45]⟩ (s[p].toNat:Int) W)
 rw [show ((s[p].toNat:Int).toNat.toUInt8)=s[p] from by simp,show (⟨#[40,41,44,59,42,61,60,43,45]⟩:ByteArray).data.toList=[40,41,44,59,42,61,60,43,45] from rfl,← hI] at HI
 clear hI
 clear hx hl h39 hb hbl hs1
 obtain ⟨c0,c1,f0,f1,hgl⟩:=hg.two
 obtain ⟨r,hr⟩:∃ r,r=w.heap.size:=⟨_,rfl⟩
 have hr1:w.heap.size≤r:=by omega
 have hr2:r≤w.heap.size:=by omega
 have hgr:g < r:=by omega
 go_enter Tryz.func53,Tryz.ntmps53
 go_wp2_with fail
 go_quiet (fail)
 have hG:Blk (((w.alloc (.cells #[.int .i64 0,.int .i64 0,.string ⟨#[]⟩] 77)).alloc (.cells #[.int .i64 4,.int .i64 p,.string ⟨#[]⟩] 77)).drewN nq) g 80 #[.string s,.int .i64 p]:=(hg.alloc (.cells #[.int .i64 0,.int .i64 0,.string ⟨#[]⟩] 77)).alloc (.cells #[.int .i64 4,.int .i64 p,.string ⟨#[]⟩] 77)
 have hR:Blk (((w.alloc (.cells #[.int .i64 0,.int .i64 0,.string ⟨#[]⟩] 77)).alloc (.cells #[.int .i64 4,.int .i64 p,.string ⟨#[]⟩] 77)).drewN nq) w.heap.size 77 #[.int .i64 0,.int .i64 0,.string ⟨#[]⟩]:=(Blk.fresh w 77 #[.int .i64 0,.int .i64 0,.string ⟨#[]⟩]).alloc (.cells #[.int .i64 4,.int .i64 p,.string ⟨#[]⟩] 77)
 have hB:Blk (((w.alloc (.cells #[.int .i64 0,.int .i64 0,.string ⟨#[]⟩] 77)).alloc (.cells #[.int .i64 4,.int .i64 p,.string ⟨#[]⟩] 77)).drewN nq) (w.heap.size + 1) 77 #[.int .i64 4,.int .i64 p,.string ⟨#[]⟩]:=fresh_two w (.cells #[.int .i64 0,.int .i64 0,.string ⟨#[]⟩] 77) 77 #[.int .i64 4,.int .i64 p,.string ⟨#[]⟩]
 have ht:w.grownBy (((w.alloc (.cells #[.int .i64 0,.int .i64 0,.string ⟨#[]⟩] 77)).alloc (.cells #[.int .i64 4,.int .i64 p,.string ⟨#[]⟩] 77)).drewN nq) (some g):=turn_drewN (turn_alloc (turn_alloc (World.grownBy.refl w (some g)) (.cells #[.int .i64 0,.int .i64 0,.string ⟨#[]⟩] 77)) (.cells #[.int .i64 4,.int .i64 p,.string ⟨#[]⟩] 77)) nq
 generalize ((w.alloc (.cells #[.int .i64 0,.int .i64 0,.string ⟨#[]⟩] 77)).alloc (.cells #[.int .i64 4,.int .i64 p,.string ⟨#[]⟩] 77)).drewN nq=W at *
 rw [← hr] at hR hB ⊢
 clear hr c0 c1 f0 f1 hgl
 obtain ⟨c0,c1,f0,f1,hgl⟩:=hG.two
 obtain ⟨t0,t1,t2,q0,q1,q2,hbl⟩:=hB.three
 obtain ⟨r0,r1,r2,z0,z1,z2,hrl⟩:=hR.three
 go_wp2_with fail
 refine (HL.out _).mono ?_
 rintro e w1 ⟨rfl,rfl⟩
 go_wp2_with fail
 refine (HDg.out _).mono ?_
 rintro e w1 ⟨rfl,rfl⟩
 go_wp2_with fail
 go_quiet ((go_at_call 95;exact Calls.quiet_of_same (HP.out _)))
 go_wp2_with fail
 refine (HI.out _).mono ?_
 rintro e w1 ⟨rfl,rfl⟩
 go_wp2_with fail
 refine bodyPost_ret (v:=.tuple #[.agg #[.int .i64 4,.int .i64 p,.string ⟨#[]⟩],.int .i64 1]) (by simp [results,Tryz.results53,go_sem, *]) rfl ?_
 rw [HT.out]
 exact ⟨⟨4,p,⟨#[]⟩⟩,p,rfl,by omega,((hG.far (p:=⟨r,0,none⟩) (by simp;omega) _).far (by simp;omega) _).far (by simp;omega) _,turn_set (turn_set (turn_set (turn_drewN ht _) (.inr (by simp;omega)) _) (.inr (by simp;omega)) _) (.inr (by simp;omega)) _,rfl,fun h=>by cases h⟩
theorem token_any (s:ByteArray) (p g:Nat) (w:World) (hp:p < s.size) (hs:s.size≤2000) (hg:Blk w g 80 #[.string s,.int .i64 p]) :
  Calls Tryz.prog 53 #[.pointer (some ⟨g,0,none⟩)] w (TokenPost s p g (tokL s[p] (s.data.toList.drop (p + 1))) w):=by
 rcases hl:letterB s[p] with _ | _
 ·rcases hx:digitB s[p] with _ | _
  ·by_cases h39:s[p]=39
   ·exact token_text s p g w hp hs hg hl hx h39
   ·rcases hb:bars (s[p] :: s.data.toList.drop (p + 1)) with _ | _
    ·rcases hs1:sign1 s[p] with _ | _
     ·exact token_bad s p g w hp hs hg hl hx h39 hb hs1
     ·exact token_sign s p g w hp hs hg hl hx h39 hb hs1
    ·exact token_bars s p g w hp hs hg hl hx h39 hb
  ·exact token_number s p g w hp hs hg hl hx
 ·exact token_word s p g w hp hs hg hl
end Go.Proofs.YtjdgejfhnfnmgaaGreatDoor
