import Derived.Test.YtabbgpjofkaomaaGreatDoorIntake1
import Derived.Deep.RegionLaw
set_option linter.unusedSimpArgs false
set_option linter.unusedVariables false
/- What Put of an intake computes. -/
namespace Go.Proofs.YtabbgpjofkaomaaGreatDoor
open Go.RowKit
theorem infoAsk:(Tryz.prog.info? 45).map (fun i=>(i.zero,i.size,i.bytes))=some (some (.agg #[.int .u8 0,.int .i64 0,.int .i64 0,.int .i64 0,.int .i64 0,.int .i64 0,.int .i64 0,.int .i64 0]),8,64):=by kernel_rfl
section
variable {own:Nat→Nat} {i:Nat} {w:World} {p:Nat} {l:Nat→List Ask} {turn:Nat}
theorem put_end (h:IntakeAt own i w p l turn) (c:Nat) (hc:c<6) (hq:(l c).length<6) (a:Ask) (o:Nat→Nat) (h3:o p=3) (h0:∀ n,w.heap.size≤n→o n=0) (hi:∀ n,o n / 2=1→own n=i)
  (hend:∀ W' own' v' x,x.length≤6→RowAt W' 45 8 v' x.length (flat Ask.cells x)→(∀ g,v'.ownBlock=some g→(o g=2∨w.heap.size≤g)∧own' g=i)→(w.heap.size≤W'.heap.size∧∀ n,n<w.heap.size→own n=i→o n / 2≠1→W'.heap[n]?=w.heap[n]?) →
    (∀ t f,w.rowIs p t 7 f→W'.rowIs p t 7 (fun j=>if j=c then v' else f j))→(∀ n,n<w.heap.size→own n=i→own' n=i)→IntakeAt own' i W' p (fun d=>if d=c then x else l d) turn)
  (c1 c2:Array Value) (t1 t2:TypeId) (l1:List Obj) (d1 k':Nat) (u:World) (v':Value)
  (hv':OwnRow (lab o ((ext (w.alloc (.cells c1 t1)) l1 d1).alloc (.cells c2 t2)).heap.size k' 2) 2 (ov ((ext (w.alloc (.cells c1 t1)) l1 d1).alloc (.cells c2 t2)) o 1 2 k' u) 45 8 v' ((l c).length+1) (flat Ask.cells (l c)++a.cells)) :
  ObjTo own i i w (fun o w'=>IntakeAt o i w' p (fun d=>if d=c then l c++[a] else l d) turn) (ov ((ext ((w.setCell ⟨p,c,none⟩ v').alloc (.cells c1 t1)) l1 d1).alloc (.cells c2 t2)) o 1 2 k' u):=by
 have hp:=h.lt
 have e:ov ((ext ((w.setCell ⟨p,c,none⟩ v').alloc (.cells c1 t1)) l1 d1).alloc (.cells c2 t2)) o 1 2 k' u=(ov ((ext (w.alloc (.cells c1 t1)) l1 d1).alloc (.cells c2 t2)) o 1 2 k' u).setCell ⟨p,c,none⟩ v':=by
  simp [go_sem,↓IntWalk.iteOmega,h3]
 have hK:Kp o 2 1 w (ov ((ext ((w.setCell ⟨p,c,none⟩ v').alloc (.cells c1 t1)) l1 d1).alloc (.cells c2 t2)) o 1 2 k' u) :=
  (((((Kp.refl _ _ _ _).setCell (fun _=>by simp [h3]) _).alloc _).ext _ _).alloc _).ov _ _ _ _ _ (fun n _ hn=>by rw [Nat.div_one] at hn;simp [hn])
 have hK2:Kp own 1 i w (ov ((ext ((w.setCell ⟨p,c,none⟩ v').alloc (.cells c1 t1)) l1 d1).alloc (.cells c2 t2)) o 1 2 k' u) :=
  ⟨hK.os,hK.tape,hK.output,hK.size,fun n hn hne=>hK.block n hn (fun e=>hne (by rw [Nat.div_one];exact hi n e))⟩
 have hs:((ext (w.alloc (.cells c1 t1)) l1 d1).alloc (.cells c2 t2)).heap.size=w.heap.size+1+l1.length+1:=by simp [go_sem]
 have hsz:(ov ((ext ((w.setCell ⟨p,c,none⟩ v').alloc (.cells c1 t1)) l1 d1).alloc (.cells c2 t2)) o 1 2 k' u).heap.size=w.heap.size+1+l1.length+1+k':=by simp [go_sem]
 have hlab:∀ g,v'.ownBlock=some g→(o g=2∧g<w.heap.size)∨w.heap.size≤g:=fun g hg=>by
  have h2:=hv'.2 g hg
  by_cases hlt:g<w.heap.size
  ·rw [lab_lt (by rw [hs];omega)] at h2
   exact .inl ⟨h2,hlt⟩
  ·exact .inr (by omega)
 have hrow:RowAt (ov ((ext ((w.setCell ⟨p,c,none⟩ v').alloc (.cells c1 t1)) l1 d1).alloc (.cells c2 t2)) o 1 2 k' u) 45 8 v' (l c++[a]).length (flat Ask.cells (l c++[a])):=by
  rw [e,List.length_append,List.length_singleton,flat_append,flat_one]
  refine hv'.1.of_block fun g hg=>Below.heap_setCell _ _ _ _ ?_
  rcases hlab g hg with h1|h1
  ·intro e;have e':g=p:=e;rw [e',h3] at h1;omega
  ·intro e;have e':g=p:=e;omega
 refine ObjTo.of hK2 (hend _ _ v' (l c++[a]) (by simp;omega) hrow (fun g hg=>⟨(hlab g hg).imp And.left id,?_⟩) hK.far (fun t f hf=>?_) (fun n hn e=>by rw [lab_lt hn];exact e))
 ·rcases hlab g hg with h1|h1
  ·rw [lab_lt h1.2];exact hi g (by rw [h1.1])
  ·have:=hrow.lt g hg
   rw [hsz] at this
   unfold lab
   rw [if_neg (by omega),if_pos (by rw [hsz];omega)]
 ·refine rowIs_ov ((rowIs_ext ((hf.set c v').alloc _) _ _).alloc _) _ _ _ _ _ ?_
  rw [h3];decide
set_option maxRecDepth 100000 in
set_option maxHeartbeats 8000000 in
theorem put_ok (h:IntakeAt own i w p l turn) (a:Ask) (E:Nat→Addr) (hk:(a.kind==111)=true∨(a.kind==99)=true) (c:Nat) (hc:c<6) (he:a.client=(c:Int)) (hq:(l c).length<6) :
  Calls Tryz.prog 78 #[.pointer (some ⟨p,0,none⟩),a.val] w fun e w'=>e=.returned .nilIface∧ObjTo own i i w (fun o w'=>IntakeAt o i w' p (fun d=>if d=c then l c++[a] else l d) turn) w':=by
 obtain ⟨ao,cap,o,hcell,hcap,hrow,h3,h0,hi,hend⟩:=h.pick c hc
 have hf:=h.free c
 have hp:=h.lt
 have HE:=Lib.hid hend
 have HI:=Lib.hid hi
 have H:=Lib.hid h
 have hC:=Lib.hid (client_any (c:Int))
 rw [show inR (c:Int) 0 5=true from inR_iff.2 (by omega)] at hC
 clear hend hi h
 obtain ⟨kind,client,seq,item,side,price,qty,id⟩:=a
 simp only at he hk
 subst he
 have kk:(kind != 111 && kind != 99)=false:=by rcases hk with hk|hk<;>simp at hk<;>simp [hk]
 have HK:=Lib.hid hk
 clear hk
 by_cases h111:(kind==111)=true
 ·have k1:(kind != 111)=false:=by simpa using h111
  have c0:(0:Int)≤(c:Int):=by omega
  obtain ⟨i0,hi0,hz0,hz1,hz2⟩:=info_parts infoAsk
  have c1:(c:Int)<6:=by omega
  go_enter Tryz.func78,Tryz.ntmps78
  go_wp2_with (go_at_call 91;refine (hC.out _).mono ?_;rintro e w1 ⟨rfl,l1,d1,rfl⟩)
  go_region_held3 (fun w'=>w'.cell? ⟨w.heap.size,1,none⟩=some (.int .i64 (c:Int))∧w'.cell? ⟨p,c,none⟩=some (.slice ao (l c).length cap)) (first|exact ⟨by assumption,by assumption⟩|(simp [go_sem,↓IntWalk.iteOmega, *];done)) (fail)
  go_wp2_with fail
  have q0:p≠w.heap.size:=by omega
  have q1:p≠w.heap.size+1+l1.length:=by omega
  have q2:p<w.heap.size+1:=by omega
  have q3:p<w.heap.size+1+l1.length+1:=by omega
  have q4:w.heap.size<w.heap.size+1+l1.length+1:=by omega
  have q5:p<w.heap.size+1+l1.length:=by omega
  go_region_law
   (((refine step_append_lab (own:=o) (j:=2) ?_ (.tmp 41) (.tmp 43) 39 39 ?_ 45 i0 _ 8 64 Tryz.underlying39 hi0 hz0 hz1 hz2 ?_ (.slice ao (l c).length cap) (.slice (some ⟨w.heap.size+1+l1.length,0,none⟩) 1 1) (l c).length 1 (flat Ask.cells (l c)) (Ask.cells ⟨kind,(c:Int),seq,item,side,price,qty,id⟩) ?_ ?_ ?_ ?_ ?_ ?_ ?_);(focus rfl);(focus rfl);(focus rfl);(focus rfl);(focus (simp [go_sem];done));(focus exact (by repeat (first|exact hrow|(refine OwnRow.alloc ?_ _)|(refine OwnRow.drew ?_)|(refine OwnRow.drewN ?_ _)|(refine OwnRow.exts ?_ _ _))));(focus exact (Src.block Tryz.underlying39 1 1 (cs:=#[.int .u8 kind,.int .i64 (c:Int),.int .i64 seq,.int .i64 item,.int .i64 side,.int .i64 price,.int .i64 qty,.int .i64 id]) (t:=45) (fr:=(0,0)) (heap_new (by simp [go_sem])) (by simp) (by simp [Value.oneCell'])));(focus (unfold maxLen;omega));(focus omega);intro v' k' u hv' hnil;obtain ⟨ao',cap',rfl,hcap',_⟩:=hv'.form))
  all_goals go_wp2_with fail
  all_goals go_ret
  all_goals exact ⟨rfl,put_end H.out c hc hq _ o h3 h0 HI.out HE.out _ _ _ _ l1 _ _ _ _ hv'⟩
 ·have k1:(kind != 99)=false:=by simpa [h111] using HK.out
  have k2:(kind != 111)=true:=by simpa using h111
  have c0:(0:Int)≤(c:Int):=by omega
  obtain ⟨i0,hi0,hz0,hz1,hz2⟩:=info_parts infoAsk
  have c1:(c:Int)<6:=by omega
  go_enter Tryz.func78,Tryz.ntmps78
  go_wp2_with (go_at_call 91;refine (hC.out _).mono ?_;rintro e w1 ⟨rfl,l1,d1,rfl⟩)
  go_region_held3 (fun w'=>w'.cell? ⟨w.heap.size,1,none⟩=some (.int .i64 (c:Int))∧w'.cell? ⟨p,c,none⟩=some (.slice ao (l c).length cap)) (first|exact ⟨by assumption,by assumption⟩|(simp [go_sem,↓IntWalk.iteOmega, *];done)) (fail)
  go_wp2_with fail
  have q0:p≠w.heap.size:=by omega
  have q1:p≠w.heap.size+1+l1.length:=by omega
  have q2:p<w.heap.size+1:=by omega
  have q3:p<w.heap.size+1+l1.length+1:=by omega
  have q4:w.heap.size<w.heap.size+1+l1.length+1:=by omega
  have q5:p<w.heap.size+1+l1.length:=by omega
  go_region_law
   (((refine step_append_lab (own:=o) (j:=2) ?_ (.tmp 41) (.tmp 43) 39 39 ?_ 45 i0 _ 8 64 Tryz.underlying39 hi0 hz0 hz1 hz2 ?_ (.slice ao (l c).length cap) (.slice (some ⟨w.heap.size+1+l1.length,0,none⟩) 1 1) (l c).length 1 (flat Ask.cells (l c)) (Ask.cells ⟨kind,(c:Int),seq,item,side,price,qty,id⟩) ?_ ?_ ?_ ?_ ?_ ?_ ?_);(focus rfl);(focus rfl);(focus rfl);(focus rfl);(focus (simp [go_sem];done));(focus exact (by repeat (first|exact hrow|(refine OwnRow.alloc ?_ _)|(refine OwnRow.drew ?_)|(refine OwnRow.drewN ?_ _)|(refine OwnRow.exts ?_ _ _))));(focus exact (Src.block Tryz.underlying39 1 1 (cs:=#[.int .u8 kind,.int .i64 (c:Int),.int .i64 seq,.int .i64 item,.int .i64 side,.int .i64 price,.int .i64 qty,.int .i64 id]) (t:=45) (fr:=(0,0)) (heap_new (by simp [go_sem])) (by simp) (by simp [Value.oneCell'])));(focus (unfold maxLen;omega));(focus omega);intro v' k' u hv' hnil;obtain ⟨ao',cap',rfl,hcap',_⟩:=hv'.form))
  all_goals go_wp2_with fail
  all_goals go_ret
  all_goals exact ⟨rfl,put_end H.out c hc hq _ o h3 h0 HI.out HE.out _ _ _ _ l1 _ _ _ _ hv'⟩
end
end Go.Proofs.YtabbgpjofkaomaaGreatDoor
