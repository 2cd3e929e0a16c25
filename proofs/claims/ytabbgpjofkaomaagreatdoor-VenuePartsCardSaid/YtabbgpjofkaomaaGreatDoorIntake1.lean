import Derived.Test.YtabbgpjofkaomaaGreatDoorJ25
set_option linter.unusedSimpArgs false
set_option linter.unusedVariables false
/- What New, Wait, Clear, Turn and Skip of an intake compute. -/
namespace Go.Proofs.YtabbgpjofkaomaaGreatDoor
open Go.RowKit
theorem client_any (n:Int) (w:World):Calls Tryz.prog 91 #[.int .i64 n] w fun e w'=>e=.returned (.bool (inR n 0 5))∧Ex w w':=by
 by_cases h:0≤n
 ·by_cases h':n<6
  ·rw [show inR n 0 5=true from inR_iff.2 (by omega)]
   go_enter Tryz.func91,Tryz.ntmps91
   go_wp2
   all_goals go_ret
   all_goals exact ⟨rfl,(by repeat (first|exact Ex.refl _|refine Ex.alloc ?_ _|refine Ex.ext ?_ _ _|refine Ex.drew ?_|refine Ex.drewN ?_ _))⟩
  ·rw [show inR n 0 5=false from inR_not.2 (by omega)]
   go_enter Tryz.func91,Tryz.ntmps91
   go_wp2
   all_goals go_ret
   all_goals exact ⟨rfl,(by repeat (first|exact Ex.refl _|refine Ex.alloc ?_ _|refine Ex.ext ?_ _ _|refine Ex.drew ?_|refine Ex.drewN ?_ _))⟩
 ·rw [show inR n 0 5=false from inR_not.2 (by omega)]
  go_enter Tryz.func91,Tryz.ntmps91
  go_wp2
  all_goals go_ret
  all_goals exact ⟨rfl,(by repeat (first|exact Ex.refl _|refine Ex.alloc ?_ _|refine Ex.ext ?_ _ _|refine Ex.drew ?_|refine Ex.drewN ?_ _))⟩
section
variable {own:Nat→Nat} {i:Nat} {w:World} {p:Nat} {l:Nat→List Ask} {turn:Nat}
theorem IntakeAt.turnCell (h:IntakeAt own i w p l turn):w.cell? ⟨p,6,none⟩=some (.int .i64 (turn:Int)):=by
 obtain ⟨h1,h2,vs,t,h3,h4⟩:=h
 simpa using h3.cell (i:=6) (by omega)
theorem IntakeAt.free (h:IntakeAt own i w p l turn) (j:Nat):w.frozen? ⟨p,j,none⟩=false:=by
 obtain ⟨h1,h2,vs,t,h3,h4⟩:=h
 exact h3.frozen j
theorem IntakeAt.lt (h:IntakeAt own i w p l turn):p<w.heap.size:=by
 obtain ⟨h1,h2,vs,t,h3,h4⟩:=h
 exact h4.lt
theorem IntakeAt.main (h:IntakeAt own i w p l turn):own p=i:=by
 obtain ⟨h1,h2,vs,t,h3,h4⟩:=h
 exact h4.main
theorem IntakeAt.fresh (own:Nat→Nat) (i:Nat) (w:World) (t:TypeId) (hp:own w.heap.size=i):IntakeAt own i (w.alloc (.cells #[.slice none 0 0,.slice none 0 0,.slice none 0 0,.slice none 0 0,.slice none 0 0,.slice none 0 0,.int .i64 0] t)) w.heap.size (fun _=>[]) 0:=by
 refine ⟨by omega,fun c _=>by simp,fun _=>.slice none 0 0,t,World.rowIs_alloc w _ t _ (fun c hc=>?_),fun c _=>OwnRow.nil _ _ _ _ _,fun c d _ _ _ g hg=>(by cases hg),hp,by simp,fun c _ h=>by cases h⟩
 simp at hc
 have:c=0∨c=1∨c=2∨c=3∨c=4∨c=5∨c=6:=by omega
 rcases this with rfl|rfl|rfl|rfl|rfl|rfl|rfl<;>rfl
set_option maxRecDepth 100000 in
theorem intakeNew (own:Nat→Nat) (i:Nat) (w:World):Calls Tryz.prog 41 #[] w fun e w'=>e=.returned (.pointer (some ⟨w.heap.size,0,none⟩))∧ObjTo own i i w (fun o w'=>IntakeAt o i w' w.heap.size (fun _=>[]) 0) w':=by
 go_enter Tryz.func41,Tryz.ntmps41
 go_wp2
 all_goals go_ret
 all_goals exact ⟨rfl,ObjTo.of (by repeat (first|exact Kp.refl _ _ _ _|(refine Kp.alloc ?_ _)|(refine Kp.drew ?_)|(refine Kp.drewN ?_ _)|(refine Kp.ext ?_ _ _))) (IntakeAt.fresh _ _ _ _ (by simp [lab]))⟩
theorem intakeWait_in (h:IntakeAt own i w p l turn) (c:Nat) (hc:c<6):Calls Tryz.prog 62 #[.pointer (some ⟨p,0,none⟩),.int .i64 (c:Int)] w fun e w'=>e=.returned (.int .i64 ((l c).length:Nat))∧Ex w w':=by
 obtain ⟨ao,cap,_,hcell,_⟩:=h.pick c hc
 have hp:=h.lt
 have hC:=Lib.hid (client_any (c:Int))
 rw [show inR (c:Int) 0 5=true from inR_iff.2 (by omega)] at hC
 go_enter Tryz.func62,Tryz.ntmps62
 go_wp2_with (go_at_call 91;refine (hC.out _).mono ?_;rintro e w1 ⟨rfl,l1,d1,rfl⟩)
 all_goals go_ret
 all_goals exact ⟨rfl,(by repeat (first|exact Ex.refl _|refine Ex.alloc ?_ _|refine Ex.ext ?_ _ _|refine Ex.drew ?_|refine Ex.drewN ?_ _))⟩
theorem IntakeAt.setTurn (h:IntakeAt own i w p l turn) (n:Nat) (hn:n<6) (v:Value) (hv:v=.int .i64 (n:Int)):IntakeAt own i (w.setCell ⟨p,6,none⟩ v) p l n:=by
 subst hv
 obtain ⟨h1,h2,vs,t,h3,h4⟩:=h
 refine ⟨hn,h2,vs,t,(h3.set 6 _).congr fun j hj=>?_,⟨fun c hc=>?_,h4.apart,h4.main,by simp [World.setCell];exact h4.lt,h4.off⟩⟩
 ·by_cases e:j=6
  ·subst e;simp
  ·have:j<6:=by omega
   simp [e,this]
 ·exact (h4.row c hc).ex' fun g hg=>Below.heap_setCell _ _ _ _ (fun e=>h4.off c hc (hg.trans (congrArg some e)))
set_option maxRecDepth 100000 in
theorem intakeSkip1 (h:IntakeAt own i w p l turn):Calls Tryz.prog 79 #[.pointer (some ⟨p,0,none⟩),.int .i64 1] w fun e w'=>e=.returned (.tuple #[])∧w'=w.setCell ⟨p,6,none⟩ (.int .i64 (((turn+1) % 6:Nat):Int)):=by
 have hc:=h.turnCell
 have hf:=h.free 6
 have ht:=h.1
 go_enter Tryz.func79,Tryz.ntmps79
 go_wp2
 all_goals go_end0
 all_goals exact ⟨rfl,by simp⟩
set_option maxRecDepth 100000 in
theorem intakeClear_in (h:IntakeAt own i w p l turn) (c:Nat) (hc:c<6):Calls Tryz.prog 54 #[.pointer (some ⟨p,0,none⟩),.int .i64 (c:Int)] w fun e w'=>e=.returned (.int .i64 ((l c).length:Nat))∧ObjTo own i i w (fun o w'=>IntakeAt o i w' p (fun d=>if d=c then [] else l d) turn) w':=by
 obtain ⟨ao,cap,o,hcell,_,hrow,h3,h0,hi,hend⟩:=h.pick c hc
 have hf:=h.free c
 have hW:=Lib.hid (intakeWait_in h c hc)
 have hp:=h.lt
 have HE:=Lib.hid hend
 have HI:=Lib.hid hi
 have H:=Lib.hid h
 clear hend hi h
 by_cases hpos:0<(l c).length
 ·go_enter Tryz.func54,Tryz.ntmps54
  go_wp2_with (go_at_call 62;refine (hW.out).mono ?_;rintro e w1 ⟨rfl,l1,d1,rfl⟩)
  all_goals go_ret
  all_goals refine ⟨rfl,ObjTo.of (((Kp.refl _ _ _ _).setCell (fun _=>by simpa using H.out.main) _).ext _ _) (HE.out _ _ _ [] (by simp) (RowAt.nil _ _ _) (fun g hg=>by cases hg) ((((Kp.refl o 2 1 _).setCell (fun _=>by simp [h3]) _).ext _ _).far) (fun t f hf=>rowIs_ext (hf.set c _) _ _) (fun n hn e=>by rw [lab_lt hn];exact e))⟩
 ·have hz:l c=[]:=List.eq_nil_of_length_eq_zero (by omega)
  have HZ:=Lib.hid hz
  clear hz
  go_enter Tryz.func54,Tryz.ntmps54
  go_wp2_with (go_at_call 62;refine (hW.out).mono ?_;rintro e w1 ⟨rfl,l1,d1,rfl⟩)
  all_goals go_ret
  all_goals refine ⟨rfl,ObjTo.of (by repeat (first|exact Kp.refl _ _ _ _|(refine Kp.alloc ?_ _)|(refine Kp.drew ?_)|(refine Kp.drewN ?_ _)|(refine Kp.ext ?_ _ _))) ?_⟩
  all_goals have e:(fun d=>if d=c then [] else l d)=l:=by funext d;by_cases e:d=c;(subst e;simp [HZ.out]);simp [e]
  all_goals rw [e]
  all_goals exact H.out.kp (m:=1) (g:=i+1) (Kp.ext (Kp.refl _ _ _ _) _ _) (by simp) (fun n hn e=>by rw [lab_lt hn];exact e)
end
end Go.Proofs.YtabbgpjofkaomaaGreatDoor
