import Derived.Test.YtabbgpjofkaomaaGreatDoorIntake1
import Derived.Test.YtabbgpjofkaomaaGreatDoorPut
set_option linter.unusedSimpArgs false
set_option linter.unusedVariables false
/- What Put of an intake computes where it takes nothing. -/
namespace Go.Proofs.YtabbgpjofkaomaaGreatDoor
open Go.RowKit
def putErr (l:Nat→List Ask) (a:Ask):Nat:=if (a.kind != 111 && a.kind != 99) then 4 else if inR a.client 0 5 then (if 6≤(l a.client.toNat).length then 8 else 0) else 2
section
variable {own:Nat→Nat} {i:Nat} {w:World} {p:Nat} {l:Nat→List Ask} {turn:Nat}
set_option maxRecDepth 100000 in
set_option maxHeartbeats 1000000 in
theorem put_kind (a:Ask) (E:Nat→Addr) (hE:Errs E [2,4,8] w) (hk:(a.kind != 111 && a.kind != 99)=true) :
  Calls Tryz.prog 78 #[.pointer (some ⟨p,0,none⟩),a.val] w fun e w'=>e=.returned (errV E 4)∧Ex w w':=by
 have e4:w.cell? ⟨5,0,none⟩=some (.iface 357 (.pointer (some (E 4)))):=hE 4 (by decide)
 have b4:5<w.heap.size:=lt_of_cell e4
 clear hE
 obtain ⟨k1,k2⟩:(a.kind != 111)=true∧(a.kind != 99)=true:=by simpa using hk
 go_enter Tryz.func78,Tryz.ntmps78
 go_wp2_with fail
 all_goals go_ret
 all_goals exact ⟨by rw [errV_pos _ _ (by decide)];rfl,(by repeat (first|exact Ex.refl _|refine Ex.alloc ?_ _|refine Ex.ext ?_ _ _|refine Ex.drew ?_|refine Ex.drewN ?_ _))⟩
set_option maxRecDepth 100000 in
set_option maxHeartbeats 1000000 in
theorem put_client (a:Ask) (E:Nat→Addr) (hE:Errs E [2,4,8] w) (hk:(a.kind==111)=true∨(a.kind==99)=true) (hc:inR a.client 0 5=false) :
  Calls Tryz.prog 78 #[.pointer (some ⟨p,0,none⟩),a.val] w fun e w'=>e=.returned (errV E 2)∧Ex w w':=by
 have e2:w.cell? ⟨0,0,none⟩=some (.iface 357 (.pointer (some (E 2)))):=hE 2 (by decide)
 have b2:0<w.heap.size:=lt_of_cell e2
 clear hE
 have hC:=Lib.hid (client_any a.client)
 rw [hc] at hC
 clear hc
 have HK:=Lib.hid hk
 clear hk
 by_cases h111:(a.kind==111)=true
 ·have k1:(a.kind != 111)=false:=by simpa using h111
  go_enter Tryz.func78,Tryz.ntmps78
  go_wp2_with (go_at_call 91;refine (hC.out _).mono ?_;rintro e w1 ⟨rfl,l1,d1,rfl⟩)
  all_goals go_ret
  all_goals exact ⟨by rw [errV_pos _ _ (by decide)];rfl,(by repeat (first|exact Ex.refl _|refine Ex.alloc ?_ _|refine Ex.ext ?_ _ _|refine Ex.drew ?_|refine Ex.drewN ?_ _))⟩
 ·have k1:(a.kind != 99)=false:=by simpa [h111] using HK.out
  have k2:(a.kind != 111)=true:=by simpa using h111
  go_enter Tryz.func78,Tryz.ntmps78
  go_wp2_with (go_at_call 91;refine (hC.out _).mono ?_;rintro e w1 ⟨rfl,l1,d1,rfl⟩)
  all_goals go_ret
  all_goals exact ⟨by rw [errV_pos _ _ (by decide)];rfl,(by repeat (first|exact Ex.refl _|refine Ex.alloc ?_ _|refine Ex.ext ?_ _ _|refine Ex.drew ?_|refine Ex.drewN ?_ _))⟩
set_option maxRecDepth 100000 in
set_option maxHeartbeats 1000000 in
theorem put_full (h:IntakeAt own i w p l turn) (a:Ask) (E:Nat→Addr) (hE:Errs E [2,4,8] w) (hk:(a.kind==111)=true∨(a.kind==99)=true) (c:Nat) (hc:c<6) (he:a.client=(c:Int)) (hq:6≤(l c).length) :
  Calls Tryz.prog 78 #[.pointer (some ⟨p,0,none⟩),a.val] w fun e w'=>e=.returned (errV E 8)∧Ex w w':=by
 have e8:w.cell? ⟨3,0,none⟩=some (.iface 357 (.pointer (some (E 8)))):=hE 8 (by decide)
 have b8:3<w.heap.size:=lt_of_cell e8
 clear hE
 obtain ⟨ao,cap,o,hcell,_⟩:=h.pick c hc
 have hp:=h.lt
 have hC:=Lib.hid (client_any (c:Int))
 rw [show inR (c:Int) 0 5=true from inR_iff.2 (by omega)] at hC
 clear h
 obtain ⟨kind,client,seq,item,side,price,qty,id⟩:=a
 simp only at he hk
 subst he
 have HK:=Lib.hid hk
 clear hk
 have c0:(0:Int)≤(c:Int):=by omega
 have c1:(c:Int)<6:=by omega
 by_cases h111:(kind==111)=true
 ·have k1:(kind != 111)=false:=by simpa using h111
  go_enter Tryz.func78,Tryz.ntmps78
  go_wp2_with (go_at_call 91;refine (hC.out _).mono ?_;rintro e w1 ⟨rfl,l1,d1,rfl⟩)
  go_region_held3 (fun w'=>w'.cell? ⟨w.heap.size,1,none⟩=some (.int .i64 (c:Int))∧w'.cell? ⟨p,c,none⟩=some (.slice ao (l c).length cap)) (first|exact ⟨by assumption,by assumption⟩|(simp [go_sem,↓IntWalk.iteOmega, *];done)) (fail)
  go_wp2_with fail
  all_goals go_ret
  all_goals exact ⟨by rw [errV_pos _ _ (by decide)];rfl,(by repeat (first|exact Ex.refl _|refine Ex.alloc ?_ _|refine Ex.ext ?_ _ _|refine Ex.drew ?_|refine Ex.drewN ?_ _))⟩
 ·have k1:(kind != 99)=false:=by simpa [h111] using HK.out
  have k2:(kind != 111)=true:=by simpa using h111
  go_enter Tryz.func78,Tryz.ntmps78
  go_wp2_with (go_at_call 91;refine (hC.out _).mono ?_;rintro e w1 ⟨rfl,l1,d1,rfl⟩)
  go_region_held3 (fun w'=>w'.cell? ⟨w.heap.size,1,none⟩=some (.int .i64 (c:Int))∧w'.cell? ⟨p,c,none⟩=some (.slice ao (l c).length cap)) (first|exact ⟨by assumption,by assumption⟩|(simp [go_sem,↓IntWalk.iteOmega, *];done)) (fail)
  go_wp2_with fail
  all_goals go_ret
  all_goals exact ⟨by rw [errV_pos _ _ (by decide)];rfl,(by repeat (first|exact Ex.refl _|refine Ex.alloc ?_ _|refine Ex.ext ?_ _ _|refine Ex.drew ?_|refine Ex.drewN ?_ _))⟩
end
end Go.Proofs.YtabbgpjofkaomaaGreatDoor

/- What Put of an intake computes, whatever it is given. -/
namespace Go.Proofs.YtabbgpjofkaomaaGreatDoor
open Go.RowKit
def putTo (l:Nat→List Ask) (a:Ask):Nat→List Ask:=if putErr l a=0 then (fun d=>if d=a.client.toNat then l a.client.toNat++[a] else l d) else l
theorem put_any {own:Nat→Nat} {i:Nat} {w:World} {p:Nat} {l:Nat→List Ask} {turn:Nat} (h:IntakeAt own i w p l turn) (a:Ask) (E:Nat→Addr) (hE:Errs E [2,4,8] w) :
  Calls Tryz.prog 78 #[.pointer (some ⟨p,0,none⟩),a.val] w fun e w'=>e=.returned (errV E (putErr l a))∧ObjTo own i i w (fun o w'=>IntakeAt o i w' p (putTo l a) turn) w':=by
 have keep:∀ w',Ex w w'→ObjTo own i i w (fun o w'=>IntakeAt o i w' p l turn) w':=fun w' hx =>
  ObjTo.of_ex hx (h.kp (m:=1) (g:=i+1) (Kp.of_below hx.below) (by simp) (fun n hn e=>by rw [lab_lt hn];exact e))
 by_cases hk:(a.kind != 111 && a.kind != 99)=true
 ·have e:putErr l a=4:=by simp only [putErr,hk,if_true]
  have e2:putTo l a=l:=by unfold putTo;rw [if_neg (by rw [e];decide)]
  rw [e,e2]
  exact (put_kind a E hE hk).mono fun e w' ⟨h1,h2⟩=>⟨h1,keep w' h2⟩
 ·have hk':(a.kind==111)=true∨(a.kind==99)=true:=by
   simp at hk
   by_cases h1:a.kind=111
   ·exact .inl (by simpa using h1)
   ·exact .inr (by simpa using hk h1)
  cases hc:inR a.client 0 5
  ·have e:putErr l a=2:=by simp [putErr,hk,hc]
   have e2:putTo l a=l:=by unfold putTo;rw [if_neg (by rw [e];decide)]
   rw [e,e2]
   exact (put_client a E hE hk' hc).mono fun e w' ⟨h1,h2⟩=>⟨h1,keep w' h2⟩
  ·obtain ⟨h0,h5⟩:=inR_iff.1 hc
   have hcn:a.client=((a.client.toNat:Nat):Int):=by omega
   by_cases hq:6≤(l a.client.toNat).length
   ·have e:putErr l a=8:=by simp [putErr,hk,hc,hq]
    have e2:putTo l a=l:=by unfold putTo;rw [if_neg (by rw [e];decide)]
    rw [e,e2]
    exact (put_full h a E hE hk' a.client.toNat (by omega) hcn hq).mono fun e w' ⟨h1,h2⟩=>⟨h1,keep w' h2⟩
   ·have e:putErr l a=0:=by simp [putErr,hk,hc,hq]
    have e2:putTo l a=(fun d=>if d=a.client.toNat then l a.client.toNat++[a] else l d):=by unfold putTo;rw [if_pos e]
    rw [e,e2,errV_zero]
    exact put_ok h a E hk' a.client.toNat (by omega) hcn (by omega)
end Go.Proofs.YtabbgpjofkaomaaGreatDoor
