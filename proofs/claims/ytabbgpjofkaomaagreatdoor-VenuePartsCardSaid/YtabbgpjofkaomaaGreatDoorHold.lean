import Derived.Test.YtabbgpjofkaomaaGreatDoorJ3
set_option linter.unusedSimpArgs false
set_option linter.unusedVariables false
/- What Hold and Free of package purse compute. -/
namespace Go.Proofs.YtabbgpjofkaomaaGreatDoor
open Go.RowKit
section
variable {own:Nat→Nat} {i:Nat} {w:World} {p:Nat} {P:Pu}
set_option maxRecDepth 100000 in
set_option maxHeartbeats 1000000 in
theorem hold_buy (h:PurseAt own i w p P) (c it:Nat) (hc:c<6) (hit:it<3) (x:Lot) (ho:x.owner=(c:Int)) (E:Nat→Addr) (hE:Errs E [2,10] w) (hr:rightB (it:Int) x=true) (hs:x.side=0) (hok:¬ P c 0 - P c 1<x.price*x.qty) :
  Calls Tryz.prog 150 #[.pointer (some ⟨p,0,none⟩),.int .i64 (it:Int),x.val] w fun e w'=>e=.returned .nilIface∧ObjTo own i i w (fun o w'=>PurseAt o i w' p (P.set c 1 (P c 1+x.price*x.qty))) w':=by
 have HR:=Lib.hid (fun w (h:Errs E [2] w)=>right_any (it:Int) x E w h)
 rw [hr] at HR
 simp only [rightB,Bool.and_eq_true] at hr
 obtain ⟨_,_,_,hpr,hq⟩:=Lot.okC hr.2
 have hm:=mul_bd hpr.1 hpr.2 hq.1 hq.2
 obtain ⟨v1,v2,v3,v4⟩:=h.2.1 c hc
 obtain ⟨u1,u2,u3⟩:=v4 it hit
 have q0:=h.cell hc (j:=0) (by omega)
 have q1:=h.cell hc (j:=1) (by omega)
 have q2:=h.cell hc (j:=2+it) (by omega)
 have q5:=h.cell hc (j:=5+it) (by omega)
 simp only [Nat.add_zero,← Nat.add_assoc] at q0 q2 q5
 have hf1:=h.free (c*8+1)
 have hf5:=h.free (c*8+5+it)
 have hp:=h.lt
 have HE:=Lib.hid hE
 have H:=Lib.hid h
 have c0:(0:Int)≤(c:Int):=by omega
 have c6:(c:Int)<6:=by omega
 have i0:(0:Int)≤(it:Int):=by omega
 have i3:(it:Int)<3:=by omega
 obtain ⟨id,owner,side,price,qty⟩:=x
 simp only at ho hs hok hm hpr hq
 subst ho hs
 clear hE hr h v4
 have k1:IntKind.i64.wrap (price*qty)=price*qty:=IntWalk.i64_in _ (by omega)
 have k2:IntKind.i64.wrap (P c 0 - P c 1)=P c 0 - P c 1:=IntWalk.i64_in _ (by omega)
 have k3:IntKind.i64.wrap (P c (2+it) - P c (5+it))=P c (2+it) - P c (5+it):=IntWalk.i64_in _ (by omega)
 have k4:decide (P c 0 - P c 1<price*qty)=false:=decide_eq_false hok
 have k5:IntKind.i64.wrap (P c 1+price*qty)=P c 1+price*qty:=IntWalk.i64_in _ (by omega)
 go_enter Tryz.func150,Tryz.ntmps150
 go_wp2_with (go_at_call 179;refine (HR.out _ (by exact Errs.sub (HE.out.ex (by repeat (first|exact Ex.refl _|refine Ex.alloc ?_ _|refine Ex.ext ?_ _ _|refine Ex.drew ?_|refine Ex.drewN ?_ _))) (by decide))).mono ?_;rintro e w1 ⟨rfl,l1,d1,rfl⟩)
 go_region_held3 (fun w'=>w'.cell? ⟨w.heap.size,1,none⟩=some (.int .i64 (c:Int))) (first|assumption|(simp [go_sem,↓IntWalk.iteOmega, *];done)) (fail)
 go_wp2_with fail
 have n1:p≠w.heap.size:=by omega
 have n2:p<w.heap.size+1:=by omega
 go_quiet (fail)
 go_wp2_with fail
 go_region
 all_goals go_wp2_with fail
 all_goals go_ret
 all_goals refine ⟨rfl,ObjTo.of ((((Kp.refl _ _ _ _).setCell (fun _=>by simpa using H.out.1) _).alloc _).ext _ _) ((((H.out.relabel (fun n hn e=>by rw [lab_lt hn];exact e)).set hc (j:=1) (by omega) _ (H.out.2.1.set_held _ (by omega) (by omega)) rfl (by omega)).alloc _).exts _ _)⟩
set_option maxRecDepth 100000 in
set_option maxHeartbeats 1000000 in
theorem hold_buy_poor (h:PurseAt own i w p P) (c it:Nat) (hc:c<6) (hit:it<3) (x:Lot) (ho:x.owner=(c:Int)) (E:Nat→Addr) (hE:Errs E [2,10] w) (hr:rightB (it:Int) x=true) (hs:x.side=0) (hok:P c 0 - P c 1<x.price*x.qty) :
  Calls Tryz.prog 150 #[.pointer (some ⟨p,0,none⟩),.int .i64 (it:Int),x.val] w fun e w'=>e=.returned (errV E 10)∧ObjTo own i i w (fun o w'=>PurseAt o i w' p P) w':=by
 have e10:w.cell? ⟨9,0,none⟩=some (.iface 357 (.pointer (some (E 10)))):=hE 10 (by decide)
 have b10:9<w.heap.size:=lt_of_cell e10
 have HR:=Lib.hid (fun w (h:Errs E [2] w)=>right_any (it:Int) x E w h)
 rw [hr] at HR
 simp only [rightB,Bool.and_eq_true] at hr
 obtain ⟨_,_,_,hpr,hq⟩:=Lot.okC hr.2
 have hm:=mul_bd hpr.1 hpr.2 hq.1 hq.2
 obtain ⟨v1,v2,v3,v4⟩:=h.2.1 c hc
 obtain ⟨u1,u2,u3⟩:=v4 it hit
 have q0:=h.cell hc (j:=0) (by omega)
 have q1:=h.cell hc (j:=1) (by omega)
 have q2:=h.cell hc (j:=2+it) (by omega)
 have q5:=h.cell hc (j:=5+it) (by omega)
 simp only [Nat.add_zero,← Nat.add_assoc] at q0 q2 q5
 have hf1:=h.free (c*8+1)
 have hf5:=h.free (c*8+5+it)
 have hp:=h.lt
 have HE:=Lib.hid hE
 have H:=Lib.hid h
 have c0:(0:Int)≤(c:Int):=by omega
 have c6:(c:Int)<6:=by omega
 have i0:(0:Int)≤(it:Int):=by omega
 have i3:(it:Int)<3:=by omega
 obtain ⟨id,owner,side,price,qty⟩:=x
 simp only at ho hs hok hm hpr hq
 subst ho hs
 clear hE hr h v4
 have k1:IntKind.i64.wrap (price*qty)=price*qty:=IntWalk.i64_in _ (by omega)
 have k2:IntKind.i64.wrap (P c 0 - P c 1)=P c 0 - P c 1:=IntWalk.i64_in _ (by omega)
 have k3:IntKind.i64.wrap (P c (2+it) - P c (5+it))=P c (2+it) - P c (5+it):=IntWalk.i64_in _ (by omega)
 have k4:decide (P c 0 - P c 1<price*qty)=true:=decide_eq_true hok
 go_enter Tryz.func150,Tryz.ntmps150
 go_wp2_with (go_at_call 179;refine (HR.out _ (by exact Errs.sub (HE.out.ex (by repeat (first|exact Ex.refl _|refine Ex.alloc ?_ _|refine Ex.ext ?_ _ _|refine Ex.drew ?_|refine Ex.drewN ?_ _))) (by decide))).mono ?_;rintro e w1 ⟨rfl,l1,d1,rfl⟩)
 go_region_held3 (fun w'=>w'.cell? ⟨w.heap.size,1,none⟩=some (.int .i64 (c:Int))) (first|assumption|(simp [go_sem,↓IntWalk.iteOmega, *];done)) (fail)
 go_wp2_with fail
 have n1:p≠w.heap.size:=by omega
 have n2:p<w.heap.size+1:=by omega
 go_quiet (fail)
 go_wp2_with fail
 all_goals go_ret
 all_goals exact ⟨by rw [errV_pos _ _ (by decide)];rfl,ObjTo.of_ex (by repeat (first|exact Ex.refl _|refine Ex.alloc ?_ _|refine Ex.ext ?_ _ _|refine Ex.drew ?_|refine Ex.drewN ?_ _)) ((H.out.relabel (fun n hn e=>by rw [lab_lt hn];exact e)).later (by repeat (first|exact Ex.refl _|refine Ex.alloc ?_ _|refine Ex.ext ?_ _ _|refine Ex.drew ?_|refine Ex.drewN ?_ _)))⟩
set_option maxRecDepth 100000 in
set_option maxHeartbeats 1000000 in
theorem hold_sell (h:PurseAt own i w p P) (c it:Nat) (hc:c<6) (hit:it<3) (x:Lot) (ho:x.owner=(c:Int)) (E:Nat→Addr) (hE:Errs E [2,10] w) (hr:rightB (it:Int) x=true) (hs:x.side=1) (hok:¬ P c (2+it) - P c (5+it)<x.qty) :
  Calls Tryz.prog 150 #[.pointer (some ⟨p,0,none⟩),.int .i64 (it:Int),x.val] w fun e w'=>e=.returned .nilIface∧ObjTo own i i w (fun o w'=>PurseAt o i w' p (P.set c (5+it) (P c (5+it)+x.qty))) w':=by
 have HR:=Lib.hid (fun w (h:Errs E [2] w)=>right_any (it:Int) x E w h)
 rw [hr] at HR
 simp only [rightB,Bool.and_eq_true] at hr
 obtain ⟨_,_,_,hpr,hq⟩:=Lot.okC hr.2
 have hm:=mul_bd hpr.1 hpr.2 hq.1 hq.2
 obtain ⟨v1,v2,v3,v4⟩:=h.2.1 c hc
 obtain ⟨u1,u2,u3⟩:=v4 it hit
 have q0:=h.cell hc (j:=0) (by omega)
 have q1:=h.cell hc (j:=1) (by omega)
 have q2:=h.cell hc (j:=2+it) (by omega)
 have q5:=h.cell hc (j:=5+it) (by omega)
 simp only [Nat.add_zero,← Nat.add_assoc] at q0 q2 q5
 have hf1:=h.free (c*8+1)
 have hf5:=h.free (c*8+5+it)
 have hp:=h.lt
 have HE:=Lib.hid hE
 have H:=Lib.hid h
 have c0:(0:Int)≤(c:Int):=by omega
 have c6:(c:Int)<6:=by omega
 have i0:(0:Int)≤(it:Int):=by omega
 have i3:(it:Int)<3:=by omega
 obtain ⟨id,owner,side,price,qty⟩:=x
 simp only at ho hs hok hm hpr hq
 subst ho hs
 clear hE hr h v4
 have k1:IntKind.i64.wrap (price*qty)=price*qty:=IntWalk.i64_in _ (by omega)
 have k2:IntKind.i64.wrap (P c 0 - P c 1)=P c 0 - P c 1:=IntWalk.i64_in _ (by omega)
 have k3:IntKind.i64.wrap (P c (2+it) - P c (5+it))=P c (2+it) - P c (5+it):=IntWalk.i64_in _ (by omega)
 have k4:decide (P c (2+it) - P c (5+it)<qty)=false:=decide_eq_false hok
 have k5:IntKind.i64.wrap (P c (5+it)+qty)=P c (5+it)+qty:=IntWalk.i64_in _ (by omega)
 go_enter Tryz.func150,Tryz.ntmps150
 go_wp2_with (go_at_call 179;refine (HR.out _ (by exact Errs.sub (HE.out.ex (by repeat (first|exact Ex.refl _|refine Ex.alloc ?_ _|refine Ex.ext ?_ _ _|refine Ex.drew ?_|refine Ex.drewN ?_ _))) (by decide))).mono ?_;rintro e w1 ⟨rfl,l1,d1,rfl⟩)
 go_region_held3 (fun w'=>w'.cell? ⟨w.heap.size,1,none⟩=some (.int .i64 (c:Int))) (first|assumption|(simp [go_sem,↓IntWalk.iteOmega, *];done)) (fail)
 go_wp2_with fail
 have n1:p≠w.heap.size:=by omega
 have n2:p<w.heap.size+1:=by omega
 go_quiet (fail)
 go_wp2_with fail
 go_region
 all_goals go_wp2_with fail
 all_goals go_ret
 all_goals refine ⟨rfl,ObjTo.of ((((Kp.refl _ _ _ _).setCell (fun _=>by simpa using H.out.1) _).alloc _).ext _ _) ((((H.out.relabel (fun n hn e=>by rw [lab_lt hn];exact e)).set hc (j:=5+it) (by omega) _ (H.out.2.1.set_kept hit _ (by omega) (by omega)) rfl (by omega)).alloc _).exts _ _)⟩
set_option maxRecDepth 100000 in
set_option maxHeartbeats 1000000 in
theorem hold_sell_poor (h:PurseAt own i w p P) (c it:Nat) (hc:c<6) (hit:it<3) (x:Lot) (ho:x.owner=(c:Int)) (E:Nat→Addr) (hE:Errs E [2,10] w) (hr:rightB (it:Int) x=true) (hs:x.side=1) (hok:P c (2+it) - P c (5+it)<x.qty) :
  Calls Tryz.prog 150 #[.pointer (some ⟨p,0,none⟩),.int .i64 (it:Int),x.val] w fun e w'=>e=.returned (errV E 10)∧ObjTo own i i w (fun o w'=>PurseAt o i w' p P) w':=by
 have e10:w.cell? ⟨9,0,none⟩=some (.iface 357 (.pointer (some (E 10)))):=hE 10 (by decide)
 have b10:9<w.heap.size:=lt_of_cell e10
 have HR:=Lib.hid (fun w (h:Errs E [2] w)=>right_any (it:Int) x E w h)
 rw [hr] at HR
 simp only [rightB,Bool.and_eq_true] at hr
 obtain ⟨_,_,_,hpr,hq⟩:=Lot.okC hr.2
 have hm:=mul_bd hpr.1 hpr.2 hq.1 hq.2
 obtain ⟨v1,v2,v3,v4⟩:=h.2.1 c hc
 obtain ⟨u1,u2,u3⟩:=v4 it hit
 have q0:=h.cell hc (j:=0) (by omega)
 have q1:=h.cell hc (j:=1) (by omega)
 have q2:=h.cell hc (j:=2+it) (by omega)
 have q5:=h.cell hc (j:=5+it) (by omega)
 simp only [Nat.add_zero,← Nat.add_assoc] at q0 q2 q5
 have hf1:=h.free (c*8+1)
 have hf5:=h.free (c*8+5+it)
 have hp:=h.lt
 have HE:=Lib.hid hE
 have H:=Lib.hid h
 have c0:(0:Int)≤(c:Int):=by omega
 have c6:(c:Int)<6:=by omega
 have i0:(0:Int)≤(it:Int):=by omega
 have i3:(it:Int)<3:=by omega
 obtain ⟨id,owner,side,price,qty⟩:=x
 simp only at ho hs hok hm hpr hq
 subst ho hs
 clear hE hr h v4
 have k1:IntKind.i64.wrap (price*qty)=price*qty:=IntWalk.i64_in _ (by omega)
 have k2:IntKind.i64.wrap (P c 0 - P c 1)=P c 0 - P c 1:=IntWalk.i64_in _ (by omega)
 have k3:IntKind.i64.wrap (P c (2+it) - P c (5+it))=P c (2+it) - P c (5+it):=IntWalk.i64_in _ (by omega)
 have k4:decide (P c (2+it) - P c (5+it)<qty)=true:=decide_eq_true hok
 go_enter Tryz.func150,Tryz.ntmps150
 go_wp2_with (go_at_call 179;refine (HR.out _ (by exact Errs.sub (HE.out.ex (by repeat (first|exact Ex.refl _|refine Ex.alloc ?_ _|refine Ex.ext ?_ _ _|refine Ex.drew ?_|refine Ex.drewN ?_ _))) (by decide))).mono ?_;rintro e w1 ⟨rfl,l1,d1,rfl⟩)
 go_region_held3 (fun w'=>w'.cell? ⟨w.heap.size,1,none⟩=some (.int .i64 (c:Int))) (first|assumption|(simp [go_sem,↓IntWalk.iteOmega, *];done)) (fail)
 go_wp2_with fail
 have n1:p≠w.heap.size:=by omega
 have n2:p<w.heap.size+1:=by omega
 go_quiet (fail)
 go_wp2_with fail
 all_goals go_ret
 all_goals exact ⟨by rw [errV_pos _ _ (by decide)];rfl,ObjTo.of_ex (by repeat (first|exact Ex.refl _|refine Ex.alloc ?_ _|refine Ex.ext ?_ _ _|refine Ex.drew ?_|refine Ex.drewN ?_ _)) ((H.out.relabel (fun n hn e=>by rw [lab_lt hn];exact e)).later (by repeat (first|exact Ex.refl _|refine Ex.alloc ?_ _|refine Ex.ext ?_ _ _|refine Ex.drew ?_|refine Ex.drewN ?_ _)))⟩
set_option maxRecDepth 100000 in
set_option maxHeartbeats 1000000 in
theorem free_buy (h:PurseAt own i w p P) (c it:Nat) (hc:c<6) (hit:it<3) (x:Lot) (ho:x.owner=(c:Int)) (E:Nat→Addr) (hE:Errs E [2,10] w) (hr:rightB (it:Int) x=true) (hs:x.side=0) (hok:¬ P c 1<x.price*x.qty) :
  Calls Tryz.prog 147 #[.pointer (some ⟨p,0,none⟩),.int .i64 (it:Int),x.val] w fun e w'=>e=.returned .nilIface∧ObjTo own i i w (fun o w'=>PurseAt o i w' p (P.set c 1 (P c 1 - x.price*x.qty))) w':=by
 have HR:=Lib.hid (fun w (h:Errs E [2] w)=>right_any (it:Int) x E w h)
 rw [hr] at HR
 simp only [rightB,Bool.and_eq_true] at hr
 obtain ⟨_,_,_,hpr,hq⟩:=Lot.okC hr.2
 have hm:=mul_bd hpr.1 hpr.2 hq.1 hq.2
 obtain ⟨v1,v2,v3,v4⟩:=h.2.1 c hc
 obtain ⟨u1,u2,u3⟩:=v4 it hit
 have q0:=h.cell hc (j:=0) (by omega)
 have q1:=h.cell hc (j:=1) (by omega)
 have q2:=h.cell hc (j:=2+it) (by omega)
 have q5:=h.cell hc (j:=5+it) (by omega)
 simp only [Nat.add_zero,← Nat.add_assoc] at q0 q2 q5
 have hf1:=h.free (c*8+1)
 have hf5:=h.free (c*8+5+it)
 have hp:=h.lt
 have HE:=Lib.hid hE
 have H:=Lib.hid h
 have c0:(0:Int)≤(c:Int):=by omega
 have c6:(c:Int)<6:=by omega
 have i0:(0:Int)≤(it:Int):=by omega
 have i3:(it:Int)<3:=by omega
 obtain ⟨id,owner,side,price,qty⟩:=x
 simp only at ho hs hok hm hpr hq
 subst ho hs
 clear hE hr h v4
 have k1:IntKind.i64.wrap (price*qty)=price*qty:=IntWalk.i64_in _ (by omega)
 have k2:IntKind.i64.wrap (P c 0 - P c 1)=P c 0 - P c 1:=IntWalk.i64_in _ (by omega)
 have k3:IntKind.i64.wrap (P c (2+it) - P c (5+it))=P c (2+it) - P c (5+it):=IntWalk.i64_in _ (by omega)
 have k4:decide (P c 1<price*qty)=false:=decide_eq_false hok
 have k5:IntKind.i64.wrap (P c 1 - price*qty)=P c 1 - price*qty:=IntWalk.i64_in _ (by omega)
 go_enter Tryz.func147,Tryz.ntmps147
 go_wp2_with (go_at_call 179;refine (HR.out _ (by exact Errs.sub (HE.out.ex (by repeat (first|exact Ex.refl _|refine Ex.alloc ?_ _|refine Ex.ext ?_ _ _|refine Ex.drew ?_|refine Ex.drewN ?_ _))) (by decide))).mono ?_;rintro e w1 ⟨rfl,l1,d1,rfl⟩)
 go_region_held3 (fun w'=>w'.cell? ⟨w.heap.size,1,none⟩=some (.int .i64 (c:Int))) (first|assumption|(simp [go_sem,↓IntWalk.iteOmega, *];done)) (fail)
 go_wp2_with fail
 have n1:p≠w.heap.size:=by omega
 have n2:p<w.heap.size+1:=by omega
 go_quiet (fail)
 go_wp2_with fail
 go_region
 all_goals go_wp2_with fail
 all_goals go_ret
 all_goals refine ⟨rfl,ObjTo.of ((((Kp.refl _ _ _ _).setCell (fun _=>by simpa using H.out.1) _).alloc _).ext _ _) ((((H.out.relabel (fun n hn e=>by rw [lab_lt hn];exact e)).set hc (j:=1) (by omega) _ (H.out.2.1.set_held _ (by omega) (by omega)) rfl (by omega)).alloc _).exts _ _)⟩
set_option maxRecDepth 100000 in
set_option maxHeartbeats 1000000 in
theorem free_buy_poor (h:PurseAt own i w p P) (c it:Nat) (hc:c<6) (hit:it<3) (x:Lot) (ho:x.owner=(c:Int)) (E:Nat→Addr) (hE:Errs E [2,10] w) (hr:rightB (it:Int) x=true) (hs:x.side=0) (hok:P c 1<x.price*x.qty) :
  Calls Tryz.prog 147 #[.pointer (some ⟨p,0,none⟩),.int .i64 (it:Int),x.val] w fun e w'=>e=.returned (errV E 10)∧ObjTo own i i w (fun o w'=>PurseAt o i w' p P) w':=by
 have e10:w.cell? ⟨9,0,none⟩=some (.iface 357 (.pointer (some (E 10)))):=hE 10 (by decide)
 have b10:9<w.heap.size:=lt_of_cell e10
 have HR:=Lib.hid (fun w (h:Errs E [2] w)=>right_any (it:Int) x E w h)
 rw [hr] at HR
 simp only [rightB,Bool.and_eq_true] at hr
 obtain ⟨_,_,_,hpr,hq⟩:=Lot.okC hr.2
 have hm:=mul_bd hpr.1 hpr.2 hq.1 hq.2
 obtain ⟨v1,v2,v3,v4⟩:=h.2.1 c hc
 obtain ⟨u1,u2,u3⟩:=v4 it hit
 have q0:=h.cell hc (j:=0) (by omega)
 have q1:=h.cell hc (j:=1) (by omega)
 have q2:=h.cell hc (j:=2+it) (by omega)
 have q5:=h.cell hc (j:=5+it) (by omega)
 simp only [Nat.add_zero,← Nat.add_assoc] at q0 q2 q5
 have hf1:=h.free (c*8+1)
 have hf5:=h.free (c*8+5+it)
 have hp:=h.lt
 have HE:=Lib.hid hE
 have H:=Lib.hid h
 have c0:(0:Int)≤(c:Int):=by omega
 have c6:(c:Int)<6:=by omega
 have i0:(0:Int)≤(it:Int):=by omega
 have i3:(it:Int)<3:=by omega
 obtain ⟨id,owner,side,price,qty⟩:=x
 simp only at ho hs hok hm hpr hq
 subst ho hs
 clear hE hr h v4
 have k1:IntKind.i64.wrap (price*qty)=price*qty:=IntWalk.i64_in _ (by omega)
 have k2:IntKind.i64.wrap (P c 0 - P c 1)=P c 0 - P c 1:=IntWalk.i64_in _ (by omega)
 have k3:IntKind.i64.wrap (P c (2+it) - P c (5+it))=P c (2+it) - P c (5+it):=IntWalk.i64_in _ (by omega)
 have k4:decide (P c 1<price*qty)=true:=decide_eq_true hok
 go_enter Tryz.func147,Tryz.ntmps147
 go_wp2_with (go_at_call 179;refine (HR.out _ (by exact Errs.sub (HE.out.ex (by repeat (first|exact Ex.refl _|refine Ex.alloc ?_ _|refine Ex.ext ?_ _ _|refine Ex.drew ?_|refine Ex.drewN ?_ _))) (by decide))).mono ?_;rintro e w1 ⟨rfl,l1,d1,rfl⟩)
 go_region_held3 (fun w'=>w'.cell? ⟨w.heap.size,1,none⟩=some (.int .i64 (c:Int))) (first|assumption|(simp [go_sem,↓IntWalk.iteOmega, *];done)) (fail)
 go_wp2_with fail
 have n1:p≠w.heap.size:=by omega
 have n2:p<w.heap.size+1:=by omega
 go_quiet (fail)
 go_wp2_with fail
 all_goals go_ret
 all_goals exact ⟨by rw [errV_pos _ _ (by decide)];rfl,ObjTo.of_ex (by repeat (first|exact Ex.refl _|refine Ex.alloc ?_ _|refine Ex.ext ?_ _ _|refine Ex.drew ?_|refine Ex.drewN ?_ _)) ((H.out.relabel (fun n hn e=>by rw [lab_lt hn];exact e)).later (by repeat (first|exact Ex.refl _|refine Ex.alloc ?_ _|refine Ex.ext ?_ _ _|refine Ex.drew ?_|refine Ex.drewN ?_ _)))⟩
set_option maxRecDepth 100000 in
set_option maxHeartbeats 1000000 in
theorem free_sell (h:PurseAt own i w p P) (c it:Nat) (hc:c<6) (hit:it<3) (x:Lot) (ho:x.owner=(c:Int)) (E:Nat→Addr) (hE:Errs E [2,10] w) (hr:rightB (it:Int) x=true) (hs:x.side=1) (hok:¬ P c (5+it)<x.qty) :
  Calls Tryz.prog 147 #[.pointer (some ⟨p,0,none⟩),.int .i64 (it:Int),x.val] w fun e w'=>e=.returned .nilIface∧ObjTo own i i w (fun o w'=>PurseAt o i w' p (P.set c (5+it) (P c (5+it) - x.qty))) w':=by
 have HR:=Lib.hid (fun w (h:Errs E [2] w)=>right_any (it:Int) x E w h)
 rw [hr] at HR
 simp only [rightB,Bool.and_eq_true] at hr
 obtain ⟨_,_,_,hpr,hq⟩:=Lot.okC hr.2
 have hm:=mul_bd hpr.1 hpr.2 hq.1 hq.2
 obtain ⟨v1,v2,v3,v4⟩:=h.2.1 c hc
 obtain ⟨u1,u2,u3⟩:=v4 it hit
 have q0:=h.cell hc (j:=0) (by omega)
 have q1:=h.cell hc (j:=1) (by omega)
 have q2:=h.cell hc (j:=2+it) (by omega)
 have q5:=h.cell hc (j:=5+it) (by omega)
 simp only [Nat.add_zero,← Nat.add_assoc] at q0 q2 q5
 have hf1:=h.free (c*8+1)
 have hf5:=h.free (c*8+5+it)
 have hp:=h.lt
 have HE:=Lib.hid hE
 have H:=Lib.hid h
 have c0:(0:Int)≤(c:Int):=by omega
 have c6:(c:Int)<6:=by omega
 have i0:(0:Int)≤(it:Int):=by omega
 have i3:(it:Int)<3:=by omega
 obtain ⟨id,owner,side,price,qty⟩:=x
 simp only at ho hs hok hm hpr hq
 subst ho hs
 clear hE hr h v4
 have k1:IntKind.i64.wrap (price*qty)=price*qty:=IntWalk.i64_in _ (by omega)
 have k2:IntKind.i64.wrap (P c 0 - P c 1)=P c 0 - P c 1:=IntWalk.i64_in _ (by omega)
 have k3:IntKind.i64.wrap (P c (2+it) - P c (5+it))=P c (2+it) - P c (5+it):=IntWalk.i64_in _ (by omega)
 have k4:decide (P c (5+it)<qty)=false:=decide_eq_false hok
 have k5:IntKind.i64.wrap (P c (5+it) - qty)=P c (5+it) - qty:=IntWalk.i64_in _ (by omega)
 go_enter Tryz.func147,Tryz.ntmps147
 go_wp2_with (go_at_call 179;refine (HR.out _ (by exact Errs.sub (HE.out.ex (by repeat (first|exact Ex.refl _|refine Ex.alloc ?_ _|refine Ex.ext ?_ _ _|refine Ex.drew ?_|refine Ex.drewN ?_ _))) (by decide))).mono ?_;rintro e w1 ⟨rfl,l1,d1,rfl⟩)
 go_region_held3 (fun w'=>w'.cell? ⟨w.heap.size,1,none⟩=some (.int .i64 (c:Int))) (first|assumption|(simp [go_sem,↓IntWalk.iteOmega, *];done)) (fail)
 go_wp2_with fail
 have n1:p≠w.heap.size:=by omega
 have n2:p<w.heap.size+1:=by omega
 go_quiet (fail)
 go_wp2_with fail
 go_region
 all_goals go_wp2_with fail
 all_goals go_ret
 all_goals refine ⟨rfl,ObjTo.of ((((Kp.refl _ _ _ _).setCell (fun _=>by simpa using H.out.1) _).alloc _).ext _ _) ((((H.out.relabel (fun n hn e=>by rw [lab_lt hn];exact e)).set hc (j:=5+it) (by omega) _ (H.out.2.1.set_kept hit _ (by omega) (by omega)) rfl (by omega)).alloc _).exts _ _)⟩
set_option maxRecDepth 100000 in
set_option maxHeartbeats 1000000 in
theorem free_sell_poor (h:PurseAt own i w p P) (c it:Nat) (hc:c<6) (hit:it<3) (x:Lot) (ho:x.owner=(c:Int)) (E:Nat→Addr) (hE:Errs E [2,10] w) (hr:rightB (it:Int) x=true) (hs:x.side=1) (hok:P c (5+it)<x.qty) :
  Calls Tryz.prog 147 #[.pointer (some ⟨p,0,none⟩),.int .i64 (it:Int),x.val] w fun e w'=>e=.returned (errV E 10)∧ObjTo own i i w (fun o w'=>PurseAt o i w' p P) w':=by
 have e10:w.cell? ⟨9,0,none⟩=some (.iface 357 (.pointer (some (E 10)))):=hE 10 (by decide)
 have b10:9<w.heap.size:=lt_of_cell e10
 have HR:=Lib.hid (fun w (h:Errs E [2] w)=>right_any (it:Int) x E w h)
 rw [hr] at HR
 simp only [rightB,Bool.and_eq_true] at hr
 obtain ⟨_,_,_,hpr,hq⟩:=Lot.okC hr.2
 have hm:=mul_bd hpr.1 hpr.2 hq.1 hq.2
 obtain ⟨v1,v2,v3,v4⟩:=h.2.1 c hc
 obtain ⟨u1,u2,u3⟩:=v4 it hit
 have q0:=h.cell hc (j:=0) (by omega)
 have q1:=h.cell hc (j:=1) (by omega)
 have q2:=h.cell hc (j:=2+it) (by omega)
 have q5:=h.cell hc (j:=5+it) (by omega)
 simp only [Nat.add_zero,← Nat.add_assoc] at q0 q2 q5
 have hf1:=h.free (c*8+1)
 have hf5:=h.free (c*8+5+it)
 have hp:=h.lt
 have HE:=Lib.hid hE
 have H:=Lib.hid h
 have c0:(0:Int)≤(c:Int):=by omega
 have c6:(c:Int)<6:=by omega
 have i0:(0:Int)≤(it:Int):=by omega
 have i3:(it:Int)<3:=by omega
 obtain ⟨id,owner,side,price,qty⟩:=x
 simp only at ho hs hok hm hpr hq
 subst ho hs
 clear hE hr h v4
 have k1:IntKind.i64.wrap (price*qty)=price*qty:=IntWalk.i64_in _ (by omega)
 have k2:IntKind.i64.wrap (P c 0 - P c 1)=P c 0 - P c 1:=IntWalk.i64_in _ (by omega)
 have k3:IntKind.i64.wrap (P c (2+it) - P c (5+it))=P c (2+it) - P c (5+it):=IntWalk.i64_in _ (by omega)
 have k4:decide (P c (5+it)<qty)=true:=decide_eq_true hok
 go_enter Tryz.func147,Tryz.ntmps147
 go_wp2_with (go_at_call 179;refine (HR.out _ (by exact Errs.sub (HE.out.ex (by repeat (first|exact Ex.refl _|refine Ex.alloc ?_ _|refine Ex.ext ?_ _ _|refine Ex.drew ?_|refine Ex.drewN ?_ _))) (by decide))).mono ?_;rintro e w1 ⟨rfl,l1,d1,rfl⟩)
 go_region_held3 (fun w'=>w'.cell? ⟨w.heap.size,1,none⟩=some (.int .i64 (c:Int))) (first|assumption|(simp [go_sem,↓IntWalk.iteOmega, *];done)) (fail)
 go_wp2_with fail
 have n1:p≠w.heap.size:=by omega
 have n2:p<w.heap.size+1:=by omega
 go_quiet (fail)
 go_wp2_with fail
 all_goals go_ret
 all_goals exact ⟨by rw [errV_pos _ _ (by decide)];rfl,ObjTo.of_ex (by repeat (first|exact Ex.refl _|refine Ex.alloc ?_ _|refine Ex.ext ?_ _ _|refine Ex.drew ?_|refine Ex.drewN ?_ _)) ((H.out.relabel (fun n hn e=>by rw [lab_lt hn];exact e)).later (by repeat (first|exact Ex.refl _|refine Ex.alloc ?_ _|refine Ex.ext ?_ _ _|refine Ex.drew ?_|refine Ex.drewN ?_ _)))⟩
end
end Go.Proofs.YtabbgpjofkaomaaGreatDoor
