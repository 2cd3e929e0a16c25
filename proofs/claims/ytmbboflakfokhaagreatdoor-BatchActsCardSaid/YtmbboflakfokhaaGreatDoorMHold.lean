import Derived.Test.YtmbboflakfokhaaGreatDoorJ28
/- What the document's Hold and Free of a purse compute. -/
set_option linter.unusedSimpArgs false
set_option linter.unusedVariables false
namespace Go.Proofs.YtmbboflakfokhaaGreatDoor
open Go.RowKit
section
variable {own:Nat→Nat} {i:Nat} {w:World} {p:Nat} {P:Pu}
set_option maxRecDepth 100000 in
set_option maxHeartbeats 1000000 in
theorem mhold_buy (h:PurseAt own i w p P) (c it:Nat) (hc:c<6) (hit:it<3) (x:Lot) (ho:x.owner=(c:Int)) (hr:rightB (it:Int) x=true) (hs:x.side=0) (hok:¬ P c 0 - P c 1<x.price*x.qty) :
    Calls Tryz.prog 38 #[.pointer (some ⟨p,0,none⟩),.int .i64 (it:Int),x.val] w fun e w'=>e=.returned (.int .i64 0)∧ObjTo own i i w (fun o w'=>PurseAt o i w' p (P.set c 1 (P c 1+x.price*x.qty))) w':=by
  have HR:=Lib.hid (mlotError_any x)
  have HI:=Lib.hid isItem_yes
  simp only [rightB,Bool.and_eq_true] at hr
  rw [hr.2,if_pos rfl] at HR
  obtain ⟨_,_,_,hpr,hq⟩:=Lot.okC hr.2
  have hm:=mul_bd hpr.1 hpr.2 hq.1 hq.2
  obtain ⟨v1,v2,v3,v4⟩:=h.2.1 c hc
  obtain ⟨u1,u2,u3⟩:=v4 it hit
  have q0:=h.cell hc (j:=0) (by omega)
  have q1:=h.cell hc (j:=1) (by omega)
  have q2:=h.cell hc (j:=2) (by omega)
  have q3:=h.cell hc (j:=3) (by omega)
  have q4:=h.cell hc (j:=4) (by omega)
  have q5:=h.cell hc (j:=5) (by omega)
  have q6:=h.cell hc (j:=6) (by omega)
  have q7:=h.cell hc (j:=7) (by omega)
  simp only [Nat.add_zero] at q0
  have hf:=h.free
  have hp:=h.lt
  have H:=Lib.hid h
  have c0:(0:Int)≤(c:Int):=by omega
  have c6:(c:Int)<6:=by omega
  have i0:(0:Int)≤(it:Int):=by omega
  have i3:(it:Int)<3:=by omega
  obtain ⟨id,owner,side,price,qty⟩:=x
  simp only at ho hs hok hm hpr hq HR
  subst ho hs
  clear hr h v4
  have k1:IntKind.i64.wrap (price*qty)=price*qty:=IntWalk.i64_in _ (by omega)
  have k5:IntKind.i64.wrap (P c 1+price*qty)=P c 1+price*qty:=IntWalk.i64_in _ (by omega)
  have k4:decide (P c 0<P c 1+price*qty)=false:=decide_eq_false (by omega)
  go_enter Tryz.func38,Tryz.ntmps38
  go_upto_region 4 with (first
    | (go_at_call 70;(with_reducible refine (HI.out _ _ ?_).mono ?_);(focus (exact inR_iff.2 (by omega)));rintro e w1 ⟨rfl,l1,d1,rfl⟩)
    | (go_at_call 36;(with_reducible refine (HR.out _).mono ?_);rintro e w2 ⟨rfl,l2,d2,rfl⟩))
  go_region
  go_wp2_with fail
  all_goals (try (go_region;all_goals go_wp2_with fail))
  all_goals (try (go_region;all_goals go_wp2_with fail))
  all_goals (try (go_region;all_goals go_wp2_with fail))
  all_goals go_ret
  all_goals refine ⟨rfl,mput_obj (c:=c) (z0:=P c 0) (z1:=P c 1+price*qty) (z2:=P c 2) (z3:=P c 3) (z4:=P c 4) (z5:=P c 5) (z6:=P c 6) (z7:=P c 7) H.out (H.out.2.1.set_held _ (by omega) (by omega)) ?_ ?_⟩
  all_goals first
    | exact heq_set rfl rfl rfl rfl rfl rfl rfl rfl
    | exact (by with_reducible repeat (first|exact Ex.refl _|refine Ex.alloc ?_ _|refine Ex.ext ?_ _ _|refine Ex.drew ?_|refine Ex.drewN ?_ _))
set_option maxRecDepth 100000 in
set_option maxHeartbeats 1000000 in
theorem mhold_buy_poor (h:PurseAt own i w p P) (c it:Nat) (hc:c<6) (hit:it<3) (x:Lot) (ho:x.owner=(c:Int)) (hr:rightB (it:Int) x=true) (hs:x.side=0) (hok:P c 0 - P c 1<x.price*x.qty) :
    Calls Tryz.prog 38 #[.pointer (some ⟨p,0,none⟩),.int .i64 (it:Int),x.val] w fun e w'=>e=.returned (.int .i64 10)∧ObjTo own i i w (fun o w'=>PurseAt o i w' p P) w':=by
  have HR:=Lib.hid (mlotError_any x)
  have HI:=Lib.hid isItem_yes
  simp only [rightB,Bool.and_eq_true] at hr
  rw [hr.2,if_pos rfl] at HR
  obtain ⟨_,_,_,hpr,hq⟩:=Lot.okC hr.2
  have hm:=mul_bd hpr.1 hpr.2 hq.1 hq.2
  obtain ⟨v1,v2,v3,v4⟩:=h.2.1 c hc
  obtain ⟨u1,u2,u3⟩:=v4 it hit
  have q0:=h.cell hc (j:=0) (by omega)
  have q1:=h.cell hc (j:=1) (by omega)
  have q2:=h.cell hc (j:=2) (by omega)
  have q3:=h.cell hc (j:=3) (by omega)
  have q4:=h.cell hc (j:=4) (by omega)
  have q5:=h.cell hc (j:=5) (by omega)
  have q6:=h.cell hc (j:=6) (by omega)
  have q7:=h.cell hc (j:=7) (by omega)
  simp only [Nat.add_zero] at q0
  have hf:=h.free
  have hp:=h.lt
  have H:=Lib.hid h
  have c0:(0:Int)≤(c:Int):=by omega
  have c6:(c:Int)<6:=by omega
  have i0:(0:Int)≤(it:Int):=by omega
  have i3:(it:Int)<3:=by omega
  obtain ⟨id,owner,side,price,qty⟩:=x
  simp only at ho hs hok hm hpr hq HR
  subst ho hs
  clear hr h v4
  have k1:IntKind.i64.wrap (price*qty)=price*qty:=IntWalk.i64_in _ (by omega)
  have k5:IntKind.i64.wrap (P c 1+price*qty)=P c 1+price*qty:=IntWalk.i64_in _ (by omega)
  have k4:decide (P c 0<P c 1+price*qty)=true:=decide_eq_true (by omega)
  go_enter Tryz.func38,Tryz.ntmps38
  go_upto_region 4 with (first
    | (go_at_call 70;(with_reducible refine (HI.out _ _ ?_).mono ?_);(focus (exact inR_iff.2 (by omega)));rintro e w1 ⟨rfl,l1,d1,rfl⟩)
    | (go_at_call 36;(with_reducible refine (HR.out _).mono ?_);rintro e w2 ⟨rfl,l2,d2,rfl⟩))
  go_region
  go_wp2_with fail
  all_goals (try (go_region;all_goals go_wp2_with fail))
  all_goals (try (go_region;all_goals go_wp2_with fail))
  all_goals (try (go_region;all_goals go_wp2_with fail))
  all_goals go_ret
  all_goals exact ⟨rfl,ObjTo.of_ex (by repeat (first|exact Ex.refl _|refine Ex.alloc ?_ _|refine Ex.ext ?_ _ _|refine Ex.drew ?_|refine Ex.drewN ?_ _)) ((H.out.relabel (fun n hn e=>by rw [lab_lt hn];exact e)).later (by repeat (first|exact Ex.refl _|refine Ex.alloc ?_ _|refine Ex.ext ?_ _ _|refine Ex.drew ?_|refine Ex.drewN ?_ _)))⟩
set_option maxRecDepth 100000 in
set_option maxHeartbeats 1000000 in
theorem mfree_buy (h:PurseAt own i w p P) (c it:Nat) (hc:c<6) (hit:it<3) (x:Lot) (ho:x.owner=(c:Int)) (hr:rightB (it:Int) x=true) (hs:x.side=0) (hok:¬ P c 1<x.price*x.qty) :
    Calls Tryz.prog 43 #[.pointer (some ⟨p,0,none⟩),.int .i64 (it:Int),x.val] w fun e w'=>e=.returned (.int .i64 0)∧ObjTo own i i w (fun o w'=>PurseAt o i w' p (P.set c 1 (P c 1 - x.price*x.qty))) w':=by
  have HR:=Lib.hid (mlotError_any x)
  have HI:=Lib.hid isItem_yes
  simp only [rightB,Bool.and_eq_true] at hr
  rw [hr.2,if_pos rfl] at HR
  obtain ⟨_,_,_,hpr,hq⟩:=Lot.okC hr.2
  have hm:=mul_bd hpr.1 hpr.2 hq.1 hq.2
  obtain ⟨v1,v2,v3,v4⟩:=h.2.1 c hc
  obtain ⟨u1,u2,u3⟩:=v4 it hit
  have q0:=h.cell hc (j:=0) (by omega)
  have q1:=h.cell hc (j:=1) (by omega)
  have q2:=h.cell hc (j:=2) (by omega)
  have q3:=h.cell hc (j:=3) (by omega)
  have q4:=h.cell hc (j:=4) (by omega)
  have q5:=h.cell hc (j:=5) (by omega)
  have q6:=h.cell hc (j:=6) (by omega)
  have q7:=h.cell hc (j:=7) (by omega)
  simp only [Nat.add_zero] at q0
  have hf:=h.free
  have hp:=h.lt
  have H:=Lib.hid h
  have c0:(0:Int)≤(c:Int):=by omega
  have c6:(c:Int)<6:=by omega
  have i0:(0:Int)≤(it:Int):=by omega
  have i3:(it:Int)<3:=by omega
  obtain ⟨id,owner,side,price,qty⟩:=x
  simp only at ho hs hok hm hpr hq HR
  subst ho hs
  clear hr h v4
  have k1:IntKind.i64.wrap (price*qty)=price*qty:=IntWalk.i64_in _ (by omega)
  have k5:IntKind.i64.wrap (P c 1 - price*qty)=P c 1 - price*qty:=IntWalk.i64_in _ (by omega)
  have k4:decide (P c 1<price*qty)=false:=decide_eq_false (by omega)
  go_enter Tryz.func43,Tryz.ntmps43
  go_upto_region 4 with (first
    | (go_at_call 70;(with_reducible refine (HI.out _ _ ?_).mono ?_);(focus (exact inR_iff.2 (by omega)));rintro e w1 ⟨rfl,l1,d1,rfl⟩)
    | (go_at_call 36;(with_reducible refine (HR.out _).mono ?_);rintro e w2 ⟨rfl,l2,d2,rfl⟩))
  go_region
  go_wp2_with fail
  all_goals (try (go_region;all_goals go_wp2_with fail))
  all_goals (try (go_region;all_goals go_wp2_with fail))
  all_goals (try (go_region;all_goals go_wp2_with fail))
  all_goals go_ret
  all_goals refine ⟨rfl,mput_obj (c:=c) (z0:=P c 0) (z1:=P c 1 - price*qty) (z2:=P c 2) (z3:=P c 3) (z4:=P c 4) (z5:=P c 5) (z6:=P c 6) (z7:=P c 7) H.out (H.out.2.1.set_held _ (by omega) (by omega)) ?_ ?_⟩
  all_goals first
    | exact heq_set rfl rfl rfl rfl rfl rfl rfl rfl
    | exact (by with_reducible repeat (first|exact Ex.refl _|refine Ex.alloc ?_ _|refine Ex.ext ?_ _ _|refine Ex.drew ?_|refine Ex.drewN ?_ _))
set_option maxRecDepth 100000 in
set_option maxHeartbeats 1000000 in
theorem mfree_buy_poor (h:PurseAt own i w p P) (c it:Nat) (hc:c<6) (hit:it<3) (x:Lot) (ho:x.owner=(c:Int)) (hr:rightB (it:Int) x=true) (hs:x.side=0) (hok:P c 1<x.price*x.qty) :
    Calls Tryz.prog 43 #[.pointer (some ⟨p,0,none⟩),.int .i64 (it:Int),x.val] w fun e w'=>e=.returned (.int .i64 10)∧ObjTo own i i w (fun o w'=>PurseAt o i w' p P) w':=by
  have HR:=Lib.hid (mlotError_any x)
  have HI:=Lib.hid isItem_yes
  simp only [rightB,Bool.and_eq_true] at hr
  rw [hr.2,if_pos rfl] at HR
  obtain ⟨_,_,_,hpr,hq⟩:=Lot.okC hr.2
  have hm:=mul_bd hpr.1 hpr.2 hq.1 hq.2
  obtain ⟨v1,v2,v3,v4⟩:=h.2.1 c hc
  obtain ⟨u1,u2,u3⟩:=v4 it hit
  have q0:=h.cell hc (j:=0) (by omega)
  have q1:=h.cell hc (j:=1) (by omega)
  have q2:=h.cell hc (j:=2) (by omega)
  have q3:=h.cell hc (j:=3) (by omega)
  have q4:=h.cell hc (j:=4) (by omega)
  have q5:=h.cell hc (j:=5) (by omega)
  have q6:=h.cell hc (j:=6) (by omega)
  have q7:=h.cell hc (j:=7) (by omega)
  simp only [Nat.add_zero] at q0
  have hf:=h.free
  have hp:=h.lt
  have H:=Lib.hid h
  have c0:(0:Int)≤(c:Int):=by omega
  have c6:(c:Int)<6:=by omega
  have i0:(0:Int)≤(it:Int):=by omega
  have i3:(it:Int)<3:=by omega
  obtain ⟨id,owner,side,price,qty⟩:=x
  simp only at ho hs hok hm hpr hq HR
  subst ho hs
  clear hr h v4
  have k1:IntKind.i64.wrap (price*qty)=price*qty:=IntWalk.i64_in _ (by omega)
  have k5:IntKind.i64.wrap (P c 1 - price*qty)=P c 1 - price*qty:=IntWalk.i64_in _ (by omega)
  have k4:decide (P c 1<price*qty)=true:=decide_eq_true (by omega)
  go_enter Tryz.func43,Tryz.ntmps43
  go_upto_region 4 with (first
    | (go_at_call 70;(with_reducible refine (HI.out _ _ ?_).mono ?_);(focus (exact inR_iff.2 (by omega)));rintro e w1 ⟨rfl,l1,d1,rfl⟩)
    | (go_at_call 36;(with_reducible refine (HR.out _).mono ?_);rintro e w2 ⟨rfl,l2,d2,rfl⟩))
  go_region
  go_wp2_with fail
  all_goals (try (go_region;all_goals go_wp2_with fail))
  all_goals (try (go_region;all_goals go_wp2_with fail))
  all_goals (try (go_region;all_goals go_wp2_with fail))
  all_goals go_ret
  all_goals exact ⟨rfl,ObjTo.of_ex (by repeat (first|exact Ex.refl _|refine Ex.alloc ?_ _|refine Ex.ext ?_ _ _|refine Ex.drew ?_|refine Ex.drewN ?_ _)) ((H.out.relabel (fun n hn e=>by rw [lab_lt hn];exact e)).later (by repeat (first|exact Ex.refl _|refine Ex.alloc ?_ _|refine Ex.ext ?_ _ _|refine Ex.drew ?_|refine Ex.drewN ?_ _)))⟩
set_option maxRecDepth 100000 in
set_option maxHeartbeats 1000000 in
theorem mhold_sell (h:PurseAt own i w p P) (c it:Nat) (hc:c<6) (hit:it<3) (x:Lot) (ho:x.owner=(c:Int)) (hr:rightB (it:Int) x=true) (hs:x.side=1) (hok:¬ P c (2+it) - P c (5+it)<x.qty) :
    Calls Tryz.prog 38 #[.pointer (some ⟨p,0,none⟩),.int .i64 (it:Int),x.val] w fun e w'=>e=.returned (.int .i64 0)∧ObjTo own i i w (fun o w'=>PurseAt o i w' p (P.set c (5+it) (P c (5+it)+x.qty))) w':=by
  have HR:=Lib.hid (mlotError_any x)
  have HI:=Lib.hid isItem_yes
  simp only [rightB,Bool.and_eq_true] at hr
  rw [hr.2,if_pos rfl] at HR
  obtain ⟨_,_,_,hpr,hq⟩:=Lot.okC hr.2
  have hm:=mul_bd hpr.1 hpr.2 hq.1 hq.2
  obtain ⟨v1,v2,v3,v4⟩:=h.2.1 c hc
  obtain ⟨u1,u2,u3⟩:=v4 it hit
  have q0:=h.cell hc (j:=0) (by omega)
  have q1:=h.cell hc (j:=1) (by omega)
  have q2:=h.cell hc (j:=2) (by omega)
  have q3:=h.cell hc (j:=3) (by omega)
  have q4:=h.cell hc (j:=4) (by omega)
  have q5:=h.cell hc (j:=5) (by omega)
  have q6:=h.cell hc (j:=6) (by omega)
  have q7:=h.cell hc (j:=7) (by omega)
  simp only [Nat.add_zero] at q0
  have hf:=h.free
  have hp:=h.lt
  have H:=Lib.hid h
  have c0:(0:Int)≤(c:Int):=by omega
  have c6:(c:Int)<6:=by omega
  have i0:(0:Int)≤(it:Int):=by omega
  have i3:(it:Int)<3:=by omega
  obtain ⟨id,owner,side,price,qty⟩:=x
  simp only at ho hs hok hm hpr hq HR
  subst ho hs
  clear hr h v4
  have k1:IntKind.i64.wrap (price*qty)=price*qty:=IntWalk.i64_in _ (by omega)
  have hit3:it=0∨it=1∨it=2:=by omega
  rcases hit3 with rfl|rfl|rfl
  · simp only [Nat.reduceAdd] at u1 u2 u3 hok ⊢
    have k5:IntKind.i64.wrap (P c 5+qty)=P c 5+qty:=IntWalk.i64_in _ (by omega)
    have k4:decide (P c 2<P c 5+qty)=false:=decide_eq_false (by omega)
    go_enter Tryz.func38,Tryz.ntmps38
    go_upto_region 4 with (first
      | (go_at_call 70;(with_reducible refine (HI.out _ _ ?_).mono ?_);(focus (exact inR_iff.2 (by omega)));rintro e w1 ⟨rfl,l1,d1,rfl⟩)
      | (go_at_call 36;(with_reducible refine (HR.out _).mono ?_);rintro e w2 ⟨rfl,l2,d2,rfl⟩))
    go_region
    go_wp2_with fail
    all_goals (try (go_region;all_goals go_wp2_with fail))
    all_goals (try (go_region;all_goals go_wp2_with fail))
    all_goals (try (go_region;all_goals go_wp2_with fail))
    all_goals go_ret
    all_goals refine ⟨rfl,mput_obj (c:=c) (z0:=P c 0) (z1:=P c 1) (z2:=P c 2) (z3:=P c 3) (z4:=P c 4) (z5:=P c 5+qty) (z6:=P c 6) (z7:=P c 7) H.out (H.out.2.1.set_kept (i:=0) (by omega) (P c 5+qty) (by omega) (show P c 5+qty≤P c 2 by omega)) ?_ ?_⟩
    all_goals first
      | exact heq_set rfl rfl rfl rfl rfl rfl rfl rfl
      | exact (by with_reducible repeat (first|exact Ex.refl _|refine Ex.alloc ?_ _|refine Ex.ext ?_ _ _|refine Ex.drew ?_|refine Ex.drewN ?_ _))
  · simp only [Nat.reduceAdd] at u1 u2 u3 hok ⊢
    have k5:IntKind.i64.wrap (P c 6+qty)=P c 6+qty:=IntWalk.i64_in _ (by omega)
    have k4:decide (P c 3<P c 6+qty)=false:=decide_eq_false (by omega)
    go_enter Tryz.func38,Tryz.ntmps38
    go_upto_region 4 with (first
      | (go_at_call 70;(with_reducible refine (HI.out _ _ ?_).mono ?_);(focus (exact inR_iff.2 (by omega)));rintro e w1 ⟨rfl,l1,d1,rfl⟩)
      | (go_at_call 36;(with_reducible refine (HR.out _).mono ?_);rintro e w2 ⟨rfl,l2,d2,rfl⟩))
    go_region
    go_wp2_with fail
    all_goals (try (go_region;all_goals go_wp2_with fail))
    all_goals (try (go_region;all_goals go_wp2_with fail))
    all_goals (try (go_region;all_goals go_wp2_with fail))
    all_goals go_ret
    all_goals refine ⟨rfl,mput_obj (c:=c) (z0:=P c 0) (z1:=P c 1) (z2:=P c 2) (z3:=P c 3) (z4:=P c 4) (z5:=P c 5) (z6:=P c 6+qty) (z7:=P c 7) H.out (H.out.2.1.set_kept (i:=1) (by omega) (P c 6+qty) (by omega) (show P c 6+qty≤P c 3 by omega)) ?_ ?_⟩
    all_goals first
      | exact heq_set rfl rfl rfl rfl rfl rfl rfl rfl
      | exact (by with_reducible repeat (first|exact Ex.refl _|refine Ex.alloc ?_ _|refine Ex.ext ?_ _ _|refine Ex.drew ?_|refine Ex.drewN ?_ _))
  · simp only [Nat.reduceAdd] at u1 u2 u3 hok ⊢
    have k5:IntKind.i64.wrap (P c 7+qty)=P c 7+qty:=IntWalk.i64_in _ (by omega)
    have k4:decide (P c 4<P c 7+qty)=false:=decide_eq_false (by omega)
    go_enter Tryz.func38,Tryz.ntmps38
    go_upto_region 4 with (first
      | (go_at_call 70;(with_reducible refine (HI.out _ _ ?_).mono ?_);(focus (exact inR_iff.2 (by omega)));rintro e w1 ⟨rfl,l1,d1,rfl⟩)
      | (go_at_call 36;(with_reducible refine (HR.out _).mono ?_);rintro e w2 ⟨rfl,l2,d2,rfl⟩))
    go_region
    go_wp2_with fail
    all_goals (try (go_region;all_goals go_wp2_with fail))
    all_goals (try (go_region;all_goals go_wp2_with fail))
    all_goals (try (go_region;all_goals go_wp2_with fail))
    all_goals go_ret
    all_goals refine ⟨rfl,mput_obj (c:=c) (z0:=P c 0) (z1:=P c 1) (z2:=P c 2) (z3:=P c 3) (z4:=P c 4) (z5:=P c 5) (z6:=P c 6) (z7:=P c 7+qty) H.out (H.out.2.1.set_kept (i:=2) (by omega) (P c 7+qty) (by omega) (show P c 7+qty≤P c 4 by omega)) ?_ ?_⟩
    all_goals first
      | exact heq_set rfl rfl rfl rfl rfl rfl rfl rfl
      | exact (by with_reducible repeat (first|exact Ex.refl _|refine Ex.alloc ?_ _|refine Ex.ext ?_ _ _|refine Ex.drew ?_|refine Ex.drewN ?_ _))
set_option maxRecDepth 100000 in
set_option maxHeartbeats 1000000 in
theorem mhold_sell_poor (h:PurseAt own i w p P) (c it:Nat) (hc:c<6) (hit:it<3) (x:Lot) (ho:x.owner=(c:Int)) (hr:rightB (it:Int) x=true) (hs:x.side=1) (hok:P c (2+it) - P c (5+it)<x.qty) :
    Calls Tryz.prog 38 #[.pointer (some ⟨p,0,none⟩),.int .i64 (it:Int),x.val] w fun e w'=>e=.returned (.int .i64 10)∧ObjTo own i i w (fun o w'=>PurseAt o i w' p P) w':=by
  have HR:=Lib.hid (mlotError_any x)
  have HI:=Lib.hid isItem_yes
  simp only [rightB,Bool.and_eq_true] at hr
  rw [hr.2,if_pos rfl] at HR
  obtain ⟨_,_,_,hpr,hq⟩:=Lot.okC hr.2
  have hm:=mul_bd hpr.1 hpr.2 hq.1 hq.2
  obtain ⟨v1,v2,v3,v4⟩:=h.2.1 c hc
  obtain ⟨u1,u2,u3⟩:=v4 it hit
  have q0:=h.cell hc (j:=0) (by omega)
  have q1:=h.cell hc (j:=1) (by omega)
  have q2:=h.cell hc (j:=2) (by omega)
  have q3:=h.cell hc (j:=3) (by omega)
  have q4:=h.cell hc (j:=4) (by omega)
  have q5:=h.cell hc (j:=5) (by omega)
  have q6:=h.cell hc (j:=6) (by omega)
  have q7:=h.cell hc (j:=7) (by omega)
  simp only [Nat.add_zero] at q0
  have hf:=h.free
  have hp:=h.lt
  have H:=Lib.hid h
  have c0:(0:Int)≤(c:Int):=by omega
  have c6:(c:Int)<6:=by omega
  have i0:(0:Int)≤(it:Int):=by omega
  have i3:(it:Int)<3:=by omega
  obtain ⟨id,owner,side,price,qty⟩:=x
  simp only at ho hs hok hm hpr hq HR
  subst ho hs
  clear hr h v4
  have k1:IntKind.i64.wrap (price*qty)=price*qty:=IntWalk.i64_in _ (by omega)
  have hit3:it=0∨it=1∨it=2:=by omega
  rcases hit3 with rfl|rfl|rfl
  · simp only [Nat.reduceAdd] at u1 u2 u3 hok ⊢
    have k5:IntKind.i64.wrap (P c 5+qty)=P c 5+qty:=IntWalk.i64_in _ (by omega)
    have k4:decide (P c 2<P c 5+qty)=true:=decide_eq_true (by omega)
    go_enter Tryz.func38,Tryz.ntmps38
    go_upto_region 4 with (first
      | (go_at_call 70;(with_reducible refine (HI.out _ _ ?_).mono ?_);(focus (exact inR_iff.2 (by omega)));rintro e w1 ⟨rfl,l1,d1,rfl⟩)
      | (go_at_call 36;(with_reducible refine (HR.out _).mono ?_);rintro e w2 ⟨rfl,l2,d2,rfl⟩))
    go_region
    go_wp2_with fail
    all_goals (try (go_region;all_goals go_wp2_with fail))
    all_goals (try (go_region;all_goals go_wp2_with fail))
    all_goals (try (go_region;all_goals go_wp2_with fail))
    all_goals go_ret
    all_goals exact ⟨rfl,ObjTo.of_ex (by repeat (first|exact Ex.refl _|refine Ex.alloc ?_ _|refine Ex.ext ?_ _ _|refine Ex.drew ?_|refine Ex.drewN ?_ _)) ((H.out.relabel (fun n hn e=>by rw [lab_lt hn];exact e)).later (by repeat (first|exact Ex.refl _|refine Ex.alloc ?_ _|refine Ex.ext ?_ _ _|refine Ex.drew ?_|refine Ex.drewN ?_ _)))⟩
  · simp only [Nat.reduceAdd] at u1 u2 u3 hok ⊢
    have k5:IntKind.i64.wrap (P c 6+qty)=P c 6+qty:=IntWalk.i64_in _ (by omega)
    have k4:decide (P c 3<P c 6+qty)=true:=decide_eq_true (by omega)
    go_enter Tryz.func38,Tryz.ntmps38
    go_upto_region 4 with (first
      | (go_at_call 70;(with_reducible refine (HI.out _ _ ?_).mono ?_);(focus (exact inR_iff.2 (by omega)));rintro e w1 ⟨rfl,l1,d1,rfl⟩)
      | (go_at_call 36;(with_reducible refine (HR.out _).mono ?_);rintro e w2 ⟨rfl,l2,d2,rfl⟩))
    go_region
    go_wp2_with fail
    all_goals (try (go_region;all_goals go_wp2_with fail))
    all_goals (try (go_region;all_goals go_wp2_with fail))
    all_goals (try (go_region;all_goals go_wp2_with fail))
    all_goals go_ret
    all_goals exact ⟨rfl,ObjTo.of_ex (by repeat (first|exact Ex.refl _|refine Ex.alloc ?_ _|refine Ex.ext ?_ _ _|refine Ex.drew ?_|refine Ex.drewN ?_ _)) ((H.out.relabel (fun n hn e=>by rw [lab_lt hn];exact e)).later (by repeat (first|exact Ex.refl _|refine Ex.alloc ?_ _|refine Ex.ext ?_ _ _|refine Ex.drew ?_|refine Ex.drewN ?_ _)))⟩
  · simp only [Nat.reduceAdd] at u1 u2 u3 hok ⊢
    have k5:IntKind.i64.wrap (P c 7+qty)=P c 7+qty:=IntWalk.i64_in _ (by omega)
    have k4:decide (P c 4<P c 7+qty)=true:=decide_eq_true (by omega)
    go_enter Tryz.func38,Tryz.ntmps38
    go_upto_region 4 with (first
      | (go_at_call 70;(with_reducible refine (HI.out _ _ ?_).mono ?_);(focus (exact inR_iff.2 (by omega)));rintro e w1 ⟨rfl,l1,d1,rfl⟩)
      | (go_at_call 36;(with_reducible refine (HR.out _).mono ?_);rintro e w2 ⟨rfl,l2,d2,rfl⟩))
    go_region
    go_wp2_with fail
    all_goals (try (go_region;all_goals go_wp2_with fail))
    all_goals (try (go_region;all_goals go_wp2_with fail))
    all_goals (try (go_region;all_goals go_wp2_with fail))
    all_goals go_ret
    all_goals exact ⟨rfl,ObjTo.of_ex (by repeat (first|exact Ex.refl _|refine Ex.alloc ?_ _|refine Ex.ext ?_ _ _|refine Ex.drew ?_|refine Ex.drewN ?_ _)) ((H.out.relabel (fun n hn e=>by rw [lab_lt hn];exact e)).later (by repeat (first|exact Ex.refl _|refine Ex.alloc ?_ _|refine Ex.ext ?_ _ _|refine Ex.drew ?_|refine Ex.drewN ?_ _)))⟩
set_option maxRecDepth 100000 in
set_option maxHeartbeats 1000000 in
theorem mfree_sell (h:PurseAt own i w p P) (c it:Nat) (hc:c<6) (hit:it<3) (x:Lot) (ho:x.owner=(c:Int)) (hr:rightB (it:Int) x=true) (hs:x.side=1) (hok:¬ P c (5+it)<x.qty) :
    Calls Tryz.prog 43 #[.pointer (some ⟨p,0,none⟩),.int .i64 (it:Int),x.val] w fun e w'=>e=.returned (.int .i64 0)∧ObjTo own i i w (fun o w'=>PurseAt o i w' p (P.set c (5+it) (P c (5+it) - x.qty))) w':=by
  have HR:=Lib.hid (mlotError_any x)
  have HI:=Lib.hid isItem_yes
  simp only [rightB,Bool.and_eq_true] at hr
  rw [hr.2,if_pos rfl] at HR
  obtain ⟨_,_,_,hpr,hq⟩:=Lot.okC hr.2
  have hm:=mul_bd hpr.1 hpr.2 hq.1 hq.2
  obtain ⟨v1,v2,v3,v4⟩:=h.2.1 c hc
  obtain ⟨u1,u2,u3⟩:=v4 it hit
  have q0:=h.cell hc (j:=0) (by omega)
  have q1:=h.cell hc (j:=1) (by omega)
  have q2:=h.cell hc (j:=2) (by omega)
  have q3:=h.cell hc (j:=3) (by omega)
  have q4:=h.cell hc (j:=4) (by omega)
  have q5:=h.cell hc (j:=5) (by omega)
  have q6:=h.cell hc (j:=6) (by omega)
  have q7:=h.cell hc (j:=7) (by omega)
  simp only [Nat.add_zero] at q0
  have hf:=h.free
  have hp:=h.lt
  have H:=Lib.hid h
  have c0:(0:Int)≤(c:Int):=by omega
  have c6:(c:Int)<6:=by omega
  have i0:(0:Int)≤(it:Int):=by omega
  have i3:(it:Int)<3:=by omega
  obtain ⟨id,owner,side,price,qty⟩:=x
  simp only at ho hs hok hm hpr hq HR
  subst ho hs
  clear hr h v4
  have k1:IntKind.i64.wrap (price*qty)=price*qty:=IntWalk.i64_in _ (by omega)
  have hit3:it=0∨it=1∨it=2:=by omega
  rcases hit3 with rfl|rfl|rfl
  · simp only [Nat.reduceAdd] at u1 u2 u3 hok ⊢
    have k5:IntKind.i64.wrap (P c 5 - qty)=P c 5 - qty:=IntWalk.i64_in _ (by omega)
    have k4:decide (P c 5<qty)=false:=decide_eq_false (by omega)
    go_enter Tryz.func43,Tryz.ntmps43
    go_upto_region 4 with (first
      | (go_at_call 70;(with_reducible refine (HI.out _ _ ?_).mono ?_);(focus (exact inR_iff.2 (by omega)));rintro e w1 ⟨rfl,l1,d1,rfl⟩)
      | (go_at_call 36;(with_reducible refine (HR.out _).mono ?_);rintro e w2 ⟨rfl,l2,d2,rfl⟩))
    go_region
    go_wp2_with fail
    all_goals (try (go_region;all_goals go_wp2_with fail))
    all_goals (try (go_region;all_goals go_wp2_with fail))
    all_goals (try (go_region;all_goals go_wp2_with fail))
    all_goals go_ret
    all_goals refine ⟨rfl,mput_obj (c:=c) (z0:=P c 0) (z1:=P c 1) (z2:=P c 2) (z3:=P c 3) (z4:=P c 4) (z5:=P c 5 - qty) (z6:=P c 6) (z7:=P c 7) H.out (H.out.2.1.set_kept (i:=0) (by omega) (P c 5 - qty) (by omega) (show P c 5 - qty≤P c 2 by omega)) ?_ ?_⟩
    all_goals first
      | exact heq_set rfl rfl rfl rfl rfl rfl rfl rfl
      | exact (by with_reducible repeat (first|exact Ex.refl _|refine Ex.alloc ?_ _|refine Ex.ext ?_ _ _|refine Ex.drew ?_|refine Ex.drewN ?_ _))
  · simp only [Nat.reduceAdd] at u1 u2 u3 hok ⊢
    have k5:IntKind.i64.wrap (P c 6 - qty)=P c 6 - qty:=IntWalk.i64_in _ (by omega)
    have k4:decide (P c 6<qty)=false:=decide_eq_false (by omega)
    go_enter Tryz.func43,Tryz.ntmps43
    go_upto_region 4 with (first
      | (go_at_call 70;(with_reducible refine (HI.out _ _ ?_).mono ?_);(focus (exact inR_iff.2 (by omega)));rintro e w1 ⟨rfl,l1,d1,rfl⟩)
      | (go_at_call 36;(with_reducible refine (HR.out _).mono ?_);rintro e w2 ⟨rfl,l2,d2,rfl⟩))
    go_region
    go_wp2_with fail
    all_goals (try (go_region;all_goals go_wp2_with fail))
    all_goals (try (go_region;all_goals go_wp2_with fail))
    all_goals (try (go_region;all_goals go_wp2_with fail))
    all_goals go_ret
    all_goals refine ⟨rfl,mput_obj (c:=c) (z0:=P c 0) (z1:=P c 1) (z2:=P c 2) (z3:=P c 3) (z4:=P c 4) (z5:=P c 5) (z6:=P c 6 - qty) (z7:=P c 7) H.out (H.out.2.1.set_kept (i:=1) (by omega) (P c 6 - qty) (by omega) (show P c 6 - qty≤P c 3 by omega)) ?_ ?_⟩
    all_goals first
      | exact heq_set rfl rfl rfl rfl rfl rfl rfl rfl
      | exact (by with_reducible repeat (first|exact Ex.refl _|refine Ex.alloc ?_ _|refine Ex.ext ?_ _ _|refine Ex.drew ?_|refine Ex.drewN ?_ _))
  · simp only [Nat.reduceAdd] at u1 u2 u3 hok ⊢
    have k5:IntKind.i64.wrap (P c 7 - qty)=P c 7 - qty:=IntWalk.i64_in _ (by omega)
    have k4:decide (P c 7<qty)=false:=decide_eq_false (by omega)
    go_enter Tryz.func43,Tryz.ntmps43
    go_upto_region 4 with (first
      | (go_at_call 70;(with_reducible refine (HI.out _ _ ?_).mono ?_);(focus (exact inR_iff.2 (by omega)));rintro e w1 ⟨rfl,l1,d1,rfl⟩)
      | (go_at_call 36;(with_reducible refine (HR.out _).mono ?_);rintro e w2 ⟨rfl,l2,d2,rfl⟩))
    go_region
    go_wp2_with fail
    all_goals (try (go_region;all_goals go_wp2_with fail))
    all_goals (try (go_region;all_goals go_wp2_with fail))
    all_goals (try (go_region;all_goals go_wp2_with fail))
    all_goals go_ret
    all_goals refine ⟨rfl,mput_obj (c:=c) (z0:=P c 0) (z1:=P c 1) (z2:=P c 2) (z3:=P c 3) (z4:=P c 4) (z5:=P c 5) (z6:=P c 6) (z7:=P c 7 - qty) H.out (H.out.2.1.set_kept (i:=2) (by omega) (P c 7 - qty) (by omega) (show P c 7 - qty≤P c 4 by omega)) ?_ ?_⟩
    all_goals first
      | exact heq_set rfl rfl rfl rfl rfl rfl rfl rfl
      | exact (by with_reducible repeat (first|exact Ex.refl _|refine Ex.alloc ?_ _|refine Ex.ext ?_ _ _|refine Ex.drew ?_|refine Ex.drewN ?_ _))
set_option maxRecDepth 100000 in
set_option maxHeartbeats 1000000 in
theorem mfree_sell_poor (h:PurseAt own i w p P) (c it:Nat) (hc:c<6) (hit:it<3) (x:Lot) (ho:x.owner=(c:Int)) (hr:rightB (it:Int) x=true) (hs:x.side=1) (hok:P c (5+it)<x.qty) :
    Calls Tryz.prog 43 #[.pointer (some ⟨p,0,none⟩),.int .i64 (it:Int),x.val] w fun e w'=>e=.returned (.int .i64 10)∧ObjTo own i i w (fun o w'=>PurseAt o i w' p P) w':=by
  have HR:=Lib.hid (mlotError_any x)
  have HI:=Lib.hid isItem_yes
  simp only [rightB,Bool.and_eq_true] at hr
  rw [hr.2,if_pos rfl] at HR
  obtain ⟨_,_,_,hpr,hq⟩:=Lot.okC hr.2
  have hm:=mul_bd hpr.1 hpr.2 hq.1 hq.2
  obtain ⟨v1,v2,v3,v4⟩:=h.2.1 c hc
  obtain ⟨u1,u2,u3⟩:=v4 it hit
  have q0:=h.cell hc (j:=0) (by omega)
  have q1:=h.cell hc (j:=1) (by omega)
  have q2:=h.cell hc (j:=2) (by omega)
  have q3:=h.cell hc (j:=3) (by omega)
  have q4:=h.cell hc (j:=4) (by omega)
  have q5:=h.cell hc (j:=5) (by omega)
  have q6:=h.cell hc (j:=6) (by omega)
  have q7:=h.cell hc (j:=7) (by omega)
  simp only [Nat.add_zero] at q0
  have hf:=h.free
  have hp:=h.lt
  have H:=Lib.hid h
  have c0:(0:Int)≤(c:Int):=by omega
  have c6:(c:Int)<6:=by omega
  have i0:(0:Int)≤(it:Int):=by omega
  have i3:(it:Int)<3:=by omega
  obtain ⟨id,owner,side,price,qty⟩:=x
  simp only at ho hs hok hm hpr hq HR
  subst ho hs
  clear hr h v4
  have k1:IntKind.i64.wrap (price*qty)=price*qty:=IntWalk.i64_in _ (by omega)
  have hit3:it=0∨it=1∨it=2:=by omega
  rcases hit3 with rfl|rfl|rfl
  · simp only [Nat.reduceAdd] at u1 u2 u3 hok ⊢
    have k5:IntKind.i64.wrap (P c 5 - qty)=P c 5 - qty:=IntWalk.i64_in _ (by omega)
    have k4:decide (P c 5<qty)=true:=decide_eq_true (by omega)
    go_enter Tryz.func43,Tryz.ntmps43
    go_upto_region 4 with (first
      | (go_at_call 70;(with_reducible refine (HI.out _ _ ?_).mono ?_);(focus (exact inR_iff.2 (by omega)));rintro e w1 ⟨rfl,l1,d1,rfl⟩)
      | (go_at_call 36;(with_reducible refine (HR.out _).mono ?_);rintro e w2 ⟨rfl,l2,d2,rfl⟩))
    go_region
    go_wp2_with fail
    all_goals (try (go_region;all_goals go_wp2_with fail))
    all_goals (try (go_region;all_goals go_wp2_with fail))
    all_goals (try (go_region;all_goals go_wp2_with fail))
    all_goals go_ret
    all_goals exact ⟨rfl,ObjTo.of_ex (by repeat (first|exact Ex.refl _|refine Ex.alloc ?_ _|refine Ex.ext ?_ _ _|refine Ex.drew ?_|refine Ex.drewN ?_ _)) ((H.out.relabel (fun n hn e=>by rw [lab_lt hn];exact e)).later (by repeat (first|exact Ex.refl _|refine Ex.alloc ?_ _|refine Ex.ext ?_ _ _|refine Ex.drew ?_|refine Ex.drewN ?_ _)))⟩
  · simp only [Nat.reduceAdd] at u1 u2 u3 hok ⊢
    have k5:IntKind.i64.wrap (P c 6 - qty)=P c 6 - qty:=IntWalk.i64_in _ (by omega)
    have k4:decide (P c 6<qty)=true:=decide_eq_true (by omega)
    go_enter Tryz.func43,Tryz.ntmps43
    go_upto_region 4 with (first
      | (go_at_call 70;(with_reducible refine (HI.out _ _ ?_).mono ?_);(focus (exact inR_iff.2 (by omega)));rintro e w1 ⟨rfl,l1,d1,rfl⟩)
      | (go_at_call 36;(with_reducible refine (HR.out _).mono ?_);rintro e w2 ⟨rfl,l2,d2,rfl⟩))
    go_region
    go_wp2_with fail
    all_goals (try (go_region;all_goals go_wp2_with fail))
    all_goals (try (go_region;all_goals go_wp2_with fail))
    all_goals (try (go_region;all_goals go_wp2_with fail))
    all_goals go_ret
    all_goals exact ⟨rfl,ObjTo.of_ex (by repeat (first|exact Ex.refl _|refine Ex.alloc ?_ _|refine Ex.ext ?_ _ _|refine Ex.drew ?_|refine Ex.drewN ?_ _)) ((H.out.relabel (fun n hn e=>by rw [lab_lt hn];exact e)).later (by repeat (first|exact Ex.refl _|refine Ex.alloc ?_ _|refine Ex.ext ?_ _ _|refine Ex.drew ?_|refine Ex.drewN ?_ _)))⟩
  · simp only [Nat.reduceAdd] at u1 u2 u3 hok ⊢
    have k5:IntKind.i64.wrap (P c 7 - qty)=P c 7 - qty:=IntWalk.i64_in _ (by omega)
    have k4:decide (P c 7<qty)=true:=decide_eq_true (by omega)
    go_enter Tryz.func43,Tryz.ntmps43
    go_upto_region 4 with (first
      | (go_at_call 70;(with_reducible refine (HI.out _ _ ?_).mono ?_);(focus (exact inR_iff.2 (by omega)));rintro e w1 ⟨rfl,l1,d1,rfl⟩)
      | (go_at_call 36;(with_reducible refine (HR.out _).mono ?_);rintro e w2 ⟨rfl,l2,d2,rfl⟩))
    go_region
    go_wp2_with fail
    all_goals (try (go_region;all_goals go_wp2_with fail))
    all_goals (try (go_region;all_goals go_wp2_with fail))
    all_goals (try (go_region;all_goals go_wp2_with fail))
    all_goals go_ret
    all_goals exact ⟨rfl,ObjTo.of_ex (by repeat (first|exact Ex.refl _|refine Ex.alloc ?_ _|refine Ex.ext ?_ _ _|refine Ex.drew ?_|refine Ex.drewN ?_ _)) ((H.out.relabel (fun n hn e=>by rw [lab_lt hn];exact e)).later (by repeat (first|exact Ex.refl _|refine Ex.alloc ?_ _|refine Ex.ext ?_ _ _|refine Ex.drew ?_|refine Ex.drewN ?_ _)))⟩
end
end Go.Proofs.YtmbboflakfokhaaGreatDoor
