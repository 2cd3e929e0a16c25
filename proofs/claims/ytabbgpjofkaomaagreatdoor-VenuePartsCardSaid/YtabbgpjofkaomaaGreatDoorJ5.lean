import Derived.Test.YtabbgpjofkaomaaGreatDoorJ4
set_option linter.unusedSimpArgs false
set_option linter.unusedVariables false
/- Trade of package purse where one owner buys of itself. -/
namespace Go.Proofs.YtabbgpjofkaomaaGreatDoor
open Go.RowKit
section
variable {own:Nat→Nat} {i:Nat} {w:World} {p:Nat} {P:Pu}
set_option maxRecDepth 100000 in
set_option maxHeartbeats 2000000 in
theorem trade_same (h:PurseAt own i w p P) (bo it:Nat) (hbo6:bo<6) (hit:it<3) (b s:Lot) (hbo:b.owner=(bo:Int)) (hso:s.owner=(bo:Int)) (price qty:Int) (E:Nat→Addr) (hE:Errs E [2,3,8,10,12] w)
  (hf:fairE (it:Int) b s price qty=0) (h1:b.price*qty≤P bo 1) (h2:qty≤P bo (5+it)) :
  Calls Tryz.prog 190 #[.pointer (some ⟨p,0,none⟩),.int .i64 (it:Int),b.val,s.val,.int .i64 price,.int .i64 qty] w fun e w'=>e=.returned .nilIface∧ObjTo own i i w (fun o w'=>PurseAt o i w' p (tradeF P bo bo it (b.price*qty) (price*qty) qty)) w':=by
 obtain ⟨f1,f2,f3,f4,f5,f6,f7,f8,f9,f10,f11⟩:=fair_zero hf
 have HF:=Lib.hid (fair_any (it:Int) b s price qty E)
 rw [hf,errV_zero] at HF
 have HE:=Lib.hid hE
 have H:=Lib.hid h
 obtain ⟨id1,owner1,side1,price1,qty1⟩:=b
 obtain ⟨id2,owner2,side2,price2,qty2⟩:=s
 simp only at hbo hso f3 f4 f8 f9 f10 f11 h1
 subst hbo hso f3 f4
 have hp:=h.lt
 have c0:(0:Int)≤(bo:Int):=by omega
 have c6:(bo:Int)<6:=by omega
 have s0:(0:Int)≤(bo:Int):=by omega
 have s6:(bo:Int)<6:=by omega
 have i0:(0:Int)≤(it:Int):=by omega
 have i3:(it:Int)<3:=by omega
 have q1:=h.cell hbo6 (j:=1) (by omega)
 have q0:=h.cell hbo6 (j:=0) (by omega)
 have q5:=h.cell hbo6 (j:=5+it) (by omega)
 have q2:=h.cell hbo6 (j:=2+it) (by omega)
 simp only [Nat.add_zero,← Nat.add_assoc] at q0 q2 q5
 obtain ⟨u1,u2,u3,u4⟩:=h.2.1 bo hbo6
 obtain ⟨v1,v2,v3,v4⟩:=h.2.1 bo hbo6
 obtain ⟨u5,u6,u7⟩:=u4 it hit
 obtain ⟨v5,v6,v7⟩:=v4 it hit
 obtain ⟨_,_,_,hp1,hq1⟩:=Lot.okC (x:=⟨id1,(bo:Int),0,price1,qty1⟩) (by simp only [rightB,Bool.and_eq_true] at f1;exact f1.2)
 simp only at hp1 hq1
 have hm1:=mul_bd hp1.1 hp1.2 f7 (by omega)
 have hm2:=mul_bd f5 f6 f7 (by omega)
 have k1:IntKind.i64.wrap (price1*qty)=price1*qty:=IntWalk.i64_in _ (by omega)
 have k2:IntKind.i64.wrap (price*qty)=price*qty:=IntWalk.i64_in _ (by omega)
 have k3:IntKind.i64.wrap (1073741824 - P bo (2+it))=1073741824 - P bo (2+it):=IntWalk.i64_in _ (by omega)
 have k4:IntKind.i64.wrap (1099511627776 - P bo 0)=1099511627776 - P bo 0:=IntWalk.i64_in _ (by omega)
 have k5:decide (P bo 1<price1*qty)=false:=decide_eq_false (by omega)
 have k6:decide (P bo (5+it)<qty)=false:=decide_eq_false (by omega)
 have n1:p≠w.heap.size:=by omega
 have n2:p<w.heap.size+1:=by omega
 clear hE h hf f1 f2 u4 v4
 go_enter Tryz.func190,Tryz.ntmps190
 go_wp2_with fail
 refine (HF.out _ (by exact Errs.sub (HE.out.ex (by repeat (first|exact Ex.refl _|refine Ex.alloc ?_ _|refine Ex.ext ?_ _ _|refine Ex.drew ?_|refine Ex.drewN ?_ _))) (by decide))).mono ?_
 rintro e w1 ⟨rfl,l1,d1,rfl⟩
 go_wp2_with fail
 go_region_held3 (fun w'=>w'.cell? ⟨w.heap.size,1,none⟩=some (.int .i64 (bo:Int))∧w'.cell? ⟨w.heap.size+1,1,none⟩=some (.int .i64 (bo:Int))) (first|(refine ⟨?_,?_⟩<;>assumption)|(simp [go_sem,↓IntWalk.iteOmega, *];done)) (fail)
 go_wp2_with fail
 go_quiet (fail)
 go_upto_region 7 with (fail)
 refine wp_world (R:=TradeR own i w p price1 P) ⟨H.out.later (by repeat (first|exact Ex.refl _|refine Ex.alloc ?_ _|refine Ex.ext ?_ _ _|refine Ex.drew ?_|refine Ex.drewN ?_ _)),(by repeat (first|exact Kp.refl _ _ _ _|(refine Kp.alloc ?_ _)|(refine Kp.drew ?_)|(refine Kp.drewN ?_ _)|(refine Kp.ext ?_ _ _))),(by simp [go_sem,↓IntWalk.iteOmega]),hp⟩ (fun W hR=>?_)
 have hR1:=hR.1
 have hne':=neHasPtr_same W ⟨p,bo*8,none⟩
 have y2:=hR1.cell hbo6 (j:=2+it) (by omega)
 have y0:=hR1.cell hbo6 (j:=0) (by omega)
 simp only [Nat.add_zero,← Nat.add_assoc] at y0 y2
 have HR0:=Lib.hid hR
 clear hR hR1
 go_upto_region 9 with (fail)
 have hI1:PInv (P.set bo 1 (P bo 1 - price1*qty)):=H.out.2.1.set_held _ (by omega) (by omega)
 have z1:=HR0.out.1.cell hbo6 (j:=1) (by omega)
 have zf:=HR0.out.1.free (bo*8+1)
 have z3:=HR0.out.2.2.1
 have kw:IntKind.i64.wrap (P bo 1 - price1*qty)=P bo 1 - price1*qty:=IntWalk.i64_in _ (by omega)
 have HI1:=Lib.hid hI1
 clear y0 y2 hI1
 go_region
 all_goals
  go_upto_region 10 with (fail)
  refine wp_world (R:=TradeR own i w p price1 (P.set bo 1 (P bo 1 - price1*qty))) ?_ (fun W2 hR2=>?_)
  ·first
    | exact (HR0.out.set hbo6 (by omega) _ HI1.out rfl).drew
    | exact HR0.out.drew.set hbo6 (by omega) _ HI1.out rfl
  have hmul:price*qty≤price1*qty:=Int.mul_le_mul_of_nonneg_right f10 (by omega)
  obtain ⟨P1,hP1⟩:∃ P1,P1=P.set bo 1 (P bo 1 - price1*qty):=⟨_,rfl⟩
  rw [← hP1] at hR2
  have b1:P1 bo 0=P bo 0∧P1 bo 1=(P bo 1) - price1*qty∧P1 bo (2+it)=P bo (2+it)∧P1 bo (5+it)=P bo (5+it):=by
   subst hP1
   refine ⟨?_,?_,?_,?_⟩<;>simp [Pu.set]<;>omega
  have HD1:=Lib.hid hP1
  have HB1:=Lib.hid b1
  have HR2:=Lib.hid hR2
  clear b1 hR2 hP1
  have hI2:PInv (P1.set bo 0 (P1 bo 0 - price*qty)):=by
   obtain ⟨g0,g1,g2,g3⟩:=HB1.out
   exact HR2.out.1.2.1.set_cash _ (by omega) (by omega)
  have z2:=HR2.out.1.cell (c:=bo) (j:=0) (by omega) (by omega)
  have zf2:=HR2.out.1.free (bo*8)
  simp only [Nat.add_zero,← Nat.add_assoc] at z2
  have kw2:IntKind.i64.wrap (P1 bo 0 - price*qty)=P1 bo 0 - price*qty:=by
   obtain ⟨g0,g1,g2,g3⟩:=HB1.out
   exact IntWalk.i64_in _ (by omega)
  have HI2:=Lib.hid hI2
  clear hI2
  go_upto_region 11 with (fail)
  refine wp_world (R:=TradeR own i w p price1 (P1.set bo 0 (P1 bo 0 - price*qty))) ?_ (fun W3 hR3=>?_)
  ·first
    | exact (HR2.out.set (by omega) (by omega) _ HI2.out (by omega)).drew
    | exact HR2.out.drew.set (by omega) (by omega) _ HI2.out (by omega)
    | exact HR2.out.set (by omega) (by omega) _ HI2.out (by omega)
  obtain ⟨P2,hP2⟩:∃ P2,P2=P1.set bo 0 (P1 bo 0 - price*qty):=⟨_,rfl⟩
  rw [← hP2] at hR3
  have b2:P2 bo 0=(P bo 0) - price*qty∧P2 bo 1=(P bo 1) - price1*qty∧P2 bo (2+it)=P bo (2+it)∧P2 bo (5+it)=P bo (5+it):=by
   subst hP2
   refine ⟨?_,?_,?_,?_⟩<;>simp [Pu.set,HB1.out]<;>omega
  have HD2:=Lib.hid hP2
  have HB2:=Lib.hid b2
  have HR3:=Lib.hid hR3
  clear b2 hR3 hP2
  have hI3:PInv (P2.set bo (5+it) (P2 bo (5+it) - qty)):=by
   obtain ⟨g0,g1,g2,g3⟩:=HB2.out
   exact HR3.out.1.2.1.set_kept hit _ (by omega) (by omega)
  have z3:=HR3.out.1.cell (c:=bo) (j:=(5+it)) (by omega) (by omega)
  have zf3:=HR3.out.1.free (bo*8+5+it)
  simp only [Nat.add_zero,← Nat.add_assoc] at z3
  have kw3:IntKind.i64.wrap (P2 bo (5+it) - qty)=P2 bo (5+it) - qty:=by
   obtain ⟨g0,g1,g2,g3⟩:=HB2.out
   exact IntWalk.i64_in _ (by omega)
  have HI3:=Lib.hid hI3
  clear hI3
  go_region
  go_upto_region 12 with (fail)
  refine wp_world (R:=TradeR own i w p price1 (P2.set bo (5+it) (P2 bo (5+it) - qty))) ?_ (fun W4 hR4=>?_)
  ·first
    | exact (HR3.out.set (by omega) (by omega) _ HI3.out (by omega)).drew
    | exact HR3.out.drew.set (by omega) (by omega) _ HI3.out (by omega)
    | exact HR3.out.set (by omega) (by omega) _ HI3.out (by omega)
  obtain ⟨P3,hP3⟩:∃ P3,P3=P2.set bo (5+it) (P2 bo (5+it) - qty):=⟨_,rfl⟩
  rw [← hP3] at hR4
  have b3:P3 bo 0=(P bo 0) - price*qty∧P3 bo 1=(P bo 1) - price1*qty∧P3 bo (2+it)=P bo (2+it)∧P3 bo (5+it)=(P bo (5+it)) - qty:=by
   subst hP3
   refine ⟨?_,?_,?_,?_⟩<;>simp [Pu.set,HB2.out]<;>omega
  have HD3:=Lib.hid hP3
  have HB3:=Lib.hid b3
  have HR4:=Lib.hid hR4
  clear b3 hR4 hP3
  have hI4:PInv (P3.set bo (2+it) (P3 bo (2+it) - qty)):=by
   obtain ⟨g0,g1,g2,g3⟩:=HB3.out
   exact HR4.out.1.2.1.set_stock hit _ (by omega) (by omega)
  have z4:=HR4.out.1.cell (c:=bo) (j:=(2+it)) (by omega) (by omega)
  have zf4:=HR4.out.1.free (bo*8+2+it)
  simp only [Nat.add_zero,← Nat.add_assoc] at z4
  have kw4:IntKind.i64.wrap (P3 bo (2+it) - qty)=P3 bo (2+it) - qty:=by
   obtain ⟨g0,g1,g2,g3⟩:=HB3.out
   exact IntWalk.i64_in _ (by omega)
  have HI4:=Lib.hid hI4
  clear hI4
  go_region
  go_upto_region 13 with (fail)
  refine wp_world (R:=TradeR own i w p price1 (P3.set bo (2+it) (P3 bo (2+it) - qty))) ?_ (fun W5 hR5=>?_)
  ·first
    | exact (HR4.out.set (by omega) (by omega) _ HI4.out (by omega)).drew
    | exact HR4.out.drew.set (by omega) (by omega) _ HI4.out (by omega)
    | exact HR4.out.set (by omega) (by omega) _ HI4.out (by omega)
  obtain ⟨P4,hP4⟩:∃ P4,P4=P3.set bo (2+it) (P3 bo (2+it) - qty):=⟨_,rfl⟩
  rw [← hP4] at hR5
  have b4:P4 bo 0=(P bo 0) - price*qty∧P4 bo 1=(P bo 1) - price1*qty∧P4 bo (2+it)=(P bo (2+it)) - qty∧P4 bo (5+it)=(P bo (5+it)) - qty:=by
   subst hP4
   refine ⟨?_,?_,?_,?_⟩<;>simp [Pu.set,HB3.out]<;>omega
  have HD4:=Lib.hid hP4
  have HB4:=Lib.hid b4
  have HR5:=Lib.hid hR5
  clear b4 hR5 hP4
  have hI5:PInv (P4.set bo (2+it) (P4 bo (2+it)+qty)):=by
   obtain ⟨g0,g1,g2,g3⟩:=HB4.out
   exact HR5.out.1.2.1.set_stock hit _ (by omega) (by omega)
  have z5:=HR5.out.1.cell (c:=bo) (j:=(2+it)) (by omega) (by omega)
  have zf5:=HR5.out.1.free (bo*8+2+it)
  simp only [Nat.add_zero,← Nat.add_assoc] at z5
  have kw5:IntKind.i64.wrap (P4 bo (2+it)+qty)=P4 bo (2+it)+qty:=by
   obtain ⟨g0,g1,g2,g3⟩:=HB4.out
   exact IntWalk.i64_in _ (by omega)
  have HI5:=Lib.hid hI5
  clear hI5
  go_region
  go_upto_region 14 with (fail)
  refine wp_world (R:=TradeR own i w p price1 (P4.set bo (2+it) (P4 bo (2+it)+qty))) ?_ (fun W6 hR6=>?_)
  ·first
    | exact (HR5.out.set (by omega) (by omega) _ HI5.out (by omega)).drew
    | exact HR5.out.drew.set (by omega) (by omega) _ HI5.out (by omega)
    | exact HR5.out.set (by omega) (by omega) _ HI5.out (by omega)
  obtain ⟨P5,hP5⟩:∃ P5,P5=P4.set bo (2+it) (P4 bo (2+it)+qty):=⟨_,rfl⟩
  rw [← hP5] at hR6
  have b5:P5 bo 0=(P bo 0) - price*qty∧P5 bo 1=(P bo 1) - price1*qty∧P5 bo (2+it)=((P bo (2+it)) - qty)+qty∧P5 bo (5+it)=(P bo (5+it)) - qty:=by
   subst hP5
   refine ⟨?_,?_,?_,?_⟩<;>simp [Pu.set,HB4.out]<;>omega
  have HD5:=Lib.hid hP5
  have HB5:=Lib.hid b5
  have HR6:=Lib.hid hR6
  clear b5 hR6 hP5
  have hI6:PInv (P5.set bo 0 (P5 bo 0+price*qty)):=by
   obtain ⟨g0,g1,g2,g3⟩:=HB5.out
   exact HR6.out.1.2.1.set_cash _ (by omega) (by omega)
  have z6:=HR6.out.1.cell (c:=bo) (j:=0) (by omega) (by omega)
  have zf6:=HR6.out.1.free (bo*8)
  simp only [Nat.add_zero,← Nat.add_assoc] at z6
  have kw6:IntKind.i64.wrap (P5 bo 0+price*qty)=P5 bo 0+price*qty:=by
   obtain ⟨g0,g1,g2,g3⟩:=HB5.out
   exact IntWalk.i64_in _ (by omega)
  have HI6:=Lib.hid hI6
  clear hI6
  go_wp2_with fail
  all_goals go_ret
  all_goals refine ⟨rfl,?_⟩
  all_goals rw [show tradeF P bo bo it (price1*qty) (price*qty) qty=P5.set bo 0 (P5 bo 0+price*qty) by unfold tradeF;rw [HD5.out,HD4.out,HD3.out,HD2.out,HD1.out]]
  all_goals have hfin:=HR6.out.set (c:=bo) (j:=0) (by omega) (by omega) _ HI6.out (n:=bo*8) (by omega)
  all_goals first
   | exact ObjTo.of hfin.2.1 (PurseAt.toLab hfin.1)
   | exact ObjTo.of hfin.drew.2.1 (PurseAt.toLab hfin.drew.1)
end
end Go.Proofs.YtabbgpjofkaomaaGreatDoor

/- What Trade of package purse computes, whatever it is given. -/
namespace Go.Proofs.YtabbgpjofkaomaaGreatDoor
open Go.RowKit
section
variable {own:Nat→Nat} {i:Nat} {w:World} {p:Nat} {P:Pu}
theorem trade_any (h:PurseAt own i w p P) (item:Int) (b s:Lot) (price qty:Int) (E:Nat→Addr) (hE:Errs E [2,3,8,10,12] w) :
  Calls Tryz.prog 190 #[.pointer (some ⟨p,0,none⟩),.int .i64 item,b.val,s.val,.int .i64 price,.int .i64 qty] w fun e w'=>e=.returned (errV E (tradeE P item b s price qty))∧ObjTo own i i w (fun o w'=>PurseAt o i w' p (if tradeE P item b s price qty=0 then tradeF P b.owner.toNat s.owner.toNat item.toNat (b.price*qty) (price*qty) qty else P)) w':=by
 by_cases hf:fairE item b s price qty=0
 ·have hz:=fair_zero hf
  have hb:=hz.1
  have hs:=hz.2.1
  simp only [rightB,Bool.and_eq_true] at hb hs
  obtain ⟨i0,i2⟩:=inR_iff.1 hb.1
  obtain ⟨it,rfl⟩:=Int.eq_ofNat_of_zero_le i0
  obtain ⟨_,hob,_,_,_⟩:=Lot.okC hb.2
  obtain ⟨_,hos,_,_,_⟩:=Lot.okC hs.2
  have e0:tradeE P (it:Int) b s price qty=(if P b.owner.toNat 1<b.price*qty∨P s.owner.toNat (5+it)<qty then 10 else if b.owner.toNat≠s.owner.toNat∧(1073741824 - P b.owner.toNat (2+it)<qty∨1099511627776 - P s.owner.toNat 0<price*qty) then 8 else 0):=by
   unfold tradeE;rw [if_pos hf,Int.toNat_natCast]
  have hbo:b.owner=((b.owner.toNat:Nat):Int):=by omega
  have hso:s.owner=((s.owner.toNat:Nat):Int):=by omega
  rw [Int.toNat_natCast]
  generalize b.owner.toNat=bo at *
  generalize s.owner.toNat=so at *
  by_cases k1:P bo 1<b.price*qty
  ·have e1:tradeE P (it:Int) b s price qty=10:=by rw [e0,if_pos (.inl k1)]
   rw [e1,if_neg (by decide)]
   exact trade_poor1 h bo so it (by omega) (by omega) (by omega) b s hbo hso price qty E hE hf k1
  by_cases k2:P so (5+it)<qty
  ·have e1:tradeE P (it:Int) b s price qty=10:=by rw [e0,if_pos (.inr k2)]
   rw [e1,if_neg (by decide)]
   exact trade_poor2 h bo so it (by omega) (by omega) (by omega) b s hbo hso price qty E hE hf (by omega) k2
  by_cases hne:bo=so
  ·subst hne
   have e1:tradeE P (it:Int) b s price qty=0:=by rw [e0,if_neg (by omega),if_neg (by omega)]
   rw [e1,if_pos rfl,errV_zero]
   exact trade_same h bo it (by omega) (by omega) b s hbo hso price qty E hE hf (by omega) (by omega)
  by_cases k3:1073741824 - P bo (2+it)<qty
  ·have e1:tradeE P (it:Int) b s price qty=8:=by rw [e0,if_neg (by omega),if_pos ⟨hne,.inl k3⟩]
   rw [e1,if_neg (by decide)]
   exact trade_full1 h bo so it (by omega) (by omega) (by omega) b s hbo hso price qty E hE hf (by omega) (by omega) hne k3
  by_cases k4:1099511627776 - P so 0<price*qty
  ·have e1:tradeE P (it:Int) b s price qty=8:=by rw [e0,if_neg (by omega),if_pos ⟨hne,.inr k4⟩]
   rw [e1,if_neg (by decide)]
   exact trade_full2 h bo so it (by omega) (by omega) (by omega) b s hbo hso price qty E hE hf (by omega) (by omega) hne (by omega) k4
  ·have e1:tradeE P (it:Int) b s price qty=0:=by rw [e0,if_neg (by omega),if_neg (by omega)]
   rw [e1,if_pos rfl,errV_zero]
   exact trade_ok h bo so it (by omega) (by omega) (by omega) b s hbo hso price qty E hE hf (by omega) (by omega) hne (by omega) (by omega)
 ·have e1:tradeE P item b s price qty=fairE item b s price qty:=by unfold tradeE;rw [if_neg hf]
  rw [e1,if_neg hf]
  exact trade_unfair h item b s price qty E hE hf
end
end Go.Proofs.YtabbgpjofkaomaaGreatDoor
