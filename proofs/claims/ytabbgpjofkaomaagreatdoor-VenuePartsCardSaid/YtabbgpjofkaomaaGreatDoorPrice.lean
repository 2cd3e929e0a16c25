import Derived.Test.YtabbgpjofkaomaaGreatDoorJ21
import Derived.Deep.RegionHeld3
import Derived.Laws.CopyOwn
set_option linter.unusedSimpArgs false
set_option linter.unusedVariables false
/- What clear's Price computes. -/
namespace Go.Proofs.YtabbgpjofkaomaaGreatDoor
open Go.RowKit
theorem size_any (n:Int) (w:World) (h1:-1000000≤n) (h2:n≤1000000):Calls Tryz.prog 183 #[.int .i64 n] w fun e w'=>e=.returned (.int .i64 (iabs n))∧w=w':=by
 go_enter Tryz.func183,Tryz.ntmps183
 go_wp2
 all_goals go_ret
 all_goals exact ⟨ret_int (by unfold iabs;omega),rfl⟩
abbrev Cand.val (c:Cand):Value:=.agg #[.int .i64 c.price,.int .i64 c.vol,.int .i64 c.sur,.int .i64 c.far]
set_option maxHeartbeats 1000000 in
theorem better_any (c d:Cand) (w:World):Calls Tryz.prog 184 #[c.val,d.val] w fun e w'=>e=.returned (.bool (c.betterB d))∧Ex w w':=by
 have H:c.betterB d=if (c.vol != d.vol)=true then decide (c.vol > d.vol) else if (c.sur != d.sur)=true then decide (c.sur<d.sur) else if (c.far != d.far)=true then decide (c.far<d.far) else decide (c.price<d.price):=rfl
 have HB:=Lib.hid H
 clear H
 cases h1:(c.vol != d.vol)<;>cases h2:(c.sur != d.sur)<;>cases h3:(c.far != d.far)
 all_goals
  go_enter Tryz.func184,Tryz.ntmps184
  go_wp2
  all_goals go_ret
  all_goals exact ⟨ret_bool (by rw [HB.out];simp only [h1,h2,h3,if_true,if_false,Bool.false_eq_true]),(by repeat (first|exact Ex.refl _|refine Ex.alloc ?_ _|refine Ex.ext ?_ _ _|refine Ex.drew ?_|refine Ex.drewN ?_ _))⟩
set_option maxRecDepth 100000 in
set_option maxHeartbeats 4000000 in
theorem price_ok (ao:Option Addr) (len cap:Nat) (l:List Lot) (ref:Int) (E:Nat→Addr) (w:World) (hcap:len≤cap) (hE:Errs E [2,7,8] w) (hl:LotsAt w ao len l) (hok:LotsOk l) (r1:1≤ref) (r2:ref≤1000) :
  Calls Tryz.prog 152 #[.slice ao len cap,.int .i64 ref] w fun e w'=>e=.returned (.tuple #[.int .i64 (bestC l ref 1000).price,.int .i64 (bestC l ref 1000).vol,.nilIface])∧Ex w w':=by
 have HC:=Lib.hid (check_any ao len cap l E w hcap hE hl)
 have HLA:=Lib.hid hl
 have HOK:=Lib.hid hok
 clear hl hok hE
 go_enter Tryz.func152,Tryz.ntmps152
 go_upto_region 6 with (go_at_call 181;refine HC.out.mono ?_;rintro e w1 ⟨⟨v,rfl,hv⟩,l1,d1,rfl⟩;have hvn:=CheckV.ok HOK.out hv;clear hv;subst hvn)
 go_cut [8,9] (fun a b wx=>∃ (n:Nat) (A B:Array Value),a=.pointer (some ⟨n,0,none⟩)∧b=.pointer (some ⟨n+1,0,none⟩)∧wx.heap[n]?=some (.cells A 306 (0,0))∧wx.heap[n+1]?=some (.cells B 306 (0,0)) ∧
  (∀ j:Nat,1≤j→j≤1000→A[j]?=some (.int .i64 (dem l j))∧B[j]?=some (.int .i64 (sup l j)))∧Ex w wx)
 case first =>
  go_wp2_with (first
   | (go_at_call 182;refine (totals_any ao len cap l _ hcap (by exact LotsAt.ex HLA.out (by repeat (first|exact Ex.refl _|refine Ex.alloc ?_ _|refine Ex.ext ?_ _ _|refine Ex.drew ?_|refine Ex.drewN ?_ _))) HOK.out).mono ?_;rintro e w1 ⟨⟨A,B,rfl,hA2,hB2,hA4,hB4,hAB⟩,l2,d2,rfl⟩;have HAB:=Lib.hid hAB;have HA2:=Lib.hid hA2;have HB2:=Lib.hid hB2;have HA4:=Lib.hid hA4;have HB4:=Lib.hid hB4;clear hAB hA2 hB2 hA4 hB4)
   | (with_reducible refine wpList_alloc_row rfl 306 rfl _ _ zeroArr rfl ?_)
   | (refine wpList_store_row rfl 306 (.tmp 8) (.tmp 28) rfl _ rfl A rfl (Array.replicate 1001 (.int .i64 0)) 306 ?_ ?_ ?_ HA4.out ?_;(focus (rw [Below.heap_alloc _ _ _ (by first|(simp [ext_size];done)|(simp [ext_size];omega))];exact alloc_at (by first|(simp [ext_size];done)|(simp [ext_size];omega))));(focus (rw [HA2.out];exact sizeArr));(focus (rw [HA2.out];simp)))
   | (refine wpList_store_row rfl 306 (.tmp 9) (.tmp 29) rfl _ rfl B rfl (Array.replicate 1001 (.int .i64 0)) 306 ?_ ?_ ?_ HB4.out ?_;(focus (rw [setRow_other _ _ _ _ (by simp)];exact alloc_at (by first|rfl|(simp [ext_size];done)|(simp [ext_size];omega))));(focus (rw [HB2.out];exact sizeArr));(focus (rw [HB2.out];simp))))
  go_meet
  case rel =>
   refine ⟨_,A,B,rfl,(by simp),?_,?_,HAB.out,?_⟩
   ·rw [setRow_other _ _ _ _ (by simp)]
    refine setRow_heap _ _ (Array.replicate 1001 (.int .i64 0)) _ _ _ ?_
    rw [Below.heap_alloc _ _ _ (by simp)]
    exact alloc_at rfl
   ·rw [show (ext w (l1++l2) d2).heap.size+1=((ext w (l1++l2) d2).alloc (Obj.cells (Value.agg (Array.replicate 1001 (Value.int IntKind.i64 0))).cells 306)).heap.size by simp]
    refine setRow_heap _ _ (Array.replicate 1001 (.int .i64 0)) _ _ _ ?_
    rw [setRow_other _ _ _ _ (by simp)]
    exact alloc_at rfl
   ·exact Ex.of (below_setRow (below_setRow (Ex.below (by repeat (first|exact Ex.refl _|refine Ex.alloc ?_ _|refine Ex.ext ?_ _ _|refine Ex.drew ?_|refine Ex.drewN ?_ _))) (by simp [ext_size]) _) (by simp [ext_size];omega) _)
 case rest =>
  obtain ⟨n,A,B,rfl,rfl,hA,hB,hAB,hx⟩:=hcut
  have HAB:=Lib.hid hAB
  have hbx:=hx.below
  obtain ⟨wb,rfl⟩:∃ x,x=wc:=⟨_,rfl⟩
  clear hAB hx
  have hzn:n+1<wb.heap.size:=(Array.getElem?_eq_some_iff.1 hB).1
  have HA:=Lib.hid hA
  have HB:=Lib.hid hB
  have hmem:=HOK.out.mem
  have HM:=Lib.hid hmem
  have h120:=HOK.out.1
  clear hA hB hmem
  go_wp2_with fail
  go_loopw [11] (fun i wr=>∃ (k:Nat),k≤1000∧i=.int .i64 ((k:Int)+1)∧wr.cell? ⟨wb.heap.size,0,none⟩=some (.int .i64 (bestC l ref k).price)∧wr.cell? ⟨wb.heap.size,1,none⟩=some (.int .i64 (bestC l ref k).vol) ∧
    wr.cell? ⟨wb.heap.size,2,none⟩=some (.int .i64 (bestC l ref k).sur)∧wr.cell? ⟨wb.heap.size,3,none⟩=some (.int .i64 (bestC l ref k).far) ∧
    wr.frozen? ⟨wb.heap.size,0,none⟩=false∧wr.frozen? ⟨wb.heap.size,1,none⟩=false∧wr.frozen? ⟨wb.heap.size,2,none⟩=false∧wr.frozen? ⟨wb.heap.size,3,none⟩=false ∧
    wb.heap.size<wr.heap.size∧Below wb.heap.size wb wr) (fun i _=>1001 - (intOf i).toNat)
  case atStart =>
   refine ⟨0,by omega,rfl,?_,?_,?_,?_,?_,?_,?_,?_,?_,?_⟩
   all_goals first
    | (simp [go_sem,↓IntWalk.iteOmega,bestC];done)
    | (simp [go_sem];omega)
    | exact Ex.below (by repeat (first|exact Ex.refl _|refine Ex.alloc ?_ _|refine Ex.ext ?_ _ _|refine Ex.drew ?_|refine Ex.drewN ?_ _))
  case round =>
   obtain ⟨k,hk,rfl,c0,c1,c2,c3,f0,f1,f2,f3,hsz,hbl⟩:=hrel
   by_cases hlt:k<1000
   ·obtain ⟨hd,hs⟩:=HAB.out (k+1) (by omega) (by omega)
    have hcA:wr.cell? ⟨n,k+1,none⟩=some (.int .i64 (dem l ((k+1:Nat):Int))):=(hbl.cell (p:=⟨n,k+1,none⟩) (show n<wb.heap.size by omega)).trans ((cell_of_row wb n (k+1) A _ _ HA.out).trans hd)
    have hcB:wr.cell? ⟨n+1,k+1,none⟩=some (.int .i64 (sup l ((k+1:Nat):Int))):=(hbl.cell (p:=⟨n+1,k+1,none⟩) hzn).trans ((cell_of_row wb (n+1) (k+1) B _ _ HB.out).trans hs)
    clear hd hs
    have b1:=sumOf_bounds (isDem ((k+1:Nat):Int)) l HM.out
    have b2:=sumOf_bounds (isSup ((k+1:Nat):Int)) l HM.out
    change 0≤dem l _∧dem l _≤_ at b1
    change 0≤sup l _∧sup l _≤_ at b2
    have hst:bestC l ref (k+1)=if decide (0<min (dem l ((k+1:Nat):Int)) (sup l ((k+1:Nat):Int))) && (Cand.mk ((k:Int)+1) (min (dem l ((k+1:Nat):Int)) (sup l ((k+1:Nat):Int))) (iabs (dem l ((k+1:Nat):Int) - sup l ((k+1:Nat):Int))) (iabs ((k:Int)+1 - ref))).betterB (bestC l ref k) then
     Cand.mk ((k:Int)+1) (min (dem l ((k+1:Nat):Int)) (sup l ((k+1:Nat):Int))) (iabs (dem l ((k+1:Nat):Int) - sup l ((k+1:Nat):Int))) (iabs ((k:Int)+1 - ref)) else bestC l ref k:=rfl
    generalize dem l ((k+1:Nat):Int)=D at *
    generalize sup l ((k+1:Nat):Int)=S at *
    generalize bestC l ref k=bst at *
    rcases Int.lt_or_le S D with hm|hm
    ·rw [show min D S=S by omega] at hst
     have HS:=Lib.hid hst
     clear hst
     have i1:IntKind.i64.wrap (D - S)=D - S:=IntWalk.i64_in _ (by omega)
     have i2:IntKind.i64.wrap ((k:Int)+1 - ref)=(k:Int)+1 - ref:=IntWalk.i64_in _ (by omega)
     have HZ1:Hid (∀ w,Calls Tryz.prog 183 #[.int .i64 (D - S)] w fun e w'=>e=.returned (.int .i64 (iabs (D - S)))∧Ex w w'):=Lib.hid (fun w=>(size_any (D - S) w (by omega) (by omega)).mono fun e w' h=>⟨h.1,h.2▸Ex.refl _⟩)
     have HZ2:Hid (∀ w,Calls Tryz.prog 183 #[.int .i64 ((k:Int)+1 - ref)] w fun e w'=>e=.returned (.int .i64 (iabs ((k:Int)+1 - ref)))∧Ex w w'):=Lib.hid (fun w=>(size_any ((k:Int)+1 - ref) w (by omega) (by omega)).mono fun e w' h=>⟨h.1,h.2▸Ex.refl _⟩)
     have j0:(0:Int)≤(k:Int)+1:=by omega
     have j1:(k:Int)+1<1001:=by omega
     have j2:((k:Int)+1).toNat=k+1:=by omega
     go_wp2_with fail
     go_cut [12] (fun c wx=>∃ cb:Nat,c=.pointer (some ⟨cb,0,none⟩)∧wx.cell? ⟨cb,0,none⟩=some (.int .i64 ((k:Int)+1))∧wx.cell? ⟨cb,1,none⟩=some (.int .i64 S)∧wx.cell? ⟨cb,2,none⟩=some (.int .i64 (iabs (D - S)))∧wx.cell? ⟨cb,3,none⟩=some (.int .i64 (iabs ((k:Int)+1 - ref)))∧wr.heap.size≤cb∧cb<wx.heap.size∧Below wr.heap.size wr wx)
     case first =>
      go_region_held3 (fun w'=>w'.cell? ⟨n,k+1,none⟩=some (.int .i64 D)∧w'.cell? ⟨n+1,k+1,none⟩=some (.int .i64 S)) (first|exact ⟨hcA,hcB⟩|(simp [go_sem,↓IntWalk.iteOmega, *];done))
       (first|(go_at_call 183;((with_reducible refine (HZ1.out _).mono ?_);rintro e w1 ⟨rfl,l4,d4,rfl⟩))|(go_at_call 183;((with_reducible refine (HZ2.out _).mono ?_);rintro e w1 ⟨rfl,l5,d5,rfl⟩)))
      all_goals
       go_wp2_with fail
       go_meet
       case rel =>
        refine ⟨_,rfl,?_,?_,?_,?_,?_,?_,?_⟩
        all_goals first
         | (simp [go_sem,↓IntWalk.iteOmega];done)
         | (simp [go_sem,↓IntWalk.iteOmega];omega)
         | (refine Below.trans (Below.refl _ _) ?_;repeat (first|exact Below.refl _ _|(refine Below.drew ?_)|(refine Below.drewN ?_ _)|(refine Below.ext ?_ (by first|omega|(simp [go_sem];done)|(simp [go_sem];omega)) _ _)|(refine Below.alloc ?_ (by first|omega|(simp [go_sem];done)|(simp [go_sem];omega)) _)|(refine Below.setCell ?_ (by first|omega|(simp [go_sem];done)|(simp [go_sem];omega)) _)))
     case rest =>
      obtain ⟨cb,rfl,x0,x1,x2,x3,hx0,hx1,hbx⟩:=hcut
      replace c0:=(hbx.cell (p:=⟨wb.heap.size,0,none⟩) hsz).trans c0
      replace c1:=(hbx.cell (p:=⟨wb.heap.size,1,none⟩) hsz).trans c1
      replace c2:=(hbx.cell (p:=⟨wb.heap.size,2,none⟩) hsz).trans c2
      replace c3:=(hbx.cell (p:=⟨wb.heap.size,3,none⟩) hsz).trans c3
      replace f0:=(hbx.frozen (p:=⟨wb.heap.size,0,none⟩) hsz).trans f0
      replace f1:=(hbx.frozen (p:=⟨wb.heap.size,1,none⟩) hsz).trans f1
      replace f2:=(hbx.frozen (p:=⟨wb.heap.size,2,none⟩) hsz).trans f2
      replace f3:=(hbx.frozen (p:=⟨wb.heap.size,3,none⟩) hsz).trans f3
      have hzl:=hbl.size
      have hzx:=hbx.size
      have HBB:=Lib.hid (hbl.trans (hbx.mono hzl))
      clear hcA hcB i1 i2 HZ1 HZ2
      by_cases hv:0<S
      ·have HBT:=Lib.hid (fun w=>better_any ⟨(k:Int)+1,S,iabs (D - S),iabs ((k:Int)+1 - ref)⟩ bst w)
       cases hb:(Cand.mk ((k:Int)+1) S (iabs (D - S)) (iabs ((k:Int)+1 - ref))).betterB bst
       ·have hbc:bestC l ref (k+1)=bst:=by rw [HS.out,hb,Bool.and_false];rfl
        have HBC:=Lib.hid hbc
        rw [hb] at HBT
        clear hb hbc HS
        generalize iabs (D - S)=su at *
        generalize iabs ((k:Int)+1 - ref)=fa at *
        go_wp2_with (go_at_call 184;refine (HBT.out _).mono ?_;rintro e w1 ⟨rfl,l6,d6,rfl⟩)
        all_goals (go_roundw;(case measure=>simp [intOf];omega);(case rel=>(refine ⟨k+1,by omega,by go_num,?_,?_,?_,?_,?_,?_,?_,?_,?_,?_⟩;all_goals first|(rw [HBC.out];simp [go_sem,↓IntWalk.iteOmega, *];done)|(simp [go_sem,↓IntWalk.iteOmega, *];done)|(simp [go_sem,↓IntWalk.iteOmega, *];omega)|omega|(refine Below.trans HBB.out ?_;repeat (first|exact Below.refl _ _|(refine Below.drew ?_)|(refine Below.drewN ?_ _)|(refine Below.ext ?_ (by first|omega|(simp [go_sem];done)|(simp [go_sem];omega)) _ _)|(refine Below.alloc ?_ (by first|omega|(simp [go_sem];done)|(simp [go_sem];omega)) _)|(refine Below.setCell ?_ (by first|omega|(simp [go_sem];done)|(simp [go_sem];omega)) _))))))
       ·have hbc:bestC l ref (k+1)=Cand.mk ((k:Int)+1) S (iabs (D - S)) (iabs ((k:Int)+1 - ref)):=by rw [HS.out,hb,Bool.and_true,if_pos (by simpa using hv)]
        have HBC:=Lib.hid hbc
        rw [hb] at HBT
        clear hb hbc HS
        generalize iabs (D - S)=su at *
        generalize iabs ((k:Int)+1 - ref)=fa at *
        go_wp2_with (go_at_call 184;refine (HBT.out _).mono ?_;rintro e w1 ⟨rfl,l6,d6,rfl⟩)
        all_goals (go_roundw;(case measure=>simp [intOf];omega);(case rel=>(refine ⟨k+1,by omega,by go_num,?_,?_,?_,?_,?_,?_,?_,?_,?_,?_⟩;all_goals first|(rw [HBC.out];simp [go_sem,↓IntWalk.iteOmega, *];done)|(simp [go_sem,↓IntWalk.iteOmega, *];done)|(simp [go_sem,↓IntWalk.iteOmega, *];omega)|omega|(refine Below.trans HBB.out ?_;repeat (first|exact Below.refl _ _|(refine Below.drew ?_)|(refine Below.drewN ?_ _)|(refine Below.ext ?_ (by first|omega|(simp [go_sem];done)|(simp [go_sem];omega)) _ _)|(refine Below.alloc ?_ (by first|omega|(simp [go_sem];done)|(simp [go_sem];omega)) _)|(refine Below.setCell ?_ (by first|omega|(simp [go_sem];done)|(simp [go_sem];omega)) _))))))
      ·have hbc:bestC l ref (k+1)=bst:=by rw [HS.out,decide_eq_false hv,Bool.false_and];rfl
       have HBC:=Lib.hid hbc
       clear hbc HS
       generalize iabs (D - S)=su at *
       generalize iabs ((k:Int)+1 - ref)=fa at *
       go_wp2_with fail
       all_goals (go_roundw;(case measure=>simp [intOf];omega);(case rel=>(refine ⟨k+1,by omega,by go_num,?_,?_,?_,?_,?_,?_,?_,?_,?_,?_⟩;all_goals first|(rw [HBC.out];simp [go_sem,↓IntWalk.iteOmega, *];done)|(simp [go_sem,↓IntWalk.iteOmega, *];done)|(simp [go_sem,↓IntWalk.iteOmega, *];omega)|omega|(refine Below.trans HBB.out ?_;repeat (first|exact Below.refl _ _|(refine Below.drew ?_)|(refine Below.drewN ?_ _)|(refine Below.ext ?_ (by first|omega|(simp [go_sem];done)|(simp [go_sem];omega)) _ _)|(refine Below.alloc ?_ (by first|omega|(simp [go_sem];done)|(simp [go_sem];omega)) _)|(refine Below.setCell ?_ (by first|omega|(simp [go_sem];done)|(simp [go_sem];omega)) _))))))
    ·rw [show min D S=D by omega] at hst
     have HS:=Lib.hid hst
     clear hst
     have i1:IntKind.i64.wrap (D - S)=D - S:=IntWalk.i64_in _ (by omega)
     have i2:IntKind.i64.wrap ((k:Int)+1 - ref)=(k:Int)+1 - ref:=IntWalk.i64_in _ (by omega)
     have HZ1:Hid (∀ w,Calls Tryz.prog 183 #[.int .i64 (D - S)] w fun e w'=>e=.returned (.int .i64 (iabs (D - S)))∧Ex w w'):=Lib.hid (fun w=>(size_any (D - S) w (by omega) (by omega)).mono fun e w' h=>⟨h.1,h.2▸Ex.refl _⟩)
     have HZ2:Hid (∀ w,Calls Tryz.prog 183 #[.int .i64 ((k:Int)+1 - ref)] w fun e w'=>e=.returned (.int .i64 (iabs ((k:Int)+1 - ref)))∧Ex w w'):=Lib.hid (fun w=>(size_any ((k:Int)+1 - ref) w (by omega) (by omega)).mono fun e w' h=>⟨h.1,h.2▸Ex.refl _⟩)
     have j0:(0:Int)≤(k:Int)+1:=by omega
     have j1:(k:Int)+1<1001:=by omega
     have j2:((k:Int)+1).toNat=k+1:=by omega
     go_wp2_with fail
     go_cut [12] (fun c wx=>∃ cb:Nat,c=.pointer (some ⟨cb,0,none⟩)∧wx.cell? ⟨cb,0,none⟩=some (.int .i64 ((k:Int)+1))∧wx.cell? ⟨cb,1,none⟩=some (.int .i64 D)∧wx.cell? ⟨cb,2,none⟩=some (.int .i64 (iabs (D - S)))∧wx.cell? ⟨cb,3,none⟩=some (.int .i64 (iabs ((k:Int)+1 - ref)))∧wr.heap.size≤cb∧cb<wx.heap.size∧Below wr.heap.size wr wx)
     case first =>
      go_region_held3 (fun w'=>w'.cell? ⟨n,k+1,none⟩=some (.int .i64 D)∧w'.cell? ⟨n+1,k+1,none⟩=some (.int .i64 S)) (first|exact ⟨hcA,hcB⟩|(simp [go_sem,↓IntWalk.iteOmega, *];done))
       (first|(go_at_call 183;((with_reducible refine (HZ1.out _).mono ?_);rintro e w1 ⟨rfl,l4,d4,rfl⟩))|(go_at_call 183;((with_reducible refine (HZ2.out _).mono ?_);rintro e w1 ⟨rfl,l5,d5,rfl⟩)))
      all_goals
       go_wp2_with fail
       go_meet
       case rel =>
        refine ⟨_,rfl,?_,?_,?_,?_,?_,?_,?_⟩
        all_goals first
         | (simp [go_sem,↓IntWalk.iteOmega];done)
         | (simp [go_sem,↓IntWalk.iteOmega];omega)
         | (refine Below.trans (Below.refl _ _) ?_;repeat (first|exact Below.refl _ _|(refine Below.drew ?_)|(refine Below.drewN ?_ _)|(refine Below.ext ?_ (by first|omega|(simp [go_sem];done)|(simp [go_sem];omega)) _ _)|(refine Below.alloc ?_ (by first|omega|(simp [go_sem];done)|(simp [go_sem];omega)) _)|(refine Below.setCell ?_ (by first|omega|(simp [go_sem];done)|(simp [go_sem];omega)) _)))
     case rest =>
      obtain ⟨cb,rfl,x0,x1,x2,x3,hx0,hx1,hbx⟩:=hcut
      replace c0:=(hbx.cell (p:=⟨wb.heap.size,0,none⟩) hsz).trans c0
      replace c1:=(hbx.cell (p:=⟨wb.heap.size,1,none⟩) hsz).trans c1
      replace c2:=(hbx.cell (p:=⟨wb.heap.size,2,none⟩) hsz).trans c2
      replace c3:=(hbx.cell (p:=⟨wb.heap.size,3,none⟩) hsz).trans c3
      replace f0:=(hbx.frozen (p:=⟨wb.heap.size,0,none⟩) hsz).trans f0
      replace f1:=(hbx.frozen (p:=⟨wb.heap.size,1,none⟩) hsz).trans f1
      replace f2:=(hbx.frozen (p:=⟨wb.heap.size,2,none⟩) hsz).trans f2
      replace f3:=(hbx.frozen (p:=⟨wb.heap.size,3,none⟩) hsz).trans f3
      have hzl:=hbl.size
      have hzx:=hbx.size
      have HBB:=Lib.hid (hbl.trans (hbx.mono hzl))
      clear hcA hcB i1 i2 HZ1 HZ2
      by_cases hv:0<D
      ·have HBT:=Lib.hid (fun w=>better_any ⟨(k:Int)+1,D,iabs (D - S),iabs ((k:Int)+1 - ref)⟩ bst w)
       cases hb:(Cand.mk ((k:Int)+1) D (iabs (D - S)) (iabs ((k:Int)+1 - ref))).betterB bst
       ·have hbc:bestC l ref (k+1)=bst:=by rw [HS.out,hb,Bool.and_false];rfl
        have HBC:=Lib.hid hbc
        rw [hb] at HBT
        clear hb hbc HS
        generalize iabs (D - S)=su at *
        generalize iabs ((k:Int)+1 - ref)=fa at *
        go_wp2_with (go_at_call 184;refine (HBT.out _).mono ?_;rintro e w1 ⟨rfl,l6,d6,rfl⟩)
        all_goals (go_roundw;(case measure=>simp [intOf];omega);(case rel=>(refine ⟨k+1,by omega,by go_num,?_,?_,?_,?_,?_,?_,?_,?_,?_,?_⟩;all_goals first|(rw [HBC.out];simp [go_sem,↓IntWalk.iteOmega, *];done)|(simp [go_sem,↓IntWalk.iteOmega, *];done)|(simp [go_sem,↓IntWalk.iteOmega, *];omega)|omega|(refine Below.trans HBB.out ?_;repeat (first|exact Below.refl _ _|(refine Below.drew ?_)|(refine Below.drewN ?_ _)|(refine Below.ext ?_ (by first|omega|(simp [go_sem];done)|(simp [go_sem];omega)) _ _)|(refine Below.alloc ?_ (by first|omega|(simp [go_sem];done)|(simp [go_sem];omega)) _)|(refine Below.setCell ?_ (by first|omega|(simp [go_sem];done)|(simp [go_sem];omega)) _))))))
       ·have hbc:bestC l ref (k+1)=Cand.mk ((k:Int)+1) D (iabs (D - S)) (iabs ((k:Int)+1 - ref)):=by rw [HS.out,hb,Bool.and_true,if_pos (by simpa using hv)]
        have HBC:=Lib.hid hbc
        rw [hb] at HBT
        clear hb hbc HS
        generalize iabs (D - S)=su at *
        generalize iabs ((k:Int)+1 - ref)=fa at *
        go_wp2_with (go_at_call 184;refine (HBT.out _).mono ?_;rintro e w1 ⟨rfl,l6,d6,rfl⟩)
        all_goals (go_roundw;(case measure=>simp [intOf];omega);(case rel=>(refine ⟨k+1,by omega,by go_num,?_,?_,?_,?_,?_,?_,?_,?_,?_,?_⟩;all_goals first|(rw [HBC.out];simp [go_sem,↓IntWalk.iteOmega, *];done)|(simp [go_sem,↓IntWalk.iteOmega, *];done)|(simp [go_sem,↓IntWalk.iteOmega, *];omega)|omega|(refine Below.trans HBB.out ?_;repeat (first|exact Below.refl _ _|(refine Below.drew ?_)|(refine Below.drewN ?_ _)|(refine Below.ext ?_ (by first|omega|(simp [go_sem];done)|(simp [go_sem];omega)) _ _)|(refine Below.alloc ?_ (by first|omega|(simp [go_sem];done)|(simp [go_sem];omega)) _)|(refine Below.setCell ?_ (by first|omega|(simp [go_sem];done)|(simp [go_sem];omega)) _))))))
      ·have hbc:bestC l ref (k+1)=bst:=by rw [HS.out,decide_eq_false hv,Bool.false_and];rfl
       have HBC:=Lib.hid hbc
       clear hbc HS
       generalize iabs (D - S)=su at *
       generalize iabs ((k:Int)+1 - ref)=fa at *
       go_wp2_with fail
       all_goals (go_roundw;(case measure=>simp [intOf];omega);(case rel=>(refine ⟨k+1,by omega,by go_num,?_,?_,?_,?_,?_,?_,?_,?_,?_,?_⟩;all_goals first|(rw [HBC.out];simp [go_sem,↓IntWalk.iteOmega, *];done)|(simp [go_sem,↓IntWalk.iteOmega, *];done)|(simp [go_sem,↓IntWalk.iteOmega, *];omega)|omega|(refine Below.trans HBB.out ?_;repeat (first|exact Below.refl _ _|(refine Below.drew ?_)|(refine Below.drewN ?_ _)|(refine Below.ext ?_ (by first|omega|(simp [go_sem];done)|(simp [go_sem];omega)) _ _)|(refine Below.alloc ?_ (by first|omega|(simp [go_sem];done)|(simp [go_sem];omega)) _)|(refine Below.setCell ?_ (by first|omega|(simp [go_sem];done)|(simp [go_sem];omega)) _))))))
   ·obtain rfl:k=1000:=by omega
    generalize hbe:bestC l ref 1000=bst at *
    have HBE:=Lib.hid hbe
    clear hbe
    go_wp2_with fail
    go_quiet (fail)
    go_wp2
    all_goals go_ret3
    all_goals exact ⟨by rw [HBE.out];rfl,Ex.trans (Ex.of hbx) ((Ex.of hbl).trans (by repeat (first|exact Ex.refl _|refine Ex.alloc ?_ _|refine Ex.ext ?_ _ _|refine Ex.drew ?_|refine Ex.drewN ?_ _)))⟩
end Go.Proofs.YtabbgpjofkaomaaGreatDoor
