import Derived.Test.YtabbgpjofkaomaaGreatDoorJ35
set_option linter.unusedSimpArgs false
set_option linter.unusedVariables false
/- What request of a venue computes: a request of a batch. -/
namespace Go.Proofs.YtabbgpjofkaomaaGreatDoor
open Go.RowKit
def anyTh (b:Nat):Th where
 P F w:=(∀ n,F n↔n=b)∧b<w.heap.size
 lt h n hn:=by rw [(h.1 n).1 hn];exact h.2
 same h ho hn:=⟨h.1,Nat.lt_of_lt_of_le h.2 ho.size⟩
def askC (a:Ask):Array Value:=#[.int .u8 a.kind,.int .i64 a.client,.int .i64 a.seq,.int .i64 a.item,.int .i64 a.side,.int .i64 a.price,.int .i64 a.qty,.int .i64 a.id]
theorem askedE_le (a:Ask) (k:Int):askedE a k≤4:=by
 have:=Ask.err_le a
 unfold askedE
 (repeat' split)<;>omega
theorem fplaceE_le (st:FSt) (a:Ask):fplaceE st a≤12:=by
 have:=askedE_le a 111
 unfold fplaceE placeE addE holdE
 (repeat' split)<;>omega
theorem fcancelE_le (st:FSt) (a:Ask):(fcancelR st a).2.1≤12:=by
 have:=askedE_le a 99
 unfold fcancelR goneR
 (repeat' split)<;>simp only<;>omega
section
variable {E:Nat→Addr} {w0 w W W':World} {F:Nat→Prop} {A:VA} {v v':VSt} {M:List Th}
theorem VX.forget (M1:List Th) {b:Nat} {vs:Array Value} {t:TypeId} {M2:List Th} (X:VX E w0 F w A v (M1++(blkTh b vs t::M2)) W):VX E w0 F w A v (M1++(anyTh b::M2)) W :=
 X.turn M1 fun G h=>⟨G,⟨h.1,(Array.getElem?_eq_some_iff.1 h.2).1⟩,Only.refl _ _,fun n hn=>.inl hn⟩
theorem VX.setAny (M1:List Th) {b:Nat} {M2:List Th} (X:VX E w0 F w A v (M1++(anyTh b::M2)) W) (j:Nat) (x:Value):VX E w0 F w A v (M1++(anyTh b::M2)) (W.setCell ⟨b,j,none⟩ x) :=
 X.turn M1 fun G h=>⟨G,⟨h.1,by simpa [World.setCell] using h.2⟩,(Only.refl G W).setCell (p:=⟨b,j,none⟩) (fun _=>(h.1 _).2 rfl) x,fun n hn=>.inl hn⟩
theorem VX.setBlk (M1:List Th) {b:Nat} {vs:Array Value} {t:TypeId} {M2:List Th} (X:VX E w0 F w A v (M1++(blkTh b vs t::M2)) W) (j:Nat) (x:Value):VX E w0 F w A v (M1++(blkTh b (vs.setIfInBounds j x) t::M2)) (W.setCell ⟨b,j,none⟩ x) :=
 X.turn M1 fun G h=>⟨G,⟨h.1,heap_setCell_same W b j vs t x h.2⟩,(Only.refl G W).setCell (p:=⟨b,j,none⟩) (fun _=>(h.1 _).2 rfl) x,fun n hn=>.inl hn⟩
theorem VX.setLot {b:Nat} {z:Lot} {t:TypeId} {M2:List Th} (X:VX E w0 F w A v (blkTh b (lotA z) t::M2) W) (x:Lot):VX E w0 F w A v (blkTh b (lotA x) t::M2) (((((W.setCell ⟨b,0,none⟩ (.int .i64 x.id)).setCell ⟨b,1,none⟩ (.int .i64 x.owner)).setCell ⟨b,2,none⟩ (.int .i64 x.side)).setCell ⟨b,3,none⟩ (.int .i64 x.price)).setCell ⟨b,4,none⟩ (.int .i64 x.qty)):=by
 have h:=VX.setBlk [] (VX.setBlk [] (VX.setBlk [] (VX.setBlk [] (VX.setBlk [] X 0 (.int .i64 x.id)) 1 (.int .i64 x.owner)) 2 (.int .i64 x.side)) 3 (.int .i64 x.price)) 4 (.int .i64 x.qty)
 have e:((((((lotA z).setIfInBounds 0 (.int .i64 x.id)).setIfInBounds 1 (.int .i64 x.owner)).setIfInBounds 2 (.int .i64 x.side)).setIfInBounds 3 (.int .i64 x.price)).setIfInBounds 4 (.int .i64 x.qty))=lotA x:=by simp [lotA]
 rw [e] at h
 exact h
theorem VX.setAny6 {b:Nat} {M2:List Th} (X:VX E w0 F w A v (anyTh b::M2) W) (x0 x1 x2 x3 x4 x5:Value):VX E w0 F w A v (anyTh b::M2) ((((((W.setCell ⟨b,0,none⟩ x0).setCell ⟨b,1,none⟩ x1).setCell ⟨b,2,none⟩ x2).setCell ⟨b,3,none⟩ x3).setCell ⟨b,4,none⟩ x4).setCell ⟨b,5,none⟩ x5) :=
 VX.setAny [] (VX.setAny [] (VX.setAny [] (VX.setAny [] (VX.setAny [] (VX.setAny [] X 0 x0) 1 x1) 2 x2) 3 x3) 4 x4) 5 x5
set_option maxRecDepth 100000 in
set_option maxHeartbeats 8000000 in
theorem VX.request (X:VX E w0 F w A v M W) (hO:FOk v.f) (a:Ask) :
  Calls Tryz.prog 88 #[.pointer (some ⟨A.vb,0,none⟩),a.val] W fun e w'=>e=.returned (.tuple #[(requestR a v.f).1.val,.bool (requestR a v.f).2.1])∧VX E w0 F w A { v with f:=(requestR a v.f).2.2 } M w':=by
 obtain ⟨⟨c6,c7,c8,c9,c10,c11,c12,c0⟩,hvb,hrg⟩:=X.cells
 obtain ⟨ak,ac,aS,ai,ad,ap,aq,aid⟩:=a
 have hWs:∀ W',Ex W W'→Blk W' W.heap.size (askC ⟨ak,ac,aS,ai,ad,ap,aq,aid⟩) 45→Blk W' (W.heap.size+1) #[.int .i64 0,.string ⟨#[]⟩,.int .i64 0,.int .i64 0,.int .i64 0,.int .i64 0] 50 →
   VX E w0 F w A v (blkTh (W.heap.size+1) #[.int .i64 0,.string ⟨#[]⟩,.int .i64 0,.int .i64 0,.int .i64 0,.int .i64 0] 50::blkTh W.heap.size (askC ⟨ak,ac,aS,ai,ad,ap,aq,aid⟩) 45::M) W':=fun W' hx h1 h2=>by
  refine X.add (M':=[blkTh (W.heap.size+1) _ _,blkTh W.heap.size _ _]) (G:=fun n=>n=W.heap.size+1∨n=W.heap.size) hx (SepL.two ⟨fun n=>Iff.rfl,h2⟩ ⟨fun n=>Iff.rfl,h1⟩ (fun n h3 h4=>by omega)) (fun n hn=>by omega)
 have HWS:=Lib.hid hWs
 clear hWs X
 generalize hres:requestR ⟨ak,ac,aS,ai,ad,ap,aq,aid⟩ v.f=res
 have HRES:=Lib.hid hres
 clear hres
 go_enter Tryz.func88,Tryz.ntmps88
 go_upto_region 1 with fail
 refine wp_world (R:=fun W'=>VX E w0 F w A v (blkTh (W.heap.size+1) #[.int .i64 0,.string ⟨#[]⟩,.int .i64 0,.int .i64 0,.int .i64 0,.int .i64 0] 50::blkTh W.heap.size (askC ⟨ak,ac,aS,ai,ad,ap,aq,aid⟩) 45::M) W') (HWS.out _ (by repeat (first|exact Ex.refl _|refine Ex.alloc ?_ _|refine Ex.ext ?_ _ _|refine Ex.drew ?_|refine Ex.drewN ?_ _)) (by repeat (first|exact Blk.new (by first|omega|(simp [go_sem];done)|(simp [go_sem];omega))|(with_reducible exact Blk.new rfl)|(with_reducible refine Blk.drew ?_)|(with_reducible refine Blk.drewN ?_ _)|(with_reducible refine Blk.ext ?_ _ _)|(with_reducible refine Blk.alloc ?_ _))) (by repeat (first|exact Blk.new (by first|omega|(simp [go_sem];done)|(simp [go_sem];omega))|(with_reducible exact Blk.new rfl)|(with_reducible refine Blk.drew ?_)|(with_reducible refine Blk.drewN ?_ _)|(with_reducible refine Blk.ext ?_ _ _)|(with_reducible refine Blk.alloc ?_ _)))) ?_
 clear c6 c7 c8 c9 c10 c11 c12 c0 HWS
 have hvg:A.vb<W.heap.size+1:=by omega
 have hgr:W.heap.size<W.heap.size+1:=Nat.lt_succ_self _
 generalize W.heap.size+1=rp at *
 generalize W.heap.size=bx at *
 rintro W1 hX1
 have HX1:=Lib.hid hX1
 obtain ⟨⟨c6,_⟩,hvb1,hrg1⟩:=hX1.cells
 have hgc:=blk_cell (VX.blk [blkTh rp _ _] hX1)
 have g0:=hgc 0
 have g1:=hgc 1
 have g2:=hgc 2
 have g3:=hgc 3
 have g4:=hgc 4
 have g5:=hgc 5
 have g6:=hgc 6
 have g7:=hgc 7
 have hgl:bx<W1.heap.size:=(Array.getElem?_eq_some_iff.1 (VX.blk [blkTh rp _ _] hX1)).1
 have hrl:rp<W1.heap.size:=(Array.getElem?_eq_some_iff.1 (VX.blk [] hX1)).1
 simp only [askC,List.getElem?_toArray,List.getElem?_cons_zero,List.getElem?_cons_succ] at g0 g1 g2 g3 g4 g5 g6 g7
 clear hX1 hgc
 by_cases hk:ak=111
 ·subst hk
  have HPL:Hid (∀ W',Ex W1 W'→_):=Lib.hid (fun W' hx=>(HX1.out.later hx).place ⟨111,ac,aS,ai,ad,ap,aq,aid⟩)
  have hle:=fplaceE_le v.f ⟨111,ac,aS,ai,ad,ap,aq,aid⟩
  have HR2:Hid (res=if fplaceE v.f ⟨111,ac,aS,ai,ad,ap,aq,aid⟩≠0 then (refR ac aid (fplaceE v.f ⟨111,ac,aS,ai,ad,ap,aq,aid⟩),false,fplaceS v.f ⟨111,ac,aS,ai,ad,ap,aq,aid⟩) else (⟨0,⟨#[]⟩,0,0,0,0⟩,true,fplaceS v.f ⟨111,ac,aS,ai,ad,ap,aq,aid⟩)):=Lib.hid (HRES.out.symm.trans (if_pos rfl))
  generalize fplaceE v.f ⟨111,ac,aS,ai,ad,ap,aq,aid⟩=c at *
  clear HRES
  by_cases hc:c=0
  ·subst hc
   simp only [errV_zero] at HPL
   go_upto_region 2 with fail
   go_region_with (go_at_call 119;refine (HPL.out _ (by repeat (first|exact Ex.refl _|refine Ex.alloc ?_ _|refine Ex.ext ?_ _ _|refine Ex.drew ?_|refine Ex.drewN ?_ _))).mono ?_;rintro e w5 ⟨rfl,hX5⟩)
   all_goals
    have HX5:=Lib.hid hX5
    have hrl5:rp<w5.heap.size:=(Array.getElem?_eq_some_iff.1 (VX.blk [] hX5)).1
    have hrc:=blk_cell (VX.blk [] hX5)
    have hrf:∀ j,w5.frozen? ⟨rp,j,none⟩=false:=fun j=>by simp [World.frozen?,VX.blk [] hX5]
    have q0:=hrc 0
    have q1:=hrc 1
    have q2:=hrc 2
    have q3:=hrc 3
    have q4:=hrc 4
    have q5:=hrc 5
    simp only [List.getElem?_toArray,List.getElem?_cons_zero,List.getElem?_cons_succ] at q0 q1 q2 q3 q4 q5
    clear hX5 hrc HPL HX1 g0 g1 g2 g3 g4 g5 g6 g7
    go_wp2_with fail
    all_goals ((try simp only [Exit.inBlock,Exit.then]);(refine bodyPost_ret (v:=.tuple #[.agg #[.int .i64 0,.string ⟨#[]⟩,.int .i64 0,.int .i64 0,.int .i64 0,.int .i64 0],.bool true]) ?_ rfl ⟨by rw [HR2.out,if_neg (by simp)],by rw [HR2.out,if_neg (by simp)];exact VX.less [] (VX.less [] (VX.setAny6 (VX.forget [] HX5.out) _ _ _ _ _ _))⟩);simp only [results,Tryz.results88];simp [go_sem,↓IntWalk.iteOmega, *])
  ·simp only [errV_pos E c hc] at HPL
   have hcl:1≤c∧c≤12:=by omega
   go_upto_region 2 with fail
   go_region_with (go_at_call 119;refine (HPL.out _ (by repeat (first|exact Ex.refl _|refine Ex.alloc ?_ _|refine Ex.ext ?_ _ _|refine Ex.drew ?_|refine Ex.drewN ?_ _))).mono ?_;rintro e w5 ⟨rfl,hX5⟩)
   all_goals
    have HX5:=Lib.hid hX5
    clear g0 g1 g2 g3 g4 g5 g6 g7
    have hrl5:rp<w5.heap.size:=(Array.getElem?_eq_some_iff.1 (VX.blk [] hX5)).1
    have hrc:=blk_cell (VX.blk [] hX5)
    have hrf:∀ j,w5.frozen? ⟨rp,j,none⟩=false:=fun j=>by simp [World.frozen?,VX.blk [] hX5]
    have q0:=hrc 0
    have q1:=hrc 1
    have q2:=hrc 2
    have q3:=hrc 3
    have q4:=hrc 4
    have q5:=hrc 5
    simp only [List.getElem?_toArray,List.getElem?_cons_zero,List.getElem?_cons_succ] at q0 q1 q2 q3 q4 q5
    have hbc:=blk_cell (VX.blk [blkTh rp _ _] hX5)
    have g1:=hbc 1
    have g7:=hbc 7
    have hgl5:bx<w5.heap.size:=(Array.getElem?_eq_some_iff.1 (VX.blk [blkTh rp _ _] hX5)).1
    simp only [askC,List.getElem?_toArray,List.getElem?_cons_zero,List.getElem?_cons_succ] at g1 g7
    have HRF:Hid (∀ W',Ex w5 W'→Calls Tryz.prog 76 #[.int .i64 ac,.int .i64 aid,.iface 357 (.pointer (some (E c)))] W' fun e w'=>e=.returned (refR ac aid c).val∧Ex W' w'):=Lib.hid (fun W' hx=>by have h:=vrefused_any ac aid c hcl.1 hcl.2 E W' (HX5.out.ready.ex hx);rw [errV_pos E c hc] at h;exact h)
    clear hX5 hrc hbc HPL HX1
    clear q0 q1 q2 q3 q4 q5 hrf
    go_wp2_with (go_at_call 76;refine (HRF.out _ (by repeat (first|exact Ex.refl _|refine Ex.alloc ?_ _|refine Ex.ext ?_ _ _|refine Ex.drew ?_|refine Ex.drewN ?_ _))).mono ?_;rintro e w6 ⟨rfl,hx6⟩;have HX6:=Lib.hid (HX5.out.later hx6);clear hx6 HRF;have hrl6:rp<w6.heap.size:=(Array.getElem?_eq_some_iff.1 (VX.blk [] HX6.out)).1;have hrc:=blk_cell (VX.blk [] HX6.out);have hrf:∀ j,w6.frozen? ⟨rp,j,none⟩=false:=(fun j=>by simp [World.frozen?,VX.blk [] HX6.out]);have q0:=hrc 0;have q1:=hrc 1;have q2:=hrc 2;have q3:=hrc 3;have q4:=hrc 4;have q5:=hrc 5;simp only [List.getElem?_toArray,List.getElem?_cons_zero,List.getElem?_cons_succ] at q0 q1 q2 q3 q4 q5;clear hrc)
    all_goals ((try simp only [Exit.inBlock,Exit.then]);(refine bodyPost_ret (v:=.tuple #[.agg #[.int .i64 ac,.string ⟨#[114,101,102,117,115,101,100]⟩,.int .i64 aid,.int .i64 0,.int .i64 0,.int .i64 (c:Int)],.bool false]) ?_ rfl ⟨by rw [HR2.out,if_pos hc];rfl,by rw [HR2.out,if_pos hc];exact VX.less [] (VX.less [] (VX.setAny6 (VX.forget [] HX6.out) _ _ _ _ _ _))⟩);simp only [results,Tryz.results88];simp [go_sem,↓IntWalk.iteOmega, *];exact ⟨rfl,rfl,rfl,rfl,rfl,rfl⟩)
 ·have HR2:Hid (res=if (fcancelR v.f ⟨ak,ac,aS,ai,ad,ap,aq,aid⟩).2.1≠0 then (refR ac aid (fcancelR v.f ⟨ak,ac,aS,ai,ad,ap,aq,aid⟩).2.1,false,(fcancelR v.f ⟨ak,ac,aS,ai,ad,ap,aq,aid⟩).2.2) else (lotR kGone (fcancelR v.f ⟨ak,ac,aS,ai,ad,ap,aq,aid⟩).1,false,(fcancelR v.f ⟨ak,ac,aS,ai,ad,ap,aq,aid⟩).2.2)):=Lib.hid (HRES.out.symm.trans (if_neg hk))
  have hle:=fcancelE_le v.f ⟨ak,ac,aS,ai,ad,ap,aq,aid⟩
  have HC1:=Lib.hid (fun W' (hx:Ex W1 W')=>(HX1.out.later hx).cancel hO ⟨ak,ac,aS,ai,ad,ap,aq,aid⟩)
  have HC2:=Lib.hid (fun W' (hx:Ex W1 W') (hb:Blk W' W1.heap.size (lotA zeroLot) 131)=>(HX1.out.addBlk hx hb (Nat.le_refl _)).cancel hO ⟨ak,ac,aS,ai,ad,ap,aq,aid⟩)
  clear HRES hO HX1
  generalize fcancelR v.f ⟨ak,ac,aS,ai,ad,ap,aq,aid⟩=r at *
  obtain ⟨x,c,st⟩:=r
  simp only at HR2 hle HC1 HC2
  go_upto_region 6 with fail
  go_cut [7,8] (fun p q wx=>∃ lx,p=.pointer (some ⟨lx,0,none⟩)∧q=errV E c∧VX E w0 F w A { v with f:=st } (blkTh lx (lotA x) 131::blkTh rp #[.int .i64 0,.string ⟨#[]⟩,.int .i64 0,.int .i64 0,.int .i64 0,.int .i64 0] 50::blkTh bx (askC ⟨ak,ac,aS,ai,ad,ap,aq,aid⟩) 45::M) wx)
  case first =>
   obtain ⟨xi,xo,xs,xp,xq⟩:=x
   go_region_held3 (fun W'=>W'.cell? ⟨A.vb,6,none⟩=some (.pointer (some ⟨A.fa.f,0,none⟩))∧W'.cell? ⟨bx,0,none⟩=some (.int .u8 ak)∧W'.cell? ⟨bx,1,none⟩=some (.int .i64 ac)∧W'.cell? ⟨bx,2,none⟩=some (.int .i64 aS)∧W'.cell? ⟨bx,3,none⟩=some (.int .i64 ai)∧W'.cell? ⟨bx,4,none⟩=some (.int .i64 ad)∧W'.cell? ⟨bx,5,none⟩=some (.int .i64 ap)∧W'.cell? ⟨bx,6,none⟩=some (.int .i64 aq)∧W'.cell? ⟨bx,7,none⟩=some (.int .i64 aid))
    (first|(with_reducible exact ⟨c6,g0,g1,g2,g3,g4,g5,g6,g7⟩)|(with_reducible exact ⟨d6,e0,e1,e2,e3,e4,e5,e6,e7⟩)|(simp [go_sem,↓IntWalk.iteOmega,c6,g0,g1,g2,g3,g4,g5,g6,g7];done)|(simp [go_sem,↓IntWalk.iteOmega,d6,e0,e1,e2,e3,e4,e5,e6,e7];done))
    (first
     | (go_at_call 120;(refine (HC2.out _ ?_ ?_).mono ?_);(focus ((repeat (first|(with_reducible exact Ex.refl _)|(with_reducible refine Ex.alloc ?_ _)|(with_reducible refine Ex.ext ?_ _ _)|(with_reducible refine Ex.drew ?_)|(with_reducible refine Ex.drewN ?_ _)));done));(focus ((repeat (first|exact Blk.new (by first|omega|(simp [go_sem];done)|(simp [go_sem];omega))|(with_reducible exact Blk.new rfl)|(with_reducible refine Blk.drew ?_)|(with_reducible refine Blk.drewN ?_ _)|(with_reducible refine Blk.ext ?_ _ _)|(with_reducible refine Blk.alloc ?_ _)));done));rintro e w5 ⟨rfl,hX5⟩;have d6:=hX5.cells.1.1;have zb:=VX.blk [] hX5;have zl:=(Array.getElem?_eq_some_iff.1 zb).1;have zf:∀ j,w5.frozen? ⟨W1.heap.size,j,none⟩=false:=(fun j=>by simp [World.frozen?,zb]);have zc:=blk_cell zb;have z0:=zc 0;have z1:=zc 1;have z2:=zc 2;have z3:=zc 3;have z4:=zc 4;simp only [lotA,zeroLot,List.getElem?_toArray,List.getElem?_cons_zero,List.getElem?_cons_succ] at z0 z1 z2 z3 z4;clear zc zb;have hbc:=blk_cell (VX.blk [blkTh _ _ _,blkTh rp _ _] hX5);have e0:=hbc 0;have e1:=hbc 1;have e2:=hbc 2;have e3:=hbc 3;have e4:=hbc 4;have e5:=hbc 5;have e6:=hbc 6;have e7:=hbc 7;simp only [askC,List.getElem?_toArray,List.getElem?_cons_zero,List.getElem?_cons_succ] at e0 e1 e2 e3 e4 e5 e6 e7;clear hbc;have HX5:=Lib.hid hX5;clear hX5)
     | (go_at_call 120;(refine (HC1.out _ ?_).mono ?_);(focus ((repeat (first|(with_reducible exact Ex.refl _)|(with_reducible refine Ex.alloc ?_ _)|(with_reducible refine Ex.ext ?_ _ _)|(with_reducible refine Ex.drew ?_)|(with_reducible refine Ex.drewN ?_ _)));done));rintro e w5 ⟨rfl,hX5⟩;have d6:=hX5.cells.1.1;have hvb5:=hX5.cells.2.1;have hbc:=blk_cell (VX.blk [blkTh rp _ _] hX5);have hbz:=(Array.getElem?_eq_some_iff.1 (VX.blk [blkTh rp _ _] hX5)).1;have e0:=hbc 0;have e1:=hbc 1;have e2:=hbc 2;have e3:=hbc 3;have e4:=hbc 4;have e5:=hbc 5;have e6:=hbc 6;have e7:=hbc 7;simp only [askC,List.getElem?_toArray,List.getElem?_cons_zero,List.getElem?_cons_succ] at e0 e1 e2 e3 e4 e5 e6 e7;clear hbc;have HX5:=Lib.hid hX5;clear hX5))
   all_goals go_wp2_with fail
   all_goals
    go_meet
    case rel=>first
     | exact ⟨_,rfl,rfl,HX5.out.setLot ⟨xi,xo,xs,xp,xq⟩⟩
     | exact ⟨_,rfl,rfl,HX5.out.addBlk (by with_reducible repeat (first|exact Ex.refl _|refine Ex.alloc ?_ _|refine Ex.ext ?_ _ _|refine Ex.drew ?_|refine Ex.drewN ?_ _)) (by repeat (first|exact Blk.new (by first|omega|(simp [go_sem];done)|(simp [go_sem];omega))|(with_reducible exact Blk.new rfl)|(with_reducible refine Blk.drew ?_)|(with_reducible refine Blk.drewN ?_ _)|(with_reducible refine Blk.ext ?_ _ _)|(with_reducible refine Blk.alloc ?_ _))) (by first|omega|(simp [go_sem];done)|(simp [go_sem];omega))⟩
  case rest =>
   obtain ⟨lx,rfl,rfl,hX6⟩:=hcut
   obtain ⟨xi,xo,xs,xp,xq⟩:=x
   have HX6:=Lib.hid hX6
   have hrl6:rp<wc.heap.size:=(Array.getElem?_eq_some_iff.1 (VX.blk [blkTh lx _ _] hX6)).1
   have hll6:lx<wc.heap.size:=(Array.getElem?_eq_some_iff.1 (VX.blk [] hX6)).1
   have hlc:=blk_cell (VX.blk [] hX6)
   have z0:=hlc 0
   have z1:=hlc 1
   have z2:=hlc 2
   have z3:=hlc 3
   have z4:=hlc 4
   simp only [lotA,List.getElem?_toArray,List.getElem?_cons_zero,List.getElem?_cons_succ] at z0 z1 z2 z3 z4
   have hbc:=blk_cell (VX.blk [blkTh lx _ _,blkTh rp _ _] hX6)
   have g1:=hbc 1
   have g7:=hbc 7
   simp only [askC,List.getElem?_toArray,List.getElem?_cons_zero,List.getElem?_cons_succ] at g1 g7
   have hbl6:=lt_of_cell g1
   clear hX6 hlc hbc HC1 HC2 g0 g2 g3 g4 g5 g6
   by_cases hc:c=0
   ·subst hc
    rw [errV_zero]
    go_wp2_with (go_at_call 87;refine (vlot_any kGone ⟨xi,xo,xs,xp,xq⟩ _).mono ?_;rintro e w7 ⟨rfl,hx7⟩;have HX7:=Lib.hid ((VX.less [] HX6.out).later hx7);clear hx7;have hrl7:rp<w7.heap.size:=(Array.getElem?_eq_some_iff.1 (VX.blk [] HX7.out)).1;have hrc:=blk_cell (VX.blk [] HX7.out);have hrf:∀ j,w7.frozen? ⟨rp,j,none⟩=false:=(fun j=>by simp [World.frozen?,VX.blk [] HX7.out]);have q0:=hrc 0;have q1:=hrc 1;have q2:=hrc 2;have q3:=hrc 3;have q4:=hrc 4;have q5:=hrc 5;simp only [List.getElem?_toArray,List.getElem?_cons_zero,List.getElem?_cons_succ] at q0 q1 q2 q3 q4 q5;clear hrc)
    all_goals ((try simp only [Exit.inBlock,Exit.then]);(refine bodyPost_ret (v:=.tuple #[.agg #[.int .i64 xo,.string ⟨#[103,111,110,101]⟩,.int .i64 xi,.int .i64 xp,.int .i64 xq,.int .i64 0],.bool false]) ?_ rfl ⟨by rw [HR2.out,if_neg (by simp)];rfl,by rw [HR2.out,if_neg (by simp)];exact VX.less [] (VX.less [] (VX.setAny6 (VX.forget [] HX7.out) _ _ _ _ _ _))⟩);simp only [results,Tryz.results88];simp [go_sem,↓IntWalk.iteOmega, *];exact ⟨rfl,rfl,rfl,rfl,rfl,rfl⟩)
   ·have hcl:1≤c∧c≤12:=by omega
    have HRF:Hid (∀ W',Ex wc W'→Calls Tryz.prog 76 #[.int .i64 ac,.int .i64 aid,.iface 357 (.pointer (some (E c)))] W' fun e w'=>e=.returned (refR ac aid c).val∧Ex W' w'):=Lib.hid (fun W' hx=>by have h:=vrefused_any ac aid c hcl.1 hcl.2 E W' (HX6.out.ready.ex hx);rw [errV_pos E c hc] at h;exact h)
    rw [errV_pos E c hc]
    go_wp2_with (go_at_call 76;refine (HRF.out _ (by repeat (first|exact Ex.refl _|refine Ex.alloc ?_ _|refine Ex.ext ?_ _ _|refine Ex.drew ?_|refine Ex.drewN ?_ _))).mono ?_;rintro e w7 ⟨rfl,hx7⟩;have HX7:=Lib.hid ((VX.less [] HX6.out).later hx7);clear hx7;have hrl7:rp<w7.heap.size:=(Array.getElem?_eq_some_iff.1 (VX.blk [] HX7.out)).1;have hrc:=blk_cell (VX.blk [] HX7.out);have hrf:∀ j,w7.frozen? ⟨rp,j,none⟩=false:=(fun j=>by simp [World.frozen?,VX.blk [] HX7.out]);have q0:=hrc 0;have q1:=hrc 1;have q2:=hrc 2;have q3:=hrc 3;have q4:=hrc 4;have q5:=hrc 5;simp only [List.getElem?_toArray,List.getElem?_cons_zero,List.getElem?_cons_succ] at q0 q1 q2 q3 q4 q5;clear hrc)
    all_goals ((try simp only [Exit.inBlock,Exit.then]);(refine bodyPost_ret (v:=.tuple #[.agg #[.int .i64 ac,.string ⟨#[114,101,102,117,115,101,100]⟩,.int .i64 aid,.int .i64 0,.int .i64 0,.int .i64 (c:Int)],.bool false]) ?_ rfl ⟨by rw [HR2.out,if_pos hc];rfl,by rw [HR2.out,if_pos hc];exact VX.less [] (VX.less [] (VX.setAny6 (VX.forget [] HX7.out) _ _ _ _ _ _))⟩);simp only [results,Tryz.results88];simp [go_sem,↓IntWalk.iteOmega, *];exact ⟨rfl,rfl,rfl,rfl,rfl,rfl⟩)
end
end Go.Proofs.YtabbgpjofkaomaaGreatDoor
