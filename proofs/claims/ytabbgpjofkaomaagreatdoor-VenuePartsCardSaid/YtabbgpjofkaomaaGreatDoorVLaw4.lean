import Derived.Test.YtabbgpjofkaomaaGreatDoorJ42
import Derived.Test.YtabbgpjofkaomaaGreatDoorVLaw2
set_option linter.unusedSimpArgs false
set_option linter.unusedVariables false
/- What walk of the statements computes: the walk. -/
namespace Go.Proofs.YtabbgpjofkaomaaGreatDoor
open Go.RowKit
section
variable {E:Nat→Addr} {w0 W W':World} {L M M1 M2:List Th} {T T':Th} {vb dp:Nat} {fa:FlA} {v:VSt}
theorem LX.addBlk {b:Nat} {vs:Array Value} {t:TypeId} (X:LX E w0 L W) (hx:Ex W W') (hb:Blk W' b vs t) (hn:W.heap.size≤b):LX E w0 (blkTh b vs t::L) W' :=
 X.add (M:=[blkTh b vs t]) (F:=fun n=>n=b) hx (SepL.one ⟨fun n=>Iff.rfl,hb⟩) (fun n hn'=>by rw [hn'];exact hn)
theorem LX.blk (M1:List Th) {b:Nat} {vs:Array Value} {t:TypeId} (X:LX E w0 (M1++(blkTh b vs t::M2)) W):W.heap[b]?=some (.cells vs t (0,0)):=by
 obtain ⟨G,h⟩:=X.look M1
 exact h.2
set_option maxRecDepth 100000 in
set_option maxHeartbeats 8000000 in
theorem walk_any (X:LX E w0 (vTh vb fa dp v::M) W) (hv:VInv v) (hnow:v.now≤50000) (ao:Option Addr) (len cap:Nat) (l:List Step) (L:List SV) (hl:StepsAt w0 ao len l) (hL:SVs w0 l L) (hs:Short L) (h40:len≤40) :
  Calls Tryz.prog 12 #[.pointer (some ⟨vb,0,none⟩),.slice ao len cap] W fun e w'=>∃ u,e=.returned u∧LX E w0 (rdTh (rrowRd (walkR L v).1 u)::vTh vb fa dp (walkR L v).2::M) w':=by
 have HL:=Lib.hid hl
 have HSV:=Lib.hid hL
 have HSH:=Lib.hid hs
 have HV:=Lib.hid hv
 have HX:=Lib.hid X
 have hll:=hl.1
 have hLl:=hL.len
 obtain ⟨i0,hi0,hz0,hz1,hz2⟩:=info_parts infoRep
 subst hll
 clear X hl hL hs hv
 go_enter Tryz.func12,Tryz.ntmps12
 go_wp2_with fail
 go_loopw [5,6] (fun o i wr=>∃ (k:Nat) (u:Value),u=o∧k≤l.length∧i=.int .i64 (k:Int)∧LX E w0 (rdTh (rrowRd (walkR (L.take k) v).1 u)::vTh vb fa dp (walkR (L.take k) v).2::M) wr) (fun _ i _=>l.length - (intOf i).toNat)
 case atStart=>exact ⟨0,_,rfl,Nat.zero_le _,rfl,HX.out.addRow (by repeat (first|exact Ex.refl _|refine Ex.alloc ?_ _|refine Ex.ext ?_ _ _|refine Ex.drew ?_|refine Ex.drewN ?_ _)) (rrow_nil _) (fun g hg=>by cases hg)⟩
 case round =>
  obtain ⟨k,u,rfl,hk,rfl,hX⟩:=hrel
  clear HX
  by_cases hlt:k<l.length
  ·obtain ⟨b,off,rfl,hb,hc⟩:=stepsAt_ex HL.out hX.ex (by omega)
   have hzk:=hc k hlt
   have a0:=hzk 0 (by omega)
   have a1:=hzk 1 (by omega)
   have a2:=hzk 2 (by omega)
   have a3:=hzk 3 (by omega)
   have a4:=hzk 4 (by omega)
   simp only [Step.cells,List.getElem?_cons_zero,List.getElem?_cons_succ,Nat.add_zero] at a0 a1 a2 a3 a4
   have hLk:k<L.length:=by omega
   have HAT:=Lib.hid (HSV.out.at' k hlt hLk)
   have HSK:=Lib.hid (HSH.out L[k] (List.getElem_mem hLk))
   have HST:=Lib.hid (walk_take L v k hLk)
   have hfac:=walk_facts (L.take k) (p:=([],v)) HV.out
   rw [List.length_take] at hfac
   have hwf:=HL.out.2.2.1 l[k] (List.getElem_mem hlt)
   have hn1:=hwf.2.2.2.2
   have HX:=Lib.hid hX
   have HFAC:Hid (VInv (walkR (L.take k) v).2∧(walkR (L.take k) v).2.now≤v.now+8*min k L.length∧(walkR (L.take k) v).1.length≤0+8000000*min k L.length):=Lib.hid hfac
   clear hc hzk hX hfac hwf
   generalize walkR (L.take k) v=p at *
   generalize L[k]=x at *
   generalize l[k]=a at *
   obtain ⟨kd,cl,⟨so,sn,sc⟩,s,n⟩:=a
   obtain ⟨xk,xc,xa,xs,xn⟩:=x
   obtain ⟨e1,e2,e3,e4,hAsk⟩:=HAT.out
   simp only at e1 e2 e3 e4 hAsk hn1
   subst e1 e2 e3 e4
   obtain ⟨hsl1,hsl2,_⟩:=HSK.out
   simp only at hsl1 hsl2 a0 a1 a2 a3 a4
   obtain ⟨hVI,hpn,hpl⟩:=HFAC.out
   have HVI:=Lib.hid hVI
   have HASK:=Lib.hid hAsk
   obtain ⟨P,pv⟩:=p
   simp only at hpn hpl
   clear HFAC HSK HAT hVI hAsk
   have HX2:=Lib.hid (HX.out.addBlk (b:=wr.heap.size) (vs:=#[.string xk,.int .i64 xc,.slice so sn sc,.string xs,.int .i64 xn]) (t:=41) (W':=wr.alloc _) (by repeat (first|exact Ex.refl _|refine Ex.alloc ?_ _|refine Ex.ext ?_ _ _|refine Ex.drew ?_|refine Ex.drewN ?_ _)) (heap_alloc_new wr _) (Nat.le_refl _))
   go_upto_region 6 with fail
   generalize wr.alloc (.cells #[.string xk,.int .i64 xc,.slice so sn sc,.string xs,.int .i64 xn] 41)=wb at *
   generalize wr.heap.size=bb at *
   have hgc:=blk_cell (LX.blk [] HX2.out)
   have b0:=hgc 0
   have b1:=hgc 1
   have b2:=hgc 2
   have b3:=hgc 3
   have b4:=hgc 4
   simp only [List.getElem?_toArray,List.getElem?_cons_zero,List.getElem?_cons_succ] at b0 b1 b2 b3 b4
   have hbb:=lt_of_cell b0
   have HBY:Hid (∀ W',Ex wb W'→Calls Tryz.prog 43 #[.agg #[.string xk,.int .i64 xc,.slice so sn sc,.string xs,.int .i64 xn]] W' fun e w'=>e=.returned (.string ⟨(bytesL xs xa).toArray⟩)∧Ex W' w'):=Lib.hid (fun W' hx=>bytesOf_any ⟨xk,xc,⟨so,sn,sc⟩,xs,xn⟩ xa W' (asksAt_ex HASK.out (HX2.out.ex.trans hx)) hsl1 hsl2)
   have hbl:=bytesL_len xs xa
   clear hgc a0 a1 a2 a3 a4 hb HX
   by_cases hfe:(xk.toList==[102,101,101,100])=true
   ·by_cases hin:inR xc 0 5=true
    ·obtain ⟨m,rfl⟩:∃ m:Nat,xc=(m:Int):=⟨xc.toNat,by have:=inR_iff.1 hin;omega⟩
     have hm6:m<6:=by have:=inR_iff.1 hin;omega
     have HS1:Hid (walkR (L.take (k+1)) v=(P,(feedR m (bytesL xs xa) pv).2)):=Lib.hid (by
      rw [HST.out,walkStep,if_pos hfe,feedS,if_pos hin]
      rfl)
     have HFD:=Lib.hid (fun W' (hx:Ex wb W')=>(HX2.out.later hx).feed [_,_] HVI.out.ok.left hm6 (bytesL xs xa) (by omega))
     clear HST HVI hin
     generalize (feedR m (bytesL xs xa) pv).2=pv2 at *
     generalize (feedR m (bytesL xs xa) pv).1=rp at *
     generalize bytesL xs xa=B at *
     go_upto_region 13 with fail
     go_region_held3 (fun W'=>W'.cell? ⟨bb,0,none⟩=some (.string xk)∧W'.cell? ⟨bb,1,none⟩=some (.int .i64 (m:Int))∧W'.cell? ⟨bb,2,none⟩=some (.slice so sn sc)∧W'.cell? ⟨bb,3,none⟩=some (.string xs)∧W'.cell? ⟨bb,4,none⟩=some (.int .i64 xn))
      (first|(with_reducible exact ⟨b0,b1,b2,b3,b4⟩)|(with_reducible exact ⟨e0,e1,e2,e3,e4⟩)|(simp [go_sem,↓IntWalk.iteOmega,b0,b1,b2,b3,b4];done)|(simp [go_sem,↓IntWalk.iteOmega,e0,e1,e2,e3,e4];done))
      (first
       | (go_at_call 43;(refine (HBY.out _ ?_).mono ?_);(focus ((repeat (first|(with_reducible exact Ex.refl _)|(with_reducible refine Ex.alloc ?_ _)|(with_reducible refine Ex.ext ?_ _ _)|(with_reducible refine Ex.drew ?_)|(with_reducible refine Ex.drewN ?_ _)));done));rintro e w6 ⟨rfl,l6,d6,rfl⟩)
       | (go_at_call 14;(refine (HFD.out _ ?_).mono ?_);(focus ((repeat (first|(with_reducible exact Ex.refl _)|(with_reducible refine Ex.alloc ?_ _)|(with_reducible refine Ex.ext ?_ _ _)|(with_reducible refine Ex.drew ?_)|(with_reducible refine Ex.drewN ?_ _)));done));rintro e w7 ⟨u7,rfl,hX7⟩;have hgc:=blk_cell (LX.blk [] hX7);have e0:=hgc 0;have e1:=hgc 1;have e2:=hgc 2;have e3:=hgc 3;have e4:=hgc 4;simp only [List.getElem?_toArray,List.getElem?_cons_zero,List.getElem?_cons_succ] at e0 e1 e2 e3 e4;have HX7:=Lib.hid hX7;clear hX7 hgc))
     all_goals go_wp2_with fail
     all_goals
      go_roundw
      case measure=>simp [intOf];omega
      case rel=>exact ⟨k+1,_,rfl,by omega,by go_num,by rw [HS1.out];exact ((LX.less [] (LX.less [_,_,_] HX7.out)).later (by repeat (first|exact Ex.refl _|refine Ex.alloc ?_ _|refine Ex.ext ?_ _ _|refine Ex.drew ?_|refine Ex.drewN ?_ _)))⟩
    ·have hin':inR xc 0 5=false:=by simpa using hin
     have HS1:Hid (walkR (L.take (k+1)) v=(P,pv)):=Lib.hid (by
      rw [HST.out,walkStep,if_pos hfe,feedS,if_neg hin])
     have HFD:=Lib.hid (fun W'=>vfeed_bad vb xc hin' ⟨(bytesL xs xa).toArray⟩ W')
     clear HST HVI hin hin'
     generalize bytesL xs xa=B at *
     go_upto_region 13 with fail
     go_region_held3 (fun W'=>W'.cell? ⟨bb,0,none⟩=some (.string xk)∧W'.cell? ⟨bb,1,none⟩=some (.int .i64 xc)∧W'.cell? ⟨bb,2,none⟩=some (.slice so sn sc)∧W'.cell? ⟨bb,3,none⟩=some (.string xs)∧W'.cell? ⟨bb,4,none⟩=some (.int .i64 xn))
      (first|(with_reducible exact ⟨b0,b1,b2,b3,b4⟩)|(with_reducible exact ⟨e0,e1,e2,e3,e4⟩)|(simp [go_sem,↓IntWalk.iteOmega,b0,b1,b2,b3,b4];done)|(simp [go_sem,↓IntWalk.iteOmega,e0,e1,e2,e3,e4];done))
      (first
       | (go_at_call 43;(refine (HBY.out _ ?_).mono ?_);(focus ((repeat (first|(with_reducible exact Ex.refl _)|(with_reducible refine Ex.alloc ?_ _)|(with_reducible refine Ex.ext ?_ _ _)|(with_reducible refine Ex.drew ?_)|(with_reducible refine Ex.drewN ?_ _)));done));rintro e w6 ⟨rfl,l6,d6,rfl⟩)
       | (go_at_call 14;refine (HFD.out _).mono ?_;rintro e w7 ⟨rfl,l7,d7,rfl⟩))
     all_goals go_wp2_with fail
     all_goals
      go_roundw
      case measure=>simp [intOf];omega
      case rel=>exact ⟨k+1,_,rfl,by omega,by go_num,by rw [HS1.out];exact ((LX.less [] HX2.out).later (by repeat (first|exact Ex.refl _|refine Ex.alloc ?_ _|refine Ex.ext ?_ _ _|refine Ex.drew ?_|refine Ex.drewN ?_ _)))⟩
   ·have hfe':(xk.toList==[102,101,101,100])=false:=by simpa using hfe
    by_cases hcu:(xk.toList==[99,117,116])=true
    ·have HS1:Hid (walkR (L.take (k+1)) v=(P,{ pv with d:=pv.d.cutD xn })):=Lib.hid (by
      rw [HST.out,walkStep,if_neg hfe,if_pos hcu])
     have HTP:Hid (∀ W',Ex wb W'→Calls Tryz.prog 28 #[.pointer (some ⟨vb,0,none⟩)] W' fun e w'=>e=.returned (.pointer (some ⟨dp,0,none⟩))∧Ex W' w'):=Lib.hid (fun W' hx=>by
      obtain ⟨G,h⟩:=(HX2.out.later hx).look [_,_]
      exact vtape_any h)
     have HCU:=Lib.hid (fun W' (hx:Ex wb W')=>(HX2.out.later hx).cut [_,_] xn (by have:=hn1;simp [Lit.wf,IntKind.min,IntKind.max,IntKind.signed,IntKind.bits] at this;omega))
     clear HST HVI hfe HBY hbl HASK
     generalize ({ pv with d:=pv.d.cutD xn }:VSt)=pv2 at *
     generalize errV E (pv.d.cutE xn)=ev at *
     go_upto_region 15 with fail
     go_region_held3 (fun W'=>W'.cell? ⟨bb,0,none⟩=some (.string xk)∧W'.cell? ⟨bb,1,none⟩=some (.int .i64 xc)∧W'.cell? ⟨bb,2,none⟩=some (.slice so sn sc)∧W'.cell? ⟨bb,3,none⟩=some (.string xs)∧W'.cell? ⟨bb,4,none⟩=some (.int .i64 xn))
      (first|(with_reducible exact ⟨b0,b1,b2,b3,b4⟩)|(with_reducible exact ⟨e0,e1,e2,e3,e4⟩)|(simp [go_sem,↓IntWalk.iteOmega,b0,b1,b2,b3,b4];done)|(simp [go_sem,↓IntWalk.iteOmega,e0,e1,e2,e3,e4];done))
      (first
       | (go_at_call 28;(refine (HTP.out _ ?_).mono ?_);(focus ((repeat (first|(with_reducible exact Ex.refl _)|(with_reducible refine Ex.alloc ?_ _)|(with_reducible refine Ex.ext ?_ _ _)|(with_reducible refine Ex.drew ?_)|(with_reducible refine Ex.drewN ?_ _)));done));rintro e w6 ⟨rfl,l6,d6,rfl⟩)
       | (go_at_call 44;(refine (HCU.out _ ?_).mono ?_);(focus ((repeat (first|(with_reducible exact Ex.refl _)|(with_reducible refine Ex.alloc ?_ _)|(with_reducible refine Ex.ext ?_ _ _)|(with_reducible refine Ex.drew ?_)|(with_reducible refine Ex.drewN ?_ _)));done));rintro e w7 ⟨rfl,hX7⟩;have hgc:=blk_cell (LX.blk [] hX7);have e0:=hgc 0;have e1:=hgc 1;have e2:=hgc 2;have e3:=hgc 3;have e4:=hgc 4;simp only [List.getElem?_toArray,List.getElem?_cons_zero,List.getElem?_cons_succ] at e0 e1 e2 e3 e4;have HX7:=Lib.hid hX7;clear hX7 hgc))
     all_goals go_wp2_with fail
     all_goals
      go_roundw
      case measure=>simp [intOf];omega
      case rel=>exact ⟨k+1,_,rfl,by omega,by go_num,by rw [HS1.out];exact ((LX.less [] HX7.out).later (by repeat (first|exact Ex.refl _|refine Ex.alloc ?_ _|refine Ex.ext ?_ _ _|refine Ex.drew ?_|refine Ex.drewN ?_ _)))⟩
    ·have hcu':(xk.toList==[99,117,116])=false:=by simpa using hcu
     have HS1:Hid (walkR (L.take (k+1)) v=tkSteps (min xn.toNat 8) (P,pv)):=Lib.hid (by
      rw [HST.out,walkStep,if_neg hfe,if_neg hcu])
     have HTF:=Lib.hid (tk_facts HVI.out)
     clear HST HVI hfe hcu HBY hbl HASK
     have hmn:(min xn.toNat 8:Nat)≤8:=Nat.min_le_right _ _
     have hmx:∀ m:Nat,m≤min xn.toNat 8→((m:Int)<xn∧(m:Int)<8↔m<min xn.toNat 8):=fun m hm=>by omega
     generalize hMM:min xn.toNat 8=N at *
     clear hMM
     have HMX:=Lib.hid hmx
     clear hmx
     have hpl2:P.length≤320000000:=by omega
     have hpn2:pv.now≤60000:=by omega
     clear hpl hpn
     go_wp2_with fail
     go_loopw [5,8] (fun o j wi=>∃ (m:Nat) (u':Value),u'=o∧m≤N∧j=.int .i64 (m:Int)∧LX E w0 (blkTh bb #[.string xk,.int .i64 xc,.slice so sn sc,.string xs,.int .i64 xn] 41::rdTh (rrowRd (tkSteps m (P,pv)).1 u')::vTh vb fa dp (tkSteps m (P,pv)).2::M) wi) (fun _ j _=>8 - (intOf j).toNat)
     case atStart=>exact ⟨0,_,rfl,Nat.zero_le _,rfl,HX2.out.later (by repeat (first|exact Ex.refl _|refine Ex.alloc ?_ _|refine Ex.ext ?_ _ _|refine Ex.drew ?_|refine Ex.drewN ?_ _))⟩
     case round =>
      obtain ⟨m,u',rfl,hm,rfl,hX⟩:=hrel
      clear HX2 b0 b1 b2 b3 b4 hbb
      have hgc:=blk_cell (LX.blk [] hX)
      have b4:=hgc 4
      simp only [List.getElem?_toArray,List.getElem?_cons_zero,List.getElem?_cons_succ] at b4
      have hbb:=lt_of_cell b4
      obtain ⟨ht1,ht2,ht3⟩:=HTF.out m
      obtain ⟨au,cu,rfl,hcu,hmu⟩:=rrow_slice (LX.row [_] hX)
      by_cases hmN:m<N
      ·obtain ⟨g1,g2⟩:=(HMX.out m hm).2 hmN
       have HTK:=Lib.hid (fun W' (hx:Ex wr W')=>(hX.later hx).tick [_,_] ht1.ok (by omega))
       have htl:=tickR_len ht1
       have HSS:Hid (tkSteps (m+1) (P,pv)=((tkSteps m (P,pv)).1++(tickR (tkSteps m (P,pv)).2).1,(tickR (tkSteps m (P,pv)).2).2)):=Lib.hid rfl
       clear hX hgc ht1 ht2 HTF
       generalize tkSteps m (P,pv)=q at *
       obtain ⟨Q,qv⟩:=q
       simp only at ht3 htl hcu HSS HTK
       generalize tickR qv=r at *
       obtain ⟨R,rv⟩:=r
       simp only at htl HSS HTK
       go_wp2_with (first
        | (go_at_call 16;refine (HTK.out _ (by repeat (first|exact Ex.refl _|refine Ex.alloc ?_ _|refine Ex.ext ?_ _ _|refine Ex.drew ?_|refine Ex.drewN ?_ _))).mono ?_;rintro e w5 ⟨ur,rfl,hX5⟩;have HX5:=Lib.hid hX5;clear hX5)
        | (at_builtin;refine wpList_append_two rfl (.tmp 34) (.tmp 35) 42 42 rfl 50 i0 _ 6 56 Tryz.underlying42 hi0 hz0 hz1 hz2 rfl (.slice au Q.length cu) ur Q.length R.length (flat Rep.cells Q) (flat Rep.cells R) rfl rfl ?_ ?_ ?_ ?_ ?_))
       focus exact (LX.row [_] HX5.out)
       focus exact (Src.row Tryz.underlying42 (LX.row [_,_,_] HX5.out) (rep_one R))
       focus (unfold maxLen;omega)
       focus omega
       intro v' w' hrow hgrow hown
       have H2:=Lib.hid (LX.less [_,_,_] ((HX5.out.later (by repeat (first|exact Ex.refl _|refine Ex.alloc ?_ _|refine Ex.ext ?_ _ _|refine Ex.drew ?_|refine Ex.drewN ?_ _))).grow [_] (r':=rrowRd (Q++R) v') hgrow hown rfl (by show RowAt w' _ 6 v' (Q++R).length (flat Rep.cells (Q++R));rw [flat_append,List.length_append];exact hrow)))
       clear hrow hgrow hown HX5 HTK
       go_wp2_with fail
       go_roundw
       case measure=>simp [intOf];omega
       case rel=>exact ⟨m+1,_,rfl,by omega,by go_num,by rw [HSS.out];exact H2.out.later (by repeat (first|exact Ex.refl _|refine Ex.alloc ?_ _|refine Ex.ext ?_ _ _|refine Ex.drew ?_|refine Ex.drewN ?_ _))⟩
      ·obtain rfl:m=N:=by omega
       have hng:=(not_congr (HMX.out m hm)).2 hmN
       have HX:=Lib.hid hX
       clear hX hgc HMX
       have HEND:Hid (LX E w0 (rdTh (rrowRd (walkR (L.take (k+1)) v).1 (.slice au (tkSteps m (P,pv)).1.length cu))::vTh vb fa dp (walkR (L.take (k+1)) v).2::M) wr):=Lib.hid (by rw [HS1.out];exact LX.less [] HX.out)
       clear HX HS1 HTF ht1 ht2 ht3
       generalize (tkSteps m (P,pv)).1.length=ql at *
       by_cases g1:(m:Int)<xn
       ·have g2:¬ (m:Int)<8:=fun h=>hng ⟨g1,h⟩
        go_wp2_with fail
        go_roundw
        case measure=>simp [intOf];omega
        case rel=>exact ⟨k+1,_,rfl,by omega,by go_num,HEND.out.later (by repeat (first|exact Ex.refl _|refine Ex.alloc ?_ _|refine Ex.ext ?_ _ _|refine Ex.drew ?_|refine Ex.drewN ?_ _))⟩
       ·go_wp2_with fail
        go_roundw
        case measure=>simp [intOf];omega
        case rel=>exact ⟨k+1,_,rfl,by omega,by go_num,HEND.out.later (by repeat (first|exact Ex.refl _|refine Ex.alloc ?_ _|refine Ex.ext ?_ _ _|refine Ex.drew ?_|refine Ex.drewN ?_ _))⟩
  ·obtain rfl:k=l.length:=by omega
   rw [← hLl,List.take_length] at hX
   have HX:=Lib.hid hX
   clear hX
   go_wp2_with fail
   all_goals go_ret
   all_goals exact ⟨_,rfl,HX.out.later (by repeat (first|exact Ex.refl _|refine Ex.alloc ?_ _|refine Ex.ext ?_ _ _|refine Ex.drew ?_|refine Ex.drewN ?_ _))⟩
end
end Go.Proofs.YtabbgpjofkaomaaGreatDoor
