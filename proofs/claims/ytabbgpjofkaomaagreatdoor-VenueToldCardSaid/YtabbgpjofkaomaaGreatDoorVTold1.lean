import Derived.Test.YtabbgpjofkaomaaGreatDoorJ49
set_option linter.unusedSimpArgs false
set_option linter.unusedVariables false
/- VenueTold: what the statement's code answers. -/
namespace Go.Proofs.YtabbgpjofkaomaaGreatDoor
open Go.RowKit
section
variable {E:Nat→Addr} {w:World}
def askTold (c:Nat) (item side price qty:Int):Ask:=⟨111,(c:Int),2,item,side,price,qty,777777⟩
set_option maxRecDepth 100000 in
theorem vtold_out (hr:CodeReady E w) (ht:Tab w) (client item side price qty:Int) (h:client<0∨6≤client) (ao:Option Addr) (len cap:Nat) (l:List Step) (hl:StepsAt w ao len l) :
  Calls Tryz.prog 3 #[.int .i64 client,.int .i64 item,.int .i64 side,.int .i64 price,.int .i64 qty,.slice ao len cap] w fun e w'=>e=.returned (.bool true)∧Ex w w':=by
 have HO:=Lib.hid (opened_any E w hr ht)
 have HLS:=Lib.hid (fun W (hx:Ex w W)=>longSteps_any ao len cap l 30 W (stepsAt_later hl hx) (by decide))
 clear hl hr ht
 go_enter Tryz.func3,Tryz.ntmps3
 by_cases h0:client<0
 ·clear h
  go_wp2_with (first
   | (go_at_call 7;refine HO.out.mono ?_;rintro e w1 ⟨rfl,l1,d1,rfl⟩)
   | (go_at_call 8;refine (HLS.out _ (by repeat (first|exact Ex.refl _|refine Ex.alloc ?_ _|refine Ex.ext ?_ _ _|refine Ex.drew ?_|refine Ex.drewN ?_ _))).mono ?_;rintro e w2 ⟨⟨b,rfl,hb⟩,l2,d2,rfl⟩;clear hb;cases b))
  all_goals go_ret
  all_goals exact ⟨rfl,(by repeat (first|exact Ex.refl _|refine Ex.alloc ?_ _|refine Ex.ext ?_ _ _|refine Ex.drew ?_|refine Ex.drewN ?_ _))⟩
 ·have h6:6≤client:=h.resolve_left h0
  clear h
  go_wp2_with (first
   | (go_at_call 7;refine HO.out.mono ?_;rintro e w1 ⟨rfl,l1,d1,rfl⟩)
   | (go_at_call 8;refine (HLS.out _ (by repeat (first|exact Ex.refl _|refine Ex.alloc ?_ _|refine Ex.ext ?_ _ _|refine Ex.drew ?_|refine Ex.drewN ?_ _))).mono ?_;rintro e w2 ⟨⟨b,rfl,hb⟩,l2,d2,rfl⟩;clear hb;cases b))
  all_goals go_ret
  all_goals exact ⟨rfl,(by repeat (first|exact Ex.refl _|refine Ex.alloc ?_ _|refine Ex.ext ?_ _ _|refine Ex.drew ?_|refine Ex.drewN ?_ _))⟩
set_option maxRecDepth 100000 in
set_option maxHeartbeats 8000000 in
theorem vtold_in (hr:CodeReady E w) (ht:Tab w) (c:Nat) (hc:c<6) (item side price qty:Int) (ao:Option Addr) (len cap:Nat) (l:List Step) (L:List SV) (hl:StepsAt w ao len l) (hL:SVs w l L) :
  Calls Tryz.prog 3 #[.int .i64 (c:Int),.int .i64 item,.int .i64 side,.int .i64 price,.int .i64 qty,.slice ao len cap] w fun e w'=>e=.returned (.bool true)∧Ex w w':=by
 have HO:=Lib.hid (opened_any E w hr ht)
 have HLS:=Lib.hid (fun W (hx:Ex w W)=>longSteps_any ao len cap l 30 W (stepsAt_later hl hx) (by decide))
 have HL:=Lib.hid hl
 have HSV:=Lib.hid hL
 have HN:=Lib.hid (fun W (hx:Ex w W)=>((LX.start hr ht).later hx).new smallC smallC_ok)
 have hc0:¬ (c:Int)<0:=by omega
 have hc6:(c:Int)<6:=by omega
 clear hl hL hr ht
 go_enter Tryz.func3,Tryz.ntmps3
 go_upto_region 4 with (first
  | (go_at_call 7;refine HO.out.mono ?_;rintro e w1 ⟨rfl,l1,d1,rfl⟩)
  | (go_at_call 8;refine (HLS.out _ (by repeat (first|exact Ex.refl _|refine Ex.alloc ?_ _|refine Ex.ext ?_ _ _|refine Ex.drew ?_|refine Ex.drewN ?_ _))).mono ?_;rintro e w2 ⟨⟨b,rfl,hb⟩,l2,d2,rfl⟩;cases b))
 all_goals clear HO HLS
 ·obtain ⟨hlen,hlong⟩:=hb (by first|trivial|rfl)
  have HSH:=Lib.hid (HSV.out.short hlong)
  have hll:=HL.out.1
  have hLl:=HSV.out.len
  clear hb hlong
  go_upto_region 5 with (first
   | (go_at_call 11;refine (small_any _).mono ?_;rintro e w3 ⟨rfl,l3,d3,rfl⟩)
   | (go_at_call 10;refine (asConfig_any _ _ _ _ _ _ _).mono ?_;rintro e w4 ⟨rfl,l4,d4,rfl⟩)
   | (go_at_call 9;refine (HN.out _ (by repeat (first|exact Ex.refl _|refine Ex.alloc ?_ _|refine Ex.ext ?_ _ _|refine Ex.drew ?_|refine Ex.drewN ?_ _))).mono ?_;rintro e w5 ⟨vb,dp,fa,rfl,hX5⟩;have HX5:=Lib.hid hX5;clear hX5))
  clear HN
  subst hll
  go_wp2_with fail
  go_loopw [16] (fun i wr=>∃ k:Nat,k≤l.length∧i=.int .i64 (k:Int)∧(∀ j (h:j<L.length),j<k→(L[j].kind.toList==[99,117,116])=false∧L[j].client≠(c:Int))∧Ex w5 wr) (fun i _=>l.length - (intOf i).toNat)
  case atStart=>exact ⟨0,Nat.zero_le _,rfl,fun j _ h=>absurd h (Nat.not_lt_zero j),(by repeat (first|exact Ex.refl _|refine Ex.alloc ?_ _|refine Ex.ext ?_ _ _|refine Ex.drew ?_|refine Ex.drewN ?_ _))⟩
  case round =>
   obtain ⟨k,hk,rfl,hap,hxr⟩:=hrel
   have HAP:=Lib.hid hap
   have HXR:=Lib.hid hxr
   clear hap hxr
   by_cases hlt:k<l.length
   ·obtain ⟨b,off,rfl,hb,hcell⟩:=stepsAt_ex HL.out (HX5.out.ex.trans HXR.out) (by omega)
    have hzk:=hcell k hlt
    have a0:=hzk 0 (by omega)
    have a1:=hzk 1 (by omega)
    simp only [Step.cells,List.getElem?_cons_zero,List.getElem?_cons_succ,Nat.add_zero] at a0 a1
    have hLk:k<L.length:=by omega
    obtain ⟨e1,e2,_⟩:=HSV.out.at' k hlt hLk
    have HE:Hid (L[k].kind=l[k].kind∧L[k].client=l[k].client):=Lib.hid ⟨e1,e2⟩
    have hxw:=Lib.hid (HX5.out.ex.trans HXR.out)
    clear hcell hzk e1 e2 HX5 HSV HL HSH
    generalize l[k].kind=kd at *
    generalize l[k].client=cl at *
    by_cases hcut:(kd.toList==[99,117,116])=true
    ·clear HAP HE HXR
     go_wp2_with fail
     all_goals go_ret
     all_goals exact ⟨rfl,hxw.out.trans (by repeat (first|exact Ex.refl _|refine Ex.alloc ?_ _|refine Ex.ext ?_ _ _|refine Ex.drew ?_|refine Ex.drewN ?_ _))⟩
    ·have hcut':(kd.toList==[99,117,116])=false:=by simpa using hcut
     have HCU:=Lib.hid hcut'
     by_cases hcl:cl=(c:Int)
     ·subst hcl
      clear HAP HE HXR
      go_wp2_with fail
      all_goals go_ret
      all_goals exact ⟨rfl,hxw.out.trans (by repeat (first|exact Ex.refl _|refine Ex.alloc ?_ _|refine Ex.ext ?_ _ _|refine Ex.drew ?_|refine Ex.drewN ?_ _))⟩
     ·go_wp2_with fail
      go_roundw
      case measure=>simp [intOf];omega
      case rel=>exact ⟨k+1,by omega,by go_num,fun j hj hjk=>by
       by_cases e:j=k
       ·subst e
        rw [HE.out.1,HE.out.2]
        exact ⟨HCU.out,hcl⟩
       ·exact HAP.out j hj (by omega),HXR.out.trans (by repeat (first|exact Ex.refl _|refine Ex.alloc ?_ _|refine Ex.ext ?_ _ _|refine Ex.drew ?_|refine Ex.drewN ?_ _))⟩
   ·obtain rfl:k=l.length:=by omega
    have HW:=Lib.hid (fun W (hx:Ex wr W)=>walk_any ((HX5.out.later HXR.out).later hx) newV_inv (Nat.zero_le _) ao l.length cap l L HL.out HSV.out HSH.out (by omega))
    have HF2:Hid (VInv (walkR L (newV smallC)).2∧(walkR L (newV smallC)).2.now≤0+8*L.length):=Lib.hid ⟨(walk_facts L (p:=([],newV smallC)) newV_inv).1,(walk_facts L (p:=([],newV smallC)) newV_inv).2.1⟩
    have HFR:Hid (∀ id,Alone c id L→Fresh (walkR L (newV smallC)).2 c id):=Lib.hid fun id hal=>Fresh.walk hc L (p:=([],newV smallC)) (newV_fresh c id) newV_inv hal (by show 0+8*L.length≤300;omega)
    clear HX5 HXR HSH
    generalize walkR L (newV smallC)=p at *
    obtain ⟨P,v1⟩:=p
    go_upto_region 13 with (go_at_call 12;refine (HW.out _ (by repeat (first|exact Ex.refl _|refine Ex.alloc ?_ _|refine Ex.ext ?_ _ _|refine Ex.drew ?_|refine Ex.drewN ?_ _))).mono ?_;rintro e w6 ⟨u,rfl,hX6⟩;have HX6:=Lib.hid (LX.less [] hX6);clear hX6)
    clear HW
    go_upto_region 14 with fail
    have HXA:=Lib.hid (HX6.out.addBlk (b:=w6.heap.size) (vs:=#[.int .u8 111,.int .i64 (c:Int),.int .i64 2,.int .i64 item,.int .i64 side,.int .i64 price,.int .i64 qty,.int .i64 777777]) (t:=45) (W':=w6.alloc _) (by repeat (first|exact Ex.refl _|refine Ex.alloc ?_ _|refine Ex.ext ?_ _ _|refine Ex.drew ?_|refine Ex.drewN ?_ _)) (heap_alloc_new w6 _) (Nat.le_refl _))
    have hx6:=Lib.hid HX6.out.ex
    clear HX6
    generalize w6.alloc (.cells #[.int .u8 111,.int .i64 (c:Int),.int .i64 2,.int .i64 item,.int .i64 side,.int .i64 price,.int .i64 qty,.int .i64 777777] 45)=wA at *
    generalize w6.heap.size=ab at *
    have HAE:Hid (∀ W,Calls Tryz.prog 13 #[.agg #[.int .u8 111,.int .i64 (c:Int),.int .i64 2,.int .i64 item,.int .i64 side,.int .i64 price,.int .i64 qty,.int .i64 777777]] W fun e w'=>e=.returned (.int .i64 (askTold c item side price qty).err)∧Ex W w'):=Lib.hid fun W=>askError_any (askTold c item side price qty) W
    have hgc:=blk_cell (LX.blk [] HXA.out)
    have g0:=hgc 0
    have g1:=hgc 1
    have g2:=hgc 2
    have g3:=hgc 3
    have g4:=hgc 4
    have g5:=hgc 5
    have g6:=hgc 6
    have g7:=hgc 7
    simp only [List.getElem?_toArray,List.getElem?_cons_zero,List.getElem?_cons_succ] at g0 g1 g2 g3 g4 g5 g6 g7
    have hab:=lt_of_cell g0
    clear hgc
    by_cases he:(askTold c item side price qty).err=0
    ·rw [he] at HAE
     go_upto_region 16 with (go_at_call 13;refine (HAE.out _).mono ?_;rintro e w7 ⟨rfl,l7,d7,rfl⟩)
     clear HAE
     go_wp2_with fail
     go_loopw [18] (fun i wr=>∃ k:Nat,k≤l.length∧i=.int .i64 (k:Int)∧(∀ j (h:j<L.length),j<k→L[j].s.data.toList=[]∧∀ a∈L[j].asks,a.id≠777777)∧Ex wA wr) (fun i _=>l.length - (intOf i).toNat)
     case atStart=>exact ⟨0,Nat.zero_le _,rfl,fun j _ h=>absurd h (Nat.not_lt_zero j),(by repeat (first|exact Ex.refl _|refine Ex.alloc ?_ _|refine Ex.ext ?_ _ _|refine Ex.drew ?_|refine Ex.drewN ?_ _))⟩
     case round =>
      obtain ⟨k,hk,rfl,has,hxr⟩:=hrel
      have HAS:=Lib.hid has
      have HXR:=Lib.hid hxr
      clear has hxr g0 g1 g2 g3 g4 g5 g6 g7 hab
      by_cases hlt:k<l.length
      ·have hxw:=Lib.hid (HXA.out.ex.trans HXR.out)
       obtain ⟨b,off,rfl,hb,hcell⟩:=stepsAt_ex HL.out hxw.out (by omega)
       have hzk:=hcell k hlt
       have a2:=hzk 2 (by omega)
       have a3:=hzk 3 (by omega)
       simp only [Step.cells,List.getElem?_cons_zero,List.getElem?_cons_succ,Nat.add_zero] at a2 a3
       have hLk:k<L.length:=by omega
       obtain ⟨_,_,e3,_,e5⟩:=HSV.out.at' k hlt hLk
       have HASK:=Lib.hid e5
       have hal:=e5.1
       have HE:Hid (L[k].s=l[k].s):=Lib.hid e3
       have HSTEP:Hid (∀ wr',Ex wr wr'→wr'.cell? ⟨b,off+k*5+2,none⟩=some (.slice l[k].asks.ao l[k].asks.len l[k].asks.cap)∧wr'.cell? ⟨b,off+k*5+3,none⟩=some (.string l[k].s)):=Lib.hid fun wr' hx=>⟨vexCell hx a2,vexCell hx a3⟩
       clear hcell hzk e3 e5 a2 a3 HL HSV HFR HF2
       generalize hxa:L[k].asks=xa at *
       generalize hxs:L[k].s=xs at *
       have HXA1:=Lib.hid hxa
       have HXS1:=Lib.hid hxs
       clear hxa hxs
       generalize l[k].s=s at *
       generalize l[k].asks=q at *
       obtain ⟨so,sn,sc⟩:=q
       simp only at hal
       subst hal
       go_wp2_with fail
       go_loopw [19] (fun i wi=>∃ m:Nat,m≤xa.length∧i=.int .i64 (m:Int)∧(∀ j (h:j<xa.length),j<m→xa[j].id≠777777)∧Ex wr wi) (fun i _=>xa.length - (intOf i).toNat)
       case atStart=>exact ⟨0,Nat.zero_le _,rfl,fun j _ h=>absurd h (Nat.not_lt_zero j),(by repeat (first|exact Ex.refl _|refine Ex.alloc ?_ _|refine Ex.ext ?_ _ _|refine Ex.drew ?_|refine Ex.drewN ?_ _))⟩
       case round =>
        obtain ⟨m,hm,rfl,hid2,hxi⟩:=hrel
        obtain ⟨a2,a3⟩:=HSTEP.out _ hxi
        have HID2:=Lib.hid hid2
        have hbi:b<wr.heap.size:=lt_of_cell a2
        have HXI:=Lib.hid hxi
        have hg7:=blk_cell (LX.blk [] (HXA.out.later (HXR.out.trans hxi))) 7
        simp only [List.getElem?_toArray,List.getElem?_cons_zero,List.getElem?_cons_succ] at hg7
        have habi:=lt_of_cell hg7
        clear hid2 hxi HSTEP
        by_cases hlm:m<xa.length
        ·obtain ⟨_,_,_,h4⟩:=asksAt_ex HASK.out (hxw.out.trans HXI.out)
         obtain ⟨b2,off2,rfl,hb2,hc2⟩:=h4 (by omega)
         have b7:=hc2 m hlm 7 (by omega)
         simp only [Ask.cells,List.getElem?_cons_zero,List.getElem?_cons_succ] at b7
         have HB:Hid (xa[m].id=xa[m].id):=Lib.hid rfl
         have HRE:Hid (xa[m].id≠777777→∀ j (h:j<xa.length),j<m+1→xa[j].id≠777777):=Lib.hid fun hne j hj hjm=>by
          by_cases e:j=m
          ·subst e;exact hne
          ·exact HID2.out j hj (by omega)
         have mi:(m:Int)<(xa.length:Int):=by omega
         clear h4 hc2 HID2 HB HASK
         generalize xa[m].id=id7 at *
         by_cases hsame:id7=777777
         ·subst hsame
          clear HRE HAS HE
          go_upto_region 22 with fail
          go_quiet (fail)
          all_goals go_wp2_with fail
          all_goals go_ret
          all_goals exact ⟨rfl,(hxw.out.trans HXI.out).trans (by repeat (first|exact Ex.refl _|refine Ex.alloc ?_ _|refine Ex.ext ?_ _ _|refine Ex.drew ?_|refine Ex.drewN ?_ _))⟩
         ·have hne1:(id7==777777)=false:=by simpa using hsame
          have HRE2:=Lib.hid (HRE.out hsame)
          clear HRE
          go_upto_region 22 with fail
          go_quiet (fail)
          all_goals go_wp2_with fail
          all_goals
           go_roundw
           case measure=>simp [intOf];omega
           case rel=>exact ⟨m+1,by omega,by go_num,HRE2.out,HXI.out.trans (by repeat (first|exact Ex.refl _|refine Ex.alloc ?_ _|refine Ex.ext ?_ _ _|refine Ex.drew ?_|refine Ex.drewN ?_ _))⟩
        ·obtain rfl:m=xa.length:=by omega
         by_cases hse:(s.toList==[])=true
         ·have HNX:Hid (∀ j (h:j<L.length),j<k+1→L[j].s.data.toList=[]∧∀ a∈L[j].asks,a.id≠777777):=Lib.hid fun j hj hjk=>by
           by_cases e:j=k
           ·subst e
            rw [HXS1.out,HXA1.out,HE.out]
            refine ⟨empty_of_eq hse,fun a ha=>?_⟩
            obtain ⟨n,hn,rfl⟩:=List.getElem_of_mem ha
            exact HID2.out n hn hn
           ·exact HAS.out j hj (by omega)
          clear HID2 HASK HAS HE HXA1 HXS1
          go_wp2_with fail
          go_roundw
          case measure=>simp [intOf];omega
          case rel=>exact ⟨k+1,by omega,by go_num,HNX.out,HXR.out.trans (HXI.out.trans (by repeat (first|exact Ex.refl _|refine Ex.alloc ?_ _|refine Ex.ext ?_ _ _|refine Ex.drew ?_|refine Ex.drewN ?_ _)))⟩
         ·have hse':(s.toList==[])=false:=by simpa using hse
          clear HID2 HASK HAS HE HXA1 HXS1
          go_wp2_with fail
          all_goals go_ret
          all_goals exact ⟨rfl,(hxw.out.trans HXI.out).trans (by repeat (first|exact Ex.refl _|refine Ex.alloc ?_ _|refine Ex.ext ?_ _ _|refine Ex.drew ?_|refine Ex.drewN ?_ _))⟩
      ·obtain rfl:k=l.length:=by omega
       have hal:Alone c 777777 L:=fun x hx=>by
        obtain ⟨j,hj,rfl⟩:=List.getElem_of_mem hx
        exact ⟨(HAP.out j hj (by omega)).1,(HAP.out j hj (by omega)).2,(HAS.out j hj (by omega)).1,(HAS.out j hj (by omega)).2⟩
       obtain ⟨o1,o2⟩:=Fresh.order (a:=askTold c item side price qty) hc (HFR.out 777777 hal) he rfl rfl rfl
       obtain ⟨hv1,hn1⟩:=HF2.out
       have hn0:=feedR_now c ((askIn c).frame.data.toList++(askTold c item side price qty).frame.data.toList) v1
       have hv2:=hv1.feed hc ((askIn c).frame.data.toList++(askTold c item side price qty).frame.data.toList)
       have h60:((askIn c).frame.data.toList++(askTold c item side price qty).frame.data.toList).length=60:=by rw [List.length_append,askFr_len,askFr_len]
       have HFD:Hid (∀ W,Ex wr W→Calls Tryz.prog 14 #[.pointer (some ⟨vb,0,none⟩),.int .i64 (c:Int),.string ((askIn c).frame++(askTold c item side price qty).frame)] W fun e w'=>∃ u,e=.returned u∧LX E w [blkTh ab #[.int .u8 111,.int .i64 (c:Int),.int .i64 2,.int .i64 item,.int .i64 side,.int .i64 price,.int .i64 qty,.int .i64 777777] 45,vTh vb fa dp (feedR c ((askIn c).frame.data.toList++(askTold c item side price qty).frame.data.toList) v1).2,rdTh (rrowRd [⟨(c:Int),kAcc,777777,0,0,0⟩] u)] w'):=Lib.hid (fun W hx=>by
        have h:=LX.feed [_] ((HXA.out.later HXR.out).later hx) hv1.ok.left hc ((askIn c).frame.data.toList++(askTold c item side price qty).frame.data.toList) (by omega)
        have e:(⟨((askIn c).frame.data.toList++(askTold c item side price qty).frame.data.toList).toArray⟩:ByteArray)=(askIn c).frame++(askTold c item side price qty).frame:=by
         rw [← bytes_list ((askIn c).frame++(askTold c item side price qty).frame),ByteArray.data_append,Array.toList_append]
        rw [e,o1] at h
        exact h)
       have HF1:Hid (∀ W,Calls Tryz.prog 15 #[.agg #[.int .u8 108,.int .i64 (c:Int),.int .i64 1,.int .i64 0,.int .i64 0,.int .i64 0,.int .i64 0,.int .i64 0]] W fun e w'=>e=.returned (.string (askIn c).frame)∧Ex W w'):=Lib.hid (fun W=>frameRef_any (askIn c) W ⟨by show (0:Int)≤108;decide,by show (108:Int)≤255;decide⟩ (askIn_err hc))
       have HF3:Hid (∀ W,Calls Tryz.prog 15 #[.agg #[.int .u8 111,.int .i64 (c:Int),.int .i64 2,.int .i64 item,.int .i64 side,.int .i64 price,.int .i64 qty,.int .i64 777777]] W fun e w'=>e=.returned (.string (askTold c item side price qty).frame)∧Ex W w'):=Lib.hid (fun W=>frameRef_any (askTold c item side price qty) W ⟨by show (0:Int)≤111;decide,by show (111:Int)≤255;decide⟩ he)
       have HRD:Hid (Ready (feedR c ((askIn c).frame.data.toList++(askTold c item side price qty).frame.data.toList) v1).2 c (askTold c item side price qty) v1.now∧VInv (feedR c ((askIn c).frame.data.toList++(askTold c item side price qty).frame.data.toList) v1).2∧(feedR c ((askIn c).frame.data.toList++(askTold c item side price qty).frame.data.toList) v1).2.now=v1.now∧v1.now≤250):=Lib.hid ⟨o2,hv2,hn0,by omega⟩
       have f1:=(askIn c).frame_size
       have f2:=(askTold c item side price qty).frame_size
       have hgc:=blk_cell (LX.blk [] (HXA.out.later HXR.out))
       have g0:=hgc 0
       have g1:=hgc 1
       have g2:=hgc 2
       have g3:=hgc 3
       have g4:=hgc 4
       have g5:=hgc 5
       have g6:=hgc 6
       have g7:=hgc 7
       simp only [List.getElem?_toArray,List.getElem?_cons_zero,List.getElem?_cons_succ] at g0 g1 g2 g3 g4 g5 g6 g7
       have hab:=lt_of_cell g0
       clear hgc HFR HF2 HAP HAS HXA HXR hal o1 o2 hv1 hn1 hn0 hv2 h60 HL HSV
       generalize (feedR c ((askIn c).frame.data.toList++(askTold c item side price qty).frame.data.toList) v1).2=v2 at *
       generalize (askIn c).frame=fr1 at *
       generalize (askTold c item side price qty).frame=fr2 at *
       go_upto_region 26 with fail
       go_region_held3 (fun W'=>W'.cell? ⟨ab,0,none⟩=some (.int .u8 111)∧W'.cell? ⟨ab,1,none⟩=some (.int .i64 (c:Int))∧W'.cell? ⟨ab,2,none⟩=some (.int .i64 2)∧W'.cell? ⟨ab,3,none⟩=some (.int .i64 item)∧W'.cell? ⟨ab,4,none⟩=some (.int .i64 side)∧W'.cell? ⟨ab,5,none⟩=some (.int .i64 price)∧W'.cell? ⟨ab,6,none⟩=some (.int .i64 qty)∧W'.cell? ⟨ab,7,none⟩=some (.int .i64 777777))
        (first|(with_reducible exact ⟨g0,g1,g2,g3,g4,g5,g6,g7⟩)|(with_reducible exact ⟨e0,e1,e2,e3,e4,e5,e6,e7⟩)|(simp [go_sem,↓IntWalk.iteOmega,g0,g1,g2,g3,g4,g5,g6,g7];done)|(simp [go_sem,↓IntWalk.iteOmega,e0,e1,e2,e3,e4,e5,e6,e7];done))
        (first
         | ((with_reducible go_at_call 15;with_reducible refine (HF1.out _).mono ?_);rintro e w10 ⟨rfl,l10,d10,rfl⟩)
         | ((with_reducible go_at_call 15;with_reducible refine (HF3.out _).mono ?_);rintro e w11 ⟨rfl,l11,d11,rfl⟩)
         | (go_at_call 14;(refine (HFD.out _ ?_).mono ?_);(focus ((repeat (first|(with_reducible exact Ex.refl _)|(with_reducible refine Ex.alloc ?_ _)|(with_reducible refine Ex.ext ?_ _ _)|(with_reducible refine Ex.drew ?_)|(with_reducible refine Ex.drewN ?_ _)));done));rintro e w12 ⟨u12,rfl,hX12⟩;have hgc:=blk_cell (LX.blk [] hX12);have e0:=hgc 0;have e1:=hgc 1;have e2:=hgc 2;have e3:=hgc 3;have e4:=hgc 4;have e5:=hgc 5;have e6:=hgc 6;have e7:=hgc 7;simp only [List.getElem?_toArray,List.getElem?_cons_zero,List.getElem?_cons_succ] at e0 e1 e2 e3 e4 e5 e6 e7;have HX12:=Lib.hid hX12;clear hX12 hgc))
       all_goals clear HFD HF1 HF3 f1 f2 g0 g1 g2 g3 g4 g5 g6 g7
       have hu12:=rrow_cells (LX.row [_,_] HX12.out) (k:=0) (by simp)
       simp only [List.length_cons,List.length_nil,Nat.zero_add] at hu12
       obtain ⟨g12,off12,cap12,rfl,⟨hcap,hcm⟩,hg12,hcell⟩:=hu12
       have a0:=hcell 0 (by decide)
       have a1:=hcell 1 (by decide)
       have a2:=hcell 2 (by decide)
       have a3:=hcell 3 (by decide)
       have a4:=hcell 4 (by decide)
       have a5:=hcell 5 (by decide)
       simp only [Rep.cells,List.getElem_cons_zero,Nat.zero_mul,Nat.add_zero,List.getElem?_cons_zero,List.getElem?_cons_succ] at a0 a1 a2 a3 a4 a5
       rw [kAcc] at a1
       clear hcell
       go_upto_region 29 with fail
       go_quiet (fail)
       all_goals go_wp2_with fail
       have HXT:=Lib.hid (LX.less [_,_] HX12.out)
       clear a0 a1 a2 a3 a4 a5 hcap hcm hg12 HX12 e0 e1 e2 e3 e4 e5 e6 e7
       obtain ⟨hrd,hv2,hn2,hn1⟩:=HRD.out
       have HTF:=Lib.hid (tk_facts (p:=([],v2)) hv2)
       have HTO:Hid (Told (c:Int) 777777 qty (tkSteps 3 ([],v2)).1):=Lib.hid (Ready.told (a:=askTold c item side price qty) hc (by rw [hn2];exact hrd) hv2 rfl rfl (by omega))
       obtain ⟨i0,hi0,hz0,hz1,hz2⟩:=info_parts infoRep
       clear hrd hv2 HRD he
       go_loopw [21,22] (fun o i wr=>∃ (m:Nat) (u':Value),u'=o∧m≤3∧i=.int .i64 (m:Int)∧LX E w [rdTh (rrowRd (tkSteps m ([],v2)).1 u'),blkTh ab #[.int .u8 111,.int .i64 (c:Int),.int .i64 2,.int .i64 item,.int .i64 side,.int .i64 price,.int .i64 qty,.int .i64 777777] 45,vTh vb fa dp (tkSteps m ([],v2)).2] wr) (fun _ i _=>3 - (intOf i).toNat)
       case atStart=>exact ⟨0,_,rfl,Nat.zero_le _,rfl,HXT.out.addRow (by repeat (first|exact Ex.refl _|refine Ex.alloc ?_ _|refine Ex.ext ?_ _ _|refine Ex.drew ?_|refine Ex.drewN ?_ _)) (rrow_nil _) (fun g hg=>by cases hg)⟩
       case round =>
        obtain ⟨m,u',rfl,hm,rfl,hX⟩:=hrel
        clear HXT
        obtain ⟨ht1,ht2,ht3⟩:=HTF.out m
        simp only [List.length_nil,Nat.zero_add] at ht2 ht3
        by_cases hlm:m<3
        ·obtain ⟨au,cu,rfl,hcu,hmu⟩:=rrow_slice (LX.row [] hX)
         have HTK:=Lib.hid (fun W' (hx:Ex wr W')=>(hX.later hx).tick [_,_] ht1.ok (by omega))
         have htl:=tickR_len ht1
         have HSS:Hid (tkSteps (m+1) ([],v2)=((tkSteps m ([],v2)).1++(tickR (tkSteps m ([],v2)).2).1,(tickR (tkSteps m ([],v2)).2).2)):=Lib.hid rfl
         clear hX ht1 ht2 HTF HTO
         generalize tkSteps m ([],v2)=q at *
         obtain ⟨Q,qv⟩:=q
         simp only at ht3 htl hcu HSS HTK
         generalize tickR qv=r at *
         obtain ⟨R,rv⟩:=r
         simp only at htl HSS HTK
         go_wp2_with (first
          | (go_at_call 16;refine (HTK.out _ (by repeat (first|exact Ex.refl _|refine Ex.alloc ?_ _|refine Ex.ext ?_ _ _|refine Ex.drew ?_|refine Ex.drewN ?_ _))).mono ?_;rintro e w13 ⟨ur,rfl,hX13⟩;have HX13:=Lib.hid hX13;clear hX13)
          | (at_builtin;refine wpList_append_two rfl (.tmp 149) (.tmp 150) 42 42 rfl 50 i0 _ 6 56 Tryz.underlying42 hi0 hz0 hz1 hz2 rfl (.slice au Q.length cu) ur Q.length R.length (flat Rep.cells Q) (flat Rep.cells R) rfl rfl ?_ ?_ ?_ ?_ ?_))
         focus exact (LX.row [] HX13.out)
         focus exact (Src.row Tryz.underlying42 (LX.row [_,_,_] HX13.out) (rep_one R))
         focus (unfold maxLen;omega)
         focus omega
         intro v' w' hrow hgrow hown
         have H2:=Lib.hid (LX.less [_,_,_] ((HX13.out.later (by repeat (first|exact Ex.refl _|refine Ex.alloc ?_ _|refine Ex.ext ?_ _ _|refine Ex.drew ?_|refine Ex.drewN ?_ _))).grow [] (r':=rrowRd (Q++R) v') hgrow hown rfl (by show RowAt w' _ 6 v' (Q++R).length (flat Rep.cells (Q++R));rw [flat_append,List.length_append];exact hrow)))
         clear hrow hgrow hown HX13 HTK
         go_wp2_with fail
         go_roundw
         case measure=>simp [intOf];omega
         case rel=>exact ⟨m+1,_,rfl,by omega,by go_num,by rw [HSS.out];exact H2.out.later (by repeat (first|exact Ex.refl _|refine Ex.alloc ?_ _|refine Ex.ext ?_ _ _|refine Ex.drew ?_|refine Ex.drewN ?_ _))⟩
        ·obtain rfl:m=3:=by omega
         have HX:=Lib.hid hX
         clear hX HTF ht1 ht2
         generalize tkSteps 3 ([],v2)=q at *
         obtain ⟨R,rv⟩:=q
         simp only at ht3
         have hR3:R.length≤3000000:=by omega
         clear ht3
         obtain ⟨ac,cap3,rfl,hcap3,hm3⟩:=rrow_slice (LX.row [] HX.out)
         go_wp2_with fail
         go_loopw [24,25,26,27] (fun n' f' r' i wq=>∃ (k nn:Nat) (ff rr:Int),k≤R.length∧n'=.int .i64 (nn:Int)∧f'=.int .i64 ff∧r'=.int .i64 rr∧i=.int .i64 (k:Int)∧TI 777777 R k nn ff rr∧Ex wr wq) (fun _ _ _ i _=>R.length - (intOf i).toNat)
         case atStart=>exact ⟨0,0,0,0,Nat.zero_le _,rfl,rfl,rfl,rfl,TI.start _ _,(by repeat (first|exact Ex.refl _|refine Ex.alloc ?_ _|refine Ex.ext ?_ _ _|refine Ex.drew ?_|refine Ex.drewN ?_ _))⟩
         case round =>
          obtain ⟨k,nn,ff,rr,hk,rfl,rfl,rfl,rfl,hti,hxq⟩:=hrel
          have HXQ:=Lib.hid hxq
          have HTI:=Lib.hid hti
          have hxw:=Lib.hid (HX.out.ex.trans hxq)
          have hnk:=hti.le
          obtain ⟨hfb0,hfb1⟩:=hti.fb
          obtain ⟨hrb0,hrb1⟩:=hti.rb
          clear hti hxq
          by_cases hlk:k<R.length
          ·obtain ⟨g,off,cap4,hu4,_,hg,hcell⟩:=rrow_cells (LX.row [] (HX.out.later HXQ.out)) hlk
           have hao:ac=some ⟨g,off,none⟩:=by injection hu4
           subst hao
           have a0:=hcell 0 (by decide)
           have a1:=hcell 1 (by decide)
           have a2:=hcell 2 (by decide)
           have a4:=hcell 4 (by decide)
           have a5:=hcell 5 (by decide)
           simp only [Rep.cells,Nat.add_zero,List.getElem?_cons_zero,List.getElem?_cons_succ] at a0 a1 a2 a4 a5
           have hg7:=blk_cell (LX.blk [_] (HX.out.later HXQ.out)) 7
           simp only [List.getElem?_toArray,List.getElem?_cons_zero,List.getElem?_cons_succ] at hg7
           have habi:=lt_of_cell hg7
           have ki:(k:Int)<(R.length:Int):=by omega
           clear hcell hu4
           by_cases hid:R[k].id=777777
           ·have hh:=TI.hit HTO.out HTI.out hlk hid
            rw [hid] at a2
            rw [hh.1] at a0
            clear hid
            rcases hh.2 with ⟨hn0,hkd,hcode⟩|⟨hkd,⟨hq0,hq1⟩,hti2⟩|⟨hkd,⟨hq0,hq1⟩,hti2⟩
            ·subst hn0
             rw [hkd,kRef] at a1
             clear hh HTO HTI hkd
             generalize R[k].qty=q4 at *
             generalize R[k].code=q5 at *
             go_upto_region 43 with fail
             go_quiet (fail)
             all_goals go_wp2_with fail
             all_goals go_ret
             all_goals exact ⟨rfl,hxw.out.trans (by repeat (first|exact Ex.refl _|refine Ex.alloc ?_ _|refine Ex.ext ?_ _ _|refine Ex.drew ?_|refine Ex.drewN ?_ _))⟩
            ·rw [hkd,kFil] at a1
             have HT2:=Lib.hid hti2
             clear hh hkd hti2 HTI
             generalize R[k].qty=q4 at *
             generalize R[k].code=q5 at *
             go_upto_region 43 with fail
             go_quiet (fail)
             all_goals go_wp2_with fail
             all_goals
              go_roundw
              case measure=>simp [intOf];omega
              case rel=>exact ⟨k+1,nn+1,_,_,by omega,by go_num,rfl,rfl,by go_num,HT2.out,HXQ.out.trans (by repeat (first|exact Ex.refl _|refine Ex.alloc ?_ _|refine Ex.ext ?_ _ _|refine Ex.drew ?_|refine Ex.drewN ?_ _))⟩
            ·rw [hkd,kRest] at a1
             have HT2:=Lib.hid hti2
             clear hh hkd hti2 HTI
             generalize R[k].qty=q4 at *
             generalize R[k].code=q5 at *
             go_upto_region 43 with fail
             go_quiet (fail)
             all_goals go_wp2_with fail
             all_goals
              go_roundw
              case measure=>simp [intOf];omega
              case rel=>exact ⟨k+1,nn+1,_,_,by omega,by go_num,rfl,rfl,by go_num,HT2.out,HXQ.out.trans (by repeat (first|exact Ex.refl _|refine Ex.alloc ?_ _|refine Ex.ext ?_ _ _|refine Ex.drew ?_|refine Ex.drewN ?_ _))⟩
           ·have HT2:=Lib.hid (HTI.out.skip hlk hid)
            have hne:(R[k].id==777777)=false:=by simpa using hid
            clear HTI
            generalize R[k].id=i4 at *
            generalize R[k].kind=k4 at *
            generalize R[k].client=c4 at *
            generalize R[k].qty=q4 at *
            generalize R[k].code=q5 at *
            go_upto_region 43 with fail
            go_quiet (fail)
            all_goals go_wp2_with fail
            all_goals
             go_roundw
             case measure=>simp [intOf];omega
             case rel=>exact ⟨k+1,nn,_,_,by omega,rfl,rfl,rfl,by go_num,HT2.out,HXQ.out.trans (by repeat (first|exact Ex.refl _|refine Ex.alloc ?_ _|refine Ex.ext ?_ _ _|refine Ex.drew ?_|refine Ex.drewN ?_ _))⟩
          ·obtain rfl:k=R.length:=by omega
           obtain ⟨z1,z2⟩:=TI.done HTO.out HTI.out
           have z3:(0:Int)<(nn:Int):=by omega
           clear HTI HTO
           subst z2
           go_wp2_with fail
           all_goals go_ret
           all_goals exact ⟨rfl,hxw.out.trans (by repeat (first|exact Ex.refl _|refine Ex.alloc ?_ _|refine Ex.ext ?_ _ _|refine Ex.drew ?_|refine Ex.drewN ?_ _))⟩
    ·have her:(0:Int)<((askTold c item side price qty).err:Int):=by omega
     generalize (askTold c item side price qty).err=er at *
     go_wp2_with (go_at_call 13;refine (HAE.out _).mono ?_;rintro e w7 ⟨rfl,l7,d7,rfl⟩)
     all_goals go_ret
     all_goals exact ⟨rfl,HXA.out.ex.trans (by repeat (first|exact Ex.refl _|refine Ex.alloc ?_ _|refine Ex.ext ?_ _ _|refine Ex.drew ?_|refine Ex.drewN ?_ _))⟩
 ·go_ret
  exact ⟨rfl,(by repeat (first|exact Ex.refl _|refine Ex.alloc ?_ _|refine Ex.ext ?_ _ _|refine Ex.drew ?_|refine Ex.drewN ?_ _))⟩
end
end Go.Proofs.YtabbgpjofkaomaaGreatDoor
