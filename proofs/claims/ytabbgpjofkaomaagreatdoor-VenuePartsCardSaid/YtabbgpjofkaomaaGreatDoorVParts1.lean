import Derived.Test.YtabbgpjofkaomaaGreatDoorJ54
import Derived.Test.YtabbgpjofkaomaaGreatDoorExP
set_option linter.unusedSimpArgs false
set_option linter.unusedVariables false
/- VenueParts: what the statement's code answers. -/
namespace Go.Proofs.YtabbgpjofkaomaaGreatDoor
open Go.RowKit
section
variable {E:Nat→Addr} {w:World}
set_option maxRecDepth 100000 in
set_option maxHeartbeats 4000000 in
theorem vparts_out (hr:CodeReady E w) (ht:Tab w) (client:Int) (s:ByteArray) (co:Option Addr) (lc cc:Nat) (h:400<s.size∨20<lc∨client<0∨6≤client) (ao:Option Addr) (len cap:Nat) (l:List Step) (hl:StepsAt w ao len l) :
  Calls Tryz.prog 4 #[.slice ao len cap,.int .i64 client,.string s,.slice co lc cc] w fun e w'=>e=.returned (.bool true)∧Ex w w':=by
 have HO:=Lib.hid (opened_any E w hr ht)
 have HLS:=Lib.hid (fun W (hx:Ex w W)=>longSteps_any ao len cap l 30 W (stepsAt_later hl hx) (by decide))
 clear hl hr ht
 by_cases h1:400<s.size
 ·have h1':(400:Int)<(s.size:Int):=by omega
  clear h
  go_enter Tryz.func4,Tryz.ntmps4
  go_wp2_with (first
   | (go_at_call 7;refine HO.out.mono ?_;rintro e w1 ⟨rfl,l1,d1,rfl⟩)
   | (go_at_call 8;refine (HLS.out _ (by repeat (first|exact Ex.refl _|refine Ex.alloc ?_ _|refine Ex.ext ?_ _ _|refine Ex.drew ?_|refine Ex.drewN ?_ _))).mono ?_;rintro e w2 ⟨⟨b,rfl,hb⟩,l2,d2,rfl⟩;clear hb;cases b))
  all_goals go_ret
  all_goals exact ⟨rfl,(by repeat (first|exact Ex.refl _|refine Ex.alloc ?_ _|refine Ex.ext ?_ _ _|refine Ex.drew ?_|refine Ex.drewN ?_ _))⟩
 have h1':¬ (400:Int)<(s.size:Int):=by omega
 by_cases h2:20<lc
 ·have h2':(20:Int)<(lc:Int):=by omega
  clear h h1
  go_enter Tryz.func4,Tryz.ntmps4
  go_wp2_with (first
   | (go_at_call 7;refine HO.out.mono ?_;rintro e w1 ⟨rfl,l1,d1,rfl⟩)
   | (go_at_call 8;refine (HLS.out _ (by repeat (first|exact Ex.refl _|refine Ex.alloc ?_ _|refine Ex.ext ?_ _ _|refine Ex.drew ?_|refine Ex.drewN ?_ _))).mono ?_;rintro e w2 ⟨⟨b,rfl,hb⟩,l2,d2,rfl⟩;clear hb;cases b))
  all_goals go_ret
  all_goals exact ⟨rfl,(by repeat (first|exact Ex.refl _|refine Ex.alloc ?_ _|refine Ex.ext ?_ _ _|refine Ex.drew ?_|refine Ex.drewN ?_ _))⟩
 have h2':¬ (20:Int)<(lc:Int):=by omega
 by_cases h3:client<0
 ·clear h h1 h2
  go_enter Tryz.func4,Tryz.ntmps4
  go_wp2_with (first
   | (go_at_call 7;refine HO.out.mono ?_;rintro e w1 ⟨rfl,l1,d1,rfl⟩)
   | (go_at_call 8;refine (HLS.out _ (by repeat (first|exact Ex.refl _|refine Ex.alloc ?_ _|refine Ex.ext ?_ _ _|refine Ex.drew ?_|refine Ex.drewN ?_ _))).mono ?_;rintro e w2 ⟨⟨b,rfl,hb⟩,l2,d2,rfl⟩;clear hb;cases b))
  all_goals go_ret
  all_goals exact ⟨rfl,(by repeat (first|exact Ex.refl _|refine Ex.alloc ?_ _|refine Ex.ext ?_ _ _|refine Ex.drew ?_|refine Ex.drewN ?_ _))⟩
 ·have h4:6≤client:=by omega
  clear h h1 h2
  go_enter Tryz.func4,Tryz.ntmps4
  go_wp2_with (first
   | (go_at_call 7;refine HO.out.mono ?_;rintro e w1 ⟨rfl,l1,d1,rfl⟩)
   | (go_at_call 8;refine (HLS.out _ (by repeat (first|exact Ex.refl _|refine Ex.alloc ?_ _|refine Ex.ext ?_ _ _|refine Ex.drew ?_|refine Ex.drewN ?_ _))).mono ?_;rintro e w2 ⟨⟨b,rfl,hb⟩,l2,d2,rfl⟩;clear hb;cases b))
  all_goals go_ret
  all_goals exact ⟨rfl,(by repeat (first|exact Ex.refl _|refine Ex.alloc ?_ _|refine Ex.ext ?_ _ _|refine Ex.drew ?_|refine Ex.drewN ?_ _))⟩
set_option maxRecDepth 100000 in
set_option maxHeartbeats 8000000 in
theorem vparts_in (hr:CodeReady E w) (ht:Tab w) (c:Nat) (hc:c<6) (S:List UInt8) (hs:S.length≤400) (co:Option Addr) (lc cc:Nat) (hlc:lc≤20) (hcu:VCuts w co lc) (ao:Option Addr) (len cap:Nat) (l:List Step) (L:List SV) (hl:StepsAt w ao len l) (hL:SVs w l L) :
  Calls Tryz.prog 4 #[.slice ao len cap,.int .i64 (c:Int),.string ⟨S.toArray⟩,.slice co lc cc] w fun e w'=>e=.returned (.bool true)∧Ex w w':=by
 have HO:=Lib.hid (opened_any E w hr ht)
 have HLS:=Lib.hid (fun W (hx:Ex w W)=>longSteps_any ao len cap l 30 W (stepsAt_later hl hx) (by decide))
 have HL:=Lib.hid hl
 have HSV:=Lib.hid hL
 have HCU:=Lib.hid hcu
 have HN:=Lib.hid (fun W (hx:Ex w W)=>((LX.start hr ht).later hx).new smallC smallC_ok)
 have hc0:¬ (c:Int)<0:=by omega
 have hc6:(c:Int)<6:=by omega
 have zS:=bytes_size S
 have hs4:¬ (400:Int)<(S.length:Int):=by omega
 have hl2:¬ (20:Int)<(lc:Int):=by omega
 clear hl hL hr ht hcu
 go_enter Tryz.func4,Tryz.ntmps4
 go_upto_region 4 with (first
  | (go_at_call 7;refine HO.out.mono ?_;rintro e w1 ⟨rfl,l1,d1,rfl⟩)
  | (go_at_call 8;refine (HLS.out _ (by repeat (first|exact Ex.refl _|refine Ex.alloc ?_ _|refine Ex.ext ?_ _ _|refine Ex.drew ?_|refine Ex.drewN ?_ _))).mono ?_;rintro e w2 ⟨⟨b,rfl,hb⟩,l2,d2,rfl⟩;cases b))
 all_goals clear HO HLS
 ·obtain ⟨hlen,hlong⟩:=hb (by first|trivial|rfl)
  have HSH:=Lib.hid (HSV.out.short hlong)
  have hll:=HL.out.1
  have hLl:=HSV.out.len
  clear hb hlong
  go_upto_region 5 with (first
   | (go_at_call 11;refine (small_any _).mono ?_;rintro e w3 ⟨rfl,l3,d3,rfl⟩)
   | (go_at_call 10;refine (asConfig_any _ _ _ _ _ _ _).mono ?_;rintro e w4 ⟨rfl,l4,d4,rfl⟩)
   | (go_at_call 9;refine (HN.out _ (by repeat (first|exact Ex.refl _|refine Ex.alloc ?_ _|refine Ex.ext ?_ _ _|refine Ex.drew ?_|refine Ex.drewN ?_ _))).mono ?_;rintro e w5 ⟨vb,dp,fa,rfl,hX5⟩;have HX5:=Lib.hid hX5;clear hX5))
  clear HN
  have HN2:=Lib.hid (fun W (hx:Ex w5 W)=>(HX5.out.later hx).new smallC smallC_ok)
  go_upto_region 6 with (first
   | (go_at_call 11;refine (small_any _).mono ?_;rintro e w6 ⟨rfl,l6,d6,rfl⟩)
   | (go_at_call 10;refine (asConfig_any _ _ _ _ _ _ _).mono ?_;rintro e w7 ⟨rfl,l7,d7,rfl⟩)
   | (go_at_call 9;refine (HN2.out _ (by repeat (first|exact Ex.refl _|refine Ex.alloc ?_ _|refine Ex.ext ?_ _ _|refine Ex.drew ?_|refine Ex.drewN ?_ _))).mono ?_;rintro e w8 ⟨vb2,dp2,fa2,rfl,hX8⟩;have HX8:=Lib.hid (hX8.perm (List.Perm.swap _ _ _));clear hX8))
  clear HN2 HX5
  have HW:=Lib.hid (fun W (hx:Ex w8 W)=>walk_any (HX8.out.later hx) newV_inv (Nat.zero_le _) ao len cap l L HL.out HSV.out HSH.out (by omega))
  go_upto_region 9 with (go_at_call 12;refine (HW.out _ (by repeat (first|exact Ex.refl _|refine Ex.alloc ?_ _|refine Ex.ext ?_ _ _|refine Ex.drew ?_|refine Ex.drewN ?_ _))).mono ?_;rintro e w9 ⟨u,rfl,hX9⟩;have HX9:=Lib.hid ((LX.less [] hX9).perm (List.Perm.swap _ _ _));clear hX9)
  clear HW HX8
  have HW:=Lib.hid (fun W (hx:Ex w9 W)=>walk_any (HX9.out.later hx) newV_inv (Nat.zero_le _) ao len cap l L HL.out HSV.out HSH.out (by omega))
  have HF2:Hid (VInv (walkR L (newV smallC)).2∧(walkR L (newV smallC)).2.now≤0+8*L.length):=Lib.hid ⟨(walk_facts L (p:=([],newV smallC)) newV_inv).1,(walk_facts L (p:=([],newV smallC)) newV_inv).2.1⟩
  clear HSH HL HSV HX9
  generalize walkR L (newV smallC)=p at *
  obtain ⟨P,v1⟩:=p
  go_upto_region 10 with (go_at_call 12;refine (HW.out _ (by repeat (first|exact Ex.refl _|refine Ex.alloc ?_ _|refine Ex.ext ?_ _ _|refine Ex.drew ?_|refine Ex.drewN ?_ _))).mono ?_;rintro e w10 ⟨u10,rfl,hX10⟩;have HX10:=Lib.hid (LX.less [] hX10);clear hX10)
  clear HW
  go_wp2_with fail
  have HXB:=Lib.hid (HX10.out.addBlk (b:=w10.heap.size) (vs:=#[.int .i64 0,.int .i64 0,.int .i64 0,.int .i64 0,.int .i64 0,.int .i64 0]) (t:=54) (W':=w10.alloc _) (by repeat (first|exact Ex.refl _|refine Ex.alloc ?_ _|refine Ex.ext ?_ _ _|refine Ex.drew ?_|refine Ex.drewN ?_ _)) (heap_alloc_new w10 _) (Nat.le_refl _))
  generalize w10.alloc (.cells #[.int .i64 0,.int .i64 0,.int .i64 0,.int .i64 0,.int .i64 0,.int .i64 0] 54)=wB at *
  generalize w10.heap.size=tb at *
  have HXB2:Hid (LX E w [blkTh tb (wasC (fun n=>(v1.cl n).s.next) 0) 54,vTh vb2 fa2 dp2 v1,vTh vb fa dp v1] wB):=Lib.hid HXB.out
  clear HXB HX10
  go_loopw [15] (fun i wr=>∃ k:Nat,k≤6∧i=.int .i64 (k:Int)∧LX E w [blkTh tb (wasC (fun n=>(v1.cl n).s.next) k) 54,vTh vb2 fa2 dp2 v1,vTh vb fa dp v1] wr) (fun i _=>6 - (intOf i).toNat)
  case atStart=>exact ⟨0,Nat.zero_le _,rfl,HXB2.out.later (by repeat (first|exact Ex.refl _|refine Ex.alloc ?_ _|refine Ex.ext ?_ _ _|refine Ex.drew ?_|refine Ex.drewN ?_ _))⟩
  case round =>
   obtain ⟨k,hk,rfl,hX⟩:=hrel
   clear HXB2
   by_cases hlt:k<6
   ·have HSE:=Lib.hid (fun W hx=>(hX.reads [_,_]).sess W hx k hlt)
    have hgk:=LX.blk [] hX
    have ck:=blk_cell hgk k
    rw [wasC_get _ hlt] at ck
    have fk:wr.frozen? ⟨tb,k,none⟩=false:=by simp [World.frozen?,hgk]
    have htb:=lt_of_cell ck
    have HX:=Lib.hid hX
    have HST:=Lib.hid (wasC_set (fun n=>(v1.cl n).s.next) hlt)
    have ki:(k:Int)<6:=by omega
    have hfs:=fieldSess1
    clear hX hgk
    unfold Sess.val at HSE
    go_wp2_with (go_at_call 17;refine (HSE.out _ (by repeat (first|exact Ex.refl _|refine Ex.alloc ?_ _|refine Ex.ext ?_ _ _|refine Ex.drew ?_|refine Ex.drewN ?_ _))).mono ?_;rintro e w11 ⟨rfl,l11,d11,rfl⟩)
    go_roundw
    case measure=>simp [intOf];omega
    case rel=>exact ⟨k+1,by omega,by go_num,by rw [← HST.out];exact (HX.out.setB [] k _).later (by repeat (first|exact Ex.refl _|refine Ex.alloc ?_ _|refine Ex.ext ?_ _ _|refine Ex.drew ?_|refine Ex.drewN ?_ _))⟩
   ·obtain rfl:k=6:=by omega
    obtain ⟨hv1,hn1⟩:=HF2.out
    try simp only at hv1 hn1
    have HFD:=Lib.hid (fun W (hx:Ex wr W)=>(hX.later hx).feed [_,_] hv1.ok.left hc S (by omega))
    clear hX
    go_upto_region 16 with (go_at_call 14;refine (HFD.out _ (by repeat (first|exact Ex.refl _|refine Ex.alloc ?_ _|refine Ex.ext ?_ _ _|refine Ex.drew ?_|refine Ex.drewN ?_ _))).mono ?_;rintro e w12 ⟨u12,rfl,hX12⟩;have HX12:=Lib.hid hX12;clear hX12)
    clear HFD
    have HV1:=Lib.hid hv1
    have HKE:=Lib.hid (feedR_keep c S v1)
    have hr1:=feedR_len c S v1
    have hleft:=hv1.ok.left c hc
    have hra:(feedR c S v1).1.length≤430:=by omega
    obtain ⟨i0,hi0,hz0,hz1,hz2⟩:=info_parts infoRep
    clear HF2 hv1 hr1
    go_wp2_with fail
    go_loopw [17,18,19] (fun o at' i wr=>∃ (k A:Nat) (u':Value),u'=o∧k≤lc∧A≤S.length∧at'=.int .i64 (A:Int)∧i=.int .i64 (k:Int)∧LX E w [rdTh (rrowRd (feedR c (S.take A) v1).1 u'),blkTh tb (wasC (fun n=>(v1.cl n).s.next) 6) 54,vTh vb2 fa2 dp2 (feedR c (S.take A) v1).2,vTh vb fa dp (feedR c S v1).2,rdTh (rrowRd (feedR c S v1).1 u12)] wr) (fun _ _ i _=>lc - (intOf i).toNat)
    case atStart =>
     refine ⟨0,0,_,rfl,Nat.zero_le _,Nat.zero_le _,rfl,rfl,?_⟩
     rw [List.take_zero,feedR_nil hleft]
     exact HX12.out.addRow (by repeat (first|exact Ex.refl _|refine Ex.alloc ?_ _|refine Ex.ext ?_ _ _|refine Ex.drew ?_|refine Ex.drewN ?_ _)) (rrow_nil _) (fun g hg=>by cases hg)
    case round =>
     obtain ⟨k,A,u',rfl,hk,hA,rfl,rfl,hX⟩:=hrel
     clear HX12
     have hvA:=HV1.out.feed hc (S.take A)
     have hlA:=hvA.ok.left
     have hr1:=feedR_len c (S.take A) v1
     rw [List.length_take] at hr1
     have hrA:(feedR c (S.take A) v1).1.length≤430:=by omega
     obtain ⟨au,cu,rfl,hcu,hmu⟩:=rrow_slice (LX.row [] hX)
     have hI3:(0:Int)≤(A:Int):=by omega
     clear hr1 hvA
     by_cases hlt:k<lc
     ·obtain ⟨b,off,rfl,hb,hcell⟩:=HCU.out.ex hX.ex (by omega)
      obtain ⟨n,hn⟩:=hcell k hlt
      have HX:=Lib.hid hX
      clear hX hcell
      by_cases hn0:n<0
      ·clear hlA
       go_wp2_with fail
       go_roundw
       case measure=>simp [intOf];omega
       case rel=>exact ⟨k+1,A,_,rfl,by omega,hA,rfl,by go_num,HX.out.later (by repeat (first|exact Ex.refl _|refine Ex.alloc ?_ _|refine Ex.ext ?_ _ _|refine Ex.drew ?_|refine Ex.drewN ?_ _))⟩
      by_cases hn1:(S.length:Int) - (A:Int)<n
      ·clear hlA
       go_wp2_with fail
       go_roundw
       case measure=>simp [intOf];omega
       case rel=>exact ⟨k+1,A,_,rfl,by omega,hA,rfl,by go_num,HX.out.later (by repeat (first|exact Ex.refl _|refine Ex.alloc ?_ _|refine Ex.ext ?_ _ _|refine Ex.drew ?_|refine Ex.drewN ?_ _))⟩
      obtain ⟨m,rfl⟩:=Int.eq_ofNat_of_zero_le (show 0≤n by omega)
      have hAm:A+m≤S.length:=by omega
      have hI1:(A:Int)+(m:Int)≤(S.length:Int):=by omega
      have hI2:(A:Int)≤(A:Int)+(m:Int):=by omega
      have hT:((A:Int)+(m:Int)).toNat=A+m:=by omega
      have em:(⟨S.toArray⟩:ByteArray).extract A (A+m)=⟨((S.drop A).take m).toArray⟩:=by rw [bytes_mid,Nat.add_sub_cancel_left]
      have hsz:((S.drop A).take m).length≤900:=by rw [List.length_take,List.length_drop];omega
      have HFD:=Lib.hid (fun W (hx:Ex wr W)=>(HX.out.later hx).feed [_,_] hlA hc ((S.drop A).take m) hsz)
      have hr2:=feedR_len c ((S.drop A).take m) (feedR c (S.take A) v1).2
      have hl2:=hlA c hc
      have HPT:Hid (feedR c (S.take (A+m)) v1=_):=Lib.hid (feedR_part c S A m v1)
      have hrB:(feedR c ((S.drop A).take m) (feedR c (S.take A) v1).2).1.length≤430:=by rw [List.length_take,List.length_drop] at hr2;omega
      clear hr2 hl2 hlA hsz
      generalize feedR c (S.take A) v1=q at *
      obtain ⟨Q,qv⟩:=q
      simp only at hrA hcu HX HFD HPT hrB
      generalize feedR c ((S.drop A).take m) qv=r at *
      obtain ⟨R,rv⟩:=r
      simp only at hrB HFD HPT
      go_wp2_with (first
       | (go_at_call 14;refine (HFD.out _ (by repeat (first|exact Ex.refl _|refine Ex.alloc ?_ _|refine Ex.ext ?_ _ _|refine Ex.drew ?_|refine Ex.drewN ?_ _))).mono ?_;rintro e w13 ⟨ur,rfl,hX13⟩;have HX13:=Lib.hid hX13;clear hX13)
       | (at_builtin;refine wpList_append_two rfl (.tmp 129) (.tmp 130) 42 42 rfl 50 i0 _ 6 56 Tryz.underlying42 hi0 hz0 hz1 hz2 rfl (.slice au Q.length cu) ur Q.length R.length (flat Rep.cells Q) (flat Rep.cells R) rfl rfl ?_ ?_ ?_ ?_ ?_))
      focus exact (LX.row [] HX13.out)
      focus exact (Src.row Tryz.underlying42 (LX.row [_,_,_] HX13.out) (rep_one R))
      focus (unfold maxLen;omega)
      focus omega
      intro v' w' hrow hgrow hown
      have H2:=Lib.hid (LX.less [_,_,_] ((HX13.out.later (by repeat (first|exact Ex.refl _|refine Ex.alloc ?_ _|refine Ex.ext ?_ _ _|refine Ex.drew ?_|refine Ex.drewN ?_ _))).grow [] (r':=rrowRd (Q++R) v') hgrow hown rfl (by show RowAt w' _ 6 v' (Q++R).length (flat Rep.cells (Q++R));rw [flat_append,List.length_append];exact hrow)))
      clear hrow hgrow hown HX13 HFD
      go_wp2_with fail
      go_roundw
      case measure=>simp [intOf];omega
      case rel=>exact ⟨k+1,A+m,_,rfl,by omega,hAm,by go_num,by go_num,by rw [HPT.out];exact H2.out.later (by repeat (first|exact Ex.refl _|refine Ex.alloc ?_ _|refine Ex.ext ?_ _ _|refine Ex.drew ?_|refine Ex.drewN ?_ _))⟩
     ·obtain rfl:k=lc:=by omega
      have HX:=Lib.hid hX
      have em:(⟨S.toArray⟩:ByteArray).extract A S.length=⟨(S.drop A).toArray⟩:=bytes_tail S A _ (Nat.le_refl _)
      have hI1:(A:Int)≤(S.length:Int):=by omega
      have hsz:(S.drop A).length≤900:=by rw [List.length_drop];omega
      have HFD:=Lib.hid (fun W (hx:Ex wr W)=>(HX.out.later hx).feed [_,_] hlA hc (S.drop A) hsz)
      have hr2:=feedR_len c (S.drop A) (feedR c (S.take A) v1).2
      have hl2:=hlA c hc
      have HPT:=Lib.hid (feedR_rest c S A v1)
      have hrB:(feedR c (S.drop A) (feedR c (S.take A) v1).2).1.length≤430:=by rw [List.length_drop] at hr2;omega
      clear hr2 hl2 hlA hsz hX
      generalize feedR c (S.take A) v1=q at *
      obtain ⟨Q,qv⟩:=q
      simp only at hrA hcu HX HFD HPT hrB
      generalize feedR c (S.drop A) qv=r at *
      obtain ⟨R,rv⟩:=r
      simp only at hrB HFD HPT
      go_upto_region 28 with (first
       | (go_at_call 14;refine (HFD.out _ (by repeat (first|exact Ex.refl _|refine Ex.alloc ?_ _|refine Ex.ext ?_ _ _|refine Ex.drew ?_|refine Ex.drewN ?_ _))).mono ?_;rintro e w13 ⟨ur,rfl,hX13⟩;have HX13:=Lib.hid hX13;clear hX13)
       | (at_builtin;refine wpList_append_two rfl (.tmp 141) (.tmp 142) 42 42 rfl 50 i0 _ 6 56 Tryz.underlying42 hi0 hz0 hz1 hz2 rfl (.slice au Q.length cu) ur Q.length R.length (flat Rep.cells Q) (flat Rep.cells R) rfl rfl ?_ ?_ ?_ ?_ ?_))
      focus exact (LX.row [] HX13.out)
      focus exact (Src.row Tryz.underlying42 (LX.row [_,_,_] HX13.out) (rep_one R))
      focus (unfold maxLen;omega)
      focus omega
      intro v' w14 hrow hgrow hown
      have H2:=Lib.hid (LX.less [_,_,_] ((HX13.out.later (by repeat (first|exact Ex.refl _|refine Ex.alloc ?_ _|refine Ex.ext ?_ _ _|refine Ex.drew ?_|refine Ex.drewN ?_ _))).grow [] (r':=rrowRd (Q++R) v') hgrow hown rfl (by show RowAt w14 _ 6 v' (Q++R).length (flat Rep.cells (Q++R));rw [flat_append,List.length_append];exact hrow)))
      clear hrow hgrow hown HX13 HFD HX
      rw [HPT.out] at H2 HKE hra
      simp only at H2 HKE hra
      clear HPT hrA hrB
      generalize hAL:Q++R=AL at *
      clear hAL
      have HAK:=Lib.hid (fun W (hx:Ex w14 W)=>alike_any AL u12 v' W (LX.row [_,_,_,_] (H2.out.later hx)) (LX.row [] (H2.out.later hx)))
      have HRV:Hid (VRead2 vb dp fa rv w14):=Lib.hid (LX.reads2 [_,_,_] H2.out)
      have HRW:Hid (VRead2 vb2 dp2 fa2 rv w14):=Lib.hid (LX.reads2 [_,_] H2.out)
      have hx14:=Lib.hid H2.out.ex
      have HAL:=Lib.hid (fun W (hx:Ex w14 W)=>LX.row [_,_,_,_] (H2.out.later hx))
      have HCK:Hid (∀ W,Ex w14 W→∀ j:Nat,j<6→W.cell? ⟨tb,j,none⟩=some (.int .i64 (v1.cl j).s.next)):=Lib.hid fun W hx j hj=>by
       have h:=blk_cell (LX.blk [_] (H2.out.later hx)) j
       rw [wasC_get _ hj,if_pos hj] at h
       exact h
      have hlen3:Hid (∀ j,j<3→(rv.f.b j).length≤1000):=Lib.hid fun j hj=>by
       rw [HKE.out.2.1]
       have:=(HV1.out.ok.fl.book j hj).len
       omega
      clear H2 hra hcu em hI1 hI3 HCU
      have HB1:=Lib.hid HRV.out.batches
      have HB2:=Lib.hid HRW.out.batches
      have HN1:=Lib.hid HRV.out.now
      have HN2:=Lib.hid HRW.out.now
      go_upto_region 30 with (first
       | ((with_reducible go_at_call 18;with_reducible refine (HAK.out _ ?_).mono ?_);(focus ((repeat (first|(with_reducible exact Ex.refl _)|(with_reducible refine Ex.alloc ?_ _)|(with_reducible refine Ex.ext ?_ _ _)|(with_reducible refine Ex.drew ?_)|(with_reducible refine Ex.drewN ?_ _)));done));rintro e w20 ⟨rfl,l20,d20,rfl⟩)
       | ((with_reducible go_at_call 19;with_reducible refine (HB1.out _ ?_).mono ?_);(focus ((repeat (first|(with_reducible exact Ex.refl _)|(with_reducible refine Ex.alloc ?_ _)|(with_reducible refine Ex.ext ?_ _ _)|(with_reducible refine Ex.drew ?_)|(with_reducible refine Ex.drewN ?_ _)));done));rintro e w21 ⟨rfl,l21,d21,rfl⟩)
       | ((with_reducible go_at_call 19;with_reducible refine (HB2.out _ ?_).mono ?_);(focus ((repeat (first|(with_reducible exact Ex.refl _)|(with_reducible refine Ex.alloc ?_ _)|(with_reducible refine Ex.ext ?_ _ _)|(with_reducible refine Ex.drew ?_)|(with_reducible refine Ex.drewN ?_ _)));done));rintro e w22 ⟨rfl,l22,d22,rfl⟩)
       | ((with_reducible go_at_call 20;with_reducible refine (HN1.out _ ?_).mono ?_);(focus ((repeat (first|(with_reducible exact Ex.refl _)|(with_reducible refine Ex.alloc ?_ _)|(with_reducible refine Ex.ext ?_ _ _)|(with_reducible refine Ex.drew ?_)|(with_reducible refine Ex.drewN ?_ _)));done));rintro e w23 ⟨rfl,l23,d23,rfl⟩)
       | ((with_reducible go_at_call 20;with_reducible refine (HN2.out _ ?_).mono ?_);(focus ((repeat (first|(with_reducible exact Ex.refl _)|(with_reducible refine Ex.alloc ?_ _)|(with_reducible refine Ex.ext ?_ _ _)|(with_reducible refine Ex.drew ?_)|(with_reducible refine Ex.drewN ?_ _)));done));rintro e w24 ⟨rfl,l24,d24,rfl⟩))
      clear HAK HB1 HB2 HN1 HN2
      go_wp2_with fail
      go_loopw [23] (fun i wr=>∃ k:Nat,k≤3∧i=.int .i64 (k:Int)∧Ex w14 wr) (fun i _=>3 - (intOf i).toNat)
      case atStart=>exact ⟨0,Nat.zero_le _,rfl,(by repeat (first|exact Ex.refl _|refine Ex.alloc ?_ _|refine Ex.ext ?_ _ _|refine Ex.drew ?_|refine Ex.drewN ?_ _))⟩
      case round =>
       obtain ⟨k,hk,rfl,hxk⟩:=hrel
       have HXK:=Lib.hid hxk
       clear hxk
       by_cases hlt:k<3
       ·have HF1:=Lib.hid (fun W (hx:Ex wr W)=>HRV.out.floor W (HXK.out.trans hx))
        have HF2':=Lib.hid (fun W (hx:Ex wr W)=>HRW.out.floor W (HXK.out.trans hx))
        have HK1:=Lib.hid (fun W (hx:Ex wr W)=>HRV.out.book W (HXK.out.trans hx) k hlt)
        have HK2:=Lib.hid (fun W (hx:Ex wr W)=>HRW.out.book W (HXK.out.trans hx) k hlt)
        have HT1:=Lib.hid (fun W (hx:Ex wr W)=>HRV.out.lots W (HXK.out.trans hx) k hlt)
        have HT2:=Lib.hid (fun W (hx:Ex wr W)=>HRW.out.lots W (HXK.out.trans hx) k hlt)
        have HD1:=Lib.hid (fun W (hx:Ex wr W)=>HRV.out.band W (HXK.out.trans hx) k hlt)
        have HD2:=Lib.hid (fun W (hx:Ex wr W)=>HRW.out.band W (HXK.out.trans hx) k hlt)
        have hl3:=hlen3.out k hlt
        have hnb:=neBand_self (rv.f.ref k) (rv.f.left k)
        clear HRV HRW HKE HAL HCK hlen3 HV1
        generalize rv.f.b k=B at *
        generalize rv.f.ref k=br at *
        generalize rv.f.left k=bl at *
        generalize fa.bp k=p1 at *
        generalize fa2.bp k=p2 at *
        go_upto_region 37 with (first
         | ((with_reducible go_at_call 21;with_reducible refine (HF1.out _ ?_).mono ?_);(focus ((repeat (first|(with_reducible exact Ex.refl _)|(with_reducible refine Ex.alloc ?_ _)|(with_reducible refine Ex.ext ?_ _ _)|(with_reducible refine Ex.drew ?_)|(with_reducible refine Ex.drewN ?_ _)));done));rintro e w30 ⟨rfl,l30,d30,rfl⟩)
         | ((with_reducible go_at_call 21;with_reducible refine (HF2'.out _ ?_).mono ?_);(focus ((repeat (first|(with_reducible exact Ex.refl _)|(with_reducible refine Ex.alloc ?_ _)|(with_reducible refine Ex.ext ?_ _ _)|(with_reducible refine Ex.drew ?_)|(with_reducible refine Ex.drewN ?_ _)));done));rintro e w31 ⟨rfl,l31,d31,rfl⟩)
         | ((with_reducible go_at_call 22;with_reducible refine (HK1.out _ ?_).mono ?_);(focus ((repeat (first|(with_reducible exact Ex.refl _)|(with_reducible refine Ex.alloc ?_ _)|(with_reducible refine Ex.ext ?_ _ _)|(with_reducible refine Ex.drew ?_)|(with_reducible refine Ex.drewN ?_ _)));done));rintro e w32 ⟨rfl,l32,d32,rfl⟩)
         | ((with_reducible go_at_call 22;with_reducible refine (HK2.out _ ?_).mono ?_);(focus ((repeat (first|(with_reducible exact Ex.refl _)|(with_reducible refine Ex.alloc ?_ _)|(with_reducible refine Ex.ext ?_ _ _)|(with_reducible refine Ex.drew ?_)|(with_reducible refine Ex.drewN ?_ _)));done));rintro e w33 ⟨rfl,l33,d33,rfl⟩))
        clear HK1 HK2
        go_wp2_with (first
         | ((with_reducible go_at_call 24;with_reducible refine (HT1.out _ ?_).mono ?_);(focus ((repeat (first|(with_reducible exact Ex.refl _)|(with_reducible refine Ex.alloc ?_ _)|(with_reducible refine Ex.ext ?_ _ _)|(with_reducible refine Ex.drew ?_)|(with_reducible refine Ex.drewN ?_ _)));done));rintro e w34 ⟨⟨ao34,cap34,rfl,hA34⟩,hx34⟩;have HA34:=Lib.hid hA34;have HX34:=Lib.hid ((show Ex wr _ from (by repeat (first|exact Ex.refl _|refine Ex.alloc ?_ _|refine Ex.ext ?_ _ _|refine Ex.drew ?_|refine Ex.drewN ?_ _))).trans hx34);clear hA34 hx34)
         | ((with_reducible go_at_call 24;with_reducible refine (HT2.out _ ?_).mono ?_);(focus exact HX34.out.trans (by repeat (first|exact Ex.refl _|refine Ex.alloc ?_ _|refine Ex.ext ?_ _ _|refine Ex.drew ?_|refine Ex.drewN ?_ _)));rintro e w35 ⟨⟨ao35,cap35,rfl,hA35⟩,hx35⟩;have HA35:=Lib.hid hA35;have HX35:=Lib.hid ((show Ex w34 _ from (by repeat (first|exact Ex.refl _|refine Ex.alloc ?_ _|refine Ex.ext ?_ _ _|refine Ex.drew ?_|refine Ex.drewN ?_ _))).trans hx35);clear hA35 hx35)
         | (go_at_call 23;refine (sameLotsOf ao34 ao35 cap34 cap35 B _ (HA34.out.ex (HX35.out.trans (by repeat (first|exact Ex.refl _|refine Ex.alloc ?_ _|refine Ex.ext ?_ _ _|refine Ex.drew ?_|refine Ex.drewN ?_ _)))) (HA35.out.ex (by repeat (first|exact Ex.refl _|refine Ex.alloc ?_ _|refine Ex.ext ?_ _ _|refine Ex.drew ?_|refine Ex.drewN ?_ _))) hl3).mono ?_;rintro e w36 ⟨rfl,l36,d36,rfl⟩)
         | ((with_reducible go_at_call 21;with_reducible refine (HF1.out _ ?_).mono ?_);(focus exact (HX34.out.trans HX35.out).trans (by repeat (first|exact Ex.refl _|refine Ex.alloc ?_ _|refine Ex.ext ?_ _ _|refine Ex.drew ?_|refine Ex.drewN ?_ _)));rintro e w30 ⟨rfl,l30,d30,rfl⟩)
         | ((with_reducible go_at_call 21;with_reducible refine (HF2'.out _ ?_).mono ?_);(focus exact (HX34.out.trans HX35.out).trans (by repeat (first|exact Ex.refl _|refine Ex.alloc ?_ _|refine Ex.ext ?_ _ _|refine Ex.drew ?_|refine Ex.drewN ?_ _)));rintro e w31 ⟨rfl,l31,d31,rfl⟩)
         | ((with_reducible go_at_call 25;with_reducible refine (HD1.out _ ?_).mono ?_);(focus exact (HX34.out.trans HX35.out).trans (by repeat (first|exact Ex.refl _|refine Ex.alloc ?_ _|refine Ex.ext ?_ _ _|refine Ex.drew ?_|refine Ex.drewN ?_ _)));rintro e w37 ⟨rfl,l37,d37,rfl⟩)
         | ((with_reducible go_at_call 25;with_reducible refine (HD2.out _ ?_).mono ?_);(focus exact (HX34.out.trans HX35.out).trans (by repeat (first|exact Ex.refl _|refine Ex.alloc ?_ _|refine Ex.ext ?_ _ _|refine Ex.drew ?_|refine Ex.drewN ?_ _)));rintro e w38 ⟨rfl,l38,d38,rfl⟩))
        go_roundw
        case measure=>simp [intOf];omega
        case rel=>exact ⟨k+1,by omega,by go_num,((HXK.out.trans HX34.out).trans HX35.out).trans (by repeat (first|exact Ex.refl _|refine Ex.alloc ?_ _|refine Ex.ext ?_ _ _|refine Ex.drew ?_|refine Ex.drewN ?_ _))⟩
       ·have hx3:=HXK.out
        clear hlen3 HV1
        go_wp2_with fail
        go_loopw [26] (fun i wr=>∃ j:Nat,j≤6∧i=.int .i64 (j:Int)∧Ex w14 wr) (fun i _=>6 - (intOf i).toNat)
        case atStart=>exact ⟨0,Nat.zero_le _,rfl,hx3.trans (by repeat (first|exact Ex.refl _|refine Ex.alloc ?_ _|refine Ex.ext ?_ _ _|refine Ex.drew ?_|refine Ex.drewN ?_ _))⟩
        case round =>
         obtain ⟨j,hj,rfl,hxj⟩:=hrel
         have HXJ:=Lib.hid hxj
         clear hxj hx3 HXK
         by_cases hlj:j<6
         ·have HS1:=Lib.hid (fun W (hx:Ex wr W)=>HRV.out.sess W (HXJ.out.trans hx) j hlj)
          have HS2:=Lib.hid (fun W (hx:Ex wr W)=>HRW.out.sess W (HXJ.out.trans hx) j hlj)
          have HW1:=Lib.hid (fun W (hx:Ex wr W)=>HRV.out.wait W (HXJ.out.trans hx) j hlj)
          have HW2:=Lib.hid (fun W (hx:Ex wr W)=>HRW.out.wait W (HXJ.out.trans hx) j hlj)
          have ck:=HCK.out wr HXJ.out j hlj
          have htb:=lt_of_cell ck
          have ji:(j:Int)<6:=by omega
          have ji0:(0:Int)≤(j:Int):=by omega
          have hfs:=fieldSess1
          have HOT:Hid (j≠c→rv.cl j=v1.cl j):=Lib.hid (HKE.out.2.2.2.2.1 j)
          clear HRV HRW HKE HAL HCK
          generalize (rv.q j).length=qn at *
          by_cases hjc:j=c
          ·clear HOT
           subst hjc
           have hns:=neSess_self (rv.cl j).s.on (rv.cl j).s.next (rv.cl j).s.last
           simp only [Sess.val] at HS1 HS2
           generalize (rv.cl j).s.on=s0 at *
           generalize (rv.cl j).s.next=s1 at *
           generalize (rv.cl j).s.last=s2 at *
           go_upto_region 42 with fail
           refine wp_region_ex (by kernel_rfl) (by kernel_rfl) ?_
           repeat (first
            | go_big_quiet_skip
            | (go_big_quiet_want;go_big_quiet_op;(first
             | go_big_quiet_on
             | (apply Exists.intro;refine ⟨fun _=>?_,?_⟩;(focus (first
               | (with_reducible exact Calls.class_of HS1.out)
               | (with_reducible exact Calls.class_of HS2.out)
               | (with_reducible exact Calls.class_of HW1.out)
               | (with_reducible exact Calls.class_of HW2.out)));go_big_quiet_on))))
           refine wpQuiet_nil ?_
           rintro _ ⟨lz,dz,rfl⟩
           all_goals go_wp2_with fail
           all_goals
            go_roundw
            case measure=>simp [intOf];omega
            case rel=>exact ⟨j+1,by omega,by go_num,HXJ.out.trans (by repeat (first|exact Ex.refl _|refine Ex.alloc ?_ _|refine Ex.ext ?_ _ _|refine Ex.drew ?_|refine Ex.drewN ?_ _))⟩
          ·have hn:¬ (j:Int)=(c:Int):=by omega
           rw [HOT.out hjc] at HS1 HS2
           have hns:=neSess_self (v1.cl j).s.on (v1.cl j).s.next (v1.cl j).s.last
           simp only [Sess.val] at HS1 HS2
           clear HOT hjc
           generalize (c:Int)=cz at *
           have hne1:((j:Int)==cz)=false:=by simpa using hn
           have hne2:((j:Int) != cz)=true:=by simpa using hn
           generalize (v1.cl j).s.on=s0 at *
           generalize (v1.cl j).s.next=s1 at *
           generalize (v1.cl j).s.last=s2 at *
           go_upto_region 42 with fail
           refine wp_region_ex (by kernel_rfl) (by kernel_rfl) ?_
           repeat (first
            | go_big_quiet_skip
            | (go_big_quiet_want;go_big_quiet_op;(first
             | go_big_quiet_on
             | (apply Exists.intro;refine ⟨fun _=>?_,?_⟩;(focus (first
               | (with_reducible exact Calls.class_of HS1.out)
               | (with_reducible exact Calls.class_of HS2.out)
               | (with_reducible exact Calls.class_of HW1.out)
               | (with_reducible exact Calls.class_of HW2.out)));go_big_quiet_on))))
           refine wpQuiet_nil ?_
           rintro _ ⟨lz,dz,rfl⟩
           all_goals go_wp2_with fail
           all_goals
            go_roundw
            case measure=>simp [intOf];omega
            case rel=>exact ⟨j+1,by omega,by go_num,HXJ.out.trans (by repeat (first|exact Ex.refl _|refine Ex.alloc ?_ _|refine Ex.ext ?_ _ _|refine Ex.drew ?_|refine Ex.drewN ?_ _))⟩
         ·obtain rfl:j=6:=by omega
          have hx6:=HXJ.out
          have HRC:Hid (∀ r∈AL,r.client=(c:Int)):=Lib.hid HKE.out.2.2.2.2.2
          obtain ⟨ac,cap9,rfl,hcap9,hm9⟩:=rrow_slice (HAL.out w14 (Ex.refl _))
          have hmx:AL.length≤9223372036854775807:=by unfold maxLen at hm9;omega
          have HT1:=Lib.hid HRV.out.tape
          have HT2:=Lib.hid HRW.out.tape
          have HY1:=Lib.hid HRV.out.bytes
          have HY2:=Lib.hid HRW.out.bytes
          clear HCK HKE HRV HRW
          go_wp2_with fail
          go_loopw [27] (fun i wr=>∃ k:Nat,k≤AL.length∧i=.int .i64 (k:Int)∧Ex w14 wr) (fun i _=>AL.length - (intOf i).toNat)
          case atStart=>exact ⟨0,Nat.zero_le _,rfl,hx6.trans (by repeat (first|exact Ex.refl _|refine Ex.alloc ?_ _|refine Ex.ext ?_ _ _|refine Ex.drew ?_|refine Ex.drewN ?_ _))⟩
          case round =>
           obtain ⟨k,hk,rfl,hxk⟩:=hrel
           have HXK:=Lib.hid hxk
           clear hxk hx6 HXJ
           by_cases hlk:k<AL.length
           ·obtain ⟨g,off,cap4,hu4,_,hg,hcell⟩:=rrow_cells (HAL.out wr HXK.out) hlk
            have hao:ac=some ⟨g,off,none⟩:=by injection hu4
            subst hao
            have a0:=hcell 0 (by decide)
            simp only [Rep.cells,Nat.add_zero,List.getElem?_cons_zero] at a0
            rw [HRC.out AL[k] (List.getElem_mem hlk)] at a0
            have ki:(k:Int)<(AL.length:Int):=by omega
            clear hcell hu4 HAL HT1 HT2 HY1 HY2
            go_wp2_with fail
            all_goals
             go_roundw
             case measure=>simp [intOf];omega
             case rel=>exact ⟨k+1,by omega,by go_num,HXK.out.trans (by repeat (first|exact Ex.refl _|refine Ex.alloc ?_ _|refine Ex.ext ?_ _ _|refine Ex.drew ?_|refine Ex.drewN ?_ _))⟩
           ·obtain rfl:k=AL.length:=by omega
            have hxe:=Lib.hid (hx14.out.trans HXK.out)
            have HT1':=Lib.hid (fun W (hx:Ex wr W)=>HT1.out W (HXK.out.trans hx))
            have HT2':=Lib.hid (fun W (hx:Ex wr W)=>HT2.out W (HXK.out.trans hx))
            have HY1':=Lib.hid (fun W (hx:Ex wr W)=>HY1.out W (HXK.out.trans hx))
            have HY2':=Lib.hid (fun W (hx:Ex wr W)=>HY2.out W (HXK.out.trans hx))
            clear HAL HRC HXK HT1 HT2 HY1 HY2
            generalize rv.d.b=B at *
            go_wp2_with (first
             | ((with_reducible go_at_call 28;with_reducible refine (HT1'.out _ ?_).mono ?_);(focus ((repeat (first|(with_reducible exact Ex.refl _)|(with_reducible refine Ex.alloc ?_ _)|(with_reducible refine Ex.ext ?_ _ _)|(with_reducible refine Ex.drew ?_)|(with_reducible refine Ex.drewN ?_ _)));done));rintro e w50 ⟨rfl,l50,d50,rfl⟩)
             | ((with_reducible go_at_call 28;with_reducible refine (HT2'.out _ ?_).mono ?_);(focus ((repeat (first|(with_reducible exact Ex.refl _)|(with_reducible refine Ex.alloc ?_ _)|(with_reducible refine Ex.ext ?_ _ _)|(with_reducible refine Ex.drew ?_)|(with_reducible refine Ex.drewN ?_ _)));done));rintro e w51 ⟨rfl,l51,d51,rfl⟩)
             | ((with_reducible go_at_call 29;with_reducible refine (HY1'.out _ ?_).mono ?_);(focus ((repeat (first|(with_reducible exact Ex.refl _)|(with_reducible refine Ex.alloc ?_ _)|(with_reducible refine Ex.ext ?_ _ _)|(with_reducible refine Ex.drew ?_)|(with_reducible refine Ex.drewN ?_ _)));done));rintro e w52 ⟨rfl,l52,d52,rfl⟩)
             | ((with_reducible go_at_call 29;with_reducible refine (HY2'.out _ ?_).mono ?_);(focus ((repeat (first|(with_reducible exact Ex.refl _)|(with_reducible refine Ex.alloc ?_ _)|(with_reducible refine Ex.ext ?_ _ _)|(with_reducible refine Ex.drew ?_)|(with_reducible refine Ex.drewN ?_ _)));done));rintro e w53 ⟨rfl,l53,d53,rfl⟩)
             | (go_at_call 27;(have h1:=(strs_new (w:=wr) (l50++l52) d52 (n:=wr.heap.size+(l50.length+l52.length)) (by rw [List.length_append]) B 9).ex (show Ex _ (((ext ((ext wr (l50++l52) d52).alloc (.cells #[.string ⟨B.toArray⟩] 9)) (l51++l53) d53).alloc (.cells #[.string ⟨B.toArray⟩] 9))) from (by repeat (first|exact Ex.refl _|refine Ex.alloc ?_ _|refine Ex.ext ?_ _ _|refine Ex.drew ?_|refine Ex.drewN ?_ _)));have h2:=strs_new (w:=(ext wr (l50++l52) d52).alloc (.cells #[.string ⟨B.toArray⟩] 9)) (l51++l53) d53 (n:=wr.heap.size+(l50.length+l52.length)+1+(l51.length+l53.length)) (by rw [alloc_size,ext_size,List.length_append,List.length_append]) B 9;refine (sameTexts_same _ _ 1 1 [B] _ h1 h2 (by simp)).mono ?_;rintro e w54 ⟨rfl,l54,d54,rfl⟩)))
            all_goals go_ret
            all_goals exact ⟨rfl,hxe.out.trans (by repeat (first|exact Ex.refl _|refine Ex.alloc ?_ _|refine Ex.ext ?_ _ _|refine Ex.drew ?_|refine Ex.drewN ?_ _))⟩
 ·go_ret
  exact ⟨rfl,(by repeat (first|exact Ex.refl _|refine Ex.alloc ?_ _|refine Ex.ext ?_ _ _|refine Ex.drew ?_|refine Ex.drewN ?_ _))⟩
end
end Go.Proofs.YtabbgpjofkaomaaGreatDoor
