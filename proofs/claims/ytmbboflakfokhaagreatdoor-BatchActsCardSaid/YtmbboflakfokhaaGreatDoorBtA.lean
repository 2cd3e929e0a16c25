import Derived.Test.YtmbboflakfokhaaGreatDoorJ46
/- The walk of BatchActs. -/
set_option linter.unusedSimpArgs false
set_option linter.unusedVariables false
namespace Go.Proofs.YtmbboflakfokhaaGreatDoor
open Go.RowKit
set_option maxRecDepth 100000 in
set_option maxHeartbeats 16000000 in
theorem batchActs_in (c0 c1 c2 c3 c4:Int) (ao:Option Addr) (len cap:Nat) (l:List Do) (E:Nat→Addr) (w:World) (hR:CodeReady E w) (hA:DosAt w ao len l) (hlen:len≤60) :
    Calls Tryz.prog 3 #[.agg #[.int .i64 c0,.int .i64 c1,.int .i64 c2,.int .i64 c3,.int .i64 c4],.slice ao len cap] w fun e w'=>e=.returned (.bool true)∧Ex w w':=by
  obtain ⟨hL,_,hwf,hz⟩:=hA
  have HZ:=Lib.hid hz
  have HL:=Lib.hid hL
  have HWF:=Lib.hid hwf
  have HR:=Lib.hid hR
  have HFL:=Lib.hid (fun w hE=>floored_any E w hE)
  have hb1:decide ((60:Int)<(len:Int))=false:=decide_eq_false (by omega)
  clear hz hL hwf hR
  go_enter Tryz.func3,Tryz.ntmps3
  go_wp2_with (go_at_call 4;refine (HFL.out _ ((HR.out.ex (by repeat (first|exact Ex.refl _|refine Ex.alloc ?_ _|refine Ex.ext ?_ _ _|refine Ex.drew ?_|refine Ex.drewN ?_ _))).1.sub (by decide))).mono ?_;rintro e wf ⟨rfl,lf,df,rfl⟩)
  have HXB:=Lib.hid (show Ex w (ext (w.alloc (.cells #[.int .i64 c0,.int .i64 c1,.int .i64 c2,.int .i64 c3,.int .i64 c4] 22)) lf df) from (by repeat (first|exact Ex.refl _|refine Ex.alloc ?_ _|refine Ex.ext ?_ _ _|refine Ex.drew ?_|refine Ex.drewN ?_ _)))
  have HBX:=Lib.hid (show Blk (ext (w.alloc (.cells #[.int .i64 c0,.int .i64 c1,.int .i64 c2,.int .i64 c3,.int .i64 c4] 22)) lf df) w.heap.size #[.int .i64 c0,.int .i64 c1,.int .i64 c2,.int .i64 c3,.int .i64 c4] 22 from (by repeat (first|exact Blk.new (by first|omega|(simp [go_sem];done)|(simp [go_sem];omega))|(with_reducible exact Blk.new rfl)|(with_reducible refine Blk.drew ?_)|(with_reducible refine Blk.drewN ?_ _)|(with_reducible refine Blk.ext ?_ _ _)|(with_reducible refine Blk.alloc ?_ _))))
  have hzB:=HXB.out.below.size
  generalize ext (w.alloc (.cells #[.int .i64 c0,.int .i64 c1,.int .i64 c2,.int .i64 c3,.int .i64 c4] 22)) lf df=wB at *
  generalize hbxe:w.heap.size=bx at HBX ⊢
  have HRB:=Lib.hid (HR.out.ex HXB.out)
  have HC:=Lib.hid (fun c W hr h=>coded_same c E W hr h)
  by_cases hbad:floorBad c0 c1 c2 c3 c4
  · have HM:=Lib.hid (fun W=>mfloor_bad c0 c1 c2 c3 c4 W hbad)
    refine (fnew_bad c0 c1 c2 c3 c4 E _ (HRB.out.1.sub (by decide)) hbad).mono ?_
    rintro e w1 ⟨rfl,hx1⟩
    have HX1:=Lib.hid hx1
    have hb:=HBX.out.ex hx1
    have hbxz:bx<w1.heap.size:=hb.lt
    have g0:w1.cell? ⟨bx,0,none⟩=some (.int .i64 c0):=hb.cell 0
    have g1:w1.cell? ⟨bx,1,none⟩=some (.int .i64 c1):=hb.cell 1
    have g2:w1.cell? ⟨bx,2,none⟩=some (.int .i64 c2):=hb.cell 2
    have g3:w1.cell? ⟨bx,3,none⟩=some (.int .i64 c3):=hb.cell 3
    have g4:w1.cell? ⟨bx,4,none⟩=some (.int .i64 c4):=hb.cell 4
    clear hx1 hb hbad
    go_wp2_with (first
      | (go_at_call 6;refine (HM.out _).mono ?_;rintro e w2 ⟨rfl,l2,d2,rfl⟩)
      | (go_at_call 7;refine (HC.out 2 _ (HRB.out.ex (HX1.out.trans (by repeat (first|exact Ex.refl _|refine Ex.alloc ?_ _|refine Ex.ext ?_ _ _|refine Ex.drew ?_|refine Ex.drewN ?_ _)))) (by decide)).mono ?_;rintro e w3 ⟨rfl,l3,d3,rfl⟩))
    all_goals go_ret
    all_goals exact ⟨rfl,HXB.out.trans (HX1.out.trans (by repeat (first|exact Ex.refl _|refine Ex.alloc ?_ _|refine Ex.ext ?_ _ _|refine Ex.drew ?_|refine Ex.drewN ?_ _)))⟩
  · have HM:=Lib.hid (fun W=>mfloor_ok c0 c1 c2 c3 c4 W hbad)
    unfold floorBad at hbad
    have hbd:(0≤c0∧c0≤100)∧(1≤c1∧c1≤1000)∧(1≤c2∧c2≤1000)∧(0≤c3∧c3≤1073741824)∧0≤c4∧c4≤100000:=by omega
    obtain ⟨⟨u1,u2⟩,⟨u3,u4⟩,⟨u5,u6⟩,⟨u7,u8⟩,u9,u10⟩:=hbd
    clear hbad
    refine (fnew_ok (own:=fun _=>8) (c:=0) c0 c1 c2 c3 c4 (E:=E) (HRB.out.1.sub (by decide)) (fun n _=>by decide) u1 u2 u3 u4 u5 u6 u7 u8 u9 u10).mono ?_
    rintro e w1 ⟨A,o,rfl,hF,hwd,hhl,ho,hx1⟩
    have HX1:=Lib.hid (bt_start hx1 hF ho)
    have HE1:=Lib.hid hx1
    have HWD:=Lib.hid hwd
    have HHL:=Lib.hid hhl
    have HO:Hid (FOk (newSt c2 c3 c4)):=Lib.hid (FOk.new u5 u6 u7 u8 u9 u10)
    have hb:=HBX.out.ex hx1
    have hbxz:bx<w1.heap.size:=hb.lt
    have g0:w1.cell? ⟨bx,0,none⟩=some (.int .i64 c0):=hb.cell 0
    have g1:w1.cell? ⟨bx,1,none⟩=some (.int .i64 c1):=hb.cell 1
    have g2:w1.cell? ⟨bx,2,none⟩=some (.int .i64 c2):=hb.cell 2
    have g3:w1.cell? ⟨bx,3,none⟩=some (.int .i64 c3):=hb.cell 3
    have g4:w1.cell? ⟨bx,4,none⟩=some (.int .i64 c4):=hb.cell 4
    clear hx1 hb hF ho hwd hhl
    go_wp2_with (go_at_call 6;refine (HM.out _).mono ?_;rintro e w2 ⟨rfl,l2,d2,rfl⟩)
    refine (mnew_any _ c0 c1 c2 c3 c4 u7 u8 u9 u10).mono ?_
    rintro e w3 ⟨B,rfl,hbw,hbh,hlv⟩
    have HX3:=Lib.hid (bt_more (HX1.out.later (by repeat (first|exact Ex.refl _|refine Ex.alloc ?_ _|refine Ex.ext ?_ _ _|refine Ex.drew ?_|refine Ex.drewN ?_ _))) hlv)
    have HBW:=Lib.hid (hbw.trans HWD.out.symm)
    have HBH:=Lib.hid (hbh.trans HHL.out.symm)
    have HUU:Hid ((0≤B.wd∧B.wd≤100)∧1≤B.hl∧B.hl≤1000):=Lib.hid (by rw [hbw,hbh];exact ⟨⟨u1,u2⟩,u3,u4⟩)
    have hhl2:1≤A.hl∧A.hl≤1000:=by rw [HHL.out];exact ⟨u3,u4⟩
    have HH2:=Lib.hid hhl2
    clear hlv hbw hbh g0 g1 g2 g3 g4 HX1 HM HBX u1 u2 u3 u4 u5 u6 u7 u8 u9 u10 hhl2 HFL HE1 HWD HHL hbxe
    go_wp2_with fail
    go_loopw [10,11] (fun r i wr=>∃ (n q:Nat) (st:FSt),n≤len∧q≤n∧i=.int .i64 (n:Int)∧r=.int .i64 (q:Int)∧FOk st∧Sep NoF wB [flTh A st,mTh B st] wr) (fun _ i _=>len - (intOf i).toNat)
    case atStart=>exact ⟨0,0,_,by omega,by omega,rfl,rfl,HO.out,HX3.out.later (by repeat (first|exact Ex.refl _|refine Ex.alloc ?_ _|refine Ex.ext ?_ _ _|refine Ex.drew ?_|refine Ex.drewN ?_ _))⟩
    case round =>
      obtain ⟨n,q,st,hn,hq,rfl,rfl,hO,hX⟩:=hrel
      have hxw:Ex w wr:=HXB.out.trans hX.ex
      have HXW:=Lib.hid hxw
      have HO2:=Lib.hid hO
      have HX2:=Lib.hid hX
      clear hO hX hxw HX3 HO
      by_cases hlt:n<len
      · obtain ⟨b,off,rfl,hbs,hzz⟩:=HZ.out (by omega)
        have hzk:=hzz n (by rw [HL.out];exact hlt)
        have hwa:=HWF.out _ (List.getElem_mem (by rw [HL.out];exact hlt:n<l.length))
        clear hzz
        have hcx:∀ j,j<12→wr.cell? ⟨b,off+n*12+j,none⟩=(l[n]'(by rw [HL.out];exact hlt)).cells[j]?:=fun j hj=>(HXW.out.below.cell (p:=⟨b,off+n*12+j,none⟩) hbs).trans (hzk j hj)
        clear hzk
        generalize l[n]'(by rw [HL.out];exact hlt)=a at hcx hwa
        have a0:=hcx 0 (by omega)
        simp only [Do.cells,List.getElem?_cons_zero,Nat.add_zero] at a0
        have hrange:wr.rangeAt b (off+n*12) a.cells:=fun j v hj=>(hcx j (by have:=(List.getElem?_eq_some_iff.1 hj).1;simpa [Do.cells] using this)).trans hj
        have HRG:=Lib.hid hrange
        have hu:U32 a.seed:=by have:=hwa.2.2.2.2;unfold U32;omega
        have hbr:b<wr.heap.size:=lt_of_cell a0
        clear hcx hrange hwa
        go_upto_region 16 with (first
          | (refine wpList_load_mid rfl 40 (.tmp 89) rfl b (off+n*12) rfl a.cells _ HRG.out Tryz.underlying40 rfl sizeDo ?_)
          | (with_reducible refine wpList_alloc_row rfl 40 rfl _ _ zeroDo rfl ?_)
          | (refine wpList_store_fresh rfl 40 (.tmp 12) (.tmp 90) rfl (#[.string ByteArray.empty,.int .u8 0,.int .i64 0,.int .i64 0,.int .i64 0,.int .i64 0,.int .i64 0,.int .i64 0,.int .i64 0,.int .i64 0,.int .i64 0,.int .u32 0]) (doA a) 40 rfl rfl sizeDo rfl (by simp [doA,Value.oneCell']) ?_))
        refine wp_world (R:=fun W=>BtR wB A B st st wr.heap.size a [] W) (HX2.out.newBlk (t:=40) (vs:=doA a) ((Ex.refl _).alloc _) (Blk.new rfl) (Nat.le_refl _)) ?_
        generalize wr.heap.size=db at *
        rintro W hXD
        have HXD:=Lib.hid hXD
        have hdz:=hXD.box.lt
        obtain ⟨d1,d2,d3,d4,d5,d6,d7,d8⟩:=doA_ask hXD.box
        obtain ⟨d0,d9,d10,d11⟩:=doA_rest hXD.box
        clear hXD HX2 HRG hbr a0 hbs
        by_cases hp:(a.kind.toList==[112,108,97,99,101])=true
        · as_aux_lemma =>
          have HPL:=Lib.hid (fun W (X:BtR wB A B st st db a [] W)=>X.place (HRB.out.1.sub (by decide)) a.a)
          have HPM:=Lib.hid (fun W (X:BtR wB A B (fplaceS st a.a) st db a [] W)=>X.mplace a.a)
          have hle:=fplace_le st a.a
          have HOP:=Lib.hid (HO2.out.fplace a.a)
          generalize fplaceE st a.a=en at *
          generalize fplaceS st a.a=st2 at *
          go_upto_region 28 with fail
          go_region_held3 (fun W=>W.cell? ⟨db,1,none⟩=some (.int .u8 a.a.kind)∧W.cell? ⟨db,2,none⟩=some (.int .i64 a.a.client)∧W.cell? ⟨db,3,none⟩=some (.int .i64 a.a.seq)∧W.cell? ⟨db,4,none⟩=some (.int .i64 a.a.item)∧W.cell? ⟨db,5,none⟩=some (.int .i64 a.a.side)∧W.cell? ⟨db,6,none⟩=some (.int .i64 a.a.price)∧W.cell? ⟨db,7,none⟩=some (.int .i64 a.a.qty)∧W.cell? ⟨db,8,none⟩=some (.int .i64 a.a.id))
            ((first|exact doA_ask (HX5.out.later (by with_reducible repeat (first|exact Ex.refl _|refine Ex.alloc ?_ _|refine Ex.ext ?_ _ _|refine Ex.drew ?_|refine Ex.drewN ?_ _))).box|exact doA_ask (HX4.out.later (by with_reducible repeat (first|exact Ex.refl _|refine Ex.alloc ?_ _|refine Ex.ext ?_ _ _|refine Ex.drew ?_|refine Ex.drewN ?_ _))).box|exact doA_ask (HXD.out.later (by with_reducible repeat (first|exact Ex.refl _|refine Ex.alloc ?_ _|refine Ex.ext ?_ _ _|refine Ex.drew ?_|refine Ex.drewN ?_ _))).box))
            ((first
              | (go_at_call 9;(with_reducible refine (HPL.out _ ?_).mono ?_);(focus exact HXD.out.later (by with_reducible repeat (first|exact Ex.refl _|refine Ex.alloc ?_ _|refine Ex.ext ?_ _ _|refine Ex.drew ?_|refine Ex.drewN ?_ _)));rintro e w4 ⟨rfl,hX4⟩;have HX4:=Lib.hid hX4;clear hX4)
              | (go_at_call 10;(with_reducible refine (HPM.out _ ?_).mono ?_);(focus exact HX4.out.later (by with_reducible repeat (first|exact Ex.refl _|refine Ex.alloc ?_ _|refine Ex.ext ?_ _ _|refine Ex.drew ?_|refine Ex.drewN ?_ _)));rintro e w5 ⟨rfl,hX5⟩;have HX5:=Lib.hid hX5;clear hX5)
              | (go_at_call 7;(with_reducible refine (HC.out _ _ ?_ hle).mono ?_);(focus exact Sep.ready (HX5.out.later (by with_reducible repeat (first|exact Ex.refl _|refine Ex.alloc ?_ _|refine Ex.ext ?_ _ _|refine Ex.drew ?_|refine Ex.drewN ?_ _))) HRB.out);rintro e w6 ⟨rfl,l6,d6,rfl⟩)))
          all_goals go_wp2_with fail
          all_goals
            go_roundw
            case measure=>simp [intOf];omega
            case rel=>exact ⟨n+1,q,st2,by omega,by omega,by go_num,rfl,HOP.out,(HX5.out.later (by with_reducible repeat (first|exact Ex.refl _|refine Ex.alloc ?_ _|refine Ex.ext ?_ _ _|refine Ex.drew ?_|refine Ex.drewN ?_ _))).two⟩
        · by_cases hc:(a.kind.toList==[99,97,110,99,101,108])=true
          · as_aux_lemma =>
            have HPL:=Lib.hid (HXD.out.cancel (HRB.out.1.sub (by decide)) HO2.out a.a)
            have hle:=fcancel_le st a.a
            have HOP:=Lib.hid (HO2.out.fcancel a.a)
            have HPM:=Lib.hid (fun M W (X:BtR wB A B (fcancelR st a.a).2.2 st db a M W)=>X.mcancel HO2.out a.a)
            generalize fcancelR st a.a=r at *
            obtain ⟨⟨xi,xo,xs,xp,xq⟩,en,st2⟩:=r
            simp only at HPL hle HOP HPM
            have ez:=fun w=>neLot_self ⟨xi,xo,xs,xp,xq⟩ w
            simp only at ez
            go_wp2_with fail
            refine HPL.out.mono ?_
            rintro e w4 ⟨rfl,hX4⟩
            have HX4:=Lib.hid (BtR.newBlk (t:=44) (b:=w4.heap.size) (vs:=lotA ⟨xi,xo,xs,xp,xq⟩) hX4 ((Ex.refl w4).alloc (.cells (lotA ⟨xi,xo,xs,xp,xq⟩) 44)) (Blk.new rfl) (Nat.le_refl _))
            clear hX4 HPL d0 d1 d2 d3 d4 d5 d6 d7 d8 d9 d10 d11
            go_upto_region 32 with fail
            refine wp_world (R:=fun W=>BtR wB A B st2 st db a [blkTh w4.heap.size (lotA ⟨xi,xo,xs,xp,xq⟩) 44] W) HX4.out ?_
            clear HX4
            generalize w4.heap.size=lb at *
            rintro W5 hX5
            have HX5:=Lib.hid hX5
            obtain ⟨d1,d2,d3,d4,d5,d6,d7,d8⟩:=doA_ask hX5.box
            have hdz5:=hX5.box.lt
            clear hX5
            go_wp2_with fail
            refine (HPM.out _ _ HX5.out).mono ?_
            rintro e w6 ⟨rfl,hX6⟩
            have HX6:=Lib.hid hX6
            have hb6:Blk w6 lb (lotA ⟨xi,xo,xs,xp,xq⟩) 44:=Sep.blkAt hX6 3 rfl
            obtain ⟨x0,x1,x2,x3,x4⟩:=hb6.lot
            have hlz6:=hb6.lt
            simp only at x0 x1 x2 x3 x4
            clear hX6 hb6 d1 d2 d3 d4 d5 d6 d7 d8 HPM HX5 hdz5
            go_wp2_with (go_at_call 7;(with_reducible refine (HC.out _ _ ?_ hle).mono ?_);(focus exact Sep.ready (HX6.out.later (by with_reducible repeat (first|exact Ex.refl _|refine Ex.alloc ?_ _|refine Ex.ext ?_ _ _|refine Ex.drew ?_|refine Ex.drewN ?_ _))) HRB.out);rintro e w7 ⟨rfl,l7,d7,rfl⟩)
            all_goals
              go_roundw
              case measure=>simp [intOf];omega
              case rel=>exact ⟨n+1,q,st2,by omega,by omega,by go_num,rfl,HOP.out,(HX6.out.later (by with_reducible repeat (first|exact Ex.refl _|refine Ex.alloc ?_ _|refine Ex.ext ?_ _ _|refine Ex.drew ?_|refine Ex.drewN ?_ _))).two⟩
          · by_cases hd:(a.kind.toList==[100,114,111,112])=true
            · as_aux_lemma =>
              have HPL:=Lib.hid (fun W (X:BtR wB A B st st db a [] W)=>X.drop (HRB.out.1.sub (by decide)) HO2.out a.client)
              have HPM:=Lib.hid (fun M W (X:BtR wB A B (fdropR st a.client).2 st db a M W)=>X.mdrop HO2.out a.client)
              have HOP:=Lib.hid (HO2.out.fdrop a.client)
              have HAL:=Lib.hid (dropR_lots HO2.out a.client)
              have h180:=(dropR_ok HO2.out a.client 3 (Nat.le_refl _)).2
              have h180':(fdropR st a.client).1.length≤1000:=by
                have e:(fdropR st a.client).1.length≤60*3:=h180
                omega
              clear h180
              generalize fdropR st a.client=r at *
              obtain ⟨dl,st2⟩:=r
              simp only at HPL HOP HPM HAL h180'
              have hdl:dl.length≤1000:=h180'
              clear h180'
              go_upto_region 36 with fail
              go_region_held3 (fun W=>W.cell? ⟨db,9,none⟩=some (.int .i64 a.client))
                ((first|exact (doA_rest (HX5.out.later (by with_reducible repeat (first|exact Ex.refl _|refine Ex.alloc ?_ _|refine Ex.ext ?_ _ _|refine Ex.drew ?_|refine Ex.drewN ?_ _))).box).2.1|exact (doA_rest (HX4.out.later (by with_reducible repeat (first|exact Ex.refl _|refine Ex.alloc ?_ _|refine Ex.ext ?_ _ _|refine Ex.drew ?_|refine Ex.drewN ?_ _))).box).2.1|exact (doA_rest (HXD.out.later (by with_reducible repeat (first|exact Ex.refl _|refine Ex.alloc ?_ _|refine Ex.ext ?_ _ _|refine Ex.drew ?_|refine Ex.drewN ?_ _))).box).2.1))
                ((first
                  | (go_at_call 14;(with_reducible refine (HPL.out _ ?_).mono ?_);(focus exact HXD.out.later (by with_reducible repeat (first|exact Ex.refl _|refine Ex.alloc ?_ _|refine Ex.ext ?_ _ _|refine Ex.drew ?_|refine Ex.drewN ?_ _)));rintro e w4 ⟨v4,rfl,hX4⟩;obtain ⟨av,cv,rfl,_⟩:=lrow_lots (Sep.rdAt hX4 3 rfl) HAL.out;have HX4:=Lib.hid hX4;clear hX4)
                  | (go_at_call 15;(with_reducible refine (HPM.out ([]++[rdTh (lrowRd dl (.slice av dl.length cv))]) _ ?_).mono ?_);(focus exact HX4.out.later (by with_reducible repeat (first|exact Ex.refl _|refine Ex.alloc ?_ _|refine Ex.ext ?_ _ _|refine Ex.drew ?_|refine Ex.drewN ?_ _)));rintro e w5 ⟨v5,rfl,hX5⟩;obtain ⟨au,cu,rfl,_⟩:=lrow_lots (Sep.rdAt hX5 4 rfl) HAL.out;have HX5:=Lib.hid hX5;clear hX5)
                  | (go_at_call 13;(refine (sameLotsOf av au cv cu dl _ (drop_lots (Sep.rdAt (HX5.out.later (by with_reducible repeat (first|exact Ex.refl _|refine Ex.alloc ?_ _|refine Ex.ext ?_ _ _|refine Ex.drew ?_|refine Ex.drewN ?_ _))) 3 rfl) HAL.out) (drop_lots (Sep.rdAt (HX5.out.later (by with_reducible repeat (first|exact Ex.refl _|refine Ex.alloc ?_ _|refine Ex.ext ?_ _ _|refine Ex.drew ?_|refine Ex.drewN ?_ _))) 4 rfl) HAL.out) hdl).mono ?_);rintro e w6 ⟨rfl,l6,d6,rfl⟩)))
              all_goals go_wp2_with fail
              all_goals
                go_roundw
                case measure=>simp [intOf];omega
                case rel=>exact ⟨n+1,q,st2,by omega,by omega,by go_num,rfl,HOP.out,(HX5.out.later (by with_reducible repeat (first|exact Ex.refl _|refine Ex.alloc ?_ _|refine Ex.ext ?_ _ _|refine Ex.drew ?_|refine Ex.drewN ?_ _))).two⟩
            · by_cases hq12:12<q+1
              · as_aux_lemma =>
                go_wp2_with fail
                all_goals go_ret
                all_goals exact ⟨rfl,HXB.out.trans (Sep.ex (HXD.out.later (by with_reducible repeat (first|exact Ex.refl _|refine Ex.alloc ?_ _|refine Ex.ext ?_ _ _|refine Ex.drew ?_|refine Ex.drewN ?_ _))))⟩
              · by_cases hi:inR a.item 0 2=true
                · as_aux_lemma =>
                  obtain ⟨i1,i2⟩:=inR_iff.1 hi
                  obtain ⟨k,hk⟩:∃ k:Nat,a.item=(k:Int):=⟨a.item.toNat,by omega⟩
                  have hk3:k<3:=by omega
                  have hr:=HXD.out.run (HRB.out.1.sub (by decide)) HO2.out hk3 a.seed hu
                  have HPM:=Lib.hid (fun M W (X:BtR wB A B (runS st k A.wd A.hl a.seed) st db a M W)=>X.mrun HO2.out HXD.out.pinv HUU.out hk3 a.seed hu)
                  rw [HBW.out,HBH.out] at HPM
                  have HOP:=Lib.hid ((run_facts (wd:=A.wd) HO2.out HXD.out.pinv hk3 HH2.out a.seed).1)
                  have hz:(runR st k A.wd A.hl a.seed).fills.length≤100000:=by
                    by_cases e:(nextN st k A.wd A.hl).2.2=true∧(bestC (st.b k) (st.ref k) 1000).vol≠0
                    · have e2:(runR st k A.wd A.hl a.seed).fills=fillsL (st.b k) (bestC (st.b k) (st.ref k) 1000).price (bestC (st.b k) (st.ref k) 1000).vol a.seed:=if_pos e
                      rw [e2]
                      exact fills_small (HO2.out.book k hk3).lots _ _ _
                    · have e2:(runR st k A.wd A.hl a.seed).fills=[]:=if_neg e
                      rw [e2];exact Nat.zero_le _
                  have HPL:=Lib.hid hr
                  rw [hk] at d10
                  have HKK:=Lib.hid hk
                  clear hr hi hk i1 i2
                  generalize runR st k A.wd A.hl a.seed=R at *
                  generalize runS st k A.wd A.hl a.seed=st2 at *
                  obtain ⟨rp,rv,ro,rf⟩:=R
                  simp only at HPL HPM hz
                  go_wp2_with fail
                  refine HPL.out.mono ?_
                  rintro e w4 ⟨⟨fo,fc⟩,rfl,hX4⟩
                  have HX4:=Lib.hid (BtR.newBlk (t:=54) (b:=w4.heap.size) (vs:=resA rp rv ro (.slice fo rf.length fc)) hX4 ((Ex.refl w4).alloc (.cells (resA rp rv ro (.slice fo rf.length fc)) 54)) (Blk.new rfl) (Nat.le_refl _))
                  clear hX4 HPL d0 d1 d2 d3 d4 d5 d6 d7 d8 d9 d10 d11
                  go_upto_region 21 with fail
                  refine wp_world (R:=fun W=>BtR wB A B st2 st db a ([fillTh fo rf]++[blkTh w4.heap.size (resA rp rv ro (.slice fo rf.length fc)) 54]) W) HX4.out ?_
                  clear HX4
                  generalize w4.heap.size=lb at *
                  rintro W5 hX5
                  have HX5:=Lib.hid hX5
                  obtain ⟨_,_,d10,d11⟩:=doA_rest hX5.box
                  rw [HKK.out] at d10
                  have hdz5:=hX5.box.lt
                  clear hX5
                  go_wp2_with fail
                  refine (HPM.out _ _ HX5.out).mono ?_
                  rintro e w6 ⟨⟨go,gc⟩,rfl,hX6⟩
                  have HX6:=Lib.hid (BtR.newBlk (t:=57) (b:=w6.heap.size) (vs:=resM rp rv ro (.slice go rf.length gc)) hX6 ((Ex.refl w6).alloc (.cells (resM rp rv ro (.slice go rf.length gc)) 57)) (Blk.new rfl) (Nat.le_refl _))
                  clear hX6 HPM HX5 hdz5 d10 d11
                  go_upto_region 25 with fail
                  refine wp_world (R:=fun W=>BtR wB A B st2 st2 db a ([fillTh fo rf,blkTh lb (resA rp rv ro (.slice fo rf.length fc)) 54,fillTh go rf]++[blkTh w6.heap.size (resM rp rv ro (.slice go rf.length gc)) 57]) W) HX6.out ?_
                  clear HX6
                  generalize w6.heap.size=mb at *
                  rintro W7 hX7
                  have HX7:=Lib.hid hX7
                  have b1:Blk W7 lb (resA rp rv ro (.slice fo rf.length fc)) 54:=Sep.blkAt hX7 4 rfl
                  have b2:Blk W7 mb (resM rp rv ro (.slice go rf.length gc)) 57:=Sep.blkAt hX7 6 rfl
                  have x0:W7.cell? ⟨lb,0,none⟩=some (.int .i64 rp):=b1.cell 0
                  have x1:W7.cell? ⟨lb,1,none⟩=some (.int .i64 rv):=b1.cell 1
                  have x2:W7.cell? ⟨lb,2,none⟩=some (.bool ro):=b1.cell 2
                  have x3:W7.cell? ⟨lb,3,none⟩=some (.slice fo rf.length fc):=b1.cell 3
                  have y0:W7.cell? ⟨mb,0,none⟩=some (.int .i64 rp):=b2.cell 0
                  have y1:W7.cell? ⟨mb,1,none⟩=some (.int .i64 rv):=b2.cell 1
                  have y2:W7.cell? ⟨mb,2,none⟩=some (.bool ro):=b2.cell 2
                  have y3:W7.cell? ⟨mb,3,none⟩=some (.slice go rf.length gc):=b2.cell 3
                  have hlz:=b1.lt
                  have hmz:=b2.lt
                  have HSF:=Lib.hid (fun W (hx:Ex W7 W)=>sameFills_any fo go fc gc rf W ((Sep.fillAt hX7 3 rfl).ex hx) ((Sep.fillAt hX7 5 rfl).ex hx) hz)
                  clear hX7 b1 b2
                  go_wp2_with (go_at_call 18;((with_reducible refine (HSF.out _ ?_).mono ?_));(focus exact (by with_reducible repeat (first|exact Ex.refl _|refine Ex.alloc ?_ _|refine Ex.ext ?_ _ _|refine Ex.drew ?_|refine Ex.drewN ?_ _)));rintro e w7 ⟨rfl,l7,d7,rfl⟩)
                  all_goals
                    go_roundw
                    case measure=>simp [intOf];omega
                    case rel=>exact ⟨n+1,q+1,st2,by omega,by omega,by go_num,by go_num,HOP.out,(HX7.out.later (by with_reducible repeat (first|exact Ex.refl _|refine Ex.alloc ?_ _|refine Ex.ext ?_ _ _|refine Ex.drew ?_|refine Ex.drewN ?_ _))).two⟩
                · as_aux_lemma =>
                  have hi2:inR a.item 0 2=false:=by simpa using hi
                  have hio:a.item<0∨3≤a.item:=by
                    by_cases e:a.item<0∨3≤a.item
                    · exact e
                    · exact absurd (inR_iff.2 (by omega)) hi
                  have HPL:=Lib.hid (fun W hE=>frun_bad (.pointer (some ⟨A.f,0,none⟩)) a.item a.seed hi2 E W hE)
                  clear hi hi2
                  rcases hio with hio|hio
                  · go_wp2_with (first
                      | (go_at_call 16;(with_reducible refine (HPL.out _ ?_).mono ?_);(focus exact (Sep.ready HXD.out HRB.out).1.sub (by decide));rintro e w4 ⟨rfl,l4,d4,rfl⟩)
                      | (go_at_call 7;(refine (HC.out 2 _ ?_ (by decide)).mono ?_);(focus exact Sep.ready (HXD.out.later (by with_reducible repeat (first|exact Ex.refl _|refine Ex.alloc ?_ _|refine Ex.ext ?_ _ _|refine Ex.drew ?_|refine Ex.drewN ?_ _))) HRB.out);rintro e w6 ⟨rfl,l6,d6,rfl⟩))
                    all_goals
                      go_roundw
                      case measure=>simp [intOf];omega
                      case rel=>exact ⟨n+1,q+1,st,by omega,by omega,by go_num,by go_num,HO2.out,(HXD.out.later (by with_reducible repeat (first|exact Ex.refl _|refine Ex.alloc ?_ _|refine Ex.ext ?_ _ _|refine Ex.drew ?_|refine Ex.drewN ?_ _))).two⟩
                  · go_wp2_with (first
                      | (go_at_call 16;(with_reducible refine (HPL.out _ ?_).mono ?_);(focus exact (Sep.ready HXD.out HRB.out).1.sub (by decide));rintro e w4 ⟨rfl,l4,d4,rfl⟩)
                      | (go_at_call 7;(refine (HC.out 2 _ ?_ (by decide)).mono ?_);(focus exact Sep.ready (HXD.out.later (by with_reducible repeat (first|exact Ex.refl _|refine Ex.alloc ?_ _|refine Ex.ext ?_ _ _|refine Ex.drew ?_|refine Ex.drewN ?_ _))) HRB.out);rintro e w6 ⟨rfl,l6,d6,rfl⟩))
                    all_goals
                      go_roundw
                      case measure=>simp [intOf];omega
                      case rel=>exact ⟨n+1,q+1,st,by omega,by omega,by go_num,by go_num,HO2.out,(HXD.out.later (by with_reducible repeat (first|exact Ex.refl _|refine Ex.alloc ?_ _|refine Ex.ext ?_ _ _|refine Ex.drew ?_|refine Ex.drewN ?_ _))).two⟩
      · as_aux_lemma =>
        have HAF:=Lib.hid (asFloor_same (A:=A) (B:=B) (bt_twoF HX2.out) (fun k hk=>(HO2.out.book k hk).len))
        go_wp2_with (go_at_call 19;(refine HAF.out.mono ?_);rintro e w4 ⟨rfl,l4,d4,rfl⟩)
        all_goals go_ret
        all_goals exact ⟨rfl,HXW.out.trans (by with_reducible repeat (first|exact Ex.refl _|refine Ex.alloc ?_ _|refine Ex.ext ?_ _ _|refine Ex.drew ?_|refine Ex.drewN ?_ _))⟩
end Go.Proofs.YtmbboflakfokhaaGreatDoor
