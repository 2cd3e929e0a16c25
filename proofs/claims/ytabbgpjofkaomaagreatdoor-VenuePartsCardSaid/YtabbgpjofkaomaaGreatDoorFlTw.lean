import Derived.Test.YtabbgpjofkaomaaGreatDoorJ19
import Derived.Test.YtabbgpjofkaomaaGreatDoorJ9
set_option linter.unusedSimpArgs false
set_option linter.unusedVariables false
/- The walk of trade of a batch. -/
namespace Go.Proofs.YtabbgpjofkaomaaGreatDoor
open Go.RowKit
def itemA (A:FlA) (st:FSt) (k:Nat):Array Value:=#[.pointer (some ⟨A.bp k,0,none⟩),.int .i64 (st.ref k),.int .i64 (st.left k)]
def TrR (own:Nat→Nat) (c:Nat) (w:World) (A:FlA) (st:FSt) (E:Nat→Addr) (k:Nat) (price:Int) (fin:FSt) (v u:Value) (W:World):Prop :=
 ∃ (st':FSt) (bs ss:List Fil) (m:Nat),TrX own c w A st' E [2,3,6,8,10,12] [(w.heap.size,itemA A st k,126)] v u bs ss W∧TInv k price st' bs ss∧bs.length+ss.length≤m∧m≤400000∧tradeAll k price m st' bs ss=fin
section
variable {own:Nat→Nat} {c:Nat} {w:World} {A:FlA} {st:FSt} {E:Nat→Addr}
theorem trc_has {st':FSt} {L:List Nat} {xb yb k:Nat} {x y:Lot} {v u:Value} {bs ss:List Fil} {W:World} (X:TrX own c w A st' E L ([(yb,lotA y,131)]++([(xb,lotA x,131)]++[(w.heap.size,itemA A st k,126)])) v u bs ss W) :
  W.cell? ⟨w.heap.size,0,none⟩=some (.pointer (some ⟨A.bp k,0,none⟩))∧W.cell? ⟨A.f,1,none⟩=some (.pointer (some ⟨A.pp,0,none⟩))∧(W.cell? ⟨xb,0,none⟩=some (.int .i64 x.id)∧W.cell? ⟨xb,1,none⟩=some (.int .i64 x.owner)∧W.cell? ⟨xb,2,none⟩=some (.int .i64 x.side)∧W.cell? ⟨xb,3,none⟩=some (.int .i64 x.price)∧W.cell? ⟨xb,4,none⟩=some (.int .i64 x.qty)) ∧
   W.cell? ⟨yb,0,none⟩=some (.int .i64 y.id)∧W.cell? ⟨yb,1,none⟩=some (.int .i64 y.owner)∧W.cell? ⟨yb,2,none⟩=some (.int .i64 y.side)∧W.cell? ⟨yb,3,none⟩=some (.int .i64 y.price)∧W.cell? ⟨yb,4,none⟩=some (.int .i64 y.qty):=by
 have hh:=X.x.has
 obtain ⟨by1,hh⟩:=hh.cons
 obtain ⟨bx1,hh⟩:=hh.cons
 obtain ⟨bx,hh⟩:=hh.cons
 exact ⟨bx.cell 0,X.x.cells.2.1,bx1.lot,by1.lot⟩
set_option maxRecDepth 100000 in
set_option maxHeartbeats 8000000 in
theorem ftrade_any (h:FlAt own c w A st) (hE:Errs E [2,3,6,8,10,12] w) (hg:∀ n,GE [2,3,6,8,10,12] n→own n / 8≠c) (k:Nat) (hk3:k<3) (price:Int) (p0:0≤price) (ao:Option Addr) (cap:Nat) (F:List Fil) (hF:FillAt w ao F) (hz:F.length≤100000) (hT:TInv k price st (buysOf (st.b k) F) (sellsOf (st.b k) F)) :
  Calls Tryz.prog 155 #[.pointer (some ⟨A.f,0,none⟩),.int .i64 (k:Int),.int .i64 price,.slice ao F.length cap] w fun e w'=>e=.returned .nilIface∧FlG own c w A (tradeAll k price (F.length+F.length) st (buysOf (st.b k) F) (sellsOf (st.b k) F)) w':=by
 obtain ⟨c0,_,_,_,hf⟩:=h.cells
 obtain ⟨i0,i1,i2⟩:=h.items hk3
 have hrg:=h.rowLt
 have k3:(k:Int)<3:=by omega
 have HX:=Lib.hid (FlX.start (T:=NoT) h hE hg (fun n hn=>hn.elim))
 have HS:=Lib.hid (fun W (hx:Ex w W)=>split_any ((h.book k hk3).later hx) (st.ref k) (st.left k) ao cap F (hF.ex hx) hz)
 have HT:=Lib.hid hT
 clear h hE hg hF hT
 go_enter Tryz.func155,Tryz.ntmps155
 go_wp2_with fail
 refine (HS.out _ (by repeat (first|exact Ex.refl _|refine Ex.alloc ?_ _|refine Ex.ext ?_ _ _|refine Ex.drew ?_|refine Ex.drewN ?_ _))).mono ?_
 rintro e w2 ⟨v,u,rfl,hv,hu,htw,hx2⟩
 have hX1:FlX own c w A st E [2,3,6,8,10,12] ([(w.heap.size,itemA A st k,126)]++[]) NoT (w.alloc (.cells #[.pointer (some ⟨A.bp k,0,none⟩),.int .i64 (st.ref k),.int .i64 (st.left k)] 126)):=HX.out.add (by repeat (first|exact Ex.refl _|refine Ex.alloc ?_ _|refine Ex.ext ?_ _ _|refine Ex.drew ?_|refine Ex.drewN ?_ _)) (fun t ht=>by simp only [List.mem_singleton] at ht;subst ht;exact Nat.le_refl _) (Has.mk (Blk.new rfl) (Has.nil _))
 have hX2:TrX own c w A st E [2,3,6,8,10,12] [(w.heap.size,itemA A st k,126)] v u (buysOf (st.b k) F) (sellsOf (st.b k) F) w2:=by
  have hb1:(w.alloc (.cells #[.pointer (some ⟨A.bp k,0,none⟩),.int .i64 (st.ref k),.int .i64 (st.left k)] 126)).heap.size=w.heap.size+1:=by simp
  refine ⟨hX1.addT hx2 (fun n hn=>?_),⟨hv.1,fun g e=>by have:=hv.2 g e;omega⟩,⟨hu.1,fun g e=>by have:=hu.2 g e;omega⟩,htw⟩
  rcases hn with h|h
  ·exact ⟨by have:=hv.2 n h;omega,hv.1.lt n h⟩
  ·exact ⟨by have:=hu.2 n h;omega,hu.1.lt n h⟩
 have HX2:=Lib.hid hX2
 have hlb:(buysOf (st.b k) F).length≤F.length:=List.length_filter_le _ _
 have hls:(sellsOf (st.b k) F).length≤F.length:=List.length_filter_le _ _
 obtain ⟨av,cv,rfl,_,_⟩:=hv.slice
 obtain ⟨au,cu,rfl,_,_⟩:=hu.slice
 clear hX1 hX2 hv hu htw hx2 c0 i0 i1 i2
 obtain ⟨fin,hfin⟩:∃ fin,fin=tradeAll k price (F.length+F.length) st (buysOf (st.b k) F) (sellsOf (st.b k) F):=⟨_,rfl⟩
 have HFIN:=Lib.hid hfin
 clear hfin
 go_wp2_with fail
 go_loopw [10,11] (fun v u W=>∃ v' u',v'=v∧u'=u∧TrR own c w A st E k price fin v' u' W) (fun v u _=>lenV v+lenV u)
 case atStart=>exact ⟨_,_,rfl,rfl,st,_,_,_,HX2.out,HT.out,Nat.add_le_add hlb hls,by omega,HFIN.out.symm⟩
 case round =>
  obtain ⟨v,u,rfl,rfl,st',bs,ss,m,hX,hI,hm,hm4,hfi⟩:=hrel
  have hpi:=hX.x.fl.pinv
  have HXW:=Lib.hid hX
  have HI:=Lib.hid hI
  have HFI:=Lib.hid hfi
  cases bs with
  | nil =>
   obtain ⟨a1,c1,rfl,_,_⟩:=hX.rv.slice
   clear hX hI hfi
   go_wp2_with fail
   all_goals go_ret
   all_goals exact ⟨rfl,by rw [← HFIN.out,← HFI.out,tradeAll_nil];exact (HXW.out.later (by repeat (first|exact Ex.refl _|refine Ex.alloc ?_ _|refine Ex.ext ?_ _ _|refine Ex.drew ?_|refine Ex.drewN ?_ _))).x.out⟩
  | cons b bs =>
   cases ss with
   | nil =>
    obtain ⟨a1,c1,rfl,_,_⟩:=hX.rv.slice
    obtain ⟨a2,c2,rfl,_,_⟩:=hX.ru.slice
    clear hX hI hfi
    go_wp2_with fail
    all_goals go_ret
    all_goals exact ⟨rfl,by rw [← HFIN.out,← HFI.out,tradeAll_nil2];exact (HXW.out.later (by repeat (first|exact Ex.refl _|refine Ex.alloc ?_ _|refine Ex.ext ?_ _ _|refine Ex.drew ?_|refine Ex.drewN ?_ _))).x.out⟩
   | cons s ss =>
    obtain ⟨g,of,cv1,rfl,hcv1,_,r0,r1,rf,hgb,hgz⟩:=hX.rv.cons
    obtain ⟨gu,ou,cu1,rfl,hcu1,_,t0,t1,tf,hgub,hguz⟩:=hX.ru.cons
    have bx:=hX.x.has.cons.1
    have hbz:=bx.lt
    have b0:=bx.cell 0
    simp only [itemA,List.getElem?_toArray,List.getElem?_cons_zero] at b0
    obtain ⟨x,y,hx,hy,gx,gy,ix,iy,sx,sy,p1,p2,q1,q2,q3,hE0,hT1⟩:=hI.step hpi hk3
    obtain ⟨_,_,l1,l2,e1,e2,_,_,_⟩:=hI.ok.trade hpi hk3 hx hy sx sy q1 q2 q3 p1 p2
    have hb9:b.qty≤1000∧s.qty≤1000:=by
     have g1:=got_ge (l:=b::bs) (fun f hf=>(hI.buys f hf).1) (f:=b) (by simp)
     have g2:=got_ge (l:=s::ss) (fun f hf=>(hI.sells f hf).1) (f:=s) (by simp)
     have n1:=got_nonneg (l:=s::ss) (fun f hf=>(hI.sells f hf).1) b.id
     have n2:=got_nonneg (l:=b::bs) (fun f hf=>(hI.buys f hf).1) s.id
     have z1:=hI.bd x hx
     have z2:=hI.bd y hy
     rw [ix] at z1
     rw [iy] at z2
     have o1:=(Lot.okC ((hI.ok.book k hk3).ok x hx)).2.2.2.2
     have o2:=(Lot.okC ((hI.ok.book k hk3).ok y hy)).2.2.2.2
     omega
    have HGX:=Lib.hid (fun o i W (hb:BookAt o i W (A.bp k) (st'.b k))=>get_any hb b.id)
    have HGY:=Lib.hid (fun o i W (hb:BookAt o i W (A.bp k) (st'.b k))=>get_any hb s.id)
    rw [gx] at HGX
    rw [gy] at HGY
    have HFS:Hid (tradeAll k price (m - 1) (tradeS st' k price (min b.qty s.qty) x y) (lessF b (min b.qty s.qty) bs) (lessF s (min b.qty s.qty) ss)=fin):=Lib.hid (by
     obtain ⟨m',rfl⟩:∃ m',m=m'+1:=⟨m - 1,by simp only [List.length_cons] at hm;omega⟩
     rw [← hfi]
     show _=tradeAll k price m' (tradeS st' k price (min b.qty s.qty) (getR (st'.b k) b.id).1 (getR (st'.b k) s.id).1) _ _
     rw [gx,gy]
     rfl)
    obtain ⟨q,hq⟩:∃ q,q=min b.qty s.qty:=⟨_,rfl⟩
    rw [← hq] at HFS q1 q2 q3 hE0 hT1 e1 e2
    have HTD:=Lib.hid (fun o i W (hb:PurseAt o i W A.pp st'.p) hE=>trade_any hb (k:Int) x y price q E hE)
    rw [hE0,errV_zero,if_pos rfl,Int.toNat_natCast] at HTD
    have HTX:=Lib.hid (fun o i W P' (hb:BookAt o i W (A.bp k) ((st'.setP P').b k)) hE=>take_any (l:=st'.b k) hb x.id q E hE)
    have HTY:=Lib.hid (fun o i W P' (hb:BookAt o i W (A.bp k) (((st'.setP P').setB k l1).b k)) hE=>take_any (l:=l1) (by have e:((st'.setP P').setB k l1).b k=l1:=if_pos rfl;rw [e] at hb;exact hb) y.id q E hE)
    have HTS:Hid (tradeS st' k price q x y=((st'.setP (tradeF st'.p x.owner.toNat y.owner.toNat k (x.price*q) (price*q) q)).setB k l1).setB k l2):=Lib.hid (by
     unfold tradeS
     have e3:(takeR (takeR (st'.b k) x.id q).2 y.id q).2=l2:=by rw [e1];show (takeR l1 y.id q).2=l2;rw [e2]
     rw [e3,setBBP])
    rw [e1,errV_zero] at HTX
    rw [e2,errV_zero] at HTY
    have HT1:=Lib.hid hT1
    have HQ:=Lib.hid hq
    have hqb:q≤b.qty∧q≤s.qty∧(q=b.qty∨q=s.qty):=by omega
    obtain ⟨hqb1,hqb2,hqb3⟩:=hqb
    have HQ3:=Lib.hid hqb3
    clear hX hI hfi hx hy gx gy ix iy sx sy p1 p2 hE0 hT1 e1 e2 hq hqb3 bx
    go_upto_region 4 with fail
    go_cut [12] (fun p wx=>∃ xb,p=.pointer (some ⟨xb,0,none⟩)∧TrX own c w A st' E [2,3,6,8,10,12] ([(xb,lotA x,131)]++[(w.heap.size,itemA A st k,126)]) (.slice (some ⟨g,of,none⟩) (bs.length+1) cv1) (.slice (some ⟨gu,ou,none⟩) (ss.length+1) cu1) (b::bs) (s::ss) wx)
    case first =>
     go_region_held3 (fun W=>W.cell? ⟨w.heap.size,0,none⟩=some (.pointer (some ⟨A.bp k,0,none⟩))∧W.cell? ⟨g,of,none⟩=some (.int .i64 b.id))
      ((first|exact ⟨b0,r0⟩|(simp [go_sem,↓IntWalk.iteOmega,b0,r0];done)))
      ((go_at_call 124;((with_reducible refine ((HXW.out.later ?_).readB hk3 (fun o i hb=>HGX.out o i _ hb)).mono ?_));(focus exact (by with_reducible repeat (first|exact Ex.refl _|refine Ex.alloc ?_ _|refine Ex.ext ?_ _ _|refine Ex.drew ?_|refine Ex.drewN ?_ _)));rintro e w3 ⟨rfl,l3,d3,rfl⟩))
     all_goals go_wp2_with fail
     all_goals
      go_meet
      case rel=>exact ⟨_,rfl,HXW.out.add (cs':=[(_,lotA x,131)]) (by with_reducible repeat (first|exact Ex.refl _|refine Ex.alloc ?_ _|refine Ex.ext ?_ _ _|refine Ex.drew ?_|refine Ex.drewN ?_ _)) (fun t ht=>by simp only [List.mem_singleton] at ht;subst ht;simp only;omega) (Has.mk (by repeat (first|exact Blk.new (by first|omega|(simp [go_sem];done)|(simp [go_sem];omega))|(with_reducible exact Blk.new rfl)|(with_reducible refine Blk.drew ?_)|(with_reducible refine Blk.drewN ?_ _)|(with_reducible refine Blk.ext ?_ _ _)|(with_reducible refine Blk.alloc ?_ _))) (Has.nil _))⟩
    case rest =>
     obtain ⟨xb,rfl,hXa⟩:=hcut
     have HXA:=Lib.hid hXa
     have hh:=hXa.x.has
     obtain ⟨bx1,hh⟩:=hh.cons
     obtain ⟨bx,hh⟩:=hh.cons
     obtain ⟨_,_,_,ev,_,_,_,_,_,_,hgz1⟩:=hXa.rv.cons
     cases ev
     obtain ⟨_,_,_,eu,_,_,t0',t1',_,_,hguz1⟩:=hXa.ru.cons
     cases eu
     have hbz1:=bx.lt
     have hxz1:=bx1.lt
     have b0':=bx.cell 0
     simp only [itemA,List.getElem?_toArray,List.getElem?_cons_zero] at b0'
     clear hXa hh bx1 bx b0 r0 r1 rf t0 t1 tf hgz hguz hbz HXW
     go_upto_region 5 with fail
     go_cut [14] (fun p wx=>∃ yb,p=.pointer (some ⟨yb,0,none⟩)∧TrX own c w A st' E [2,3,6,8,10,12] ([(yb,lotA y,131)]++([(xb,lotA x,131)]++[(w.heap.size,itemA A st k,126)])) (.slice (some ⟨g,of,none⟩) (bs.length+1) cv1) (.slice (some ⟨gu,ou,none⟩) (ss.length+1) cu1) (b::bs) (s::ss) wx)
     case first =>
      go_region_held3 (fun W=>W.cell? ⟨w.heap.size,0,none⟩=some (.pointer (some ⟨A.bp k,0,none⟩))∧W.cell? ⟨gu,ou,none⟩=some (.int .i64 s.id))
       ((first|exact ⟨b0',t0'⟩|(simp [go_sem,↓IntWalk.iteOmega,b0',t0'];done)))
       ((go_at_call 124;((with_reducible refine ((HXA.out.later ?_).readB hk3 (fun o i hb=>HGY.out o i _ hb)).mono ?_));(focus exact (by with_reducible repeat (first|exact Ex.refl _|refine Ex.alloc ?_ _|refine Ex.ext ?_ _ _|refine Ex.drew ?_|refine Ex.drewN ?_ _)));rintro e w3 ⟨rfl,l3,d3,rfl⟩))
      all_goals go_wp2_with fail
      all_goals
       go_meet
       case rel=>exact ⟨_,rfl,HXA.out.add (cs':=[(_,lotA y,131)]) (by with_reducible repeat (first|exact Ex.refl _|refine Ex.alloc ?_ _|refine Ex.ext ?_ _ _|refine Ex.drew ?_|refine Ex.drewN ?_ _)) (fun t ht=>by simp only [List.mem_singleton] at ht;subst ht;simp only;omega) (Has.mk (by repeat (first|exact Blk.new (by first|omega|(simp [go_sem];done)|(simp [go_sem];omega))|(with_reducible exact Blk.new rfl)|(with_reducible refine Blk.drew ?_)|(with_reducible refine Blk.drewN ?_ _)|(with_reducible refine Blk.ext ?_ _ _)|(with_reducible refine Blk.alloc ?_ _))) (Has.nil _))⟩
     case rest =>
      obtain ⟨yb,rfl,hXb⟩:=hcut
      have HXB:=Lib.hid hXb
      have hh:=hXb.x.has
      obtain ⟨by1,hh⟩:=hh.cons
      obtain ⟨bx1,hh⟩:=hh.cons
      obtain ⟨bx,hh⟩:=hh.cons
      obtain ⟨_,_,_,ev,_,_,_,r1',_,_,hgz2⟩:=hXb.rv.cons
      cases ev
      obtain ⟨_,_,_,eu,_,_,_,t1'',_,_,hguz2⟩:=hXb.ru.cons
      cases eu
      obtain ⟨x0,x1,x2,x3,x4⟩:=bx1.lot
      obtain ⟨y0,y1,y2,y3,y4⟩:=by1.lot
      have b0'':=bx.cell 0
      simp only [itemA,List.getElem?_toArray,List.getElem?_cons_zero] at b0''
      obtain ⟨_,pp0,_,_,hfz⟩:=hXb.x.cells
      have hbz2:=bx.lt
      have hxz2:=bx1.lt
      have hyz2:=by1.lt
      clear hXb hh by1 bx1 bx b0' t0' t1' hgz1 hguz1 hbz1 hxz1 HXA
      go_upto_region 6 with fail
      go_cut [16] (fun p wx=>p=.int .i64 q∧TrX own c w A st' E [2,3,6,8,10,12] ([(yb,lotA y,131)]++([(xb,lotA x,131)]++[(w.heap.size,itemA A st k,126)])) (.slice (some ⟨g,of,none⟩) (bs.length+1) cv1) (.slice (some ⟨gu,ou,none⟩) (ss.length+1) cu1) (b::bs) (s::ss) wx)
      case first =>
       go_region
       all_goals go_wp2_with fail
       all_goals
        go_meet
        case rel=>exact ⟨by rw [HQ.out],HXB.out.later (by with_reducible repeat (first|exact Ex.refl _|refine Ex.alloc ?_ _|refine Ex.ext ?_ _ _|refine Ex.drew ?_|refine Ex.drewN ?_ _))⟩
      case rest =>
       obtain ⟨rfl,hXc⟩:=hcut
       have HXC:=Lib.hid hXc
       obtain ⟨b0,pp1,⟨x0',x1',x2',x3',x4'⟩,⟨y0',y1',y2',y3',y4'⟩⟩:=trc_has hXc
       clear hXc x0 x1 x2 x3 x4 y0 y1 y2 y3 y4 b0'' pp0 r1' t1'' hfz hgz2 hguz2 hbz2 hxz2 hyz2 HXB
       obtain ⟨P',hP'⟩:∃ P',P'=tradeF st'.p x.owner.toNat y.owner.toNat k (x.price*q) (price*q) q:=⟨_,rfl⟩
       rw [← hP'] at HTD
       have HP':=Lib.hid hP'
       clear hP'
       go_upto_region 7 with fail
       go_cut [17] (fun p wx=>p=.nilIface∧TrX own c w A (st'.setP P') E [2,3,6,8,10,12] ([(yb,lotA y,131)]++([(xb,lotA x,131)]++[(w.heap.size,itemA A st k,126)])) (.slice (some ⟨g,of,none⟩) (bs.length+1) cv1) (.slice (some ⟨gu,ou,none⟩) (ss.length+1) cu1) (b::bs) (s::ss) wx)
       case first =>
        go_region_held3 (fun W=>W.cell? ⟨A.f,1,none⟩=some (.pointer (some ⟨A.pp,0,none⟩))∧W.cell? ⟨xb,0,none⟩=some (.int .i64 x.id)∧W.cell? ⟨xb,1,none⟩=some (.int .i64 x.owner)∧W.cell? ⟨xb,2,none⟩=some (.int .i64 x.side)∧W.cell? ⟨xb,3,none⟩=some (.int .i64 x.price)∧W.cell? ⟨xb,4,none⟩=some (.int .i64 x.qty)∧W.cell? ⟨yb,0,none⟩=some (.int .i64 y.id)∧W.cell? ⟨yb,1,none⟩=some (.int .i64 y.owner)∧W.cell? ⟨yb,2,none⟩=some (.int .i64 y.side)∧W.cell? ⟨yb,3,none⟩=some (.int .i64 y.price)∧W.cell? ⟨yb,4,none⟩=some (.int .i64 y.qty))
         ((first|exact ⟨pp1,x0',x1',x2',x3',x4',y0',y1',y2',y3',y4'⟩|exact ⟨z1,z2.1,z2.2.1,z2.2.2.1,z2.2.2.2.1,z2.2.2.2.2,z3.1,z3.2.1,z3.2.2.1,z3.2.2.2.1,z3.2.2.2.2⟩))
         ((go_at_call 190;((with_reducible refine ((HXC.out.later ?_).purse (fun o i hb=>HTD.out o i _ hb ?_)).mono ?_));(focus exact (by with_reducible repeat (first|exact Ex.refl _|refine Ex.alloc ?_ _|refine Ex.ext ?_ _ _|refine Ex.drew ?_|refine Ex.drewN ?_ _)));(focus exact (HXC.out.later (by with_reducible repeat (first|exact Ex.refl _|refine Ex.alloc ?_ _|refine Ex.ext ?_ _ _|refine Ex.drew ?_|refine Ex.drewN ?_ _))).x.errs.sub (by decide));rintro e w5 ⟨rfl,hXd⟩;obtain ⟨_,z1,z2,z3⟩:=trc_has hXd;have HXD:=Lib.hid hXd;clear hXd))
        all_goals go_wp2_with fail
        all_goals
         go_meet
         case rel=>exact ⟨rfl,HXD.out.later (by with_reducible repeat (first|exact Ex.refl _|refine Ex.alloc ?_ _|refine Ex.ext ?_ _ _|refine Ex.drew ?_|refine Ex.drewN ?_ _))⟩
       case rest =>
        obtain ⟨rfl,hXe⟩:=hcut
        have HXE:=Lib.hid hXe
        obtain ⟨b1,_,⟨x0,_⟩,⟨y0,_⟩⟩:=trc_has hXe
        clear hXe b0 pp1 x0' x1' x2' x3' x4' y0' y1' y2' y3' y4' HXC
        go_upto_region 10 with fail
        go_cut [] (fun wx=>TrX own c w A (tradeS st' k price q x y) E [2,3,6,8,10,12] [(w.heap.size,itemA A st k,126)] (.slice (some ⟨g,of,none⟩) (bs.length+1) cv1) (.slice (some ⟨gu,ou,none⟩) (ss.length+1) cu1) (b::bs) (s::ss) wx)
        case first =>
         go_region_held3 (fun W=>W.cell? ⟨w.heap.size,0,none⟩=some (.pointer (some ⟨A.bp k,0,none⟩))∧W.cell? ⟨xb,0,none⟩=some (.int .i64 x.id)∧W.cell? ⟨yb,0,none⟩=some (.int .i64 y.id))
          ((first|exact ⟨b1,x0,y0⟩|exact ⟨z1,z2,z3⟩|exact ⟨z4,z5,z6⟩))
          ((first
           | (go_at_call 191;((with_reducible refine ((HXE.out.later ?_).book hk3 (fun o i hb=>HTX.out o i _ P' hb ?_)).mono ?_));(focus exact (by with_reducible repeat (first|exact Ex.refl _|refine Ex.alloc ?_ _|refine Ex.ext ?_ _ _|refine Ex.drew ?_|refine Ex.drewN ?_ _)));(focus exact (HXE.out.later (by with_reducible repeat (first|exact Ex.refl _|refine Ex.alloc ?_ _|refine Ex.ext ?_ _ _|refine Ex.drew ?_|refine Ex.drewN ?_ _))).x.errs.sub (by decide));rintro e w5 ⟨rfl,hXd⟩;obtain ⟨z1,_,⟨z2,_⟩,⟨z3,_⟩⟩:=trc_has hXd;have HXF:=Lib.hid hXd;clear hXd)
           | (go_at_call 191;((with_reducible refine ((HXF.out.later ?_).book hk3 (fun o i hb=>HTY.out o i _ P' hb ?_)).mono ?_));(focus exact (by with_reducible repeat (first|exact Ex.refl _|refine Ex.alloc ?_ _|refine Ex.ext ?_ _ _|refine Ex.drew ?_|refine Ex.drewN ?_ _)));(focus exact (HXF.out.later (by with_reducible repeat (first|exact Ex.refl _|refine Ex.alloc ?_ _|refine Ex.ext ?_ _ _|refine Ex.drew ?_|refine Ex.drewN ?_ _))).x.errs.sub (by decide));rintro e w6 ⟨rfl,hXd⟩;obtain ⟨z4,_,⟨z5,_⟩,⟨z6,_⟩⟩:=trc_has hXd;have HXG:=Lib.hid hXd;clear hXd)))
         all_goals go_wp2_with fail
         all_goals
          go_meet
          case rel =>
           have h:=(HXG.out.later (by with_reducible repeat (first|exact Ex.refl _|refine Ex.alloc ?_ _|refine Ex.ext ?_ _ _|refine Ex.drew ?_|refine Ex.drewN ?_ _))).less (cs':=[(w.heap.size,itemA A st k,126)]) (fun t ht=>List.mem_append_right _ (List.mem_append_right _ ht))
           rw [HTS.out,← HP'.out]
           exact h
        case rest =>
         have HXH:=Lib.hid hcut
         obtain ⟨_,_,_,ev,_,_,_,r1,rf,hgb,hgz⟩:=hcut.rv.cons
         cases ev
         have hbz:=hcut.x.has.cons.1.lt
         clear hcut b1 x0 y0 HXE
         have hbq:0≤b.qty - q∧b.qty - q≤1000:=by omega
         go_upto_if 105 with fail
         refine wp_world (R:=fun W=>TrX own c w A (tradeS st' k price q x y) E [2,3,6,8,10,12] [(w.heap.size,itemA A st k,126)] (.slice (some ⟨g,of,none⟩) (bs.length+1) cv1) (.slice (some ⟨gu,ou,none⟩) (ss.length+1) cu1) (⟨b.id,b.qty - q⟩::bs) (s::ss) W) (HXH.out.setV (b.qty - q) (fun t ht=>by simp only [List.mem_singleton] at ht;subst ht;simp only;omega)) ?_
         rintro Wv hXv
         have HXV:=Lib.hid hXv
         clear hXv r1 rf hgz hbz HXH
         go_cut [10] (fun p wx=>∃ v',p=v'∧TrX own c w A (tradeS st' k price q x y) E [2,3,6,8,10,12] [(w.heap.size,itemA A st k,126)] v' (.slice (some ⟨gu,ou,none⟩) (ss.length+1) cu1) (lessF b q bs) (s::ss) wx)
         case first =>
          by_cases hz0:b.qty - q=0
          ·have ht:(b.qty - q==0)=true:=by simpa using hz0
           have HL:=Lib.hid (show lessF b q bs=bs from if_pos hz0)
           have HD:=Lib.hid HXV.out.dropV
           have hlen1:(1:Int)≤(cv1:Int):=by omega
           have hlen2:(1:Int)≤((bs.length+1:Nat):Int):=by omega
           clear hz0
           by_cases hc1:cv1=1
           ·rw [if_pos hc1,hc1] at HD
            go_wp2_with fail
            go_meet
            case rel=>exact ⟨_,rfl,by rw [HL.out];exact HD.out.later (by with_reducible repeat (first|exact Ex.refl _|refine Ex.alloc ?_ _|refine Ex.ext ?_ _ _|refine Ex.drew ?_|refine Ex.drewN ?_ _))⟩
           ·rw [if_neg hc1] at HD
            go_wp2_with fail
            go_meet
            case rel=>exact ⟨_,rfl,by rw [HL.out];exact HD.out.later (by with_reducible repeat (first|exact Ex.refl _|refine Ex.alloc ?_ _|refine Ex.ext ?_ _ _|refine Ex.drew ?_|refine Ex.drewN ?_ _))⟩
          ·have ht:(b.qty - q==0)=false:=by simpa using hz0
           have HL:=Lib.hid (show lessF b q bs=⟨b.id,b.qty - q⟩::bs from if_neg hz0)
           clear hz0
           go_wp2_with fail
           go_meet
           case rel=>exact ⟨_,rfl,by rw [HL.out];exact HXV.out.later (by with_reducible repeat (first|exact Ex.refl _|refine Ex.alloc ?_ _|refine Ex.ext ?_ _ _|refine Ex.drew ?_|refine Ex.drewN ?_ _))⟩
         case rest =>
          obtain ⟨v',rfl,hXi⟩:=hcut
          have HXI:=Lib.hid hXi
          obtain ⟨av',cv',rfl,_,_⟩:=hXi.rv.slice
          obtain ⟨_,_,_,ev,_,_,_,r1,rf,hgb,hgz⟩:=hXi.ru.cons
          cases ev
          have hbz:=hXi.x.has.cons.1.lt
          clear hXi HXV
          have hsq:0≤s.qty - q∧s.qty - q≤1000:=by omega
          have hbl:=less_len b q bs
          have HBL:=Lib.hid hbl
          clear hbl
          go_upto_if 120 with fail
          refine wp_world (R:=fun W=>TrX own c w A (tradeS st' k price q x y) E [2,3,6,8,10,12] [(w.heap.size,itemA A st k,126)] (.slice av' (lessF b q bs).length cv') (.slice (some ⟨gu,ou,none⟩) (ss.length+1) cu1) (lessF b q bs) (⟨s.id,s.qty - q⟩::ss) W) (HXI.out.swap.setV (s.qty - q) (fun t ht=>by simp only [List.mem_singleton] at ht;subst ht;simp only;omega)).swap ?_
          rintro Wv hXv
          have HXV:=Lib.hid hXv
          clear hXv r1 rf hgz hbz HXI
          have HSL:=Lib.hid (less_len s q ss)
          have HLE:=Lib.hid (show (lessF b q bs).length+(lessF s q ss).length<(bs.length+1)+(ss.length+1)∧(lessF b q bs).length+(lessF s q ss).length≤m - 1 by
           rw [HBL.out,HSL.out]
           simp only [List.length_cons] at hm
           rcases HQ3.out with e|e
           ·rw [e,if_pos (by omega)];split<;>omega
           ·rw [e];rw [if_pos (show s.qty - s.qty=0 by omega)];split<;>omega)
          by_cases hz0:s.qty - q=0
          ·have ht:(s.qty - q==0)=true:=by simpa using hz0
           have hL:lessF s q ss=ss:=if_pos hz0
           rw [hL] at HT1 HFS HLE
           have HD:=Lib.hid HXV.out.swap.dropV
           have hlen1:(1:Int)≤(cu1:Int):=by omega
           have hlen2:(1:Int)≤((ss.length+1:Nat):Int):=by omega
           clear hz0 hL
           by_cases hc1:cu1=1
           ·rw [if_pos hc1,hc1] at HD
            go_wp2_with fail
            go_roundw
            case measure=>exact HLE.out.1
            case rel=>exact ⟨_,_,rfl,rfl,_,_,_,m - 1,HD.out.swap.later (by with_reducible repeat (first|exact Ex.refl _|refine Ex.alloc ?_ _|refine Ex.ext ?_ _ _|refine Ex.drew ?_|refine Ex.drewN ?_ _)),HT1.out,HLE.out.2,by omega,HFS.out⟩
           ·rw [if_neg hc1] at HD
            go_wp2_with fail
            go_roundw
            case measure=>exact HLE.out.1
            case rel=>exact ⟨_,_,rfl,rfl,_,_,_,m - 1,HD.out.swap.later (by with_reducible repeat (first|exact Ex.refl _|refine Ex.alloc ?_ _|refine Ex.ext ?_ _ _|refine Ex.drew ?_|refine Ex.drewN ?_ _)),HT1.out,HLE.out.2,by omega,HFS.out⟩
          ·have ht:(s.qty - q==0)=false:=by simpa using hz0
           have hL:lessF s q ss=⟨s.id,s.qty - q⟩::ss:=if_neg hz0
           rw [hL] at HT1 HFS HLE
           clear hz0 hL
           go_wp2_with fail
           go_roundw
           case measure=>exact HLE.out.1
           case rel=>exact ⟨_,_,rfl,rfl,_,_,_,m - 1,HXV.out.later (by with_reducible repeat (first|exact Ex.refl _|refine Ex.alloc ?_ _|refine Ex.ext ?_ _ _|refine Ex.drew ?_|refine Ex.drewN ?_ _)),HT1.out,HLE.out.2,by omega,HFS.out⟩
end
end Go.Proofs.YtabbgpjofkaomaaGreatDoor
