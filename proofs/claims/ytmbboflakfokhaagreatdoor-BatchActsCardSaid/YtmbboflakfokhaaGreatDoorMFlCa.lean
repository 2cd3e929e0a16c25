import Derived.Test.YtmbboflakfokhaaGreatDoorMFlPl
import Derived.Test.YtmbboflakfokhaaGreatDoorJ32
/- What Cancel of the document's floor computes. -/
set_option linter.unusedSimpArgs false
set_option linter.unusedVariables false
namespace Go.Proofs.YtmbboflakfokhaaGreatDoor
open Go.RowKit
section
variable {w W W':World} {F:Nat→Prop} {A:MA} {st:FSt} {M:List Th}
theorem MFX.turned {b:Nat} {vs:Array Value} {t:TypeId} (X:MFX F w A st M W) (i:Nat) (hi:M[i]?=some (blkTh b vs t)) (hg:Only (fun n=>n=b) W W'):MFX F w A st [] W':=by
  obtain ⟨G,⟨hG1,hG2⟩,hG,close⟩:=Sep.open X (5+i) (T:=blkTh b vs t) (by
    rw [List.getElem?_append_right (by show 5≤5+i;omega)]
    show M[5+i - 5]?=_
    rw [show 5+i - 5=i by omega]
    exact hi)
  have h:=close (M:=[]) (F':=fun _=>False) (hg.mono fun n _ hn=>(hG1 n).2 hn) (fun n hn=>hn) (fun n hn=>hn.elim)
  have e:(mList A st++M).take (5+i)++([]++(mList A st++M).drop (5+i+1))=mList A st++(M.take i++M.drop (i+1)):=by
    rw [List.take_append,List.drop_append,show (mList A st).length=5 from rfl,List.take_of_length_le (by show 5≤5+i;omega),List.drop_of_length_le (by show 5≤5+i+1;omega),show 5+i - 5=i by omega,show 5+i+1 - 5=i+1 by omega]
    simp
  refine MFX.only (M:=M.take i++M.drop (i+1)) ?_
  unfold MFX
  rw [← e]
  exact h
theorem only_set {b j:Nat} {v:Value} (h:Only (fun n=>n=b) W W'):Only (fun n=>n=b) W (W'.setCell ⟨b,j,none⟩ v):=h.setCell (fun _=>rfl) v
theorem lot_set {b:Nat} {x:Lot} {t:TypeId} (h:Blk W b (lotA x) t) (y:Lot):Blk (((((W.setCell ⟨b,0,none⟩ (.int .i64 y.id)).setCell ⟨b,1,none⟩ (.int .i64 y.owner)).setCell ⟨b,2,none⟩ (.int .i64 y.side)).setCell ⟨b,3,none⟩ (.int .i64 y.price)).setCell ⟨b,4,none⟩ (.int .i64 y.qty)) b (lotA y) t :=
  ((((h.set 0 (.int .i64 y.id)).set 1 (.int .i64 y.owner)).set 2 (.int .i64 y.side)).set 3 (.int .i64 y.price)).set 4 (.int .i64 y.qty)
theorem only_set5 (b:Nat) (v0 v1 v2 v3 v4:Value):Only (fun n=>n=b) W (((((W.setCell ⟨b,0,none⟩ v0).setCell ⟨b,1,none⟩ v1).setCell ⟨b,2,none⟩ v2).setCell ⟨b,3,none⟩ v3).setCell ⟨b,4,none⟩ v4) :=
  only_set (only_set (only_set (only_set (only_set (Only.refl _ W)))))
theorem set5_keep {b a j:Nat} {v v0 v1 v2 v3 v4:Value} (h:W.cell? ⟨a,j,none⟩=some v) (hn:a≠b):(((((W.setCell ⟨b,0,none⟩ v0).setCell ⟨b,1,none⟩ v1).setCell ⟨b,2,none⟩ v2).setCell ⟨b,3,none⟩ v3).setCell ⟨b,4,none⟩ v4).cell? ⟨a,j,none⟩=some v:=by
  have e:=(only_set5 (W:=W) b v0 v1 v2 v3 v4).block a (lt_of_cell h) hn
  simpa [World.cell?,e] using h
set_option maxRecDepth 100000 in
set_option maxHeartbeats 4000000 in
theorem mcancelF_bad (h:(mTh A st).P F w) (a:Ask) (hk:askedE a 99≠0) :
    Calls Tryz.prog 12 #[.pointer (some ⟨A.f,0,none⟩),a.val] w fun e w'=>e=.returned (.tuple #[zeroLot.val,.int .i64 (askedE a 99:Nat)])∧Leaves (mTh A st) F w w':=by
  have HK:=Lib.hid (fun w=>mkind_any a 99 w)
  have HX:=Lib.hid (MFX.start h)
  have h1:(0:Int)<(askedE a 99:Int):=by omega
  clear h hk
  generalize askedE a 99=n at *
  go_enter Tryz.func12,Tryz.ntmps12
  go_wp2_with (go_at_call 35;refine (HK.out _).mono ?_;rintro e w1 ⟨rfl,l1,d1,rfl⟩)
  all_goals (try simp only [Exit.inBlock,Exit.then])
  all_goals
    refine bodyPost_ret (v:=.tuple #[.agg #[.int .i64 0,.int .i64 0,.int .i64 0,.int .i64 0,.int .i64 0],.int .i64 (n:Int)]) ?_ rfl ⟨rfl,(HX.out.later (by repeat (first|exact Ex.refl _|refine Ex.alloc ?_ _|refine Ex.ext ?_ _ _|refine Ex.drew ?_|refine Ex.drewN ?_ _))).close⟩
    simp only [results,Tryz.results12]
    simp [go_sem,↓IntWalk.iteOmega]
theorem MCa.has {lx rx bx k:Nat} {kind client seq side price qty id xi xo xs xp xq:Int} (X:MFX F w A st [blkTh lx (lotA ⟨xi,xo,xs,xp,xq⟩) 44,blkTh rx (lotA zeroLot) 44,blkTh bx (askA ⟨kind,client,seq,(k:Int),side,price,qty,id⟩) 37] W):W.cell? ⟨A.f,9,none⟩=some (.pointer (some ⟨A.pp,0,none⟩))∧W.cell? ⟨bx,3,none⟩=some (.int .i64 (k:Int))∧W.cell? ⟨lx,0,none⟩=some (.int .i64 xi)∧W.cell? ⟨lx,1,none⟩=some (.int .i64 xo)∧W.cell? ⟨lx,2,none⟩=some (.int .i64 xs)∧W.cell? ⟨lx,3,none⟩=some (.int .i64 xp)∧W.cell? ⟨lx,4,none⟩=some (.int .i64 xq):=by
  obtain ⟨x0,x1,x2,x3,x4⟩:=(X.blk 0 rfl).lot
  obtain ⟨_,a3,_⟩:=(X.blk 2 rfl).ask
  exact ⟨X.restC.1,a3,x0,x1,x2,x3,x4⟩
set_option maxRecDepth 100000 in
set_option maxHeartbeats 40000000 in
theorem mcancelF_go (h:(mTh A st).P F w) (hO:FOk st) (a:Ask) (k:Nat) (hk3:k<3) (hi:a.item=(k:Int)) (hk:askedE a 99=0) (r:Lot × Nat × FSt)
    (hr:r=if (getR (st.b k) a.id).2=true∧(getR (st.b k) a.id).1.owner=a.client then goneR st k a.id else (zeroLot,6,st)) :
    Calls Tryz.prog 12 #[.pointer (some ⟨A.f,0,none⟩),a.val] w fun e w'=>e=.returned (.tuple #[r.1.val,.int .i64 (r.2.1:Nat)])∧Leaves (mTh A r.2.2) F w w':=by
  have HK:=Lib.hid (fun w=>mkind_any a 99 w)
  rw [hk] at HK
  have hX:=MFX.start h
  have hf:=hX.restC.2.2.2
  have k3:(k:Int)<3:=by omega
  have HX:=Lib.hid hX
  have HR:=Lib.hid hr
  have HCA:=Lib.hid (fun own W' (h:BookAt own 1 W' (A.bp k) (st.b k))=>mcancel_any h a.id)
  have HO:=Lib.hid hO
  obtain ⟨kind,client,seq,item,side,price,qty,id⟩:=a
  simp only at hi HR HCA
  subst hi
  clear h hX hk hO hr
  go_enter Tryz.func12,Tryz.ntmps12
  go_upto_region 4 with (go_at_call 35;refine (HK.out _).mono ?_;rintro e w1 ⟨rfl,l1,d1,rfl⟩)
  refine wp_world (R:=fun W=>MFX F w A st [blkTh (w.heap.size+1) (lotA zeroLot) 44,blkTh w.heap.size (askA ⟨kind,client,seq,(k:Int),side,price,qty,id⟩) 37] W) (((HX.out.box (W':=w.alloc (.cells (askA ⟨kind,client,seq,(k:Int),side,price,qty,id⟩) 37)) (by repeat (first|exact Ex.refl _|refine Ex.alloc ?_ _|refine Ex.ext ?_ _ _|refine Ex.drew ?_|refine Ex.drewN ?_ _)) (by repeat (first|exact Blk.new (by first|omega|(simp [go_sem];done)|(simp [go_sem];omega))|(with_reducible exact Blk.new rfl)|(with_reducible refine Blk.drew ?_)|(with_reducible refine Blk.drewN ?_ _)|(with_reducible refine Blk.ext ?_ _ _)|(with_reducible refine Blk.alloc ?_ _))) (Nat.le_refl _)).box (W':=(w.alloc (.cells (askA ⟨kind,client,seq,(k:Int),side,price,qty,id⟩) 37)).alloc (.cells (lotA zeroLot) 44)) (by repeat (first|exact Ex.refl _|refine Ex.alloc ?_ _|refine Ex.ext ?_ _ _|refine Ex.drew ?_|refine Ex.drewN ?_ _)) (by repeat (first|exact Blk.new (by first|omega|(simp [go_sem];done)|(simp [go_sem];omega))|(with_reducible exact Blk.new rfl)|(with_reducible refine Blk.drew ?_)|(with_reducible refine Blk.drewN ?_ _)|(with_reducible refine Blk.ext ?_ _ _)|(with_reducible refine Blk.alloc ?_ _))) (by simp)).later ((Ex.refl _).ext l1 d1)) ?_
  have hbr:w.heap.size<w.heap.size+1:=Nat.lt_succ_self _
  generalize w.heap.size+1=rx at *
  generalize w.heap.size=bx at *
  rintro W hX
  have HX1:=Lib.hid hX
  obtain ⟨a1,a3,a7⟩:=(hX.blk 1 rfl).ask
  simp only at a1 a3 a7
  have hbz:=(hX.blk 1 rfl).lt
  have hrz:=(hX.blk 0 rfl).lt
  have hfz:=hX.restC.2.2.2
  have bk:=hX.bookC hk3
  have HFD:=Lib.hid (fun W' (hx:Ex W W')=>(HX1.out.later hx).readB hk3 (fun own h=>mfind_any h id))
  clear hX HX
  go_quiet (fail)
  all_goals go_upto_region 6 with (go_at_call 37;refine (HFD.out _ (by repeat (first|exact Ex.refl _|refine Ex.alloc ?_ _|refine Ex.ext ?_ _ _|refine Ex.drew ?_|refine Ex.drewN ?_ _))).mono ?_;rintro e w3 ⟨rfl,l3,d3,rfl⟩)
  refine wp_world (R:=fun W'=>MFX F w A st [blkTh rx (lotA zeroLot) 44,blkTh bx (askA ⟨kind,client,seq,(k:Int),side,price,qty,id⟩) 37] W') (HX1.out.later (by repeat (first|exact Ex.refl _|refine Ex.alloc ?_ _|refine Ex.ext ?_ _ _|refine Ex.drew ?_|refine Ex.drewN ?_ _))) ?_
  clear hbz hrz hfz bk a1 a3 a7 HFD HX1
  rintro W2 hX
  have HX1:=Lib.hid hX
  obtain ⟨a1,a3,a7⟩:=(hX.blk 1 rfl).ask
  simp only at a1 a3 a7
  have zb:=hX.blk 0 rfl
  obtain ⟨z0,z1,z2,z3,z4⟩:=zb.lot
  have zf:=zb.free
  have hrz:=zb.lt
  have hbz:=(hX.blk 1 rfl).lt
  have hfz:=hX.restC.2.2.2
  have pp:=hX.restC.1
  obtain ⟨own0,hb0⟩:=hX.bookAt hk3
  obtain ⟨bo,bc,bs0,_,_,_,hLA,_⟩:=hb0.slice
  have hbpz:=hb0.lt
  have HLA:=Lib.hid hLA
  have hb5:=lot_set zb zeroLot
  simp only [zeroLot] at z0 z1 z2 z3 z4 hb5
  clear hX hb0 zb hLA
  have HZ:=Lib.hid (HX1.out.turned 0 rfl (only_set5 (W:=W2) rx (.int .i64 0) (.int .i64 0) (.int .i64 0) (.int .i64 0) (.int .i64 0)))
  have HB5:=Lib.hid hb5
  clear hb5
  rcases idIdx_cases (st.b k) id with ⟨j,hj,hix,hjd,hfx⟩|⟨hix,hno⟩
  · have hg:getR (st.b k) id=((st.b k)[j],true):=by
      unfold getR
      rw [hfx]
      simp only [List.getElem?_eq_getElem hj]
    rw [hix]
    obtain ⟨g,off,rfl,hgz,hcc⟩:=HLA.out.2.2.2 (by omega)
    have e0:=hcc j hj 0 (by omega)
    have e1:=hcc j hj 1 (by omega)
    have e2:=hcc j hj 2 (by omega)
    have e3:=hcc j hj 3 (by omega)
    have e4:=hcc j hj 4 (by omega)
    simp only [Lot.cells,List.getElem?_cons_zero,List.getElem?_cons_succ,Nat.add_zero] at e0 e1 e2 e3 e4
    have hxm:(st.b k)[j]∈st.b k:=List.getElem_mem hj
    clear hcc
    by_cases ho:(st.b k)[j].owner=client
    · have e:r=goneR st k id:=by rw [HR.out,hg,if_pos ⟨rfl,ho⟩]
      rcases cancelR_cases (HO.out.book k hk3) id with ⟨x,hx,hi,l',ec,hl,_,_⟩|⟨hn,_⟩
      · have hxe:x=(st.b k)[j]:=(HO.out.book k hk3).apart.eq hx hxm (hi.trans hjd.symm)
        have hz:=freeE_zero HO.out hk3 hx
        have hR:goneR st k id=(x,0,(st.setB k l').setP (freeP st.p (k:Int) x)):=by
          unfold goneR
          rw [ec]
          exact if_pos rfl
        rw [hR] at e
        subst e
        rw [ec] at HCA
        have HF:=Lib.hid (fun own W' (h:PurseAt own 1 W' A.pp (st.setB k l').p)=>mfree_any (P:=st.p) h (k:Int) x)
        rw [hz] at HF
        rw [← hxe] at e0 e1 e2 e3 e4 ho
        have ht:(x.owner != client)=false:=by simp [bne,ho]
        obtain ⟨xi,xo,xs,xp,xq⟩:=x
        simp only at e0 e1 e2 e3 e4 ht
        clear hg hR hz hx hxm hi ec hl hxe HR ho hjd hfx HZ HB5
        go_upto_region 8 with fail
        go_quiet (fail)
        all_goals go_wp2_with fail
        refine ((HX1.out.later (by repeat (first|exact Ex.refl _|refine Ex.alloc ?_ _|refine Ex.ext ?_ _ _|refine Ex.drew ?_|refine Ex.drewN ?_ _))).book hk3 (fun own h=>HCA.out own _ h)).mono ?_
        rintro e w4 ⟨rfl,hX4⟩
        have HX4:=Lib.hid hX4
        clear hX4
        go_upto_region 11 with fail
        refine wp_world (R:=fun W'=>MFX F w A (st.setB k l') (blkTh w4.heap.size (lotA ⟨xi,xo,xs,xp,xq⟩) 44::[blkTh rx (lotA zeroLot) 44,blkTh bx (askA ⟨kind,client,seq,(k:Int),side,price,qty,id⟩) 37]) W') (HX4.out.box (by repeat (first|exact Ex.refl _|refine Ex.alloc ?_ _|refine Ex.ext ?_ _ _|refine Ex.drew ?_|refine Ex.drewN ?_ _)) (by repeat (first|exact Blk.new (by first|omega|(simp [go_sem];done)|(simp [go_sem];omega))|(with_reducible exact Blk.new rfl)|(with_reducible refine Blk.drew ?_)|(with_reducible refine Blk.drewN ?_ _)|(with_reducible refine Blk.ext ?_ _ _)|(with_reducible refine Blk.alloc ?_ _))) (Nat.le_refl _)) ?_
        have hrl:rx<w4.heap.size:=(HX4.out.blk 0 rfl).lt
        generalize w4.heap.size=lx at *
        rintro W5 hX5
        obtain ⟨c1,c2,b0,b1,b2,b3,b4⟩:=MCa.has hX5
        have HX5:=Lib.hid hX5
        have hlz5:=(hX5.blk 0 rfl).lt
        have hrz5:=(hX5.blk 1 rfl).lt
        have hbz5:=(hX5.blk 2 rfl).lt
        have hfz5:=hX5.restC.2.2.2
        clear hX5 HX4 HX1 HK HO HCA HLA e0 e1 e2 e3 e4 a1 a3 a7 z0 z1 z2 z3 z4 zf hrz hbz hfz pp bs0 hbpz hgz
        have n0:A.f≠rx:=by omega
        have n1:bx≠rx:=by omega
        have n2:lx≠rx:=by omega
        go_region_held3 (fun W=>W.cell? ⟨A.f,9,none⟩=some (.pointer (some ⟨A.pp,0,none⟩))∧W.cell? ⟨bx,3,none⟩=some (.int .i64 (k:Int))∧W.cell? ⟨lx,0,none⟩=some (.int .i64 xi)∧W.cell? ⟨lx,1,none⟩=some (.int .i64 xo)∧W.cell? ⟨lx,2,none⟩=some (.int .i64 xs)∧W.cell? ⟨lx,3,none⟩=some (.int .i64 xp)∧W.cell? ⟨lx,4,none⟩=some (.int .i64 xq))
          (first|(with_reducible exact ⟨d1,d2,d3,d4,d5,d6,d7⟩)|(with_reducible exact ⟨set5_keep d1 n0,set5_keep d2 n1,set5_keep d3 n2,set5_keep d4 n2,set5_keep d5 n2,set5_keep d6 n2,set5_keep d7 n2⟩)|exact ⟨c1,c2,b0,b1,b2,b3,b4⟩)
          ((go_at_call 43;((with_reducible refine ((HX5.out.later ?_).purse (fun own h=>HF.out own _ h)).mono ?_));(focus ((repeat (first|(with_reducible exact Ex.refl _)|(with_reducible refine Ex.alloc ?_ _)|(with_reducible refine Ex.ext ?_ _ _)|(with_reducible refine Ex.drew ?_)|(with_reducible refine Ex.drewN ?_ _)));done));rintro e w6 ⟨rfl,hX6⟩;obtain ⟨d1,d2,d3,d4,d5,d6,d7⟩:=MCa.has hX6;have zb:=hX6.blk 1 rfl;have HX6:=Lib.hid hX6;clear hX6;obtain ⟨z0,z1,z2,z3,z4⟩:=zb.lot;have zf:=zb.free;have HZB:=Lib.hid zb;clear zb;simp only [zeroLot] at z0 z1 z2 z3 z4))
        all_goals
          have hx5:=HX6.out.turned 1 rfl (only_set5 (W:=w6) rx (.int .i64 xi) (.int .i64 xo) (.int .i64 xs) (.int .i64 xp) (.int .i64 xq))
          have hb5:=lot_set HZB.out ⟨xi,xo,xs,xp,xq⟩
          simp only at hb5
          generalize (((((w6.setCell ⟨rx,0,none⟩ (.int .i64 xi)).setCell ⟨rx,1,none⟩ (.int .i64 xo)).setCell ⟨rx,2,none⟩ (.int .i64 xs)).setCell ⟨rx,3,none⟩ (.int .i64 xp)).setCell ⟨rx,4,none⟩ (.int .i64 xq))=W7 at *
          obtain ⟨g0,g1,g2,g3,g4⟩:=hb5.lot
          simp only at g0 g1 g2 g3 g4
          clear hb5
          go_wp2_with fail
          (try simp only [Exit.inBlock,Exit.then])
          refine bodyPost_ret (v:=.tuple #[.agg #[.int .i64 xi,.int .i64 xo,.int .i64 xs,.int .i64 xp,.int .i64 xq],.int .i64 0]) ?_ rfl ⟨rfl,hx5.close⟩
          simp only [results,Tryz.results12]
          simp [go_sem,↓IntWalk.iteOmega,g0,g1,g2,g3,g4]
      · exact absurd hjd (hn _ hxm)
    · have e:r=(zeroLot,6,st):=by rw [HR.out,hg,if_neg (fun h=>ho h.2)]
      subst e
      have ht:((st.b k)[j].owner != client)=true:=by simpa using ho
      generalize (st.b k)[j].owner=ow at *
      clear hg HR HCA ho hxm hjd hfx
      go_upto_region 8 with fail
      go_quiet (fail)
      all_goals go_wp2_with fail
      all_goals
        (try simp only [Exit.inBlock,Exit.then])
        refine bodyPost_ret (v:=.tuple #[.agg #[.int .i64 0,.int .i64 0,.int .i64 0,.int .i64 0,.int .i64 0],.int .i64 6]) ?_ rfl ⟨rfl,(HZ.out.later (Ex.drewN (Ex.refl _) _)).close⟩
        simp only [results,Tryz.results12]
        simp [go_sem,↓IntWalk.iteOmega, *]
  · have hg:getR (st.b k) id=(zeroLot,false):=by unfold getR;rw [find_none hix]
    have e:r=(zeroLot,6,st):=by rw [HR.out,hg,if_neg (fun h=>by cases h.1)]
    subst e
    rw [hix]
    clear hg hno HR HCA
    go_wp2_with fail
    have hx5:=HZ.out
    have hb5:=HB5.out
    generalize (((((W2.setCell ⟨rx,0,none⟩ (.int .i64 0)).setCell ⟨rx,1,none⟩ (.int .i64 0)).setCell ⟨rx,2,none⟩ (.int .i64 0)).setCell ⟨rx,3,none⟩ (.int .i64 0)).setCell ⟨rx,4,none⟩ (.int .i64 0))=W5 at *
    obtain ⟨g0,g1,g2,g3,g4⟩:=hb5.lot
    simp only at g0 g1 g2 g3 g4
    clear hb5
    (try simp only [Exit.inBlock,Exit.then])
    refine bodyPost_ret (v:=.tuple #[.agg #[.int .i64 0,.int .i64 0,.int .i64 0,.int .i64 0,.int .i64 0],.int .i64 6]) ?_ rfl ⟨rfl,hx5.close⟩
    simp only [results,Tryz.results12]
    simp [go_sem,↓IntWalk.iteOmega,g0,g1,g2,g3,g4]
end
end Go.Proofs.YtmbboflakfokhaaGreatDoor
