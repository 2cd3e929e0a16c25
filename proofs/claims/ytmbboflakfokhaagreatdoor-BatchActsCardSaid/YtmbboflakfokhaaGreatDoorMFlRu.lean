import Derived.Test.YtmbboflakfokhaaGreatDoorMFlCa
import Derived.Test.YtmbboflakfokhaaGreatDoorMFlDr
import Derived.Test.YtmbboflakfokhaaGreatDoorJ36
import Derived.Test.YtmbboflakfokhaaGreatDoorJ38
import Derived.Test.YtmbboflakfokhaaGreatDoorJ42
import Derived.Test.YtmbboflakfokhaaGreatDoorJ25
/- What Run of the document's floor computes. -/
set_option linter.unusedSimpArgs false
set_option linter.unusedVariables false
namespace Go.Proofs.YtmbboflakfokhaaGreatDoor
open Go.RowKit
def irowRd (l:List Int) (v:Value):Rd v where
  R w:=RowAt w 3 1 v l.length (l.map (Value.int .i64))
  lt h g hg:=h.lt g hg
  same h hb:=h.of_block hb
theorem irow_app {W:World} {l:List Int} {x:Int} {v:Value} (h:RowAt W 3 1 v (l.length+1) (l.map (Value.int .i64)++[.int .i64 x])):(irowRd (l++[x]) v).R W:=by
  show RowAt _ _ _ _ _ _
  rw [List.map_append,List.length_append]
  exact h
theorem irow_slice {W:World} {l:List Int} {v:Value} (h:(irowRd l v).R W):∃ ao cap,v=.slice ao l.length cap∧l.length≤cap∧cap≤maxLen:=by
  have h:RowAt W 3 1 v l.length (l.map (Value.int .i64)):=h
  rcases h.2 with ⟨rfl,h0⟩|⟨g,off,cap,cur,rfl,_,hc,hm,_⟩
  · exact ⟨none,0,by rw [h0],by omega,by unfold maxLen;omega⟩
  · exact ⟨_,cap,rfl,hc,hm⟩
theorem irow_at {W:World} {l:List Int} {ao:Option Addr} {cap n:Nat} (h:(irowRd l (.slice ao l.length cap)).R W) (hn:n<l.length):∃ g off,ao=some ⟨g,off,none⟩∧g<W.heap.size∧W.cell? ⟨g,off+n,none⟩=some (.int .i64 l[n]):=by
  have h:RowAt W 3 1 (.slice ao l.length cap) l.length (l.map (Value.int .i64)):=h
  have hz:=h.lt
  rcases h.2 with ⟨e,h0⟩|⟨g,off,cap',cur,e,_,hc,hm,_⟩
  · omega
  · cases e
    refine ⟨g,off,rfl,hz g rfl,?_⟩
    rw [h.cell (by omega),List.getElem?_map,List.getElem?_eq_getElem hn]
    rfl
section
variable {w W W':World} {F:Nat→Prop} {A:MA} {st:FSt} {M:List Th}
theorem MFX.setBlk {b:Nat} {vs:Array Value} {t:TypeId} (X:MFX F w A st M W) (i:Nat) (hi:M[i]?=some (blkTh b vs t)) (j:Nat) (v:Value):MFX F w A st (M.set i (blkTh b (vs.setIfInBounds j v) t)) (W.setCell ⟨b,j,none⟩ v):=by
  have hlt:i<M.length:=(List.getElem?_eq_some_iff.1 hi).1
  obtain ⟨G,⟨hG1,hG2⟩,hG,close⟩:=Sep.open X (5+i) (T:=blkTh b vs t) (by
    rw [List.getElem?_append_right (by show 5≤5+i;omega)]
    show M[5+i - 5]?=_
    rw [show 5+i - 5=i by omega]
    exact hi)
  have hb:Blk W b vs t:=hG2
  have h:=close (M:=[blkTh b (vs.setIfInBounds j v) t]) (F':=G) ((Only.refl G W).setCell (fun _=>(hG1 _).2 rfl) v) (SepL.one ⟨hG1,hb.set j v⟩) (fun n hn=>.inl hn)
  have e:(mList A st++M).take (5+i)++([blkTh b (vs.setIfInBounds j v) t]++(mList A st++M).drop (5+i+1))=mList A st++M.set i (blkTh b (vs.setIfInBounds j v) t):=by
    rw [List.take_append,List.drop_append,show (mList A st).length=5 from rfl,List.take_of_length_le (by show 5≤5+i;omega),List.drop_of_length_le (by show 5≤5+i+1;omega),show 5+i - 5=i by omega,show 5+i+1 - 5=i+1 by omega,List.set_eq_take_append_cons_drop,if_pos hlt]
    simp
  unfold MFX
  rw [← e]
  exact h
theorem MFX.swap {T1 T2:Th} (X:MFX F w A st (T1::T2::M) W):MFX F w A st (T2::T1::M) W:=Sep.perm X ((List.Perm.swap _ _ _).append_left _)
theorem MFX.fill {ao:Option Addr} {l:List Fil} (X:MFX F w A st M W) (i:Nat) (hi:M[i]?=some (fillTh ao l)):FillAt W ao l:=by
  obtain ⟨G,h⟩:=Sep.look X (5+i) (T:=fillTh ao l) (by
    rw [List.getElem?_append_right (by show 5≤5+i;omega)]
    show M[5+i - 5]?=_
    rw [show 5+i - 5=i by omega]
    exact hi)
  exact h.2
theorem MFX.newFills {ao:Option Addr} {l:List Fil} (X:MFX F w A st M W) (hx:Ex W W') (h:FillAt W' ao l) (hn:∀ b off,ao=some ⟨b,off,none⟩→W.heap.size≤b):MFX F w A st (fillTh ao l::M) W' :=
  X.add (M':=[fillTh ao l]) hx (SepL.one (F:=TF ao l) ⟨fun n=>Iff.rfl,h⟩) (fun n ⟨_,off,e⟩=>hn n off e)
theorem MFX.lots {k:Nat} (X:MFX F w A st M W) (hk:k<3):∃ ao cap,W.cell? ⟨A.bp k,0,none⟩=some (.slice ao (st.b k).length cap)∧(st.b k).length≤cap∧LotsAt W ao (st.b k).length (st.b k)∧A.bp k<W.heap.size:=by
  obtain ⟨own,hb⟩:=X.bookAt hk
  obtain ⟨ao,cap,c0,hc,_,_,hl,_⟩:=hb.slice
  exact ⟨ao,cap,c0,hc,hl,hb.lt⟩
end
def resM (p v:Int) (o:Bool) (f:Value):Array Value:=#[.int .i64 p,.int .i64 v,.bool o,f]
def MRunTo (F:Nat→Prop) (w:World) (A:MA) (r:RunR) (st':FSt) (e:Ending) (w':World):Prop :=
  ∃ ao cap,e=.returned (.agg #[.int .i64 r.price,.int .i64 r.vol,.bool r.isOpen,.slice ao r.fills.length cap])∧LeavesL [mTh A st',fillTh ao r.fills] F w w'
theorem MRunTo.mk {F:Nat→Prop} {w w':World} {A:MA} {r:RunR} {st':FSt} {p v:Int} {o:Bool} {fo:Option Addr} {fc:Nat} {l:List Fil} (h1:r.price=p) (h2:r.vol=v) (h3:r.isOpen=o) (h4:r.fills=l) (h:LeavesL [mTh A st',fillTh fo l] F w w') :
    MRunTo F w A r st' (.returned (.agg #[.int .i64 p,.int .i64 v,.bool o,.slice fo l.length fc])) w':=by
  subst h1 h2 h3 h4
  exact ⟨fo,fc,rfl,h⟩
section
variable {w W W':World} {F:Nat→Prop} {A:MA} {st:FSt} {M:List Th}
theorem only_setRow {b:Nat} {cur cs:Array Value} {t:TypeId} {G:Nat→Prop} (hb:Blk W b cur t) (hG:G b):Only G W (W.setRow b cs) :=
  ⟨rfl,rfl,rfl,by simp,fun n _ hn=>setRow_other W b n _ (fun e=>hn (e▸hG))⟩
theorem MFX.runEnd {rb:Nat} {vs:Array Value} {fo:Option Addr} {l:List Fil} {t:TypeId} (X:MFX F w A st [fillTh fo l,blkTh rb vs t] W) (cs:Array Value) :
    LeavesL [mTh A st,fillTh fo l] F w (W.setRow rb cs)∧Blk (W.setRow rb cs) rb cs t∧Blk W rb vs t:=by
  obtain ⟨G,⟨hG1,hG2⟩,hG,close⟩:=Sep.open X 6 (T:=blkTh rb vs t) rfl
  have hb:Blk W rb vs t:=hG2
  have hb2:Blk (W.setRow rb cs) rb cs t:=setRow_heap W rb vs cs t _ hb
  have h2:MFX F w A st [fillTh fo l,blkTh rb cs t] (W.setRow rb cs):=close (M:=[blkTh rb cs t]) (F':=G) (only_setRow hb ((hG1 _).2 rfl)) (SepL.one ⟨hG1,hb2⟩) (fun n hn=>.inl hn)
  exact ⟨(h2.less (M':=[fillTh fo l]) ⟨_,List.Perm.refl _⟩).two,hb2,hb⟩
theorem lot5 {W:World} {g off:Nat} {l:List Lot} {q:Nat} {x:Lot} (h:∀ k (hk:k<l.length) j,j<5→W.cell? ⟨g,off+k*5+j,none⟩=l[k].cells[j]?) (hq:q<l.length) (e:l[q]=x) :
    W.cell? ⟨g,off+q*5,none⟩=some (.int .i64 x.id)∧W.cell? ⟨g,off+q*5+1,none⟩=some (.int .i64 x.owner)∧W.cell? ⟨g,off+q*5+2,none⟩=some (.int .i64 x.side)∧W.cell? ⟨g,off+q*5+3,none⟩=some (.int .i64 x.price)∧W.cell? ⟨g,off+q*5+4,none⟩=some (.int .i64 x.qty):=by
  subst e
  exact ⟨h q hq 0 (by omega),h q hq 1 (by omega),h q hq 2 (by omega),h q hq 3 (by omega),h q hq 4 (by omega)⟩
theorem infoRes:(Tryz.prog.info? 57).map (·.size)=some 4:=by kernel_rfl
theorem fivePerm {α:Type} (a b c d e:α):[a,b,c,d,e].Perm ([c,e]++[a,b,d]):=by
  have h1:[a,b,c,d,e].Perm [c,a,b,d,e]:=(List.perm_middle (l₁:=[a,b]) (a:=c) (l₂:=[d,e]))
  exact h1.trans ((List.perm_middle (l₁:=[a,b,d]) (a:=e) (l₂:=[])).cons c)
theorem idIdx_mem {l:List Lot} (h:LApart l) {x:Lot} (hx:x∈l):∃ q,∃ hq:q<l.length,idIdx l x.id=(q:Int)∧l[q]=x:=by
  obtain ⟨q,hq,hf,e⟩:=find_of_mem h hx
  exact ⟨q,hq,by unfold idIdx;rw [hf],e⟩
set_option maxRecDepth 100000 in
set_option maxHeartbeats 16000000 in
theorem mrun_any (h:(mTh A st).P F w) (hO:FOk st) (hp:PInv st.p) (u:(0≤A.wd∧A.wd≤100)∧1≤A.hl∧A.hl≤1000) {k:Nat} (hk3:k<3) (seed:Int) (hs:U32 seed) :
    Calls Tryz.prog 17 #[.pointer (some ⟨A.f,0,none⟩),.int .i64 (k:Int),.int .u32 seed] w (MRunTo F w A (runR st k A.wd A.hl seed) (runS st k A.wd A.hl seed)):=by
  obtain ⟨i0,hi0,hz0,hz1,hz2⟩:=info_parts infoInt
  have hX:=MFX.start h
  have k3:(k:Int)<3:=by omega
  obtain ⟨⟨u1,u2⟩,u3,u4⟩:=u
  obtain ⟨⟨f1,f2⟩,f3,f4⟩:=hO.band k hk3
  have hlok:=(hO.book k hk3).lots
  have hlen:(st.b k).length≤60:=(hO.book k hk3).len
  obtain ⟨bf0,bf1,_⟩:=best_facts hlok (st.ref k)
  have HO:=Lib.hid hO
  have HPI:=Lib.hid hp
  have HP:=Lib.hid (fun ao cap W hl=>priceOf_any ao (st.b k).length cap (st.b k) (st.ref k) W hl hlok f1 f2)
  have HN:=Lib.hid (fun W=>nextBand_any (st.ref k) (st.left k) A.wd A.hl (bestC (st.b k) (st.ref k) 1000).price (bestC (st.b k) (st.ref k) 1000).vol W u1 u2 f1 f2 f3 f4 bf0 (fun hv=>(bf1 hv).1))
  have HLOK:=Lib.hid hlok
  have HBF:=Lib.hid bf1
  have HU32:=Lib.hid hs
  obtain ⟨p,hp1⟩:∃ p,p=(bestC (st.b k) (st.ref k) 1000).price:=⟨_,rfl⟩
  obtain ⟨v,hv⟩:∃ v,v=(bestC (st.b k) (st.ref k) 1000).vol:=⟨_,rfl⟩
  obtain ⟨n,hn⟩:∃ n,n=nextN st k A.wd A.hl:=⟨_,rfl⟩
  have hnn:bnext (st.ref k) (st.left k) A.wd A.hl p v=n:=by rw [hn,hp1,hv];rfl
  rw [← hp1,← hv] at HN
  rw [hnn] at HN
  rw [← hp1,← hv] at HBF HP
  rw [← hv] at bf0
  have hnr:=next_range (wd:=A.wd) (hl:=A.hl) hO hk3 ⟨u3,u4⟩
  rw [← hn] at hnr
  have HNR:=Lib.hid hnr
  have HPP:=Lib.hid hp1
  have HVV:=Lib.hid hv
  have HNN:=Lib.hid hn
  have bk:=hX.bookC hk3
  have hfz:=hX.restC.2.2.2
  have HX:=Lib.hid hX
  clear h hO hp hlok bf1 hp1 hv hn hnn hX hnr hs
  go_enter Tryz.func17,Tryz.ntmps17
  go_upto_region 2 with fail
  refine wp_world (R:=fun W=>MFX F w A st [blkTh w.heap.size (resM 0 0 false (.slice none 0 0)) 57] W) (HX.out.box (by repeat (first|exact Ex.refl _|refine Ex.alloc ?_ _|refine Ex.ext ?_ _ _|refine Ex.drew ?_|refine Ex.drewN ?_ _)) (by repeat (first|exact Blk.new (by first|omega|(simp [go_sem];done)|(simp [go_sem];omega))|(with_reducible exact Blk.new rfl)|(with_reducible refine Blk.drew ?_)|(with_reducible refine Blk.drewN ?_ _)|(with_reducible refine Blk.ext ?_ _ _)|(with_reducible refine Blk.alloc ?_ _))) (Nat.le_refl _)) ?_
  clear bk hfz HX
  generalize w.heap.size=rb at *
  rintro W hW
  obtain ⟨n1,n2⟩:=hW.bandC hk3
  have hfz:=hW.restC.2.2.2
  obtain ⟨ao,cap,c0,hcap,hLA,hbz⟩:=hW.lots hk3
  have HLA:=Lib.hid hLA
  have HW:=Lib.hid hW
  clear hLA hW
  go_cut [8,9] (fun x y wx=>x=.int .i64 p∧y=.int .i64 v∧MFX F w A st [blkTh rb (resM 0 0 false (.slice none 0 0)) 57] wx)
  case first =>
    go_region_with (go_at_call 51;(with_reducible refine (HP.out ao cap _ ?_).mono ?_);(focus exact HLA.out.ex (by with_reducible repeat (first|exact Ex.refl _|refine Ex.alloc ?_ _|refine Ex.ext ?_ _ _|refine Ex.drew ?_|refine Ex.drewN ?_ _)));rintro e w1 ⟨rfl,l1,d1,rfl⟩)
    all_goals go_wp2_with fail
    all_goals
      go_meet
      case rel=>exact ⟨rfl,rfl,HW.out.later (by with_reducible repeat (first|exact Ex.refl _|refine Ex.alloc ?_ _|refine Ex.ext ?_ _ _|refine Ex.drew ?_|refine Ex.drewN ?_ _))⟩
  case rest =>
    obtain ⟨rfl,rfl,hR⟩:=hcut
    obtain ⟨_,c10,c11,hfz1⟩:=hR.restC
    obtain ⟨m1,m2⟩:=hR.bandC hk3
    have HR:=Lib.hid hR
    clear hR HW HP HLA n1 n2 hfz c0 hbz
    go_upto_region 3 with fail
    go_cut [10,11] (fun x y wx=>∃ nb,x=.pointer (some ⟨nb,0,none⟩)∧y=.bool n.2.2∧MFX F w A st [blkTh nb #[.int .i64 n.1,.int .i64 n.2.1] 82,blkTh rb (resM 0 0 false (.slice none 0 0)) 57] wx)
    case first =>
      as_aux_lemma =>
      go_region_held3 (fun W=>W.cell? ⟨A.f,3+k*2,none⟩=some (.int .i64 (st.ref k))∧W.cell? ⟨A.f,3+k*2+1,none⟩=some (.int .i64 (st.left k))∧W.cell? ⟨A.f,10,none⟩=some (.int .i64 A.wd)∧W.cell? ⟨A.f,11,none⟩=some (.int .i64 A.hl))
        ((first|(with_reducible exact ⟨m1,m2,c10,c11⟩)|(simp [go_sem,↓IntWalk.iteOmega,m1,m2,c10,c11];done)))
        ((go_at_call 52;((with_reducible refine (HN.out _).mono ?_));rintro e w1 ⟨rfl,l1,d1,rfl⟩))
      all_goals go_wp2_with fail
      all_goals
        go_meet
        case rel=>exact ⟨_,rfl,rfl,HR.out.box (by with_reducible repeat (first|exact Ex.refl _|refine Ex.alloc ?_ _|refine Ex.ext ?_ _ _|refine Ex.drew ?_|refine Ex.drewN ?_ _)) (by repeat (first|exact Blk.new (by first|omega|(simp [go_sem];done)|(simp [go_sem];omega))|(with_reducible exact Blk.new rfl)|(with_reducible refine Blk.drew ?_)|(with_reducible refine Blk.drewN ?_ _)|(with_reducible refine Blk.ext ?_ _ _)|(with_reducible refine Blk.alloc ?_ _))) (by first|omega|(simp [go_sem];done)|(simp [go_sem];omega))⟩
    case rest =>
      obtain ⟨nb,rfl,rfl,hR1⟩:=hcut
      have hfz1:=hR1.restC.2.2.2
      have b0:=(hR1.blk 0 rfl).cell 0
      have b1:=(hR1.blk 0 rfl).cell 1
      have hnbz:=(hR1.blk 0 rfl).lt
      obtain ⟨m1,m2⟩:=hR1.bandC hk3
      have fz:∀ j,_:=hR1.headP.free
      simp only [List.getElem?_toArray,List.getElem?_cons_zero,List.getElem?_cons_succ] at b0 b1
      have HR1:=Lib.hid hR1
      clear hR1 HR HN c10 c11
      go_upto_region 4 with fail
      go_region
      all_goals go_upto_region 6 with fail
      refine wp_world (R:=fun W=>MFX F w A (st.setN k n.1 n.2.1) [blkTh wc.heap.size (resM p v n.2.2 (.slice none 0 0)) 57,blkTh rb (resM 0 0 false (.slice none 0 0)) 57] W) ((((HR1.out.less (M':=[blkTh rb (resM 0 0 false (.slice none 0 0)) 57]) ⟨[_],List.perm_append_comm (l₁:=[_]) (l₂:=[_])⟩).band hk3 n.1 n.2.1).later (by with_reducible repeat (first|exact Ex.refl _|refine Ex.alloc ?_ _|refine Ex.ext ?_ _ _|refine Ex.drew ?_|refine Ex.drewN ?_ _))).box (by with_reducible repeat (first|exact Ex.refl _|refine Ex.alloc ?_ _|refine Ex.ext ?_ _ _|refine Ex.drew ?_|refine Ex.drewN ?_ _)) (by repeat (first|exact Blk.new (by first|omega|(simp [go_sem];done)|(simp [go_sem];omega))|(with_reducible exact Blk.new rfl)|(with_reducible refine Blk.drew ?_)|(with_reducible refine Blk.drewN ?_ _)|(with_reducible refine Blk.ext ?_ _ _)|(with_reducible refine Blk.alloc ?_ _))) (by first|omega|(simp [go_sem];done)|(simp [go_sem];omega))) ?_
      clear b0 b1 m1 m2 fz HR1 hfz1 hnbz
      generalize wc.heap.size=ob at *
      obtain ⟨sN,hsN⟩:∃ s,s=st.setN k n.1 n.2.1:=⟨_,rfl⟩
      have hbN:sN.b k=st.b k:=by rw [hsN];rfl
      rw [← hsN]
      rintro W hW
      obtain ⟨ao,cap,c0,hcap,hLA,hbz⟩:=hW.lots hk3
      have HLA:=Lib.hid hLA
      have bo:=hW.blk 0 rfl
      have br:=hW.blk 1 rfl
      have y0:W.cell? ⟨ob,0,none⟩=some (.int .i64 p):=bo.cell 0
      have y1:W.cell? ⟨ob,1,none⟩=some (.int .i64 v):=bo.cell 1
      have y2:W.cell? ⟨ob,2,none⟩=some (.bool n.2.2):=bo.cell 2
      have y3:W.cell? ⟨ob,3,none⟩=some (.slice none 0 0):=bo.cell 3
      have yf:W.frozen? ⟨ob,3,none⟩=false:=bo.free 3
      have hobz:=bo.lt
      have hrz:=br.lt
      have z0:W.cell? ⟨rb,0,none⟩=some (.int .i64 0):=br.cell 0
      have z1:W.cell? ⟨rb,1,none⟩=some (.int .i64 0):=br.cell 1
      have z2:W.cell? ⟨rb,2,none⟩=some (.bool false):=br.cell 2
      have z3:W.cell? ⟨rb,3,none⟩=some (.slice none 0 0):=br.cell 3
      have zf:=br.free
      have HW:=Lib.hid hW
      have HSN:=Lib.hid hsN
      clear hLA hW bo br hsN
      by_cases hop:n.2.2=true∧v≠0
      · as_aux_lemma =>
        obtain ⟨ho,hv0⟩:=hop
        have hv1:0<v:=by omega
        have hv2:(v==0)=false:=by simpa using hv0
        obtain ⟨⟨pr1,pr2⟩,hvm⟩:=HBF.out hv1
        have hv6:v≤1000000:=by
          have h1:=sumOf_bounds (isDem p) (st.b k) HLOK.out.mem
          have h2:dem (st.b k) p=sumOf (isDem p) (st.b k):=rfl
          omega
        have hF:(runR st k A.wd A.hl seed).fills=fillsL (st.b k) p v seed:=by
          have e:(runR st k A.wd A.hl seed).fills=fillsL (st.b k) (bestC (st.b k) (st.ref k) 1000).price (bestC (st.b k) (st.ref k) 1000).vol seed:=if_pos ⟨by rw [HNN.out] at ho;exact ho,by rw [← HVV.out];exact hv0⟩
          rw [e,HPP.out,HVV.out]
        have hsm:=fills_small HLOK.out p v seed
        have hN:FOk sN:=by rw [HSN.out];exact HO.out.setN k n.1 n.2.1 HNR.out.1 HNR.out.2
        have hTI:TInv k p sN (buysOf (sN.b k) (fillsL (st.b k) p v seed)) (sellsOf (sN.b k) (fillsL (st.b k) p v seed)):=by
          rw [← hbN]
          exact TInv.start hN hk3 bf0 (by rw [hbN];exact Int.le_of_eq hvm)
        have hPN:PInv sN.p:=by rw [HSN.out];exact HPI.out
        have hlb:(buysOf (sN.b k) (fillsL (st.b k) p v seed)).length≤(fillsL (st.b k) p v seed).length:=List.length_filter_le _ _
        have hls:(sellsOf (sN.b k) (fillsL (st.b k) p v seed)).length≤(fillsL (st.b k) p v seed).length:=List.length_filter_le _ _
        have hS:runS st k A.wd A.hl seed=unitAll k p (unitsF (buysOf (sN.b k) (fillsL (st.b k) p v seed))) (unitsF (sellsOf (sN.b k) (fillsL (st.b k) p v seed))) sN:=by
          have e:runS st k A.wd A.hl seed=tradeAll k (bestC (st.b k) (st.ref k) 1000).price ((runR st k A.wd A.hl seed).fills.length+(runR st k A.wd A.hl seed).fills.length) (st.setN k (nextN st k A.wd A.hl).1 (nextN st k A.wd A.hl).2.1) (buysOf (st.b k) (runR st k A.wd A.hl seed).fills) (sellsOf (st.b k) (runR st k A.wd A.hl seed).fills):=rfl
          rw [e,hF,← HNN.out,← HPP.out,← HSN.out,← hbN]
          exact trade_units hk3 (by omega) _ _ _ _ (by rw [hbN];rw [hbN] at hTI;exact hTI) hPN (by rw [hbN];rw [hbN] at hlb hls;omega)
        have hP:(runR st k A.wd A.hl seed).price=p:=HPP.out.symm
        have hV:(runR st k A.wd A.hl seed).vol=v:=HVV.out.symm
        have hO2:(runR st k A.wd A.hl seed).isOpen=true:=by rw [← ho,HNN.out];rfl
        have HFN:=Lib.hid (fun ao cap W hl=>refFills_any ao (st.b k).length cap (st.b k) p v seed W hl HLOK.out HU32.out pr1 pr2 bf0 hv6)
        rw [← hbN] at HFN hF hS hTI hsm
        have HF2:=Lib.hid hF;clear hF
        have HP2:=Lib.hid hP;clear hP
        have HV2:=Lib.hid hV;clear hV
        have HO2:=Lib.hid hO2;clear hO2
        rw [ho] at y2
        rw [ho] at HW
        rw [ho]
        clear hvm hv0 ho hlb hls
        rw [← hbN] at hlen
        clear hbN
        generalize fillsL (sN.b k) p v seed=Fi at *
        have HFL:=Lib.hid (fun f (hf:f∈Fi)=>fill_lot hk3 hTI hf)
        have HTU:=Lib.hid hTI.units
        have hap:=(hN.book k hk3).apart
        have HAP:=Lib.hid hap
        have HPN:=Lib.hid hPN
        have hbl:=fun (j m:Nat) (hj:j≤Fi.length) (hm:m≤1000)=>unB_len (L:=sN.b k) (fun f hf=>(HFL.out f hf).choose_spec.2.2.2) hj hm
        have hsl:=fun (j m:Nat) (hj:j≤Fi.length) (hm:m≤1000)=>unS_len (L:=sN.b k) (fun f hf=>(HFL.out f hf).choose_spec.2.2.2) hj hm
        have HBL:=Lib.hid hbl
        have HSL:=Lib.hid hsl
        obtain ⟨fin,hfin⟩:∃ fin,fin=runS st k A.wd A.hl seed:=⟨_,rfl⟩
        rw [← hfin] at hS
        have HFIN:=Lib.hid hfin
        have HS2:=Lib.hid hS;clear hS
        clear hTI hN hap hPN hbl hsl hfin HO HPI HBF HLOK HNR
        go_upto_region 9 with (go_at_call 53;refine (HFN.out _ _ _ HLA.out).mono ?_;rintro e w5 ⟨⟨fo,fc,rfl,hfc,hfa,hfb⟩,hx5⟩;have X5:=(HW.out.newFills hx5 hfa hfb).setBlk 1 rfl 3 (.slice fo Fi.length fc);have b3:=hx5.below.cell (p:=⟨ob,3,none⟩) hobz;have b4:w5.frozen? ⟨ob,3,none⟩=false:=(HW.out.later hx5).blk 0 rfl |>.free 3;rw [y3] at b3)
        refine wp_world (R:=fun W=>MFX F w A sN [fillTh fo Fi,blkTh ob (resM p v true (.slice fo Fi.length fc)) 57,blkTh rb (resM 0 0 false (.slice none 0 0)) 57] W) X5 ?_
        clear X5 b3 b4 hx5 hfa hfb y0 y1 y2 y3 yf hobz hrz z0 z1 z2 z3 zf HLA c0 hcap hbz HW
        rintro W6 hX6
        have HX6:=Lib.hid ((hX6.row (u:=.slice none 0 0) (r:=irowRd (unS (sN.b k) Fi 0 0) (.slice none 0 0)) (Ex.refl _) (by rw [unS_zero];exact RowAt.nil _ _ _) (fun g hg=>by cases hg)).row (u:=.slice none 0 0) (r:=irowRd (unB (sN.b k) Fi 0 0) (.slice none 0 0)) (Ex.refl _) (by rw [unB_zero];exact RowAt.nil _ _ _) (fun g hg=>by cases hg))
        clear hX6
        go_wp2_with fail
        go_loopw [13,14,15] (fun v1 u1 i wr=>∃ (j:Nat) (v2 u2:Value),v2=v1∧u2=u1∧j≤Fi.length∧i=.int .i64 (j:Int)∧MFX F w A sN [rdTh (irowRd (unB (sN.b k) Fi j 0) v2),rdTh (irowRd (unS (sN.b k) Fi j 0) u2),fillTh fo Fi,blkTh ob (resM p v true (.slice fo Fi.length fc)) 57,blkTh rb (resM 0 0 false (.slice none 0 0)) 57] wr) (fun _ _ i _=>Fi.length - (intOf i).toNat)
        case atStart=>exact ⟨0,_,_,rfl,rfl,Nat.zero_le _,rfl,HX6.out⟩
        case round =>
          obtain ⟨j,v1,u1,rfl,rfl,hj,rfl,hXr⟩:=hrel
          clear HX6
          have b3:wr.cell? ⟨ob,3,none⟩=some (.slice fo Fi.length fc):=(hXr.blk 3 rfl).cell 3
          have obz:=(hXr.blk 3 rfl).lt
          by_cases hlt:j<Fi.length
          · obtain ⟨g,off,rfl,hgz,hcc⟩:=hXr.fill 2 rfl (by omega)
            have a0:=hcc j hlt 0 (by omega)
            have a1:=hcc j hlt 1 (by omega)
            simp only [Fil.cells,List.getElem?_cons_zero,List.getElem?_cons_succ,Nat.add_zero] at a0 a1
            obtain ⟨x,hxm,hxi,q1,q2⟩:=HFL.out Fi[j] (List.getElem_mem hlt)
            obtain ⟨q,hq,hqi,hqx⟩:=idIdx_mem HAP.out hxm
            have hgr:=getR_mem HAP.out hxm
            have hnB:=unB_next (L:=sN.b k) hlt
            have hnS:=unS_next (L:=sN.b k) hlt
            have hsB:=fun m h=>unB_snoc (L:=sN.b k) hlt m h
            have hsS:=fun m h=>unS_snoc (L:=sN.b k) hlt m h
            rw [← hxi,hgr] at hsB hsS
            have HFD:=Lib.hid (fun own W' (h:BookAt own 1 W' (A.bp k) (sN.b k))=>mfind_any h Fi[j].id)
            rw [← hxi,hqi] at HFD
            rw [← hxi] at a0
            obtain ⟨qn,hqn⟩:∃ qn:Nat,Fi[j].qty=(qn:Int):=⟨Fi[j].qty.toNat,by omega⟩
            rw [hqn] at a1 hnB hnS q1 q2
            rw [Int.toNat_natCast] at hnB hnS
            have hq1000:qn≤1000:=by omega
            have HFI:=Lib.hid (show Fi[j].id=x.id from hxi.symm)
            have HFQ:=Lib.hid hqn
            have HNB:=Lib.hid hnB
            have HNS:=Lib.hid hnS
            have HSB:=Lib.hid hsB
            have HSS:=Lib.hid hsS
            have HXr:=Lib.hid hXr
            have HQX:=Lib.hid hqx
            have hjl:j≤Fi.length:=Nat.le_of_lt hlt
            clear hnB hnS hsB hsS hXr hqx hgr hxi hqi hqn hcc
            go_wp2_with fail
            refine ((HXr.out.later (by with_reducible repeat (first|exact Ex.refl _|refine Ex.alloc ?_ _|refine Ex.ext ?_ _ _|refine Ex.drew ?_|refine Ex.drewN ?_ _))).readB hk3 (fun own h=>HFD.out own _ h)).mono ?_
            rintro e w1 ⟨rfl,l1,d1,rfl⟩
            have HX1:=Lib.hid (HXr.out.later (W':=ext wr l1 d1) (by with_reducible repeat (first|exact Ex.refl _|refine Ex.alloc ?_ _|refine Ex.ext ?_ _ _|refine Ex.drew ?_|refine Ex.drewN ?_ _)))
            clear a0 a1 b3 hgz obz HXr HFD
            go_wp2_with fail
            go_loopw [13,14,17] (fun v1 u1 i wi=>∃ (m:Nat) (v2 u2:Value),v2=v1∧u2=u1∧m≤qn∧i=.int .i64 (m:Int)∧MFX F w A sN [rdTh (irowRd (unB (sN.b k) Fi j m) v2),rdTh (irowRd (unS (sN.b k) Fi j m) u2),fillTh (some ⟨g,off,none⟩) Fi,blkTh ob (resM p v true (.slice (some ⟨g,off,none⟩) Fi.length fc)) 57,blkTh rb (resM 0 0 false (.slice none 0 0)) 57] wi) (fun _ _ i _=>qn - (intOf i).toNat)
            case atStart=>exact ⟨0,_,_,rfl,rfl,Nat.zero_le _,rfl,HX1.out⟩
            case round =>
              obtain ⟨m,v2,u2,rfl,rfl,hm,rfl,hXi⟩:=hrel
              have b3:wr.cell? ⟨ob,3,none⟩=some (.slice (some ⟨g,off,none⟩) Fi.length fc):=(hXi.blk 3 rfl).cell 3
              have obz:=(hXi.blk 3 rfl).lt
              obtain ⟨_,_,e0,hgz,hcc⟩:=hXi.fill 2 rfl (by omega)
              cases e0
              have a0:=hcc j hlt 0 (by omega)
              have a1:=hcc j hlt 1 (by omega)
              simp only [Fil.cells,List.getElem?_cons_zero,List.getElem?_cons_succ,Nat.add_zero] at a0 a1
              rw [HFI.out] at a0
              rw [HFQ.out] at a1
              by_cases hlm:m<qn
              · obtain ⟨ao,cap,c0,hcap,⟨_,_,_,hz⟩,hbz⟩:=hXi.lots hk3
                obtain ⟨lg,lo,rfl,hlg,hlc⟩:=hz (by omega)
                obtain ⟨_,_,a2,_,_⟩:=lot5 hlc hq HQX.out
                obtain ⟨av,cv,rfl,_,_⟩:=irow_slice (hXi.rd 0 rfl)
                obtain ⟨au,cu,rfl,_,_⟩:=irow_slice (hXi.rd 1 rfl)
                have hbl:=HBL.out j m hjl (by omega)
                have hsl:=HSL.out j m hjl (by omega)
                have HXI:=Lib.hid hXi
                clear hXi hcc hz hlc
                cases hs:(x.side==0) with
                | true =>
                  as_aux_lemma =>
                  have hsn:=HSB.out m hs
                  generalize unB (sN.b k) Fi j m=BL at *
                  generalize unS (sN.b k) Fi j m=SL at *
                  have HE1:Hid (unB (sN.b k) Fi j (m+1)=BL++[x.id]):=Lib.hid hsn.1
                  have HE2:Hid (unS (sN.b k) Fi j (m+1)=SL):=Lib.hid hsn.2
                  clear hsn
                  have hw1:Ex wr (wr.alloc (.cells #[.int .i64 x.id] 3)):=(by with_reducible repeat (first|exact Ex.refl _|refine Ex.alloc ?_ _|refine Ex.ext ?_ _ _|refine Ex.drew ?_|refine Ex.drewN ?_ _))
                  go_wp2_with (at_builtin;refine wpList_append_two rfl (.tmp 122) (.tmp 129) 110 110 rfl 3 i0 _ 1 8 Tryz.underlying110 hi0 hz0 hz1 hz2 rfl (.slice av BL.length cv) (.slice (some ⟨wr.heap.size,0,none⟩) 1 1) BL.length 1 (BL.map (Value.int .i64)) [.int .i64 x.id] rfl rfl ?_ ?_ ?_ ?_ ?_)
                  focus exact (HXI.out.later hw1).rd 0 rfl
                  focus exact (Src.block Tryz.underlying110 1 1 (cs:=#[.int .i64 x.id]) (t:=3) (fr:=(0,0)) (heap_new (by simp [go_sem])) (by simp) (by simp [Value.oneCell']))
                  focus (unfold maxLen;omega)
                  focus omega
                  intro v' w' hrow hgrow hown
                  have H2:=Lib.hid ((HXI.out.later hw1).grow (r':=irowRd (BL++[x.id]) v') hgrow hown (by first|omega|(simp [go_sem];done)|(simp [go_sem];omega)) (irow_app hrow))
                  clear hrow hgrow hown
                  go_wp2_with fail
                  go_roundw
                  case measure=>simp [intOf];omega
                  case rel=>exact ⟨m+1,_,_,rfl,rfl,by omega,by go_num,by rw [HE1.out,HE2.out];exact H2.out⟩
                | false =>
                  as_aux_lemma =>
                  have hsn:=HSS.out m hs
                  generalize unB (sN.b k) Fi j m=BL at *
                  generalize unS (sN.b k) Fi j m=SL at *
                  have HE1:Hid (unB (sN.b k) Fi j (m+1)=BL):=Lib.hid hsn.2
                  have HE2:Hid (unS (sN.b k) Fi j (m+1)=SL++[x.id]):=Lib.hid hsn.1
                  clear hsn
                  have hw1:Ex wr (wr.alloc (.cells #[.int .i64 x.id] 3)):=(by with_reducible repeat (first|exact Ex.refl _|refine Ex.alloc ?_ _|refine Ex.ext ?_ _ _|refine Ex.drew ?_|refine Ex.drewN ?_ _))
                  go_wp2_with (at_builtin;refine wpList_append_two rfl (.tmp 131) (.tmp 138) 110 110 rfl 3 i0 _ 1 8 Tryz.underlying110 hi0 hz0 hz1 hz2 rfl (.slice au SL.length cu) (.slice (some ⟨wr.heap.size,0,none⟩) 1 1) SL.length 1 (SL.map (Value.int .i64)) [.int .i64 x.id] rfl rfl ?_ ?_ ?_ ?_ ?_)
                  focus exact (HXI.out.later hw1).rd 1 rfl
                  focus exact (Src.block Tryz.underlying110 1 1 (cs:=#[.int .i64 x.id]) (t:=3) (fr:=(0,0)) (heap_new (by simp [go_sem])) (by simp) (by simp [Value.oneCell']))
                  focus (unfold maxLen;omega)
                  focus omega
                  intro v' w' hrow hgrow hown
                  have H2:=Lib.hid (((HXI.out.later hw1).swap.grow (r':=irowRd (SL++[x.id]) v') hgrow hown (by first|omega|(simp [go_sem];done)|(simp [go_sem];omega)) (irow_app hrow)).swap)
                  clear hrow hgrow hown
                  go_wp2_with fail
                  go_roundw
                  case measure=>simp [intOf];omega
                  case rel=>exact ⟨m+1,_,_,rfl,rfl,by omega,by go_num,by rw [HE1.out,HE2.out];exact H2.out⟩
              · obtain rfl:m=qn:=by omega
                have HXI:=Lib.hid hXi
                clear hXi hcc
                go_wp2_with fail
                go_roundw
                case measure=>simp [intOf];omega
                case rel=>exact ⟨j+1,_,_,rfl,rfl,by omega,by go_num,by rw [← HNB.out,← HNS.out];exact HXI.out.later (by with_reducible repeat (first|exact Ex.refl _|refine Ex.alloc ?_ _|refine Ex.ext ?_ _ _|refine Ex.drew ?_|refine Ex.drewN ?_ _))⟩
          · obtain rfl:j=Fi.length:=by omega
            have eB:unB (sN.b k) Fi Fi.length 0=unitsF (buysOf (sN.b k) Fi):=by rw [unB_zero,List.take_length]
            have eS:unS (sN.b k) Fi Fi.length 0=unitsF (sellsOf (sN.b k) Fi):=by rw [unS_zero,List.take_length]
            rw [eB,eS] at hXr
            have hbl:=HBL.out Fi.length 0 (Nat.le_refl _) (by omega)
            have hsl:=HSL.out Fi.length 0 (Nat.le_refl _) (by omega)
            rw [eB] at hbl
            rw [eS] at hsl
            have HXr:=Lib.hid hXr
            obtain ⟨av,cv,rfl,_,_⟩:=irow_slice (hXr.rd 0 rfl)
            obtain ⟨au,cu,rfl,_,_⟩:=irow_slice (hXr.rd 1 rfl)
            clear hXr eB eS HBL HSL HFL HFN HNN HAP
            generalize unitsF (buysOf (sN.b k) Fi)=BU at *
            generalize unitsF (sellsOf (sN.b k) Fi)=SU at *
            go_wp2_with fail
            go_loopw [18] (fun i wr=>∃ (m:Nat) (s':FSt),m≤BU.length∧m≤SU.length∧i=.int .i64 (m:Int)∧TInv k p s' ((BU.drop m).map oneF) ((SU.drop m).map oneF)∧PInv s'.p∧unitAll k p (BU.drop m) (SU.drop m) s'=fin∧MFX F w A s' [rdTh (irowRd BU (.slice av BU.length cv)),rdTh (irowRd SU (.slice au SU.length cu)),fillTh fo Fi,blkTh ob (resM p v true (.slice fo Fi.length fc)) 57,blkTh rb (resM 0 0 false (.slice none 0 0)) 57] wr) (fun i _=>BU.length - (intOf i).toNat)
            case atStart=>exact ⟨0,sN,Nat.zero_le _,Nat.zero_le _,rfl,HTU.out,HPN.out,HS2.out.symm,HXr.out⟩
            case round =>
              obtain ⟨m,s',hm1,hm2,rfl,hT,hpv,hun,hXs⟩:=hrel
              clear HXr
              have HXS:=Lib.hid hXs
              by_cases h12:m<BU.length∧m<SU.length
              · as_aux_lemma =>
                obtain ⟨h1,h2⟩:=h12
                have eB:BU.drop m=BU[m]::BU.drop (m+1):=List.drop_eq_getElem_cons h1
                have eS:SU.drop m=SU[m]::SU.drop (m+1):=List.drop_eq_getElem_cons h2
                rw [eB,eS] at hT hun
                obtain ⟨x,y,l1,l2,hx,hy,gx,gy,ix,iy,hE,t1,t2,hTS,hPI,hT1,hU⟩:=hT.unit hpv hk3 (by omega)
                have hap:=(hT.ok.book k hk3).apart
                obtain ⟨qx,hqx,hix,ex⟩:=idIdx_mem hap hx
                obtain ⟨qy,hqy,hiy,ey⟩:=idIdx_mem hap hy
                have HFX:=Lib.hid (fun own W' (h:BookAt own 1 W' (A.bp k) (s'.b k))=>mfind_any h x.id)
                have HFY:=Lib.hid (fun own W' (h:BookAt own 1 W' (A.bp k) (s'.b k))=>mfind_any h y.id)
                rw [hix] at HFX
                rw [hiy] at HFY
                have hq:tradeQ s'.p (k:Int) x y p 1=tradeF s'.p x.owner.toNat y.owner.toNat k (x.price*1) (p*1) 1:=by
                  unfold tradeQ
                  rw [if_pos hE,Int.toNat_natCast]
                have HTR:=Lib.hid (fun own W' (h:PurseAt own 1 W' A.pp s'.p)=>mtrade_any h (k:Int) x y p 1 (by rw [hq];exact hPI))
                rw [hq,hE] at HTR
                obtain ⟨P',hP'⟩:∃ P',P'=tradeF s'.p x.owner.toNat y.owner.toNat k (x.price*1) (p*1) 1:=⟨_,rfl⟩
                rw [← hP'] at HTR hTS hPI
                have HTX:=Lib.hid (fun own W' (h:BookAt own 1 W' (A.bp k) (s'.b k))=>mtake_any h x.id 1)
                have HTY:=Lib.hid (fun own W' (h:BookAt own 1 W' (A.bp k) l1)=>mtake_any h y.id 1)
                rw [t1] at HTX
                rw [t2] at HTY
                have HTS:=Lib.hid hTS
                have hPT:PInv (tradeS s' k p 1 x y).p:=by rw [hTS];exact hPI
                have HPT:=Lib.hid hPT
                have HT1:=Lib.hid hT1
                have HUN:=Lib.hid (hU.symm.trans hun)
                have HIX:=Lib.hid ix
                have HIY:=Lib.hid iy
                have HEX:=Lib.hid ex
                have HEY:=Lib.hid ey
                obtain ⟨gb,gbo,rfl,hgb,r0⟩:=irow_at (hXs.rd 0 rfl) h1
                obtain ⟨gs,gso,rfl,hgs,r1⟩:=irow_at (hXs.rd 1 rfl) h2
                rw [← ix] at r0
                rw [← iy] at r1
                obtain ⟨ao,cap,c0,hcap,⟨_,hl60,_,hz⟩,hbz⟩:=hXs.lots hk3
                obtain ⟨lg,lo,rfl,hlg,hlc⟩:=hz (by omega)
                obtain ⟨x0,x1,x2,x3,x4⟩:=lot5 hlc hqx ex
                clear hXs hT hpv hun eB eS hx hy gx gy ix iy hE t1 t2 hTS hPI hT1 hU hap hix hiy ex ey hq hP' hPT hz hlc
                go_upto_region 24 with fail
                go_cut [19] (fun z wx=>∃ xb,z=.pointer (some ⟨xb,0,none⟩)∧MFX F w A s' [blkTh xb (lotA x) 44,rdTh (irowRd BU (.slice (some ⟨gb,gbo,none⟩) BU.length cv)),rdTh (irowRd SU (.slice (some ⟨gs,gso,none⟩) SU.length cu)),fillTh fo Fi,blkTh ob (resM p v true (.slice fo Fi.length fc)) 57,blkTh rb (resM 0 0 false (.slice none 0 0)) 57] wx)
                case first =>
                  as_aux_lemma =>
                  go_region_held3 (fun W=>W.cell? ⟨A.bp k,0,none⟩=some (.slice (some ⟨lg,lo,none⟩) (s'.b k).length cap)∧W.cell? ⟨gb,gbo+m,none⟩=some (.int .i64 x.id)∧W.cell? ⟨lg,lo+qx*5,none⟩=some (.int .i64 x.id)∧W.cell? ⟨lg,lo+qx*5+1,none⟩=some (.int .i64 x.owner)∧W.cell? ⟨lg,lo+qx*5+2,none⟩=some (.int .i64 x.side)∧W.cell? ⟨lg,lo+qx*5+3,none⟩=some (.int .i64 x.price)∧W.cell? ⟨lg,lo+qx*5+4,none⟩=some (.int .i64 x.qty))
                    ((first|(with_reducible exact ⟨c0,r0,x0,x1,x2,x3,x4⟩)|(simp [go_sem,↓IntWalk.iteOmega,c0,r0,x0,x1,x2,x3,x4];done)))
                    ((go_at_call 37;((with_reducible refine ((HXS.out.later ?_).readB hk3 (fun own h=>HFX.out own _ h)).mono ?_));(focus ((repeat (first|(with_reducible exact Ex.refl _)|(with_reducible refine Ex.alloc ?_ _)|(with_reducible refine Ex.ext ?_ _ _)|(with_reducible refine Ex.drew ?_)|(with_reducible refine Ex.drewN ?_ _)));done));rintro e w3 ⟨rfl,l3,d3,rfl⟩))
                  all_goals go_wp2_with fail
                  all_goals
                    go_meet
                    case rel=>exact ⟨_,rfl,HXS.out.box (by with_reducible repeat (first|exact Ex.refl _|refine Ex.alloc ?_ _|refine Ex.ext ?_ _ _|refine Ex.drew ?_|refine Ex.drewN ?_ _)) (by repeat (first|exact Blk.new (by first|omega|(simp [go_sem];done)|(simp [go_sem];omega))|(with_reducible exact Blk.new rfl)|(with_reducible refine Blk.drew ?_)|(with_reducible refine Blk.drewN ?_ _)|(with_reducible refine Blk.ext ?_ _ _)|(with_reducible refine Blk.alloc ?_ _))) (by first|omega|(simp [go_sem];done)|(simp [go_sem];omega))⟩
                case rest =>
                  obtain ⟨xb,rfl,hXa⟩:=hcut
                  have HXA:=Lib.hid hXa
                  obtain ⟨_,_,e0,hgs2,r1'⟩:=irow_at (hXa.rd 2 rfl) h2
                  cases e0
                  rw [← HIY.out] at r1'
                  obtain ⟨ao2,cap2,c0',hcap2,⟨_,_,_,hz2⟩,hbz2⟩:=hXa.lots hk3
                  obtain ⟨lg2,lo2,rfl,hlg2,hlc2⟩:=hz2 (by omega)
                  obtain ⟨y0,y1,y2,y3,y4⟩:=lot5 hlc2 hqy HEY.out
                  have hxz:=(hXa.blk 0 rfl).lt
                  clear hXa hz2 hlc2 c0 r0 r1 x0 x1 x2 x3 x4 hgb hgs hlg hcap hbz HXS HFX
                  go_upto_region 25 with fail
                  go_cut [20] (fun z wx=>∃ yb,z=.pointer (some ⟨yb,0,none⟩)∧MFX F w A s' [blkTh yb (lotA y) 44,blkTh xb (lotA x) 44,rdTh (irowRd BU (.slice (some ⟨gb,gbo,none⟩) BU.length cv)),rdTh (irowRd SU (.slice (some ⟨gs,gso,none⟩) SU.length cu)),fillTh fo Fi,blkTh ob (resM p v true (.slice fo Fi.length fc)) 57,blkTh rb (resM 0 0 false (.slice none 0 0)) 57] wx)
                  case first =>
                    as_aux_lemma =>
                    go_region_held3 (fun W=>W.cell? ⟨A.bp k,0,none⟩=some (.slice (some ⟨lg2,lo2,none⟩) (s'.b k).length cap2)∧W.cell? ⟨gs,gso+m,none⟩=some (.int .i64 y.id)∧W.cell? ⟨lg2,lo2+qy*5,none⟩=some (.int .i64 y.id)∧W.cell? ⟨lg2,lo2+qy*5+1,none⟩=some (.int .i64 y.owner)∧W.cell? ⟨lg2,lo2+qy*5+2,none⟩=some (.int .i64 y.side)∧W.cell? ⟨lg2,lo2+qy*5+3,none⟩=some (.int .i64 y.price)∧W.cell? ⟨lg2,lo2+qy*5+4,none⟩=some (.int .i64 y.qty))
                      ((first|(with_reducible exact ⟨c0',r1',y0,y1,y2,y3,y4⟩)|(simp [go_sem,↓IntWalk.iteOmega,c0',r1',y0,y1,y2,y3,y4];done)))
                      ((go_at_call 37;((with_reducible refine ((HXA.out.later ?_).readB hk3 (fun own h=>HFY.out own _ h)).mono ?_));(focus ((repeat (first|(with_reducible exact Ex.refl _)|(with_reducible refine Ex.alloc ?_ _)|(with_reducible refine Ex.ext ?_ _ _)|(with_reducible refine Ex.drew ?_)|(with_reducible refine Ex.drewN ?_ _)));done));rintro e w3 ⟨rfl,l3,d3,rfl⟩))
                    all_goals go_wp2_with fail
                    all_goals
                      go_meet
                      case rel=>exact ⟨_,rfl,HXA.out.box (by with_reducible repeat (first|exact Ex.refl _|refine Ex.alloc ?_ _|refine Ex.ext ?_ _ _|refine Ex.drew ?_|refine Ex.drewN ?_ _)) (by repeat (first|exact Blk.new (by first|omega|(simp [go_sem];done)|(simp [go_sem];omega))|(with_reducible exact Blk.new rfl)|(with_reducible refine Blk.drew ?_)|(with_reducible refine Blk.drewN ?_ _)|(with_reducible refine Blk.ext ?_ _ _)|(with_reducible refine Blk.alloc ?_ _))) (by first|omega|(simp [go_sem];done)|(simp [go_sem];omega))⟩
                  case rest =>
                    obtain ⟨yb,rfl,hXb⟩:=hcut
                    have HXB:=Lib.hid hXb
                    obtain ⟨c9,_,_,hfz⟩:=hXb.restC
                    obtain ⟨y0',y1',y2',y3',y4'⟩:=(hXb.blk 0 rfl).lot
                    obtain ⟨x0,x1,x2,x3,x4⟩:=(hXb.blk 1 rfl).lot
                    have hyz:=(hXb.blk 0 rfl).lt
                    have hxz2:=(hXb.blk 1 rfl).lt
                    clear hXb c0' r1' y0 y1 y2 y3 y4 hgs2 hlg2 hcap2 hbz2 HXA HFY hxz
                    go_upto_region 26 with fail
                    go_cut [] (fun wx=>MFX F w A (s'.setP P') [blkTh yb (lotA y) 44,blkTh xb (lotA x) 44,rdTh (irowRd BU (.slice (some ⟨gb,gbo,none⟩) BU.length cv)),rdTh (irowRd SU (.slice (some ⟨gs,gso,none⟩) SU.length cu)),fillTh fo Fi,blkTh ob (resM p v true (.slice fo Fi.length fc)) 57,blkTh rb (resM 0 0 false (.slice none 0 0)) 57] wx)
                    case first =>
                      go_region_with (go_at_call 54;((with_reducible refine ((HXB.out.later ?_).purse (fun own h=>HTR.out own _ h)).mono ?_));(focus ((repeat (first|(with_reducible exact Ex.refl _)|(with_reducible refine Ex.alloc ?_ _)|(with_reducible refine Ex.ext ?_ _ _)|(with_reducible refine Ex.drew ?_)|(with_reducible refine Ex.drewN ?_ _)));done));rintro e w4 ⟨rfl,hX4⟩;have HX4:=Lib.hid hX4;clear hX4)
                      all_goals go_wp2_with fail
                      all_goals
                        go_meet
                        case rel=>exact HX4.out.later (by with_reducible repeat (first|exact Ex.refl _|refine Ex.alloc ?_ _|refine Ex.ext ?_ _ _|refine Ex.drew ?_|refine Ex.drewN ?_ _))
                    case rest =>
                      have HXC:=Lib.hid hcut
                      obtain ⟨x0',_⟩:=(hcut.blk 1 rfl).lot
                      have hxz3:=(hcut.blk 1 rfl).lt
                      clear hcut c9 hfz y0' y1' y2' y3' y4' x0 x1 x2 x3 x4 hyz hxz2 HXB HTR
                      go_wp2_with fail
                      refine ((HXC.out.later (by with_reducible repeat (first|exact Ex.refl _|refine Ex.alloc ?_ _|refine Ex.ext ?_ _ _|refine Ex.drew ?_|refine Ex.drewN ?_ _))).book hk3 (fun own h=>HTX.out own _ h)).mono ?_
                      rintro e w5 ⟨rfl,hX5⟩
                      have HX5:=Lib.hid hX5
                      obtain ⟨y0,_⟩:=(hX5.blk 0 rfl).lot
                      have hyz:=(hX5.blk 0 rfl).lt
                      have eL:((s'.setP P').setB k l1).b k=l1:=if_pos rfl
                      clear hX5 x0' hxz3 HXC HTX
                      go_wp2_with fail
                      refine ((HX5.out.later (by with_reducible repeat (first|exact Ex.refl _|refine Ex.alloc ?_ _|refine Ex.ext ?_ _ _|refine Ex.drew ?_|refine Ex.drewN ?_ _))).book hk3 (fun own h=>HTY.out own _ (by rw [eL] at h;exact h))).mono ?_
                      rintro e w6 ⟨rfl,hX6⟩
                      have HX6:=Lib.hid (hX6.less (M':=[rdTh (irowRd BU (.slice (some ⟨gb,gbo,none⟩) BU.length cv)),rdTh (irowRd SU (.slice (some ⟨gs,gso,none⟩) SU.length cu)),fillTh fo Fi,blkTh ob (resM p v true (.slice fo Fi.length fc)) 57,blkTh rb (resM 0 0 false (.slice none 0 0)) 57]) ⟨[blkTh yb (lotA y) 44,blkTh xb (lotA x) 44],List.perm_append_comm (l₁:=[_,_])⟩)
                      clear hX6 y0 hyz HX5 HTY eL
                      go_wp2_with fail
                      go_roundw
                      case measure=>simp [intOf];omega
                      case rel=>exact ⟨m+1,_,by omega,by omega,by go_num,HT1.out,HPT.out,HUN.out,by rw [HTS.out];exact HX6.out.later (by with_reducible repeat (first|exact Ex.refl _|refine Ex.alloc ?_ _|refine Ex.ext ?_ _ _|refine Ex.drew ?_|refine Ex.drewN ?_ _))⟩
              · as_aux_lemma =>
                have efin:s'=fin:=by
                  rw [← hun]
                  by_cases h1:m<BU.length
                  · rw [List.drop_of_length_le (show SU.length≤m by omega)]
                    exact (unit_nil_right k p _ s').symm
                  · rw [List.drop_of_length_le (show BU.length≤m by omega)]
                    exact (unit_nil_left k p _ s').symm
                subst efin
                have bo:=hXs.blk 3 rfl
                have br:=hXs.blk 4 rfl
                have y0:wr.cell? ⟨ob,0,none⟩=some (.int .i64 p):=bo.cell 0
                have y1:wr.cell? ⟨ob,1,none⟩=some (.int .i64 v):=bo.cell 1
                have y2:wr.cell? ⟨ob,2,none⟩=some (.bool true):=bo.cell 2
                have y3:wr.cell? ⟨ob,3,none⟩=some (.slice fo Fi.length fc):=bo.cell 3
                have hobz:=bo.lt
                have hrz:=br.lt
                have HEND:=Lib.hid ((hXs.less (M':=[fillTh fo Fi,blkTh rb (resM 0 0 false (.slice none 0 0)) 57]) ⟨[rdTh (irowRd BU (.slice av BU.length cv)),rdTh (irowRd SU (.slice au SU.length cu)),blkTh ob (resM p v true (.slice fo Fi.length fc)) 57],fivePerm _ _ _ _ _⟩).runEnd (resM p v true (.slice fo Fi.length fc)))
                clear hXs hT bo br
                have hcase:m=BU.length∨(m<BU.length∧m=SU.length):=by omega
                clear h12 hun hm1 hm2 hbl hsl hsm hfc hlen f1 f2 f3 f4 u1 u2 u3 u4 bf0 hv1 hv6 pr1 pr2 k3 hj HTU HPN HU32
                rcases hcase with rfl|⟨h1,rfl⟩
                · go_upto_region 29 with fail
                  have hbb:wr.heap[rb]?=some (.cells (resM 0 0 false (.slice none 0 0)) 57 (0,0)):=HEND.out.2.2
                  have h1c:∀ u∈(resM p v true (.slice fo Fi.length fc)).toList,u.oneCell'=true:=by simp [resM,Value.oneCell']
                  go_cut [] (fun wx=>wx=wr.setRow rb (resM p v true (.slice fo Fi.length fc)))
                  case first =>
                    as_aux_lemma =>
                    go_wp2_with (refine wpList_store_row rfl 57 (.tmp 6) (.tmp 193) rfl rb rfl (resM p v true (.slice fo Fi.length fc)) rfl (resM 0 0 false (.slice none 0 0)) 57 hbb infoRes rfl h1c ?_)
                    all_goals
                      go_meet
                      case rel=>exact rfl
                  case rest =>
                    subst hcut
                    rename_i K aK
                    refine aK _ _ (wp_ret ?_)
                    have hl:=HEND.out.1
                    have hb5:=HEND.out.2.1
                    generalize wr.setRow rb (resM p v true (.slice fo Fi.length fc))=W5 at *
                    clear aK hbb h1c
                    rw [← HFIN.out]
                    refine bodyPost_ret (v:=.agg (resM p v true (.slice fo Fi.length fc))) ?_ rfl (MRunTo.mk (l:=Fi) HP2.out HV2.out HO2.out HF2.out hl)
                    have q0:=hb5.cell 0
                    have q1:=hb5.cell 1
                    have q2:=hb5.cell 2
                    have q3:=hb5.cell 3
                    simp only [resM,List.getElem?_toArray,List.getElem?_cons_zero,List.getElem?_cons_succ] at q0 q1 q2 q3
                    simp only [results,Tryz.results17]
                    simp [go_sem,↓IntWalk.iteOmega,q0,q1,q2,q3,resM]
                · go_upto_region 29 with fail
                  have hbb:wr.heap[rb]?=some (.cells (resM 0 0 false (.slice none 0 0)) 57 (0,0)):=HEND.out.2.2
                  have h1c:∀ u∈(resM p v true (.slice fo Fi.length fc)).toList,u.oneCell'=true:=by simp [resM,Value.oneCell']
                  go_cut [] (fun wx=>wx=wr.setRow rb (resM p v true (.slice fo Fi.length fc)))
                  case first =>
                    as_aux_lemma =>
                    go_wp2_with (refine wpList_store_row rfl 57 (.tmp 6) (.tmp 193) rfl rb rfl (resM p v true (.slice fo Fi.length fc)) rfl (resM 0 0 false (.slice none 0 0)) 57 hbb infoRes rfl h1c ?_)
                    all_goals
                      go_meet
                      case rel=>exact rfl
                  case rest =>
                    subst hcut
                    rename_i K aK
                    refine aK _ _ (wp_ret ?_)
                    have hl:=HEND.out.1
                    have hb5:=HEND.out.2.1
                    generalize wr.setRow rb (resM p v true (.slice fo Fi.length fc))=W5 at *
                    clear aK hbb h1c
                    rw [← HFIN.out]
                    refine bodyPost_ret (v:=.agg (resM p v true (.slice fo Fi.length fc))) ?_ rfl (MRunTo.mk (l:=Fi) HP2.out HV2.out HO2.out HF2.out hl)
                    have q0:=hb5.cell 0
                    have q1:=hb5.cell 1
                    have q2:=hb5.cell 2
                    have q3:=hb5.cell 3
                    simp only [resM,List.getElem?_toArray,List.getElem?_cons_zero,List.getElem?_cons_succ] at q0 q1 q2 q3
                    simp only [results,Tryz.results17]
                    simp [go_sem,↓IntWalk.iteOmega,q0,q1,q2,q3,resM]
      · as_aux_lemma =>
        have hF:(runR st k A.wd A.hl seed).fills=[]:=if_neg (fun h=>hop ⟨by rw [HNN.out];exact h.1,by rw [HVV.out];exact h.2⟩)
        have hS:runS st k A.wd A.hl seed=sN:=by
          have e:runS st k A.wd A.hl seed=tradeAll k (bestC (st.b k) (st.ref k) 1000).price ((runR st k A.wd A.hl seed).fills.length+(runR st k A.wd A.hl seed).fills.length) (st.setN k (nextN st k A.wd A.hl).1 (nextN st k A.wd A.hl).2.1) (buysOf (st.b k) (runR st k A.wd A.hl seed).fills) (sellsOf (st.b k) (runR st k A.wd A.hl seed).fills):=rfl
          rw [e,hF,← HNN.out,← HSN.out]
          rfl
        have hP:(runR st k A.wd A.hl seed).price=p:=HPP.out.symm
        have hV:(runR st k A.wd A.hl seed).vol=v:=HVV.out.symm
        have hO2:(runR st k A.wd A.hl seed).isOpen=n.2.2:=by rw [HNN.out];rfl
        have HF2:=Lib.hid hF;clear hF
        have HS2:=Lib.hid hS;clear hS
        have HP2:=Lib.hid hP;clear hP
        have HV2:=Lib.hid hV;clear hV
        have HO2:=Lib.hid hO2;clear hO2
        have HEND:=Lib.hid (((HW.out.less (M':=[blkTh rb (resM 0 0 false (.slice none 0 0)) 57]) ⟨[_],List.perm_append_comm (l₁:=[_]) (l₂:=[_])⟩).newFills (ao:=none) (l:=[]) (Ex.refl _) (fun h=>absurd h (Nat.lt_irrefl 0)) (fun b off e=>by cases e)).runEnd (resM p v n.2.2 (.slice none 0 0)))
        have hcase:n.2.2=false∨(n.2.2=true∧(v==0)=true):=by
          cases e:n.2.2
          · exact .inl rfl
          · refine .inr ⟨rfl,?_⟩
            by_cases e2:v=0
            · simpa using e2
            · exact absurd ⟨e,e2⟩ hop
        clear hop hbN HBF HLOK HNN HPP HVV HSN HO HPI HU32 HNR HLA HW c0 hcap hbz hlen
        have HS2X:=Lib.hid HS2.out.symm
        rcases hcase with hb|⟨hb,hv0⟩
        · rw [hb] at y2 HEND HO2
          rw [hb]
          clear hb z0 z1 z2 z3 zf
          go_upto_region 7 with fail
          have hbb:W.heap[rb]?=some (.cells (resM 0 0 false (.slice none 0 0)) 57 (0,0)):=HEND.out.2.2
          have h1c:∀ u∈(resM p v false (.slice none 0 0)).toList,u.oneCell'=true:=by simp [resM,Value.oneCell']
          go_cut [] (fun wx=>wx=W.setRow rb (resM p v false (.slice none 0 0)))
          case first =>
            as_aux_lemma =>
            go_wp2_with (refine wpList_store_row rfl 57 (.tmp 6) (.tmp 78) rfl rb rfl (resM p v false (.slice none 0 0)) rfl (resM 0 0 false (.slice none 0 0)) 57 hbb infoRes rfl h1c ?_)
            all_goals
              go_meet
              case rel=>exact rfl
          case rest =>
            subst hcut
            rename_i K aK
            refine aK _ _ (wp_ret ?_)
            have hl:=HEND.out.1
            have hb5:=HEND.out.2.1
            generalize W.setRow rb (resM p v false (.slice none 0 0))=W5 at *
            clear aK hbb h1c
            rw [HS2X.out.symm]
            refine bodyPost_ret (v:=.agg (resM p v false (.slice none 0 0))) ?_ rfl (MRunTo.mk (l:=[]) HP2.out HV2.out HO2.out HF2.out hl)
            have q0:=hb5.cell 0
            have q1:=hb5.cell 1
            have q2:=hb5.cell 2
            have q3:=hb5.cell 3
            simp only [resM,List.getElem?_toArray,List.getElem?_cons_zero,List.getElem?_cons_succ] at q0 q1 q2 q3
            simp only [results,Tryz.results17]
            simp [go_sem,↓IntWalk.iteOmega,q0,q1,q2,q3,resM]
        · rw [hb] at y2 HEND HO2
          rw [hb]
          clear hb z0 z1 z2 z3 zf
          go_upto_region 7 with fail
          have hbb:W.heap[rb]?=some (.cells (resM 0 0 false (.slice none 0 0)) 57 (0,0)):=HEND.out.2.2
          have h1c:∀ u∈(resM p v true (.slice none 0 0)).toList,u.oneCell'=true:=by simp [resM,Value.oneCell']
          go_cut [] (fun wx=>wx=W.setRow rb (resM p v true (.slice none 0 0)))
          case first =>
            as_aux_lemma =>
            go_wp2_with (refine wpList_store_row rfl 57 (.tmp 6) (.tmp 78) rfl rb rfl (resM p v true (.slice none 0 0)) rfl (resM 0 0 false (.slice none 0 0)) 57 hbb infoRes rfl h1c ?_)
            all_goals
              go_meet
              case rel=>exact rfl
          case rest =>
            subst hcut
            rename_i K aK
            refine aK _ _ (wp_ret ?_)
            have hl:=HEND.out.1
            have hb5:=HEND.out.2.1
            generalize W.setRow rb (resM p v true (.slice none 0 0))=W5 at *
            clear aK hbb h1c
            rw [HS2X.out.symm]
            refine bodyPost_ret (v:=.agg (resM p v true (.slice none 0 0))) ?_ rfl (MRunTo.mk (l:=[]) HP2.out HV2.out HO2.out HF2.out hl)
            have q0:=hb5.cell 0
            have q1:=hb5.cell 1
            have q2:=hb5.cell 2
            have q3:=hb5.cell 3
            simp only [resM,List.getElem?_toArray,List.getElem?_cons_zero,List.getElem?_cons_succ] at q0 q1 q2 q3
            simp only [results,Tryz.results17]
            simp [go_sem,↓IntWalk.iteOmega,q0,q1,q2,q3,resM]
end
end Go.Proofs.YtmbboflakfokhaaGreatDoor
