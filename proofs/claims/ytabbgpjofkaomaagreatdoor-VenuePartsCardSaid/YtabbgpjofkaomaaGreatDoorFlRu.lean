import Derived.Test.YtabbgpjofkaomaaGreatDoorFlTw
import Derived.Test.YtabbgpjofkaomaaGreatDoorPrice
import Derived.Test.YtabbgpjofkaomaaGreatDoorBand
import Derived.Test.YtabbgpjofkaomaaGreatDoorJ16
set_option linter.unusedSimpArgs false
set_option linter.unusedVariables false
/- What Run of a floor computes: a batch of an item. -/
namespace Go.Proofs.YtabbgpjofkaomaaGreatDoor
open Go.RowKit
def resA (p v:Int) (o:Bool) (f:Value):Array Value:=#[.int .i64 p,.int .i64 v,.bool o,f]
def RunTo (own:Nat→Nat) (c:Nat) (w:World) (A:FlA) (st st':FSt) (p v:Int) (op:Bool) (F:List Fil) (e:Ending) (w':World):Prop :=
 ∃ ao cap,e=.returned (.tuple #[.agg #[.int .i64 p,.int .i64 v,.bool op,.slice ao F.length cap],.nilIface])∧F.length≤cap∧FillAt w' ao F∧(0<F.length→∀ b off,ao=some ⟨b,off,none⟩→w.heap.size≤b)∧Kp own 8 c w w'∧∃ o,(∀ n,n<w.heap.size→o n=own n)∧FlAt o c w' A st'∧(0<F.length→∀ b off,ao=some ⟨b,off,none⟩→o b / 8≠c)
section
variable {own:Nat→Nat} {c:Nat} {w:World} {A:FlA} {st:FSt} {E:Nat→Addr}
def TV (v:Value) (n:Nat):Prop:=v.ownBlock=some n
def TF (fo:Option Addr) (F:List Fil) (n:Nat):Prop:=0<F.length∧∃ off,fo=some ⟨n,off,none⟩
theorem GE.sub {L L':List Nat} {n:Nat} (h:GE L' n) (hs:∀ e∈L',e∈L):GE L n:=by
 obtain ⟨e,he,rfl⟩:=h
 exact ⟨e,hs e he,rfl⟩
def RnX (own:Nat→Nat) (c:Nat) (w:World) (A:FlA) (st:FSt) (E:Nat→Addr) (ob:Nat) (a b:Array Value) (ao:Option Addr) (cap:Nat) (l:List Lot) (W:World):Prop :=
 FlX own c w A st E [2,3,6,7,8,10,12] ([(ob,a,230)]++[(w.heap.size,b,230)]) (TV (.slice ao l.length cap)) W∧LotsAt W ao l.length l∧(w.heap.size<ob∧∀ g off,ao=some ⟨g,off,none⟩→w.heap.size<g∧g≠ob)
theorem RnX.later {ob:Nat} {a b:Array Value} {ao:Option Addr} {cap:Nat} {l:List Lot} {W W':World} (h:RnX own c w A st E ob a b ao cap l W) (hx:Ex W W'):RnX own c w A st E ob a b ao cap l W':=⟨h.1.later hx,h.2.1.ex hx,h.2.2⟩
theorem LotsAt.other {W W':World} {ao:Option Addr} {n:Nat} {l:List Lot} (h:LotsAt W ao n l) (hz:W.heap.size≤W'.heap.size) (hb:∀ g off,ao=some ⟨g,off,none⟩→W'.heap[g]?=W.heap[g]?):LotsAt W' ao n l:=by
 obtain ⟨h1,h2,h3,h4⟩:=h
 refine ⟨h1,h2,h3,fun h0=>?_⟩
 obtain ⟨g,off,e,hg,hc⟩:=h4 h0
 exact ⟨g,off,e,Nat.lt_of_lt_of_le hg hz,fun k hk j hj=>(World.cell?_of_block (hb g off e)).trans (hc k hk j hj)⟩
theorem FillAt.other {W W':World} {ao:Option Addr} {l:List Fil} (h:FillAt W ao l) (hz:W.heap.size≤W'.heap.size) (hb:∀ n,TF ao l n→W'.heap[n]?=W.heap[n]?):FillAt W' ao l:=fun h0=>by
 obtain ⟨g,off,e,hg,hc⟩:=h h0
 exact ⟨g,off,e,Nat.lt_of_lt_of_le hg hz,fun k hk j hj=>(World.cell?_of_block (hb g ⟨h0,off,e⟩)).trans (hc k hk j hj)⟩
theorem FillAt.keep {W W':World} {ao:Option Addr} {l:List Fil} {st':FSt} {L:List Nat} {cs:List Bl} (h:FillAt W ao l) (X:FlX own c w A st' E L cs (TF ao l) W') (hb:∀ n,TF ao l n→W'.heap[n]?=W.heap[n]?):FillAt W' ao l:=fun h0=>by
 obtain ⟨g,off,e,hg,hc⟩:=h h0
 exact ⟨g,off,e,X.fl.lt (.inr (.inr ⟨h0,off,e⟩)),fun k hk j hj=>(World.cell?_of_block (hb g ⟨h0,off,e⟩)).trans (hc k hk j hj)⟩
theorem RnX.next {ob k:Nat} {p v:Int} {o0:Bool} {f:Value} {b:Array Value} {ao:Option Addr} {cap:Nat} {l:List Lot} {W:World} (h:RnX own c w A st E ob (resA p v o0 f) b ao cap l W) (hk:k<3) (hrg:A.rg<w.heap.size) (r q:Int) (o:Bool) :
  RnX own c w A (st.setN k r q) E ob (resA p v o f) b ao cap l (((W.setCell ⟨A.rg,k*3+1,none⟩ (.int .i64 r)).setCell ⟨A.rg,k*3+1+1,none⟩ (.int .i64 q)).setCell ⟨ob,2,none⟩ (.bool o)):=by
 obtain ⟨hX,hL,hob,ha⟩:=h
 have hB:=hX.band hk r q
 have b1:=hB.has.cons.1
 have b2:=hB.has.cons.2.cons.1
 refine ⟨hB.turned (grownBy_set (grownBy_self _ _) _ _) ⟨_,List.mem_cons_self ..,rfl⟩ (Nat.le_of_lt hob) (Has.mk (by have:=b1.set 2 (.bool o);simpa [resA] using this) (Has.mk (b2.other _ _ (Nat.ne_of_lt hob)) (Has.nil _))) (fun t ht=>?_),hL.other (by simp [World.setCell]) (fun g off e=>?_),hob,ha⟩
 ·simp only [List.cons_append,List.nil_append,List.mem_cons,List.not_mem_nil,or_false] at ht
  rcases ht with rfl|rfl
  ·exact ⟨_,List.mem_cons_self ..,rfl⟩
  ·exact ⟨_,List.mem_cons_of_mem _ (List.mem_cons_self ..),rfl⟩
 ·obtain ⟨h1,h2⟩:=ha g off e
  rw [heap_setCell_other _ _ _ _ h2,heap_setCell_other _ _ _ _ (show g≠A.rg by omega),heap_setCell_other _ _ _ _ (show g≠A.rg by omega)]
theorem run_end {b:Array Value} {st':FSt} {p v:Int} {op:Bool} {F:List Fil} {fo:Option Addr} {fc:Nat} {W:World} {t:TypeId} (hX:FlX own c w A st' E [2,3,6,7,8,10,12] [(w.heap.size,b,t)] (TF fo F) W) (hF:FillAt W fo F) (hfc:F.length≤fc) (hfo:0<F.length→∀ g off,fo=some ⟨g,off,none⟩→w.heap.size≤g) :
  RunTo own c w A st st' p v op F (.returned (.tuple #[.agg #[.int .i64 p,.int .i64 v,.bool op,.slice fo F.length fc],.nilIface])) W:=by
 obtain ⟨⟨h1,o,h2,h3,h4,h5⟩,hE,hc,hl⟩:=hX
 exact ⟨fo,fc,rfl,hfc,hF,hfo,h1,o,h5,h2,fun h0 g off e=>(h4 g (.inr (.inr ⟨h0,off,e⟩))).2⟩
set_option maxRecDepth 100000 in
set_option maxHeartbeats 8000000 in
theorem frun_any (h:FlAt own c w A st) (hO:FOk st) (hE:Errs E [2,3,6,7,8,10,12] w) (hg:∀ n,GE [2,3,6,7,8,10,12] n→own n / 8≠c) (k:Nat) (hk3:k<3) (seed:Int) (hs:U32 seed) :
  Calls Tryz.prog 123 #[.pointer (some ⟨A.f,0,none⟩),.int .i64 (k:Int),.int .u32 seed] w (RunTo own c w A st (runS st k A.wd A.hl seed) (runR st k A.wd A.hl seed).price (runR st k A.wd A.hl seed).vol (runR st k A.wd A.hl seed).isOpen (runR st k A.wd A.hl seed).fills):=by
 obtain ⟨c0,_,_,_,hf⟩:=h.cells
 obtain ⟨i0,i1,i2⟩:=h.items hk3
 have hrg:=h.rowLt
 have k3:(k:Int)<3:=by omega
 have HR:=Lib.hid (fun w=>fright_any (k:Int) w)
 rw [inR_iff.2 (by omega)] at HR
 have hrule:=h.rule
 obtain ⟨⟨u1,u2⟩,u3,u4⟩:=hrule
 obtain ⟨⟨f1,f2⟩,f3,f4⟩:=hO.band k hk3
 have hlok:=(hO.book k hk3).lots
 have hlen:(st.b k).length≤60:=(hO.book k hk3).len
 obtain ⟨bf0,bf1,_⟩:=best_facts hlok (st.ref k)
 have hwf:∀ a∈st.b k,a.wf:=(h.book k hk3).2.1
 have HX:=Lib.hid (FlX.start (T:=NoT) h hE hg (fun n hn=>hn.elim))
 have HO:=Lib.hid hO
 have HP:=Lib.hid (fun ao cap W hc hE hl=>price_ok ao (st.b k).length cap (st.b k) (st.ref k) E W hc hE hl hlok f1 f2)
 have HN:=Lib.hid (fun W=>next_ok (st.ref k) (st.left k) A.wd A.hl (bestC (st.b k) (st.ref k) 1000).price (bestC (st.b k) (st.ref k) 1000).vol W u1 u2 u3 u4 f1 f2 f3 f4 bf0 (fun hv=>(bf1 hv).1))
 have HLOK:=Lib.hid hlok
 have HBF:=Lib.hid bf1
 have HWF:=Lib.hid hwf
 clear h hE hg hO hlok bf1 hwf
 obtain ⟨p,hp⟩:∃ p,p=(bestC (st.b k) (st.ref k) 1000).price:=⟨_,rfl⟩
 obtain ⟨v,hv⟩:∃ v,v=(bestC (st.b k) (st.ref k) 1000).vol:=⟨_,rfl⟩
 obtain ⟨n,hn⟩:∃ n,n=nextN st k A.wd A.hl:=⟨_,rfl⟩
 have hnn:bnext (st.ref k) (st.left k) A.wd A.hl p v=n:=by rw [hn,hp,hv];rfl
 rw [← hp,← hv] at HN
 rw [hnn] at HN
 rw [← hp,← hv] at HBF HP
 rw [← hv] at bf0
 have HPP:=Lib.hid hp
 have HVV:=Lib.hid hv
 have HNN:=Lib.hid hn
 clear hp hv hn hnn
 go_enter Tryz.func123,Tryz.ntmps123
 go_upto_region 4 with (go_at_call 60;refine (HR.out _).mono ?_;rintro e w1 ⟨rfl,l1,d1,rfl⟩)
 have HX0:Hid (FlX own c w A st E [2,3,6,7,8,10,12] ([(w.heap.size,resA 0 0 false (.slice none 0 0),230)]++[]) NoT (w.alloc (.cells #[.int .i64 0,.int .i64 0,.bool false,.slice none 0 0] 230))):=Lib.hid (HX.out.add (by with_reducible repeat (first|exact Ex.refl _|refine Ex.alloc ?_ _|refine Ex.ext ?_ _ _|refine Ex.drew ?_|refine Ex.drewN ?_ _)) (fun t ht=>by simp only [List.mem_singleton] at ht;subst ht;exact Nat.le_refl _) (Has.mk (Blk.new rfl) (Has.nil _)))
 go_wp2_with fail
 refine ((HX0.out.later (by repeat (first|exact Ex.refl _|refine Ex.alloc ?_ _|refine Ex.ext ?_ _ _|refine Ex.drew ?_|refine Ex.drewN ?_ _))).readB hk3 (fun o i hb=>lots_any hb)).mono ?_
 rintro e w1 ⟨⟨v,rfl,hv⟩,hx1⟩
 obtain ⟨ao,cap,rfl,⟨hc1,hc2,hc3⟩,hLA⟩:=lots_of_owned HWF.out (by omega) rfl hv
 have hX1:FlX own c w A st E [2,3,6,7,8,10,12] ([(w.heap.size,resA 0 0 false (.slice none 0 0),230)]++[]) (TV (.slice ao (st.b k).length cap)) w1:=(HX0.out.later (by repeat (first|exact Ex.refl _|refine Ex.alloc ?_ _|refine Ex.ext ?_ _ _|refine Ex.drew ?_|refine Ex.drewN ?_ _))).addT hx1 (fun n hn=>⟨(hv.lt n hn).1,(hv.lt n hn).2⟩)
 have hrb:=hX1.has.cons.1.lt
 have hao:∀ b off,ao=some ⟨b,off,none⟩→w.heap.size<b∧b<w1.heap.size:=fun b off e=>by
  have h1:=(hv.lt b (by rw [e];rfl)).1
  have h3:=(hv.lt b (by rw [e];rfl)).2
  have h2:(ext (w.alloc (.cells #[.int .i64 0,.int .i64 0,.bool false,.slice none 0 0] 230)) l1 d1).heap.size=w.heap.size+1+l1.length:=by simp [go_sem]
  rw [h2] at h1
  exact ⟨by omega,h3⟩
 have HAO:=Lib.hid hao
 have HX1:=Lib.hid hX1
 have HLA:=Lib.hid hLA
 clear hX1 hv hx1 hLA HX0 HX c0 i0 i1 i2 hao
 obtain ⟨_,j1,j2,hrg1⟩:=HX1.out.items hk3
 go_wp2_with fail
 refine (HP.out ao cap _ hc1 ((HX1.out.later (by repeat (first|exact Ex.refl _|refine Ex.alloc ?_ _|refine Ex.ext ?_ _ _|refine Ex.drew ?_|refine Ex.drewN ?_ _))).errs.sub (by decide)) (HLA.out.ex (by repeat (first|exact Ex.refl _|refine Ex.alloc ?_ _|refine Ex.ext ?_ _ _|refine Ex.drew ?_|refine Ex.drewN ?_ _)))).mono ?_
 rintro e w3 ⟨rfl,l3,d3,rfl⟩
 go_upto_region 9 with fail
 refine wp_world (R:=fun W=>RnX own c w A st E (w1.heap.size+l3.length) (resA p v false (.slice none 0 0)) (resA 0 0 false (.slice none 0 0)) ao cap (st.b k) W) ⟨(HX1.out.add (cs':=[(w1.heap.size+l3.length,resA p v false (.slice none 0 0),230)]) (by with_reducible repeat (first|exact Ex.refl _|refine Ex.alloc ?_ _|refine Ex.ext ?_ _ _|refine Ex.drew ?_|refine Ex.drewN ?_ _)) (fun t ht=>by simp only [List.mem_singleton] at ht;subst ht;simp only;omega) (Has.mk (by repeat (first|exact Blk.new (by first|omega|(simp [go_sem];done)|(simp [go_sem];omega))|(with_reducible exact Blk.new rfl)|(with_reducible refine Blk.drew ?_)|(with_reducible refine Blk.drewN ?_ _)|(with_reducible refine Blk.ext ?_ _ _)|(with_reducible refine Blk.alloc ?_ _))) (Has.nil _))),HLA.out.ex (by with_reducible repeat (first|exact Ex.refl _|refine Ex.alloc ?_ _|refine Ex.ext ?_ _ _|refine Ex.drew ?_|refine Ex.drewN ?_ _)),by omega,fun g off e=>by have:=HAO.out g off e;omega⟩ ?_
 have hob:w.heap.size<w1.heap.size+l3.length:=by omega
 generalize w1.heap.size+l3.length=ob at *
 rintro W hW
 obtain ⟨_,j1,j2,hrg1⟩:=hW.1.items hk3
 obtain ⟨_,_,j3,j4,hf1⟩:=hW.1.cells
 have g1:=hW.1.rowF (k*3+1)
 have g2:=hW.1.rowF (k*3+2)
 have bo:=hW.1.has.cons.1
 have o2:=bo.cell 2
 have of2:=bo.free 2
 have hobz:=bo.lt
 simp only [resA,List.getElem?_toArray,List.getElem?_cons_zero,List.getElem?_cons_succ] at o2
 have hne:ob≠A.rg:=by omega
 have HW:=Lib.hid hW
 clear hW HX1 HLA bo
 go_cut [12] (fun q wx=>q=.nilIface∧RnX own c w A (st.setN k n.1 n.2.1) E ob (resA p v n.2.2 (.slice none 0 0)) (resA 0 0 false (.slice none 0 0)) ao cap (st.b k) wx)
 case first =>
  go_region_with (go_at_call 153;((with_reducible refine (HN.out _).mono ?_));rintro e w5 ⟨rfl,l5,d5,rfl⟩)
  all_goals go_wp2_with fail
  all_goals
   go_meet
   case rel=>exact ⟨rfl,(HW.out.next hk3 hrg n.1 n.2.1 n.2.2).later (by with_reducible repeat (first|exact Ex.refl _|refine Ex.alloc ?_ _|refine Ex.ext ?_ _ _|refine Ex.drew ?_|refine Ex.drewN ?_ _))⟩
 case rest =>
  obtain ⟨rfl,hR⟩:=hcut
  have HR2:=Lib.hid hR
  have bo:=hR.1.has.cons.1
  have br:=hR.1.has.cons.2.cons.1
  have y0:=bo.cell 0
  have y1:=bo.cell 1
  have y2:=bo.cell 2
  have y3:=bo.cell 3
  have yf:=bo.free 3
  have hobz:=bo.lt
  have hrz:=br.lt
  have z0:=br.cell 0
  have z1:=br.cell 1
  have z2:=br.cell 2
  have z3:=br.cell 3
  have zf:=br.free
  simp only [resA,List.getElem?_toArray,List.getElem?_cons_zero,List.getElem?_cons_succ] at y0 y1 y2 y3 z0 z1 z2 z3
  clear hR HW j1 j2 j3 j4 g1 g2 o2 of2 bo br
  by_cases hop:n.2.2=true∧v≠0
  ·obtain ⟨ho,hv0⟩:=hop
   have hv1:0<v:=by omega
   have hv2:(v==0)=false:=by simpa using hv0
   obtain ⟨⟨pr1,pr2⟩,hvm⟩:=HBF.out hv1
   have hF:(runR st k A.wd A.hl seed).fills=fillsL (st.b k) p v seed:=by
    have e:(runR st k A.wd A.hl seed).fills=fillsL (st.b k) (bestC (st.b k) (st.ref k) 1000).price (bestC (st.b k) (st.ref k) 1000).vol seed:=if_pos ⟨by rw [HNN.out] at ho;exact ho,by rw [← HVV.out];exact hv0⟩
    rw [e,HPP.out,HVV.out]
   have hsm:=fills_small HLOK.out p v seed
   have hnr:=next_range (wd:=A.wd) (hl:=A.hl) HO.out hk3 ⟨u3,u4⟩
   rw [← HNN.out] at hnr
   have hN:=HO.out.setN k n.1 n.2.1 hnr.1 hnr.2
   have hTI:TInv k p (st.setN k n.1 n.2.1) (buysOf (st.b k) (fillsL (st.b k) p v seed)) (sellsOf (st.b k) (fillsL (st.b k) p v seed)):=TInv.start hN hk3 bf0 (Int.le_of_eq hvm)
   have HTI:=Lib.hid hTI
   have hS:runS st k A.wd A.hl seed=tradeAll k p ((fillsL (st.b k) p v seed).length+(fillsL (st.b k) p v seed).length) (st.setN k n.1 n.2.1) (buysOf (st.b k) (fillsL (st.b k) p v seed)) (sellsOf (st.b k) (fillsL (st.b k) p v seed)):=by
    have e:runS st k A.wd A.hl seed=tradeAll k (bestC (st.b k) (st.ref k) 1000).price ((runR st k A.wd A.hl seed).fills.length+(runR st k A.wd A.hl seed).fills.length) (st.setN k (nextN st k A.wd A.hl).1 (nextN st k A.wd A.hl).2.1) (buysOf (st.b k) (runR st k A.wd A.hl seed).fills) (sellsOf (st.b k) (runR st k A.wd A.hl seed).fills):=rfl
    rw [e,hF,← HNN.out,← HPP.out]
   have hP:(runR st k A.wd A.hl seed).price=p:=HPP.out.symm
   have hV:(runR st k A.wd A.hl seed).vol=v:=HVV.out.symm
   have hO2:(runR st k A.wd A.hl seed).isOpen=true:=by rw [← ho,HNN.out];rfl
   have HFN:=Lib.hid (fun W hE hl=>fills_new ao (st.b k).length cap (st.b k) p v seed E W hc1 hE hl HLOK.out pr1 pr2 bf0 (Int.le_of_eq hvm) hs)
   have HF2:=Lib.hid hF;clear hF
   have HS2:=Lib.hid hS;clear hS
   have HP2:=Lib.hid hP;clear hP
   have HV2:=Lib.hid hV;clear hV
   have HO2:=Lib.hid hO2;clear hO2
   rw [ho] at y2
   rw [ho] at HR2
   clear hTI hN hnr hvm hv0 ho
   generalize fillsL (st.b k) p v seed=F at *
   go_wp2_with fail
   refine (HFN.out _ ((HR2.out.1.later (by repeat (first|exact Ex.refl _|refine Ex.alloc ?_ _|refine Ex.ext ?_ _ _|refine Ex.drew ?_|refine Ex.drewN ?_ _))).errs.sub (by decide)) (HR2.out.2.1.ex (by repeat (first|exact Ex.refl _|refine Ex.alloc ?_ _|refine Ex.ext ?_ _ _|refine Ex.drew ?_|refine Ex.drewN ?_ _)))).mono ?_
   rintro e w5 ⟨⟨fo,fc,rfl,hfc,hfa,hfb⟩,hx5⟩
   have hx6:Ex wc w5:=Ex.trans (by repeat (first|exact Ex.refl _|refine Ex.alloc ?_ _|refine Ex.ext ?_ _ _|refine Ex.drew ?_|refine Ex.drewN ?_ _)) hx5
   have hz6:=hx6.below.size
   have HX6:=Lib.hid hx6
   have HFA:=Lib.hid hfa
   have HFB:=Lib.hid hfb
   have hbb:=HR2.out.1.has
   have bo:=hbb.cons.1.ex hx6
   have y3':=bo.cell 3
   have yf':=bo.free 3
   simp only [resA,List.getElem?_toArray,List.getElem?_cons_zero,List.getElem?_cons_succ] at y3'
   clear hx5 hx6 hfa hfb hbb bo y0 y1 y2 y3 yf z0 z1 z2 z3 zf
   have hx7:FlX own c w A (st.setN k n.1 n.2.1) E [2,3,6,7,8,10,12] ([(ob,resA p v true (.slice none 0 0),230)]++[(w.heap.size,resA 0 0 false (.slice none 0 0),230)]) (TF fo F) w5:=(HR2.out.1.less (T':=NoT) (fun t ht=>ht) (fun n hn=>hn.elim)).addT HX6.out (fun g hg=>by
    obtain ⟨h0,off,e⟩:=hg
    obtain ⟨b',off',e',hb',_⟩:=HFA.out h0
    rw [e'] at e
    cases e
    exact ⟨HFB.out _ _ e',hb'⟩)
   have hx8:FlX own c w A (st.setN k n.1 n.2.1) E [2,3,6,7,8,10,12] ([(ob,resA p v true (.slice fo F.length fc),230)]++[(w.heap.size,resA 0 0 false (.slice none 0 0),230)]) (TF fo F) (w5.setCell ⟨ob,3,none⟩ (.slice fo F.length fc)):=hx7.turned (grownBy_set (grownBy_self _ _) _ _) ⟨_,List.mem_cons_self ..,rfl⟩ (Nat.le_of_lt HR2.out.2.2.1) (Has.mk (by have:=hx7.has.cons.1.set 3 (.slice fo F.length fc);simpa [resA] using this) (Has.mk (hx7.has.cons.2.cons.1.other _ _ (Nat.ne_of_lt HR2.out.2.2.1)) (Has.nil _))) (fun t ht=>by
    simp only [List.cons_append,List.nil_append,List.mem_cons,List.not_mem_nil,or_false] at ht
    rcases ht with rfl|rfl
    ·exact ⟨_,List.mem_cons_self ..,rfl⟩
    ·exact ⟨_,List.mem_cons_of_mem _ (List.mem_cons_self ..),rfl⟩)
   have hfa8:FillAt (w5.setCell ⟨ob,3,none⟩ (.slice fo F.length fc)) fo F:=HFA.out.other (by simp [World.setCell]) (fun g hg=>heap_setCell_other _ _ _ _ (by
    obtain ⟨h0,off,e⟩:=hg
    have:=HFB.out _ _ e
    show g≠ob
    omega))
   have HTR:=Lib.hid (fun o W (h:FlAt o c W A (st.setN k n.1 n.2.1)) hE hg hF=>ftrade_any (own:=o) (w:=W) (E:=E) h hE hg k hk3 p (by omega) fo fc F hF hsm HTI.out)
   have hfb1:0<F.length→∀ g off,fo=some ⟨g,off,none⟩→w.heap.size≤g:=fun _ g off e=>by
    have:=HFB.out _ _ e
    omega
   have HFB1:=Lib.hid hfb1
   have HGT:=Lib.hid (show 0<F.length→∀ g off,fo=some ⟨g,off,none⟩→w.heap.size<g from fun _ g off e=>by
    have:=HFB.out _ _ e
    omega)
   have HF8:=Lib.hid hfa8
   have HX8:=Lib.hid hx8
   clear hx7 hx8 hfa8 hfb1
   go_upto_region 17 with fail
   refine wp_world (R:=fun W=>FlX own c w A (st.setN k n.1 n.2.1) E [2,3,6,7,8,10,12] ([(ob,resA p v true (.slice fo F.length fc),230)]++[(w.heap.size,resA 0 0 false (.slice none 0 0),230)]) (TF fo F) W∧FillAt W fo F) ⟨HX8.out,HF8.out⟩ ?_
   rintro W ⟨hW,hFW⟩
   have HWX:=Lib.hid hW
   have HWF2:=Lib.hid hFW
   have bo:=hW.has.cons.1
   have y0:=bo.cell 0
   have y1:=bo.cell 1
   have y2:=bo.cell 2
   have y3:=bo.cell 3
   simp only [resA,List.getElem?_toArray,List.getElem?_cons_zero,List.getElem?_cons_succ] at y0 y1 y2 y3
   clear hW hFW bo y3' yf' HX8 HF8 HX6 HFA HFB HR2
   go_region_with (go_at_call 155;((with_reducible refine (FlX.callT (HWX.out.later ?_) (fun o h hE hg=>HTR.out o _ h ?_ ?_ ?_)).mono ?_));(focus exact (by with_reducible repeat (first|exact Ex.refl _|refine Ex.alloc ?_ _|refine Ex.ext ?_ _ _|refine Ex.drew ?_|refine Ex.drewN ?_ _)));(focus exact hE.sub (by decide));(focus exact fun n hn=>hg n (hn.sub (by decide)));(focus exact HWF2.out.ex (by with_reducible repeat (first|exact Ex.refl _|refine Ex.alloc ?_ _|refine Ex.ext ?_ _ _|refine Ex.drew ?_|refine Ex.drewN ?_ _)));rintro e w7 ⟨rfl,hX9,hk9⟩;have bo:=hX9.has.cons.1;have br:=hX9.has.cons.2.cons.1;have d0:=bo.cell 0;have d1':=bo.cell 1;have d2:=bo.cell 2;have d3':=bo.cell 3;have z0:=br.cell 0;have z1:=br.cell 1;have z2:=br.cell 2;have z3:=br.cell 3;have zf:=br.free;simp only [resA,List.getElem?_toArray,List.getElem?_cons_zero,List.getElem?_cons_succ] at d0 d1' d2 d3' z0 z1 z2 z3;have HF9:=Lib.hid (FillAt.keep (HWF2.out.ex (by with_reducible repeat (first|exact Ex.refl _|refine Ex.alloc ?_ _|refine Ex.ext ?_ _ _|refine Ex.drew ?_|refine Ex.drewN ?_ _))) hX9 hk9);have HX9:=Lib.hid hX9;clear hX9 hk9 bo br)
   all_goals
    have hgr:w7.grownBy ((((w7.setCell ⟨w.heap.size,0,none⟩ (.int .i64 p)).setCell ⟨w.heap.size,1,none⟩ (.int .i64 v)).setCell ⟨w.heap.size,2,none⟩ (.bool true)).setCell ⟨w.heap.size,3,none⟩ (.slice fo F.length fc)) (some w.heap.size):=grownBy_set (grownBy_set (grownBy_set (grownBy_set (grownBy_self _ _) _ _) _ _) _ _) _ _
    have hx10:=(HX9.out.less (cs':=[(w.heap.size,resA 0 0 false (.slice none 0 0),230)]) (T':=TF fo F) (fun t ht=>List.mem_append_right _ ht) (fun n hn=>hn)).turned (cs':=[(w.heap.size,resA p v true (.slice fo F.length fc),230)]) (b:=w.heap.size) hgr ⟨_,List.mem_cons_self ..,rfl⟩ (Nat.le_refl _) (Has.mk (by
     have:=((((HX9.out.has.cons.2.cons.1).set 0 (.int .i64 p)).set 1 (.int .i64 v)).set 2 (.bool true)).set 3 (.slice fo F.length fc)
     simpa [resA] using this) (Has.nil _)) (fun t ht=>⟨_,List.mem_cons_self ..,by simp only [List.mem_singleton] at ht;rw [ht]⟩)
    have hf10:FillAt ((((w7.setCell ⟨w.heap.size,0,none⟩ (.int .i64 p)).setCell ⟨w.heap.size,1,none⟩ (.int .i64 v)).setCell ⟨w.heap.size,2,none⟩ (.bool true)).setCell ⟨w.heap.size,3,none⟩ (.slice fo F.length fc)) fo F:=HF9.out.other (by simp [World.setCell]) (fun g hg=>hgr.block g (HX9.out.fl.lt (.inr (.inr hg))) (fun e=>by
     obtain ⟨h0,off,e2⟩:=hg
     have h1:g=w.heap.size:=by injection e
     have h3:=HGT.out h0 g off e2
     omega))
    go_wp2_with fail
    generalize ((((w7.setCell ⟨w.heap.size,0,none⟩ (.int .i64 p)).setCell ⟨w.heap.size,1,none⟩ (.int .i64 v)).setCell ⟨w.heap.size,2,none⟩ (.bool true)).setCell ⟨w.heap.size,3,none⟩ (.slice fo F.length fc))=W5 at *
    have hb5:=hx10.has.cons.1
    have q0:=hb5.cell 0
    have q1:=hb5.cell 1
    have q2:=hb5.cell 2
    have q3:=hb5.cell 3
    simp only [resA,List.getElem?_toArray,List.getElem?_cons_zero,List.getElem?_cons_succ] at q0 q1 q2 q3
    clear hb5 hgr
    rw [HP2.out,HV2.out,HO2.out,HF2.out,HS2.out]
    refine bodyPost_ret (v:=.tuple #[.agg #[.int .i64 p,.int .i64 v,.bool true,.slice fo F.length fc],.nilIface]) ?_ rfl (run_end hx10 hf10 hfc HFB1.out)
    clear hx10 hf10
    simp only [results,Tryz.results123]
    simp [go_sem,↓IntWalk.iteOmega,q0,q1,q2,q3]
  ·have hF:(runR st k A.wd A.hl seed).fills=[]:=if_neg (fun h=>hop ⟨by rw [HNN.out];exact h.1,by rw [HVV.out];exact h.2⟩)
   have hS:runS st k A.wd A.hl seed=st.setN k n.1 n.2.1:=by
    have e:runS st k A.wd A.hl seed=tradeAll k (bestC (st.b k) (st.ref k) 1000).price ((runR st k A.wd A.hl seed).fills.length+(runR st k A.wd A.hl seed).fills.length) (st.setN k (nextN st k A.wd A.hl).1 (nextN st k A.wd A.hl).2.1) (buysOf (st.b k) (runR st k A.wd A.hl seed).fills) (sellsOf (st.b k) (runR st k A.wd A.hl seed).fills):=rfl
    rw [e,hF,← HNN.out]
    rfl
   have hP:(runR st k A.wd A.hl seed).price=p:=HPP.out.symm
   have hV:(runR st k A.wd A.hl seed).vol=v:=HVV.out.symm
   have hO2:(runR st k A.wd A.hl seed).isOpen=n.2.2:=by rw [HNN.out];rfl
   have HF2:=Lib.hid hF;clear hF
   have HS2:=Lib.hid hS;clear hS
   have HP2:=Lib.hid hP;clear hP
   have HV2:=Lib.hid hV;clear hV
   have HO2:=Lib.hid hO2;clear hO2
   have hx5:=(HR2.out.1.less (cs':=[(w.heap.size,resA 0 0 false (.slice none 0 0),230)]) (T':=NoT) (fun t ht=>List.mem_append_right _ ht) (fun n hn=>hn.elim)).turned (cs':=[(w.heap.size,resA p v n.2.2 (.slice none 0 0),230)]) (b:=w.heap.size) (grownBy_set (grownBy_set (grownBy_set (grownBy_set (grownBy_self _ _) 0 (.int .i64 p)) 1 (.int .i64 v)) 2 (.bool n.2.2)) 3 (.slice none 0 0)) ⟨_,List.mem_cons_self ..,rfl⟩ (Nat.le_refl _) (Has.mk (by
    have:=((((HR2.out.1.has.cons.2.cons.1).set 0 (.int .i64 p)).set 1 (.int .i64 v)).set 2 (.bool n.2.2)).set 3 (.slice none 0 0)
    simpa [resA] using this) (Has.nil _)) (fun t ht=>⟨_,List.mem_cons_self ..,by simp only [List.mem_singleton] at ht;rw [ht]⟩)
   have HX5:=Lib.hid hx5
   clear hx5
   have hcase:n.2.2=false∨(n.2.2=true∧(v==0)=true):=by
    cases e:n.2.2
    ·exact .inl rfl
    ·refine .inr ⟨rfl,?_⟩
     by_cases e2:v=0
     ·simpa using e2
     ·exact absurd ⟨e,e2⟩ hop
   clear hop
   rcases hcase with hb|⟨hb,hv0⟩
   ·rw [hb] at y2
    go_wp2_with fail
    rw [hb] at HX5 HO2
    generalize ((((wc.setCell ⟨w.heap.size,0,none⟩ (.int .i64 p)).setCell ⟨w.heap.size,1,none⟩ (.int .i64 v)).setCell ⟨w.heap.size,2,none⟩ (.bool false)).setCell ⟨w.heap.size,3,none⟩ (.slice none 0 0))=W5 at *
    have hb5:=HX5.out.has.cons.1
    have q0:=hb5.cell 0
    have q1:=hb5.cell 1
    have q2:=hb5.cell 2
    have q3:=hb5.cell 3
    simp only [resA,List.getElem?_toArray,List.getElem?_cons_zero,List.getElem?_cons_succ] at q0 q1 q2 q3
    clear hb5
    rw [HP2.out,HV2.out,HO2.out,HF2.out,HS2.out]
    refine bodyPost_ret (v:=.tuple #[.agg #[.int .i64 p,.int .i64 v,.bool false,.slice none 0 0],.nilIface]) ?_ rfl (run_end (F:=[]) (fo:=none) (fc:=0) (HX5.out.less (fun t ht=>ht) (fun n hn=>by obtain ⟨_,off,e⟩:=hn;cases e)) (fun h=>by simp at h) (Nat.le_refl _) (fun _ g off e=>by cases e))
    simp only [results,Tryz.results123]
    simp [go_sem,↓IntWalk.iteOmega,q0,q1,q2,q3]
   ·rw [hb] at y2
    go_wp2_with fail
    rw [hb] at HX5 HO2
    generalize ((((wc.setCell ⟨w.heap.size,0,none⟩ (.int .i64 p)).setCell ⟨w.heap.size,1,none⟩ (.int .i64 v)).setCell ⟨w.heap.size,2,none⟩ (.bool true)).setCell ⟨w.heap.size,3,none⟩ (.slice none 0 0))=W5 at *
    have hb5:=HX5.out.has.cons.1
    have q0:=hb5.cell 0
    have q1:=hb5.cell 1
    have q2:=hb5.cell 2
    have q3:=hb5.cell 3
    simp only [resA,List.getElem?_toArray,List.getElem?_cons_zero,List.getElem?_cons_succ] at q0 q1 q2 q3
    clear hb5
    rw [HP2.out,HV2.out,HO2.out,HF2.out,HS2.out]
    refine bodyPost_ret (v:=.tuple #[.agg #[.int .i64 p,.int .i64 v,.bool true,.slice none 0 0],.nilIface]) ?_ rfl (run_end (F:=[]) (fo:=none) (fc:=0) (HX5.out.less (fun t ht=>ht) (fun n hn=>by obtain ⟨_,off,e⟩:=hn;cases e)) (fun h=>by simp at h) (Nat.le_refl _) (fun _ g off e=>by cases e))
    simp only [results,Tryz.results123]
    simp [go_sem,↓IntWalk.iteOmega,q0,q1,q2,q3]
end
end Go.Proofs.YtabbgpjofkaomaaGreatDoor
