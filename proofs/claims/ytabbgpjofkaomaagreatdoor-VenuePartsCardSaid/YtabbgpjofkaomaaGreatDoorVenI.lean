import Derived.Test.YtabbgpjofkaomaaGreatDoorVenQ
import Derived.Test.YtabbgpjofkaomaaGreatDoorJ32
import Derived.Test.YtabbgpjofkaomaaGreatDoorOMap
set_option linter.unusedSimpArgs false
set_option linter.unusedVariables false
/- What item of a venue computes: an item of a batch. -/
namespace Go.Proofs.YtabbgpjofkaomaaGreatDoor
open Go.RowKit
theorem rowAt_of_ownedV {w:World} {base:Nat} {e:TypeId} {size:Nat} {v:Value} {n:Nat} {xs:List Value} (h:w.ownsRow base e size v n xs):RowAt w e size v n xs:=by
 obtain ⟨h1,h2|⟨g,cap,cur,rfl,hg,hh,hc,hm,hs,ht⟩⟩:=h
 ·exact ⟨h1,.inl h2⟩
 ·exact ⟨h1,.inr ⟨g,0,cap,cur,rfl,⟨(0,0),hh,Unmarked.plain _⟩,hc,hm,by rw [Nat.zero_add,hs];exact Nat.le_refl _,by rw [List.drop_zero];exact ht⟩⟩
theorem lrow_cells {l:List Lot} {u:Value} {w:World} (h:(lrowRd l u).R w) {k:Nat} (hk:k<l.length):∃ b off cap,u=.slice (some ⟨b,off,none⟩) l.length cap∧b<w.heap.size∧∀ j,j<5→w.cell? ⟨b,off+k*5+j,none⟩=l[k].cells[j]?:=by
 have h:RowAt w 131 5 u l.length (flat Lot.cells l):=h
 obtain ⟨hl,⟨rfl,h0⟩|⟨g,off,cap,cur,rfl,hr⟩⟩:=h
 ·omega
 ·have h':RowAt w 131 5 (.slice (some ⟨g,off,none⟩) l.length cap) l.length (flat Lot.cells l):=⟨hl,.inr ⟨g,off,cap,cur,rfl,hr⟩⟩
  refine ⟨g,off,cap,rfl,h'.lt g rfl,fun j hj=>?_⟩
  rw [Nat.add_assoc,h'.cell (j:=k*5+j) (by omega),flat_get (N:=5) (fun _=>rfl) l k hk j hj]
theorem lrow_slice {l:List Lot} {u:Value} {w:World} (h:(lrowRd l u).R w):∃ ao cap,u=.slice ao l.length cap:=by
 obtain ⟨_,⟨rfl,h0⟩|⟨g,off,cap,cur,rfl,_⟩⟩:=(show RowAt w _ 5 u l.length (flat Lot.cells l) from h)
 ·exact ⟨none,0,by rw [h0]⟩
 ·exact ⟨_,cap,rfl⟩
theorem fills_leV {st:FSt} {k:Nat} {wd hl seed:Int} (h:FOk st) (hk:k<3):(runR st k wd hl seed).fills.length≤100000:=by
 by_cases ho:(nextN st k wd hl).2.2=true∧(bestC (st.b k) (st.ref k) 1000).vol≠0
 ·have hF:(runR st k wd hl seed).fills=fillsL (st.b k) (bestC (st.b k) (st.ref k) 1000).price (bestC (st.b k) (st.ref k) 1000).vol seed:=if_pos ho
  rw [hF]
  exact fills_small (h.book k hk).lots _ _ _
 ·have hF:(runR st k wd hl seed).fills=[]:=if_neg ho
  rw [hF]
  simp
theorem runF_ids {st:FSt} {k:Nat} {wd hl seed:Int}:∀ f∈(runR st k wd hl seed).fills,∃ x∈st.b k,x.id=f.id:=by
 by_cases ho:(nextN st k wd hl).2.2=true∧(bestC (st.b k) (st.ref k) 1000).vol≠0
 ·have hF:(runR st k wd hl seed).fills=fillsL (st.b k) (bestC (st.b k) (st.ref k) 1000).price (bestC (st.b k) (st.ref k) 1000).vol seed:=if_pos ho
  rw [hF]
  intro f hf
  rcases List.mem_append.1 hf with h|h
  ·obtain ⟨_,x,hx,e,_⟩:=sideF_ids _ _ _ f h
   exact ⟨x,(levels_mem.1 hx).1,e⟩
  ·obtain ⟨_,x,hx,e,_⟩:=sideF_ids _ _ _ f h
   exact ⟨x,(levels_mem.1 hx).1,e⟩
 ·have hF:(runR st k wd hl seed).fills=[]:=if_neg ho
  rw [hF]
  intro f hf
  cases hf
theorem ownF_in {l:List Lot} (h:LApart l):∀ k,k≤l.length→∀ j (hj:j<l.length),j<k→ownF l k l[j].id=l[j].owner
 | 0,_,j,_,hk=>absurd hk (Nat.not_lt_zero j)
 | k+1,hl,j,hj,hk=>by
  rw [ownF_step (by omega)]
  show (if l[j].id=l[k].id then l[k].owner else ownF l k l[j].id)=_
  split
  ·rename_i e
   rw [LApart.eq h (List.getElem_mem hj) (List.getElem_mem (by omega)) e]
  ·rename_i e
   refine ownF_in h k (by omega) j hj ?_
   by_cases e2:j=k
   ·subst e2;exact absurd rfl e
   ·omega
theorem ownF_out {l:List Lot} {q:Int}:∀ k,k≤l.length→(∀ x∈l,x.id≠q)→ownF l k q=0
 | 0,_,_=>rfl
 | k+1,hl,h=>by
  rw [ownF_step (by omega)]
  show (if q=l[k].id then l[k].owner else ownF l k q)=0
  rw [if_neg (fun e=>h _ (List.getElem_mem (by omega)) e.symm)]
  exact ownF_out k (by omega) h
theorem ownF_get {l:List Lot} (h:LApart l) (q:Int):ownF l l.length q=(getR l q).1.owner:=by
 unfold getR
 cases hf:l.findIdx? (fun y=>y.id==q) with
 | none =>
  rw [List.findIdx?_eq_none_iff] at hf
  exact ownF_out _ (Nat.le_refl _) (fun x hx=>by simpa using hf x hx)
 | some k =>
  rw [List.findIdx?_eq_some_iff_getElem] at hf
  obtain ⟨hk,hp,_⟩:=hf
  have e:l[k].id=q:=by simpa using hp
  simp only [List.getElem?_eq_getElem hk]
  rw [← e]
  exact ownF_in h _ (Nat.le_refl _) k hk hk
theorem arow_slice {l:List Ask} {u:Value} {w:World} (h:(arowRd l u).R w):∃ ao cap,u=.slice ao l.length cap:=by
 obtain ⟨_,⟨rfl,h0⟩|⟨g,off,cap,cur,rfl,_⟩⟩:=(show RowAt w _ 8 u l.length (flat Ask.cells l) from h)
 ·exact ⟨none,0,by rw [h0]⟩
 ·exact ⟨_,cap,rfl⟩
section
variable {E:Nat→Addr} {w0 w W W':World} {F:Nat→Prop} {A:VA} {v v':VSt} {M:List Th}
theorem VX.book (X:VX E w0 F w A v M W) {k:Nat} (hk:k<3):Calls Tryz.prog 22 #[.pointer (some ⟨A.fa.f,0,none⟩),.int .i64 (k:Int)] W fun e w'=>e=.returned (.pointer (some ⟨A.fa.bp k,0,none⟩))∧Ex W w' :=
 X.readF fun own hA=>fbook_in hA k hk
theorem VX.lots (X:VX E w0 F w A v M W) {k:Nat} (hk:k<3):Calls Tryz.prog 24 #[.pointer (some ⟨A.fa.bp k,0,none⟩)] W fun e w'=>∃ u,e=.returned u∧Ex W w'∧VX E w0 F w A v (rdTh (lrowRd (v.f.b k) u)::M) w':=by
 refine (X.readF fun own hA=>lots_any (hA.book k hk)).mono ?_
 rintro e w' ⟨⟨u,he,hr⟩,hx⟩
 exact ⟨u,he,hx,X.addRow hx (rowAt_of_ownedV hr) (fun g hg=>(hr.lt g hg).1)⟩
theorem VX.swap {T1 T2:Th} (X:VX E w0 F w A v (T1::T2::M) W):VX E w0 F w A v (T2::T1::M) W :=
 ⟨X.sep.perm ((List.Perm.swap T2 T1 M).append_left (vList A v)),X.ex,X.lo,X.rdy,X.rule⟩
theorem VX.setRes {T1:Th} {b:Nat} {t:TypeId} {y0 y1 y2 y3 x0 x1 x2 x3:Value} {M2:List Th} (X:VX E w0 F w A v (T1::blkTh b #[y0,y1,y2,y3] t::M2) W):VX E w0 F w A v (T1::blkTh b #[x0,x1,x2,x3] t::M2) ((((W.setCell ⟨b,0,none⟩ x0).setCell ⟨b,1,none⟩ x1).setCell ⟨b,2,none⟩ x2).setCell ⟨b,3,none⟩ x3):=by
 have h:=VX.setBlk [T1] (VX.setBlk [T1] (VX.setBlk [T1] (VX.setBlk [T1] X 0 x0) 1 x1) 2 x2) 3 x3
 have e:(((((#[y0,y1,y2,y3]:Array Value).setIfInBounds 0 x0).setIfInBounds 1 x1).setIfInBounds 2 x2).setIfInBounds 3 x3)=#[x0,x1,x2,x3]:=by simp
 rw [e] at h
 exact h
theorem VX.getB (X:VX E w0 F w A v M W) {k:Nat} (hk:k<3) (id:Int):Calls Tryz.prog 124 #[.pointer (some ⟨A.fa.bp k,0,none⟩),.int .i64 id] W fun e w'=>e=.returned (.tuple #[(getR (v.f.b k) id).1.val,.bool (getR (v.f.b k) id).2])∧Ex W w' :=
 X.readF fun own hA=>get_any (hA.book k hk) id
set_option maxRecDepth 100000 in
set_option maxHeartbeats 16000000 in
theorem VX.item {placed:List Ask} {pv:Value} (X:VX E w0 F w A v (rdTh (arowRd placed pv)::M) W) (hO:FOk v.f) (hp:PInv v.f.p) (hru:1≤v.c.hl∧v.c.hl≤1000) (hs:U32 v.c.seed) (hb:v.bat≤1000000) (hpl:placed.length≤1000) {n:Nat} (hn:n<3) :
  Calls Tryz.prog 90 #[.pointer (some ⟨A.vb,0,none⟩),.int .i64 (n:Int),pv] W fun e w'=>∃ u,e=.returned u∧VX E w0 F w A { v with f:=(itemR (vseed v n) v.c.wd v.c.hl n placed v.f).2 } (rdTh (rrowRd (itemR (vseed v n) v.c.wd v.c.hl n placed v.f).1 u)::rdTh (arowRd placed pv)::M) w':=by
 obtain ⟨apv,cpv,rfl⟩:=arow_slice (VX.row [] X)
 obtain ⟨⟨c6,c7,c8,c9,c10,c11,c12,c0⟩,hvb,hrg⟩:=X.cells
 obtain ⟨ir,hir0,hirz,hir1,hir2⟩:=info_parts infoRep
 have n3:(n:Int)<3:=by omega
 have HBK:=Lib.hid (fun W' (hx:Ex W W')=>(X.later hx).book hn)
 have HX:=Lib.hid X
 have hmm:=@run_makeMap Tryz.prog
 have hbk:=hO.book n hn
 have hll:=hbk.len
 have HBO:=Lib.hid hbk
 have HO:=Lib.hid hO
 clear X hbk hO
 generalize hit:itemR (vseed v n) v.c.wd v.c.hl n placed v.f=it
 have HI0:=Lib.hid hit
 clear hit
 go_enter Tryz.func90,Tryz.ntmps90
 go_upto_region 3 with (go_at_call 22;refine (HBK.out _ (by repeat (first|exact Ex.refl _|refine Ex.alloc ?_ _|refine Ex.ext ?_ _ _|refine Ex.drew ?_|refine Ex.drewN ?_ _))).mono ?_;rintro e w1 ⟨rfl,hx1⟩)
 refine wp_world (R:=fun W'=>VX E w0 F w A v (mapTh w1.heap.size 0 (fun _=>0)::rdTh (arowRd placed (.slice apv placed.length cpv))::M) W') ((HX.out.later hx1).add (M':=[mapTh w1.heap.size 0 (fun _=>0)]) (G:=fun k=>k=w1.heap.size) (by repeat (first|exact Ex.refl _|refine Ex.alloc ?_ _|refine Ex.ext ?_ _ _|refine Ex.drew ?_|refine Ex.drewN ?_ _)) (SepL.one ⟨fun k=>Iff.rfl,MapN.made w1⟩) (fun k hk=>by rw [hk];exact Nat.le_refl _)) ?_
 clear c6 c7 c8 c9 c10 c11 c12 c0 hmm HX HBK
 have hmv:A.vb<w1.heap.size:=Nat.lt_of_lt_of_le hvb hx1.below.size
 clear hx1
 generalize w1.heap.size=mb at *
 rintro W2 hX2
 have HX2:=Lib.hid hX2
 clear hX2
 go_wp2_with (go_at_call 24;refine (HX2.out.lots hn).mono ?_;rintro e w3 ⟨lv,rfl,hx3,hX3⟩;obtain ⟨al,cl,rfl⟩:=lrow_slice (VX.row [] hX3);have HX3:=Lib.hid hX3;clear hX3)
 clear HX2
 generalize hB:v.f.b n=B at *
 have HBE:=Lib.hid hB
 clear hB
 go_loopw [30] (fun i wr=>∃ k:Nat,k≤B.length∧i=.int .i64 (k:Int)∧VX E w0 F w A v (rdTh (lrowRd B (.slice al B.length cl))::mapTh mb k (ownF B k)::rdTh (arowRd placed (.slice apv placed.length cpv))::M) wr) (fun i _=>B.length - (intOf i).toNat)
 case atStart=>exact ⟨0,Nat.zero_le _,rfl,HX3.out.later (by repeat (first|exact Ex.refl _|refine Ex.alloc ?_ _|refine Ex.ext ?_ _ _|refine Ex.drew ?_|refine Ex.drewN ?_ _))⟩
 case round =>
  obtain ⟨k,hk,rfl,hX⟩:=hrel
  clear HX3
  by_cases hlt:k<B.length
  ·obtain ⟨b,off,cap,e2,hbl,hcell⟩:=lrow_cells (VX.row [] hX) hlt
   cases e2
   have HST:=Lib.hid (ownF_step hlt)
   have a0:=hcell 0 (by omega)
   have a1:=hcell 1 (by omega)
   have a2:=hcell 2 (by omega)
   have a3:=hcell 3 (by omega)
   have a4:=hcell 4 (by omega)
   simp only [Lot.cells,List.getElem?_cons_zero,List.getElem?_cons_succ,Nat.add_zero] at a0 a1 a2 a3 a4
   have hxo:=(Lot.ok_iff.1 (HBO.out.ok B[k] (List.getElem_mem hlt))).1
   have HMP:=Lib.hid (VX.look [rdTh _] hX)
   have HX:=Lib.hid hX
   clear hX hcell
   generalize B[k]=x at *
   generalize ownF B k=G at *
   go_wp2_with (at_mapUpdate;refine wpList_update_n rfl (.tmp 34) (.tmp 36) (.tmp 38) rfl (b:=mb) (n:=k) (F:=G) ?_ (by unfold maxLen;omega) x.id (by omega) x.owner rfl rfl rfl ?_)
   focus
    obtain ⟨_,hm⟩:=HMP.out
    exact hm.2.ex (by repeat (first|exact Ex.refl _|refine Ex.alloc ?_ _|refine Ex.ext ?_ _ _|refine Ex.drew ?_|refine Ex.drewN ?_ _))
   intro w4 hm4 hg4
   have hw1:Ex wr (wr.alloc (.cells #[.int .i64 x.id,.int .i64 x.owner,.int .i64 x.side,.int .i64 x.price,.int .i64 x.qty] 131)):=(by repeat (first|exact Ex.refl _|refine Ex.alloc ?_ _|refine Ex.ext ?_ _ _|refine Ex.drew ?_|refine Ex.drewN ?_ _))
   have H4:Hid (VX E w0 F w A v (rdTh (lrowRd B (.slice (some ⟨b,off,none⟩) B.length cl))::mapTh mb (k+1) (ownF B (k+1))::rdTh (arowRd placed (.slice apv placed.length cpv))::M) w4):=Lib.hid (VX.turn [rdTh _] (HX.out.later hw1) fun g h=>⟨g,⟨h.1,by rw [HST.out];exact hm4⟩,Only.grown hg4 (fun q hq _=>(h.1 q).2 (Option.some.inj hq).symm),fun q hq=>.inl hq⟩)
   clear hm4 hg4 HX HMP
   go_wp2_with fail
   go_roundw
   case measure=>simp [intOf];omega
   case rel=>exact ⟨k+1,by omega,by go_num,H4.out.later (by repeat (first|exact Ex.refl _|refine Ex.alloc ?_ _|refine Ex.ext ?_ _ _|refine Ex.drew ?_|refine Ex.drewN ?_ _))⟩
  ·obtain rfl:k=B.length:=by omega
   have HX:=Lib.hid hX
   obtain ⟨⟨c6,c7,c8,c9,c10,c11,c12,c0⟩,hvb,hrg⟩:=hX.cells
   clear hX
   have hse:IntKind.u32.wrap (v.c.seed+IntKind.u32.wrap (IntKind.i64.wrap (IntKind.i64.wrap (3*(v.bat:Int))+(n:Int))))=vseed v n:=by
    rw [IntWalk.i64_in (3*(v.bat:Int)) (by omega),IntWalk.i64_in _ (by omega)]
    unfold vseed
    simp only [IntKind.wrap,IntKind.signed,IntKind.bits]
    simp
   have hsu:U32 (vseed v n):=⟨by unfold vseed;omega,by unfold vseed;omega⟩
   generalize vseed v n=sd at *
   have HR1:=Lib.hid (fun W' (hx:Ex wr W')=>(HX.out.later hx).run HO.out n hn sd hsu)
   have HR2:=Lib.hid (fun W' (hx:Ex wr W') (hb:Blk W' wr.heap.size #[.int .i64 0,.int .i64 0,.bool false,.slice none 0 0] 230)=>(HX.out.addBlk hx hb (Nat.le_refl _)).run HO.out n hn sd hsu)
   have HIT:Hid (it=((runR v.f n v.c.wd v.c.hl sd).fills.map (fun f=>(⟨(getR B f.id).1.owner,kFil,f.id,(runR v.f n v.c.wd v.c.hl sd).price,f.qty,0⟩:Rep))++placed.filterMap (fun a=>if (getR ((runS v.f n v.c.wd v.c.hl sd).b n) a.id).2∧a.item=(n:Int) then some (lotR kRest (getR ((runS v.f n v.c.wd v.c.hl sd).b n) a.id).1) else none),runS v.f n v.c.wd v.c.hl sd)):=Lib.hid (by rw [← HI0.out];unfold itemR;rw [HBE.out])
   have HFO:=Lib.hid (run_facts (wd:=v.c.wd) HO.out hp hn hru sd)
   have HFL:=Lib.hid (fills_leV (wd:=v.c.wd) (hl:=v.c.hl) (seed:=sd) HO.out hn)
   have HFI:=Lib.hid (runF_ids (st:=v.f) (k:=n) (wd:=v.c.wd) (hl:=v.c.hl) (seed:=sd))
   rw [HBE.out] at HFI
   have HOG:=Lib.hid (ownF_get HBO.out.apart)
   clear HO HX HI0
   generalize runR v.f n v.c.wd v.c.hl sd=R at *
   generalize runS v.f n v.c.wd v.c.hl sd=st at *
   obtain ⟨rp,rv,ro,rF⟩:=R
   simp only at HR1 HR2 HIT HFL HFI
   go_wp2_with fail
   go_cut [11,12] (fun p q wx=>∃ xb ao cap,p=.pointer (some ⟨xb,0,none⟩)∧q=.nilIface∧rF.length≤cap ∧
    VX E w0 F w A { v with f:=st } (fillTh ao rF::blkTh xb #[.int .i64 rp,.int .i64 rv,.bool ro,.slice ao rF.length cap] 230::rdTh (lrowRd B (.slice al B.length cl))::mapTh mb B.length (ownF B B.length)::rdTh (arowRd placed (.slice apv placed.length cpv))::M) wx)
   case first =>
    go_region_held3 (fun W'=>W'.cell? ⟨A.vb,6,none⟩=some (.pointer (some ⟨A.fa.f,0,none⟩))∧W'.cell? ⟨A.vb,0,none⟩=some (.int .u32 v.c.seed)∧W'.cell? ⟨A.vb,11,none⟩=some (.int .i64 (v.bat:Int)))
     (first|(with_reducible exact ⟨c6,c0,c11⟩)|(with_reducible exact ⟨d6,d0,d11⟩)|(simp [go_sem,↓IntWalk.iteOmega,c6,c0,c11];done)|(simp [go_sem,↓IntWalk.iteOmega,d6,d0,d11];done))
     (first
      | (go_at_call 123;(refine (HR2.out _ ?_ ?_).mono ?_);(focus ((repeat (first|(with_reducible exact Ex.refl _)|(with_reducible refine Ex.alloc ?_ _)|(with_reducible refine Ex.ext ?_ _ _)|(with_reducible refine Ex.drew ?_)|(with_reducible refine Ex.drewN ?_ _)));done));(focus ((repeat (first|exact Blk.new (by first|omega|(simp [go_sem];done)|(simp [go_sem];omega))|(with_reducible exact Blk.new rfl)|(with_reducible refine Blk.drew ?_)|(with_reducible refine Blk.drewN ?_ _)|(with_reducible refine Blk.ext ?_ _ _)|(with_reducible refine Blk.alloc ?_ _)));done));rintro e w5 ⟨ao,cap,rfl,hcp,hX5⟩;obtain ⟨⟨d6,_,_,_,_,d11,_,d0⟩,hvb5,_⟩:=hX5.cells;have zb:=VX.blk [fillTh _ _] hX5;have zl:=(Array.getElem?_eq_some_iff.1 zb).1;have zf:∀ j,w5.frozen? ⟨wr.heap.size,j,none⟩=false:=(fun j=>by simp [World.frozen?,zb]);have zc:=blk_cell zb;have z0:=zc 0;have z1:=zc 1;have z2:=zc 2;have z3:=zc 3;simp only [List.getElem?_toArray,List.getElem?_cons_zero,List.getElem?_cons_succ] at z0 z1 z2 z3;clear zc zb;have HX5:=Lib.hid hX5;clear hX5)
      | (go_at_call 123;(refine (HR1.out _ ?_).mono ?_);(focus ((repeat (first|(with_reducible exact Ex.refl _)|(with_reducible refine Ex.alloc ?_ _)|(with_reducible refine Ex.ext ?_ _ _)|(with_reducible refine Ex.drew ?_)|(with_reducible refine Ex.drewN ?_ _)));done));rintro e w5 ⟨ao,cap,rfl,hcp,hX5⟩;obtain ⟨⟨d6,_,_,_,_,d11,_,d0⟩,hvb5,_⟩:=hX5.cells;have HX5:=Lib.hid hX5;clear hX5))
    all_goals go_wp2_with fail
    all_goals
     go_meet
     case rel=>first
      | exact ⟨_,ao,cap,rfl,rfl,hcp,HX5.out.setRes⟩
      | exact ⟨_,ao,cap,rfl,rfl,hcp,(HX5.out.addBlk (by with_reducible repeat (first|exact Ex.refl _|refine Ex.alloc ?_ _|refine Ex.ext ?_ _ _|refine Ex.drew ?_|refine Ex.drewN ?_ _)) (by repeat (first|exact Blk.new (by first|omega|(simp [go_sem];done)|(simp [go_sem];omega))|(with_reducible exact Blk.new rfl)|(with_reducible refine Blk.drew ?_)|(with_reducible refine Blk.drewN ?_ _)|(with_reducible refine Blk.ext ?_ _ _)|(with_reducible refine Blk.alloc ?_ _))) (by first|omega|(simp [go_sem];done)|(simp [go_sem];omega))).swap⟩
   case rest =>
    obtain ⟨xb,ao,cap,rfl,rfl,hcp,hX⟩:=hcut
    have HX6:=Lib.hid hX
    have hxc:=blk_cell (VX.blk [fillTh _ _] hX)
    have x0:=hxc 0
    have x3:=hxc 3
    simp only [List.getElem?_toArray,List.getElem?_cons_zero,List.getElem?_cons_succ] at x0 x3
    have hxl:=lt_of_cell x0
    have HFN:Hid (∀ i (h:i<rF.length),1≤rF[i].id∧rF[i].id≤1073741824):=Lib.hid (fun i h=>by
     obtain ⟨x,hx,e⟩:=HFI.out rF[i] (List.getElem_mem h)
     rw [← e]
     exact (Lot.ok_iff.1 (HBO.out.ok x hx)).1)
    have hfl:=HFL.out
    clear hX hxc c6 c7 c8 c9 c10 c11 c12 c0 HR1 HR2 hse hsu HFI HFL
    go_wp2_with fail
    go_loopw [13,68] (fun u i wr=>∃ (k:Nat) (u':Value),u'=u∧k≤rF.length∧i=.int .i64 (k:Int)∧VX E w0 F w A { v with f:=st } (rdTh (rrowRd ((rF.take k).map fun f=>(⟨(getR B f.id).1.owner,kFil,f.id,rp,f.qty,0⟩:Rep)) u')::fillTh ao rF::blkTh xb #[.int .i64 rp,.int .i64 rv,.bool ro,.slice ao rF.length cap] 230::rdTh (lrowRd B (.slice al B.length cl))::mapTh mb B.length (ownF B B.length)::rdTh (arowRd placed (.slice apv placed.length cpv))::M) wr) (fun _ i _=>rF.length - (intOf i).toNat)
    case atStart=>exact ⟨0,_,rfl,Nat.zero_le _,rfl,HX6.out.addRow (by repeat (first|exact Ex.refl _|refine Ex.alloc ?_ _|refine Ex.ext ?_ _ _|refine Ex.drew ?_|refine Ex.drewN ?_ _)) (rrow_nil _) (fun g hg=>by cases hg)⟩
    case round =>
     obtain ⟨k,u,rfl,hk,rfl,hX⟩:=hrel
     clear x0 x3 hxl HX6
     by_cases hlt:k<rF.length
     ·obtain ⟨au,cu,rfl,hcu,hmu⟩:=rrow_slice (VX.row [] hX)
      obtain ⟨_,_,hfa⟩:=VX.look [rdTh _] hX
      obtain ⟨b2,o2,rfl,hb2,hc2⟩:=hfa (by omega)
      have a0:=hc2 k hlt 0 (by omega)
      have a1:=hc2 k hlt 1 (by omega)
      simp only [Fil.cells,List.getElem?_cons_zero,List.getElem?_cons_succ,Nat.add_zero] at a0 a1
      have hxc:=blk_cell (VX.blk [rdTh _,fillTh _ _] hX)
      have x0:=hxc 0
      simp only [List.getElem?_toArray,List.getElem?_cons_zero] at x0
      have hxl:=lt_of_cell x0
      obtain ⟨_,_,hmp⟩:=VX.look [rdTh _,fillTh _ _,blkTh _ _ _,rdTh _] hX
      have hid:=HFN.out k hlt
      have hlk:∀ ob,(Instr.lookup 227 (.map (some mb)) (.int .i64 rF[k].id) false).run Tryz.prog (wr.alloc ob)=.ok (.int .i64 (getR B rF[k].id).1.owner) (wr.alloc ob):=fun ob=>by
       rw [← HOG.out rF[k].id]
       exact (hmp.ex ((Ex.refl wr).alloc ob)).lookup (by omega)
      have HST:=Lib.hid (show (rF.take (k+1)).map (fun f=>(⟨(getR B f.id).1.owner,kFil,f.id,rp,f.qty,0⟩:Rep))=(rF.take k).map (fun f=>(⟨(getR B f.id).1.owner,kFil,f.id,rp,f.qty,0⟩:Rep))++[⟨(getR B rF[k].id).1.owner,kFil,rF[k].id,rp,rF[k].qty,0⟩] by rw [List.take_succ_eq_append_getElem hlt,List.map_append];rfl)
      have hln:((rF.take k).map (fun f=>(⟨(getR B f.id).1.owner,kFil,f.id,rp,f.qty,0⟩:Rep))).length≤100000:=by rw [List.length_map,List.length_take];omega
      have HX:=Lib.hid hX
      clear hX hfa hc2 hxc hmp
      generalize (rF.take k).map (fun f=>(⟨(getR B f.id).1.owner,kFil,f.id,rp,f.qty,0⟩:Rep))=P at *
      generalize (getR B rF[k].id).1.owner=ow at *
      generalize rF[k]=f at *
      obtain ⟨fi,fq⟩:=f
      simp only at a0 a1 hlk hid
      go_upto_region 15 with fail
      have hw1:Ex wr ((wr.alloc (.cells #[.int .i64 fi,.int .i64 fq] 234)).alloc (.cells #[.int .i64 ow,.string ⟨#[102,105,108,108,101,100]⟩,.int .i64 fi,.int .i64 rp,.int .i64 fq,.int .i64 0] 50)):=(by repeat (first|exact Ex.refl _|refine Ex.alloc ?_ _|refine Ex.ext ?_ _ _|refine Ex.drew ?_|refine Ex.drewN ?_ _))
      go_wp2_with (at_builtin;refine wpList_append_two rfl (.tmp 72) (.tmp 84) 42 42 rfl 50 ir _ 6 56 Tryz.underlying42 hir0 hirz hir1 hir2 rfl (.slice au P.length cu) (.slice (some ⟨wr.heap.size+1,0,none⟩) 1 1) P.length 1 (flat Rep.cells P) (Rep.cells ⟨ow,kFil,fi,rp,fq,0⟩) rfl rfl ?_ ?_ ?_ ?_ ?_)
      focus exact (VX.row [] (HX.out.later hw1))
      focus exact (Src.block Tryz.underlying42 1 1 (cs:=#[.int .i64 ow,.string ⟨#[102,105,108,108,101,100]⟩,.int .i64 fi,.int .i64 rp,.int .i64 fq,.int .i64 0]) (t:=50) (fr:=(0,0)) (heap_new (by simp [go_sem])) (by simp) (by simp [Value.oneCell']))
      focus (unfold maxLen;omega)
      focus omega
      intro v' w' hrow hgrow hown
      have H2:=Lib.hid ((HX.out.later hw1).grow (M1:=[]) (r':=rrowRd (P++[⟨ow,kFil,fi,rp,fq,0⟩]) v') hgrow hown (by first|omega|(simp [go_sem];done)|(simp [go_sem];omega)) (by show RowAt w' _ 6 v' (P++[_]).length (flat Rep.cells (P++[_]));rw [flat_append,List.length_append,flat_one];exact hrow))
      clear hrow hgrow hown HX
      go_wp2_with fail
      go_roundw
      case measure=>simp [intOf];omega
      case rel=>exact ⟨k+1,_,rfl,by omega,by go_num,by rw [HST.out];exact H2.out.later (by repeat (first|exact Ex.refl _|refine Ex.alloc ?_ _|refine Ex.ext ?_ _ _|refine Ex.drew ?_|refine Ex.drewN ?_ _))⟩
     ·obtain rfl:k=rF.length:=by omega
      rw [List.take_length] at hX
      have HX6:=Lib.hid hX
      have hpl0:(rF.map fun f=>(⟨(getR B f.id).1.owner,kFil,f.id,rp,f.qty,0⟩:Rep)).length≤100000:=by rw [List.length_map];omega
      clear hX HFN
      generalize (rF.map fun f=>(⟨(getR B f.id).1.owner,kFil,f.id,rp,f.qty,0⟩:Rep))=P0 at *
      go_wp2_with fail
      go_loopw [13,89] (fun u i wr=>∃ (k:Nat) (u':Value),u'=u∧k≤placed.length∧i=.int .i64 (k:Int)∧VX E w0 F w A { v with f:=st } (rdTh (rrowRd (P0++(placed.take k).filterMap (fun a=>if (getR (st.b n) a.id).2∧a.item=(n:Int) then some (lotR kRest (getR (st.b n) a.id).1) else none)) u')::fillTh ao rF::blkTh xb #[.int .i64 rp,.int .i64 rv,.bool ro,.slice ao rF.length cap] 230::rdTh (lrowRd B (.slice al B.length cl))::mapTh mb B.length (ownF B B.length)::rdTh (arowRd placed (.slice apv placed.length cpv))::M) wr) (fun _ i _=>placed.length - (intOf i).toNat)
      case atStart=>exact ⟨0,_,rfl,Nat.zero_le _,rfl,by rw [List.take_zero,List.filterMap_nil,List.append_nil];exact HX6.out.later (by repeat (first|exact Ex.refl _|refine Ex.alloc ?_ _|refine Ex.ext ?_ _ _|refine Ex.drew ?_|refine Ex.drewN ?_ _))⟩
      case round =>
       obtain ⟨k,u,rfl,hk,rfl,hX⟩:=hrel
       clear HX6
       by_cases hlt:k<placed.length
       ·obtain ⟨au,cu,rfl,hcu,hmu⟩:=rrow_slice (VX.row [] hX)
        obtain ⟨b3,o3,rfl,hb3,hc3⟩:=(AskSl.of_row (VX.row [rdTh _,fillTh _ _,blkTh _ _ _,rdTh _,mapTh _ _ _] hX)) (by omega)
        have hzk:=hc3 k hlt
        have a0:=hzk 0 (by omega)
        have a1:=hzk 1 (by omega)
        have a2:=hzk 2 (by omega)
        have a3:=hzk 3 (by omega)
        have a4:=hzk 4 (by omega)
        have a5:=hzk 5 (by omega)
        have a6:=hzk 6 (by omega)
        have a7:=hzk 7 (by omega)
        simp only [Ask.cells,List.getElem?_cons_zero,List.getElem?_cons_succ,Nat.add_zero] at a0 a1 a2 a3 a4 a5 a6 a7
        have HST:Hid (P0++(placed.take (k+1)).filterMap (fun a=>if (getR (st.b n) a.id).2∧a.item=(n:Int) then some (lotR kRest (getR (st.b n) a.id).1) else none)=(P0++(placed.take k).filterMap (fun a=>if (getR (st.b n) a.id).2∧a.item=(n:Int) then some (lotR kRest (getR (st.b n) a.id).1) else none))++(if (getR (st.b n) placed[k].id).2∧placed[k].item=(n:Int) then [lotR kRest (getR (st.b n) placed[k].id).1] else [])):=Lib.hid (by
         rw [List.take_succ_eq_append_getElem hlt,List.filterMap_append,← List.append_assoc]
         congr 1
         by_cases h:(getR (st.b n) placed[k].id).2∧placed[k].item=(n:Int)
         ·simp [h]
         ·simp [h])
        have hln:(P0++(placed.take k).filterMap (fun a=>if (getR (st.b n) a.id).2∧a.item=(n:Int) then some (lotR kRest (getR (st.b n) a.id).1) else none)).length≤200000:=by
         have:=List.length_filterMap_le (fun a=>if (getR (st.b n) a.id).2∧a.item=(n:Int) then some (lotR kRest (getR (st.b n) a.id).1) else none) (placed.take k)
         rw [List.length_take] at this
         rw [List.length_append]
         omega
        have HX:=Lib.hid hX
        have HGG:=Lib.hid (fun W' (hx:Ex wr W')=>(hX.later hx).getB hn placed[k].id)
        clear hX hc3 hzk
        generalize P0++(placed.take k).filterMap (fun a=>if (getR (st.b n) a.id).2∧a.item=(n:Int) then some (lotR kRest (getR (st.b n) a.id).1) else none)=P at *
        have HGE:∃ g,g=getR (st.b n) placed[k].id:=⟨_,rfl⟩
        obtain ⟨g,hg⟩:=HGE
        rw [← hg] at HST
        have HG1:Hid (∀ W',Ex wr W'→Calls Tryz.prog 124 #[.pointer (some ⟨A.fa.bp n,0,none⟩),.int .i64 placed[k].id] W' fun e w'=>e=.returned (.tuple #[g.1.val,.bool g.2])∧Ex W' w'):=Lib.hid (fun W' hx=>by rw [hg];exact HGG.out W' hx)
        clear HGG hg
        generalize placed[k]=a at *
        obtain ⟨ak,ac,aS,ai,ad,ap,aq,aid⟩:=a
        obtain ⟨⟨xi,xo,xs,xp,xq⟩,is⟩:=g
        simp only at a0 a1 a2 a3 a4 a5 a6 a7 HST HG1
        go_upto_region 20 with fail
        refine wp_world (R:=fun W'=>Ex wr W'∧Blk W' wr.heap.size (askC ⟨ak,ac,aS,ai,ad,ap,aq,aid⟩) 45) ⟨(by repeat (first|exact Ex.refl _|refine Ex.alloc ?_ _|refine Ex.ext ?_ _ _|refine Ex.drew ?_|refine Ex.drewN ?_ _)),(by repeat (first|exact Blk.new (by first|omega|(simp [go_sem];done)|(simp [go_sem];omega))|(with_reducible exact Blk.new rfl)|(with_reducible refine Blk.drew ?_)|(with_reducible refine Blk.drewN ?_ _)|(with_reducible refine Blk.ext ?_ _ _)|(with_reducible refine Blk.alloc ?_ _)))⟩ ?_
        clear a0 a1 a2 a3 a4 a5 a6 a7 hb3
        generalize wr.heap.size=bx at *
        rintro W6 ⟨hx6,hb6⟩
        have hgc:=blk_cell hb6
        have g3:=hgc 3
        have g7:=hgc 7
        simp only [askC,List.getElem?_toArray,List.getElem?_cons_zero,List.getElem?_cons_succ] at g3 g7
        have hbx:=lt_of_cell g3
        have HX6:=Lib.hid hx6
        have HG:=Lib.hid (fun W' (hx:Ex W6 W')=>HG1.out W' (HX6.out.trans hx))
        clear hgc hb6 hx6 HG1
        cases is with
        | false =>
         rw [if_neg (fun h=>by cases h.1)] at HST
         go_wp2_with (go_at_call 124;refine (HG.out _ (by repeat (first|exact Ex.refl _|refine Ex.alloc ?_ _|refine Ex.ext ?_ _ _|refine Ex.drew ?_|refine Ex.drewN ?_ _))).mono ?_;rintro e w7 ⟨rfl,hx7⟩;have g3:=(hx7.below.cell (p:=⟨bx,3,none⟩) hbx).trans g3;have hbx7:=lt_of_cell g3;have HX7:=Lib.hid hx7;clear hx7)
         go_roundw
         case measure=>simp [intOf];omega
         case rel=>exact ⟨k+1,_,rfl,by omega,by go_num,by rw [HST.out,List.append_nil];exact HX.out.later (HX6.out.trans (HX7.out.trans (by repeat (first|exact Ex.refl _|refine Ex.alloc ?_ _|refine Ex.ext ?_ _ _|refine Ex.drew ?_|refine Ex.drewN ?_ _))))⟩
        | true =>
         by_cases hi:ai=(n:Int)
         ·rw [if_pos ⟨rfl,hi⟩] at HST
          subst hi
          go_upto_region 22 with (go_at_call 124;refine (HG.out _ (by repeat (first|exact Ex.refl _|refine Ex.alloc ?_ _|refine Ex.ext ?_ _ _|refine Ex.drew ?_|refine Ex.drewN ?_ _))).mono ?_;rintro e w7 ⟨rfl,hx7⟩;have g3:=(hx7.below.cell (p:=⟨bx,3,none⟩) hbx).trans g3;have hbx7:=lt_of_cell g3;have HX7:=Lib.hid hx7;clear hx7)
          go_wp2_with (first
           | (go_at_call 87;refine (vlot_any kRest ⟨xi,xo,xs,xp,xq⟩ _).mono ?_;rintro e w8 ⟨rfl,hx8⟩;have HX8:=Lib.hid hx8;clear hx8)
           | (at_builtin;refine wpList_append_two rfl (.tmp 107) (.tmp 110) 42 42 rfl 50 ir _ 6 56 Tryz.underlying42 hir0 hirz hir1 hir2 rfl (.slice au P.length cu) (.slice (some ⟨w8.heap.size,0,none⟩) 1 1) P.length 1 (flat Rep.cells P) (Rep.cells (lotR kRest ⟨xi,xo,xs,xp,xq⟩)) rfl rfl ?_ ?_ ?_ ?_ ?_))
          focus exact (VX.row [] (HX.out.later (HX6.out.trans (HX7.out.trans ((show Ex w7 (w7.alloc (.cells #[.int .i64 xi,.int .i64 xo,.int .i64 xs,.int .i64 xp,.int .i64 xq] 131)) from (by repeat (first|exact Ex.refl _|refine Ex.alloc ?_ _|refine Ex.ext ?_ _ _|refine Ex.drew ?_|refine Ex.drewN ?_ _))).trans (HX8.out.trans (by repeat (first|exact Ex.refl _|refine Ex.alloc ?_ _|refine Ex.ext ?_ _ _|refine Ex.drew ?_|refine Ex.drewN ?_ _))))))))
          focus exact (Src.block Tryz.underlying42 1 1 (cs:=#[.int .i64 xo,.string kRest,.int .i64 xi,.int .i64 xp,.int .i64 xq,.int .i64 0]) (t:=50) (fr:=(0,0)) (heap_new (by simp [go_sem])) (by simp) (by simp [Value.oneCell']))
          focus (unfold maxLen;omega)
          focus omega
          intro v' w' hrow hgrow hown
          have H2:=Lib.hid ((HX.out.later (HX6.out.trans (HX7.out.trans ((show Ex w7 (w7.alloc (.cells #[.int .i64 xi,.int .i64 xo,.int .i64 xs,.int .i64 xp,.int .i64 xq] 131)) from (by repeat (first|exact Ex.refl _|refine Ex.alloc ?_ _|refine Ex.ext ?_ _ _|refine Ex.drew ?_|refine Ex.drewN ?_ _))).trans (HX8.out.trans (show Ex w8 (w8.alloc (.cells #[.int .i64 xo,.string kRest,.int .i64 xi,.int .i64 xp,.int .i64 xq,.int .i64 0] 50)) from (by repeat (first|exact Ex.refl _|refine Ex.alloc ?_ _|refine Ex.ext ?_ _ _|refine Ex.drew ?_|refine Ex.drewN ?_ _)))))))).grow (M1:=[]) (r':=rrowRd (P++[lotR kRest ⟨xi,xo,xs,xp,xq⟩]) v') hgrow hown (by first|omega|(simp [go_sem];done)|(simp [go_sem];omega)) (by show RowAt w' _ 6 v' (P++[_]).length (flat Rep.cells (P++[_]));rw [flat_append,List.length_append,flat_one];exact hrow))
          clear hrow hgrow hown HX
          go_wp2_with fail
          go_roundw
          case measure=>simp [intOf];omega
          case rel=>exact ⟨k+1,_,rfl,by omega,by go_num,by rw [HST.out];exact H2.out.later (by repeat (first|exact Ex.refl _|refine Ex.alloc ?_ _|refine Ex.ext ?_ _ _|refine Ex.drew ?_|refine Ex.drewN ?_ _))⟩
         ·rw [if_neg (fun h=>hi h.2)] at HST
          go_wp2_with (go_at_call 124;refine (HG.out _ (by repeat (first|exact Ex.refl _|refine Ex.alloc ?_ _|refine Ex.ext ?_ _ _|refine Ex.drew ?_|refine Ex.drewN ?_ _))).mono ?_;rintro e w7 ⟨rfl,hx7⟩;have g3:=(hx7.below.cell (p:=⟨bx,3,none⟩) hbx).trans g3;have hbx7:=lt_of_cell g3;have HX7:=Lib.hid hx7;clear hx7)
          go_roundw
          case measure=>simp [intOf];omega
          case rel=>exact ⟨k+1,_,rfl,by omega,by go_num,by rw [HST.out,List.append_nil];exact HX.out.later (HX6.out.trans (HX7.out.trans (by repeat (first|exact Ex.refl _|refine Ex.alloc ?_ _|refine Ex.ext ?_ _ _|refine Ex.drew ?_|refine Ex.drewN ?_ _))))⟩
       ·obtain rfl:k=placed.length:=by omega
        rw [List.take_length] at hX
        have HX:=Lib.hid hX
        clear hX
        go_wp2_with fail
        all_goals go_ret
        all_goals
         refine ⟨_,rfl,?_⟩
         rw [HIT.out]
         exact VX.less [rdTh _] (VX.less [rdTh _] (VX.less [rdTh _] (VX.less [rdTh _] (HX.out.later (by repeat (first|exact Ex.refl _|refine Ex.alloc ?_ _|refine Ex.ext ?_ _ _|refine Ex.drew ?_|refine Ex.drewN ?_ _))))))
end
end Go.Proofs.YtabbgpjofkaomaaGreatDoor
