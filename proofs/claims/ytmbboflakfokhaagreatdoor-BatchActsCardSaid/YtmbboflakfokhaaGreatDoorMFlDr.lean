import Derived.Test.YtmbboflakfokhaaGreatDoorMFlPl
import Derived.Test.YtmbboflakfokhaaGreatDoorJ32
import Derived.Test.YtmbboflakfokhaaGreatDoorJ34
import Derived.Test.YtmbboflakfokhaaGreatDoorJ25
/- What Drop of the document's floor computes. -/
set_option linter.unusedSimpArgs false
set_option linter.unusedVariables false
namespace Go.Proofs.YtmbboflakfokhaaGreatDoor
open Go.RowKit
def idsRd (l:List Int) (u:Value):Rd u where
  R w:=IdsRow l u w
  lt h g hg:=h.lt g hg
  same h hb:=h.block hb
section
variable {w W W':World} {F:Nat→Prop} {A:MA} {st:FSt} {M:List Th}
theorem MFX.rd {u:Value} {r:Rd u} (X:MFX F w A st M W) (i:Nat) (hi:M[i]?=some (rdTh r)):r.R W:=by
  obtain ⟨G,h⟩:=Sep.look X (5+i) (T:=rdTh r) (by
    rw [List.getElem?_append_right (by show 5≤5+i;omega)]
    show M[5+i - 5]?=_
    rw [show 5+i - 5=i by omega]
    exact hi)
  exact h.2
theorem MFX.less (X:MFX F w A st M W) {M':List Th} (h:∃ N,M.Perm (M'++N)):MFX F w A st M' W:=by
  obtain ⟨N,hp⟩:=h
  have X2:Sep F w (mList A st++(M'++N)) W:=Sep.perm X (hp.append_left _)
  rw [← List.append_assoc] at X2
  obtain ⟨FF,h1,h2⟩:=X2.sep
  obtain ⟨G1,G2,gF,_,g1,_⟩:=h1.split
  exact ⟨X2.only,G1,g1,fun n hn=>h2 n ((gF n).2 (.inl hn))⟩
theorem MFX.grow {u u':Value} {r:Rd u} {r':Rd u'} {z:Nat} (X:MFX F w A st (rdTh r::M) W) (hg:W.grownBy W' u.ownBlock) (ho:u'.ownBlock=u.ownBlock∨u'.ownBlock=some z) (hz:z=W.heap.size) (hr:r'.R W'):MFX F w A st (rdTh r'::M) W':=by
  subst hz
  obtain ⟨G,⟨hG1,hG2⟩,hG,close⟩:=Sep.open X 5 (T:=rdTh r) rfl
  exact close (M:=[rdTh r']) (F':=fun n=>u'.ownBlock=some n) (Only.grown hg fun b hb _=>(hG1 b).2 hb) (SepL.one ⟨fun n=>Iff.rfl,hr⟩) (fun n hn=>by
    rcases ho with h|h
    · exact .inl ((hG1 n).2 (h.symm.trans hn))
    · rw [h] at hn;cases hn;exact .inr (Nat.le_refl _))
theorem MFX.row {u:Value} {r:Rd u} (X:MFX F w A st M W) (hx:Ex W W') (hr:r.R W') (hn:∀ g,u.ownBlock=some g→W.heap.size≤g):MFX F w A st (rdTh r::M) W' :=
  X.add (M':=[rdTh r]) hx (SepL.one ⟨fun n=>Iff.rfl,hr⟩) hn
theorem MFX.box5 {b:Nat} {x:Lot} {t:TypeId} (X:MFX F w A st (blkTh b (lotA x) t::M) W) (y:Lot):MFX F w A st (blkTh b (lotA y) t::M) (((((W.setCell ⟨b,0,none⟩ (.int .i64 y.id)).setCell ⟨b,1,none⟩ (.int .i64 y.owner)).setCell ⟨b,2,none⟩ (.int .i64 y.side)).setCell ⟨b,3,none⟩ (.int .i64 y.price)).setCell ⟨b,4,none⟩ (.int .i64 y.qty)):=by
  obtain ⟨G,⟨hG1,hG2⟩,hG,close⟩:=Sep.open X 5 (T:=blkTh b (lotA x) t) rfl
  have hb:Blk W b (lotA x) t:=hG2
  refine close (M:=[blkTh b (lotA y) t]) (F':=G) (((((((Only.refl G W).setCell ?_ _).setCell ?_ _).setCell ?_ _).setCell ?_ _).setCell ?_ _)) (SepL.one ⟨hG1,((((hb.set 0 (.int .i64 y.id)).set 1 (.int .i64 y.owner)).set 2 (.int .i64 y.side)).set 3 (.int .i64 y.price)).set 4 (.int .i64 y.qty)⟩) (fun n hn=>.inl hn)
  all_goals exact fun _=>(hG1 _).2 rfl
theorem ids_at {l:List Int} {b cu n:Nat} (h:IdsRow l (.slice (some ⟨b,0,none⟩) l.length cu) W) (hn:n<l.length):W.cell? ⟨b,n,none⟩=some (.int .i64 l[n]):=by
  obtain ⟨b',c',e,_,hc⟩:=h.cell hn
  cases e
  exact hc
theorem lrow_app {l:List Lot} {x:Lot} {v:Value} (h:RowAt W 44 5 v (l.length+1) (flat Lot.cells l++x.cells)):(lrowRd (l++[x]) v).R W:=by
  show RowAt _ _ _ _ _ _
  rw [flat_append,flat_one,List.length_append]
  exact h
theorem MFX.two {T:Th} (X:MFX F w A st [T] W):LeavesL [mTh A st,T] F w W:=by
  obtain ⟨h1,FF,h2,h3⟩:=X
  obtain ⟨G1,G2,gF,gd,g1,g2⟩:=h2.split
  exact ⟨FF,⟨G1,G2,gF,gd,g1,g2⟩,h1,h3⟩
def MDropTo (F:Nat→Prop) (w:World) (A:MA) (r:List Lot × FSt) (e:Ending) (w':World):Prop :=
  ∃ v,e=.returned v∧LeavesL [mTh A r.2,rdTh (lrowRd r.1 v)] F w w'
set_option maxRecDepth 100000 in
set_option maxHeartbeats 8000000 in
theorem mdrop_any (h:(mTh A st).P F w) (hO:FOk st) (client:Int) :
    Calls Tryz.prog 15 #[.pointer (some ⟨A.f,0,none⟩),.int .i64 client] w (MDropTo F w A (fdropR st client)):=by
  obtain ⟨iL,hL0,hLz,hL1,hL2⟩:=info_parts infoLotB
  have hX:=MFX.start h
  have HX:=Lib.hid (show MFX F w A ((List.range 0).foldl (dropK client) ([],st)).2 [rdTh (lrowRd ((List.range 0).foldl (dropK client) ([],st)).1 (.slice none 0 0))] w from hX.row (Ex.refl _) (RowAt.nil _ _ _) (fun g hg=>by cases hg))
  have HDK:=Lib.hid (dropR_ok hO client)
  clear h hO hX
  go_enter Tryz.func15,Tryz.ntmps15
  go_wp2_with fail
  go_loopw [5,6] (fun v i wr=>∃ (k:Nat) (v':Value),v'=v∧k≤3∧i=.int .i64 (k:Int)∧MFX F w A ((List.range k).foldl (dropK client) ([],st)).2 [rdTh (lrowRd ((List.range k).foldl (dropK client) ([],st)).1 v')] wr) (fun _ i _=>3 - (intOf i).toNat)
  case atStart=>exact ⟨0,_,rfl,by omega,rfl,HX.out.later (by repeat (first|exact Ex.refl _|refine Ex.alloc ?_ _|refine Ex.ext ?_ _ _|refine Ex.drew ?_|refine Ex.drewN ?_ _))⟩
  case round =>
    obtain ⟨k,v,rfl,hk,rfl,hX⟩:=hrel
    by_cases hlt:k<3
    · have k3:(k:Int)<3:=by omega
      have bk:=hX.bookC hlt
      have hfz:=hX.restC.2.2.2
      have hok:=(HDK.out k (by omega)).1
      have hlen:=(HDK.out k (by omega)).2
      have HST:=Lib.hid (show (List.range (k+1)).foldl (dropK client) ([],st)=(ownerL (((List.range k).foldl (dropK client) ([],st)).2.b k) client).foldl (dropStep k) ((List.range k).foldl (dropK client) ([],st)) by rw [List.range_succ,List.foldl_append];rfl)
      have HOK:=Lib.hid hok
      have HXK:=Lib.hid hX
      have HOW:=Lib.hid (fun own W (hb:BookAt own 1 W (A.bp k) (((List.range k).foldl (dropK client) ([],st)).2.b k))=>mowner_any hb client)
      have HFO:=Lib.hid (fun n hn=>drop_found hok hlt client (n:=n) hn)
      have hz60:=(hok.book k hlt).len
      have hol:=ownerL_le (((List.range k).foldl (dropK client) ([],st)).2.b k) client
      generalize hids:ownerL (((List.range k).foldl (dropK client) ([],st)).2.b k) client=ids at *
      clear hX hok hids HX
      generalize (List.range k).foldl (dropK client) ([],st)=p at *
      go_wp2_with fail
      refine ((HXK.out.later (by with_reducible repeat (first|exact Ex.refl _|refine Ex.alloc ?_ _|refine Ex.ext ?_ _ _|refine Ex.drew ?_|refine Ex.drewN ?_ _))).readB hlt (fun own hb=>HOW.out own _ hb)).mono ?_
      rintro e w1 ⟨⟨u,rfl,hu⟩,hx1⟩
      have hXI:=((HXK.out.later (by with_reducible repeat (first|exact Ex.refl _|refine Ex.alloc ?_ _|refine Ex.ext ?_ _ _|refine Ex.drew ?_|refine Ex.drewN ?_ _))).row (u:=u) (r:=idsRd ids u) hx1 ⟨_,hu⟩ (fun g hg=>(hu.lt g hg).1))
      obtain ⟨au,cu,rfl⟩:=(hXI.rd 0 rfl:IdsRow ids _ _).slice
      have HXI:=Lib.hid (hXI.less (M':=[rdTh (lrowRd p.1 v),rdTh (idsRd ids (.slice au ids.length cu))]) ⟨[],List.Perm.swap _ _ _⟩)
      clear hu hx1 HXK bk hXI
      go_wp2_with fail
      go_loopw [5,8] (fun v i wi=>∃ (n:Nat) (v':Value),v'=v∧n≤ids.length∧i=.int .i64 (n:Int)∧MFX F w A ((ids.take n).foldl (dropStep k) p).2 [rdTh (lrowRd ((ids.take n).foldl (dropStep k) p).1 v'),rdTh (idsRd ids (.slice au ids.length cu))] wi) (fun _ i _=>ids.length - (intOf i).toNat)
      case atStart=>exact ⟨0,_,rfl,Nat.zero_le _,rfl,HXI.out.later (by with_reducible repeat (first|exact Ex.refl _|refine Ex.alloc ?_ _|refine Ex.ext ?_ _ _|refine Ex.drew ?_|refine Ex.drewN ?_ _))⟩
      case round =>
        obtain ⟨n,v2,rfl,hn,rfl,hX2⟩:=hrel
        by_cases hln:n<ids.length
        · obtain ⟨b,cap2,e2,hb,hcell⟩:=(hX2.rd 1 rfl:IdsRow ids _ _).cell hln
          cases e2
          obtain ⟨hok2,hlen2⟩:=dropIds_ok HOK.out hlt (ids.take n)
          rw [List.length_take] at hlen2
          obtain ⟨x,hx,hxi⟩:=HFO.out n hln
          have bk:=hX2.bookC hlt
          have hfz2:=hX2.restC.2.2.2
          have HST2:=Lib.hid (show (ids.take (n+1)).foldl (dropStep k) p=(if (goneR ((ids.take n).foldl (dropStep k) p).2 k ids[n]).2.1=0 then ((ids.take n).foldl (dropStep k) p).1++[(goneR ((ids.take n).foldl (dropStep k) p).2 k ids[n]).1] else ((ids.take n).foldl (dropStep k) p).1,(goneR ((ids.take n).foldl (dropStep k) p).2 k ids[n]).2.2) from fold_snoc (dropStep k) p ids n hln)
          have HOK2:=Lib.hid hok2
          have HX2:=Lib.hid hX2
          clear hX2
          generalize (ids.take n).foldl (dropStep k) p=p2 at *
          generalize hid:ids[n]=id at *
          have HIE:=Lib.hid hid;clear hid
          rcases cancelR_cases (hok2.book k hlt) id with ⟨x2,hx2,hi2,l',ec,_,_,_⟩|⟨hno,_⟩
          · have hz:=freeE_zero hok2 hlt hx2
            have hR:goneR p2.2 k id=(x2,0,(p2.2.setB k l').setP (freeP p2.2.p (k:Int) x2)):=by
              unfold goneR
              rw [ec]
              exact if_pos rfl
            rw [hR] at HST2
            simp only [if_true] at HST2
            have HCA:=Lib.hid (fun own W' (h:BookAt own 1 W' (A.bp k) (p2.2.b k))=>mcancel_any h id)
            rw [ec] at HCA
            have HF:=Lib.hid (fun own W' (h:PurseAt own 1 W' A.pp (p2.2.setB k l').p)=>mfree_any (P:=p2.2.p) h (k:Int) x2)
            rw [hz] at HF
            obtain ⟨v3,cv3,rfl,hcv,hmx⟩:=LRow.slice (base:=0) ⟨(HX2.out.rd 0 rfl:RowAt _ _ _ _ _ _),fun _ _=>Nat.zero_le _⟩
            obtain ⟨xi,xo,xs,xp,xq⟩:=x2
            clear hx hxi hok2 hR hz hx2 hi2 ec
            go_upto_region 9 with fail
            go_cut [9] (fun p wx=>∃ lx,p=.pointer (some ⟨lx,0,none⟩)∧MFX F w A (p2.2.setB k l') [blkTh lx (lotA ⟨xi,xo,xs,xp,xq⟩) 44,rdTh (lrowRd p2.1 (.slice v3 p2.1.length cv3)),rdTh (idsRd ids (.slice (some ⟨b,0,none⟩) ids.length cu))] wx)
            case first =>
              have y2:¬ (A.f=wr.heap.size):=by omega
              have y3:¬ (b=wr.heap.size):=by omega
              go_region_with
                ((first
                  | (go_at_call 42;((with_reducible refine ((HX2.out.box (b:=wr.heap.size) (vs:=lotA zeroLot) (t:=44) ?_ ?_ (Nat.le_refl _)).book hlt (fun own h=>HCA.out own _ h)).mono ?_));(focus ((repeat (first|(with_reducible exact Ex.refl _)|(with_reducible refine Ex.alloc ?_ _)|(with_reducible refine Ex.ext ?_ _ _)|(with_reducible refine Ex.drew ?_)|(with_reducible refine Ex.drewN ?_ _)));done));(focus ((repeat (first|exact Blk.new (by first|omega|(simp [go_sem];done)|(simp [go_sem];omega))|(with_reducible exact Blk.new rfl)|(with_reducible refine Blk.drew ?_)|(with_reducible refine Blk.drewN ?_ _)|(with_reducible refine Blk.ext ?_ _ _)|(with_reducible refine Blk.alloc ?_ _)));done));rintro e w3 ⟨rfl,hX3⟩;have y0:=hX3.bookC hlt;have y1:=ids_at (hX3.rd 2 rfl) hln;have zb:=hX3.blk 0 rfl;have HX3:=Lib.hid hX3;clear hX3;rw [HIE.out] at y1;obtain ⟨z0,z1,z2,z3,z4⟩:=zb.lot;have zf:=zb.free;have hrz6:=zb.lt;clear zb;simp only [zeroLot] at z0 z1 z2 z3 z4)
                  | (go_at_call 42;((with_reducible refine ((HX2.out.later ?_).book hlt (fun own h=>HCA.out own _ h)).mono ?_));(focus ((repeat (first|(with_reducible exact Ex.refl _)|(with_reducible refine Ex.alloc ?_ _)|(with_reducible refine Ex.ext ?_ _ _)|(with_reducible refine Ex.drew ?_)|(with_reducible refine Ex.drewN ?_ _)));done));rintro e w3 ⟨rfl,hX3⟩;have y0:=hX3.bookC hlt;have y1:=ids_at (hX3.rd 1 rfl) hln;have y4:=hX3.restC.2.2.2;have HX3:=Lib.hid hX3;clear hX3;rw [HIE.out] at y1;have y5:=lt_of_cell y1)))
              all_goals go_wp2_with fail
              all_goals
                go_meet
                case rel=>(first|(refine ⟨_,rfl,(HX3.out.box5 ⟨xi,xo,xs,xp,xq⟩).later ?_⟩;(focus ((repeat (first|(with_reducible exact Ex.refl _)|(with_reducible refine Ex.alloc ?_ _)|(with_reducible refine Ex.ext ?_ _ _)|(with_reducible refine Ex.drew ?_)|(with_reducible refine Ex.drewN ?_ _)));done)))|(refine ⟨w3.heap.size,rfl,HX3.out.box ?_ ?_ (Nat.le_refl _)⟩;(focus ((repeat (first|(with_reducible exact Ex.refl _)|(with_reducible refine Ex.alloc ?_ _)|(with_reducible refine Ex.ext ?_ _ _)|(with_reducible refine Ex.drew ?_)|(with_reducible refine Ex.drewN ?_ _)));done));(focus ((repeat (first|exact Blk.new (by first|omega|(simp [go_sem];done)|(simp [go_sem];omega))|(with_reducible exact Blk.new rfl)|(with_reducible refine Blk.drew ?_)|(with_reducible refine Blk.drewN ?_ _)|(with_reducible refine Blk.ext ?_ _ _)|(with_reducible refine Blk.alloc ?_ _)));done))))
            case rest =>
              obtain ⟨lx,rfl,hX3⟩:=hcut
              obtain ⟨c1,_,_,c4⟩:=hX3.restC
              obtain ⟨x0,x1,x2,x3,x4⟩:=(hX3.blk 0 rfl).lot
              simp only at x0 x1 x2 x3 x4
              have hxz:=(hX3.blk 0 rfl).lt
              have HX3:=Lib.hid hX3
              clear hX3 HX2 HCA bk hcell
              go_upto_region 10 with fail
              go_region_with ((go_at_call 43;((with_reducible refine ((HX3.out.later ?_).purse (fun own h=>HF.out own _ h)).mono ?_));(focus ((repeat (first|(with_reducible exact Ex.refl _)|(with_reducible refine Ex.alloc ?_ _)|(with_reducible refine Ex.ext ?_ _ _)|(with_reducible refine Ex.drew ?_)|(with_reducible refine Ex.drewN ?_ _)));done));rintro e w4 ⟨rfl,hX4⟩;obtain ⟨d0,d1,d2,d3,d4⟩:=(hX4.blk 0 rfl).lot;simp only at d0 d1 d2 d3 d4;have HX4:=Lib.hid (hX4.less (M':=[rdTh (lrowRd p2.1 (.slice v3 p2.1.length cv3)),rdTh (idsRd ids (.slice (some ⟨b,0,none⟩) ids.length cu))]) ⟨[_],List.perm_append_comm (l₁:=[_]) (l₂:=[_,_])⟩);clear hX4))
              all_goals
                have hw1:Ex w4 (w4.alloc (.cells #[.int .i64 xi,.int .i64 xo,.int .i64 xs,.int .i64 xp,.int .i64 xq] 44)):=(by with_reducible repeat (first|exact Ex.refl _|refine Ex.alloc ?_ _|refine Ex.ext ?_ _ _|refine Ex.drew ?_|refine Ex.drewN ?_ _))
                go_wp2_with (at_builtin;refine wpList_append_two rfl (.tmp 50) (.tmp 52) 50 50 rfl 44 iL _ 5 40 Tryz.underlying50 hL0 hLz hL1 hL2 rfl (.slice v3 p2.1.length cv3) (.slice (some ⟨w4.heap.size,0,none⟩) 1 1) p2.1.length 1 (flat Lot.cells p2.1) (Lot.cells ⟨xi,xo,xs,xp,xq⟩) rfl rfl ?_ ?_ ?_ ?_ ?_)
                focus exact ((HX4.out.later hw1).rd 0 rfl)
                focus exact (Src.block Tryz.underlying50 1 1 (cs:=#[.int .i64 xi,.int .i64 xo,.int .i64 xs,.int .i64 xp,.int .i64 xq]) (t:=44) (fr:=(0,0)) (heap_new (by simp [go_sem])) (by simp) (by simp [Value.oneCell']))
                focus (unfold maxLen;omega)
                focus omega
                intro v' w' hrow hgrow hown
                have H2:=Lib.hid ((HX4.out.later hw1).grow hgrow hown (by first|omega|(simp [go_sem];done)|(simp [go_sem];omega)) (lrow_app hrow))
                clear hrow hgrow hown
                go_wp2_with fail
                go_roundw
                case measure=>simp [intOf];omega
                case rel=>exact ⟨n+1,_,rfl,by omega,by go_num,by rw [HST2.out];exact H2.out⟩
          · exact absurd hxi (hno x hx)
        · obtain rfl:n=ids.length:=by omega
          have hX3:=hX2.less (M':=[rdTh (lrowRd ((ids.take ids.length).foldl (dropStep k) p).1 v2)]) ⟨_,List.Perm.refl _⟩
          rw [List.take_length] at hX3
          have HX3:=Lib.hid hX3
          clear hX2 hX3
          go_wp2_with fail
          go_roundw
          case measure=>simp [intOf];omega
          case rel=>exact ⟨k+1,_,rfl,by omega,by go_num,by rw [HST.out];exact HX3.out.later (by with_reducible repeat (first|exact Ex.refl _|refine Ex.alloc ?_ _|refine Ex.ext ?_ _ _|refine Ex.drew ?_|refine Ex.drewN ?_ _))⟩
    · obtain rfl:k=3:=by omega
      have HXK:=Lib.hid hX
      clear hX HX
      go_wp2_with fail
      all_goals go_ret
      all_goals exact ⟨_,rfl,(HXK.out.later (by with_reducible repeat (first|exact Ex.refl _|refine Ex.alloc ?_ _|refine Ex.ext ?_ _ _|refine Ex.drew ?_|refine Ex.drewN ?_ _))).two⟩
end
end Go.Proofs.YtmbboflakfokhaaGreatDoor
