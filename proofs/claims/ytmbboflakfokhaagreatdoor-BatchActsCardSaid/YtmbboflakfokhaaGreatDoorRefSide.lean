import Derived.Test.YtmbboflakfokhaaGreatDoorJ17
import Derived.Test.YtmbboflakfokhaaGreatDoorJ36
import Derived.Test.YtmbboflakfokhaaGreatDoorRefLots
/- What the document's FillsOf computes. -/
set_option linter.unusedSimpArgs false
set_option linter.unusedVariables false
namespace Go.Proofs.YtmbboflakfokhaaGreatDoor
open Go.RowKit
theorem takeF_append:∀ (a b:List Lot) (m:Int),takeF (a++b) m=((takeF a m).1++(takeF b (takeF a m).2).1,(takeF b (takeF a m).2).2)
  | [],b,m=>rfl
  | x::a,b,m=>by
    simp only [List.cons_append,takeF]
    by_cases h:0<min x.qty m
    · simp only [if_pos h,takeF_append a b,List.cons_append]
    · simp only [if_neg h,takeF_append a b]
theorem takeF_stop {l:List Lot} {m:Int} {q:Nat} (h:(takeF (l.take q) m).2=0):takeF l m=takeF (l.take q) m:=by
  have e:=takeF_append (l.take q) (l.drop q) m
  rw [List.take_append_drop,h,takeF_zero,List.append_nil] at e
  rw [e,← h]
theorem IntsAt.grown {W w':World} {ao:Option Addr} {zs:List Int} {row:Option Nat} (h:IntsAt W ao zs) (ho:IntsObj W ao) (hg:W.grownBy w' row) (hne:∀ a,ao=some a→some a.block≠row):IntsAt w' ao zs∧IntsObj w' ao:=by
  refine ⟨fun h0=>?_,fun a e=>?_⟩
  · obtain ⟨b,off,e,hb,hc⟩:=h h0
    have hbk:=hg.block b hb (hne _ e)
    exact ⟨b,off,e,Nat.lt_of_lt_of_le hb hg.size,fun k hk=>(World.cell?_of_block (w:=W) (w':=w') hbk).trans (hc k hk)⟩
  · obtain ⟨cs,hc⟩:=ho a e
    exact ⟨cs,(hg.block _ (Array.getElem?_eq_some_iff.1 hc).1 (hne a e)).trans hc⟩
theorem ints_apart {W:World} {ao:Option Addr} {base:Nat} {e:TypeId} {size:Nat} {v:Value} {n:Nat} {xs:List Value} (ho:IntsObj W ao) (h:W.ownsRow base e size v n xs) (he:e≠3):∀ a,ao=some a→some a.block≠v.ownBlock:=fun a ea e0=>by
  obtain ⟨cs,hc⟩:=ho a ea
  obtain ⟨cs',hc'⟩:=owns_obj h e0.symm
  rw [hc] at hc'
  simp at hc'
  exact he hc'.2.symm
theorem serv_pick (lv:List Lot) (lf seed:Int) (q:Nat) (hq:q<lv.length) :
    (totL lv≤lf→∃ kk:Nat,(shufL lv.length seed)[q]! = (kk:Int)∧kk<lv.length∧∃ x,lv[q]?=some x∧(servL lv lf seed)[q]?=some x) ∧
    (¬ totL lv≤lf→∃ kk:Nat,(shufL lv.length seed)[q]! = (kk:Int)∧kk<lv.length∧∃ x,lv[kk]?=some x∧(servL lv lf seed)[q]?=some x):=by
  have hzl:=shufL_len lv.length seed
  have hqz:q<(shufL lv.length seed).length:=by omega
  have hr:=shufL_range _ (List.getElem_mem hqz)
  have e:(shufL lv.length seed)[q]! = (shufL lv.length seed)[q]:=by simp [getElem!_pos,hqz]
  refine ⟨fun h=>⟨((shufL lv.length seed)[q]).toNat,by rw [e];omega,by omega,lv[q],List.getElem?_eq_getElem hq,?_⟩,fun h=>?_⟩
  · unfold servL
    rw [if_neg (by omega)]
    exact List.getElem?_eq_getElem hq
  · have hk:((shufL lv.length seed)[q]).toNat<lv.length:=by omega
    refine ⟨((shufL lv.length seed)[q]).toNat,by rw [e];omega,hk,lv[((shufL lv.length seed)[q]).toNat],List.getElem?_eq_getElem hk,?_⟩
    unfold servL
    rw [if_pos (by omega),turnL,List.getElem?_map,List.getElem?_eq_getElem hqz,Option.map_some,List.getD_eq_getElem?_getD,List.getElem?_eq_getElem hk]
    rfl
set_option maxRecDepth 100000 in
set_option maxHeartbeats 2000000 in
theorem refLevel_any (ao:Option Addr) (len cap:Nat) (l:List Lot) (side p:Int) (w:World) (hl:LotsAt w ao len l) (hok:LotsOk l) :
    Calls Tryz.prog 107 #[.slice ao len cap,.int .i64 side,.int .i64 p] w fun e w'=>(∃ ao' cap',e=.returned (.slice ao' (atP side p l).length cap')∧(atP side p l).length≤cap'∧LotsAt w' ao' (atP side p l).length (atP side p l)∧LotsObj w' ao')∧Ex w w':=by
  have HLA:=Lib.hid hl
  have HLEN:=Lib.hid hl.1
  have HOK:=Lib.hid hok
  have h120:len≤120:=by have:=hl.1;have:=hok.1;omega
  obtain ⟨iL,hL0,hi⟩:=Option.map_eq_some_iff.1 infoLot
  simp only [Prod.mk.injEq] at hi
  obtain ⟨hLz,hL1,hL2⟩:=hi
  clear hl hok
  go_enter Tryz.func107,Tryz.ntmps107
  go_wp2_with fail
  go_loopw [7,8] (fun v i wr=>∃ (k:Nat) (u:Value),u=v∧k≤len∧i=.int .i64 k∧wr.ownsRow w.heap.size 44 5 u (atP side p (l.take k)).length ((atP side p (l.take k)).flatMap Lot.cells)∧Below w.heap.size w wr) (fun _ i _=>len - (intOf i).toNat)
  case atStart=>exact ⟨0,_,rfl,Nat.zero_le _,rfl,World.ownsRow_nil _ _ _ _,Below.refl _ _⟩
  case round =>
    obtain ⟨k,v,rfl,hk,rfl,hrow,hB⟩:=hrel
    have HR:=Lib.hid hrow
    have HB:=Lib.hid hB
    have hbz:=hB.size
    by_cases hlt:k<len
    · have hkl:k<l.length:=by rw [HLEN.out];omega
      obtain ⟨b,off,rfl,hbs,hz⟩:=HLA.out.2.2.2 (by omega)
      have hzk:=hz k hkl
      have ha0:l[k]?=some (l[k]'hkl):=List.getElem?_eq_getElem hkl
      have hcx:∀ j,j<5→wr.cell? ⟨b,off+k*5+j,none⟩=(l[k]'hkl).cells[j]?:=fun j hj=>(hB.cell (p:=⟨b,off+k*5+j,none⟩) hbs).trans (hzk j hj)
      have hst:atP side p (l.take (k+1))=atP side p (l.take k)++(if (l[k]'hkl).side==side && (l[k]'hkl).price==p then [l[k]'hkl] else []):=by
        rw [List.take_add_one,ha0,atP,List.filter_append]
        congr 1
        simp only [Option.toList_some,List.filter_cons,List.filter_nil]
      have hlen2:(atP side p (l.take k)).length≤120:=by
        have:(atP side p (l.take k)).length≤(l.take k).length:=List.length_filter_le _ _
        simp at this;omega
      generalize l[k]'hkl=a at *
      have a0:=hcx 0 (by omega)
      have a1:=hcx 1 (by omega)
      have a2:=hcx 2 (by omega)
      have a3:=hcx 3 (by omega)
      have a4:=hcx 4 (by omega)
      simp only [Lot.cells,List.getElem?_cons_zero,List.getElem?_cons_succ,Nat.add_zero] at a0 a1 a2 a3 a4
      have HST:=Lib.hid hst
      have hbw:b<wr.heap.size:=by omega
      clear hz hzk ha0 hcx hst hrow hB
      cases h1:(a.side==side)
      · go_wp2_with fail
        all_goals
          go_roundw
          case measure=>simp [intOf];omega
          case rel=>exact ⟨k+1,_,rfl,by omega,by go_num,by rw [HST.out,h1];simpa using HR.out,HB.out⟩
      cases h2:(a.price==p)
      · go_wp2_with fail
        all_goals
          go_roundw
          case measure=>simp [intOf];omega
          case rel=>exact ⟨k+1,_,rfl,by omega,by go_num,by rw [HST.out,h1,h2];simpa using HR.out,HB.out⟩
      · go_wp2_with (at_builtin;refine wpList_append_own _ rfl (.tmp 31) (.tmp 36) 50 rfl w.heap.size 44 iL _ 5 40 Tryz.underlying50 hL0 hLz hL1 hL2 rfl (by decide) v (atP side p (l.take k)).length ((atP side p (l.take k)).flatMap Lot.cells) rfl ?_ _ 1 1 [.int .i64 a.id,.int .i64 a.owner,.int .i64 a.side,.int .i64 a.price,.int .i64 a.qty] rfl rfl ?_ ?_ (by unfold maxLen;omega) (by omega) ?_ ?_;(focus (refine HR.out.kept (Below.grownBy ?_) (Classical.em _);((refine Below.trans (Below.refl _ _) ?_;repeat (first|exact Below.refl _ _|(refine Below.drew ?_)|(refine Below.drewN ?_ _)|(refine Below.ext ?_ (by first|omega|(simp [go_sem];done)|(simp [go_sem];omega)) _ _)|(refine Below.alloc ?_ (by first|omega|(simp [go_sem];done)|(simp [go_sem];omega)) _)|(refine Below.setCell ?_ (by first|omega|(simp [go_sem];done)|(simp [go_sem];omega)) _))))));(focus exact World.news_of_block (alloc_at rfl));(focus simp [Value.oneCell']);(focus exact (by first|omega|(simp [go_sem];done)|(simp [go_sem];omega)));intro v5 w5 hown5 hgr5 _)
        all_goals
          go_roundw
          case measure=>simp [intOf];omega
          case rel =>
            refine ⟨k+1,_,rfl,by omega,by go_num,?_,?_⟩
            · rw [HST.out,h1,h2]
              simpa [Lot.cells] using hown5
            · refine Below.grown (a:=_) ?_ hgr5 ?_ (fun b hb=>(HR.out.lt b hb).1)
              · (refine Below.trans HB.out ?_;repeat (first|exact Below.refl _ _|(refine Below.drew ?_)|(refine Below.drewN ?_ _)|(refine Below.ext ?_ (by first|omega|(simp [go_sem];done)|(simp [go_sem];omega)) _ _)|(refine Below.alloc ?_ (by first|omega|(simp [go_sem];done)|(simp [go_sem];omega)) _)|(refine Below.setCell ?_ (by first|omega|(simp [go_sem];done)|(simp [go_sem];omega)) _)))
              · exact (by first|omega|(simp [go_sem];done)|(simp [go_sem];omega))
    · rw [List.take_of_length_le (by rw [HLEN.out];omega)] at hrow
      obtain ⟨ao2,cap2,rfl,hl2,ho2⟩:=lots_owned (n:=(atP side p l).length) (fun x hx=>lot_wf (HOK.out.mem x (List.mem_filter.1 hx).1)) (by have:(atP side p l).length≤l.length:=List.length_filter_le _ _;have:=HLEN.out;omega) rfl hrow
      have hcap:(atP side p l).length≤cap2:=by
        rcases hrow.2 with ⟨e,h⟩|⟨g,cap',cur,e,_,_,hn,_⟩
        · injection e with e1 e2 e3;omega
        · injection e with e1 e2 e3;omega
      have HL2:=Lib.hid hl2
      have HO2:=Lib.hid ho2
      clear hrow hB hl2 ho2
      go_wp2_with fail
      go_ret
      exact ⟨⟨_,_,rfl,hcap,HL2.out.ex (by repeat (first|exact Ex.refl _|refine Ex.alloc ?_ _|refine Ex.ext ?_ _ _|refine Ex.drew ?_|refine Ex.drewN ?_ _)),HO2.out.ex (by repeat (first|exact Ex.refl _|refine Ex.alloc ?_ _|refine Ex.ext ?_ _ _|refine Ex.drew ?_|refine Ex.drewN ?_ _))⟩,(Ex.of HB.out).trans (by repeat (first|exact Ex.refl _|refine Ex.alloc ?_ _|refine Ex.ext ?_ _ _|refine Ex.drew ?_|refine Ex.drewN ?_ _))⟩
set_option maxRecDepth 100000 in
set_option maxHeartbeats 8000000 in
theorem refSide0_any (ao:Option Addr) (len cap:Nat) (l:List Lot) (price left seed:Int) (w:World) (hl:LotsAt w ao len l) (hok:LotsOk l) (hu:U32 seed) (p1:1≤price) (p2:price≤1000) (h0:0≤left) (h1:left≤1000000) :
    Calls Tryz.prog 88 #[.slice ao len cap,.int .i64 0,.int .i64 price,.int .i64 left,.int .u32 seed] w fun e w'=>(∃ v,e=.returned v∧w'.ownsRow w.heap.size 126 2 v (sideF (levelsL 0 price l) left seed).length ((sideF (levelsL 0 price l) left seed).flatMap Fil.cells))∧Ex w w':=by
  rw [← side0_eq hok p1 p2 left seed h0]
  have HLA:=Lib.hid hl
  have HLEN:=Lib.hid hl.1
  have HOK:=Lib.hid hok
  have h120:=hok.1
  have hlm:=hl.2.1
  have HU:=Lib.hid hu
  obtain ⟨hu0,hu1⟩:=hu
  have hC:(((1001 - price).toNat:Nat):Int)=(1001 - price).toNat:=rfl
  obtain ⟨iF,hF0,hi⟩:=Option.map_eq_some_iff.1 infoFill
  simp only [Prod.mk.injEq] at hi
  obtain ⟨hFz,hF1,hF2⟩:=hi
  have HT0:=Lib.hid (rfl:refF (fOf0 price l) ((1001 - price).toNat) left seed=refF (fOf0 price l) ((1001 - price).toNat) left seed)
  clear hl hok hC
  generalize hT:refF (fOf0 price l) ((1001 - price).toNat) left seed=T at HT0 ⊢
  have HT:=Lib.hid hT
  have hC0:(((1001 - price).toNat:Nat):Int)≤1000:=by omega
  clear HT0 hT
  go_enter Tryz.func88,Tryz.ntmps88
  go_wp2_with fail
  go_loopw [3,11,12] (fun m v p wr=>∃ (c:Nat) (u:Value) (lf:Int) (pre:List Fil),u=v∧c≤(1001 - price).toNat∧p=.int .i64 (price+(c:Int) - 1)∧m=.int .i64 lf∧0≤lf∧lf≤left∧pre++refF (fOf0 price l) c lf seed=T∧pre.length≤120*((1001 - price).toNat - c)∧wr.ownsRow w.heap.size 126 2 u pre.length (pre.flatMap Fil.cells)∧Below w.heap.size w wr) (fun _ _ p _=>((intOf p)+1 - price).toNat)
  case atStart=>exact ⟨(1001 - price).toNat,_,left,[],rfl,Nat.le_refl _,(by congr 1;omega),rfl,h0,Int.le_refl _,by rw [List.nil_append];exact HT.out,Nat.zero_le _,World.ownsRow_nil _ _ _ _,Below.refl _ _⟩
  case round =>
    obtain ⟨c,u,lf,pre,rfl,hc,rfl,rfl,hf0,hf1,hsd,hpl,hrow,hB⟩:=hrel
    have HSD:=Lib.hid hsd
    have HROW:=Lib.hid hrow
    have HB:=Lib.hid hB
    have hbz:=hB.size
    clear hsd hrow
    by_cases hlf:lf=0
    · subst hlf
      have hnext:pre=T:=by rw [← HSD.out,refF_zero,List.append_nil]
      have HNX:=Lib.hid hnext
      clear hnext hB
      go_wp2_with fail
      go_ret
      exact ⟨⟨_,rfl,by rw [← HNX.out];exact HROW.out⟩,Ex.of HB.out⟩
    have hlp:lf > 0:=by omega
    cases c with
    | zero =>
      have hnext:pre=T:=by rw [← HSD.out];simp [refF]
      have HNX:=Lib.hid hnext
      have hpc:¬ (price≤price+((0:Nat):Int) - 1):=by omega
      clear hnext hB
      go_wp2_with fail
      go_ret
      exact ⟨⟨_,rfl,by rw [← HNX.out];exact HROW.out⟩,Ex.of HB.out⟩
    | succ c =>
      have hpe:(match c+1 with|c=>(price+(c:Int) - 1:Int))=price+(c:Int):=by simp only;omega
      simp only at hpe
      rw [hpe]
      have hREF:refF (fOf0 price l) (c+1) lf seed=(takeF (servL (fOf0 price l (c+1)) lf seed) lf).1++refF (fOf0 price l) c (takeF (servL (fOf0 price l (c+1)) lf seed) lf).2 seed:=by rw [refF,if_pos hlp]
      have hlv:fOf0 price l (c+1)=atP 0 (price+(c:Int)) l:=by unfold fOf0;congr 1
      have HLV:=Lib.hid (refLevel_any ao len cap l 0 (price+(c:Int)) wr (HLA.out.ex (Ex.of hB)) HOK.out)
      have hok2:∀ x∈atP 0 (price+(c:Int)) l,x.ok=true:=fun x hx=>HOK.out.mem x (List.mem_filter.1 hx).1
      have hn120:(atP 0 (price+(c:Int)) l).length≤120:=Nat.le_trans (List.length_filter_le _ _) h120
      rw [hlv] at hREF
      clear hB hlv
      generalize atP 0 (price+(c:Int)) l=lv at *
      have HREF:=Lib.hid hREF
      have HOKV:=Lib.hid hok2
      have hsvl:=servL_len lv lf seed
      have hpick:=fun q hq=>serv_pick lv lf seed q hq
      have htb:=sumT_bounds hok2
      have HSH:=Lib.hid (fun w=>shuffleOf_all (lv.length:Int) lv.length seed w (by omega) HU.out)
      have hzl:=shufL_len lv.length seed
      clear hREF hok2
      generalize hsv:servL lv lf seed=sv at *
      have HSV:=Lib.hid hsv
      clear hsv
      have hj1:price≤price+(c:Int):=by omega
      have hj2:price - (c:Int)≤price:=by omega
      go_upto_region 9 with (go_at_call 107;refine HLV.out.mono ?_;rintro e w2 ⟨⟨ao2,cap2,rfl,hcap2,hl2,ho2⟩,hx2⟩)
      have HX2:=Lib.hid hx2
      have HLO:=Lib.hid hl2
      have HOB:=Lib.hid ho2
      have HROW2:=Lib.hid (HROW.out.kept (Below.grownBy hx2.below) (Classical.em _))
      have HB2:=Lib.hid (HB.out.trans (hx2.below.mono hbz))
      have hb2z:=HB2.out.size
      have HTS:=Lib.hid (fun k (x:Lot) (h:lv[k]?=some x)=>totL_step h)
      have HTA:=Lib.hid (show totL (lv.take lv.length)=totL lv by rw [List.take_of_length_le (Nat.le_refl _)])
      have HTB:=Lib.hid (fun k=>sumT_bounds (l:=lv.take k) (fun x hx=>HOKV.out x (List.mem_of_mem_take hx)))
      clear hl2 ho2 hx2
      generalize hn:lv.length=n at *
      have HN:=Lib.hid hn
      clear hn
      go_wp2_with fail
      go_loop [15,16] (fun t i=>∃ k:Nat,k≤n∧i=.int .i64 k∧t=.int .i64 (totL (lv.take k))) (fun _ i=>n - (intOf i).toNat)
      case atStart=>exact ⟨0,Nat.zero_le _,rfl,by simp [totL,sumOf]⟩
      case round =>
        obtain ⟨k,hk,rfl,rfl⟩:=hrel
        by_cases hkn:k<n
        · obtain ⟨bl,ol,rfl,hbl,hcl4⟩:=HLO.out.2.2.2 (by omega)
          have hkl:k<lv.length:=by rw [HN.out];exact hkn
          have hx0:lv[k]?=some lv[k]:=List.getElem?_eq_getElem hkl
          have hst:=HTS.out k _ hx0
          have hcx:=hcl4 k hkl 4 (by omega)
          have hxo:=Lot.ok_iff.1 (HOKV.out _ (List.getElem_mem hkl))
          generalize lv[k]=x at *
          simp only [Lot.cells,List.getElem?_cons_zero,List.getElem?_cons_succ] at hcx
          have htk:=HTB.out k
          have hle:(lv.take k).length≤120:=by simp;omega
          have HST:=Lib.hid hst
          clear hst hcl4 hx0
          generalize totL (lv.take k)=t at *
          go_wp2_with fail
          all_goals
            go_round
            case measure=>simp [intOf];omega
            case rel=>exact ⟨k+1,by omega,by go_num,by rw [HST.out]⟩
        · obtain rfl:k=n:=by omega
          rw [HTA.out]
          by_cases hw:totL lv≤lf
          · have HPICK:Hid (∀ q,q<k→∃ kk:Nat,(shufL k seed)[q]! = (kk:Int)∧kk<k∧∃ x,lv[q]?=some x∧sv[q]?=some x):=Lib.hid (fun q hq=>(hpick q hq).1 (by omega))
            clear hpick HTS HTA HTB
            generalize shufL k seed=Z at *
            go_upto_region 16 with (go_at_call 108;refine (HSH.out _).mono ?_;rintro e w3 ⟨⟨ao4,cap4,rfl,hc4,hz4,hzo4⟩,hx4⟩)
            have hx4':Ex w2 w3:=Ex.trans (by repeat (first|exact Ex.refl _|refine Ex.alloc ?_ _|refine Ex.ext ?_ _ _|refine Ex.drew ?_|refine Ex.drewN ?_ _)) hx4
            have hl4':=HLO.out.ex hx4'
            have ho4':=HOB.out.ex hx4'
            have hrow3:=HROW2.out.kept (Below.grownBy hx4'.below) (Classical.em _)
            have hB3:=HB2.out.trans (hx4'.below.mono hb2z)
            clear hx4 hx4'
            go_wp2_with fail
            go_loopw [3,11,19] (fun m v i wr=>∃ (q:Nat) (u4:Value),u4=v∧q≤k∧i=.int .i64 q∧m=.int .i64 (takeF (sv.take q) lf).2∧LotsAt wr ao2 k lv∧LotsObj wr ao2∧IntsAt wr ao4 Z∧IntsObj wr ao4∧wr.ownsRow w.heap.size 126 2 u4 (pre.length+(takeF (sv.take q) lf).1.length) ((pre++(takeF (sv.take q) lf).1).flatMap Fil.cells)∧Below w.heap.size w wr) (fun _ _ i _=>k - (intOf i).toNat)
            case atStart=>exact ⟨0,_,rfl,Nat.zero_le _,rfl,rfl,hl4',ho4',hz4,hzo4,by simpa [takeF] using hrow3,hB3⟩
            case round =>
              obtain ⟨q,u4,rfl,hq,rfl,rfl,hl4,ho4,hz5,hzo5,hr4,hb4⟩:=hrel
              have HL4:=Lib.hid hl4
              have HO4:=Lib.hid ho4
              have HZ5:=Lib.hid hz5
              have HZO5:=Lib.hid hzo5
              have HR4:=Lib.hid hr4
              have HB4:=Lib.hid hb4
              have hb4z:=hb4.size
              have htl:=takeF_left (sv.take q) lf hf0
              have htn:=takeF_len (sv.take q) lf
              have htn2:(takeF (sv.take q) lf).1.length≤120:=by simp at htn;omega
              by_cases hgo:q<k∧0<(takeF (sv.take q) lf).2
              · obtain ⟨hqn,hpos⟩:=hgo
                obtain ⟨kk,hkk,hkn,x,hxl,hxs⟩:=HPICK.out q hqn
                obtain ⟨bz,oz,rfl,hbz2,hcz⟩:=hz5 (by omega)
                have hqz:q<Z.length:=by omega
                have hzc:=hcz q hqz
                rw [show Z[q]=(kk:Int) by rw [← hkk];simp [getElem!_pos,hqz]] at hzc
                obtain ⟨bl,ol,rfl,hbl,hcl4⟩:=hl4.2.2.2 (by omega)
                have htk:sv.take (q+1)=sv.take q++[x]:=by rw [List.take_add_one,hxs];rfl
                have hsn:=takeF_snoc x (sv.take q) lf
                rw [← htk] at hsn
                have hxm:x∈lv:=List.mem_of_getElem? hxl
                have hxo:=Lot.ok_iff.1 (HOKV.out x hxm)
                obtain ⟨hjl,hje⟩:=List.getElem?_eq_some_iff.1 hxl
                have hcx:=hcl4 _ hjl
                rw [hje] at hcx
                have x0:=hcx 0 (by omega)
                have x4:=hcx 4 (by omega)
                simp only [Lot.cells,List.getElem?_cons_zero,List.getElem?_cons_succ,Nat.add_zero] at x0 x4
                have HSN:=Lib.hid hsn
                clear hsn htk hcl4 hcx hl4 ho4 hr4 hb4 hz5 hzo5 hcz hkk hxl hxs hje
                generalize takeF (sv.take q) lf=T2 at *
                by_cases hmn:x.qty > T2.2
                · have HS2:Hid (takeF (sv.take (q+1)) lf=(T2.1++[⟨x.id,T2.2⟩],T2.2 - T2.2)):=Lib.hid (by rw [HSN.out,show min x.qty T2.2=T2.2 by omega,if_pos hpos])
                  go_wp2_with (at_builtin;refine wpList_append_own _ rfl (.tmp 93) (.tmp 101) 52 rfl w.heap.size 126 iF _ 2 16 Tryz.underlying52 hF0 hFz hF1 hF2 rfl (by decide) u4 (pre.length+T2.1.length) ((pre++T2.1).flatMap Fil.cells) rfl ?_ _ 1 1 [.int .i64 x.id,.int .i64 T2.2] rfl rfl ?_ ?_ (by unfold maxLen;omega) (by omega) ?_ ?_;(focus (refine HR4.out.kept (Below.grownBy ?_) (Classical.em _);((refine Below.trans (Below.refl _ _) ?_;repeat (first|exact Below.refl _ _|(refine Below.drew ?_)|(refine Below.drewN ?_ _)|(refine Below.ext ?_ (by first|omega|(simp [go_sem];done)|(simp [go_sem];omega)) _ _)|(refine Below.alloc ?_ (by first|omega|(simp [go_sem];done)|(simp [go_sem];omega)) _)|(refine Below.setCell ?_ (by first|omega|(simp [go_sem];done)|(simp [go_sem];omega)) _))))));(focus exact World.news_of_block (alloc_at (by first|rfl|(simp;done))));(focus simp [Value.oneCell']);(focus exact (by first|omega|(simp [go_sem];done)|(simp [go_sem];omega)));intro v5 w5 hown5 hgr5 _)
                  all_goals
                    go_roundw
                    case measure=>simp [intOf];omega
                    case rel =>
                      have hlo:=LotsAt.grown (W:=wr.alloc _) (HL4.out.ex (by repeat (first|exact Ex.refl _|refine Ex.alloc ?_ _|refine Ex.ext ?_ _ _|refine Ex.drew ?_|refine Ex.drewN ?_ _))) (HO4.out.ex (by repeat (first|exact Ex.refl _|refine Ex.alloc ?_ _|refine Ex.ext ?_ _ _|refine Ex.drew ?_|refine Ex.drewN ?_ _))) hgr5 (lots_apart HO4.out HR4.out (by decide))
                      have hio:=IntsAt.grown (W:=wr.alloc _) (HZ5.out.ex (by repeat (first|exact Ex.refl _|refine Ex.alloc ?_ _|refine Ex.ext ?_ _ _|refine Ex.drew ?_|refine Ex.drewN ?_ _))) (HZO5.out.ex (by repeat (first|exact Ex.refl _|refine Ex.alloc ?_ _|refine Ex.ext ?_ _ _|refine Ex.drew ?_|refine Ex.drewN ?_ _))) hgr5 (ints_apart HZO5.out HR4.out (by decide))
                      refine ⟨q+1,_,rfl,by omega,by go_num,by (rw [HS2.out];try (first|rfl|(congr 1;omega))),hlo.1,hlo.2,hio.1,hio.2,?_,?_⟩
                      · rw [HS2.out]
                        simpa [Fil.cells,Nat.add_assoc] using hown5
                      · refine Below.grown (a:=_) ?_ hgr5 ?_ (fun b hb=>(HR4.out.lt b hb).1)
                        · (refine Below.trans HB4.out ?_;repeat (first|exact Below.refl _ _|(refine Below.drew ?_)|(refine Below.drewN ?_ _)|(refine Below.ext ?_ (by first|omega|(simp [go_sem];done)|(simp [go_sem];omega)) _ _)|(refine Below.alloc ?_ (by first|omega|(simp [go_sem];done)|(simp [go_sem];omega)) _)|(refine Below.setCell ?_ (by first|omega|(simp [go_sem];done)|(simp [go_sem];omega)) _)))
                        · exact (by first|omega|(simp [go_sem];done)|(simp [go_sem];omega))
                · have HS2:Hid (takeF (sv.take (q+1)) lf=(T2.1++[⟨x.id,x.qty⟩],T2.2 - x.qty)):=Lib.hid (by rw [HSN.out,show min x.qty T2.2=x.qty by omega,if_pos (by omega)])
                  go_wp2_with (at_builtin;refine wpList_append_own _ rfl (.tmp 93) (.tmp 101) 52 rfl w.heap.size 126 iF _ 2 16 Tryz.underlying52 hF0 hFz hF1 hF2 rfl (by decide) u4 (pre.length+T2.1.length) ((pre++T2.1).flatMap Fil.cells) rfl ?_ _ 1 1 [.int .i64 x.id,.int .i64 x.qty] rfl rfl ?_ ?_ (by unfold maxLen;omega) (by omega) ?_ ?_;(focus (refine HR4.out.kept (Below.grownBy ?_) (Classical.em _);((refine Below.trans (Below.refl _ _) ?_;repeat (first|exact Below.refl _ _|(refine Below.drew ?_)|(refine Below.drewN ?_ _)|(refine Below.ext ?_ (by first|omega|(simp [go_sem];done)|(simp [go_sem];omega)) _ _)|(refine Below.alloc ?_ (by first|omega|(simp [go_sem];done)|(simp [go_sem];omega)) _)|(refine Below.setCell ?_ (by first|omega|(simp [go_sem];done)|(simp [go_sem];omega)) _))))));(focus exact World.news_of_block (alloc_at (by first|rfl|(simp;done))));(focus simp [Value.oneCell']);(focus exact (by first|omega|(simp [go_sem];done)|(simp [go_sem];omega)));intro v5 w5 hown5 hgr5 _)
                  all_goals
                    go_roundw
                    case measure=>simp [intOf];omega
                    case rel =>
                      have hlo:=LotsAt.grown (W:=wr.alloc _) (HL4.out.ex (by repeat (first|exact Ex.refl _|refine Ex.alloc ?_ _|refine Ex.ext ?_ _ _|refine Ex.drew ?_|refine Ex.drewN ?_ _))) (HO4.out.ex (by repeat (first|exact Ex.refl _|refine Ex.alloc ?_ _|refine Ex.ext ?_ _ _|refine Ex.drew ?_|refine Ex.drewN ?_ _))) hgr5 (lots_apart HO4.out HR4.out (by decide))
                      have hio:=IntsAt.grown (W:=wr.alloc _) (HZ5.out.ex (by repeat (first|exact Ex.refl _|refine Ex.alloc ?_ _|refine Ex.ext ?_ _ _|refine Ex.drew ?_|refine Ex.drewN ?_ _))) (HZO5.out.ex (by repeat (first|exact Ex.refl _|refine Ex.alloc ?_ _|refine Ex.ext ?_ _ _|refine Ex.drew ?_|refine Ex.drewN ?_ _))) hgr5 (ints_apart HZO5.out HR4.out (by decide))
                      refine ⟨q+1,_,rfl,by omega,by go_num,by (rw [HS2.out];try (first|rfl|(congr 1;omega))),hlo.1,hlo.2,hio.1,hio.2,?_,?_⟩
                      · rw [HS2.out]
                        simpa [Fil.cells,Nat.add_assoc] using hown5
                      · refine Below.grown (a:=_) ?_ hgr5 ?_ (fun b hb=>(HR4.out.lt b hb).1)
                        · (refine Below.trans HB4.out ?_;repeat (first|exact Below.refl _ _|(refine Below.drew ?_)|(refine Below.drewN ?_ _)|(refine Below.ext ?_ (by first|omega|(simp [go_sem];done)|(simp [go_sem];omega)) _ _)|(refine Below.alloc ?_ (by first|omega|(simp [go_sem];done)|(simp [go_sem];omega)) _)|(refine Below.setCell ?_ (by first|omega|(simp [go_sem];done)|(simp [go_sem];omega)) _)))
                        · exact (by first|omega|(simp [go_sem];done)|(simp [go_sem];omega))
              · have hstop:takeF sv lf=takeF (sv.take q) lf:=by
                  by_cases hq2:q<k
                  · exact takeF_stop (by omega)
                  · rw [List.take_of_length_le (by omega)]
                have HSTOP:=Lib.hid hstop
                clear hl4 ho4 hr4 hb4 hz5 hzo5 htn hstop
                have hnx:(pre++(takeF (sv.take q) lf).1)++refF (fOf0 price l) c (takeF (sv.take q) lf).2 seed=T:=by
                  rw [← HSTOP.out,← HSD.out,HREF.out,List.append_assoc]
                have HNX:=Lib.hid hnx
                clear hnx HSTOP
                generalize takeF (sv.take q) lf=T2 at *
                have hcase:q=k∨(q<k∧T2.2=0):=by omega
                rcases hcase with rfl|⟨hqn,ht0⟩
                · go_wp2_with fail
                  all_goals
                    go_roundw
                    case measure=>simp [intOf];omega
                    case rel=>exact ⟨c,_,T2.2,pre++T2.1,rfl,by omega,by first|go_num|(congr 1;omega),rfl,htl.1,by omega,HNX.out,by simp;omega,by rw [List.length_append];exact HR4.out,HB4.out⟩
                · go_wp2_with fail
                  all_goals
                    go_roundw
                    case measure=>simp [intOf];omega
                    case rel=>exact ⟨c,_,T2.2,pre++T2.1,rfl,by omega,by first|go_num|(congr 1;omega),by rw [ht0],htl.1,by omega,HNX.out,by simp;omega,by rw [List.length_append];exact HR4.out,HB4.out⟩
          · have HPICK:Hid (∀ q,q<k→∃ kk:Nat,(shufL k seed)[q]! = (kk:Int)∧kk<k∧∃ x,lv[kk]?=some x∧sv[q]?=some x):=Lib.hid (fun q hq=>(hpick q hq).2 (by omega))
            clear hpick HTS HTA HTB
            generalize shufL k seed=Z at *
            go_upto_region 16 with (go_at_call 108;refine (HSH.out _).mono ?_;rintro e w3 ⟨⟨ao4,cap4,rfl,hc4,hz4,hzo4⟩,hx4⟩)
            have hx4':Ex w2 w3:=Ex.trans (by repeat (first|exact Ex.refl _|refine Ex.alloc ?_ _|refine Ex.ext ?_ _ _|refine Ex.drew ?_|refine Ex.drewN ?_ _)) hx4
            have hl4':=HLO.out.ex hx4'
            have ho4':=HOB.out.ex hx4'
            have hrow3:=HROW2.out.kept (Below.grownBy hx4'.below) (Classical.em _)
            have hB3:=HB2.out.trans (hx4'.below.mono hb2z)
            clear hx4 hx4'
            go_wp2_with fail
            go_loopw [3,11,19] (fun m v i wr=>∃ (q:Nat) (u4:Value),u4=v∧q≤k∧i=.int .i64 q∧m=.int .i64 (takeF (sv.take q) lf).2∧LotsAt wr ao2 k lv∧LotsObj wr ao2∧IntsAt wr ao4 Z∧IntsObj wr ao4∧wr.ownsRow w.heap.size 126 2 u4 (pre.length+(takeF (sv.take q) lf).1.length) ((pre++(takeF (sv.take q) lf).1).flatMap Fil.cells)∧Below w.heap.size w wr) (fun _ _ i _=>k - (intOf i).toNat)
            case atStart=>exact ⟨0,_,rfl,Nat.zero_le _,rfl,rfl,hl4',ho4',hz4,hzo4,by simpa [takeF] using hrow3,hB3⟩
            case round =>
              obtain ⟨q,u4,rfl,hq,rfl,rfl,hl4,ho4,hz5,hzo5,hr4,hb4⟩:=hrel
              have HL4:=Lib.hid hl4
              have HO4:=Lib.hid ho4
              have HZ5:=Lib.hid hz5
              have HZO5:=Lib.hid hzo5
              have HR4:=Lib.hid hr4
              have HB4:=Lib.hid hb4
              have hb4z:=hb4.size
              have htl:=takeF_left (sv.take q) lf hf0
              have htn:=takeF_len (sv.take q) lf
              have htn2:(takeF (sv.take q) lf).1.length≤120:=by simp at htn;omega
              by_cases hgo:q<k∧0<(takeF (sv.take q) lf).2
              · obtain ⟨hqn,hpos⟩:=hgo
                obtain ⟨kk,hkk,hkn,x,hxl,hxs⟩:=HPICK.out q hqn
                obtain ⟨bz,oz,rfl,hbz2,hcz⟩:=hz5 (by omega)
                have hqz:q<Z.length:=by omega
                have hzc:=hcz q hqz
                rw [show Z[q]=(kk:Int) by rw [← hkk];simp [getElem!_pos,hqz]] at hzc
                obtain ⟨bl,ol,rfl,hbl,hcl4⟩:=hl4.2.2.2 (by omega)
                have htk:sv.take (q+1)=sv.take q++[x]:=by rw [List.take_add_one,hxs];rfl
                have hsn:=takeF_snoc x (sv.take q) lf
                rw [← htk] at hsn
                have hxm:x∈lv:=List.mem_of_getElem? hxl
                have hxo:=Lot.ok_iff.1 (HOKV.out x hxm)
                obtain ⟨hjl,hje⟩:=List.getElem?_eq_some_iff.1 hxl
                have hcx:=hcl4 _ hjl
                rw [hje] at hcx
                have x0:=hcx 0 (by omega)
                have x4:=hcx 4 (by omega)
                simp only [Lot.cells,List.getElem?_cons_zero,List.getElem?_cons_succ,Nat.add_zero] at x0 x4
                have HSN:=Lib.hid hsn
                clear hsn htk hcl4 hcx hl4 ho4 hr4 hb4 hz5 hzo5 hcz hkk hxl hxs hje
                generalize takeF (sv.take q) lf=T2 at *
                by_cases hmn:x.qty > T2.2
                · have HS2:Hid (takeF (sv.take (q+1)) lf=(T2.1++[⟨x.id,T2.2⟩],T2.2 - T2.2)):=Lib.hid (by rw [HSN.out,show min x.qty T2.2=T2.2 by omega,if_pos hpos])
                  go_wp2_with (at_builtin;refine wpList_append_own _ rfl (.tmp 93) (.tmp 101) 52 rfl w.heap.size 126 iF _ 2 16 Tryz.underlying52 hF0 hFz hF1 hF2 rfl (by decide) u4 (pre.length+T2.1.length) ((pre++T2.1).flatMap Fil.cells) rfl ?_ _ 1 1 [.int .i64 x.id,.int .i64 T2.2] rfl rfl ?_ ?_ (by unfold maxLen;omega) (by omega) ?_ ?_;(focus (refine HR4.out.kept (Below.grownBy ?_) (Classical.em _);((refine Below.trans (Below.refl _ _) ?_;repeat (first|exact Below.refl _ _|(refine Below.drew ?_)|(refine Below.drewN ?_ _)|(refine Below.ext ?_ (by first|omega|(simp [go_sem];done)|(simp [go_sem];omega)) _ _)|(refine Below.alloc ?_ (by first|omega|(simp [go_sem];done)|(simp [go_sem];omega)) _)|(refine Below.setCell ?_ (by first|omega|(simp [go_sem];done)|(simp [go_sem];omega)) _))))));(focus exact World.news_of_block (alloc_at (by first|rfl|(simp;done))));(focus simp [Value.oneCell']);(focus exact (by first|omega|(simp [go_sem];done)|(simp [go_sem];omega)));intro v5 w5 hown5 hgr5 _)
                  all_goals
                    go_roundw
                    case measure=>simp [intOf];omega
                    case rel =>
                      have hlo:=LotsAt.grown (W:=wr.alloc _) (HL4.out.ex (by repeat (first|exact Ex.refl _|refine Ex.alloc ?_ _|refine Ex.ext ?_ _ _|refine Ex.drew ?_|refine Ex.drewN ?_ _))) (HO4.out.ex (by repeat (first|exact Ex.refl _|refine Ex.alloc ?_ _|refine Ex.ext ?_ _ _|refine Ex.drew ?_|refine Ex.drewN ?_ _))) hgr5 (lots_apart HO4.out HR4.out (by decide))
                      have hio:=IntsAt.grown (W:=wr.alloc _) (HZ5.out.ex (by repeat (first|exact Ex.refl _|refine Ex.alloc ?_ _|refine Ex.ext ?_ _ _|refine Ex.drew ?_|refine Ex.drewN ?_ _))) (HZO5.out.ex (by repeat (first|exact Ex.refl _|refine Ex.alloc ?_ _|refine Ex.ext ?_ _ _|refine Ex.drew ?_|refine Ex.drewN ?_ _))) hgr5 (ints_apart HZO5.out HR4.out (by decide))
                      refine ⟨q+1,_,rfl,by omega,by go_num,by (rw [HS2.out];try (first|rfl|(congr 1;omega))),hlo.1,hlo.2,hio.1,hio.2,?_,?_⟩
                      · rw [HS2.out]
                        simpa [Fil.cells,Nat.add_assoc] using hown5
                      · refine Below.grown (a:=_) ?_ hgr5 ?_ (fun b hb=>(HR4.out.lt b hb).1)
                        · (refine Below.trans HB4.out ?_;repeat (first|exact Below.refl _ _|(refine Below.drew ?_)|(refine Below.drewN ?_ _)|(refine Below.ext ?_ (by first|omega|(simp [go_sem];done)|(simp [go_sem];omega)) _ _)|(refine Below.alloc ?_ (by first|omega|(simp [go_sem];done)|(simp [go_sem];omega)) _)|(refine Below.setCell ?_ (by first|omega|(simp [go_sem];done)|(simp [go_sem];omega)) _)))
                        · exact (by first|omega|(simp [go_sem];done)|(simp [go_sem];omega))
                · have HS2:Hid (takeF (sv.take (q+1)) lf=(T2.1++[⟨x.id,x.qty⟩],T2.2 - x.qty)):=Lib.hid (by rw [HSN.out,show min x.qty T2.2=x.qty by omega,if_pos (by omega)])
                  go_wp2_with (at_builtin;refine wpList_append_own _ rfl (.tmp 93) (.tmp 101) 52 rfl w.heap.size 126 iF _ 2 16 Tryz.underlying52 hF0 hFz hF1 hF2 rfl (by decide) u4 (pre.length+T2.1.length) ((pre++T2.1).flatMap Fil.cells) rfl ?_ _ 1 1 [.int .i64 x.id,.int .i64 x.qty] rfl rfl ?_ ?_ (by unfold maxLen;omega) (by omega) ?_ ?_;(focus (refine HR4.out.kept (Below.grownBy ?_) (Classical.em _);((refine Below.trans (Below.refl _ _) ?_;repeat (first|exact Below.refl _ _|(refine Below.drew ?_)|(refine Below.drewN ?_ _)|(refine Below.ext ?_ (by first|omega|(simp [go_sem];done)|(simp [go_sem];omega)) _ _)|(refine Below.alloc ?_ (by first|omega|(simp [go_sem];done)|(simp [go_sem];omega)) _)|(refine Below.setCell ?_ (by first|omega|(simp [go_sem];done)|(simp [go_sem];omega)) _))))));(focus exact World.news_of_block (alloc_at (by first|rfl|(simp;done))));(focus simp [Value.oneCell']);(focus exact (by first|omega|(simp [go_sem];done)|(simp [go_sem];omega)));intro v5 w5 hown5 hgr5 _)
                  all_goals
                    go_roundw
                    case measure=>simp [intOf];omega
                    case rel =>
                      have hlo:=LotsAt.grown (W:=wr.alloc _) (HL4.out.ex (by repeat (first|exact Ex.refl _|refine Ex.alloc ?_ _|refine Ex.ext ?_ _ _|refine Ex.drew ?_|refine Ex.drewN ?_ _))) (HO4.out.ex (by repeat (first|exact Ex.refl _|refine Ex.alloc ?_ _|refine Ex.ext ?_ _ _|refine Ex.drew ?_|refine Ex.drewN ?_ _))) hgr5 (lots_apart HO4.out HR4.out (by decide))
                      have hio:=IntsAt.grown (W:=wr.alloc _) (HZ5.out.ex (by repeat (first|exact Ex.refl _|refine Ex.alloc ?_ _|refine Ex.ext ?_ _ _|refine Ex.drew ?_|refine Ex.drewN ?_ _))) (HZO5.out.ex (by repeat (first|exact Ex.refl _|refine Ex.alloc ?_ _|refine Ex.ext ?_ _ _|refine Ex.drew ?_|refine Ex.drewN ?_ _))) hgr5 (ints_apart HZO5.out HR4.out (by decide))
                      refine ⟨q+1,_,rfl,by omega,by go_num,by (rw [HS2.out];try (first|rfl|(congr 1;omega))),hlo.1,hlo.2,hio.1,hio.2,?_,?_⟩
                      · rw [HS2.out]
                        simpa [Fil.cells,Nat.add_assoc] using hown5
                      · refine Below.grown (a:=_) ?_ hgr5 ?_ (fun b hb=>(HR4.out.lt b hb).1)
                        · (refine Below.trans HB4.out ?_;repeat (first|exact Below.refl _ _|(refine Below.drew ?_)|(refine Below.drewN ?_ _)|(refine Below.ext ?_ (by first|omega|(simp [go_sem];done)|(simp [go_sem];omega)) _ _)|(refine Below.alloc ?_ (by first|omega|(simp [go_sem];done)|(simp [go_sem];omega)) _)|(refine Below.setCell ?_ (by first|omega|(simp [go_sem];done)|(simp [go_sem];omega)) _)))
                        · exact (by first|omega|(simp [go_sem];done)|(simp [go_sem];omega))
              · have hstop:takeF sv lf=takeF (sv.take q) lf:=by
                  by_cases hq2:q<k
                  · exact takeF_stop (by omega)
                  · rw [List.take_of_length_le (by omega)]
                have HSTOP:=Lib.hid hstop
                clear hl4 ho4 hr4 hb4 hz5 hzo5 htn hstop
                have hnx:(pre++(takeF (sv.take q) lf).1)++refF (fOf0 price l) c (takeF (sv.take q) lf).2 seed=T:=by
                  rw [← HSTOP.out,← HSD.out,HREF.out,List.append_assoc]
                have HNX:=Lib.hid hnx
                clear hnx HSTOP
                generalize takeF (sv.take q) lf=T2 at *
                have hcase:q=k∨(q<k∧T2.2=0):=by omega
                rcases hcase with rfl|⟨hqn,ht0⟩
                · go_wp2_with fail
                  all_goals
                    go_roundw
                    case measure=>simp [intOf];omega
                    case rel=>exact ⟨c,_,T2.2,pre++T2.1,rfl,by omega,by first|go_num|(congr 1;omega),rfl,htl.1,by omega,HNX.out,by simp;omega,by rw [List.length_append];exact HR4.out,HB4.out⟩
                · go_wp2_with fail
                  all_goals
                    go_roundw
                    case measure=>simp [intOf];omega
                    case rel=>exact ⟨c,_,T2.2,pre++T2.1,rfl,by omega,by first|go_num|(congr 1;omega),by rw [ht0],htl.1,by omega,HNX.out,by simp;omega,by rw [List.length_append];exact HR4.out,HB4.out⟩
set_option maxRecDepth 100000 in
set_option maxHeartbeats 8000000 in
theorem refSide1_any (ao:Option Addr) (len cap:Nat) (l:List Lot) (price left seed:Int) (w:World) (hl:LotsAt w ao len l) (hok:LotsOk l) (hu:U32 seed) (p1:1≤price) (p2:price≤1000) (h0:0≤left) (h1:left≤1000000) :
    Calls Tryz.prog 88 #[.slice ao len cap,.int .i64 1,.int .i64 price,.int .i64 left,.int .u32 seed] w fun e w'=>(∃ v,e=.returned v∧w'.ownsRow w.heap.size 126 2 v (sideF (levelsL 1 price l) left seed).length ((sideF (levelsL 1 price l) left seed).flatMap Fil.cells))∧Ex w w':=by
  rw [← side1_eq hok p1 p2 left seed h0]
  have HLA:=Lib.hid hl
  have HLEN:=Lib.hid hl.1
  have HOK:=Lib.hid hok
  have h120:=hok.1
  have hlm:=hl.2.1
  have HU:=Lib.hid hu
  obtain ⟨hu0,hu1⟩:=hu
  have hC:((price.toNat:Nat):Int)=price.toNat:=rfl
  obtain ⟨iF,hF0,hi⟩:=Option.map_eq_some_iff.1 infoFill
  simp only [Prod.mk.injEq] at hi
  obtain ⟨hFz,hF1,hF2⟩:=hi
  have HT0:=Lib.hid (rfl:refF (fOf1 price l) (price.toNat) left seed=refF (fOf1 price l) (price.toNat) left seed)
  clear hl hok hC
  generalize hT:refF (fOf1 price l) (price.toNat) left seed=T at HT0 ⊢
  have HT:=Lib.hid hT
  have hC0:((price.toNat:Nat):Int)≤1000:=by omega
  clear HT0 hT
  go_enter Tryz.func88,Tryz.ntmps88
  go_wp2_with fail
  go_loopw [3,11,12] (fun m v p wr=>∃ (c:Nat) (u:Value) (lf:Int) (pre:List Fil),u=v∧c≤price.toNat∧p=.int .i64 (price+1 - (c:Int))∧m=.int .i64 lf∧0≤lf∧lf≤left∧pre++refF (fOf1 price l) c lf seed=T∧pre.length≤120*(price.toNat - c)∧wr.ownsRow w.heap.size 126 2 u pre.length (pre.flatMap Fil.cells)∧Below w.heap.size w wr) (fun _ _ p _=>(price+1 - (intOf p)).toNat)
  case atStart=>exact ⟨price.toNat,_,left,[],rfl,Nat.le_refl _,(by congr 1;omega),rfl,h0,Int.le_refl _,by rw [List.nil_append];exact HT.out,Nat.zero_le _,World.ownsRow_nil _ _ _ _,Below.refl _ _⟩
  case round =>
    obtain ⟨c,u,lf,pre,rfl,hc,rfl,rfl,hf0,hf1,hsd,hpl,hrow,hB⟩:=hrel
    have HSD:=Lib.hid hsd
    have HROW:=Lib.hid hrow
    have HB:=Lib.hid hB
    have hbz:=hB.size
    clear hsd hrow
    by_cases hlf:lf=0
    · subst hlf
      have hnext:pre=T:=by rw [← HSD.out,refF_zero,List.append_nil]
      have HNX:=Lib.hid hnext
      clear hnext hB
      go_wp2_with fail
      go_ret
      exact ⟨⟨_,rfl,by rw [← HNX.out];exact HROW.out⟩,Ex.of HB.out⟩
    have hlp:lf > 0:=by omega
    cases c with
    | zero =>
      have hnext:pre=T:=by rw [← HSD.out];simp [refF]
      have HNX:=Lib.hid hnext
      have hpc:¬ (price≤price+((0:Nat):Int) - 1):=by omega
      clear hnext hB
      go_wp2_with fail
      go_ret
      exact ⟨⟨_,rfl,by rw [← HNX.out];exact HROW.out⟩,Ex.of HB.out⟩
    | succ c =>
      have hpe:(match c+1 with|c=>(price+1 - (c:Int):Int))=price - (c:Int):=by simp only;omega
      simp only at hpe
      rw [hpe]
      have hREF:refF (fOf1 price l) (c+1) lf seed=(takeF (servL (fOf1 price l (c+1)) lf seed) lf).1++refF (fOf1 price l) c (takeF (servL (fOf1 price l (c+1)) lf seed) lf).2 seed:=by rw [refF,if_pos hlp]
      have hlv:fOf1 price l (c+1)=atP 1 (price - (c:Int)) l:=by unfold fOf1;congr 1
      have HLV:=Lib.hid (refLevel_any ao len cap l 1 (price - (c:Int)) wr (HLA.out.ex (Ex.of hB)) HOK.out)
      have hok2:∀ x∈atP 1 (price - (c:Int)) l,x.ok=true:=fun x hx=>HOK.out.mem x (List.mem_filter.1 hx).1
      have hn120:(atP 1 (price - (c:Int)) l).length≤120:=Nat.le_trans (List.length_filter_le _ _) h120
      rw [hlv] at hREF
      clear hB hlv
      generalize atP 1 (price - (c:Int)) l=lv at *
      have HREF:=Lib.hid hREF
      have HOKV:=Lib.hid hok2
      have hsvl:=servL_len lv lf seed
      have hpick:=fun q hq=>serv_pick lv lf seed q hq
      have htb:=sumT_bounds hok2
      have HSH:=Lib.hid (fun w=>shuffleOf_all (lv.length:Int) lv.length seed w (by omega) HU.out)
      have hzl:=shufL_len lv.length seed
      clear hREF hok2
      generalize hsv:servL lv lf seed=sv at *
      have HSV:=Lib.hid hsv
      clear hsv
      have hj1:price≤price+(c:Int):=by omega
      have hj2:price - (c:Int)≤price:=by omega
      go_upto_region 9 with (go_at_call 107;refine HLV.out.mono ?_;rintro e w2 ⟨⟨ao2,cap2,rfl,hcap2,hl2,ho2⟩,hx2⟩)
      have HX2:=Lib.hid hx2
      have HLO:=Lib.hid hl2
      have HOB:=Lib.hid ho2
      have HROW2:=Lib.hid (HROW.out.kept (Below.grownBy hx2.below) (Classical.em _))
      have HB2:=Lib.hid (HB.out.trans (hx2.below.mono hbz))
      have hb2z:=HB2.out.size
      have HTS:=Lib.hid (fun k (x:Lot) (h:lv[k]?=some x)=>totL_step h)
      have HTA:=Lib.hid (show totL (lv.take lv.length)=totL lv by rw [List.take_of_length_le (Nat.le_refl _)])
      have HTB:=Lib.hid (fun k=>sumT_bounds (l:=lv.take k) (fun x hx=>HOKV.out x (List.mem_of_mem_take hx)))
      clear hl2 ho2 hx2
      generalize hn:lv.length=n at *
      have HN:=Lib.hid hn
      clear hn
      go_wp2_with fail
      go_loop [15,16] (fun t i=>∃ k:Nat,k≤n∧i=.int .i64 k∧t=.int .i64 (totL (lv.take k))) (fun _ i=>n - (intOf i).toNat)
      case atStart=>exact ⟨0,Nat.zero_le _,rfl,by simp [totL,sumOf]⟩
      case round =>
        obtain ⟨k,hk,rfl,rfl⟩:=hrel
        by_cases hkn:k<n
        · obtain ⟨bl,ol,rfl,hbl,hcl4⟩:=HLO.out.2.2.2 (by omega)
          have hkl:k<lv.length:=by rw [HN.out];exact hkn
          have hx0:lv[k]?=some lv[k]:=List.getElem?_eq_getElem hkl
          have hst:=HTS.out k _ hx0
          have hcx:=hcl4 k hkl 4 (by omega)
          have hxo:=Lot.ok_iff.1 (HOKV.out _ (List.getElem_mem hkl))
          generalize lv[k]=x at *
          simp only [Lot.cells,List.getElem?_cons_zero,List.getElem?_cons_succ] at hcx
          have htk:=HTB.out k
          have hle:(lv.take k).length≤120:=by simp;omega
          have HST:=Lib.hid hst
          clear hst hcl4 hx0
          generalize totL (lv.take k)=t at *
          go_wp2_with fail
          all_goals
            go_round
            case measure=>simp [intOf];omega
            case rel=>exact ⟨k+1,by omega,by go_num,by rw [HST.out]⟩
        · obtain rfl:k=n:=by omega
          rw [HTA.out]
          by_cases hw:totL lv≤lf
          · have HPICK:Hid (∀ q,q<k→∃ kk:Nat,(shufL k seed)[q]! = (kk:Int)∧kk<k∧∃ x,lv[q]?=some x∧sv[q]?=some x):=Lib.hid (fun q hq=>(hpick q hq).1 (by omega))
            clear hpick HTS HTA HTB
            generalize shufL k seed=Z at *
            go_upto_region 16 with (go_at_call 108;refine (HSH.out _).mono ?_;rintro e w3 ⟨⟨ao4,cap4,rfl,hc4,hz4,hzo4⟩,hx4⟩)
            have hx4':Ex w2 w3:=Ex.trans (by repeat (first|exact Ex.refl _|refine Ex.alloc ?_ _|refine Ex.ext ?_ _ _|refine Ex.drew ?_|refine Ex.drewN ?_ _)) hx4
            have hl4':=HLO.out.ex hx4'
            have ho4':=HOB.out.ex hx4'
            have hrow3:=HROW2.out.kept (Below.grownBy hx4'.below) (Classical.em _)
            have hB3:=HB2.out.trans (hx4'.below.mono hb2z)
            clear hx4 hx4'
            go_wp2_with fail
            go_loopw [3,11,19] (fun m v i wr=>∃ (q:Nat) (u4:Value),u4=v∧q≤k∧i=.int .i64 q∧m=.int .i64 (takeF (sv.take q) lf).2∧LotsAt wr ao2 k lv∧LotsObj wr ao2∧IntsAt wr ao4 Z∧IntsObj wr ao4∧wr.ownsRow w.heap.size 126 2 u4 (pre.length+(takeF (sv.take q) lf).1.length) ((pre++(takeF (sv.take q) lf).1).flatMap Fil.cells)∧Below w.heap.size w wr) (fun _ _ i _=>k - (intOf i).toNat)
            case atStart=>exact ⟨0,_,rfl,Nat.zero_le _,rfl,rfl,hl4',ho4',hz4,hzo4,by simpa [takeF] using hrow3,hB3⟩
            case round =>
              obtain ⟨q,u4,rfl,hq,rfl,rfl,hl4,ho4,hz5,hzo5,hr4,hb4⟩:=hrel
              have HL4:=Lib.hid hl4
              have HO4:=Lib.hid ho4
              have HZ5:=Lib.hid hz5
              have HZO5:=Lib.hid hzo5
              have HR4:=Lib.hid hr4
              have HB4:=Lib.hid hb4
              have hb4z:=hb4.size
              have htl:=takeF_left (sv.take q) lf hf0
              have htn:=takeF_len (sv.take q) lf
              have htn2:(takeF (sv.take q) lf).1.length≤120:=by simp at htn;omega
              by_cases hgo:q<k∧0<(takeF (sv.take q) lf).2
              · obtain ⟨hqn,hpos⟩:=hgo
                obtain ⟨kk,hkk,hkn,x,hxl,hxs⟩:=HPICK.out q hqn
                obtain ⟨bz,oz,rfl,hbz2,hcz⟩:=hz5 (by omega)
                have hqz:q<Z.length:=by omega
                have hzc:=hcz q hqz
                rw [show Z[q]=(kk:Int) by rw [← hkk];simp [getElem!_pos,hqz]] at hzc
                obtain ⟨bl,ol,rfl,hbl,hcl4⟩:=hl4.2.2.2 (by omega)
                have htk:sv.take (q+1)=sv.take q++[x]:=by rw [List.take_add_one,hxs];rfl
                have hsn:=takeF_snoc x (sv.take q) lf
                rw [← htk] at hsn
                have hxm:x∈lv:=List.mem_of_getElem? hxl
                have hxo:=Lot.ok_iff.1 (HOKV.out x hxm)
                obtain ⟨hjl,hje⟩:=List.getElem?_eq_some_iff.1 hxl
                have hcx:=hcl4 _ hjl
                rw [hje] at hcx
                have x0:=hcx 0 (by omega)
                have x4:=hcx 4 (by omega)
                simp only [Lot.cells,List.getElem?_cons_zero,List.getElem?_cons_succ,Nat.add_zero] at x0 x4
                have HSN:=Lib.hid hsn
                clear hsn htk hcl4 hcx hl4 ho4 hr4 hb4 hz5 hzo5 hcz hkk hxl hxs hje
                generalize takeF (sv.take q) lf=T2 at *
                by_cases hmn:x.qty > T2.2
                · have HS2:Hid (takeF (sv.take (q+1)) lf=(T2.1++[⟨x.id,T2.2⟩],T2.2 - T2.2)):=Lib.hid (by rw [HSN.out,show min x.qty T2.2=T2.2 by omega,if_pos hpos])
                  go_wp2_with (at_builtin;refine wpList_append_own _ rfl (.tmp 93) (.tmp 101) 52 rfl w.heap.size 126 iF _ 2 16 Tryz.underlying52 hF0 hFz hF1 hF2 rfl (by decide) u4 (pre.length+T2.1.length) ((pre++T2.1).flatMap Fil.cells) rfl ?_ _ 1 1 [.int .i64 x.id,.int .i64 T2.2] rfl rfl ?_ ?_ (by unfold maxLen;omega) (by omega) ?_ ?_;(focus (refine HR4.out.kept (Below.grownBy ?_) (Classical.em _);((refine Below.trans (Below.refl _ _) ?_;repeat (first|exact Below.refl _ _|(refine Below.drew ?_)|(refine Below.drewN ?_ _)|(refine Below.ext ?_ (by first|omega|(simp [go_sem];done)|(simp [go_sem];omega)) _ _)|(refine Below.alloc ?_ (by first|omega|(simp [go_sem];done)|(simp [go_sem];omega)) _)|(refine Below.setCell ?_ (by first|omega|(simp [go_sem];done)|(simp [go_sem];omega)) _))))));(focus exact World.news_of_block (alloc_at (by first|rfl|(simp;done))));(focus simp [Value.oneCell']);(focus exact (by first|omega|(simp [go_sem];done)|(simp [go_sem];omega)));intro v5 w5 hown5 hgr5 _)
                  all_goals
                    go_roundw
                    case measure=>simp [intOf];omega
                    case rel =>
                      have hlo:=LotsAt.grown (W:=wr.alloc _) (HL4.out.ex (by repeat (first|exact Ex.refl _|refine Ex.alloc ?_ _|refine Ex.ext ?_ _ _|refine Ex.drew ?_|refine Ex.drewN ?_ _))) (HO4.out.ex (by repeat (first|exact Ex.refl _|refine Ex.alloc ?_ _|refine Ex.ext ?_ _ _|refine Ex.drew ?_|refine Ex.drewN ?_ _))) hgr5 (lots_apart HO4.out HR4.out (by decide))
                      have hio:=IntsAt.grown (W:=wr.alloc _) (HZ5.out.ex (by repeat (first|exact Ex.refl _|refine Ex.alloc ?_ _|refine Ex.ext ?_ _ _|refine Ex.drew ?_|refine Ex.drewN ?_ _))) (HZO5.out.ex (by repeat (first|exact Ex.refl _|refine Ex.alloc ?_ _|refine Ex.ext ?_ _ _|refine Ex.drew ?_|refine Ex.drewN ?_ _))) hgr5 (ints_apart HZO5.out HR4.out (by decide))
                      refine ⟨q+1,_,rfl,by omega,by go_num,by (rw [HS2.out];try (first|rfl|(congr 1;omega))),hlo.1,hlo.2,hio.1,hio.2,?_,?_⟩
                      · rw [HS2.out]
                        simpa [Fil.cells,Nat.add_assoc] using hown5
                      · refine Below.grown (a:=_) ?_ hgr5 ?_ (fun b hb=>(HR4.out.lt b hb).1)
                        · (refine Below.trans HB4.out ?_;repeat (first|exact Below.refl _ _|(refine Below.drew ?_)|(refine Below.drewN ?_ _)|(refine Below.ext ?_ (by first|omega|(simp [go_sem];done)|(simp [go_sem];omega)) _ _)|(refine Below.alloc ?_ (by first|omega|(simp [go_sem];done)|(simp [go_sem];omega)) _)|(refine Below.setCell ?_ (by first|omega|(simp [go_sem];done)|(simp [go_sem];omega)) _)))
                        · exact (by first|omega|(simp [go_sem];done)|(simp [go_sem];omega))
                · have HS2:Hid (takeF (sv.take (q+1)) lf=(T2.1++[⟨x.id,x.qty⟩],T2.2 - x.qty)):=Lib.hid (by rw [HSN.out,show min x.qty T2.2=x.qty by omega,if_pos (by omega)])
                  go_wp2_with (at_builtin;refine wpList_append_own _ rfl (.tmp 93) (.tmp 101) 52 rfl w.heap.size 126 iF _ 2 16 Tryz.underlying52 hF0 hFz hF1 hF2 rfl (by decide) u4 (pre.length+T2.1.length) ((pre++T2.1).flatMap Fil.cells) rfl ?_ _ 1 1 [.int .i64 x.id,.int .i64 x.qty] rfl rfl ?_ ?_ (by unfold maxLen;omega) (by omega) ?_ ?_;(focus (refine HR4.out.kept (Below.grownBy ?_) (Classical.em _);((refine Below.trans (Below.refl _ _) ?_;repeat (first|exact Below.refl _ _|(refine Below.drew ?_)|(refine Below.drewN ?_ _)|(refine Below.ext ?_ (by first|omega|(simp [go_sem];done)|(simp [go_sem];omega)) _ _)|(refine Below.alloc ?_ (by first|omega|(simp [go_sem];done)|(simp [go_sem];omega)) _)|(refine Below.setCell ?_ (by first|omega|(simp [go_sem];done)|(simp [go_sem];omega)) _))))));(focus exact World.news_of_block (alloc_at (by first|rfl|(simp;done))));(focus simp [Value.oneCell']);(focus exact (by first|omega|(simp [go_sem];done)|(simp [go_sem];omega)));intro v5 w5 hown5 hgr5 _)
                  all_goals
                    go_roundw
                    case measure=>simp [intOf];omega
                    case rel =>
                      have hlo:=LotsAt.grown (W:=wr.alloc _) (HL4.out.ex (by repeat (first|exact Ex.refl _|refine Ex.alloc ?_ _|refine Ex.ext ?_ _ _|refine Ex.drew ?_|refine Ex.drewN ?_ _))) (HO4.out.ex (by repeat (first|exact Ex.refl _|refine Ex.alloc ?_ _|refine Ex.ext ?_ _ _|refine Ex.drew ?_|refine Ex.drewN ?_ _))) hgr5 (lots_apart HO4.out HR4.out (by decide))
                      have hio:=IntsAt.grown (W:=wr.alloc _) (HZ5.out.ex (by repeat (first|exact Ex.refl _|refine Ex.alloc ?_ _|refine Ex.ext ?_ _ _|refine Ex.drew ?_|refine Ex.drewN ?_ _))) (HZO5.out.ex (by repeat (first|exact Ex.refl _|refine Ex.alloc ?_ _|refine Ex.ext ?_ _ _|refine Ex.drew ?_|refine Ex.drewN ?_ _))) hgr5 (ints_apart HZO5.out HR4.out (by decide))
                      refine ⟨q+1,_,rfl,by omega,by go_num,by (rw [HS2.out];try (first|rfl|(congr 1;omega))),hlo.1,hlo.2,hio.1,hio.2,?_,?_⟩
                      · rw [HS2.out]
                        simpa [Fil.cells,Nat.add_assoc] using hown5
                      · refine Below.grown (a:=_) ?_ hgr5 ?_ (fun b hb=>(HR4.out.lt b hb).1)
                        · (refine Below.trans HB4.out ?_;repeat (first|exact Below.refl _ _|(refine Below.drew ?_)|(refine Below.drewN ?_ _)|(refine Below.ext ?_ (by first|omega|(simp [go_sem];done)|(simp [go_sem];omega)) _ _)|(refine Below.alloc ?_ (by first|omega|(simp [go_sem];done)|(simp [go_sem];omega)) _)|(refine Below.setCell ?_ (by first|omega|(simp [go_sem];done)|(simp [go_sem];omega)) _)))
                        · exact (by first|omega|(simp [go_sem];done)|(simp [go_sem];omega))
              · have hstop:takeF sv lf=takeF (sv.take q) lf:=by
                  by_cases hq2:q<k
                  · exact takeF_stop (by omega)
                  · rw [List.take_of_length_le (by omega)]
                have HSTOP:=Lib.hid hstop
                clear hl4 ho4 hr4 hb4 hz5 hzo5 htn hstop
                have hnx:(pre++(takeF (sv.take q) lf).1)++refF (fOf1 price l) c (takeF (sv.take q) lf).2 seed=T:=by
                  rw [← HSTOP.out,← HSD.out,HREF.out,List.append_assoc]
                have HNX:=Lib.hid hnx
                clear hnx HSTOP
                generalize takeF (sv.take q) lf=T2 at *
                have hcase:q=k∨(q<k∧T2.2=0):=by omega
                rcases hcase with rfl|⟨hqn,ht0⟩
                · go_wp2_with fail
                  all_goals
                    go_roundw
                    case measure=>simp [intOf];omega
                    case rel=>exact ⟨c,_,T2.2,pre++T2.1,rfl,by omega,by first|go_num|(congr 1;omega),rfl,htl.1,by omega,HNX.out,by simp;omega,by rw [List.length_append];exact HR4.out,HB4.out⟩
                · go_wp2_with fail
                  all_goals
                    go_roundw
                    case measure=>simp [intOf];omega
                    case rel=>exact ⟨c,_,T2.2,pre++T2.1,rfl,by omega,by first|go_num|(congr 1;omega),by rw [ht0],htl.1,by omega,HNX.out,by simp;omega,by rw [List.length_append];exact HR4.out,HB4.out⟩
          · have HPICK:Hid (∀ q,q<k→∃ kk:Nat,(shufL k seed)[q]! = (kk:Int)∧kk<k∧∃ x,lv[kk]?=some x∧sv[q]?=some x):=Lib.hid (fun q hq=>(hpick q hq).2 (by omega))
            clear hpick HTS HTA HTB
            generalize shufL k seed=Z at *
            go_upto_region 16 with (go_at_call 108;refine (HSH.out _).mono ?_;rintro e w3 ⟨⟨ao4,cap4,rfl,hc4,hz4,hzo4⟩,hx4⟩)
            have hx4':Ex w2 w3:=Ex.trans (by repeat (first|exact Ex.refl _|refine Ex.alloc ?_ _|refine Ex.ext ?_ _ _|refine Ex.drew ?_|refine Ex.drewN ?_ _)) hx4
            have hl4':=HLO.out.ex hx4'
            have ho4':=HOB.out.ex hx4'
            have hrow3:=HROW2.out.kept (Below.grownBy hx4'.below) (Classical.em _)
            have hB3:=HB2.out.trans (hx4'.below.mono hb2z)
            clear hx4 hx4'
            go_wp2_with fail
            go_loopw [3,11,19] (fun m v i wr=>∃ (q:Nat) (u4:Value),u4=v∧q≤k∧i=.int .i64 q∧m=.int .i64 (takeF (sv.take q) lf).2∧LotsAt wr ao2 k lv∧LotsObj wr ao2∧IntsAt wr ao4 Z∧IntsObj wr ao4∧wr.ownsRow w.heap.size 126 2 u4 (pre.length+(takeF (sv.take q) lf).1.length) ((pre++(takeF (sv.take q) lf).1).flatMap Fil.cells)∧Below w.heap.size w wr) (fun _ _ i _=>k - (intOf i).toNat)
            case atStart=>exact ⟨0,_,rfl,Nat.zero_le _,rfl,rfl,hl4',ho4',hz4,hzo4,by simpa [takeF] using hrow3,hB3⟩
            case round =>
              obtain ⟨q,u4,rfl,hq,rfl,rfl,hl4,ho4,hz5,hzo5,hr4,hb4⟩:=hrel
              have HL4:=Lib.hid hl4
              have HO4:=Lib.hid ho4
              have HZ5:=Lib.hid hz5
              have HZO5:=Lib.hid hzo5
              have HR4:=Lib.hid hr4
              have HB4:=Lib.hid hb4
              have hb4z:=hb4.size
              have htl:=takeF_left (sv.take q) lf hf0
              have htn:=takeF_len (sv.take q) lf
              have htn2:(takeF (sv.take q) lf).1.length≤120:=by simp at htn;omega
              by_cases hgo:q<k∧0<(takeF (sv.take q) lf).2
              · obtain ⟨hqn,hpos⟩:=hgo
                obtain ⟨kk,hkk,hkn,x,hxl,hxs⟩:=HPICK.out q hqn
                obtain ⟨bz,oz,rfl,hbz2,hcz⟩:=hz5 (by omega)
                have hqz:q<Z.length:=by omega
                have hzc:=hcz q hqz
                rw [show Z[q]=(kk:Int) by rw [← hkk];simp [getElem!_pos,hqz]] at hzc
                obtain ⟨bl,ol,rfl,hbl,hcl4⟩:=hl4.2.2.2 (by omega)
                have htk:sv.take (q+1)=sv.take q++[x]:=by rw [List.take_add_one,hxs];rfl
                have hsn:=takeF_snoc x (sv.take q) lf
                rw [← htk] at hsn
                have hxm:x∈lv:=List.mem_of_getElem? hxl
                have hxo:=Lot.ok_iff.1 (HOKV.out x hxm)
                obtain ⟨hjl,hje⟩:=List.getElem?_eq_some_iff.1 hxl
                have hcx:=hcl4 _ hjl
                rw [hje] at hcx
                have x0:=hcx 0 (by omega)
                have x4:=hcx 4 (by omega)
                simp only [Lot.cells,List.getElem?_cons_zero,List.getElem?_cons_succ,Nat.add_zero] at x0 x4
                have HSN:=Lib.hid hsn
                clear hsn htk hcl4 hcx hl4 ho4 hr4 hb4 hz5 hzo5 hcz hkk hxl hxs hje
                generalize takeF (sv.take q) lf=T2 at *
                by_cases hmn:x.qty > T2.2
                · have HS2:Hid (takeF (sv.take (q+1)) lf=(T2.1++[⟨x.id,T2.2⟩],T2.2 - T2.2)):=Lib.hid (by rw [HSN.out,show min x.qty T2.2=T2.2 by omega,if_pos hpos])
                  go_wp2_with (at_builtin;refine wpList_append_own _ rfl (.tmp 93) (.tmp 101) 52 rfl w.heap.size 126 iF _ 2 16 Tryz.underlying52 hF0 hFz hF1 hF2 rfl (by decide) u4 (pre.length+T2.1.length) ((pre++T2.1).flatMap Fil.cells) rfl ?_ _ 1 1 [.int .i64 x.id,.int .i64 T2.2] rfl rfl ?_ ?_ (by unfold maxLen;omega) (by omega) ?_ ?_;(focus (refine HR4.out.kept (Below.grownBy ?_) (Classical.em _);((refine Below.trans (Below.refl _ _) ?_;repeat (first|exact Below.refl _ _|(refine Below.drew ?_)|(refine Below.drewN ?_ _)|(refine Below.ext ?_ (by first|omega|(simp [go_sem];done)|(simp [go_sem];omega)) _ _)|(refine Below.alloc ?_ (by first|omega|(simp [go_sem];done)|(simp [go_sem];omega)) _)|(refine Below.setCell ?_ (by first|omega|(simp [go_sem];done)|(simp [go_sem];omega)) _))))));(focus exact World.news_of_block (alloc_at (by first|rfl|(simp;done))));(focus simp [Value.oneCell']);(focus exact (by first|omega|(simp [go_sem];done)|(simp [go_sem];omega)));intro v5 w5 hown5 hgr5 _)
                  all_goals
                    go_roundw
                    case measure=>simp [intOf];omega
                    case rel =>
                      have hlo:=LotsAt.grown (W:=wr.alloc _) (HL4.out.ex (by repeat (first|exact Ex.refl _|refine Ex.alloc ?_ _|refine Ex.ext ?_ _ _|refine Ex.drew ?_|refine Ex.drewN ?_ _))) (HO4.out.ex (by repeat (first|exact Ex.refl _|refine Ex.alloc ?_ _|refine Ex.ext ?_ _ _|refine Ex.drew ?_|refine Ex.drewN ?_ _))) hgr5 (lots_apart HO4.out HR4.out (by decide))
                      have hio:=IntsAt.grown (W:=wr.alloc _) (HZ5.out.ex (by repeat (first|exact Ex.refl _|refine Ex.alloc ?_ _|refine Ex.ext ?_ _ _|refine Ex.drew ?_|refine Ex.drewN ?_ _))) (HZO5.out.ex (by repeat (first|exact Ex.refl _|refine Ex.alloc ?_ _|refine Ex.ext ?_ _ _|refine Ex.drew ?_|refine Ex.drewN ?_ _))) hgr5 (ints_apart HZO5.out HR4.out (by decide))
                      refine ⟨q+1,_,rfl,by omega,by go_num,by (rw [HS2.out];try (first|rfl|(congr 1;omega))),hlo.1,hlo.2,hio.1,hio.2,?_,?_⟩
                      · rw [HS2.out]
                        simpa [Fil.cells,Nat.add_assoc] using hown5
                      · refine Below.grown (a:=_) ?_ hgr5 ?_ (fun b hb=>(HR4.out.lt b hb).1)
                        · (refine Below.trans HB4.out ?_;repeat (first|exact Below.refl _ _|(refine Below.drew ?_)|(refine Below.drewN ?_ _)|(refine Below.ext ?_ (by first|omega|(simp [go_sem];done)|(simp [go_sem];omega)) _ _)|(refine Below.alloc ?_ (by first|omega|(simp [go_sem];done)|(simp [go_sem];omega)) _)|(refine Below.setCell ?_ (by first|omega|(simp [go_sem];done)|(simp [go_sem];omega)) _)))
                        · exact (by first|omega|(simp [go_sem];done)|(simp [go_sem];omega))
                · have HS2:Hid (takeF (sv.take (q+1)) lf=(T2.1++[⟨x.id,x.qty⟩],T2.2 - x.qty)):=Lib.hid (by rw [HSN.out,show min x.qty T2.2=x.qty by omega,if_pos (by omega)])
                  go_wp2_with (at_builtin;refine wpList_append_own _ rfl (.tmp 93) (.tmp 101) 52 rfl w.heap.size 126 iF _ 2 16 Tryz.underlying52 hF0 hFz hF1 hF2 rfl (by decide) u4 (pre.length+T2.1.length) ((pre++T2.1).flatMap Fil.cells) rfl ?_ _ 1 1 [.int .i64 x.id,.int .i64 x.qty] rfl rfl ?_ ?_ (by unfold maxLen;omega) (by omega) ?_ ?_;(focus (refine HR4.out.kept (Below.grownBy ?_) (Classical.em _);((refine Below.trans (Below.refl _ _) ?_;repeat (first|exact Below.refl _ _|(refine Below.drew ?_)|(refine Below.drewN ?_ _)|(refine Below.ext ?_ (by first|omega|(simp [go_sem];done)|(simp [go_sem];omega)) _ _)|(refine Below.alloc ?_ (by first|omega|(simp [go_sem];done)|(simp [go_sem];omega)) _)|(refine Below.setCell ?_ (by first|omega|(simp [go_sem];done)|(simp [go_sem];omega)) _))))));(focus exact World.news_of_block (alloc_at (by first|rfl|(simp;done))));(focus simp [Value.oneCell']);(focus exact (by first|omega|(simp [go_sem];done)|(simp [go_sem];omega)));intro v5 w5 hown5 hgr5 _)
                  all_goals
                    go_roundw
                    case measure=>simp [intOf];omega
                    case rel =>
                      have hlo:=LotsAt.grown (W:=wr.alloc _) (HL4.out.ex (by repeat (first|exact Ex.refl _|refine Ex.alloc ?_ _|refine Ex.ext ?_ _ _|refine Ex.drew ?_|refine Ex.drewN ?_ _))) (HO4.out.ex (by repeat (first|exact Ex.refl _|refine Ex.alloc ?_ _|refine Ex.ext ?_ _ _|refine Ex.drew ?_|refine Ex.drewN ?_ _))) hgr5 (lots_apart HO4.out HR4.out (by decide))
                      have hio:=IntsAt.grown (W:=wr.alloc _) (HZ5.out.ex (by repeat (first|exact Ex.refl _|refine Ex.alloc ?_ _|refine Ex.ext ?_ _ _|refine Ex.drew ?_|refine Ex.drewN ?_ _))) (HZO5.out.ex (by repeat (first|exact Ex.refl _|refine Ex.alloc ?_ _|refine Ex.ext ?_ _ _|refine Ex.drew ?_|refine Ex.drewN ?_ _))) hgr5 (ints_apart HZO5.out HR4.out (by decide))
                      refine ⟨q+1,_,rfl,by omega,by go_num,by (rw [HS2.out];try (first|rfl|(congr 1;omega))),hlo.1,hlo.2,hio.1,hio.2,?_,?_⟩
                      · rw [HS2.out]
                        simpa [Fil.cells,Nat.add_assoc] using hown5
                      · refine Below.grown (a:=_) ?_ hgr5 ?_ (fun b hb=>(HR4.out.lt b hb).1)
                        · (refine Below.trans HB4.out ?_;repeat (first|exact Below.refl _ _|(refine Below.drew ?_)|(refine Below.drewN ?_ _)|(refine Below.ext ?_ (by first|omega|(simp [go_sem];done)|(simp [go_sem];omega)) _ _)|(refine Below.alloc ?_ (by first|omega|(simp [go_sem];done)|(simp [go_sem];omega)) _)|(refine Below.setCell ?_ (by first|omega|(simp [go_sem];done)|(simp [go_sem];omega)) _)))
                        · exact (by first|omega|(simp [go_sem];done)|(simp [go_sem];omega))
              · have hstop:takeF sv lf=takeF (sv.take q) lf:=by
                  by_cases hq2:q<k
                  · exact takeF_stop (by omega)
                  · rw [List.take_of_length_le (by omega)]
                have HSTOP:=Lib.hid hstop
                clear hl4 ho4 hr4 hb4 hz5 hzo5 htn hstop
                have hnx:(pre++(takeF (sv.take q) lf).1)++refF (fOf1 price l) c (takeF (sv.take q) lf).2 seed=T:=by
                  rw [← HSTOP.out,← HSD.out,HREF.out,List.append_assoc]
                have HNX:=Lib.hid hnx
                clear hnx HSTOP
                generalize takeF (sv.take q) lf=T2 at *
                have hcase:q=k∨(q<k∧T2.2=0):=by omega
                rcases hcase with rfl|⟨hqn,ht0⟩
                · go_wp2_with fail
                  all_goals
                    go_roundw
                    case measure=>simp [intOf];omega
                    case rel=>exact ⟨c,_,T2.2,pre++T2.1,rfl,by omega,by first|go_num|(congr 1;omega),rfl,htl.1,by omega,HNX.out,by simp;omega,by rw [List.length_append];exact HR4.out,HB4.out⟩
                · go_wp2_with fail
                  all_goals
                    go_roundw
                    case measure=>simp [intOf];omega
                    case rel=>exact ⟨c,_,T2.2,pre++T2.1,rfl,by omega,by first|go_num|(congr 1;omega),by rw [ht0],htl.1,by omega,HNX.out,by simp;omega,by rw [List.length_append];exact HR4.out,HB4.out⟩
end Go.Proofs.YtmbboflakfokhaaGreatDoor
