import Derived.Test.YtmbboflakfokhaaGreatDoorJ25
import Derived.Test.YtmbboflakfokhaaGreatDoorJ26
import Derived.Test.YtmbboflakfokhaaGreatDoorJ24
import Derived.Test.YtmbboflakfokhaaGreatDoorJ28
import Derived.Test.YtmbboflakfokhaaGreatDoorMHoldAny
import Derived.Deep.RegionHeld3
import Derived.Deep.CutBlock
import Derived.BigQuiet
import Derived.Deep.QuietTactic
/- What Place of the document's floor computes. -/
set_option linter.unusedSimpArgs false
set_option linter.unusedVariables false
namespace Go.Proofs.YtmbboflakfokhaaGreatDoor
open Go.RowKit
theorem blkTh.at {b:Nat} {vs:Array Value} {t:TypeId} {w:World} (h:Blk w b vs t):(blkTh b vs t).P (fun n=>n=b) w:=⟨fun n=>Iff.rfl,h⟩
section
variable {w W W':World} {F:Nat→Prop} {A:MA} {st:FSt} {M:List Th}
theorem MFX.box (X:MFX F w A st M W) (hx:Ex W W') {b:Nat} {vs:Array Value} {t:TypeId} (h:Blk W' b vs t) (hb:W.heap.size≤b):MFX F w A st (blkTh b vs t::M) W' :=
  X.add (M':=[blkTh b vs t]) hx (SepL.one (blkTh.at h)) (fun n hn=>by subst hn;exact hb)
theorem MFX.blk {b:Nat} {vs:Array Value} {t:TypeId} (X:MFX F w A st M W) (i:Nat) (hi:M[i]?=some (blkTh b vs t)):Blk W b vs t:=by
  obtain ⟨G,h⟩:=Sep.look X (5+i) (T:=blkTh b vs t) (by
    rw [List.getElem?_append_right (by show 5≤5+i;omega)]
    show M[5+i - 5]?=_
    rw [show 5+i - 5=i by omega]
    exact hi)
  exact h.2
set_option maxRecDepth 100000 in
theorem mplace_bad (h:(mTh A st).P F w) (a:Ask) (hk:askedE a 111≠0) :
    Calls Tryz.prog 10 #[.pointer (some ⟨A.f,0,none⟩),a.val] w fun e w'=>e=.returned (.int .i64 (fplaceE st a:Nat))∧Leaves (mTh A (fplaceS st a)) F w w':=by
  have hs:fplaceS st a=st:=if_neg hk
  have he:fplaceE st a=askedE a 111:=if_neg hk
  rw [hs,he]
  have HK:=Lib.hid (fun w=>mkind_any a 111 w)
  have HX:=Lib.hid (MFX.start h)
  have h1:(0:Int)<(askedE a 111:Int):=by omega
  clear h hs he hk
  generalize askedE a 111=n at *
  go_enter Tryz.func10,Tryz.ntmps10
  go_wp2_with (go_at_call 35;refine (HK.out _).mono ?_;rintro e w1 ⟨rfl,l1,d1,rfl⟩)
  all_goals go_ret
  all_goals exact ⟨rfl,(HX.out.later (by repeat (first|exact Ex.refl _|refine Ex.alloc ?_ _|refine Ex.ext ?_ _ _|refine Ex.drew ?_|refine Ex.drewN ?_ _))).close⟩
theorem MPl.has {lx bx k:Nat} {kind client seq side price qty id:Int} {st:FSt} (X:MFX F w A st [blkTh lx (lotA ⟨id,client,side,price,qty⟩) 44,blkTh bx (askA ⟨kind,client,seq,(k:Int),side,price,qty,id⟩) 37] W):W.cell? ⟨A.f,9,none⟩=some (.pointer (some ⟨A.pp,0,none⟩))∧W.cell? ⟨bx,3,none⟩=some (.int .i64 (k:Int))∧W.cell? ⟨lx,0,none⟩=some (.int .i64 id)∧W.cell? ⟨lx,1,none⟩=some (.int .i64 client)∧W.cell? ⟨lx,2,none⟩=some (.int .i64 side)∧W.cell? ⟨lx,3,none⟩=some (.int .i64 price)∧W.cell? ⟨lx,4,none⟩=some (.int .i64 qty):=by
  obtain ⟨x0,x1,x2,x3,x4⟩:=(X.blk 0 rfl).lot
  obtain ⟨_,a3,_⟩:=(X.blk 1 rfl).ask
  exact ⟨X.restC.1,a3,x0,x1,x2,x3,x4⟩
set_option maxRecDepth 100000 in
set_option maxHeartbeats 4000000 in
theorem mplace_go (h:(mTh A st).P F w) (a:Ask) (k:Nat) (hk3:k<3) (hi:a.item=(k:Int)) (hk:askedE a 111=0) :
    Calls Tryz.prog 10 #[.pointer (some ⟨A.f,0,none⟩),a.val] w fun e w'=>e=.returned (.int .i64 (placeE st k (lotOf a):Nat))∧Leaves (mTh A (placeS st k (lotOf a))) F w w':=by
  have hwf:=lotOf_wf (asked_zero hk).1
  have HWF:=Lib.hid hwf
  have HK:=Lib.hid (fun w=>mkind_any a 111 w)
  rw [hk] at HK
  have hX:=MFX.start h
  obtain ⟨_,_,_,hf⟩:=hX.restC
  have k3:(k:Int)<3:=by omega
  have HX:=Lib.hid hX
  obtain ⟨x,hx⟩:∃ x,x=lotOf a:=⟨_,rfl⟩
  have HLE:=Lib.hid (fun w=>mlotError_any x w)
  rw [← hx] at HWF ⊢
  obtain ⟨kind,client,seq,item,side,price,qty,id⟩:=a
  simp only at hi
  subst hi
  simp only [lotOf] at hx
  have HXL:=Lib.hid hx
  clear h hX hk hwf hx
  go_enter Tryz.func10,Tryz.ntmps10
  go_upto_region 5 with (go_at_call 35;refine (HK.out _).mono ?_;rintro e w1 ⟨rfl,l1,d1,rfl⟩)
  refine wp_world (R:=fun W=>MFX F w A st [blkTh (w.heap.size+1+l1.length) (lotA ⟨id,client,side,price,qty⟩) 44,blkTh w.heap.size (askA ⟨kind,client,seq,(k:Int),side,price,qty,id⟩) 37] W) ((HX.out.box (W':=ext (w.alloc (.cells (askA ⟨kind,client,seq,(k:Int),side,price,qty,id⟩) 37)) l1 d1) (by repeat (first|exact Ex.refl _|refine Ex.alloc ?_ _|refine Ex.ext ?_ _ _|refine Ex.drew ?_|refine Ex.drewN ?_ _)) (by repeat (first|exact Blk.new (by first|omega|(simp [go_sem];done)|(simp [go_sem];omega))|(with_reducible exact Blk.new rfl)|(with_reducible refine Blk.drew ?_)|(with_reducible refine Blk.drewN ?_ _)|(with_reducible refine Blk.ext ?_ _ _)|(with_reducible refine Blk.alloc ?_ _))) (Nat.le_refl _)).box (by repeat (first|exact Ex.refl _|refine Ex.alloc ?_ _|refine Ex.ext ?_ _ _|refine Ex.drew ?_|refine Ex.drewN ?_ _)) (by repeat (first|exact Blk.new (by first|omega|(simp [go_sem];done)|(simp [go_sem];omega))|(with_reducible exact Blk.new rfl)|(with_reducible refine Blk.drew ?_)|(with_reducible refine Blk.drewN ?_ _)|(with_reducible refine Blk.ext ?_ _ _)|(with_reducible refine Blk.alloc ?_ _))) (by simp [go_sem])) ?_
  generalize w.heap.size+1+l1.length=lx at *
  generalize w.heap.size=bx at *
  rintro W hX
  have HX1:=Lib.hid hX
  obtain ⟨x0,x1,x2,x3,x4⟩:=(hX.blk 0 rfl).lot
  obtain ⟨_,a3,_⟩:=(hX.blk 1 rfl).ask
  simp only at x0 x1 x2 x3 x4 a3
  have hlz:=(hX.blk 0 rfl).lt
  have hbz:=(hX.blk 1 rfl).lt
  have hfz:=hX.restC.2.2.2
  have pp:=hX.restC.1
  have bk:=hX.bookC hk3
  obtain ⟨own0,hb0⟩:=hX.bookAt hk3
  obtain ⟨bo,bc,bs0,_,_,_,_,_⟩:=hb0.slice
  have hbpz:=hb0.lt
  have HFD:=Lib.hid (fun W' (hx:Ex W W')=>(HX1.out.later hx).readB hk3 (fun own h=>mfind_any h x.id))
  clear hX HX hb0
  by_cases hok:x.ok=true
  · have hle:(if x.ok=true then (0:Int) else 2)=0:=if_pos hok
    rw [hle] at HLE
    clear hle
    by_cases hfi:0≤idIdx (st.b k) x.id
    · -- the number is there
      have he:placeE st k x=7:=by
        have e1:addE (st.b k) x=7:=by unfold addE;rw [if_pos hok,if_pos hfi]
        unfold placeE
        rw [e1,if_neg (by decide)]
      have hs:placeS st k x=st:=by unfold placeS;rw [if_neg (by rw [he];decide)]
      have HPE:=Lib.hid he;clear he
      have HPS:=Lib.hid hs;clear hs
      rw [HXL.out] at HLE HFD hfi
      generalize idIdx (st.b k) (⟨id,client,side,price,qty⟩:Lot).id=z at *
      clear hok
      go_wp2_with (go_at_call 36;refine (HLE.out _).mono ?_;rintro e w2 ⟨rfl,l2,d2,rfl⟩)
      go_quiet (fail)
      all_goals go_wp2_with (go_at_call 37;refine (HFD.out _ (by repeat (first|exact Ex.refl _|refine Ex.alloc ?_ _|refine Ex.ext ?_ _ _|refine Ex.drew ?_|refine Ex.drewN ?_ _))).mono ?_;rintro e w3 ⟨rfl,l3,d3,rfl⟩)
      all_goals go_ret
      all_goals exact ⟨by rw [HPE.out];rfl,by rw [HPS.out];exact (HX1.out.later (by repeat (first|exact Ex.refl _|refine Ex.alloc ?_ _|refine Ex.ext ?_ _ _|refine Ex.drew ?_|refine Ex.drewN ?_ _))).only.close⟩
    · have hz1:idIdx (st.b k) x.id<0:=by omega
      by_cases hln:60≤(st.b k).length
      · have he:placeE st k x=8:=by
          have e1:addE (st.b k) x=8:=by unfold addE;rw [if_pos hok,if_neg hfi,if_pos hln]
          unfold placeE
          rw [e1,if_neg (by decide)]
        have hs:placeS st k x=st:=by unfold placeS;rw [if_neg (by rw [he];decide)]
        have HPE:=Lib.hid he;clear he
        have HPS:=Lib.hid hs;clear hs
        rw [HXL.out] at HLE HFD hz1
        generalize idIdx (st.b k) (⟨id,client,side,price,qty⟩:Lot).id=z at *
        clear hok hfi
        go_wp2_with (go_at_call 36;refine (HLE.out _).mono ?_;rintro e w2 ⟨rfl,l2,d2,rfl⟩)
        go_quiet (fail)
        all_goals go_wp2_with (go_at_call 37;refine (HFD.out _ (by repeat (first|exact Ex.refl _|refine Ex.alloc ?_ _|refine Ex.ext ?_ _ _|refine Ex.drew ?_|refine Ex.drewN ?_ _))).mono ?_;rintro e w3 ⟨rfl,l3,d3,rfl⟩)
        all_goals go_ret
        all_goals exact ⟨by rw [HPE.out];rfl,by rw [HPS.out];exact (HX1.out.later (by repeat (first|exact Ex.refl _|refine Ex.alloc ?_ _|refine Ex.ext ?_ _ _|refine Ex.drew ?_|refine Ex.drewN ?_ _))).only.close⟩
      · have ea:addE (st.b k) x=0:=by unfold addE;rw [if_pos hok,if_neg hfi,if_neg hln]
        have el:addL (st.b k) x=st.b k++[x]:=if_pos ea
        have he:placeE st k x=holdE st.p (k:Int) x:=if_pos ea
        have HH:=Lib.hid (fun W' (hx:Ex W W')=>(HX1.out.later hx).purse (fun own h=>mhold_any h (k:Int) x))
        have HAD:=Lib.hid (fun own W' (h:BookAt own 1 W' (A.bp k) (st.b k))=>madd_any h x HWF.out)
        rw [ea,el] at HAD
        have HPE:=Lib.hid he;clear he
        have hln2:(st.b k).length<60:=by omega
        clear ea el
        by_cases hh:holdE st.p (k:Int) x=0
        · have hs:placeS st k x=(st.setB k (st.b k++[x])).setP (holdP st.p (k:Int) x):=by unfold placeS;rw [HPE.out,if_pos hh]
          have HPS:=Lib.hid hs;clear hs
          rw [hh] at HH
          rw [HXL.out] at HLE HFD hz1 HH HAD
          generalize idIdx (st.b k) (⟨id,client,side,price,qty⟩:Lot).id=z at *
          clear hok hfi
          go_wp2_with (go_at_call 36;refine (HLE.out _).mono ?_;rintro e w2 ⟨rfl,l2,d2,rfl⟩)
          go_quiet (fail)
          all_goals go_upto_region 12 with (go_at_call 37;refine (HFD.out _ (by repeat (first|exact Ex.refl _|refine Ex.alloc ?_ _|refine Ex.ext ?_ _ _|refine Ex.drew ?_|refine Ex.drewN ?_ _))).mono ?_;rintro e w3 ⟨rfl,l3,d3,rfl⟩)
          go_region_held3 (fun W'=>W'.cell? ⟨A.f,9,none⟩=some (.pointer (some ⟨A.pp,0,none⟩))∧W'.cell? ⟨bx,3,none⟩=some (.int .i64 (k:Int))∧W'.cell? ⟨lx,0,none⟩=some (.int .i64 id)∧W'.cell? ⟨lx,1,none⟩=some (.int .i64 client)∧W'.cell? ⟨lx,2,none⟩=some (.int .i64 side)∧W'.cell? ⟨lx,3,none⟩=some (.int .i64 price)∧W'.cell? ⟨lx,4,none⟩=some (.int .i64 qty))
            ((first|exact MPl.has (HX2.out.later (by repeat (first|exact Ex.refl _|refine Ex.alloc ?_ _|refine Ex.ext ?_ _ _|refine Ex.drew ?_|refine Ex.drewN ?_ _)))|exact MPl.has (HX1.out.later (by repeat (first|exact Ex.refl _|refine Ex.alloc ?_ _|refine Ex.ext ?_ _ _|refine Ex.drew ?_|refine Ex.drewN ?_ _)))))
            ((go_at_call 38;((with_reducible refine (HH.out _ ?_).mono ?_));(focus exact (by repeat (first|exact Ex.refl _|refine Ex.alloc ?_ _|refine Ex.ext ?_ _ _|refine Ex.drew ?_|refine Ex.drewN ?_ _)));rintro e w4 ⟨rfl,hX2⟩;have HX2:=Lib.hid hX2;clear hX2))
          all_goals go_wp2_with fail
          all_goals
            obtain ⟨_,_,y0,y1,y2,y3,y4⟩:=MPl.has HX2.out
            have hlz4:=(HX2.out.blk 0 rfl).lt
            go_wp2_with fail
            refine ((HX2.out.later (by repeat (first|exact Ex.refl _|refine Ex.alloc ?_ _|refine Ex.ext ?_ _ _|refine Ex.drew ?_|refine Ex.drewN ?_ _))).book hk3 (fun own h=>HAD.out own _ h)).mono ?_
            rintro e w5 ⟨rfl,hX5⟩
            have HX5:=Lib.hid hX5
            clear hX5
            go_wp2_with fail
            all_goals go_ret
            all_goals exact ⟨by rw [HPE.out,hh];rfl,by rw [HPS.out,HXL.out];exact (HX5.out.later (by repeat (first|exact Ex.refl _|refine Ex.alloc ?_ _|refine Ex.ext ?_ _ _|refine Ex.drew ?_|refine Ex.drewN ?_ _))).only.close⟩
        · have hs:placeS st k x=st:=by unfold placeS;rw [HPE.out,if_neg hh]
          have hp:holdP st.p (k:Int) x=st.p:=if_neg hh
          have HPS:=Lib.hid hs;clear hs
          have h0:(0:Int)<(holdE st.p (k:Int) x:Int):=by omega
          rw [hp] at HH
          rw [HXL.out] at HLE HFD hz1 HH h0
          have HXL2:=Lib.hid (show holdE st.p (k:Int) x=holdE st.p (k:Int) ⟨id,client,side,price,qty⟩ by rw [HXL.out])
          generalize holdE st.p (k:Int) ⟨id,client,side,price,qty⟩=hn at *
          generalize idIdx (st.b k) (⟨id,client,side,price,qty⟩:Lot).id=z at *
          clear hok hfi hh hp
          go_wp2_with (go_at_call 36;refine (HLE.out _).mono ?_;rintro e w2 ⟨rfl,l2,d2,rfl⟩)
          go_quiet (fail)
          all_goals go_upto_region 12 with (go_at_call 37;refine (HFD.out _ (by repeat (first|exact Ex.refl _|refine Ex.alloc ?_ _|refine Ex.ext ?_ _ _|refine Ex.drew ?_|refine Ex.drewN ?_ _))).mono ?_;rintro e w3 ⟨rfl,l3,d3,rfl⟩)
          go_region_held3 (fun W'=>W'.cell? ⟨A.f,9,none⟩=some (.pointer (some ⟨A.pp,0,none⟩))∧W'.cell? ⟨bx,3,none⟩=some (.int .i64 (k:Int))∧W'.cell? ⟨lx,0,none⟩=some (.int .i64 id)∧W'.cell? ⟨lx,1,none⟩=some (.int .i64 client)∧W'.cell? ⟨lx,2,none⟩=some (.int .i64 side)∧W'.cell? ⟨lx,3,none⟩=some (.int .i64 price)∧W'.cell? ⟨lx,4,none⟩=some (.int .i64 qty))
            ((first|exact MPl.has (HX2.out.later (by repeat (first|exact Ex.refl _|refine Ex.alloc ?_ _|refine Ex.ext ?_ _ _|refine Ex.drew ?_|refine Ex.drewN ?_ _)))|exact MPl.has (HX1.out.later (by repeat (first|exact Ex.refl _|refine Ex.alloc ?_ _|refine Ex.ext ?_ _ _|refine Ex.drew ?_|refine Ex.drewN ?_ _)))))
            ((go_at_call 38;((with_reducible refine (HH.out _ ?_).mono ?_));(focus exact (by repeat (first|exact Ex.refl _|refine Ex.alloc ?_ _|refine Ex.ext ?_ _ _|refine Ex.drew ?_|refine Ex.drewN ?_ _)));rintro e w4 ⟨rfl,hX2⟩;have HX2:=Lib.hid hX2;clear hX2))
          all_goals go_wp2_with fail
          all_goals go_ret
          all_goals exact ⟨by rw [HPE.out,HXL2.out];rfl,by rw [HPS.out];exact (HX2.out.later (by repeat (first|exact Ex.refl _|refine Ex.alloc ?_ _|refine Ex.ext ?_ _ _|refine Ex.drew ?_|refine Ex.drewN ?_ _))).only.close⟩
  · have hle:(if x.ok=true then (0:Int) else 2)=2:=if_neg hok
    rw [hle] at HLE
    have he:placeE st k x=2:=by
      have e1:addE (st.b k) x=2:=by unfold addE;rw [if_neg hok]
      unfold placeE
      rw [e1,if_neg (by decide)]
    have hs:placeS st k x=st:=by unfold placeS;rw [if_neg (by rw [he];decide)]
    have HPE:=Lib.hid he;clear he
    have HPS:=Lib.hid hs;clear hs
    rw [HXL.out] at HLE
    clear hok hle
    go_wp2_with (go_at_call 36;refine (HLE.out _).mono ?_;rintro e w2 ⟨rfl,l2,d2,rfl⟩)
    go_quiet (fail)
    all_goals go_wp2_with fail
    all_goals go_ret
    all_goals exact ⟨by rw [HPE.out];rfl,by rw [HPS.out];exact (HX1.out.later (by repeat (first|exact Ex.refl _|refine Ex.alloc ?_ _|refine Ex.ext ?_ _ _|refine Ex.drew ?_|refine Ex.drewN ?_ _))).only.close⟩
theorem mplace_any (h:(mTh A st).P F w) (a:Ask) :
    Calls Tryz.prog 10 #[.pointer (some ⟨A.f,0,none⟩),a.val] w fun e w'=>e=.returned (.int .i64 (fplaceE st a:Nat))∧Leaves (mTh A (fplaceS st a)) F w w':=by
  by_cases hk:askedE a 111=0
  · have e1:fplaceE st a=placeE st a.item.toNat (lotOf a):=if_pos hk
    have e2:fplaceS st a=placeS st a.item.toNat (lotOf a):=if_pos hk
    rw [e1,e2]
    obtain ⟨_,_,_,b4,_⟩:=Ask.bounds (asked_zero hk).1
    exact mplace_go h a a.item.toNat (by omega) (by omega) hk
  · exact mplace_bad h a hk
end
end Go.Proofs.YtmbboflakfokhaaGreatDoor
