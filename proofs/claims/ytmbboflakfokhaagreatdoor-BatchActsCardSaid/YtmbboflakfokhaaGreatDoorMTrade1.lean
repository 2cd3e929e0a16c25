import Derived.Test.YtmbboflakfokhaaGreatDoorJ38
/- The document's Trade at item 1, where the lots are fair. Printed by wip/tools/mtrade_gen.py. -/
set_option linter.unusedSimpArgs false
set_option linter.unusedVariables false
namespace Go.Proofs.YtmbboflakfokhaaGreatDoor
open Go.RowKit
section
variable {own:Nat→Nat} {i:Nat} {w:World} {p:Nat} {P:Pu}
set_option maxRecDepth 100000 in
set_option maxHeartbeats 60000000 in
theorem mtrade_fair1 (h:PurseAt own i w p P) (b s:Lot) (price qty:Int) (hQ:PInv (tradeQ P 1 b s price qty)) (hfair:fairE 1 b s price qty=0) :
    Calls Tryz.prog 54 #[.pointer (some ⟨p,0,none⟩),.int .i64 1,b.val,s.val,.int .i64 price,.int .i64 qty] w fun e w'=>e=.returned (.int .i64 (tradeE P 1 b s price qty:Nat))∧ObjTo own i i w (fun o w'=>PurseAt o i w' p (tradeQ P 1 b s price qty)) w':=by
  obtain ⟨hrb,hrs,f1b,f1s,g1,g2,g3,g4,g5,g6,g7⟩:=fair_zero hfair
  simp only [rightB,Bool.and_eq_true] at hrb hrs
  obtain ⟨_,ob,sb,pb,qb⟩:=Lot.okC hrb.2
  obtain ⟨_,os,ss,ps,qs⟩:=Lot.okC hrs.2
  have HB:=Lib.hid (mlotError_any b)
  have HS:=Lib.hid (mlotError_any s)
  rw [hrb.2,if_pos rfl] at HB
  rw [hrs.2,if_pos rfl] at HS
  have HI:=Lib.hid isItem_yes
  have HF:=Lib.hid hfair
  have H:=Lib.hid h
  have HQ:=Lib.hid hQ
  have hp:=h.lt
  have HF1b:=Lib.hid f1b
  have HF1s:=Lib.hid f1s
  clear h hQ hrb hrs hfair sb ss f1b f1s
  have HBAD:Hid (∀ (n:Nat) W,tradeE P 1 b s price qty=n→n≠0→Ex w W→ObjTo own i i w (fun o w'=>PurseAt o i w' p (tradeQ P 1 b s price qty)) W):=Lib.hid (fun n W e h0 hx=>by
    unfold tradeQ
    rw [if_neg (by rw [e];exact h0)]
    exact ObjTo.of_ex hx ((H.out.relabel (fun n hn e=>by rw [lab_lt hn];exact e)).later hx))
  go_enter Tryz.func54,Tryz.ntmps54
  go_upto_region 2 with (go_at_call 70;(with_reducible refine (HI.out _ _ ?_).mono ?_);(focus (exact inR_iff.2 (by omega)));rintro e w1 ⟨rfl,l1,d1,rfl⟩)
  refine wp_world (R:=fun W=>Ex w W∧BoxTwo w.heap.size (w.heap.size+1) b s W) ⟨(by repeat (first|exact Ex.refl _|refine Ex.alloc ?_ _|refine Ex.ext ?_ _ _|refine Ex.drew ?_|refine Ex.drewN ?_ _)),?_⟩ ?_
  · exact BoxTwo.later (W:=(w.alloc (.cells #[.int .i64 b.id,.int .i64 b.owner,.int .i64 b.side,.int .i64 b.price,.int .i64 b.qty] 44)).alloc (.cells #[.int .i64 s.id,.int .i64 s.owner,.int .i64 s.side,.int .i64 s.price,.int .i64 s.qty] 44)) ⟨(Below.heap_alloc _ _ _ (by simp [go_sem])).trans (heap_new rfl),heap_new (by simp [go_sem])⟩ (by repeat (first|exact Ex.refl _|refine Ex.alloc ?_ _|refine Ex.ext ?_ _ _|refine Ex.drew ?_|refine Ex.drewN ?_ _))
  rintro W1 ⟨hx1,hb1⟩
  have HX1:=Lib.hid hx1
  have HB1:=Lib.hid hb1
  clear hx1 hb1
  generalize hnb:w.heap.size=nb at *
  generalize hns:nb+1=ns at *
  go_region_held3 (fun W=>W.cell? ⟨nb,0,none⟩=some (.int .i64 b.id)∧W.cell? ⟨nb,1,none⟩=some (.int .i64 b.owner)∧W.cell? ⟨nb,2,none⟩=some (.int .i64 b.side)∧W.cell? ⟨nb,3,none⟩=some (.int .i64 b.price)∧W.cell? ⟨nb,4,none⟩=some (.int .i64 b.qty)∧W.cell? ⟨ns,0,none⟩=some (.int .i64 s.id)∧W.cell? ⟨ns,1,none⟩=some (.int .i64 s.owner)∧W.cell? ⟨ns,2,none⟩=some (.int .i64 s.side)∧W.cell? ⟨ns,3,none⟩=some (.int .i64 s.price)∧W.cell? ⟨ns,4,none⟩=some (.int .i64 s.qty)) ((first|exact boxTwoS HB1.out|exact boxTwoS (HB1.out.later (by repeat (first|exact Ex.refl _|refine Ex.alloc ?_ _|refine Ex.ext ?_ _ _|refine Ex.drew ?_|refine Ex.drewN ?_ _))))) ((first
    | (go_at_call 36;(with_reducible refine (HB.out _).mono ?_);rintro e w2 ⟨rfl,l2,d2,rfl⟩)
    | (go_at_call 36;(with_reducible refine (HS.out _).mono ?_);rintro e w3 ⟨rfl,l3,d3,rfl⟩)))
  go_upto_region 4 with fail
  refine wp_world (R:=fun W=>Ex w W∧BoxTwo nb ns b s W) ⟨HX1.out.trans (by repeat (first|exact Ex.refl _|refine Ex.alloc ?_ _|refine Ex.ext ?_ _ _|refine Ex.drew ?_|refine Ex.drewN ?_ _)),HB1.out.later (by repeat (first|exact Ex.refl _|refine Ex.alloc ?_ _|refine Ex.ext ?_ _ _|refine Ex.drew ?_|refine Ex.drewN ?_ _))⟩ ?_
  clear HB HS HI HX1 HB1
  rintro W2 ⟨hx2,hb2⟩
  obtain ⟨a0,a1,a2,a3,a4,b0,b1,b2,b3,b4⟩:=boxTwoS hb2
  have HX2:=Lib.hid hx2
  have HB2:=Lib.hid hb2
  have hn2:=hb2.lt
  have hz2:=hx2.below.size
  have HP2:=Lib.hid (H.out.later hx2)
  clear hx2 hb2
  rw [HF1b.out] at a2
  rw [HF1s.out] at b2
  obtain ⟨bo,hbo⟩:∃ n:Nat,b.owner=(n:Int):=Int.eq_ofNat_of_zero_le ob.1
  obtain ⟨so,hso⟩:∃ n:Nat,s.owner=(n:Int):=Int.eq_ofNat_of_zero_le os.1
  have hbo6:bo<6:=by omega
  have hso6:so<6:=by omega
  have tb:b.owner.toNat=bo:=by omega
  have ts:s.owner.toNat=so:=by omega
  rw [hbo] at a1
  rw [hso] at b1
  have q0:=HP2.out.cell hbo6 (j:=0) (by omega)
  have q1:=HP2.out.cell hbo6 (j:=1) (by omega)
  have q2:=HP2.out.cell hbo6 (j:=2) (by omega)
  have q3:=HP2.out.cell hbo6 (j:=3) (by omega)
  have q4:=HP2.out.cell hbo6 (j:=4) (by omega)
  have q5:=HP2.out.cell hbo6 (j:=5) (by omega)
  have q6:=HP2.out.cell hbo6 (j:=6) (by omega)
  have q7:=HP2.out.cell hbo6 (j:=7) (by omega)
  have r0:=HP2.out.cell hso6 (j:=0) (by omega)
  have r1:=HP2.out.cell hso6 (j:=1) (by omega)
  have r2:=HP2.out.cell hso6 (j:=2) (by omega)
  have r3:=HP2.out.cell hso6 (j:=3) (by omega)
  have r4:=HP2.out.cell hso6 (j:=4) (by omega)
  have r5:=HP2.out.cell hso6 (j:=5) (by omega)
  have r6:=HP2.out.cell hso6 (j:=6) (by omega)
  have r7:=HP2.out.cell hso6 (j:=7) (by omega)
  simp only [Nat.add_zero] at q0 r0
  have hm1:=mul_bd pb.1 pb.2 (show 1≤qty by omega) (by omega)
  have hm2:=mul_bd (show 1≤price by omega) (by omega) (show 1≤qty by omega) (by omega)
  have hle:price*qty≤b.price*qty:=Int.mul_le_mul_of_nonneg_right (by omega) (by omega)
  have w1:IntKind.i64.wrap (b.price*qty)=b.price*qty:=IntWalk.i64_in _ (by omega)
  have w2:IntKind.i64.wrap (price*qty)=price*qty:=IntWalk.i64_in _ (by omega)
  obtain ⟨u1,u2,u3,u4⟩:=H.out.2.1 bo hbo6
  obtain ⟨v1,v2,v3,v4⟩:=H.out.2.1 so hso6
  have c0:(0:Int)≤(bo:Int):=by omega
  have c6:(bo:Int)<6:=by omega
  have d0:(0:Int)≤(so:Int):=by omega
  have d6:(so:Int)<6:=by omega
  have HE:Hid (tradeE P 1 b s price qty=(if P bo 1<b.price*qty∨P so 6<qty then 10 else if bo≠so∧(1073741824 - P bo 3<qty∨1099511627776 - P so 0<price*qty) then 8 else 0)):=Lib.hid (by unfold tradeE;rw [if_pos HF.out,tb,ts];rfl)
  have u5:=u4 1 (by omega)
  have v5:=v4 1 (by omega)
  simp only [Nat.reduceAdd] at u5 v5
  clear u4 v4 HF
  go_upto_region 10 with fail
  go_region
  go_upto_region 11 with fail
  go_region
  go_upto_region 12 with fail
  refine wp_world (R:=fun W=>Ex w W∧BoxTwo nb ns b s W∧HasBox W2.heap.size (P bo 0) (P bo 1) (P bo 2) (P bo 3) (P bo 4) (P bo 5) (P bo 6) (P bo 7) W∧HasBox (W2.heap.size+1) (P so 0) (P so 1) (P so 2) (P so 3) (P so 4) (P so 5) (P so 6) (P so 7) W) ⟨HX2.out.trans (by repeat (first|exact Ex.refl _|refine Ex.alloc ?_ _|refine Ex.ext ?_ _ _|refine Ex.drew ?_|refine Ex.drewN ?_ _)),HB2.out.later (by repeat (first|exact Ex.refl _|refine Ex.alloc ?_ _|refine Ex.ext ?_ _ _|refine Ex.drew ?_|refine Ex.drewN ?_ _)),(HasBox.top rfl).later (by repeat (first|exact Ex.refl _|refine Ex.alloc ?_ _|refine Ex.ext ?_ _ _|refine Ex.drew ?_|refine Ex.drewN ?_ _)),(HasBox.top (W:=W2.alloc (.cells #[.int .i64 (P bo 0),.int .i64 (P bo 1),.int .i64 (P bo 2),.int .i64 (P bo 3),.int .i64 (P bo 4),.int .i64 (P bo 5),.int .i64 (P bo 6),.int .i64 (P bo 7)] 86)) (by simp [go_sem])).later (by repeat (first|exact Ex.refl _|refine Ex.alloc ?_ _|refine Ex.ext ?_ _ _|refine Ex.drew ?_|refine Ex.drewN ?_ _))⟩ ?_
  clear q0 q1 q2 q3 q4 q5 q6 q7 r0 r1 r2 r3 r4 r5 r6 r7 a0 a1 a2 a3 a4 b0 b1 b2 b3 b4
  rintro W3 ⟨hx3,hb3,hh3,hg3⟩
  have hl1:=hb3.lt
  have hl2:=hg3.lt
  obtain ⟨a0,a1,a2,a3,a4,b0,b1,b2,b3,b4⟩:=boxTwoS hb3
  rw [hbo] at a1
  rw [hso] at b1
  rw [HF1b.out] at a2
  rw [HF1s.out] at b2
  obtain ⟨x0,x1,x2,x3,x4,x5,x6,x7⟩:=hh3.cells
  obtain ⟨y0,y1,y2,y3,y4,y5,y6,y7⟩:=hg3.cells
  have hfb:=hh3.frozen
  have hfs:=hg3.frozen
  have HX3:=Lib.hid hx3
  have HB3:=Lib.hid hb3
  have HH3:=Lib.hid hh3
  have HG3:=Lib.hid hg3
  have hz3:=hx3.below.size
  have HP3:=Lib.hid (H.out.later hx3)
  have hps:p<W2.heap.size:=by omega
  clear hx3 hb3 hh3 hg3 HX2 HB2 HP2
  generalize hhb:W2.heap.size=hb at *
  generalize hhs:hb+1=hs at *
  have hbs:hb≠hs:=by omega
  have hbw:∀ j:Nat,(⟨hb,j,none⟩:Addr).block<w.heap.size→own (⟨hb,j,none⟩:Addr).block / 1=i:=fun j h=>absurd (show hb<w.heap.size from h) (by omega)
  have hpw:∀ j:Nat,(⟨p,j,none⟩:Addr).block<w.heap.size→own (⟨p,j,none⟩:Addr).block / 1=i:=fun j _=>by rw [Nat.div_one];exact H.out.1
  have hsw:∀ j:Nat,(⟨hs,j,none⟩:Addr).block<w.heap.size→own (⟨hs,j,none⟩:Addr).block / 1=i:=fun j h=>absurd (show hs<w.heap.size from h) (by omega)
  have hpb:p≠hb:=by omega
  have hph:p≠hs:=by omega
  have hnb1:nb≠hb:=by omega
  have hnb2:nb≠hs:=by omega
  have hnb3:nb≠p:=by omega
  have hns1:ns≠hb:=by omega
  have hns2:ns≠hs:=by omega
  have hns3:ns≠p:=by omega
  by_cases k1:P bo 1<b.price*qty
  · as_aux_lemma =>
    rw [if_pos (.inl k1)] at HE
    go_wp2_with fail
    all_goals (try (go_region;all_goals go_wp2_with fail))
    all_goals (try (go_region;all_goals go_wp2_with fail))
    all_goals (try (go_region;all_goals go_wp2_with fail))
    all_goals go_ret
    all_goals exact ⟨by rw [HE.out];rfl,HBAD.out 10 _ HE.out (by decide) (HX3.out.trans (by repeat (first|exact Ex.refl _|refine Ex.alloc ?_ _|refine Ex.ext ?_ _ _|refine Ex.drew ?_|refine Ex.drewN ?_ _)))⟩
  by_cases k2:P so 6<qty
  · as_aux_lemma =>
    rw [if_pos (.inr k2)] at HE
    go_wp2_with fail
    all_goals (try (go_region;all_goals go_wp2_with fail))
    all_goals (try (go_region;all_goals go_wp2_with fail))
    all_goals (try (go_region;all_goals go_wp2_with fail))
    all_goals go_ret
    all_goals exact ⟨by rw [HE.out];rfl,HBAD.out 10 _ HE.out (by decide) (HX3.out.trans (by repeat (first|exact Ex.refl _|refine Ex.alloc ?_ _|refine Ex.ext ?_ _ _|refine Ex.drew ?_|refine Ex.drewN ?_ _)))⟩
  have k1b:decide (P bo 1<b.price*qty)=false:=decide_eq_false k1
  have k2b:decide (P so 6<qty)=false:=decide_eq_false k2
  have w3:IntKind.i64.wrap (P bo 3+qty)=P bo 3+qty:=IntWalk.i64_in _ (by omega)
  have w4:IntKind.i64.wrap (P so 0+price*qty)=P so 0+price*qty:=IntWalk.i64_in _ (by omega)
  have w5:IntKind.i64.wrap (P bo 1 - b.price*qty)=P bo 1 - b.price*qty:=IntWalk.i64_in _ (by omega)
  have w6:IntKind.i64.wrap (P bo 0 - price*qty)=P bo 0 - price*qty:=IntWalk.i64_in _ (by omega)
  rw [if_neg (by omega)] at HE
  by_cases hne:bo=so
  · as_aux_lemma =>
    subst hne
    rw [if_neg (by omega)] at HE
    have n1:((bo:Int) != (bo:Int))=false:=by simp
    go_upto_region 20 with fail
    obtain ⟨t,hrow3⟩:=HP3.out.prow
    have hKa:Kp own 1 i w W3:=Kp.of_below HX3.out.below
    refine wp_world (R:=fun W=>HasBox hb (P bo 0 - price*qty) (P bo 1 - b.price*qty) (P bo 2) (P bo 3+qty) (P bo 4) (P bo 5) (P bo 6) (P bo 7) W∧HasBox hs (P bo 0) (P bo 1) (P bo 2) (P bo 3) (P bo 4) (P bo 5) (P bo 6) (P bo 7) W∧BoxTwo nb ns b s W∧PRow W p t P∧Kp own 1 i w W) ⟨(by repeat (first|(with_reducible exact HH3.out)|(with_reducible refine HasBox.drew ?_)|(with_reducible apply HasBox.set0)|(with_reducible apply HasBox.set1)|(with_reducible apply HasBox.set2)|(with_reducible apply HasBox.set3)|(with_reducible apply HasBox.set4)|(with_reducible apply HasBox.set5)|(with_reducible apply HasBox.set6)|(with_reducible apply HasBox.set7))),(by repeat (first|(with_reducible exact HG3.out)|(with_reducible refine HasBox.drew ?_)|(with_reducible refine HasBox.other ?_ (Ne.symm hbs) _ _))),(by repeat (first|(with_reducible exact HB3.out)|(with_reducible refine BoxTwo.drewB ?_)|(with_reducible refine BoxTwo.other ?_ hnb1 hns1 _ _))),(by repeat (first|(with_reducible exact hrow3)|(with_reducible refine PRow.drewP ?_)|(with_reducible refine PRow.other ?_ (Ne.symm hpb) _ _))),(by repeat (first|(with_reducible exact hKa)|(with_reducible refine Kp.drew ?_)|(with_reducible refine Kp.setCell ?_ (hbw _) _)))⟩ ?_
    clear x0 x1 x2 x3 x4 x5 x6 x7 y0 y1 y2 y3 y4 y5 y6 y7 a0 a1 a2 a3 a4 b0 b1 b2 b3 b4 hfb hfs HH3 HG3 HB3 hrow3 hKa HX3 HP3 hz3 hl1 hl2
    rintro W4 ⟨hh4,hg4,hb4,hrow4,hK4⟩
    have HG4:=Lib.hid hg4
    have HB4:=Lib.hid hb4
    have HR4:=Lib.hid hrow4
    have HK4:=Lib.hid hK4
    have HH4:Hid (Held8 own i w hs _ _ _ _ _ _ _ _ nb ns b s p t P W4):=Lib.hid ⟨hg4,hb4,hrow4,hK4⟩
    obtain ⟨x0,x1,x2,x3,x4,x5,x6,x7⟩:=hh4.cells
    obtain ⟨a0,a1,a2,a3,a4,b0,b1,b2,b3,b4⟩:=boxTwoS hb4
    rw [hbo] at a1
    have q0:=PRow.cell hrow4 hbo6 (j:=0) (by omega)
    have q1:=PRow.cell hrow4 hbo6 (j:=1) (by omega)
    have q2:=PRow.cell hrow4 hbo6 (j:=2) (by omega)
    have q3:=PRow.cell hrow4 hbo6 (j:=3) (by omega)
    have q4:=PRow.cell hrow4 hbo6 (j:=4) (by omega)
    have q5:=PRow.cell hrow4 hbo6 (j:=5) (by omega)
    have q6:=PRow.cell hrow4 hbo6 (j:=6) (by omega)
    have q7:=PRow.cell hrow4 hbo6 (j:=7) (by omega)
    simp only [Nat.add_zero] at q0
    have hpl4:=hrow4.lt
    have hpf:=fun j=>World.rowIs.frozen hrow4 j
    clear hh4 hg4 hb4 hrow4 hK4 a0 a2 a3 a4 b0 b1 b2 b3 b4
    clear q0 q1 q2 q3 q4 q5 q6 q7
    obtain ⟨P1,hP1⟩:∃ P1:Pu,P1=P.put bo (vec8 (P bo 0 - price*qty) (P bo 1 - b.price*qty) (P bo 2) (P bo 3+qty) (P bo 4) (P bo 5) (P bo 6) (P bo 7)):=⟨_,rfl⟩
    go_cut [0,1,4,5,8,9,14,15] (fun v0 v1 v4 v5 v8 v9 v14 v15 wx=>v0=.pointer (some ⟨p,0,none⟩)∧v1=.int .i64 1∧v4=.int .i64 price∧v5=.int .i64 qty∧v8=.pointer (some ⟨nb,0,none⟩)∧v9=.pointer (some ⟨ns,0,none⟩)∧v14=.pointer (some ⟨hb,0,none⟩)∧v15=.pointer (some ⟨hs,0,none⟩)∧(HasBox hs (P bo 0) (P bo 1) (P bo 2) (P bo 3) (P bo 4) (P bo 5) (P bo 6) (P bo 7) wx∧BoxTwo nb ns b s wx∧PRow wx p t P1∧Kp own 1 i w wx))
    case first =>
      refine wp_region_any (by kernel_rfl) ?_
      (try (change wpAny _ _ _ _ _ _ _ (World.drew _)))
      refine wpAny_take (i:=0) (v:=?_) rfl (by kernel_rfl) (by kernel_rfl) (by kernel_rfl) (fun _ _ _ h=>h) (Or.inl ⟨by rfl,?_⟩) ?_
      rotate_left
      focus (intro w;go_simp;(try with_reducible rfl))
      (try simp only [Act.put,List.setIfInBounds_toArray,List.set_cons_zero,List.set_cons_succ])
      refine wpAny_take (i:=1) (v:=?_) rfl (by kernel_rfl) (by kernel_rfl) (by kernel_rfl) (fun _ _ _ h=>h) (Or.inl ⟨by rfl,?_⟩) ?_
      rotate_left
      focus (intro w;go_simp;(try with_reducible rfl))
      (try simp only [Act.put,List.setIfInBounds_toArray,List.set_cons_zero,List.set_cons_succ])
      refine wpAny_take (i:=4) (v:=?_) rfl (by kernel_rfl) (by kernel_rfl) (by kernel_rfl) (fun _ _ _ h=>h) (Or.inl ⟨by rfl,?_⟩) ?_
      rotate_left
      focus (intro w;go_simp;(try with_reducible rfl))
      (try simp only [Act.put,List.setIfInBounds_toArray,List.set_cons_zero,List.set_cons_succ])
      refine wpAny_take (i:=5) (v:=?_) rfl (by kernel_rfl) (by kernel_rfl) (by kernel_rfl) (fun _ _ _ h=>h) (Or.inl ⟨by rfl,?_⟩) ?_
      rotate_left
      focus (intro w;go_simp;(try with_reducible rfl))
      (try simp only [Act.put,List.setIfInBounds_toArray,List.set_cons_zero,List.set_cons_succ])
      refine wpAny_ready (rs:=[2,3]) (by kernel_rfl) (by simp) (AllReady.cons rfl (fun K hK=>?_) (AllReady.cons rfl (fun K hK=>?_) AllReady.nil))
      focus
        go_simp
        refine hK _ _ ?_
        clear hK K
        refine wpAny_ready (rs:=[3]) (by kernel_rfl) (by simp) (AllReady.cons rfl (fun K hK=>?_) AllReady.nil)
        go_simp
        refine hK _ _ ?_
        clear hK K
        refine wpAny_take (i:=6) (v:=?_) rfl (by kernel_rfl) (by kernel_rfl) (by kernel_rfl) (fun _ _ _ h=>h) (Or.inl ⟨by rfl,?_⟩) ?_
        rotate_left
        focus (intro w;go_simp;(try with_reducible rfl))
        (try simp only [Act.put,List.setIfInBounds_toArray,List.set_cons_zero,List.set_cons_succ])
        refine wpAny_ready (rs:=[7]) (by kernel_rfl) (by simp) (AllReady.cons rfl (fun K hK=>?_) AllReady.nil)
        refine step_store8h rfl 86 (.tmp 148) (.tmp 145) rfl (by first|exact HH4.out|exact Held8.drew HH4.out) H.out.1 (Ne.symm hph) hnb3 hns3 bo rfl (P bo 0 - price*qty) (P bo 1 - b.price*qty) (P bo 2) (P bo 3+qty) (P bo 4) (P bo 5) (P bo 6) (P bo 7) rfl hbo6 (by kernel_rfl) ?_
        intro W9 hh9
        (try go_simp)
        refine hK _ _ ?_
        clear hK K
        refine wpAny_done (by kernel_rfl) ?_ _
      rotate_left
      focus
        go_simp
        refine hK _ _ ?_
        clear hK K
        refine wpAny_ready (rs:=[2]) (by kernel_rfl) (by simp) (AllReady.cons rfl (fun K hK=>?_) AllReady.nil)
        go_simp
        refine hK _ _ ?_
        clear hK K
        refine wpAny_take (i:=6) (v:=?_) rfl (by kernel_rfl) (by kernel_rfl) (by kernel_rfl) (fun _ _ _ h=>h) (Or.inl ⟨by rfl,?_⟩) ?_
        rotate_left
        focus (intro w;go_simp;(try with_reducible rfl))
        (try simp only [Act.put,List.setIfInBounds_toArray,List.set_cons_zero,List.set_cons_succ])
        refine wpAny_ready (rs:=[7]) (by kernel_rfl) (by simp) (AllReady.cons rfl (fun K hK=>?_) AllReady.nil)
        refine step_store8h rfl 86 (.tmp 148) (.tmp 145) rfl (by first|exact HH4.out|exact Held8.drew HH4.out) H.out.1 (Ne.symm hph) hnb3 hns3 bo rfl (P bo 0 - price*qty) (P bo 1 - b.price*qty) (P bo 2) (P bo 3+qty) (P bo 4) (P bo 5) (P bo 6) (P bo 7) rfl hbo6 (by kernel_rfl) ?_
        intro W9 hh9
        (try go_simp)
        refine hK _ _ ?_
        clear hK K
        refine wpAny_done (by kernel_rfl) ?_ _
      rotate_left
      all_goals go_wp2_with fail
      all_goals
        go_meet
        case rel =>
          refine ⟨rfl,rfl,rfl,rfl,rfl,rfl,rfl,rfl,?_⟩
          rw [hP1]
          exact hh9
    case rest =>
      obtain ⟨rfl,rfl,rfl,rfl,rfl,rfl,rfl,rfl,hg5,hb5,hrow5,hK5⟩:=hcut
      clear x0 x1 x2 x3 x4 x5 x6 x7 a1 hpl4 hpf HG4 HB4 HR4 HK4
      generalize wc=W5 at *
      have HG5:=Lib.hid hg5
      have HB5:=Lib.hid hb5
      have HR5:=Lib.hid hrow5
      have HK5:=Lib.hid hK5
      have HH5:Hid (Held8 own i w hs _ _ _ _ _ _ _ _ nb ns b s p t P1 W5):=Lib.hid ⟨hg5,hb5,hrow5,hK5⟩
      have hfs:=hg5.frozen
      obtain ⟨g0,g1,g2,g3,g4,g5,g6,g7⟩:=hg5.cells
      have hsl:=hg5.lt
      obtain ⟨a0,a1,a2,a3,a4,b0,b1,b2,b3,b4⟩:=boxTwoS hb5
      rw [hso] at b1
      have y0:=PRow.cell hrow5 hso6 (j:=0) (by omega)
      have y1:=PRow.cell hrow5 hso6 (j:=1) (by omega)
      have y2:=PRow.cell hrow5 hso6 (j:=2) (by omega)
      have y3:=PRow.cell hrow5 hso6 (j:=3) (by omega)
      have y4:=PRow.cell hrow5 hso6 (j:=4) (by omega)
      have y5:=PRow.cell hrow5 hso6 (j:=5) (by omega)
      have y6:=PRow.cell hrow5 hso6 (j:=6) (by omega)
      have y7:=PRow.cell hrow5 hso6 (j:=7) (by omega)
      simp only [Nat.add_zero] at y0
      have e0:P1 bo 0=P bo 0 - price*qty:=by rw [hP1];simp [Pu.put,vec8]
      have e2:P1 bo 3=P bo 3+qty:=by rw [hP1];simp [Pu.put,vec8]
      have e5:P1 bo 6=P bo 6:=by rw [hP1];simp [Pu.put,vec8]
      have w7:IntKind.i64.wrap (P1 bo 6 - qty)=P1 bo 6 - qty:=IntWalk.i64_in _ (by rw [e5];omega)
      have w8:IntKind.i64.wrap (P1 bo 3 - qty)=P1 bo 3 - qty:=IntWalk.i64_in _ (by rw [e2];omega)
      have w9:IntKind.i64.wrap (P1 bo 0+price*qty)=P1 bo 0+price*qty:=IntWalk.i64_in _ (by rw [e0];omega)
      have HP1:=Lib.hid hP1
      have hpl5:=hrow5.lt
      clear e0 e2 e5 hP1 hg5 hb5 hrow5 hK5 a0 a1 a2 b0 b2
      go_upto_region 21 with fail
      refine wp_region_any (by kernel_rfl) ?_
      (try (change wpAny _ _ _ _ _ _ _ (World.drew _)))
      refine wpAny_take (i:=0) (v:=?_) rfl (by kernel_rfl) (by kernel_rfl) (by kernel_rfl) (fun _ _ _ h=>h) (Or.inl ⟨by rfl,?_⟩) ?_
      rotate_left
      focus (intro w;go_simp;(try with_reducible rfl))
      (try simp only [Act.put,List.setIfInBounds_toArray,List.set_cons_zero,List.set_cons_succ])
      refine wpAny_take (i:=1) (v:=?_) rfl (by kernel_rfl) (by kernel_rfl) (by kernel_rfl) (fun _ _ _ h=>h) (Or.inl ⟨by rfl,?_⟩) ?_
      rotate_left
      focus (intro w;go_simp;(try with_reducible rfl))
      (try simp only [Act.put,List.setIfInBounds_toArray,List.set_cons_zero,List.set_cons_succ])
      refine wpAny_take (i:=3) (v:=?_) rfl (by kernel_rfl) (by kernel_rfl) (by kernel_rfl) (fun _ _ _ h=>h) (Or.inl ⟨by rfl,?_⟩) ?_
      rotate_left
      focus (intro w;go_simp;(try with_reducible rfl))
      (try simp only [Act.put,List.setIfInBounds_toArray,List.set_cons_zero,List.set_cons_succ])
      refine wpAny_take (i:=4) (v:=?_) rfl (by kernel_rfl) (by kernel_rfl) (by kernel_rfl) (fun _ _ _ h=>h) (Or.inl ⟨by rfl,?_⟩) ?_
      rotate_left
      focus (intro w;go_simp;(try with_reducible rfl))
      (try simp only [Act.put,List.setIfInBounds_toArray,List.set_cons_zero,List.set_cons_succ])
      refine wpAny_ready (rs:=[2]) (by kernel_rfl) (by simp) (AllReady.cons rfl (fun K hK=>?_) AllReady.nil)
      go_simp
      refine hK _ _ ?_
      clear hK K
      refine wpAny_take (i:=5) (v:=?_) rfl (by kernel_rfl) (by kernel_rfl) (by kernel_rfl) (fun _ _ _ h=>h) (Or.inl ⟨by rfl,?_⟩) ?_
      rotate_left
      focus (intro w;go_simp;(try with_reducible rfl))
      (try simp only [Act.put,List.setIfInBounds_toArray,List.set_cons_zero,List.set_cons_succ])
      refine wpAny_ready (rs:=[6]) (by kernel_rfl) (by simp) (AllReady.cons rfl (fun K hK=>?_) AllReady.nil)
      go_simp
      refine hK _ _ ?_
      clear hK K
      refine wpAny_ready (rs:=[7]) (by kernel_rfl) (by simp) (AllReady.cons rfl (fun K hK=>?_) AllReady.nil)
      refine step_has8 rfl 86 (.tmp 15) (.tmp 155) rfl (by first|exact HH5.out|exact Held8.drew HH5.out) hph hnb2 hns2 (by omega) rfl (P1 bo 0) (P1 bo 1) (P1 bo 2) (P1 bo 3) (P1 bo 4) (P1 bo 5) (P1 bo 6) (P1 bo 7) rfl (by kernel_rfl) ?_
      intro W8 hh8
      (try go_simp)
      refine hK _ _ ?_
      clear hK K
      refine wpAny_done (by kernel_rfl) ?_ _
      obtain ⟨hg8,hb8,hrow8,hK8⟩:=hh8
      have HG5:=Lib.hid hg8
      have HB5:=Lib.hid hb8
      have HR5:=Lib.hid hrow8
      have HK5:=Lib.hid hK8
      have hfs:=hg8.frozen
      obtain ⟨g0,g1,g2,g3,g4,g5,g6,g7⟩:=hg8.cells
      have hsl:=hg8.lt
      obtain ⟨a0,a1,a2,a3,a4,b0,b1,b2,b3,b4⟩:=boxTwoS hb8
      have hpl5:=hrow8.lt
      clear hg8 hb8 hrow8 hK8 a0 a1 a2 b0 b2
      go_upto_region 25 with fail
      refine wp_world (R:=fun W=>HasBox hs (P1 bo 0+price*qty) (P1 bo 1) (P1 bo 2) (P1 bo 3 - qty) (P1 bo 4) (P1 bo 5) (P1 bo 6 - qty) (P1 bo 7) W∧BoxTwo nb ns b s W∧PRow W p t P1∧Kp own 1 i w W) ⟨(by repeat (first|(with_reducible exact HG5.out)|(with_reducible refine HasBox.drew ?_)|(with_reducible apply HasBox.set0)|(with_reducible apply HasBox.set1)|(with_reducible apply HasBox.set2)|(with_reducible apply HasBox.set3)|(with_reducible apply HasBox.set4)|(with_reducible apply HasBox.set5)|(with_reducible apply HasBox.set6)|(with_reducible apply HasBox.set7))),(by repeat (first|(with_reducible exact HB5.out)|(with_reducible refine BoxTwo.drewB ?_)|(with_reducible refine BoxTwo.other ?_ hnb2 hns2 _ _))),(by repeat (first|(with_reducible exact HR5.out)|(with_reducible refine PRow.drewP ?_)|(with_reducible refine PRow.other ?_ (Ne.symm hph) _ _))),(by repeat (first|(with_reducible exact HK5.out)|(with_reducible refine Kp.drew ?_)|(with_reducible refine Kp.setCell ?_ (hsw _) _)))⟩ ?_
      clear g0 g1 g2 g3 g4 g5 g6 g7 y0 y1 y2 y3 y4 y5 y6 y7 a3 a4 b1 b3 b4 hfs HG5 HB5 HR5 HK5 hpl5 hsl
      rintro W6 ⟨hg6,hb6,hrow6,hK6⟩
      have HR6:=Lib.hid hrow6
      have HK6:=Lib.hid hK6
      have HH6:Hid (Held8 own i w hs _ _ _ _ _ _ _ _ nb ns b s p t P1 W6):=Lib.hid ⟨hg6,hb6,hrow6,hK6⟩
      obtain ⟨x0,x1,x2,x3,x4,x5,x6,x7⟩:=hg6.cells
      obtain ⟨a0,a1,a2,a3,a4,b0,b1,b2,b3,b4⟩:=boxTwoS hb6
      rw [hso] at b1
      have q0:=PRow.cell hrow6 hso6 (j:=0) (by omega)
      have q1:=PRow.cell hrow6 hso6 (j:=1) (by omega)
      have q2:=PRow.cell hrow6 hso6 (j:=2) (by omega)
      have q3:=PRow.cell hrow6 hso6 (j:=3) (by omega)
      have q4:=PRow.cell hrow6 hso6 (j:=4) (by omega)
      have q5:=PRow.cell hrow6 hso6 (j:=5) (by omega)
      have q6:=PRow.cell hrow6 hso6 (j:=6) (by omega)
      have q7:=PRow.cell hrow6 hso6 (j:=7) (by omega)
      simp only [Nat.add_zero] at q0
      have hpl6:=hrow6.lt
      have hpf:=fun j=>World.rowIs.frozen hrow6 j
      clear hg6 hb6 hrow6 hK6 a0 a1 a2 a3 a4 b0 b2 b3 b4
      clear q0 q1 q2 q3 q4 q5 q6 q7
      refine wp_region_any (by kernel_rfl) ?_
      (try (change wpAny _ _ _ _ _ _ _ (World.drew _)))
      refine wpAny_take (i:=0) (v:=?_) rfl (by kernel_rfl) (by kernel_rfl) (by kernel_rfl) (fun _ _ _ h=>h) (Or.inl ⟨by rfl,?_⟩) ?_
      rotate_left
      focus (intro w;go_simp;(try with_reducible rfl))
      (try simp only [Act.put,List.setIfInBounds_toArray,List.set_cons_zero,List.set_cons_succ])
      refine wpAny_take (i:=1) (v:=?_) rfl (by kernel_rfl) (by kernel_rfl) (by kernel_rfl) (fun _ _ _ h=>h) (Or.inl ⟨by rfl,?_⟩) ?_
      rotate_left
      focus (intro w;go_simp;(try with_reducible rfl))
      (try simp only [Act.put,List.setIfInBounds_toArray,List.set_cons_zero,List.set_cons_succ])
      refine wpAny_take (i:=4) (v:=?_) rfl (by kernel_rfl) (by kernel_rfl) (by kernel_rfl) (fun _ _ _ h=>h) (Or.inl ⟨by rfl,?_⟩) ?_
      rotate_left
      focus (intro w;go_simp;(try with_reducible rfl))
      (try simp only [Act.put,List.setIfInBounds_toArray,List.set_cons_zero,List.set_cons_succ])
      refine wpAny_take (i:=5) (v:=?_) rfl (by kernel_rfl) (by kernel_rfl) (by kernel_rfl) (fun _ _ _ h=>h) (Or.inl ⟨by rfl,?_⟩) ?_
      rotate_left
      focus (intro w;go_simp;(try with_reducible rfl))
      (try simp only [Act.put,List.setIfInBounds_toArray,List.set_cons_zero,List.set_cons_succ])
      refine wpAny_ready (rs:=[2,3]) (by kernel_rfl) (by simp) (AllReady.cons rfl (fun K hK=>?_) (AllReady.cons rfl (fun K hK=>?_) AllReady.nil))
      focus
        go_simp
        refine hK _ _ ?_
        clear hK K
        refine wpAny_ready (rs:=[3]) (by kernel_rfl) (by simp) (AllReady.cons rfl (fun K hK=>?_) AllReady.nil)
        go_simp
        refine hK _ _ ?_
        clear hK K
        refine wpAny_take (i:=6) (v:=?_) rfl (by kernel_rfl) (by kernel_rfl) (by kernel_rfl) (fun _ _ _ h=>h) (Or.inl ⟨by rfl,?_⟩) ?_
        rotate_left
        focus (intro w;go_simp;(try with_reducible rfl))
        (try simp only [Act.put,List.setIfInBounds_toArray,List.set_cons_zero,List.set_cons_succ])
        refine wpAny_ready (rs:=[7]) (by kernel_rfl) (by simp) (AllReady.cons rfl (fun K hK=>?_) AllReady.nil)
        refine step_store8h rfl 86 (.tmp 187) (.tmp 184) rfl (by first|exact HH6.out|exact Held8.drew HH6.out) H.out.1 (Ne.symm hph) hnb3 hns3 bo rfl (P1 bo 0+price*qty) (P1 bo 1) ((P1 bo 2)) ((P1 bo 3 - qty)) ((P1 bo 4)) ((P1 bo 5)) ((P1 bo 6 - qty)) ((P1 bo 7)) rfl hso6 (by kernel_rfl) ?_
        intro W9 hh9
        (try go_simp)
        refine hK _ _ ?_
        clear hK K
        refine wpAny_done (by kernel_rfl) ?_ _
      rotate_left
      focus
        go_simp
        refine hK _ _ ?_
        clear hK K
        refine wpAny_ready (rs:=[2]) (by kernel_rfl) (by simp) (AllReady.cons rfl (fun K hK=>?_) AllReady.nil)
        go_simp
        refine hK _ _ ?_
        clear hK K
        refine wpAny_take (i:=6) (v:=?_) rfl (by kernel_rfl) (by kernel_rfl) (by kernel_rfl) (fun _ _ _ h=>h) (Or.inl ⟨by rfl,?_⟩) ?_
        rotate_left
        focus (intro w;go_simp;(try with_reducible rfl))
        (try simp only [Act.put,List.setIfInBounds_toArray,List.set_cons_zero,List.set_cons_succ])
        refine wpAny_ready (rs:=[7]) (by kernel_rfl) (by simp) (AllReady.cons rfl (fun K hK=>?_) AllReady.nil)
        refine step_store8h rfl 86 (.tmp 187) (.tmp 184) rfl (by first|exact HH6.out|exact Held8.drew HH6.out) H.out.1 (Ne.symm hph) hnb3 hns3 bo rfl (P1 bo 0+price*qty) (P1 bo 1) ((P1 bo 2)) ((P1 bo 3 - qty)) ((P1 bo 4)) ((P1 bo 5)) ((P1 bo 6 - qty)) ((P1 bo 7)) rfl hso6 (by kernel_rfl) ?_
        intro W9 hh9
        (try go_simp)
        refine hK _ _ ?_
        clear hK K
        refine wpAny_done (by kernel_rfl) ?_ _
      rotate_left
      all_goals go_wp2_with fail
      all_goals go_ret
      all_goals
        refine ⟨by rw [HE.out];rfl,?_⟩
        refine mput_end hh9.2.2.1 hh9.2.2.2 H.out.1 HQ.out (fun d k hk=>?_) ?_
        · rw [trade_heq1 P P1 bo bo (b.price*qty) (price*qty) qty HP1.out d k hk]
          unfold tradeQ
          rw [if_pos HE.out,tb,ts,show Int.toNat 1=1 from rfl]
        · exact (by repeat (first|exact Ex.refl _|refine Ex.alloc ?_ _|refine Ex.ext ?_ _ _|refine Ex.drew ?_|refine Ex.drewN ?_ _))
  · have n1:((bo:Int) != (so:Int))=true:=by simp;omega
    have n2:((bo:Int)==(so:Int))=false:=by simp;omega
    by_cases k3:1073741824 - P bo 3<qty
    · as_aux_lemma =>
      rw [if_pos ⟨hne,.inl k3⟩] at HE
      go_wp2_with fail
      all_goals (try (go_region;all_goals go_wp2_with fail))
      all_goals (try (go_region;all_goals go_wp2_with fail))
      all_goals (try (go_region;all_goals go_wp2_with fail))
      all_goals go_ret
      all_goals exact ⟨by rw [HE.out];rfl,HBAD.out 8 _ HE.out (by decide) (HX3.out.trans (by repeat (first|exact Ex.refl _|refine Ex.alloc ?_ _|refine Ex.ext ?_ _ _|refine Ex.drew ?_|refine Ex.drewN ?_ _)))⟩
    by_cases k4:1099511627776 - P so 0<price*qty
    · as_aux_lemma =>
      rw [if_pos ⟨hne,.inr k4⟩] at HE
      go_wp2_with fail
      all_goals (try (go_region;all_goals go_wp2_with fail))
      all_goals (try (go_region;all_goals go_wp2_with fail))
      all_goals (try (go_region;all_goals go_wp2_with fail))
      all_goals go_ret
      all_goals exact ⟨by rw [HE.out];rfl,HBAD.out 8 _ HE.out (by decide) (HX3.out.trans (by repeat (first|exact Ex.refl _|refine Ex.alloc ?_ _|refine Ex.ext ?_ _ _|refine Ex.drew ?_|refine Ex.drewN ?_ _)))⟩
    rw [if_neg (by omega)] at HE
    have k3b:decide (1073741824<P bo 3+qty)=false:=decide_eq_false (by omega)
    have k4b:decide (1099511627776<P so 0+price*qty)=false:=decide_eq_false (by omega)
    as_aux_lemma =>
    go_upto_region 20 with fail
    obtain ⟨t,hrow3⟩:=HP3.out.prow
    have hKa:Kp own 1 i w W3:=Kp.of_below HX3.out.below
    refine wp_world (R:=fun W=>HasBox hb (P bo 0 - price*qty) (P bo 1 - b.price*qty) (P bo 2) (P bo 3+qty) (P bo 4) (P bo 5) (P bo 6) (P bo 7) W∧HasBox hs (P so 0) (P so 1) (P so 2) (P so 3) (P so 4) (P so 5) (P so 6) (P so 7) W∧BoxTwo nb ns b s W∧PRow W p t P∧Kp own 1 i w W) ⟨(by repeat (first|(with_reducible exact HH3.out)|(with_reducible refine HasBox.drew ?_)|(with_reducible apply HasBox.set0)|(with_reducible apply HasBox.set1)|(with_reducible apply HasBox.set2)|(with_reducible apply HasBox.set3)|(with_reducible apply HasBox.set4)|(with_reducible apply HasBox.set5)|(with_reducible apply HasBox.set6)|(with_reducible apply HasBox.set7))),(by repeat (first|(with_reducible exact HG3.out)|(with_reducible refine HasBox.drew ?_)|(with_reducible refine HasBox.other ?_ (Ne.symm hbs) _ _))),(by repeat (first|(with_reducible exact HB3.out)|(with_reducible refine BoxTwo.drewB ?_)|(with_reducible refine BoxTwo.other ?_ hnb1 hns1 _ _))),(by repeat (first|(with_reducible exact hrow3)|(with_reducible refine PRow.drewP ?_)|(with_reducible refine PRow.other ?_ (Ne.symm hpb) _ _))),(by repeat (first|(with_reducible exact hKa)|(with_reducible refine Kp.drew ?_)|(with_reducible refine Kp.setCell ?_ (hbw _) _)))⟩ ?_
    clear x0 x1 x2 x3 x4 x5 x6 x7 y0 y1 y2 y3 y4 y5 y6 y7 a0 a1 a2 a3 a4 b0 b1 b2 b3 b4 hfb hfs HH3 HG3 HB3 hrow3 hKa HX3 HP3 hz3 hl1 hl2
    rintro W4 ⟨hh4,hg4,hb4,hrow4,hK4⟩
    have HG4:=Lib.hid hg4
    have HB4:=Lib.hid hb4
    have HR4:=Lib.hid hrow4
    have HK4:=Lib.hid hK4
    have HH4:Hid (Held8 own i w hs _ _ _ _ _ _ _ _ nb ns b s p t P W4):=Lib.hid ⟨hg4,hb4,hrow4,hK4⟩
    obtain ⟨x0,x1,x2,x3,x4,x5,x6,x7⟩:=hh4.cells
    obtain ⟨a0,a1,a2,a3,a4,b0,b1,b2,b3,b4⟩:=boxTwoS hb4
    rw [hbo] at a1
    have q0:=PRow.cell hrow4 hbo6 (j:=0) (by omega)
    have q1:=PRow.cell hrow4 hbo6 (j:=1) (by omega)
    have q2:=PRow.cell hrow4 hbo6 (j:=2) (by omega)
    have q3:=PRow.cell hrow4 hbo6 (j:=3) (by omega)
    have q4:=PRow.cell hrow4 hbo6 (j:=4) (by omega)
    have q5:=PRow.cell hrow4 hbo6 (j:=5) (by omega)
    have q6:=PRow.cell hrow4 hbo6 (j:=6) (by omega)
    have q7:=PRow.cell hrow4 hbo6 (j:=7) (by omega)
    simp only [Nat.add_zero] at q0
    have hpl4:=hrow4.lt
    have hpf:=fun j=>World.rowIs.frozen hrow4 j
    clear hh4 hg4 hb4 hrow4 hK4 a0 a2 a3 a4 b0 b1 b2 b3 b4
    clear q0 q1 q2 q3 q4 q5 q6 q7
    obtain ⟨P1,hP1⟩:∃ P1:Pu,P1=P.put bo (vec8 (P bo 0 - price*qty) (P bo 1 - b.price*qty) (P bo 2) (P bo 3+qty) (P bo 4) (P bo 5) (P bo 6) (P bo 7)):=⟨_,rfl⟩
    go_cut [0,1,4,5,8,9,14,15] (fun v0 v1 v4 v5 v8 v9 v14 v15 wx=>v0=.pointer (some ⟨p,0,none⟩)∧v1=.int .i64 1∧v4=.int .i64 price∧v5=.int .i64 qty∧v8=.pointer (some ⟨nb,0,none⟩)∧v9=.pointer (some ⟨ns,0,none⟩)∧v14=.pointer (some ⟨hb,0,none⟩)∧v15=.pointer (some ⟨hs,0,none⟩)∧(HasBox hs (P so 0) (P so 1) (P so 2) (P so 3) (P so 4) (P so 5) (P so 6) (P so 7) wx∧BoxTwo nb ns b s wx∧PRow wx p t P1∧Kp own 1 i w wx))
    case first =>
      refine wp_region_any (by kernel_rfl) ?_
      (try (change wpAny _ _ _ _ _ _ _ (World.drew _)))
      refine wpAny_take (i:=0) (v:=?_) rfl (by kernel_rfl) (by kernel_rfl) (by kernel_rfl) (fun _ _ _ h=>h) (Or.inl ⟨by rfl,?_⟩) ?_
      rotate_left
      focus (intro w;go_simp;(try with_reducible rfl))
      (try simp only [Act.put,List.setIfInBounds_toArray,List.set_cons_zero,List.set_cons_succ])
      refine wpAny_take (i:=1) (v:=?_) rfl (by kernel_rfl) (by kernel_rfl) (by kernel_rfl) (fun _ _ _ h=>h) (Or.inl ⟨by rfl,?_⟩) ?_
      rotate_left
      focus (intro w;go_simp;(try with_reducible rfl))
      (try simp only [Act.put,List.setIfInBounds_toArray,List.set_cons_zero,List.set_cons_succ])
      refine wpAny_take (i:=4) (v:=?_) rfl (by kernel_rfl) (by kernel_rfl) (by kernel_rfl) (fun _ _ _ h=>h) (Or.inl ⟨by rfl,?_⟩) ?_
      rotate_left
      focus (intro w;go_simp;(try with_reducible rfl))
      (try simp only [Act.put,List.setIfInBounds_toArray,List.set_cons_zero,List.set_cons_succ])
      refine wpAny_take (i:=5) (v:=?_) rfl (by kernel_rfl) (by kernel_rfl) (by kernel_rfl) (fun _ _ _ h=>h) (Or.inl ⟨by rfl,?_⟩) ?_
      rotate_left
      focus (intro w;go_simp;(try with_reducible rfl))
      (try simp only [Act.put,List.setIfInBounds_toArray,List.set_cons_zero,List.set_cons_succ])
      refine wpAny_ready (rs:=[2,3]) (by kernel_rfl) (by simp) (AllReady.cons rfl (fun K hK=>?_) (AllReady.cons rfl (fun K hK=>?_) AllReady.nil))
      focus
        go_simp
        refine hK _ _ ?_
        clear hK K
        refine wpAny_ready (rs:=[3]) (by kernel_rfl) (by simp) (AllReady.cons rfl (fun K hK=>?_) AllReady.nil)
        go_simp
        refine hK _ _ ?_
        clear hK K
        refine wpAny_take (i:=6) (v:=?_) rfl (by kernel_rfl) (by kernel_rfl) (by kernel_rfl) (fun _ _ _ h=>h) (Or.inl ⟨by rfl,?_⟩) ?_
        rotate_left
        focus (intro w;go_simp;(try with_reducible rfl))
        (try simp only [Act.put,List.setIfInBounds_toArray,List.set_cons_zero,List.set_cons_succ])
        refine wpAny_ready (rs:=[7]) (by kernel_rfl) (by simp) (AllReady.cons rfl (fun K hK=>?_) AllReady.nil)
        refine step_store8h rfl 86 (.tmp 148) (.tmp 145) rfl (by first|exact HH4.out|exact Held8.drew HH4.out) H.out.1 (Ne.symm hph) hnb3 hns3 bo rfl (P bo 0 - price*qty) (P bo 1 - b.price*qty) (P bo 2) (P bo 3+qty) (P bo 4) (P bo 5) (P bo 6) (P bo 7) rfl hbo6 (by kernel_rfl) ?_
        intro W9 hh9
        (try go_simp)
        refine hK _ _ ?_
        clear hK K
        refine wpAny_done (by kernel_rfl) ?_ _
      rotate_left
      focus
        go_simp
        refine hK _ _ ?_
        clear hK K
        refine wpAny_ready (rs:=[2]) (by kernel_rfl) (by simp) (AllReady.cons rfl (fun K hK=>?_) AllReady.nil)
        go_simp
        refine hK _ _ ?_
        clear hK K
        refine wpAny_take (i:=6) (v:=?_) rfl (by kernel_rfl) (by kernel_rfl) (by kernel_rfl) (fun _ _ _ h=>h) (Or.inl ⟨by rfl,?_⟩) ?_
        rotate_left
        focus (intro w;go_simp;(try with_reducible rfl))
        (try simp only [Act.put,List.setIfInBounds_toArray,List.set_cons_zero,List.set_cons_succ])
        refine wpAny_ready (rs:=[7]) (by kernel_rfl) (by simp) (AllReady.cons rfl (fun K hK=>?_) AllReady.nil)
        refine step_store8h rfl 86 (.tmp 148) (.tmp 145) rfl (by first|exact HH4.out|exact Held8.drew HH4.out) H.out.1 (Ne.symm hph) hnb3 hns3 bo rfl (P bo 0 - price*qty) (P bo 1 - b.price*qty) (P bo 2) (P bo 3+qty) (P bo 4) (P bo 5) (P bo 6) (P bo 7) rfl hbo6 (by kernel_rfl) ?_
        intro W9 hh9
        (try go_simp)
        refine hK _ _ ?_
        clear hK K
        refine wpAny_done (by kernel_rfl) ?_ _
      rotate_left
      all_goals go_wp2_with fail
      all_goals
        go_meet
        case rel =>
          refine ⟨rfl,rfl,rfl,rfl,rfl,rfl,rfl,rfl,?_⟩
          rw [hP1]
          exact hh9
    case rest =>
      obtain ⟨rfl,rfl,rfl,rfl,rfl,rfl,rfl,rfl,hg5,hb5,hrow5,hK5⟩:=hcut
      clear x0 x1 x2 x3 x4 x5 x6 x7 a1 hpl4 hpf HG4 HB4 HR4 HK4
      generalize wc=W5 at *
      have HG5:=Lib.hid hg5
      have HB5:=Lib.hid hb5
      have HR5:=Lib.hid hrow5
      have HK5:=Lib.hid hK5
      have HH5:Hid (Held8 own i w hs _ _ _ _ _ _ _ _ nb ns b s p t P1 W5):=Lib.hid ⟨hg5,hb5,hrow5,hK5⟩
      have hfs:=hg5.frozen
      obtain ⟨g0,g1,g2,g3,g4,g5,g6,g7⟩:=hg5.cells
      have hsl:=hg5.lt
      obtain ⟨a0,a1,a2,a3,a4,b0,b1,b2,b3,b4⟩:=boxTwoS hb5
      rw [hso] at b1
      have y0:=PRow.cell hrow5 hso6 (j:=0) (by omega)
      have y1:=PRow.cell hrow5 hso6 (j:=1) (by omega)
      have y2:=PRow.cell hrow5 hso6 (j:=2) (by omega)
      have y3:=PRow.cell hrow5 hso6 (j:=3) (by omega)
      have y4:=PRow.cell hrow5 hso6 (j:=4) (by omega)
      have y5:=PRow.cell hrow5 hso6 (j:=5) (by omega)
      have y6:=PRow.cell hrow5 hso6 (j:=6) (by omega)
      have y7:=PRow.cell hrow5 hso6 (j:=7) (by omega)
      simp only [Nat.add_zero] at y0
      have e0:P1 so 0=P so 0:=by rw [hP1];simp [Pu.put,vec8,Ne.symm hne]
      have e2:P1 so 3=P so 3:=by rw [hP1];simp [Pu.put,vec8,Ne.symm hne]
      have e5:P1 so 6=P so 6:=by rw [hP1];simp [Pu.put,vec8,Ne.symm hne]
      have w7:IntKind.i64.wrap (P1 so 6 - qty)=P1 so 6 - qty:=IntWalk.i64_in _ (by rw [e5];omega)
      have w8:IntKind.i64.wrap (P1 so 3 - qty)=P1 so 3 - qty:=IntWalk.i64_in _ (by rw [e2];omega)
      have w9:IntKind.i64.wrap (P1 so 0+price*qty)=P1 so 0+price*qty:=IntWalk.i64_in _ (by rw [e0];omega)
      have HP1:=Lib.hid hP1
      have hpl5:=hrow5.lt
      clear e0 e2 e5 hP1 hg5 hb5 hrow5 hK5 a0 a1 a2 b0 b2
      go_upto_region 21 with fail
      refine wp_region_any (by kernel_rfl) ?_
      (try (change wpAny _ _ _ _ _ _ _ (World.drew _)))
      refine wpAny_take (i:=0) (v:=?_) rfl (by kernel_rfl) (by kernel_rfl) (by kernel_rfl) (fun _ _ _ h=>h) (Or.inl ⟨by rfl,?_⟩) ?_
      rotate_left
      focus (intro w;go_simp;(try with_reducible rfl))
      (try simp only [Act.put,List.setIfInBounds_toArray,List.set_cons_zero,List.set_cons_succ])
      refine wpAny_take (i:=1) (v:=?_) rfl (by kernel_rfl) (by kernel_rfl) (by kernel_rfl) (fun _ _ _ h=>h) (Or.inl ⟨by rfl,?_⟩) ?_
      rotate_left
      focus (intro w;go_simp;(try with_reducible rfl))
      (try simp only [Act.put,List.setIfInBounds_toArray,List.set_cons_zero,List.set_cons_succ])
      refine wpAny_take (i:=3) (v:=?_) rfl (by kernel_rfl) (by kernel_rfl) (by kernel_rfl) (fun _ _ _ h=>h) (Or.inl ⟨by rfl,?_⟩) ?_
      rotate_left
      focus (intro w;go_simp;(try with_reducible rfl))
      (try simp only [Act.put,List.setIfInBounds_toArray,List.set_cons_zero,List.set_cons_succ])
      refine wpAny_take (i:=4) (v:=?_) rfl (by kernel_rfl) (by kernel_rfl) (by kernel_rfl) (fun _ _ _ h=>h) (Or.inl ⟨by rfl,?_⟩) ?_
      rotate_left
      focus (intro w;go_simp;(try with_reducible rfl))
      (try simp only [Act.put,List.setIfInBounds_toArray,List.set_cons_zero,List.set_cons_succ])
      refine wpAny_ready (rs:=[2]) (by kernel_rfl) (by simp) (AllReady.cons rfl (fun K hK=>?_) AllReady.nil)
      go_simp
      refine hK _ _ ?_
      clear hK K
      refine wpAny_take (i:=5) (v:=?_) rfl (by kernel_rfl) (by kernel_rfl) (by kernel_rfl) (fun _ _ _ h=>h) (Or.inl ⟨by rfl,?_⟩) ?_
      rotate_left
      focus (intro w;go_simp;(try with_reducible rfl))
      (try simp only [Act.put,List.setIfInBounds_toArray,List.set_cons_zero,List.set_cons_succ])
      refine wpAny_ready (rs:=[6]) (by kernel_rfl) (by simp) (AllReady.cons rfl (fun K hK=>?_) AllReady.nil)
      go_simp
      refine hK _ _ ?_
      clear hK K
      refine wpAny_ready (rs:=[7]) (by kernel_rfl) (by simp) (AllReady.cons rfl (fun K hK=>?_) AllReady.nil)
      refine step_has8 rfl 86 (.tmp 15) (.tmp 155) rfl (by first|exact HH5.out|exact Held8.drew HH5.out) hph hnb2 hns2 (by omega) rfl (P1 so 0) (P1 so 1) (P1 so 2) (P1 so 3) (P1 so 4) (P1 so 5) (P1 so 6) (P1 so 7) rfl (by kernel_rfl) ?_
      intro W8 hh8
      (try go_simp)
      refine hK _ _ ?_
      clear hK K
      refine wpAny_done (by kernel_rfl) ?_ _
      obtain ⟨hg8,hb8,hrow8,hK8⟩:=hh8
      have HG5:=Lib.hid hg8
      have HB5:=Lib.hid hb8
      have HR5:=Lib.hid hrow8
      have HK5:=Lib.hid hK8
      have hfs:=hg8.frozen
      obtain ⟨g0,g1,g2,g3,g4,g5,g6,g7⟩:=hg8.cells
      have hsl:=hg8.lt
      obtain ⟨a0,a1,a2,a3,a4,b0,b1,b2,b3,b4⟩:=boxTwoS hb8
      have hpl5:=hrow8.lt
      clear hg8 hb8 hrow8 hK8 a0 a1 a2 b0 b2
      go_upto_region 25 with fail
      refine wp_world (R:=fun W=>HasBox hs (P1 so 0+price*qty) (P1 so 1) (P1 so 2) (P1 so 3 - qty) (P1 so 4) (P1 so 5) (P1 so 6 - qty) (P1 so 7) W∧BoxTwo nb ns b s W∧PRow W p t P1∧Kp own 1 i w W) ⟨(by repeat (first|(with_reducible exact HG5.out)|(with_reducible refine HasBox.drew ?_)|(with_reducible apply HasBox.set0)|(with_reducible apply HasBox.set1)|(with_reducible apply HasBox.set2)|(with_reducible apply HasBox.set3)|(with_reducible apply HasBox.set4)|(with_reducible apply HasBox.set5)|(with_reducible apply HasBox.set6)|(with_reducible apply HasBox.set7))),(by repeat (first|(with_reducible exact HB5.out)|(with_reducible refine BoxTwo.drewB ?_)|(with_reducible refine BoxTwo.other ?_ hnb2 hns2 _ _))),(by repeat (first|(with_reducible exact HR5.out)|(with_reducible refine PRow.drewP ?_)|(with_reducible refine PRow.other ?_ (Ne.symm hph) _ _))),(by repeat (first|(with_reducible exact HK5.out)|(with_reducible refine Kp.drew ?_)|(with_reducible refine Kp.setCell ?_ (hsw _) _)))⟩ ?_
      clear g0 g1 g2 g3 g4 g5 g6 g7 y0 y1 y2 y3 y4 y5 y6 y7 a3 a4 b1 b3 b4 hfs HG5 HB5 HR5 HK5 hpl5 hsl
      rintro W6 ⟨hg6,hb6,hrow6,hK6⟩
      have HR6:=Lib.hid hrow6
      have HK6:=Lib.hid hK6
      have HH6:Hid (Held8 own i w hs _ _ _ _ _ _ _ _ nb ns b s p t P1 W6):=Lib.hid ⟨hg6,hb6,hrow6,hK6⟩
      obtain ⟨x0,x1,x2,x3,x4,x5,x6,x7⟩:=hg6.cells
      obtain ⟨a0,a1,a2,a3,a4,b0,b1,b2,b3,b4⟩:=boxTwoS hb6
      rw [hso] at b1
      have q0:=PRow.cell hrow6 hso6 (j:=0) (by omega)
      have q1:=PRow.cell hrow6 hso6 (j:=1) (by omega)
      have q2:=PRow.cell hrow6 hso6 (j:=2) (by omega)
      have q3:=PRow.cell hrow6 hso6 (j:=3) (by omega)
      have q4:=PRow.cell hrow6 hso6 (j:=4) (by omega)
      have q5:=PRow.cell hrow6 hso6 (j:=5) (by omega)
      have q6:=PRow.cell hrow6 hso6 (j:=6) (by omega)
      have q7:=PRow.cell hrow6 hso6 (j:=7) (by omega)
      simp only [Nat.add_zero] at q0
      have hpl6:=hrow6.lt
      have hpf:=fun j=>World.rowIs.frozen hrow6 j
      clear hg6 hb6 hrow6 hK6 a0 a1 a2 a3 a4 b0 b2 b3 b4
      clear q0 q1 q2 q3 q4 q5 q6 q7
      refine wp_region_any (by kernel_rfl) ?_
      (try (change wpAny _ _ _ _ _ _ _ (World.drew _)))
      refine wpAny_take (i:=0) (v:=?_) rfl (by kernel_rfl) (by kernel_rfl) (by kernel_rfl) (fun _ _ _ h=>h) (Or.inl ⟨by rfl,?_⟩) ?_
      rotate_left
      focus (intro w;go_simp;(try with_reducible rfl))
      (try simp only [Act.put,List.setIfInBounds_toArray,List.set_cons_zero,List.set_cons_succ])
      refine wpAny_take (i:=1) (v:=?_) rfl (by kernel_rfl) (by kernel_rfl) (by kernel_rfl) (fun _ _ _ h=>h) (Or.inl ⟨by rfl,?_⟩) ?_
      rotate_left
      focus (intro w;go_simp;(try with_reducible rfl))
      (try simp only [Act.put,List.setIfInBounds_toArray,List.set_cons_zero,List.set_cons_succ])
      refine wpAny_take (i:=4) (v:=?_) rfl (by kernel_rfl) (by kernel_rfl) (by kernel_rfl) (fun _ _ _ h=>h) (Or.inl ⟨by rfl,?_⟩) ?_
      rotate_left
      focus (intro w;go_simp;(try with_reducible rfl))
      (try simp only [Act.put,List.setIfInBounds_toArray,List.set_cons_zero,List.set_cons_succ])
      refine wpAny_take (i:=5) (v:=?_) rfl (by kernel_rfl) (by kernel_rfl) (by kernel_rfl) (fun _ _ _ h=>h) (Or.inl ⟨by rfl,?_⟩) ?_
      rotate_left
      focus (intro w;go_simp;(try with_reducible rfl))
      (try simp only [Act.put,List.setIfInBounds_toArray,List.set_cons_zero,List.set_cons_succ])
      refine wpAny_ready (rs:=[2,3]) (by kernel_rfl) (by simp) (AllReady.cons rfl (fun K hK=>?_) (AllReady.cons rfl (fun K hK=>?_) AllReady.nil))
      focus
        go_simp
        refine hK _ _ ?_
        clear hK K
        refine wpAny_ready (rs:=[3]) (by kernel_rfl) (by simp) (AllReady.cons rfl (fun K hK=>?_) AllReady.nil)
        go_simp
        refine hK _ _ ?_
        clear hK K
        refine wpAny_take (i:=6) (v:=?_) rfl (by kernel_rfl) (by kernel_rfl) (by kernel_rfl) (fun _ _ _ h=>h) (Or.inl ⟨by rfl,?_⟩) ?_
        rotate_left
        focus (intro w;go_simp;(try with_reducible rfl))
        (try simp only [Act.put,List.setIfInBounds_toArray,List.set_cons_zero,List.set_cons_succ])
        refine wpAny_ready (rs:=[7]) (by kernel_rfl) (by simp) (AllReady.cons rfl (fun K hK=>?_) AllReady.nil)
        refine step_store8h rfl 86 (.tmp 187) (.tmp 184) rfl (by first|exact HH6.out|exact Held8.drew HH6.out) H.out.1 (Ne.symm hph) hnb3 hns3 so rfl (P1 so 0+price*qty) (P1 so 1) ((P1 so 2)) ((P1 so 3 - qty)) ((P1 so 4)) ((P1 so 5)) ((P1 so 6 - qty)) ((P1 so 7)) rfl hso6 (by kernel_rfl) ?_
        intro W9 hh9
        (try go_simp)
        refine hK _ _ ?_
        clear hK K
        refine wpAny_done (by kernel_rfl) ?_ _
      rotate_left
      focus
        go_simp
        refine hK _ _ ?_
        clear hK K
        refine wpAny_ready (rs:=[2]) (by kernel_rfl) (by simp) (AllReady.cons rfl (fun K hK=>?_) AllReady.nil)
        go_simp
        refine hK _ _ ?_
        clear hK K
        refine wpAny_take (i:=6) (v:=?_) rfl (by kernel_rfl) (by kernel_rfl) (by kernel_rfl) (fun _ _ _ h=>h) (Or.inl ⟨by rfl,?_⟩) ?_
        rotate_left
        focus (intro w;go_simp;(try with_reducible rfl))
        (try simp only [Act.put,List.setIfInBounds_toArray,List.set_cons_zero,List.set_cons_succ])
        refine wpAny_ready (rs:=[7]) (by kernel_rfl) (by simp) (AllReady.cons rfl (fun K hK=>?_) AllReady.nil)
        refine step_store8h rfl 86 (.tmp 187) (.tmp 184) rfl (by first|exact HH6.out|exact Held8.drew HH6.out) H.out.1 (Ne.symm hph) hnb3 hns3 so rfl (P1 so 0+price*qty) (P1 so 1) ((P1 so 2)) ((P1 so 3 - qty)) ((P1 so 4)) ((P1 so 5)) ((P1 so 6 - qty)) ((P1 so 7)) rfl hso6 (by kernel_rfl) ?_
        intro W9 hh9
        (try go_simp)
        refine hK _ _ ?_
        clear hK K
        refine wpAny_done (by kernel_rfl) ?_ _
      rotate_left
      all_goals go_wp2_with fail
      all_goals go_ret
      all_goals
        refine ⟨by rw [HE.out];rfl,?_⟩
        refine mput_end hh9.2.2.1 hh9.2.2.2 H.out.1 HQ.out (fun d k hk=>?_) ?_
        · rw [trade_heq1 P P1 bo so (b.price*qty) (price*qty) qty HP1.out d k hk]
          unfold tradeQ
          rw [if_pos HE.out,tb,ts,show Int.toNat 1=1 from rfl]
        · exact (by repeat (first|exact Ex.refl _|refine Ex.alloc ?_ _|refine Ex.ext ?_ _ _|refine Ex.drew ?_|refine Ex.drewN ?_ _))
end
end Go.Proofs.YtmbboflakfokhaaGreatDoor
