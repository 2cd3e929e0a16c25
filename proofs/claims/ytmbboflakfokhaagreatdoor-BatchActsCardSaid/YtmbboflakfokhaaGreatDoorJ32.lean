import Derived.Test.YtmbboflakfokhaaGreatDoorJ28
/- The document's book: what off computes. -/
set_option linter.unusedSimpArgs false
set_option linter.unusedVariables false
namespace Go.Proofs.YtmbboflakfokhaaGreatDoor
open Go.RowKit
theorem flat_cells {W:World} {g off:Nat} {m:List Lot} (h:∀ k (hk:k<m.length) j,j<5→W.cell? ⟨g,off+k*5+j,none⟩=m[k].cells[j]?):∀ j u,(flat Lot.cells m)[j]?=some u→W.cell? ((⟨g,off,none⟩:Addr).add j)=some u:=by
  intro j u hu
  have hj:j<m.length*5:=by
    have:=(List.getElem?_eq_some_iff.1 hu).1
    rwa [flat_length lotc_len] at this
  have h1:j / 5<m.length:=by omega
  have e:=flat_get lotc_len m (j / 5) h1 (j % 5) (by omega)
  rw [show j / 5*5+j % 5=j by omega,hu] at e
  rw [addr_add,e]
  have:=h (j / 5) h1 (j % 5) (by omega)
  rw [← this]
  congr 2
  omega
theorem off_row {base:Nat} {w:World} {l:List Lot} {k:Nat} {v:Value} (hk:k<l.length) (h:w.ownsRow base 44 5 v (k+(l.length - (k+1))) (flat Lot.cells (l.take k)++flat Lot.cells (l.drop (k+1)))):LotsRow base (l.eraseIdx k) v w:=by
  unfold LotsRow
  rw [List.length_eraseIdx_of_lt hk,List.eraseIdx_eq_take_drop_succ,flat_append,show l.length - 1=k+(l.length - (k+1)) by omega]
  exact h
theorem off_last {base:Nat} {w:World} {l:List Lot} {k:Nat} {v:Value} (hk:l.length=k+1) (h:w.ownsRow base 44 5 v (k+0) (flat Lot.cells (l.take k)++[])):LotsRow base (l.eraseIdx k) v w:=by
  unfold LotsRow
  rw [List.length_eraseIdx_of_lt (by omega),List.eraseIdx_eq_take_drop_succ,List.drop_of_length_le (by omega),List.append_nil,show l.length - 1=k+0 by omega]
  rw [List.append_nil] at h
  exact h
section
variable {own:Nat→Nat} {i:Nat} {w:World} {p:Nat} {l:List Lot}
theorem mset_end (h:BookAt own i w p l) {w3:World} {v':Value} {l':List Lot} (hx:Ex w w3) (hr:LotsRow w.heap.size l' v' w3) (hl:l'.length≤60) (hw:∀ x∈l',x.wf):ObjTo own i i w (fun o w'=>BookAt o i w' p l') (w3.setCell ⟨p,0,none⟩ v'):=by
  obtain ⟨h1,h2,v0,h3⟩:=h
  have:=mb_turn h3 (w3:=w3) (v':=v') hx.below.os hx.below.tape hx.below.output hx.below.size (fun b hb _=>hx.below.block b hb) (rowAt_of_owned hr) (fun g hg=>.inr (hr.lt g hg).1)
  exact ObjTo.of this.1 ⟨hl,hw,v',this.2⟩
set_option maxRecDepth 100000 in
set_option maxHeartbeats 4000000 in
theorem moff_any (h:BookAt own i w p l) (k:Nat) (hk:k<l.length) :
    Calls Tryz.prog 72 #[.pointer (some ⟨p,0,none⟩),.int .i64 (k:Int)] w fun e w'=>e=.returned (.tuple #[])∧ObjTo own i i w (fun o w'=>BookAt o i w' p (l.eraseIdx k)) w':=by
  obtain ⟨i0,hi0,hz0,hz1,hz2⟩:=info_parts infoLotB
  obtain ⟨ao,cap,c0,hc,hm,h0,hl,hr⟩:=h.slice
  have H:=Lib.hid h
  have hp:=h.lt
  have hb:=h.1
  have hcm:cap≤9223372036854775807:=by unfold maxLen at hm;omega
  obtain ⟨_,_,_,hz⟩:=hl
  obtain ⟨g,off,rfl,hg,hcc⟩:=hz (by omega)
  have hC1:=fun (W:World) (hx:Ex w W)=>flat_cells (W:=W) (g:=g) (off:=off) (m:=l.take k) (fun q hq j hj=>by
    rw [List.length_take] at hq
    rw [List.getElem_take]
    exact (hx.below.cell (p:=⟨g,off+q*5+j,none⟩) hg).trans (hcc q (by omega) j hj))
  have hC2:=fun (W:World) (hx:Ex w W)=>flat_cells (W:=W) (g:=g) (off:=off+(k+1)*5) (m:=l.drop (k+1)) (fun q hq j hj=>by
    rw [List.length_drop] at hq
    rw [List.getElem_drop]
    have:=(hx.below.cell (p:=⟨g,off+(k+1+q)*5+j,none⟩) hg).trans (hcc (k+1+q) (by omega) j hj)
    rw [← this]
    congr 2
    omega)
  have hC1:=Lib.hid hC1
  have hC2:=Lib.hid hC2
  have HT:Hid ((flat Lot.cells (l.take k)).length=k*5):=Lib.hid (by rw [flat_length lotc_len,List.length_take];congr 1;omega)
  have HD:Hid ((flat Lot.cells (l.drop (k+1))).length=(l.length - (k+1))*5):=Lib.hid (by rw [flat_length lotc_len,List.length_drop])
  have HF:=Lib.hid (fun (w3:World) (hx:Ex w w3)=>mb_free (w3:=w3) h c0 (hx.below.block p hp))
  have HEND:=Lib.hid (fun (w3:World) (v:Value) (hx:Ex w w3) (hr:LotsRow w.heap.size (l.eraseIdx k) v w3)=>mset_end h hx hr (by rw [List.length_eraseIdx_of_lt hk];omega) (fun x hx=>h.2.1 x (List.mem_of_mem_eraseIdx hx)))
  have hk1:((k:Int)+1).toNat=k+1:=by omega
  clear h hr h0 hz hcc
  by_cases hkc:k+1<cap
  · go_enter Tryz.func72,Tryz.ntmps72
    go_wp2_with (first
      | (at_builtin;refine wpList_append_own _ rfl (.tmp 5) (.tmp 11) 50 rfl w.heap.size 44 i0 _ 5 40 Tryz.underlying50 hi0 hz0 hz1 hz2 rfl (by decide) (.slice none 0 0) 0 [] rfl (World.ownsRow_nil _ _ _ _) ⟨g,off,none⟩ k cap (flat Lot.cells (l.take k)) rfl HT.out (hC1.out _ (Ex.refl _)) (lot_one _) (by unfold maxLen;omega) (by omega) (by simp) ?_;intro v1 w1 hown hgrow hnil;rw [Nat.zero_add,List.nil_append] at hown;have HX1:Hid (Ex w w1):=Lib.hid (Ex.of (Below.grown (Below.refl _ _) hgrow (Nat.le_refl _) (fun b hb=>by cases hb)));have HOW:=Lib.hid hown;obtain ⟨f1,p1,c1⟩:=HF.out _ HX1.out;obtain ⟨ao1,cap1,rfl⟩:=row_form (rowAt_of_owned hown);clear hown hgrow hnil)
      | (at_builtin;refine wpList_append_own _ rfl (.tmp 14) (.tmp 21) 50 rfl w.heap.size 44 i0 _ 5 40 Tryz.underlying50 hi0 hz0 hz1 hz2 rfl (by decide) (.slice ao1 k cap1) k (flat Lot.cells (l.take k)) rfl HOW.out ⟨g,off+(k+1)*5,none⟩ (l.length - (k+1)) (cap - (k+1)) (flat Lot.cells (l.drop (k+1))) rfl HD.out (hC2.out _ HX1.out) (lot_one _) (by unfold maxLen;omega) (by omega) (HX1.out.below.size) ?_;intro v3 w3 hown hgrow hnil;have HX3:Hid (Ex w w3):=Lib.hid (Ex.of (Below.grown HX1.out.below hgrow HX1.out.below.size (fun b hb=>(HOW.out.lt b hb).1)));have HO3:=Lib.hid hown;obtain ⟨f3,p3,c3⟩:=HF.out _ HX3.out;obtain ⟨ao3,cap3,rfl⟩:=row_form (rowAt_of_owned hown);clear hown hgrow hnil))
    all_goals go_end0
    all_goals exact ⟨rfl,HEND.out _ _ HX3.out (off_row hk HO3.out)⟩
  · obtain rfl:cap=k+1:=by omega
    have hlk:l.length=k+1:=by omega
    have HLK:=Lib.hid hlk
    go_enter Tryz.func72,Tryz.ntmps72
    go_wp2_with (first
      | (at_builtin;refine wpList_append_own _ rfl (.tmp 5) (.tmp 11) 50 rfl w.heap.size 44 i0 _ 5 40 Tryz.underlying50 hi0 hz0 hz1 hz2 rfl (by decide) (.slice none 0 0) 0 [] rfl (World.ownsRow_nil _ _ _ _) ⟨g,off,none⟩ k (k+1) (flat Lot.cells (l.take k)) rfl HT.out (hC1.out _ (Ex.refl _)) (lot_one _) (by unfold maxLen;omega) (by omega) (by simp) ?_;intro v1 w1 hown hgrow hnil;rw [Nat.zero_add,List.nil_append] at hown;have HX1:Hid (Ex w w1):=Lib.hid (Ex.of (Below.grown (Below.refl _ _) hgrow (Nat.le_refl _) (fun b hb=>by cases hb)));have HOW:=Lib.hid hown;obtain ⟨f1,p1,c1⟩:=HF.out _ HX1.out;obtain ⟨ao1,cap1,rfl⟩:=row_form (rowAt_of_owned hown);clear hown hgrow hnil)
      | (at_builtin;refine wpList_append_own _ rfl (.tmp 14) (.tmp 21) 50 rfl w.heap.size 44 i0 _ 5 40 Tryz.underlying50 hi0 hz0 hz1 hz2 rfl (by decide) (.slice ao1 k cap1) k (flat Lot.cells (l.take k)) rfl HOW.out ⟨g,off,none⟩ 0 0 [] rfl rfl (fun j u hu=>by simp at hu) (by simp) (by unfold maxLen;omega) (by omega) (HX1.out.below.size) ?_;intro v3 w3 hown hgrow hnil;have HX3:Hid (Ex w w3):=Lib.hid (Ex.of (Below.grown HX1.out.below hgrow HX1.out.below.size (fun b hb=>(HOW.out.lt b hb).1)));have HO3:=Lib.hid hown;obtain ⟨f3,p3,c3⟩:=HF.out _ HX3.out;obtain ⟨ao3,cap3,rfl⟩:=row_form (rowAt_of_owned hown);clear hown hgrow hnil))
    all_goals go_end0
    all_goals exact ⟨rfl,HEND.out _ _ HX3.out (off_last (HLK.out) HO3.out)⟩
end
end Go.Proofs.YtmbboflakfokhaaGreatDoor

/- The document's book: what Cancel computes. -/
set_option linter.unusedSimpArgs false
set_option linter.unusedVariables false
namespace Go.Proofs.YtmbboflakfokhaaGreatDoor
open Go.RowKit
section
variable {own:Nat→Nat} {i:Nat} {w:World} {p:Nat} {l:List Lot}
def labN (own:Nat→Nat) (i:Nat) (w:World) (n:Nat):Nat:=if n<w.heap.size then own n else i+1
theorem obj_mid (h:BookAt own i w p l) {W:World} (hx:Ex w W):BookAt (labN own i w) i W p l:=(h.relabel fun n hn e=>by unfold labN;rw [if_pos hn];exact e).later hx
theorem obj_out {W w' w'':World} {l':List Lot} (hx:Ex w W) (hT:ObjTo (labN own i w) i i W (fun o w'=>BookAt o i w' p l') w') :
    (∀ b,w.heap.size≤b→b<W.heap.size→w'.heap[b]?=W.heap[b]?)∧W.heap.size≤w'.heap.size∧∀ g,w.heap.size≤g→g<W.heap.size→OnlyAt g w' w''→ObjTo own i i w (fun o w'=>BookAt o i w' p l') w'':=by
  obtain ⟨o2,hI,_,ho2,hs2,hK⟩:=hT.use (B:=0) (a:=W) (Below.refl 0 W) (Nat.zero_le _) (fun b hb=>by omega)
  have hs:=hx.below.size
  have hlab:∀ b,w.heap.size≤b→labN own i w b=i+1:=fun b hb=>by unfold labN;rw [if_neg (by omega)]
  refine ⟨fun b h1 h2=>hK.other h2 (by rw [Nat.div_one,hlab b h1];omega),hs2,fun g h1 h2 ho=>?_⟩
  have hg:o2 g=i+1:=by rw [ho2 g h2,hlab g h1]
  have hB:BookAt o2 i w'' p l':=hI.kp (own':=o2) (ho.kp (own:=o2) (m:=1) (i:=i+1) (by rw [Nat.div_one];exact hg)) (by rw [Nat.div_one];omega) (fun _ _ e=>e)
  have hK2:Kp own 1 i w w'':=⟨ho.os.trans (hK.os.trans hx.below.os),ho.tape.trans (hK.tape.trans hx.below.tape),ho.output.trans (hK.output.trans hx.below.output),by rw [ho.size];omega,fun b hb hne=>by
    rw [ho.block b (by omega),hK.other (by omega) (by unfold labN;rw [if_pos hb];exact hne)]
    exact hx.below.block b hb⟩
  refine ObjTo.of hK2 (hB.relabel fun n hn e=>?_)
  by_cases hlt:n<w.heap.size
  · rw [lab_lt hlt]
    rw [ho2 n (by omega)] at e
    unfold labN at e
    rw [if_pos hlt] at e
    exact e
  · unfold lab
    rw [if_neg hlt,if_pos (by omega)]
theorem OnlyAt.refl (g:Nat) (w:World):OnlyAt g w w:=⟨rfl,rfl,rfl,rfl,fun _ _=>rfl⟩
theorem OnlyAt.setCell {g:Nat} {w w':World} (h:OnlyAt g w w') (j:Nat) (v:Value):OnlyAt g w (w'.setCell ⟨g,j,none⟩ v):=⟨h.os,h.tape,h.output,by rw [← h.size];simp [World.setCell],fun b hb=>(Below.heap_setCell w' ⟨g,j,none⟩ v b (by simpa using hb)).trans (h.block b hb)⟩
set_option maxRecDepth 100000 in
theorem mcancel_none (h:BookAt own i w p l) (id:Int) (hi:idIdx l id=-1) :
    Calls Tryz.prog 42 #[.pointer (some ⟨p,0,none⟩),.int .i64 id] w fun e w'=>e=.returned (.tuple #[zeroLot.val,.int .i64 6])∧ObjTo own i i w (fun o w'=>BookAt o i w' p l) w':=by
  have HF:=Lib.hid (fun W (hx:Ex w W)=>mfind_any (h.later hx) id)
  rw [hi] at HF
  have H:=Lib.hid h
  clear hi h
  go_enter Tryz.func42,Tryz.ntmps42
  go_wp2_with (go_at_call 37;refine (HF.out _ (by repeat (first|exact Ex.refl _|refine Ex.alloc ?_ _|refine Ex.ext ?_ _ _|refine Ex.drew ?_|refine Ex.drewN ?_ _))).mono ?_;rintro e w1 ⟨rfl,l1,d1,rfl⟩)
  all_goals ((try simp only [Exit.inBlock,Exit.then]);(refine bodyPost_ret (v:=.tuple #[zeroLot.val,.int .i64 6]) ?_ rfl ⟨rfl,H.out.keep (by repeat (first|exact Ex.refl _|refine Ex.alloc ?_ _|refine Ex.ext ?_ _ _|refine Ex.drew ?_|refine Ex.drewN ?_ _))⟩);simp only [results,Tryz.results42];simp [go_sem,↓IntWalk.iteOmega,zeroLot])
set_option maxRecDepth 100000 in
set_option maxHeartbeats 2000000 in
theorem mcancel_in (h:BookAt own i w p l) (id:Int) (k:Nat) (hk:k<l.length) (hi:idIdx l id=(k:Int)) :
    Calls Tryz.prog 42 #[.pointer (some ⟨p,0,none⟩),.int .i64 id] w fun e w'=>e=.returned (.tuple #[l[k].val,.int .i64 0])∧ObjTo own i i w (fun o w'=>BookAt o i w' p (l.eraseIdx k)) w':=by
  have HF:=Lib.hid (fun W (hx:Ex w W)=>mfind_any (h.later hx) id)
  rw [hi] at HF
  obtain ⟨ao,cap,c0,hc,hm,h0,hl,hr⟩:=h.slice
  have hp:=h.lt
  have hb:=h.1
  obtain ⟨_,_,_,hz⟩:=hl
  obtain ⟨g,off,rfl,hg,hcc⟩:=hz (by omega)
  have HO:=Lib.hid (fun W (hx:Ex w W)=>moff_any (obj_mid h hx) k hk)
  have HOUT:=Lib.hid (fun (W w' w'':World) (hx:Ex w W) (hT:ObjTo (labN own i w) i i W (fun o w'=>BookAt o i w' p (l.eraseIdx k)) w')=>obj_out (w'':=w'') hx hT)
  have hzk:=hcc k hk
  have a0:=hzk 0 (by omega)
  have a1:=hzk 1 (by omega)
  have a2:=hzk 2 (by omega)
  have a3:=hzk 3 (by omega)
  have a4:=hzk 4 (by omega)
  simp only [Lot.cells,List.getElem?_cons_zero,List.getElem?_cons_succ,Nat.add_zero] at a0 a1 a2 a3 a4
  generalize l[k]=x at *
  clear hz hcc hzk hi h hr h0
  go_enter Tryz.func42,Tryz.ntmps42
  go_upto_region 5 with (go_at_call 37;refine (HF.out _ (by repeat (first|exact Ex.refl _|refine Ex.alloc ?_ _|refine Ex.ext ?_ _ _|refine Ex.drew ?_|refine Ex.drewN ?_ _))).mono ?_;rintro e w1 ⟨rfl,l1,d1,rfl⟩)
  go_wp2_with fail
  refine (HO.out _ (by exact (by repeat (first|exact Ex.refl _|refine Ex.alloc ?_ _|refine Ex.ext ?_ _ _|refine Ex.drew ?_|refine Ex.drewN ?_ _)))).mono ?_
  rintro e w3 ⟨rfl,hT⟩
  have hex:Ex w ((ext (w.alloc (.cells #[.int .i64 0,.int .i64 0,.int .i64 0,.int .i64 0,.int .i64 0] 44)) l1 d1).alloc (.cells #[.int .i64 x.id,.int .i64 x.owner,.int .i64 x.side,.int .i64 x.price,.int .i64 x.qty] 44)):=(by repeat (first|exact Ex.refl _|refine Ex.alloc ?_ _|refine Ex.ext ?_ _ _|refine Ex.drew ?_|refine Ex.drewN ?_ _))
  have hsz:((ext (w.alloc (.cells #[.int .i64 0,.int .i64 0,.int .i64 0,.int .i64 0,.int .i64 0] 44)) l1 d1).alloc (.cells #[.int .i64 x.id,.int .i64 x.owner,.int .i64 x.side,.int .i64 x.price,.int .i64 x.qty] 44)).heap.size=w.heap.size+1+l1.length+1:=by simp [go_sem]
  obtain ⟨hk3,hs3,hfin⟩:=HOUT.out _ w3 (((((w3.setCell ⟨w.heap.size,0,none⟩ (.int .i64 x.id)).setCell ⟨w.heap.size,1,none⟩ (.int .i64 x.owner)).setCell ⟨w.heap.size,2,none⟩ (.int .i64 x.side)).setCell ⟨w.heap.size,3,none⟩ (.int .i64 x.price)).setCell ⟨w.heap.size,4,none⟩ (.int .i64 x.qty)) hex hT
  rw [hsz] at hs3
  have HFIN:=Lib.hid (hfin w.heap.size (Nat.le_refl _) (by rw [hsz];omega) (((((OnlyAt.refl _ _).setCell _ _).setCell _ _).setCell _ _).setCell _ _ |>.setCell _ _))
  have hr3:w3.heap[w.heap.size]?=some (.cells #[.int .i64 0,.int .i64 0,.int .i64 0,.int .i64 0,.int .i64 0] 44):=(hk3 _ (Nat.le_refl _) (by rw [hsz];omega)).trans (((show Ex (w.alloc (.cells #[.int .i64 0,.int .i64 0,.int .i64 0,.int .i64 0,.int .i64 0] 44)) _ from (by repeat (first|exact Ex.refl _|refine Ex.alloc ?_ _|refine Ex.ext ?_ _ _|refine Ex.drew ?_|refine Ex.drewN ?_ _))).below.block _ (by simp)).trans (alloc_top rfl))
  have hx3:w3.heap[w.heap.size+1+l1.length]?=some (.cells #[.int .i64 x.id,.int .i64 x.owner,.int .i64 x.side,.int .i64 x.price,.int .i64 x.qty] 44):=(hk3 _ (by omega) (by rw [hsz];omega)).trans (alloc_top (by simp [go_sem]))
  clear hfin hk3 hT hex hsz
  have r0:w3.cell? ⟨w.heap.size,0,none⟩=some (.int .i64 0):=by simp [World.cell?,hr3]
  have rf0:w3.frozen? ⟨w.heap.size,0,none⟩=false:=by simp [World.frozen?,hr3]
  have x0:w3.cell? ⟨w.heap.size+1+l1.length,0,none⟩=some (.int .i64 x.id):=by simp [World.cell?,hx3]
  have r1:w3.cell? ⟨w.heap.size,1,none⟩=some (.int .i64 0):=by simp [World.cell?,hr3]
  have rf1:w3.frozen? ⟨w.heap.size,1,none⟩=false:=by simp [World.frozen?,hr3]
  have x1:w3.cell? ⟨w.heap.size+1+l1.length,1,none⟩=some (.int .i64 x.owner):=by simp [World.cell?,hx3]
  have r2:w3.cell? ⟨w.heap.size,2,none⟩=some (.int .i64 0):=by simp [World.cell?,hr3]
  have rf2:w3.frozen? ⟨w.heap.size,2,none⟩=false:=by simp [World.frozen?,hr3]
  have x2:w3.cell? ⟨w.heap.size+1+l1.length,2,none⟩=some (.int .i64 x.side):=by simp [World.cell?,hx3]
  have r3:w3.cell? ⟨w.heap.size,3,none⟩=some (.int .i64 0):=by simp [World.cell?,hr3]
  have rf3:w3.frozen? ⟨w.heap.size,3,none⟩=false:=by simp [World.frozen?,hr3]
  have x3:w3.cell? ⟨w.heap.size+1+l1.length,3,none⟩=some (.int .i64 x.price):=by simp [World.cell?,hx3]
  have r4:w3.cell? ⟨w.heap.size,4,none⟩=some (.int .i64 0):=by simp [World.cell?,hr3]
  have rf4:w3.frozen? ⟨w.heap.size,4,none⟩=false:=by simp [World.frozen?,hr3]
  have x4:w3.cell? ⟨w.heap.size+1+l1.length,4,none⟩=some (.int .i64 x.qty):=by simp [World.cell?,hx3]
  have hxr:w.heap.size+1+l1.length≠w.heap.size:=by omega
  clear hr3 hx3
  go_wp2_with fail
  all_goals ((try simp only [Exit.inBlock,Exit.then]);(refine bodyPost_ret (v:=.tuple #[x.val,.int .i64 0]) ?_ rfl ⟨rfl,HFIN.out⟩);simp only [results,Tryz.results42];simp [go_sem,↓IntWalk.iteOmega, *])
theorem mcancel_any (h:BookAt own i w p l) (id:Int) :
    Calls Tryz.prog 42 #[.pointer (some ⟨p,0,none⟩),.int .i64 id] w fun e w'=>e=.returned (.tuple #[(cancelR l id).1.val,.int .i64 ((cancelR l id).2.1:Int)])∧ObjTo own i i w (fun o w'=>BookAt o i w' p (cancelR l id).2.2) w':=by
  rcases idIdx_cases l id with ⟨k,hk,hi,_,hf⟩|⟨hi,_⟩
  · have e:cancelR l id=(l[k],0,l.eraseIdx k):=by
      unfold cancelR
      rw [hf]
      simp only [List.getElem?_eq_getElem hk]
    rw [e]
    exact mcancel_in h id k hk hi
  · have e:cancelR l id=(zeroLot,6,l):=by unfold cancelR;rw [find_none hi]
    rw [e]
    exact mcancel_none h id hi
end
end Go.Proofs.YtmbboflakfokhaaGreatDoor
