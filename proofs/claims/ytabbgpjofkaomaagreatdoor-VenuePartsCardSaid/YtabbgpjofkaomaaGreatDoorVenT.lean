import Derived.Test.YtabbgpjofkaomaaGreatDoorJ39
import Derived.Test.YtabbgpjofkaomaaGreatDoorJ40
set_option linter.unusedSimpArgs false
set_option linter.unusedVariables false
/- What Tick of a venue computes. -/
namespace Go.Proofs.YtabbgpjofkaomaaGreatDoor
open Go.RowKit
theorem recOf_len (v:VSt) (hb:v.bat≤1000000):(recOf v).length≤100000:=by
 unfold recOf recordL
 have h1:=Lib.itoa_length_le (v.bat:Int) (by omega) (by omega)
 have h2:=joinS_len ((dropsL v).map fun (c:Nat)=>Lib.itoa (c:Int)) (fun x hx=>by
  obtain ⟨c,hc,rfl⟩:=List.mem_map.1 hx
  exact itoaS_len c (List.mem_range.1 (List.mem_filter.1 hc).1))
 have h3:(dropsL v).length≤6:=Nat.le_trans (List.length_filter_le _ _) (by simp)
 have h4:=outOf_length v.q v.turn 6
 have h5:∀ l:List Ask,(l.flatMap fun a=>if a.err=0 then 32::hexL a.frame.data.toList else []).length≤61*l.length:=by
  intro l
  induction l with
  | nil=>simp
  | cons a l ih =>
   rw [List.flatMap_cons,List.length_append,List.length_cons]
   have:=fr_len a
   have:=hexL_len a.frame.data.toList
   split
   ·rw [List.length_cons];omega
   ·simp only [List.length_nil];omega
 have h6:=h5 (outOf v.q v.turn 6)
 rw [List.length_map] at h2
 rw [List.length_append,List.length_append,List.length_cons]
 omega
theorem dropsL_lt (v:VSt):∀ c∈dropsL v,c<6:=fun c hc=>List.mem_range.1 (List.mem_filter.1 hc).1
theorem dropsL_len (v:VSt):(dropsL v).length≤6:=Nat.le_trans (List.length_filter_le _ _) (by simp)
def VA.withRd (A:VA) (n rb:Nat):VA:={ A with rd:=fun c=>if c=n then rb else A.rd c }
section
variable {E:Nat→Addr} {w0 w W W':World} {F:Nat→Prop} {A:VA} {v v':VSt} {M:List Th}
theorem VX.setClient (X:VX E w0 F w A v M W) {n:Nat} (hn:n<6) :
  VX E w0 F w (A.withRd n W.heap.size) (v.setCl n ⟨⟨false,0,0⟩,[],true⟩) M ((((((W.alloc (.cells #[.string ⟨#[]⟩] 104)).setCell ⟨A.rg,n*5,none⟩ (.bool false)).setCell ⟨A.rg,n*5+1,none⟩ (.int .i64 0)).setCell ⟨A.rg,n*5+2,none⟩ (.int .i64 0)).setCell ⟨A.rg,n*5+3,none⟩ (.pointer (some ⟨W.heap.size,0,none⟩))).setCell ⟨A.rg,n*5+4,none⟩ (.bool true)):=by
 have hx:Ex W (W.alloc (.cells #[.string ⟨#[]⟩] 104)):=(Ex.refl W).alloc _
 have hlt:=X.rowP.lt
 obtain ⟨G,⟨hG1,hG2,hG3⟩,hG,close⟩:=X.sep.open 5 rfl
 have hrl:∀ c,c<6→A.rd c<W.heap.size:=fun c hc=>(hG3 c hc).lt
 have S1:=close (W':=W.alloc (.cells #[.string ⟨#[]⟩] 104)) (M:=[rdsTh (A.withRd n W.heap.size).rd (fun c=>if c=n then [] else (v.cl c).left)]) (F':=fun k=>∃ c,c<6∧k=(A.withRd n W.heap.size).rd c) ((Only.refl G W).trans (Only.ex hx) (fun k _ (h:NoF k)=>h.elim))
  (SepL.one ⟨fun k=>Iff.rfl,fun c d hc hd e=>by
   have e':(if c=n then W.heap.size else A.rd c)=(if d=n then W.heap.size else A.rd d):=e
   have h1:=hrl c hc
   have h2:=hrl d hd
   by_cases hcn:c=n
   ·by_cases hdn:d=n
    ·omega
    ·rw [if_pos hcn,if_neg hdn] at e';omega
   ·by_cases hdn:d=n
    ·rw [if_neg hcn,if_pos hdn] at e';omega
    ·rw [if_neg hcn,if_neg hdn] at e';exact hG2 c d hc hd e',fun c hc=>by
   show ReaderAt _ (if c=n then W.heap.size else A.rd c) (if c=n then [] else (v.cl c).left)
   by_cases hcn:c=n
   ·rw [if_pos hcn,if_pos hcn]
    exact heap_alloc_new W _
   ·rw [if_neg hcn,if_neg hcn]
    exact (hG3 c hc).ex hx⟩)
  (fun k ⟨c,hc,hk⟩=>by
   have hk':k=(if c=n then W.heap.size else A.rd c):=hk
   by_cases hcn:c=n
   ·rw [if_pos hcn] at hk';exact .inr (Nat.le_of_eq hk'.symm)
   ·rw [if_neg hcn] at hk';exact .inl ((hG1 k).2 ⟨c,hc,hk'⟩))
 obtain ⟨G2,⟨hR1,hR2⟩,_,close2⟩:=Sep.open S1 1 rfl
 have hP:=((((hR2.set (n*5) (.bool false)).set (n*5+1) (.int .i64 0)).set (n*5+2) (.int .i64 0)).set (n*5+3) (.pointer (some ⟨W.heap.size,0,none⟩))).set (n*5+4) (.bool true)
 have hin:∀ W1:World,A.rg<W1.heap.size→G2 A.rg:=fun _ _=>(hR1 _).2 rfl
 have hO:Only G2 (W.alloc (.cells #[.string ⟨#[]⟩] 104)) _:=(((((Only.refl G2 (W.alloc (.cells #[.string ⟨#[]⟩] 104))).setCell (p:=⟨A.rg,n*5,none⟩) (fun _=>(hR1 _).2 rfl) (.bool false)).setCell (p:=⟨A.rg,n*5+1,none⟩) (fun _=>(hR1 _).2 rfl) (.int .i64 0)).setCell (p:=⟨A.rg,n*5+2,none⟩) (fun _=>(hR1 _).2 rfl) (.int .i64 0)).setCell (p:=⟨A.rg,n*5+3,none⟩) (fun _=>(hR1 _).2 rfl) (.pointer (some ⟨W.heap.size,0,none⟩))).setCell (p:=⟨A.rg,n*5+4,none⟩) (fun _=>(hR1 _).2 rfl) (.bool true)
 have S2:=close2 (M:=[partTh A.rg 30 ((A.withRd n W.heap.size).item (v.setCl n ⟨⟨false,0,0⟩,[],true⟩))]) hO (SepL.one ⟨hR1,hP.congr fun i hi=>?_⟩) (fun k hk=>.inl hk)
 ·refine ⟨?_,X.ex,X.lo,X.rdy,X.rule⟩
  have e:(fun k=>((v.setCl n ⟨⟨false,0,0⟩,[],true⟩).cl k).left)=fun c=>if c=n then [] else (v.cl c).left:=by
   funext c
   unfold VSt.setCl
   by_cases e:c=n
   ·simp only [e,if_true]
   ·simp only [e,if_false]
  have e2:vList (A.withRd n W.heap.size) (v.setCl n ⟨⟨false,0,0⟩,[],true⟩)=[partTh A.vb 13 (A.head v),partTh A.rg 30 ((A.withRd n W.heap.size).item (v.setCl n ⟨⟨false,0,0⟩,[],true⟩)),flTh A.fa v.f,labTh (inOb A.ip v.q v.turn),labTh (dkOb A.dp v.d),rdsTh (A.withRd n W.heap.size).rd (fun c=>if c=n then [] else (v.cl c).left)]:=by
   unfold vList
   rw [e]
   rfl
  rw [e2]
  exact S2
 ·show (if i=n*5+4 then _ else if i=n*5+3 then _ else if i=n*5+2 then _ else if i=n*5+1 then _ else if i=n*5 then _ else A.item v i)=_
  rw [item_setCl]
  by_cases hq:i / 5=n
  ·rw [if_pos hq]
   have hr:(A.withRd n W.heap.size).rd n=W.heap.size:=if_pos rfl
   rw [hr]
   have h5:i % 5=0∨i % 5=1∨i % 5=2∨i % 5=3∨i % 5=4:=by omega
   rcases h5 with h|h|h|h|h
   ·rw [if_neg (by omega),if_neg (by omega),if_neg (by omega),if_neg (by omega),if_pos (by omega),h];rfl
   ·rw [if_neg (by omega),if_neg (by omega),if_neg (by omega),if_pos (by omega),h];rfl
   ·rw [if_neg (by omega),if_neg (by omega),if_pos (by omega),h];rfl
   ·rw [if_neg (by omega),if_pos (by omega),h];rfl
   ·rw [if_pos (by omega),h];rfl
  ·rw [if_neg hq,if_neg (by omega),if_neg (by omega),if_neg (by omega),if_neg (by omega),if_neg (by omega)]
   unfold VA.item
   rw [show (A.withRd n W.heap.size).rd (i / 5)=A.rd (i / 5) from if_neg hq]
theorem VX.setClientB (X:VX E w0 F w A v M W) {n:Nat} (hn:n<6) :
  VX E w0 F w (A.withRd n W.heap.size) (v.setCl n ⟨⟨false,0,0⟩,[],true⟩) M ((((((W.setCell ⟨A.rg,n*5,none⟩ (.bool false)).setCell ⟨A.rg,n*5+1,none⟩ (.int .i64 0)).setCell ⟨A.rg,n*5+2,none⟩ (.int .i64 0)).setCell ⟨A.rg,n*5+3,none⟩ (.pointer (some ⟨W.heap.size,0,none⟩))).setCell ⟨A.rg,n*5+4,none⟩ (.bool true)).alloc (.cells #[.string ⟨#[]⟩] 104)):=by
 have h:=X.setClient hn
 have hl:=X.rowP.lt
 rw [World.setCell_alloc_past _ _ _ _ hl,World.setCell_alloc_past _ _ _ _ (by simpa [World.setCell] using hl),World.setCell_alloc_past _ _ _ _ (by simpa [World.setCell] using hl),World.setCell_alloc_past _ _ _ _ (by simpa [World.setCell] using hl),World.setCell_alloc_past _ _ _ _ (by simpa [World.setCell] using hl)] at h
 exact h
theorem VX.tock (X:VX E w0 F w A v M W):VX E w0 F w A { v with now:=v.now+1 } M (W.setCell ⟨A.vb,10,none⟩ (.int .i64 ((v.now+1:Nat):Int))) :=
 X.setHead 10 _ _ (fun i hi=>by
  by_cases e:i=10
  ·subst e;rfl
  ·rw [if_neg e];unfold VA.head;simp only [e,if_false]) ⟨rfl,rfl,rfl,rfl,rfl,rfl⟩
theorem VX.downed (X:VX E w0 F w A v M W):VX E w0 F w A { v with down:=true } M (W.setCell ⟨A.vb,12,none⟩ (.bool true)) :=
 X.setHead 12 _ _ (fun i hi=>by
  by_cases e:i=12
  ·subst e;rfl
  ·rw [if_neg e]
   have h:i=0∨i=1∨i=2∨i=3∨i=4∨i=5∨i=6∨i=7∨i=8∨i=9∨i=10∨i=11:=by omega
   rcases h with rfl|rfl|rfl|rfl|rfl|rfl|rfl|rfl|rfl|rfl|rfl|rfl<;>rfl) ⟨rfl,rfl,rfl,rfl,rfl,rfl⟩
theorem VX.append (X:VX E w0 F w A v M W) (s:List UInt8) (hm:s.length≤maxLen) :
  Calls Tryz.prog 57 #[.pointer (some ⟨A.dp,0,none⟩),.string ⟨s.toArray⟩] W fun e w'=>e=.returned (errV E (v.d.appE s))∧VX E w0 F w A { v with d:=v.d.app s } M w' :=
 X.disk fun own hA hn=>append_any hA s hm E (X.errs (by decide)) (hn _ (X.low (L:=allE) (fun _ h=>h) ⟨9,by decide,rfl⟩))
set_option maxRecDepth 100000 in
set_option maxHeartbeats 16000000 in
theorem VX.tick (X:VX E w0 F w A v M W) (hO:VOk v) (ht:Tab w0) (hnow:v.now≤100000) :
  Calls Tryz.prog 16 #[.pointer (some ⟨A.vb,0,none⟩)] W fun e w'=>∃ rd u,e=.returned u∧VX E w0 F w { A with rd:=rd } (tickR v).2 (rdTh (rrowRd (tickR v).1 u)::M) w':=by
 obtain ⟨⟨c6,c7,c8,c9,c10,c11,c12,c0⟩,hvb,hrg⟩:=X.cells
 have hfz:=X.free.1
 have HX:=Lib.hid X
 cases hd:v.down with
 | true =>
  have hf:tickR v=([],v):=by unfold tickR;rw [if_pos hd]
  rw [hf]
  rw [hd] at c12
  clear hf X
  go_enter Tryz.func16,Tryz.ntmps16
  go_wp2_with fail
  all_goals go_ret
  all_goals exact ⟨A.rd,_,rfl,HX.out.addRow (by repeat (first|exact Ex.refl _|refine Ex.alloc ?_ _|refine Ex.ext ?_ _ _|refine Ex.drew ?_|refine Ex.drewN ?_ _)) (rrow_nil _) (fun g hg=>by cases hg)⟩
 | false =>
  have HNO:=Lib.hid (fun h3=>tickR_no (v:=v) hd h3)
  have HBD:=Lib.hid (fun h3 hb=>tickR_bad (v:=v) hd h3 hb)
  have HBT:=Lib.hid (fun h3 hb=>tickR_bat (v:=v) hd h3 hb)
  have HD:=Lib.hid hd
  rw [hd] at c12
  have HOK:=Lib.hid hO.tock
  have HTB:=Lib.hid ht
  have hWs:=X.tock
  have HWS:=Lib.hid hWs
  have hwn:IntKind.i64.wrap ((v.now:Int)+1)=((v.now+1:Nat):Int):=by rw [IntWalk.i64_in _ (by omega)];rfl
  clear hO ht X hWs hd
  generalize tickR v=res at *
  go_enter Tryz.func16,Tryz.ntmps16
  go_upto_region 4 with fail
  refine wp_world (R:=fun W'=>VX E w0 F w A { v with now:=v.now+1 } M W') HWS.out ?_
  clear c6 c7 c8 c9 c10 c11 c12 c0 hvb hrg hfz HWS hwn HX
  rintro W1 hX1
  have HX1:=Lib.hid hX1
  obtain ⟨⟨_,c7,_⟩,hvb,hrg⟩:=hX1.cells
  clear hX1
  go_wp2_with fail
  go_loopw [23] (fun i wr=>∃ (k:Nat) (rd:Nat→Nat),k≤6∧i=.int .i64 (k:Int)∧VX E w0 F w { A with rd:=rd } ((List.range k).foldl (lateStep (v.now+1)) { v with now:=v.now+1 }) M wr) (fun i _=>6 - (intOf i).toNat)
  case atStart=>exact ⟨0,A.rd,by omega,rfl,HX1.out.later (by repeat (first|exact Ex.refl _|refine Ex.alloc ?_ _|refine Ex.ext ?_ _ _|refine Ex.drew ?_|refine Ex.drewN ?_ _))⟩
  case round =>
   obtain ⟨k,rd,hk,rfl,hX⟩:=hrel
   clear c7 hvb hrg HX1
   by_cases hlt:k<6
   ·have hk6:(k:Int)<6:=by omega
    have hok:VOk ((List.range k).foldl (lateStep (v.now+1)) { v with now:=v.now+1 }):=fold_keep (P:=VOk) (f:=lateStep (v.now+1)) (fun _ n hp=>hp.late _ n) _ HOK.out
    have hnk:((List.range k).foldl (lateStep (v.now+1)) { v with now:=v.now+1 }).now=v.now+1:=fold_keep (P:=fun x:VSt=>x.now=v.now+1) (f:=lateStep (v.now+1)) (fun x n hx=>(late_keep (v.now+1) n x).2.1.trans hx) _ rfl
    have HST:=Lib.hid (show (List.range (k+1)).foldl (lateStep (v.now+1)) { v with now:=v.now+1 }=lateStep (v.now+1) ((List.range k).foldl (lateStep (v.now+1)) { v with now:=v.now+1 }) k by rw [List.range_succ,List.foldl_append];rfl)
    obtain ⟨hs1,hs2,hs3⟩:=hok.sess k hlt
    rw [hnk] at hs3
    have HNK:=Lib.hid hnk
    clear hok hnk
    generalize ((List.range k).foldl (lateStep (v.now+1)) { v with now:=v.now+1 })=vk at *
    obtain ⟨⟨_,c7,c8,_,c10,_⟩,hvb,hrg⟩:=hX.cells
    rw [HNK.out] at c10
    obtain ⟨k0,k1,k2,k3,k4⟩:=hX.cli hlt
    have hfz:=hX.free.2
    have hne:=hX.vbrg
    simp only at c7 c8 c10 hvb hrg k0 k1 k2 k3 k4 hfz hne
    have HX:=Lib.hid hX
    have HLT:=Lib.hid (fun W=>sessLate_any (vk.cl k).s ((v.now+1:Nat):Int) W (by omega) (by omega))
    clear hX
    cases hl:(vk.cl k).s.late ((v.now+1:Nat):Int) with
    | false =>
     rw [hl] at HLT
     have hst:lateStep (v.now+1) vk k=vk:=by unfold lateStep;rw [if_neg (by rw [hl];decide)]
     rw [hst] at HST
     clear hst hl
     go_upto_region 8 with fail
     go_region_with (go_at_call 53;refine (HLT.out _).mono ?_;rintro e w5 ⟨rfl,l5,d5,rfl⟩)
     all_goals go_wp2_with fail
     all_goals
      go_roundw
      case measure=>simp [intOf];omega
      case rel=>exact ⟨k+1,rd,by omega,by go_num,by rw [HST.out];exact HX.out.later (by repeat (first|exact Ex.refl _|refine Ex.alloc ?_ _|refine Ex.ext ?_ _ _|refine Ex.drew ?_|refine Ex.drewN ?_ _))⟩
    | true =>
     rw [hl] at HLT
     have hst:lateStep (v.now+1) vk k=(vk.setCl k ⟨⟨false,0,0⟩,[],true⟩).clear k:=by unfold lateStep;rw [if_pos hl]
     rw [hst] at HST
     clear hst hl
     go_upto_region 8 with fail
     go_region_with (go_at_call 53;refine (HLT.out _).mono ?_;rintro e w5 ⟨rfl,hx5⟩;have HX5:=Lib.hid (HX.out.later ((show Ex wr _ from (by repeat (first|exact Ex.refl _|refine Ex.alloc ?_ _|refine Ex.ext ?_ _ _|refine Ex.drew ?_|refine Ex.drewN ?_ _))).trans hx5));clear hx5)
     all_goals
      clear c7 c8 c10 hvb hrg k0 k1 k2 k3 k4 hfz hne HX HLT
      obtain ⟨⟨_,c7,c8,_⟩,hvb,hrg⟩:=HX5.out.cells
      obtain ⟨k0,k1,k2,k3,k4⟩:=HX5.out.cli hlt
      have hfz:=HX5.out.free.2
      simp only at c7 c8 hvb hrg k0 k1 k2 k3 k4 hfz
      go_upto_region 10 with fail
      refine wp_world (R:=fun W'=>VX E w0 F w { A with rd:=fun c=>if c=k then w5.heap.size else rd c } (vk.setCl k ⟨⟨false,0,0⟩,[],true⟩) M W') (HX5.out.setClientB hlt) ?_
      clear c7 c8 hvb hrg k0 k1 k2 k3 k4 hfz HX5
      rintro W6 hX6
      have HX6:=Lib.hid hX6
      obtain ⟨⟨_,_,c8,_⟩,hvb,_⟩:=hX6.cells
      simp only at c8 hvb
      clear hX6
      go_wp2_with (go_at_call 54;refine (HX6.out.clearQ hlt).mono ?_;rintro e w7 ⟨rfl,hX7⟩;have HX7:=Lib.hid hX7;clear hX7)
      go_roundw
      case measure=>simp [intOf];omega
      case rel=>exact ⟨k+1,_,by omega,by go_num,by rw [HST.out];exact HX7.out.later (by repeat (first|exact Ex.refl _|refine Ex.alloc ?_ _|refine Ex.ext ?_ _ _|refine Ex.drew ?_|refine Ex.drewN ?_ _))⟩
   ·obtain rfl:k=6:=by omega
    have hX:VX E w0 F w { A with rd:=rd } (lateV v) M wr:=hX
    obtain ⟨q1,q2,q3,q4,q5,q6,q7⟩:=lateAll_keep v
    have hok:VOk (lateV v):=fold_keep (P:=VOk) (f:=lateStep (v.now+1)) (fun _ n hp=>hp.late _ n) _ HOK.out
    have HOK1:=Lib.hid hok
    clear hok HOK
    generalize lateV v=v1 at *
    have HX1:=Lib.hid hX
    obtain ⟨⟨_,c7,c8,c9,c10,c11,c12,_⟩,hvb,hrg⟩:=hX.cells
    have hfz:=hX.free.1
    rw [q2] at c10
    simp only at c7 c8 c9 c10 c11 c12 hvb hrg hfz
    have hnk:((v.now+1:Nat):Int)=(v.now:Int)+1:=rfl
    have hbat:v1.bat≤1000000:=by have:=HOK1.out.bat;omega
    have HD1:=Lib.hid (q4.trans HD.out)
    have HQ2:=Lib.hid q2
    have HQ3:=Lib.hid q3
    clear hX q1 q2 q3 q4 q5 q6 q7 hnk
    by_cases h3:(v.now+1) % 3=0
    ·have hm0:((v.now+1:Nat):Int) % 3=0:=by omega
     have hm1:((v.now:Int)+1) % 3=0:=by omega
     have hdl:=dropsL_len v1
     have hol:=outOf_length v1.q v1.turn 6
     have hoe:∀ a∈outOf v1.q v1.turn 6,a.err=0:=fun a ha=>by
      obtain ⟨d,hd,hm⟩:=out_mem 6 ha
      exact ((HOK1.out.que d hd).2 a hm).1
     have HOE:=Lib.hid hoe
     have hrl:=recOf_len v1 hbat
     have HDR:=Lib.hid (fun W' (hx:Ex wr W')=>(HX1.out.later hx).drain)
     have HFP:Hid (FP (tapedV v1).f):=Lib.hid ⟨HOK1.out.fl,HOK1.out.pinv⟩
     clear hoe
     go_upto_region 15 with (first
      | (go_at_call 55;refine (HDR.out _ (by repeat (first|exact Ex.refl _|refine Ex.alloc ?_ _|refine Ex.ext ?_ _ _|refine Ex.drew ?_|refine Ex.drewN ?_ _))).mono ?_;rintro e w3 ⟨au,rfl,hX3⟩;have HX3:=Lib.hid hX3;clear hX3)
      | (go_at_call 56;refine (HX3.out.drops).mono ?_;rintro e w5 ⟨du,rfl,hX5⟩))
     have HX5:Hid (VX E w0 F w { A with rd:=rd } (drainedV v1) (rdTh (irowRd ((dropsL v1).map fun (n:Nat)=>(n:Int)) du)::rdTh (arowRd (outOf v1.q v1.turn 6) au)::M) w5):=Lib.hid hX5
     clear hX5 HX3 HDR c7 c8 c9 c10 c11 c12 hvb hrg hfz
     obtain ⟨⟨_,_,_,c9,_,c11,_⟩,hvb,_⟩:=HX5.out.cells
     have c11:w5.cell? ⟨A.vb,11,none⟩=some (.int .i64 (v1.bat:Int)):=c11
     simp only at c9 hvb
     have HRC:Hid (∀ W',Ex w5 W'→Calls Tryz.prog 58 #[.int .i64 (v1.bat:Int),du,au] W' fun e w'=>e=.returned (.string ⟨(recOf v1).toArray⟩)∧Ex W' w'):=Lib.hid (fun W' hx =>
      vrecord_any v1.bat hbat (dropsL v1) (outOf v1.q v1.turn 6) du au E W' ((HTB.out.ex HX5.out.exW).ex hx) ((HX5.out.errs (by decide)).ex hx) (VX.row [] (HX5.out.later hx)) (VX.row [rdTh _] (HX5.out.later hx)) (dropsL_lt v1) (by omega) (by omega) HOE.out)
     have HAP:Hid (∀ W',Ex w5 W'→Calls Tryz.prog 57 #[.pointer (some ⟨A.dp,0,none⟩),.string ⟨(recOf v1).toArray⟩] W' fun e w'=>e=.returned (errV E (v1.d.appE (recOf v1)))∧VX E w0 F w { A with rd:=rd } (tapedV v1) (rdTh (irowRd ((dropsL v1).map fun (n:Nat)=>(n:Int)) du)::rdTh (arowRd (outOf v1.q v1.turn 6) au)::M) w'):=Lib.hid (fun W' hx=>(HX5.out.later hx).append (recOf v1) (by unfold maxLen;omega))
     by_cases he:v1.d.appE (recOf v1)=0
     ·have HBR:=Lib.hid (HBT.out h3 he)
      rw [he] at HAP
      simp only [errV_zero] at HAP
      go_region_held3 (fun W'=>W'.cell? ⟨A.vb,9,none⟩=some (.pointer (some ⟨A.dp,0,none⟩))∧W'.cell? ⟨A.vb,11,none⟩=some (.int .i64 (v1.bat:Int)))
       (first|(with_reducible exact ⟨c9,c11⟩)|(with_reducible exact ⟨d9,d11⟩)|(simp [go_sem,↓IntWalk.iteOmega,c9,c11];done))
       (first
        | (go_at_call 58;(refine (HRC.out _ ?_).mono ?_);(focus ((repeat (first|(with_reducible exact Ex.refl _)|(with_reducible refine Ex.alloc ?_ _)|(with_reducible refine Ex.ext ?_ _ _)|(with_reducible refine Ex.drew ?_)|(with_reducible refine Ex.drewN ?_ _)));done));rintro e w6 ⟨rfl,l6,d6,rfl⟩)
        | (go_at_call 57;(refine (HAP.out _ ?_).mono ?_);(focus ((repeat (first|(with_reducible exact Ex.refl _)|(with_reducible refine Ex.alloc ?_ _)|(with_reducible refine Ex.ext ?_ _ _)|(with_reducible refine Ex.drew ?_)|(with_reducible refine Ex.drewN ?_ _)));done));rintro e w7 ⟨rfl,hX7⟩;obtain ⟨⟨_,_,_,d9,_,d11,_⟩,hvb7,_⟩:=hX7.cells;have d11:w7.cell? ⟨A.vb,11,none⟩=some (.int .i64 (v1.bat:Int)):=d11;simp only at d9 hvb7;have HX7:=Lib.hid hX7;clear hX7))
      all_goals
       have HBA:Hid (Calls Tryz.prog 59 #[.pointer (some ⟨A.vb,0,none⟩),du,au] w7 _):=Lib.hid (HX7.out.batch HFP.out HOK1.out.rule.2 HOK1.out.seed (by exact hbat) (by rw [List.length_map];omega) (by omega))
       go_wp2_with (go_at_call 59;refine (HBA.out).mono ?_;rintro e w8 ⟨u,rfl,hX8⟩;have HX8:=Lib.hid hX8;clear hX8)
       all_goals go_ret
       all_goals
        refine ⟨rd,_,rfl,?_⟩
        rw [HBR.out]
        exact VX.less [rdTh _] (VX.less [rdTh _] (HX8.out.later (by repeat (first|exact Ex.refl _|refine Ex.alloc ?_ _|refine Ex.ext ?_ _ _|refine Ex.drew ?_|refine Ex.drewN ?_ _))))
     ·have HBR:=Lib.hid (HBD.out h3 he)
      simp only [errV_pos E _ he] at HAP
      go_region_held3 (fun W'=>W'.cell? ⟨A.vb,9,none⟩=some (.pointer (some ⟨A.dp,0,none⟩))∧W'.cell? ⟨A.vb,11,none⟩=some (.int .i64 (v1.bat:Int)))
       (first|(with_reducible exact ⟨c9,c11⟩)|(with_reducible exact ⟨d9,d11⟩)|(simp [go_sem,↓IntWalk.iteOmega,c9,c11];done))
       (first
        | (go_at_call 58;(refine (HRC.out _ ?_).mono ?_);(focus ((repeat (first|(with_reducible exact Ex.refl _)|(with_reducible refine Ex.alloc ?_ _)|(with_reducible refine Ex.ext ?_ _ _)|(with_reducible refine Ex.drew ?_)|(with_reducible refine Ex.drewN ?_ _)));done));rintro e w6 ⟨rfl,l6,d6,rfl⟩)
        | (go_at_call 57;(refine (HAP.out _ ?_).mono ?_);(focus ((repeat (first|(with_reducible exact Ex.refl _)|(with_reducible refine Ex.alloc ?_ _)|(with_reducible refine Ex.ext ?_ _ _)|(with_reducible refine Ex.drew ?_)|(with_reducible refine Ex.drewN ?_ _)));done));rintro e w7 ⟨rfl,hX7⟩;obtain ⟨⟨_,_,_,d9,_,d11,d12,_⟩,hvb7,_⟩:=hX7.cells;have hf7:=hX7.free.1;have d11:w7.cell? ⟨A.vb,11,none⟩=some (.int .i64 (v1.bat:Int)):=d11;simp only at d9 hvb7 d12 hf7;have HX7:=Lib.hid hX7;clear hX7))
      all_goals
       go_wp2_with fail
       all_goals go_ret
       all_goals
        refine ⟨rd,_,rfl,?_⟩
        rw [HBR.out]
        exact (VX.less [] (VX.less [] HX7.out.downed)).addRow (by repeat (first|exact Ex.refl _|refine Ex.alloc ?_ _|refine Ex.ext ?_ _ _|refine Ex.drew ?_|refine Ex.drewN ?_ _)) (rrow_nil _) (fun g hg=>by cases hg)
    ·have hm0:¬ ((v.now+1:Nat):Int) % 3=0:=by omega
     have hm1:¬ ((v.now:Int)+1) % 3=0:=by omega
     have HNR:=Lib.hid (HNO.out h3)
     go_wp2_with fail
     all_goals go_ret
     all_goals
      refine ⟨rd,_,rfl,?_⟩
      rw [HNR.out]
      exact HX1.out.addRow (by repeat (first|exact Ex.refl _|refine Ex.alloc ?_ _|refine Ex.ext ?_ _ _|refine Ex.drew ?_|refine Ex.drewN ?_ _)) (rrow_nil _) (fun g hg=>by cases hg)
end
end Go.Proofs.YtabbgpjofkaomaaGreatDoor
