import Derived.Test.YtmbboflakfokhaaGreatDoorMTrade0
import Derived.Test.YtmbboflakfokhaaGreatDoorMTrade1
import Derived.Test.YtmbboflakfokhaaGreatDoorMTrade2
import Derived.Test.YtmbboflakfokhaaGreatDoorJ32
/- What the document's Trade computes, whatever it is given. -/
set_option linter.unusedSimpArgs false
set_option linter.unusedVariables false
namespace Go.Proofs.YtmbboflakfokhaaGreatDoor
open Go.RowKit
section
variable {own:Nat→Nat} {i:Nat} {w:World} {p:Nat} {P:Pu}
theorem mtrade_any (h:PurseAt own i w p P) (item:Int) (b s:Lot) (price qty:Int) (hQ:PInv (tradeQ P item b s price qty)) :
    Calls Tryz.prog 54 #[.pointer (some ⟨p,0,none⟩),.int .i64 item,b.val,s.val,.int .i64 price,.int .i64 qty] w fun e w'=>e=.returned (.int .i64 (tradeE P item b s price qty:Nat))∧ObjTo own i i w (fun o w'=>PurseAt o i w' p (tradeQ P item b s price qty)) w':=by
  by_cases hf:fairE item b s price qty=0
  · have hz:=(fair_zero hf).1
    simp only [rightB,Bool.and_eq_true] at hz
    obtain ⟨i0,i2⟩:=inR_iff.1 hz.1
    have it3:item=0∨item=1∨item=2:=by omega
    rcases it3 with rfl|rfl|rfl
    · exact mtrade_fair0 h b s price qty hQ hf
    · exact mtrade_fair1 h b s price qty hQ hf
    · exact mtrade_fair2 h b s price qty hQ hf
  · exact mtrade_bad h item b s price qty hQ hf
end
end Go.Proofs.YtmbboflakfokhaaGreatDoor

/- The document's book: what Take computes. -/
set_option linter.unusedSimpArgs false
set_option linter.unusedVariables false
namespace Go.Proofs.YtmbboflakfokhaaGreatDoor
open Go.RowKit
theorem flat_put (l:List Lot) (k:Nat) (hk:k<l.length) (y:Lot):flat Lot.cells (l.set k y)=(((((flat Lot.cells l).set (k*5) (.int .i64 y.id)).set (k*5+1) (.int .i64 y.owner)).set (k*5+2) (.int .i64 y.side)).set (k*5+3) (.int .i64 y.price)).set (k*5+4) (.int .i64 y.qty):=by
  apply List.ext_getElem?
  intro n
  have e1:=flat_length lotc_len (l.set k y)
  have e2:=flat_length lotc_len l
  rw [List.length_set] at e1
  by_cases hn:n<l.length*5
  · have ha:n / 5<l.length:=by omega
    have hm:n / 5*5+n % 5=n:=by omega
    have h5:n % 5<5:=by omega
    have f1:=flat_get lotc_len (l.set k y) (n / 5) (by rw [List.length_set];exact ha) (n % 5) h5
    have f2:=flat_get lotc_len l (n / 5) ha (n % 5) h5
    rw [hm] at f1 f2
    rw [f1]
    by_cases hk5:n / 5=k
    · subst hk5
      have:n % 5=0∨n % 5=1∨n % 5=2∨n % 5=3∨n % 5=4:=by omega
      simp only [List.getElem_set_self]
      rcases this with h|h|h|h|h
      · rw [List.getElem?_set_ne (by omega),List.getElem?_set_ne (by omega),List.getElem?_set_ne (by omega),List.getElem?_set_ne (by omega),List.getElem?_set,if_pos (by omega),if_pos (by rw [e2];omega),h];rfl
      · rw [List.getElem?_set_ne (by omega),List.getElem?_set_ne (by omega),List.getElem?_set_ne (by omega),List.getElem?_set,if_pos (by omega),if_pos (by simp only [List.length_set];rw [e2];omega),h];rfl
      · rw [List.getElem?_set_ne (by omega),List.getElem?_set_ne (by omega),List.getElem?_set,if_pos (by omega),if_pos (by simp only [List.length_set];rw [e2];omega),h];rfl
      · rw [List.getElem?_set_ne (by omega),List.getElem?_set,if_pos (by omega),if_pos (by simp only [List.length_set];rw [e2];omega),h];rfl
      · rw [List.getElem?_set,if_pos (by omega),if_pos (by simp only [List.length_set];rw [e2];omega),h];rfl
    · rw [List.getElem?_set_ne (by omega),List.getElem?_set_ne (by omega),List.getElem?_set_ne (by omega),List.getElem?_set_ne (by omega),List.getElem?_set_ne (by omega),f2,List.getElem_set_ne (by omega)]
  · rw [List.getElem?_eq_none (by omega),List.getElem?_eq_none (by simp only [List.length_set];omega)]
theorem own_put {w:World} {base:Nat} {e:TypeId} {g n cap:Nat} {l:List Lot} {k:Nat} (y:Lot) (h:w.ownsRow base e 5 (.slice (some ⟨g,0,none⟩) n cap) n (flat Lot.cells l)) (hl:l.length=n) (hk:k<l.length) :
    (((((w.setCell ⟨g,k*5,none⟩ (.int .i64 y.id)).setCell ⟨g,k*5+1,none⟩ (.int .i64 y.owner)).setCell ⟨g,k*5+2,none⟩ (.int .i64 y.side)).setCell ⟨g,k*5+3,none⟩ (.int .i64 y.price)).setCell ⟨g,k*5+4,none⟩ (.int .i64 y.qty)).ownsRow base e 5 (.slice (some ⟨g,0,none⟩) n cap) n (flat Lot.cells (l.set k y)):=by
  rcases h.2 with ⟨e0,_⟩|⟨g',cap',cur,e0,hb,hg,hn,hm,hs,ht⟩
  · cases e0
  · obtain ⟨rfl,rfl⟩:g=g'∧cap=cap':=by cases e0;exact ⟨rfl,rfl⟩
    clear e0
    have h0:=heap_setCell_same _ g (k*5) _ _ (.int .i64 y.id) hg
    have h1:=heap_setCell_same _ g (k*5+1) _ _ (.int .i64 y.owner) h0
    have h2:=heap_setCell_same _ g (k*5+2) _ _ (.int .i64 y.side) h1
    have h3:=heap_setCell_same _ g (k*5+3) _ _ (.int .i64 y.price) h2
    have h4:=heap_setCell_same _ g (k*5+4) _ _ (.int .i64 y.qty) h3
    clear h0 h1 h2 h3
    generalize (((((w.setCell ⟨g,k*5,none⟩ (.int .i64 y.id)).setCell ⟨g,k*5+1,none⟩ (.int .i64 y.owner)).setCell ⟨g,k*5+2,none⟩ (.int .i64 y.side)).setCell ⟨g,k*5+3,none⟩ (.int .i64 y.price)).setCell ⟨g,k*5+4,none⟩ (.int .i64 y.qty))=w5 at h4 ⊢
    refine ⟨by rw [flat_length lotc_len,List.length_set,hl],.inr ⟨g,cap,_,rfl,hb,h4,hn,hm,by simp only [Array.size_setIfInBounds];exact hs,?_⟩⟩
    rw [flat_put l k hk y,← ht]
    simp only [Array.toList_setIfInBounds,List.take_set]
section
variable {own:Nat→Nat} {i:Nat} {w:World} {p:Nat} {l:List Lot}
set_option maxRecDepth 100000 in
theorem mtake_none (h:BookAt own i w p l) (id qty:Int) (hi:idIdx l id=-1) :
    Calls Tryz.prog 55 #[.pointer (some ⟨p,0,none⟩),.int .i64 id,.int .i64 qty] w fun e w'=>e=.returned (.int .i64 6)∧ObjTo own i i w (fun o w'=>BookAt o i w' p l) w':=by
  have HF:=Lib.hid (fun W (hx:Ex w W)=>mfind_any (h.later hx) id)
  rw [hi] at HF
  have H:=Lib.hid h
  clear hi h
  go_enter Tryz.func55,Tryz.ntmps55
  go_wp2_with (go_at_call 37;refine (HF.out _ (by repeat (first|exact Ex.refl _|refine Ex.alloc ?_ _|refine Ex.ext ?_ _ _|refine Ex.drew ?_|refine Ex.drewN ?_ _))).mono ?_;rintro e w1 ⟨rfl,l1,d1,rfl⟩)
  all_goals go_ret
  all_goals exact ⟨rfl,H.out.keep (by repeat (first|exact Ex.refl _|refine Ex.alloc ?_ _|refine Ex.ext ?_ _ _|refine Ex.drew ?_|refine Ex.drewN ?_ _))⟩
set_option maxRecDepth 100000 in
theorem mtake_bound (h:BookAt own i w p l) (id qty:Int) (k:Nat) (hk:k<l.length) (hi:idIdx l id=(k:Int)) (hq:qty<1∨l[k].qty<qty) :
    Calls Tryz.prog 55 #[.pointer (some ⟨p,0,none⟩),.int .i64 id,.int .i64 qty] w fun e w'=>e=.returned (.int .i64 2)∧ObjTo own i i w (fun o w'=>BookAt o i w' p l) w':=by
  have HF:=Lib.hid (fun W (hx:Ex w W)=>mfind_any (h.later hx) id)
  rw [hi] at HF
  have H:=Lib.hid h
  obtain ⟨ao,cap,c0,hc,hm,h0,hl,hr⟩:=h.slice
  have hp:=h.lt
  have hb:=h.1
  obtain ⟨_,_,_,hz⟩:=hl
  obtain ⟨g,off,rfl,hg,hcc⟩:=hz (by omega)
  have hzk:=hcc k hk
  have a0:=hzk 0 (by omega)
  have a1:=hzk 1 (by omega)
  have a2:=hzk 2 (by omega)
  have a3:=hzk 3 (by omega)
  have a4:=hzk 4 (by omega)
  simp only [Lot.cells,List.getElem?_cons_zero,List.getElem?_cons_succ,Nat.add_zero] at a0 a1 a2 a3 a4
  generalize l[k]=x at *
  clear hz hcc hzk hi h hr h0
  by_cases hq1:qty<1
  · clear hq
    go_enter Tryz.func55,Tryz.ntmps55
    go_wp2_with (go_at_call 37;refine (HF.out _ (by repeat (first|exact Ex.refl _|refine Ex.alloc ?_ _|refine Ex.ext ?_ _ _|refine Ex.drew ?_|refine Ex.drewN ?_ _))).mono ?_;rintro e w1 ⟨rfl,l1,d1,rfl⟩)
    all_goals go_ret
    all_goals exact ⟨rfl,H.out.keep (by repeat (first|exact Ex.refl _|refine Ex.alloc ?_ _|refine Ex.ext ?_ _ _|refine Ex.drew ?_|refine Ex.drewN ?_ _))⟩
  · have hq2:x.qty<qty:=by omega
    clear hq
    go_enter Tryz.func55,Tryz.ntmps55
    go_wp2_with (go_at_call 37;refine (HF.out _ (by repeat (first|exact Ex.refl _|refine Ex.alloc ?_ _|refine Ex.ext ?_ _ _|refine Ex.drew ?_|refine Ex.drewN ?_ _))).mono ?_;rintro e w1 ⟨rfl,l1,d1,rfl⟩)
    all_goals go_ret
    all_goals exact ⟨rfl,H.out.keep (by repeat (first|exact Ex.refl _|refine Ex.alloc ?_ _|refine Ex.ext ?_ _ _|refine Ex.drew ?_|refine Ex.drewN ?_ _))⟩
set_option maxRecDepth 100000 in
theorem mtake_all (h:BookAt own i w p l) (id qty:Int) (k:Nat) (hk:k<l.length) (hi:idIdx l id=(k:Int)) (hq:1≤qty) (hq2:qty=l[k].qty) :
    Calls Tryz.prog 55 #[.pointer (some ⟨p,0,none⟩),.int .i64 id,.int .i64 qty] w fun e w'=>e=.returned (.int .i64 0)∧ObjTo own i i w (fun o w'=>BookAt o i w' p (l.eraseIdx k)) w':=by
  have HF:=Lib.hid (fun W (hx:Ex w W)=>mfind_any (h.later hx) id)
  rw [hi] at HF
  have HO:=Lib.hid (fun W (hx:Ex w W)=>(moff_any (h.later hx) k hk).mono fun e w' k=>(⟨k.1,ObjTo.after hx k.2 (fun o o' ho hb=>hb.relabel ho)⟩:e=.returned (.tuple #[])∧ObjTo own i i w (fun o w'=>BookAt o i w' p (l.eraseIdx _)) w'))
  obtain ⟨ao,cap,c0,hc,hm,h0,hl,hr⟩:=h.slice
  have hp:=h.lt
  have hb:=h.1
  obtain ⟨_,_,_,hz⟩:=hl
  obtain ⟨g,off,rfl,hg,hcc⟩:=hz (by omega)
  have hzk:=hcc k hk
  have a0:=hzk 0 (by omega)
  have a1:=hzk 1 (by omega)
  have a2:=hzk 2 (by omega)
  have a3:=hzk 3 (by omega)
  have a4:=hzk 4 (by omega)
  simp only [Lot.cells,List.getElem?_cons_zero,List.getElem?_cons_succ,Nat.add_zero] at a0 a1 a2 a3 a4
  generalize l[k]=x at *
  have e1:(qty==x.qty)=true:=by simp [hq2]
  have k3:¬ qty<1:=by omega
  have k4:¬ x.qty<qty:=by omega
  clear hz hcc hzk hi h hr h0 hq2
  go_enter Tryz.func55,Tryz.ntmps55
  go_wp2_with (first
    | (go_at_call 37;refine (HF.out _ (by repeat (first|exact Ex.refl _|refine Ex.alloc ?_ _|refine Ex.ext ?_ _ _|refine Ex.drew ?_|refine Ex.drewN ?_ _))).mono ?_;rintro e w1 ⟨rfl,l1,d1,rfl⟩)
    | (go_at_call 72;refine (HO.out _ (by repeat (first|exact Ex.refl _|refine Ex.alloc ?_ _|refine Ex.ext ?_ _ _|refine Ex.drew ?_|refine Ex.drewN ?_ _))).mono ?_;rintro e w3 ⟨rfl,hT⟩))
  all_goals go_ret
  all_goals exact ⟨rfl,hT⟩
end
end Go.Proofs.YtmbboflakfokhaaGreatDoor

/- The document's book: what Take computes where less is taken. -/
set_option linter.unusedSimpArgs false
set_option linter.unusedVariables false
namespace Go.Proofs.YtmbboflakfokhaaGreatDoor
open Go.RowKit
theorem own_open {w:World} {base:Nat} {e:TypeId} {v:Value} {n:Nat} {xs:List Value} (h:w.ownsRow base e 5 v n xs) (hn:0<n):∃ g cap,v=.slice (some ⟨g,0,none⟩) n cap∧base≤g∧g<w.heap.size∧n≤cap∧cap≤maxLen∧∀ j,j<n*5→(∃ u,w.cell? ⟨g,j,none⟩=some u)∧w.frozen? ⟨g,j,none⟩=false:=by
  obtain ⟨h1,⟨_,h2⟩|⟨g,cap,cur,rfl,hb,hg,hc,hm,hs,ht⟩⟩:=h
  · omega
  · refine ⟨g,cap,rfl,hb,(Array.getElem?_eq_some_iff.1 hg).1,hc,hm,fun j hj=>?_⟩
    have:=Nat.mul_le_mul_right 5 hc
    refine ⟨⟨cur[j]'(by omega),?_⟩,by simp [World.frozen?,hg]⟩
    simp [World.cell?,hg]
section
variable {own:Nat→Nat} {i:Nat} {w:World} {p:Nat} {l:List Lot}
set_option maxRecDepth 100000 in
set_option maxHeartbeats 4000000 in
theorem mtake_less (h:BookAt own i w p l) (id qty:Int) (k:Nat) (hk:k<l.length) (hi:idIdx l id=(k:Int)) (hq:1≤qty) (hq2:qty<l[k].qty) :
    Calls Tryz.prog 55 #[.pointer (some ⟨p,0,none⟩),.int .i64 id,.int .i64 qty] w fun e w'=>e=.returned (.int .i64 0)∧ObjTo own i i w (fun o w'=>BookAt o i w' p (l.set k (l[k].less qty))) w':=by
  obtain ⟨i0,hi0,hz0,hz1,hz2⟩:=info_parts infoLotB
  have HF:=Lib.hid (fun W (hx:Ex w W)=>mfind_any (h.later hx) id)
  rw [hi] at HF
  obtain ⟨ao,cap,c0,hc,hm,h0,hl,hr⟩:=h.slice
  have hp:=h.lt
  have hb:=h.1
  have hwk:=h.2.1 l[k] (List.getElem_mem hk)
  have hlw:(l[k].less qty).wf:=⟨hwk.1,hwk.2.1,hwk.2.2.1,hwk.2.2.2.1,by
    have:=hwk.2.2.2.2
    simp [Lit.wf,IntKind.min,IntKind.max,IntKind.signed,IntKind.bits] at this
    show (Lit.int .i64 (l[k].qty - qty)).wf=true
    simp [Lit.wf,IntKind.min,IntKind.max,IntKind.signed,IntKind.bits];omega⟩
  have hqw:-9223372036854775808≤l[k].qty∧l[k].qty≤9223372036854775807:=by
    have:=hwk.2.2.2.2
    simp [Lit.wf,IntKind.min,IntKind.max,IntKind.signed,IntKind.bits] at this
    omega
  have HEND:=Lib.hid (fun (w3:World) (v:Value) (hx:Ex w w3) (hr:LotsRow w.heap.size (l.set k (l[k].less qty)) v w3)=>mset_end h hx hr (by rw [List.length_set];exact hb) (fun x hx=>by
    rcases List.mem_or_eq_of_mem_set hx with hx|rfl
    · exact h.2.1 x hx
    · exact hlw))
  have HFR:=Lib.hid (fun (w3:World) (hx:Ex w w3)=>mb_free (w3:=w3) h c0 (hx.below.block p hp))
  have HPUT:=Lib.hid (fun (w3:World) (g cap:Nat) (h:w3.ownsRow w.heap.size 44 5 (.slice (some ⟨g,0,none⟩) l.length cap) l.length (flat Lot.cells l))=>own_put (l[k].less qty) h rfl hk)
  obtain ⟨_,_,_,hz⟩:=hl
  obtain ⟨g,off,rfl,hg,hcc⟩:=hz (by omega)
  have HT:=Lib.hid (flat_length lotc_len l)
  have HC:=Lib.hid (fun (W:World) (hx:Ex w W)=>flat_cells (W:=W) (g:=g) (off:=off) (m:=l) (fun q hq j hj=>(hx.below.cell (p:=⟨g,off+q*5+j,none⟩) hg).trans (hcc q hq j hj)))
  have hzk:=hcc k hk
  have a0:=hzk 0 (by omega)
  have a1:=hzk 1 (by omega)
  have a2:=hzk 2 (by omega)
  have a3:=hzk 3 (by omega)
  have a4:=hzk 4 (by omega)
  simp only [Lot.cells,List.getElem?_cons_zero,List.getElem?_cons_succ,Nat.add_zero] at a0 a1 a2 a3 a4
  generalize l[k]=x at *
  have e1:(qty==x.qty)=false:=by simp;omega
  have k3:¬ qty<1:=by omega
  have k4:¬ x.qty<qty:=by omega
  clear hz hcc hzk hi h hr h0 hwk hlw
  go_enter Tryz.func55,Tryz.ntmps55
  go_upto_region 13 with (first
    | (go_at_call 37;refine (HF.out _ (by repeat (first|exact Ex.refl _|refine Ex.alloc ?_ _|refine Ex.ext ?_ _ _|refine Ex.drew ?_|refine Ex.drewN ?_ _))).mono ?_;rintro e w1 ⟨rfl,l1,d1,rfl⟩)
    | (at_builtin;refine wpList_append_own _ rfl (.tmp 42) (.tmp 46) 50 rfl w.heap.size 44 i0 _ 5 40 Tryz.underlying50 hi0 hz0 hz1 hz2 rfl (by decide) (.slice none 0 0) 0 [] rfl (World.ownsRow_nil _ _ _ _) ⟨g,off,none⟩ l.length cap (flat Lot.cells l) rfl HT.out (HC.out _ (by exact (by repeat (first|exact Ex.refl _|refine Ex.alloc ?_ _|refine Ex.ext ?_ _ _|refine Ex.drew ?_|refine Ex.drewN ?_ _)))) (lot_one _) (by unfold maxLen;omega) (by omega) (by simp [go_sem];omega) ?_;intro v1 w3 hown hgrow hnil))
  rw [Nat.zero_add,List.nil_append] at hown
  have hx3:Ex w w3:=Ex.of (Below.grown (Ex.below (by exact (by repeat (first|exact Ex.refl _|refine Ex.alloc ?_ _|refine Ex.ext ?_ _ _|refine Ex.drew ?_|refine Ex.drewN ?_ _)))) hgrow (by simp [go_sem];omega) (fun b hb=>by cases hb))
  have hbx:w3.heap[w.heap.size+l1.length]?=some (.cells #[.int .i64 x.id,.int .i64 x.owner,.int .i64 x.side,.int .i64 x.price,.int .i64 (x.qty - qty)] 44):=(hgrow.block _ (by simp [go_sem]) (by simp [Value.ownBlock])).trans (alloc_top (by simp [go_sem]))
  have HX3:=Lib.hid hx3
  obtain ⟨g1,cap1,rfl,hg1,hg2,hg3,hg4,hcl⟩:=own_open hown (by omega)
  obtain ⟨f3,p3,c3⟩:=HFR.out _ hx3
  have b0:w3.cell? ⟨w.heap.size+l1.length,0,none⟩=some (.int .i64 x.id):=by simp [World.cell?,hbx]
  have b1:w3.cell? ⟨w.heap.size+l1.length,1,none⟩=some (.int .i64 x.owner):=by simp [World.cell?,hbx]
  have b2:w3.cell? ⟨w.heap.size+l1.length,2,none⟩=some (.int .i64 x.side):=by simp [World.cell?,hbx]
  have b3:w3.cell? ⟨w.heap.size+l1.length,3,none⟩=some (.int .i64 x.price):=by simp [World.cell?,hbx]
  have b4:w3.cell? ⟨w.heap.size+l1.length,4,none⟩=some (.int .i64 (x.qty - qty)):=by simp [World.cell?,hbx]
  obtain ⟨⟨u0,y0⟩,z0⟩:=hcl (k*5) (by omega)
  obtain ⟨⟨u1,y1⟩,z1⟩:=hcl (k*5+1) (by omega)
  obtain ⟨⟨u2,y2⟩,z2⟩:=hcl (k*5+2) (by omega)
  obtain ⟨⟨u3,y3⟩,z3⟩:=hcl (k*5+3) (by omega)
  obtain ⟨⟨u4,y4⟩,z4⟩:=hcl (k*5+4) (by omega)
  have hpg:p≠g1:=by omega
  have HFIN:=Lib.hid (HEND.out _ _ (Ex.of ((((((hx3.below.setCell (p:=⟨g1,k*5,none⟩) (by exact hg1) (.int .i64 x.id)).setCell (p:=⟨g1,k*5+1,none⟩) (by exact hg1) (.int .i64 x.owner)).setCell (p:=⟨g1,k*5+2,none⟩) (by exact hg1) (.int .i64 x.side)).setCell (p:=⟨g1,k*5+3,none⟩) (by exact hg1) (.int .i64 x.price)).setCell (p:=⟨g1,k*5+4,none⟩) (by exact hg1) (.int .i64 (x.qty - qty))))) (by
    have:=HPUT.out _ _ _ hown
    unfold LotsRow
    rw [List.length_set]
    exact this))
  clear hbx hcl hown hgrow hnil hx3 HPUT HEND
  go_wp2_with fail
  all_goals go_ret
  all_goals exact ⟨rfl,HFIN.out⟩
theorem mtake_any (h:BookAt own i w p l) (id qty:Int) :
    Calls Tryz.prog 55 #[.pointer (some ⟨p,0,none⟩),.int .i64 id,.int .i64 qty] w fun e w'=>e=.returned (.int .i64 ((takeR l id qty).1:Int))∧ObjTo own i i w (fun o w'=>BookAt o i w' p (takeR l id qty).2) w':=by
  rcases idIdx_cases l id with ⟨k,hk,hi,_,hf⟩|⟨hi,_⟩
  · have e:takeR l id qty=if qty<1∨l[k].qty<qty then (2,l) else if qty=l[k].qty then (0,l.eraseIdx k) else (0,l.set k (l[k].less qty)):=by
      unfold takeR
      rw [hf]
      simp only [List.getElem?_eq_getElem hk]
    rw [e]
    by_cases h1:qty<1∨l[k].qty<qty
    · rw [if_pos h1];exact mtake_bound h id qty k hk hi h1
    · rw [if_neg h1]
      by_cases h2:qty=l[k].qty
      · rw [if_pos h2];exact mtake_all h id qty k hk hi (by omega) h2
      · rw [if_neg h2];exact mtake_less h id qty k hk hi (by omega) (by omega)
  · have e:takeR l id qty=(6,l):=by unfold takeR;rw [find_none hi]
    rw [e]
    exact mtake_none h id qty hi
end
end Go.Proofs.YtmbboflakfokhaaGreatDoor
