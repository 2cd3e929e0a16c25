import Derived.Test.YtmbboflakfokhaaGreatDoorJ3
import Derived.Test.YtmbboflakfokhaaGreatDoorJ26
import Derived.Test.YtmbboflakfokhaaGreatDoorLotErr
import Derived.Deep.RegionLaw
import Derived.Test.YtmbboflakfokhaaGreatDoorJ7
/- The document's book: what Find and Add compute. -/
set_option linter.unusedSimpArgs false
set_option linter.unusedVariables false
namespace Go.Proofs.YtmbboflakfokhaaGreatDoor
open Go.RowKit
theorem rowAt_of_owned {w:World} {base:Nat} {e:TypeId} {size:Nat} {v:Value} {n:Nat} {xs:List Value} (h:w.ownsRow base e size v n xs):RowAt w e size v n xs:=by
  obtain ⟨h1,h2|⟨g,cap,cur,rfl,hg,hh,hc,hm,hs,ht⟩⟩:=h
  · exact ⟨h1,.inl h2⟩
  · exact ⟨h1,.inr ⟨g,0,cap,cur,rfl,⟨(0,0),hh,Unmarked.plain _⟩,hc,hm,by rw [Nat.zero_add,hs];exact Nat.le_refl _,by rw [List.drop_zero];exact ht⟩⟩
theorem row_form {w:World} {e:TypeId} {size:Nat} {v:Value} {n:Nat} {xs:List Value} (h:RowAt w e size v n xs):∃ ao cap,v=.slice ao n cap:=by
  obtain ⟨_,⟨rfl,h2⟩|⟨g,off,cap,cur,rfl,_⟩⟩:=h
  · exact ⟨none,0,by rw [h2]⟩
  · exact ⟨_,_,rfl⟩
section
variable {own:Nat→Nat} {i:Nat} {w:World} {p:Nat} {l:List Lot}
theorem mb_turn {e:TypeId} {v:Value} {n:Nat} {xs:List Value} (h3:OneAt own i w p 1 (fun _=>.nilIface) e 5 v n xs) {w3:World} {v':Value} {n':Nat} {xs':List Value} (h1:w3.os=w.os) (h2:w3.tape=w.tape) (h4:w3.output=w.output) (h5:w.heap.size≤w3.heap.size)
    (hk:∀ b,b<w.heap.size→v.ownBlock≠some b→w3.heap[b]?=w.heap[b]?) (hv:RowAt w3 e 5 v' n' xs') (hb:∀ g,v'.ownBlock=some g→v.ownBlock=some g∨w.heap.size≤g) :
    Kp own 1 i w (w3.setCell ⟨p,0,none⟩ v')∧OneAt (lab own w.heap.size ((w3.setCell ⟨p,0,none⟩ v').heap.size - w.heap.size) i) i (w3.setCell ⟨p,0,none⟩ v') p 1 (fun _=>.nilIface) e 5 v' n' xs':=by
  have hp:=h3.lt
  have hpb:=h3.2.2.2
  obtain ⟨o,g1,g2,g3,g4⟩:=h3.pick
  obtain ⟨t,hrow⟩:=h3.main
  have hne:∀ g,v'.ownBlock=some g→g≠p:=fun g hg e=>by
    rcases hb g hg with h|h
    · exact hpb (e▸h)
    · omega
  have hK:Kp o 2 1 w (w3.setCell ⟨p,0,none⟩ v'):=⟨h1,h2,h4,by simpa [World.setCell] using h5,fun b hb' hlab=>by
    have e1:b≠p:=fun e=>hlab (by rw [e,g2])
    have e2:v.ownBlock≠some b:=fun e=>hlab (by rw [g1.2 b e])
    rw [Below.heap_setCell w3 ⟨p,0,none⟩ v' b (by simpa using e1)]
    exact hk b hb' e2⟩
  refine h3.turned (n':=n') (xs':=xs') g2 g4 hK ⟨t,?_⟩ (hv.of_block fun g hg=>Below.heap_setCell _ _ _ _ (by simpa using hne g hg)) (fun g hg=>?_)
  · have:=(hrow.of_block (w':=w3) (hk p hp hpb)).set 0 v'
    exact this.congr fun j hj=>by
      obtain rfl:j=0:=by omega
      simp
  · rcases hb g hg with h|h
    · exact .inl (g1.2 g h)
    · exact .inr h
theorem mb_free {w3:World} (h:BookAt own i w p l) {v:Value} (hc:w.cell? ⟨p,0,none⟩=some v) (hk:w3.heap[p]?=w.heap[p]?):w3.frozen? ⟨p,0,none⟩=false∧p<w3.heap.size∧w3.cell? ⟨p,0,none⟩=some v:=by
  obtain ⟨_,_,v,h3⟩:=h
  obtain ⟨t,hrow⟩:=h3.main
  have:=hrow.of_block (w':=w3) hk
  exact ⟨this.frozen 0,this.lt,(World.cell?_of_block (w:=w) (w':=w3) hk).trans hc⟩
set_option maxRecDepth 100000 in
theorem mfind_any (h:BookAt own i w p l) (id:Int):Calls Tryz.prog 37 #[.pointer (some ⟨p,0,none⟩),.int .i64 id] w fun e w'=>e=.returned (.int .i64 (idIdx l id))∧Ex w w':=by
  obtain ⟨ao,cap,c0,hc,hm,h0,hl,hr⟩:=h.slice
  have hp:=h.lt
  have hb:=h.1
  obtain ⟨_,_,_,hz⟩:=hl
  have HZ:=Lib.hid hz
  clear h hr h0 hz
  go_enter Tryz.func37,Tryz.ntmps37
  go_wp2_with fail
  go_loopw [5] (fun i wr=>∃ (k:Nat),k≤l.length∧i=.int .i64 (k:Int)∧(∀ x∈l.take k,x.id≠id)∧Ex w wr) (fun i _=>l.length - (intOf i).toNat)
  case atStart=>exact ⟨0,Nat.zero_le _,rfl,fun x hx=>by simp at hx,Ex.refl _⟩
  case round =>
    obtain ⟨k,hk,rfl,hno,l1,d1,rfl⟩:=hrel
    have HNO:=Lib.hid hno
    clear hno
    by_cases hlt:k<l.length
    · obtain ⟨g,off,rfl,hg,hcc⟩:=HZ.out (by omega)
      have a0:=hcc k hlt 0 (by omega)
      simp only [Lot.cells,List.getElem?_cons_zero,Nat.add_zero] at a0
      by_cases he:l[k].id=id
      · have HI:Hid (idIdx l id=(k:Int)):=Lib.hid (by
          unfold idIdx
          have:l.findIdx? (fun y=>y.id==id)=some k:=by
            rw [List.findIdx?_eq_some_iff_getElem]
            refine ⟨hlt,by simp [he],fun j hj=>?_⟩
            have:=HNO.out l[j] (List.mem_iff_getElem.2 ⟨j,by rw [List.length_take];omega,by rw [List.getElem_take]⟩)
            simpa using this
          rw [this])
        have e1:(l[k].id==id)=true:=by simp [he]
        clear he hcc
        generalize l[k]=x at *
        go_wp2_with fail
        all_goals go_ret
        all_goals exact ⟨by rw [HI.out];rfl,(by repeat (first|exact Ex.refl _|refine Ex.alloc ?_ _|refine Ex.ext ?_ _ _|refine Ex.drew ?_|refine Ex.drewN ?_ _))⟩
      · have e1:(l[k].id==id)=false:=by simpa using he
        have HNN:Hid (∀ x∈l.take (k+1),x.id≠id):=Lib.hid (fun x hx=>by
          rw [List.take_succ_eq_append_getElem hlt,List.mem_append,List.mem_singleton] at hx
          rcases hx with hx|rfl
          · exact HNO.out x hx
          · exact he)
        clear he hcc
        generalize l[k]=x at *
        go_wp2_with fail
        all_goals
          go_roundw
          case measure=>simp [intOf];omega
          case rel=>exact ⟨k+1,by omega,by go_num,HNN.out,(by repeat (first|exact Ex.refl _|refine Ex.alloc ?_ _|refine Ex.ext ?_ _ _|refine Ex.drew ?_|refine Ex.drewN ?_ _))⟩
    · obtain rfl:k=l.length:=by omega
      have HI:Hid (idIdx l id=-1):=Lib.hid (by
        unfold idIdx
        have:l.findIdx? (fun y=>y.id==id)=none:=by
          rw [List.findIdx?_eq_none_iff]
          intro x hx
          have:=HNO.out x (by rw [List.take_length];exact hx)
          simpa using this
        rw [this])
      go_wp2_with fail
      all_goals go_ret
      all_goals exact ⟨by rw [HI.out];rfl,(by repeat (first|exact Ex.refl _|refine Ex.alloc ?_ _|refine Ex.ext ?_ _ _|refine Ex.drew ?_|refine Ex.drewN ?_ _))⟩
theorem madd_end (h:BookAt own i w p l) {v:Value} (hc:w.cell? ⟨p,0,none⟩=some v) (x:Lot) (hx:x.wf) (hf:l.length<60) {W w3:World} {v':Value} (hW:Ex w W) (hr:RowAt w3 44 5 v' (l.length+1) (flat Lot.cells l++x.cells)) (hg:W.grownBy w3 v.ownBlock) (hb:v'.ownBlock=v.ownBlock∨v'.ownBlock=some W.heap.size) :
    ObjTo own i i w (fun o w'=>BookAt o i w' p (l++[x])) (w3.setCell ⟨p,0,none⟩ v'):=by
  obtain ⟨h1,h2,v0,h3⟩:=h
  obtain rfl:v0=v:=Option.some.inj ((h3.cell0 (by decide)).symm.trans hc)
  have hs:=hW.below.size
  have hs3:=hg.size
  have hlt:=h3.2.1.1.lt
  have:=mb_turn h3 (w3:=w3) (v':=v') (n':=(l++[x]).length) (xs':=flat Lot.cells (l++[x])) (hg.os.trans hW.below.os) (hg.tape.trans hW.below.tape) (hg.output.trans hW.below.output) (by omega) (fun b hb' hne=>(hg.block b (by omega) (fun e=>hne e.symm)).trans (hW.below.block b hb'))
    (by rw [show (l++[x]).length=l.length+1 by simp,show flat Lot.cells (l++[x])=flat Lot.cells l++x.cells by rw [flat_append,flat_one]];exact hr) (fun g hgb=>by
      rcases hb with e|e
      · exact .inl (e▸hgb)
      · rw [hgb] at e;exact .inr (by have:=Option.some.inj e;omega))
  refine ObjTo.of this.1 ⟨by simp;omega,fun y hy=>?_,v',this.2⟩
  rw [List.mem_append,List.mem_singleton] at hy
  rcases hy with hy|rfl
  · exact h2 y hy
  · exact hx
end
end Go.Proofs.YtmbboflakfokhaaGreatDoor

/- The document's book: what Add computes. -/
set_option linter.unusedSimpArgs false
set_option linter.unusedVariables false
namespace Go.Proofs.YtmbboflakfokhaaGreatDoor
open Go.RowKit
section
variable {own:Nat→Nat} {i:Nat} {w:World} {p:Nat} {l:List Lot}
set_option maxRecDepth 100000 in
theorem madd_bad (h:BookAt own i w p l) (x:Lot) (hk:x.ok=false) :
    Calls Tryz.prog 39 #[.pointer (some ⟨p,0,none⟩),x.val] w fun e w'=>e=.returned (.int .i64 2)∧ObjTo own i i w (fun o w'=>BookAt o i w' p l) w':=by
  have HO:=Lib.hid (fun w=>mlotError_any x w)
  rw [hk] at HO
  simp only [Bool.false_eq_true,if_false] at HO
  have H:=Lib.hid h
  clear hk h
  go_enter Tryz.func39,Tryz.ntmps39
  go_wp2_with (go_at_call 36;refine (HO.out _).mono ?_;rintro e w1 ⟨rfl,l1,d1,rfl⟩)
  all_goals go_ret
  all_goals exact ⟨rfl,H.out.keep (by repeat (first|exact Ex.refl _|refine Ex.alloc ?_ _|refine Ex.ext ?_ _ _|refine Ex.drew ?_|refine Ex.drewN ?_ _))⟩
set_option maxRecDepth 100000 in
theorem madd_exist (h:BookAt own i w p l) (x:Lot) (hk:x.ok=true) (k:Nat) (hi:idIdx l x.id=(k:Int)) :
    Calls Tryz.prog 39 #[.pointer (some ⟨p,0,none⟩),x.val] w fun e w'=>e=.returned (.int .i64 7)∧ObjTo own i i w (fun o w'=>BookAt o i w' p l) w':=by
  have HO:=Lib.hid (fun w=>mlotError_any x w)
  rw [hk] at HO
  simp only [if_true] at HO
  have HF:=Lib.hid (fun W (hx:Ex w W)=>mfind_any (h.later hx) x.id)
  rw [hi] at HF
  have H:=Lib.hid h
  clear hk h hi
  go_enter Tryz.func39,Tryz.ntmps39
  go_wp2_with (first
    | (go_at_call 36;refine (HO.out _).mono ?_;rintro e w1 ⟨rfl,l1,d1,rfl⟩)
    | (go_at_call 37;refine (HF.out _ (by repeat (first|exact Ex.refl _|refine Ex.alloc ?_ _|refine Ex.ext ?_ _ _|refine Ex.drew ?_|refine Ex.drewN ?_ _))).mono ?_;rintro e w1 ⟨rfl,l2,d2,rfl⟩))
  all_goals go_ret
  all_goals exact ⟨rfl,H.out.keep (by repeat (first|exact Ex.refl _|refine Ex.alloc ?_ _|refine Ex.ext ?_ _ _|refine Ex.drew ?_|refine Ex.drewN ?_ _))⟩
set_option maxRecDepth 100000 in
theorem madd_full (h:BookAt own i w p l) (x:Lot) (hk:x.ok=true) (hi:idIdx l x.id=-1) (hf:60≤l.length) :
    Calls Tryz.prog 39 #[.pointer (some ⟨p,0,none⟩),x.val] w fun e w'=>e=.returned (.int .i64 8)∧ObjTo own i i w (fun o w'=>BookAt o i w' p l) w':=by
  obtain ⟨ao,cap,c0,hc,hm,h0,hl,hr⟩:=h.slice
  have hp:=h.lt
  have hb:=h.1
  have HO:=Lib.hid (fun w=>mlotError_any x w)
  rw [hk] at HO
  simp only [if_true] at HO
  have HF:=Lib.hid (fun W (hx:Ex w W)=>mfind_any (h.later hx) x.id)
  rw [hi] at HF
  have H:=Lib.hid h
  have k2:(60:Int)≤(l.length:Int):=by omega
  clear hk h hi hl hr h0
  go_enter Tryz.func39,Tryz.ntmps39
  go_wp2_with (first
    | (go_at_call 36;refine (HO.out _).mono ?_;rintro e w1 ⟨rfl,l1,d1,rfl⟩)
    | (go_at_call 37;refine (HF.out _ (by repeat (first|exact Ex.refl _|refine Ex.alloc ?_ _|refine Ex.ext ?_ _ _|refine Ex.drew ?_|refine Ex.drewN ?_ _))).mono ?_;rintro e w1 ⟨rfl,l2,d2,rfl⟩))
  all_goals go_ret
  all_goals exact ⟨rfl,H.out.keep (by repeat (first|exact Ex.refl _|refine Ex.alloc ?_ _|refine Ex.ext ?_ _ _|refine Ex.drew ?_|refine Ex.drewN ?_ _))⟩
set_option maxRecDepth 100000 in
set_option maxHeartbeats 8000000 in
theorem madd_ok (h:BookAt own i w p l) (x:Lot) (hx:x.wf) (hk:x.ok=true) (hi:idIdx l x.id=-1) (hf:l.length<60) :
    Calls Tryz.prog 39 #[.pointer (some ⟨p,0,none⟩),x.val] w fun e w'=>e=.returned (.int .i64 0)∧ObjTo own i i w (fun o w'=>BookAt o i w' p (l++[x])) w':=by
  have HO:=Lib.hid (fun w=>mlotError_any x w)
  rw [hk] at HO
  simp only [if_true] at HO
  have HF:=Lib.hid (fun W (hx:Ex w W)=>mfind_any (h.later hx) x.id)
  rw [hi] at HF
  have H:=Lib.hid h
  obtain ⟨ao,cap,c0,hc,hm,h0,hl,hr⟩:=h.slice
  have HR:=Lib.hid hr
  have hp:=h.lt
  have HX:=Lib.hid hx
  have HC:=Lib.hid c0
  obtain ⟨i0,hi0,hz0,hz1,hz2⟩:=info_parts infoLotB
  have k2:¬ (60:Int)≤(l.length:Int):=by omega
  have hpb:Hid ((Value.slice ao l.length cap).ownBlock≠some p):=Lib.hid (by
    obtain ⟨_,_,v,h3⟩:=h
    have:=h3.cell0 (by decide)
    rw [c0] at this
    cases this
    exact h3.2.2.2)
  have HRX:=Lib.hid (fun W (hx:Ex w W)=>hr.of_block (w':=W) (fun g hg=>hx.below.block g (hr.lt g hg)))
  have HFR:=Lib.hid (fun (W w3:World) (hx:Ex w W) (hg:W.grownBy w3 (Value.slice ao l.length cap).ownBlock)=>mb_free (w3:=w3) h HC.out ((hg.block p (by have:=hx.below.size;omega) (fun e=>hpb.out e.symm)).trans (hx.below.block p hp)))
  clear hk hi h hx hl hr h0 hpb
  go_enter Tryz.func39,Tryz.ntmps39
  go_upto_region 8 with (first
    | (go_at_call 36;refine (HO.out _).mono ?_;rintro e w1 ⟨rfl,l1,d1,rfl⟩)
    | (go_at_call 37;refine (HF.out _ (by repeat (first|exact Ex.refl _|refine Ex.alloc ?_ _|refine Ex.ext ?_ _ _|refine Ex.drew ?_|refine Ex.drewN ?_ _))).mono ?_;rintro e w1 ⟨rfl,l2,d2,rfl⟩))
  generalize l1++l2=l3 at *
  have q0:p≠w.heap.size:=by omega
  have q1:p≠w.heap.size+1+l3.length:=by omega
  have q2:p<w.heap.size+1:=by omega
  have q3:p<w.heap.size+1+l3.length+1:=by omega
  have q4:w.heap.size<w.heap.size+1+l3.length+1:=by omega
  have q5:p<w.heap.size+1+l3.length:=by omega
  go_region_law
    ((refine step_append_keepK ?_ (.tmp 26) (.tmp 28) 50 50 ?_ 44 i0 _ 5 40 Tryz.underlying50 hi0 hz0 hz1 hz2 ?_ (.slice ao l.length cap) (.slice (some ⟨w.heap.size+1+l3.length,0,none⟩) 1 1) l.length 1 (flat Lot.cells l) (Lot.cells x) ?_ ?_ ?_ ?_ ?_ ?_ ?_);(focus rfl);(focus rfl);(focus rfl);(focus rfl);(focus (simp [go_sem];done));(focus exact HRX.out _ (by repeat (first|exact Ex.refl _|refine Ex.alloc ?_ _|refine Ex.ext ?_ _ _|refine Ex.drew ?_|refine Ex.drewN ?_ _)));(focus exact (Src.block Tryz.underlying50 1 1 (cs:=#[.int .i64 x.id,.int .i64 x.owner,.int .i64 x.side,.int .i64 x.price,.int .i64 x.qty]) (t:=44) (fr:=(0,0)) (heap_new (by simp [go_sem])) (by simp) (by simp [Value.oneCell'])));(focus (unfold maxLen;omega));(focus omega);intro v3 w3 h31 h32 h33 h35;have HEND:=Lib.hid (madd_end H.out HC.out x HX.out hf (by exact (by repeat (first|exact Ex.refl _|refine Ex.alloc ?_ _|refine Ex.ext ?_ _ _|refine Ex.drew ?_|refine Ex.drewN ?_ _))) h31 h32 h33);obtain ⟨f3,p3,c3⟩:=HFR.out _ w3 (by exact (by repeat (first|exact Ex.refl _|refine Ex.alloc ?_ _|refine Ex.ext ?_ _ _|refine Ex.drew ?_|refine Ex.drewN ?_ _))) h32;obtain ⟨ao3,cap3,rfl⟩:=row_form h31;clear h31 h32 h33 h35)
  all_goals go_wp2_with fail
  all_goals go_ret
  all_goals exact ⟨rfl,HEND.out⟩
theorem madd_any (h:BookAt own i w p l) (x:Lot) (hx:x.wf) :
    Calls Tryz.prog 39 #[.pointer (some ⟨p,0,none⟩),x.val] w fun e w'=>e=.returned (.int .i64 (addE l x:Int))∧ObjTo own i i w (fun o w'=>BookAt o i w' p (addL l x)) w':=by
  have hadd:∀ n,addE l x=n→n≠0→addL l x=l:=fun n hn h0=>by unfold addL;rw [if_neg (by omega)]
  cases hk:x.ok with
  | false =>
    have e:addE l x=2:=by simp [addE,hk]
    rw [hadd 2 e (by decide),e]
    exact madd_bad h x hk
  | true =>
    rcases idIdx_cases l x.id with ⟨k,hkl,hi,_⟩|⟨hi,_⟩
    · have e:addE l x=7:=by simp [addE,hk,hi]
      rw [hadd 7 e (by decide),e]
      exact madd_exist h x hk k hi
    · by_cases hf:60≤l.length
      · have e:addE l x=8:=by simp [addE,hk,hi,hf]
        rw [hadd 8 e (by decide),e]
        exact madd_full h x hk hi hf
      · have e:addE l x=0:=by simp [addE,hk,hi,hf]
        have e2:addL l x=l++[x]:=by unfold addL;rw [if_pos e]
        rw [e,e2]
        exact madd_ok h x hx hk hi (by omega)
end
end Go.Proofs.YtmbboflakfokhaaGreatDoor

/- The document's purse: its client's eight numbers stored at once. -/
set_option linter.unusedSimpArgs false
set_option linter.unusedVariables false
namespace Go.Proofs.YtmbboflakfokhaaGreatDoor
open Go.RowKit
def Pu.put (P:Pu) (c:Nat) (v:Nat→Int):Pu:=fun d j=>if d=c then v j else P d j
abbrev PRow (w:World) (p:Nat) (t:TypeId) (P:Pu):Prop:=w.rowIs p t 48 (fun n=>.int .i64 (P (n / 8) (n % 8)))
section
variable {own:Nat→Nat} {i:Nat} {w:World} {p:Nat} {P:Pu} {t:TypeId}
theorem PRow.cell (h:PRow w p t P) {c j:Nat} (hc:c<6) (hj:j<8):w.cell? ⟨p,c*8+j,none⟩=some (.int .i64 (P c j)):=by
  have h1:=World.rowIs.cell h (i:=c*8+j) (by omega)
  rw [h1]
  congr 2
  rw [show (c*8+j) / 8=c by omega,show (c*8+j) % 8=j by omega]
theorem PRow.setAll (h3:PRow w p t P) (c:Nat) (v:Nat→Int) :
    PRow ((((((((w.setCell ⟨p,c*8,none⟩ (.int .i64 (v 0))).setCell ⟨p,c*8+1,none⟩ (.int .i64 (v 1))).setCell ⟨p,c*8+2,none⟩ (.int .i64 (v 2))).setCell ⟨p,c*8+3,none⟩ (.int .i64 (v 3))).setCell ⟨p,c*8+4,none⟩ (.int .i64 (v 4))).setCell ⟨p,c*8+5,none⟩ (.int .i64 (v 5))).setCell ⟨p,c*8+6,none⟩ (.int .i64 (v 6))).setCell ⟨p,c*8+7,none⟩ (.int .i64 (v 7))) p t (P.put c v):=by
  refine ((((((((h3.set (c*8) _).set (c*8+1) _).set (c*8+2) _).set (c*8+3) _).set (c*8+4) _).set (c*8+5) _).set (c*8+6) _).set (c*8+7) _).congr fun k hk=>?_
  by_cases e:k / 8=c
  · have hk8:k=c*8+k % 8:=by omega
    have:k % 8=0∨k % 8=1∨k % 8=2∨k % 8=3∨k % 8=4∨k % 8=5∨k % 8=6∨k % 8=7:=by omega
    simp only [Pu.put,e,if_true]
    rcases this with e2|e2|e2|e2|e2|e2|e2|e2<;>rw [e2] at hk8 ⊢<;>subst hk8<;>simp
  · simp only [Pu.put,e,if_false]
    rw [if_neg (by omega),if_neg (by omega),if_neg (by omega),if_neg (by omega),if_neg (by omega),if_neg (by omega),if_neg (by omega),if_neg (by omega)]
theorem put8_kp {a:World} (h:Kp own 1 i a w) (hp:own p=i) (c:Nat) (v:Nat→Int) :
    Kp own 1 i a ((((((((w.setCell ⟨p,c*8,none⟩ (.int .i64 (v 0))).setCell ⟨p,c*8+1,none⟩ (.int .i64 (v 1))).setCell ⟨p,c*8+2,none⟩ (.int .i64 (v 2))).setCell ⟨p,c*8+3,none⟩ (.int .i64 (v 3))).setCell ⟨p,c*8+4,none⟩ (.int .i64 (v 4))).setCell ⟨p,c*8+5,none⟩ (.int .i64 (v 5))).setCell ⟨p,c*8+6,none⟩ (.int .i64 (v 6))).setCell ⟨p,c*8+7,none⟩ (.int .i64 (v 7))):=by
  have h7:∀ q:Addr,q.block=p→(q.block<a.heap.size→own q.block / 1=i):=fun q hq _=>by rw [hq,Nat.div_one];exact hp
  exact ((((((((h.setCell (h7 _ rfl) _).setCell (h7 _ rfl) _).setCell (h7 _ rfl) _).setCell (h7 _ rfl) _).setCell (h7 _ rfl) _).setCell (h7 _ rfl) _).setCell (h7 _ rfl) _).setCell (h7 _ rfl) _)
def vec8 (z0 z1 z2 z3 z4 z5 z6 z7:Int):Nat→Int:=fun k=>if k=0 then z0 else if k=1 then z1 else if k=2 then z2 else if k=3 then z3 else if k=4 then z4 else if k=5 then z5 else if k=6 then z6 else z7
theorem PRow.set8 (h:PRow w p t P) (c:Nat) (z0 z1 z2 z3 z4 z5 z6 z7:Int) :
    PRow ((((((((w.setCell ⟨p,c*8,none⟩ (.int .i64 z0)).setCell ⟨p,c*8+1,none⟩ (.int .i64 z1)).setCell ⟨p,c*8+2,none⟩ (.int .i64 z2)).setCell ⟨p,c*8+3,none⟩ (.int .i64 z3)).setCell ⟨p,c*8+4,none⟩ (.int .i64 z4)).setCell ⟨p,c*8+5,none⟩ (.int .i64 z5)).setCell ⟨p,c*8+6,none⟩ (.int .i64 z6)).setCell ⟨p,c*8+7,none⟩ (.int .i64 z7)) p t (P.put c (vec8 z0 z1 z2 z3 z4 z5 z6 z7)):=h.setAll c (vec8 z0 z1 z2 z3 z4 z5 z6 z7)
theorem PRow.other (h:PRow w p t P) {q:Nat} (hq:q≠p) (j:Nat) (v:Value):PRow (w.setCell ⟨q,j,none⟩ v) p t P:=World.rowIs.of_block h (Below.heap_setCell _ _ _ _ (fun e=>hq (by simp [e])))
theorem PurseAt.prow (h:PurseAt own i w p P):∃ t,PRow w p t P:=by obtain ⟨_,_,t,h⟩:=h;exact ⟨t,h⟩
theorem PRow.congr {Q:Pu} (h:PRow w p t P) (e:∀ d k,k<8→P d k=Q d k):PRow w p t Q:=by
  refine World.rowIs.congr h fun k hk=>?_
  rw [e _ _ (by omega)]
theorem lt8 {k:Nat} (h:k<8):k=0∨k=1∨k=2∨k=3∨k=4∨k=5∨k=6∨k=7:=by omega
theorem mput_obj (h:PurseAt own i w p P) {c:Nat} {z0 z1 z2 z3 z4 z5 z6 z7:Int} {Q:Pu} (hI:PInv Q) (heq:∀ d k,k<8→P.put c (vec8 z0 z1 z2 z3 z4 z5 z6 z7) d k=Q d k) {W:World}
    (hx:Ex ((((((((w.setCell ⟨p,c*8,none⟩ (.int .i64 z0)).setCell ⟨p,c*8+1,none⟩ (.int .i64 z1)).setCell ⟨p,c*8+2,none⟩ (.int .i64 z2)).setCell ⟨p,c*8+3,none⟩ (.int .i64 z3)).setCell ⟨p,c*8+4,none⟩ (.int .i64 z4)).setCell ⟨p,c*8+5,none⟩ (.int .i64 z5)).setCell ⟨p,c*8+6,none⟩ (.int .i64 z6)).setCell ⟨p,c*8+7,none⟩ (.int .i64 z7)) W) :
    ObjTo own i i w (fun o w'=>PurseAt o i w' p Q) W:=by
  obtain ⟨h1,h2,t,h3⟩:=h
  have hr:=(PRow.set8 h3 c z0 z1 z2 z3 z4 z5 z6 z7).congr heq
  have hK:=put8_kp (Kp.refl own 1 i w) h1 c (vec8 z0 z1 z2 z3 z4 z5 z6 z7)
  have hP:PurseAt own i W p Q:=PurseAt.later ⟨h1,hI,t,hr⟩ hx
  have hb:=hx.below
  refine ObjTo.of ?_ (PurseAt.toLab hP)
  exact hK.trans hb.os hb.tape hb.output hb.size fun k hk _=>hb.block k (Nat.lt_of_lt_of_le hk hK.size)
theorem heq_set {P:Pu} {c j:Nat} {v z0 z1 z2 z3 z4 z5 z6 z7:Int} (e0:z0=if 0=j then v else P c 0) (e1:z1=if 1=j then v else P c 1) (e2:z2=if 2=j then v else P c 2) (e3:z3=if 3=j then v else P c 3) (e4:z4=if 4=j then v else P c 4) (e5:z5=if 5=j then v else P c 5) (e6:z6=if 6=j then v else P c 6) (e7:z7=if 7=j then v else P c 7) (d k:Nat) (hk:k<8) :
    P.put c (vec8 z0 z1 z2 z3 z4 z5 z6 z7) d k=P.set c j v d k:=by
  subst e0 e1 e2 e3 e4 e5 e6 e7
  by_cases e:d=c
  · subst e;rcases lt8 hk with rfl|rfl|rfl|rfl|rfl|rfl|rfl|rfl<;>simp [Pu.put,Pu.set,vec8]
  · simp [Pu.put,Pu.set,e]
theorem isItem_any (n:Int) (w:World):Calls Tryz.prog 70 #[.int .i64 n] w fun e w'=>e=.returned (.bool (inR n 0 2))∧Ex w w':=by
  by_cases h:0≤n
  · by_cases h':n<3
    · rw [show inR n 0 2=true from inR_iff.2 (by omega)]
      go_enter Tryz.func70,Tryz.ntmps70
      go_wp2
      all_goals go_ret
      all_goals exact ⟨rfl,(by repeat (first|exact Ex.refl _|refine Ex.alloc ?_ _|refine Ex.ext ?_ _ _|refine Ex.drew ?_|refine Ex.drewN ?_ _))⟩
    · rw [show inR n 0 2=false from inR_not.2 (by omega)]
      go_enter Tryz.func70,Tryz.ntmps70
      go_wp2
      all_goals go_ret
      all_goals exact ⟨rfl,(by repeat (first|exact Ex.refl _|refine Ex.alloc ?_ _|refine Ex.ext ?_ _ _|refine Ex.drew ?_|refine Ex.drewN ?_ _))⟩
  · rw [show inR n 0 2=false from inR_not.2 (by omega)]
    go_enter Tryz.func70,Tryz.ntmps70
    go_wp2
    all_goals go_ret
    all_goals exact ⟨rfl,(by repeat (first|exact Ex.refl _|refine Ex.alloc ?_ _|refine Ex.ext ?_ _ _|refine Ex.drew ?_|refine Ex.drewN ?_ _))⟩
theorem isItem_yes (n:Int) (w:World) (h:inR n 0 2=true):Calls Tryz.prog 70 #[.int .i64 n] w fun e w'=>e=.returned (.bool true)∧Ex w w':=h▸isItem_any n w
theorem isClient_any (n:Int) (w:World):Calls Tryz.prog 62 #[.int .i64 n] w fun e w'=>e=.returned (.bool (inR n 0 5))∧Ex w w':=by
  by_cases h:0≤n
  · by_cases h':n<6
    · rw [show inR n 0 5=true from inR_iff.2 (by omega)]
      go_enter Tryz.func62,Tryz.ntmps62
      go_wp2
      all_goals go_ret
      all_goals exact ⟨rfl,(by repeat (first|exact Ex.refl _|refine Ex.alloc ?_ _|refine Ex.ext ?_ _ _|refine Ex.drew ?_|refine Ex.drewN ?_ _))⟩
    · rw [show inR n 0 5=false from inR_not.2 (by omega)]
      go_enter Tryz.func62,Tryz.ntmps62
      go_wp2
      all_goals go_ret
      all_goals exact ⟨rfl,(by repeat (first|exact Ex.refl _|refine Ex.alloc ?_ _|refine Ex.ext ?_ _ _|refine Ex.drew ?_|refine Ex.drewN ?_ _))⟩
  · rw [show inR n 0 5=false from inR_not.2 (by omega)]
    go_enter Tryz.func62,Tryz.ntmps62
    go_wp2
    all_goals go_ret
    all_goals exact ⟨rfl,(by repeat (first|exact Ex.refl _|refine Ex.alloc ?_ _|refine Ex.ext ?_ _ _|refine Ex.drew ?_|refine Ex.drewN ?_ _))⟩
end
end Go.Proofs.YtmbboflakfokhaaGreatDoor
