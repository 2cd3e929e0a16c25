import Derived.Test.YtmbboflakfokhaaGreatDoorJ25
import Derived.Test.YtmbboflakfokhaaGreatDoorMFlPl
import Derived.Test.YtmbboflakfokhaaGreatDoorJ44
/- What the statements' asFloor computes, at a floor and the document's floor that have the same. -/
set_option linter.unusedSimpArgs false
set_option linter.unusedVariables false
namespace Go.Proofs.YtmbboflakfokhaaGreatDoor
open Go.RowKit
def TwoF (A:FlA) (B:MA) (st:FSt) (W:World):Prop:=(∃ own,FlAt own 0 W A st)∧∃ F w M,MFX F w B st M W
theorem MFX.lotsR {w W:World} {F:Nat→Prop} {A:MA} {st:FSt} {M:List Th} {k:Nat} (X:MFX F w A st M W) (hk:k<3):∃ ao cap,W.cell? ⟨A.bp k,0,none⟩=some (.slice ao (st.b k).length cap)∧(st.b k).length≤cap∧LotsAt W ao (st.b k).length (st.b k)∧A.bp k<W.heap.size:=by
  obtain ⟨own,hb⟩:=X.bookAt hk
  obtain ⟨ao,cap,c0,hc,_,_,hl,_⟩:=hb.slice
  exact ⟨ao,cap,c0,hc,hl,hb.lt⟩
section
variable {w W W':World} {A:FlA} {B:MA} {st:FSt} {k:Nat}
theorem FlAt.bookL {own:Nat→Nat} (h:FlAt own 0 W A st) (hk:k<3):Calls Tryz.prog 23 #[.pointer (some ⟨A.bp k,0,none⟩)] W fun e w'=>(∃ ao cap,e=.returned (.slice ao (st.b k).length cap)∧LotsAt w' ao (st.b k).length (st.b k))∧Ex W w':=by
  have hb:=h.book k hk
  refine (lots_any hb).mono fun e w' ⟨⟨u,e1,hrow⟩,hx⟩=>?_
  obtain ⟨ao,cap,rfl,_,h3⟩:=lots_of_owned hb.2.1 (by have:=hb.1;omega) rfl hrow
  exact ⟨⟨ao,cap,e1,h3⟩,hx⟩
theorem TwoF.later (h:TwoF A B st W) (hx:Ex W W'):TwoF A B st W':=by
  obtain ⟨⟨own,h1⟩,F,w,M,h2⟩:=h
  exact ⟨⟨own,h1.later hx⟩,F,w,M,h2.later hx⟩
theorem TwoF.bookP (h:TwoF A B st W) (hk:k<3):Calls Tryz.prog 20 #[.pointer (some ⟨A.f,0,none⟩),.int .i64 (k:Int)] W fun e w'=>e=.returned (.pointer (some ⟨A.bp k,0,none⟩))∧Ex W w':=fbook_in h.1.choose_spec k hk
theorem TwoF.lotsP (h:TwoF A B st W) (hk:k<3):Calls Tryz.prog 23 #[.pointer (some ⟨A.bp k,0,none⟩)] W fun e w'=>(∃ ao cap,e=.returned (.slice ao (st.b k).length cap)∧LotsAt w' ao (st.b k).length (st.b k))∧Ex W w':=h.1.choose_spec.bookL hk
theorem TwoF.bandP (h:TwoF A B st W) (hk:k<3):Calls Tryz.prog 56 #[.pointer (some ⟨A.f,0,none⟩),.int .i64 (k:Int)] W fun e w'=>e=.returned (.agg #[.int .i64 (st.ref k),.int .i64 (st.left k)])∧Ex W w':=fband_in h.1.choose_spec k hk
theorem TwoF.purseP (h:TwoF A B st W):Calls Tryz.prog 21 #[.pointer (some ⟨A.f,0,none⟩)] W fun e w'=>e=.returned (.pointer (some ⟨A.pp,0,none⟩))∧Ex W w':=fpurse_any h.1.choose_spec
theorem TwoF.ofP (h:TwoF A B st W) {c:Nat} (hc:c<6):Calls Tryz.prog 22 #[.pointer (some ⟨A.pp,0,none⟩),.int .i64 (c:Int)] W fun e w'=>e=.returned (hasV st.p c)∧Ex W w':=of_in h.1.choose_spec.purse c hc
theorem TwoF.model (h:TwoF A B st W) (hk:k<3):∃ ao cap,(W.cell? ⟨B.f,k,none⟩=some (.pointer (some ⟨B.bp k,0,none⟩))∧W.cell? ⟨B.bp k,0,none⟩=some (.slice ao (st.b k).length cap)∧W.cell? ⟨B.f,3+k*2,none⟩=some (.int .i64 (st.ref k))∧W.cell? ⟨B.f,3+k*2+1,none⟩=some (.int .i64 (st.left k)))∧LotsAt W ao (st.b k).length (st.b k):=by
  obtain ⟨_,F,w,M,h2⟩:=h
  obtain ⟨ao,cap,c0,_,hl,_⟩:=h2.lotsR hk
  obtain ⟨b1,b2⟩:=h2.bandC hk
  exact ⟨ao,cap,⟨h2.bookC hk,c0,b1,b2⟩,hl⟩
theorem TwoF.mpurse (h:TwoF A B st W) {c:Nat} (hc:c<6):W.cell? ⟨B.f,9,none⟩=some (.pointer (some ⟨B.pp,0,none⟩))∧W.cell? ⟨B.pp,c*8,none⟩=some (.int .i64 (st.p c 0))∧W.cell? ⟨B.pp,c*8+1,none⟩=some (.int .i64 (st.p c 1))∧W.cell? ⟨B.pp,c*8+2,none⟩=some (.int .i64 (st.p c 2))∧W.cell? ⟨B.pp,c*8+3,none⟩=some (.int .i64 (st.p c 3))∧W.cell? ⟨B.pp,c*8+4,none⟩=some (.int .i64 (st.p c 4))∧W.cell? ⟨B.pp,c*8+5,none⟩=some (.int .i64 (st.p c 5))∧W.cell? ⟨B.pp,c*8+6,none⟩=some (.int .i64 (st.p c 6))∧W.cell? ⟨B.pp,c*8+7,none⟩=some (.int .i64 (st.p c 7)):=by
  obtain ⟨_,F,w,M,h2⟩:=h
  obtain ⟨own,hp⟩:=h2.purseAt
  exact ⟨h2.restC.1,hp.cell hc (j:=0) (by omega),hp.cell hc (j:=1) (by omega),hp.cell hc (j:=2) (by omega),hp.cell hc (j:=3) (by omega),hp.cell hc (j:=4) (by omega),hp.cell hc (j:=5) (by omega),hp.cell hc (j:=6) (by omega),hp.cell hc (j:=7) (by omega)⟩
theorem exCell {p:Addr} {v:Value} (hx:Ex W W') (h:W.cell? p=some v):W'.cell? p=some v:=by
  have hb:p.block<W.heap.size:=World.block_lt_of_cell? _ _ h
  exact (hx.below.cell hb).trans h
theorem ex4 {p1 p2 p3 p4:Addr} {v1 v2 v3 v4:Value} (hx:Ex W W') (h:W.cell? p1=some v1∧W.cell? p2=some v2∧W.cell? p3=some v3∧W.cell? p4=some v4):W'.cell? p1=some v1∧W'.cell? p2=some v2∧W'.cell? p3=some v3∧W'.cell? p4=some v4 :=
  ⟨exCell hx h.1,exCell hx h.2.1,exCell hx h.2.2.1,exCell hx h.2.2.2⟩
theorem fieldBd0 (r l:Int) (w:World):(Instr.field 77 (.agg #[.int .i64 r,.int .i64 l]) 0).run Tryz.prog w=.ok (.int .i64 r) w:=by kernel_rfl
theorem fieldBd1 (r l:Int) (w:World):(Instr.field 77 (.agg #[.int .i64 r,.int .i64 l]) 1).run Tryz.prog w=.ok (.int .i64 l) w:=by kernel_rfl
theorem eqBand0 (w:World):(binOp .eql 77 (.agg #[.int .i64 0,.int .i64 0]) (.agg #[.int .i64 0,.int .i64 0])).run Tryz.prog w=.ok (.bool true) w:=by kernel_rfl
set_option maxRecDepth 100000 in
theorem fband_out (p:Value) (n:Int) (hn:inR n 0 2=false) (w:World):Calls Tryz.prog 56 #[p,.int .i64 n] w fun e w'=>e=.returned (.agg #[.int .i64 0,.int .i64 0])∧Ex w w':=by
  have HR:=Lib.hid (fun w=>fright_any n w)
  rw [hn] at HR
  clear hn
  go_enter Tryz.func56,Tryz.ntmps56
  go_wp2_with (go_at_call 46;refine (HR.out _).mono ?_;rintro e w1 ⟨rfl,l1,d1,rfl⟩)
  all_goals ((try simp only [Exit.inBlock,Exit.then]);(refine bodyPost_ret (v:=.agg #[.int .i64 0,.int .i64 0]) ?_ rfl ⟨rfl,(by repeat (first|exact Ex.refl _|refine Ex.alloc ?_ _|refine Ex.ext ?_ _ _|refine Ex.drew ?_|refine Ex.drewN ?_ _))⟩);simp only [results,Tryz.results56];simp [go_sem,↓IntWalk.iteOmega])
set_option maxRecDepth 100000 in
set_option maxHeartbeats 8000000 in
theorem asFloor_same (h:TwoF A B st w) (hlen:∀ k,k<3→(st.b k).length≤60) :
    Calls Tryz.prog 19 #[.pointer (some ⟨A.f,0,none⟩),.pointer (some ⟨B.f,0,none⟩)] w fun e w'=>e=.returned (.bool true)∧Ex w w':=by
  have H:=Lib.hid h
  have HLN:=Lib.hid hlen
  clear h hlen
  go_enter Tryz.func19,Tryz.ntmps19
  go_wp2_with fail
  go_loopw [5] (fun i wr=>∃ k:Nat,k≤3∧i=.int .i64 (k:Int)∧Ex w wr) (fun i _=>3 - (intOf i).toNat)
  case atStart=>exact ⟨0,by omega,rfl,Ex.refl _⟩
  case round =>
    obtain ⟨k,hk,rfl,hx⟩:=hrel
    have HX:=Lib.hid hx
    clear hx
    by_cases hlt:k<3
    · have k3:(k:Int)<3:=by omega
      have hl60:=HLN.out k hlt
      obtain ⟨ao,cap,hcel,hLA⟩:=(H.out.later HX.out).model hlt
      have HC:=Lib.hid hcel
      have HLA:=Lib.hid hLA
      obtain ⟨c0,c1,c2,c3⟩:=hcel
      have z0:=lt_of_cell c0
      have z1:=lt_of_cell c1
      have HB:=Lib.hid (fun W (hx:Ex w W)=>(H.out.later hx).bookP hlt)
      have HLO:=Lib.hid (fun W (hx:Ex w W)=>(H.out.later hx).lotsP hlt)
      have HBA:=Lib.hid (fun W (hx:Ex w W)=>(H.out.later hx).bandP hlt)
      have fb0:=fieldBd0 (st.ref k) (st.left k)
      have fb1:=fieldBd1 (st.ref k) (st.left k)
      clear hLA
      go_upto_region 5 with (go_at_call 20;refine (HB.out _ (HX.out.trans (by repeat (first|exact Ex.refl _|refine Ex.alloc ?_ _|refine Ex.ext ?_ _ _|refine Ex.drew ?_|refine Ex.drewN ?_ _)))).mono ?_;rintro e w1 ⟨rfl,l1,d1,rfl⟩)
      go_region_held3 (fun W=>W.cell? ⟨B.f,k,none⟩=some (.pointer (some ⟨B.bp k,0,none⟩))∧W.cell? ⟨B.bp k,0,none⟩=some (.slice ao (st.b k).length cap)∧W.cell? ⟨B.f,3+k*2,none⟩=some (.int .i64 (st.ref k))∧W.cell? ⟨B.f,3+k*2+1,none⟩=some (.int .i64 (st.left k)))
        ((first|exact ex4 (HE.out.trans (by with_reducible repeat (first|exact Ex.refl _|refine Ex.alloc ?_ _|refine Ex.ext ?_ _ _|refine Ex.drew ?_|refine Ex.drewN ?_ _))) HC.out|exact ex4 (by with_reducible repeat (first|exact Ex.refl _|refine Ex.alloc ?_ _|refine Ex.ext ?_ _ _|refine Ex.drew ?_|refine Ex.drewN ?_ _)) HC.out))
        ((first
          | (go_at_call 23;(with_reducible refine (HLO.out _ ?_).mono ?_);(focus exact HX.out.trans (by with_reducible repeat (first|exact Ex.refl _|refine Ex.alloc ?_ _|refine Ex.ext ?_ _ _|refine Ex.drew ?_|refine Ex.drewN ?_ _)));rintro e w2 ⟨⟨av,cv,rfl,hv⟩,hx2⟩;have HV:=Lib.hid hv;have HE:=Lib.hid (Ex.trans (show Ex wr _ from (by with_reducible repeat (first|exact Ex.refl _|refine Ex.alloc ?_ _|refine Ex.ext ?_ _ _|refine Ex.drew ?_|refine Ex.drewN ?_ _))) hx2);clear hv hx2)
          | (go_at_call 13;(refine (sameLotsOf av ao cv cap (st.b k) _ (HV.out.ex (by with_reducible repeat (first|exact Ex.refl _|refine Ex.alloc ?_ _|refine Ex.ext ?_ _ _|refine Ex.drew ?_|refine Ex.drewN ?_ _))) (HLA.out.ex (HE.out.trans (by with_reducible repeat (first|exact Ex.refl _|refine Ex.alloc ?_ _|refine Ex.ext ?_ _ _|refine Ex.drew ?_|refine Ex.drewN ?_ _)))) (by omega)).mono ?_);rintro e w3 ⟨rfl,hx3⟩;have HE:=Lib.hid ((HE.out.trans (by with_reducible repeat (first|exact Ex.refl _|refine Ex.alloc ?_ _|refine Ex.ext ?_ _ _|refine Ex.drew ?_|refine Ex.drewN ?_ _))).trans hx3);clear hx3)
          | (go_at_call 56;(with_reducible refine (HBA.out _ ?_).mono ?_);(focus exact HX.out.trans (HE.out.trans (by with_reducible repeat (first|exact Ex.refl _|refine Ex.alloc ?_ _|refine Ex.ext ?_ _ _|refine Ex.drew ?_|refine Ex.drewN ?_ _))));rintro e w4 ⟨rfl,hx4⟩;have HE:=Lib.hid ((HE.out.trans (by with_reducible repeat (first|exact Ex.refl _|refine Ex.alloc ?_ _|refine Ex.ext ?_ _ _|refine Ex.drew ?_|refine Ex.drewN ?_ _))).trans hx4);clear hx4)))
      all_goals go_wp2_with fail
      all_goals
        go_roundw
        case measure=>simp [intOf];omega
        case rel=>exact ⟨k+1,by omega,by go_num,HX.out.trans (HE.out.trans (by with_reducible repeat (first|exact Ex.refl _|refine Ex.alloc ?_ _|refine Ex.ext ?_ _ _|refine Ex.drew ?_|refine Ex.drewN ?_ _)))⟩
    · go_wp2_with fail
      go_loopw [7] (fun i wr=>∃ c:Nat,c≤6∧i=.int .i64 (c:Int)∧Ex w wr) (fun i _=>6 - (intOf i).toNat)
      case atStart=>exact ⟨0,by omega,rfl,HX.out.trans (by repeat (first|exact Ex.refl _|refine Ex.alloc ?_ _|refine Ex.ext ?_ _ _|refine Ex.drew ?_|refine Ex.drewN ?_ _))⟩
      case round =>
        obtain ⟨c,hc,rfl,hx⟩:=hrel
        have HX:=Lib.hid hx
        clear hx
        by_cases hlc:c<6
        · have c6:(c:Int)<6:=by omega
          have hm:=(H.out.later HX.out).mpurse hlc
          have HM:=Lib.hid (fun W (hx:Ex wr W)=>(H.out.later (HX.out.trans hx)).mpurse hlc)
          obtain ⟨m9,x0,x1,x2,x3,x4,x5,x6,x7⟩:=hm
          have z9:=lt_of_cell m9
          have z0:=lt_of_cell x0
          have HPU:=Lib.hid (fun W (hx:Ex w W)=>(H.out.later hx).purseP)
          have HOF:=Lib.hid (fun W (hx:Ex w W)=>(H.out.later hx).ofP hlc)
          have HSH:=Lib.hid (sameHas_same st.p c)
          go_upto_region 10 with fail
          go_region_held3 (fun W=>W.cell? ⟨B.f,9,none⟩=some (.pointer (some ⟨B.pp,0,none⟩))∧W.cell? ⟨B.pp,c*8,none⟩=some (.int .i64 (st.p c 0))∧W.cell? ⟨B.pp,c*8+1,none⟩=some (.int .i64 (st.p c 1))∧W.cell? ⟨B.pp,c*8+2,none⟩=some (.int .i64 (st.p c 2))∧W.cell? ⟨B.pp,c*8+3,none⟩=some (.int .i64 (st.p c 3))∧W.cell? ⟨B.pp,c*8+4,none⟩=some (.int .i64 (st.p c 4))∧W.cell? ⟨B.pp,c*8+5,none⟩=some (.int .i64 (st.p c 5))∧W.cell? ⟨B.pp,c*8+6,none⟩=some (.int .i64 (st.p c 6))∧W.cell? ⟨B.pp,c*8+7,none⟩=some (.int .i64 (st.p c 7)))
            ((first|exact HM.out _ (by with_reducible repeat (first|exact Ex.refl _|refine Ex.alloc ?_ _|refine Ex.ext ?_ _ _|refine Ex.drew ?_|refine Ex.drewN ?_ _))))
            ((first
              | (go_at_call 21;(with_reducible refine (HPU.out _ ?_).mono ?_);(focus exact HX.out.trans (by with_reducible repeat (first|exact Ex.refl _|refine Ex.alloc ?_ _|refine Ex.ext ?_ _ _|refine Ex.drew ?_|refine Ex.drewN ?_ _)));rintro e w2 ⟨rfl,l2,d2,rfl⟩)
              | (go_at_call 22;(with_reducible refine (HOF.out _ ?_).mono ?_);(focus exact HX.out.trans (by with_reducible repeat (first|exact Ex.refl _|refine Ex.alloc ?_ _|refine Ex.ext ?_ _ _|refine Ex.drew ?_|refine Ex.drewN ?_ _)));rintro e w3 ⟨rfl,l3,d3,rfl⟩)
              | (go_at_call 57;(with_reducible refine (HSH.out _).mono ?_);rintro e w4 ⟨rfl,l4,d4,rfl⟩)))
          all_goals go_wp2_with fail
          all_goals
            go_roundw
            case measure=>simp [intOf];omega
            case rel=>exact ⟨c+1,by omega,by go_num,HX.out.trans (by with_reducible repeat (first|exact Ex.refl _|refine Ex.alloc ?_ _|refine Ex.ext ?_ _ _|refine Ex.drew ?_|refine Ex.drewN ?_ _))⟩
        · have HB1:=Lib.hid (fun w=>fbook_out (.pointer (some ⟨A.f,0,none⟩)) (-1) (by decide) w)
          have HB2:=Lib.hid (fun w=>fbook_out (.pointer (some ⟨A.f,0,none⟩)) 3 (by decide) w)
          have HB3:=Lib.hid (fun w=>fband_out (.pointer (some ⟨A.f,0,none⟩)) 3 (by decide) w)
          have eb:=eqBand0
          go_wp2_with (first
            | (go_at_call 20;(with_reducible refine (HB1.out _).mono ?_);rintro e w2 ⟨rfl,l2,d2,rfl⟩)
            | (go_at_call 20;(with_reducible refine (HB2.out _).mono ?_);rintro e w2 ⟨rfl,l3,d3,rfl⟩)
            | (go_at_call 56;(with_reducible refine (HB3.out _).mono ?_);rintro e w2 ⟨rfl,l4,d4,rfl⟩))
          all_goals go_ret
          all_goals exact ⟨rfl,HX.out.trans (by repeat (first|exact Ex.refl _|refine Ex.alloc ?_ _|refine Ex.ext ?_ _ _|refine Ex.drew ?_|refine Ex.drewN ?_ _))⟩
end
end Go.Proofs.YtmbboflakfokhaaGreatDoor
