import Derived.Test.YtabbgpjofkaomaaGreatDoorJ42
set_option linter.unusedSimpArgs false
set_option linter.unusedVariables false
/- What the closed fact of a venue's statements computes. -/
namespace Go.Proofs.YtabbgpjofkaomaaGreatDoor
open Go.RowKit
def askL:Ask:=⟨108,1,1,0,0,0,0,0⟩
def askO:Ask:=⟨111,1,2,0,0,100,3,9⟩
def openS:List UInt8:=(askL.frame++askO.frame).data.toList
theorem openS_len:openS.length=60:=by
 unfold openS
 rw [ByteArray.data_append,Array.toList_append,List.length_append,askFr_len,askFr_len]
theorem open_1:(feedR 1 openS (newV smallC)).1=[⟨1,kAcc,9,0,0,0⟩]:=by decide +kernel
theorem open_2:((feedR 1 openS (newV smallC)).2.cl 1).s.next=3:=by decide +kernel
theorem open_3:((feedR 1 openS (newV smallC)).2.q 1).length=1:=by decide +kernel
theorem fieldSess1 (a b c:Value) (w:World):(Instr.field 56 (.agg #[a,b,c]) 1).run Tryz.prog w=.ok b w:=by kernel_rfl
set_option maxRecDepth 100000 in
set_option maxHeartbeats 4000000 in
theorem opened_any (E:Nat→Addr) (w:World) (hr:CodeReady E w) (ht:Tab w):Calls Tryz.prog 7 #[] w fun e w'=>e=.returned (.bool true)∧Ex w w':=by
 have f1:=askL.frame_size
 have f2:=askO.frame_size
 have HF1:Hid (∀ W,Calls Tryz.prog 15 #[.agg #[.int .u8 108,.int .i64 1,.int .i64 1,.int .i64 0,.int .i64 0,.int .i64 0,.int .i64 0,.int .i64 0]] W fun e w'=>e=.returned (.string askL.frame)∧Ex W w'):=Lib.hid (fun W=>frameRef_any askL W (by decide) (by decide +kernel))
 have HF2:Hid (∀ W,Calls Tryz.prog 15 #[.agg #[.int .u8 111,.int .i64 1,.int .i64 2,.int .i64 0,.int .i64 0,.int .i64 100,.int .i64 3,.int .i64 9]] W fun e w'=>e=.returned (.string askO.frame)∧Ex W w'):=Lib.hid (fun W=>frameRef_any askO W (by decide) (by decide +kernel))
 have HN:=Lib.hid (fun W (hx:Ex w W)=>((LX.start hr ht).later hx).new smallC smallC_ok)
 have HFD:Hid (∀ vb dp fa W,LX E w [vTh vb fa dp (newV smallC)] W→Calls Tryz.prog 14 #[.pointer (some ⟨vb,0,none⟩),.int .i64 1,.string (askL.frame++askO.frame)] W fun e w'=>∃ u,e=.returned u∧LX E w [vTh vb fa dp (feedR 1 openS (newV smallC)).2,rdTh (rrowRd [⟨1,kAcc,9,0,0,0⟩] u)] w'):=Lib.hid (fun vb dp fa W X=>by
  have h:=LX.feed [] X (fun n _=>by show (0:Nat)<30;decide) (n:=1) (by decide) openS (by rw [openS_len];decide)
  have e:(⟨openS.toArray⟩:ByteArray)=askL.frame++askO.frame:=bytes_list _
  rw [e,open_1] at h
  exact h)
 have n3:=open_2
 have q1:=open_3
 generalize (feedR 1 openS (newV smallC)).2=V at *
 generalize askL.frame=fr1 at *
 generalize askO.frame=fr2 at *
 clear hr ht
 go_enter Tryz.func7,Tryz.ntmps7
 go_upto_region 4 with (first
  | (go_at_call 11;refine (small_any _).mono ?_;rintro e w1 ⟨rfl,l1,d1,rfl⟩)
  | (go_at_call 10;refine (asConfig_any _ _ _ _ _ _ _).mono ?_;rintro e w1 ⟨rfl,l2,d2,rfl⟩)
  | (go_at_call 9;refine (HN.out _ (by repeat (first|exact Ex.refl _|refine Ex.alloc ?_ _|refine Ex.ext ?_ _ _|refine Ex.drew ?_|refine Ex.drewN ?_ _))).mono ?_;rintro e w3 ⟨vb,dp,fa,rfl,hX3⟩;have HX3:=Lib.hid hX3;clear hX3))
 clear HN
 go_upto_region 5 with (first
  | ((with_reducible go_at_call 15;with_reducible refine (HF1.out _).mono ?_);rintro e w1 ⟨rfl,l4,d4,rfl⟩)
  | ((with_reducible go_at_call 15;with_reducible refine (HF2.out _).mono ?_);rintro e w1 ⟨rfl,l5,d5,rfl⟩)
  | ((go_at_call 14;with_reducible refine (HFD.out vb dp fa _ (HX3.out.later (by repeat (first|exact Ex.refl _|refine Ex.alloc ?_ _|refine Ex.ext ?_ _ _|refine Ex.drew ?_|refine Ex.drewN ?_ _)))).mono ?_);rintro e w6 ⟨u,rfl,hX6⟩;have HX6:=Lib.hid hX6;clear hX6))
 clear HF1 HF2 HFD HX3
 obtain ⟨g,off,cap,rfl,⟨hcap,hcm⟩,hg,hcell⟩:=rrow_cells (LX.row [_] HX6.out) (k:=0) (by decide)
 have a0:=hcell 0 (by decide)
 have a1:=hcell 1 (by decide)
 have a2:=hcell 2 (by decide)
 have a3:=hcell 3 (by decide)
 have a4:=hcell 4 (by decide)
 have a5:=hcell 5 (by decide)
 simp only [Rep.cells,List.getElem_cons_zero,Nat.zero_mul,Nat.add_zero,List.getElem?_cons_zero,List.getElem?_cons_succ] at a0 a1 a2 a3 a4 a5
 rw [kAcc] at a1
 have HS:Hid (∀ W',Ex w6 W'→Calls Tryz.prog 17 #[.pointer (some ⟨vb,0,none⟩),.int .i64 1] W' fun e w'=>e=.returned (.agg #[.bool (V.cl 1).s.on,.int .i64 3,.int .i64 (V.cl 1).s.last])∧Ex W' w'):=Lib.hid (fun W' hx=>by
  obtain ⟨G,h⟩:=(HX6.out.later hx).look []
  have h2:=vsession_in h 1 (by decide)
  rw [Sess.val,n3] at h2
  exact h2)
 have HWT:Hid (∀ W',Ex w6 W'→Calls Tryz.prog 26 #[.pointer (some ⟨vb,0,none⟩),.int .i64 1] W' fun e w'=>e=.returned (.int .i64 1)∧Ex W' w'):=Lib.hid (fun W' hx=>by
  obtain ⟨G,h⟩:=(HX6.out.later hx).look []
  have h2:=vwait_in h 1 (by decide)
  rw [q1] at h2
  exact h2)
 have hfd:=fieldSess1
 have hx6:=Lib.hid HX6.out.ex
 simp only [List.length_cons,List.length_nil] at hcap
 clear hcell n3 q1 HX6
 go_wp2_with (first
  | (go_at_call 17;refine (HS.out _ (by repeat (first|exact Ex.refl _|refine Ex.alloc ?_ _|refine Ex.ext ?_ _ _|refine Ex.drew ?_|refine Ex.drewN ?_ _))).mono ?_;rintro e w1 ⟨rfl,l7,d7,rfl⟩)
  | (go_at_call 26;refine (HWT.out _ (by repeat (first|exact Ex.refl _|refine Ex.alloc ?_ _|refine Ex.ext ?_ _ _|refine Ex.drew ?_|refine Ex.drewN ?_ _))).mono ?_;rintro e w1 ⟨rfl,l8,d8,rfl⟩))
 all_goals go_ret
 all_goals exact ⟨rfl,hx6.out.trans (by repeat (first|exact Ex.refl _|refine Ex.alloc ?_ _|refine Ex.ext ?_ _ _|refine Ex.drew ?_|refine Ex.drewN ?_ _))⟩
end Go.Proofs.YtabbgpjofkaomaaGreatDoor
