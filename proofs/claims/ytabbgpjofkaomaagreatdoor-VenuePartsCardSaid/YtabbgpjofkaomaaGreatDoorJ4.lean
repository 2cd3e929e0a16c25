import Derived.Test.YtabbgpjofkaomaaGreatDoorJ3
import Derived.LaidEqlPtr
import Derived.Lib.Builder
import Derived.Deep.RegionHeld3
set_option linter.unusedSimpArgs false
set_option linter.unusedVariables false
/- What Trade of package purse computes. -/
namespace Go.Proofs.YtabbgpjofkaomaaGreatDoor
open Go.RowKit
def tradeE (P:Pu) (item:Int) (b s:Lot) (price qty:Int):Nat :=
 if fairE item b s price qty=0 then
  (if P b.owner.toNat 1<b.price*qty∨P s.owner.toNat (5+item.toNat)<qty then 10
   else if b.owner.toNat≠s.owner.toNat∧(1073741824 - P b.owner.toNat (2+item.toNat)<qty∨1099511627776 - P s.owner.toNat 0<price*qty) then 8 else 0)
 else fairE item b s price qty
theorem PInv.set_cash {P:Pu} (h:PInv P) {c:Nat} (v:Int) (h0:P c 1≤v) (h1:v≤1099511627776):PInv (P.set c 0 v):=fun d hd=>by
 obtain ⟨a1,a2,a3,a4⟩:=h d hd
 refine ⟨?_,?_,?_,fun i hi=>?_⟩
 ·unfold Pu.set;rw [if_neg (by omega)];exact a1
 ·unfold Pu.set
  rw [if_neg (show ¬ (d=c∧1=0) by omega)]
  split
  ·rename_i e;rw [e.1];exact h0
  ·exact a2
 ·unfold Pu.set;split
  ·exact h1
  ·exact a3
 ·unfold Pu.set
  rw [if_neg (by omega),if_neg (by omega)]
  exact a4 i hi
theorem PInv.set_stock {P:Pu} (h:PInv P) {c i:Nat} (hi:i<3) (v:Int) (h0:P c (5+i)≤v) (h1:v≤1073741824):PInv (P.set c (2+i) v):=fun d hd=>by
 obtain ⟨a1,a2,a3,a4⟩:=h d hd
 refine ⟨?_,?_,?_,fun k hk=>?_⟩
 ·unfold Pu.set;rw [if_neg (by omega)];exact a1
 ·unfold Pu.set;rw [if_neg (by omega),if_neg (by omega)];exact a2
 ·unfold Pu.set;rw [if_neg (by omega)];exact a3
 ·obtain ⟨b1,b2,b3⟩:=a4 k hk
  unfold Pu.set
  rw [if_neg (show ¬ (d=c∧5+k=2+i) by omega)]
  split
  ·rename_i e
   obtain ⟨rfl,e2⟩:=e
   have e3:k=i:=by omega
   subst e3
   exact ⟨b1,h0,h1⟩
  ·exact ⟨b1,b2,b3⟩
theorem Pu.set_same (P:Pu) (c j:Nat) (v:Int):P.set c j v c j=v:=if_pos ⟨rfl,rfl⟩
theorem Pu.set_other (P:Pu) {c j d k:Nat} (v:Int) (h:¬ (d=c∧k=j)):P.set c j v d k=P d k:=if_neg h
theorem infoHas:∃ j,Tryz.prog.info? 83=some j∧j.size=8:=by
 have h:(Tryz.prog.info? 83).map (fun i=>i.size)=some 8:=by kernel_rfl
 obtain ⟨j,h1,h2⟩:=Option.map_eq_some_iff.1 h
 exact ⟨j,h1,h2⟩
theorem neHasPtr_same (w:World) (a:Addr):(binOp .neq 304 (.pointer (some a)) (.pointer (some a))).run Tryz.prog w=.ok (.bool false) w:=by
 obtain ⟨j,hj,_⟩:=infoHas
 exact Lib.run_neq_ptr_same w a Tryz.underlying304 hj
theorem neHasPtr_other (w:World) (p a b:Nat) (hab:a≠b) (hw:∃ cs t,w.heap[p]?=some (.cells cs t (0,0))):(binOp .neq 304 (.pointer (some ⟨p,a,none⟩)) (.pointer (some ⟨p,b,none⟩))).run Tryz.prog w=.ok (.bool true) w:=by
 obtain ⟨j,hj,hs⟩:=infoHas
 obtain ⟨cs,t,hg⟩:=hw
 have hne:(⟨p,a,none⟩:Addr)≠⟨p,b,none⟩:=fun e=>hab (by cases e;rfl)
 have h:∀ d:Nat,(Op.equalIn (d+1) 304 (.pointer (some ⟨p,a,none⟩)) (.pointer (some ⟨p,b,none⟩))).run Tryz.prog w=.ok false w:=fun d=>by
  simp [Op.equalIn,run_underlying Tryz.underlying304,sizeOf,typeInfo,hj,hs,run_sameAddr_other w hne hg hg]
 simp only [binOp]
 simp [Op.equal,Op.maxDepth,h 9999]
def TradeR (own:Nat→Nat) (i:Nat) (w:World) (p:Nat) (bp:Int) (P:Pu) (W:World):Prop:=PurseAt own i W p P∧Kp own 1 i w W∧W.cell? ⟨w.heap.size,3,none⟩=some (.int .i64 bp)∧p<w.heap.size
theorem PurseAt.block {own:Nat→Nat} {i:Nat} {W:World} {p:Nat} {P:Pu} (h:PurseAt own i W p P):∃ cs t,W.heap[p]?=some (.cells cs t (0,0)):=by
 obtain ⟨_,_,t,cs,hg,_⟩:=h
 exact ⟨cs,t,hg⟩
theorem TradeR.set {own:Nat→Nat} {i:Nat} {w:World} {p:Nat} {bp:Int} {P:Pu} {W:World} (h:TradeR own i w p bp P W) {c j:Nat} (hc:c<6) (hj:j<8) (v:Int) (hv:PInv (P.set c j v)) {n:Nat} (hn:n=c*8+j):TradeR own i w p bp (P.set c j v) (W.setCell ⟨p,n,none⟩ (.int .i64 v)):=by
 obtain ⟨h1,h2,h3,h4⟩:=h
 refine ⟨h1.set hc hj v hv rfl hn,h2.setCell (fun _=>by rw [Nat.div_one];exact h1.1) _,?_,h4⟩
 rw [← h3]
 exact World.cell?_of_block (Below.heap_setCell _ _ _ _ (show w.heap.size≠p by omega))
theorem TradeR.drew {own:Nat→Nat} {i:Nat} {w:World} {p:Nat} {bp:Int} {P:Pu} {W:World} (h:TradeR own i w p bp P W):TradeR own i w p bp P W.drew:=⟨h.1.later (Ex.drew (Ex.refl _)),h.2.1.drew,h.2.2.1,h.2.2.2⟩
end Go.Proofs.YtabbgpjofkaomaaGreatDoor

/- What Give of package purse computes. -/
namespace Go.Proofs.YtabbgpjofkaomaaGreatDoor
open Go.RowKit
def giveE (P:Pu) (n cash:Int) (s:Nat→Int):Nat :=
 if inR n 0 5 && decide (0≤cash) then
  (if 0≤s 0∧0≤s 1∧0≤s 2 then
   (if 1099511627776 - P n.toNat 0<cash then 8
    else if 1073741824 - P n.toNat 2<s 0∨1073741824 - P n.toNat 3<s 1∨1073741824 - P n.toNat 4<s 2 then 8 else 0)
   else 2)
 else 2
def Pu.add (P:Pu) (c:Nat) (cash:Int) (s:Nat→Int):Pu:=fun d j=>if d=c then (if j=0 then P c 0+cash else if j=2 then P c 2+s 0 else if j=3 then P c 3+s 1 else if j=4 then P c 4+s 2 else P c j) else P d j
def giveP (P:Pu) (n cash:Int) (s:Nat→Int):Pu:=if giveE P n cash s=0 then P.add n.toNat cash s else P
abbrev stockV (s:Nat→Int):Value:=.agg #[.int .i64 (s 0),.int .i64 (s 1),.int .i64 (s 2)]
section
variable {own:Nat→Nat} {i:Nat} {w:World} {p:Nat} {P:Pu}
theorem PurseAt.setAll (h:PurseAt own i w p P) {c:Nat} (hc:c<6) (v:Nat→Int) (hv:PInv (fun d j=>if d=c then v j else P d j)) :
  PurseAt own i ((((((((w.setCell ⟨p,c*8,none⟩ (.int .i64 (v 0))).setCell ⟨p,c*8+1,none⟩ (.int .i64 (v 1))).setCell ⟨p,c*8+2,none⟩ (.int .i64 (v 2))).setCell ⟨p,c*8+3,none⟩ (.int .i64 (v 3))).setCell ⟨p,c*8+4,none⟩ (.int .i64 (v 4))).setCell ⟨p,c*8+5,none⟩ (.int .i64 (v 5))).setCell ⟨p,c*8+6,none⟩ (.int .i64 (v 6))).setCell ⟨p,c*8+7,none⟩ (.int .i64 (v 7))) p (fun d j=>if d=c then v j else P d j):=by
 obtain ⟨h1,h2,t,h3⟩:=h
 refine ⟨h1,hv,t,((((((((h3.set (c*8) _).set (c*8+1) _).set (c*8+2) _).set (c*8+3) _).set (c*8+4) _).set (c*8+5) _).set (c*8+6) _).set (c*8+7) _).congr fun k hk=>?_⟩
 by_cases e:k / 8=c
 ·have hk8:k=c*8+k % 8:=by omega
  have:k % 8=0∨k % 8=1∨k % 8=2∨k % 8=3∨k % 8=4∨k % 8=5∨k % 8=6∨k % 8=7:=by omega
  simp only [e,if_true]
  rcases this with e2|e2|e2|e2|e2|e2|e2|e2<;>rw [e2] at hk8 ⊢<;>subst hk8<;>simp
 ·simp only [e,if_false]
  rw [if_neg (by omega),if_neg (by omega),if_neg (by omega),if_neg (by omega),if_neg (by omega),if_neg (by omega),if_neg (by omega),if_neg (by omega)]
theorem PurseAt.toLab {w':World} (h:PurseAt own i w' p P):PurseAt (lab own w.heap.size (w'.heap.size - w.heap.size) i) i w' p P:=h.relabel fun n hn e=>by
 unfold lab
 split
 ·exact e
 ·split
  ·rfl
  ·omega
theorem add_inv (h:PInv P) {c:Nat} {cash:Int} {s:Nat→Int} (hc:0≤cash) (h0:0≤s 0) (h1:0≤s 1) (h2:0≤s 2) (k:cash≤1099511627776 - P c 0) (k0:s 0≤1073741824 - P c 2) (k1:s 1≤1073741824 - P c 3) (k2:s 2≤1073741824 - P c 4):PInv (P.add c cash s):=fun d hd=>by
 obtain ⟨a1,a2,a3,a4⟩:=h d hd
 have b0:=a4 0 (by omega)
 have b1:=a4 1 (by omega)
 have b2:=a4 2 (by omega)
 simp only [Nat.reduceAdd] at b0 b1 b2
 by_cases e:d=c
 ·subst e
  refine ⟨by simp [Pu.add];omega,by simp [Pu.add];omega,by simp [Pu.add];omega,fun i hi=>?_⟩
  have:i=0∨i=1∨i=2:=by omega
  rcases this with rfl|rfl|rfl<;>simp [Pu.add]<;>omega
 ·simp only [Pu.add,e,if_false]
  exact ⟨a1,a2,a3,a4⟩
theorem give_end {wr:World} (h:PurseAt own i w p P) (hP:PurseAt own i wr p P) (hB:Below w.heap.size w wr) {c:Nat} (hc:c<6) (cash:Int) (s:Nat→Int) (h00:0≤cash) (h0:0≤s 0) (h1:0≤s 1) (h2:0≤s 2) (k:cash≤1099511627776 - P c 0) (k0:s 0≤1073741824 - P c 2) (k1:s 1≤1073741824 - P c 3) (k2:s 2≤1073741824 - P c 4) :
  ObjTo own i i w (fun o w'=>PurseAt o i w' p (P.add c cash s)) ((((((((wr.setCell ⟨p,c*8,none⟩ (.int .i64 (P c 0+cash))).setCell ⟨p,c*8+1,none⟩ (.int .i64 (P c 1))).setCell ⟨p,c*8+2,none⟩ (.int .i64 (P c 2+s 0))).setCell ⟨p,c*8+3,none⟩ (.int .i64 (P c 3+s 1))).setCell ⟨p,c*8+4,none⟩ (.int .i64 (P c 4+s 2))).setCell ⟨p,c*8+5,none⟩ (.int .i64 (P c 5))).setCell ⟨p,c*8+6,none⟩ (.int .i64 (P c 6))).setCell ⟨p,c*8+7,none⟩ (.int .i64 (P c 7))).drew:=by
 have hi:=add_inv h.2.1 (c:=c) h00 h0 h1 h2 k k0 k1 k2
 have e:(fun d j=>if d=c then P.add c cash s c j else P d j)=P.add c cash s:=by
  funext d j
  by_cases e:d=c
  ·simp [e]
  ·simp [e,Pu.add]
 have hs:=hP.setAll hc (fun j=>P.add c cash s c j) (by rw [e];exact hi)
 rw [e] at hs
 simp [Pu.add] at hs
 refine ObjTo.of ?_ (PurseAt.toLab (hs.later (Ex.drew (Ex.refl _))))
 refine Kp.drew ?_
 have hm:=h.1
 have h7:∀ q:Addr,q.block=p→(q.block<w.heap.size→own q.block / 1=i):=fun q hq _=>by rw [hq,Nat.div_one];exact hm
 exact ((((((((Kp.of_below hB).setCell (h7 _ rfl) _).setCell (h7 _ rfl) _).setCell (h7 _ rfl) _).setCell (h7 _ rfl) _).setCell (h7 _ rfl) _).setCell (h7 _ rfl) _).setCell (h7 _ rfl) _).setCell (h7 _ rfl) _
set_option maxRecDepth 100000 in
theorem give_client (h:PurseAt own i w p P) (n cash:Int) (s:Nat→Int) (E:Nat→Addr) (hE:Errs E [2,8] w) (hc:(inR n 0 5 && decide (0≤cash))=false) :
  Calls Tryz.prog 74 #[.pointer (some ⟨p,0,none⟩),.int .i64 n,.int .i64 cash,stockV s] w fun e w'=>e=.returned (errV E 2)∧ObjTo own i i w (fun o w'=>PurseAt o i w' p P) w':=by
 have e2:w.cell? ⟨0,0,none⟩=some (.iface 357 (.pointer (some (E 2)))):=hE 2 (by decide)
 have b2:0<w.heap.size:=lt_of_cell e2
 have H:=Lib.hid h
 clear h
 have HC:=Lib.hid (pclient_any n)
 rw [errV_pos E 2 (by decide)]
 clear hE
 cases hn:inR n 0 5
 ·rw [hn] at HC
  clear hn hc
  go_enter Tryz.func74,Tryz.ntmps74
  go_wp2_with (go_at_call 63;refine (HC.out _).mono ?_;rintro e w1 ⟨rfl,l1,d1,rfl⟩)
  all_goals go_ret
  all_goals exact ⟨rfl,ObjTo.of_ex (by repeat (first|exact Ex.refl _|refine Ex.alloc ?_ _|refine Ex.ext ?_ _ _|refine Ex.drew ?_|refine Ex.drewN ?_ _)) ((H.out.relabel (fun n hn e=>by rw [lab_lt hn];exact e)).later (by repeat (first|exact Ex.refl _|refine Ex.alloc ?_ _|refine Ex.ext ?_ _ _|refine Ex.drew ?_|refine Ex.drewN ?_ _)))⟩
 ·rw [hn] at HC hc
  have hcash:cash<0:=by simpa using hc
  clear hn hc
  go_enter Tryz.func74,Tryz.ntmps74
  go_wp2_with (go_at_call 63;refine (HC.out _).mono ?_;rintro e w1 ⟨rfl,l1,d1,rfl⟩)
  all_goals go_ret
  all_goals exact ⟨rfl,ObjTo.of_ex (by repeat (first|exact Ex.refl _|refine Ex.alloc ?_ _|refine Ex.ext ?_ _ _|refine Ex.drew ?_|refine Ex.drewN ?_ _)) ((H.out.relabel (fun n hn e=>by rw [lab_lt hn];exact e)).later (by repeat (first|exact Ex.refl _|refine Ex.alloc ?_ _|refine Ex.ext ?_ _ _|refine Ex.drew ?_|refine Ex.drewN ?_ _)))⟩
set_option maxRecDepth 100000 in
set_option maxHeartbeats 2000000 in
theorem give_in (h:PurseAt own i w p P) (c:Nat) (hc:c<6) (cash:Int) (hcash:0≤cash) (s:Nat→Int) (E:Nat→Addr) (hE:Errs E [2,8] w) :
  Calls Tryz.prog 74 #[.pointer (some ⟨p,0,none⟩),.int .i64 (c:Int),.int .i64 cash,stockV s] w fun e w'=>e=.returned (errV E (giveE P (c:Int) cash s))∧ObjTo own i i w (fun o w'=>PurseAt o i w' p (giveP P (c:Int) cash s)) w':=by
 have e2:w.cell? ⟨0,0,none⟩=some (.iface 357 (.pointer (some (E 2)))):=hE 2 (by decide)
 have b2:0<w.heap.size:=lt_of_cell e2
 have e8:w.cell? ⟨3,0,none⟩=some (.iface 357 (.pointer (some (E 8)))):=hE 8 (by decide)
 have b8:3<w.heap.size:=lt_of_cell e8
 obtain ⟨v1,v2,v3,v4⟩:=h.2.1 c hc
 have v40:=v4 0 (by omega)
 have v41:=v4 1 (by omega)
 have v42:=v4 2 (by omega)
 simp only [Nat.reduceAdd] at v40 v41 v42
 have q0:=h.cell hc (j:=0) (by omega)
 have q1:=h.cell hc (j:=1) (by omega)
 have q2:=h.cell hc (j:=2) (by omega)
 have q3:=h.cell hc (j:=3) (by omega)
 have q4:=h.cell hc (j:=4) (by omega)
 have q5:=h.cell hc (j:=5) (by omega)
 have q6:=h.cell hc (j:=6) (by omega)
 have q7:=h.cell hc (j:=7) (by omega)
 simp only [Nat.add_zero] at q0
 have hp:=h.lt
 have HC:=Lib.hid (pclient_any (c:Int))
 rw [show inR (c:Int) 0 5=true from inR_iff.2 (by omega)] at HC
 have H:=Lib.hid h
 have c0:(0:Int)≤(c:Int):=by omega
 have c6:(c:Int)<6:=by omega
 clear h v4 hE
 have ix0:∀ w,(Instr.index 77 (.agg #[.int .i64 (s 0),.int .i64 (s 1),.int .i64 (s 2)]) (.int .i64 0)).run Tryz.prog w=.ok (.int .i64 (s 0)) w:=fun _=>by kernel_rfl
 have ix1:∀ w,(Instr.index 77 (.agg #[.int .i64 (s 0),.int .i64 (s 1),.int .i64 (s 2)]) (.int .i64 1)).run Tryz.prog w=.ok (.int .i64 (s 1)) w:=fun _=>by kernel_rfl
 have ix2:∀ w,(Instr.index 77 (.agg #[.int .i64 (s 0),.int .i64 (s 1),.int .i64 (s 2)]) (.int .i64 2)).run Tryz.prog w=.ok (.int .i64 (s 2)) w:=fun _=>by kernel_rfl
 have HX:Hid (giveE P (c:Int) cash s=if 0≤s 0∧0≤s 1∧0≤s 2 then (if 1099511627776 - P c 0<cash then 8 else if 1073741824 - P c 2<s 0∨1073741824 - P c 3<s 1∨1073741824 - P c 4<s 2 then 8 else 0) else 2):=by
  unfold giveE
  rw [show inR (c:Int) 0 5=true from inR_iff.2 (by omega),decide_eq_true hcash,Bool.true_and,if_pos rfl,Int.toNat_natCast]
  rfl
 have HY:Hid (giveE P (c:Int) cash s≠0→giveP P (c:Int) cash s=P):=fun he=>by unfold giveP;rw [if_neg he]
 go_enter Tryz.func74,Tryz.ntmps74
 go_wp2_with (go_at_call 63;refine (HC.out _).mono ?_;rintro e w1 ⟨rfl,l1,d1,rfl⟩)
 go_loop [23] (fun ik=>∃ k:Nat,k≤3∧ik=.int .i64 k∧∀ j,j<k→0≤s j) (fun ik=>3 - (intOf ik).toNat)
 case atStart=>exact ⟨0,by omega,rfl,fun j hj=>by omega⟩
 case round =>
  obtain ⟨k,hk,rfl,hneg⟩:=hrel
  by_cases hlt:k<3
  ·have:k=0∨k=1∨k=2:=by omega
   rcases this with rfl|rfl|rfl
   ·by_cases hs:s 0<0
    ·have e1:giveE P (c:Int) cash s=2:=by rw [HX.out,if_neg (by omega)]
     have HE1:=Lib.hid e1
     clear e1
     go_wp2
     all_goals go_ret
     all_goals refine ⟨by rw [HE1.out,errV_pos _ _ (by decide)];rfl,?_⟩
     all_goals rw [HY.out (by rw [HE1.out];decide)]
     all_goals exact ObjTo.of_ex (by repeat (first|exact Ex.refl _|refine Ex.alloc ?_ _|refine Ex.ext ?_ _ _|refine Ex.drew ?_|refine Ex.drewN ?_ _)) ((H.out.relabel (fun n hn e=>by rw [lab_lt hn];exact e)).later (by repeat (first|exact Ex.refl _|refine Ex.alloc ?_ _|refine Ex.ext ?_ _ _|refine Ex.drew ?_|refine Ex.drewN ?_ _)))
    ·go_wp2
     all_goals
      go_round
      case rel=>exact ⟨1,by omega,by go_num,fun j hj=>by obtain rfl:j=0:=(by omega);omega⟩
      case measure=>simp [intOf]
   ·by_cases hs:s 1<0
    ·have e1:giveE P (c:Int) cash s=2:=by rw [HX.out,if_neg (by omega)]
     have HE1:=Lib.hid e1
     clear e1
     go_wp2
     all_goals go_ret
     all_goals refine ⟨by rw [HE1.out,errV_pos _ _ (by decide)];rfl,?_⟩
     all_goals rw [HY.out (by rw [HE1.out];decide)]
     all_goals exact ObjTo.of_ex (by repeat (first|exact Ex.refl _|refine Ex.alloc ?_ _|refine Ex.ext ?_ _ _|refine Ex.drew ?_|refine Ex.drewN ?_ _)) ((H.out.relabel (fun n hn e=>by rw [lab_lt hn];exact e)).later (by repeat (first|exact Ex.refl _|refine Ex.alloc ?_ _|refine Ex.ext ?_ _ _|refine Ex.drew ?_|refine Ex.drewN ?_ _)))
    ·go_wp2
     all_goals
      go_round
      case rel=>exact ⟨2,by omega,by go_num,fun j hj=>by have:j=0∨j=1:=(by omega);rcases this with rfl|rfl;(exact hneg 0 (by omega));omega⟩
      case measure=>simp [intOf]
   ·by_cases hs:s 2<0
    ·have e1:giveE P (c:Int) cash s=2:=by rw [HX.out,if_neg (by omega)]
     have HE1:=Lib.hid e1
     clear e1
     go_wp2
     all_goals go_ret
     all_goals refine ⟨by rw [HE1.out,errV_pos _ _ (by decide)];rfl,?_⟩
     all_goals rw [HY.out (by rw [HE1.out];decide)]
     all_goals exact ObjTo.of_ex (by repeat (first|exact Ex.refl _|refine Ex.alloc ?_ _|refine Ex.ext ?_ _ _|refine Ex.drew ?_|refine Ex.drewN ?_ _)) ((H.out.relabel (fun n hn e=>by rw [lab_lt hn];exact e)).later (by repeat (first|exact Ex.refl _|refine Ex.alloc ?_ _|refine Ex.ext ?_ _ _|refine Ex.drew ?_|refine Ex.drewN ?_ _)))
    ·go_wp2
     all_goals
      go_round
      case rel=>exact ⟨3,by omega,by go_num,fun j hj=>by have:j=0∨j=1∨j=2:=(by omega);rcases this with rfl|rfl|rfl;(exact hneg 0 (by omega));(exact hneg 1 (by omega));omega⟩
      case measure=>simp [intOf]
  ·have s0:=hneg 0 (by omega)
   have s1:=hneg 1 (by omega)
   have s2:=hneg 2 (by omega)
   clear hneg
   by_cases hfull:1099511627776 - P c 0<cash
   ·have e1:giveE P (c:Int) cash s=8:=by rw [HX.out,if_pos ⟨s0,s1,s2⟩,if_pos hfull]
    have HE1:=Lib.hid e1
    clear e1
    go_wp2
    all_goals go_ret
    all_goals refine ⟨by rw [HE1.out,errV_pos _ _ (by decide)];rfl,?_⟩
    all_goals rw [HY.out (by rw [HE1.out];decide)]
    all_goals exact ObjTo.of_ex (by repeat (first|exact Ex.refl _|refine Ex.alloc ?_ _|refine Ex.ext ?_ _ _|refine Ex.drew ?_|refine Ex.drewN ?_ _)) ((H.out.relabel (fun n hn e=>by rw [lab_lt hn];exact e)).later (by repeat (first|exact Ex.refl _|refine Ex.alloc ?_ _|refine Ex.ext ?_ _ _|refine Ex.drew ?_|refine Ex.drewN ?_ _)))
   ·have hk3:decide ((k:Int)<3)=false:=decide_eq_false (by omega)
    have hcb:decide (cash<0)=false:=decide_eq_false (by omega)
    have hw:IntKind.i64.wrap (P c 0+cash)=P c 0+cash:=IntWalk.i64_in _ (by omega)
    go_wp2
    go_loopw [48] (fun jk wr=>∃ m:Nat,m≤3∧jk=.int .i64 m∧(0<m→s 0≤1073741824 - P c 2)∧(1<m→s 1≤1073741824 - P c 3)∧(2<m→s 2≤1073741824 - P c 4) ∧
      wr.cell? ⟨w.heap.size+1+l1.length,0,none⟩=some (.int .i64 (P c 0+cash))∧wr.cell? ⟨w.heap.size+1+l1.length,1,none⟩=some (.int .i64 (P c 1))∧wr.cell? ⟨w.heap.size+1+l1.length,2,none⟩=some (.int .i64 (if 0<m then P c 2+s 0 else P c 2))∧wr.cell? ⟨w.heap.size+1+l1.length,3,none⟩=some (.int .i64 (if 1<m then P c 3+s 1 else P c 3))∧wr.cell? ⟨w.heap.size+1+l1.length,4,none⟩=some (.int .i64 (if 2<m then P c 4+s 2 else P c 4)) ∧
      wr.cell? ⟨w.heap.size+1+l1.length,5,none⟩=some (.int .i64 (P c 5))∧wr.cell? ⟨w.heap.size+1+l1.length,6,none⟩=some (.int .i64 (P c 6))∧wr.cell? ⟨w.heap.size+1+l1.length,7,none⟩=some (.int .i64 (P c 7)) ∧
      wr.frozen? ⟨w.heap.size+1+l1.length,2,none⟩=false∧wr.frozen? ⟨w.heap.size+1+l1.length,3,none⟩=false∧wr.frozen? ⟨w.heap.size+1+l1.length,4,none⟩=false∧Below w.heap.size w wr) (fun jk _=>3 - (intOf jk).toNat)
    case atStart =>
     refine ⟨0,by omega,rfl,(fun h=>absurd h (by omega)),(fun h=>absurd h (by omega)),(fun h=>absurd h (by omega)),?_,?_,?_,?_,?_,?_,?_,?_,?_,?_,?_,?_⟩
     all_goals first
      | (simp [go_sem,↓IntWalk.iteOmega];done)
      | exact Ex.below (by repeat (first|exact Ex.refl _|refine Ex.alloc ?_ _|refine Ex.ext ?_ _ _|refine Ex.drew ?_|refine Ex.drewN ?_ _))
    case round =>
     obtain ⟨m,hm,rfl,e0,e1,e2,z0,z1,z2,z3,z4,z5,z6,z7,f2,f3,f4,hB⟩:=hrel
     by_cases hmt:m<3
     ·have:m=0∨m=1∨m=2:=by omega
      have HB:=Lib.hid hB
      have hlt:=lt_of_cell z0
      rcases this with rfl|rfl|rfl
      ·simp at z2 z3 z4
       by_cases hs:1073741824 - P c 2<s 0
       ·have e1:giveE P (c:Int) cash s=8:=by rw [HX.out,if_pos ⟨s0,s1,s2⟩,if_neg (by omega),if_pos (by omega)]
        have HE1:=Lib.hid e1
        have e8':wr.cell? ⟨3,0,none⟩=_:=(HB.out.cell (p:=⟨3,0,none⟩) b8).trans e8
        clear e1 hB
        go_wp2
        all_goals go_ret
        all_goals refine ⟨by rw [HE1.out,errV_pos _ _ (by decide)];rfl,?_⟩
        all_goals rw [HY.out (by rw [HE1.out];decide)]
        all_goals exact ObjTo.of_ex (Ex.of HB.out) ((H.out.relabel (fun n hn e=>by rw [lab_lt hn];exact e)).later (Ex.of HB.out))
       ·clear hB
        go_wp2
        all_goals
         go_roundw
         case measure=>simp [intOf]
         case rel =>
          refine ⟨1,by omega,by go_num,(fun _=>by omega),(fun _=>by omega),(fun _=>by omega),?_,?_,?_,?_,?_,?_,?_,?_,?_,?_,?_,?_⟩
          all_goals first
           | (simp [go_sem,↓IntWalk.iteOmega, *];done)
           | exact Below.setCell HB.out (by show w.heap.size≤w.heap.size+1+l1.length;omega) _
      ·simp at z2 z3 z4
       by_cases hs:1073741824 - P c 3<s 1
       ·have e1:giveE P (c:Int) cash s=8:=by rw [HX.out,if_pos ⟨s0,s1,s2⟩,if_neg (by omega),if_pos (by omega)]
        have HE1:=Lib.hid e1
        have e8':wr.cell? ⟨3,0,none⟩=_:=(HB.out.cell (p:=⟨3,0,none⟩) b8).trans e8
        clear e1 hB
        go_wp2
        all_goals go_ret
        all_goals refine ⟨by rw [HE1.out,errV_pos _ _ (by decide)];rfl,?_⟩
        all_goals rw [HY.out (by rw [HE1.out];decide)]
        all_goals exact ObjTo.of_ex (Ex.of HB.out) ((H.out.relabel (fun n hn e=>by rw [lab_lt hn];exact e)).later (Ex.of HB.out))
       ·clear hB
        go_wp2
        all_goals
         go_roundw
         case measure=>simp [intOf]
         case rel =>
          refine ⟨2,by omega,by go_num,(fun _=>by omega),(fun _=>by omega),(fun _=>by omega),?_,?_,?_,?_,?_,?_,?_,?_,?_,?_,?_,?_⟩
          all_goals first
           | (simp [go_sem,↓IntWalk.iteOmega, *];done)
           | exact Below.setCell HB.out (by show w.heap.size≤w.heap.size+1+l1.length;omega) _
      ·simp at z2 z3 z4
       by_cases hs:1073741824 - P c 4<s 2
       ·have e1:giveE P (c:Int) cash s=8:=by rw [HX.out,if_pos ⟨s0,s1,s2⟩,if_neg (by omega),if_pos (by omega)]
        have HE1:=Lib.hid e1
        have e8':wr.cell? ⟨3,0,none⟩=_:=(HB.out.cell (p:=⟨3,0,none⟩) b8).trans e8
        clear e1 hB
        go_wp2
        all_goals go_ret
        all_goals refine ⟨by rw [HE1.out,errV_pos _ _ (by decide)];rfl,?_⟩
        all_goals rw [HY.out (by rw [HE1.out];decide)]
        all_goals exact ObjTo.of_ex (Ex.of HB.out) ((H.out.relabel (fun n hn e=>by rw [lab_lt hn];exact e)).later (Ex.of HB.out))
       ·clear hB
        go_wp2
        all_goals
         go_roundw
         case measure=>simp [intOf]
         case rel =>
          refine ⟨3,by omega,by go_num,(fun _=>by omega),(fun _=>by omega),(fun _=>by omega),?_,?_,?_,?_,?_,?_,?_,?_,?_,?_,?_,?_⟩
          all_goals first
           | (simp [go_sem,↓IntWalk.iteOmega, *];done)
           | exact Below.setCell HB.out (by show w.heap.size≤w.heap.size+1+l1.length;omega) _
     ·obtain rfl:m=3:=by omega
      have g0:=e0 (by omega)
      have g1:=e1 (by omega)
      have g2:=e2 (by omega)
      simp at z2 z3 z4
      have HB:=Lib.hid hB
      have hlt:=lt_of_cell z0
      have hsz:=hB.size
      have HP:=Lib.hid (H.out.later (Ex.of hB))
      have f0:=fun j=>HP.out.free j
      have y0:=(hB.cell (p:=⟨p,c*8,none⟩) hp).trans q0
      have y1:=(hB.cell (p:=⟨p,c*8+1,none⟩) hp).trans q1
      have y2:=(hB.cell (p:=⟨p,c*8+2,none⟩) hp).trans q2
      have y3:=(hB.cell (p:=⟨p,c*8+3,none⟩) hp).trans q3
      have y4:=(hB.cell (p:=⟨p,c*8+4,none⟩) hp).trans q4
      have y5:=(hB.cell (p:=⟨p,c*8+5,none⟩) hp).trans q5
      have y6:=(hB.cell (p:=⟨p,c*8+6,none⟩) hp).trans q6
      have y7:=(hB.cell (p:=⟨p,c*8+7,none⟩) hp).trans q7
      have hpw:p<wr.heap.size:=by omega
      have hne:w.heap.size+1+l1.length≠p:=by omega
      have E1:Hid (giveE P (c:Int) cash s=0):=by
       show giveE P (c:Int) cash s=0
       rw [HX.out,if_pos ⟨s0,s1,s2⟩,if_neg (by omega),if_neg (by omega)]
      have E2:Hid (giveP P (c:Int) cash s=P.add c cash s):=by
       show giveP P (c:Int) cash s=_
       unfold giveP
       rw [if_pos E1.out,Int.toNat_natCast]
      clear q0 q1 q2 q3 q4 q5 q6 q7 hB e0 e1 e2
      go_wp2
      go_region
      all_goals go_wp2
      all_goals go_ret
      all_goals refine ⟨by rw [E1.out,errV_zero];rfl,?_⟩
      all_goals rw [E2.out]
      all_goals exact give_end H.out HP.out HB.out hc cash s hcash s0 s1 s2 (by omega) g0 g1 g2
theorem give_any (h:PurseAt own i w p P) (n cash:Int) (s:Nat→Int) (E:Nat→Addr) (hE:Errs E [2,8] w) :
  Calls Tryz.prog 74 #[.pointer (some ⟨p,0,none⟩),.int .i64 n,.int .i64 cash,stockV s] w fun e w'=>e=.returned (errV E (giveE P n cash s))∧ObjTo own i i w (fun o w'=>PurseAt o i w' p (giveP P n cash s)) w':=by
 cases hc:(inR n 0 5 && decide (0≤cash))
 ·have e1:giveE P n cash s=2:=by unfold giveE;rw [hc];rfl
  have e2:giveP P n cash s=P:=by unfold giveP;rw [if_neg (by rw [e1];decide)]
  rw [e1,e2]
  exact give_client h n cash s E hE hc
 ·rw [Bool.and_eq_true] at hc
  obtain ⟨h0,h5⟩:=inR_iff.1 hc.1
  obtain ⟨c,rfl⟩:=Int.eq_ofNat_of_zero_le h0
  exact give_in h c (by omega) cash (by simpa using hc.2) s E hE
end
end Go.Proofs.YtabbgpjofkaomaaGreatDoor

/- Trade of package purse where it trades. -/
namespace Go.Proofs.YtabbgpjofkaomaaGreatDoor
open Go.RowKit
theorem fair_zero {item:Int} {b s:Lot} {price qty:Int} (h:fairE item b s price qty=0):rightB item b=true∧rightB item s=true∧b.side=0∧s.side=1∧1≤price∧price≤1000∧1≤qty∧qty≤b.qty∧qty≤s.qty∧price≤b.price∧s.price≤price:=by
 unfold fairE at h
 split at h
 ·rename_i hr
  rw [Bool.and_eq_true] at hr
  split at h
  ·rename_i hs
   split at h
   ·cases h
   ·split at h
    ·cases h
    ·exact ⟨hr.1,hr.2,hs.1,hs.2,by omega,by omega,by omega,by omega,by omega,by omega,by omega⟩
  ·cases h
 ·cases h
def tradeF (P:Pu) (bo so it:Nat) (m1 m2 qty:Int):Pu :=
 let P1:=P.set bo 1 (P bo 1 - m1)
 let P2:=P1.set bo 0 (P1 bo 0 - m2)
 let P3:=P2.set so (5+it) (P2 so (5+it) - qty)
 let P4:=P3.set so (2+it) (P3 so (2+it) - qty)
 let P5:=P4.set bo (2+it) (P4 bo (2+it)+qty)
 P5.set so 0 (P5 so 0+m2)
section
variable {own:Nat→Nat} {i:Nat} {w:World} {p:Nat} {P:Pu}
set_option maxRecDepth 100000 in
set_option maxHeartbeats 2000000 in
theorem trade_ok (h:PurseAt own i w p P) (bo so it:Nat) (hbo6:bo<6) (hso6:so<6) (hit:it<3) (b s:Lot) (hbo:b.owner=(bo:Int)) (hso:s.owner=(so:Int)) (price qty:Int) (E:Nat→Addr) (hE:Errs E [2,3,8,10,12] w)
  (hf:fairE (it:Int) b s price qty=0) (h1:b.price*qty≤P bo 1) (h2:qty≤P so (5+it)) (hne:bo≠so) (h3:qty≤1073741824 - P bo (2+it)) (h4:price*qty≤1099511627776 - P so 0) :
  Calls Tryz.prog 190 #[.pointer (some ⟨p,0,none⟩),.int .i64 (it:Int),b.val,s.val,.int .i64 price,.int .i64 qty] w fun e w'=>e=.returned .nilIface∧ObjTo own i i w (fun o w'=>PurseAt o i w' p (tradeF P bo so it (b.price*qty) (price*qty) qty)) w':=by
 obtain ⟨f1,f2,f3,f4,f5,f6,f7,f8,f9,f10,f11⟩:=fair_zero hf
 have HF:=Lib.hid (fair_any (it:Int) b s price qty E)
 rw [hf,errV_zero] at HF
 have HE:=Lib.hid hE
 have H:=Lib.hid h
 obtain ⟨id1,owner1,side1,price1,qty1⟩:=b
 obtain ⟨id2,owner2,side2,price2,qty2⟩:=s
 simp only at hbo hso f3 f4 f8 f9 f10 f11 h1
 subst hbo hso f3 f4
 have hp:=h.lt
 have c0:(0:Int)≤(bo:Int):=by omega
 have c6:(bo:Int)<6:=by omega
 have s0:(0:Int)≤(so:Int):=by omega
 have s6:(so:Int)<6:=by omega
 have i0:(0:Int)≤(it:Int):=by omega
 have i3:(it:Int)<3:=by omega
 have q1:=h.cell hbo6 (j:=1) (by omega)
 have q0:=h.cell hso6 (j:=0) (by omega)
 have q5:=h.cell hso6 (j:=5+it) (by omega)
 have q2:=h.cell hbo6 (j:=2+it) (by omega)
 simp only [Nat.add_zero,← Nat.add_assoc] at q0 q2 q5
 obtain ⟨u1,u2,u3,u4⟩:=h.2.1 bo hbo6
 obtain ⟨v1,v2,v3,v4⟩:=h.2.1 so hso6
 obtain ⟨u5,u6,u7⟩:=u4 it hit
 obtain ⟨v5,v6,v7⟩:=v4 it hit
 obtain ⟨_,_,_,hp1,hq1⟩:=Lot.okC (x:=⟨id1,(bo:Int),0,price1,qty1⟩) (by simp only [rightB,Bool.and_eq_true] at f1;exact f1.2)
 simp only at hp1 hq1
 have hm1:=mul_bd hp1.1 hp1.2 f7 (by omega)
 have hm2:=mul_bd f5 f6 f7 (by omega)
 have k1:IntKind.i64.wrap (price1*qty)=price1*qty:=IntWalk.i64_in _ (by omega)
 have k2:IntKind.i64.wrap (price*qty)=price*qty:=IntWalk.i64_in _ (by omega)
 have k3:IntKind.i64.wrap (1073741824 - P bo (2+it))=1073741824 - P bo (2+it):=IntWalk.i64_in _ (by omega)
 have k4:IntKind.i64.wrap (1099511627776 - P so 0)=1099511627776 - P so 0:=IntWalk.i64_in _ (by omega)
 have k5:decide (P bo 1<price1*qty)=false:=decide_eq_false (by omega)
 have k6:decide (P so (5+it)<qty)=false:=decide_eq_false (by omega)
 have k7:decide (1073741824 - P bo (2+it)<qty)=false:=decide_eq_false (by omega)
 have k8:decide (1099511627776 - P so 0<price*qty)=false:=decide_eq_false (by omega)
 have n1:p≠w.heap.size:=by omega
 have n2:p<w.heap.size+1:=by omega
 clear hE h hf f1 f2 u4 v4
 go_enter Tryz.func190,Tryz.ntmps190
 go_wp2_with fail
 refine (HF.out _ (by exact Errs.sub (HE.out.ex (by repeat (first|exact Ex.refl _|refine Ex.alloc ?_ _|refine Ex.ext ?_ _ _|refine Ex.drew ?_|refine Ex.drewN ?_ _))) (by decide))).mono ?_
 rintro e w1 ⟨rfl,l1,d1,rfl⟩
 go_wp2_with fail
 go_region_held3 (fun w'=>w'.cell? ⟨w.heap.size,1,none⟩=some (.int .i64 (bo:Int))∧w'.cell? ⟨w.heap.size+1,1,none⟩=some (.int .i64 (so:Int))) (first|(refine ⟨?_,?_⟩<;>assumption)|(simp [go_sem,↓IntWalk.iteOmega, *];done)) (fail)
 go_wp2_with fail
 go_quiet (fail)
 go_upto_region 7 with (fail)
 refine wp_world (R:=TradeR own i w p price1 P) ⟨H.out.later (by repeat (first|exact Ex.refl _|refine Ex.alloc ?_ _|refine Ex.ext ?_ _ _|refine Ex.drew ?_|refine Ex.drewN ?_ _)),(by repeat (first|exact Kp.refl _ _ _ _|(refine Kp.alloc ?_ _)|(refine Kp.drew ?_)|(refine Kp.drewN ?_ _)|(refine Kp.ext ?_ _ _))),(by simp [go_sem,↓IntWalk.iteOmega]),hp⟩ (fun W hR=>?_)
 have hR1:=hR.1
 have hne':=neHasPtr_other W p (bo*8) (so*8) (by omega) hR1.block
 have y2:=hR1.cell hbo6 (j:=2+it) (by omega)
 have y0:=hR1.cell hso6 (j:=0) (by omega)
 simp only [Nat.add_zero,← Nat.add_assoc] at y0 y2
 have HR0:=Lib.hid hR
 clear hR hR1
 go_upto_region 9 with (fail)
 have hI1:PInv (P.set bo 1 (P bo 1 - price1*qty)):=H.out.2.1.set_held _ (by omega) (by omega)
 have z1:=HR0.out.1.cell hbo6 (j:=1) (by omega)
 have zf:=HR0.out.1.free (bo*8+1)
 have z3:=HR0.out.2.2.1
 have kw:IntKind.i64.wrap (P bo 1 - price1*qty)=P bo 1 - price1*qty:=IntWalk.i64_in _ (by omega)
 have HI1:=Lib.hid hI1
 clear y0 y2 hI1
 go_region
 all_goals
  go_upto_region 10 with (fail)
  refine wp_world (R:=TradeR own i w p price1 (P.set bo 1 (P bo 1 - price1*qty))) ?_ (fun W2 hR2=>?_)
  ·first
    | exact (HR0.out.set hbo6 (by omega) _ HI1.out rfl).drew
    | exact HR0.out.drew.set hbo6 (by omega) _ HI1.out rfl
  have hmul:price*qty≤price1*qty:=Int.mul_le_mul_of_nonneg_right f10 (by omega)
  obtain ⟨P1,hP1⟩:∃ P1,P1=P.set bo 1 (P bo 1 - price1*qty):=⟨_,rfl⟩
  rw [← hP1] at hR2
  have b1:P1 so 1=P so 1∧P1 bo 0=P bo 0∧P1 bo 1=P bo 1 - price1*qty∧P1 so 0=P so 0∧P1 so (5+it)=P so (5+it)∧P1 so (2+it)=P so (2+it)∧P1 bo (2+it)=P bo (2+it)∧P1 bo (5+it)=P bo (5+it):=by
   subst hP1
   refine ⟨?_,?_,?_,?_,?_,?_,?_,?_⟩<;>simp [Pu.set,hne,Ne.symm hne]<;>omega
  have HD1:=Lib.hid hP1
  have HB1:=Lib.hid b1
  have HR2:=Lib.hid hR2
  clear b1 hR2 hP1
  have hI2:PInv (P1.set bo 0 (P1 bo 0 - price*qty)):=by
   obtain ⟨g7,g0,g1,g2,g3,g4,g5,g6⟩:=HB1.out
   exact HR2.out.1.2.1.set_cash _ (by omega) (by omega)
  have z2:=HR2.out.1.cell (c:=bo) (j:=0) (by omega) (by omega)
  have zf2:=HR2.out.1.free (bo*8)
  simp only [Nat.add_zero,← Nat.add_assoc] at z2
  have kw2:IntKind.i64.wrap (P1 bo 0 - price*qty)=P1 bo 0 - price*qty:=by
   obtain ⟨g7,g0,g1,g2,g3,g4,g5,g6⟩:=HB1.out
   exact IntWalk.i64_in _ (by omega)
  have HI2:=Lib.hid hI2
  clear hI2
  go_upto_region 11 with (fail)
  refine wp_world (R:=TradeR own i w p price1 (P1.set bo 0 (P1 bo 0 - price*qty))) ?_ (fun W3 hR3=>?_)
  ·first
    | exact (HR2.out.set (by omega) (by omega) _ HI2.out (by omega)).drew
    | exact HR2.out.drew.set (by omega) (by omega) _ HI2.out (by omega)
    | exact HR2.out.set (by omega) (by omega) _ HI2.out (by omega)
  obtain ⟨P2,hP2⟩:∃ P2,P2=P1.set bo 0 (P1 bo 0 - price*qty):=⟨_,rfl⟩
  rw [← hP2] at hR3
  have b2:P2 so 1=P so 1∧P2 bo 0=(P bo 0) - price*qty∧P2 bo 1=P bo 1 - price1*qty∧P2 so 0=P so 0∧P2 so (5+it)=P so (5+it)∧P2 so (2+it)=P so (2+it)∧P2 bo (2+it)=P bo (2+it)∧P2 bo (5+it)=P bo (5+it):=by
   subst hP2
   refine ⟨?_,?_,?_,?_,?_,?_,?_,?_⟩<;>simp [Pu.set,hne,Ne.symm hne,HB1.out]<;>omega
  have HD2:=Lib.hid hP2
  have HB2:=Lib.hid b2
  have HR3:=Lib.hid hR3
  clear b2 hR3 hP2
  have hI3:PInv (P2.set so (5+it) (P2 so (5+it) - qty)):=by
   obtain ⟨g7,g0,g1,g2,g3,g4,g5,g6⟩:=HB2.out
   exact HR3.out.1.2.1.set_kept hit _ (by omega) (by omega)
  have z3:=HR3.out.1.cell (c:=so) (j:=(5+it)) (by omega) (by omega)
  have zf3:=HR3.out.1.free (so*8+5+it)
  simp only [Nat.add_zero,← Nat.add_assoc] at z3
  have kw3:IntKind.i64.wrap (P2 so (5+it) - qty)=P2 so (5+it) - qty:=by
   obtain ⟨g7,g0,g1,g2,g3,g4,g5,g6⟩:=HB2.out
   exact IntWalk.i64_in _ (by omega)
  have HI3:=Lib.hid hI3
  clear hI3
  go_region
  go_upto_region 12 with (fail)
  refine wp_world (R:=TradeR own i w p price1 (P2.set so (5+it) (P2 so (5+it) - qty))) ?_ (fun W4 hR4=>?_)
  ·first
    | exact (HR3.out.set (by omega) (by omega) _ HI3.out (by omega)).drew
    | exact HR3.out.drew.set (by omega) (by omega) _ HI3.out (by omega)
    | exact HR3.out.set (by omega) (by omega) _ HI3.out (by omega)
  obtain ⟨P3,hP3⟩:∃ P3,P3=P2.set so (5+it) (P2 so (5+it) - qty):=⟨_,rfl⟩
  rw [← hP3] at hR4
  have b3:P3 so 1=P so 1∧P3 bo 0=(P bo 0) - price*qty∧P3 bo 1=P bo 1 - price1*qty∧P3 so 0=P so 0∧P3 so (5+it)=(P so (5+it)) - qty∧P3 so (2+it)=P so (2+it)∧P3 bo (2+it)=P bo (2+it)∧P3 bo (5+it)=P bo (5+it):=by
   subst hP3
   refine ⟨?_,?_,?_,?_,?_,?_,?_,?_⟩<;>simp [Pu.set,hne,Ne.symm hne,HB2.out]<;>omega
  have HD3:=Lib.hid hP3
  have HB3:=Lib.hid b3
  have HR4:=Lib.hid hR4
  clear b3 hR4 hP3
  have hI4:PInv (P3.set so (2+it) (P3 so (2+it) - qty)):=by
   obtain ⟨g7,g0,g1,g2,g3,g4,g5,g6⟩:=HB3.out
   exact HR4.out.1.2.1.set_stock hit _ (by omega) (by omega)
  have z4:=HR4.out.1.cell (c:=so) (j:=(2+it)) (by omega) (by omega)
  have zf4:=HR4.out.1.free (so*8+2+it)
  simp only [Nat.add_zero,← Nat.add_assoc] at z4
  have kw4:IntKind.i64.wrap (P3 so (2+it) - qty)=P3 so (2+it) - qty:=by
   obtain ⟨g7,g0,g1,g2,g3,g4,g5,g6⟩:=HB3.out
   exact IntWalk.i64_in _ (by omega)
  have HI4:=Lib.hid hI4
  clear hI4
  go_region
  go_upto_region 13 with (fail)
  refine wp_world (R:=TradeR own i w p price1 (P3.set so (2+it) (P3 so (2+it) - qty))) ?_ (fun W5 hR5=>?_)
  ·first
    | exact (HR4.out.set (by omega) (by omega) _ HI4.out (by omega)).drew
    | exact HR4.out.drew.set (by omega) (by omega) _ HI4.out (by omega)
    | exact HR4.out.set (by omega) (by omega) _ HI4.out (by omega)
  obtain ⟨P4,hP4⟩:∃ P4,P4=P3.set so (2+it) (P3 so (2+it) - qty):=⟨_,rfl⟩
  rw [← hP4] at hR5
  have b4:P4 so 1=P so 1∧P4 bo 0=(P bo 0) - price*qty∧P4 bo 1=P bo 1 - price1*qty∧P4 so 0=P so 0∧P4 so (5+it)=(P so (5+it)) - qty∧P4 so (2+it)=(P so (2+it)) - qty∧P4 bo (2+it)=P bo (2+it)∧P4 bo (5+it)=P bo (5+it):=by
   subst hP4
   refine ⟨?_,?_,?_,?_,?_,?_,?_,?_⟩<;>simp [Pu.set,hne,Ne.symm hne,HB3.out]<;>omega
  have HD4:=Lib.hid hP4
  have HB4:=Lib.hid b4
  have HR5:=Lib.hid hR5
  clear b4 hR5 hP4
  have hI5:PInv (P4.set bo (2+it) (P4 bo (2+it)+qty)):=by
   obtain ⟨g7,g0,g1,g2,g3,g4,g5,g6⟩:=HB4.out
   exact HR5.out.1.2.1.set_stock hit _ (by omega) (by omega)
  have z5:=HR5.out.1.cell (c:=bo) (j:=(2+it)) (by omega) (by omega)
  have zf5:=HR5.out.1.free (bo*8+2+it)
  simp only [Nat.add_zero,← Nat.add_assoc] at z5
  have kw5:IntKind.i64.wrap (P4 bo (2+it)+qty)=P4 bo (2+it)+qty:=by
   obtain ⟨g7,g0,g1,g2,g3,g4,g5,g6⟩:=HB4.out
   exact IntWalk.i64_in _ (by omega)
  have HI5:=Lib.hid hI5
  clear hI5
  go_region
  go_upto_region 14 with (fail)
  refine wp_world (R:=TradeR own i w p price1 (P4.set bo (2+it) (P4 bo (2+it)+qty))) ?_ (fun W6 hR6=>?_)
  ·first
    | exact (HR5.out.set (by omega) (by omega) _ HI5.out (by omega)).drew
    | exact HR5.out.drew.set (by omega) (by omega) _ HI5.out (by omega)
    | exact HR5.out.set (by omega) (by omega) _ HI5.out (by omega)
  obtain ⟨P5,hP5⟩:∃ P5,P5=P4.set bo (2+it) (P4 bo (2+it)+qty):=⟨_,rfl⟩
  rw [← hP5] at hR6
  have b5:P5 so 1=P so 1∧P5 bo 0=(P bo 0) - price*qty∧P5 bo 1=P bo 1 - price1*qty∧P5 so 0=P so 0∧P5 so (5+it)=(P so (5+it)) - qty∧P5 so (2+it)=(P so (2+it)) - qty∧P5 bo (2+it)=(P bo (2+it))+qty∧P5 bo (5+it)=P bo (5+it):=by
   subst hP5
   refine ⟨?_,?_,?_,?_,?_,?_,?_,?_⟩<;>simp [Pu.set,hne,Ne.symm hne,HB4.out]<;>omega
  have HD5:=Lib.hid hP5
  have HB5:=Lib.hid b5
  have HR6:=Lib.hid hR6
  clear b5 hR6 hP5
  have hI6:PInv (P5.set so 0 (P5 so 0+price*qty)):=by
   obtain ⟨g7,g0,g1,g2,g3,g4,g5,g6⟩:=HB5.out
   exact HR6.out.1.2.1.set_cash _ (by omega) (by omega)
  have z6:=HR6.out.1.cell (c:=so) (j:=0) (by omega) (by omega)
  have zf6:=HR6.out.1.free (so*8)
  simp only [Nat.add_zero,← Nat.add_assoc] at z6
  have kw6:IntKind.i64.wrap (P5 so 0+price*qty)=P5 so 0+price*qty:=by
   obtain ⟨g7,g0,g1,g2,g3,g4,g5,g6⟩:=HB5.out
   exact IntWalk.i64_in _ (by omega)
  have HI6:=Lib.hid hI6
  clear hI6
  go_wp2_with fail
  all_goals go_ret
  all_goals refine ⟨rfl,?_⟩
  all_goals rw [show tradeF P bo so it (price1*qty) (price*qty) qty=P5.set so 0 (P5 so 0+price*qty) by unfold tradeF;rw [HD5.out,HD4.out,HD3.out,HD2.out,HD1.out]]
  all_goals have hfin:=HR6.out.set (c:=so) (j:=0) (by omega) (by omega) _ HI6.out (n:=so*8) (by omega)
  all_goals first
   | exact ObjTo.of hfin.2.1 (PurseAt.toLab hfin.1)
   | exact ObjTo.of hfin.drew.2.1 (PurseAt.toLab hfin.drew.1)
end
end Go.Proofs.YtabbgpjofkaomaaGreatDoor

/- Trade of package purse where it does not trade. -/
namespace Go.Proofs.YtabbgpjofkaomaaGreatDoor
open Go.RowKit
section
variable {own:Nat→Nat} {i:Nat} {w:World} {p:Nat} {P:Pu}
set_option maxRecDepth 100000 in
theorem trade_unfair (h:PurseAt own i w p P) (item:Int) (b s:Lot) (price qty:Int) (E:Nat→Addr) (hE:Errs E [2,3,8,10,12] w) (hf:fairE item b s price qty≠0) :
  Calls Tryz.prog 190 #[.pointer (some ⟨p,0,none⟩),.int .i64 item,b.val,s.val,.int .i64 price,.int .i64 qty] w fun e w'=>e=.returned (errV E (fairE item b s price qty))∧ObjTo own i i w (fun o w'=>PurseAt o i w' p P) w':=by
 have hF:=fair_any item b s price qty E
 rw [errV_pos _ _ hf]
 rw [errV_pos _ _ hf] at hF
 have HF:=Lib.hid hF
 have HE:=Lib.hid hE
 have H:=Lib.hid h
 clear hF hE h hf
 generalize fairE item b s price qty=n at *
 go_enter Tryz.func190,Tryz.ntmps190
 go_wp2_with fail
 refine (HF.out _ (by exact Errs.sub (HE.out.ex (by repeat (first|exact Ex.refl _|refine Ex.alloc ?_ _|refine Ex.ext ?_ _ _|refine Ex.drew ?_|refine Ex.drewN ?_ _))) (by decide))).mono ?_
 rintro e w1 ⟨rfl,l1,d1,rfl⟩
 go_wp2_with fail
 all_goals go_ret
 all_goals exact ⟨rfl,ObjTo.of_ex (by repeat (first|exact Ex.refl _|refine Ex.alloc ?_ _|refine Ex.ext ?_ _ _|refine Ex.drew ?_|refine Ex.drewN ?_ _)) ((H.out.relabel (fun n hn e=>by rw [lab_lt hn];exact e)).later (by repeat (first|exact Ex.refl _|refine Ex.alloc ?_ _|refine Ex.ext ?_ _ _|refine Ex.drew ?_|refine Ex.drewN ?_ _)))⟩
set_option maxRecDepth 100000 in
set_option maxHeartbeats 2000000 in
theorem trade_poor1 (h:PurseAt own i w p P) (bo so it:Nat) (hbo6:bo<6) (hso6:so<6) (hit:it<3) (b s:Lot) (hbo:b.owner=(bo:Int)) (hso:s.owner=(so:Int)) (price qty:Int) (E:Nat→Addr) (hE:Errs E [2,3,8,10,12] w)
  (hf:fairE (it:Int) b s price qty=0) (h1:P bo 1<b.price*qty) :
  Calls Tryz.prog 190 #[.pointer (some ⟨p,0,none⟩),.int .i64 (it:Int),b.val,s.val,.int .i64 price,.int .i64 qty] w fun e w'=>e=.returned (errV E 10)∧ObjTo own i i w (fun o w'=>PurseAt o i w' p P) w':=by
 have e10:w.cell? ⟨9,0,none⟩=some (.iface 357 (.pointer (some (E 10)))):=hE 10 (by decide)
 have b10:9<w.heap.size:=lt_of_cell e10
 obtain ⟨f1,f2,f3,f4,f5,f6,f7,f8,f9,f10,f11⟩:=fair_zero hf
 have HF:=Lib.hid (fair_any (it:Int) b s price qty E)
 rw [hf,errV_zero] at HF
 have HE:=Lib.hid hE
 have H:=Lib.hid h
 obtain ⟨id1,owner1,side1,price1,qty1⟩:=b
 obtain ⟨id2,owner2,side2,price2,qty2⟩:=s
 simp only at hbo hso f3 f4 f8 f9 f10 f11 h1
 subst hbo hso f3 f4
 have hp:=h.lt
 have c0:(0:Int)≤(bo:Int):=by omega
 have c6:(bo:Int)<6:=by omega
 have s0:(0:Int)≤(so:Int):=by omega
 have s6:(so:Int)<6:=by omega
 have i0:(0:Int)≤(it:Int):=by omega
 have i3:(it:Int)<3:=by omega
 have q1:=h.cell hbo6 (j:=1) (by omega)
 have q0:=h.cell hso6 (j:=0) (by omega)
 have q5:=h.cell hso6 (j:=5+it) (by omega)
 have q2:=h.cell hbo6 (j:=2+it) (by omega)
 simp only [Nat.add_zero,← Nat.add_assoc] at q0 q2 q5
 obtain ⟨u1,u2,u3,u4⟩:=h.2.1 bo hbo6
 obtain ⟨v1,v2,v3,v4⟩:=h.2.1 so hso6
 obtain ⟨u5,u6,u7⟩:=u4 it hit
 obtain ⟨v5,v6,v7⟩:=v4 it hit
 obtain ⟨_,_,_,hp1,hq1⟩:=Lot.okC (x:=⟨id1,(bo:Int),0,price1,qty1⟩) (by simp only [rightB,Bool.and_eq_true] at f1;exact f1.2)
 simp only at hp1 hq1
 have hm1:=mul_bd hp1.1 hp1.2 f7 (by omega)
 have hm2:=mul_bd f5 f6 f7 (by omega)
 have k1:IntKind.i64.wrap (price1*qty)=price1*qty:=IntWalk.i64_in _ (by omega)
 have k2:IntKind.i64.wrap (price*qty)=price*qty:=IntWalk.i64_in _ (by omega)
 have k3:IntKind.i64.wrap (1073741824 - P bo (2+it))=1073741824 - P bo (2+it):=IntWalk.i64_in _ (by omega)
 have k4:IntKind.i64.wrap (1099511627776 - P so 0)=1099511627776 - P so 0:=IntWalk.i64_in _ (by omega)
 have k5:decide (P bo 1<price1*qty)=true:=decide_eq_true (by omega)
 have n1:p≠w.heap.size:=by omega
 have n2:p<w.heap.size+1:=by omega
 clear hE h hf f1 f2 u4 v4
 go_enter Tryz.func190,Tryz.ntmps190
 go_wp2_with fail
 refine (HF.out _ (by exact Errs.sub (HE.out.ex (by repeat (first|exact Ex.refl _|refine Ex.alloc ?_ _|refine Ex.ext ?_ _ _|refine Ex.drew ?_|refine Ex.drewN ?_ _))) (by decide))).mono ?_
 rintro e w1 ⟨rfl,l1,d1,rfl⟩
 go_wp2_with fail
 go_region_held3 (fun w'=>w'.cell? ⟨w.heap.size,1,none⟩=some (.int .i64 (bo:Int))∧w'.cell? ⟨w.heap.size+1,1,none⟩=some (.int .i64 (so:Int))) (first|(refine ⟨?_,?_⟩<;>assumption)|(simp [go_sem,↓IntWalk.iteOmega, *];done)) (fail)
 go_wp2_with fail
 go_quiet (fail)
 go_wp2_with fail
 all_goals go_ret
 all_goals exact ⟨by rw [errV_pos _ _ (by decide)];rfl,ObjTo.of_ex (by repeat (first|exact Ex.refl _|refine Ex.alloc ?_ _|refine Ex.ext ?_ _ _|refine Ex.drew ?_|refine Ex.drewN ?_ _)) ((H.out.relabel (fun n hn e=>by rw [lab_lt hn];exact e)).later (by repeat (first|exact Ex.refl _|refine Ex.alloc ?_ _|refine Ex.ext ?_ _ _|refine Ex.drew ?_|refine Ex.drewN ?_ _)))⟩
set_option maxRecDepth 100000 in
set_option maxHeartbeats 2000000 in
theorem trade_poor2 (h:PurseAt own i w p P) (bo so it:Nat) (hbo6:bo<6) (hso6:so<6) (hit:it<3) (b s:Lot) (hbo:b.owner=(bo:Int)) (hso:s.owner=(so:Int)) (price qty:Int) (E:Nat→Addr) (hE:Errs E [2,3,8,10,12] w)
  (hf:fairE (it:Int) b s price qty=0) (h1:b.price*qty≤P bo 1) (h2:P so (5+it)<qty) :
  Calls Tryz.prog 190 #[.pointer (some ⟨p,0,none⟩),.int .i64 (it:Int),b.val,s.val,.int .i64 price,.int .i64 qty] w fun e w'=>e=.returned (errV E 10)∧ObjTo own i i w (fun o w'=>PurseAt o i w' p P) w':=by
 have e10:w.cell? ⟨9,0,none⟩=some (.iface 357 (.pointer (some (E 10)))):=hE 10 (by decide)
 have b10:9<w.heap.size:=lt_of_cell e10
 obtain ⟨f1,f2,f3,f4,f5,f6,f7,f8,f9,f10,f11⟩:=fair_zero hf
 have HF:=Lib.hid (fair_any (it:Int) b s price qty E)
 rw [hf,errV_zero] at HF
 have HE:=Lib.hid hE
 have H:=Lib.hid h
 obtain ⟨id1,owner1,side1,price1,qty1⟩:=b
 obtain ⟨id2,owner2,side2,price2,qty2⟩:=s
 simp only at hbo hso f3 f4 f8 f9 f10 f11 h1
 subst hbo hso f3 f4
 have hp:=h.lt
 have c0:(0:Int)≤(bo:Int):=by omega
 have c6:(bo:Int)<6:=by omega
 have s0:(0:Int)≤(so:Int):=by omega
 have s6:(so:Int)<6:=by omega
 have i0:(0:Int)≤(it:Int):=by omega
 have i3:(it:Int)<3:=by omega
 have q1:=h.cell hbo6 (j:=1) (by omega)
 have q0:=h.cell hso6 (j:=0) (by omega)
 have q5:=h.cell hso6 (j:=5+it) (by omega)
 have q2:=h.cell hbo6 (j:=2+it) (by omega)
 simp only [Nat.add_zero,← Nat.add_assoc] at q0 q2 q5
 obtain ⟨u1,u2,u3,u4⟩:=h.2.1 bo hbo6
 obtain ⟨v1,v2,v3,v4⟩:=h.2.1 so hso6
 obtain ⟨u5,u6,u7⟩:=u4 it hit
 obtain ⟨v5,v6,v7⟩:=v4 it hit
 obtain ⟨_,_,_,hp1,hq1⟩:=Lot.okC (x:=⟨id1,(bo:Int),0,price1,qty1⟩) (by simp only [rightB,Bool.and_eq_true] at f1;exact f1.2)
 simp only at hp1 hq1
 have hm1:=mul_bd hp1.1 hp1.2 f7 (by omega)
 have hm2:=mul_bd f5 f6 f7 (by omega)
 have k1:IntKind.i64.wrap (price1*qty)=price1*qty:=IntWalk.i64_in _ (by omega)
 have k2:IntKind.i64.wrap (price*qty)=price*qty:=IntWalk.i64_in _ (by omega)
 have k3:IntKind.i64.wrap (1073741824 - P bo (2+it))=1073741824 - P bo (2+it):=IntWalk.i64_in _ (by omega)
 have k4:IntKind.i64.wrap (1099511627776 - P so 0)=1099511627776 - P so 0:=IntWalk.i64_in _ (by omega)
 have k5:decide (P bo 1<price1*qty)=false:=decide_eq_false (by omega);have k6:decide (P so (5+it)<qty)=true:=decide_eq_true (by omega)
 have n1:p≠w.heap.size:=by omega
 have n2:p<w.heap.size+1:=by omega
 clear hE h hf f1 f2 u4 v4
 go_enter Tryz.func190,Tryz.ntmps190
 go_wp2_with fail
 refine (HF.out _ (by exact Errs.sub (HE.out.ex (by repeat (first|exact Ex.refl _|refine Ex.alloc ?_ _|refine Ex.ext ?_ _ _|refine Ex.drew ?_|refine Ex.drewN ?_ _))) (by decide))).mono ?_
 rintro e w1 ⟨rfl,l1,d1,rfl⟩
 go_wp2_with fail
 go_region_held3 (fun w'=>w'.cell? ⟨w.heap.size,1,none⟩=some (.int .i64 (bo:Int))∧w'.cell? ⟨w.heap.size+1,1,none⟩=some (.int .i64 (so:Int))) (first|(refine ⟨?_,?_⟩<;>assumption)|(simp [go_sem,↓IntWalk.iteOmega, *];done)) (fail)
 go_wp2_with fail
 go_quiet (fail)
 go_wp2_with fail
 all_goals go_ret
 all_goals exact ⟨by rw [errV_pos _ _ (by decide)];rfl,ObjTo.of_ex (by repeat (first|exact Ex.refl _|refine Ex.alloc ?_ _|refine Ex.ext ?_ _ _|refine Ex.drew ?_|refine Ex.drewN ?_ _)) ((H.out.relabel (fun n hn e=>by rw [lab_lt hn];exact e)).later (by repeat (first|exact Ex.refl _|refine Ex.alloc ?_ _|refine Ex.ext ?_ _ _|refine Ex.drew ?_|refine Ex.drewN ?_ _)))⟩
set_option maxRecDepth 100000 in
set_option maxHeartbeats 2000000 in
theorem trade_full1 (h:PurseAt own i w p P) (bo so it:Nat) (hbo6:bo<6) (hso6:so<6) (hit:it<3) (b s:Lot) (hbo:b.owner=(bo:Int)) (hso:s.owner=(so:Int)) (price qty:Int) (E:Nat→Addr) (hE:Errs E [2,3,8,10,12] w)
  (hf:fairE (it:Int) b s price qty=0) (h1:b.price*qty≤P bo 1) (h2:qty≤P so (5+it)) (hne:bo≠so) (h3:1073741824 - P bo (2+it)<qty) :
  Calls Tryz.prog 190 #[.pointer (some ⟨p,0,none⟩),.int .i64 (it:Int),b.val,s.val,.int .i64 price,.int .i64 qty] w fun e w'=>e=.returned (errV E 8)∧ObjTo own i i w (fun o w'=>PurseAt o i w' p P) w':=by
 have e8:w.cell? ⟨3,0,none⟩=some (.iface 357 (.pointer (some (E 8)))):=hE 8 (by decide)
 have b8:3<w.heap.size:=lt_of_cell e8
 obtain ⟨f1,f2,f3,f4,f5,f6,f7,f8,f9,f10,f11⟩:=fair_zero hf
 have HF:=Lib.hid (fair_any (it:Int) b s price qty E)
 rw [hf,errV_zero] at HF
 have HE:=Lib.hid hE
 have H:=Lib.hid h
 obtain ⟨id1,owner1,side1,price1,qty1⟩:=b
 obtain ⟨id2,owner2,side2,price2,qty2⟩:=s
 simp only at hbo hso f3 f4 f8 f9 f10 f11 h1
 subst hbo hso f3 f4
 have hp:=h.lt
 have c0:(0:Int)≤(bo:Int):=by omega
 have c6:(bo:Int)<6:=by omega
 have s0:(0:Int)≤(so:Int):=by omega
 have s6:(so:Int)<6:=by omega
 have i0:(0:Int)≤(it:Int):=by omega
 have i3:(it:Int)<3:=by omega
 have q1:=h.cell hbo6 (j:=1) (by omega)
 have q0:=h.cell hso6 (j:=0) (by omega)
 have q5:=h.cell hso6 (j:=5+it) (by omega)
 have q2:=h.cell hbo6 (j:=2+it) (by omega)
 simp only [Nat.add_zero,← Nat.add_assoc] at q0 q2 q5
 obtain ⟨u1,u2,u3,u4⟩:=h.2.1 bo hbo6
 obtain ⟨v1,v2,v3,v4⟩:=h.2.1 so hso6
 obtain ⟨u5,u6,u7⟩:=u4 it hit
 obtain ⟨v5,v6,v7⟩:=v4 it hit
 obtain ⟨_,_,_,hp1,hq1⟩:=Lot.okC (x:=⟨id1,(bo:Int),0,price1,qty1⟩) (by simp only [rightB,Bool.and_eq_true] at f1;exact f1.2)
 simp only at hp1 hq1
 have hm1:=mul_bd hp1.1 hp1.2 f7 (by omega)
 have hm2:=mul_bd f5 f6 f7 (by omega)
 have k1:IntKind.i64.wrap (price1*qty)=price1*qty:=IntWalk.i64_in _ (by omega)
 have k2:IntKind.i64.wrap (price*qty)=price*qty:=IntWalk.i64_in _ (by omega)
 have k3:IntKind.i64.wrap (1073741824 - P bo (2+it))=1073741824 - P bo (2+it):=IntWalk.i64_in _ (by omega)
 have k4:IntKind.i64.wrap (1099511627776 - P so 0)=1099511627776 - P so 0:=IntWalk.i64_in _ (by omega)
 have k5:decide (P bo 1<price1*qty)=false:=decide_eq_false (by omega);have k6:decide (P so (5+it)<qty)=false:=decide_eq_false (by omega);have k7:decide (1073741824 - P bo (2+it)<qty)=true:=decide_eq_true (by omega)
 have n1:p≠w.heap.size:=by omega
 have n2:p<w.heap.size+1:=by omega
 clear hE h hf f1 f2 u4 v4
 go_enter Tryz.func190,Tryz.ntmps190
 go_wp2_with fail
 refine (HF.out _ (by exact Errs.sub (HE.out.ex (by repeat (first|exact Ex.refl _|refine Ex.alloc ?_ _|refine Ex.ext ?_ _ _|refine Ex.drew ?_|refine Ex.drewN ?_ _))) (by decide))).mono ?_
 rintro e w1 ⟨rfl,l1,d1,rfl⟩
 go_wp2_with fail
 go_region_held3 (fun w'=>w'.cell? ⟨w.heap.size,1,none⟩=some (.int .i64 (bo:Int))∧w'.cell? ⟨w.heap.size+1,1,none⟩=some (.int .i64 (so:Int))) (first|(refine ⟨?_,?_⟩<;>assumption)|(simp [go_sem,↓IntWalk.iteOmega, *];done)) (fail)
 go_wp2_with fail
 go_quiet (fail)
 go_upto_region 7 with (fail)
 refine wp_world (R:=fun W=>Ex w W) (by repeat (first|exact Ex.refl _|refine Ex.alloc ?_ _|refine Ex.ext ?_ _ _|refine Ex.drew ?_|refine Ex.drewN ?_ _)) (fun W hW=>?_)
 have hR1:=H.out.later hW
 have hne':=neHasPtr_other W p (bo*8) (so*8) (by omega) hR1.block
 have y2:=hR1.cell hbo6 (j:=2+it) (by omega)
 have y0:=hR1.cell hso6 (j:=0) (by omega)
 simp only [Nat.add_zero,← Nat.add_assoc] at y0 y2
 have e8':=(hW.below.cell (p:=⟨3,0,none⟩) b8).trans e8
 have HW:=Lib.hid hW
 clear hR1 hW
 go_wp2_with fail
 all_goals go_ret
 all_goals exact ⟨by rw [errV_pos _ _ (by decide)];rfl,ObjTo.of_ex (HW.out.trans (by repeat (first|exact Ex.refl _|refine Ex.alloc ?_ _|refine Ex.ext ?_ _ _|refine Ex.drew ?_|refine Ex.drewN ?_ _))) ((H.out.relabel (fun n hn e=>by rw [lab_lt hn];exact e)).later (HW.out.trans (by repeat (first|exact Ex.refl _|refine Ex.alloc ?_ _|refine Ex.ext ?_ _ _|refine Ex.drew ?_|refine Ex.drewN ?_ _))))⟩
set_option maxRecDepth 100000 in
set_option maxHeartbeats 2000000 in
theorem trade_full2 (h:PurseAt own i w p P) (bo so it:Nat) (hbo6:bo<6) (hso6:so<6) (hit:it<3) (b s:Lot) (hbo:b.owner=(bo:Int)) (hso:s.owner=(so:Int)) (price qty:Int) (E:Nat→Addr) (hE:Errs E [2,3,8,10,12] w)
  (hf:fairE (it:Int) b s price qty=0) (h1:b.price*qty≤P bo 1) (h2:qty≤P so (5+it)) (hne:bo≠so) (h3:qty≤1073741824 - P bo (2+it)) (h4:1099511627776 - P so 0<price*qty) :
  Calls Tryz.prog 190 #[.pointer (some ⟨p,0,none⟩),.int .i64 (it:Int),b.val,s.val,.int .i64 price,.int .i64 qty] w fun e w'=>e=.returned (errV E 8)∧ObjTo own i i w (fun o w'=>PurseAt o i w' p P) w':=by
 have e8:w.cell? ⟨3,0,none⟩=some (.iface 357 (.pointer (some (E 8)))):=hE 8 (by decide)
 have b8:3<w.heap.size:=lt_of_cell e8
 obtain ⟨f1,f2,f3,f4,f5,f6,f7,f8,f9,f10,f11⟩:=fair_zero hf
 have HF:=Lib.hid (fair_any (it:Int) b s price qty E)
 rw [hf,errV_zero] at HF
 have HE:=Lib.hid hE
 have H:=Lib.hid h
 obtain ⟨id1,owner1,side1,price1,qty1⟩:=b
 obtain ⟨id2,owner2,side2,price2,qty2⟩:=s
 simp only at hbo hso f3 f4 f8 f9 f10 f11 h1
 subst hbo hso f3 f4
 have hp:=h.lt
 have c0:(0:Int)≤(bo:Int):=by omega
 have c6:(bo:Int)<6:=by omega
 have s0:(0:Int)≤(so:Int):=by omega
 have s6:(so:Int)<6:=by omega
 have i0:(0:Int)≤(it:Int):=by omega
 have i3:(it:Int)<3:=by omega
 have q1:=h.cell hbo6 (j:=1) (by omega)
 have q0:=h.cell hso6 (j:=0) (by omega)
 have q5:=h.cell hso6 (j:=5+it) (by omega)
 have q2:=h.cell hbo6 (j:=2+it) (by omega)
 simp only [Nat.add_zero,← Nat.add_assoc] at q0 q2 q5
 obtain ⟨u1,u2,u3,u4⟩:=h.2.1 bo hbo6
 obtain ⟨v1,v2,v3,v4⟩:=h.2.1 so hso6
 obtain ⟨u5,u6,u7⟩:=u4 it hit
 obtain ⟨v5,v6,v7⟩:=v4 it hit
 obtain ⟨_,_,_,hp1,hq1⟩:=Lot.okC (x:=⟨id1,(bo:Int),0,price1,qty1⟩) (by simp only [rightB,Bool.and_eq_true] at f1;exact f1.2)
 simp only at hp1 hq1
 have hm1:=mul_bd hp1.1 hp1.2 f7 (by omega)
 have hm2:=mul_bd f5 f6 f7 (by omega)
 have k1:IntKind.i64.wrap (price1*qty)=price1*qty:=IntWalk.i64_in _ (by omega)
 have k2:IntKind.i64.wrap (price*qty)=price*qty:=IntWalk.i64_in _ (by omega)
 have k3:IntKind.i64.wrap (1073741824 - P bo (2+it))=1073741824 - P bo (2+it):=IntWalk.i64_in _ (by omega)
 have k4:IntKind.i64.wrap (1099511627776 - P so 0)=1099511627776 - P so 0:=IntWalk.i64_in _ (by omega)
 have k5:decide (P bo 1<price1*qty)=false:=decide_eq_false (by omega);have k6:decide (P so (5+it)<qty)=false:=decide_eq_false (by omega);have k7:decide (1073741824 - P bo (2+it)<qty)=false:=decide_eq_false (by omega);have k8:decide (1099511627776 - P so 0<price*qty)=true:=decide_eq_true (by omega)
 have n1:p≠w.heap.size:=by omega
 have n2:p<w.heap.size+1:=by omega
 clear hE h hf f1 f2 u4 v4
 go_enter Tryz.func190,Tryz.ntmps190
 go_wp2_with fail
 refine (HF.out _ (by exact Errs.sub (HE.out.ex (by repeat (first|exact Ex.refl _|refine Ex.alloc ?_ _|refine Ex.ext ?_ _ _|refine Ex.drew ?_|refine Ex.drewN ?_ _))) (by decide))).mono ?_
 rintro e w1 ⟨rfl,l1,d1,rfl⟩
 go_wp2_with fail
 go_region_held3 (fun w'=>w'.cell? ⟨w.heap.size,1,none⟩=some (.int .i64 (bo:Int))∧w'.cell? ⟨w.heap.size+1,1,none⟩=some (.int .i64 (so:Int))) (first|(refine ⟨?_,?_⟩<;>assumption)|(simp [go_sem,↓IntWalk.iteOmega, *];done)) (fail)
 go_wp2_with fail
 go_quiet (fail)
 go_upto_region 7 with (fail)
 refine wp_world (R:=fun W=>Ex w W) (by repeat (first|exact Ex.refl _|refine Ex.alloc ?_ _|refine Ex.ext ?_ _ _|refine Ex.drew ?_|refine Ex.drewN ?_ _)) (fun W hW=>?_)
 have hR1:=H.out.later hW
 have hne':=neHasPtr_other W p (bo*8) (so*8) (by omega) hR1.block
 have y2:=hR1.cell hbo6 (j:=2+it) (by omega)
 have y0:=hR1.cell hso6 (j:=0) (by omega)
 simp only [Nat.add_zero,← Nat.add_assoc] at y0 y2
 have e8':=(hW.below.cell (p:=⟨3,0,none⟩) b8).trans e8
 have HW:=Lib.hid hW
 clear hR1 hW
 go_wp2_with fail
 all_goals go_ret
 all_goals exact ⟨by rw [errV_pos _ _ (by decide)];rfl,ObjTo.of_ex (HW.out.trans (by repeat (first|exact Ex.refl _|refine Ex.alloc ?_ _|refine Ex.ext ?_ _ _|refine Ex.drew ?_|refine Ex.drewN ?_ _))) ((H.out.relabel (fun n hn e=>by rw [lab_lt hn];exact e)).later (HW.out.trans (by repeat (first|exact Ex.refl _|refine Ex.alloc ?_ _|refine Ex.ext ?_ _ _|refine Ex.drew ?_|refine Ex.drewN ?_ _))))⟩
end
end Go.Proofs.YtabbgpjofkaomaaGreatDoor
