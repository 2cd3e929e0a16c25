import Derived.Test.YtmbboflakfokhaaGreatDoorJ28
import Derived.Test.YtmbboflakfokhaaGreatDoorMFlPl
import Derived.Test.YtmbboflakfokhaaGreatDoorJ24
import Derived.Test.YtmbboflakfokhaaGreatDoorFlRu
import Derived.Test.YtmbboflakfokhaaGreatDoorJ25
import Derived.Test.YtmbboflakfokhaaGreatDoorMFlRu
import Derived.Test.YtmbboflakfokhaaGreatDoorMFlDr
import Derived.Test.YtmbboflakfokhaaGreatDoorMFlCa
import Derived.Test.YtmbboflakfokhaaGreatDoorJ1
import Derived.Deep.Slices
import Derived.Laws.IdiomArrays
import Derived.Test.YtmbboflakfokhaaGreatDoorJ16
import Derived.Deep.DeepCutAuto
/- What the document's Give computes. -/
set_option linter.unusedSimpArgs false
set_option linter.unusedVariables false
namespace Go.Proofs.YtmbboflakfokhaaGreatDoor
open Go.RowKit
section
variable {own:Nat→Nat} {i:Nat} {w:World} {p:Nat} {P:Pu}
set_option maxRecDepth 100000 in
theorem mgive_client (h:PurseAt own i w p P) (n cash:Int) (s:Nat→Int) (hc:(inR n 0 5 && decide (0≤cash))=false) :
    Calls Tryz.prog 30 #[.pointer (some ⟨p,0,none⟩),.int .i64 n,.int .i64 cash,stockV s] w fun e w'=>e=.returned (.int .i64 2)∧ObjTo own i i w (fun o w'=>PurseAt o i w' p P) w':=by
  have H:=Lib.hid h
  clear h
  have HC:=Lib.hid (isClient_any n)
  cases hn:inR n 0 5
  · rw [hn] at HC
    clear hn hc
    go_enter Tryz.func30,Tryz.ntmps30
    go_wp2_with (go_at_call 62;refine (HC.out _).mono ?_;rintro e w1 ⟨rfl,l1,d1,rfl⟩)
    all_goals go_ret
    all_goals exact ⟨rfl,ObjTo.of_ex (by repeat (first|exact Ex.refl _|refine Ex.alloc ?_ _|refine Ex.ext ?_ _ _|refine Ex.drew ?_|refine Ex.drewN ?_ _)) ((H.out.relabel (fun n hn e=>by rw [lab_lt hn];exact e)).later (by repeat (first|exact Ex.refl _|refine Ex.alloc ?_ _|refine Ex.ext ?_ _ _|refine Ex.drew ?_|refine Ex.drewN ?_ _)))⟩
  · rw [hn] at HC hc
    have hcash:cash<0:=by simpa using hc
    clear hn hc
    go_enter Tryz.func30,Tryz.ntmps30
    go_wp2_with (go_at_call 62;refine (HC.out _).mono ?_;rintro e w1 ⟨rfl,l1,d1,rfl⟩)
    all_goals go_ret
    all_goals exact ⟨rfl,ObjTo.of_ex (by repeat (first|exact Ex.refl _|refine Ex.alloc ?_ _|refine Ex.ext ?_ _ _|refine Ex.drew ?_|refine Ex.drewN ?_ _)) ((H.out.relabel (fun n hn e=>by rw [lab_lt hn];exact e)).later (by repeat (first|exact Ex.refl _|refine Ex.alloc ?_ _|refine Ex.ext ?_ _ _|refine Ex.drew ?_|refine Ex.drewN ?_ _)))⟩
set_option maxRecDepth 100000 in
set_option maxHeartbeats 2000000 in
theorem mgive_in (h:PurseAt own i w p P) (c:Nat) (hc:c<6) (cash:Int) (hcash:0≤cash) (s:Nat→Int) :
    Calls Tryz.prog 30 #[.pointer (some ⟨p,0,none⟩),.int .i64 (c:Int),.int .i64 cash,stockV s] w fun e w'=>e=.returned (.int .i64 (giveE P (c:Int) cash s:Nat))∧ObjTo own i i w (fun o w'=>PurseAt o i w' p (giveP P (c:Int) cash s)) w':=by
  obtain ⟨v1,v2,v3,v4⟩:=h.2.1 c hc
  have v40:=v4 0 (by omega)
  have v41:=v4 1 (by omega)
  have v42:=v4 2 (by omega)
  simp only [Nat.reduceAdd] at v40 v41 v42
  have q0:=h.cell hc (j:=0) (by omega)
  have q1:=h.cell hc (j:=1) (by omega)
  have q2:=h.cell hc (j:=2) (by omega)
  have q3:=h.cell hc (j:=3) (by omega)
  have q4:=h.cell hc (j:=4) (by omega)
  have q5:=h.cell hc (j:=5) (by omega)
  have q6:=h.cell hc (j:=6) (by omega)
  have q7:=h.cell hc (j:=7) (by omega)
  simp only [Nat.add_zero] at q0
  have hp:=h.lt
  have HC:=Lib.hid (isClient_any (c:Int))
  rw [show inR (c:Int) 0 5=true from inR_iff.2 (by omega)] at HC
  have H:=Lib.hid h
  have c0:(0:Int)≤(c:Int):=by omega
  have c6:(c:Int)<6:=by omega
  clear h v4
  have HX:Hid (giveE P (c:Int) cash s=if 0≤s 0∧0≤s 1∧0≤s 2 then (if 1099511627776 - P c 0<cash then 8 else if 1073741824 - P c 2<s 0∨1073741824 - P c 3<s 1∨1073741824 - P c 4<s 2 then 8 else 0) else 2):=by
    unfold giveE
    rw [show inR (c:Int) 0 5=true from inR_iff.2 (by omega),decide_eq_true hcash,Bool.true_and,if_pos rfl,Int.toNat_natCast]
    rfl
  have HY:Hid (giveE P (c:Int) cash s≠0→giveP P (c:Int) cash s=P):=fun he=>by unfold giveP;rw [if_neg he]
  go_enter Tryz.func30,Tryz.ntmps30
  go_wp2_with (go_at_call 62;refine (HC.out _).mono ?_;rintro e w1 ⟨rfl,l1,d1,rfl⟩)
  go_loop [10] (fun ik=>∃ k:Nat,k≤3∧ik=.int .i64 k∧∀ j,j<k→0≤s j) (fun ik=>3 - (intOf ik).toNat)
  case atStart=>exact ⟨0,by omega,rfl,fun j hj=>by omega⟩
  case round =>
    obtain ⟨k,hk,rfl,hneg⟩:=hrel
    by_cases hlt:k<3
    · have:k=0∨k=1∨k=2:=by omega
      rcases this with rfl|rfl|rfl
      · by_cases hs:s 0<0
        · have e1:giveE P (c:Int) cash s=2:=by rw [HX.out,if_neg (by omega)]
          have HE1:=Lib.hid e1
          clear e1
          go_wp2
          all_goals go_ret
          all_goals refine ⟨by rw [HE1.out];rfl,?_⟩
          all_goals rw [HY.out (by rw [HE1.out];decide)]
          all_goals exact ObjTo.of_ex (by repeat (first|exact Ex.refl _|refine Ex.alloc ?_ _|refine Ex.ext ?_ _ _|refine Ex.drew ?_|refine Ex.drewN ?_ _)) ((H.out.relabel (fun n hn e=>by rw [lab_lt hn];exact e)).later (by repeat (first|exact Ex.refl _|refine Ex.alloc ?_ _|refine Ex.ext ?_ _ _|refine Ex.drew ?_|refine Ex.drewN ?_ _)))
        · go_wp2
          all_goals
            go_round
            case rel=>exact ⟨1,by omega,by go_num,fun j hj=>by obtain rfl:j=0:=(by omega);omega⟩
            case measure=>simp [intOf]
      · by_cases hs:s 1<0
        · have e1:giveE P (c:Int) cash s=2:=by rw [HX.out,if_neg (by omega)]
          have HE1:=Lib.hid e1
          clear e1
          go_wp2
          all_goals go_ret
          all_goals refine ⟨by rw [HE1.out];rfl,?_⟩
          all_goals rw [HY.out (by rw [HE1.out];decide)]
          all_goals exact ObjTo.of_ex (by repeat (first|exact Ex.refl _|refine Ex.alloc ?_ _|refine Ex.ext ?_ _ _|refine Ex.drew ?_|refine Ex.drewN ?_ _)) ((H.out.relabel (fun n hn e=>by rw [lab_lt hn];exact e)).later (by repeat (first|exact Ex.refl _|refine Ex.alloc ?_ _|refine Ex.ext ?_ _ _|refine Ex.drew ?_|refine Ex.drewN ?_ _)))
        · go_wp2
          all_goals
            go_round
            case rel=>exact ⟨2,by omega,by go_num,fun j hj=>by have:j=0∨j=1:=(by omega);rcases this with rfl|rfl;(exact hneg 0 (by omega));omega⟩
            case measure=>simp [intOf]
      · by_cases hs:s 2<0
        · have e1:giveE P (c:Int) cash s=2:=by rw [HX.out,if_neg (by omega)]
          have HE1:=Lib.hid e1
          clear e1
          go_wp2
          all_goals go_ret
          all_goals refine ⟨by rw [HE1.out];rfl,?_⟩
          all_goals rw [HY.out (by rw [HE1.out];decide)]
          all_goals exact ObjTo.of_ex (by repeat (first|exact Ex.refl _|refine Ex.alloc ?_ _|refine Ex.ext ?_ _ _|refine Ex.drew ?_|refine Ex.drewN ?_ _)) ((H.out.relabel (fun n hn e=>by rw [lab_lt hn];exact e)).later (by repeat (first|exact Ex.refl _|refine Ex.alloc ?_ _|refine Ex.ext ?_ _ _|refine Ex.drew ?_|refine Ex.drewN ?_ _)))
        · go_wp2
          all_goals
            go_round
            case rel=>exact ⟨3,by omega,by go_num,fun j hj=>by have:j=0∨j=1∨j=2:=(by omega);rcases this with rfl|rfl|rfl;(exact hneg 0 (by omega));(exact hneg 1 (by omega));omega⟩
            case measure=>simp [intOf]
    · have s0:=hneg 0 (by omega)
      have s1:=hneg 1 (by omega)
      have s2:=hneg 2 (by omega)
      clear hneg
      by_cases hfull:1099511627776 - P c 0<cash
      · have e1:giveE P (c:Int) cash s=8:=by rw [HX.out,if_pos ⟨s0,s1,s2⟩,if_pos hfull]
        have HE1:=Lib.hid e1
        clear e1
        go_wp2
        all_goals go_ret
        all_goals refine ⟨by rw [HE1.out];rfl,?_⟩
        all_goals rw [HY.out (by rw [HE1.out];decide)]
        all_goals exact ObjTo.of_ex (by repeat (first|exact Ex.refl _|refine Ex.alloc ?_ _|refine Ex.ext ?_ _ _|refine Ex.drew ?_|refine Ex.drewN ?_ _)) ((H.out.relabel (fun n hn e=>by rw [lab_lt hn];exact e)).later (by repeat (first|exact Ex.refl _|refine Ex.alloc ?_ _|refine Ex.ext ?_ _ _|refine Ex.drew ?_|refine Ex.drewN ?_ _)))
      · have hk3:decide ((k:Int)<3)=false:=decide_eq_false (by omega)
        have hcb:decide (cash<0)=false:=decide_eq_false (by omega)
        have hw:IntKind.i64.wrap (P c 0+cash)=P c 0+cash:=IntWalk.i64_in _ (by omega)
        go_wp2
        go_loopw [12] (fun jk wr=>∃ m:Nat,m≤3∧jk=.int .i64 m∧(0<m→s 0≤1073741824 - P c 2)∧(1<m→s 1≤1073741824 - P c 3)∧(2<m→s 2≤1073741824 - P c 4) ∧
            wr.cell? ⟨w.heap.size+1+l1.length,0,none⟩=some (.int .i64 (P c 0+cash))∧wr.cell? ⟨w.heap.size+1+l1.length,1,none⟩=some (.int .i64 (P c 1))∧wr.cell? ⟨w.heap.size+1+l1.length,2,none⟩=some (.int .i64 (if 0<m then P c 2+s 0 else P c 2))∧wr.cell? ⟨w.heap.size+1+l1.length,3,none⟩=some (.int .i64 (if 1<m then P c 3+s 1 else P c 3))∧wr.cell? ⟨w.heap.size+1+l1.length,4,none⟩=some (.int .i64 (if 2<m then P c 4+s 2 else P c 4)) ∧
            wr.cell? ⟨w.heap.size+1+l1.length,5,none⟩=some (.int .i64 (P c 5))∧wr.cell? ⟨w.heap.size+1+l1.length,6,none⟩=some (.int .i64 (P c 6))∧wr.cell? ⟨w.heap.size+1+l1.length,7,none⟩=some (.int .i64 (P c 7)) ∧
            wr.frozen? ⟨w.heap.size+1+l1.length,2,none⟩=false∧wr.frozen? ⟨w.heap.size+1+l1.length,3,none⟩=false∧wr.frozen? ⟨w.heap.size+1+l1.length,4,none⟩=false ∧
            wr.cell? ⟨w.heap.size,0,none⟩=some (.int .i64 (s 0))∧wr.cell? ⟨w.heap.size,1,none⟩=some (.int .i64 (s 1))∧wr.cell? ⟨w.heap.size,2,none⟩=some (.int .i64 (s 2))∧Below w.heap.size w wr) (fun jk _=>3 - (intOf jk).toNat)
        case atStart =>
          refine ⟨0,by omega,rfl,(fun h=>absurd h (by omega)),(fun h=>absurd h (by omega)),(fun h=>absurd h (by omega)),?_,?_,?_,?_,?_,?_,?_,?_,?_,?_,?_,?_,?_,?_,?_⟩
          all_goals first
            | (simp [go_sem,↓IntWalk.iteOmega];done)
            | exact Ex.below (by repeat (first|exact Ex.refl _|refine Ex.alloc ?_ _|refine Ex.ext ?_ _ _|refine Ex.drew ?_|refine Ex.drewN ?_ _))
        case round =>
          obtain ⟨m,hm,rfl,e0,e1,e2,z0,z1,z2,z3,z4,z5,z6,z7,f2,f3,f4,y0,y1,y2,hB⟩:=hrel
          by_cases hmt:m<3
          · have:m=0∨m=1∨m=2:=by omega
            have HB:=Lib.hid hB
            have hlt:=lt_of_cell z0
            rcases this with rfl|rfl|rfl
            · simp at z2 z3 z4
              by_cases hs:1073741824 - P c 2<s 0
              · have e1:giveE P (c:Int) cash s=8:=by rw [HX.out,if_pos ⟨s0,s1,s2⟩,if_neg (by omega),if_pos (by omega)]
                have HE1:=Lib.hid e1
                clear e1 hB
                go_wp2_with fail
                all_goals (try (go_region;all_goals go_wp2_with fail))
                all_goals (try (go_region;all_goals go_wp2_with fail))
                all_goals (try (go_region;all_goals go_wp2_with fail))
                all_goals go_ret
                all_goals refine ⟨by rw [HE1.out];rfl,?_⟩
                all_goals rw [HY.out (by rw [HE1.out];decide)]
                all_goals exact ObjTo.of_ex ((Ex.of HB.out).trans (by repeat (first|exact Ex.refl _|refine Ex.alloc ?_ _|refine Ex.ext ?_ _ _|refine Ex.drew ?_|refine Ex.drewN ?_ _))) ((H.out.relabel (fun n hn e=>by rw [lab_lt hn];exact e)).later ((Ex.of HB.out).trans (by repeat (first|exact Ex.refl _|refine Ex.alloc ?_ _|refine Ex.ext ?_ _ _|refine Ex.drew ?_|refine Ex.drewN ?_ _))))
              · clear hB
                go_wp2_with fail
                all_goals (try (go_region;all_goals go_wp2_with fail))
                all_goals (try (go_region;all_goals go_wp2_with fail))
                all_goals (try (go_region;all_goals go_wp2_with fail))
                all_goals
                  go_roundw
                  case measure=>simp [intOf]
                  case rel =>
                    refine ⟨1,by omega,by go_num,(fun _=>by omega),(fun _=>by omega),(fun _=>by omega),?_,?_,?_,?_,?_,?_,?_,?_,?_,?_,?_,?_,?_,?_,?_⟩
                    all_goals first
                      | (simp [go_sem,↓IntWalk.iteOmega, *];done)
                      | exact (by refine Below.trans HB.out ?_;repeat (first|(with_reducible exact Below.refl _ _)|(with_reducible refine Below.drew ?_)|(with_reducible refine Below.drewN ?_ _)|((with_reducible refine Below.setCell ?_ ?_ _);rotate_left;(focus (show w.heap.size≤w.heap.size+1+l1.length;omega)))))
            · simp at z2 z3 z4
              by_cases hs:1073741824 - P c 3<s 1
              · have e1:giveE P (c:Int) cash s=8:=by rw [HX.out,if_pos ⟨s0,s1,s2⟩,if_neg (by omega),if_pos (by omega)]
                have HE1:=Lib.hid e1
                clear e1 hB
                go_wp2_with fail
                all_goals (try (go_region;all_goals go_wp2_with fail))
                all_goals (try (go_region;all_goals go_wp2_with fail))
                all_goals (try (go_region;all_goals go_wp2_with fail))
                all_goals go_ret
                all_goals refine ⟨by rw [HE1.out];rfl,?_⟩
                all_goals rw [HY.out (by rw [HE1.out];decide)]
                all_goals exact ObjTo.of_ex ((Ex.of HB.out).trans (by repeat (first|exact Ex.refl _|refine Ex.alloc ?_ _|refine Ex.ext ?_ _ _|refine Ex.drew ?_|refine Ex.drewN ?_ _))) ((H.out.relabel (fun n hn e=>by rw [lab_lt hn];exact e)).later ((Ex.of HB.out).trans (by repeat (first|exact Ex.refl _|refine Ex.alloc ?_ _|refine Ex.ext ?_ _ _|refine Ex.drew ?_|refine Ex.drewN ?_ _))))
              · clear hB
                go_wp2_with fail
                all_goals (try (go_region;all_goals go_wp2_with fail))
                all_goals (try (go_region;all_goals go_wp2_with fail))
                all_goals (try (go_region;all_goals go_wp2_with fail))
                all_goals
                  go_roundw
                  case measure=>simp [intOf]
                  case rel =>
                    refine ⟨2,by omega,by go_num,(fun _=>by omega),(fun _=>by omega),(fun _=>by omega),?_,?_,?_,?_,?_,?_,?_,?_,?_,?_,?_,?_,?_,?_,?_⟩
                    all_goals first
                      | (simp [go_sem,↓IntWalk.iteOmega, *];done)
                      | exact (by refine Below.trans HB.out ?_;repeat (first|(with_reducible exact Below.refl _ _)|(with_reducible refine Below.drew ?_)|(with_reducible refine Below.drewN ?_ _)|((with_reducible refine Below.setCell ?_ ?_ _);rotate_left;(focus (show w.heap.size≤w.heap.size+1+l1.length;omega)))))
            · simp at z2 z3 z4
              by_cases hs:1073741824 - P c 4<s 2
              · have e1:giveE P (c:Int) cash s=8:=by rw [HX.out,if_pos ⟨s0,s1,s2⟩,if_neg (by omega),if_pos (by omega)]
                have HE1:=Lib.hid e1
                clear e1 hB
                go_wp2_with fail
                all_goals (try (go_region;all_goals go_wp2_with fail))
                all_goals (try (go_region;all_goals go_wp2_with fail))
                all_goals (try (go_region;all_goals go_wp2_with fail))
                all_goals go_ret
                all_goals refine ⟨by rw [HE1.out];rfl,?_⟩
                all_goals rw [HY.out (by rw [HE1.out];decide)]
                all_goals exact ObjTo.of_ex ((Ex.of HB.out).trans (by repeat (first|exact Ex.refl _|refine Ex.alloc ?_ _|refine Ex.ext ?_ _ _|refine Ex.drew ?_|refine Ex.drewN ?_ _))) ((H.out.relabel (fun n hn e=>by rw [lab_lt hn];exact e)).later ((Ex.of HB.out).trans (by repeat (first|exact Ex.refl _|refine Ex.alloc ?_ _|refine Ex.ext ?_ _ _|refine Ex.drew ?_|refine Ex.drewN ?_ _))))
              · clear hB
                go_wp2_with fail
                all_goals (try (go_region;all_goals go_wp2_with fail))
                all_goals (try (go_region;all_goals go_wp2_with fail))
                all_goals (try (go_region;all_goals go_wp2_with fail))
                all_goals
                  go_roundw
                  case measure=>simp [intOf]
                  case rel =>
                    refine ⟨3,by omega,by go_num,(fun _=>by omega),(fun _=>by omega),(fun _=>by omega),?_,?_,?_,?_,?_,?_,?_,?_,?_,?_,?_,?_,?_,?_,?_⟩
                    all_goals first
                      | (simp [go_sem,↓IntWalk.iteOmega, *];done)
                      | exact (by refine Below.trans HB.out ?_;repeat (first|(with_reducible exact Below.refl _ _)|(with_reducible refine Below.drew ?_)|(with_reducible refine Below.drewN ?_ _)|((with_reducible refine Below.setCell ?_ ?_ _);rotate_left;(focus (show w.heap.size≤w.heap.size+1+l1.length;omega)))))
          · obtain rfl:m=3:=by omega
            have g0:=e0 (by omega)
            have g1:=e1 (by omega)
            have g2:=e2 (by omega)
            simp at z2 z3 z4
            have HB:=Lib.hid hB
            have hlt:=lt_of_cell z0
            have hsz:=hB.size
            have HP:=Lib.hid (H.out.later (Ex.of hB))
            have f0:=fun j=>HP.out.free j
            have x0:=(hB.cell (p:=⟨p,c*8,none⟩) hp).trans q0
            have x1:=(hB.cell (p:=⟨p,c*8+1,none⟩) hp).trans q1
            have x2:=(hB.cell (p:=⟨p,c*8+2,none⟩) hp).trans q2
            have x3:=(hB.cell (p:=⟨p,c*8+3,none⟩) hp).trans q3
            have x4:=(hB.cell (p:=⟨p,c*8+4,none⟩) hp).trans q4
            have x5:=(hB.cell (p:=⟨p,c*8+5,none⟩) hp).trans q5
            have x6:=(hB.cell (p:=⟨p,c*8+6,none⟩) hp).trans q6
            have x7:=(hB.cell (p:=⟨p,c*8+7,none⟩) hp).trans q7
            have hpw:p<wr.heap.size:=by omega
            have hne:w.heap.size+1+l1.length≠p:=by omega
            have E1:Hid (giveE P (c:Int) cash s=0):=by
              show giveE P (c:Int) cash s=0
              rw [HX.out,if_pos ⟨s0,s1,s2⟩,if_neg (by omega),if_neg (by omega)]
            have E2:Hid (giveP P (c:Int) cash s=P.add c cash s):=by
              show giveP P (c:Int) cash s=_
              unfold giveP
              rw [if_pos E1.out,Int.toNat_natCast]
            clear q0 q1 q2 q3 q4 q5 q6 q7 hB e0 e1 e2
            go_wp2
            go_region
            all_goals go_wp2
            all_goals go_ret
            all_goals refine ⟨by rw [E1.out];rfl,?_⟩
            all_goals rw [E2.out]
            all_goals exact give_end H.out HP.out HB.out hc cash s hcash s0 s1 s2 (by omega) g0 g1 g2
theorem mgive_any (h:PurseAt own i w p P) (n cash:Int) (s:Nat→Int) :
    Calls Tryz.prog 30 #[.pointer (some ⟨p,0,none⟩),.int .i64 n,.int .i64 cash,stockV s] w fun e w'=>e=.returned (.int .i64 (giveE P n cash s:Nat))∧ObjTo own i i w (fun o w'=>PurseAt o i w' p (giveP P n cash s)) w':=by
  cases hc:(inR n 0 5 && decide (0≤cash))
  · have e1:giveE P n cash s=2:=by unfold giveE;rw [hc];rfl
    have e2:giveP P n cash s=P:=by unfold giveP;rw [if_neg (by rw [e1];decide)]
    rw [e1,e2]
    exact mgive_client h n cash s hc
  · rw [Bool.and_eq_true] at hc
    obtain ⟨h0,h5⟩:=inR_iff.1 hc.1
    obtain ⟨c,rfl⟩:=Int.eq_ofNat_of_zero_le h0
    exact mgive_in h c (by omega) cash (by simpa using hc.2) s
end
end Go.Proofs.YtmbboflakfokhaaGreatDoor

/- What NewFloor of the document computes. -/
set_option linter.unusedSimpArgs false
set_option linter.unusedVariables false
namespace Go.Proofs.YtmbboflakfokhaaGreatDoor
open Go.RowKit
def nfSt (ref:Int) (i:Nat) (P:Pu):FSt:=⟨fun _=>[],fun j=>if j<i then ref else 0,fun _=>0,P⟩
def nfHead (A:MA) (ref:Int) (k j:Nat):Value:=if j<3∧k≤j then .pointer none else A.head (nfSt ref k (fun _ _=>0)) j
def triA (stock:Int) (k:Nat):Array Value:=#[.int .i64 (triS stock k 0),.int .i64 (triS stock k 1),.int .i64 (triS stock k 2)]
def nfBooks (A:MA) (k:Nat):List Th:=(List.range k).map fun j=>labTh (bkOb (A.bp j) [])
def nfList (A:MA) (stk:Nat) (ref stock cash:Int) (k:Nat):List Th:=partTh A.f 12 (nfHead A ref k)::labTh (puOb A.pp (newP cash stock 0))::blkTh stk (triA stock k) 64::nfBooks A k
theorem nfBooks_succ (A A':MA) (k:Nat) (h:∀ j,j<k→A'.bp j=A.bp j):nfBooks A' (k+1)=nfBooks A k++[labTh (bkOb (A'.bp k) [])]:=by
  unfold nfBooks
  rw [List.range_succ,List.map_append]
  congr 1
  refine List.map_congr_left fun j hj=>?_
  rw [h j (List.mem_range.1 hj)]
section
variable {w W W':World}
theorem labTh.book {b:Nat} (h:Blk W b #[.slice none 0 0] 96):(labTh (bkOb b [])).P (fun n=>n=b) W :=
  ⟨fun n hn=>by subst hn;exact h.lt,fun n=>if n=b then 1 else 0,⟨by simp,fun x hx=>(by cases hx),.slice none 0 0,⟨96,⟨_,h,rfl,fun i hi=>by
    obtain rfl:i=0:=by omega
    rfl⟩⟩,OwnRow.nil _ _ _ _ _,if_pos rfl,fun e=>by cases e⟩,fun n _ e=>by
      by_cases h:n=b
      · exact h
      · exact absurd ((if_neg h).symm.trans e:(0:Nat)=1) (by decide)⟩
theorem labTh.purse {b:Nat} {cash stock:Int} (h:Blk W b (Array.replicate 48 (.int .i64 0)) 89):(labTh (puOb b (newP cash stock 0))).P (fun n=>n=b) W :=
  ⟨fun n hn=>by subst hn;exact h.lt,fun n=>if n=b then 1 else 0,⟨if_pos rfl,newP_inv cash stock,89,⟨_,h,rfl,fun i hi=>by
    have e:(Array.replicate 48 (Value.int .i64 0))[i]?=some (.int .i64 (newP cash stock 0 (i / 8) (i % 8))):=by
      rw [newP_zero]
      simp [hi]
    exact e⟩⟩,fun n _ e=>by
      by_cases h:n=b
      · exact h
      · exact absurd ((if_neg h).symm.trans e:(0:Nat)=1) (by decide)⟩
theorem nf_head (A:MA) (ref:Int) {k b:Nat} (hk:k<3) (j:Nat) (hj:j<12):(if j=3+k*2+1 then .int .i64 0 else if j=3+k*2 then .int .i64 ref else if j=k then .pointer (some ⟨b,0,none⟩) else nfHead A ref k j)=nfHead { A with bp:=fun i=>if i=k then b else A.bp i } ref (k+1) j:=by
  have h12:j=0∨j=1∨j=2∨j=3∨j=4∨j=5∨j=6∨j=7∨j=8∨j=9∨j=10∨j=11:=by omega
  rcases three hk with rfl|rfl|rfl<;>rcases h12 with rfl|rfl|rfl|rfl|rfl|rfl|rfl|rfl|rfl|rfl|rfl|rfl<;>simp [nfHead,MA.head,nfSt]
theorem nf_step {A:MA} {stk:Nat} {ref stock cash:Int} {k:Nat} (X:Sep NoF w (nfList A stk ref stock cash k) W) (hk:k<3) :
    Sep NoF w (nfList { A with bp:=fun i=>if i=k then W.heap.size else A.bp i } stk ref stock cash (k+1)) (((((W.alloc (.cells #[.slice none 0 0] 96)).setCell ⟨A.f,k,none⟩ (.pointer (some ⟨W.heap.size,0,none⟩))).setCell ⟨A.f,3+k*2,none⟩ (.int .i64 ref)).setCell ⟨A.f,3+k*2+1,none⟩ (.int .i64 0)).setCell ⟨stk,k,none⟩ (.int .i64 stock)):=by
  have X1:=X.addB (W':=W.alloc (.cells #[.slice none 0 0] 96)) (by repeat (first|exact Ex.refl _|refine Ex.alloc ?_ _|refine Ex.ext ?_ _ _|refine Ex.drew ?_|refine Ex.drewN ?_ _)) (SepL.one (labTh.book (b:=W.heap.size) (Blk.new rfl))) (fun n hn=>by subst hn;exact Nat.le_refl _)
  generalize W.alloc (.cells #[.slice none 0 0] 96)=W1 at *
  generalize W.heap.size=b at *
  obtain ⟨G,⟨hG1,hP⟩,hG,close⟩:=Sep.open X1 0 rfl
  have X2:=close (M:=[partTh A.f 12 (nfHead { A with bp:=fun i=>if i=k then b else A.bp i } ref (k+1))]) ((((Only.refl G W1).setCell (fun _=>(hG1 _).2 rfl) _).setCell (fun _=>(hG1 _).2 rfl) _).setCell (fun _=>(hG1 _).2 rfl) _) (SepL.one ⟨hG1,(((hP.set k (.pointer (some ⟨b,0,none⟩))).set (3+k*2) (.int .i64 ref)).set (3+k*2+1) (.int .i64 0)).congr fun j hj=>nf_head A ref hk j hj⟩) (fun n hn=>.inl hn)
  obtain ⟨G,⟨hG1,hP⟩,hG,close⟩:=Sep.open X2 2 rfl
  have e:(triA stock k).setIfInBounds k (.int .i64 stock)=triA stock (k+1):=by rcases three hk with rfl|rfl|rfl<;>rfl
  have hb:Blk _ stk (triA stock k) 64:=hP
  have X3:=close (M:=[blkTh stk (triA stock (k+1)) 64]) ((Only.refl G _).setCell (p:=⟨stk,k,none⟩) (fun _=>(hG1 _).2 rfl) (.int .i64 stock)) (SepL.one ⟨hG1,e▸hb.set k (.int .i64 stock)⟩) (fun n hn=>.inl hn)
  unfold nfList
  rw [nfBooks_succ A _ k (fun j hj=>if_neg (Nat.ne_of_lt hj))]
  simpa [nfList] using X3
def nst (ref cash stock:Int) (n:Nat):FSt:=⟨fun _=>[],fun _=>ref,fun _=>0,newP cash stock n⟩
theorem nf_done {A:MA} {stk:Nat} {ref stock cash:Int} (X:Sep NoF w (nfList A stk ref stock cash 3) W):MFX NoF w A (nst ref cash stock 0) [blkTh stk (triA stock 3) 64] W:=by
  have e:nfHead A ref 3=A.head (nst ref cash stock 0):=by
    funext j
    unfold nfHead
    rw [if_neg (by omega)]
    unfold MA.head nfSt nst
    by_cases h3:j<3
    · rw [if_pos h3,if_pos h3]
    · rw [if_neg h3,if_neg h3]
      by_cases h9:j<9
      · rw [if_pos h9,if_pos h9]
        simp only
        rw [if_pos (show (j - 3) / 2<3 by omega)]
      · rw [if_neg h9,if_neg h9]
  unfold MFX
  refine X.perm ?_
  unfold nfList mList
  rw [e]
  show List.Perm ([_]++([_,_]++[_,_,_])) ([_]++([_,_,_]++[_,_]))
  exact (List.perm_append_comm).append_left _
theorem nf_start (w:World) (wd hl ref stock cash:Int):Sep NoF w (nfList ⟨w.heap.size+1,fun _=>0,w.heap.size,wd,hl⟩ (w.heap.size+2) ref stock cash 0)
    (((w.alloc (.cells (Array.replicate 48 (.int .i64 0)) 89)).alloc (.cells #[.pointer none,.pointer none,.pointer none,.int .i64 0,.int .i64 0,.int .i64 0,.int .i64 0,.int .i64 0,.int .i64 0,.pointer (some ⟨w.heap.size,0,none⟩),.int .i64 wd,.int .i64 hl] 94)).alloc (.cells #[.int .i64 0,.int .i64 0,.int .i64 0] 64)):=by
  have X1:=(Sep.law w).addB (W':=w.alloc (.cells (Array.replicate 48 (.int .i64 0)) 89)) (by repeat (first|exact Ex.refl _|refine Ex.alloc ?_ _|refine Ex.ext ?_ _ _|refine Ex.drew ?_|refine Ex.drewN ?_ _)) (SepL.one (labTh.purse (b:=w.heap.size) (cash:=cash) (stock:=stock) (Blk.new rfl))) (fun n hn=>by subst hn;exact Nat.le_refl _)
  have e1:(w.alloc (.cells (Array.replicate 48 (.int .i64 0)) 89)).heap.size=w.heap.size+1:=by simp
  generalize w.alloc (.cells (Array.replicate 48 (.int .i64 0)) 89)=w1 at *
  have X2:=X1.add (W':=w1.alloc (.cells #[.pointer none,.pointer none,.pointer none,.int .i64 0,.int .i64 0,.int .i64 0,.int .i64 0,.int .i64 0,.int .i64 0,.pointer (some ⟨w.heap.size,0,none⟩),.int .i64 wd,.int .i64 hl] 94)) (by repeat (first|exact Ex.refl _|refine Ex.alloc ?_ _|refine Ex.ext ?_ _ _|refine Ex.drew ?_|refine Ex.drewN ?_ _)) (SepL.one (T:=partTh (w.heap.size+1) 12 (nfHead ⟨w.heap.size+1,fun _=>0,w.heap.size,wd,hl⟩ ref 0)) (F:=fun n=>n=w.heap.size+1) ⟨fun n=>Iff.rfl,_,_,by rw [← e1];exact heap_new rfl,fun j hj=>by
    have h12:j=0∨j=1∨j=2∨j=3∨j=4∨j=5∨j=6∨j=7∨j=8∨j=9∨j=10∨j=11:=by omega
    rcases h12 with rfl|rfl|rfl|rfl|rfl|rfl|rfl|rfl|rfl|rfl|rfl|rfl<;>rfl⟩) (fun n hn=>by subst hn;omega)
  have e2:(w1.alloc (.cells #[.pointer none,.pointer none,.pointer none,.int .i64 0,.int .i64 0,.int .i64 0,.int .i64 0,.int .i64 0,.int .i64 0,.pointer (some ⟨w.heap.size,0,none⟩),.int .i64 wd,.int .i64 hl] 94)).heap.size=w.heap.size+2:=by simp [e1]
  generalize w1.alloc (.cells #[.pointer none,.pointer none,.pointer none,.int .i64 0,.int .i64 0,.int .i64 0,.int .i64 0,.int .i64 0,.int .i64 0,.pointer (some ⟨w.heap.size,0,none⟩),.int .i64 wd,.int .i64 hl] 94)=w2 at *
  have hB:Blk (w2.alloc (.cells #[.int .i64 0,.int .i64 0,.int .i64 0] 64)) (w.heap.size+2) #[.int .i64 0,.int .i64 0,.int .i64 0] 64:=by rw [← e2];exact Blk.new rfl
  have ha:Ex w2 (w2.alloc (.cells #[.int .i64 0,.int .i64 0,.int .i64 0] 64)):=(by repeat (first|exact Ex.refl _|refine Ex.alloc ?_ _|refine Ex.ext ?_ _ _|refine Ex.drew ?_|refine Ex.drewN ?_ _))
  have X3:=X2.addB ha (SepL.one (T:=blkTh (w.heap.size+2) (triA stock 0) 64) (F:=fun n=>n=w.heap.size+2) ⟨fun n=>Iff.rfl,hB⟩) (fun n hn=>by subst hn;omega)
  exact X3
set_option maxRecDepth 100000 in
set_option maxHeartbeats 8000000 in
theorem mnew_any (w:World) (wd hl ref cash stock:Int) (c1:0≤cash) (c2:cash≤1073741824) (s1:0≤stock) (s2:stock≤100000) :
    Calls Tryz.prog 8 #[.int .i64 wd,.int .i64 hl,.int .i64 ref,.int .i64 cash,.int .i64 stock] w fun e w'=>∃ A:MA,e=.returned (.pointer (some ⟨A.f,0,none⟩))∧A.wd=wd∧A.hl=hl∧Leaves (mTh A (newSt ref cash stock)) NoF w w':=by
  have HS:=Lib.hid (nf_start w wd hl ref stock cash)
  go_enter Tryz.func8,Tryz.ntmps8
  go_wp2_with fail
  go_loopw [13] (fun i wr=>∃ (k:Nat) (A:MA),k≤3∧i=.int .i64 (k:Int)∧A.f=w.heap.size+1∧A.pp=w.heap.size∧A.wd=wd∧A.hl=hl∧Sep NoF w (nfList A (w.heap.size+2) ref stock cash k) wr) (fun i _=>3 - (intOf i).toNat)
  case atStart=>exact ⟨0,_,by omega,rfl,rfl,rfl,rfl,rfl,HS.out⟩
  case round =>
    obtain ⟨k,A,hk,rfl,hf,hp,hw,hh,hX⟩:=hrel
    by_cases hlt:k<3
    · have k3:(k:Int)<3:=by omega
      have hfz:A.f<wr.heap.size:=by
        obtain ⟨G,h⟩:=Sep.look hX 0 rfl
        exact h.2.lt
      have hsz:A.f+1<wr.heap.size:=by
        obtain ⟨G,h⟩:=Sep.look hX 2 rfl
        have:=(Array.getElem?_eq_some_iff.1 h.2).1
        omega
      have ff:∀ j,wr.frozen? ⟨A.f,j,none⟩=false:=by
        obtain ⟨G,h⟩:=Sep.look hX 0 rfl
        exact h.2.free
      have fs:∀ j,wr.frozen? ⟨A.f+1,j,none⟩=false:=by
        obtain ⟨G,h⟩:=Sep.look hX 2 rfl
        rw [show A.f+1=w.heap.size+2 by omega]
        exact (show Blk wr (w.heap.size+2) (triA stock k) 64 from h.2).free
      have q0:∀ j,j<12→wr.cell? ⟨A.f,j,none⟩=some (nfHead A ref k j):=by
        obtain ⟨G,h⟩:=Sep.look hX 0 rfl
        exact fun j hj=>h.2.cell hj
      have q1:=q0 k (by omega)
      have q2:=q0 (3+k*2) (by omega)
      have q3:=q0 (3+k*2+1) (by omega)
      have q4:∃ v,wr.cell? ⟨A.f+1,k,none⟩=some v:=by
        obtain ⟨G,h⟩:=Sep.look hX 2 rfl
        rw [show A.f+1=w.heap.size+2 by omega]
        have hb:Blk wr (w.heap.size+2) (triA stock k) 64:=h.2
        rcases three hlt with rfl|rfl|rfl
        · exact ⟨_,hb.cell 0⟩
        · exact ⟨_,hb.cell 1⟩
        · exact ⟨_,hb.cell 2⟩
      obtain ⟨q5,q4⟩:=q4
      clear q0
      have hstk:w.heap.size+2=A.f+1:=by omega
      have HN:=Lib.hid (nf_step hX hlt)
      rw [hstk] at HN
      have HSK:=Lib.hid hstk
      clear hX hstk
      have HFF:=Lib.hid hf
      rw [← hf] at *
      go_wp2_with fail
      go_roundw
      case measure=>simp [intOf];omega
      case rel=>exact ⟨k+1,⟨A.f,fun i=>if i=k then wr.heap.size else A.bp i,A.pp,A.wd,A.hl⟩,by omega,by go_num,HFF.out,hp,hw,hh,by
        rw [HSK.out]
        have h:=HN.out
        rw [World.setCell_alloc_past _ _ _ _ hfz,World.setCell_alloc_past _ _ _ _ (by simpa using hfz),World.setCell_alloc_past _ _ _ _ (by simpa using hfz),World.setCell_alloc_past _ _ _ _ (by simpa using hsz)] at h
        exact h⟩
    · obtain rfl:k=3:=by omega
      have HX:=Lib.hid (nf_done hX)
      clear hX
      go_wp2_with fail
      go_loopw [14] (fun i wr=>∃ n:Nat,n≤6∧i=.int .i64 (n:Int)∧MFX NoF w A (nst ref cash stock n) [blkTh (w.heap.size+2) (triA stock 3) 64] wr) (fun i _=>6 - (intOf i).toNat)
      case atStart=>exact ⟨0,by omega,rfl,HX.out.later (by with_reducible repeat (first|exact Ex.refl _|refine Ex.alloc ?_ _|refine Ex.ext ?_ _ _|refine Ex.drew ?_|refine Ex.drewN ?_ _))⟩
      case round =>
        obtain ⟨n,hn,rfl,hX2⟩:=hrel
        by_cases hln:n<6
        · have n6:(n:Int)<6:=by omega
          have hstk:w.heap.size+2=A.f+1:=by omega
          rw [hstk] at hX2
          obtain ⟨p1,_,_,hfz⟩:=hX2.restC
          have hb:=hX2.blk 0 rfl
          have t0:wr.cell? ⟨A.f+1,0,none⟩=some (.int .i64 stock):=hb.cell 0
          have t1:wr.cell? ⟨A.f+1,1,none⟩=some (.int .i64 stock):=hb.cell 1
          have t2:wr.cell? ⟨A.f+1,2,none⟩=some (.int .i64 stock):=hb.cell 2
          have hbz:=hb.lt
          obtain ⟨g1,g2⟩:=newP_give hln c1 c2 s1 s2
          have HG:=Lib.hid (fun own W' (h:PurseAt own 1 W' A.pp (newP cash stock n))=>mgive_any h (n:Int) cash (fun _=>stock))
          rw [g1,g2] at HG
          unfold stockV at HG
          have HX2:=Lib.hid hX2
          clear hX2 hb g1 g2 HX hp
          have HSK:=Lib.hid hstk
          clear hstk
          rw [← hf] at *
          go_upto_region 12 with fail
          go_region_with ((go_at_call 30;((refine ((HX2.out.later ?_).purse (fun own h=>HG.out own _ h)).mono ?_));(focus ((repeat (first|(with_reducible exact Ex.refl _)|(with_reducible refine Ex.alloc ?_ _)|(with_reducible refine Ex.ext ?_ _ _)|(with_reducible refine Ex.drew ?_)|(with_reducible refine Ex.drewN ?_ _)));done));rintro e w4 ⟨rfl,hX4⟩;have HX4:=Lib.hid hX4;clear hX4))
          all_goals go_wp2_with fail
          all_goals
            go_roundw
            case measure=>simp [intOf];omega
            case rel=>(repeat apply Exists.intro);exact ⟨⟨n+1,by omega,by go_num,by rw [HSK.out];exact HX4.out.later (by with_reducible repeat (first|exact Ex.refl _|refine Ex.alloc ?_ _|refine Ex.ext ?_ _ _|refine Ex.drew ?_|refine Ex.drewN ?_ _))⟩,rfl⟩
        · obtain rfl:n=6:=by omega
          have HX2:=Lib.hid hX2
          clear hX2 HX
          rw [← hf] at *
          go_wp2_with fail
          all_goals go_ret
          all_goals exact ⟨A,rfl,hw,hh,(MFX.only HX2.out).close.later (by with_reducible repeat (first|exact Ex.refl _|refine Ex.alloc ?_ _|refine Ex.ext ?_ _ _|refine Ex.drew ?_|refine Ex.drewN ?_ _))⟩
end
end Go.Proofs.YtmbboflakfokhaaGreatDoor

/- Run of an item that is none. -/
set_option linter.unusedSimpArgs false
set_option linter.unusedVariables false
namespace Go.Proofs.YtmbboflakfokhaaGreatDoor
open Go.RowKit
set_option maxRecDepth 100000 in
theorem frun_bad (p:Value) (n seed:Int) (hn:inR n 0 2=false) (E:Nat→Addr) (w:World) (hE:Errs E [2] w) :
    Calls Tryz.prog 16 #[p,.int .i64 n,.int .u32 seed] w fun e w'=>e=.returned (.tuple #[.agg #[.int .i64 0,.int .i64 0,.bool false,.slice none 0 0],errV E 2])∧Ex w w':=by
  have HR:=Lib.hid (fun w=>fright_any n w)
  rw [hn] at HR
  have e2:w.cell? ⟨0,0,none⟩=some (.iface 228 (.pointer (some (E 2)))):=hE 2 (by decide)
  have b2:0<w.heap.size:=lt_of_cell e2
  clear hE hn
  rw [errV_pos E 2 (by decide)]
  go_enter Tryz.func16,Tryz.ntmps16
  go_wp2_with (go_at_call 46;refine (HR.out _).mono ?_;rintro e w1 ⟨rfl,l1,d1,rfl⟩)
  go_region
  all_goals go_wp2_with fail
  all_goals
    refine bodyPost_ret (v:=.tuple #[.agg #[.int .i64 0,.int .i64 0,.bool false,.slice none 0 0],.iface 228 (.pointer (some (E 2)))]) ?_ rfl ⟨rfl,(by repeat (first|exact Ex.refl _|refine Ex.alloc ?_ _|refine Ex.ext ?_ _ _|refine Ex.drew ?_|refine Ex.drewN ?_ _))⟩
    simp only [results,Tryz.results16]
    simp [go_sem,↓IntWalk.iteOmega]
end Go.Proofs.YtmbboflakfokhaaGreatDoor

/- A floor and the document's floor, side by side in a law: what each method leaves of both. -/
set_option linter.unusedSimpArgs false
set_option linter.unusedVariables false
namespace Go.Proofs.YtmbboflakfokhaaGreatDoor
open Go.RowKit
section
variable {F0:Nat→Prop} {w0 W:World} {L:List Th} {T:Th} {f:FuncId} {args:Array Value}
theorem Sep.callX {α:Type} {M:α→List Th} {Q:α→Ending→Prop} (h:Sep F0 w0 L W) (i:Nat) (hi:L[i]?=some T)
    (hC:∀ F,T.P F W→(∀ n,F n→F0 n∨w0.heap.size≤n)→Calls Tryz.prog f args W fun e w'=>∃ a,Q a e∧LeavesL (M a) F W w') :
    Calls Tryz.prog f args W fun e w'=>∃ a,Q a e∧Sep F0 w0 (L.take i++(M a++L.drop (i+1))) w':=by
  obtain ⟨F,h1,h2,h3⟩:=h.open i hi
  exact (hC F h1 h2).mono fun e w' ⟨a,hq,F',k1,k2,k3⟩=>⟨a,hq,h3 k2 k1 k3⟩
end
theorem dropR_lots {st:FSt} (h:FOk st) (client:Int):∀ x∈(fdropR st client).1,x.ok=true:=by
  have key:∀ (k:Nat),k<3→∀ (ids:List Int) (p:List Lot × FSt),FOk p.2→(∀ x∈p.1,x.ok=true)→∀ x∈(ids.foldl (dropStep k) p).1,x.ok=true:=by
    intro k hk ids
    induction ids with
    | nil=>intro p _ h2;exact h2
    | cons id ids ih =>
      intro p h1 h2
      refine ih _ (dropStep_ok h1 hk id).1 fun x hx=>?_
      unfold dropStep at hx
      simp only at hx
      unfold goneR at hx
      rcases cancelR_cases (h1.book k hk) id with ⟨y,hy,hi,l',e,_⟩|⟨hn,e⟩
      · rw [e] at hx
        simp only [if_true] at hx
        rcases List.mem_append.1 hx with hx|hx
        · exact h2 x hx
        · rw [List.mem_singleton.1 hx];exact (h1.book k hk).ok y hy
      · rw [e] at hx
        have e0:¬ ((6:Nat)=0):=by decide
        simp only [e0,if_false] at hx
        exact h2 x hx
  have key2:∀ k,k≤3→∀ x∈((List.range k).foldl (dropK client) ([],st)).1,x.ok=true:=by
    intro k
    induction k with
    | zero=>intro _ x hx;cases hx
    | succ k ih =>
      intro hk x hx
      rw [List.range_succ,List.foldl_append] at hx
      exact key k (by omega) _ _ (dropR_ok h client k (by omega)).1 (ih (by omega)) x hx
  exact key2 3 (Nat.le_refl _)
theorem lrow_lots {W:World} {l:List Lot} {v:Value} (h:(lrowRd l v).R W) (hok:∀ x∈l,x.ok=true):∃ ao cap,v=.slice ao l.length cap∧LotsAt W ao l.length l:=by
  have h:RowAt W 44 5 v l.length (flat Lot.cells l):=h
  have hz:=h.lt
  rcases h.2 with ⟨rfl,h0⟩|⟨g,off,cap,cur,rfl,_,hc,hm,_⟩
  · exact ⟨none,0,by rw [h0],rfl,by rw [h0];omega,fun a ha=>lot_wf (hok a ha),fun h1=>by omega⟩
  · refine ⟨_,cap,rfl,rfl,by unfold maxLen at hm;omega,fun a ha=>lot_wf (hok a ha),fun h1=>⟨g,off,rfl,hz g rfl,fun k hk j hj=>?_⟩⟩
    rw [show off+k*5+j=off+(k*5+j) by omega,h.cell (by omega)]
    exact flat_get lotc_len l k hk j hj
section
variable {w0 W:World} {M:List Th} {A:FlA} {B:MA} {st st':FSt} {E:Nat→Addr} {f:FuncId} {args:Array Value} {P:Ending→Prop}
theorem bt_fl {α:Type} {M':α→List Th} {Q:α→Ending→Prop} (X:Sep NoF w0 (flTh A st::M) W) (hE:Errs E LE w0)
    (hC:∀ own F,FlAt own 0 W A st→(∀ n,F n→n<W.heap.size)→(∀ n,n<W.heap.size→own n / 8=0→F n)→Errs E LE W→(∀ n,GE LE n→own n / 8≠0)→Calls Tryz.prog f args W fun e w'=>∃ a,Q a e∧LeavesL (M' a) F W w') :
    Calls Tryz.prog f args W fun e w'=>∃ a,Q a e∧Sep NoF w0 (M' a++M) w':=by
  refine X.callX (M:=M') (Q:=Q) 0 rfl fun F hP hF=>?_
  obtain ⟨h0,own,hA,hF1⟩:=hP
  refine hC own F hA h0 hF1 (hE.ex X.ex) fun n ⟨e,he,hn⟩ hc=>?_
  have hlt:=lt_of_cell (hE e he)
  rw [← hn] at hlt
  rcases hF n (hF1 n (Nat.lt_of_lt_of_le hlt X.size) hc) with h|h
  · exact h
  · omega
theorem bt_place (X:Sep NoF w0 (flTh A st::M) W) (hE:Errs E LE w0) (a:Ask) :
    Calls Tryz.prog 9 #[.pointer (some ⟨A.f,0,none⟩),a.val] W fun e w'=>e=.returned (errV E (fplaceE st a))∧Sep NoF w0 (flTh A (fplaceS st a)::M) w' :=
  (bt_fl (α:=Unit) (M':=fun _=>[flTh A (fplaceS st a)]) (Q:=fun _ e=>e=.returned (errV E (fplaceE st a))) X hE fun own F h h0 hF hE' hg =>
    (fplace_any h (hE'.sub (by decide)) (fun n hn=>hg n (hn.sub (by decide))) a).mono fun e w' ⟨he,hG⟩=>⟨(),he,(flTh.leaves h0 hF hG).toL⟩).mono fun e w' ⟨_,he,hX⟩=>⟨he,hX⟩
theorem bt_cancel (X:Sep NoF w0 (flTh A st::M) W) (hE:Errs E LE w0) (hO:FOk st) (a:Ask) :
    Calls Tryz.prog 11 #[.pointer (some ⟨A.f,0,none⟩),a.val] W fun e w'=>e=.returned (.tuple #[(fcancelR st a).1.val,errV E (fcancelR st a).2.1])∧Sep NoF w0 (flTh A (fcancelR st a).2.2::M) w' :=
  (bt_fl (α:=Unit) (M':=fun _=>[flTh A (fcancelR st a).2.2]) (Q:=fun _ e=>e=.returned (.tuple #[(fcancelR st a).1.val,errV E (fcancelR st a).2.1])) X hE fun own F h h0 hF hE' hg =>
    (fcancel_any h hO (hE'.sub (by decide)) (fun n hn=>hg n (hn.sub (by decide))) a).mono fun e w' ⟨he,hG⟩=>⟨(),he,(flTh.leaves h0 hF hG).toL⟩).mono fun e w' ⟨_,he,hX⟩=>⟨he,hX⟩
theorem bt_drop (X:Sep NoF w0 (flTh A st::M) W) (hE:Errs E LE w0) (hO:FOk st) (client:Int) :
    Calls Tryz.prog 14 #[.pointer (some ⟨A.f,0,none⟩),.int .i64 client] W fun e w'=>∃ v,e=.returned v∧Sep NoF w0 (flTh A (fdropR st client).2::rdTh (lrowRd (fdropR st client).1 v)::M) w' :=
  bt_fl (M':=fun v=>[flTh A (fdropR st client).2,rdTh (lrowRd (fdropR st client).1 v)]) (Q:=fun v e=>e=.returned v) X hE fun own F h h0 hF hE' hg =>
    (fdrop_any h hO (hE'.sub (by decide)) (fun n hn=>hg n (hn.sub (by decide))) client).mono fun e w' hD=>flTh.drop h0 hF hD
theorem bt_run (X:Sep NoF w0 (flTh A st::M) W) (hE:Errs E LE w0) (hO:FOk st) {k:Nat} (hk:k<3) (seed:Int) (hs:U32 seed) :
    Calls Tryz.prog 16 #[.pointer (some ⟨A.f,0,none⟩),.int .i64 (k:Int),.int .u32 seed] W fun e w'=>∃ p:Option Addr × Nat,e=.returned (.tuple #[.agg #[.int .i64 (runR st k A.wd A.hl seed).price,.int .i64 (runR st k A.wd A.hl seed).vol,.bool (runR st k A.wd A.hl seed).isOpen,.slice p.1 (runR st k A.wd A.hl seed).fills.length p.2],.nilIface])∧Sep NoF w0 (flTh A (runS st k A.wd A.hl seed)::fillTh p.1 (runR st k A.wd A.hl seed).fills::M) w' :=
  bt_fl (M':=fun p:Option Addr × Nat=>[flTh A (runS st k A.wd A.hl seed),fillTh p.1 (runR st k A.wd A.hl seed).fills]) (Q:=fun p e=>e=.returned (.tuple #[.agg #[.int .i64 (runR st k A.wd A.hl seed).price,.int .i64 (runR st k A.wd A.hl seed).vol,.bool (runR st k A.wd A.hl seed).isOpen,.slice p.1 (runR st k A.wd A.hl seed).fills.length p.2],.nilIface])) X hE fun own F h h0 hF hE' hg =>
    (frun_any h hO (hE'.sub (by decide)) (fun n hn=>hg n (hn.sub (by decide))) k hk seed hs).mono fun e w' hR=>by
      obtain ⟨ao,cap,he,_,hL⟩:=flTh.run h0 hF hR
      exact ⟨(ao,cap),he,hL⟩
theorem bt_mplace {L:List Th} (X:Sep NoF w0 L W) (i:Nat) (hi:L[i]?=some (mTh B st)) (a:Ask) :
    Calls Tryz.prog 10 #[.pointer (some ⟨B.f,0,none⟩),a.val] W fun e w'=>e=.returned (.int .i64 (fplaceE st a:Nat))∧Sep NoF w0 (L.take i++(mTh B (fplaceS st a)::L.drop (i+1))) w' :=
  X.call (T':=mTh B (fplaceS st a)) (Q:=fun e _=>e=.returned (.int .i64 (fplaceE st a:Nat))) i hi fun F h _=>mplace_any h a
theorem mcancelF_any {F:Nat→Prop} (h:(mTh B st).P F W) (hO:FOk st) (a:Ask) :
    Calls Tryz.prog 12 #[.pointer (some ⟨B.f,0,none⟩),a.val] W fun e w'=>e=.returned (.tuple #[(fcancelR st a).1.val,.int .i64 ((fcancelR st a).2.1:Nat)])∧Leaves (mTh B (fcancelR st a).2.2) F W w':=by
  by_cases hk:askedE a 99=0
  · obtain ⟨_,_,_,b4,_⟩:=Ask.bounds (asked_zero hk).1
    exact mcancelF_go h hO a a.item.toNat (by omega) (by omega) hk (fcancelR st a) (by unfold fcancelR;rw [if_pos hk])
  · have e:fcancelR st a=(zeroLot,askedE a 99,st):=if_neg hk
    rw [e]
    exact mcancelF_bad h a hk
theorem bt_mcancel {L:List Th} (X:Sep NoF w0 L W) (i:Nat) (hi:L[i]?=some (mTh B st)) (hO:FOk st) (a:Ask) :
    Calls Tryz.prog 12 #[.pointer (some ⟨B.f,0,none⟩),a.val] W fun e w'=>e=.returned (.tuple #[(fcancelR st a).1.val,.int .i64 ((fcancelR st a).2.1:Nat)])∧Sep NoF w0 (L.take i++(mTh B (fcancelR st a).2.2::L.drop (i+1))) w' :=
  X.call (T':=mTh B (fcancelR st a).2.2) (Q:=fun e _=>e=.returned (.tuple #[(fcancelR st a).1.val,.int .i64 ((fcancelR st a).2.1:Nat)])) i hi fun F h _=>mcancelF_any h hO a
theorem bt_mdrop {L:List Th} (X:Sep NoF w0 L W) (i:Nat) (hi:L[i]?=some (mTh B st)) (hO:FOk st) (client:Int) :
    Calls Tryz.prog 15 #[.pointer (some ⟨B.f,0,none⟩),.int .i64 client] W fun e w'=>∃ v,e=.returned v∧Sep NoF w0 (L.take i++([mTh B (fdropR st client).2,rdTh (lrowRd (fdropR st client).1 v)]++L.drop (i+1))) w' :=
  X.callX (M:=fun v=>[mTh B (fdropR st client).2,rdTh (lrowRd (fdropR st client).1 v)]) (Q:=fun v e=>e=.returned v) i hi fun F h _=>mdrop_any h hO client
theorem bt_mrun {L:List Th} (X:Sep NoF w0 L W) (i:Nat) (hi:L[i]?=some (mTh B st)) (hO:FOk st) (hp:PInv st.p) (u:(0≤B.wd∧B.wd≤100)∧1≤B.hl∧B.hl≤1000) {k:Nat} (hk:k<3) (seed:Int) (hs:U32 seed) :
    Calls Tryz.prog 17 #[.pointer (some ⟨B.f,0,none⟩),.int .i64 (k:Int),.int .u32 seed] W fun e w'=>∃ p:Option Addr × Nat,e=.returned (.agg #[.int .i64 (runR st k B.wd B.hl seed).price,.int .i64 (runR st k B.wd B.hl seed).vol,.bool (runR st k B.wd B.hl seed).isOpen,.slice p.1 (runR st k B.wd B.hl seed).fills.length p.2])∧Sep NoF w0 (L.take i++([mTh B (runS st k B.wd B.hl seed),fillTh p.1 (runR st k B.wd B.hl seed).fills]++L.drop (i+1))) w' :=
  X.callX (M:=fun p:Option Addr × Nat=>[mTh B (runS st k B.wd B.hl seed),fillTh p.1 (runR st k B.wd B.hl seed).fills]) (Q:=fun p e=>e=.returned (.agg #[.int .i64 (runR st k B.wd B.hl seed).price,.int .i64 (runR st k B.wd B.hl seed).vol,.bool (runR st k B.wd B.hl seed).isOpen,.slice p.1 (runR st k B.wd B.hl seed).fills.length p.2])) i hi fun F h _ =>
    (mrun_any h hO hp u hk seed hs).mono fun e w' ⟨ao,cap,he,hL⟩=>⟨(ao,cap),he,hL⟩
theorem bt_mfx {L:List Th} (X:Sep NoF w0 L W) (i:Nat) (hi:L[i]?=some (mTh B st)):∃ F,MFX F W B st [] W:=by
  obtain ⟨F,h⟩:=X.look i hi
  exact ⟨F,MFX.start h⟩
end
end Go.Proofs.YtmbboflakfokhaaGreatDoor

/- The acts on a floor that a batch law's input names. -/
set_option linter.unusedSimpArgs false
set_option linter.unusedVariables false
namespace Go.Proofs.YtmbboflakfokhaaGreatDoor
open Go.ChangeShapes Go.WideShapes Go.ChangeAt Go.RowKit Go.Deep
def Ask.wf (a:Ask):Prop:=(0≤a.kind∧a.kind≤255)∧(Lit.int .i64 a.client).wf=true∧(Lit.int .i64 a.seq).wf=true∧(Lit.int .i64 a.item).wf=true∧(Lit.int .i64 a.side).wf=true∧(Lit.int .i64 a.price).wf=true∧(Lit.int .i64 a.qty).wf=true∧(Lit.int .i64 a.id).wf=true
set_option maxRecDepth 100000 in
theorem ask_of_trod {H:Type} {enc:TypeId × Value→H} {w:World} {base:Nat} {spare:Nat→Bool} {held:Bool} {n:Nat} {cs:List Value} {y:DataW H × List MemPlace} (h:DataW.trod enc Tryz.prog w base spare held n 37 cs=some y):∃ a:Ask,a.wf∧cs=a.cells:=by
  obtain ⟨ys,n',hn',hy,hlen,hyl,hf⟩:=DataW.trod_struct Tryz.underlying37 h
  have hcN:Tryz.prog.cellsOf 37=8:=by kernel_rfl
  rw [hcN] at hlen
  match cs,hlen with
  | [c0,c1,c2,c3,c4,c5,c6,c7],_ =>
    match ys,hyl with
    | [y0,y1,y2,y3,y4,y5,y6,y7],_ =>
      have g0:DataW.trod enc Tryz.prog w base spare held n' 5 (([c0,c1,c2,c3,c4,c5,c6,c7].drop 0).take (Tryz.prog.cellsOf 5))=some y0:=hf 0 _ rfl
      rw [show Tryz.prog.cellsOf 5=1 by kernel_rfl] at g0
      have g1:DataW.trod enc Tryz.prog w base spare held n' 3 (([c0,c1,c2,c3,c4,c5,c6,c7].drop 1).take (Tryz.prog.cellsOf 3))=some y1:=hf 1 _ rfl
      rw [show Tryz.prog.cellsOf 3=1 by kernel_rfl] at g1
      have g2:DataW.trod enc Tryz.prog w base spare held n' 3 (([c0,c1,c2,c3,c4,c5,c6,c7].drop 2).take (Tryz.prog.cellsOf 3))=some y2:=hf 2 _ rfl
      rw [show Tryz.prog.cellsOf 3=1 by kernel_rfl] at g2
      have g3:DataW.trod enc Tryz.prog w base spare held n' 3 (([c0,c1,c2,c3,c4,c5,c6,c7].drop 3).take (Tryz.prog.cellsOf 3))=some y3:=hf 3 _ rfl
      rw [show Tryz.prog.cellsOf 3=1 by kernel_rfl] at g3
      have g4:DataW.trod enc Tryz.prog w base spare held n' 3 (([c0,c1,c2,c3,c4,c5,c6,c7].drop 4).take (Tryz.prog.cellsOf 3))=some y4:=hf 4 _ rfl
      rw [show Tryz.prog.cellsOf 3=1 by kernel_rfl] at g4
      have g5:DataW.trod enc Tryz.prog w base spare held n' 3 (([c0,c1,c2,c3,c4,c5,c6,c7].drop 5).take (Tryz.prog.cellsOf 3))=some y5:=hf 5 _ rfl
      rw [show Tryz.prog.cellsOf 3=1 by kernel_rfl] at g5
      have g6:DataW.trod enc Tryz.prog w base spare held n' 3 (([c0,c1,c2,c3,c4,c5,c6,c7].drop 6).take (Tryz.prog.cellsOf 3))=some y6:=hf 6 _ rfl
      rw [show Tryz.prog.cellsOf 3=1 by kernel_rfl] at g6
      have g7:DataW.trod enc Tryz.prog w base spare held n' 3 (([c0,c1,c2,c3,c4,c5,c6,c7].drop 7).take (Tryz.prog.cellsOf 3))=some y7:=hf 7 _ rfl
      rw [show Tryz.prog.cellsOf 3=1 by kernel_rfl] at g7
      obtain ⟨x0,e0,_,w0⟩:=DataW.trod_int Tryz.underlying5 g0
      simp at e0
      subst e0
      obtain ⟨x1,e1,_,w1⟩:=DataW.trod_int Tryz.underlying3 g1
      simp at e1
      subst e1
      obtain ⟨x2,e2,_,w2⟩:=DataW.trod_int Tryz.underlying3 g2
      simp at e2
      subst e2
      obtain ⟨x3,e3,_,w3⟩:=DataW.trod_int Tryz.underlying3 g3
      simp at e3
      subst e3
      obtain ⟨x4,e4,_,w4⟩:=DataW.trod_int Tryz.underlying3 g4
      simp at e4
      subst e4
      obtain ⟨x5,e5,_,w5⟩:=DataW.trod_int Tryz.underlying3 g5
      simp at e5
      subst e5
      obtain ⟨x6,e6,_,w6⟩:=DataW.trod_int Tryz.underlying3 g6
      simp at e6
      subst e6
      obtain ⟨x7,e7,_,w7⟩:=DataW.trod_int Tryz.underlying3 g7
      simp at e7
      subst e7
      exact ⟨⟨x0,x1,x2,x3,x4,x5,x6,x7⟩,⟨(by simp [Lit.wf,IntKind.min,IntKind.max,IntKind.signed,IntKind.bits] at w0;omega),w1,w2,w3,w4,w5,w6,w7⟩,rfl⟩
structure Do where
  kind:ByteArray
  a:Ask
  client:Int
  item:Int
  seed:Int
  deriving DecidableEq
def Do.cells (a:Do):List Value:=[.string a.kind,.int .u8 a.a.kind,.int .i64 a.a.client,.int .i64 a.a.seq,.int .i64 a.a.item,.int .i64 a.a.side,.int .i64 a.a.price,.int .i64 a.a.qty,.int .i64 a.a.id,.int .i64 a.client,.int .i64 a.item,.int .u32 a.seed]
def Do.wf (a:Do):Prop:=a.kind.size≤maxLen∧a.a.wf∧(Lit.int .i64 a.client).wf=true∧(Lit.int .i64 a.item).wf=true∧(0≤a.seed∧a.seed≤4294967295)
set_option maxRecDepth 100000 in
theorem do_of_trod {H:Type} {enc:TypeId × Value→H} {w:World} {base:Nat} {spare:Nat→Bool} {held:Bool} {n:Nat} {cs:List Value} {y:DataW H × List MemPlace} (h:DataW.trod enc Tryz.prog w base spare held n 40 cs=some y):∃ a:Do,a.wf∧cs=a.cells:=by
  obtain ⟨ys,n',hn',hy,hlen,hyl,hf⟩:=DataW.trod_struct Tryz.underlying40 h
  have hcN:Tryz.prog.cellsOf 40=12:=by kernel_rfl
  rw [hcN] at hlen
  match cs,hlen with
  | [c0,c1,c2,c3,c4,c5,c6,c7,c8,c9,c10,c11],_ =>
    match ys,hyl with
    | [y0,y1,y2,y3,y4],_ =>
      have g0:DataW.trod enc Tryz.prog w base spare held n' 9 (([c0,c1,c2,c3,c4,c5,c6,c7,c8,c9,c10,c11].drop 0).take (Tryz.prog.cellsOf 9))=some y0:=hf 0 _ rfl
      rw [show Tryz.prog.cellsOf 9=1 by kernel_rfl] at g0
      have g1:DataW.trod enc Tryz.prog w base spare held n' 37 (([c0,c1,c2,c3,c4,c5,c6,c7,c8,c9,c10,c11].drop 1).take (Tryz.prog.cellsOf 37))=some y1:=hf 1 _ rfl
      rw [show Tryz.prog.cellsOf 37=8 by kernel_rfl] at g1
      have g2:DataW.trod enc Tryz.prog w base spare held n' 3 (([c0,c1,c2,c3,c4,c5,c6,c7,c8,c9,c10,c11].drop 9).take (Tryz.prog.cellsOf 3))=some y2:=hf 2 _ rfl
      rw [show Tryz.prog.cellsOf 3=1 by kernel_rfl] at g2
      have g3:DataW.trod enc Tryz.prog w base spare held n' 3 (([c0,c1,c2,c3,c4,c5,c6,c7,c8,c9,c10,c11].drop 10).take (Tryz.prog.cellsOf 3))=some y3:=hf 3 _ rfl
      rw [show Tryz.prog.cellsOf 3=1 by kernel_rfl] at g3
      have g4:DataW.trod enc Tryz.prog w base spare held n' 38 (([c0,c1,c2,c3,c4,c5,c6,c7,c8,c9,c10,c11].drop 11).take (Tryz.prog.cellsOf 38))=some y4:=hf 4 _ rfl
      rw [show Tryz.prog.cellsOf 38=1 by kernel_rfl] at g4
      obtain ⟨x0,e0,_,w0⟩:=DataW.trod_string Tryz.underlying9 g0
      simp at e0
      subst e0
      obtain ⟨x1,w1,e1⟩:=ask_of_trod g1
      simp [Ask.cells] at e1
      obtain ⟨rfl,rfl,rfl,rfl,rfl,rfl,rfl,rfl⟩:=e1
      obtain ⟨x2,e2,_,w2⟩:=DataW.trod_int Tryz.underlying3 g2
      simp at e2
      subst e2
      obtain ⟨x3,e3,_,w3⟩:=DataW.trod_int Tryz.underlying3 g3
      simp at e3
      subst e3
      obtain ⟨x4,e4,_,w4⟩:=DataW.trod_int Tryz.underlying38 g4
      simp at e4
      subst e4
      exact ⟨⟨x0,x1,x2,x3,x4⟩,⟨w0,w1,w2,w3,(by simp [Lit.wf,IntKind.min,IntKind.max,IntKind.signed,IntKind.bits] at w4;omega)⟩,rfl⟩
def DosAt (w:World) (ao:Option Addr) (len:Nat) (l:List Do):Prop :=
  l.length=len∧len≤9223372036854775807∧(∀ a∈l,a.wf) ∧
    (0<len→∃ b off,ao=some ⟨b,off,none⟩∧b<w.heap.size∧∀ k (h:k<l.length) j,j<12→w.cell? ⟨b,off+k*12+j,none⟩=l[k].cells[j]?)
set_option maxRecDepth 100000 in
theorem dos_open {H:Type} {enc:TypeId × Value→H} {w:World} {b0:Nat} {v:Value} {d:DataW H} {p:List MemPlace} (hok:Value.okWide Tryz.prog w .any b0 23 v)
    (h:DataW.Trod enc Tryz.prog w 0 (fun _=>true) true 23 v d p):∃ ao len cap l,v=.slice ao len cap∧(len≤cap∧cap≤9223372036854775807∧(ao=none→cap=0))∧DosAt w ao len l:=by
  obtain ⟨a0,len,cap,rfl⟩:=okWide_slice Tryz.underlying23 hok
  obtain ⟨fuel,hf⟩:=h
  have hcN:Tryz.prog.cellsOf 40=12:=by kernel_rfl
  rcases open_slice Tryz.underlying23 hf with ⟨hcs,hx⟩|⟨a,len',cap',m,n,D,Pl,hcs,_,hl,hm,hmm,hx,hel⟩
  · simp [Value.cells] at hcs
    obtain ⟨rfl,rfl,rfl⟩:=hcs
    exact ⟨none,0,0,[],rfl,⟨by omega,by omega,fun _=>rfl⟩,rfl,by omega,fun _ h=>(by cases h),fun h=>by omega⟩
  · simp [Value.cells] at hcs
    obtain ⟨rfl,rfl,rfl⟩:=hcs
    unfold maxLen at hm
    simp at hmm
    rw [hcN] at hel
    have hel':∀ i,i<len→∃ x:Do,x.wf∧w.cells? 0 (a.add (i*12)) 12=some x.cells:=fun i hi=>by
      obtain ⟨cs',h1,h2⟩:=hel i (by omega)
      obtain ⟨x,hx1,rfl⟩:=do_of_trod h2
      exact ⟨x,hx1,h1⟩
    haveI:Inhabited Do:=⟨⟨ByteArray.empty,⟨0,0,0,0,0,0,0,0⟩,0,0,0⟩⟩
    obtain ⟨f,hF⟩:=choose_lt hel'
    refine ⟨some a,len,cap,(List.range len).map f,rfl,⟨by omega,by omega,fun h=>by cases h⟩,by simp,by omega,fun x hx=>?_,fun h0=>?_⟩
    · obtain ⟨i,hi,rfl⟩:=List.mem_map.1 hx
      exact (hF i (List.mem_range.1 hi)).1
    · have hcell:∀ k,k<len→∀ j,j<12→w.cell? (a.add (k*12+j))=(f k).cells[j]?:=fun k hk j hj=>by
        obtain ⟨_,_,hat⟩:=World.cells?_some (hF k hk).2
        rw [← Go.Deep.add_add]
        exact hat j hj
      obtain ⟨b,off,sp⟩:=a
      have h00:=hcell 0 h0 0 (by omega)
      have hsp:sp=none:=by
        cases sp with
        | none=>rfl
        | some q =>
          exfalso
          rw [show w.cell? (Addr.add ⟨b,off,some q⟩ (0*12+0))=none by unfold World.cell? Addr.add;split<;>simp] at h00
          simp [Do.cells] at h00
      subst hsp
      have hadd:∀ i,Addr.add ⟨b,off,none⟩ i=⟨b,off+i,none⟩:=fun i=>by
        unfold Addr.add
        by_cases hi:i=0<;>simp [hi]
      refine ⟨b,off,rfl,?_,fun k hk j hj=>?_⟩
      · rw [hadd] at h00
        exact lt_of_cell (v:=.string (f 0).kind) (by rw [h00];rfl)
      · have:=hcell k (by simpa using hk) j hj
        rw [hadd] at this
        rw [Nat.add_assoc,this]
        simp
end Go.Proofs.YtmbboflakfokhaaGreatDoor

/- How BatchActs reads its first argument: an array of five numbers. -/
set_option linter.unusedSimpArgs false
set_option linter.unusedVariables false
namespace Go.Proofs.YtmbboflakfokhaaGreatDoor
open Go.ChangeShapes Go.WideShapes Go.ChangeAt Go.RowKit
set_option maxRecDepth 100000 in
theorem five_open {H:Type} {enc:TypeId × Value→H} {W:World} {b0 base:Nat} {spare:Nat→Bool} {held:Bool} {v:Value} {d:DataW H} {p:List MemPlace} (hval:Value.okWide Tryz.prog W .any b0 22 v) (hd:DataW.Trod enc Tryz.prog W base spare held 22 v d p) :
    ∃ c0 c1 c2 c3 c4:Int,v=.agg #[.int .i64 c0,.int .i64 c1,.int .i64 c2,.int .i64 c3,.int .i64 c4]:=by
  simp only [Value.okWide,Tryz.underlying22] at hval
  obtain ⟨cs,rfl,hsz,_⟩:=hval
  have hcN:Tryz.prog.cellsOf 22=5:=by kernel_rfl
  have hc1:Tryz.prog.cellsOf 3=1:=by kernel_rfl
  obtain ⟨fuel,hf⟩:=hd
  obtain ⟨xs,m,_,_,hl,hx,hg⟩:=DataW.trod_array Tryz.underlying22 hf
  have hcs:(Value.agg cs).cells=cs:=rfl
  rw [hcs,hcN] at hl
  rw [hcs,hc1] at hg
  have key:∀ i,i<5→∃ n:Int,cs.toList[i]?=some (.int .i64 n):=fun i hi=>by
    have h:=hg i hi
    rw [List.getElem?_eq_getElem (by omega:i<xs.length)] at h
    obtain ⟨n,e,_,_⟩:=DataW.trod_int Tryz.underlying3 h
    refine ⟨n,?_⟩
    have e2:=congrArg (fun l:List Value=>l[0]?) e
    simpa using e2
  obtain ⟨c0,h0⟩:=key 0 (by omega)
  obtain ⟨c1,h1⟩:=key 1 (by omega)
  obtain ⟨c2,h2⟩:=key 2 (by omega)
  obtain ⟨c3,h3⟩:=key 3 (by omega)
  obtain ⟨c4,h4⟩:=key 4 (by omega)
  refine ⟨c0,c1,c2,c3,c4,?_⟩
  have hl5:cs.toList=[.int .i64 c0,.int .i64 c1,.int .i64 c2,.int .i64 c3,.int .i64 c4]:=by
    apply List.ext_getElem?
    intro i
    rcases i with _|_|_|_|_|i
    · exact h0
    · exact h1
    · exact h2
    · exact h3
    · exact h4
    · rw [List.getElem?_eq_none (by omega),List.getElem?_eq_none (by simp)]
  congr 1
  rw [← Array.toArray_toList (xs:=cs),hl5]
theorem zeroDo (w:World):(zeroValue 40).run Tryz.prog w=.ok (.agg #[.string ByteArray.empty,.int .u8 0,.int .i64 0,.int .i64 0,.int .i64 0,.int .i64 0,.int .i64 0,.int .i64 0,.int .i64 0,.int .i64 0,.int .i64 0,.int .u32 0]) w:=by kernel_rfl
theorem sizeDo:(Tryz.prog.info? 40).map (·.size)=some 12:=by kernel_rfl
def doA (a:Do):Array Value:=#[.string a.kind,.int .u8 a.a.kind,.int .i64 a.a.client,.int .i64 a.a.seq,.int .i64 a.a.item,.int .i64 a.a.side,.int .i64 a.a.price,.int .i64 a.a.qty,.int .i64 a.a.id,.int .i64 a.client,.int .i64 a.item,.int .u32 a.seed]
end Go.Proofs.YtmbboflakfokhaaGreatDoor

/- Slices of lots compared. -/
set_option linter.unusedSimpArgs false
set_option linter.unusedVariables false
namespace Go.Proofs.YtmbboflakfokhaaGreatDoor
open Go.RowKit
theorem neLot_self (x:Lot) (w:World):(binOp .neq 44 (.agg #[.int .i64 x.id,.int .i64 x.owner,.int .i64 x.side,.int .i64 x.price,.int .i64 x.qty]) (.agg #[.int .i64 x.id,.int .i64 x.owner,.int .i64 x.side,.int .i64 x.price,.int .i64 x.qty])).run Tryz.prog w=.ok (.bool false) w:=by
  have hS:Tryz.prog.underlying 44=some (.struct (Tryz.prog.fieldsOf 44)):=by kernel_rfl
  have hp:Tryz.prog.stoodInHeld 44=false:=by kernel_rfl
  rw [run_neq_struct,show (10000:Nat)=9999+1 from rfl,run_equalIn_agg w 9999 _ _ _ hS hp]
  simp only [Program.fieldsOf,Tryz.underlying44]
  go_simp
set_option maxRecDepth 100000 in
theorem sameLotsOf (ao bo:Option Addr) (c1 c2:Nat) (l:List Lot) (w:World) (h1:LotsAt w ao l.length l) (h2:LotsAt w bo l.length l) (hz:l.length≤1000) :
    Calls Tryz.prog 13 #[.slice ao l.length c1,.slice bo l.length c2] w fun e w'=>e=.returned (.bool true)∧Ex w w':=by
  have H1:=Lib.hid h1.2.2.2
  have H2:=Lib.hid h2.2.2.2
  clear h1 h2
  go_enter Tryz.func13,Tryz.ntmps13
  go_wp2_with fail
  go_loopw [5] (fun i wr=>∃ (k:Nat),k≤l.length∧i=.int .i64 (k:Int)∧Ex w wr) (fun i _=>l.length - (intOf i).toNat)
  case atStart=>exact ⟨0,Nat.zero_le _,rfl,Ex.refl _⟩
  case round =>
    obtain ⟨k,hk,rfl,l1,d1,rfl⟩:=hrel
    by_cases hlt:k<l.length
    · obtain ⟨b1,o1,rfl,hb1,hc1⟩:=H1.out (by omega)
      obtain ⟨b2,o2,rfl,hb2,hc2⟩:=H2.out (by omega)
      have a0:=hc1 k hlt 0 (by omega)
      have a1:=hc1 k hlt 1 (by omega)
      have a2:=hc1 k hlt 2 (by omega)
      have a3:=hc1 k hlt 3 (by omega)
      have a4:=hc1 k hlt 4 (by omega)
      have e0:=hc2 k hlt 0 (by omega)
      have e1:=hc2 k hlt 1 (by omega)
      have e2:=hc2 k hlt 2 (by omega)
      have e3:=hc2 k hlt 3 (by omega)
      have e4:=hc2 k hlt 4 (by omega)
      simp only [Lot.cells,List.getElem?_cons_zero,List.getElem?_cons_succ,Nat.add_zero] at a0 a1 a2 a3 a4 e0 e1 e2 e3 e4
      generalize l[k]=x at *
      have ez:=fun w=>neLot_self x w
      clear hc1 hc2
      go_wp2_with fail
      go_quiet (fail)
      all_goals go_wp2
      all_goals
        go_roundw
        case measure=>simp [intOf];omega
        case rel=>exact ⟨k+1,by omega,by go_num,(by repeat (first|exact Ex.refl _|refine Ex.alloc ?_ _|refine Ex.ext ?_ _ _|refine Ex.drew ?_|refine Ex.drewN ?_ _))⟩
    · obtain rfl:k=l.length:=by omega
      go_wp2
      all_goals go_ret
      all_goals exact ⟨rfl,(by repeat (first|exact Ex.refl _|refine Ex.alloc ?_ _|refine Ex.ext ?_ _ _|refine Ex.drew ?_|refine Ex.drewN ?_ _))⟩
end Go.Proofs.YtmbboflakfokhaaGreatDoor

/- The statements' sameHas, at one and the same. -/
set_option linter.unusedSimpArgs false
set_option linter.unusedVariables false
namespace Go.Proofs.YtmbboflakfokhaaGreatDoor
open Go.RowKit
theorem eqTri3 (x y z:Int) (w:World):(binOp .eql 64 (.agg #[.int .i64 x,.int .i64 y,.int .i64 z]) (.agg #[.int .i64 x,.int .i64 y,.int .i64 z])).run Tryz.prog w=.ok (.bool true) w:=by
  have h:=equalInTri 9998 x y z x y z w
  rw [run_eql_struct,h]
  simp
set_option maxRecDepth 100000 in
theorem sameHas_same (P:Pu) (c:Nat) (w:World):Calls Tryz.prog 57 #[hasV P c,hasV P c] w fun e w'=>e=.returned (.bool true)∧Ex w w':=by
  have h1:=fun w=>eqTri3 (P c 2) (P c 3) (P c 4) w
  have h2:=fun w=>eqTri3 (P c 5) (P c 6) (P c 7) w
  go_enter Tryz.func57,Tryz.ntmps57
  go_wp2
  all_goals go_ret
  all_goals exact ⟨rfl,(by repeat (first|exact Ex.refl _|refine Ex.alloc ?_ _|refine Ex.ext ?_ _ _|refine Ex.drew ?_|refine Ex.drewN ?_ _))⟩
end Go.Proofs.YtmbboflakfokhaaGreatDoor
