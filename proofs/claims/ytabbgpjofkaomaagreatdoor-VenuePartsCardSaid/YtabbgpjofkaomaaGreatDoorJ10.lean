import Derived.Test.YtabbgpjofkaomaaGreatDoorJ9
import Derived.Laws.AppendOwnNone
import Derived.Laws.OwnMore
set_option linter.unusedSimpArgs false
set_option linter.unusedVariables false
/- What curve's Demand and Supply compute. -/
namespace Go.Proofs.YtabbgpjofkaomaaGreatDoor
open Go.RowKit
theorem CheckV.ok {E:Nat→Addr} {w w':World} {l:List Lot} {v:Value} (h:LotsOk l) (hv:CheckV E w w' l v):v=.nilIface:=by
 rcases hv with ⟨h1,_⟩|⟨_,h1⟩|⟨k,b,_,hk,_,hn,_⟩
 ·exact absurd h.1 (by omega)
 ·exact h1
 ·exact absurd (h.2 k hk) hn
theorem CheckV.bad {E:Nat→Addr} {w w':World} {l:List Lot} {v:Value} (h:¬ LotsOk l) (hv:CheckV E w w' l v):∃ u x,v=.iface u x:=by
 rcases hv with ⟨h1,e⟩|⟨h1,_⟩|⟨k,b,_,hk,_,hn,e,_⟩
 ·exact ⟨_,_,e.trans (errV_pos E 8 (by decide))⟩
 ·exact absurd h1 h
 ·exact ⟨_,_,e⟩
def isDem (p:Int) (x:Lot):Bool:=x.side==0 && decide (x.price ≥ p)
def isSup (p:Int) (x:Lot):Bool:=x.side==1 && decide (x.price≤p)
def sumOf (is:Lot→Bool):List Lot→Int
 | []=>0
 | x::l=>(if is x then x.qty else 0)+sumOf is l
theorem sumOf_append (is:Lot→Bool) (a b:List Lot):sumOf is (a++b)=sumOf is a+sumOf is b:=by
 induction a with
 | nil=>simp [sumOf]
 | cons x a ih=>simp only [List.cons_append,sumOf,ih];omega
theorem sumOf_step (is:Lot→Bool) {l:List Lot} {k:Nat} {x:Lot} (h:l[k]?=some x):sumOf is (l.take (k+1))=sumOf is (l.take k)+if is x then x.qty else 0:=by
 rw [List.take_add_one,h,sumOf_append];simp [sumOf]
open Classical in
noncomputable def curveSum (is:Lot→Bool) (l:List Lot):Int:=if LotsOk l then sumOf is l else 0
theorem curveSum_ok {is:Lot→Bool} {l:List Lot} (h:LotsOk l):curveSum is l=sumOf is l:=if_pos h
theorem curveSum_not (is:Lot→Bool) {l:List Lot} (h:¬ LotsOk l):curveSum is l=0:=if_neg h
theorem LotsOk.ok {l:List Lot} (h:LotsOk l) {k:Nat} {x:Lot} (hx:l[k]?=some x):x.ok=true:=by
 obtain ⟨hk,_⟩:=List.getElem?_eq_some_iff.1 hx
 have:=h.2 k hk
 rw [codeAt_at hx] at this
 cases e:x.ok
 ·simp [e] at this
 ·rfl
theorem Lot.ok_iff {x:Lot}:x.ok=true↔(1≤x.id∧x.id≤1073741824)∧(0≤x.owner∧x.owner≤5)∧(0≤x.side∧x.side≤1)∧(1≤x.price∧x.price≤1000)∧(1≤x.qty∧x.qty≤1000):=by
 simp only [Lot.ok,Bool.and_eq_true,inR_iff,and_assoc]
theorem LotsOk.qty {l:List Lot} (h:LotsOk l) {k:Nat} {x:Lot} (hx:l[k]?=some x):1≤x.qty∧x.qty≤1000:=(Lot.ok_iff.1 (h.ok hx)).2.2.2.2
theorem sumOf_bounds (is:Lot→Bool):∀ (l:List Lot),(∀ x∈l,x.ok=true)→0≤sumOf is l∧sumOf is l≤1000*l.length
 | [],_=>by simp [sumOf]
 | x::l,h=>by
  have hx:=(Lot.ok_iff.1 (h x (by simp))).2.2.2.2
  have ih:=sumOf_bounds is l fun y hy=>h y (by simp [hy])
  simp only [sumOf,List.length_cons]
  split<;>omega
theorem LotsOk.mem {l:List Lot} (h:LotsOk l):∀ x∈l,x.ok=true:=fun x hx=>by
 obtain ⟨k,hk,rfl⟩:=List.getElem_of_mem hx
 exact h.ok (List.getElem?_eq_getElem hk)
theorem LotsOk.sum_bounds {l:List Lot} (h:LotsOk l) (is:Lot→Bool) (k:Nat):0≤sumOf is (l.take k)∧sumOf is (l.take k)≤120000:=by
 have:=sumOf_bounds is (l.take k) fun x hx=>h.mem x (List.mem_of_mem_take hx)
 have h1:=h.1
 have:(l.take k).length≤120:=by simp;omega
 omega
set_option maxRecDepth 100000 in
theorem dem1_any (y:Lot) (p:Int) (pb:Nat) (w:World) (hx:w.cell? ⟨pb,0,none⟩=some (.int .i64 p)) :
  Calls Tryz.prog 219 #[y.val,.pointer (some ⟨pb,0,none⟩)] w fun e w'=>e=.returned (.bool (isDem p y))∧Ex w w':=by
 have hb:=lt_of_cell hx
 by_cases h:y.side=0
 ·go_enter Tryz.func219,Tryz.ntmps219
  go_wp2
  all_goals go_ret
  all_goals exact ⟨ret_bool (by simp [isDem,h]),(by repeat (first|exact Ex.refl _|refine Ex.alloc ?_ _|refine Ex.ext ?_ _ _|refine Ex.drew ?_|refine Ex.drewN ?_ _))⟩
 ·go_enter Tryz.func219,Tryz.ntmps219
  go_wp2
  all_goals go_ret
  all_goals exact ⟨ret_bool (by simp [isDem,h]),(by repeat (first|exact Ex.refl _|refine Ex.alloc ?_ _|refine Ex.ext ?_ _ _|refine Ex.drew ?_|refine Ex.drewN ?_ _))⟩
set_option maxRecDepth 100000 in
theorem sup1_any (y:Lot) (p:Int) (pb:Nat) (w:World) (hx:w.cell? ⟨pb,0,none⟩=some (.int .i64 p)) :
  Calls Tryz.prog 220 #[y.val,.pointer (some ⟨pb,0,none⟩)] w fun e w'=>e=.returned (.bool (isSup p y))∧Ex w w':=by
 have hb:=lt_of_cell hx
 by_cases h:y.side=1
 ·go_enter Tryz.func220,Tryz.ntmps220
  go_wp2
  all_goals go_ret
  all_goals exact ⟨ret_bool (by simp [isSup,h]),(by repeat (first|exact Ex.refl _|refine Ex.alloc ?_ _|refine Ex.ext ?_ _ _|refine Ex.drew ?_|refine Ex.drewN ?_ _))⟩
 ·go_enter Tryz.func220,Tryz.ntmps220
  go_wp2
  all_goals go_ret
  all_goals exact ⟨ret_bool (by simp [isSup,h]),(by repeat (first|exact Ex.refl _|refine Ex.alloc ?_ _|refine Ex.ext ?_ _ _|refine Ex.drew ?_|refine Ex.drewN ?_ _))⟩
set_option maxRecDepth 100000 in
set_option maxHeartbeats 2000000 in
theorem sumDem_any (ao:Option Addr) (len cap:Nat) (l:List Lot) (p:Int) (pb:Nat) (E:Nat→Addr) (w:World) (hcap:len≤cap) (hE:Errs E [2,7,8] w) (hl:LotsAt w ao len l) (hx:w.cell? ⟨pb,0,none⟩=some (.int .i64 p)) :
  Calls Tryz.prog 218 #[.slice ao len cap,.func (.func 219) #[] #[.pointer (some ⟨pb,0,none⟩)]] w fun e w'=>e=.returned (.int .i64 (curveSum (isDem p) l))∧Ex w w':=by
 have HC:=Lib.hid (check_any ao len cap l E w hcap hE hl)
 by_cases hok:LotsOk l
 ·have hlen:=hl.1
  have hmx:=hl.2.1
  have hpb:=lt_of_cell hx
  have h120:=hok.1
  have HL:=Lib.hid hlen
  have HLA:=Lib.hid hl
  have HOK:=Lib.hid hok
  clear hl hlen hE hok
  go_enter Tryz.func218,Tryz.ntmps218
  go_wp2_with (go_at_call 181;refine HC.out.mono ?_;rintro e w1 ⟨⟨v,rfl,hv⟩,l1,d1,rfl⟩;have hvn:=CheckV.ok HOK.out hv;clear hv;subst hvn)
  go_loopw [5,13] (fun n i wr=>∃ (k:Nat),k≤len∧i=.int .i64 k∧n=.int .i64 (sumOf (isDem p) (l.take k))∧Ex w wr) (fun _ i _=>len - (intOf i).toNat)
  case atStart=>exact ⟨0,Nat.zero_le _,rfl,(by simp [sumOf]),(by repeat (first|exact Ex.refl _|refine Ex.alloc ?_ _|refine Ex.ext ?_ _ _|refine Ex.drew ?_|refine Ex.drewN ?_ _))⟩
  case round =>
   obtain ⟨k,hk,rfl,rfl,l2,d2,rfl⟩:=hrel
   by_cases hlt:k<len
   ·have hl:=HLA.out
    obtain ⟨b,off,rfl,hbs,hz⟩:=hl.2.2.2 (by omega)
    have hzk:=hz k (by rw [HL.out];exact hlt)
    clear hz
    have hg:∃ a,l[k]?=some a∧a=l[k]'(by rw [HL.out];exact hlt):=⟨_,List.getElem?_eq_getElem (by rw [HL.out];exact hlt),rfl⟩
    obtain ⟨a,ha0,ha⟩:=hg
    rw [← ha] at hzk
    clear ha
    have hstep:=sumOf_step (isDem p) ha0
    obtain ⟨hb0,hb1⟩:=HOK.out.sum_bounds (isDem p) k
    obtain ⟨hq0,hq1⟩:=HOK.out.qty ha0
    clear ha0
    have a0:=hzk 0 (by omega)
    have a1:=hzk 1 (by omega)
    have a2:=hzk 2 (by omega)
    have a3:=hzk 3 (by omega)
    have a4:=hzk 4 (by omega)
    simp only [Lot.cells,List.getElem?_cons_zero,List.getElem?_cons_succ,Nat.add_zero] at a0 a1 a2 a3 a4
    clear hzk hl
    have HS:=Lib.hid hstep
    clear hstep
    generalize sumOf (isDem p) (l.take k)=n at *
    go_wp2_with (go_at_call 219;refine (dem1_any a p pb _ (by simp [go_sem,↓IntWalk.iteOmega, *])).mono ?_;rintro e w1 ⟨rfl,l3,d3,rfl⟩)
    all_goals
     go_roundw
     case measure=>simp [intOf];omega
     case rel=>exact ⟨k+1,by omega,by go_num,by first|(rw [HS.out,if_pos (by assumption)];done)|(rw [HS.out,if_neg (by simp [*]),Int.add_zero];done),(by repeat (first|exact Ex.refl _|refine Ex.alloc ?_ _|refine Ex.ext ?_ _ _|refine Ex.drew ?_|refine Ex.drewN ?_ _))⟩
   ·go_wp2
    go_ret
    exact ⟨ret_int (by rw [curveSum_ok HOK.out,List.take_of_length_le (by have:=HL.out;omega)]),(by repeat (first|exact Ex.refl _|refine Ex.alloc ?_ _|refine Ex.ext ?_ _ _|refine Ex.drew ?_|refine Ex.drewN ?_ _))⟩
 ·have h0:=curveSum_not (isDem p) hok
  rw [h0]
  have HOK:=Lib.hid hok
  clear hl hE hok h0
  go_enter Tryz.func218,Tryz.ntmps218
  go_wp2_with (go_at_call 181;refine HC.out.mono ?_;rintro e w1 ⟨⟨v,rfl,hv⟩,l1,d1,rfl⟩;obtain ⟨u,x,rfl⟩:=CheckV.bad HOK.out hv;clear hv)
  all_goals go_ret
  all_goals exact ⟨rfl,(by repeat (first|exact Ex.refl _|refine Ex.alloc ?_ _|refine Ex.ext ?_ _ _|refine Ex.drew ?_|refine Ex.drewN ?_ _))⟩
set_option maxRecDepth 100000 in
set_option maxHeartbeats 2000000 in
theorem sumSup_any (ao:Option Addr) (len cap:Nat) (l:List Lot) (p:Int) (pb:Nat) (E:Nat→Addr) (w:World) (hcap:len≤cap) (hE:Errs E [2,7,8] w) (hl:LotsAt w ao len l) (hx:w.cell? ⟨pb,0,none⟩=some (.int .i64 p)) :
  Calls Tryz.prog 218 #[.slice ao len cap,.func (.func 220) #[] #[.pointer (some ⟨pb,0,none⟩)]] w fun e w'=>e=.returned (.int .i64 (curveSum (isSup p) l))∧Ex w w':=by
 have HC:=Lib.hid (check_any ao len cap l E w hcap hE hl)
 by_cases hok:LotsOk l
 ·have hlen:=hl.1
  have hmx:=hl.2.1
  have hpb:=lt_of_cell hx
  have h120:=hok.1
  have HL:=Lib.hid hlen
  have HLA:=Lib.hid hl
  have HOK:=Lib.hid hok
  clear hl hlen hE hok
  go_enter Tryz.func218,Tryz.ntmps218
  go_wp2_with (go_at_call 181;refine HC.out.mono ?_;rintro e w1 ⟨⟨v,rfl,hv⟩,l1,d1,rfl⟩;have hvn:=CheckV.ok HOK.out hv;clear hv;subst hvn)
  go_loopw [5,13] (fun n i wr=>∃ (k:Nat),k≤len∧i=.int .i64 k∧n=.int .i64 (sumOf (isSup p) (l.take k))∧Ex w wr) (fun _ i _=>len - (intOf i).toNat)
  case atStart=>exact ⟨0,Nat.zero_le _,rfl,(by simp [sumOf]),(by repeat (first|exact Ex.refl _|refine Ex.alloc ?_ _|refine Ex.ext ?_ _ _|refine Ex.drew ?_|refine Ex.drewN ?_ _))⟩
  case round =>
   obtain ⟨k,hk,rfl,rfl,l2,d2,rfl⟩:=hrel
   by_cases hlt:k<len
   ·have hl:=HLA.out
    obtain ⟨b,off,rfl,hbs,hz⟩:=hl.2.2.2 (by omega)
    have hzk:=hz k (by rw [HL.out];exact hlt)
    clear hz
    have hg:∃ a,l[k]?=some a∧a=l[k]'(by rw [HL.out];exact hlt):=⟨_,List.getElem?_eq_getElem (by rw [HL.out];exact hlt),rfl⟩
    obtain ⟨a,ha0,ha⟩:=hg
    rw [← ha] at hzk
    clear ha
    have hstep:=sumOf_step (isSup p) ha0
    obtain ⟨hb0,hb1⟩:=HOK.out.sum_bounds (isSup p) k
    obtain ⟨hq0,hq1⟩:=HOK.out.qty ha0
    clear ha0
    have a0:=hzk 0 (by omega)
    have a1:=hzk 1 (by omega)
    have a2:=hzk 2 (by omega)
    have a3:=hzk 3 (by omega)
    have a4:=hzk 4 (by omega)
    simp only [Lot.cells,List.getElem?_cons_zero,List.getElem?_cons_succ,Nat.add_zero] at a0 a1 a2 a3 a4
    clear hzk hl
    have HS:=Lib.hid hstep
    clear hstep
    generalize sumOf (isSup p) (l.take k)=n at *
    go_wp2_with (go_at_call 220;refine (sup1_any a p pb _ (by simp [go_sem,↓IntWalk.iteOmega, *])).mono ?_;rintro e w1 ⟨rfl,l3,d3,rfl⟩)
    all_goals
     go_roundw
     case measure=>simp [intOf];omega
     case rel=>exact ⟨k+1,by omega,by go_num,by first|(rw [HS.out,if_pos (by assumption)];done)|(rw [HS.out,if_neg (by simp [*]),Int.add_zero];done),(by repeat (first|exact Ex.refl _|refine Ex.alloc ?_ _|refine Ex.ext ?_ _ _|refine Ex.drew ?_|refine Ex.drewN ?_ _))⟩
   ·go_wp2
    go_ret
    exact ⟨ret_int (by rw [curveSum_ok HOK.out,List.take_of_length_le (by have:=HL.out;omega)]),(by repeat (first|exact Ex.refl _|refine Ex.alloc ?_ _|refine Ex.ext ?_ _ _|refine Ex.drew ?_|refine Ex.drewN ?_ _))⟩
 ·have h0:=curveSum_not (isSup p) hok
  rw [h0]
  have HOK:=Lib.hid hok
  clear hl hE hok h0
  go_enter Tryz.func218,Tryz.ntmps218
  go_wp2_with (go_at_call 181;refine HC.out.mono ?_;rintro e w1 ⟨⟨v,rfl,hv⟩,l1,d1,rfl⟩;obtain ⟨u,x,rfl⟩:=CheckV.bad HOK.out hv;clear hv)
  all_goals go_ret
  all_goals exact ⟨rfl,(by repeat (first|exact Ex.refl _|refine Ex.alloc ?_ _|refine Ex.ext ?_ _ _|refine Ex.drew ?_|refine Ex.drewN ?_ _))⟩
set_option maxRecDepth 100000 in
theorem demand_any (ao:Option Addr) (len cap:Nat) (l:List Lot) (p:Int) (E:Nat→Addr) (w:World) (hcap:len≤cap) (hE:Errs E [2,7,8] w) (hl:LotsAt w ao len l) :
  Calls Tryz.prog 208 #[.slice ao len cap,.int .i64 p] w fun e w'=>e=.returned (.int .i64 (curveSum (isDem p) l))∧Ex w w':=by
 have HL:=Lib.hid hl
 clear hl
 go_enter Tryz.func208,Tryz.ntmps208
 go_wp2_with (go_at_call 218;refine (sumDem_any _ _ _ l p _ E _ hcap (by exact Errs.sub (hE.ex (by repeat (first|exact Ex.refl _|refine Ex.alloc ?_ _|refine Ex.ext ?_ _ _|refine Ex.drew ?_|refine Ex.drewN ?_ _))) (by decide)) (HL.out.ex (by repeat (first|exact Ex.refl _|refine Ex.alloc ?_ _|refine Ex.ext ?_ _ _|refine Ex.drew ?_|refine Ex.drewN ?_ _))) (by simp [go_sem,↓IntWalk.iteOmega])).mono ?_;rintro e w1 ⟨rfl,l3,d3,rfl⟩)
 all_goals go_ret
 all_goals exact ⟨rfl,(by repeat (first|exact Ex.refl _|refine Ex.alloc ?_ _|refine Ex.ext ?_ _ _|refine Ex.drew ?_|refine Ex.drewN ?_ _))⟩
set_option maxRecDepth 100000 in
theorem supply_any (ao:Option Addr) (len cap:Nat) (l:List Lot) (p:Int) (E:Nat→Addr) (w:World) (hcap:len≤cap) (hE:Errs E [2,7,8] w) (hl:LotsAt w ao len l) :
  Calls Tryz.prog 209 #[.slice ao len cap,.int .i64 p] w fun e w'=>e=.returned (.int .i64 (curveSum (isSup p) l))∧Ex w w':=by
 have HL:=Lib.hid hl
 clear hl
 go_enter Tryz.func209,Tryz.ntmps209
 go_wp2_with (go_at_call 218;refine (sumSup_any _ _ _ l p _ E _ hcap (by exact Errs.sub (hE.ex (by repeat (first|exact Ex.refl _|refine Ex.alloc ?_ _|refine Ex.ext ?_ _ _|refine Ex.drew ?_|refine Ex.drewN ?_ _))) (by decide)) (HL.out.ex (by repeat (first|exact Ex.refl _|refine Ex.alloc ?_ _|refine Ex.ext ?_ _ _|refine Ex.drew ?_|refine Ex.drewN ?_ _))) (by simp [go_sem,↓IntWalk.iteOmega])).mono ?_;rintro e w1 ⟨rfl,l3,d3,rfl⟩)
 all_goals go_ret
 all_goals exact ⟨rfl,(by repeat (first|exact Ex.refl _|refine Ex.alloc ?_ _|refine Ex.ext ?_ _ _|refine Ex.drew ?_|refine Ex.drewN ?_ _))⟩
end Go.Proofs.YtabbgpjofkaomaaGreatDoor

/- Plain facts: the levels of a side. -/
namespace Go.Proofs.YtabbgpjofkaomaaGreatDoor
open Go.RowKit
def mayT (side price:Int) (x:Lot):Bool:=x.side==side && !(side==0 && decide (x.price<price)) && !(side==1 && decide (x.price > price))
def lotsAtP (side price p:Int) (l:List Lot):List Lot:=l.filter fun x=>mayT side price x && x.price==p
theorem lotsAtP_step (side price p:Int) {l:List Lot} {k:Nat} {x:Lot} (h:l[k]?=some x):lotsAtP side price p (l.take (k+1))=lotsAtP side price p (l.take k)++(if mayT side price x && x.price==p then [x] else []):=by
 rw [List.take_add_one,h,lotsAtP,List.filter_append]
 congr 1
 simp only [Option.toList_some,List.filter_cons,List.filter_nil]
theorem lotsAtP_skip (side price p:Int) {l:List Lot} {k:Nat} {x:Lot} (h:l[k]?=some x) (hm:mayT side price x=false):lotsAtP side price p (l.take (k+1))=lotsAtP side price p (l.take k):=by
 rw [lotsAtP_step _ _ _ h,hm];simp
theorem lotsAtP_len (side price p:Int) (l:List Lot):(lotsAtP side price p l).length≤l.length:=List.length_filter_le _ _
theorem lotsAtP_mem {side price p:Int} {l:List Lot} {x:Lot} (h:x∈lotsAtP side price p l):x∈l∧mayT side price x=true∧x.price=p:=by
 simp only [lotsAtP,List.mem_filter,Bool.and_eq_true,beq_iff_eq] at h
 exact ⟨h.1,h.2.1,h.2.2⟩
end Go.Proofs.YtabbgpjofkaomaaGreatDoor

/- What OwnLots makes: a copy in new memory. -/
namespace Go.Proofs.YtabbgpjofkaomaaGreatDoor
open Go.RowKit
theorem Below.grownBy {w w':World} (h:Below w.heap.size w w'):w.grownBy w' none:=by
 obtain ⟨a,b,c,d,e⟩:=h
 exact ⟨a,b,c,d,fun k hk _=>e k hk⟩
theorem flat_at:∀ (l:List Lot) (k i:Nat) (hk:k<l.length),i<5→(l.flatMap Lot.cells)[k*5+i]?=l[k].cells[i]?
 | x::l,0,i,_,hi=>by
  rw [List.flatMap_cons,List.getElem?_append_left (by simp only [Lot.cells,List.length_cons,List.length_nil];omega)]
  simp
 | x::l,k+1,i,hk,hi=>by
  have e:x.cells.length=5:=rfl
  rw [List.flatMap_cons,List.getElem?_append_right (by rw [e];omega),e,show (k+1)*5+i - 5=k*5+i by omega]
  simpa using flat_at l k i (by simpa using hk) hi
theorem lots_of_owned {w:World} {base:Nat} {e:TypeId} {v:Value} {n:Nat} {l:List Lot} (hwf:∀ a∈l,a.wf) (hn:n≤9223372036854775807) (hl:l.length=n) (h:w.ownsRow base e 5 v n (l.flatMap Lot.cells)) :
  ∃ ao cap,v=.slice ao n cap∧(n≤cap∧cap≤9223372036854775807∧(ao=none→cap=0))∧LotsAt w ao n l:=by
 obtain ⟨h1,⟨rfl,rfl⟩|⟨g,cap,cur,rfl,hb,hg,hc,hm,hs,ht⟩⟩:=h
 ·exact ⟨none,0,rfl,⟨by omega,by omega,fun _=>rfl⟩,hl,by omega,hwf,fun h=>by omega⟩
 ·refine ⟨_,cap,rfl,⟨hc,(by unfold maxLen at hm;omega),fun h=>by cases h⟩,hl,hn,hwf,fun h0=>⟨g,0,rfl,?_,fun k hk j hj=>?_⟩⟩
  ·rcases Nat.lt_or_ge g w.heap.size with h|h
   ·exact h
   ·rw [Array.getElem?_eq_none h] at hg;cases hg
  ·rw [← flat_at l k j hk hj,← ht,List.getElem?_take_of_lt (by omega),Nat.zero_add]
   simp [World.cell?,hg]
end Go.Proofs.YtabbgpjofkaomaaGreatDoor
