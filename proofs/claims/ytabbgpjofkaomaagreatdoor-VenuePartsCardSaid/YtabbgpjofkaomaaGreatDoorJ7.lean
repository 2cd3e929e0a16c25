import Derived.Test.YtabbgpjofkaomaaGreatDoorHold
import Derived.Test.YtabbgpjofkaomaaGreatDoorJ5
import Derived.Test.YtabbgpjofkaomaaGreatDoorJ4
import Derived.Test.YtabbgpjofkaomaaGreatDoorJ3
import Derived.Laws.Rows
set_option linter.unusedSimpArgs false
set_option linter.unusedVariables false
/- What Hold and Free of package purse compute, whatever they are given. -/
namespace Go.Proofs.YtabbgpjofkaomaaGreatDoor
open Go.RowKit
section
variable {own:Nat→Nat} {i:Nat} {w:World} {p:Nat} {P:Pu}
theorem hold_any (h:PurseAt own i w p P) (item:Int) (x:Lot) (E:Nat→Addr) (hE:Errs E [2,10] w) :
  Calls Tryz.prog 150 #[.pointer (some ⟨p,0,none⟩),.int .i64 item,x.val] w fun e w'=>e=.returned (errV E (holdE P item x))∧ObjTo own i i w (fun o w'=>PurseAt o i w' p (holdP P item x)) w':=by
 cases hr:rightB item x
 ·have e1:holdE P item x=2:=by simp [holdE,hr]
  have e2:holdP P item x=P:=by unfold holdP;rw [if_neg (by rw [e1];decide)]
  rw [e1,e2]
  exact hold_bad h item x E hE hr
 ·have hr':=hr
  simp only [rightB,Bool.and_eq_true] at hr'
  obtain ⟨i0,i2⟩:=inR_iff.1 hr'.1
  obtain ⟨_,ho,hsd,_,_⟩:=Lot.okC hr'.2
  obtain ⟨it,rfl⟩:=Int.eq_ofNat_of_zero_le i0
  have hoc:x.owner=((x.owner.toNat:Nat):Int):=by omega
  by_cases hs:x.side=0
  ·by_cases hok:P x.owner.toNat 0 - P x.owner.toNat 1<x.price*x.qty
   ·have e1:holdE P (it:Int) x=10:=by simp [holdE,hr,hs,hok]
    have e2:holdP P (it:Int) x=P:=by unfold holdP;rw [if_neg (by rw [e1];decide)]
    rw [e1,e2]
    exact hold_buy_poor h x.owner.toNat it (by omega) (by omega) x hoc E hE hr hs hok
   ·have e1:holdE P (it:Int) x=0:=by simp [holdE,hr,hs,hok]
    have e2:holdP P (it:Int) x=P.set x.owner.toNat 1 (P x.owner.toNat 1+x.price*x.qty):=by unfold holdP;rw [if_pos e1,if_pos hs]
    rw [e1,e2,errV_zero]
    exact hold_buy h x.owner.toNat it (by omega) (by omega) x hoc E hE hr hs hok
  ·have hs1:x.side=1:=by omega
   by_cases hok:P x.owner.toNat (2+it) - P x.owner.toNat (5+it)<x.qty
   ·have e1:holdE P (it:Int) x=10:=by simp [holdE,hr,hs1,hok]
    have e2:holdP P (it:Int) x=P:=by unfold holdP;rw [if_neg (by rw [e1];decide)]
    rw [e1,e2]
    exact hold_sell_poor h x.owner.toNat it (by omega) (by omega) x hoc E hE hr hs1 hok
   ·have e1:holdE P (it:Int) x=0:=by simp [holdE,hr,hs1,hok]
    have e2:holdP P (it:Int) x=P.set x.owner.toNat (5+it) (P x.owner.toNat (5+it)+x.qty):=by unfold holdP;rw [if_pos e1,if_neg hs];rfl
    rw [e1,e2,errV_zero]
    exact hold_sell h x.owner.toNat it (by omega) (by omega) x hoc E hE hr hs1 hok
theorem free_any (h:PurseAt own i w p P) (item:Int) (x:Lot) (E:Nat→Addr) (hE:Errs E [2,10] w) :
  Calls Tryz.prog 147 #[.pointer (some ⟨p,0,none⟩),.int .i64 item,x.val] w fun e w'=>e=.returned (errV E (freeE P item x))∧ObjTo own i i w (fun o w'=>PurseAt o i w' p (freeP P item x)) w':=by
 cases hr:rightB item x
 ·have e1:freeE P item x=2:=by simp [freeE,hr]
  have e2:freeP P item x=P:=by unfold freeP;rw [if_neg (by rw [e1];decide)]
  rw [e1,e2]
  exact free_bad h item x E hE hr
 ·have hr':=hr
  simp only [rightB,Bool.and_eq_true] at hr'
  obtain ⟨i0,i2⟩:=inR_iff.1 hr'.1
  obtain ⟨_,ho,hsd,_,_⟩:=Lot.okC hr'.2
  obtain ⟨it,rfl⟩:=Int.eq_ofNat_of_zero_le i0
  have hoc:x.owner=((x.owner.toNat:Nat):Int):=by omega
  by_cases hs:x.side=0
  ·by_cases hok:P x.owner.toNat 1<x.price*x.qty
   ·have e1:freeE P (it:Int) x=10:=by simp [freeE,hr,hs,hok]
    have e2:freeP P (it:Int) x=P:=by unfold freeP;rw [if_neg (by rw [e1];decide)]
    rw [e1,e2]
    exact free_buy_poor h x.owner.toNat it (by omega) (by omega) x hoc E hE hr hs hok
   ·have e1:freeE P (it:Int) x=0:=by simp [freeE,hr,hs,hok]
    have e2:freeP P (it:Int) x=P.set x.owner.toNat 1 (P x.owner.toNat 1 - x.price*x.qty):=by unfold freeP;rw [if_pos e1,if_pos hs]
    rw [e1,e2,errV_zero]
    exact free_buy h x.owner.toNat it (by omega) (by omega) x hoc E hE hr hs hok
  ·have hs1:x.side=1:=by omega
   by_cases hok:P x.owner.toNat (5+it)<x.qty
   ·have e1:freeE P (it:Int) x=10:=by simp [freeE,hr,hs1,hok]
    have e2:freeP P (it:Int) x=P:=by unfold freeP;rw [if_neg (by rw [e1];decide)]
    rw [e1,e2]
    exact free_sell_poor h x.owner.toNat it (by omega) (by omega) x hoc E hE hr hs1 hok
   ·have e1:freeE P (it:Int) x=0:=by simp [freeE,hr,hs1,hok]
    have e2:freeP P (it:Int) x=P.set x.owner.toNat (5+it) (P x.owner.toNat (5+it) - x.qty):=by unfold freeP;rw [if_pos e1,if_neg hs];rfl
    rw [e1,e2,errV_zero]
    exact free_sell h x.owner.toNat it (by omega) (by omega) x hoc E hE hr hs1 hok
end
end Go.Proofs.YtabbgpjofkaomaaGreatDoor

/- What trades, and what is held, leave of the sums of all purses. -/
namespace Go.Proofs.YtabbgpjofkaomaaGreatDoor
open Go.RowKit
def sumP (P:Pu) (j:Nat):Int:=P 0 j+P 1 j+P 2 j+P 3 j+P 4 j+P 5 j
theorem sumP_add (P:Pu) {c:Nat} (hc:c<6) (j:Nat) (d:Int) (k:Nat):sumP (P.set c j (P c j+d)) k=sumP P k+if k=j then d else 0:=by
 have h:c=0∨c=1∨c=2∨c=3∨c=4∨c=5:=by omega
 by_cases e:k=j
 ·subst e
  rcases h with rfl|rfl|rfl|rfl|rfl|rfl<;>simp [sumP,Pu.set]<;>omega
 ·rcases h with rfl|rfl|rfl|rfl|rfl|rfl<;>simp [sumP,Pu.set,e]
theorem sumP_sub (P:Pu) {c:Nat} (hc:c<6) (j:Nat) (d:Int) (k:Nat):sumP (P.set c j (P c j - d)) k=sumP P k - if k=j then d else 0:=by
 rw [Int.sub_eq_add_neg,sumP_add P hc j (-d) k]
 split<;>omega
def sumJ (k:Nat):Prop:=k≠1∧k<5
theorem hold_sum (P:Pu) (item:Int) (x:Lot) {k:Nat} (hk:sumJ k):sumP (holdP P item x) k=sumP P k:=by
 unfold holdP
 split
 ·rename_i he
  unfold holdE at he
  split at he
  ·rename_i hr
   simp only [rightB,Bool.and_eq_true] at hr
   obtain ⟨_,ho,_⟩:=Lot.okC hr.2
   split
   ·rw [sumP_add P (by omega),if_neg hk.1,Int.add_zero]
   ·rw [sumP_add P (by omega),if_neg (by have:=hk.2;omega),Int.add_zero]
  ·cases he
 ·rfl
theorem free_sum (P:Pu) (item:Int) (x:Lot) {k:Nat} (hk:sumJ k):sumP (freeP P item x) k=sumP P k:=by
 unfold freeP
 split
 ·rename_i he
  unfold freeE at he
  split at he
  ·rename_i hr
   simp only [rightB,Bool.and_eq_true] at hr
   obtain ⟨_,ho,_⟩:=Lot.okC hr.2
   split
   ·rw [sumP_sub P (by omega),if_neg hk.1,Int.sub_zero]
   ·rw [sumP_sub P (by omega),if_neg (by have:=hk.2;omega),Int.sub_zero]
  ·cases he
 ·rfl
theorem tradeF_sum (P:Pu) {bo so:Nat} (hb:bo<6) (hs:so<6) (it:Nat) (m1 m2 qty:Int) {k:Nat} (hk:sumJ k):sumP (tradeF P bo so it m1 m2 qty) k=sumP P k:=by
 have h1:=hk.1
 have h2:=hk.2
 unfold tradeF
 rw [sumP_add _ hs,sumP_add _ hb,sumP_sub _ hs,sumP_sub _ hs,sumP_sub _ hb,sumP_sub _ hb,if_neg h1,if_neg (show ¬ k=5+it by omega)]
 split<;>split<;>omega
end Go.Proofs.YtabbgpjofkaomaaGreatDoor

/- Plain facts: a floor of three books, three bands and a purse. What is held is what the lots that rest ask for; trades never fail. -/
namespace Go.Proofs.YtabbgpjofkaomaaGreatDoor
open Go.RowKit
def sumZ (f:Lot→Int):List Lot→Int
 | []=>0
 | x::l=>f x+sumZ f l
theorem sumZ_append (f:Lot→Int):∀ l m:List Lot,sumZ f (l++m)=sumZ f l+sumZ f m
 | [],m=>by simp [sumZ]
 | x::l,m=>by simp only [List.cons_append,sumZ,sumZ_append f l m];omega
theorem sumZ_erase (f:Lot→Int):∀ (l:List Lot) (k:Nat) (h:k<l.length),sumZ f (l.eraseIdx k)=sumZ f l - f l[k]
 | x::l,0,_=>by simp [sumZ];omega
 | x::l,k+1,h=>by
  have:=sumZ_erase f l k (by simpa using h)
  simp only [List.eraseIdx_cons_succ,sumZ,List.getElem_cons_succ]
  omega
theorem sumZ_set (f:Lot→Int):∀ (l:List Lot) (k:Nat) (h:k<l.length) (y:Lot),sumZ f (l.set k y)=sumZ f l - f l[k]+f y
 | x::l,0,_,y=>by simp [sumZ];omega
 | x::l,k+1,h,y=>by
  have:=sumZ_set f l k (by simpa using h) y
  simp only [List.set_cons_succ,sumZ,List.getElem_cons_succ]
  omega
theorem sumZ_nonneg {f:Lot→Int}:∀ {l:List Lot},(∀ x∈l,0≤f x)→0≤sumZ f l
 | [],_=>by simp [sumZ]
 | x::l,h=>by
  have:=sumZ_nonneg (l:=l) fun y hy=>h y (by simp [hy])
  have:=h x (by simp)
  simp only [sumZ];omega
theorem sumZ_ge {f:Lot→Int}:∀ {l:List Lot},(∀ x∈l,0≤f x)→∀ x∈l,f x≤sumZ f l
 | [],_,x,h=>by cases h
 | y::l,h,x,hx=>by
  have h1:=sumZ_nonneg (l:=l) fun z hz=>h z (by simp [hz])
  have h2:=h y (by simp)
  simp only [sumZ]
  rcases List.mem_cons.1 hx with rfl|hx
  ·omega
  ·have:=sumZ_ge (fun z hz=>h z (by simp [hz])) x hx
   omega
def heldF (c:Int) (x:Lot):Int:=if x.owner=c∧x.side=0 then x.price*x.qty else 0
def keptF (c:Int) (x:Lot):Int:=if x.owner=c∧x.side≠0 then x.qty else 0
def LApart (l:List Lot):Prop:=l.Pairwise fun x y=>x.id≠y.id
structure BOk (l:List Lot):Prop where
 ok:∀ x∈l,x.ok=true
 apart:LApart l
 len:l.length≤60
theorem BOk.nil:BOk []:=⟨fun x h=>(by cases h),List.Pairwise.nil,by simp⟩
theorem LApart.eq {l:List Lot} (h:LApart l) {x y:Lot} (hx:x∈l) (hy:y∈l) (e:x.id=y.id):x=y:=by
 induction l with
 | nil=>cases hx
 | cons z l ih =>
  obtain ⟨h1,h2⟩:=List.pairwise_cons.1 h
  rcases List.mem_cons.1 hx with hx1|hx1<;>rcases List.mem_cons.1 hy with hy1|hy1
  ·rw [hx1,hy1]
  ·rw [hx1] at e;exact absurd e (h1 y hy1)
  ·rw [hy1] at e;exact absurd e.symm (h1 x hx1)
  ·exact ih h2 hx1 hy1
theorem held_nonneg {l:List Lot} (h:∀ x∈l,x.ok=true) (c:Int):∀ x∈l,0≤heldF c x:=fun x hx=>by
 obtain ⟨_,_,_,hp,hq⟩:=Lot.okC (h x hx)
 unfold heldF
 split
 ·exact Int.mul_nonneg (by omega) (by omega)
 ·omega
theorem kept_nonneg {l:List Lot} (h:∀ x∈l,x.ok=true) (c:Int):∀ x∈l,0≤keptF c x:=fun x hx=>by
 obtain ⟨_,_,_,hp,hq⟩:=Lot.okC (h x hx)
 unfold keptF
 split<;>omega
theorem find_of_mem {l:List Lot} (h:LApart l) {x:Lot} (hx:x∈l):∃ k,∃ hk:k<l.length,l.findIdx? (fun y=>y.id==x.id)=some k∧l[k]=x:=by
 cases hf:l.findIdx? (fun y=>y.id==x.id) with
 | none =>
  rw [List.findIdx?_eq_none_iff] at hf
  have:=hf x hx
  simp at this
 | some k =>
  rw [List.findIdx?_eq_some_iff_getElem] at hf
  obtain ⟨hk,h1,_⟩:=hf
  exact ⟨k,hk,rfl,h.eq (List.getElem_mem hk) hx (by simpa using h1)⟩
theorem getR_mem {l:List Lot} (h:LApart l) {x:Lot} (hx:x∈l):getR l x.id=(x,true):=by
 obtain ⟨k,hk,hf,e⟩:=find_of_mem h hx
 unfold getR
 rw [hf]
 simp only [List.getElem?_eq_getElem hk,e]
theorem getR_cases (l:List Lot) (id:Int):(∃ x∈l,x.id=id∧getR l id=(x,true))∨((∀ x∈l,x.id≠id)∧getR l id=(zeroLot,false)):=by
 unfold getR
 cases hf:l.findIdx? (fun y=>y.id==id) with
 | none =>
  rw [List.findIdx?_eq_none_iff] at hf
  exact .inr ⟨fun x hx e=>by have:=hf x hx;simp [e] at this,rfl⟩
 | some k =>
  rw [List.findIdx?_eq_some_iff_getElem] at hf
  obtain ⟨hk,h1,_⟩:=hf
  left
  exact ⟨l[k],List.getElem_mem hk,by simpa using h1,by simp only [List.getElem?_eq_getElem hk]⟩
theorem cancelR_cases {l:List Lot} (h:BOk l) (id:Int):(∃ x∈l,x.id=id∧∃ l',cancelR l id=(x,0,l')∧BOk l'∧(∀ f,sumZ f l'=sumZ f l - f x)∧(∀ z,z∈l'↔z∈l∧z.id≠id))∨((∀ x∈l,x.id≠id)∧cancelR l id=(zeroLot,6,l)):=by
 unfold cancelR
 cases hf:l.findIdx? (fun y=>y.id==id) with
 | none =>
  rw [List.findIdx?_eq_none_iff] at hf
  exact .inr ⟨fun x hx e=>by have:=hf x hx;simp [e] at this,rfl⟩
 | some k =>
  rw [List.findIdx?_eq_some_iff_getElem] at hf
  obtain ⟨hk,h1,_⟩:=hf
  have h1:l[k].id=id:=by simpa using h1
  left
  have hs:(l.eraseIdx k).Sublist l:=List.eraseIdx_sublist _ _
  refine ⟨l[k],List.getElem_mem hk,h1,l.eraseIdx k,by simp only [List.getElem?_eq_getElem hk],⟨fun x hx=>h.ok x (hs.subset hx),h.apart.sublist hs,Nat.le_trans hs.length_le h.len⟩,fun f=>sumZ_erase f l k hk,fun z=>?_⟩
  rw [List.mem_eraseIdx_iff_getElem]
  constructor
  ·rintro ⟨i,hi,hne,rfl⟩
   refine ⟨List.getElem_mem hi,fun e=>hne ?_⟩
   have h2:=List.pairwise_iff_getElem.1 h.apart
   rcases Nat.lt_trichotomy i k with h3|h3|h3
   ·exact absurd (e.trans h1.symm) (h2 i k hi hk h3)
   ·exact h3
   ·exact absurd (h1.trans e.symm) (h2 k i hk hi h3)
  ·rintro ⟨hz,hne⟩
   obtain ⟨i,hi,rfl⟩:=List.getElem_of_mem hz
   exact ⟨i,hi,fun e=>hne (by subst e;exact h1),rfl⟩
theorem takeR_ok {l:List Lot} (h:BOk l) {x:Lot} (hx:x∈l) {q:Int} (h1:1≤q) (h2:q≤x.qty):∃ l',takeR l x.id q=(0,l')∧BOk l'∧(∀ f,sumZ f l'=sumZ f l - f x+if q=x.qty then 0 else f (x.less q))∧(∀ z,z∈l'↔(z∈l∧z.id≠x.id)∨(q<x.qty∧z=x.less q)):=by
 obtain ⟨k,hk,hf,e⟩:=find_of_mem h.apart hx
 have hap:=List.pairwise_iff_getElem.1 h.apart
 have hne:∀ i (hi:i<l.length),i≠k→l[i].id≠x.id:=fun i hi hik e2=>by
  rw [← e] at e2
  rcases Nat.lt_or_gt_of_ne hik with h3|h3
  ·exact hap i k hi hk h3 e2
  ·exact hap k i hk hi h3 e2.symm
 unfold takeR
 rw [hf]
 simp only [List.getElem?_eq_getElem hk,e]
 rw [if_neg (by omega)]
 by_cases hq:q=x.qty
 ·rw [if_pos hq]
  have hs:(l.eraseIdx k).Sublist l:=List.eraseIdx_sublist _ _
  refine ⟨_,rfl,⟨fun x hx=>h.ok x (hs.subset hx),h.apart.sublist hs,Nat.le_trans hs.length_le h.len⟩,fun f=>by rw [sumZ_erase f l k hk,e,if_pos hq];omega,fun z=>?_⟩
  rw [List.mem_eraseIdx_iff_getElem]
  constructor
  ·rintro ⟨i,hi,hik,rfl⟩
   exact .inl ⟨List.getElem_mem hi,hne i hi hik⟩
  ·rintro (⟨hz,hzn⟩|⟨hlt,_⟩)
   ·obtain ⟨i,hi,rfl⟩:=List.getElem_of_mem hz
    exact ⟨i,hi,fun e2=>hzn (by subst e2;rw [e]),rfl⟩
   ·omega
 ·rw [if_neg hq]
  obtain ⟨o1,o2,o3,o4,o5⟩:=Lot.okC (h.ok x hx)
  have hless:(x.less q).ok=true:=by
   have:1≤x.qty - q∧x.qty - q≤1000:=by omega
   simp only [Lot.ok,Lot.less,Bool.and_eq_true,inR_iff]
   refine ⟨⟨⟨⟨?_,?_⟩,?_⟩,?_⟩,?_⟩<;>first|exact o1|exact o2|exact o3|exact o4|exact this
  have hmem:∀ z,z∈l.set k (x.less q)↔(z∈l∧z.id≠x.id)∨(q<x.qty∧z=x.less q):=fun z=>by
   rw [List.mem_iff_getElem]
   constructor
   ·rintro ⟨i,hi,rfl⟩
    have hi':i<l.length:=by simpa using hi
    rw [List.getElem_set]
    split
    ·exact .inr ⟨by omega,rfl⟩
    ·rename_i hik
     exact .inl ⟨List.getElem_mem hi',hne i hi' (by omega)⟩
   ·rintro (⟨hz,hzn⟩|⟨_,rfl⟩)
    ·obtain ⟨i,hi,rfl⟩:=List.getElem_of_mem hz
     refine ⟨i,by simpa using hi,?_⟩
     rw [List.getElem_set,if_neg (fun e2=>hzn (by subst e2;rw [e]))]
    ·exact ⟨k,by simpa using hk,by simp⟩
  refine ⟨_,rfl,⟨fun z hz=>?_,?_,by simpa using h.len⟩,fun f=>by rw [sumZ_set f l k hk,e,if_neg hq],hmem⟩
  ·rcases (hmem z).1 hz with ⟨hz,_⟩|⟨_,rfl⟩
   ·exact h.ok z hz
   ·exact hless
  ·refine List.pairwise_iff_getElem.2 fun i j hi hj hij=>?_
   have hi':i<l.length:=by simpa using hi
   have hj':j<l.length:=by simpa using hj
   rw [List.getElem_set,List.getElem_set]
   split
   ·rename_i hk1
    rw [if_neg (by omega)]
    exact fun e2=>hne j hj' (by omega) (e2.symm.trans rfl)
   ·split
    ·rename_i hk2 hk1
     exact fun e2=>hne i hi' (by omega) (e2.trans rfl)
    ·exact hap i j hi' hj' hij
theorem addE_new {l:List Lot} {x:Lot} (h:addE l x=0):x.ok=true∧(∀ y∈l,y.id≠x.id)∧l.length<60:=by
 unfold addE at h
 split at h
 ·rename_i hk
  split at h
  ·cases h
  ·rename_i hi
   split at h
   ·cases h
   ·rename_i hl
    refine ⟨hk,?_,by omega⟩
    rcases idIdx_cases l x.id with ⟨k,_,e,_⟩|⟨_,hn⟩
    ·omega
    ·exact hn
 ·cases h
theorem BOk.add {l:List Lot} (h:BOk l) {x:Lot} (he:addE l x=0):BOk (l++[x]):=by
 obtain ⟨h1,h2,h3⟩:=addE_new he
 refine ⟨fun y hy=>?_,List.pairwise_append.2 ⟨h.apart,List.pairwise_singleton _ _,fun y hy z hz=>?_⟩,by simp;omega⟩
 ·rcases List.mem_append.1 hy with hy|hy
  ·exact h.ok y hy
  ·simp at hy;subst hy;exact h1
 ·simp at hz;subst hz;exact h2 y hy
theorem cancel_last {l:List Lot} {x:Lot} (h:∀ y∈l,y.id≠x.id):cancelR (l++[x]) x.id=(x,0,l):=by
 have hf:(l++[x]).findIdx? (fun y=>y.id==x.id)=some l.length:=by
  rw [List.findIdx?_eq_some_iff_getElem]
  refine ⟨by simp,by simp,fun j hj=>?_⟩
  rw [List.getElem_append_left hj]
  simpa using h _ (List.getElem_mem hj)
 unfold cancelR
 rw [hf]
 simp only [List.getElem?_append_right (Nat.le_refl _),Nat.sub_self,List.getElem?_cons_zero]
 rw [List.eraseIdx_append_of_length_le (Nat.le_refl _),Nat.sub_self]
 simp
end Go.Proofs.YtabbgpjofkaomaaGreatDoor

/- Plain facts: the state of a floor; what a placed lot, one that goes, and a trade make of it. -/
namespace Go.Proofs.YtabbgpjofkaomaaGreatDoor
open Go.RowKit
structure FSt where
 b:Nat→List Lot
 ref:Nat→Int
 left:Nat→Int
 p:Pu
def FSt.setB (st:FSt) (k:Nat) (l:List Lot):FSt:={ st with b:=fun j=>if j=k then l else st.b j }
def FSt.setP (st:FSt) (P:Pu):FSt:={ st with p:=P }
def FSt.setN (st:FSt) (k:Nat) (r l:Int):FSt:={ st with ref:=fun j=>if j=k then r else st.ref j,left:=fun j=>if j=k then l else st.left j }
def heldB (b:Nat→List Lot) (c:Int):Int:=sumZ (heldF c) (b 0)+sumZ (heldF c) (b 1)+sumZ (heldF c) (b 2)
theorem heldF_yes {c:Int} {x:Lot} (h:x.owner=c) (hs:x.side=0):heldF c x=x.price*x.qty:=if_pos ⟨h,hs⟩
theorem heldF_no {c:Int} {x:Lot} (h:¬ (x.owner=c∧x.side=0)):heldF c x=0:=if_neg h
theorem keptF_yes {c:Int} {x:Lot} (h:x.owner=c) (hs:x.side≠0):keptF c x=x.qty:=if_pos ⟨h,hs⟩
theorem keptF_no {c:Int} {x:Lot} (h:¬ (x.owner=c∧x.side≠0)):keptF c x=0:=if_neg h
structure FOk (st:FSt):Prop where
 book:∀ k,k<3→BOk (st.b k)
 held:∀ c:Nat,c<6→st.p c 1=heldB st.b (c:Int)
 kept:∀ c:Nat,c<6→∀ k,k<3→st.p c (5+k)=sumZ (keptF (c:Int)) (st.b k)
 band:∀ k,k<3→(1≤st.ref k∧st.ref k≤1000)∧0≤st.left k∧st.left k≤1000
 cash:sumP st.p 0≤1099511627776
 stock:∀ k,k<3→sumP st.p (2+k)≤1073741824
theorem heldB_set (b:Nat→List Lot) (c:Int) {k:Nat} (hk:k<3) (l:List Lot):heldB (fun j=>if j=k then l else b j) c=heldB b c - sumZ (heldF c) (b k)+sumZ (heldF c) l:=by
 have h:k=0∨k=1∨k=2:=by omega
 unfold heldB
 rcases h with rfl|rfl|rfl<;>simp<;>omega
theorem FOk.held_ge {st:FSt} (h:FOk st) {k:Nat} (hk:k<3) (c:Int) {x:Lot} (hx:x∈st.b k):heldF c x≤heldB st.b c:=by
 have h0:=sumZ_nonneg (held_nonneg (h.book 0 (by omega)).ok c)
 have h1:=sumZ_nonneg (held_nonneg (h.book 1 (by omega)).ok c)
 have h2:=sumZ_nonneg (held_nonneg (h.book 2 (by omega)).ok c)
 have h3:=sumZ_ge (held_nonneg (h.book k hk).ok c) x hx
 have e:k=0∨k=1∨k=2:=by omega
 unfold heldB
 rcases e with rfl|rfl|rfl<;>omega
def placeE (st:FSt) (k:Nat) (x:Lot):Nat:=if addE (st.b k) x=0 then holdE st.p (k:Int) x else addE (st.b k) x
def placeS (st:FSt) (k:Nat) (x:Lot):FSt:=if placeE st k x=0 then (st.setB k (st.b k++[x])).setP (holdP st.p (k:Int) x) else st
theorem FOk.place {st:FSt} (h:FOk st) {k:Nat} (hk:k<3) (x:Lot):FOk (placeS st k x):=by
 unfold placeS
 split
 ·rename_i he
  unfold placeE at he
  split at he
  ·rename_i ha
   obtain ⟨h1,h2,h3⟩:=addE_new ha
   obtain ⟨o1,o2,o3,o4,o5⟩:=Lot.okC h1
   obtain ⟨o,ho⟩:∃ o:Nat,x.owner=(o:Int):=⟨x.owner.toNat,by omega⟩
   have ho2:x.owner.toNat=o:=by omega
   have hP:holdP st.p (k:Int) x=if x.side=0 then st.p.set o 1 (st.p o 1+x.price*x.qty) else st.p.set o (5+k) (st.p o (5+k)+x.qty):=by
    unfold holdP
    rw [if_pos he,ho2,Int.toNat_natCast]
   have hsm:=fun j hj=>hold_sum st.p (k:Int) x (k:=j) hj
   have c0:=h.cash
   refine ⟨fun j hj=>?_,fun c hc=>?_,fun c hc j hj=>?_,h.band,?_,fun j hj=>?_⟩
   ·show BOk (if j=k then st.b k++[x] else st.b j)
    split
    ·exact (h.book k hk).add ha
    ·exact h.book j hj
   ·show holdP st.p (k:Int) x c 1=heldB (fun j=>if j=k then st.b k++[x] else st.b j) c
    rw [heldB_set _ _ hk,sumZ_append,hP]
    have:=h.held c hc
    by_cases hs:x.side=0
    ·rw [if_pos hs]
     unfold Pu.set
     by_cases e:c=o
     ·subst e
      rw [if_pos ⟨rfl,rfl⟩,this]
      simp only [sumZ]
      rw [heldF_yes ho hs]
      omega
     ·rw [if_neg (by omega),this]
      simp only [sumZ]
      rw [heldF_no (by omega)]
      omega
    ·rw [if_neg hs]
     unfold Pu.set
     rw [if_neg (by omega),this]
     simp only [sumZ]
     rw [heldF_no (fun e=>hs e.2)]
     omega
   ·show holdP st.p (k:Int) x c (5+j)=sumZ (keptF c) (if j=k then st.b k++[x] else st.b j)
    rw [hP]
    have:=h.kept c hc j hj
    by_cases hs:x.side=0
    ·rw [if_pos hs]
     unfold Pu.set
     rw [if_neg (by omega),this]
     split
     ·rename_i e
      subst e
      rw [sumZ_append]
      simp only [sumZ]
      rw [keptF_no (fun e=>e.2 hs)]
      omega
     ·rfl
    ·rw [if_neg hs]
     unfold Pu.set
     by_cases e:j=k
     ·subst e
      rw [if_pos rfl,sumZ_append]
      by_cases e2:c=o
      ·subst e2
       rw [if_pos ⟨rfl,rfl⟩,this]
       simp only [sumZ]
       rw [keptF_yes ho hs]
       omega
      ·rw [if_neg (by omega),this]
       simp only [sumZ]
       rw [keptF_no (by omega)]
       omega
     ·rw [if_neg (by omega),if_neg e,this]
   ·show sumP (holdP st.p (k:Int) x) 0≤_
    rw [hsm 0 ⟨by decide,by decide⟩];exact c0
   ·show sumP (holdP st.p (k:Int) x) (2+j)≤_
    rw [hsm (2+j) ⟨by omega,by omega⟩];exact h.stock j hj
  ·rename_i ha
   exact absurd he ha
 ·exact h
def goneR (st:FSt) (k:Nat) (id:Int):Lot × Nat × FSt :=
 if (cancelR (st.b k) id).2.1=0 then ((cancelR (st.b k) id).1,0,(st.setB k (cancelR (st.b k) id).2.2).setP (freeP st.p (k:Int) (cancelR (st.b k) id).1)) else (zeroLot,6,st)
theorem freeE_zero {st:FSt} (h:FOk st) {k:Nat} (hk:k<3) {x:Lot} (hx:x∈st.b k):freeE st.p (k:Int) x=0:=by
 have hok:=(h.book k hk).ok x hx
 obtain ⟨o1,o2,o3,o4,o5⟩:=Lot.okC hok
 obtain ⟨o,ho⟩:∃ o:Nat,x.owner=(o:Int):=⟨x.owner.toNat,by omega⟩
 have ho2:x.owner.toNat=o:=by omega
 have hr:rightB (k:Int) x=true:=by
  simp only [rightB,Bool.and_eq_true]
  exact ⟨inR_iff.2 ⟨by omega,by omega⟩,hok⟩
 unfold freeE
 rw [if_pos hr,ho2,Int.toNat_natCast]
 split
 ·rename_i hs
  have h1:=h.held o (by omega)
  have h2:=h.held_ge hk (o:Int) hx
  rw [heldF_yes ho hs] at h2
  rw [if_neg (by omega)]
 ·rename_i hs
  have h1:=h.kept o (by omega) k hk
  have h2:=sumZ_ge (kept_nonneg (h.book k hk).ok (o:Int)) x hx
  rw [keptF_yes ho hs] at h2
  rw [if_neg (by omega)]
theorem FOk.gone {st:FSt} (h:FOk st) {k:Nat} (hk:k<3) (id:Int):FOk (goneR st k id).2.2:=by
 unfold goneR
 rcases cancelR_cases (h.book k hk) id with ⟨x,hx,hi,l',e,hl,hsum,hmem⟩|⟨hn,e⟩
 ·rw [e]
  rw [if_pos rfl]
  show FOk ((st.setB k l').setP (freeP st.p (k:Int) x))
  have hz:=freeE_zero h hk hx
  have hok:=(h.book k hk).ok x hx
  obtain ⟨o1,o2,o3,o4,o5⟩:=Lot.okC hok
  obtain ⟨o,ho⟩:∃ o:Nat,x.owner=(o:Int):=⟨x.owner.toNat,by omega⟩
  have ho2:x.owner.toNat=o:=by omega
  have hP:freeP st.p (k:Int) x=if x.side=0 then st.p.set o 1 (st.p o 1 - x.price*x.qty) else st.p.set o (5+k) (st.p o (5+k) - x.qty):=by
   unfold freeP
   rw [if_pos hz,ho2,Int.toNat_natCast]
  have hsm:=fun j hj=>free_sum st.p (k:Int) x (k:=j) hj
  have c0:=h.cash
  refine ⟨fun j hj=>?_,fun c hc=>?_,fun c hc j hj=>?_,h.band,?_,fun j hj=>?_⟩
  ·show BOk (if j=k then l' else st.b j)
   split
   ·exact hl
   ·exact h.book j hj
  ·show freeP st.p (k:Int) x c 1=heldB (fun j=>if j=k then l' else st.b j) c
   rw [heldB_set _ _ hk,hsum,hP]
   have:=h.held c hc
   by_cases hs:x.side=0
   ·rw [if_pos hs]
    unfold Pu.set
    by_cases e:c=o
    ·subst e
     rw [if_pos ⟨rfl,rfl⟩,this,heldF_yes ho hs]
     omega
    ·rw [if_neg (by omega),this,heldF_no (by omega)]
     omega
   ·rw [if_neg hs]
    unfold Pu.set
    rw [if_neg (by omega),this,heldF_no (fun e=>hs e.2)]
    omega
  ·show freeP st.p (k:Int) x c (5+j)=sumZ (keptF c) (if j=k then l' else st.b j)
   rw [hP]
   have:=h.kept c hc j hj
   by_cases hs:x.side=0
   ·rw [if_pos hs]
    unfold Pu.set
    rw [if_neg (by omega),this]
    split
    ·rename_i e
     subst e
     rw [hsum,keptF_no (fun e=>e.2 hs)]
     omega
    ·rfl
   ·rw [if_neg hs]
    unfold Pu.set
    by_cases e:j=k
    ·subst e
     rw [if_pos rfl,hsum]
     by_cases e2:c=o
     ·subst e2
      rw [if_pos ⟨rfl,rfl⟩,this,keptF_yes ho hs]
     ·rw [if_neg (by omega),this,keptF_no (by omega)]
      omega
    ·rw [if_neg (by omega),if_neg e,this]
  ·show sumP (freeP st.p (k:Int) x) 0≤_
   rw [hsm 0 ⟨by decide,by decide⟩];exact c0
  ·show sumP (freeP st.p (k:Int) x) (2+j)≤_
   rw [hsm (2+j) ⟨by omega,by omega⟩];exact h.stock j hj
 ·rw [e]
  rw [if_neg (show ¬ (6:Nat)=0 by decide)]
  exact h
theorem tradeF_eq (P:Pu) (bo so it:Nat) (m1 m2 qty:Int):∃ P1 P2 P3 P4 P5:Pu,P1=P.set bo 1 (P bo 1 - m1)∧P2=P1.set bo 0 (P1 bo 0 - m2)∧P3=P2.set so (5+it) (P2 so (5+it) - qty)∧P4=P3.set so (2+it) (P3 so (2+it) - qty)∧P5=P4.set bo (2+it) (P4 bo (2+it)+qty)∧tradeF P bo so it m1 m2 qty=P5.set so 0 (P5 so 0+m2) :=
 ⟨_,_,_,_,_,rfl,rfl,rfl,rfl,rfl,rfl⟩
def tradeD (bo so it:Nat) (m1 m2 qty:Int) (c j:Nat):Int :=
 (if c=bo∧j=1 then - m1 else 0)+(if c=bo∧j=0 then - m2 else 0)+(if c=so∧j=5+it then - qty else 0)+(if c=so∧j=2+it then - qty else 0)+(if c=bo∧j=2+it then qty else 0)+(if c=so∧j=0 then m2 else 0)
theorem set_add (P:Pu) (d k:Nat) (x:Int) (c j:Nat):P.set d k (P d k+x) c j=P c j+if c=d∧j=k then x else 0:=by
 by_cases h:c=d∧j=k
 ·obtain ⟨rfl,rfl⟩:=h
  rw [Pu.set_same,if_pos ⟨rfl,rfl⟩]
 ·rw [Pu.set_other _ _ h,if_neg h,Int.add_zero]
theorem set_sub (P:Pu) (d k:Nat) (x:Int) (c j:Nat):P.set d k (P d k - x) c j=P c j+if c=d∧j=k then - x else 0:=by
 rw [Int.sub_eq_add_neg,set_add]
theorem tradeF_all (P:Pu) (bo so it:Nat) (m1 m2 qty:Int) (c j:Nat):tradeF P bo so it m1 m2 qty c j=P c j+tradeD bo so it m1 m2 qty c j:=by
 obtain ⟨P1,P2,P3,P4,P5,e1,e2,e3,e4,e5,e6⟩:=tradeF_eq P bo so it m1 m2 qty
 rw [e6,set_add,e5,set_add,e4,set_sub,e3,set_sub,e2,set_sub,e1,set_sub]
 unfold tradeD
 omega
theorem tradeF_held (P:Pu) (bo so it:Nat) (m1 m2 qty:Int) (c:Nat):tradeF P bo so it m1 m2 qty c 1=if c=bo then P c 1 - m1 else P c 1:=by
 rw [tradeF_all]
 unfold tradeD
 rw [if_neg (show ¬ (c=bo∧1=0) by omega),if_neg (show ¬ (c=so∧1=5+it) by omega),if_neg (show ¬ (c=so∧1=2+it) by omega),if_neg (show ¬ (c=bo∧1=2+it) by omega),if_neg (show ¬ (c=so∧1=0) by omega)]
 by_cases e:c=bo
 ·rw [if_pos ⟨e,rfl⟩,if_pos e];omega
 ·rw [if_neg (fun h=>e h.1),if_neg e];omega
theorem tradeF_kept (P:Pu) (bo so it:Nat) (m1 m2 qty:Int) (c j:Nat) (hj:j<3) (hi:it<3):tradeF P bo so it m1 m2 qty c (5+j)=if c=so∧j=it then P c (5+j) - qty else P c (5+j):=by
 rw [tradeF_all]
 unfold tradeD
 rw [if_neg (show ¬ (c=bo∧5+j=1) by omega),if_neg (show ¬ (c=bo∧5+j=0) by omega),if_neg (show ¬ (c=so∧5+j=2+it) by omega),if_neg (show ¬ (c=bo∧5+j=2+it) by omega),if_neg (show ¬ (c=so∧5+j=0) by omega)]
 by_cases e:c=so∧j=it
 ·rw [if_pos ⟨e.1,by omega⟩,if_pos e];omega
 ·rw [if_neg (fun h=>e ⟨h.1,by omega⟩),if_neg e];omega
theorem tradeF_cash (P:Pu) (bo so it:Nat) (m1 m2 qty:Int) (c:Nat):tradeF P bo so it m1 m2 qty c 0=P c 0 - (if c=bo then m2 else 0)+(if c=so then m2 else 0):=by
 rw [tradeF_all]
 unfold tradeD
 rw [if_neg (show ¬ (c=bo∧0=1) by omega),if_neg (show ¬ (c=so∧0=5+it) by omega),if_neg (show ¬ (c=so∧0=2+it) by omega),if_neg (show ¬ (c=bo∧0=2+it) by omega)]
 have a1:(if c=bo∧0=0 then - m2 else 0)=- if c=bo then m2 else 0:=by
  by_cases e:c=bo
  ·rw [if_pos ⟨e,rfl⟩,if_pos e]
  ·rw [if_neg (fun h=>e h.1),if_neg e];rfl
 have a2:(if c=so∧0=0 then m2 else 0)=if c=so then m2 else 0:=by
  by_cases e:c=so
  ·rw [if_pos ⟨e,rfl⟩,if_pos e]
  ·rw [if_neg (fun h=>e h.1),if_neg e]
 rw [a1,a2];omega
theorem tradeF_stock (P:Pu) (bo so it:Nat) (m1 m2 qty:Int) (c j:Nat) (hj:j<3) (hi:it<3):tradeF P bo so it m1 m2 qty c (2+j)=P c (2+j)+if j=it then (if c=bo then qty else 0) - (if c=so then qty else 0) else 0:=by
 rw [tradeF_all]
 unfold tradeD
 rw [if_neg (show ¬ (c=bo∧2+j=1) by omega),if_neg (show ¬ (c=bo∧2+j=0) by omega),if_neg (show ¬ (c=so∧2+j=5+it) by omega),if_neg (show ¬ (c=so∧2+j=0) by omega)]
 by_cases e:j=it
 ·subst e
  rw [if_pos rfl]
  have a1:(if c=so∧2+j=2+j then - qty else 0)=- if c=so then qty else 0:=by
   by_cases e:c=so
   ·rw [if_pos ⟨e,rfl⟩,if_pos e]
   ·rw [if_neg (fun h=>e h.1),if_neg e];rfl
  have a2:(if c=bo∧2+j=2+j then qty else 0)=if c=bo then qty else 0:=by
   by_cases e:c=bo
   ·rw [if_pos ⟨e,rfl⟩,if_pos e]
   ·rw [if_neg (fun h=>e h.1),if_neg e]
  rw [a1,a2];omega
 ·rw [if_neg e,if_neg (show ¬ (c=so∧2+j=2+it) by omega),if_neg (show ¬ (c=bo∧2+j=2+it) by omega)];omega
def tradeS (st:FSt) (k:Nat) (price qty:Int) (x y:Lot):FSt :=
 (st.setB k (takeR (takeR (st.b k) x.id qty).2 y.id qty).2).setP (tradeF st.p x.owner.toNat y.owner.toNat k (x.price*qty) (price*qty) qty)
theorem pair_le {P:Pu} (h:PInv P) {j:Nat} (h0:∀ c,c<6→0≤P c j) {a b:Nat} (ha:a<6) (hb:b<6) (hab:a≠b):P a j+P b j≤sumP P j:=by
 have c0:=h0 0 (by omega)
 have c1:=h0 1 (by omega)
 have c2:=h0 2 (by omega)
 have c3:=h0 3 (by omega)
 have c4:=h0 4 (by omega)
 have c5:=h0 5 (by omega)
 unfold sumP
 have ha':a=0∨a=1∨a=2∨a=3∨a=4∨a=5:=by omega
 have hb':b=0∨b=1∨b=2∨b=3∨b=4∨b=5:=by omega
 rcases ha' with rfl|rfl|rfl|rfl|rfl|rfl<;>rcases hb' with rfl|rfl|rfl|rfl|rfl|rfl<;>omega
theorem FOk.trade {st:FSt} (h:FOk st) (hp:PInv st.p) {k:Nat} (hk:k<3) {x y:Lot} (hx:x∈st.b k) (hy:y∈st.b k) (sx:x.side=0) (sy:y.side=1) {price qty:Int} (q1:1≤qty) (q2:qty≤x.qty) (q3:qty≤y.qty) (p1:price≤x.price) (p2:y.price≤price) :
  tradeE st.p (k:Int) x y price qty=0∧FOk (tradeS st k price qty x y)∧∃ l1 l2,takeR (st.b k) x.id qty=(0,l1)∧takeR l1 y.id qty=(0,l2)∧(tradeS st k price qty x y).b k=l2∧y∈l1 ∧
   (∀ z,z∈l2↔(z∈st.b k∧z.id≠x.id∧z.id≠y.id)∨(qty<x.qty∧z=x.less qty)∨(qty<y.qty∧z=y.less qty)):=by
 have hbk:=h.book k hk
 have okx:=hbk.ok x hx
 have oky:=hbk.ok y hy
 obtain ⟨x1,x2,x3,x4,x5⟩:=Lot.okC okx
 obtain ⟨y1,y2,y3,y4,y5⟩:=Lot.okC oky
 obtain ⟨bo,hbo⟩:∃ o:Nat,x.owner=(o:Int):=⟨x.owner.toNat,by omega⟩
 obtain ⟨so,hso⟩:∃ o:Nat,y.owner=(o:Int):=⟨y.owner.toNat,by omega⟩
 have hbo2:x.owner.toNat=bo:=by omega
 have hso2:y.owner.toNat=so:=by omega
 have hids:x.id≠y.id:=fun e=>by
  have:=hbk.apart.eq hx hy e
  subst this;omega
 have hmul:x.price*qty≤x.price*x.qty:=Int.mul_le_mul_of_nonneg_left q2 (by omega)
 have hmul2:price*qty≤x.price*qty:=Int.mul_le_mul_of_nonneg_right p1 (by omega)
 have g1:=h.held bo (by omega)
 have g2:=h.held_ge hk (bo:Int) hx
 rw [heldF_yes hbo sx] at g2
 have g3:=h.kept so (by omega) k hk
 have g4:=sumZ_ge (kept_nonneg hbk.ok (so:Int)) y hy
 rw [keptF_yes hso (by omega)] at g4
 obtain ⟨r1,r2,r3,r4⟩:=hp bo (by omega)
 obtain ⟨s1,s2,s3,s4⟩:=hp so (by omega)
 have hE:tradeE st.p (k:Int) x y price qty=0:=by
  unfold tradeE
  have hr:∀ z:Lot,z.ok=true→rightB (k:Int) z=true:=fun z hz=>by
   simp only [rightB,Bool.and_eq_true]
   exact ⟨inR_iff.2 ⟨by omega,by omega⟩,hz⟩
  have hf:fairE (k:Int) x y price qty=0:=by
   unfold fairE
   rw [hr x okx,hr y oky,if_pos (by rfl),if_pos ⟨sx,sy⟩,if_neg (by omega),if_neg (by omega)]
  rw [if_pos hf,hbo2,hso2,Int.toNat_natCast,if_neg (by omega),if_neg ?_]
  rintro ⟨hne,hful⟩
  rcases hful with hful|hful
  ·have a1:=pair_le hp (j:=2+k) (fun c hc=>by have:=(hp c hc).2.2.2 k hk;omega) (show bo<6 by omega) (show so<6 by omega) hne
   have a2:=h.stock k hk
   have:=s4 k hk
   omega
  ·have a1:=pair_le hp (j:=0) (fun c hc=>by have:=hp c hc;omega) (show bo<6 by omega) (show so<6 by omega) hne
   have a2:=h.cash
   omega
 obtain ⟨l1,e1,ok1,sum1,mem1⟩:=takeR_ok hbk hx q1 q2
 have hy1:y∈l1:=(mem1 y).2 (.inl ⟨hy,fun e=>hids e.symm⟩)
 obtain ⟨l2,e2,ok2,sum2,mem2⟩:=takeR_ok ok1 hy1 q1 q3
 have hB:(takeR (takeR (st.b k) x.id qty).2 y.id qty).2=l2:=by rw [e1];show (takeR l1 y.id qty).2=l2;rw [e2]
 refine ⟨hE,?_,l1,l2,e1,e2,?_,hy1,fun z=>?_⟩
 ·unfold tradeS
  rw [hB,hbo2,hso2]
  have c0:=h.cash
  refine ⟨fun j hj=>?_,fun c hc=>?_,fun c hc j hj=>?_,h.band,?_,fun j hj=>?_⟩
  ·show BOk (if j=k then l2 else st.b j)
   split
   ·exact ok2
   ·exact h.book j hj
  ·show tradeF st.p bo so k (x.price*qty) (price*qty) qty c 1=heldB (fun j=>if j=k then l2 else st.b j) c
   rw [heldB_set _ _ hk,sum2,sum1,tradeF_held,h.held c hc]
   have ey:heldF c y=0:=heldF_no (by omega)
   have ey2:heldF c (y.less qty)=0:=heldF_no (fun e=>by have:y.side=0:=e.2;omega)
   rw [ey,ey2]
   simp only [ite_self]
   by_cases e:c=bo
   ·subst e
    rw [if_pos rfl]
    have hx1:heldF c x=x.price*x.qty:=heldF_yes hbo sx
    have hx2:heldF c (x.less qty)=x.price*(x.qty - qty):=heldF_yes (x:=x.less qty) hbo sx
    rw [hx1,hx2]
    split
    ·rename_i e2;rw [e2];omega
    ·rw [Int.mul_sub];omega
   ·rw [if_neg e]
    have hx1:heldF c x=0:=heldF_no (by omega)
    have hx2:heldF c (x.less qty)=0:=heldF_no (show ¬ (x.owner=(c:Int)∧x.side=0) by omega)
    rw [hx1,hx2]
    split<;>omega
  ·show tradeF st.p bo so k (x.price*qty) (price*qty) qty c (5+j)=sumZ (keptF c) (if j=k then l2 else st.b j)
   rw [tradeF_kept _ _ _ _ _ _ _ _ _ hj hk,h.kept c hc j hj]
   by_cases e:j=k
   ·subst e
    rw [if_pos rfl,sum2,sum1]
    have ex:keptF c x=0:=keptF_no (by omega)
    have ex2:keptF c (x.less qty)=0:=keptF_no (show ¬ (x.owner=(c:Int)∧x.side≠0) by omega)
    rw [ex,ex2]
    simp only [ite_self]
    by_cases e3:c=so
    ·subst e3
     rw [if_pos ⟨rfl,trivial⟩]
     have hy3:keptF c y=y.qty:=keptF_yes hso (by omega)
     have hy4:keptF c (y.less qty)=y.qty - qty:=keptF_yes (x:=y.less qty) hso (show y.side≠0 by omega)
     rw [hy3,hy4]
     split<;>omega
    ·rw [if_neg (fun e=>e3 e.1)]
     have hy3:keptF c y=0:=keptF_no (by omega)
     have hy4:keptF c (y.less qty)=0:=keptF_no (show ¬ (y.owner=(c:Int)∧y.side≠0) by omega)
     rw [hy3,hy4]
     split<;>omega
   ·rw [if_neg (fun e2=>e e2.2),if_neg e]
  ·show sumP (tradeF st.p bo so k (x.price*qty) (price*qty) qty) 0≤_
   rw [tradeF_sum _ (by omega) (by omega) _ _ _ _ ⟨by decide,by decide⟩];exact c0
  ·show sumP (tradeF st.p bo so k (x.price*qty) (price*qty) qty) (2+j)≤_
   rw [tradeF_sum _ (by omega) (by omega) _ _ _ _ ⟨by omega,by omega⟩];exact h.stock j hj
 ·unfold tradeS
  rw [hB]
  show (if k=k then l2 else st.b k)=l2
  rw [if_pos rfl]
 ·rw [mem2,mem1]
  constructor
  ·rintro (⟨⟨hz,hn⟩|⟨hq,rfl⟩,hn2⟩|hq)
   ·exact .inl ⟨hz,hn,hn2⟩
   ·exact .inr (.inl ⟨hq,rfl⟩)
   ·exact .inr (.inr hq)
  ·rintro (⟨hz,hn,hn2⟩|⟨hq,rfl⟩|hq)
   ·exact .inl ⟨.inl ⟨hz,hn⟩,hn2⟩
   ·exact .inl ⟨.inr ⟨hq,rfl⟩,hids⟩
   ·exact .inr hq
end Go.Proofs.YtabbgpjofkaomaaGreatDoor

/- A floor: its block, its row of items, its books and its purse; each part bears a label of its own within a group of eight labels. -/
namespace Go.Proofs.YtabbgpjofkaomaaGreatDoor
open Go.RowKit
structure FlA where
 f:Nat
 rg:Nat
 cap:Nat
 bp:Nat→Nat
 pp:Nat
 wd:Int
 hl:Int
def FlA.head (A:FlA) (j:Nat):Value:=if j=0 then .slice (some ⟨A.rg,0,none⟩) 3 A.cap else if j=1 then .pointer (some ⟨A.pp,0,none⟩) else if j=2 then .int .i64 A.wd else .int .i64 A.hl
def FlA.item (A:FlA) (st:FSt) (n:Nat):Value:=if n % 3=0 then .pointer (some ⟨A.bp (n / 3),0,none⟩) else if n % 3=1 then .int .i64 (st.ref (n / 3)) else .int .i64 (st.left (n / 3))
structure FlAt (own:Nat→Nat) (c:Nat) (w:World) (A:FlA) (st:FSt):Prop where
 head:∃ t,w.rowIs A.f t 4 A.head
 headL:own A.f=8*c+5
 rows:∃ cs t,w.heap[A.rg]?=some (.cells cs t (0,0))∧∀ n,n<9→cs[n]?=some (A.item st n)
 rowL:own A.rg=8*c+6
 cap:3≤A.cap∧A.cap≤maxLen
 book:∀ k,k<3→BookAt own (8*c+1+k) w (A.bp k) (st.b k)
 purse:PurseAt own (8*c+4) w A.pp st.p
 rule:(0≤A.wd∧A.wd≤100)∧1≤A.hl∧A.hl≤1000
section
variable {own own' o:Nat→Nat} {c m g k:Nat} {w w1 w':World} {A:FlA} {st:FSt}
theorem FlAt.row (h:FlAt own c w A st) (n:Nat) (hn:n<9):w.cell? ⟨A.rg,n,none⟩=some (A.item st n):=by
 obtain ⟨cs,t,h1,h2⟩:=h.rows
 simp [World.cell?,h1,h2 n hn]
theorem FlAt.rowF (h:FlAt own c w A st) (n:Nat):w.frozen? ⟨A.rg,n,none⟩=false:=by
 obtain ⟨cs,t,h1,h2⟩:=h.rows
 simp [World.frozen?,h1]
theorem FlAt.rowLt (h:FlAt own c w A st):A.rg<w.heap.size:=by
 obtain ⟨cs,t,h1,h2⟩:=h.rows
 exact (Array.getElem?_eq_some_iff.1 h1).1
theorem FlAt.rowsOf (h:FlAt own c w A st) (hb:w'.heap[A.rg]?=w.heap[A.rg]?):∃ cs t,w'.heap[A.rg]?=some (.cells cs t (0,0))∧∀ n,n<9→cs[n]?=some (A.item st n):=by
 obtain ⟨cs,t,h1,h2⟩:=h.rows
 exact ⟨cs,t,hb.trans h1,h2⟩
theorem FlAt.cells (h:FlAt own c w A st):w.cell? ⟨A.f,0,none⟩=some (.slice (some ⟨A.rg,0,none⟩) 3 A.cap)∧w.cell? ⟨A.f,1,none⟩=some (.pointer (some ⟨A.pp,0,none⟩))∧w.cell? ⟨A.f,2,none⟩=some (.int .i64 A.wd)∧w.cell? ⟨A.f,3,none⟩=some (.int .i64 A.hl)∧A.f<w.heap.size:=by
 obtain ⟨t,hr⟩:=h.head
 exact ⟨hr.cell (i:=0) (by decide),hr.cell (i:=1) (by decide),hr.cell (i:=2) (by decide),hr.cell (i:=3) (by decide),hr.lt⟩
theorem FlAt.items (h:FlAt own c w A st) (hk:k<3):w.cell? ⟨A.rg,k*3,none⟩=some (.pointer (some ⟨A.bp k,0,none⟩))∧w.cell? ⟨A.rg,k*3+1,none⟩=some (.int .i64 (st.ref k))∧w.cell? ⟨A.rg,k*3+2,none⟩=some (.int .i64 (st.left k)):=by
 have h0:=h.row (k*3) (by omega)
 have h1:=h.row (k*3+1) (by omega)
 have h2:=h.row (k*3+2) (by omega)
 unfold FlA.item at h0 h1 h2
 rw [if_pos (by omega),show k*3 / 3=k by omega] at h0
 rw [if_neg (by omega),if_pos (by omega),show (k*3+1) / 3=k by omega] at h1
 rw [if_neg (by omega),if_neg (by omega),show (k*3+2) / 3=k by omega] at h2
 exact ⟨h0,h1,h2⟩
theorem FlAt.kp (h:FlAt own c w A st) (hk:Kp own m g w w') (hi:∀ j,1≤j→j≤6→(8*c+j) / m≠g) (ho:∀ n,n<w.heap.size→own n / 8=c→own' n=own n):FlAt own' c w' A st:=by
 obtain ⟨t,hr⟩:=h.head
 have hf:=hk.block A.f hr.lt (by rw [h.headL];exact hi 5 (by omega) (by omega))
 have hg:=hk.block A.rg h.rowLt (by rw [h.rowL];exact hi 6 (by omega) (by omega))
 have key:∀ j,1≤j→j≤6→∀ n,n<w.heap.size→own n=8*c+j→own' n=8*c+j:=fun j h1 h2 n hn e=>by rw [ho n hn (by omega)];exact e
 refine ⟨⟨t,hr.of_block hf⟩,key 5 (by omega) (by omega) _ hr.lt h.headL,h.rowsOf hg,key 6 (by omega) (by omega) _ h.rowLt h.rowL,h.cap,fun j hj=>?_,?_,h.rule⟩
 ·exact (h.book j hj).kp hk (by rw [Nat.add_assoc];exact hi (1+j) (by omega) (by omega)) (by rw [Nat.add_assoc];exact key (1+j) (by omega) (by omega))
 ·exact h.purse.kp hk (hi 4 (by omega) (by omega)) (key 4 (by omega) (by omega))
theorem FlAt.later (h:FlAt own c w A st) (hx:Ex w w'):FlAt own c w' A st:=h.kp (m:=1) (g:=8*c+7) (Kp.of_below hx.below) (fun j h1 h2=>by rw [Nat.div_one];omega) (fun n _ _=>rfl)
theorem FlAt.relabel (h:FlAt own c w A st) (ho:∀ n,n<w.heap.size→own n / 8=c→own' n=own n):FlAt own' c w A st:=h.kp (m:=1) (g:=8*c+7) (Kp.refl _ _ _ _) (fun j h1 h2=>by rw [Nat.div_one];omega) ho
theorem Kp.group {i:Nat} (h:Kp own 1 i w w') (hi:i / 8=c):Kp own 8 c w w':=⟨h.os,h.tape,h.output,h.size,fun n hn hne=>h.block n hn (fun e=>hne (by rw [Nat.div_one] at e;rw [e];exact hi))⟩
theorem Kp.chain (h:Kp own 8 c w w1) (h2:Kp o 8 c w1 w') (ho:∀ n,n<w.heap.size→o n=own n):Kp own 8 c w w' :=
 h.trans h2.os h2.tape h2.output h2.size fun n hn hne=>h2.block n (Nat.lt_of_lt_of_le hn h.size) (by rw [ho n hn];exact hne)
theorem FlAt.setBook (h:FlAt o c w1 A st) (hk:k<3) {l':List Lot} (hT:ObjTo o (8*c+1+k) (8*c+1+k) w1 (fun o' w'=>BookAt o' (8*c+1+k) w' (A.bp k) l') w'):Kp o 8 c w1 w'∧∃ o2,(∀ n,n<w1.heap.size→o2 n=o n)∧FlAt o2 c w' A (st.setB k l'):=by
 obtain ⟨q,x,rfl,hI⟩:=hT
 have hK:=ov_kp w1 o 1 (8*c+1+k) q x
 have hl:∀ n,n<w1.heap.size→lab o w1.heap.size q (8*c+1+k) n=o n:=fun n hn=>lab_lt hn
 obtain ⟨t,hr⟩:=h.head
 have hf:=hK.block A.f hr.lt (by rw [h.headL,Nat.div_one];omega)
 have hg:=hK.block A.rg h.rowLt (by rw [h.rowL,Nat.div_one];omega)
 refine ⟨hK.group (by omega),_,hl,⟨t,hr.of_block hf⟩,by rw [hl _ hr.lt];exact h.headL,h.rowsOf (w:=w1) hg,by rw [hl _ h.rowLt];exact h.rowL,h.cap,fun j hj=>?_,?_,h.rule⟩
 ·show BookAt _ _ _ _ (if j=k then l' else st.b j)
  by_cases e:j=k
  ·subst e;rw [if_pos rfl];exact hI
  ·rw [if_neg e]
   exact (h.book j hj).kp hK (by rw [Nat.div_one];omega) (fun n hn e=>by rw [hl n hn];exact e)
 ·exact h.purse.kp hK (by rw [Nat.div_one];omega) (fun n hn e=>by rw [hl n hn];exact e)
theorem FlAt.setPurse (h:FlAt o c w1 A st) {P':Pu} (hT:ObjTo o (8*c+4) (8*c+4) w1 (fun o' w'=>PurseAt o' (8*c+4) w' A.pp P') w'):Kp o 8 c w1 w'∧∃ o2,(∀ n,n<w1.heap.size→o2 n=o n)∧FlAt o2 c w' A (st.setP P'):=by
 obtain ⟨q,x,rfl,hI⟩:=hT
 have hK:=ov_kp w1 o 1 (8*c+4) q x
 have hl:∀ n,n<w1.heap.size→lab o w1.heap.size q (8*c+4) n=o n:=fun n hn=>lab_lt hn
 obtain ⟨t,hr⟩:=h.head
 have hf:=hK.block A.f hr.lt (by rw [h.headL,Nat.div_one];omega)
 have hg:=hK.block A.rg h.rowLt (by rw [h.rowL,Nat.div_one];omega)
 refine ⟨hK.group (by omega),_,hl,⟨t,hr.of_block hf⟩,by rw [hl _ hr.lt];exact h.headL,h.rowsOf (w:=w1) hg,by rw [hl _ h.rowLt];exact h.rowL,h.cap,fun j hj=>?_,hI,h.rule⟩
 exact (h.book j hj).kp hK (by rw [Nat.div_one];omega) (fun n hn e=>by rw [hl n hn];exact e)
theorem FlAt.setBand (h:FlAt o c w1 A st) (hk:k<3) (r l:Int):Kp o 8 c w1 ((w1.setCell ⟨A.rg,k*3+1,none⟩ (.int .i64 r)).setCell ⟨A.rg,k*3+2,none⟩ (.int .i64 l))∧FlAt o c ((w1.setCell ⟨A.rg,k*3+1,none⟩ (.int .i64 r)).setCell ⟨A.rg,k*3+2,none⟩ (.int .i64 l)) A (st.setN k r l):=by
 have hK:Kp o 1 (8*c+6) w1 ((w1.setCell ⟨A.rg,k*3+1,none⟩ (.int .i64 r)).setCell ⟨A.rg,k*3+2,none⟩ (.int .i64 l)) :=
  ((Kp.refl o 1 (8*c+6) w1).setCell (fun _=>by rw [Nat.div_one];exact h.rowL) _).setCell (fun _=>by rw [Nat.div_one];exact h.rowL) _
 obtain ⟨t,hr⟩:=h.head
 have hf:=hK.block A.f hr.lt (by rw [h.headL,Nat.div_one];omega)
 refine ⟨hK.group (by omega),⟨t,hr.of_block hf⟩,h.headL,?_,h.rowL,h.cap,fun j hj=>?_,?_,h.rule⟩
 ·obtain ⟨cs,t,h1,h2⟩:=h.rows
  have e1:=heap_setCell_same w1 A.rg (k*3+1) cs t (.int .i64 r) h1
  have e2:=heap_setCell_same _ A.rg (k*3+2) _ t (.int .i64 l) e1
  refine ⟨_,t,e2,fun n hn=>?_⟩
  have hc:=h2 n hn
  have hlt:=(Array.getElem?_eq_some_iff.1 hc).1
  rw [Array.getElem?_setIfInBounds,Array.getElem?_setIfInBounds]
  by_cases e2:k*3+2=n
  ·subst e2
   rw [if_pos rfl,if_pos (by simpa using hlt)]
   unfold FlA.item
   rw [if_neg (by omega),if_neg (by omega),show (k*3+2) / 3=k by omega]
   simp [FSt.setN]
  ·rw [if_neg e2]
   by_cases e1:k*3+1=n
   ·subst e1
    rw [if_pos rfl,if_pos hlt]
    unfold FlA.item
    rw [if_neg (by omega),if_pos (by omega),show (k*3+1) / 3=k by omega]
    simp [FSt.setN]
   ·rw [if_neg e1,hc]
    unfold FlA.item FSt.setN
    by_cases h3:n % 3=0
    ·rw [if_pos h3,if_pos h3]
    ·rw [if_neg h3,if_neg h3]
     by_cases h4:n % 3=1
     ·rw [if_pos h4,if_pos h4]
      simp only
      rw [if_neg (by omega)]
     ·rw [if_neg h4,if_neg h4]
      simp only
      rw [if_neg (by omega)]
 ·exact (h.book j hj).kp hK (by rw [Nat.div_one];omega) (fun n hn e=>e)
 ·exact h.purse.kp hK (by rw [Nat.div_one];omega) (fun n hn e=>e)
def FlG (own:Nat→Nat) (c:Nat) (w:World) (A:FlA) (st:FSt) (w':World):Prop:=Kp own 8 c w w'∧∃ o,(∀ n,n<w.heap.size→o n=own n)∧FlAt o c w' A st
theorem FlG.refl (h:FlAt own c w A st):FlG own c w A st w:=⟨Kp.refl _ _ _ _,own,fun _ _=>rfl,h⟩
theorem FlG.later (h:FlG own c w A st w1) (hx:Ex w1 w'):FlG own c w A st w':=by
 obtain ⟨h1,o,h2,h3⟩:=h
 exact ⟨h1.trans hx.below.os hx.below.tape hx.below.output hx.below.size fun n hn _=>hx.below.block n (Nat.lt_of_lt_of_le hn h1.size),o,h2,h3.later hx⟩
theorem FlG.cells (h:FlG own c w A st w1):w1.cell? ⟨A.f,0,none⟩=some (.slice (some ⟨A.rg,0,none⟩) 3 A.cap)∧w1.cell? ⟨A.f,1,none⟩=some (.pointer (some ⟨A.pp,0,none⟩))∧w1.cell? ⟨A.f,2,none⟩=some (.int .i64 A.wd)∧w1.cell? ⟨A.f,3,none⟩=some (.int .i64 A.hl)∧A.f<w1.heap.size:=by
 obtain ⟨_,_,_,h⟩:=h
 exact h.cells
theorem FlG.items (h:FlG own c w A st w1) (hk:k<3):w1.cell? ⟨A.rg,k*3,none⟩=some (.pointer (some ⟨A.bp k,0,none⟩))∧w1.cell? ⟨A.rg,k*3+1,none⟩=some (.int .i64 (st.ref k))∧w1.cell? ⟨A.rg,k*3+2,none⟩=some (.int .i64 (st.left k))∧A.rg<w1.heap.size:=by
 obtain ⟨_,_,_,h⟩:=h
 exact ⟨(h.items hk).1,(h.items hk).2.1,(h.items hk).2.2,h.rowLt⟩
theorem FlG.pinv (h:FlG own c w A st w1):PInv st.p:=by
 obtain ⟨_,_,_,h⟩:=h
 exact h.purse.2.1
variable {F:FuncId} {args:Array Value} {P:Ending→Prop} {Q:Ending→World→Prop}
theorem FlG.readB (G:FlG own c w A st w1) (hk:k<3) (hC:∀ o i,BookAt o i w1 (A.bp k) (st.b k)→Calls Tryz.prog F args w1 fun e w'=>Q e w'∧Ex w1 w') :
  Calls Tryz.prog F args w1 fun e w'=>Q e w'∧Ex w1 w':=by
 obtain ⟨h1,o,h2,h3⟩:=G
 exact hC o _ (h3.book k hk)
end
end Go.Proofs.YtabbgpjofkaomaaGreatDoor

/- A floor inside a method: what has turned of it since w, and blocks (S) that are none of its own. -/
namespace Go.Proofs.YtabbgpjofkaomaaGreatDoor
open Go.RowKit
def Same (S:Nat→Prop) (W W':World):Prop:=(∀ n,S n→W'.heap[n]?=W.heap[n]?)∧W.heap.size≤W'.heap.size
theorem Same.cell {S:Nat→Prop} {W W':World} (h:Same S W W') {n j:Nat} (hn:S n):W'.cell? ⟨n,j,none⟩=W.cell? ⟨n,j,none⟩:=World.cell?_of_block (h.1 n hn)
structure FlB (own:Nat→Nat) (c:Nat) (w:World) (A:FlA) (st:FSt) (S:Nat→Prop) (W:World):Prop where
 kp:Kp own 8 c w W
 lab:∃ o,FlAt o c W A st∧(∀ n,W.heap.size≤n→o n / 8≠c)∧(∀ n,S n→n<W.heap.size∧o n / 8≠c)∧∀ n,n<w.heap.size→o n=own n
section
variable {own:Nat→Nat} {c k:Nat} {w W W':World} {A:FlA} {st:FSt} {S S':Nat→Prop}
def tight (o:Nat→Nat) (c z:Nat):Nat→Nat:=fun n=>if n<z then o n else 8*c+8
theorem tight_lt {o:Nat→Nat} {c z n:Nat} (h:n<z):tight o c z n=o n:=if_pos h
theorem tight_ge {o:Nat→Nat} {c z n:Nat} (h:z≤n):tight o c z n / 8≠c:=by unfold tight;rw [if_neg (by omega)];omega
theorem FlB.start (h:FlAt own c w A st) (hS:∀ n,S n→n<w.heap.size∧own n / 8≠c):FlB own c w A st S w :=
 ⟨Kp.refl _ _ _ _,tight own c w.heap.size,h.relabel (fun n hn _=>tight_lt hn),fun n hn=>tight_ge hn,fun n hn=>⟨(hS n hn).1,by rw [tight_lt (hS n hn).1];exact (hS n hn).2⟩,fun n hn=>tight_lt hn⟩
theorem FlB.more (G:FlB own c w A st S W) (hx:Ex W W') (hS:∀ n,S' n→S n∨(W.heap.size≤n∧n<W'.heap.size)):FlB own c w A st S' W':=by
 obtain ⟨h1,o,h2,h3,h4,h5⟩:=G
 have hz:=hx.below.size
 refine ⟨h1.trans hx.below.os hx.below.tape hx.below.output hz fun n hn _=>hx.below.block n (Nat.lt_of_lt_of_le hn h1.size),o,h2.later hx,fun n hn=>h3 n (Nat.le_trans hz hn),fun n hn=>?_,h5⟩
 rcases hS n hn with h|⟨h,h'⟩
 ·exact ⟨Nat.lt_of_lt_of_le (h4 n h).1 hz,(h4 n h).2⟩
 ·exact ⟨h',h3 n h⟩
theorem FlB.later (G:FlB own c w A st S W) (hx:Ex W W'):FlB own c w A st S W':=G.more hx fun _ h=>.inl h
theorem FlB.less (G:FlB own c w A st S W) (hS:∀ n,S' n→S n):FlB own c w A st S' W:=G.more (Ex.refl _) fun n h=>.inl (hS n h)
theorem FlB.out (G:FlB own c w A st S W):FlG own c w A st W:=by
 obtain ⟨h1,o,h2,_,_,h5⟩:=G
 exact ⟨h1,o,h5,h2⟩
theorem FlB.at (G:FlB own c w A st S W):∃ o,FlAt o c W A st:=by
 obtain ⟨h1,o,h2,_⟩:=G
 exact ⟨o,h2⟩
theorem FlB.lt (G:FlB own c w A st S W) {n:Nat} (hn:S n):n<W.heap.size:=by
 obtain ⟨h1,o,h2,_,h4,_⟩:=G
 exact (h4 n hn).1
theorem FlB.size (G:FlB own c w A st S W):w.heap.size≤W.heap.size:=G.kp.size
theorem FlB.cells (G:FlB own c w A st S W):W.cell? ⟨A.f,0,none⟩=some (.slice (some ⟨A.rg,0,none⟩) 3 A.cap)∧W.cell? ⟨A.f,1,none⟩=some (.pointer (some ⟨A.pp,0,none⟩))∧W.cell? ⟨A.f,2,none⟩=some (.int .i64 A.wd)∧W.cell? ⟨A.f,3,none⟩=some (.int .i64 A.hl)∧A.f<W.heap.size:=G.out.cells
theorem FlB.items (G:FlB own c w A st S W) (hk:k<3):W.cell? ⟨A.rg,k*3,none⟩=some (.pointer (some ⟨A.bp k,0,none⟩))∧W.cell? ⟨A.rg,k*3+1,none⟩=some (.int .i64 (st.ref k))∧W.cell? ⟨A.rg,k*3+2,none⟩=some (.int .i64 (st.left k))∧A.rg<W.heap.size:=G.out.items hk
theorem FlB.pinv (G:FlB own c w A st S W):PInv st.p:=G.out.pinv
theorem FlB.turn {st':FSt} (G:FlB own c w A st S W) (k:∀ o,FlAt o c W A st→Kp o 8 c W W'∧∃ o2,(∀ n,n<W.heap.size→o2 n=o n)∧FlAt o2 c W' A st'):FlB own c w A st' S W'∧Same S W W':=by
 obtain ⟨h1,o,h2,h3,h4,h5⟩:=G
 obtain ⟨k1,o2,k2,k3⟩:=k o h2
 refine ⟨⟨h1.chain k1 h5,tight o2 c W'.heap.size,k3.relabel (fun n hn _=>tight_lt hn),fun n hn=>tight_ge hn,fun n hn=>?_,fun n hn=>?_⟩,fun n hn=>k1.block n (h4 n hn).1 (h4 n hn).2,k1.size⟩
 ·have hlt:=Nat.lt_of_lt_of_le (h4 n hn).1 k1.size
  refine ⟨hlt,?_⟩
  rw [tight_lt hlt,k2 n (h4 n hn).1]
  exact (h4 n hn).2
 ·have hlt:=Nat.lt_of_lt_of_le hn h1.size
  rw [tight_lt (Nat.lt_of_lt_of_le hlt k1.size),k2 n hlt]
  exact h5 n hn
theorem FlB.readB {F:FuncId} {args:Array Value} {Q:Ending→World→Prop} (G:FlB own c w A st S W) (hk:k<3) (hC:∀ o i,BookAt o i W (A.bp k) (st.b k)→Calls Tryz.prog F args W fun e w'=>Q e w'∧Ex W w') :
  Calls Tryz.prog F args W fun e w'=>Q e w'∧Ex W w':=G.out.readB hk hC
theorem FlB.band (G:FlB own c w A st S W) (hk:k<3) (r l:Int) :
  FlB own c w A (st.setN k r l) S ((W.setCell ⟨A.rg,k*3+1,none⟩ (.int .i64 r)).setCell ⟨A.rg,k*3+2,none⟩ (.int .i64 l))∧Same S W ((W.setCell ⟨A.rg,k*3+1,none⟩ (.int .i64 r)).setCell ⟨A.rg,k*3+2,none⟩ (.int .i64 l)) :=
 G.turn fun o h=>⟨(h.setBand hk r l).1,o,fun _ _=>rfl,(h.setBand hk r l).2⟩
theorem FlB.grown {row:Option Nat} (G:FlB own c w A st S W) (hg:W.grownBy W' row) (hr:∀ b,row=some b→S b∧w.heap.size≤b) (hS:∀ n,S' n→S n∨(W.heap.size≤n∧n<W'.heap.size)):FlB own c w A st S' W':=by
 obtain ⟨h1,o,h2,h3,h4,h5⟩:=G
 have hz:=hg.size
 obtain ⟨g,hgc,hgr⟩:∃ g,g≠c∧∀ n,row=some n→o n / 8=g:=by
  cases row with
  | none=>exact ⟨c+1,by omega,fun n hn=>by cases hn⟩
  | some b=>exact ⟨o b / 8,(h4 b (hr b rfl).1).2,fun n hn=>by cases hn;rfl⟩
 refine ⟨h1.trans hg.os hg.tape hg.output hz fun n hn hne=>hg.block n (Nat.lt_of_lt_of_le hn h1.size) fun e=>by have:=(hr n e.symm).2;omega,o,?_,fun n hn=>h3 n (Nat.le_trans hz hn),fun n hn=>?_,h5⟩
 ·exact h2.kp (m:=8) (g:=g) (own':=o) ⟨hg.os,hg.tape,hg.output,hz,fun n hn e=>hg.block n hn fun e2=>e (hgr n e2.symm)⟩ (fun j a b=>by omega) (fun _ _ _=>rfl)
 ·rcases hS n hn with h|⟨h,h'⟩
  ·exact ⟨Nat.lt_of_lt_of_le (h4 n h).1 hz,(h4 n h).2⟩
  ·exact ⟨h',h3 n h⟩
end
end Go.Proofs.YtabbgpjofkaomaaGreatDoor
