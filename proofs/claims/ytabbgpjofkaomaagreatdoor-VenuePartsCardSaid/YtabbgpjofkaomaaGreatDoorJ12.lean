import Derived.Test.YtabbgpjofkaomaaGreatDoorJ10
import Derived.Test.YtabbgpjofkaomaaGreatDoorShelf
import Derived.Lib.OwnBridge
import Derived.Deep.AppendLies
import Derived.Lib.SlicesCompact
set_option linter.unusedSimpArgs false
set_option linter.unusedVariables false
/- What curve's Prices computes. -/
namespace Go.Proofs.YtabbgpjofkaomaaGreatDoor
open Go.RowKit Go.Sort
theorem pairwise_get {zs:List Int} (hs:zs.Pairwise (·≤·)) {i j:Nat} (hij:i≤j) (hj:j<zs.length):zs[i]'(by omega)≤zs[j]:=by
 by_cases e:i=j
 ·subst e;exact Int.le_refl _
 ·exact List.pairwise_iff_getElem.1 hs i j (by omega) hj (by omega)
theorem compactUpTo_spec (zs:List Int) (hs:zs.Pairwise (·≤·)):∀ m,m≤zs.length →
  (∀ x∈Lib.compactUpTo zs.toArray m,∃ (i:Nat) (h:i<zs.length),i<m∧zs[i]=x)∧(∀ (i:Nat) (h:i<zs.length),i<m→zs[i]∈Lib.compactUpTo zs.toArray m)∧(Lib.compactUpTo zs.toArray m).Pairwise (·<·)
 | 0,_=>⟨fun x hx=>by simp [Lib.compactUpTo] at hx,fun i _ h=>by omega,by simp [Lib.compactUpTo]⟩
 | m+1,hm=>by
  obtain ⟨h1,h2,h3⟩:=compactUpTo_spec zs hs m (by omega)
  have em:zs.toArray[m]! = zs[m]:=by simp [getElem!_pos,show m<zs.length by omega]
  rw [Lib.compactUpTo_succ]
  by_cases hk:Lib.keeps zs.toArray m=true
  ·rw [if_pos hk,em]
   have hlt:∀ x∈Lib.compactUpTo zs.toArray m,x<zs[m]:=by
    intro x hx
    obtain ⟨i,hi,him,rfl⟩:=h1 x hx
    have e1:zs.toArray[m - 1]! = zs[m - 1]:=by simp [getElem!_pos,show m - 1<zs.length by omega]
    simp only [Lib.keeps,decide_eq_true_eq,em,e1] at hk
    have a:=pairwise_get hs (i:=i) (j:=m - 1) (by omega) (by omega)
    have b:=pairwise_get hs (i:=m - 1) (j:=m) (by omega) (by omega)
    rcases hk with hk|hk<;>omega
   refine ⟨fun x hx=>?_,fun i hi him=>?_,?_⟩
   ·rcases List.mem_append.1 hx with hx|hx
    ·obtain ⟨i,hi,him,e⟩:=h1 x hx
     exact ⟨i,hi,by omega,e⟩
    ·simp at hx;exact ⟨m,by omega,by omega,hx.symm⟩
   ·by_cases e:i=m
    ·subst e;simp
    ·exact List.mem_append_left _ (h2 i hi (by omega))
   ·rw [List.pairwise_append]
    refine ⟨h3,by simp,fun x hx y hy=>?_⟩
    simp at hy
    rw [hy];exact hlt x hx
  ·rw [if_neg hk,List.append_nil]
   refine ⟨fun x hx=>?_,fun i hi him=>?_,h3⟩
   ·obtain ⟨i,hi,him,e⟩:=h1 x hx
    exact ⟨i,hi,by omega,e⟩
   ·by_cases e:i=m
    ·subst e
     have e1:zs.toArray[i - 1]! = zs[i - 1]:=by simp [getElem!_pos,show i - 1<zs.length by omega]
     simp only [Lib.keeps,decide_eq_true_eq,em,e1,not_or,Decidable.not_not] at hk
     rw [hk.2]
     exact h2 (i - 1) (by omega) (by omega)
    ·exact h2 i hi (by omega)
theorem compact_spec (zs:List Int) (hs:zs.Pairwise (·≤·)):(∀ x,x∈Lib.compact zs↔x∈zs)∧(Lib.compact zs).Pairwise (·<·):=by
 obtain ⟨h1,h2,h3⟩:=compactUpTo_spec zs hs zs.length (Nat.le_refl _)
 refine ⟨fun x=>⟨fun hx=>?_,fun hx=>?_⟩,h3⟩
 ·obtain ⟨i,hi,_,rfl⟩:=h1 x hx
  exact List.getElem_mem hi
 ·obtain ⟨i,hi,rfl⟩:=List.getElem_of_mem hx
  exact h2 i hi hi
def pricesL (l:List Lot):List Int:=Lib.compact ((l.map Lot.price).mergeSort fun x y=>decide (x≤y))
theorem pricesL_spec (l:List Lot):(∀ p,p∈pricesL l↔∃ x∈l,x.price=p)∧(pricesL l).Pairwise (·<·):=by
 have hs:((l.map Lot.price).mergeSort fun x y=>decide (x≤y)).Pairwise (·≤·):=by
  have:=List.pairwise_mergeSort (le:=fun x y:Int=>decide (x≤y)) (fun a b c h k=>by simp at h k ⊢;omega) (fun a b=>by simp;omega) (l.map Lot.price)
  exact this.imp fun h=>by simpa using h
 obtain ⟨h1,h2⟩:=compact_spec _ hs
 refine ⟨fun p=>?_,h2⟩
 rw [pricesL,h1,(List.mergeSort_perm _ _).mem_iff,List.mem_map]
theorem pricesL_len (l:List Lot):(pricesL l).length≤l.length:=by
 have h:(Lib.compact ((l.map Lot.price).mergeSort fun x y=>decide (x≤y))).length≤((l.map Lot.price).mergeSort fun x y=>decide (x≤y)).length:=by
  simp only [Lib.compact,Lib.compactUpTo,List.length_map]
  exact Nat.le_trans (List.length_filter_le _ _) (by simp)
 simpa [pricesL] using h
def IntsAt (w:World) (ao:Option Addr) (zs:List Int):Prop:=0<zs.length→∃ b off,ao=some ⟨b,off,none⟩∧b<w.heap.size∧∀ k (hk:k<zs.length),w.cell? ⟨b,off+k,none⟩=some (.int .i64 zs[k])
theorem IntsAt.ex {w w':World} {ao:Option Addr} {zs:List Int} (h:IntsAt w ao zs) (hx:Ex w w'):IntsAt w' ao zs:=fun h0=>by
 obtain ⟨b,off,e,hb,hc⟩:=h h0
 exact ⟨b,off,e,Nat.lt_of_lt_of_le hb hx.below.size,fun k hk=>(hx.below.cell (p:=⟨b,off+k,none⟩) hb).trans (hc k hk)⟩
theorem ints_of_owned {w:World} {base:Nat} {e:TypeId} {g n cap:Nat} {zs:List Int} (h:w.ownsRow base e 1 (.slice (some ⟨g,0,none⟩) n cap) n (zs.map (Value.int .i64))):IntsAt w (some ⟨g,0,none⟩) zs:=fun h0=>by
 obtain ⟨g',cap',e1,hb,hlt,hn,hm,hl,hH⟩:=Lib.holds_of_ownsRow h (by simp)
 cases e1
 refine ⟨g,0,rfl,hlt,fun k hk=>?_⟩
 have:=(hH k (by simpa using hk)).1
 simpa [getElem!_pos,hk] using this
theorem infoInt:(Tryz.prog.info? 3).map (fun i=>(i.zero,i.size,i.bytes))=some (some (.int .i64 0),1,8):=by kernel_rfl
end Go.Proofs.YtabbgpjofkaomaaGreatDoor

/- What curve's Volume and Surplus compute. -/
namespace Go.Proofs.YtabbgpjofkaomaaGreatDoor
open Go.RowKit
theorem curveSum_bounds (is:Lot→Bool) (l:List Lot):0≤curveSum is l∧curveSum is l≤120000:=by
 by_cases h:LotsOk l
 ·rw [curveSum_ok h]
  have:=h.sum_bounds is l.length
  rwa [List.take_length] at this
 ·rw [curveSum_not is h];omega
set_option maxRecDepth 100000 in
theorem volume_any (ao:Option Addr) (len cap:Nat) (l:List Lot) (p:Int) (E:Nat→Addr) (w:World) (hcap:len≤cap) (hE:Errs E [2,7,8] w) (hl:LotsAt w ao len l) :
  Calls Tryz.prog 187 #[.slice ao len cap,.int .i64 p] w fun e w'=>e=.returned (.int .i64 (min (curveSum (isDem p) l) (curveSum (isSup p) l)))∧Ex w w':=by
 have HL:=Lib.hid hl
 have b1:=curveSum_bounds (isDem p) l
 have b2:=curveSum_bounds (isSup p) l
 clear hl
 go_enter Tryz.func187,Tryz.ntmps187
 go_wp2_with (first
  | (go_at_call 208;refine (demand_any _ _ _ l p E _ hcap (by exact Errs.sub (hE.ex (by repeat (first|exact Ex.refl _|refine Ex.alloc ?_ _|refine Ex.ext ?_ _ _|refine Ex.drew ?_|refine Ex.drewN ?_ _))) (by decide)) (HL.out.ex (by repeat (first|exact Ex.refl _|refine Ex.alloc ?_ _|refine Ex.ext ?_ _ _|refine Ex.drew ?_|refine Ex.drewN ?_ _)))).mono ?_;rintro e w1 ⟨rfl,l3,d3,rfl⟩)
  | (go_at_call 209;refine (supply_any _ _ _ l p E _ hcap (by exact Errs.sub (hE.ex (by repeat (first|exact Ex.refl _|refine Ex.alloc ?_ _|refine Ex.ext ?_ _ _|refine Ex.drew ?_|refine Ex.drewN ?_ _))) (by decide)) (HL.out.ex (by repeat (first|exact Ex.refl _|refine Ex.alloc ?_ _|refine Ex.ext ?_ _ _|refine Ex.drew ?_|refine Ex.drewN ?_ _)))).mono ?_;rintro e w1 ⟨rfl,l4,d4,rfl⟩))
 all_goals go_ret
 all_goals exact ⟨ret_int (by first|rfl|omega),(by repeat (first|exact Ex.refl _|refine Ex.alloc ?_ _|refine Ex.ext ?_ _ _|refine Ex.drew ?_|refine Ex.drewN ?_ _))⟩
end Go.Proofs.YtabbgpjofkaomaaGreatDoor

/- What curve's Best and Cross compute. -/
namespace Go.Proofs.YtabbgpjofkaomaaGreatDoor
open Go.RowKit
end Go.Proofs.YtabbgpjofkaomaaGreatDoor
