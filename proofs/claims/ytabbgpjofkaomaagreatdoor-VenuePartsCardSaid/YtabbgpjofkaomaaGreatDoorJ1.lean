import Derived.Test.YtabbgpjofkaomaaGreatDoorJ0
import Derived.Test.YtabbgpjofkaomaaGreatDoorChecked
import Derived.Deep.DeepCutAuto
import Derived.Deep.AppendLies
import Derived.Lib.SliceRun
set_option linter.unusedSimpArgs false
set_option linter.unusedVariables false
/- What curve's One and Check compute. -/
namespace Go.Proofs.YtabbgpjofkaomaaGreatDoor
open Go.RowKit
def Lot.ok (l:Lot):Bool:=inR l.id 1 1073741824 && inR l.owner 0 5 && inR l.side 0 1 && inR l.price 1 1000 && inR l.qty 1 1000
set_option maxRecDepth 100000 in
set_option maxHeartbeats 2000000 in
theorem one_any (l:Lot) (E:Nat→Addr) (w:World) (hE:Errs E [2] w) :
  Calls Tryz.prog 180 #[l.val] w fun e w'=>e=.returned (errV E (if l.ok then 0 else 2))∧Ex w w':=by
 have e2:w.cell? ⟨0,0,none⟩=some (.iface 357 (.pointer (some (E 2)))):=hE 2 (by decide)
 have b2:0<w.heap.size:=lt_of_cell e2
 clear hE
 by_cases h1:l.id<1
 ·have hk:l.ok=false:=by simp only [Lot.ok,inR,Bool.and_eq_true,Bool.and_eq_false_iff,decide_eq_true_eq,decide_eq_false_iff_not];omega
  rw [hk]
  clear hk
  go_enter Tryz.func180,Tryz.ntmps180
  go_wp2
  all_goals go_ret
  all_goals exact ⟨congrArg Ending.returned (by simp [errV, *]),(by repeat (first|exact Ex.refl _|refine Ex.alloc ?_ _|refine Ex.ext ?_ _ _|refine Ex.drew ?_|refine Ex.drewN ?_ _))⟩
 by_cases h2:l.id > 1073741824
 ·have hk:l.ok=false:=by simp only [Lot.ok,inR,Bool.and_eq_true,Bool.and_eq_false_iff,decide_eq_true_eq,decide_eq_false_iff_not];omega
  rw [hk]
  clear hk
  go_enter Tryz.func180,Tryz.ntmps180
  go_wp2
  all_goals go_ret
  all_goals exact ⟨congrArg Ending.returned (by simp [errV, *]),(by repeat (first|exact Ex.refl _|refine Ex.alloc ?_ _|refine Ex.ext ?_ _ _|refine Ex.drew ?_|refine Ex.drewN ?_ _))⟩
 by_cases h3:l.owner<0
 ·have hk:l.ok=false:=by simp only [Lot.ok,inR,Bool.and_eq_true,Bool.and_eq_false_iff,decide_eq_true_eq,decide_eq_false_iff_not];omega
  rw [hk]
  clear hk
  go_enter Tryz.func180,Tryz.ntmps180
  go_wp2
  all_goals go_ret
  all_goals exact ⟨congrArg Ending.returned (by simp [errV, *]),(by repeat (first|exact Ex.refl _|refine Ex.alloc ?_ _|refine Ex.ext ?_ _ _|refine Ex.drew ?_|refine Ex.drewN ?_ _))⟩
 by_cases h4:l.owner ≥ 6
 ·have hk:l.ok=false:=by simp only [Lot.ok,inR,Bool.and_eq_true,Bool.and_eq_false_iff,decide_eq_true_eq,decide_eq_false_iff_not];omega
  rw [hk]
  clear hk
  go_enter Tryz.func180,Tryz.ntmps180
  go_wp2
  all_goals go_ret
  all_goals exact ⟨congrArg Ending.returned (by simp [errV, *]),(by repeat (first|exact Ex.refl _|refine Ex.alloc ?_ _|refine Ex.ext ?_ _ _|refine Ex.drew ?_|refine Ex.drewN ?_ _))⟩
 by_cases h5:l.side=0
 ·by_cases h6:l.price<1
  ·have hk:l.ok=false:=by simp only [Lot.ok,inR,Bool.and_eq_true,Bool.and_eq_false_iff,decide_eq_true_eq,decide_eq_false_iff_not];omega
   rw [hk]
   clear hk
   go_enter Tryz.func180,Tryz.ntmps180
   go_wp2
   all_goals go_ret
   all_goals exact ⟨congrArg Ending.returned (by simp [errV, *]),(by repeat (first|exact Ex.refl _|refine Ex.alloc ?_ _|refine Ex.ext ?_ _ _|refine Ex.drew ?_|refine Ex.drewN ?_ _))⟩
  by_cases h7:l.price > 1000
  ·have hk:l.ok=false:=by simp only [Lot.ok,inR,Bool.and_eq_true,Bool.and_eq_false_iff,decide_eq_true_eq,decide_eq_false_iff_not];omega
   rw [hk]
   clear hk
   go_enter Tryz.func180,Tryz.ntmps180
   go_wp2
   all_goals go_ret
   all_goals exact ⟨congrArg Ending.returned (by simp [errV, *]),(by repeat (first|exact Ex.refl _|refine Ex.alloc ?_ _|refine Ex.ext ?_ _ _|refine Ex.drew ?_|refine Ex.drewN ?_ _))⟩
  by_cases h8:l.qty<1
  ·have hk:l.ok=false:=by simp only [Lot.ok,inR,Bool.and_eq_true,Bool.and_eq_false_iff,decide_eq_true_eq,decide_eq_false_iff_not];omega
   rw [hk]
   clear hk
   go_enter Tryz.func180,Tryz.ntmps180
   go_wp2
   all_goals go_ret
   all_goals exact ⟨congrArg Ending.returned (by simp [errV, *]),(by repeat (first|exact Ex.refl _|refine Ex.alloc ?_ _|refine Ex.ext ?_ _ _|refine Ex.drew ?_|refine Ex.drewN ?_ _))⟩
  by_cases h9:l.qty > 1000
  ·have hk:l.ok=false:=by simp only [Lot.ok,inR,Bool.and_eq_true,Bool.and_eq_false_iff,decide_eq_true_eq,decide_eq_false_iff_not];omega
   rw [hk]
   clear hk
   go_enter Tryz.func180,Tryz.ntmps180
   go_wp2
   all_goals go_ret
   all_goals exact ⟨congrArg Ending.returned (by simp [errV, *]),(by repeat (first|exact Ex.refl _|refine Ex.alloc ?_ _|refine Ex.ext ?_ _ _|refine Ex.drew ?_|refine Ex.drewN ?_ _))⟩
  ·have hk:l.ok=true:=by simp only [Lot.ok,inR,Bool.and_eq_true,Bool.and_eq_false_iff,decide_eq_true_eq,decide_eq_false_iff_not];omega
   rw [hk]
   clear hk
   go_enter Tryz.func180,Tryz.ntmps180
   go_wp2
   all_goals go_ret
   all_goals exact ⟨congrArg Ending.returned (by simp [errV, *]),(by repeat (first|exact Ex.refl _|refine Ex.alloc ?_ _|refine Ex.ext ?_ _ _|refine Ex.drew ?_|refine Ex.drewN ?_ _))⟩
 by_cases h6:l.side=1
 ·by_cases h6':l.price<1
  ·have hk:l.ok=false:=by simp only [Lot.ok,inR,Bool.and_eq_true,Bool.and_eq_false_iff,decide_eq_true_eq,decide_eq_false_iff_not];omega
   rw [hk]
   clear hk
   go_enter Tryz.func180,Tryz.ntmps180
   go_wp2
   all_goals go_ret
   all_goals exact ⟨congrArg Ending.returned (by simp [errV, *]),(by repeat (first|exact Ex.refl _|refine Ex.alloc ?_ _|refine Ex.ext ?_ _ _|refine Ex.drew ?_|refine Ex.drewN ?_ _))⟩
  by_cases h7:l.price > 1000
  ·have hk:l.ok=false:=by simp only [Lot.ok,inR,Bool.and_eq_true,Bool.and_eq_false_iff,decide_eq_true_eq,decide_eq_false_iff_not];omega
   rw [hk]
   clear hk
   go_enter Tryz.func180,Tryz.ntmps180
   go_wp2
   all_goals go_ret
   all_goals exact ⟨congrArg Ending.returned (by simp [errV, *]),(by repeat (first|exact Ex.refl _|refine Ex.alloc ?_ _|refine Ex.ext ?_ _ _|refine Ex.drew ?_|refine Ex.drewN ?_ _))⟩
  by_cases h8:l.qty<1
  ·have hk:l.ok=false:=by simp only [Lot.ok,inR,Bool.and_eq_true,Bool.and_eq_false_iff,decide_eq_true_eq,decide_eq_false_iff_not];omega
   rw [hk]
   clear hk
   go_enter Tryz.func180,Tryz.ntmps180
   go_wp2
   all_goals go_ret
   all_goals exact ⟨congrArg Ending.returned (by simp [errV, *]),(by repeat (first|exact Ex.refl _|refine Ex.alloc ?_ _|refine Ex.ext ?_ _ _|refine Ex.drew ?_|refine Ex.drewN ?_ _))⟩
  by_cases h9:l.qty > 1000
  ·have hk:l.ok=false:=by simp only [Lot.ok,inR,Bool.and_eq_true,Bool.and_eq_false_iff,decide_eq_true_eq,decide_eq_false_iff_not];omega
   rw [hk]
   clear hk
   go_enter Tryz.func180,Tryz.ntmps180
   go_wp2
   all_goals go_ret
   all_goals exact ⟨congrArg Ending.returned (by simp [errV, *]),(by repeat (first|exact Ex.refl _|refine Ex.alloc ?_ _|refine Ex.ext ?_ _ _|refine Ex.drew ?_|refine Ex.drewN ?_ _))⟩
  ·have hk:l.ok=true:=by simp only [Lot.ok,inR,Bool.and_eq_true,Bool.and_eq_false_iff,decide_eq_true_eq,decide_eq_false_iff_not];omega
   rw [hk]
   clear hk
   go_enter Tryz.func180,Tryz.ntmps180
   go_wp2
   all_goals go_ret
   all_goals exact ⟨congrArg Ending.returned (by simp [errV, *]),(by repeat (first|exact Ex.refl _|refine Ex.alloc ?_ _|refine Ex.ext ?_ _ _|refine Ex.drew ?_|refine Ex.drewN ?_ _))⟩
 ·have hk:l.ok=false:=by simp only [Lot.ok,inR,Bool.and_eq_true,Bool.and_eq_false_iff,decide_eq_true_eq,decide_eq_false_iff_not];omega
  rw [hk]
  clear hk
  go_enter Tryz.func180,Tryz.ntmps180
  go_wp2
  all_goals go_ret
  all_goals exact ⟨congrArg Ending.returned (by simp [errV, *]),(by repeat (first|exact Ex.refl _|refine Ex.alloc ?_ _|refine Ex.ext ?_ _ _|refine Ex.drew ?_|refine Ex.drewN ?_ _))⟩
end Go.Proofs.YtabbgpjofkaomaaGreatDoor

/- What Check's search for an ID computes. -/
namespace Go.Proofs.YtabbgpjofkaomaaGreatDoor
open Go.RowKit
def idIdx (l:List Lot) (id:Int):Int:=match l.findIdx? (fun y=>y.id==id) with|some k=>(k:Int)|none=>-1
theorem idIdx_some {l:List Lot} {id:Int} {k:Nat} (hk:k<l.length) (h:l[k].id=id) (hn:∀ j,(hj:j<k)→l[j].id≠id):idIdx l id=k:=by
 have:l.findIdx? (fun y=>y.id==id)=some k:=by
  rw [List.findIdx?_eq_some_iff_getElem]
  exact ⟨hk,by simpa using h,fun j hj=>by simpa using hn j hj⟩
 simp [idIdx,this]
theorem idIdx_none {l:List Lot} {id:Int} (hn:∀ j,(hj:j<l.length)→l[j].id≠id):idIdx l id=-1:=by
 have:l.findIdx? (fun y=>y.id==id)=none:=by
  rw [List.findIdx?_eq_none_iff]
  intro y hy
  obtain ⟨j,hj,rfl⟩:=List.getElem_of_mem hy
  simpa using hn j hj
 simp [idIdx,this]
set_option maxRecDepth 100000 in
theorem sameId_any (y:Lot) (id:Int) (xb:Nat) (w:World) (hx:w.cell? ⟨xb,0,none⟩=some (.int .i64 id)) :
  Calls Tryz.prog 207 #[y.val,.pointer (some ⟨xb,0,none⟩)] w fun e w'=>e=.returned (.bool (y.id==id))∧Ex w w':=by
 have hb:=lt_of_cell hx
 go_enter Tryz.func207,Tryz.ntmps207
 go_wp2
 all_goals go_ret
 all_goals exact ⟨ret_bool (by simp),(by repeat (first|exact Ex.refl _|refine Ex.alloc ?_ _|refine Ex.ext ?_ _ _|refine Ex.drew ?_|refine Ex.drewN ?_ _))⟩
set_option maxRecDepth 100000 in
set_option maxHeartbeats 1000000 in
theorem index_any (ao:Option Addr) (len cap:Nat) (l:List Lot) (id:Int) (xb:Nat) (w:World) (hl:LotsAt w ao len l) (hx:w.cell? ⟨xb,0,none⟩=some (.int .i64 id)) :
  Calls Tryz.prog 192 #[.slice ao len cap,.func (.func 207) #[] #[.pointer (some ⟨xb,0,none⟩)]] w fun e w' =>
   e=.returned (.int .i64 (idIdx l id))∧Ex w w':=by
 obtain ⟨hlen,hmx,hwf,hz⟩:=hl
 have hb:=lt_of_cell hx
 have HZ:=Lib.hid hz
 have HL:=Lib.hid hlen
 clear hz hlen hwf
 go_enter Tryz.func192,Tryz.ntmps192
 go_wp2
 go_loopw [8] (fun i wr=>∃ (k:Nat),k≤len∧i=.int .i64 k∧(∀ j,(hj:j<l.length)→j<k→l[j].id≠id)∧Ex w wr) (fun i _=>len - (intOf i).toNat)
 case atStart=>exact ⟨0,Nat.zero_le _,rfl,(fun j hj h=>absurd h (Nat.not_lt_zero _)),(by repeat (first|exact Ex.refl _|refine Ex.alloc ?_ _|refine Ex.ext ?_ _ _|refine Ex.drew ?_|refine Ex.drewN ?_ _))⟩
 case round =>
  obtain ⟨k,hk,rfl,hn,l1,d1,rfl⟩:=hrel
  have HN:=Lib.hid hn
  clear hn
  by_cases hlt:k<len
  ·obtain ⟨b,off,rfl,hbs,hz⟩:=HZ.out (by omega)
   have hzk:=hz k (by rw [HL.out];exact hlt)
   clear hz
   have hg:∃ a,a=l[k]'(by rw [HL.out];exact hlt):=⟨_,rfl⟩
   obtain ⟨a,ha⟩:=hg
   rw [← ha] at hzk
   have HA:=Lib.hid ha
   clear ha
   have a0:=hzk 0 (by omega)
   have a1:=hzk 1 (by omega)
   have a2:=hzk 2 (by omega)
   have a3:=hzk 3 (by omega)
   have a4:=hzk 4 (by omega)
   simp only [Lot.cells,List.getElem?_cons_zero,List.getElem?_cons_succ,Nat.add_zero] at a0 a1 a2 a3 a4
   clear hzk
   go_wp2_with (go_at_call 207;refine (sameId_any a id xb _ (by simp [go_sem,↓IntWalk.iteOmega, *])).mono ?_;rintro e w1 ⟨rfl,l2,d2,rfl⟩)
   ·go_ret
    rename_i hid
    exact ⟨ret_int (idIdx_some (k:=k) (by rw [HL.out];exact hlt) (by rw [← HA.out];simpa using hid) (fun j hj=>HN.out j (by have:=HL.out;omega) hj)).symm,(by repeat (first|exact Ex.refl _|refine Ex.alloc ?_ _|refine Ex.ext ?_ _ _|refine Ex.drew ?_|refine Ex.drewN ?_ _))⟩
   ·rename_i hid
    go_roundw
    case measure=>simp [intOf];omega
    case rel =>
     refine ⟨k+1,by omega,by go_num,fun j hj hjk=>?_,(by repeat (first|exact Ex.refl _|refine Ex.alloc ?_ _|refine Ex.ext ?_ _ _|refine Ex.drew ?_|refine Ex.drewN ?_ _))⟩
     by_cases e:j=k
     ·subst e
      rw [← HA.out];simpa using hid
     ·exact HN.out j hj (by omega)
  ·go_wp2
   go_ret
   exact ⟨ret_int (idIdx_none fun j hj=>HN.out j hj (by have:=HL.out;omega)).symm,(by repeat (first|exact Ex.refl _|refine Ex.alloc ?_ _|refine Ex.ext ?_ _ _|refine Ex.drew ?_|refine Ex.drewN ?_ _))⟩
end Go.Proofs.YtabbgpjofkaomaaGreatDoor

/- What a book's search for an ID computes. -/
namespace Go.Proofs.YtabbgpjofkaomaaGreatDoor
open Go.RowKit
set_option maxRecDepth 100000 in
theorem sameIdB_any (y:Lot) (id:Int) (xb:Nat) (w:World) (hx:w.cell? ⟨xb,0,none⟩=some (.int .i64 id)) :
  Calls Tryz.prog 193 #[y.val,.pointer (some ⟨xb,0,none⟩)] w fun e w'=>e=.returned (.bool (y.id==id))∧Ex w w':=by
 have hb:=lt_of_cell hx
 go_enter Tryz.func193,Tryz.ntmps193
 go_wp2
 all_goals go_ret
 all_goals exact ⟨ret_bool (by simp),(by repeat (first|exact Ex.refl _|refine Ex.alloc ?_ _|refine Ex.ext ?_ _ _|refine Ex.drew ?_|refine Ex.drewN ?_ _))⟩
set_option maxRecDepth 100000 in
set_option maxHeartbeats 1000000 in
theorem indexB_any (ao:Option Addr) (len cap:Nat) (l:List Lot) (id:Int) (xb:Nat) (w:World) (hl:LotsAt w ao len l) (hx:w.cell? ⟨xb,0,none⟩=some (.int .i64 id)) :
  Calls Tryz.prog 192 #[.slice ao len cap,.func (.func 193) #[] #[.pointer (some ⟨xb,0,none⟩)]] w fun e w' =>
   e=.returned (.int .i64 (idIdx l id))∧Ex w w':=by
 obtain ⟨hlen,hmx,hwf,hz⟩:=hl
 have hb:=lt_of_cell hx
 have HZ:=Lib.hid hz
 have HL:=Lib.hid hlen
 clear hz hlen hwf
 go_enter Tryz.func192,Tryz.ntmps192
 go_wp2
 go_loopw [8] (fun i wr=>∃ (k:Nat),k≤len∧i=.int .i64 k∧(∀ j,(hj:j<l.length)→j<k→l[j].id≠id)∧Ex w wr) (fun i _=>len - (intOf i).toNat)
 case atStart=>exact ⟨0,Nat.zero_le _,rfl,(fun j hj h=>absurd h (Nat.not_lt_zero _)),(by repeat (first|exact Ex.refl _|refine Ex.alloc ?_ _|refine Ex.ext ?_ _ _|refine Ex.drew ?_|refine Ex.drewN ?_ _))⟩
 case round =>
  obtain ⟨k,hk,rfl,hn,l1,d1,rfl⟩:=hrel
  have HN:=Lib.hid hn
  clear hn
  by_cases hlt:k<len
  ·obtain ⟨b,off,rfl,hbs,hz⟩:=HZ.out (by omega)
   have hzk:=hz k (by rw [HL.out];exact hlt)
   clear hz
   have hg:∃ a,a=l[k]'(by rw [HL.out];exact hlt):=⟨_,rfl⟩
   obtain ⟨a,ha⟩:=hg
   rw [← ha] at hzk
   have HA:=Lib.hid ha
   clear ha
   have a0:=hzk 0 (by omega)
   have a1:=hzk 1 (by omega)
   have a2:=hzk 2 (by omega)
   have a3:=hzk 3 (by omega)
   have a4:=hzk 4 (by omega)
   simp only [Lot.cells,List.getElem?_cons_zero,List.getElem?_cons_succ,Nat.add_zero] at a0 a1 a2 a3 a4
   clear hzk
   go_wp2_with (go_at_call 193;refine (sameIdB_any a id xb _ (by simp [go_sem,↓IntWalk.iteOmega, *])).mono ?_;rintro e w1 ⟨rfl,l2,d2,rfl⟩)
   ·go_ret
    rename_i hid
    exact ⟨ret_int (idIdx_some (k:=k) (by rw [HL.out];exact hlt) (by rw [← HA.out];simpa using hid) (fun j hj=>HN.out j (by have:=HL.out;omega) hj)).symm,(by repeat (first|exact Ex.refl _|refine Ex.alloc ?_ _|refine Ex.ext ?_ _ _|refine Ex.drew ?_|refine Ex.drewN ?_ _))⟩
   ·rename_i hid
    go_roundw
    case measure=>simp [intOf];omega
    case rel =>
     refine ⟨k+1,by omega,by go_num,fun j hj hjk=>?_,(by repeat (first|exact Ex.refl _|refine Ex.alloc ?_ _|refine Ex.ext ?_ _ _|refine Ex.drew ?_|refine Ex.drewN ?_ _))⟩
     by_cases e:j=k
     ·subst e
      rw [← HA.out];simpa using hid
     ·exact HN.out j hj (by omega)
  ·go_wp2
   go_ret
   exact ⟨ret_int (idIdx_none fun j hj=>HN.out j hj (by have:=HL.out;omega)).symm,(by repeat (first|exact Ex.refl _|refine Ex.alloc ?_ _|refine Ex.ext ?_ _ _|refine Ex.drew ?_|refine Ex.drewN ?_ _))⟩
end Go.Proofs.YtabbgpjofkaomaaGreatDoor

/- A book of lots that rest. What New, find and Lots of package book compute. -/
namespace Go.Proofs.YtabbgpjofkaomaaGreatDoor
open Go.RowKit
theorem lotc_len (x:Lot):x.cells.length=5:=rfl
theorem lot_one (l:List Lot):∀ u∈flat Lot.cells l,u.oneCell'=true:=by
 intro u hu
 obtain ⟨x,_,hx⟩:=List.mem_flatMap.1 hu
 simp only [Lot.cells,List.mem_cons,List.not_mem_nil,or_false] at hx
 rcases hx with rfl|rfl|rfl|rfl|rfl<;>rfl
theorem lotsB_of_row {w:World} {e:TypeId} {ao:Option Addr} {n cap:Nat} {l:List Lot} (hwf:∀ a∈l,a.wf) (hn:n≤9223372036854775807) (hl:l.length=n) (h:RowAt w e 5 (.slice ao n cap) n (flat Lot.cells l)):LotsAt w ao n l:=by
 refine ⟨hl,hn,hwf,fun h0=>?_⟩
 have h':=h
 obtain ⟨_,⟨hv,hz⟩|⟨g,off,cap',cur,hv,⟨fr,hg,_⟩,_⟩⟩:=h
 ·omega
 ·cases hv
  refine ⟨g,off,rfl,(Array.getElem?_eq_some_iff.1 hg).1,fun k hk j hj=>?_⟩
  rw [Nat.add_assoc,h'.cell (j:=k*5+j) (by omega),flat_get lotc_len l k hk j hj]
def BookAt (own:Nat→Nat) (i:Nat) (w:World) (p:Nat) (l:List Lot):Prop:=l.length≤60∧(∀ x∈l,x.wf)∧∃ v,OneAt own i w p 1 (fun _=>.nilIface) 131 5 v l.length (flat Lot.cells l)
section
variable {own own':Nat→Nat} {i m g:Nat} {w w':World} {p:Nat} {l:List Lot}
theorem BookAt.lt (h:BookAt own i w p l):p<w.heap.size:=by obtain ⟨_,_,v,h⟩:=h;exact h.lt
theorem BookAt.kp (h:BookAt own i w p l) (hk:Kp own m g w w') (hi:i / m≠g) (ho:∀ n,n<w.heap.size→own n=i→own' n=i):BookAt own' i w' p l:=by
 obtain ⟨h1,h2,v,h3⟩:=h
 exact ⟨h1,h2,v,h3.kp hk hi ho⟩
theorem BookAt.relabel (h:BookAt own i w p l) (ho:∀ n,n<w.heap.size→own n=i→own' n=i):BookAt own' i w p l:=h.kp (m:=1) (g:=i+1) (Kp.refl _ _ _ _) (by simp) ho
theorem BookAt.later (h:BookAt own i w p l) (hx:Ex w w'):BookAt own i w' p l:=by
 obtain ⟨h1,h2,v,h3⟩:=h
 exact ⟨h1,h2,v,h3.later hx⟩
theorem BookAt.keep (h:BookAt own i w p l) (hx:Ex w w'):ObjTo own i i w (fun o w'=>BookAt o i w' p l) w':=ObjTo.of_ex hx ((h.relabel (fun n hn e=>by rw [lab_lt hn];exact e)).later hx)
theorem BookAt.slice (h:BookAt own i w p l):∃ ao cap,w.cell? ⟨p,0,none⟩=some (.slice ao l.length cap)∧l.length≤cap∧cap≤maxLen∧(ao=none→cap=0)∧LotsAt w ao l.length l∧RowAt w 131 5 (.slice ao l.length cap) l.length (flat Lot.cells l):=by
 obtain ⟨h1,h2,v,h3⟩:=h
 obtain ⟨ao,cap,rfl,hc,hm,h0,_⟩:=h3.2.1.form
 exact ⟨ao,cap,h3.cell0 (by decide),hc,hm,h0,lotsB_of_row h2 (by omega) rfl h3.2.1.1,h3.2.1.1⟩
end
section
variable {own:Nat→Nat} {i:Nat} {w:World} {p:Nat} {l:List Lot}
set_option maxRecDepth 100000 in
theorem find_any (h:BookAt own i w p l) (id:Int):Calls Tryz.prog 156 #[.pointer (some ⟨p,0,none⟩),.int .i64 id] w fun e w'=>e=.returned (.int .i64 (idIdx l id))∧Ex w w':=by
 obtain ⟨ao,cap,c0,hc,hm,h0,hl,hr⟩:=h.slice
 have hp:=h.lt
 have HI:=Lib.hid (fun xb W hx hW=>indexB_any ao l.length cap l id xb W hW hx)
 have HL:=Lib.hid (fun W (hx:Ex w W)=>(show LotsAt W ao l.length l from by
  obtain ⟨a1,a2,a3,a4⟩:=hl
  exact ⟨a1,a2,a3,fun hz=>by
   obtain ⟨b,off,e,hb,hcc⟩:=a4 hz
   exact ⟨b,off,e,Nat.lt_of_lt_of_le hb hx.below.size,fun k hk j hj=>(hx.below.cell (p:=⟨b,off+k*5+j,none⟩) hb).trans (hcc k hk j hj)⟩⟩))
 clear hl hr h
 go_enter Tryz.func156,Tryz.ntmps156
 go_wp2_with (go_at_call 192;refine (HI.out w.heap.size _ ?_ ?_).mono ?_;(focus (simp [go_sem]));(focus (exact HL.out _ (by repeat (first|exact Ex.refl _|refine Ex.alloc ?_ _|refine Ex.ext ?_ _ _|refine Ex.drew ?_|refine Ex.drewN ?_ _))));rintro e w1 ⟨rfl,l1,d1,rfl⟩)
 all_goals go_ret
 all_goals exact ⟨rfl,(by repeat (first|exact Ex.refl _|refine Ex.alloc ?_ _|refine Ex.ext ?_ _ _|refine Ex.drew ?_|refine Ex.drewN ?_ _))⟩
theorem infoLotB:(Tryz.prog.info? 131).map (fun i=>(i.zero,i.size,i.bytes))=some (some (.agg #[.int .i64 0,.int .i64 0,.int .i64 0,.int .i64 0,.int .i64 0]),5,40):=by kernel_rfl
def LotsRow (base:Nat) (l:List Lot) (v:Value) (w:World):Prop:=w.ownsRow base 131 5 v l.length (flat Lot.cells l)
set_option maxRecDepth 100000 in
theorem clone_any (ao:Option Addr) (cap:Nat) (l:List Lot) (w:World) (hl:l.length≤1000) (h0:ao=none→cap=0) (hr:RowAt w 131 5 (.slice ao l.length cap) l.length (flat Lot.cells l)) :
  Calls Tryz.prog 61 #[.slice ao l.length cap] w fun e w'=>(∃ v,e=.returned v∧LotsRow w.heap.size l v w')∧Ex w w':=by
 obtain ⟨i0,hi0,hz0,hz1,hz2⟩:=info_parts infoLotB
 have HR:=Lib.hid hr
 obtain ⟨_,⟨hv,hz⟩|⟨g,off,cap',cur,hv,⟨fr,hg,_⟩,hnc,hm,hs,ht⟩⟩:=hr
 ·obtain ⟨rfl,_,rfl⟩:ao=none∧l.length=0∧cap=0:=by injection hv with e1 e2 e3;exact ⟨e1,hz,e3⟩
  obtain rfl:l=[]:=List.eq_nil_of_length_eq_zero hz
  have he:=fun w n c=>Go.Lib.run_eql_slice_nil (P:=Tryz.prog) w 65 131 none n c 0 0 Tryz.underlying65
  go_enter Tryz.func61,Tryz.ntmps61
  go_wp2_with fail
  all_goals go_ret
  all_goals exact ⟨⟨_,rfl,World.ownsRow_nil _ _ _ _⟩,(by repeat (first|exact Ex.refl _|refine Ex.alloc ?_ _|refine Ex.ext ?_ _ _|refine Ex.drew ?_|refine Ex.drewN ?_ _))⟩
 ·obtain ⟨rfl,rfl⟩:ao=some ⟨g,off,none⟩∧cap=cap':=by cases hv;exact ⟨rfl,rfl⟩
  have hgl:=(Array.getElem?_eq_some_iff.1 hg).1
  have hcell:∀ j u,(flat Lot.cells l)[j]?=some u→(w.alloc (.cells #[] 131)).cell? ((⟨g,off,none⟩:Addr).add j)=some u:=fun j u hu=>by
   have hj:j<l.length*5:=by
    have:=(List.getElem?_eq_some_iff.1 hu).1
    rwa [flat_length lotc_len] at this
   rw [addr_add,← hu,← HR.out.cell hj]
   exact ((Ex.refl w).alloc _).below.cell (p:=⟨g,off+j,none⟩) hgl
  have HC:=Lib.hid hcell
  have hfl:=flat_length lotc_len l
  have h1l:=lot_one l
  have HF:=Lib.hid hfl
  have H1:=Lib.hid h1l
  clear hcell hg ht hs hv hfl h1l
  have he:=fun w n c=>Go.Lib.run_eql_slice_nil (P:=Tryz.prog) w 65 131 (some ⟨g,off,none⟩) n c 0 0 Tryz.underlying65
  go_enter Tryz.func61,Tryz.ntmps61
  go_wp2_with (at_builtin;refine wpList_append_own _ rfl (.tmp 5) (.tmp 6) 65 rfl w.heap.size 131 i0 _ 5 40 Tryz.underlying65 hi0 hz0 hz1 hz2 rfl (by decide) (.slice (some ⟨w.heap.size,0,none⟩) 0 0) 0 [] rfl (World.ownsRow_made w #[] 0 (Nat.le_refl _) (by decide) (by simp)) ⟨g,off,none⟩ l.length cap (flat Lot.cells l) rfl HF.out HC.out H1.out (by unfold maxLen;omega) (by omega) (by simp) ?_;intro v1 w3 hown hgrow hnil)
  all_goals go_ret
  all_goals
   rw [Nat.zero_add,List.nil_append] at hown
   exact ⟨⟨_,rfl,hown⟩,Ex.of (Below.grown ((Ex.refl w).alloc _).below hgrow (by simp) (fun k hk=>by cases hk;exact Nat.le_refl _))⟩
end
end Go.Proofs.YtabbgpjofkaomaaGreatDoor

/- What Lots and Get of package book compute. -/
namespace Go.Proofs.YtabbgpjofkaomaaGreatDoor
open Go.RowKit
section
variable {own:Nat→Nat} {i:Nat} {w:World} {p:Nat} {l:List Lot}
set_option maxRecDepth 100000 in
theorem lots_any (h:BookAt own i w p l):Calls Tryz.prog 24 #[.pointer (some ⟨p,0,none⟩)] w fun e w'=>(∃ v,e=.returned v∧LotsRow w.heap.size l v w')∧Ex w w':=by
 obtain ⟨ao,cap,c0,hc,hm,h0,hl,hr⟩:=h.slice
 have hb:=h.1
 have HC:=Lib.hid (clone_any ao cap l w (by omega) h0 hr)
 clear hl hr h h0
 go_enter Tryz.func24,Tryz.ntmps24
 go_wp2_with (go_at_call 61;refine HC.out.mono ?_;rintro e w1 ⟨⟨v,rfl,hv⟩,l1,d1,rfl⟩)
 all_goals go_ret
 all_goals exact ⟨⟨v,rfl,hv⟩,(by repeat (first|exact Ex.refl _|refine Ex.alloc ?_ _|refine Ex.ext ?_ _ _|refine Ex.drew ?_|refine Ex.drewN ?_ _))⟩
theorem idIdx_cases (l:List Lot) (id:Int):(∃ k,∃ hk:k<l.length,idIdx l id=(k:Int)∧l[k].id=id∧l.findIdx? (fun y=>y.id==id)=some k)∨(idIdx l id=-1∧∀ x∈l,x.id≠id):=by
 unfold idIdx
 cases hf:l.findIdx? (fun y=>y.id==id) with
 | none =>
  right
  rw [List.findIdx?_eq_none_iff] at hf
  exact ⟨rfl,fun x hx e=>by have:=hf x hx;simp [e] at this⟩
 | some k =>
  left
  rw [List.findIdx?_eq_some_iff_getElem] at hf
  obtain ⟨hk,h1,_⟩:=hf
  exact ⟨k,hk,rfl,by simpa using h1,rfl⟩
def zeroLot:Lot:=⟨0,0,0,0,0⟩
set_option maxRecDepth 100000 in
theorem get_in (h:BookAt own i w p l) (id:Int) (k:Nat) (hk:k<l.length) (hi:idIdx l id=(k:Int)) :
  Calls Tryz.prog 124 #[.pointer (some ⟨p,0,none⟩),.int .i64 id] w fun e w'=>e=.returned (.tuple #[l[k].val,.bool true])∧Ex w w':=by
 obtain ⟨ao,cap,c0,hc,hm,h0,hl,hr⟩:=h.slice
 have hp:=h.lt
 have hb:=h.1
 have HF:=Lib.hid (fun W (hx:Ex w W)=>find_any (h.later hx) id)
 rw [hi] at HF
 obtain ⟨_,_,_,hz⟩:=hl
 obtain ⟨g,off,rfl,hg,hcc⟩:=hz (by omega)
 have hzk:=hcc k hk
 have a0:=hzk 0 (by omega)
 have a1:=hzk 1 (by omega)
 have a2:=hzk 2 (by omega)
 have a3:=hzk 3 (by omega)
 have a4:=hzk 4 (by omega)
 simp only [Lot.cells,List.getElem?_cons_zero,List.getElem?_cons_succ,Nat.add_zero] at a0 a1 a2 a3 a4
 generalize l[k]=x at *
 clear hz hcc hzk hr h h0 hi
 go_enter Tryz.func124,Tryz.ntmps124
 go_wp2_with (go_at_call 156;refine (HF.out _ (by repeat (first|exact Ex.refl _|refine Ex.alloc ?_ _|refine Ex.ext ?_ _ _|refine Ex.drew ?_|refine Ex.drewN ?_ _))).mono ?_;rintro e w1 ⟨rfl,l1,d1,rfl⟩)
 all_goals ((try simp only [Exit.inBlock,Exit.then]);(refine bodyPost_ret (v:=.tuple #[x.val,.bool true]) ?_ rfl ⟨rfl,(by repeat (first|exact Ex.refl _|refine Ex.alloc ?_ _|refine Ex.ext ?_ _ _|refine Ex.drew ?_|refine Ex.drewN ?_ _))⟩);simp only [results,Tryz.results124];simp [go_sem,↓IntWalk.iteOmega])
set_option maxRecDepth 100000 in
theorem get_out (h:BookAt own i w p l) (id:Int) (hi:idIdx l id=-1) :
  Calls Tryz.prog 124 #[.pointer (some ⟨p,0,none⟩),.int .i64 id] w fun e w'=>e=.returned (.tuple #[zeroLot.val,.bool false])∧Ex w w':=by
 have HF:=Lib.hid (fun W (hx:Ex w W)=>find_any (h.later hx) id)
 rw [hi] at HF
 clear h hi
 go_enter Tryz.func124,Tryz.ntmps124
 go_wp2_with (go_at_call 156;refine (HF.out _ (by repeat (first|exact Ex.refl _|refine Ex.alloc ?_ _|refine Ex.ext ?_ _ _|refine Ex.drew ?_|refine Ex.drewN ?_ _))).mono ?_;rintro e w1 ⟨rfl,l1,d1,rfl⟩)
 all_goals ((try simp only [Exit.inBlock,Exit.then]);(refine bodyPost_ret (v:=.tuple #[zeroLot.val,.bool false]) ?_ rfl ⟨rfl,(by repeat (first|exact Ex.refl _|refine Ex.alloc ?_ _|refine Ex.ext ?_ _ _|refine Ex.drew ?_|refine Ex.drewN ?_ _))⟩);simp only [results,Tryz.results124];simp [go_sem,↓IntWalk.iteOmega,zeroLot])
end
end Go.Proofs.YtabbgpjofkaomaaGreatDoor
