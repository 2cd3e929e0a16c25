import Derived.Test.YtabbgpjofkaomaaGreatDoorJ0
import Derived.Laws.Rows
import Derived.Laws.CopyRow
import Derived.Deep.OwnRows
import Derived.Deep.DeepCutAuto
import Derived.RegionTactic
import Derived.Test.YtabbgpjofkaomaaGreatDoorJ14
set_option linter.unusedSimpArgs false
set_option linter.unusedVariables false
/- Variables of an array type with many cells: a new one, a store of a whole array, as steps of the walk. No condition. -/
namespace Go.Proofs.YtabbgpjofkaomaaGreatDoor
open Go.RowKit
section
variable {P:Program}
theorem wpList_alloc_row {ops:Array Oper} {rest:List Oper} {o:Oper} {a:Act} {w:World} {Q:Exit→Act→World→Prop} (hgd:o.guard=none) (ty:TypeId) (ho:o.op=.alloc ty)
  (z:Value) (cs:Array Value) (hz:∀ w:World,(zeroValue ty).run P w=.ok z w) (hc:z.cells=cs)
  (h:wpList P ops Q rest (a.put o.dst (.pointer (some ⟨w.heap.size,0,none⟩))) (w.alloc (.cells cs ty))):wpList P ops Q (o::rest) a w:=by
 subst hc
 refine wpList_plain hgd fun _ hK=>?_
 unfold Oper.wp execOp
 simp [ho,Instr.alloc,newVar,newRow,Sem.run_bind,hz,Result.andThen_ok]
 exact hK _ _ h
theorem run_storeVar_row {w:World} {g:Nat} {t ty:TypeId} {cur cs:Array Value} (hg:w.heap[g]?=some (.cells cur t (0,0))) (hi:(P.info? ty).map (·.size)=some cs.size) (hs:cs.size=cur.size)
  (h1:∀ v∈cs.toList,v.oneCell'=true):(storeVar ty ⟨g,0,none⟩ (.agg cs)).run P w=.ok () (w.setRow g cs):=by
 have hst:=run_storeCells_at P g 0 t cs.toList 0 cur w hg (by simp;omega) h1
 have e:(cur.toList.take (0+0)++cs.toList++cur.toList.drop (0+0+cs.toList.length)).toArray=cs:=by
  rw [List.drop_of_length_le (by simp;omega)];simp
 rw [e] at hst
 obtain ⟨i,hi1,hi2⟩:=Option.map_eq_some_iff.1 hi
 simp [storeVar,Value.cells,sizeOf,typeInfo,hi1,hi2,Sem.run_bind,hst]
theorem wpList_store_row {ops:Array Oper} {rest:List Oper} {o:Oper} {a:Act} {w:World} {Q:Exit→Act→World→Prop} (hgd:o.guard=none) (ty:TypeId) (p x:Operand) (ho:o.op=.store ty p x)
  (g:Nat) (hp:a.eval p=.pointer (some ⟨g,0,none⟩)) (cs:Array Value) (hx:a.eval x=.agg cs) (cur:Array Value) (t:TypeId) (hg:w.heap[g]?=some (.cells cur t (0,0)))
  (hi:(P.info? ty).map (·.size)=some cs.size) (hs:cs.size=cur.size) (h1:∀ v∈cs.toList,v.oneCell'=true)
  (h:wpList P ops Q rest (a.put o.dst undef) (w.setRow g cs)):wpList P ops Q (o::rest) a w:=by
 refine wpList_plain hgd fun _ hK=>?_
 unfold Oper.wp execOp
 simp [ho,hp,hx,Instr.storeAt,Instr.sureAddr,Sem.run_bind,run_storeVar_row hg hi hs h1,Result.andThen_ok]
 exact hK _ _ h
theorem step_load_row {ops:Array Oper} {o:Oper} {a:Act} {w:World} {K:Act→World→Prop} {Q:Exit→Act→World→Prop} {E:Prop} (hgd:o.guard=none) (ty:TypeId) (x:Operand) (ho:o.op=.load ty x)
  (g:Nat) (hx:a.eval x=.pointer (some ⟨g,0,none⟩)) (t:TypeId) (cs:Array Value) (fr:Nat × Nat) (d:TypeDesc) (hg:w.heap[g]?=some (.cells cs t fr))
  (hu:P.underlying ty=some d) (hd:(match d with|.struct _|.array _ _=>true|_=>false)=true) (hi:(P.info? ty).map (·.size)=some cs.size)
  (h:K (a.put o.dst (.agg cs)) w):if Region.wanted o (yielded ops a.tmps)=true then Oper.wp P o a w K Q else E:=by
 have hw:Region.wanted o (yielded ops a.tmps)=true:=by simp [Region.wanted,hgd]
 rw [if_pos hw]
 exact wp_load_row ty x ho g hx t cs fr d hg hu hd hi h
theorem step_store_row {ops:Array Oper} {o:Oper} {a:Act} {w:World} {K:Act→World→Prop} {Q:Exit→Act→World→Prop} {E:Prop} (hgd:o.guard=none) (ty:TypeId) (p x:Operand) (ho:o.op=.store ty p x)
  (g:Nat) (hp:a.eval p=.pointer (some ⟨g,0,none⟩)) (cs:Array Value) (hx:a.eval x=.agg cs) (cur:Array Value) (t:TypeId) (hg:w.heap[g]?=some (.cells cur t (0,0)))
  (hi:(P.info? ty).map (·.size)=some cs.size) (hs:cs.size=cur.size) (h1:∀ v∈cs.toList,v.oneCell'=true)
  (h:K (a.put o.dst undef) (w.setRow g cs)):if Region.wanted o (yielded ops a.tmps)=true then Oper.wp P o a w K Q else E:=by
 have hw:Region.wanted o (yielded ops a.tmps)=true:=by simp [Region.wanted,hgd]
 rw [if_pos hw]
 unfold Oper.wp execOp
 simp [ho,hp,hx,Instr.storeAt,Instr.sureAddr,Sem.run_bind,run_storeVar_row hg hi hs h1,Result.andThen_ok]
 exact h
theorem heap_alloc_eq (w:World) (o:Obj):(w.alloc o).heap[w.heap.size]?=some o:=by show (w.heap.push o)[w.heap.size]?=some o;simp
theorem step_store_same {ops:Array Oper} {o:Oper} {a:Act} {w:World} {K:Act→World→Prop} {Q:Exit→Act→World→Prop} {E:Prop} (hgd:o.guard=none) (ty:TypeId) (p x:Operand) (ho:o.op=.store ty p x)
  (g:Nat) (hp:a.eval p=.pointer (some ⟨g,0,none⟩)) (cs:Array Value) (hx:a.eval x=.agg cs) (t:TypeId) (hg:w.heap[g]?=some (.cells cs t (0,0)))
  (hi:(P.info? ty).map (·.size)=some cs.size) (h1:∀ v∈cs.toList,v.oneCell'=true)
  (h:K (a.put o.dst undef) w):if Region.wanted o (yielded ops a.tmps)=true then Oper.wp P o a w K Q else E :=
 step_store_row hgd ty p x ho g hp cs hx cs t hg hi rfl h1 (by rw [setRow_self w g cs t (0,0) hg];exact h)
theorem results_cell2_row {fn:Func} {p q:Tmp} {ty:TypeId} (h:fn.results=#[.cell p ty,.cell q ty]) (tmps:Array Value) (w:World) (g k:Nat) (t t':TypeId) (cs cs':Array Value) (fr fr':Nat × Nat) (d:TypeDesc)
  (hp:tmps.getD p undef=.pointer (some ⟨g,0,none⟩)) (hq:tmps.getD q undef=.pointer (some ⟨k,0,none⟩)) (hg:w.heap[g]?=some (.cells cs t fr)) (hk:w.heap[k]?=some (.cells cs' t' fr'))
  (hu:P.underlying ty=some d) (hd:(match d with|.struct _|.array _ _=>true|_=>false)=true) (hi:(P.info? ty).map (·.size)=some cs.size) (hi':(P.info? ty).map (·.size)=some cs'.size) :
  (results fn tmps).run P w=.ok (.tuple #[.agg cs,.agg cs']) w:=by
 have hp':tmps[p]?.getD undef=.pointer (some ⟨g,0,none⟩):=by simpa using hp
 have hq':tmps[q]?.getD undef=.pointer (some ⟨k,0,none⟩):=by simpa using hq
 simp [results,h,hp',hq',asAddr,run_loadVar_row w g t ty cs fr d hg hu hd hi,run_loadVar_row w k t' ty cs' fr' d hk hu hd hi']
theorem rowIs_of {w:World} {b n:Nat} {t:TypeId} {cs:Array Value} {f:Nat→Value} (hg:w.heap[b]?=some (.cells cs t (0,0))) (hn:cs.size=n) (hf:∀ i,i<n→cs[i]?=some (f i)):w.rowIs b t n f:=by
 subst hn;exact ⟨cs,hg,rfl,hf⟩
end
end Go.Proofs.YtabbgpjofkaomaaGreatDoor

/- What clear's totals computes: demand and supply at each price. -/
namespace Go.Proofs.YtabbgpjofkaomaaGreatDoor
open Go.RowKit
def at0 (p:Int) (x:Lot):Bool:=x.side==0 && x.price==p
def at1 (p:Int) (x:Lot):Bool:=!(x.side==0) && x.price==p
theorem sumOf_or {is js ks:Lot→Bool}:∀ (l:List Lot),(∀ x∈l,x.ok=true→(is x=(js x || ks x))∧(js x && ks x)=false)→(∀ x∈l,x.ok=true)→sumOf is l=sumOf js l+sumOf ks l
 | [],_,_=>rfl
 | x::l,h,k=>by
  have ih:=sumOf_or l (fun y hy=>h y (by simp [hy])) (fun y hy=>k y (by simp [hy]))
  obtain ⟨h1,h2⟩:=h x (by simp) (k x (by simp))
  simp only [sumOf,ih,h1]
  cases hj:js x<;>cases hk:ks x<;>simp_all<;>omega
theorem sumOf_none {is:Lot→Bool}:∀ (l:List Lot),(∀ x∈l,is x=false)→sumOf is l=0
 | [],_=>rfl
 | x::l,h=>by
  simp only [sumOf,h x (by simp),sumOf_none l fun y hy=>h y (by simp [hy])];rfl
theorem sup_step {l:List Lot} (h:∀ x∈l,x.ok=true) (p:Int):sup l p=sup l (p - 1)+sumOf (at1 p) l:=by
 refine sumOf_or l (fun x _ hx=>?_) h
 have:=(Lot.ok_iff.1 hx).2.2.1
 have h1:x.side=0∨x.side=1:=by omega
 rcases h1 with h1|h1
 ·simp [isSup,at1,h1]
 ·refine ⟨?_,?_⟩
  ·rw [Bool.eq_iff_iff];simp [isSup,at1,h1];omega
  ·rw [Bool.eq_false_iff];simp [isSup,at1,h1];omega
theorem dem_step {l:List Lot} (h:∀ x∈l,x.ok=true) (p:Int):dem l p=dem l (p+1)+sumOf (at0 p) l:=by
 refine sumOf_or l (fun x _ hx=>?_) h
 have:=(Lot.ok_iff.1 hx).2.2.1
 have h1:x.side=0∨x.side=1:=by omega
 rcases h1 with h1|h1
 ·refine ⟨?_,?_⟩
  ·rw [Bool.eq_iff_iff];simp [isDem,at0,h1];omega
  ·rw [Bool.eq_false_iff];simp [isDem,at0,h1];omega
 ·simp [isDem,at0,h1]
theorem sup_zero {l:List Lot} (h:∀ x∈l,x.ok=true):sup l 0=0:=sumOf_none l fun x hx=>by
 have:=(Lot.ok_iff.1 (h x hx)).2.2.2.1
 rw [Bool.eq_false_iff];simp [isSup];omega
theorem at1_zero {l:List Lot} (h:∀ x∈l,x.ok=true):sumOf (at1 0) l=0:=sumOf_none l fun x hx=>by
 have:=(Lot.ok_iff.1 (h x hx)).2.2.2.1
 rw [Bool.eq_false_iff];simp [at1];omega
theorem dem_top {l:List Lot} (h:∀ x∈l,x.ok=true):dem l 1001=0:=sumOf_none l fun x hx=>by
 have:=(Lot.ok_iff.1 (h x hx)).2.2.2.1
 rw [Bool.eq_false_iff];simp [isDem];omega
theorem zeroArr (w:World):(zeroValue 306).run Tryz.prog w=.ok (.agg (Array.replicate 1001 (.int .i64 0))) w:=by kernel_rfl
theorem sizeArr:(Tryz.prog.info? 306).map (·.size)=some 1001:=by kernel_rfl
set_option maxRecDepth 100000 in
set_option maxHeartbeats 4000000 in
theorem totals_any (ao:Option Addr) (len cap:Nat) (l:List Lot) (w:World) (hcap:len≤cap) (hl:LotsAt w ao len l) (hok:LotsOk l) :
  Calls Tryz.prog 182 #[.slice ao len cap] w fun e w'=>(∃ A B:Array Value,e=.returned (.tuple #[.agg A,.agg B])∧A.size=1001∧B.size=1001∧(∀ v∈A.toList,v.oneCell'=true)∧(∀ v∈B.toList,v.oneCell'=true) ∧
   ∀ j:Nat,1≤j→j≤1000→A[j]?=some (.int .i64 (dem l j))∧B[j]?=some (.int .i64 (sup l j)))∧Ex w w':=by
 have hlen:=hl.1
 have hmx:=hl.2.1
 have h120:=hok.1
 have HL:=Lib.hid hlen
 have HLA:=Lib.hid hl
 have HOK:=Lib.hid hok
 clear hl hlen hok
 go_enter Tryz.func182,Tryz.ntmps182
 go_wp2_with (with_reducible refine wpList_alloc_row rfl 306 rfl _ _ zeroArr rfl ?_)
 have HA:Hid (∀ x∈l,x.ok=true):=Lib.hid HOK.out.mem
 go_loopw [10] (fun i wr=>∃ (k:Nat),k≤len∧i=.int .i64 k∧wr.rowIs w.heap.size 306 1001 (fun j=>.int .i64 (sumOf (at0 j) (l.take k))) ∧
   wr.rowIs (w.heap.size+1) 306 1001 (fun j=>.int .i64 (sumOf (at1 j) (l.take k)))∧Below w.heap.size w wr) (fun i _=>len - (intOf i).toNat)
 case atStart =>
  refine ⟨0,Nat.zero_le _,rfl,?_,?_,Ex.below (by repeat (first|exact Ex.refl _|refine Ex.alloc ?_ _|refine Ex.ext ?_ _ _|refine Ex.drew ?_|refine Ex.drewN ?_ _))⟩
  ·exact World.rowIs.alloc (rowIs_of (cs:=Array.replicate 1001 (.int .i64 0)) (heap_alloc_eq _ _) (by simp) (fun i hi=>by simp [sumOf,hi])) _
  ·exact rowIs_of (cs:=Array.replicate 1001 (.int .i64 0)) (alloc_at (by simp)) (by simp) (fun i hi=>by simp [sumOf,hi])
 case round =>
  obtain ⟨k,hk,rfl,hr0,hr1,hbl⟩:=hrel
  have HR0:=Lib.hid hr0
  have HR1:=Lib.hid hr1
  clear hr0 hr1
  by_cases hlt:k<len
  ·have hl:=HLA.out
   obtain ⟨b,off,rfl,hbs,hz⟩:=hl.2.2.2 (by omega)
   have hzk:=hz k (by rw [HL.out];exact hlt)
   clear hz hl
   have hg:∃ a,l[k]?=some a∧a=l[k]'(by rw [HL.out];exact hlt):=⟨_,List.getElem?_eq_getElem (by rw [HL.out];exact hlt),rfl⟩
   obtain ⟨a,ha0,ha⟩:=hg
   rw [← ha] at hzk
   clear ha
   have hcx:∀ j,j<5→wr.cell? ⟨b,off+k*5+j,none⟩=a.cells[j]?:=fun j hj=>(hbl.cell (p:=⟨b,off+k*5+j,none⟩) hbs).trans (hzk j hj)
   clear hzk
   have hst0:∀ j:Nat,sumOf (at0 j) (l.take (k+1))=sumOf (at0 j) (l.take k)+if at0 j a then a.qty else 0:=fun j=>sumOf_step (at0 j) ha0
   have hst1:∀ j:Nat,sumOf (at1 j) (l.take (k+1))=sumOf (at1 j) (l.take k)+if at1 j a then a.qty else 0:=fun j=>sumOf_step (at1 j) ha0
   obtain ⟨_,_,⟨s0,s1⟩,⟨p0,p1⟩,⟨q0,q1⟩⟩:=Lot.ok_iff.1 (HOK.out.ok ha0)
   clear ha0
   have hs:a.side=0∨a.side=1:=by omega
   obtain ⟨aid,aown,aside,aprice,aqty⟩:=a
   simp only at *
   obtain ⟨pn,rfl⟩:=Int.eq_ofNat_of_zero_le (show 0≤aprice by omega)
   have a0:=hcx 0 (by omega)
   have a1:=hcx 1 (by omega)
   have a2:=hcx 2 (by omega)
   have a3:=hcx 3 (by omega)
   have a4:=hcx 4 (by omega)
   simp only [Lot.cells,List.getElem?_cons_zero,List.getElem?_cons_succ,Nat.add_zero] at a0 a1 a2 a3 a4
   clear hcx
   have d0:=HR0.out.cell (i:=pn) (by omega)
   have d1:=HR1.out.cell (i:=pn) (by omega)
   have f0:=HR0.out.frozen pn
   have f1:=HR1.out.frozen pn
   obtain ⟨v0,v1⟩:=HOK.out.sum_bounds (at0 pn) k
   obtain ⟨v2,v3⟩:=HOK.out.sum_bounds (at1 pn) k
   have z0:=HR0.out.lt
   have z1:=HR1.out.lt
   have HS0:=Lib.hid hst0
   have HS1:=Lib.hid hst1
   clear hst0 hst1
   rcases hs with rfl|rfl
   ·generalize hv:sumOf (at0 pn) (l.take k)=v at *
    have HV:=Lib.hid hv
    clear hv d1 f1 v2 v3
    go_wp2_with fail
    go_region
    all_goals go_wp2
    all_goals
     refine ⟨⟨k+1,by omega,by go_num,?_,?_,by (refine Below.trans hbl ?_;repeat (first|exact Below.refl _ _|(refine Below.drew ?_)|(refine Below.drewN ?_ _)|(refine Below.ext ?_ (by first|omega|(simp [go_sem];done)|(simp [go_sem];omega)) _ _)|(refine Below.alloc ?_ (by first|omega|(simp [go_sem];done)|(simp [go_sem];omega)) _)|(refine Below.setCell ?_ (by first|omega|(simp [go_sem];done)|(simp [go_sem];omega)) _)))⟩,by simp [intOf];omega⟩
     ·refine World.rowIs.congr ?_ (f:=fun j=>if j=pn then .int .i64 (v+aqty) else .int .i64 (sumOf (at0 j) (l.take k))) (fun j hj=>?_)
      ·repeat (first|exact HR0.out.set _ _|refine World.rowIs.drew ?_|refine World.rowIs.alloc ?_ _)
      ·rw [HS0.out]
       by_cases e:j=pn
       ·subst e;rw [if_pos rfl,HV.out];simp [at0]
       ·rw [if_neg e,if_neg (by simp [at0];omega),Int.add_zero]
     ·refine World.rowIs.congr ?_ (f:=fun j=>.int .i64 (sumOf (at1 j) (l.take k))) (fun j hj=>?_)
      ·repeat (first|exact HR1.out.setOther (by simp) _|refine World.rowIs.drew ?_|refine World.rowIs.alloc ?_ _)
      ·rw [HS1.out,if_neg (by simp [at1]),Int.add_zero]
   ·generalize hv:sumOf (at1 pn) (l.take k)=v at *
    have HV:=Lib.hid hv
    clear hv d0 f0 v0 v1
    go_wp2_with fail
    go_region
    all_goals go_wp2
    all_goals
     refine ⟨⟨k+1,by omega,by go_num,?_,?_,by (refine Below.trans hbl ?_;repeat (first|exact Below.refl _ _|(refine Below.drew ?_)|(refine Below.drewN ?_ _)|(refine Below.ext ?_ (by first|omega|(simp [go_sem];done)|(simp [go_sem];omega)) _ _)|(refine Below.alloc ?_ (by first|omega|(simp [go_sem];done)|(simp [go_sem];omega)) _)|(refine Below.setCell ?_ (by first|omega|(simp [go_sem];done)|(simp [go_sem];omega)) _)))⟩,by simp [intOf];omega⟩
     ·refine World.rowIs.congr ?_ (f:=fun j=>.int .i64 (sumOf (at0 j) (l.take k))) (fun j hj=>?_)
      ·repeat (first|exact HR0.out.setOther (by simp) _|refine World.rowIs.drew ?_|refine World.rowIs.alloc ?_ _)
      ·rw [HS0.out,if_neg (by simp [at0]),Int.add_zero]
     ·refine World.rowIs.congr ?_ (f:=fun j=>if j=pn then .int .i64 (v+aqty) else .int .i64 (sumOf (at1 j) (l.take k))) (fun j hj=>?_)
      ·repeat (first|exact HR1.out.set _ _|refine World.rowIs.drew ?_|refine World.rowIs.alloc ?_ _)
      ·rw [HS1.out]
       by_cases e:j=pn
       ·subst e;rw [if_pos rfl,HV.out];simp [at1]
       ·rw [if_neg e,if_neg (by simp [at1];omega),Int.add_zero]
  ·have hkl:l.take k=l:=List.take_of_length_le (by have:=HL.out;omega)
   have hr0:=HR0.out
   have hr1:=HR1.out
   rw [hkl] at hr0 hr1
   have HR0:=Lib.hid hr0
   have HR1:=Lib.hid hr1
   clear hr0 hr1 hkl
   obtain ⟨wo,rfl⟩:∃ x,x=wr:=⟨_,rfl⟩
   go_wp2_with fail
   go_loopw [6] (fun i wr=>∃ (q:Nat),q≤1000∧i=.int .i64 ((q:Int)+1)∧wr.rowIs w.heap.size 306 1001 (fun j=>.int .i64 (sumOf (at0 j) l)) ∧
     wr.rowIs (w.heap.size+1) 306 1001 (fun j=>.int .i64 (if j≤q then sup l j else sumOf (at1 j) l))∧Below w.heap.size w wr) (fun i _=>1001 - (intOf i).toNat)
   case atStart =>
    refine ⟨0,by omega,rfl,HR0.out,HR1.out.congr fun j hj=>?_,hbl⟩
    by_cases e:j≤0
    ·obtain rfl:j=0:=by omega
     rw [if_pos e]
     exact congrArg (Value.int .i64) ((at1_zero HA.out).trans (sup_zero HA.out).symm)
    ·rw [if_neg e]
   case round =>
    obtain ⟨q,hq,rfl,hr0,hr1,hbl⟩:=hrel
    have KR0:=Lib.hid hr0
    have KR1:=Lib.hid hr1
    clear hr0 hr1
    by_cases hlt:q<1000
    ·have d1:=KR1.out.cell (i:=q+1) (by omega)
     have d2:=KR1.out.cell (i:=q) (by omega)
     rw [if_neg (by omega)] at d1
     rw [if_pos (by omega)] at d2
     have f1:=KR1.out.frozen (q+1)
     have b1:=sumOf_bounds (at1 ((q+1:Nat):Int)) l HA.out
     have b2:=sumOf_bounds (isSup q) l HA.out
     have hst:=sup_step HA.out ((q+1:Nat):Int)
     rw [show ((q+1:Nat):Int) - 1=q by omega] at hst
     change 0≤sup l q∧sup l q≤_ at b2
     generalize sumOf (at1 ((q+1:Nat):Int)) l=v1 at *
     generalize sup l q=v2 at *
     have HS:=Lib.hid hst
     clear hst
     have z1:=KR1.out.lt
     have hl1:(l.length:Int)≤120:=by omega
     have i1:IntKind.i64.wrap ((q:Int)+1 - 1)=(q:Int):=by rw [IntWalk.i64_in _ (by omega)];omega
     go_wp2_with fail
     go_region
     all_goals go_wp2
     all_goals
      refine ⟨⟨q+1,by omega,by go_num,?_,?_,by (refine Below.trans hbl ?_;repeat (first|exact Below.refl _ _|(refine Below.drew ?_)|(refine Below.drewN ?_ _)|(refine Below.ext ?_ (by first|omega|(simp [go_sem];done)|(simp [go_sem];omega)) _ _)|(refine Below.alloc ?_ (by first|omega|(simp [go_sem];done)|(simp [go_sem];omega)) _)|(refine Below.setCell ?_ (by first|omega|(simp [go_sem];done)|(simp [go_sem];omega)) _)))⟩,by simp [intOf];omega⟩
      ·repeat (first|exact KR0.out.setOther (by simp) _|refine World.rowIs.drew ?_|refine World.rowIs.alloc ?_ _)
      ·refine World.rowIs.congr ?_ (f:=fun j=>if j=q+1 then .int .i64 (v1+v2) else .int .i64 (if j≤q then sup l j else sumOf (at1 j) l)) (fun j hj=>?_)
       ·repeat (first|exact KR1.out.set _ _|refine World.rowIs.drew ?_|refine World.rowIs.alloc ?_ _)
       ·by_cases e:j=q+1
        ·subst e
         rw [if_pos rfl,if_pos (by omega),HS.out,Int.add_comm]
        ·rw [if_neg e]
         by_cases e2:j≤q
         ·rw [if_pos e2,if_pos (by omega)]
         ·rw [if_neg e2,if_neg (by omega)]
    ·obtain rfl:q=1000:=by omega
     have KR1':Hid (wr.rowIs (w.heap.size+1) 306 1001 (fun j=>.int .i64 (sup l j))):=Lib.hid (KR1.out.congr fun j hj=>by rw [if_pos (by omega)])
     clear KR1
     obtain ⟨wo,rfl⟩:∃ x,x=wr:=⟨_,rfl⟩
     go_wp2_with fail
     go_loopw [7] (fun i wr=>∃ (q:Nat),q≤999∧i=.int .i64 q∧wr.rowIs w.heap.size 306 1001 (fun j=>.int .i64 (if q<j then dem l j else sumOf (at0 j) l)) ∧
       wr.rowIs (w.heap.size+1) 306 1001 (fun j=>.int .i64 (sup l j))∧Below w.heap.size w wr) (fun i _=>(intOf i).toNat)
     case atStart =>
      refine ⟨999,by omega,rfl,KR0.out.congr fun j hj=>?_,KR1'.out,hbl⟩
      by_cases e:999<j
      ·obtain rfl:j=1000:=by omega
       rw [if_pos e]
       have h1:=dem_step HA.out 1000
       rw [show ((1000:Int)+1)=1001 by omega,dem_top HA.out] at h1
       exact congrArg (Value.int .i64) (by simpa using h1.symm)
      ·rw [if_neg e]
     case round =>
      obtain ⟨q,hq,rfl,hr0,hr1,hbl⟩:=hrel
      have KR0:=Lib.hid hr0
      have KR1:=Lib.hid hr1
      clear hr0 hr1 KR1'
      by_cases hlt:0<q
      ·have d1:=KR0.out.cell (i:=q) (by omega)
       have d2:=KR0.out.cell (i:=q+1) (by omega)
       rw [if_neg (by omega)] at d1
       rw [if_pos (by omega)] at d2
       have f1:=KR0.out.frozen q
       have b1:=sumOf_bounds (at0 q) l HA.out
       have b2:=sumOf_bounds (isDem ((q+1:Nat):Int)) l HA.out
       have hst:=dem_step HA.out q
       rw [show ((q:Int)+1)=((q+1:Nat):Int) by omega] at hst
       change 0≤dem l ((q+1:Nat):Int)∧dem l ((q+1:Nat):Int)≤_ at b2
       generalize sumOf (at0 q) l=v1 at *
       generalize dem l ((q+1:Nat):Int)=v2 at *
       have HS:=Lib.hid hst
       clear hst
       have z1:=KR0.out.lt
       have hl1:(l.length:Int)≤120:=by omega
       have i1:IntKind.i64.wrap ((q:Int)+1)=(q:Int)+1:=IntWalk.i64_in _ (by omega)
       go_wp2_with fail
       go_region
       all_goals go_wp2
       all_goals
        refine ⟨⟨q - 1,by omega,by first|go_num|(congr 1;omega),?_,?_,by (refine Below.trans hbl ?_;repeat (first|exact Below.refl _ _|(refine Below.drew ?_)|(refine Below.drewN ?_ _)|(refine Below.ext ?_ (by first|omega|(simp [go_sem];done)|(simp [go_sem];omega)) _ _)|(refine Below.alloc ?_ (by first|omega|(simp [go_sem];done)|(simp [go_sem];omega)) _)|(refine Below.setCell ?_ (by first|omega|(simp [go_sem];done)|(simp [go_sem];omega)) _)))⟩,by simp [intOf];omega⟩
        ·refine World.rowIs.congr ?_ (f:=fun j=>if j=q then .int .i64 (v1+v2) else .int .i64 (if q<j then dem l j else sumOf (at0 j) l)) (fun j hj=>?_)
         ·repeat (first|exact KR0.out.set _ _|refine World.rowIs.drew ?_|refine World.rowIs.alloc ?_ _)
         ·by_cases e:j=q
          ·subst e
           rw [if_pos rfl,if_pos (by omega),HS.out,Int.add_comm]
          ·rw [if_neg e]
           by_cases e2:q<j
           ·rw [if_pos e2,if_pos (by omega)]
           ·rw [if_neg e2,if_neg (by omega)]
        ·repeat (first|exact KR1.out.setOther (by simp) _|refine World.rowIs.drew ?_|refine World.rowIs.alloc ?_ _)
      ·obtain rfl:q=0:=by omega
       obtain ⟨A,hA1,hA2,hA3⟩:=KR0.out
       obtain ⟨B,hB1,hB2,hB3⟩:=KR1.out
       have hA4:∀ v∈A.toList,v.oneCell'=true:=by
        intro v hv
        obtain ⟨i,hi,rfl⟩:=List.getElem_of_mem hv
        have hi':i<A.size:=by simpa using hi
        have:=hA3 i (by omega)
        rw [Array.getElem?_eq_getElem hi'] at this
        simp only [Array.getElem_toList,Option.some.inj this];rfl
       have hB4:∀ v∈B.toList,v.oneCell'=true:=by
        intro v hv
        obtain ⟨i,hi,rfl⟩:=List.getElem_of_mem hv
        have hi':i<B.size:=by simpa using hi
        have:=hB3 i (by omega)
        rw [Array.getElem?_eq_getElem hi'] at this
        simp only [Array.getElem_toList,Option.some.inj this];rfl
       have hiA:(Tryz.prog.info? 306).map (·.size)=some A.size:=by rw [hA2];exact sizeArr
       have hiB:(Tryz.prog.info? 306).map (·.size)=some B.size:=by rw [hB2];exact sizeArr
       have HA3:=Lib.hid hA3
       have HB3:=Lib.hid hB3
       clear hA3 hB3
       go_wp2_with fail
       refine wp_region_any (by kernel_rfl) ?_
       change wpAny _ _ _ _ _ _ _ (World.drew _)
       (first
        | (refine wpAny_done ?_ ?_ _;(focus decide +kernel);skip)
        | (refine wpAny_ready (rs:=[0,1]) ?_ ?_ ?_;(focus decide +kernel);(focus simp);refine AllReady.cons rfl (fun K hK=>?_) (AllReady.cons rfl (fun K hK=>?_) AllReady.nil))
        | (refine wpAny_ready (rs:=[1,2]) ?_ ?_ ?_;(focus decide +kernel);(focus simp);refine AllReady.cons rfl (fun K hK=>?_) (AllReady.cons rfl (fun K hK=>?_) AllReady.nil))
        | (refine wpAny_ready (rs:=[2,3]) ?_ ?_ ?_;(focus decide +kernel);(focus simp);refine AllReady.cons rfl (fun K hK=>?_) (AllReady.cons rfl (fun K hK=>?_) AllReady.nil))
        | (refine wpAny_ready (rs:=[0]) ?_ ?_ ?_;(focus decide +kernel);(focus simp);refine AllReady.cons rfl (fun K hK=>?_) AllReady.nil)
        | (refine wpAny_ready (rs:=[1]) ?_ ?_ ?_;(focus decide +kernel);(focus simp);refine AllReady.cons rfl (fun K hK=>?_) AllReady.nil)
        | (refine wpAny_ready (rs:=[2]) ?_ ?_ ?_;(focus decide +kernel);(focus simp);refine AllReady.cons rfl (fun K hK=>?_) AllReady.nil)
        | (refine wpAny_ready (rs:=[3]) ?_ ?_ ?_;(focus decide +kernel);(focus simp);refine AllReady.cons rfl (fun K hK=>?_) AllReady.nil))
       all_goals ((first|(refine step_load_row rfl 306 (.tmp 2) rfl w.heap.size rfl 306 A (0,0) _ hA1 Tryz.underlying306 rfl hiA ?_)|(refine step_load_row rfl 306 (.tmp 3) rfl (w.heap.size+1) rfl 306 B (0,0) _ hB1 Tryz.underlying306 rfl hiB ?_)|(refine step_store_same rfl 306 (.tmp 2) (.tmp 60) rfl w.heap.size rfl A rfl 306 hA1 hiA hA4 ?_)|(refine step_store_same rfl 306 (.tmp 3) (.tmp 61) rfl (w.heap.size+1) rfl B rfl 306 hB1 hiB hB4 ?_));go_simp;refine hK _ _ ?_;clear hK K)
       all_goals (first|(refine wpAny_done ?_ ?_ _;(focus decide +kernel);skip)|(refine wpAny_ready (rs:=[0,1]) ?_ ?_ ?_;(focus decide +kernel);(focus simp);refine AllReady.cons rfl (fun K hK=>?_) (AllReady.cons rfl (fun K hK=>?_) AllReady.nil))|(refine wpAny_ready (rs:=[1,2]) ?_ ?_ ?_;(focus decide +kernel);(focus simp);refine AllReady.cons rfl (fun K hK=>?_) (AllReady.cons rfl (fun K hK=>?_) AllReady.nil))|(refine wpAny_ready (rs:=[2,3]) ?_ ?_ ?_;(focus decide +kernel);(focus simp);refine AllReady.cons rfl (fun K hK=>?_) (AllReady.cons rfl (fun K hK=>?_) AllReady.nil))|(refine wpAny_ready (rs:=[0]) ?_ ?_ ?_;(focus decide +kernel);(focus simp);refine AllReady.cons rfl (fun K hK=>?_) AllReady.nil)|(refine wpAny_ready (rs:=[1]) ?_ ?_ ?_;(focus decide +kernel);(focus simp);refine AllReady.cons rfl (fun K hK=>?_) AllReady.nil)|(refine wpAny_ready (rs:=[2]) ?_ ?_ ?_;(focus decide +kernel);(focus simp);refine AllReady.cons rfl (fun K hK=>?_) AllReady.nil)|(refine wpAny_ready (rs:=[3]) ?_ ?_ ?_;(focus decide +kernel);(focus simp);refine AllReady.cons rfl (fun K hK=>?_) AllReady.nil))
       all_goals ((first|(refine step_load_row rfl 306 (.tmp 2) rfl w.heap.size rfl 306 A (0,0) _ hA1 Tryz.underlying306 rfl hiA ?_)|(refine step_load_row rfl 306 (.tmp 3) rfl (w.heap.size+1) rfl 306 B (0,0) _ hB1 Tryz.underlying306 rfl hiB ?_)|(refine step_store_same rfl 306 (.tmp 2) (.tmp 60) rfl w.heap.size rfl A rfl 306 hA1 hiA hA4 ?_)|(refine step_store_same rfl 306 (.tmp 3) (.tmp 61) rfl (w.heap.size+1) rfl B rfl 306 hB1 hiB hB4 ?_));go_simp;refine hK _ _ ?_;clear hK K)
       all_goals (first|(refine wpAny_done ?_ ?_ _;(focus decide +kernel);skip)|(refine wpAny_ready (rs:=[0,1]) ?_ ?_ ?_;(focus decide +kernel);(focus simp);refine AllReady.cons rfl (fun K hK=>?_) (AllReady.cons rfl (fun K hK=>?_) AllReady.nil))|(refine wpAny_ready (rs:=[1,2]) ?_ ?_ ?_;(focus decide +kernel);(focus simp);refine AllReady.cons rfl (fun K hK=>?_) (AllReady.cons rfl (fun K hK=>?_) AllReady.nil))|(refine wpAny_ready (rs:=[2,3]) ?_ ?_ ?_;(focus decide +kernel);(focus simp);refine AllReady.cons rfl (fun K hK=>?_) (AllReady.cons rfl (fun K hK=>?_) AllReady.nil))|(refine wpAny_ready (rs:=[0]) ?_ ?_ ?_;(focus decide +kernel);(focus simp);refine AllReady.cons rfl (fun K hK=>?_) AllReady.nil)|(refine wpAny_ready (rs:=[1]) ?_ ?_ ?_;(focus decide +kernel);(focus simp);refine AllReady.cons rfl (fun K hK=>?_) AllReady.nil)|(refine wpAny_ready (rs:=[2]) ?_ ?_ ?_;(focus decide +kernel);(focus simp);refine AllReady.cons rfl (fun K hK=>?_) AllReady.nil)|(refine wpAny_ready (rs:=[3]) ?_ ?_ ?_;(focus decide +kernel);(focus simp);refine AllReady.cons rfl (fun K hK=>?_) AllReady.nil))
       all_goals ((first|(refine step_load_row rfl 306 (.tmp 2) rfl w.heap.size rfl 306 A (0,0) _ hA1 Tryz.underlying306 rfl hiA ?_)|(refine step_load_row rfl 306 (.tmp 3) rfl (w.heap.size+1) rfl 306 B (0,0) _ hB1 Tryz.underlying306 rfl hiB ?_)|(refine step_store_same rfl 306 (.tmp 2) (.tmp 60) rfl w.heap.size rfl A rfl 306 hA1 hiA hA4 ?_)|(refine step_store_same rfl 306 (.tmp 3) (.tmp 61) rfl (w.heap.size+1) rfl B rfl 306 hB1 hiB hB4 ?_));go_simp;refine hK _ _ ?_;clear hK K)
       all_goals (first|(refine wpAny_done ?_ ?_ _;(focus decide +kernel);skip)|(refine wpAny_ready (rs:=[0,1]) ?_ ?_ ?_;(focus decide +kernel);(focus simp);refine AllReady.cons rfl (fun K hK=>?_) (AllReady.cons rfl (fun K hK=>?_) AllReady.nil))|(refine wpAny_ready (rs:=[1,2]) ?_ ?_ ?_;(focus decide +kernel);(focus simp);refine AllReady.cons rfl (fun K hK=>?_) (AllReady.cons rfl (fun K hK=>?_) AllReady.nil))|(refine wpAny_ready (rs:=[2,3]) ?_ ?_ ?_;(focus decide +kernel);(focus simp);refine AllReady.cons rfl (fun K hK=>?_) (AllReady.cons rfl (fun K hK=>?_) AllReady.nil))|(refine wpAny_ready (rs:=[0]) ?_ ?_ ?_;(focus decide +kernel);(focus simp);refine AllReady.cons rfl (fun K hK=>?_) AllReady.nil)|(refine wpAny_ready (rs:=[1]) ?_ ?_ ?_;(focus decide +kernel);(focus simp);refine AllReady.cons rfl (fun K hK=>?_) AllReady.nil)|(refine wpAny_ready (rs:=[2]) ?_ ?_ ?_;(focus decide +kernel);(focus simp);refine AllReady.cons rfl (fun K hK=>?_) AllReady.nil)|(refine wpAny_ready (rs:=[3]) ?_ ?_ ?_;(focus decide +kernel);(focus simp);refine AllReady.cons rfl (fun K hK=>?_) AllReady.nil))
       all_goals ((first|(refine step_load_row rfl 306 (.tmp 2) rfl w.heap.size rfl 306 A (0,0) _ hA1 Tryz.underlying306 rfl hiA ?_)|(refine step_load_row rfl 306 (.tmp 3) rfl (w.heap.size+1) rfl 306 B (0,0) _ hB1 Tryz.underlying306 rfl hiB ?_)|(refine step_store_same rfl 306 (.tmp 2) (.tmp 60) rfl w.heap.size rfl A rfl 306 hA1 hiA hA4 ?_)|(refine step_store_same rfl 306 (.tmp 3) (.tmp 61) rfl (w.heap.size+1) rfl B rfl 306 hB1 hiB hB4 ?_));go_simp;refine hK _ _ ?_;clear hK K)
       all_goals (first|(refine wpAny_done ?_ ?_ _;(focus decide +kernel);skip)|(refine wpAny_ready (rs:=[0,1]) ?_ ?_ ?_;(focus decide +kernel);(focus simp);refine AllReady.cons rfl (fun K hK=>?_) (AllReady.cons rfl (fun K hK=>?_) AllReady.nil))|(refine wpAny_ready (rs:=[1,2]) ?_ ?_ ?_;(focus decide +kernel);(focus simp);refine AllReady.cons rfl (fun K hK=>?_) (AllReady.cons rfl (fun K hK=>?_) AllReady.nil))|(refine wpAny_ready (rs:=[2,3]) ?_ ?_ ?_;(focus decide +kernel);(focus simp);refine AllReady.cons rfl (fun K hK=>?_) (AllReady.cons rfl (fun K hK=>?_) AllReady.nil))|(refine wpAny_ready (rs:=[0]) ?_ ?_ ?_;(focus decide +kernel);(focus simp);refine AllReady.cons rfl (fun K hK=>?_) AllReady.nil)|(refine wpAny_ready (rs:=[1]) ?_ ?_ ?_;(focus decide +kernel);(focus simp);refine AllReady.cons rfl (fun K hK=>?_) AllReady.nil)|(refine wpAny_ready (rs:=[2]) ?_ ?_ ?_;(focus decide +kernel);(focus simp);refine AllReady.cons rfl (fun K hK=>?_) AllReady.nil)|(refine wpAny_ready (rs:=[3]) ?_ ?_ ?_;(focus decide +kernel);(focus simp);refine AllReady.cons rfl (fun K hK=>?_) AllReady.nil))
       all_goals go_wp2
       all_goals (try simp only [Exit.inBlock,Exit.then])
       all_goals
        refine bodyPost_ret (v:=.tuple #[.agg A,.agg B]) ?_ rfl ⟨⟨A,B,rfl,hA2,hB2,hA4,hB4,fun j h1 h2=>⟨?_,HB3.out j (by omega)⟩⟩,(Ex.of hbl).trans (by repeat (first|exact Ex.refl _|refine Ex.alloc ?_ _|refine Ex.ext ?_ _ _|refine Ex.drew ?_|refine Ex.drewN ?_ _))⟩
        ·exact results_cell2_row Tryz.results182 _ _ w.heap.size (w.heap.size+1) _ _ A B (0,0) (0,0) _ rfl rfl hA1 hB1 Tryz.underlying306 rfl hiA hiB
        ·rw [HA3.out j (by omega),if_pos (by omega)]
end Go.Proofs.YtabbgpjofkaomaaGreatDoor
