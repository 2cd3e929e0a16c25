import Derived.Test.YtmbboflakfokhaaGreatDoorJ0
import Derived.Test.YtmbboflakfokhaaGreatDoorCards
import Derived.Test.YtmbboflakfokhaaGreatDoorTie
import Derived.ProofKit
import Derived.OpenShut
import Derived.Stop.LaidErr
import Derived.LaidMore
import Derived.MakeChecks
import Derived.Deep.DeepHandedRow
import Derived.Deep.DeepWitnessRowRef
import Derived.Deep.Slices
import Derived.Test.YtmbboflakfokhaaGreatDoorChecked
import Derived.Deep.DeepCutAuto
import Derived.Deep.AppendLies
import Derived.Lib.SliceRun
/- What a row's list of package-level errors gives: each holds a pointer to an error string, no two the same. -/
set_option linter.unusedSimpArgs false
set_option linter.unusedVariables false
namespace Go.Proofs.YtmbboflakfokhaaGreatDoor
open Go.RowKit
theorem own:ownKnob Tryz.prog.godebug=none:=by kernel_rfl
theorem rowErrStr : ∀ u, Tryz.prog.typeName? 3 u = some "*errors.errorString" → u = 228 :=
  typeName_ptr_named (nm := "errors.errorString") (by kernel_rfl) (by kernel_rfl) (by decide)
theorem cellsErrStr:Tryz.prog.cellsOf 250=1:=by kernel_rfl
theorem cellsStr:Tryz.prog.cellsOf 9=1:=by kernel_rfl
def nameOf (c:Nat):String :=
  match c with
  | 1 => "gavelhouse/api.ErrText" | 2 => "gavelhouse/api.ErrBound" | 3 => "gavelhouse/api.ErrShape" | 4 => "gavelhouse/api.ErrKind" | 5 => "gavelhouse/api.ErrSum" | 6 => "gavelhouse/api.ErrNone"
  | 7 => "gavelhouse/api.ErrExist" | 8 => "gavelhouse/api.ErrFull" | 9 => "gavelhouse/api.ErrOff" | 10 => "gavelhouse/api.ErrPoor" | 11 => "gavelhouse/api.ErrState" | _ => "gavelhouse/api.ErrOrder"
def textOf (c:Nat):List UInt8:=([103,97,118,101,108,104,111,117,115,101,58,32]:List UInt8) ++
  (match c with
  | 1=>[116,101,120,116]|2=>[98,111,117,110,100]|3=>[115,104,97,112,101]|4=>[107,105,110,100]|5=>[115,117,109]|6=>[110,111,110,101]
  | 7=>[101,120,105,115,116]|8=>[102,117,108,108]|9=>[111,102,102]|10=>[112,111,111,114]|11=>[115,116,97,116,101]|_=>[111,114,100,101,114])
def errEntry (c : Nat) : String × DataW Unit := (nameOf c, .iface "*errors.errorString" (.ptr (.agg [.lit (.string (textOf c))])))
def Apart (E:Nat→Addr) (l:List Nat) (w:World):Prop :=
  (∀ c∈l,∃ cs t,w.heap[(E c).block]?=some (.cells cs t (0,0)))∧∀ c∈l,∀ c'∈l,c≠c'→E c≠E c'
set_option maxRecDepth 100000 in
theorem errs_of_vars {W:World}:∀ (L:List Nat) (ps:List MemPlace),(L.all fun c=>Tryz.prog.globalNamed (nameOf c)==some (gOf c) && ((Tryz.prog.globals[gOf c]?).map (·.type)==some 27))=true →
    DataW.LaidVars Tryz.prog W (L.map errEntry) ps→ps.Nodup→(∀ b off,MemPlace.cell b off∈ps→(∃ c t,W.heap[b]?=some (.cells c t (0,0)))∧∀ u v,W.cell? ⟨b,off,none⟩=some (.iface u v)→Value.okWide Tryz.prog W .any 0 u v)→L.Nodup →
    ∃ E:Nat→Addr,Errs E L W∧Apart E L W∧∀ c∈L,MemPlace.cell (E c).block (E c).off∈ps
  | [],_,_,_,_,_,_=>⟨fun _=>⟨0,0,none⟩,(by intro c h;cases h),⟨(by intro c h;cases h),(by intro c h;cases h)⟩,(by intro c h;cases h)⟩
  | c::L,ps,hc,hv,hnd,hrows,hL=>by
    simp only [List.all_cons,Bool.and_eq_true,beq_iff_eq] at hc
    obtain ⟨⟨hg,ht⟩,hc'⟩:=hc
    obtain ⟨g0,t0,cs0,f0,p0,q0,hg0,ht0,hv0,hd0,hq,rfl⟩:=hv
    obtain rfl:=Option.some.inj (hg.symm.trans hg0)
    obtain rfl:=Option.some.inj (ht.symm.trans ht0)
    obtain ⟨l0⟩:=cs0
    have ok0:∀ u v,l0=[.iface u v]→Value.okWide Tryz.prog W .any 0 u v:=fun u v e=>by
      subst e
      exact (hrows (gOf c) 0 (by simp [MemPlace.row])).2 u v (by simpa using World.var?_cell hg0 hv0 0)
    obtain ⟨a0,s0,rfl,hc0,hs0,hz0,rfl⟩:=errorString_of_trod Tryz.underlying27 rowErrStr Tryz.underlying228 Tryz.underlying250 rfl rfl Tryz.underlying9 cellsErrStr cellsStr hd0 ok0
    have hndq:q0.Nodup:=List.Nodup.sublist (List.sublist_append_right _ _) hnd
    obtain ⟨E,h1,⟨h2,h3⟩,h4⟩:=errs_of_vars L q0 (by simpa using hc') hq hndq (fun b off hm=>hrows b off (by simp [hm])) (List.nodup_cons.1 hL).2
    have hnotin:c∉L:=(List.nodup_cons.1 hL).1
    have hcell:=World.var?_cell hg0 hv0 0
    simp at hcell
    have hplace:MemPlace.cell a0.block a0.off∉q0:=by
      intro hm
      rw [List.append_assoc] at hnd
      have:=(List.nodup_append.1 (List.nodup_append.1 hnd).2.1).2.2
      exact this _ (by simp [MemPlace.row]) _ hm rfl
    have hE:∀ x,x∈L→(if x=c then a0 else E x)=E x:=fun x hx=>if_neg (by rintro rfl;exact hnotin hx)
    refine ⟨fun x=>if x=c then a0 else E x,?_,⟨?_,?_⟩,?_⟩
    · intro x hx
      rcases List.mem_cons.1 hx with rfl|hx
      · simpa using hcell
      · simp only [hE x hx]
        exact h1 x hx
    · intro x hx
      rcases List.mem_cons.1 hx with rfl|hx
      · simp only [if_true]
        exact (hrows a0.block a0.off (by simp [MemPlace.row])).1
      · simp only [hE x hx]
        exact h2 x hx
    · intro x hx y hy hne
      rcases List.mem_cons.1 hx with ex|hx'
      · rcases List.mem_cons.1 hy with ey|hy'
        · exact absurd (ex.trans ey.symm) hne
        · simp only [if_pos ex,hE y hy']
          intro e
          exact hplace (by rw [e];exact h4 y hy')
      · rcases List.mem_cons.1 hy with ey|hy'
        · simp only [if_pos ey,hE x hx']
          intro e
          exact hplace (by rw [← e];exact h4 x hx')
        · simp only [hE x hx',hE y hy']
          exact h3 x hx' y hy' hne
    · intro x hx
      rcases List.mem_cons.1 hx with rfl|hx
      · simp [MemPlace.row]
      · simp only [hE x hx]
        simp [h4 x hx]
theorem errs_of_laid {W:World} (L:List Nat) (h:laidMet Tryz.prog (L.map errEntry) W) (hL:L.Nodup)
    (hc:(L.all fun c=>Tryz.prog.globalNamed (nameOf c)==some (gOf c) && ((Tryz.prog.globals[gOf c]?).map (·.type)==some 27))=true) :
    ∃ E:Nat→Addr,Errs E L W∧Apart E L W:=by
  obtain ⟨ps,h1,h2,h3⟩:=h
  obtain ⟨E,a,b,_⟩:=errs_of_vars L ps hc h1 h2 h3 hL
  exact ⟨E,a,b⟩
end Go.Proofs.YtmbboflakfokhaaGreatDoor

/- The world in which the package-level errors lie as the program's text lays them: the witness of every row; and the closed facts that every claim shares. -/
set_option linter.unusedSimpArgs false
set_option linter.unusedVariables false
namespace Go.Proofs.YtmbboflakfokhaaGreatDoor
open Go.RowKit
def putG (h:Array Obj) (g:Nat) (v:Value):Array Obj:=h.modify g fun
  | .cells _ t fr=>.cells #[v] t fr
  | o=>o
noncomputable def heap0 (os:Os):Array Obj:=(World.holding Tryz.prog os ⟨#[],#[],[]⟩).heap
noncomputable def doorErr (os:Os) (i:Nat):Value:=.iface 228 (.pointer (some ⟨(heap0 os).size+i,0,none⟩))
def errB (text:List UInt8):Obj:=.cells #[.string ⟨text.toArray⟩] 250
noncomputable def laidW (os:Os):World :=
  let h:=heap0 os
  let h:=putG h 3 (doorErr os 0)
  let h:=putG h 0 (doorErr os 1)
  let h:=putG h 4 (doorErr os 2)
  let h:=putG h 5 (doorErr os 3)
  let h:=putG h 6 (doorErr os 4)
  let h:=putG h 1 (doorErr os 5)
  let h:=putG h 7 (doorErr os 6)
  let h:=putG h 2 (doorErr os 7)
  let h:=putG h 8 (doorErr os 8)
  let h:=putG h 9 (doorErr os 9)
  let h:=putG h 10 (doorErr os 10)
  let h:=putG h 11 (doorErr os 11)
  let h:=putG h 12 (.iface 186 (.agg #[.pointer (some ⟨Tryz.prog.globals.size,27,none⟩)]))
  { World.holding Tryz.prog os ⟨#[],#[],[]⟩ with heap:=h++#[errB [103,97,118,101,108,104,111,117,115,101,58,32,116,101,120,116],
      errB [103,97,118,101,108,104,111,117,115,101,58,32,98,111,117,110,100],
      errB [103,97,118,101,108,104,111,117,115,101,58,32,115,104,97,112,101],
      errB [103,97,118,101,108,104,111,117,115,101,58,32,107,105,110,100],
      errB [103,97,118,101,108,104,111,117,115,101,58,32,115,117,109],
      errB [103,97,118,101,108,104,111,117,115,101,58,32,110,111,110,101],
      errB [103,97,118,101,108,104,111,117,115,101,58,32,101,120,105,115,116],
      errB [103,97,118,101,108,104,111,117,115,101,58,32,102,117,108,108],
      errB [103,97,118,101,108,104,111,117,115,101,58,32,111,102,102],
      errB [103,97,118,101,108,104,111,117,115,101,58,32,112,111,111,114],
      errB [103,97,118,101,108,104,111,117,115,101,58,32,115,116,97,116,101],
      errB [103,97,118,101,108,104,111,117,115,101,58,32,111,114,100,101,114]] }
theorem looks0:true=Tryz.prog.looks []:=by kernel_rfl
theorem mainIs0 : Tryz.prog.mainIs = some (((true, "609cd92ea39eb4e537d872a8109a047ff653410f04632cef9864ab64a5598d52") : Bool × String).1, ((true, "609cd92ea39eb4e537d872a8109a047ff653410f04632cef9864ab64a5598d52") : Bool × String).2.toList) := by kernel_rfl
end Go.Proofs.YtmbboflakfokhaaGreatDoor

/- What every law's claim shares: behind a call that only makes new blocks the arguments read as before. -/
set_option linter.unusedSimpArgs false
set_option linter.unusedVariables false
namespace Go.Proofs.YtmbboflakfokhaaGreatDoor
open Go.ChangeShapes Go.WideShapes Go.ChangeAt Go.RowKit
theorem lawLaid:laidOutB Tryz.prog=true:=by kernel_rfl
section
variable {H:Type} {enc:TypeId × Value→H} {P:Program} {W W':World}
theorem trodAll_length {base:Nat} {sp:Nat→Bool} {held:Bool}:∀ {ts:List TypeId} {vs:List Value} {ds:List (DataW H)} {ps:List MemPlace},DataW.TrodAll enc P W base sp held ts vs ds ps→ds.length=ts.length∧vs.length=ts.length
  | [],_,_,_,h=>by obtain ⟨rfl,rfl,_⟩:=trodAll_nil h;exact ⟨rfl,rfl⟩
  | t::ts,_,_,_,h=>by
    obtain ⟨v,vs,d,ds,p,q,rfl,rfl,rfl,_,h2⟩:=trodAll_cons h
    have:=trodAll_length h2
    simp [this.1,this.2]
theorem trodAll_below (hl:laidOutB P=true) (hb:Below W.heap.size W W'):∀ {ts:List TypeId} {vs:List Value} {ds:List (DataW H)} {ps:List MemPlace},
    (ts.all fun t=>P.readableRec t && decide (t<P.types.size))=true→DataW.TrodAll enc P W 0 (fun _=>true) true ts vs ds ps→(∀ x∈ps,x.block<W.heap.size) →
    ∀ (sp:Nat→Bool),(∀ x∈ps,sp x.block=true)→DataW.TrodAll enc P W' 0 sp true ts vs ds ps
  | [],vs,ds,ps,_,h,_,sp,_=>by obtain ⟨rfl,rfl,rfl⟩:=trodAll_nil h;exact trodAll_mk0
  | t::ts,_,_,_,hr,h,hlt,sp,hsp=>by
    obtain ⟨v,vs,d,ds,p,q,rfl,rfl,rfl,h1,h2⟩:=trodAll_cons h
    simp only [List.all_cons,Bool.and_eq_true,decide_eq_true_eq] at hr
    refine trodAll_cons_mk (WideElems.Trod_stays hl hr.1.1 hr.1.2 h1 (fun x hx=>hb.same (hlt x (by simp [hx]))) (fun x hx=>hsp x (by simp [hx]))) ?_
    exact trodAll_below hl hb hr.2 h2 (fun x hx=>hlt x (by simp [hx])) sp (fun x hx=>hsp x (by simp [hx]))
theorem law_post {f:Func} {s:ChangeSpec} {args:Array Value} {ds:List (DataW H)} {p:List MemPlace} {rs:List TypeId} {tb:TypeId}
    (hW:DataW.Whole enc P f.params.toList s.vars false W args.toList ds [] (p++[])) (hA:DataW.TrodAll enc P W 0 (fun _=>true) true f.params.toList args.toList ds p) (hv:s.vars=[])
    (hb:Below W.heap.size W W') (hl:laidOutB P=true) (hr:(f.params.toList.all fun t=>P.readableRec t && decide (t<P.types.size))=true)
    (hfn:s.fn H ds={ results:=[.lit (.bool true)],args:=ds }) (hres:f.resultTypes.toList=rs) (hrs:rs=[tb]) (ht:P.underlying tb=some .bool) :
    s.post enc P f false true false false W args (.bool true) W':=by
  have hlt:∀ x∈p,x.block<W.heap.size:=fun x hx=>hW.lt x (by simp [hx])
  have hfn':s.fn H (ds++[])={ results:=[.lit (.bool true)],args:=ds }:=by rw [List.append_nil];exact hfn
  have hsz:f.resultTypes.size=1:=by
    have:f.resultTypes.toList.length=1:=by rw [hres,hrs];rfl
    simpa using this
  refine ⟨ds,[],p++[],[],p,[],hW,?_,?_,?_,hb.frame _,fun h=>by cases h⟩
  · rw [hfn',hres,hrs,hsz]
    exact trodAll_mk1 (shut_bool ht true)
  · rw [hfn']
    exact trodAll_below hl hb hr hA hlt _ (fun x hx=>by simpa using hlt x hx)
  · rw [hfn',hv]
    exact rfl
end
end Go.Proofs.YtmbboflakfokhaaGreatDoor

/- Plain data: a lot; how slices of lots read. -/
set_option linter.unusedSimpArgs false
set_option linter.unusedVariables false
namespace Go.Proofs.YtmbboflakfokhaaGreatDoor
open Go.ChangeShapes Go.WideShapes Go.ChangeAt Go.RowKit Go.Deep
structure Lot where
  id:Int
  owner:Int
  side:Int
  price:Int
  qty:Int
  deriving DecidableEq
def Lot.cells (a:Lot):List Value:=[.int .i64 a.id,.int .i64 a.owner,.int .i64 a.side,.int .i64 a.price,.int .i64 a.qty]
abbrev Lot.val (a:Lot):Value:=.agg #[.int .i64 a.id,.int .i64 a.owner,.int .i64 a.side,.int .i64 a.price,.int .i64 a.qty]
def Lot.wf (a:Lot):Prop:=(Lit.int .i64 a.id).wf=true∧(Lit.int .i64 a.owner).wf=true∧(Lit.int .i64 a.side).wf=true∧(Lit.int .i64 a.price).wf=true∧(Lit.int .i64 a.qty).wf=true
def LotsAt (w:World) (ao:Option Addr) (len:Nat) (l:List Lot):Prop :=
  l.length=len∧len≤9223372036854775807∧(∀ a∈l,a.wf) ∧
    (0<len→∃ b off,ao=some ⟨b,off,none⟩∧b<w.heap.size∧∀ k (h:k<l.length) j,j<5→w.cell? ⟨b,off+k*5+j,none⟩=l[k].cells[j]?)
end Go.Proofs.YtmbboflakfokhaaGreatDoor

/- What curve's One and Check compute. -/
set_option linter.unusedSimpArgs false
set_option linter.unusedVariables false
namespace Go.Proofs.YtmbboflakfokhaaGreatDoor
open Go.RowKit
def Lot.ok (l:Lot):Bool:=inR l.id 1 1073741824 && inR l.owner 0 5 && inR l.side 0 1 && inR l.price 1 1000 && inR l.qty 1 1000
set_option maxRecDepth 100000 in
set_option maxHeartbeats 2000000 in
theorem one_any (l:Lot) (E:Nat→Addr) (w:World) (hE:Errs E [2] w) :
    Calls Tryz.prog 64 #[l.val] w fun e w'=>e=.returned (errV E (if l.ok then 0 else 2))∧Ex w w':=by
  have e2:w.cell? ⟨0,0,none⟩=some (.iface 228 (.pointer (some (E 2)))):=hE 2 (by decide)
  have b2:0<w.heap.size:=lt_of_cell e2
  clear hE
  by_cases h1:l.id<1
  · have hk:l.ok=false:=by simp only [Lot.ok,inR,Bool.and_eq_true,Bool.and_eq_false_iff,decide_eq_true_eq,decide_eq_false_iff_not];omega
    rw [hk]
    clear hk
    go_enter Tryz.func64,Tryz.ntmps64
    go_wp2
    all_goals go_ret
    all_goals exact ⟨congrArg Ending.returned (by simp [errV, *]),(by repeat (first|exact Ex.refl _|refine Ex.alloc ?_ _|refine Ex.ext ?_ _ _|refine Ex.drew ?_|refine Ex.drewN ?_ _))⟩
  by_cases h2:l.id > 1073741824
  · have hk:l.ok=false:=by simp only [Lot.ok,inR,Bool.and_eq_true,Bool.and_eq_false_iff,decide_eq_true_eq,decide_eq_false_iff_not];omega
    rw [hk]
    clear hk
    go_enter Tryz.func64,Tryz.ntmps64
    go_wp2
    all_goals go_ret
    all_goals exact ⟨congrArg Ending.returned (by simp [errV, *]),(by repeat (first|exact Ex.refl _|refine Ex.alloc ?_ _|refine Ex.ext ?_ _ _|refine Ex.drew ?_|refine Ex.drewN ?_ _))⟩
  by_cases h3:l.owner<0
  · have hk:l.ok=false:=by simp only [Lot.ok,inR,Bool.and_eq_true,Bool.and_eq_false_iff,decide_eq_true_eq,decide_eq_false_iff_not];omega
    rw [hk]
    clear hk
    go_enter Tryz.func64,Tryz.ntmps64
    go_wp2
    all_goals go_ret
    all_goals exact ⟨congrArg Ending.returned (by simp [errV, *]),(by repeat (first|exact Ex.refl _|refine Ex.alloc ?_ _|refine Ex.ext ?_ _ _|refine Ex.drew ?_|refine Ex.drewN ?_ _))⟩
  by_cases h4:l.owner ≥ 6
  · have hk:l.ok=false:=by simp only [Lot.ok,inR,Bool.and_eq_true,Bool.and_eq_false_iff,decide_eq_true_eq,decide_eq_false_iff_not];omega
    rw [hk]
    clear hk
    go_enter Tryz.func64,Tryz.ntmps64
    go_wp2
    all_goals go_ret
    all_goals exact ⟨congrArg Ending.returned (by simp [errV, *]),(by repeat (first|exact Ex.refl _|refine Ex.alloc ?_ _|refine Ex.ext ?_ _ _|refine Ex.drew ?_|refine Ex.drewN ?_ _))⟩
  by_cases h5:l.side=0
  · by_cases h6:l.price<1
    · have hk:l.ok=false:=by simp only [Lot.ok,inR,Bool.and_eq_true,Bool.and_eq_false_iff,decide_eq_true_eq,decide_eq_false_iff_not];omega
      rw [hk]
      clear hk
      go_enter Tryz.func64,Tryz.ntmps64
      go_wp2
      all_goals go_ret
      all_goals exact ⟨congrArg Ending.returned (by simp [errV, *]),(by repeat (first|exact Ex.refl _|refine Ex.alloc ?_ _|refine Ex.ext ?_ _ _|refine Ex.drew ?_|refine Ex.drewN ?_ _))⟩
    by_cases h7:l.price > 1000
    · have hk:l.ok=false:=by simp only [Lot.ok,inR,Bool.and_eq_true,Bool.and_eq_false_iff,decide_eq_true_eq,decide_eq_false_iff_not];omega
      rw [hk]
      clear hk
      go_enter Tryz.func64,Tryz.ntmps64
      go_wp2
      all_goals go_ret
      all_goals exact ⟨congrArg Ending.returned (by simp [errV, *]),(by repeat (first|exact Ex.refl _|refine Ex.alloc ?_ _|refine Ex.ext ?_ _ _|refine Ex.drew ?_|refine Ex.drewN ?_ _))⟩
    by_cases h8:l.qty<1
    · have hk:l.ok=false:=by simp only [Lot.ok,inR,Bool.and_eq_true,Bool.and_eq_false_iff,decide_eq_true_eq,decide_eq_false_iff_not];omega
      rw [hk]
      clear hk
      go_enter Tryz.func64,Tryz.ntmps64
      go_wp2
      all_goals go_ret
      all_goals exact ⟨congrArg Ending.returned (by simp [errV, *]),(by repeat (first|exact Ex.refl _|refine Ex.alloc ?_ _|refine Ex.ext ?_ _ _|refine Ex.drew ?_|refine Ex.drewN ?_ _))⟩
    by_cases h9:l.qty > 1000
    · have hk:l.ok=false:=by simp only [Lot.ok,inR,Bool.and_eq_true,Bool.and_eq_false_iff,decide_eq_true_eq,decide_eq_false_iff_not];omega
      rw [hk]
      clear hk
      go_enter Tryz.func64,Tryz.ntmps64
      go_wp2
      all_goals go_ret
      all_goals exact ⟨congrArg Ending.returned (by simp [errV, *]),(by repeat (first|exact Ex.refl _|refine Ex.alloc ?_ _|refine Ex.ext ?_ _ _|refine Ex.drew ?_|refine Ex.drewN ?_ _))⟩
    · have hk:l.ok=true:=by simp only [Lot.ok,inR,Bool.and_eq_true,Bool.and_eq_false_iff,decide_eq_true_eq,decide_eq_false_iff_not];omega
      rw [hk]
      clear hk
      go_enter Tryz.func64,Tryz.ntmps64
      go_wp2
      all_goals go_ret
      all_goals exact ⟨congrArg Ending.returned (by simp [errV, *]),(by repeat (first|exact Ex.refl _|refine Ex.alloc ?_ _|refine Ex.ext ?_ _ _|refine Ex.drew ?_|refine Ex.drewN ?_ _))⟩
  by_cases h6:l.side=1
  · by_cases h6':l.price<1
    · have hk:l.ok=false:=by simp only [Lot.ok,inR,Bool.and_eq_true,Bool.and_eq_false_iff,decide_eq_true_eq,decide_eq_false_iff_not];omega
      rw [hk]
      clear hk
      go_enter Tryz.func64,Tryz.ntmps64
      go_wp2
      all_goals go_ret
      all_goals exact ⟨congrArg Ending.returned (by simp [errV, *]),(by repeat (first|exact Ex.refl _|refine Ex.alloc ?_ _|refine Ex.ext ?_ _ _|refine Ex.drew ?_|refine Ex.drewN ?_ _))⟩
    by_cases h7:l.price > 1000
    · have hk:l.ok=false:=by simp only [Lot.ok,inR,Bool.and_eq_true,Bool.and_eq_false_iff,decide_eq_true_eq,decide_eq_false_iff_not];omega
      rw [hk]
      clear hk
      go_enter Tryz.func64,Tryz.ntmps64
      go_wp2
      all_goals go_ret
      all_goals exact ⟨congrArg Ending.returned (by simp [errV, *]),(by repeat (first|exact Ex.refl _|refine Ex.alloc ?_ _|refine Ex.ext ?_ _ _|refine Ex.drew ?_|refine Ex.drewN ?_ _))⟩
    by_cases h8:l.qty<1
    · have hk:l.ok=false:=by simp only [Lot.ok,inR,Bool.and_eq_true,Bool.and_eq_false_iff,decide_eq_true_eq,decide_eq_false_iff_not];omega
      rw [hk]
      clear hk
      go_enter Tryz.func64,Tryz.ntmps64
      go_wp2
      all_goals go_ret
      all_goals exact ⟨congrArg Ending.returned (by simp [errV, *]),(by repeat (first|exact Ex.refl _|refine Ex.alloc ?_ _|refine Ex.ext ?_ _ _|refine Ex.drew ?_|refine Ex.drewN ?_ _))⟩
    by_cases h9:l.qty > 1000
    · have hk:l.ok=false:=by simp only [Lot.ok,inR,Bool.and_eq_true,Bool.and_eq_false_iff,decide_eq_true_eq,decide_eq_false_iff_not];omega
      rw [hk]
      clear hk
      go_enter Tryz.func64,Tryz.ntmps64
      go_wp2
      all_goals go_ret
      all_goals exact ⟨congrArg Ending.returned (by simp [errV, *]),(by repeat (first|exact Ex.refl _|refine Ex.alloc ?_ _|refine Ex.ext ?_ _ _|refine Ex.drew ?_|refine Ex.drewN ?_ _))⟩
    · have hk:l.ok=true:=by simp only [Lot.ok,inR,Bool.and_eq_true,Bool.and_eq_false_iff,decide_eq_true_eq,decide_eq_false_iff_not];omega
      rw [hk]
      clear hk
      go_enter Tryz.func64,Tryz.ntmps64
      go_wp2
      all_goals go_ret
      all_goals exact ⟨congrArg Ending.returned (by simp [errV, *]),(by repeat (first|exact Ex.refl _|refine Ex.alloc ?_ _|refine Ex.ext ?_ _ _|refine Ex.drew ?_|refine Ex.drewN ?_ _))⟩
  · have hk:l.ok=false:=by simp only [Lot.ok,inR,Bool.and_eq_true,Bool.and_eq_false_iff,decide_eq_true_eq,decide_eq_false_iff_not];omega
    rw [hk]
    clear hk
    go_enter Tryz.func64,Tryz.ntmps64
    go_wp2
    all_goals go_ret
    all_goals exact ⟨congrArg Ending.returned (by simp [errV, *]),(by repeat (first|exact Ex.refl _|refine Ex.alloc ?_ _|refine Ex.ext ?_ _ _|refine Ex.drew ?_|refine Ex.drewN ?_ _))⟩
end Go.Proofs.YtmbboflakfokhaaGreatDoor

/- What Check's search for an ID computes. -/
set_option linter.unusedSimpArgs false
set_option linter.unusedVariables false
namespace Go.Proofs.YtmbboflakfokhaaGreatDoor
open Go.RowKit
def idIdx (l:List Lot) (id:Int):Int:=match l.findIdx? (fun y=>y.id==id) with|some k=>(k:Int)|none=>-1
theorem idIdx_some {l:List Lot} {id:Int} {k:Nat} (hk:k<l.length) (h:l[k].id=id) (hn:∀ j,(hj:j<k)→l[j].id≠id):idIdx l id=k:=by
  have:l.findIdx? (fun y=>y.id==id)=some k:=by
    rw [List.findIdx?_eq_some_iff_getElem]
    exact ⟨hk,by simpa using h,fun j hj=>by simpa using hn j hj⟩
  simp [idIdx,this]
theorem idIdx_none {l:List Lot} {id:Int} (hn:∀ j,(hj:j<l.length)→l[j].id≠id):idIdx l id=-1:=by
  have:l.findIdx? (fun y=>y.id==id)=none:=by
    rw [List.findIdx?_eq_none_iff]
    intro y hy
    obtain ⟨j,hj,rfl⟩:=List.getElem_of_mem hy
    simpa using hn j hj
  simp [idIdx,this]
set_option maxRecDepth 100000 in
theorem sameId_any (y:Lot) (id:Int) (xb:Nat) (w:World) (hx:w.cell? ⟨xb,0,none⟩=some (.int .i64 id)) :
    Calls Tryz.prog 100 #[y.val,.pointer (some ⟨xb,0,none⟩)] w fun e w'=>e=.returned (.bool (y.id==id))∧Ex w w':=by
  have hb:=lt_of_cell hx
  go_enter Tryz.func100,Tryz.ntmps100
  go_wp2
  all_goals go_ret
  all_goals exact ⟨ret_bool (by simp),(by repeat (first|exact Ex.refl _|refine Ex.alloc ?_ _|refine Ex.ext ?_ _ _|refine Ex.drew ?_|refine Ex.drewN ?_ _))⟩
set_option maxRecDepth 100000 in
set_option maxHeartbeats 1000000 in
theorem index_any (ao:Option Addr) (len cap:Nat) (l:List Lot) (id:Int) (xb:Nat) (w:World) (hl:LotsAt w ao len l) (hx:w.cell? ⟨xb,0,none⟩=some (.int .i64 id)) :
    Calls Tryz.prog 97 #[.slice ao len cap,.func (.func 100) #[] #[.pointer (some ⟨xb,0,none⟩)]] w fun e w' =>
      e=.returned (.int .i64 (idIdx l id))∧Ex w w':=by
  obtain ⟨hlen,hmx,hwf,hz⟩:=hl
  have hb:=lt_of_cell hx
  have HZ:=Lib.hid hz
  have HL:=Lib.hid hlen
  clear hz hlen hwf
  go_enter Tryz.func97,Tryz.ntmps97
  go_wp2
  go_loopw [8] (fun i wr=>∃ (k:Nat),k≤len∧i=.int .i64 k∧(∀ j,(hj:j<l.length)→j<k→l[j].id≠id)∧Ex w wr) (fun i _=>len - (intOf i).toNat)
  case atStart=>exact ⟨0,Nat.zero_le _,rfl,(fun j hj h=>absurd h (Nat.not_lt_zero _)),(by repeat (first|exact Ex.refl _|refine Ex.alloc ?_ _|refine Ex.ext ?_ _ _|refine Ex.drew ?_|refine Ex.drewN ?_ _))⟩
  case round =>
    obtain ⟨k,hk,rfl,hn,l1,d1,rfl⟩:=hrel
    have HN:=Lib.hid hn
    clear hn
    by_cases hlt:k<len
    · obtain ⟨b,off,rfl,hbs,hz⟩:=HZ.out (by omega)
      have hzk:=hz k (by rw [HL.out];exact hlt)
      clear hz
      have hg:∃ a,a=l[k]'(by rw [HL.out];exact hlt):=⟨_,rfl⟩
      obtain ⟨a,ha⟩:=hg
      rw [← ha] at hzk
      have HA:=Lib.hid ha
      clear ha
      have a0:=hzk 0 (by omega)
      have a1:=hzk 1 (by omega)
      have a2:=hzk 2 (by omega)
      have a3:=hzk 3 (by omega)
      have a4:=hzk 4 (by omega)
      simp only [Lot.cells,List.getElem?_cons_zero,List.getElem?_cons_succ,Nat.add_zero] at a0 a1 a2 a3 a4
      clear hzk
      go_wp2_with (go_at_call 100;refine (sameId_any a id xb _ (by simp [go_sem,↓IntWalk.iteOmega, *])).mono ?_;rintro e w1 ⟨rfl,l2,d2,rfl⟩)
      · go_ret
        rename_i hid
        exact ⟨ret_int (idIdx_some (k:=k) (by rw [HL.out];exact hlt) (by rw [← HA.out];simpa using hid) (fun j hj=>HN.out j (by have:=HL.out;omega) hj)).symm,(by repeat (first|exact Ex.refl _|refine Ex.alloc ?_ _|refine Ex.ext ?_ _ _|refine Ex.drew ?_|refine Ex.drewN ?_ _))⟩
      · rename_i hid
        go_roundw
        case measure=>simp [intOf];omega
        case rel =>
          refine ⟨k+1,by omega,by go_num,fun j hj hjk=>?_,(by repeat (first|exact Ex.refl _|refine Ex.alloc ?_ _|refine Ex.ext ?_ _ _|refine Ex.drew ?_|refine Ex.drewN ?_ _))⟩
          by_cases e:j=k
          · subst e
            rw [← HA.out];simpa using hid
          · exact HN.out j hj (by omega)
    · go_wp2
      go_ret
      exact ⟨ret_int (idIdx_none fun j hj=>HN.out j hj (by have:=HL.out;omega)).symm,(by repeat (first|exact Ex.refl _|refine Ex.alloc ?_ _|refine Ex.ext ?_ _ _|refine Ex.drew ?_|refine Ex.drewN ?_ _))⟩
end Go.Proofs.YtmbboflakfokhaaGreatDoor

/- What a book's search for an ID computes. -/
set_option linter.unusedSimpArgs false
set_option linter.unusedVariables false
namespace Go.Proofs.YtmbboflakfokhaaGreatDoor
open Go.RowKit
set_option maxRecDepth 100000 in
theorem sameIdB_any (y:Lot) (id:Int) (xb:Nat) (w:World) (hx:w.cell? ⟨xb,0,none⟩=some (.int .i64 id)) :
    Calls Tryz.prog 98 #[y.val,.pointer (some ⟨xb,0,none⟩)] w fun e w'=>e=.returned (.bool (y.id==id))∧Ex w w':=by
  have hb:=lt_of_cell hx
  go_enter Tryz.func98,Tryz.ntmps98
  go_wp2
  all_goals go_ret
  all_goals exact ⟨ret_bool (by simp),(by repeat (first|exact Ex.refl _|refine Ex.alloc ?_ _|refine Ex.ext ?_ _ _|refine Ex.drew ?_|refine Ex.drewN ?_ _))⟩
set_option maxRecDepth 100000 in
set_option maxHeartbeats 1000000 in
theorem indexB_any (ao:Option Addr) (len cap:Nat) (l:List Lot) (id:Int) (xb:Nat) (w:World) (hl:LotsAt w ao len l) (hx:w.cell? ⟨xb,0,none⟩=some (.int .i64 id)) :
    Calls Tryz.prog 97 #[.slice ao len cap,.func (.func 98) #[] #[.pointer (some ⟨xb,0,none⟩)]] w fun e w' =>
      e=.returned (.int .i64 (idIdx l id))∧Ex w w':=by
  obtain ⟨hlen,hmx,hwf,hz⟩:=hl
  have hb:=lt_of_cell hx
  have HZ:=Lib.hid hz
  have HL:=Lib.hid hlen
  clear hz hlen hwf
  go_enter Tryz.func97,Tryz.ntmps97
  go_wp2
  go_loopw [8] (fun i wr=>∃ (k:Nat),k≤len∧i=.int .i64 k∧(∀ j,(hj:j<l.length)→j<k→l[j].id≠id)∧Ex w wr) (fun i _=>len - (intOf i).toNat)
  case atStart=>exact ⟨0,Nat.zero_le _,rfl,(fun j hj h=>absurd h (Nat.not_lt_zero _)),(by repeat (first|exact Ex.refl _|refine Ex.alloc ?_ _|refine Ex.ext ?_ _ _|refine Ex.drew ?_|refine Ex.drewN ?_ _))⟩
  case round =>
    obtain ⟨k,hk,rfl,hn,l1,d1,rfl⟩:=hrel
    have HN:=Lib.hid hn
    clear hn
    by_cases hlt:k<len
    · obtain ⟨b,off,rfl,hbs,hz⟩:=HZ.out (by omega)
      have hzk:=hz k (by rw [HL.out];exact hlt)
      clear hz
      have hg:∃ a,a=l[k]'(by rw [HL.out];exact hlt):=⟨_,rfl⟩
      obtain ⟨a,ha⟩:=hg
      rw [← ha] at hzk
      have HA:=Lib.hid ha
      clear ha
      have a0:=hzk 0 (by omega)
      have a1:=hzk 1 (by omega)
      have a2:=hzk 2 (by omega)
      have a3:=hzk 3 (by omega)
      have a4:=hzk 4 (by omega)
      simp only [Lot.cells,List.getElem?_cons_zero,List.getElem?_cons_succ,Nat.add_zero] at a0 a1 a2 a3 a4
      clear hzk
      go_wp2_with (go_at_call 98;refine (sameIdB_any a id xb _ (by simp [go_sem,↓IntWalk.iteOmega, *])).mono ?_;rintro e w1 ⟨rfl,l2,d2,rfl⟩)
      · go_ret
        rename_i hid
        exact ⟨ret_int (idIdx_some (k:=k) (by rw [HL.out];exact hlt) (by rw [← HA.out];simpa using hid) (fun j hj=>HN.out j (by have:=HL.out;omega) hj)).symm,(by repeat (first|exact Ex.refl _|refine Ex.alloc ?_ _|refine Ex.ext ?_ _ _|refine Ex.drew ?_|refine Ex.drewN ?_ _))⟩
      · rename_i hid
        go_roundw
        case measure=>simp [intOf];omega
        case rel =>
          refine ⟨k+1,by omega,by go_num,fun j hj hjk=>?_,(by repeat (first|exact Ex.refl _|refine Ex.alloc ?_ _|refine Ex.ext ?_ _ _|refine Ex.drew ?_|refine Ex.drewN ?_ _))⟩
          by_cases e:j=k
          · subst e
            rw [← HA.out];simpa using hid
          · exact HN.out j hj (by omega)
    · go_wp2
      go_ret
      exact ⟨ret_int (idIdx_none fun j hj=>HN.out j hj (by have:=HL.out;omega)).symm,(by repeat (first|exact Ex.refl _|refine Ex.alloc ?_ _|refine Ex.ext ?_ _ _|refine Ex.drew ?_|refine Ex.drewN ?_ _))⟩
end Go.Proofs.YtmbboflakfokhaaGreatDoor

/- A book of lots that rest. What New, find and Lots of package book compute. -/
set_option linter.unusedSimpArgs false
set_option linter.unusedVariables false
namespace Go.Proofs.YtmbboflakfokhaaGreatDoor
open Go.RowKit
theorem lotc_len (x:Lot):x.cells.length=5:=rfl
theorem lot_one (l:List Lot):∀ u∈flat Lot.cells l,u.oneCell'=true:=by
  intro u hu
  obtain ⟨x,_,hx⟩:=List.mem_flatMap.1 hu
  simp only [Lot.cells,List.mem_cons,List.not_mem_nil,or_false] at hx
  rcases hx with rfl|rfl|rfl|rfl|rfl<;>rfl
theorem lotsB_of_row {w:World} {e:TypeId} {ao:Option Addr} {n cap:Nat} {l:List Lot} (hwf:∀ a∈l,a.wf) (hn:n≤9223372036854775807) (hl:l.length=n) (h:RowAt w e 5 (.slice ao n cap) n (flat Lot.cells l)):LotsAt w ao n l:=by
  refine ⟨hl,hn,hwf,fun h0=>?_⟩
  have h':=h
  obtain ⟨_,⟨hv,hz⟩|⟨g,off,cap',cur,hv,⟨fr,hg,_⟩,_⟩⟩:=h
  · omega
  · cases hv
    refine ⟨g,off,rfl,(Array.getElem?_eq_some_iff.1 hg).1,fun k hk j hj=>?_⟩
    rw [Nat.add_assoc,h'.cell (j:=k*5+j) (by omega),flat_get lotc_len l k hk j hj]
def BookAt (own:Nat→Nat) (i:Nat) (w:World) (p:Nat) (l:List Lot):Prop:=l.length≤60∧(∀ x∈l,x.wf)∧∃ v,OneAt own i w p 1 (fun _=>.nilIface) 44 5 v l.length (flat Lot.cells l)
section
variable {own own':Nat→Nat} {i m g:Nat} {w w':World} {p:Nat} {l:List Lot}
theorem BookAt.lt (h:BookAt own i w p l):p<w.heap.size:=by obtain ⟨_,_,v,h⟩:=h;exact h.lt
theorem BookAt.kp (h:BookAt own i w p l) (hk:Kp own m g w w') (hi:i / m≠g) (ho:∀ n,n<w.heap.size→own n=i→own' n=i):BookAt own' i w' p l:=by
  obtain ⟨h1,h2,v,h3⟩:=h
  exact ⟨h1,h2,v,h3.kp hk hi ho⟩
theorem BookAt.relabel (h:BookAt own i w p l) (ho:∀ n,n<w.heap.size→own n=i→own' n=i):BookAt own' i w p l:=h.kp (m:=1) (g:=i+1) (Kp.refl _ _ _ _) (by simp) ho
theorem BookAt.later (h:BookAt own i w p l) (hx:Ex w w'):BookAt own i w' p l:=by
  obtain ⟨h1,h2,v,h3⟩:=h
  exact ⟨h1,h2,v,h3.later hx⟩
theorem BookAt.keep (h:BookAt own i w p l) (hx:Ex w w'):ObjTo own i i w (fun o w'=>BookAt o i w' p l) w':=ObjTo.of_ex hx ((h.relabel (fun n hn e=>by rw [lab_lt hn];exact e)).later hx)
theorem BookAt.slice (h:BookAt own i w p l):∃ ao cap,w.cell? ⟨p,0,none⟩=some (.slice ao l.length cap)∧l.length≤cap∧cap≤maxLen∧(ao=none→cap=0)∧LotsAt w ao l.length l∧RowAt w 44 5 (.slice ao l.length cap) l.length (flat Lot.cells l):=by
  obtain ⟨h1,h2,v,h3⟩:=h
  obtain ⟨ao,cap,rfl,hc,hm,h0,_⟩:=h3.2.1.form
  exact ⟨ao,cap,h3.cell0 (by decide),hc,hm,h0,lotsB_of_row h2 (by omega) rfl h3.2.1.1,h3.2.1.1⟩
end
section
variable {own:Nat→Nat} {i:Nat} {w:World} {p:Nat} {l:List Lot}
set_option maxRecDepth 100000 in
theorem find_any (h:BookAt own i w p l) (id:Int):Calls Tryz.prog 65 #[.pointer (some ⟨p,0,none⟩),.int .i64 id] w fun e w'=>e=.returned (.int .i64 (idIdx l id))∧Ex w w':=by
  obtain ⟨ao,cap,c0,hc,hm,h0,hl,hr⟩:=h.slice
  have hp:=h.lt
  have HI:=Lib.hid (fun xb W hx hW=>indexB_any ao l.length cap l id xb W hW hx)
  have HL:=Lib.hid (fun W (hx:Ex w W)=>(show LotsAt W ao l.length l from by
    obtain ⟨a1,a2,a3,a4⟩:=hl
    exact ⟨a1,a2,a3,fun hz=>by
      obtain ⟨b,off,e,hb,hcc⟩:=a4 hz
      exact ⟨b,off,e,Nat.lt_of_lt_of_le hb hx.below.size,fun k hk j hj=>(hx.below.cell (p:=⟨b,off+k*5+j,none⟩) hb).trans (hcc k hk j hj)⟩⟩))
  clear hl hr h
  go_enter Tryz.func65,Tryz.ntmps65
  go_wp2_with (go_at_call 97;refine (HI.out w.heap.size _ ?_ ?_).mono ?_;(focus (simp [go_sem]));(focus (exact HL.out _ (by repeat (first|exact Ex.refl _|refine Ex.alloc ?_ _|refine Ex.ext ?_ _ _|refine Ex.drew ?_|refine Ex.drewN ?_ _))));rintro e w1 ⟨rfl,l1,d1,rfl⟩)
  all_goals go_ret
  all_goals exact ⟨rfl,(by repeat (first|exact Ex.refl _|refine Ex.alloc ?_ _|refine Ex.ext ?_ _ _|refine Ex.drew ?_|refine Ex.drewN ?_ _))⟩
theorem infoLotB:(Tryz.prog.info? 44).map (fun i=>(i.zero,i.size,i.bytes))=some (some (.agg #[.int .i64 0,.int .i64 0,.int .i64 0,.int .i64 0,.int .i64 0]),5,40):=by kernel_rfl
def LotsRow (base:Nat) (l:List Lot) (v:Value) (w:World):Prop:=w.ownsRow base 44 5 v l.length (flat Lot.cells l)
set_option maxRecDepth 100000 in
theorem clone_any (ao:Option Addr) (cap:Nat) (l:List Lot) (w:World) (hl:l.length≤1000) (h0:ao=none→cap=0) (hr:RowAt w 44 5 (.slice ao l.length cap) l.length (flat Lot.cells l)) :
    Calls Tryz.prog 59 #[.slice ao l.length cap] w fun e w'=>(∃ v,e=.returned v∧LotsRow w.heap.size l v w')∧Ex w w':=by
  obtain ⟨i0,hi0,hz0,hz1,hz2⟩:=info_parts infoLotB
  have HR:=Lib.hid hr
  obtain ⟨_,⟨hv,hz⟩|⟨g,off,cap',cur,hv,⟨fr,hg,_⟩,hnc,hm,hs,ht⟩⟩:=hr
  · obtain ⟨rfl,_,rfl⟩:ao=none∧l.length=0∧cap=0:=by injection hv with e1 e2 e3;exact ⟨e1,hz,e3⟩
    obtain rfl:l=[]:=List.eq_nil_of_length_eq_zero hz
    have he:=fun w n c=>Go.Lib.run_eql_slice_nil (P:=Tryz.prog) w 50 44 none n c 0 0 Tryz.underlying50
    go_enter Tryz.func59,Tryz.ntmps59
    go_wp2_with fail
    all_goals go_ret
    all_goals exact ⟨⟨_,rfl,World.ownsRow_nil _ _ _ _⟩,(by repeat (first|exact Ex.refl _|refine Ex.alloc ?_ _|refine Ex.ext ?_ _ _|refine Ex.drew ?_|refine Ex.drewN ?_ _))⟩
  · obtain ⟨rfl,rfl⟩:ao=some ⟨g,off,none⟩∧cap=cap':=by cases hv;exact ⟨rfl,rfl⟩
    have hgl:=(Array.getElem?_eq_some_iff.1 hg).1
    have hcell:∀ j u,(flat Lot.cells l)[j]?=some u→(w.alloc (.cells #[] 44)).cell? ((⟨g,off,none⟩:Addr).add j)=some u:=fun j u hu=>by
      have hj:j<l.length*5:=by
        have:=(List.getElem?_eq_some_iff.1 hu).1
        rwa [flat_length lotc_len] at this
      rw [addr_add,← hu,← HR.out.cell hj]
      exact ((Ex.refl w).alloc _).below.cell (p:=⟨g,off+j,none⟩) hgl
    have HC:=Lib.hid hcell
    have hfl:=flat_length lotc_len l
    have h1l:=lot_one l
    have HF:=Lib.hid hfl
    have H1:=Lib.hid h1l
    clear hcell hg ht hs hv hfl h1l
    have he:=fun w n c=>Go.Lib.run_eql_slice_nil (P:=Tryz.prog) w 50 44 (some ⟨g,off,none⟩) n c 0 0 Tryz.underlying50
    go_enter Tryz.func59,Tryz.ntmps59
    go_wp2_with (at_builtin;refine wpList_append_own _ rfl (.tmp 5) (.tmp 6) 50 rfl w.heap.size 44 i0 _ 5 40 Tryz.underlying50 hi0 hz0 hz1 hz2 rfl (by decide) (.slice (some ⟨w.heap.size,0,none⟩) 0 0) 0 [] rfl (World.ownsRow_made w #[] 0 (Nat.le_refl _) (by decide) (by simp)) ⟨g,off,none⟩ l.length cap (flat Lot.cells l) rfl HF.out HC.out H1.out (by unfold maxLen;omega) (by omega) (by simp) ?_;intro v1 w3 hown hgrow hnil)
    all_goals go_ret
    all_goals
      rw [Nat.zero_add,List.nil_append] at hown
      exact ⟨⟨_,rfl,hown⟩,Ex.of (Below.grown ((Ex.refl w).alloc _).below hgrow (by simp) (fun k hk=>by cases hk;exact Nat.le_refl _))⟩
end
end Go.Proofs.YtmbboflakfokhaaGreatDoor

/- What Lots and Get of package book compute. -/
set_option linter.unusedSimpArgs false
set_option linter.unusedVariables false
namespace Go.Proofs.YtmbboflakfokhaaGreatDoor
open Go.RowKit
section
variable {own:Nat→Nat} {i:Nat} {w:World} {p:Nat} {l:List Lot}
set_option maxRecDepth 100000 in
theorem lots_any (h:BookAt own i w p l):Calls Tryz.prog 23 #[.pointer (some ⟨p,0,none⟩)] w fun e w'=>(∃ v,e=.returned v∧LotsRow w.heap.size l v w')∧Ex w w':=by
  obtain ⟨ao,cap,c0,hc,hm,h0,hl,hr⟩:=h.slice
  have hb:=h.1
  have HC:=Lib.hid (clone_any ao cap l w (by omega) h0 hr)
  clear hl hr h h0
  go_enter Tryz.func23,Tryz.ntmps23
  go_wp2_with (go_at_call 59;refine HC.out.mono ?_;rintro e w1 ⟨⟨v,rfl,hv⟩,l1,d1,rfl⟩)
  all_goals go_ret
  all_goals exact ⟨⟨v,rfl,hv⟩,(by repeat (first|exact Ex.refl _|refine Ex.alloc ?_ _|refine Ex.ext ?_ _ _|refine Ex.drew ?_|refine Ex.drewN ?_ _))⟩
theorem idIdx_cases (l:List Lot) (id:Int):(∃ k,∃ hk:k<l.length,idIdx l id=(k:Int)∧l[k].id=id∧l.findIdx? (fun y=>y.id==id)=some k)∨(idIdx l id=-1∧∀ x∈l,x.id≠id):=by
  unfold idIdx
  cases hf:l.findIdx? (fun y=>y.id==id) with
  | none =>
    right
    rw [List.findIdx?_eq_none_iff] at hf
    exact ⟨rfl,fun x hx e=>by have:=hf x hx;simp [e] at this⟩
  | some k =>
    left
    rw [List.findIdx?_eq_some_iff_getElem] at hf
    obtain ⟨hk,h1,_⟩:=hf
    exact ⟨k,hk,rfl,by simpa using h1,rfl⟩
def zeroLot:Lot:=⟨0,0,0,0,0⟩
set_option maxRecDepth 100000 in
theorem get_in (h:BookAt own i w p l) (id:Int) (k:Nat) (hk:k<l.length) (hi:idIdx l id=(k:Int)) :
    Calls Tryz.prog 40 #[.pointer (some ⟨p,0,none⟩),.int .i64 id] w fun e w'=>e=.returned (.tuple #[l[k].val,.bool true])∧Ex w w':=by
  obtain ⟨ao,cap,c0,hc,hm,h0,hl,hr⟩:=h.slice
  have hp:=h.lt
  have hb:=h.1
  have HF:=Lib.hid (fun W (hx:Ex w W)=>find_any (h.later hx) id)
  rw [hi] at HF
  obtain ⟨_,_,_,hz⟩:=hl
  obtain ⟨g,off,rfl,hg,hcc⟩:=hz (by omega)
  have hzk:=hcc k hk
  have a0:=hzk 0 (by omega)
  have a1:=hzk 1 (by omega)
  have a2:=hzk 2 (by omega)
  have a3:=hzk 3 (by omega)
  have a4:=hzk 4 (by omega)
  simp only [Lot.cells,List.getElem?_cons_zero,List.getElem?_cons_succ,Nat.add_zero] at a0 a1 a2 a3 a4
  generalize l[k]=x at *
  clear hz hcc hzk hr h h0 hi
  go_enter Tryz.func40,Tryz.ntmps40
  go_wp2_with (go_at_call 65;refine (HF.out _ (by repeat (first|exact Ex.refl _|refine Ex.alloc ?_ _|refine Ex.ext ?_ _ _|refine Ex.drew ?_|refine Ex.drewN ?_ _))).mono ?_;rintro e w1 ⟨rfl,l1,d1,rfl⟩)
  all_goals ((try simp only [Exit.inBlock,Exit.then]);(refine bodyPost_ret (v:=.tuple #[x.val,.bool true]) ?_ rfl ⟨rfl,(by repeat (first|exact Ex.refl _|refine Ex.alloc ?_ _|refine Ex.ext ?_ _ _|refine Ex.drew ?_|refine Ex.drewN ?_ _))⟩);simp only [results,Tryz.results40];simp [go_sem,↓IntWalk.iteOmega])
set_option maxRecDepth 100000 in
theorem get_out (h:BookAt own i w p l) (id:Int) (hi:idIdx l id=-1) :
    Calls Tryz.prog 40 #[.pointer (some ⟨p,0,none⟩),.int .i64 id] w fun e w'=>e=.returned (.tuple #[zeroLot.val,.bool false])∧Ex w w':=by
  have HF:=Lib.hid (fun W (hx:Ex w W)=>find_any (h.later hx) id)
  rw [hi] at HF
  clear h hi
  go_enter Tryz.func40,Tryz.ntmps40
  go_wp2_with (go_at_call 65;refine (HF.out _ (by repeat (first|exact Ex.refl _|refine Ex.alloc ?_ _|refine Ex.ext ?_ _ _|refine Ex.drew ?_|refine Ex.drewN ?_ _))).mono ?_;rintro e w1 ⟨rfl,l1,d1,rfl⟩)
  all_goals ((try simp only [Exit.inBlock,Exit.then]);(refine bodyPost_ret (v:=.tuple #[zeroLot.val,.bool false]) ?_ rfl ⟨rfl,(by repeat (first|exact Ex.refl _|refine Ex.alloc ?_ _|refine Ex.ext ?_ _ _|refine Ex.drew ?_|refine Ex.drewN ?_ _))⟩);simp only [results,Tryz.results40];simp [go_sem,↓IntWalk.iteOmega,zeroLot])
end
end Go.Proofs.YtmbboflakfokhaaGreatDoor
