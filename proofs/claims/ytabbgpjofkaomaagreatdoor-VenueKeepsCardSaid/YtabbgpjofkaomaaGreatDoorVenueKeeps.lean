import Derived.Test.YtabbgpjofkaomaaGreatDoorVLaw6
import Derived.Test.YtabbgpjofkaomaaGreatDoorJ45
/- VenueKeeps: for every input the law returns true, and the argument reads afterwards as it read before. No condition beyond the row's own: the package-level variables hold what the program's text lays. -/
set_option linter.unusedSimpArgs false
set_option linter.unusedVariables false
namespace Go.Proofs.YtabbgpjofkaomaaGreatDoor.venueKeepsClaim
open Go.ChangeShapes Go.WideShapes Go.ChangeAt Go.RowKit
set_option maxRecDepth 100000 in
theorem walkAll (H:Type) (enc:TypeId × Value→H) (W:World) (base:Nat) (args:Array Value) (ds:List (DataW H)) (p:List MemPlace)
    (hval:∀ (j:Nat) t v,Tryz.f5.params[j]?=some t→args[j]?=some v→Value.okWide Tryz.prog W .any base t v)
    (hA:DataW.TrodAll enc Tryz.prog W 0 (fun _=>true) true Tryz.f5.params.toList args.toList ds p) (hL:laidMetH Tryz.prog Rows.venueKeepsRow.laid W) :
    Calls Tryz.prog 5 args W fun e w'=>e=.returned (.bool true)∧Below W.heap.size W w':=by
  rw [Tryz.params5] at hA hval
  obtain ⟨v0,vs0,d0,ds0,p0,q0,hargs,rfl,rfl,h0,r0⟩:=trodAll_cons hA
  obtain ⟨rfl,rfl,rfl⟩:=trodAll_nil r0
  obtain rfl:args=#[v0]:=by cases args;simp_all
  obtain ⟨ao,len,cap,l,rfl,hcap,hz⟩:=steps_open (hval 0 22 v0 rfl rfl) h0
  obtain ⟨⟨E,hr⟩,ht⟩:=venue_laid hL
  obtain ⟨L,hLs⟩:=svs_exist hz.2.2.1
  exact (vkeeps_in hr ht ao len cap l L hz hLs).mono fun e w' ⟨h,k⟩=>⟨h,k.below⟩
set_option maxRecDepth 100000 in
theorem contract (H:Type) (enc:TypeId × Value→H) (W:World) (base:Nat) (args:Array Value) (ds gs:List (DataW H)) (before:List MemPlace)
    (hval:∀ (j:Nat) t v,Tryz.f5.params[j]?=some t→args[j]?=some v→Value.okWide Tryz.prog W .any base t v)
    (hW:DataW.Whole enc Tryz.prog Tryz.f5.params.toList Rows.venueKeepsSpec.vars false W args.toList ds gs before) (hL:laidMetH Tryz.prog Rows.venueKeepsRow.laid W) :
    Calls Tryz.prog 5 args W fun e W'=>∃ v,e=.returned v∧Rows.venueKeepsSpec.post enc Tryz.prog Tryz.f5 false true false false W args v W':=by
  have hW':=hW
  obtain ⟨p,q,hA0,hV,rfl,hfz,hnd⟩:=hW
  obtain ⟨rfl,rfl⟩:=trodVars_none hV
  have hA:DataW.TrodAll enc Tryz.prog W 0 (fun _=>true) true Tryz.f5.params.toList args.toList ds p:=hA0
  have hlen:=trodAll_length hA
  refine (walkAll H enc W base args ds p hval hA hL).mono fun e W' ⟨he,hb⟩=>?_
  subst he
  refine ⟨_,rfl,law_post (rs:=[4]) hW' hA rfl hb lawLaid (by kernel_rfl) ?_ (by kernel_rfl) rfl Tryz.underlying4⟩
  rw [Tryz.params5] at hlen
  match ds,hlen with|[d1],_=>rfl
theorem laid_met (os:Os):laidMetH Tryz.prog Rows.venueKeepsRow.laid ((laidV os).forCall (fun _ _=>0) ⟨#[],#[.slice none 0 0],[]⟩).memory :=
  laidMetH_of_parts3 (fuel:=8) (laidMet_of_run' 8 (by kernel_rfl) (by kernel_rfl)) (by kernel_rfl) (by kernel_rfl)
theorem reads (os:Os) {H:Type} (enc:TypeId × Value→H):∃ places,DataW.whole enc Tryz.prog ((laidV os).forCall (fun _ _=>0) ⟨#[],#[.slice none 0 0],[]⟩).memory Tryz.f5.params.toList Rows.venueKeepsSpec.vars false (#[.slice none 0 0]:Array Value).toList 8=some ([.nil],[],places) :=
  ⟨[],by kernel_rfl⟩
set_option maxRecDepth 100000 in
theorem lifted (os:Os) (started:os.Started) (H:Type) (enc:TypeId × Value→H) (F:Stop.Interp) :
    ReturnsInHanded {} Tryz.checked os 5 .any ((OpenSpec.ofChange Rows.venueKeepsSpec).preRow enc Tryz.prog Tryz.f5 Rows.venueKeepsRow.domain false Rows.venueKeepsRow.laid) (((OpenSpec.ofChange Rows.venueKeepsSpec).at F).post enc Tryz.prog Tryz.f5 false true false false):=by
  obtain ⟨places,hx⟩:=reads os enc
  refine returnsInHanded_of_row (C:=Tryz.checked) (s:=OpenSpec.ofChange Rows.venueKeepsSpec) own started (by kernel_rfl) Tryz.func5
    (witness_row_atRef (enc:=enc) (C:=Tryz.checked) false (laidV os) #[.slice none 0 0] rfl (by kernel_rfl) (by kernel_rfl) (by kernel_rfl)
      (OpenSpec.preRow_of_cond 8 hx (by kernel_rfl) (fun k hk=>by cases hk) (by kernel_rfl) (laid_met os))) ?_
  intro W base args ds gs before hval hW _ _ _ hL _ _
  exact contract H enc W base args ds gs before hval hW hL
theorem and_mk {a b:Bool} (ha:a=true) (hb:b=true):(a && b)=true:=by rw [ha,hb];rfl
set_option maxRecDepth 100000 in
set_option maxHeartbeats 8000000 in
theorem said:Rows.VenueKeepsSaid :=
  OpenClaim.holds_of_cond 5 Tryz.f5 rfl rfl rfl rfl rfl rfl rfl ⟨rfl,rfl,rfl,rfl,rfl⟩ rfl rfl rfl rfl rfl (by kernel_rfl) Tryz.func5 (by unfold joinedFacts;(repeat' (with_reducible refine and_mk ?_ ?_))<;>as_aux_lemma=>kernel_rfl)
    (of_decide_eq_true (by kernel_rfl)) (by unfold Func.isWrapper;rw [if_neg (of_decide_eq_false (by kernel_rfl))];exact ⟨rfl,rfl⟩)
    (fun os started H enc _ F=>by rw [OpenClaim.pre_eq_preRow];exact lifted os started H enc F)
theorem plain (f : FuncId) (fn : Func) (hf : Tryz.pinned.checked.prog.funcNamed "gavelhouse/gavelhouselaw3.VenueKeeps" = some f) (hfn : Tryz.pinned.checked.prog.funcs[f]? = some fn) :
    true=Tryz.pinned.checked.prog.looks []∧∀ (j:Nat) t,fn.params[j]?=some t→Tryz.pinned.checked.prog.wantsStandIn t=false:=by
  obtain rfl : f = 5 := Option.some.inj ((show Tryz.prog.funcNamed "gavelhouse/gavelhouselaw3.VenueKeeps" = some 5 by kernel_rfl).symm.trans hf) |>.symm
  obtain rfl:fn=Tryz.f5:=(Option.some.inj (Tryz.func5.symm.trans hfn)).symm
  refine ⟨looks0,fun j t ht=>?_⟩
  rw [Tryz.params5] at ht
  have hall:((Tryz.f5.params.toList).all fun t=>!(Tryz.prog.wantsStandIn t))=true:=by kernel_rfl
  rw [Tryz.params5] at hall
  have:=List.all_eq_true.1 hall t (by simpa using Array.mem_of_getElem? ht)
  exact (by simpa using this:Tryz.prog.wantsStandIn t=false)
theorem card_wf:Rows.venueKeepsRow.wfByText (OpenSpec.ofChange Rows.venueKeepsSpec)=true:=by kernel_rfl
theorem card_goes:false=Rows.venueKeepsRow.goesBy Tryz.pinned.checked.prog:=by kernel_rfl
theorem venueKeeps_holds:Rows.VenueKeepsCardSaid :=
  Claim7.holds_tied_plain_at .later [] _ _ _ _ said (fun _ h=>by cases h) card_wf (fun _ h=>by cases h) venueKeeps_row_tie rfl ⟨rfl,rfl⟩ mainIs0 rfl plain card_goes
end Go.Proofs.YtabbgpjofkaomaaGreatDoor.venueKeepsClaim
