import Derived.Test.YtabbgpjofkaomaaGreatDoorVParts1
import Derived.Test.YtabbgpjofkaomaaGreatDoorJ51
import Derived.ChangeMaps5
import Derived.ChangeSlices
import Derived.Test.YtabbgpjofkaomaaGreatDoorExP
set_option linter.unusedSimpArgs false
set_option linter.unusedVariables false
/- VenueParts: for every input the law returns true, and each argument reads afterwards as it read before. No condition beyond the row's own: the package-level variables hold what the program's text lays. -/
namespace Go.Proofs.YtabbgpjofkaomaaGreatDoor.venuePartsClaim
open Go.ChangeShapes Go.WideShapes Go.ChangeAt Go.RowKit
set_option maxRecDepth 100000 in
theorem cuts_open {H:Type} {enc:TypeId × Value→H} {w:World} {b0:Nat} {v:Value} {d:DataW H} {p:List MemPlace} (hok:Value.okWide Tryz.prog w .any b0 53 v)
  (h:DataW.Trod enc Tryz.prog w 0 (fun _=>true) true 53 v d p):∃ ao len cap,v=.slice ao len cap∧VCuts w ao len∧len≤maxLen:=by
 obtain ⟨a0,len,cap,rfl⟩:=okWide_slice Tryz.underlying53 hok
 obtain ⟨fuel,hf⟩:=h
 have hc1:Tryz.prog.cellsOf 3=1:=by kernel_rfl
 rcases open_ints Tryz.underlying53 Tryz.underlying3 hc1 hf with ⟨hcs,_⟩|⟨a,len',cap',zs,hcs,_,hl,hm,hz,_,hel,_⟩
 ·simp [Value.cells] at hcs
  obtain ⟨rfl,rfl,rfl⟩:=hcs
  exact ⟨none,0,0,rfl,fun h=>by omega,Nat.zero_le _⟩
 ·simp [Value.cells] at hcs
  obtain ⟨rfl,rfl,rfl⟩:=hcs
  refine ⟨some a,len,cap,rfl,fun h0=>?_,by omega⟩
  have hzl:len≤zs.length:=by rw [hz];split<;>omega
  obtain ⟨b,off,sp⟩:=a
  have hsp:sp=none:=by
   cases sp with
   | none=>rfl
   | some q =>
    exfalso
    have h00:=hel 0 (by omega)
    rw [show w.cell? (Addr.add ⟨b,off,some q⟩ 0)=none by unfold World.cell? Addr.add;split<;>simp] at h00
    cases h00
  subst hsp
  have hcell:∀ k,k<len→w.cell? ⟨b,off+k,none⟩=some (.int .i64 (zs.getD k 0)):=fun k hk=>by
   have h1:=hel k (by omega)
   have e:(⟨b,off,none⟩:Addr).add k=⟨b,off+k,none⟩:=by
    unfold Addr.add
    split
    ·rename_i h0;subst h0;rfl
    ·rfl
   rw [e] at h1
   exact h1
  exact ⟨b,off,rfl,World.block_lt_of_cell? _ _ (hcell 0 h0),fun k hk=>⟨_,hcell k hk⟩⟩
set_option maxRecDepth 100000 in
theorem walkAll (H:Type) (enc:TypeId × Value→H) (W:World) (base:Nat) (args:Array Value) (ds:List (DataW H)) (p:List MemPlace)
  (hval:∀ (j:Nat) t v,Tryz.f4.params[j]?=some t→args[j]?=some v→Value.okWide Tryz.prog W .any base t v)
  (hA:DataW.TrodAll enc Tryz.prog W 0 (fun _=>true) true Tryz.f4.params.toList args.toList ds p) (hL:laidMetH Tryz.prog Rows.venuePartsRow.laid W) :
  Calls Tryz.prog 4 args W fun e w'=>e=.returned (.bool true)∧Below W.heap.size W w':=by
 rw [Tryz.params4] at hA hval
 obtain ⟨v0,vs0,d0,ds0,p0,q0,hargs,rfl,rfl,h0,r0⟩:=trodAll_cons hA
 obtain ⟨v1,vs1,d1,ds1,p1,q1,rfl,rfl,rfl,h1,r1⟩:=trodAll_cons r0
 obtain ⟨v2,vs2,d2,ds2,p2,q2,rfl,rfl,rfl,h2,r2⟩:=trodAll_cons r1
 obtain ⟨v3,vs3,d3,ds3,p3,q3,rfl,rfl,rfl,h3,r3⟩:=trodAll_cons r2
 obtain ⟨rfl,rfl,rfl⟩:=trodAll_nil r3
 obtain rfl:args=#[v0,v1,v2,v3]:=by cases args;simp_all
 obtain ⟨ao,len,cap,l,rfl,hcap,hz⟩:=steps_open (hval 0 22 v0 rfl rfl) h0
 obtain ⟨x1,rfl,rfl,rfl,_⟩:=open_int Tryz.underlying3 (hval 1 3 v1 rfl rfl) h1
 obtain ⟨s,rfl,rfl,rfl,hm⟩:=Go.ChangeMaps.open_string Tryz.underlying9 (hval 2 9 v2 rfl rfl) h2
 obtain ⟨co,lc,cc,rfl,hcu,hm2⟩:=cuts_open (hval 3 53 v3 rfl rfl) h3
 obtain ⟨⟨E,hr⟩,ht⟩:=venue_laid hL
 obtain ⟨L,hLs⟩:=svs_exist hz.2.2.1
 by_cases ho:400<s.size∨20<lc∨x1<0∨6≤x1
 ·exact (vparts_out hr ht x1 s co lc cc ho ao len cap l hz).mono fun e w' ⟨h,k⟩=>⟨h,k.below⟩
 ·obtain ⟨c,rfl⟩:=Int.eq_ofNat_of_zero_le (show 0≤x1 by omega)
  have hS:s.data.toList.length=s.size:=Array.length_toList
  exact (vparts_in hr ht c (by omega) s.data.toList (by omega) co lc cc (by omega) hcu ao len cap l L hz hLs).mono fun e w' ⟨h,k⟩=>⟨h,k.below⟩
set_option maxRecDepth 100000 in
theorem contract (H:Type) (enc:TypeId × Value→H) (W:World) (base:Nat) (args:Array Value) (ds gs:List (DataW H)) (before:List MemPlace)
  (hval:∀ (j:Nat) t v,Tryz.f4.params[j]?=some t→args[j]?=some v→Value.okWide Tryz.prog W .any base t v)
  (hW:DataW.Whole enc Tryz.prog Tryz.f4.params.toList Rows.venuePartsSpec.vars false W args.toList ds gs before) (hL:laidMetH Tryz.prog Rows.venuePartsRow.laid W) :
  Calls Tryz.prog 4 args W fun e W'=>∃ v,e=.returned v∧Rows.venuePartsSpec.post enc Tryz.prog Tryz.f4 false true false false W args v W':=by
 have hW':=hW
 obtain ⟨p,q,hA0,hV,rfl,hfz,hnd⟩:=hW
 obtain ⟨rfl,rfl⟩:=trodVars_none hV
 have hA:DataW.TrodAll enc Tryz.prog W 0 (fun _=>true) true Tryz.f4.params.toList args.toList ds p:=hA0
 have hlen:=trodAll_length hA
 refine (walkAll H enc W base args ds p hval hA hL).mono fun e W' ⟨he,hb⟩=>?_
 subst he
 refine ⟨_,rfl,law_post (rs:=[4]) hW' hA rfl hb lawLaid (by kernel_rfl) ?_ (by kernel_rfl) rfl Tryz.underlying4⟩
 rw [Tryz.params4] at hlen
 match ds,hlen with|[d1,d2,d3,d4],_=>rfl
theorem laid_met (os:Os):laidMetH Tryz.prog Rows.venuePartsRow.laid ((laidV os).forCall (fun _ _=>0) ⟨#[],#[.slice none 0 0,.int .i64 0,.string ⟨#[]⟩,.slice none 0 0],[]⟩).memory :=
 laidMetH_of_parts3 (fuel:=8) (laidMet_of_run' 8 (by kernel_rfl) (by kernel_rfl)) (by kernel_rfl) (by kernel_rfl)
theorem reads (os:Os) {H:Type} (enc:TypeId × Value→H):∃ places,DataW.whole enc Tryz.prog ((laidV os).forCall (fun _ _=>0) ⟨#[],#[.slice none 0 0,.int .i64 0,.string ⟨#[]⟩,.slice none 0 0],[]⟩).memory Tryz.f4.params.toList Rows.venuePartsSpec.vars false (#[.slice none 0 0,.int .i64 0,.string ⟨#[]⟩,.slice none 0 0]:Array Value).toList 8=some ([.nil,.lit (.int .i64 0),.lit (.string []),.nil],[],places) :=
 ⟨[],by kernel_rfl⟩
set_option maxRecDepth 100000 in
theorem lifted (os:Os) (started:os.Started) (H:Type) (enc:TypeId × Value→H) (F:Stop.Interp) :
  ReturnsInHanded {} Tryz.checked os 4 .any ((OpenSpec.ofChange Rows.venuePartsSpec).preRow enc Tryz.prog Tryz.f4 Rows.venuePartsRow.domain false Rows.venuePartsRow.laid) (((OpenSpec.ofChange Rows.venuePartsSpec).at F).post enc Tryz.prog Tryz.f4 false true false false):=by
 obtain ⟨places,hx⟩:=reads os enc
 refine returnsInHanded_of_row (C:=Tryz.checked) (s:=OpenSpec.ofChange Rows.venuePartsSpec) own started (by kernel_rfl) Tryz.func4
  (witness_row_atRef (enc:=enc) (C:=Tryz.checked) false (laidV os) #[.slice none 0 0,.int .i64 0,.string ⟨#[]⟩,.slice none 0 0] rfl (by kernel_rfl) (by kernel_rfl) (by kernel_rfl)
   (OpenSpec.preRow_of_cond 8 hx (by kernel_rfl) (fun k hk=>by cases hk) (by kernel_rfl) (laid_met os))) ?_
 intro W base args ds gs before hval hW _ _ _ hL _ _
 exact contract H enc W base args ds gs before hval hW hL
theorem and_mk {a b:Bool} (ha:a=true) (hb:b=true):(a && b)=true:=by rw [ha,hb];rfl
set_option maxRecDepth 100000 in
set_option maxHeartbeats 8000000 in
theorem said:Rows.VenuePartsSaid :=
 OpenClaim.holds_of_cond 4 Tryz.f4 rfl rfl rfl rfl rfl rfl rfl ⟨rfl,rfl,rfl,rfl,rfl⟩ rfl rfl rfl rfl rfl (by kernel_rfl) Tryz.func4 (by unfold joinedFacts;(repeat' (with_reducible refine and_mk ?_ ?_))<;>as_aux_lemma=>kernel_rfl)
  (of_decide_eq_true (by kernel_rfl)) (by unfold Func.isWrapper;rw [if_neg (of_decide_eq_false (by kernel_rfl))];exact ⟨rfl,rfl⟩)
  (fun os started H enc _ F=>by rw [OpenClaim.pre_eq_preRow];exact lifted os started H enc F)
theorem plain (f : FuncId) (fn : Func) (hf : Tryz.pinned.checked.prog.funcNamed "gavelhouse/gavelhouselaw3.VenueParts" = some f) (hfn : Tryz.pinned.checked.prog.funcs[f]? = some fn) :
  true=Tryz.pinned.checked.prog.looks []∧∀ (j:Nat) t,fn.params[j]?=some t→Tryz.pinned.checked.prog.wantsStandIn t=false:=by
 obtain rfl : f = 4 := Option.some.inj ((show Tryz.prog.funcNamed "gavelhouse/gavelhouselaw3.VenueParts" = some 4 by kernel_rfl).symm.trans hf) |>.symm
 obtain rfl:fn=Tryz.f4:=(Option.some.inj (Tryz.func4.symm.trans hfn)).symm
 refine ⟨looks0,fun j t ht=>?_⟩
 rw [Tryz.params4] at ht
 have hall:((Tryz.f4.params.toList).all fun t=>!(Tryz.prog.wantsStandIn t))=true:=by kernel_rfl
 rw [Tryz.params4] at hall
 have:=List.all_eq_true.1 hall t (by simpa using Array.mem_of_getElem? ht)
 exact (by simpa using this:Tryz.prog.wantsStandIn t=false)
theorem card_wf:Rows.venuePartsRow.wfByText (OpenSpec.ofChange Rows.venuePartsSpec)=true:=by kernel_rfl
theorem card_goes:false=Rows.venuePartsRow.goesBy Tryz.pinned.checked.prog:=by kernel_rfl
theorem venueParts_holds:Rows.VenuePartsCardSaid :=
 Claim7.holds_tied_plain_at .later [] _ _ _ _ said (fun _ h=>by cases h) card_wf (fun _ h=>by cases h) venueParts_row_tie rfl ⟨rfl,rfl⟩ mainIs0 rfl plain card_goes
end Go.Proofs.YtabbgpjofkaomaaGreatDoor.venuePartsClaim
