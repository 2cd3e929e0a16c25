import Derived.Test.YtmbboflakfokhaaDoorHoldsW
import Derived.Test.YtmbboflakfokhaaDoorJ1
/- BatchHolds: for every input the law returns true, and each argument reads afterwards as it read before. No condition beyond the row's own: the package-level errors hold what the program's text lays. -/
set_option linter.unusedSimpArgs false
set_option linter.unusedVariables false
namespace Go.Proofs.YtmbboflakfokhaaDoor.batchHoldsClaim
open Go.ChangeShapes Go.WideShapes Go.ChangeAt Go.RowKit

set_option maxRecDepth 100000 in
theorem out (ao : Option Addr) (len cap : Nat) (E : Nat → Addr) (w : World) (hE : Errs E LE w) (hm : len ≤ 9223372036854775807) (h1 : 60 < len) :
    Calls Tryd.prog 6 #[.slice ao len cap] w fun e w' => e = .returned (.bool true) ∧ Ex w w' := by
  go_enter Tryd.func6, Tryd.ntmps6
  go_wp2_with (go_at_call 7; refine (floored_any E _ (by exact hE.ex (by repeat (first | exact Ex.refl _ | refine Ex.alloc ?_ _ | refine Ex.ext ?_ _ _ | refine Ex.drew ?_ | refine Ex.drewN ?_ _)))).mono ?_; rintro e w1 ⟨rfl, l1, d1, rfl⟩)
  all_goals try go_ret
  all_goals try exact ⟨rfl, (by repeat (first | exact Ex.refl _ | refine Ex.alloc ?_ _ | refine Ex.ext ?_ _ _ | refine Ex.drew ?_ | refine Ex.drewN ?_ _))⟩

set_option maxRecDepth 100000 in
theorem walkAll (H : Type) (enc : TypeId × Value → H) (W : World) (base : Nat) (args : Array Value) (ds : List (DataW H)) (p : List MemPlace)
    (hval : ∀ (j : Nat) t v, Tryd.f6.params[j]? = some t → args[j]? = some v → Value.okWide Tryd.prog W .any base t v)
    (hA : DataW.TrodAll enc Tryd.prog W 0 (fun _ => true) true Tryd.f6.params.toList args.toList ds p) (hL : laidMetH Tryd.prog Rows.batchHoldsRow.laid W) :
    Calls Tryd.prog 6 args W fun e w' => e = .returned (.bool true) ∧ Below W.heap.size W w' := by
  rw [Tryd.params6] at hA hval
  obtain ⟨v0, vs0, d0, ds0, p0, q0, hargs, rfl, rfl, h0, r0⟩ := trodAll_cons hA
  obtain ⟨rfl, rfl, rfl⟩ := trodAll_nil r0
  obtain rfl : args = #[v0] := by cases args; simp_all
  obtain ⟨ao, len, cap, l, rfl, hcap, hz⟩ := dos_open (hval 0 22 v0 rfl rfl) h0
  rw [MakeChecks.laidMetH_plain _ _ _ (by kernel_rfl)] at hL
  obtain ⟨E, hE, _⟩ := errs_of_laid LE hL (by decide) (by kernel_rfl)
  by_cases hb : 60 < len
  · exact (out ao len cap E W hE hz.2.1 hb).mono fun e w' ⟨h, k⟩ => ⟨h, k.below⟩
  · exact (batchHolds_in ao len cap l E W hE hz (by omega)).mono fun e w' ⟨h, k⟩ => ⟨h, k.below⟩

set_option maxRecDepth 100000 in
theorem contract (H : Type) (enc : TypeId × Value → H) (W : World) (base : Nat) (args : Array Value) (ds gs : List (DataW H)) (before : List MemPlace)
    (hval : ∀ (j : Nat) t v, Tryd.f6.params[j]? = some t → args[j]? = some v → Value.okWide Tryd.prog W .any base t v)
    (hW : DataW.Whole enc Tryd.prog Tryd.f6.params.toList Rows.batchHoldsSpec.vars false W args.toList ds gs before) (hL : laidMetH Tryd.prog Rows.batchHoldsRow.laid W) :
    Calls Tryd.prog 6 args W fun e W' => ∃ v, e = .returned v ∧ Rows.batchHoldsSpec.post enc Tryd.prog Tryd.f6 false true false false W args v W' := by
  have hW' := hW
  obtain ⟨p, q, hA0, hV, rfl, hfz, hnd⟩ := hW
  obtain ⟨rfl, rfl⟩ := trodVars_none hV
  have hA : DataW.TrodAll enc Tryd.prog W 0 (fun _ => true) true Tryd.f6.params.toList args.toList ds p := hA0
  have hlen := trodAll_length hA
  refine (walkAll H enc W base args ds p hval hA hL).mono fun e W' ⟨he, hb⟩ => ?_
  subst he
  refine ⟨_, rfl, law_post (rs := [4]) hW' hA rfl hb lawLaid (by kernel_rfl) ?_ (by kernel_rfl) rfl Tryd.underlying4⟩
  rw [Tryd.params6] at hlen
  match ds, hlen with | [d1], _ => rfl

theorem laid_met (os : Os) : laidMetH Tryd.prog Rows.batchHoldsRow.laid ((laidW os).forCall (fun _ _ => 0) ⟨#[], #[.slice none 0 0], []⟩).memory :=
  laidMetH_of_parts3 (fuel := 8) (laidMet_of_run' 8 (by kernel_rfl) (by kernel_rfl)) (by kernel_rfl) (by kernel_rfl)
theorem reads (os : Os) {H : Type} (enc : TypeId × Value → H) : ∃ places, DataW.whole enc Tryd.prog ((laidW os).forCall (fun _ _ => 0) ⟨#[], #[.slice none 0 0], []⟩).memory Tryd.f6.params.toList Rows.batchHoldsSpec.vars false (#[.slice none 0 0] : Array Value).toList 8 = some ([.nil], [], places) :=
  ⟨[], by kernel_rfl⟩

set_option maxRecDepth 100000 in
theorem lifted (os : Os) (started : os.Started) (H : Type) (enc : TypeId × Value → H) (F : Stop.Interp) :
    ReturnsInHanded {} Tryd.checked os 6 .any ((OpenSpec.ofChange Rows.batchHoldsSpec).preRow enc Tryd.prog Tryd.f6 Rows.batchHoldsRow.domain false Rows.batchHoldsRow.laid) (((OpenSpec.ofChange Rows.batchHoldsSpec).at F).post enc Tryd.prog Tryd.f6 false true false false) := by
  obtain ⟨places, hx⟩ := reads os enc
  refine returnsInHanded_of_row (C := Tryd.checked) (s := OpenSpec.ofChange Rows.batchHoldsSpec) own started (by kernel_rfl) Tryd.func6
    (witness_row_atRef (enc := enc) (C := Tryd.checked) false (laidW os) #[.slice none 0 0] rfl (by kernel_rfl) (by kernel_rfl) (by kernel_rfl)
      (OpenSpec.preRow_of_cond 8 hx (by kernel_rfl) (fun k hk => by cases hk) (by kernel_rfl) (laid_met os))) ?_
  intro W base args ds gs before hval hW _ _ _ hL _ _
  exact contract H enc W base args ds gs before hval hW hL

theorem said : Rows.BatchHoldsSaid :=
  OpenClaim.holds_of_cond 6 Tryd.f6 rfl rfl rfl rfl rfl rfl rfl ⟨rfl, rfl, rfl, rfl, rfl⟩ rfl rfl rfl rfl rfl (by kernel_rfl) Tryd.func6 (by kernel_rfl)
    (of_decide_eq_true (by kernel_rfl)) (by unfold Func.isWrapper; rw [if_neg (of_decide_eq_false (by kernel_rfl))]; exact ⟨rfl, rfl⟩)
    (fun os started H enc _ F => by rw [OpenClaim.pre_eq_preRow]; exact lifted os started H enc F)

theorem plain (f : FuncId) (fn : Func) (hf : Tryd.pinned.checked.prog.funcNamed "gavelhouse/gavelhouselaw2.BatchHolds" = some f) (hfn : Tryd.pinned.checked.prog.funcs[f]? = some fn) :
    false = Tryd.pinned.checked.prog.looks [] ∧ ∀ (j : Nat) t, fn.params[j]? = some t → Tryd.pinned.checked.prog.wantsStandIn t = false := by
  obtain rfl : f = 6 := Option.some.inj ((show Tryd.prog.funcNamed "gavelhouse/gavelhouselaw2.BatchHolds" = some 6 by kernel_rfl).symm.trans hf) |>.symm
  obtain rfl : fn = Tryd.f6 := (Option.some.inj (Tryd.func6.symm.trans hfn)).symm
  refine ⟨looks0, fun j t ht => ?_⟩
  rw [Tryd.params6] at ht
  have hall : ((Tryd.f6.params.toList).all fun t => !(Tryd.prog.wantsStandIn t)) = true := by kernel_rfl
  rw [Tryd.params6] at hall
  have := List.all_eq_true.1 hall t (by simpa using Array.mem_of_getElem? ht)
  exact (by simpa using this : Tryd.prog.wantsStandIn t = false)

theorem card_wf : Rows.batchHoldsRow.wfByText (OpenSpec.ofChange Rows.batchHoldsSpec) = true := by kernel_rfl
theorem card_goes : false = Rows.batchHoldsRow.goesBy Tryd.pinned.checked.prog := by kernel_rfl
theorem batchHolds_holds : Rows.BatchHoldsCardSaid :=
  Claim7.holds_tied_plain_at .later [] _ _ _ _ said (fun _ h => by cases h) card_wf (fun _ h => by cases h) batchHolds_row_tie rfl ⟨rfl, rfl⟩ mainIs0 rfl plain card_goes
end Go.Proofs.YtmbboflakfokhaaDoor.batchHoldsClaim
