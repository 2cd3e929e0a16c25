/- TapeCuts: for every input the law returns true, and each argument reads afterwards as it read before. No condition beyond the row's own: the package-level errors hold what the program's text lays. -/
import Derived.Test.YtfeeibealokhfaaDoorTCutsLaw
import Derived.Test.YtfeeibealokhfaaDoorLaw
import Derived.ChangeMaps5
import Derived.ChangeSlices
import Derived.SliceStrings
set_option linter.unusedSimpArgs false
set_option linter.unusedVariables false
namespace Go.Proofs.YtfeeibealokhfaaDoor.tapeCutsClaim
open Go.ChangeShapes Go.WideShapes Go.ChangeAt Go.RowKit

set_option maxRecDepth 100000 in
theorem cuts_out (ao : Option Addr) (len cap : Nat) (cut : Int) (E : Nat → Addr) (w : World) (hE : Errs E [2, 8, 9] w) (h : 40 < len ∨ cut < 0) (hm : len ≤ maxLen) :
    Calls Tryd.prog 6 #[.slice ao len cap, .int .i64 cut] w fun e w' => e = .returned (.bool true) ∧ Ex w w' := by
  unfold maxLen at hm
  go_enter Tryd.func6, Tryd.ntmps6
  by_cases h1 : 40 < len
  · have h2 : decide ((40 : Int) < (len : Int)) = true := decide_eq_true (by omega)
    go_wp2_with (go_at_call 19; refine (taped_any _ E (by exact hE.ex (by repeat (first | exact Ex.refl _ | refine Ex.alloc ?_ _ | refine Ex.ext ?_ _ _ | refine Ex.drew ?_ | refine Ex.drewN ?_ _)))).mono ?_; rintro e w1 ⟨rfl, l1, d1, rfl⟩)
    all_goals go_ret
    all_goals exact ⟨rfl, (by repeat (first | exact Ex.refl _ | refine Ex.alloc ?_ _ | refine Ex.ext ?_ _ _ | refine Ex.drew ?_ | refine Ex.drewN ?_ _))⟩
  · have h2 : decide ((40 : Int) < (len : Int)) = false := decide_eq_false (by omega)
    have h3 : decide (cut < 0) = true := decide_eq_true (by omega)
    go_wp2_with (go_at_call 19; refine (taped_any _ E (by exact hE.ex (by repeat (first | exact Ex.refl _ | refine Ex.alloc ?_ _ | refine Ex.ext ?_ _ _ | refine Ex.drew ?_ | refine Ex.drewN ?_ _)))).mono ?_; rintro e w1 ⟨rfl, l1, d1, rfl⟩)
    all_goals go_ret
    all_goals exact ⟨rfl, (by repeat (first | exact Ex.refl _ | refine Ex.alloc ?_ _ | refine Ex.ext ?_ _ _ | refine Ex.drew ?_ | refine Ex.drewN ?_ _))⟩
set_option maxRecDepth 100000 in
theorem strs_open {H : Type} {enc : TypeId × Value → H} {w : World} {b0 : Nat} {v : Value} {d : DataW H} {p : List MemPlace} (hok : Value.okWide Tryd.prog w .any b0 39 v)
    (h : DataW.Trod enc Tryd.prog w 0 (fun _ => true) true 39 v d p) : ∃ ao len cap l, v = .slice ao len cap ∧ l.length = len ∧ StrsAt w ao l ∧ (∀ s ∈ l, s.length ≤ maxLen) ∧ len ≤ maxLen := by
  obtain ⟨a0, len, cap, rfl⟩ := okWide_slice Tryd.underlying39 hok
  obtain ⟨fuel, hf⟩ := h
  have hc1 : Tryd.prog.cellsOf 9 = 1 := by kernel_rfl
  rcases open_strings Tryd.underlying39 Tryd.underlying9 hc1 hf with ⟨hcs, _⟩ | ⟨a, len', cap', ss, hcs, _, hl, hm, hz, _, hel, hsz⟩
  · simp [Value.cells] at hcs
    obtain ⟨rfl, rfl, rfl⟩ := hcs
    exact ⟨none, 0, 0, [], rfl, rfl, fun h => by simp at h, fun s h => by simp at h, Nat.zero_le _⟩
  · simp [Value.cells] at hcs
    obtain ⟨rfl, rfl, rfl⟩ := hcs
    have hzl : len ≤ ss.length := by rw [hz]; split <;> omega
    have hlen : ((ss.take len).map fun s => s.data.toList).length = len := by rw [List.length_map, List.length_take]; omega
    refine ⟨some a, len, cap, (ss.take len).map fun s => s.data.toList, rfl, hlen, fun h0 => ?_, fun s hs => ?_, by omega⟩
    · rw [hlen] at h0
      obtain ⟨b, off, sp⟩ := a
      have hsp : sp = none := by
        cases sp with
        | none => rfl
        | some q =>
          exfalso
          have h00 := hel 0 (by omega)
          rw [show w.cell? (Addr.add ⟨b, off, some q⟩ 0) = none by unfold World.cell? Addr.add; split <;> simp] at h00
          cases h00
      subst hsp
      have hcell : ∀ k, k < len → w.cell? ⟨b, off + k, none⟩ = some (.string (ss.getD k ByteArray.empty)) := fun k hk => by
        have h1 := hel k (by omega)
        rw [addr_add] at h1
        exact h1
      refine ⟨b, off, rfl, World.block_lt_of_cell? _ _ (hcell 0 h0), fun k hk => ?_⟩
      rw [hlen] at hk
      rw [hcell k hk]
      simp only [List.getElem_map, List.getElem_take, strV, bytes_list]
      rw [List.getD_eq_getElem?_getD, List.getElem?_eq_getElem (by omega)]
      rfl
    · obtain ⟨x, hx, rfl⟩ := List.mem_map.1 hs
      have := hsz x (List.mem_of_mem_take hx)
      rw [Array.length_toList]
      exact this
set_option maxRecDepth 100000 in
theorem walkAll (H : Type) (enc : TypeId × Value → H) (W : World) (base : Nat) (args : Array Value) (ds : List (DataW H)) (p : List MemPlace)
    (hval : ∀ (j : Nat) t v, Tryd.f6.params[j]? = some t → args[j]? = some v → Value.okWide Tryd.prog W .any base t v)
    (hA : DataW.TrodAll enc Tryd.prog W 0 (fun _ => true) true Tryd.f6.params.toList args.toList ds p) (hL : laidMetH Tryd.prog Rows.tapeCutsRow.laid W) :
    Calls Tryd.prog 6 args W fun e w' => e = .returned (.bool true) ∧ Below W.heap.size W w' := by
  rw [Tryd.params6] at hA hval
  obtain ⟨v0, vs0, d0, ds0, p0, q0, hargs, rfl, rfl, h0, r0⟩ := trodAll_cons hA
  obtain ⟨v1, vs1, d1, ds1, p1, q1, rfl, rfl, rfl, h1, r1⟩ := trodAll_cons r0
  obtain ⟨rfl, rfl, rfl⟩ := trodAll_nil r1
  obtain rfl : args = #[v0, v1] := by cases args; simp_all
  obtain ⟨ao, len, cap, l, rfl, rfl, hst, hwf, hm⟩ := strs_open (hval 0 39 v0 rfl rfl) h0
  obtain ⟨x, rfl, rfl, rfl, hx⟩ := open_int Tryd.underlying3 (hval 1 3 v1 rfl rfl) h1
  rw [MakeChecks.laidMetH_plain _ _ _ (by kernel_rfl)] at hL
  obtain ⟨E, hE, _⟩ := errs_of_laid [2, 3, 8, 9] hL (by decide) (by kernel_rfl)
  have hx2 : x ≤ 9223372036854775807 := by simp [Lit.wf, IntKind.min, IntKind.max, IntKind.signed, IntKind.bits] at hx; omega
  by_cases h : 40 < l.length ∨ x < 0
  · exact (cuts_out ao l.length cap x E W (Errs.sub hE (by decide)) h hm).mono fun e w' ⟨h, k⟩ => ⟨h, k.below⟩
  · exact tapeCuts_in ao cap l x E W (Errs.sub hE (by decide)) (by omega) hst hwf (by omega) hx2

set_option maxRecDepth 100000 in
theorem contract (H : Type) (enc : TypeId × Value → H) (W : World) (base : Nat) (args : Array Value) (ds gs : List (DataW H)) (before : List MemPlace)
    (hval : ∀ (j : Nat) t v, Tryd.f6.params[j]? = some t → args[j]? = some v → Value.okWide Tryd.prog W .any base t v)
    (hW : DataW.Whole enc Tryd.prog Tryd.f6.params.toList Rows.tapeCutsSpec.vars false W args.toList ds gs before) (hL : laidMetH Tryd.prog Rows.tapeCutsRow.laid W) :
    Calls Tryd.prog 6 args W fun e W' => ∃ v, e = .returned v ∧ Rows.tapeCutsSpec.post enc Tryd.prog Tryd.f6 false true false false W args v W' := by
  have hW' := hW
  obtain ⟨p, q, hA0, hV, rfl, hfz, hnd⟩ := hW
  obtain ⟨rfl, rfl⟩ := trodVars_none hV
  have hA : DataW.TrodAll enc Tryd.prog W 0 (fun _ => true) true Tryd.f6.params.toList args.toList ds p := hA0
  have hlen := trodAll_length hA
  refine (walkAll H enc W base args ds p hval hA hL).mono fun e W' ⟨he, hb⟩ => ?_
  subst he
  refine ⟨_, rfl, law_post (rs := [4]) hW' hA rfl hb lawLaid (by kernel_rfl) ?_ (by kernel_rfl) rfl Tryd.underlying4⟩
  rw [Tryd.params6] at hlen
  match ds, hlen with | [d1, d2], _ => rfl

theorem laid_met (os : Os) : laidMetH Tryd.prog Rows.tapeCutsRow.laid ((laidW os).forCall (fun _ _ => 0) ⟨#[], #[.slice none 0 0, .int .i64 0], []⟩).memory :=
  laidMetH_of_parts3 (fuel := 8) (laidMet_of_run' 8 (by kernel_rfl) (by kernel_rfl)) (by kernel_rfl) (by kernel_rfl)
theorem reads (os : Os) {H : Type} (enc : TypeId × Value → H) : ∃ places, DataW.whole enc Tryd.prog ((laidW os).forCall (fun _ _ => 0) ⟨#[], #[.slice none 0 0, .int .i64 0], []⟩).memory Tryd.f6.params.toList Rows.tapeCutsSpec.vars false (#[.slice none 0 0, .int .i64 0] : Array Value).toList 8 = some ([.nil, .lit (.int .i64 0)], [], places) :=
  ⟨[], by kernel_rfl⟩

set_option maxRecDepth 100000 in
theorem lifted (os : Os) (started : os.Started) (H : Type) (enc : TypeId × Value → H) (F : Stop.Interp) :
    ReturnsInHanded {} Tryd.checked os 6 .any ((OpenSpec.ofChange Rows.tapeCutsSpec).preRow enc Tryd.prog Tryd.f6 Rows.tapeCutsRow.domain false Rows.tapeCutsRow.laid) (((OpenSpec.ofChange Rows.tapeCutsSpec).at F).post enc Tryd.prog Tryd.f6 false true false false) := by
  obtain ⟨places, hx⟩ := reads os enc
  refine returnsInHanded_of_row (C := Tryd.checked) (s := OpenSpec.ofChange Rows.tapeCutsSpec) own started (by kernel_rfl) Tryd.func6
    (witness_row_atRef (enc := enc) (C := Tryd.checked) false (laidW os) #[.slice none 0 0, .int .i64 0] rfl (by kernel_rfl) (by kernel_rfl) (by kernel_rfl)
      (OpenSpec.preRow_of_cond 8 hx (by kernel_rfl) (fun k hk => by cases hk) (by kernel_rfl) (laid_met os))) ?_
  intro W base args ds gs before hval hW _ _ _ hL _ _
  exact contract H enc W base args ds gs before hval hW hL

theorem said : Rows.TapeCutsSaid :=
  OpenClaim.holds_of_cond 6 Tryd.f6 rfl rfl rfl rfl rfl rfl rfl ⟨rfl, rfl, rfl, rfl, rfl⟩ rfl rfl rfl rfl rfl (by kernel_rfl) Tryd.func6 (by kernel_rfl)
    (of_decide_eq_true (by kernel_rfl)) (by unfold Func.isWrapper; rw [if_neg (of_decide_eq_false (by kernel_rfl))]; exact ⟨rfl, rfl⟩)
    (fun os started H enc _ F => by rw [OpenClaim.pre_eq_preRow]; exact lifted os started H enc F)

theorem plain (f : FuncId) (fn : Func) (hf : Tryd.pinned.checked.prog.funcNamed "gavelhouse/gavelhouselaw1.TapeCuts" = some f) (hfn : Tryd.pinned.checked.prog.funcs[f]? = some fn) :
    true = Tryd.pinned.checked.prog.looks [] ∧ ∀ (j : Nat) t, fn.params[j]? = some t → Tryd.pinned.checked.prog.wantsStandIn t = false := by
  obtain rfl : f = 6 := Option.some.inj ((show Tryd.prog.funcNamed "gavelhouse/gavelhouselaw1.TapeCuts" = some 6 by kernel_rfl).symm.trans hf) |>.symm
  obtain rfl : fn = Tryd.f6 := (Option.some.inj (Tryd.func6.symm.trans hfn)).symm
  refine ⟨looks0, fun j t ht => ?_⟩
  rw [Tryd.params6] at ht
  have hall : ((Tryd.f6.params.toList).all fun t => !(Tryd.prog.wantsStandIn t)) = true := by kernel_rfl
  rw [Tryd.params6] at hall
  have := List.all_eq_true.1 hall t (by simpa using Array.mem_of_getElem? ht)
  exact (by simpa using this : Tryd.prog.wantsStandIn t = false)

theorem card_wf : Rows.tapeCutsRow.wfByText (OpenSpec.ofChange Rows.tapeCutsSpec) = true := by kernel_rfl
theorem card_goes : false = Rows.tapeCutsRow.goesBy Tryd.pinned.checked.prog := by kernel_rfl
theorem tapeCuts_holds : Rows.TapeCutsCardSaid :=
  Claim7.holds_tied_plain_at .later [] _ _ _ _ said (fun _ h => by cases h) card_wf (fun _ h => by cases h) tapeCuts_row_tie rfl ⟨rfl, rfl⟩ mainIs0 rfl plain card_goes
end Go.Proofs.YtfeeibealokhfaaDoor.tapeCutsClaim
