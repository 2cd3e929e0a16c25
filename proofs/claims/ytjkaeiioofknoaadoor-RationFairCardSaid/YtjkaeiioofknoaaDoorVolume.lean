/- What curve's Volume and Surplus compute. -/
import Derived.Test.YtjkaeiioofknoaaDoorDemand
set_option linter.unusedSimpArgs false
set_option linter.unusedVariables false
namespace Go.Proofs.YtjkaeiioofknoaaDoor
open Go.RowKit

theorem curveSum_bounds (is : Lot → Bool) (l : List Lot) : 0 ≤ curveSum is l ∧ curveSum is l ≤ 120000 := by
  by_cases h : LotsOk l
  · rw [curveSum_ok h]
    have := h.sum_bounds is l.length
    rwa [List.take_length] at this
  · rw [curveSum_not is h]; omega

set_option maxRecDepth 100000 in
theorem surplus_any (ao : Option Addr) (len cap : Nat) (l : List Lot) (p : Int) (E : Nat → Addr) (w : World) (hcap : len ≤ cap) (hE : Errs E [2, 7, 8] w) (hl : LotsAt w ao len l) :
    Calls Tryd.prog 18 #[.slice ao len cap, .int .i64 p] w fun e w' => e = .returned (.int .i64 (curveSum (isDem p) l - curveSum (isSup p) l)) ∧ Ex w w' := by
  have HL := Lib.hid hl
  have b1 := curveSum_bounds (isDem p) l
  have b2 := curveSum_bounds (isSup p) l
  clear hl
  go_enter Tryd.func18, Tryd.ntmps18
  go_wp2_with (first
    | (go_at_call 16; refine (demand_any _ _ _ l p E _ hcap (by exact Errs.sub (hE.ex (by repeat (first | exact Ex.refl _ | refine Ex.alloc ?_ _ | refine Ex.ext ?_ _ _ | refine Ex.drew ?_ | refine Ex.drewN ?_ _))) (by decide)) (HL.out.ex (by repeat (first | exact Ex.refl _ | refine Ex.alloc ?_ _ | refine Ex.ext ?_ _ _ | refine Ex.drew ?_ | refine Ex.drewN ?_ _)))).mono ?_; rintro e w1 ⟨rfl, l3, d3, rfl⟩)
    | (go_at_call 17; refine (supply_any _ _ _ l p E _ hcap (by exact Errs.sub (hE.ex (by repeat (first | exact Ex.refl _ | refine Ex.alloc ?_ _ | refine Ex.ext ?_ _ _ | refine Ex.drew ?_ | refine Ex.drewN ?_ _))) (by decide)) (HL.out.ex (by repeat (first | exact Ex.refl _ | refine Ex.alloc ?_ _ | refine Ex.ext ?_ _ _ | refine Ex.drew ?_ | refine Ex.drewN ?_ _)))).mono ?_; rintro e w1 ⟨rfl, l4, d4, rfl⟩))
  all_goals go_ret
  all_goals exact ⟨ret_int (by first | rfl | omega), (by repeat (first | exact Ex.refl _ | refine Ex.alloc ?_ _ | refine Ex.ext ?_ _ _ | refine Ex.drew ?_ | refine Ex.drewN ?_ _))⟩
set_option maxRecDepth 100000 in
theorem volume_any (ao : Option Addr) (len cap : Nat) (l : List Lot) (p : Int) (E : Nat → Addr) (w : World) (hcap : len ≤ cap) (hE : Errs E [2, 7, 8] w) (hl : LotsAt w ao len l) :
    Calls Tryd.prog 19 #[.slice ao len cap, .int .i64 p] w fun e w' => e = .returned (.int .i64 (min (curveSum (isDem p) l) (curveSum (isSup p) l))) ∧ Ex w w' := by
  have HL := Lib.hid hl
  have b1 := curveSum_bounds (isDem p) l
  have b2 := curveSum_bounds (isSup p) l
  clear hl
  go_enter Tryd.func19, Tryd.ntmps19
  go_wp2_with (first
    | (go_at_call 16; refine (demand_any _ _ _ l p E _ hcap (by exact Errs.sub (hE.ex (by repeat (first | exact Ex.refl _ | refine Ex.alloc ?_ _ | refine Ex.ext ?_ _ _ | refine Ex.drew ?_ | refine Ex.drewN ?_ _))) (by decide)) (HL.out.ex (by repeat (first | exact Ex.refl _ | refine Ex.alloc ?_ _ | refine Ex.ext ?_ _ _ | refine Ex.drew ?_ | refine Ex.drewN ?_ _)))).mono ?_; rintro e w1 ⟨rfl, l3, d3, rfl⟩)
    | (go_at_call 17; refine (supply_any _ _ _ l p E _ hcap (by exact Errs.sub (hE.ex (by repeat (first | exact Ex.refl _ | refine Ex.alloc ?_ _ | refine Ex.ext ?_ _ _ | refine Ex.drew ?_ | refine Ex.drewN ?_ _))) (by decide)) (HL.out.ex (by repeat (first | exact Ex.refl _ | refine Ex.alloc ?_ _ | refine Ex.ext ?_ _ _ | refine Ex.drew ?_ | refine Ex.drewN ?_ _)))).mono ?_; rintro e w1 ⟨rfl, l4, d4, rfl⟩))
  all_goals go_ret
  all_goals exact ⟨ret_int (by first | rfl | omega), (by repeat (first | exact Ex.refl _ | refine Ex.alloc ?_ _ | refine Ex.ext ?_ _ _ | refine Ex.drew ?_ | refine Ex.drewN ?_ _))⟩
end Go.Proofs.YtjkaeiioofknoaaDoor
