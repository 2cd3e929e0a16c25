/- What curve's One and Check compute. -/
import Derived.Test.YtfeeibealokhfaaDoorLot
import Derived.Test.YtfeeibealokhfaaDoorChecked
import Derived.Deep.DeepCutAuto
set_option linter.unusedSimpArgs false
set_option linter.unusedVariables false
namespace Go.Proofs.YtfeeibealokhfaaDoor
open Go.RowKit

/-- A lot is well. -/
def Lot.ok (l : Lot) : Bool := inR l.id 1 1073741824 && inR l.owner 0 5 && inR l.side 0 1 && inR l.price 1 1000 && inR l.qty 1 1000

set_option maxRecDepth 100000 in
set_option maxHeartbeats 2000000 in
theorem one_any (l : Lot) (E : Nat → Addr) (w : World) (hE : Errs E [2] w) :
    Calls Tryd.prog 68 #[l.val] w fun e w' => e = .returned (errV E (if l.ok then 0 else 2)) ∧ Ex w w' := by
  have e2 : w.cell? ⟨0, 0, none⟩ = some (.iface 199 (.pointer (some (E 2)))) := hE 2 (by decide)
  have b2 : 0 < w.heap.size := lt_of_cell e2
  clear hE
  by_cases h1 : l.id < 1
  · have hk : l.ok = false := by simp only [Lot.ok, inR, Bool.and_eq_true, Bool.and_eq_false_iff, decide_eq_true_eq, decide_eq_false_iff_not]; omega
    rw [hk]
    clear hk
    go_enter Tryd.func68, Tryd.ntmps68
    go_wp2
    all_goals go_ret
    all_goals exact ⟨congrArg Ending.returned (by simp [errV, *]), (by repeat (first | exact Ex.refl _ | refine Ex.alloc ?_ _ | refine Ex.ext ?_ _ _ | refine Ex.drew ?_ | refine Ex.drewN ?_ _))⟩
  by_cases h2 : l.id > 1073741824
  · have hk : l.ok = false := by simp only [Lot.ok, inR, Bool.and_eq_true, Bool.and_eq_false_iff, decide_eq_true_eq, decide_eq_false_iff_not]; omega
    rw [hk]
    clear hk
    go_enter Tryd.func68, Tryd.ntmps68
    go_wp2
    all_goals go_ret
    all_goals exact ⟨congrArg Ending.returned (by simp [errV, *]), (by repeat (first | exact Ex.refl _ | refine Ex.alloc ?_ _ | refine Ex.ext ?_ _ _ | refine Ex.drew ?_ | refine Ex.drewN ?_ _))⟩
  by_cases h3 : l.owner < 0
  · have hk : l.ok = false := by simp only [Lot.ok, inR, Bool.and_eq_true, Bool.and_eq_false_iff, decide_eq_true_eq, decide_eq_false_iff_not]; omega
    rw [hk]
    clear hk
    go_enter Tryd.func68, Tryd.ntmps68
    go_wp2
    all_goals go_ret
    all_goals exact ⟨congrArg Ending.returned (by simp [errV, *]), (by repeat (first | exact Ex.refl _ | refine Ex.alloc ?_ _ | refine Ex.ext ?_ _ _ | refine Ex.drew ?_ | refine Ex.drewN ?_ _))⟩
  by_cases h4 : l.owner ≥ 6
  · have hk : l.ok = false := by simp only [Lot.ok, inR, Bool.and_eq_true, Bool.and_eq_false_iff, decide_eq_true_eq, decide_eq_false_iff_not]; omega
    rw [hk]
    clear hk
    go_enter Tryd.func68, Tryd.ntmps68
    go_wp2
    all_goals go_ret
    all_goals exact ⟨congrArg Ending.returned (by simp [errV, *]), (by repeat (first | exact Ex.refl _ | refine Ex.alloc ?_ _ | refine Ex.ext ?_ _ _ | refine Ex.drew ?_ | refine Ex.drewN ?_ _))⟩
  by_cases h5 : l.side = 0
  · by_cases h6 : l.price < 1
    · have hk : l.ok = false := by simp only [Lot.ok, inR, Bool.and_eq_true, Bool.and_eq_false_iff, decide_eq_true_eq, decide_eq_false_iff_not]; omega
      rw [hk]
      clear hk
      go_enter Tryd.func68, Tryd.ntmps68
      go_wp2
      all_goals go_ret
      all_goals exact ⟨congrArg Ending.returned (by simp [errV, *]), (by repeat (first | exact Ex.refl _ | refine Ex.alloc ?_ _ | refine Ex.ext ?_ _ _ | refine Ex.drew ?_ | refine Ex.drewN ?_ _))⟩
    by_cases h7 : l.price > 1000
    · have hk : l.ok = false := by simp only [Lot.ok, inR, Bool.and_eq_true, Bool.and_eq_false_iff, decide_eq_true_eq, decide_eq_false_iff_not]; omega
      rw [hk]
      clear hk
      go_enter Tryd.func68, Tryd.ntmps68
      go_wp2
      all_goals go_ret
      all_goals exact ⟨congrArg Ending.returned (by simp [errV, *]), (by repeat (first | exact Ex.refl _ | refine Ex.alloc ?_ _ | refine Ex.ext ?_ _ _ | refine Ex.drew ?_ | refine Ex.drewN ?_ _))⟩
    by_cases h8 : l.qty < 1
    · have hk : l.ok = false := by simp only [Lot.ok, inR, Bool.and_eq_true, Bool.and_eq_false_iff, decide_eq_true_eq, decide_eq_false_iff_not]; omega
      rw [hk]
      clear hk
      go_enter Tryd.func68, Tryd.ntmps68
      go_wp2
      all_goals go_ret
      all_goals exact ⟨congrArg Ending.returned (by simp [errV, *]), (by repeat (first | exact Ex.refl _ | refine Ex.alloc ?_ _ | refine Ex.ext ?_ _ _ | refine Ex.drew ?_ | refine Ex.drewN ?_ _))⟩
    by_cases h9 : l.qty > 1000
    · have hk : l.ok = false := by simp only [Lot.ok, inR, Bool.and_eq_true, Bool.and_eq_false_iff, decide_eq_true_eq, decide_eq_false_iff_not]; omega
      rw [hk]
      clear hk
      go_enter Tryd.func68, Tryd.ntmps68
      go_wp2
      all_goals go_ret
      all_goals exact ⟨congrArg Ending.returned (by simp [errV, *]), (by repeat (first | exact Ex.refl _ | refine Ex.alloc ?_ _ | refine Ex.ext ?_ _ _ | refine Ex.drew ?_ | refine Ex.drewN ?_ _))⟩
    · have hk : l.ok = true := by simp only [Lot.ok, inR, Bool.and_eq_true, Bool.and_eq_false_iff, decide_eq_true_eq, decide_eq_false_iff_not]; omega
      rw [hk]
      clear hk
      go_enter Tryd.func68, Tryd.ntmps68
      go_wp2
      all_goals go_ret
      all_goals exact ⟨congrArg Ending.returned (by simp [errV, *]), (by repeat (first | exact Ex.refl _ | refine Ex.alloc ?_ _ | refine Ex.ext ?_ _ _ | refine Ex.drew ?_ | refine Ex.drewN ?_ _))⟩
  by_cases h6 : l.side = 1
  · by_cases h6' : l.price < 1
    · have hk : l.ok = false := by simp only [Lot.ok, inR, Bool.and_eq_true, Bool.and_eq_false_iff, decide_eq_true_eq, decide_eq_false_iff_not]; omega
      rw [hk]
      clear hk
      go_enter Tryd.func68, Tryd.ntmps68
      go_wp2
      all_goals go_ret
      all_goals exact ⟨congrArg Ending.returned (by simp [errV, *]), (by repeat (first | exact Ex.refl _ | refine Ex.alloc ?_ _ | refine Ex.ext ?_ _ _ | refine Ex.drew ?_ | refine Ex.drewN ?_ _))⟩
    by_cases h7 : l.price > 1000
    · have hk : l.ok = false := by simp only [Lot.ok, inR, Bool.and_eq_true, Bool.and_eq_false_iff, decide_eq_true_eq, decide_eq_false_iff_not]; omega
      rw [hk]
      clear hk
      go_enter Tryd.func68, Tryd.ntmps68
      go_wp2
      all_goals go_ret
      all_goals exact ⟨congrArg Ending.returned (by simp [errV, *]), (by repeat (first | exact Ex.refl _ | refine Ex.alloc ?_ _ | refine Ex.ext ?_ _ _ | refine Ex.drew ?_ | refine Ex.drewN ?_ _))⟩
    by_cases h8 : l.qty < 1
    · have hk : l.ok = false := by simp only [Lot.ok, inR, Bool.and_eq_true, Bool.and_eq_false_iff, decide_eq_true_eq, decide_eq_false_iff_not]; omega
      rw [hk]
      clear hk
      go_enter Tryd.func68, Tryd.ntmps68
      go_wp2
      all_goals go_ret
      all_goals exact ⟨congrArg Ending.returned (by simp [errV, *]), (by repeat (first | exact Ex.refl _ | refine Ex.alloc ?_ _ | refine Ex.ext ?_ _ _ | refine Ex.drew ?_ | refine Ex.drewN ?_ _))⟩
    by_cases h9 : l.qty > 1000
    · have hk : l.ok = false := by simp only [Lot.ok, inR, Bool.and_eq_true, Bool.and_eq_false_iff, decide_eq_true_eq, decide_eq_false_iff_not]; omega
      rw [hk]
      clear hk
      go_enter Tryd.func68, Tryd.ntmps68
      go_wp2
      all_goals go_ret
      all_goals exact ⟨congrArg Ending.returned (by simp [errV, *]), (by repeat (first | exact Ex.refl _ | refine Ex.alloc ?_ _ | refine Ex.ext ?_ _ _ | refine Ex.drew ?_ | refine Ex.drewN ?_ _))⟩
    · have hk : l.ok = true := by simp only [Lot.ok, inR, Bool.and_eq_true, Bool.and_eq_false_iff, decide_eq_true_eq, decide_eq_false_iff_not]; omega
      rw [hk]
      clear hk
      go_enter Tryd.func68, Tryd.ntmps68
      go_wp2
      all_goals go_ret
      all_goals exact ⟨congrArg Ending.returned (by simp [errV, *]), (by repeat (first | exact Ex.refl _ | refine Ex.alloc ?_ _ | refine Ex.ext ?_ _ _ | refine Ex.drew ?_ | refine Ex.drewN ?_ _))⟩
  · have hk : l.ok = false := by simp only [Lot.ok, inR, Bool.and_eq_true, Bool.and_eq_false_iff, decide_eq_true_eq, decide_eq_false_iff_not]; omega
    rw [hk]
    clear hk
    go_enter Tryd.func68, Tryd.ntmps68
    go_wp2
    all_goals go_ret
    all_goals exact ⟨congrArg Ending.returned (by simp [errV, *]), (by repeat (first | exact Ex.refl _ | refine Ex.alloc ?_ _ | refine Ex.ext ?_ _ _ | refine Ex.drew ?_ | refine Ex.drewN ?_ _))⟩
end Go.Proofs.YtfeeibealokhfaaDoor
