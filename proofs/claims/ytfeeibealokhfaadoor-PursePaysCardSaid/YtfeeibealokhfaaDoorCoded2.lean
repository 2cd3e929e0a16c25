/- What the statements' coded computes (chapters 6 to 10). -/
import Derived.Test.YtfeeibealokhfaaDoorCode
set_option linter.unusedSimpArgs false
set_option linter.unusedVariables false
namespace Go.Proofs.YtfeeibealokhfaaDoor
open Go.RowKit
set_option maxHeartbeats 1000000 in
theorem coded_nil (n : Int) (w : World) : Calls Tryd.prog 42 #[.nilIface, .int .i64 n] w fun e w' => e = .returned (.bool ((0 : Int) == n)) ∧ Ex w w' := by
  by_cases h : ((0 : Int) == n) = true
  · rw [h]
    go_enter Tryd.func42, Tryd.ntmps42
    go_wp2_with (go_at_call 72; refine (code_nil _).mono ?_; rintro e w1 ⟨rfl, rfl⟩)
    all_goals go_ret
    all_goals exact ⟨rfl, (by repeat (first | exact Ex.refl _ | refine Ex.alloc ?_ _ | refine Ex.ext ?_ _ _ | refine Ex.drew ?_ | refine Ex.drewN ?_ _))⟩
  · have h : ((0 : Int) == n) = false := by simpa using h
    rw [h]
    go_enter Tryd.func42, Tryd.ntmps42
    go_wp2_with (go_at_call 72; refine (code_nil _).mono ?_; rintro e w1 ⟨rfl, rfl⟩)
    all_goals go_ret
    all_goals exact ⟨rfl, (by repeat (first | exact Ex.refl _ | refine Ex.alloc ?_ _ | refine Ex.ext ?_ _ _ | refine Ex.drew ?_ | refine Ex.drewN ?_ _))⟩
set_option maxHeartbeats 1000000 in
theorem coded_err (c : Nat) (n : Int) (E : Nat → Addr) (w : World) (hr : CodeReady E w) (h1 : 1 ≤ c) (h2 : c ≤ 12) :
    Calls Tryd.prog 42 #[.iface 199 (.pointer (some (E c))), .int .i64 n] w fun e w' => e = .returned (.bool ((c : Int) == n)) ∧ Ex w w' := by
  have H := Lib.hid (code_err c E w hr h1 h2)
  clear hr
  by_cases h : ((c : Int) == n) = true
  · rw [h]
    go_enter Tryd.func42, Tryd.ntmps42
    go_wp2_with (go_at_call 72; refine H.out.mono ?_; rintro e w1 ⟨rfl, l1, d1, rfl⟩)
    all_goals go_ret
    all_goals exact ⟨rfl, (by repeat (first | exact Ex.refl _ | refine Ex.alloc ?_ _ | refine Ex.ext ?_ _ _ | refine Ex.drew ?_ | refine Ex.drewN ?_ _))⟩
  · have h : ((c : Int) == n) = false := by simpa using h
    rw [h]
    go_enter Tryd.func42, Tryd.ntmps42
    go_wp2_with (go_at_call 72; refine H.out.mono ?_; rintro e w1 ⟨rfl, l1, d1, rfl⟩)
    all_goals go_ret
    all_goals exact ⟨rfl, (by repeat (first | exact Ex.refl _ | refine Ex.alloc ?_ _ | refine Ex.ext ?_ _ _ | refine Ex.drew ?_ | refine Ex.drewN ?_ _))⟩
end Go.Proofs.YtfeeibealokhfaaDoor
