/- The statements' coded, at an error and its own number. -/
import Derived.Test.YtfeeibealokhfaaDoorCoded2
set_option linter.unusedSimpArgs false
set_option linter.unusedVariables false
namespace Go.Proofs.YtfeeibealokhfaaDoor
open Go.RowKit
theorem coded_same (c : Nat) (E : Nat → Addr) (w : World) (hr : CodeReady E w) (h : c ≤ 12) : Calls Tryd.prog 42 #[errV E c, .int .i64 (c : Int)] w fun e w' => e = .returned (.bool true) ∧ Ex w w' := by
  by_cases h0 : c = 0
  · subst h0
    rw [errV_zero]
    exact coded_nil 0 w
  · rw [errV_pos _ _ h0]
    refine (coded_err c (c : Int) E w hr (by omega) h).mono fun e w' ⟨h1, h2⟩ => ⟨?_, h2⟩
    rw [h1]; simp
end Go.Proofs.YtfeeibealokhfaaDoor
