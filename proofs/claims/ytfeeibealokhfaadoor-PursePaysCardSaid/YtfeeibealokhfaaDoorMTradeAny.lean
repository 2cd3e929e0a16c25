/- What the document's Trade computes, whatever it is given. -/
import Derived.Test.YtfeeibealokhfaaDoorMTrade0
import Derived.Test.YtfeeibealokhfaaDoorMTrade1
import Derived.Test.YtfeeibealokhfaaDoorMTrade2
set_option linter.unusedSimpArgs false
set_option linter.unusedVariables false
namespace Go.Proofs.YtfeeibealokhfaaDoor
open Go.RowKit

section
variable {own : Nat → Nat} {i : Nat} {w : World} {p : Nat} {P : Pu}
theorem mtrade_any (h : PurseAt own i w p P) (item : Int) (b s : Lot) (price qty : Int) (hQ : PInv (tradeQ P item b s price qty)) :
    Calls Tryd.prog 46 #[.pointer (some ⟨p, 0, none⟩), .int .i64 item, b.val, s.val, .int .i64 price, .int .i64 qty] w fun e w' => e = .returned (.int .i64 (tradeE P item b s price qty : Nat)) ∧ ObjTo own i i w (fun o w' => PurseAt o i w' p (tradeQ P item b s price qty)) w' := by
  by_cases hf : fairE item b s price qty = 0
  · have hz := (fair_zero hf).1
    simp only [rightB, Bool.and_eq_true] at hz
    obtain ⟨i0, i2⟩ := inR_iff.1 hz.1
    have it3 : item = 0 ∨ item = 1 ∨ item = 2 := by omega
    rcases it3 with rfl | rfl | rfl
    · exact mtrade_fair0 h b s price qty hQ hf
    · exact mtrade_fair1 h b s price qty hQ hf
    · exact mtrade_fair2 h b s price qty hQ hf
  · exact mtrade_bad h item b s price qty hQ hf
end
end Go.Proofs.YtfeeibealokhfaaDoor
