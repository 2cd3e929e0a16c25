/- What the closed fact of the purses' statements computes. -/
import Derived.Test.YtfeeibealokhfaaDoorHoldAny
import Derived.Test.YtfeeibealokhfaaDoorGive
import Derived.Test.YtfeeibealokhfaaDoorEqHas
set_option linter.unusedSimpArgs false
set_option linter.unusedVariables false
namespace Go.Proofs.YtfeeibealokhfaaDoor
open Go.RowKit

set_option maxRecDepth 100000 in
set_option maxHeartbeats 1000000 in
theorem pursed_any (w : World) (E : Nat → Addr) (hE : Errs E [2, 8, 10] w) : Calls Tryd.prog 12 #[] w fun e w' => e = .returned (.bool true) ∧ Ex w w' := by
  have HN := Lib.hid (purseNew (fun _ => 0) 1)
  have g0 : giveE (fun _ _ => 0) 1 100 (fun _ => 0) = 0 := by decide
  have g1 : holdE (giveP (fun _ _ => 0) 1 100 (fun _ => 0)) 0 ⟨1, 1, 0, 10, 3⟩ = 0 := by decide
  have g2 : holdP (giveP (fun _ _ => 0) 1 100 (fun _ => 0)) 0 ⟨1, 1, 0, 10, 3⟩ 1 0 = 100 := by decide
  have g3 : holdP (giveP (fun _ _ => 0) 1 100 (fun _ => 0)) 0 ⟨1, 1, 0, 10, 3⟩ 1 1 = 30 := by decide
  have G0 := Lib.hid g0
  have G1 := Lib.hid g1
  have G2 := Lib.hid g2
  have G3 := Lib.hid g3
  have HE := Lib.hid hE
  clear g0 g1 g2 g3 hE
  go_enter Tryd.func12, Tryd.ntmps12
  go_wp2_with fail
  refine (HN.out _).mono ?_
  rintro e w1 ⟨rfl, hT⟩
  obtain ⟨o1, hI1, hB1, ho1, hs1, _⟩ := hT.use (Below.refl w.heap.size w) (Nat.le_refl _) (fun b _ => by simp)
  have hG := give_any hI1 1 100 (fun _ => 0) E (Errs.sub (HE.out.ex (Ex.of hB1)) (by decide))
  rw [G0.out, errV_zero] at hG
  have HG := Lib.hid hG
  have HB1 := Lib.hid hB1
  have HO1 := Lib.hid ho1
  clear hT hI1 hB1 ho1 hG
  go_wp2_with fail
  refine HG.out.mono ?_
  rintro e w2 ⟨rfl, hT⟩
  obtain ⟨o2, hI2, hB2, ho2, hs2, _⟩ := hT.use HB1.out hs1 (fun b hb => by rw [HO1.out b hb]; decide)
  have hH := hold_any hI2 0 ⟨1, 1, 0, 10, 3⟩ E (Errs.sub (HE.out.ex (Ex.of hB2)) (by decide))
  rw [G1.out, errV_zero] at hH
  have HH := Lib.hid hH
  have HB2 := Lib.hid hB2
  have HO2 := Lib.hid ho2
  clear hT hI2 hB2 ho2 hH
  go_wp2_with fail
  refine HH.out.mono ?_
  rintro e w3 ⟨rfl, hT⟩
  obtain ⟨o3, hI3, hB3, ho3, hs3, _⟩ := hT.use HB2.out (by omega) (fun b hb => by rw [HO2.out b (by omega), HO1.out b hb]; decide)
  have HOf := Lib.hid (fun w' (hx : Ex w3 w') => of_in (hI3.later hx) 1 (by decide))
  have HB3 := Lib.hid hB3
  clear hT hI3 hB3 ho3
  have b2 : (holdP (giveP (fun _ _ => 0) 1 100 (fun _ => 0)) 0 ⟨1, 1, 0, 10, 3⟩ 1 0 == 100) = true := by rw [G2.out]; rfl
  have b3 : (holdP (giveP (fun _ _ => 0) 1 100 (fun _ => 0)) 0 ⟨1, 1, 0, 10, 3⟩ 1 1 == 30) = true := by rw [G3.out]; rfl
  have k0 := fun P w => fieldHas0 P 1 w
  have k1 := fun P w => fieldHas1 P 1 w
  generalize holdP (giveP (fun _ _ => 0) 1 100 (fun _ => 0)) 0 ⟨1, 1, 0, 10, 3⟩ = P3 at *
  go_wp2_with (go_at_call 17; refine (HOf.out _ (by repeat (first | exact Ex.refl _ | refine Ex.alloc ?_ _ | refine Ex.ext ?_ _ _ | refine Ex.drew ?_ | refine Ex.drewN ?_ _))).mono ?_; rintro e w5 ⟨rfl, l5, d5, rfl⟩)
  all_goals go_ret
  all_goals exact ⟨rfl, (Ex.of HB3.out).trans (by repeat (first | exact Ex.refl _ | refine Ex.alloc ?_ _ | refine Ex.ext ?_ _ _ | refine Ex.drew ?_ | refine Ex.drewN ?_ _))⟩
end Go.Proofs.YtfeeibealokhfaaDoor
