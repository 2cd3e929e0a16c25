/- What fair of package purse computes. -/
import Derived.Test.YtfeeibealokhfaaDoorPurse1
set_option linter.unusedSimpArgs false
set_option linter.unusedVariables false
namespace Go.Proofs.YtfeeibealokhfaaDoor
open Go.RowKit

/-- Why two lots may not trade so much at a price (0: they may). -/
def fairE (item : Int) (b s : Lot) (price qty : Int) : Nat :=
  if rightB item b && rightB item s then
    (if b.side = 0 ∧ s.side = 1 then
      (if price < 1 ∨ 1000 < price ∨ qty < 1 ∨ b.qty < qty ∨ s.qty < qty then 2
       else if b.price < price ∨ price < s.price then 12 else 0)
     else 3)
  else 2
set_option maxRecDepth 100000 in
set_option maxHeartbeats 2000000 in
theorem fair_any (item : Int) (b s : Lot) (price qty : Int) (E : Nat → Addr) (w : World) (hE : Errs E [2, 3, 12] w) :
    Calls Tryd.prog 71 #[.int .i64 item, b.val, s.val, .int .i64 price, .int .i64 qty] w fun e w' => e = .returned (errV E (fairE item b s price qty)) ∧ Ex w w' := by
  have e2 : w.cell? ⟨0, 0, none⟩ = some (.iface 199 (.pointer (some (E 2)))) := hE 2 (by decide)
  have b2 : 0 < w.heap.size := lt_of_cell e2
  have e3 : w.cell? ⟨3, 0, none⟩ = some (.iface 199 (.pointer (some (E 3)))) := hE 3 (by decide)
  have b3 : 3 < w.heap.size := lt_of_cell e3
  have e12 : w.cell? ⟨7, 0, none⟩ = some (.iface 199 (.pointer (some (E 12)))) := hE 12 (by decide)
  have b12 : 7 < w.heap.size := lt_of_cell e12
  have HB := Lib.hid (fun w (h : Errs E [2] w) => right_any item b E w h)
  have HS := Lib.hid (fun w (h : Errs E [2] w) => right_any item s E w h)
  have HE := Lib.hid hE
  clear hE
  cases hb : rightB item b
  · rw [hb] at HB
    rw [show fairE item b s price qty = 2 by simp [fairE, hb], errV_pos _ _ (by decide)]
    clear hb
    go_enter Tryd.func71, Tryd.ntmps71
    go_wp2_with fail
    refine (HB.out _ (by exact Errs.sub (HE.out.ex (by repeat (first | exact Ex.refl _ | refine Ex.alloc ?_ _ | refine Ex.ext ?_ _ _ | refine Ex.drew ?_ | refine Ex.drewN ?_ _))) (by decide))).mono ?_
    rintro e w1 ⟨rfl, l1, d1, rfl⟩
    go_wp2_with fail
    all_goals go_ret
    all_goals exact ⟨rfl, (by repeat (first | exact Ex.refl _ | refine Ex.alloc ?_ _ | refine Ex.ext ?_ _ _ | refine Ex.drew ?_ | refine Ex.drewN ?_ _))⟩
  · cases hs : rightB item s
    · rw [hb] at HB
      rw [hs] at HS
      rw [show fairE item b s price qty = 2 by simp [fairE, hs], errV_pos _ _ (by decide)]
      clear hb hs
      go_enter Tryd.func71, Tryd.ntmps71
      go_wp2_with fail
      refine (HB.out _ (by exact Errs.sub (HE.out.ex (by repeat (first | exact Ex.refl _ | refine Ex.alloc ?_ _ | refine Ex.ext ?_ _ _ | refine Ex.drew ?_ | refine Ex.drewN ?_ _))) (by decide))).mono ?_
      rintro e w1 ⟨rfl, l1, d1, rfl⟩
      go_wp2_with fail
      refine (HS.out _ (by exact Errs.sub (HE.out.ex (by repeat (first | exact Ex.refl _ | refine Ex.alloc ?_ _ | refine Ex.ext ?_ _ _ | refine Ex.drew ?_ | refine Ex.drewN ?_ _))) (by decide))).mono ?_
      rintro e w2 ⟨rfl, l2, d2, rfl⟩
      go_wp2_with fail
      all_goals go_ret
      all_goals exact ⟨rfl, (by repeat (first | exact Ex.refl _ | refine Ex.alloc ?_ _ | refine Ex.ext ?_ _ _ | refine Ex.drew ?_ | refine Ex.drewN ?_ _))⟩
    · rw [hb] at HB
      rw [hs] at HS
      have HX : Hid (fairE item b s price qty = (if b.side = 0 ∧ s.side = 1 then (if price < 1 ∨ 1000 < price ∨ qty < 1 ∨ b.qty < qty ∨ s.qty < qty then 2 else if b.price < price ∨ price < s.price then 12 else 0) else 3)) := by
        show fairE item b s price qty = _
        simp [fairE, hb, hs]
      clear hb hs
      go_enter Tryd.func71, Tryd.ntmps71
      go_wp2_with fail
      refine (HB.out _ (by exact Errs.sub (HE.out.ex (by repeat (first | exact Ex.refl _ | refine Ex.alloc ?_ _ | refine Ex.ext ?_ _ _ | refine Ex.drew ?_ | refine Ex.drewN ?_ _))) (by decide))).mono ?_
      rintro e w1 ⟨rfl, l1, d1, rfl⟩
      go_wp2_with fail
      refine (HS.out _ (by exact Errs.sub (HE.out.ex (by repeat (first | exact Ex.refl _ | refine Ex.alloc ?_ _ | refine Ex.ext ?_ _ _ | refine Ex.drew ?_ | refine Ex.drewN ?_ _))) (by decide))).mono ?_
      rintro e w2 ⟨rfl, l2, d2, rfl⟩
      go_wp2_with fail
      all_goals go_ret
      all_goals have hx := HX.out
      all_goals clear HX HB HS HE e2 e3 e12
      all_goals (try simp only [bne_iff_ne, ne_eq, bne_eq_false_iff_eq] at *)
      all_goals refine ⟨?_, (by repeat (first | exact Ex.refl _ | refine Ex.alloc ?_ _ | refine Ex.ext ?_ _ _ | refine Ex.drew ?_ | refine Ex.drewN ?_ _))⟩
      all_goals first
        | (rw [hx, if_neg (by omega), errV_pos _ _ (by decide)]; rfl)
        | (rw [hx, if_pos (by omega), if_pos (by omega), errV_pos _ _ (by decide)]; rfl)
        | (rw [hx, if_pos (by omega), if_neg (by omega), if_pos (by omega), errV_pos _ _ (by decide)]; rfl)
        | (rw [hx, if_pos (by omega), if_neg (by omega), if_neg (by omega), errV_zero]; rfl)
end Go.Proofs.YtfeeibealokhfaaDoor
