/- What the comparison of two levels computes. -/
import Derived.Test.YtfeeibealokhfaaDoorBLevP
import Derived.Sort.Grow
set_option linter.unusedSimpArgs false
set_option linter.unusedVariables false
namespace Go.Proofs.YtfeeibealokhfaaDoor
open Go.RowKit Go.Sort

def cmpL (side x y : Int) : Int := if side = 0 then y - x else x - y
theorem closureL (side : Int) (hs : side = 0 ∨ side = 1) (sb : Nat) (a b : Lvl) (ha : 1 ≤ a.price ∧ a.price ≤ 1000) (hb : 1 ≤ b.price ∧ b.price ≤ 1000) (W : World) (hc : W.cell? ⟨sb, 0, none⟩ = some (.int .i64 side)) :
    Calls Tryd.prog 78 #[.agg #[.int .i64 a.price, .int .i64 a.qty, .int .i64 a.many], .agg #[.int .i64 b.price, .int .i64 b.qty, .int .i64 b.many], .pointer (some ⟨sb, 0, none⟩)] W fun e w' => e = .returned (.int .i64 (cmpL side a.price b.price)) ∧ ∃ q os', w' = grow (W.drewN q) os' := by
  obtain ⟨a1, a2, a3⟩ := a
  obtain ⟨b1, b2, b3⟩ := b
  have hsb := lt_of_cell hc
  simp only at ha hb
  rcases hs with rfl | rfl
  · have e : cmpL 0 a1 b1 = b1 - a1 := rfl
    have HE := Lib.hid e
    clear e
    go_enter Tryd.func78, Tryd.ntmps78
    go_wp2
    all_goals go_ret
    all_goals exact ⟨by rw [HE.out]; rfl, 0, _, by rw [alloc_eq_grow, alloc_eq_grow, grow_grow]; rfl⟩
  · have e : cmpL 1 a1 b1 = a1 - b1 := rfl
    have HE := Lib.hid e
    clear e
    go_enter Tryd.func78, Tryd.ntmps78
    go_wp2
    all_goals go_ret
    all_goals exact ⟨by rw [HE.out]; rfl, 0, _, by rw [alloc_eq_grow, alloc_eq_grow, grow_grow]; rfl⟩
end Go.Proofs.YtfeeibealokhfaaDoor
