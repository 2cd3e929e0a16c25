/- What two clients have, compared. -/
import Derived.Test.YtfeeibealokhfaaDoorPurse1
import Derived.Deep.DeepCutAuto
set_option linter.unusedSimpArgs false
set_option linter.unusedVariables false
namespace Go.Proofs.YtfeeibealokhfaaDoor
open Go.RowKit

theorem equalInTri (d : Nat) (a0 a1 a2 b0 b1 b2 : Int) (w : World) : (Op.equalIn (d + 2) 28 (.agg #[.int .i64 a0, .int .i64 a1, .int .i64 a2]) (.agg #[.int .i64 b0, .int .i64 b1, .int .i64 b2])).run Tryd.prog w = .ok (a0 == b0 && a1 == b1 && a2 == b2) w := by
  have hS := Tryd.underlying28
  have hI := Tryd.underlying3
  have hsz : ∀ w, (isAgg 3).run Tryd.prog w = .ok false w := fun w => by kernel_rfl
  have hs1 : ∀ w, (sizeOf 3).run Tryd.prog w = .ok 1 w := fun w => by kernel_rfl
  have e0 : ∀ w, (Op.equalIn (d + 1) 3 (.int .i64 a0) (.int .i64 b0)).run Tryd.prog w = .ok (a0 == b0) w := fun w => run_equalIn_int w d _ _ _ _ _ hI
  have e1 : ∀ w, (Op.equalIn (d + 1) 3 (.int .i64 a1) (.int .i64 b1)).run Tryd.prog w = .ok (a1 == b1) w := fun w => run_equalIn_int w d _ _ _ _ _ hI
  have e2 : ∀ w, (Op.equalIn (d + 1) 3 (.int .i64 a2) (.int .i64 b2)).run Tryd.prog w = .ok (a2 == b2) w := fun w => run_equalIn_int w d _ _ _ _ _ hI
  unfold Op.equalIn
  simp only [Sem.run_bind, run_underlying hS, Result.andThen_ok, run_program, hs1]
  have r3 : List.range' 0 3 = [0, 1, 2] := rfl
  simp [Std.Legacy.Range.forIn_eq_forIn_range', Std.Legacy.Range.size, r3, part, hsz, Sem.run_bind, e0, e1, e2]
  by_cases h0 : a0 = b0 <;> by_cases h1 : a1 = b1 <;> by_cases h2 : a2 = b2 <;> simp [h0, h1, h2]
/-- Do two clients have the same? -/
def sameB (P Q : Pu) (c d : Nat) : Bool := P c 0 == Q d 0 && (P c 1 == Q d 1 && ((P c 2 == Q d 2 && P c 3 == Q d 3 && P c 4 == Q d 4) && (P c 5 == Q d 5 && P c 6 == Q d 6 && P c 7 == Q d 7)))
theorem sameB_refl (P : Pu) (c : Nat) : sameB P P c c = true := by simp [sameB]
theorem sameB_iff (P Q : Pu) (c d : Nat) : sameB P Q c d = true ↔ ∀ j, j < 8 → P c j = Q d j := by
  simp only [sameB, Bool.and_eq_true, beq_iff_eq]
  constructor
  · rintro ⟨h0, h1, ⟨⟨h2, h3⟩, h4⟩, ⟨h5, h6⟩, h7⟩ j hj
    have : j = 0 ∨ j = 1 ∨ j = 2 ∨ j = 3 ∨ j = 4 ∨ j = 5 ∨ j = 6 ∨ j = 7 := by omega
    rcases this with rfl | rfl | rfl | rfl | rfl | rfl | rfl | rfl <;> assumption
  · intro h
    exact ⟨h 0 (by omega), h 1 (by omega), ⟨⟨h 2 (by omega), h 3 (by omega)⟩, h 4 (by omega)⟩, ⟨h 5 (by omega), h 6 (by omega)⟩, h 7 (by omega)⟩
theorem equalInHas (P Q : Pu) (c d : Nat) (w : World) : (Op.equalIn 10000 36 (hasV P c) (hasV Q d)).run Tryd.prog w = .ok (sameB P Q c d) w := by
  have hS : Tryd.prog.underlying 36 = some (.struct (Tryd.prog.fieldsOf 36)) := by kernel_rfl
  have hp : Tryd.prog.stoodInHeld 36 = false := by kernel_rfl
  have t1 := fun w => equalInTri 9997 (P c 2) (P c 3) (P c 4) (Q d 2) (Q d 3) (Q d 4) w
  have t2 := fun w => equalInTri 9997 (P c 5) (P c 6) (P c 7) (Q d 5) (Q d 6) (Q d 7) w
  simp only [Nat.reduceAdd] at t1 t2
  rw [show (10000 : Nat) = 9999 + 1 from rfl, run_equalIn_agg w 9999 _ _ _ hS hp]
  simp only [Program.fieldsOf, Tryd.underlying36]
  go_simp
  unfold sameB
  (repeat' split) <;> simp_all
theorem eqHas (P Q : Pu) (c d : Nat) (w : World) : (binOp .eql 36 (hasV P c) (hasV Q d)).run Tryd.prog w = .ok (.bool (sameB P Q c d)) w := by
  rw [run_eql_struct, equalInHas]; rfl
theorem neHas (P Q : Pu) (c d : Nat) (w : World) : (binOp .neq 36 (hasV P c) (hasV Q d)).run Tryd.prog w = .ok (.bool (!sameB P Q c d)) w := by
  rw [run_neq_struct, equalInHas]; rfl
theorem fieldHas0 (P : Pu) (c : Nat) (w : World) : (Instr.field 36 (hasV P c) 0).run Tryd.prog w = .ok (.int .i64 (P c 0)) w := by kernel_rfl
theorem fieldHas1 (P : Pu) (c : Nat) (w : World) : (Instr.field 36 (hasV P c) 1).run Tryd.prog w = .ok (.int .i64 (P c 1)) w := by kernel_rfl
end Go.Proofs.YtfeeibealokhfaaDoor
