/- A store of a client's eight numbers, in one step. -/
import Derived.Test.YtfeeibealokhfaaDoorMPurse
import Derived.Deep.RegionLaw
set_option linter.unusedSimpArgs false
set_option linter.unusedVariables false
namespace Go.Proofs.YtfeeibealokhfaaDoor
open Go.RowKit

/-- A client's eight numbers stored at once. -/
theorem run_storeVar8 {Pr : Program} {w : World} {g : Nat} {t ty : TypeId} {Q : Pu} (h : PRow w g t Q) {c : Nat} (hc : c < 6) (hi : (Pr.info? ty).map (·.size) = some 8) (z0 z1 z2 z3 z4 z5 z6 z7 : Int) :
    (storeVar ty ⟨g, c * 8, none⟩ (.agg #[.int .i64 z0, .int .i64 z1, .int .i64 z2, .int .i64 z3, .int .i64 z4, .int .i64 z5, .int .i64 z6, .int .i64 z7])).run Pr w = .ok () ((((((((w.setCell ⟨g, c * 8, none⟩ (.int .i64 z0)).setCell ⟨g, c * 8 + 1, none⟩ (.int .i64 z1)).setCell ⟨g, c * 8 + 2, none⟩ (.int .i64 z2)).setCell ⟨g, c * 8 + 3, none⟩ (.int .i64 z3)).setCell ⟨g, c * 8 + 4, none⟩ (.int .i64 z4)).setCell ⟨g, c * 8 + 5, none⟩ (.int .i64 z5)).setCell ⟨g, c * 8 + 6, none⟩ (.int .i64 z6)).setCell ⟨g, c * 8 + 7, none⟩ (.int .i64 z7)) := by
  have hst := run_storeCells_cells (P := Pr) g (c * 8) [.int .i64 z0, .int .i64 z1, .int .i64 z2, .int .i64 z3, .int .i64 z4, .int .i64 z5, .int .i64 z6, .int .i64 z7] 0 w (fun j hj => by
    rw [Nat.add_zero, PRow.cell h hc (by simpa using hj)]; rfl) (fun j hj => World.rowIs.frozen h _) (by intro v hv; simp at hv; rcases hv with rfl | rfl | rfl | rfl | rfl | rfl | rfl | rfl <;> rfl)
  obtain ⟨i, hi1, hi2⟩ := Option.map_eq_some_iff.1 hi
  simp [storeVar, Value.cells, sizeOf, typeInfo, hi1, hi2, Sem.run_bind]
  simpa [World.setCells] using hst
theorem step_store8 {Pr : Program} {ops : Array Oper} {o : Oper} {a : Act} {w : World} {K : Act → World → Prop} {Q : Exit → Act → World → Prop} {E : Prop} (hgd : o.guard = none) (ty : TypeId) (p x : Operand) (ho : o.op = .store ty p x)
    (g c : Nat) (hp : a.eval p = .pointer (some ⟨g, c * 8, none⟩)) (z0 z1 z2 z3 z4 z5 z6 z7 : Int) (hx : a.eval x = .agg #[.int .i64 z0, .int .i64 z1, .int .i64 z2, .int .i64 z3, .int .i64 z4, .int .i64 z5, .int .i64 z6, .int .i64 z7]) (t : TypeId) (R : Pu) (h : PRow w g t R) (hc : c < 6) (hi : (Pr.info? ty).map (·.size) = some 8)
    (hK : K (a.put o.dst undef) ((((((((w.setCell ⟨g, c * 8, none⟩ (.int .i64 z0)).setCell ⟨g, c * 8 + 1, none⟩ (.int .i64 z1)).setCell ⟨g, c * 8 + 2, none⟩ (.int .i64 z2)).setCell ⟨g, c * 8 + 3, none⟩ (.int .i64 z3)).setCell ⟨g, c * 8 + 4, none⟩ (.int .i64 z4)).setCell ⟨g, c * 8 + 5, none⟩ (.int .i64 z5)).setCell ⟨g, c * 8 + 6, none⟩ (.int .i64 z6)).setCell ⟨g, c * 8 + 7, none⟩ (.int .i64 z7))) :
    if Region.wanted o (yielded ops a.tmps) = true then Oper.wp Pr o a w K Q else E := by
  have hw : Region.wanted o (yielded ops a.tmps) = true := by simp [Region.wanted, hgd]
  rw [if_pos hw]
  unfold Oper.wp execOp
  simp [ho, hp, hx, Instr.storeAt, Instr.sureAddr, Sem.run_bind, run_storeVar8 h hc hi z0 z1 z2 z3 z4 z5 z6 z7, Result.andThen_ok]
  exact hK
end Go.Proofs.YtfeeibealokhfaaDoor
