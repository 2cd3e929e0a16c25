import Derived.Test.YtmbboflakfokhaaGreatDoorJ25
import Derived.Test.YtmbboflakfokhaaGreatDoorJ1
/- What a row's list gives that holds errors.errorType and the twelve errors: all that a call of plain's Code wants. -/
set_option linter.unusedSimpArgs false
set_option linter.unusedVariables false
namespace Go.Proofs.YtmbboflakfokhaaGreatDoor
open Go.RowKit
theorem hdEt : Tryz.prog.globalNamed "errors.errorType" = some 12 := by kernel_rfl
theorem hdRt : (Tryz.prog.cutTypes.find? (·.1 == "internal/reflectlite.rtype")).map (·.2) = some 186 := by kernel_rfl
theorem hdOne:((List.range 262).filter fun t=>Tryz.prog.rowNamed t [101,114,114,111,114])=[27]:=by kernel_rfl
theorem hdSize:Tryz.prog.types.size=262:=by kernel_rfl
theorem ready_of_laid {W : World} (h : laidMet Tryz.prog (allE.map errEntry) W ∧ handlesMet Tryz.prog [("errors.errorType", Rows.laid_errors_errorType)] W) : ∃ E, CodeReady E W := by
  obtain ⟨name,u,ty,e1,e2,e3,e4,e5⟩:=h.2 _ (List.mem_singleton.2 rfl)
  have en:name=[101,114,114,111,114]:=(Option.some.inj e1).symm
  subst en
  obtain rfl:=Option.some.inj (hdRt.symm.trans e2)
  have hm:ty∈(List.range 262).filter fun t=>Tryz.prog.rowNamed t [101,114,114,111,114]:=List.mem_filter.2 ⟨List.mem_range.2 (by rw [← hdSize];exact e3),e4⟩
  rw [hdOne] at hm
  obtain rfl:=List.mem_singleton.1 hm
  have hh:typeHandle Tryz.prog 27=.pointer (some ⟨13,27,none⟩):=by kernel_rfl
  rw [hh] at e5
  obtain ⟨E,h1,h2⟩:=errs_of_laid allE h.1 (by decide) (by kernel_rfl)
  exact ⟨E,h1,h2,by simpa [Handle] using World.var?_cell hdEt e5 0⟩
end Go.Proofs.YtmbboflakfokhaaGreatDoor
