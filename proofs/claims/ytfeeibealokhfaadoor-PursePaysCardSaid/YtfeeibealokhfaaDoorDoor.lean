/- The world in which the package-level errors lie as the program's text lays them: the witness of every row; and the closed facts that every claim shares. -/
import Derived.Test.YtfeeibealokhfaaDoorErrs
set_option linter.unusedSimpArgs false
set_option linter.unusedVariables false
namespace Go.Proofs.YtfeeibealokhfaaDoor
open Go.RowKit

def putG (h : Array Obj) (g : Nat) (v : Value) : Array Obj := h.modify g fun
  | .cells _ t fr => .cells #[v] t fr
  | o => o
noncomputable def heap0 (os : Os) : Array Obj := (World.holding Tryd.prog os ⟨#[], #[], []⟩).heap
noncomputable def doorErr (os : Os) (i : Nat) : Value := .iface 199 (.pointer (some ⟨(heap0 os).size + i, 0, none⟩))
def errB (text : List UInt8) : Obj := .cells #[.string ⟨text.toArray⟩] 219
noncomputable def laidW (os : Os) : World :=
  let h := heap0 os
  let h := putG h 8 (doorErr os 0)
  let h := putG h 0 (doorErr os 1)
  let h := putG h 3 (doorErr os 2)
  let h := putG h 9 (doorErr os 3)
  let h := putG h 10 (doorErr os 4)
  let h := putG h 5 (doorErr os 5)
  let h := putG h 4 (doorErr os 6)
  let h := putG h 1 (doorErr os 7)
  let h := putG h 6 (doorErr os 8)
  let h := putG h 2 (doorErr os 9)
  let h := putG h 11 (doorErr os 10)
  let h := putG h 7 (doorErr os 11)
  let h := putG h 12 (.iface 177 (.agg #[.pointer (some ⟨Tryd.prog.globals.size, 32, none⟩)]))
  { World.holding Tryd.prog os ⟨#[], #[], []⟩ with heap := h ++ #[errB [103, 97, 118, 101, 108, 104, 111, 117, 115, 101, 58, 32, 116, 101, 120, 116],
      errB [103, 97, 118, 101, 108, 104, 111, 117, 115, 101, 58, 32, 98, 111, 117, 110, 100],
      errB [103, 97, 118, 101, 108, 104, 111, 117, 115, 101, 58, 32, 115, 104, 97, 112, 101],
      errB [103, 97, 118, 101, 108, 104, 111, 117, 115, 101, 58, 32, 107, 105, 110, 100],
      errB [103, 97, 118, 101, 108, 104, 111, 117, 115, 101, 58, 32, 115, 117, 109],
      errB [103, 97, 118, 101, 108, 104, 111, 117, 115, 101, 58, 32, 110, 111, 110, 101],
      errB [103, 97, 118, 101, 108, 104, 111, 117, 115, 101, 58, 32, 101, 120, 105, 115, 116],
      errB [103, 97, 118, 101, 108, 104, 111, 117, 115, 101, 58, 32, 102, 117, 108, 108],
      errB [103, 97, 118, 101, 108, 104, 111, 117, 115, 101, 58, 32, 111, 102, 102],
      errB [103, 97, 118, 101, 108, 104, 111, 117, 115, 101, 58, 32, 112, 111, 111, 114],
      errB [103, 97, 118, 101, 108, 104, 111, 117, 115, 101, 58, 32, 115, 116, 97, 116, 101],
      errB [103, 97, 118, 101, 108, 104, 111, 117, 115, 101, 58, 32, 111, 114, 100, 101, 114]] }

theorem looks0 : true = Tryd.prog.looks [] := by kernel_rfl
theorem mainIs0 : Tryd.prog.mainIs = some (((true, "c1765ac2b715e316095bfe7e8c83f0bd73165ead993b983d3336e78097702fbb") : Bool × String).1, ((true, "c1765ac2b715e316095bfe7e8c83f0bd73165ead993b983d3336e78097702fbb") : Bool × String).2.toList) := by kernel_rfl
end Go.Proofs.YtfeeibealokhfaaDoor
