/- Plain data: the package-level errors by their numbers. -/
import Derived.Test.YtfeeibealokhfaaDoorWorld
set_option linter.unusedSimpArgs false
set_option linter.unusedVariables false
namespace Go.Proofs.YtfeeibealokhfaaDoor
open Go.RowKit

/-- The value of an error by its number (0: none). -/
def errV (E : Nat → Addr) (c : Nat) : Value := if c = 0 then .nilIface else .iface 199 (.pointer (some (E c)))
theorem errV_zero (E : Nat → Addr) : errV E 0 = .nilIface := rfl
theorem errV_pos (E : Nat → Addr) (c : Nat) (h : c ≠ 0) : errV E c = .iface 199 (.pointer (some (E c))) := if_neg h

theorem lt_of_cell {w : World} {n i : Nat} {v : Value} (h : w.cell? ⟨n, i, none⟩ = some v) : n < w.heap.size := World.block_lt_of_cell? _ _ h
/-- The package-level variable that holds the error of a number. -/
def gOf (c : Nat) : Nat :=
  match c with
  | 1 => 8
  | 2 => 0
  | 3 => 3
  | 4 => 9
  | 5 => 10
  | 6 => 5
  | 7 => 4
  | 8 => 1
  | 9 => 6
  | 10 => 2
  | 11 => 11
  | 12 => 7
  | _ => 0
/-- The errors of these numbers lie where E says. -/
def Errs (E : Nat → Addr) (l : List Nat) (w : World) : Prop := ∀ c ∈ l, w.cell? ⟨gOf c, 0, none⟩ = some (.iface 199 (.pointer (some (E c))))
theorem Errs.ex {E : Nat → Addr} {l : List Nat} {w w' : World} (h : Errs E l w) (hx : Ex w w') : Errs E l w' := fun c hc => (hx.below.cell (p := ⟨gOf c, 0, none⟩) (lt_of_cell (h c hc))).trans (h c hc)
theorem Errs.sub {E : Nat → Addr} {l l' : List Nat} {w : World} (h : Errs E l w) (hs : ∀ c ∈ l', c ∈ l) : Errs E l' w := fun c hc => h c (hs c hc)

/-- An integer lies within two bounds. -/
def inR (n lo hi : Int) : Bool := decide (lo ≤ n) && decide (n ≤ hi)
theorem inR_iff {n lo hi : Int} : inR n lo hi = true ↔ lo ≤ n ∧ n ≤ hi := by simp [inR]
theorem inR_not {n lo hi : Int} : inR n lo hi = false ↔ n < lo ∨ hi < n := by
  cases h : inR n lo hi
  · simp only [true_iff]; have : ¬ (lo ≤ n ∧ n ≤ hi) := fun h' => by rw [inR_iff.2 h'] at h; cases h
    omega
  · simp only [false_iff, Bool.true_eq_false]; have := inR_iff.1 h; omega

end Go.Proofs.YtfeeibealokhfaaDoor
