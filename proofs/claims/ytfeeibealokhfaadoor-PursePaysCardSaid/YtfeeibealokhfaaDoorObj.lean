/- What a method leaves that turns but one object. No condition. -/
import Derived.Test.YtfeeibealokhfaaDoorKeep
set_option linter.unusedSimpArgs false
set_option linter.unusedVariables false
namespace Go.Proofs.YtfeeibealokhfaaDoor
open Go.RowKit

/-- What a call leaves that turns but the object i and labels all that it makes with j. -/
def ObjTo (own : Nat → Nat) (i j : Nat) (w : World) (I : (Nat → Nat) → World → Prop) (w' : World) : Prop := ∃ k x, w' = ov w own 1 i k x ∧ I (lab own w.heap.size k j) w'
theorem ObjTo.of {own : Nat → Nat} {i j : Nat} {w : World} {I : (Nat → Nat) → World → Prop} {w' : World} (h : Kp own 1 i w w') (hI : I (lab own w.heap.size (w'.heap.size - w.heap.size) j) w') : ObjTo own i j w I w' := ⟨_, w', h.is, hI⟩
theorem ObjTo.of_ex {own : Nat → Nat} {i j : Nat} {w w' : World} {I : (Nat → Nat) → World → Prop} (h : Ex w w') (hI : I (lab own w.heap.size (w'.heap.size - w.heap.size) j) w') : ObjTo own i j w I w' := ObjTo.of (Kp.of_below h.below) hI
theorem ObjTo.use {own : Nat → Nat} {i j B : Nat} {a w : World} {I : (Nat → Nat) → World → Prop} {w' : World} (h : ObjTo own i j w I w') (hB : Below B a w) (hs : B ≤ w.heap.size) (ho : ∀ b, b < B → own b ≠ i) :
    ∃ o, I o w' ∧ Below B a w' ∧ (∀ b, b < w.heap.size → o b = own b) ∧ w.heap.size ≤ w'.heap.size ∧ Kp own 1 i w w' := by
  obtain ⟨k, x, rfl, hI⟩ := h
  exact ⟨_, hI, Below.ov hB own 1 i k x (fun n hn => by rw [Nat.div_one]; exact ho n hn) hs, fun b hb => lab_lt hb, by rw [ov_size]; omega, ov_kp _ _ _ _ _ _⟩
theorem ObjTo.after {own : Nat → Nat} {i : Nat} {w w1 w' : World} {I : (Nat → Nat) → World → Prop} (hx : Ex w w1) (h : ObjTo own i i w1 I w') (hI : ∀ o o' : Nat → Nat, (∀ n, n < w'.heap.size → o n = i → o' n = i) → I o w' → I o' w') : ObjTo own i i w I w' := by
  obtain ⟨k, x, rfl, hI'⟩ := h
  have hs := hx.below.size
  refine ObjTo.of ((Kp.of_below hx.below).ov own 1 i k x (fun n _ h => h)) (hI _ _ (fun n hn e => ?_) hI')
  rw [ov_size] at hn
  unfold lab at e ⊢
  rw [ov_size]
  by_cases h1 : n < w.heap.size
  · rw [if_pos (by omega)] at e
    rw [if_pos h1]; exact e
  · rw [if_neg h1, if_pos (by omega)]
/-- The world as a letter: what is known of it stays. -/
theorem wp_world {Pr : Program} {code : Code} {Q : Exit → Act → World → Prop} {a : Act} {W : World} {R : World → Prop} (h : R W) (k : ∀ W', R W' → code.wp Pr Q a W') : code.wp Pr Q a W := k W h

end Go.Proofs.YtfeeibealokhfaaDoor
