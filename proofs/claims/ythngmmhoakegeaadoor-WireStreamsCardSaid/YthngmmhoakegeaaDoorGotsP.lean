/- A stream of frames: what is got of it, and what is left. -/
import Derived.Test.YthngmmhoakegeaaDoorDecP
set_option linter.unusedSimpArgs false
set_option linter.unusedVariables false
namespace Go.Proofs.YthngmmhoakegeaaDoor
open Go.RowKit

structure Got where
  ask : Ask
  code : Nat
  deriving DecidableEq
/-- What a text of one frame's length says. -/
def gotOf (l : List UInt8) : Got := ⟨decA ⟨l.toArray⟩, decE ⟨l.toArray⟩⟩
def gotsL (l : List UInt8) : List Got := (List.range (l.length / 30)).map fun i => gotOf ((l.drop (30 * i)).take 30)
def leftL (l : List UInt8) : List UInt8 := l.drop (30 * (l.length / 30))
theorem gotsL_len (l : List UInt8) : (gotsL l).length = l.length / 30 := by simp [gotsL]
theorem leftL_len (l : List UInt8) : (leftL l).length = l.length % 30 := by
  rw [leftL, List.length_drop]; omega
theorem leftL_append (l s : List UInt8) : l ++ s = l.take (30 * (l.length / 30)) ++ (leftL l ++ s) := by
  rw [leftL, ← List.append_assoc, List.take_append_drop]
theorem div_parts (a b : Nat) : (a + b) / 30 = a / 30 + (a % 30 + b) / 30 := by omega
/-- What is got of two texts is what is got of the first one, and of what it leaves with the second one. -/
theorem gotsL_append (l s : List UInt8) : gotsL (l ++ s) = gotsL l ++ gotsL (leftL l ++ s) := by
  apply List.ext_getElem?
  intro i
  have hn : (l ++ s).length / 30 = l.length / 30 + (leftL l ++ s).length / 30 := by
    rw [List.length_append, List.length_append, leftL_len]; exact div_parts _ _
  by_cases h : i < l.length / 30
  · rw [List.getElem?_append_left (by rw [gotsL_len]; exact h)]
    simp only [gotsL]
    rw [List.getElem?_map, List.getElem?_map, List.getElem?_range (by omega), List.getElem?_range h]
    simp only [Option.map_some]
    congr 2
    rw [List.drop_append_of_le_length (by omega), List.take_append_of_le_length (by rw [List.length_drop]; omega)]
  · rw [List.getElem?_append_right (by rw [gotsL_len]; omega), gotsL_len]
    by_cases h2 : i < (l ++ s).length / 30
    · simp only [gotsL]
      rw [List.getElem?_map, List.getElem?_map, List.getElem?_range h2, List.getElem?_range (by omega)]
      simp only [Option.map_some]
      congr 3
      have e : 30 * i = 30 * (l.length / 30) + 30 * (i - l.length / 30) := by omega
      rw [e, ← List.drop_drop, List.drop_append_of_le_length (by omega)]
      rfl
    · rw [List.getElem?_eq_none (by rw [gotsL_len]; omega), List.getElem?_eq_none (by rw [gotsL_len]; omega)]
theorem leftL_left (l s : List UInt8) : leftL (l ++ s) = leftL (leftL l ++ s) := by
  have hn : (l ++ s).length / 30 = l.length / 30 + (leftL l ++ s).length / 30 := by
    rw [List.length_append, List.length_append, leftL_len]; exact div_parts _ _
  have e : 30 * ((l ++ s).length / 30) = 30 * (l.length / 30) + 30 * ((leftL l ++ s).length / 30) := by omega
  have h1 : (l ++ s).drop (30 * (l.length / 30)) = leftL l ++ s := by rw [List.drop_append_of_le_length (by omega)]; rfl
  rw [leftL, e, ← List.drop_drop, h1]
  rfl
/-- One more frame of a text. -/
theorem gotsL_cons {l : List UInt8} (h : 30 ≤ l.length) : gotsL l = gotOf (l.take 30) :: gotsL (l.drop 30) ∧ leftL l = leftL (l.drop 30) := by
  have hl : (l.take 30).length = 30 := by rw [List.length_take]; omega
  have e : l = l.take 30 ++ l.drop 30 := (List.take_append_drop 30 l).symm
  have h0 : leftL (l.take 30) = [] := by
    apply List.length_eq_zero_iff.1
    rw [leftL_len, hl]
  have h1 : gotsL (l.take 30) = [gotOf (l.take 30)] := by
    unfold gotsL
    rw [hl]
    simp [List.range_succ, List.take_take]
  constructor
  · have h2 := gotsL_append (l.take 30) (l.drop 30)
    rw [← e, h0, List.nil_append, h1] at h2
    rw [h2]; rfl
  · have h2 := leftL_left (l.take 30) (l.drop 30)
    rw [← e, h0, List.nil_append] at h2
    exact h2
theorem gotsL_short {l : List UInt8} (h : l.length < 30) : gotsL l = [] ∧ leftL l = l := by
  have e : l.length / 30 = 0 := Nat.div_eq_of_lt h
  exact ⟨by unfold gotsL; rw [e]; rfl, by unfold leftL; rw [e]; rfl⟩
end Go.Proofs.YthngmmhoakegeaaDoor
