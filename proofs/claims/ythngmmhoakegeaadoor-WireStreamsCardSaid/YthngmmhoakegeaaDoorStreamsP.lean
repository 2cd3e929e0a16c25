/- What the walk of WireStreams leans on. -/
import Derived.Test.YthngmmhoakegeaaDoorGots
set_option linter.unusedSimpArgs false
set_option linter.unusedVariables false
namespace Go.Proofs.YthngmmhoakegeaaDoor
open Go.RowKit

/-- A slice of whole numbers, whatever they are. -/
def CutsAt (w : World) (ao : Option Addr) (len : Nat) : Prop := 0 < len → ∃ b off, ao = some ⟨b, off, none⟩ ∧ b < w.heap.size ∧ ∀ k, k < len → ∃ v : Int, w.cell? ⟨b, off + k, none⟩ = some (.int .i64 v)
theorem CutsAt.below {w w' : World} {ao : Option Addr} {len : Nat} (h : CutsAt w ao len) (hb : Below w.heap.size w w') : CutsAt w' ao len := fun h0 => by
  obtain ⟨b, off, e, hl, hc⟩ := h h0
  refine ⟨b, off, e, Nat.lt_of_lt_of_le hl hb.size, fun k hk => ?_⟩
  obtain ⟨v, hv⟩ := hc k hk
  exact ⟨v, (hb.cell (p := ⟨b, off + k, none⟩) hl).trans hv⟩
/-- But for the reader's block a world that was fed is as it was. -/
theorem Fed.grownBy {w w' : World} {rb : Nat} {l : List UInt8} (h : Fed w rb l w') : w.grownBy w' (some rb) := by
  have hb := (show Ex _ w' from h).below
  refine ⟨hb.os, hb.tape, hb.output, h.size, fun k hk hne => ?_⟩
  have h1 := hb.block k (by simpa [go_sem] using hk)
  rw [h1, heap_setCell_other _ ⟨rb, 0, none⟩ k _ (fun e => hne (by simp [e]))]
theorem row_fed {w w' : World} {rb base : Nat} {e : TypeId} {size : Nat} {l : List UInt8} {v : Value} {n : Nat} {xs : List Value} (h : w.ownsRow base e size v n xs) (hf : Fed w rb l w') (hb : rb < base) : w'.ownsRow base e size v n xs :=
  h.kept hf.grownBy (owns_bound h hb)
theorem reader_fresh (w : World) : ReaderAt (w.alloc (.cells #[.string ⟨#[]⟩] 99)) w.heap.size [] := alloc_top rfl
/-- One part more of a stream. -/
theorem gots_part (l : List UInt8) (m n : Nat) : gotsL (l.take (m + n)) = gotsL (l.take m) ++ gotsL (leftL (l.take m) ++ (l.drop m).take n) ∧ leftL (l.take (m + n)) = leftL (leftL (l.take m) ++ (l.drop m).take n) := by
  have e : l.take (m + n) = l.take m ++ (l.drop m).take n := List.take_add
  rw [e]
  exact ⟨gotsL_append _ _, leftL_left _ _⟩
theorem gots_all (l : List UInt8) (m : Nat) : gotsL l = gotsL (l.take m) ++ gotsL (leftL (l.take m) ++ l.drop m) ∧ leftL l = leftL (leftL (l.take m) ++ l.drop m) := by
  have h1 := gotsL_append (l.take m) (l.drop m)
  have h2 := leftL_left (l.take m) (l.drop m)
  rw [List.take_append_drop] at h1 h2
  exact ⟨h1, h2⟩
theorem part_len (l : List UInt8) (m : Nat) (h : l.length ≤ 400) (n : Nat) : (leftL (l.take m)).length + ((l.drop m).take n).length ≤ 1000 := by
  rw [leftL_len, List.length_take, List.length_take, List.length_drop]; omega
theorem gots_at {l : List UInt8} {i : Nat} (h : i < l.length / 30) : (gotsL l)[i]? = some (gotOf ((l.drop (30 * i)).take 30)) := by
  simp only [gotsL]
  rw [List.getElem?_map, List.getElem?_range h]; rfl
end Go.Proofs.YthngmmhoakegeaaDoor
