/- A reader of a stream: one cell that turns, beside new memory. -/
import Derived.Test.YthngmmhoakegeaaDoorGotsP
import Derived.Test.YthngmmhoakegeaaDoorDecAny
import Derived.Laws.AppendOwn
set_option linter.unusedSimpArgs false
set_option linter.unusedVariables false
namespace Go.Proofs.YthngmmhoakegeaaDoor
open Go.RowKit

def ReaderAt (w : World) (rb : Nat) (l : List UInt8) : Prop := w.heap[rb]? = some (.cells #[.string ⟨l.toArray⟩] 99 (0, 0))
theorem ReaderAt.lt {w : World} {rb : Nat} {l : List UInt8} (h : ReaderAt w rb l) : rb < w.heap.size := (Array.getElem?_eq_some_iff.1 h).1
theorem ReaderAt.cell {w : World} {rb : Nat} {l : List UInt8} (h : ReaderAt w rb l) : w.cell? ⟨rb, 0, none⟩ = some (.string ⟨l.toArray⟩) := by simp [World.cell?, show w.heap[rb]? = _ from h]
theorem ReaderAt.frozen {w : World} {rb : Nat} {l : List UInt8} (h : ReaderAt w rb l) : w.frozen? ⟨rb, 0, none⟩ = false := by simp [World.frozen?, show w.heap[rb]? = _ from h]
theorem ReaderAt.set {w : World} {rb : Nat} {l : List UInt8} (h : ReaderAt w rb l) (t : List UInt8) : ReaderAt (w.setCell ⟨rb, 0, none⟩ (.string ⟨t.toArray⟩)) rb t := by
  have := heap_setCell_same w rb 0 _ _ (.string ⟨t.toArray⟩) h
  simpa [ReaderAt] using this
theorem ReaderAt.ex {w w' : World} {rb : Nat} {l : List UInt8} (h : ReaderAt w rb l) (hx : Ex w w') : ReaderAt w' rb l := (hx.below.block rb h.lt).trans h
/-- What a world is where the reader's cell holds a text, and memory is new. -/
def Fed (w : World) (rb : Nat) (l : List UInt8) (w' : World) : Prop := Ex (w.setCell ⟨rb, 0, none⟩ (.string ⟨l.toArray⟩)) w'
theorem Fed.step {w w1 w2 : World} {rb : Nat} {l : List UInt8} (h : Fed w rb l w1) (hx : Ex w1 w2) : Fed w rb l w2 := Ex.trans h hx
theorem Fed.reader {w w' : World} {rb : Nat} {r l : List UInt8} (h : Fed w rb l w') (hr : ReaderAt w rb r) : ReaderAt w' rb l := (hr.set l).ex h
theorem Fed.size {w w' : World} {rb : Nat} {l : List UInt8} (h : Fed w rb l w') : w.heap.size ≤ w'.heap.size := by
  have := (show Ex _ w' from h).below.size
  simpa [go_sem] using this
theorem Fed.set {w w1 : World} {rb : Nat} {r l : List UInt8} (h : Fed w rb l w1) (hr : ReaderAt w rb r) (t : List UInt8) : Fed w rb t (w1.setCell ⟨rb, 0, none⟩ (.string ⟨t.toArray⟩)) := by
  have hb := (show Ex _ w1 from h).below
  have h1 := h.reader hr
  refine Ex.of ⟨?_, ?_, ?_, ?_, fun k hk => ?_⟩
  · exact hb.os
  · exact hb.tape
  · exact hb.output
  · simpa [go_sem] using hb.size
  · by_cases e : k = rb
    · subst e
      exact (h1.set t).trans (hr.set t).symm
    · rw [heap_setCell_other _ ⟨rb, 0, none⟩ k _ e, heap_setCell_other _ ⟨rb, 0, none⟩ k _ e]
      have := hb.block k (by simpa [go_sem] using hk)
      rw [this, heap_setCell_other _ ⟨rb, 0, none⟩ k _ e]
theorem Fed.below {w0 w w' : World} {rb : Nat} {l : List UInt8} (h : Fed w rb l w') (h0 : Below w0.heap.size w0 w) (hrb : w0.heap.size ≤ rb) : Below w0.heap.size w0 w' :=
  h0.trans ((Below.setCell (Below.refl _ _) hrb _).trans ((show Ex _ w' from h).below.mono (by simpa [go_sem] using h0.size)))
abbrev Got.cells (g : Got) : List Value := g.ask.cells ++ [.int .i64 (g.code : Int)]
theorem code_same (c : Nat) (E : Nat → Addr) (w : World) (hr : CodeReady E w) (h : c ≤ 12) : Calls Tryd.prog 30 #[errV E c] w fun e w' => e = .returned (.tuple #[.int .i64 (c : Int), .int .i64 (-1)]) ∧ Ex w w' := by
  by_cases h0 : c = 0
  · subst h0
    rw [errV_zero]
    exact (code_nil w).mono fun e w' ⟨h1, h2⟩ => ⟨h1, h2 ▸ Ex.refl _⟩
  · rw [errV_pos _ _ h0]
    exact (code_err c E w hr (by omega) h).mono fun e w' ⟨h1, h2⟩ => ⟨h1, h2⟩
theorem bytes_size (l : List UInt8) : (⟨l.toArray⟩ : ByteArray).size = l.length := by simp [ByteArray.size]
theorem bytes_head (l : List UInt8) (k : Nat) : (⟨l.toArray⟩ : ByteArray).extract 0 k = ⟨(l.take k).toArray⟩ := by
  apply ByteArray.ext; apply Array.toList_inj.1; rw [extract_list]; simp
theorem bytes_tail (l : List UInt8) (k n : Nat) (h : l.length ≤ n) : (⟨l.toArray⟩ : ByteArray).extract k n = ⟨(l.drop k).toArray⟩ := by
  apply ByteArray.ext; apply Array.toList_inj.1; rw [extract_list]
  show (l.toArray.toList.drop k).take (n - k) = _
  rw [List.toList_toArray, List.take_of_length_le (by rw [List.length_drop]; omega)]
theorem bytes_add (a b : List UInt8) : (⟨a.toArray⟩ : ByteArray) ++ ⟨b.toArray⟩ = ⟨(a ++ b).toArray⟩ := by
  apply ByteArray.ext; simp [ByteArray.data_append]
end Go.Proofs.YthngmmhoakegeaaDoor
