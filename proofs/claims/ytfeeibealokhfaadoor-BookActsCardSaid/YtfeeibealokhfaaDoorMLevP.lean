/- Plain facts: the document's levels, price by price. -/
import Derived.Test.YtfeeibealokhfaaDoorBLev
set_option linter.unusedSimpArgs false
set_option linter.unusedVariables false
namespace Go.Proofs.YtfeeibealokhfaaDoor
open Go.RowKit

/-- The price that comes at round n. -/
def seqP (side : Int) (n : Nat) : Int := if side = 0 then 1000 - (n : Int) else (n : Int) + 1
/-- The levels of the first n prices. -/
def lvsTo (side : Int) (l : List Lot) (n : Nat) : List Lvl := (((List.range n).map (seqP side)).filter fun p => decide (0 < manyP side p l)).map (lvlP side l)
theorem lvsTo_zero (side : Int) (l : List Lot) : lvsTo side l 0 = [] := rfl
theorem lvsTo_succ (side : Int) (l : List Lot) (n : Nat) : lvsTo side l (n + 1) = lvsTo side l n ++ (if 0 < manyP side (seqP side n) l then [lvlP side l (seqP side n)] else []) := by
  unfold lvsTo
  rw [List.range_succ, List.map_append, List.filter_append, List.map_append]
  congr 1
  by_cases h : 0 < manyP side (seqP side n) l
  · rw [if_pos h]
    simp [h]
  · rw [if_neg h]
    simp; omega
theorem lvsTo_len (side : Int) (l : List Lot) (n : Nat) : (lvsTo side l n).length ≤ n := by
  unfold lvsTo
  rw [List.length_map]
  refine Nat.le_trans (List.length_filter_le _ _) ?_
  simp
theorem seq_rev (N : Nat) : ((List.range N).map fun k : Nat => (k : Int) + 1).reverse = (List.range N).map fun j : Nat => (N : Int) - j := by
  apply List.ext_getElem
  · simp
  · intro n h1 h2
    rw [List.getElem_reverse]
    simp only [List.getElem_map, List.getElem_range, List.length_map, List.length_range]
    have : n < N := by simpa using h1
    omega
theorem lvsTo_gen (N : Nat) (side : Int) (l : List Lot) (f : Nat → Int) (hf : ∀ n, f n = if side = 0 then (N : Int) - n else (n : Int) + 1) :
    (((List.range N).map f).filter fun p => decide (0 < manyP side p l)) = if side = 0 then (((List.range N).map fun k : Nat => (k : Int) + 1).filter fun p => decide (0 < manyP side p l)).reverse else ((List.range N).map fun k : Nat => (k : Int) + 1).filter fun p => decide (0 < manyP side p l) := by
  by_cases h : side = 0
  · rw [if_pos h, ← List.filter_reverse, seq_rev]
    congr 1
    refine List.map_congr_left fun n _ => ?_
    rw [hf, if_pos h]
  · rw [if_neg h]
    congr 1
    refine List.map_congr_left fun n _ => ?_
    rw [hf, if_neg h]
theorem lvsTo_all (side : Int) (l : List Lot) : lvsTo side l 1000 = levelsB side l := congrArg (List.map (lvlP side l)) (lvsTo_gen 1000 side l (seqP side) (fun _ => rfl))
/-- A level's block, filled so far. -/
structure LBox (side p : Int) (l : List Lot) (j : Nat) (wr : World) (e : TypeId) (wz : World) : Prop where
  box : wz.heap[wr.heap.size]? = some (.cells #[.int .i64 p, .int .i64 (qtyP side p (l.take j)), .int .i64 (manyP side p (l.take j) : Int)] e (0, 0))
  below : Below wr.heap.size wr wz
section
variable {side p : Int} {l : List Lot} {j : Nat} {wr wz : World} {e : TypeId}
theorem LBox.start (side p : Int) (l : List Lot) (wr : World) (e : TypeId) : LBox side p l 0 wr e (wr.alloc (.cells #[.int .i64 p, .int .i64 0, .int .i64 0] e)) := ⟨by rw [alloc_top rfl]; rfl, ((Ex.refl wr).alloc _).below⟩
theorem LBox.skip (h : LBox side p l j wr e wz) (hj : j < l.length) (hn : atP side p l[j] = false) {w' : World} (hx : Ex wz w') : LBox side p l (j + 1) wr e w' := by
  have hl := (Array.getElem?_eq_some_iff.1 h.box).1
  refine ⟨?_, h.below.trans (hx.below.mono h.below.size)⟩
  rw [qtyP_snoc hj, manyP_snoc hj, hn, hx.below.block _ hl, h.box]
  simp
theorem LBox.step (h : LBox side p l j wr e wz) (hj : j < l.length) (hn : atP side p l[j] = true) :
    LBox side p l (j + 1) wr e ((wz.setCell ⟨wr.heap.size, 1, none⟩ (.int .i64 (qtyP side p (l.take j) + l[j].qty))).setCell ⟨wr.heap.size, 2, none⟩ (.int .i64 ((manyP side p (l.take j) : Int) + 1))) := by
  have h1 := heap_setCell_same wz wr.heap.size 1 _ _ (.int .i64 (qtyP side p (l.take j) + l[j].qty)) h.box
  have h2 := heap_setCell_same (wz.setCell ⟨wr.heap.size, 1, none⟩ (.int .i64 (qtyP side p (l.take j) + l[j].qty))) wr.heap.size 2 _ _ (.int .i64 ((manyP side p (l.take j) : Int) + 1)) h1
  refine ⟨?_, (h.below.setCell (p := ⟨wr.heap.size, 1, none⟩) (Nat.le_refl _) _).setCell (p := ⟨wr.heap.size, 2, none⟩) (Nat.le_refl _) _⟩
  rw [h2, qtyP_snoc hj, manyP_snoc hj, hn]
  simp
theorem LBox.ex (h : LBox side p l j wr e wz) {w' : World} (hx : Ex wz w') : LBox side p l j wr e w' := ⟨(hx.below.block _ (Array.getElem?_eq_some_iff.1 h.box).1).trans h.box, h.below.trans (hx.below.mono h.below.size)⟩
end
end Go.Proofs.YtfeeibealokhfaaDoor
