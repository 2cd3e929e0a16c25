/- Plain facts on worlds: a world with new blocks laid behind it and some draws made ('ext'), as the walk reads it. No condition. -/
import Derived.WalkKit
import Derived.Lib.Hide
import Derived.BigQuiet
import Derived.Deep.QuietTactic
import Derived.RegionTactic
import Derived.Handy
set_option linter.unusedSimpArgs false
set_option linter.unusedVariables false
namespace Go.Proofs.YtfeeibealokhfaaDoor
open Go.RowKit

theorem ret_bool {a b : Bool} (h : a = b) : Ending.returned (.bool a) = .returned (.bool b) := by rw [h]
theorem ret_int {k : IntKind} {a b : Int} (h : a = b) : Ending.returned (.int k a) = .returned (.int k b) := by rw [h]

/-- w with the blocks l laid behind it and the count of draws d. -/
def ext (w : World) (l : List Obj) (d : Nat) : World := { w with heap := w.heap ++ l.toArray, drawn := d }
/-- What is asked of a block that ext laid: not looked into. -/
def farCell (w : World) (a : Addr) : Option Value := w.cell? a
def farFrozen (w : World) (a : Addr) : Bool := w.frozen? a
def farSet (w : World) (a : Addr) (v : Value) : World := w.setCell a v

section
variable (w : World) (l : List Obj) (d n i : Nat)

/-- A choice by block number; simp reckons the size first, and only then looks at a branch. -/
def pickEq {α : Type} (n m : Nat) (a b : α) : α := if n = m then a else b
def pickLt {α : Type} (n m : Nat) (a b : α) : α := if n < m then a else b
@[congr] theorem pickEq_congr {α : Type} {n m m' : Nat} (a b : α) (h : m = m') : pickEq n m a b = pickEq n m' a b := by rw [h]
@[congr] theorem pickLt_congr {α : Type} {n m m' : Nat} (a b : α) (h : m = m') : pickLt n m a b = pickLt n m' a b := by rw [h]
@[go_sem] theorem pickEq_eq {α : Type} (n m : Nat) (a b : α) : pickEq n m a b = if n = m then a else b := rfl
@[go_sem] theorem pickLt_eq {α : Type} (n m : Nat) (a b : α) : pickLt n m a b = if n < m then a else b := rfl

@[go_sem] theorem ext_size : (ext w l d).heap.size = w.heap.size + l.length := by simp [ext]
theorem ext_heap_lt (k : Nat) (h : k < w.heap.size) : (ext w l d).heap[k]? = w.heap[k]? := by
  simp only [ext]
  rw [Array.getElem?_append_left h]
@[go_sem] theorem ext_cell : (ext w l d).cell? ⟨n, i, none⟩ = pickLt n w.heap.size (w.cell? ⟨n, i, none⟩) (farCell (ext w l d) ⟨n, i, none⟩) := by
  unfold pickLt
  split
  · rename_i h; exact World.cell?_of_block (w := w) (ext_heap_lt w l d n h)
  · rfl
@[go_sem] theorem ext_frozen : (ext w l d).frozen? ⟨n, i, none⟩ = pickLt n w.heap.size (w.frozen? ⟨n, i, none⟩) (farFrozen (ext w l d) ⟨n, i, none⟩) := by
  unfold pickLt
  split
  · rename_i h; exact World.frozen?_of_block (w := w) (ext_heap_lt w l d n h)
  · rfl
theorem ext_set_lt (v : Value) (h : n < w.heap.size) : (ext w l d).setCell ⟨n, i, none⟩ v = ext (w.setCell ⟨n, i, none⟩ v) l d := by
  simp only [ext, World.setCell]
  congr 1
  apply Array.ext_getElem?
  intro k
  simp only [Array.getElem?_modify]
  by_cases hk : k < w.heap.size
  · rw [Array.getElem?_append_left hk, Array.getElem?_append_left (by simpa using hk), Array.getElem?_modify]
  · rw [Array.getElem?_append_right (by omega), Array.getElem?_append_right (by simp; omega)]
    rw [if_neg (by omega)]
    simp
@[go_sem] theorem ext_set (v : Value) : (ext w l d).setCell ⟨n, i, none⟩ v = pickLt n w.heap.size (ext (w.setCell ⟨n, i, none⟩ v) l d) (farSet (ext w l d) ⟨n, i, none⟩ v) := by
  unfold pickLt
  split
  · rename_i h; exact ext_set_lt w l d n i v h
  · rfl
@[go_sem] theorem ext_drew : (ext w l d).drew = ext w l (d + 1) := rfl
@[go_sem] theorem ext_drawn : (ext w l d).drawn = d := rfl
@[go_sem] theorem ext_tape : (ext w l d).tape = w.tape := rfl
@[go_sem] theorem ext_ext (l' : List Obj) (d' : Nat) : ext (ext w l d) l' d' = ext w (l ++ l') d' := by
  simp [ext]

@[go_sem high] theorem alloc_cell (c : Array Value) (t : TypeId) : (w.alloc (.cells c t)).cell? ⟨n, i, none⟩ = pickEq n w.heap.size (c[i]?) (w.cell? ⟨n, i, none⟩) := by
  unfold pickEq
  split
  · rename_i h; exact World.cell?_alloc_at c t n i h
  · rename_i h; exact World.cell?_alloc_old w _ ⟨n, i, none⟩ h
@[go_sem high] theorem alloc_frozen (c : Array Value) (t : TypeId) : (w.alloc (.cells c t)).frozen? ⟨n, i, none⟩ = pickEq n w.heap.size false (w.frozen? ⟨n, i, none⟩) := by
  unfold pickEq
  split
  · rename_i h; exact World.frozen?_alloc_at c t n i h
  · rename_i h; exact World.frozen?_alloc_old w _ ⟨n, i, none⟩ h
@[go_sem high] theorem alloc_set (c : Array Value) (t : TypeId) (v : Value) : (w.alloc (.cells c t)).setCell ⟨n, i, none⟩ v =
    pickEq n w.heap.size (w.alloc (.cells (c.setIfInBounds i v) t)) (pickLt n w.heap.size ((w.setCell ⟨n, i, none⟩ v).alloc (.cells c t)) (farSet (w.alloc (.cells c t)) ⟨n, i, none⟩ v)) := by
  unfold pickEq pickLt
  split
  · rename_i h; exact World.setCell_alloc_at c t n i v h
  · split
    · rename_i h; exact World.setCell_alloc_past _ n i v h
    · rfl
end

/-- What a call leaves that only makes new blocks and draws. -/
theorem ext_of_below {w w' : World} (h : Below w.heap.size w w') : ∃ l d, w' = ext w l d := by
  refine ⟨w'.heap.toList.drop w.heap.size, w'.drawn, ?_⟩
  obtain ⟨h1, h2, h3, h4, h5⟩ := h
  cases w'
  simp only [ext] at *
  subst h1 h2 h3
  congr 1
  apply Array.ext_getElem?
  intro k
  by_cases hk : k < w.heap.size
  · rw [Array.getElem?_append_left hk]; exact h5 k hk
  · rw [Array.getElem?_append_right (by omega)]
    simp
    congr 1
    omega

/-- Only new blocks, and draws. -/
def Ex (w w' : World) : Prop := ∃ l d, w' = ext w l d
theorem Ex.of {w w' : World} (h : Below w.heap.size w w') : Ex w w' := ext_of_below h
theorem Ex.below {w w' : World} (h : Ex w w') : Below w.heap.size w w' := by
  obtain ⟨l, d, rfl⟩ := h
  exact ⟨rfl, rfl, rfl, by simp [ext], fun k hk => ext_heap_lt _ _ _ k hk⟩

theorem Ex.refl (w : World) : Ex w w := Ex.of (Below.refl _ _)
theorem Ex.alloc {w w' : World} (h : Ex w w') (o : Obj) : Ex w (w'.alloc o) := Ex.of (Below.alloc h.below h.below.size o)
theorem Ex.drew {w w' : World} (h : Ex w w') : Ex w w'.drew := Ex.of h.below.drew
theorem Ex.trans {w w' w'' : World} (h : Ex w w') (k : Ex w' w'') : Ex w w'' := Ex.of (h.below.trans (k.below.mono h.below.size))
theorem Ex.ext {w w' : World} (h : Ex w w') (l : List Obj) (d : Nat) : Ex w (ext w' l d) := h.trans ⟨l, d, rfl⟩

theorem Below.drewN {B : Nat} {a w : World} (h : Below B a w) (n : Nat) : Below B a (w.drewN n) := h.trans ⟨rfl, rfl, rfl, Nat.le_refl _, fun _ _ => rfl⟩
theorem Ex.drewN {w w' : World} (h : Ex w w') (n : Nat) : Ex w (w'.drewN n) := Ex.of (Below.drewN h.below n)
@[go_sem] theorem ext_drewN (w : World) (l : List Obj) (d n : Nat) : (ext w l d).drewN n = ext w l (d + n) := rfl

theorem Below.ext {B : Nat} {a w : World} (h : Below B a w) (hB : B ≤ w.heap.size) (l : List Obj) (d : Nat) : Below B a (ext w l d) :=
  h.trans ⟨rfl, rfl, rfl, by simp [Proofs.YtfeeibealokhfaaDoor.ext], fun k hk => ext_heap_lt _ _ _ k (by omega)⟩
end Go.Proofs.YtfeeibealokhfaaDoor
