/- The document's intake: what Drain computes. -/
import Derived.Test.YthngmmhoakegeaaDoorMIntC
import Derived.OwnWalk
set_option linter.unusedSimpArgs false
set_option linter.unusedVariables false
namespace Go.Proofs.YthngmmhoakegeaaDoor
open Go.RowKit

theorem infoBool : (Tryd.prog.info? 4).map (fun i => (i.zero, i.size, i.bytes)) = some (some (.bool false), 1, 1) := by kernel_rfl
theorem owns_obj {w : World} {base : Nat} {e : TypeId} {size : Nat} {v : Value} {n : Nat} {xs : List Value} (h : w.ownsRow base e size v n xs) {g : Nat} (hg : v.ownBlock = some g) : ∃ cs, w.heap[g]? = some (.cells cs e (0, 0)) := by
  rcases h.2 with ⟨rfl, _⟩ | ⟨g', cap, cur, rfl, _, hh, _⟩
  · cases hg
  · cases hg; exact ⟨cur, hh⟩
/-- Two rows of different elements lie in different blocks. -/
theorem owns_apart {w : World} {b1 b2 : Nat} {e1 e2 : TypeId} {s1 s2 : Nat} {v1 v2 : Value} {n1 n2 : Nat} {xs ys : List Value} (h1 : w.ownsRow b1 e1 s1 v1 n1 xs) (h2 : w.ownsRow b2 e2 s2 v2 n2 ys) (he : e1 ≠ e2) : ∀ g, v1.ownBlock = some g → v2.ownBlock ≠ some g := fun g hg hg2 => by
  obtain ⟨c1, k1⟩ := owns_obj h1 hg
  obtain ⟨c2, k2⟩ := owns_obj h2 hg2
  rw [k1] at k2
  simp at k2
  exact he k2.2
/-- A flag set. -/
theorem own_flag {w : World} {base : Nat} {e : TypeId} {g n cap : Nat} {bs : List Bool} {j : Nat} (h : w.ownsRow base e 1 (.slice (some ⟨g, 0, none⟩) n cap) n (bs.map Value.bool)) : (w.setCell ⟨g, j, none⟩ (.bool true)).ownsRow base e 1 (.slice (some ⟨g, 0, none⟩) n cap) n ((bs.set j true).map Value.bool) := by
  rcases h.2 with ⟨e0, _⟩ | ⟨g', cap', cur, e0, hb, hg, hn, hm, hs, ht⟩
  · cases e0
  · obtain ⟨rfl, rfl⟩ : g = g' ∧ cap = cap' := by cases e0; exact ⟨rfl, rfl⟩
    have h0 := heap_setCell_same w g j _ _ (.bool true) hg
    refine ⟨by simpa using h.1, .inr ⟨g, cap, _, rfl, hb, h0, hn, hm, by simpa using hs, ?_⟩⟩
    rw [Array.toList_setIfInBounds, List.take_set, ht, List.map_set]
/-- What the first loops leave. -/
structure DrI (w : World) (L : List Ask) (gv u : Value) (os : List Ask) (bs : List Bool) (wr : World) : Prop where
  out : wr.ownsRow w.heap.size 30 8 u os.length (flat Ask.cells os)
  gone : wr.ownsRow w.heap.size 4 1 gv L.length (bs.map Value.bool)
  ex : Ex w wr
section
variable {w wr w' : World} {L os : List Ask} {gv u : Value} {bs : List Bool}
theorem DrI.later (h : DrI w L gv u os bs wr) (hx : Ex wr w') : DrI w L gv u os bs w' := ⟨ownsRow_block h.out fun g hg => hx.below.block g (h.out.lt g hg).2, ownsRow_block h.gone fun g hg => hx.below.block g (h.gone.lt g hg).2, h.ex.trans hx⟩
theorem DrI.more (h : DrI w L gv u os bs wr) {x : Ask} {v1 : Value} {w3 : World} {o : Obj} (hr : w3.ownsRow w.heap.size 30 8 v1 (os.length + 1) (flat Ask.cells os ++ x.cells)) (hg : (wr.alloc o).grownBy w3 u.ownBlock) : DrI w L gv v1 (os ++ [x]) bs w3 := by
  have hs := h.ex.below.size
  refine ⟨by rw [List.length_append, flat_append, flat_one]; exact hr, ownsRow_block (h.gone.alloc o) fun g hgb => hg.block g (by have := (h.gone.lt g hgb).2; simp; omega) (fun e => owns_apart h.out h.gone (by decide) g e.symm hgb), Ex.of (Below.grown (h.ex.alloc o).below hg (by simp; omega) (fun b hb => (h.out.lt b hb).1))⟩
theorem DrI.flag {g cap j : Nat} (h : DrI w L (.slice (some ⟨g, 0, none⟩) L.length cap) u os bs wr) : DrI w L (.slice (some ⟨g, 0, none⟩) L.length cap) u os (bs.set j true) (wr.setCell ⟨g, j, none⟩ (.bool true)) := by
  have hg := h.gone.lt g rfl
  exact ⟨ownsRow_block h.out fun b hb => Below.heap_setCell _ ⟨g, j, none⟩ _ b (by
    have := owns_apart h.out h.gone (by decide) b hb
    intro e; exact this (by rw [e]; rfl)), own_flag h.gone, Ex.of (h.ex.below.setCell (p := ⟨g, j, none⟩) hg.1 _)⟩
end
theorem AskC.set {w : World} {ao : Option Addr} {L : List Ask} (h : AskC w ao L) {q : Nat} (hq : ∀ a, ao = some a → a.block ≠ q) (j : Nat) (v : Value) : AskC (w.setCell ⟨q, j, none⟩ v) ao L := fun h0 => by
  obtain ⟨b, off, rfl, hb, hc⟩ := h h0
  have hne := hq _ rfl
  refine ⟨b, off, rfl, by simpa [World.setCell] using hb, fun k hk m hm => ?_⟩
  rw [World.cell?_of_block (w := w) (Below.heap_setCell w ⟨q, j, none⟩ v b (by simpa using hne))]
  exact hc k hk m hm
end Go.Proofs.YthngmmhoakegeaaDoor
