/- What Levels of package book computes. -/
import Derived.Test.YtfeeibealokhfaaDoorBSort
import Derived.Test.YtfeeibealokhfaaDoorBAny
set_option linter.unusedSimpArgs false
set_option linter.unusedVariables false
namespace Go.Proofs.YtfeeibealokhfaaDoor
open Go.RowKit

theorem lvl_len (x : Lvl) : x.cells.length = 3 := rfl
theorem lvl_one (l : List Lvl) : ∀ u ∈ flat Lvl.cells l, u.oneCell' = true := by
  intro u hu
  obtain ⟨x, _, hx⟩ := List.mem_flatMap.1 hu
  simp only [Lvl.cells, List.mem_cons, List.not_mem_nil, or_false] at hx
  rcases hx with rfl | rfl | rfl <;> rfl
theorem infoLvl : (Tryd.prog.info? 92).map (fun i => (i.zero, i.size, i.bytes)) = some (some (.agg #[.int .i64 0, .int .i64 0, .int .i64 0]), 3, 24) := by kernel_rfl
theorem ownsRow_base {w : World} {b b' : Nat} {e : TypeId} {size : Nat} {v : Value} {n : Nat} {xs : List Value} (h : w.ownsRow b e size v n xs) (hb : b' ≤ b) : w.ownsRow b' e size v n xs := by
  obtain ⟨h1, h2 | ⟨g, cap, cur, h2, h3, h4⟩⟩ := h
  · exact ⟨h1, .inl h2⟩
  · exact ⟨h1, .inr ⟨g, cap, cur, h2, by omega, h4⟩⟩
/-- What k rounds of the first loop leave. -/
structure LInv (side : Int) (l : List Lot) (w : World) (k : Nat) (wr : World) : Prop where
  cell : wr.cell? ⟨w.heap.size, 0, none⟩ = some (.int .i64 side)
  map : LMapAt wr (w.heap.size + 1) k (lvF side (l.take k))
  below : Below w.heap.size w wr
section
variable {side : Int} {l : List Lot} {w wr w' : World} {k : Nat}
theorem lvF_nil (side : Int) : lvF side [] = fun _ => none := by funext p; simp [lvF, manyP]
theorem LInv.start (side : Int) (l : List Lot) (w : World) : LInv side l w 0 ((w.alloc (.cells #[.int .i64 side] 3)).alloc (.map #[] 0)) where
  cell := by simp [go_sem]
  map := by
    rw [List.take_zero, lvF_nil]
    have h := LMapAt.made (w.alloc (.cells #[.int .i64 side] 3))
    simpa using h
  below := Ex.below (by repeat (first | exact Ex.refl _ | refine Ex.alloc ?_ _ | refine Ex.ext ?_ _ _ | refine Ex.drew ?_ | refine Ex.drewN ?_ _))
theorem LInv.lt (h : LInv side l w k wr) : w.heap.size + 1 < wr.heap.size := h.map.lt
theorem LInv.skip (h : LInv side l w k wr) (hk : k < l.length) (hm : ¬ l[k].side = side) (hx : Ex wr w') : LInv side l w (k + 1) w' where
  cell := (hx.below.cell (p := ⟨w.heap.size, 0, none⟩) (by have := h.lt; show w.heap.size < _; omega)).trans h.cell
  map := by rw [lvF_skip hk hm]; exact (h.map.kept (row := none) (belowGrownBy hx.below) (by simp)).mono (by omega)
  below := h.below.trans (hx.below.mono h.below.size)
theorem LInv.step (h : LInv side l w k wr) (hk : k < l.length) (hm : l[k].side = side) {o1 o2 : Obj}
    (hw : LMapAt w' (w.heap.size + 1) (k + 1) (fun q => if q = l[k].price then some ⟨l[k].price, qtyP side l[k].price (l.take k) + l[k].qty, (manyP side l[k].price (l.take k) : Int) + 1⟩ else lvF side (l.take k) q))
    (hg : ((wr.alloc o1).alloc o2).grownBy w' (some (w.heap.size + 1))) : LInv side l w (k + 1) w' where
  cell := by
    have h1 := h.lt
    rw [World.cell?_of_block (w := (wr.alloc o1).alloc o2) (w' := w') (hg.block _ (by simp; omega) (by simp))]
    have hx : Ex wr ((wr.alloc o1).alloc o2) := (by repeat (first | exact Ex.refl _ | refine Ex.alloc ?_ _ | refine Ex.ext ?_ _ _ | refine Ex.drew ?_ | refine Ex.drewN ?_ _))
    exact (hx.below.cell (p := ⟨w.heap.size, 0, none⟩) (by show w.heap.size < _; omega)).trans h.cell
  map := by rw [lvF_step hk hm]; exact hw
  below := by
    have h1 := h.lt
    have hx : Ex wr ((wr.alloc o1).alloc o2) := (by repeat (first | exact Ex.refl _ | refine Ex.alloc ?_ _ | refine Ex.ext ?_ _ _ | refine Ex.drew ?_ | refine Ex.drewN ?_ _))
    exact Below.grown (h.below.trans (hx.below.mono h.below.size)) hg (by simp; omega) (fun b hb => by cases hb; omega)
end
/-- The second loop: what has come out. -/
structure LOut (side : Int) (l : List Lot) (w : World) (r : Nat) (qs : List Int) (cnt : Nat) (u : Value) (wx : World) : Prop where
  cell : wx.cell? ⟨w.heap.size, 0, none⟩ = some (.int .i64 side)
  rng : LRange wx (w.heap.size + 1) r l.length (lvF side l) qs cnt
  row : wx.ownsRow (r + 1) 92 3 u qs.length (flat Lvl.cells (qs.map (lvlP side l)))
  below : Below w.heap.size w wx
  rlt : w.heap.size + 1 < r
section
variable {side : Int} {l : List Lot} {w wr wx w' : World} {r cnt : Nat} {qs : List Int} {u : Value}
theorem LOut.start (h : LInv side l w l.length wr) (hr : LRange w' (w.heap.size + 1) wr.heap.size l.length (lvF side l) [] cnt) (hg : wr.grownBy w' none) : LOut side l w wr.heap.size [] cnt (.slice none 0 0) w' where
  cell := by
    have h1 := h.lt
    rw [World.cell?_of_block (w := wr) (w' := w') (hg.block _ (by show w.heap.size < _; omega) (by simp))]
    exact h.cell
  rng := hr
  row := World.ownsRow_nil _ _ _ _
  below := Below.grown h.below hg h.below.size (fun b hb => by cases hb)
  rlt := h.lt
theorem LOut.nodup (h : LOut side l w r qs cnt u wx) : qs.Nodup := by obtain ⟨_, ⟨D, left, _, _, _, h4, _⟩, _⟩ := h; exact h4
theorem LOut.len (h : LOut side l w r qs cnt u wx) (hok : ∀ x ∈ l, x.ok = true) : qs.length ≤ l.length := by
  obtain ⟨_, ⟨D, left, _, _, _, h4, h5⟩, _⟩ := h
  have h6 : ∀ p ∈ qs, p ∈ psP side l := fun p hp => (mem_psP hok).2 (lvF_some.1 (h5 p hp))
  have h7 := List.Nodup.length_le_of_subset h4 (fun p hp => h6 p hp)
  have h8 := levels_len side l hok
  unfold levelsB at h8
  rw [List.length_map] at h8
  omega
/-- The step of the iterator. -/
theorem LOut.next (h : LOut side l w r qs cnt u wx) (hg : wx.grownBy w' (some r)) : w'.cell? ⟨w.heap.size, 0, none⟩ = some (.int .i64 side) ∧ w'.ownsRow (r + 1) 92 3 u qs.length (flat Lvl.cells (qs.map (lvlP side l))) ∧ Below w.heap.size w w' := by
  have h1 := h.rlt
  have h2 := h.rng.lt
  refine ⟨?_, h.row.kept hg (.inr fun e => ?_), Below.grown h.below hg h.below.size (fun b hb => by cases hb; omega)⟩
  · rw [World.cell?_of_block (w := wx) (w' := w') (hg.block _ (by show w.heap.size < _; omega) (by simp; omega))]
    exact h.cell
  · have := (h.row.lt _ e).1; omega
theorem LOut.step (h : LOut side l w r qs cnt u wx) {p : Int} {c : Lvl} {w1 w3 : World} {cnt1 : Nat} {o1 o2 : Obj} {v : Value} (hg : wx.grownBy w1 (some r)) (hF : lvF side l p = some c) (hr : LRange w1 (w.heap.size + 1) r l.length (lvF side l) (qs ++ [p]) cnt1)
    (hrow : w3.ownsRow (r + 1) 92 3 v (qs.length + 1) (flat Lvl.cells (qs.map (lvlP side l)) ++ [.int .i64 c.price, .int .i64 c.qty, .int .i64 c.many])) (hg3 : ((w1.alloc o1).alloc o2).grownBy w3 u.ownBlock) : LOut side l w r (qs ++ [p]) cnt1 v w3 := by
  obtain ⟨k1, k2, k3⟩ := h.next hg
  have h1 := h.rlt
  have h2 := hr.lt
  have hne : ∀ b, b ≤ r → some b ≠ u.ownBlock := fun b hb e => by have := (h.row.lt _ e.symm).1; omega
  have hx : Ex w1 ((w1.alloc o1).alloc o2) := (by repeat (first | exact Ex.refl _ | refine Ex.alloc ?_ _ | refine Ex.ext ?_ _ _ | refine Ex.drew ?_ | refine Ex.drewN ?_ _))
  have ec : c = lvlP side l p := by
    unfold lvF at hF
    split at hF
    · cases hF; rfl
    · cases hF
  refine ⟨?_, ((hr.alloc o1).alloc o2).kept hg3 (hne _ (by omega)) (hne _ (by omega)), ?_, Below.grown (k3.trans (hx.below.mono k3.size)) hg3 (by simp; omega) (fun b hb => by have := (h.row.lt b hb).1; omega), h1⟩
  · rw [World.cell?_of_block (w := (w1.alloc o1).alloc o2) (w' := w3) (hg3.block _ (by simp; omega) (hne _ (by show w.heap.size ≤ _; omega)))]
    exact (hx.below.cell (p := ⟨w.heap.size, 0, none⟩) (by show w.heap.size < _; omega)).trans k1
  · have e : flat Lvl.cells ((qs ++ [p]).map (lvlP side l)) = flat Lvl.cells (qs.map (lvlP side l)) ++ [.int .i64 c.price, .int .i64 c.qty, .int .i64 c.many] := by
      rw [List.map_append, ec]; simp [flat, Lvl.cells]
    rw [e, List.length_append]
    exact hrow
theorem srt_ps (hok : ∀ x ∈ l, x.ok = true) (hn : qs.Nodup) (hall : ∀ p, p ∈ qs ↔ (lvF side l p).isSome = true) : srt side qs = psP side l := by
  have hm : ∀ p, p ∈ qs ↔ 0 < manyP side p l := fun p => by rw [hall p, lvF_some]
  unfold srt psP
  split
  · exact sorted_down hok hn hm
  · exact sorted_upP hok hn hm
theorem LOut.fin (h : LOut side l w r qs cnt u wx) (hok : ∀ x ∈ l, x.ok = true) (hall : ∀ p, p ∈ qs ↔ (lvF side l p).isSome = true) (ho : w'.ownsRow (r + 1) 92 3 u qs.length (flat Lvl.cells ((srt side qs).map (lvlP side l)))) (hg : wx.grownBy w' u.ownBlock) :
    w'.ownsRow w.heap.size 92 3 u (levelsB side l).length (flat Lvl.cells (levelsB side l)) ∧ Ex w w' := by
  have hr := h.rlt
  have e := srt_ps hok h.nodup hall
  have hl : (levelsB side l).length = qs.length := by unfold levelsB; rw [List.length_map, ← e, srt_len]
  rw [e] at ho
  rw [hl]
  exact ⟨ownsRow_base ho (by omega), Ex.of (Below.grown h.below hg h.below.size (fun b hb => by have := (h.row.lt b hb).1; omega))⟩
end
end Go.Proofs.YtfeeibealokhfaaDoor
