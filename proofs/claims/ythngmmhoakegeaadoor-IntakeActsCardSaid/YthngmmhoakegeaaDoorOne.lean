/- An object that holds one slice of its own, at its first cell. No condition. -/
import Derived.Test.YthngmmhoakegeaaDoorObj
set_option linter.unusedSimpArgs false
set_option linter.unusedVariables false
namespace Go.Proofs.YthngmmhoakegeaaDoor
open Go.RowKit

/-- A block of N cells: at the first one a row of the object's own, behind it f. -/
def OneAt (own : Nat → Nat) (i : Nat) (w : World) (p N : Nat) (f : Nat → Value) (e : TypeId) (size : Nat) (v : Value) (n : Nat) (xs : List Value) : Prop :=
  (∃ t, w.rowIs p t N (fun j => if j = 0 then v else f j)) ∧ OwnRow own i w e size v n xs ∧ own p = i ∧ v.ownBlock ≠ some p
section
variable {own own' : Nat → Nat} {i m g : Nat} {w w' : World} {p N : Nat} {f : Nat → Value} {e : TypeId} {size : Nat} {v : Value} {n : Nat} {xs : List Value}
theorem OneAt.lt (h : OneAt own i w p N f e size v n xs) : p < w.heap.size := by obtain ⟨⟨t, h⟩, _⟩ := h; exact h.lt
theorem OneAt.free (h : OneAt own i w p N f e size v n xs) (j : Nat) : w.frozen? ⟨p, j, none⟩ = false := by obtain ⟨⟨t, h⟩, _⟩ := h; exact h.frozen j
theorem OneAt.cell0 (h : OneAt own i w p N f e size v n xs) (hN : 0 < N) : w.cell? ⟨p, 0, none⟩ = some v := by
  obtain ⟨⟨t, h⟩, _⟩ := h
  exact h.cell (i := 0) hN
theorem OneAt.cell (h : OneAt own i w p N f e size v n xs) {j : Nat} (hj : j < N) (h0 : j ≠ 0) : w.cell? ⟨p, j, none⟩ = some (f j) := by
  obtain ⟨⟨t, h⟩, _⟩ := h
  have := h.cell (i := j) hj
  simpa [h0] using this
theorem OneAt.kp (h : OneAt own i w p N f e size v n xs) (hk : Kp own m g w w') (hi : i / m ≠ g) (ho : ∀ n, n < w.heap.size → own n = i → own' n = i) : OneAt own' i w' p N f e size v n xs := by
  have hl := h.lt
  obtain ⟨⟨t, h1⟩, h2, h3, h4⟩ := h
  exact ⟨⟨t, h1.of_block (hk.block p hl (by rw [h3]; exact hi))⟩, h2.kp hk hi ho, ho p hl h3, h4⟩
theorem OneAt.relabel (h : OneAt own i w p N f e size v n xs) (ho : ∀ n, n < w.heap.size → own n = i → own' n = i) : OneAt own' i w p N f e size v n xs := h.kp (m := 1) (g := i + 1) (Kp.refl _ _ _ _) (by simp) ho
theorem OneAt.exts (h : OneAt own i w p N f e size v n xs) (bs : List Obj) (d : Nat) : OneAt own i (ext w bs d) p N f e size v n xs := h.kp (m := 1) (g := i + 1) (Kp.ext (Kp.refl _ _ _ _) bs d) (by simp) (fun _ _ h => h)
theorem OneAt.later (h : OneAt own i w p N f e size v n xs) (hx : Ex w w') : OneAt own i w' p N f e size v n xs := by obtain ⟨bs, d, rfl⟩ := hx; exact h.exts bs d
/-- A label function in which the row bears 2, the main block 3, all else 0. -/
theorem OneAt.pick (h : OneAt own i w p N f e size v n xs) :
    ∃ o : Nat → Nat, OwnRow o 2 w e size v n xs ∧ o p = 3 ∧ (∀ n, w.heap.size ≤ n → o n = 0) ∧ (∀ n, o n / 2 = 1 → own n = i) := by
  have hl := h.lt
  obtain ⟨_, h2, h3, h4⟩ := h
  refine ⟨fun n => if n = p then 3 else if v.ownBlock = some n then 2 else 0, ⟨h2.1, fun g hg => ?_⟩, if_pos rfl, fun n hn => ?_, fun n hn => ?_⟩
  · have : g ≠ p := by rintro rfl; exact h4 hg
    simp [this, hg]
  · have h5 : n ≠ p := by omega
    have h6 : v.ownBlock ≠ some n := fun e => by have := h2.1.lt n e; omega
    simp [h5, h6]
  · by_cases h5 : n = p
    · subst h5; exact h3
    · simp only [h5, if_false] at hn
      by_cases h6 : v.ownBlock = some n
      · exact h2.2 n h6
      · simp [h6] at hn
/-- The object in a world in which it alone has turned. -/
theorem OneAt.turned {o : Nat → Nat} {f' : Nat → Value} {v' : Value} {n' : Nat} {xs' : List Value} (h : OneAt own i w p N f e size v n xs) (h3 : o p = 3) (hi : ∀ n, o n / 2 = 1 → own n = i) (hK : Kp o 2 1 w w')
    (hrow : ∃ t, w'.rowIs p t N (fun j => if j = 0 then v' else f' j)) (hv : RowAt w' e size v' n' xs') (hb : ∀ g, v'.ownBlock = some g → o g = 2 ∨ w.heap.size ≤ g) :
    Kp own 1 i w w' ∧ OneAt (lab own w.heap.size (w'.heap.size - w.heap.size) i) i w' p N f' e size v' n' xs' := by
  have hl := h.lt
  refine ⟨⟨hK.os, hK.tape, hK.output, hK.size, fun n hn hne => hK.block n hn (fun e => hne (by rw [Nat.div_one]; exact hi n e))⟩, hrow, ⟨hv, fun g hg => ?_⟩, ?_, fun hg => ?_⟩
  · have h1 := hv.lt g hg
    unfold lab
    by_cases hlt : g < w.heap.size
    · rw [if_pos hlt]
      rcases hb g hg with h2 | h2
      · exact hi g (by rw [h2])
      · omega
    · rw [if_neg hlt, if_pos (by omega)]
  · rw [lab_lt hl]; exact h.2.2.1
  · rcases hb p hg with h2 | h2 <;> omega
theorem own_or {o : Nat → Nat} {W : World} {s k : Nat} (h : OwnRow (lab o s k 2) 2 W e size v n xs) (hs : w.heap.size ≤ s) : ∀ g, v.ownBlock = some g → o g = 2 ∨ w.heap.size ≤ g := fun g hg => by
  have h2 := h.2 g hg
  by_cases hlt : g < s
  · rw [lab_lt hlt] at h2; exact .inl h2
  · exact .inr (by omega)
/-- The object where append has made of its row, and its own cells have turned. -/
theorem OneAt.appEnd {o : Nat → Nat} {W1 u : World} {k : Nat} {f' : Nat → Value} {v' : Value} {n' : Nat} {xs' : List Value} (h : OneAt own i w p N f e size v n xs) (h3 : o p = 3) (hi : ∀ n, o n / 2 = 1 → own n = i) (hs : w.heap.size ≤ W1.heap.size) (hK : Kp o 2 1 w w')
    (hp : ∀ g, g ≠ p → w'.heap[g]? = (ov W1 o 1 2 k u).heap[g]?) (hrow : ∃ t, w'.rowIs p t N (fun j => if j = 0 then v' else f' j)) (hv : OwnRow (lab o W1.heap.size k 2) 2 (ov W1 o 1 2 k u) e size v' n' xs') :
    Kp own 1 i w w' ∧ OneAt (lab own w.heap.size (w'.heap.size - w.heap.size) i) i w' p N f' e size v' n' xs' := by
  have hb := own_or hv hs
  refine h.turned h3 hi hK hrow (hv.1.of_block fun g hg => hp g (fun e => ?_)) hb
  have hl := h.lt
  rcases hb g hg with h2 | h2
  · rw [e, h3] at h2; omega
  · omega
/-- What the world is where append has made of a row: the row's block, and new ones, have turned. -/
theorem grown_kp {o : Nat → Nat} {W : World} (k : Nat) (u : World) (hx : Kp o 2 1 w W) : Kp o 2 1 w (ov W o 1 2 k u) := hx.ov _ _ _ _ _ (fun n _ hn => by rw [Nat.div_one] at hn; rw [hn])
theorem OneAt.main (h : OneAt own i w p N f e size v n xs) : ∃ t, w.rowIs p t N (fun j => if j = 0 then v else f j) := h.1
end
end Go.Proofs.YthngmmhoakegeaaDoor
