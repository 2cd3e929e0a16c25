/- The walk of CurveAdds. -/
import Derived.Test.YtjkaeiioofknoaaDoorCurved
set_option linter.unusedSimpArgs false
set_option linter.unusedVariables false
namespace Go.Proofs.YtjkaeiioofknoaaDoor
open Go.RowKit

theorem codeAt_take {l : List Lot} {n k : Nat} (hk : k < n) : codeAt (l.take n) k = codeAt l k := by
  unfold codeAt
  rw [List.getElem?_take_of_lt hk, List.take_take, Nat.min_eq_left (by omega)]
theorem LotsOk.take {l : List Lot} (h : LotsOk l) (n : Nat) : LotsOk (l.take n) := by
  refine ⟨by have := h.1; simp; omega, fun k hk => ?_⟩
  simp at hk
  rw [codeAt_take (by omega)]
  exact h.2 k (by omega)
theorem LotsOk.drop {l : List Lot} (h : LotsOk l) (n : Nat) : LotsOk (l.drop n) := by
  refine ⟨by have := h.1; simp; omega, fun k hk => ?_⟩
  simp at hk
  have hx : (l.drop n)[k]? = some (l[n + k]'(by omega)) := by rw [List.getElem?_drop, List.getElem?_eq_getElem]
  have hy : l[n + k]? = some (l[n + k]'(by omega)) := List.getElem?_eq_getElem _
  have h1 := h.2 (n + k) (by omega)
  have h2 := h.ok hy
  rw [codeAt_at hy] at h1
  rw [codeAt_at hx]
  rw [h2] at h1 ⊢
  simp only [if_true] at h1 ⊢
  have h3 : (l.take (n + k)).any (fun y => y.id == (l[n + k]'(by omega)).id) = false := by
    cases e : (l.take (n + k)).any (fun y => y.id == (l[n + k]'(by omega)).id) <;> simp_all
  have h4 : ((l.drop n).take k).any (fun y => y.id == (l[n + k]'(by omega)).id) = false := by
    rw [List.any_eq_false] at h3 ⊢
    intro y hy
    refine h3 y ?_
    rw [← List.take_append_drop n (l.take (n + k)), List.mem_append]
    right
    rw [List.drop_take, show n + k - n = k by omega]
    exact hy
  rw [h4]; rfl
theorem curveSum_parts (is : Lot → Bool) {l : List Lot} (h : LotsOk l) (n : Nat) : curveSum is l = curveSum is (l.take n) + curveSum is (l.drop n) := by
  rw [curveSum_ok h, curveSum_ok (h.take n), curveSum_ok (h.drop n), ← sumOf_append, List.take_append_drop]
end Go.Proofs.YtjkaeiioofknoaaDoor
