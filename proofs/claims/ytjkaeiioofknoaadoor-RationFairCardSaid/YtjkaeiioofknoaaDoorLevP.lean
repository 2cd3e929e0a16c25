/- Plain facts: the levels of a side. -/
import Derived.Test.YtjkaeiioofknoaaDoorDemand
set_option linter.unusedSimpArgs false
set_option linter.unusedVariables false
namespace Go.Proofs.YtjkaeiioofknoaaDoor
open Go.RowKit

/-- May a lot trade on a side at a price? -/
def mayT (side price : Int) (x : Lot) : Bool := x.side == side && !(side == 0 && decide (x.price < price)) && !(side == 1 && decide (x.price > price))
/-- The lots of a level, in their order. -/
def lotsAtP (side price p : Int) (l : List Lot) : List Lot := l.filter fun x => mayT side price x && x.price == p
theorem lotsAtP_step (side price p : Int) {l : List Lot} {k : Nat} {x : Lot} (h : l[k]? = some x) : lotsAtP side price p (l.take (k + 1)) = lotsAtP side price p (l.take k) ++ (if mayT side price x && x.price == p then [x] else []) := by
  rw [List.take_add_one, h, lotsAtP, List.filter_append]
  congr 1
  simp only [Option.toList_some, List.filter_cons, List.filter_nil]
theorem lotsAtP_skip (side price p : Int) {l : List Lot} {k : Nat} {x : Lot} (h : l[k]? = some x) (hm : mayT side price x = false) : lotsAtP side price p (l.take (k + 1)) = lotsAtP side price p (l.take k) := by
  rw [lotsAtP_step _ _ _ h, hm]; simp
theorem lotsAtP_len (side price p : Int) (l : List Lot) : (lotsAtP side price p l).length ≤ l.length := List.length_filter_le _ _
theorem lotsAtP_mem {side price p : Int} {l : List Lot} {x : Lot} (h : x ∈ lotsAtP side price p l) : x ∈ l ∧ mayT side price x = true ∧ x.price = p := by
  simp only [lotsAtP, List.mem_filter, Bool.and_eq_true, beq_iff_eq] at h
  exact ⟨h.1, h.2.1, h.2.2⟩
end Go.Proofs.YtjkaeiioofknoaaDoor
