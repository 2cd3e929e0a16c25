/- What Lots and Get of package book compute. -/
import Derived.Test.YtfeeibealokhfaaDoorBook
set_option linter.unusedSimpArgs false
set_option linter.unusedVariables false
namespace Go.Proofs.YtfeeibealokhfaaDoor
open Go.RowKit

section
variable {own : Nat → Nat} {i : Nat} {w : World} {p : Nat} {l : List Lot}
set_option maxRecDepth 100000 in
theorem lots_any (h : BookAt own i w p l) : Calls Tryd.prog 27 #[.pointer (some ⟨p, 0, none⟩)] w fun e w' => (∃ v, e = .returned v ∧ LotsRow w.heap.size l v w') ∧ Ex w w' := by
  obtain ⟨ao, cap, c0, hc, hm, h0, hl, hr⟩ := h.slice
  have hb := h.1
  have HC := Lib.hid (clone_any ao cap l w (by omega) h0 hr)
  clear hl hr h h0
  go_enter Tryd.func27, Tryd.ntmps27
  go_wp2_with (go_at_call 67; refine HC.out.mono ?_; rintro e w1 ⟨⟨v, rfl, hv⟩, l1, d1, rfl⟩)
  all_goals go_ret
  all_goals exact ⟨⟨v, rfl, hv⟩, (by repeat (first | exact Ex.refl _ | refine Ex.alloc ?_ _ | refine Ex.ext ?_ _ _ | refine Ex.drew ?_ | refine Ex.drewN ?_ _))⟩
/-- What is found of an ID. -/
theorem idIdx_cases (l : List Lot) (id : Int) : (∃ k, ∃ hk : k < l.length, idIdx l id = (k : Int) ∧ l[k].id = id ∧ l.findIdx? (fun y => y.id == id) = some k) ∨ (idIdx l id = -1 ∧ ∀ x ∈ l, x.id ≠ id) := by
  unfold idIdx
  cases hf : l.findIdx? (fun y => y.id == id) with
  | none =>
    right
    rw [List.findIdx?_eq_none_iff] at hf
    exact ⟨rfl, fun x hx e => by have := hf x hx; simp [e] at this⟩
  | some k =>
    left
    rw [List.findIdx?_eq_some_iff_getElem] at hf
    obtain ⟨hk, h1, _⟩ := hf
    exact ⟨k, hk, rfl, by simpa using h1, rfl⟩
def zeroLot : Lot := ⟨0, 0, 0, 0, 0⟩
set_option maxRecDepth 100000 in
theorem get_in (h : BookAt own i w p l) (id : Int) (k : Nat) (hk : k < l.length) (hi : idIdx l id = (k : Int)) :
    Calls Tryd.prog 52 #[.pointer (some ⟨p, 0, none⟩), .int .i64 id] w fun e w' => e = .returned (.tuple #[l[k].val, .bool true]) ∧ Ex w w' := by
  obtain ⟨ao, cap, c0, hc, hm, h0, hl, hr⟩ := h.slice
  have hp := h.lt
  have hb := h.1
  have HF := Lib.hid (fun W (hx : Ex w W) => find_any (h.later hx) id)
  rw [hi] at HF
  obtain ⟨_, _, _, hz⟩ := hl
  obtain ⟨g, off, rfl, hg, hcc⟩ := hz (by omega)
  have hzk := hcc k hk
  have a0 := hzk 0 (by omega)
  have a1 := hzk 1 (by omega)
  have a2 := hzk 2 (by omega)
  have a3 := hzk 3 (by omega)
  have a4 := hzk 4 (by omega)
  simp only [Lot.cells, List.getElem?_cons_zero, List.getElem?_cons_succ, Nat.add_zero] at a0 a1 a2 a3 a4
  generalize l[k] = x at *
  clear hz hcc hzk hr h h0 hi
  go_enter Tryd.func52, Tryd.ntmps52
  go_wp2_with (go_at_call 69; refine (HF.out _ (by repeat (first | exact Ex.refl _ | refine Ex.alloc ?_ _ | refine Ex.ext ?_ _ _ | refine Ex.drew ?_ | refine Ex.drewN ?_ _))).mono ?_; rintro e w1 ⟨rfl, l1, d1, rfl⟩)
  all_goals ((try simp only [Exit.inBlock, Exit.then]); (refine bodyPost_ret (v := .tuple #[x.val, .bool true]) ?_ rfl ⟨rfl, (by repeat (first | exact Ex.refl _ | refine Ex.alloc ?_ _ | refine Ex.ext ?_ _ _ | refine Ex.drew ?_ | refine Ex.drewN ?_ _))⟩); simp only [results, Tryd.results52]; simp [go_sem, ↓IntWalk.iteOmega])
set_option maxRecDepth 100000 in
theorem get_out (h : BookAt own i w p l) (id : Int) (hi : idIdx l id = -1) :
    Calls Tryd.prog 52 #[.pointer (some ⟨p, 0, none⟩), .int .i64 id] w fun e w' => e = .returned (.tuple #[zeroLot.val, .bool false]) ∧ Ex w w' := by
  have HF := Lib.hid (fun W (hx : Ex w W) => find_any (h.later hx) id)
  rw [hi] at HF
  clear h hi
  go_enter Tryd.func52, Tryd.ntmps52
  go_wp2_with (go_at_call 69; refine (HF.out _ (by repeat (first | exact Ex.refl _ | refine Ex.alloc ?_ _ | refine Ex.ext ?_ _ _ | refine Ex.drew ?_ | refine Ex.drewN ?_ _))).mono ?_; rintro e w1 ⟨rfl, l1, d1, rfl⟩)
  all_goals ((try simp only [Exit.inBlock, Exit.then]); (refine bodyPost_ret (v := .tuple #[zeroLot.val, .bool false]) ?_ rfl ⟨rfl, (by repeat (first | exact Ex.refl _ | refine Ex.alloc ?_ _ | refine Ex.ext ?_ _ _ | refine Ex.drew ?_ | refine Ex.drewN ?_ _))⟩); simp only [results, Tryd.results52]; simp [go_sem, ↓IntWalk.iteOmega, zeroLot])
end
end Go.Proofs.YtfeeibealokhfaaDoor
