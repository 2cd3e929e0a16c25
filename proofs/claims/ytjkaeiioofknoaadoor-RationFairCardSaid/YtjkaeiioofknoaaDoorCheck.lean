/- What curve's Check computes. -/
import Derived.Test.YtjkaeiioofknoaaDoorFind
set_option linter.unusedSimpArgs false
set_option linter.unusedVariables false
namespace Go.Proofs.YtjkaeiioofknoaaDoor
open Go.RowKit

theorem LotsAt.ex {w w' : World} {ao : Option Addr} {len : Nat} {l : List Lot} (h : LotsAt w ao len l) (hx : Ex w w') : LotsAt w' ao len l := by
  obtain ⟨h1, h2, h3, h4⟩ := h
  refine ⟨h1, h2, h3, fun h0 => ?_⟩
  obtain ⟨b, off, e, hb, hc⟩ := h4 h0
  exact ⟨b, off, e, Nat.lt_of_lt_of_le hb hx.below.size, fun k hk j hj => (hx.below.cell (p := ⟨b, off + k * 5 + j, none⟩) hb).trans (hc k hk j hj)⟩
theorem LotsAt.take {w : World} {ao : Option Addr} {len : Nat} {l : List Lot} (h : LotsAt w ao len l) (k : Nat) (hk : k ≤ len) : LotsAt w ao k (l.take k) := by
  obtain ⟨h1, h2, h3, h4⟩ := h
  refine ⟨by simp; omega, by omega, fun a ha => h3 a (List.mem_of_mem_take ha), fun h0 => ?_⟩
  obtain ⟨b, off, e, hb, hc⟩ := h4 (by omega)
  exact ⟨b, off, e, hb, fun j hj i hi => by rw [hc j (by simp at hj; omega) i hi, List.getElem_take]⟩

theorem idIdx_nonneg (l : List Lot) (id : Int) : decide (idIdx l id ≥ 0) = l.any (fun y => y.id == id) := by
  unfold idIdx
  cases h : l.findIdx? (fun y => y.id == id) with
  | none =>
    rw [List.findIdx?_eq_none_iff] at h
    have : l.any (fun y => y.id == id) = false := by
      rw [List.any_eq_false]
      intro y hy
      simpa using h y hy
    rw [this]; rfl
  | some k =>
    rw [List.findIdx?_eq_some_iff_getElem] at h
    obtain ⟨hk, hp, _⟩ := h
    have : l.any (fun y => y.id == id) = true := List.any_eq_true.2 ⟨_, List.getElem_mem hk, hp⟩
    rw [this]; simp

set_option maxRecDepth 100000 in
theorem contains_any (ao : Option Addr) (len cap : Nat) (l : List Lot) (id : Int) (xb : Nat) (w : World) (hl : LotsAt w ao len l) (hx : w.cell? ⟨xb, 0, none⟩ = some (.int .i64 id)) :
    Calls Tryd.prog 48 #[.slice ao len cap, .func (.func 49) #[] #[.pointer (some ⟨xb, 0, none⟩)]] w fun e w' =>
      e = .returned (.bool (l.any fun y => y.id == id)) ∧ Ex w w' := by
  have H := Lib.hid (index_any ao len cap l id xb w hl hx)
  have hi := idIdx_nonneg l id
  clear hl hx
  go_enter Tryd.func48, Tryd.ntmps48
  go_wp2_with (go_at_call 66; refine H.out.mono ?_; rintro e w1 ⟨rfl, l1, d1, rfl⟩)
  all_goals go_ret
  all_goals exact ⟨ret_bool (by first | rfl | exact hi), (by repeat (first | exact Ex.refl _ | refine Ex.alloc ?_ _ | refine Ex.ext ?_ _ _ | refine Ex.drew ?_ | refine Ex.drewN ?_ _))⟩

/-- What is wrong with a lot at its place (0: nothing). -/
def codeAt (l : List Lot) (k : Nat) : Nat := match l[k]? with
  | none => 0
  | some x => if x.ok then (if (l.take k).any (fun y => y.id == x.id) then 7 else 0) else 2
theorem codeAt_at {l : List Lot} {k : Nat} {x : Lot} (h : l[k]? = some x) : codeAt l k = if x.ok then (if (l.take k).any (fun y => y.id == x.id) then 7 else 0) else 2 := by simp [codeAt, h]
/-- Lots are well. -/
def LotsOk (l : List Lot) : Prop := l.length ≤ 120 ∧ ∀ k, k < l.length → codeAt l k = 0
/-- What Check hands back. -/
def CheckV (E : Nat → Addr) (w w' : World) (l : List Lot) (v : Value) : Prop :=
  (120 < l.length ∧ v = errV E 8) ∨ (LotsOk l ∧ v = .nilIface) ∨
  ∃ k b, l.length ≤ 120 ∧ k < l.length ∧ (∀ j, j < k → codeAt l j = 0) ∧ codeAt l k ≠ 0 ∧ v = .iface 67 (.pointer (some ⟨b, 0, none⟩)) ∧ w.heap.size ≤ b ∧
    w'.heap[b]? = some (.cells #[.int .i64 k, errV E (codeAt l k)] 69 (0, 0))
end Go.Proofs.YtjkaeiioofknoaaDoor
