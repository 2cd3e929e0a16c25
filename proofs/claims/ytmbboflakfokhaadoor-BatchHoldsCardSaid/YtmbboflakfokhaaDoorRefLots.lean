import Derived.Test.YtmbboflakfokhaaDoorJ15
/- What the document's LotsFault, DemandOf, SupplyOf, VolumeOf and BestOf compute. -/
set_option linter.unusedSimpArgs false
set_option linter.unusedVariables false
namespace Go.Proofs.YtmbboflakfokhaaDoor
open Go.RowKit

/-- What is wrong with lots: an error's number, and where. -/
def badAt (l : List Lot) : Nat → Option Nat
  | 0 => none
  | k + 1 => match badAt l k with
    | some j => some j
    | none => if codeAt l k = 0 then none else some k
theorem badAt_none (l : List Lot) : ∀ n, (∀ j, j < n → codeAt l j = 0) → badAt l n = none
  | 0, _ => rfl
  | n + 1, h => by simp [badAt, badAt_none l n fun j hj => h j (by omega), h n (by omega)]
theorem badAt_some (l : List Lot) (k : Nat) (h : ∀ j, j < k → codeAt l j = 0) (hk : codeAt l k ≠ 0) : ∀ n, k < n → badAt l n = some k
  | 0, h0 => by omega
  | n + 1, hn => by
    by_cases e : k = n
    · subst e; simp [badAt, badAt_none l k h, hk]
    · simp [badAt, badAt_some l k h hk n (by omega)]
def faultC (l : List Lot) : Nat := if 120 < l.length then 8 else match badAt l l.length with
  | none => 0
  | some k => codeAt l k
def faultA (l : List Lot) : Int := if 120 < l.length then -1 else match badAt l l.length with
  | none => -1
  | some k => k
theorem fault_full {l : List Lot} (h : 120 < l.length) : faultC l = 8 ∧ faultA l = -1 := by simp [faultC, faultA, h]
theorem fault_none {l : List Lot} (h : l.length ≤ 120) (hk : ∀ j, j < l.length → codeAt l j = 0) : faultC l = 0 ∧ faultA l = -1 := by
  simp [faultC, faultA, badAt_none l _ hk, show ¬ 120 < l.length by omega]
theorem fault_some {l : List Lot} (h : l.length ≤ 120) {k : Nat} (hlt : k < l.length) (hk : ∀ j, j < k → codeAt l j = 0) (hc : codeAt l k ≠ 0) : faultC l = codeAt l k ∧ faultA l = k := by
  simp [faultC, faultA, badAt_some l k hk hc _ hlt, show ¬ 120 < l.length by omega]

abbrev faultV (c a : Int) : Value := .agg #[.int .i64 c, .int .i64 a]
/-- What an error's number comes to behind m earlier lots. -/
def eAt (l : List Lot) (x : Lot) (m : Nat) : Nat := if x.ok then (if (l.take m).any (fun y => y.id == x.id) then 7 else 0) else 2
theorem eAt_code {l : List Lot} {k : Nat} {x : Lot} (h : l[k]? = some x) : codeAt l k = eAt l x k := codeAt_at h
theorem eAt_stay {l : List Lot} {x : Lot} {m n : Nat} (h : eAt l x m ≠ 0) (hmn : m ≤ n) : eAt l x n = eAt l x m := by
  unfold eAt at *
  by_cases hok : x.ok = true
  · simp only [hok, if_true] at h ⊢
    by_cases ha : (l.take m).any (fun y => y.id == x.id) = true
    · rw [if_pos ha, if_pos]
      rw [List.any_eq_true] at ha ⊢
      obtain ⟨y, hy, hy'⟩ := ha
      exact ⟨y, (List.take_prefix_take_left hmn).subset hy, hy'⟩
    · rw [if_neg ha] at h; exact absurd rfl h
  · simp [hok]
theorem eAt_succ {l : List Lot} {x y : Lot} {m : Nat} (hy : l[m]? = some y) (h : eAt l x m = 0) : eAt l x (m + 1) = if y.id == x.id then 7 else 0 := by
  unfold eAt at *
  by_cases hok : x.ok = true
  · simp only [hok, if_true] at h ⊢
    by_cases ha : (l.take m).any (fun y => y.id == x.id) = true
    · rw [if_pos ha] at h; cases h
    · rw [Bool.not_eq_true] at ha
      rw [List.take_add_one, hy, List.any_append, ha]
      simp
  · simp [hok] at h
theorem eAt_vals (l : List Lot) (x : Lot) (m : Nat) : eAt l x m = 0 ∨ eAt l x m = 2 ∨ eAt l x m = 7 := by
  unfold eAt; split
  · split
    · exact .inr (.inr rfl)
    · exact .inl rfl
  · exact .inr (.inl rfl)

end Go.Proofs.YtmbboflakfokhaaDoor
