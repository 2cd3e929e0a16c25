/- What trades, and what is held, leave of the sums of all purses. -/
import Derived.Test.YtfeeibealokhfaaDoorTradeAny
import Derived.Test.YtfeeibealokhfaaDoorHoldAny
import Derived.Test.YtfeeibealokhfaaDoorGive
set_option linter.unusedSimpArgs false
set_option linter.unusedVariables false
namespace Go.Proofs.YtfeeibealokhfaaDoor
open Go.RowKit

/-- What all clients have of one thing. -/
def sumP (P : Pu) (j : Nat) : Int := P 0 j + P 1 j + P 2 j + P 3 j + P 4 j + P 5 j
theorem sumP_add (P : Pu) {c : Nat} (hc : c < 6) (j : Nat) (d : Int) (k : Nat) : sumP (P.set c j (P c j + d)) k = sumP P k + if k = j then d else 0 := by
  have h : c = 0 ∨ c = 1 ∨ c = 2 ∨ c = 3 ∨ c = 4 ∨ c = 5 := by omega
  by_cases e : k = j
  · subst e
    rcases h with rfl | rfl | rfl | rfl | rfl | rfl <;> simp [sumP, Pu.set] <;> omega
  · rcases h with rfl | rfl | rfl | rfl | rfl | rfl <;> simp [sumP, Pu.set, e]
theorem sumP_sub (P : Pu) {c : Nat} (hc : c < 6) (j : Nat) (d : Int) (k : Nat) : sumP (P.set c j (P c j - d)) k = sumP P k - if k = j then d else 0 := by
  rw [Int.sub_eq_add_neg, sumP_add P hc j (-d) k]
  split <;> omega
/-- Cash or stock, nothing that is held or kept. -/
def sumJ (k : Nat) : Prop := k ≠ 1 ∧ k < 5
theorem hold_sum (P : Pu) (item : Int) (x : Lot) {k : Nat} (hk : sumJ k) : sumP (holdP P item x) k = sumP P k := by
  unfold holdP
  split
  · rename_i he
    unfold holdE at he
    split at he
    · rename_i hr
      simp only [rightB, Bool.and_eq_true] at hr
      obtain ⟨_, ho, _⟩ := Lot.ok_iff hr.2
      split
      · rw [sumP_add P (by omega), if_neg hk.1, Int.add_zero]
      · rw [sumP_add P (by omega), if_neg (by have := hk.2; omega), Int.add_zero]
    · cases he
  · rfl
theorem free_sum (P : Pu) (item : Int) (x : Lot) {k : Nat} (hk : sumJ k) : sumP (freeP P item x) k = sumP P k := by
  unfold freeP
  split
  · rename_i he
    unfold freeE at he
    split at he
    · rename_i hr
      simp only [rightB, Bool.and_eq_true] at hr
      obtain ⟨_, ho, _⟩ := Lot.ok_iff hr.2
      split
      · rw [sumP_sub P (by omega), if_neg hk.1, Int.sub_zero]
      · rw [sumP_sub P (by omega), if_neg (by have := hk.2; omega), Int.sub_zero]
    · cases he
  · rfl
theorem tradeF_sum (P : Pu) {bo so : Nat} (hb : bo < 6) (hs : so < 6) (it : Nat) (m1 m2 qty : Int) {k : Nat} (hk : sumJ k) : sumP (tradeF P bo so it m1 m2 qty) k = sumP P k := by
  have h1 := hk.1
  have h2 := hk.2
  unfold tradeF
  rw [sumP_add _ hs, sumP_add _ hb, sumP_sub _ hs, sumP_sub _ hs, sumP_sub _ hb, sumP_sub _ hb, if_neg h1, if_neg (show ¬ k = 5 + it by omega)]
  split <;> split <;> omega
theorem trade_sum (P : Pu) (item : Int) (b s : Lot) (price qty : Int) {k : Nat} (hk : sumJ k) : sumP (if tradeE P item b s price qty = 0 then tradeF P b.owner.toNat s.owner.toNat item.toNat (b.price * qty) (price * qty) qty else P) k = sumP P k := by
  split
  · rename_i he
    unfold tradeE at he
    split at he
    · rename_i hf
      have hz := fair_zero hf
      have hb := hz.1
      have hs := hz.2.1
      simp only [rightB, Bool.and_eq_true] at hb hs
      obtain ⟨_, hob, _⟩ := Lot.ok_iff hb.2
      obtain ⟨_, hos, _⟩ := Lot.ok_iff hs.2
      exact tradeF_sum P (by omega) (by omega) _ _ _ _ hk
    · rename_i hf
      exact absurd he hf
  · rfl
theorem add_sum (P : Pu) {c : Nat} (hc : c < 6) (cash : Int) (s : Nat → Int) : sumP (P.add c cash s) 0 = sumP P 0 + cash ∧ sumP (P.add c cash s) 2 = sumP P 2 + s 0 ∧ sumP (P.add c cash s) 3 = sumP P 3 + s 1 ∧ sumP (P.add c cash s) 4 = sumP P 4 + s 2 := by
  have h : c = 0 ∨ c = 1 ∨ c = 2 ∨ c = 3 ∨ c = 4 ∨ c = 5 := by omega
  rcases h with rfl | rfl | rfl | rfl | rfl | rfl <;> (simp [sumP, Pu.add]; omega)
theorem give_sum (P : Pu) (n cash : Int) (s : Nat → Int) (he : giveE P n cash s = 0) : sumP (giveP P n cash s) 0 = sumP P 0 + cash ∧ sumP (giveP P n cash s) 2 = sumP P 2 + s 0 ∧ sumP (giveP P n cash s) 3 = sumP P 3 + s 1 ∧ sumP (giveP P n cash s) 4 = sumP P 4 + s 2 := by
  have hc : n.toNat < 6 := by
    have he' := he
    unfold giveE at he'
    split at he'
    · rename_i h
      rw [Bool.and_eq_true] at h
      obtain ⟨h0, h5⟩ := inR_iff.1 h.1
      omega
    · cases he'
  unfold giveP
  rw [if_pos he]
  exact add_sum P hc cash s
theorem give_keeps (P : Pu) (n cash : Int) (s : Nat → Int) (he : giveE P n cash s ≠ 0) : giveP P n cash s = P := by
  unfold giveP; rw [if_neg he]
theorem sumP_bounds {P : Pu} (h : PInv P) : 0 ≤ sumP P 0 ∧ sumP P 0 ≤ 6597069766656 ∧ ∀ i, i < 3 → 0 ≤ sumP P (2 + i) ∧ sumP P (2 + i) ≤ 6442450944 := by
  have h0 := h 0 (by omega)
  have h1 := h 1 (by omega)
  have h2 := h 2 (by omega)
  have h3 := h 3 (by omega)
  have h4 := h 4 (by omega)
  have h5 := h 5 (by omega)
  refine ⟨by unfold sumP; omega, by unfold sumP; omega, fun i hi => ?_⟩
  have a0 := h0.2.2.2 i hi
  have a1 := h1.2.2.2 i hi
  have a2 := h2.2.2.2 i hi
  have a3 := h3.2.2.2 i hi
  have a4 := h4.2.2.2 i hi
  have a5 := h5.2.2.2 i hi
  unfold sumP
  omega
end Go.Proofs.YtfeeibealokhfaaDoor
