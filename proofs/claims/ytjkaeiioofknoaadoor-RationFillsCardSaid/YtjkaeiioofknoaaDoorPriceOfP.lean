/- Plain facts: the document's price, found in three rounds, is the search's. -/
import Derived.Test.YtjkaeiioofknoaaDoorClearP
set_option linter.unusedSimpArgs false
set_option linter.unusedVariables false
namespace Go.Proofs.YtjkaeiioofknoaaDoor
open Go.RowKit

def volP (l : List Lot) (p : Int) : Int := min (dem l p) (sup l p)
def surP (l : List Lot) (p : Int) : Int := iabs (dem l p - sup l p)
def mostOf (l : List Lot) : Nat → Int
  | 0 => 0
  | k + 1 => if volP l ((k : Int) + 1) > mostOf l k then volP l ((k : Int) + 1) else mostOf l k
def leastOf (l : List Lot) (m : Int) : Nat → Int
  | 0 => -1
  | k + 1 => if (volP l ((k : Int) + 1) == m && (decide (leastOf l m k < 0) || decide (surP l ((k : Int) + 1) < leastOf l m k))) = true then surP l ((k : Int) + 1) else leastOf l m k
/-- The best one of the prices above k, where m is the volume and s the surplus. -/
def bestD (l : List Lot) (ref m s : Int) : Nat → Int
  | 0 => 0
  | j + 1 => if (volP l (1000 - (j : Int)) != m || surP l (1000 - (j : Int)) != s) = true then bestD l ref m s j
    else if (bestD l ref m s j == 0 || decide (iabs (1000 - (j : Int) - ref) ≤ iabs (bestD l ref m s j - ref))) = true then 1000 - (j : Int) else bestD l ref m s j

theorem iabs_nonneg (n : Int) : 0 ≤ iabs n := by unfold iabs; omega
theorem mostOf_spec (l : List Lot) : ∀ k : Nat, 0 ≤ mostOf l k ∧ (∀ p : Int, 1 ≤ p → p ≤ k → volP l p ≤ mostOf l k) ∧ (mostOf l k = 0 ∨ ∃ p : Int, 1 ≤ p ∧ p ≤ k ∧ volP l p = mostOf l k)
  | 0 => ⟨Int.le_refl _, fun p h1 h2 => by omega, .inl rfl⟩
  | k + 1 => by
    obtain ⟨h1, h2, h3⟩ := mostOf_spec l k
    simp only [mostOf]
    by_cases hc : volP l ((k : Int) + 1) > mostOf l k
    · rw [if_pos hc]
      refine ⟨by omega, fun p a b => ?_, .inr ⟨(k : Int) + 1, by omega, by omega, rfl⟩⟩
      by_cases e : p = (k : Int) + 1
      · rw [e]; omega
      · have := h2 p a (by omega); omega
    · rw [if_neg hc]
      refine ⟨h1, fun p a b => ?_, ?_⟩
      · by_cases e : p = (k : Int) + 1
        · rw [e]; omega
        · exact h2 p a (by omega)
      · rcases h3 with h3 | ⟨p, a, b, e⟩
        · exact .inl h3
        · exact .inr ⟨p, a, by omega, e⟩
theorem leastOf_spec (l : List Lot) (m : Int) : ∀ k : Nat, (leastOf l m k = -1 ∧ ∀ p : Int, 1 ≤ p → p ≤ k → volP l p ≠ m) ∨
    (0 ≤ leastOf l m k ∧ (∃ p : Int, 1 ≤ p ∧ p ≤ k ∧ volP l p = m ∧ surP l p = leastOf l m k) ∧ ∀ p : Int, 1 ≤ p → p ≤ k → volP l p = m → leastOf l m k ≤ surP l p)
  | 0 => .inl ⟨rfl, fun p h1 h2 => by omega⟩
  | k + 1 => by
    have ih := leastOf_spec l m k
    have hs : 0 ≤ surP l ((k : Int) + 1) := iabs_nonneg _
    simp only [leastOf]
    by_cases hv : volP l ((k : Int) + 1) = m
    · by_cases hl : leastOf l m k < 0 ∨ surP l ((k : Int) + 1) < leastOf l m k
      · rw [if_pos (by simp [hv]; exact hl)]
        refine .inr ⟨hs, ⟨(k : Int) + 1, by omega, by omega, hv, rfl⟩, fun p a b e => ?_⟩
        by_cases ep : p = (k : Int) + 1
        · rw [ep]; omega
        · rcases ih with ⟨h1, h2⟩ | ⟨h1, _, h3⟩
          · exact absurd e (h2 p a (by omega))
          · have := h3 p a (by omega) e
            omega
      · rw [if_neg (by simp [hv]; omega)]
        rcases ih with ⟨h1, h2⟩ | ⟨h1, ⟨p, a, b, c, d⟩, h3⟩
        · omega
        · refine .inr ⟨h1, ⟨p, a, by omega, c, d⟩, fun q a b e => ?_⟩
          by_cases ep : q = (k : Int) + 1
          · rw [ep]; omega
          · exact h3 q a (by omega) e
    · rw [if_neg (by simp [hv])]
      rcases ih with ⟨h1, h2⟩ | ⟨h1, ⟨p, a, b, c, d⟩, h3⟩
      · refine .inl ⟨h1, fun p a b => ?_⟩
        by_cases ep : p = (k : Int) + 1
        · rw [ep]; exact hv
        · exact h2 p a (by omega)
      · refine .inr ⟨h1, ⟨p, a, by omega, c, d⟩, fun q a b e => ?_⟩
        by_cases ep : q = (k : Int) + 1
        · rw [ep] at e; exact absurd e hv
        · exact h3 q a (by omega) e
theorem bestD_spec (l : List Lot) (ref m s : Int) : ∀ j : Nat, j ≤ 1000 → (bestD l ref m s j = 0 ∧ ∀ p : Int, 1000 - j < p → p ≤ 1000 → ¬ (volP l p = m ∧ surP l p = s)) ∨
    (1000 - j < bestD l ref m s j ∧ bestD l ref m s j ≤ 1000 ∧ volP l (bestD l ref m s j) = m ∧ surP l (bestD l ref m s j) = s ∧
      ∀ p : Int, 1000 - j < p → p ≤ 1000 → volP l p = m → surP l p = s → iabs (bestD l ref m s j - ref) < iabs (p - ref) ∨ (iabs (bestD l ref m s j - ref) = iabs (p - ref) ∧ bestD l ref m s j ≤ p))
  | 0, _ => .inl ⟨rfl, fun p h1 h2 => by omega⟩
  | j + 1, hj => by
    have ih := bestD_spec l ref m s j (by omega)
    simp only [bestD]
    by_cases hm : volP l (1000 - (j : Int)) = m ∧ surP l (1000 - (j : Int)) = s
    · rw [if_neg (by simp [hm.1, hm.2])]
      by_cases hb : bestD l ref m s j = 0 ∨ iabs (1000 - (j : Int) - ref) ≤ iabs (bestD l ref m s j - ref)
      · rw [if_pos (by simp; exact hb)]
        refine .inr ⟨by omega, by omega, hm.1, hm.2, fun p a b c d => ?_⟩
        by_cases ep : p = 1000 - (j : Int)
        · rw [ep]; right; exact ⟨rfl, Int.le_refl _⟩
        · rcases ih with ⟨h1, h2⟩ | ⟨h1, h2, h3, h4, h5⟩
          · exact absurd ⟨c, d⟩ (h2 p (by omega) b)
          · have := h5 p (by omega) b c d
            rcases hb with hb | hb <;> omega
      · rw [if_neg (by simp; omega)]
        rcases ih with ⟨h1, h2⟩ | ⟨h1, h2, h3, h4, h5⟩
        · exact absurd (.inl h1) hb
        · refine .inr ⟨by omega, h2, h3, h4, fun p a b c d => ?_⟩
          by_cases ep : p = 1000 - (j : Int)
          · rw [ep]; omega
          · exact h5 p (by omega) b c d
    · rw [if_pos (by simp; omega)]
      rcases ih with ⟨h1, h2⟩ | ⟨h1, h2, h3, h4, h5⟩
      · refine .inl ⟨h1, fun p a b => ?_⟩
        by_cases ep : p = 1000 - (j : Int)
        · rw [ep]; exact hm
        · exact h2 p (by omega) b
      · refine .inr ⟨by omega, h2, h3, h4, fun p a b c d => ?_⟩
        by_cases ep : p = 1000 - (j : Int)
        · rw [ep] at c d; exact absurd ⟨c, d⟩ hm
        · exact h5 p (by omega) b c d

theorem priceOf_eq (l : List Lot) (ref : Int) : (bestC l ref 1000).vol = mostOf l 1000 ∧ (mostOf l 1000 = 0 → (bestC l ref 1000).price = 0) ∧
    (mostOf l 1000 ≠ 0 → (bestC l ref 1000).price = bestD l ref (mostOf l 1000) (leastOf l (mostOf l 1000) 1000) 1000) := by
  obtain ⟨m1, m2, m3⟩ := mostOf_spec l 1000
  rcases bestC_spec l ref 1000 with ⟨h1, h2⟩ | ⟨p, p1, p2, h2, h3, h4⟩
  · have hz : mostOf l 1000 = 0 := by
      rcases m3 with h | ⟨q, a, b, e⟩
      · exact h
      · have := h1 q a b
        simp only [candAt] at this
        unfold volP at e
        omega
    rw [h2, hz]
    exact ⟨rfl, fun _ => rfl, fun h => absurd rfl h⟩
  · rw [h2]
    simp only [candAt] at h3 ⊢
    have hvp : volP l p = min (dem l p) (sup l p) := rfl
    have hv : volP l p = mostOf l 1000 := by
      have a := m2 p p1 (by omega)
      rcases m3 with h | ⟨q, b, c, e⟩
      · omega
      · by_cases eq : q = p
        · rw [← eq]; exact e
        · have hvq : volP l q = min (dem l q) (sup l q) := rfl
          rcases h4 q b c eq with g | g
          · simp only [candAt] at g; omega
          · unfold Cand.better at g
            simp only [candAt] at g
            omega
    refine ⟨by rw [← hvp, hv], fun h => by omega, fun hne => ?_⟩
    rcases leastOf_spec l (mostOf l 1000) 1000 with ⟨_, h⟩ | ⟨s1, ⟨q, a, b, c, d⟩, s3⟩
    · exact absurd hv (h p p1 (by omega))
    have hs : surP l p = leastOf l (mostOf l 1000) 1000 := by
      have e1 := s3 p p1 (by omega) hv
      by_cases eq : q = p
      · rw [← eq]; exact d
      · have hvq : volP l q = min (dem l q) (sup l q) := rfl
        have hsq : surP l q = iabs (dem l q - sup l q) := rfl
        have hsp : surP l p = iabs (dem l p - sup l p) := rfl
        rcases h4 q a (by omega) eq with g | g
        · simp only [candAt] at g; omega
        · unfold Cand.better at g
          simp only [candAt] at g
          omega
    rcases bestD_spec l ref (mostOf l 1000) (leastOf l (mostOf l 1000) 1000) 1000 (Nat.le_refl _) with ⟨_, h⟩ | ⟨r1, r2, r3, r4, r5⟩
    · exact absurd ⟨hv, hs⟩ (h p (by omega) (by omega))
    generalize bestD l ref (mostOf l 1000) (leastOf l (mostOf l 1000) 1000) 1000 = r at *
    apply Classical.byContradiction
    intro hne2
    have hvq : volP l r = min (dem l r) (sup l r) := rfl
    have hsq : surP l r = iabs (dem l r - sup l r) := rfl
    have hsp : surP l p = iabs (dem l p - sup l p) := rfl
    have e1 := r5 p (by omega) (by omega) hv hs
    rcases h4 r (by omega) (by omega) (fun e => hne2 e.symm) with g | g
    · simp only [candAt] at g; omega
    · unfold Cand.better at g
      simp only [candAt] at g
      omega
end Go.Proofs.YtjkaeiioofknoaaDoor
