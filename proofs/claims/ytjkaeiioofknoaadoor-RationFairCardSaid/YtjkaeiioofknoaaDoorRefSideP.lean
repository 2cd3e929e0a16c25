/- Plain facts: the document's fills, price by price, are those of the levels. -/
import Derived.Test.YtjkaeiioofknoaaDoorFills
set_option linter.unusedSimpArgs false
set_option linter.unusedVariables false
namespace Go.Proofs.YtjkaeiioofknoaaDoor
open Go.RowKit

/-- The lots of a side at a price. -/
def atP (side p : Int) (l : List Lot) : List Lot := l.filter fun x => x.side == side && x.price == p
/-- c levels are left, the next one is f c. -/
def refF (f : Nat → List Lot) : Nat → Int → Int → List Fil
  | 0, _, _ => []
  | c + 1, m, s => if 0 < m then (takeF (servL (f (c + 1)) m s) m).1 ++ refF f c (takeF (servL (f (c + 1)) m s) m).2 s else []
def downTo : Nat → List Nat
  | 0 => []
  | c + 1 => (c + 1) :: downTo c
theorem takeF_zero : ∀ l : List Lot, takeF l 0 = ([], 0)
  | [] => rfl
  | x :: l => by simp only [takeF]; rw [if_neg (by omega)]; exact takeF_zero l
theorem sideF_zero (s : Int) : ∀ L : List (List Lot), sideF L 0 s = []
  | [] => rfl
  | lv :: L => by simp only [sideF, takeF_zero, if_true]
theorem refF_zero (f : Nat → List Lot) (s : Int) : ∀ c, refF f c 0 s = []
  | 0 => rfl
  | c + 1 => by simp [refF]
theorem refF_eq (f : Nat → List Lot) (s : Int) : ∀ (c : Nat) (m : Int), 0 ≤ m → sideF ((downTo c).map f) m s = refF f c m s
  | 0, _, _ => rfl
  | c + 1, m, h => by
    simp only [downTo, List.map_cons, sideF, refF]
    by_cases hm : 0 < m
    · rw [if_pos hm]
      have hl := takeF_left (servL (f (c + 1)) m s) m h
      generalize takeF (servL (f (c + 1)) m s) m = T at *
      by_cases h0 : T.2 = 0
      · rw [if_pos h0, h0, refF_zero, List.append_nil]
      · rw [if_neg h0, refF_eq f s c T.2 hl.1]
    · have : m = 0 := by omega
      subst this
      simp only [takeF_zero, if_true]
      rw [if_neg (by omega)]
theorem sideF_filter (s : Int) : ∀ (L : List (List Lot)) (m : Int), 0 ≤ m → sideF (L.filter fun lv => !lv.isEmpty) m s = sideF L m s
  | [], _, _ => rfl
  | [] :: L, m, h => by
    have e : servL [] m s = [] := by
      have h0 : totL [] = 0 := rfl
      unfold servL
      rw [if_neg (by rw [h0]; omega)]
    rw [List.filter_cons_of_neg (by simp), sideF_filter s L m h]
    simp only [sideF, e, takeF]
    by_cases h0 : m = 0
    · rw [if_pos h0, h0, sideF_zero]
    · rw [if_neg h0, List.nil_append]
  | (x :: lv) :: L, m, h => by
    rw [List.filter_cons_of_pos (by simp)]
    simp only [sideF]
    have hl := takeF_left (servL (x :: lv) m s) m h
    rw [sideF_filter s L _ hl.1]
theorem downTo_pairwise : ∀ c, (downTo c).Pairwise (· > ·)
  | 0 => List.Pairwise.nil
  | c + 1 => by
    simp only [downTo, List.pairwise_cons]
    refine ⟨fun x hx => ?_, downTo_pairwise c⟩
    have : ∀ c x, x ∈ downTo c → 1 ≤ x ∧ x ≤ c := by
      intro c
      induction c with
      | zero => intro x h; cases h
      | succ c ih =>
        intro x h
        rcases List.mem_cons.1 h with rfl | h
        · omega
        · have := ih x h; omega
    have := this c x hx
    omega
theorem mem_downTo : ∀ {c x : Nat}, x ∈ downTo c ↔ 1 ≤ x ∧ x ≤ c
  | 0, x => by simp [downTo]; omega
  | c + 1, x => by
    simp only [downTo, List.mem_cons, mem_downTo (c := c)]
    omega
theorem atP_eq0 {price p : Int} {l : List Lot} (h : price ≤ p) : atP 0 p l = lotsAtP 0 price p l := by
  refine List.filter_congr fun x _ => ?_
  by_cases h2 : x.price = p
  · have e : decide (x.price < price) = false := decide_eq_false (by omega)
    have e2 : (x.side == 0 && !((0 : Int) == 0 && false) && !((0 : Int) == 1 && decide (x.price > price))) = (x.side == 0) := by simp
    simp only [mayT, e, e2]
  · have e : (x.price == p) = false := by simpa using h2
    rw [e, Bool.and_false, Bool.and_false]
theorem atP_eq1 {price p : Int} {l : List Lot} (h : p ≤ price) : atP 1 p l = lotsAtP 1 price p l := by
  refine List.filter_congr fun x _ => ?_
  by_cases h2 : x.price = p
  · have e : decide (x.price > price) = false := decide_eq_false (by omega)
    have e2 : (x.side == 1 && !((1 : Int) == 0 && decide (x.price < price)) && !((1 : Int) == 1 && false)) = (x.side == 1) := by simp
    simp only [mayT, e, e2]
  · have e : (x.price == p) = false := by simpa using h2
    rw [e, Bool.and_false, Bool.and_false]
def fOf0 (price : Int) (l : List Lot) (c : Nat) : List Lot := atP 0 (price + c - 1) l
def fOf1 (price : Int) (l : List Lot) (c : Nat) : List Lot := atP 1 (price + 1 - c) l
theorem mem_levP {side price p : Int} {l : List Lot} : p ∈ levP side price l ↔ lotsAtP side price p l ≠ [] := by
  rw [levP, (pricesL_spec _).1, lotsAtP_ne]
theorem notEmpty_iff {l : List Lot} : (!l.isEmpty) = true ↔ l ≠ [] := by cases l <;> simp
theorem side0_eq {l : List Lot} (hok : LotsOk l) {price : Int} (p1 : 1 ≤ price) (p2 : price ≤ 1000) (m s : Int) (hm : 0 ≤ m) : refF (fOf0 price l) (1001 - price).toNat m s = sideF (levelsL 0 price l) m s := by
  rw [← refF_eq _ _ _ _ hm, ← sideF_filter _ _ _ hm, List.filter_map]
  congr 1
  have hq : ((downTo (1001 - price).toNat).filter ((fun lv => !lv.isEmpty) ∘ fOf0 price l)).map (fun c : Nat => price + (c : Int) - 1) = (levP 0 price l).reverse := by
    rw [← List.reverse_reverse (List.map _ _)]
    congr 1
    refine sorted_unique ?_ (pricesL_spec _).2 fun p => ?_
    · rw [List.pairwise_reverse, List.pairwise_map]
      exact ((downTo_pairwise _).filter _).imp fun h => by omega
    · rw [List.mem_reverse, List.mem_map]
      change _ ↔ p ∈ levP 0 price l
      rw [mem_levP]
      constructor
      · rintro ⟨c, hc, rfl⟩
        rw [List.mem_filter, mem_downTo] at hc
        have h2 := notEmpty_iff.1 hc.2
        rw [fOf0, atP_eq0 (price := price) (by omega)] at h2
        exact h2
      · intro h
        obtain ⟨x, hx⟩ := List.exists_mem_of_ne_nil _ h
        obtain ⟨hx1, hx2, hx3⟩ := lotsAtP_mem hx
        have ho := Lot.ok_iff.1 (hok.mem x hx1)
        have hpr : price ≤ x.price := by
          simp only [mayT, Bool.and_eq_true, Bool.not_eq_true', Bool.and_eq_false_iff, beq_iff_eq, decide_eq_false_iff_not] at hx2
          rcases hx2.1.2 with h | h
          · simp at h
          · omega
        refine ⟨(p + 1 - price).toNat, ?_, by omega⟩
        rw [List.mem_filter, mem_downTo]
        refine ⟨by omega, notEmpty_iff.2 ?_⟩
        rw [fOf0, show price + ((p + 1 - price).toNat : Int) - 1 = p by omega, atP_eq0 (price := price) (by omega)]
        exact h
  rw [levelsL, if_pos rfl, ← hq, List.map_map]
  refine List.map_congr_left fun c hc => ?_
  rw [List.mem_filter, mem_downTo] at hc
  exact atP_eq0 (price := price) (by omega)
theorem side1_eq {l : List Lot} (hok : LotsOk l) {price : Int} (p1 : 1 ≤ price) (p2 : price ≤ 1000) (m s : Int) (hm : 0 ≤ m) : refF (fOf1 price l) price.toNat m s = sideF (levelsL 1 price l) m s := by
  rw [← refF_eq _ _ _ _ hm, ← sideF_filter _ _ _ hm, List.filter_map]
  congr 1
  have hq : ((downTo price.toNat).filter ((fun lv => !lv.isEmpty) ∘ fOf1 price l)).map (fun c : Nat => price + 1 - (c : Int)) = levP 1 price l := by
    refine sorted_unique ?_ (pricesL_spec _).2 fun p => ?_
    · rw [List.pairwise_map]
      exact ((downTo_pairwise _).filter _).imp fun h => by omega
    · rw [List.mem_map]
      change _ ↔ p ∈ levP 1 price l
      rw [mem_levP]
      constructor
      · rintro ⟨c, hc, rfl⟩
        rw [List.mem_filter, mem_downTo] at hc
        have h2 := notEmpty_iff.1 hc.2
        rw [fOf1, atP_eq1 (price := price) (by omega)] at h2
        exact h2
      · intro h
        obtain ⟨x, hx⟩ := List.exists_mem_of_ne_nil _ h
        obtain ⟨hx1, hx2, hx3⟩ := lotsAtP_mem hx
        have ho := Lot.ok_iff.1 (hok.mem x hx1)
        have hpr : x.price ≤ price := by
          simp only [mayT, Bool.and_eq_true, Bool.not_eq_true', Bool.and_eq_false_iff, beq_iff_eq, decide_eq_false_iff_not] at hx2
          rcases hx2.2 with h | h
          · simp at h
          · omega
        refine ⟨(price + 1 - p).toNat, ?_, by omega⟩
        rw [List.mem_filter, mem_downTo]
        refine ⟨by omega, notEmpty_iff.2 ?_⟩
        rw [fOf1, show price + 1 - ((price + 1 - p).toNat : Int) = p by omega, atP_eq1 (price := price) (by omega)]
        exact h
  rw [levelsL, if_neg (by decide), ← hq, List.map_map]
  refine List.map_congr_left fun c hc => ?_
  rw [List.mem_filter, mem_downTo] at hc
  exact atP_eq1 (price := price) (by omega)
end Go.Proofs.YtjkaeiioofknoaaDoor
