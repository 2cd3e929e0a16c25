import Derived.Test.YtmbboflakfokhaaDoorJ15
import Derived.Test.YtmbboflakfokhaaDoorRefLots
/- Plain facts on one price: what the search for a candidate comes to. -/
set_option linter.unusedSimpArgs false
set_option linter.unusedVariables false
namespace Go.Proofs.YtmbboflakfokhaaDoor
open Go.RowKit

def iabs (n : Int) : Int := max n (-n)
structure Cand where
  price : Int
  vol : Int
  sur : Int
  far : Int
def Cand.betterB (c d : Cand) : Bool :=
  if c.vol != d.vol then decide (c.vol > d.vol) else if c.sur != d.sur then decide (c.sur < d.sur) else if c.far != d.far then decide (c.far < d.far) else decide (c.price < d.price)
def Cand.better (c d : Cand) : Prop := d.vol < c.vol ∨ (d.vol = c.vol ∧ (c.sur < d.sur ∨ (c.sur = d.sur ∧ (c.far < d.far ∨ (c.far = d.far ∧ c.price < d.price)))))
theorem Cand.betterB_iff (c d : Cand) : c.betterB d = true ↔ c.better d := by
  unfold Cand.betterB Cand.better
  by_cases h1 : c.vol = d.vol
  · by_cases h2 : c.sur = d.sur
    · by_cases h3 : c.far = d.far
      · simp [h1, h2, h3]
      · simp [h1, h2, h3]
    · simp [h1, h2]
  · simp [h1]; omega
theorem Cand.better_trans {a b c : Cand} (h : a.better b) (k : b.better c) : a.better c := by
  unfold Cand.better at *; omega
theorem Cand.better_total {a b : Cand} (h : ¬ a.better b) (hp : b.price < a.price) : b.better a := by
  unfold Cand.better at *; omega

def dem (l : List Lot) (p : Int) : Int := sumOf (isDem p) l
def sup (l : List Lot) (p : Int) : Int := sumOf (isSup p) l
def candAt (l : List Lot) (ref p : Int) : Cand := ⟨p, min (dem l p) (sup l p), iabs (dem l p - sup l p), iabs (p - ref)⟩
def bestC (l : List Lot) (ref : Int) : Nat → Cand
  | 0 => ⟨0, 0, 0, 0⟩
  | k + 1 => if decide (0 < (candAt l ref ((k : Int) + 1)).vol) && (candAt l ref ((k : Int) + 1)).betterB (bestC l ref k) then candAt l ref ((k : Int) + 1) else bestC l ref k

/-- What the search comes to behind n prices. -/
theorem bestC_spec (l : List Lot) (ref : Int) : ∀ n : Nat,
    ((∀ p : Int, 1 ≤ p → p ≤ n → (candAt l ref p).vol ≤ 0) ∧ bestC l ref n = ⟨0, 0, 0, 0⟩) ∨
    ∃ p : Int, 1 ≤ p ∧ p ≤ n ∧ bestC l ref n = candAt l ref p ∧ 0 < (candAt l ref p).vol ∧ ∀ q : Int, 1 ≤ q → q ≤ n → q ≠ p → (candAt l ref q).vol ≤ 0 ∨ (candAt l ref p).better (candAt l ref q)
  | 0 => .inl ⟨fun p h1 h2 => by omega, rfl⟩
  | n + 1 => by
    have ih := bestC_spec l ref n
    by_cases hv : 0 < (candAt l ref ((n : Int) + 1)).vol
    · rcases ih with ⟨h1, h2⟩ | ⟨p, hp1, hp2, h2, h3, h4⟩
      · have hb : (candAt l ref ((n : Int) + 1)).better (bestC l ref n) := by rw [h2]; exact .inl hv
        right
        refine ⟨(n : Int) + 1, by omega, by omega, ?_, hv, fun q hq1 hq2 hq3 => .inl (h1 q hq1 (by omega))⟩
        simp only [bestC]
        rw [if_pos (by simp only [Bool.and_eq_true, decide_eq_true_eq]; exact ⟨hv, (Cand.betterB_iff _ _).2 hb⟩)]
      · right
        by_cases hb : (candAt l ref ((n : Int) + 1)).better (bestC l ref n)
        · refine ⟨(n : Int) + 1, by omega, by omega, ?_, hv, fun q hq1 hq2 hq3 => ?_⟩
          · simp only [bestC]
            rw [if_pos (by simp only [Bool.and_eq_true, decide_eq_true_eq]; exact ⟨hv, (Cand.betterB_iff _ _).2 hb⟩)]
          · by_cases hqp : q = p
            · right; rw [hqp, ← h2]; exact hb
            · rcases h4 q hq1 (by omega) hqp with h | h
              · exact .inl h
              · right; rw [h2] at hb; exact Cand.better_trans hb h
        · refine ⟨p, hp1, by omega, ?_, h3, fun q hq1 hq2 hq3 => ?_⟩
          · simp only [bestC]
            rw [if_neg (by
              simp only [Bool.and_eq_true, decide_eq_true_eq, not_and]
              intro _ h; exact hb ((Cand.betterB_iff _ _).1 h)), h2]
          · by_cases hqn : q = (n : Int) + 1
            · right
              subst hqn
              rw [h2] at hb
              exact Cand.better_total hb (by simp only [candAt]; omega)
            · exact h4 q hq1 (by omega) hq3
    · have e : bestC l ref (n + 1) = bestC l ref n := by
        simp only [bestC]
        rw [if_neg (by simp only [Bool.and_eq_true, decide_eq_true_eq]; intro h; exact hv h.1)]
      rw [e]
      rcases ih with ⟨h1, h2⟩ | ⟨p, hp1, hp2, h2, h3, h4⟩
      · refine .inl ⟨fun p hp1 hp2 => ?_, h2⟩
        by_cases hqn : p = (n : Int) + 1
        · subst hqn; omega
        · exact h1 p hp1 (by omega)
      · refine .inr ⟨p, hp1, by omega, h2, h3, fun q hq1 hq2 hq3 => ?_⟩
        by_cases hqn : q = (n : Int) + 1
        · subst hqn; left; omega
        · exact h4 q hq1 (by omega) hq3

/-- Sums of more are more. -/
theorem sumOf_mono {is js : Lot → Bool} : ∀ (l : List Lot), (∀ x ∈ l, x.ok = true) → (∀ x ∈ l, is x = true → js x = true) → sumOf is l ≤ sumOf js l
  | [], _, _ => by simp [sumOf]
  | x :: l, h, k => by
    have ih := sumOf_mono l (fun y hy => h y (by simp [hy])) (fun y hy => k y (by simp [hy]))
    have hx := (Lot.ok_iff.1 (h x (by simp))).2.2.2.2
    have kx := k x (by simp)
    simp only [sumOf]
    by_cases h1 : is x = true
    · rw [if_pos h1, if_pos (kx h1)]; omega
    · rw [if_neg h1]; split <;> omega
theorem sumOf_pos {is : Lot → Bool} : ∀ (l : List Lot), (∀ x ∈ l, x.ok = true) → (0 < sumOf is l ↔ ∃ x ∈ l, is x = true)
  | [], _ => by simp [sumOf]
  | x :: l, h => by
    have ih := sumOf_pos (is := is) l (fun y hy => h y (by simp [hy]))
    have hx := (Lot.ok_iff.1 (h x (by simp))).2.2.2.2
    have hb := (sumOf_bounds is l (fun y hy => h y (by simp [hy]))).1
    simp only [sumOf, List.mem_cons]
    by_cases h1 : is x = true
    · rw [if_pos h1]
      exact ⟨fun _ => ⟨x, .inl rfl, h1⟩, fun _ => by omega⟩
    · rw [if_neg h1, Int.zero_add, ih]
      exact ⟨fun ⟨y, hy, k⟩ => ⟨y, .inr hy, k⟩, fun ⟨y, hy, k⟩ => by
        rcases hy with rfl | hy
        · exact absurd k h1
        · exact ⟨y, hy, k⟩⟩
theorem sumOf_congr {is js : Lot → Bool} : ∀ (l : List Lot), (∀ x ∈ l, is x = js x) → sumOf is l = sumOf js l
  | [], _ => rfl
  | x :: l, h => by
    simp only [sumOf]
    rw [h x (by simp), sumOf_congr l fun y hy => h y (by simp [hy])]

/-- The best price of a side: 0 where there is none, else that of one of its lots, and no other one is better. -/
theorem bestOf_spec (side : Int) (hs : side = 0 ∨ side = 1) : ∀ (l : List Lot), (∀ x ∈ l, x.ok = true) →
    (bestOf side l = 0 ∧ ∀ x ∈ l, x.side ≠ side) ∨
    (1 ≤ bestOf side l ∧ (∃ x ∈ l, x.side = side ∧ x.price = bestOf side l) ∧ ∀ x ∈ l, x.side = side → if side = 0 then x.price ≤ bestOf side l else bestOf side l ≤ x.price) := by
  intro l
  suffices H : ∀ (l : List Lot) (r : List Lot), (∀ x ∈ r ++ l, x.ok = true) → 
      ((bestOf side r = 0 ∧ ∀ x ∈ r, x.side ≠ side) ∨ (1 ≤ bestOf side r ∧ (∃ x ∈ r, x.side = side ∧ x.price = bestOf side r) ∧ ∀ x ∈ r, x.side = side → if side = 0 then x.price ≤ bestOf side r else bestOf side r ≤ x.price)) →
      ((bestOf side (r ++ l) = 0 ∧ ∀ x ∈ r ++ l, x.side ≠ side) ∨ (1 ≤ bestOf side (r ++ l) ∧ (∃ x ∈ r ++ l, x.side = side ∧ x.price = bestOf side (r ++ l)) ∧ ∀ x ∈ r ++ l, x.side = side → if side = 0 then x.price ≤ bestOf side (r ++ l) else bestOf side (r ++ l) ≤ x.price)) by
    intro hl
    exact H l [] (by simpa using hl) (.inl ⟨rfl, fun x hx => by cases hx⟩)
  intro l
  induction l with
  | nil => intro r _ h; simpa using h
  | cons x l ih =>
    intro r hok h
    have e : r ++ x :: l = (r ++ [x]) ++ l := by simp
    rw [e] at hok ⊢
    refine ih (r ++ [x]) hok ?_
    have hx := (Lot.ok_iff.1 (hok x (by simp))).2.2.2.1
    have hst : bestOf side (r ++ [x]) = if takes side (bestOf side r) x then x.price else bestOf side r := by
      simp only [bestOf, List.foldl_append, List.foldl_cons, List.foldl_nil]; rfl
    rw [hst]
    by_cases hxs : x.side = side
    · have hcase : takes side (bestOf side r) x = true ↔ (bestOf side r = 0 ∨ (side = 0 ∧ bestOf side r < x.price) ∨ (side = 1 ∧ x.price < bestOf side r)) := by
        simp only [takes, hxs, beq_self_eq_true, Bool.true_and, Bool.or_eq_true, Bool.and_eq_true, beq_iff_eq, decide_eq_true_eq]; omega
      by_cases ht : takes side (bestOf side r) x = true
      · rw [if_pos ht]
        right
        refine ⟨hx.1, ⟨x, by simp, hxs, rfl⟩, fun y hy hys => ?_⟩
        rcases List.mem_append.1 hy with hy | hy
        · rcases h with ⟨_, h2⟩ | ⟨h1, _, h3⟩
          · exact absurd hys (h2 y hy)
          · have := h3 y hy hys
            have := hcase.1 ht
            rcases hs with rfl | rfl <;> simp only [if_true, Int.zero_ne_one, if_false, (by decide : (1 : Int) ≠ 0), true_and, false_and, or_false, false_or] at * <;> omega
        · simp at hy; subst hy; split <;> omega
      · rw [if_neg ht]
        rcases h with ⟨h1, _⟩ | ⟨h1, ⟨z, hz, hz1, hz2⟩, h3⟩
        · exact absurd (hcase.2 (.inl h1)) ht
        · right
          refine ⟨h1, ⟨z, by simp [hz], hz1, hz2⟩, fun y hy hys => ?_⟩
          rcases List.mem_append.1 hy with hy | hy
          · exact h3 y hy hys
          · simp at hy; subst hy
            have hn : ¬ (bestOf side r = 0 ∨ (side = 0 ∧ bestOf side r < y.price) ∨ (side = 1 ∧ y.price < bestOf side r)) := fun h => ht (hcase.2 h)
            rcases hs with rfl | rfl <;> simp only [if_true, if_false, (by decide : (1 : Int) ≠ 0), true_and, false_and, or_false, false_or] at * <;> omega
    · have ht : takes side (bestOf side r) x = false := by simp [takes, hxs]
      rw [ht]
      simp only [Bool.false_eq_true, if_false]
      rcases h with ⟨h1, h2⟩ | ⟨h1, ⟨z, hz, hz1, hz2⟩, h3⟩
      · left
        refine ⟨h1, fun y hy => ?_⟩
        rcases List.mem_append.1 hy with hy | hy
        · exact h2 y hy
        · simp at hy; subst hy; exact hxs
      · right
        refine ⟨h1, ⟨z, by simp [hz], hz1, hz2⟩, fun y hy hys => ?_⟩
        rcases List.mem_append.1 hy with hy | hy
        · exact h3 y hy hys
        · simp at hy; subst hy; exact absurd hys hxs

/-- There is a buy at a sell's price just if something can be traded at some price. -/
theorem curveCross_iff {l : List Lot} (h : LotsOk l) : curveCross l = true ↔ ∃ p : Int, 1 ≤ p ∧ p ≤ 1000 ∧ 0 < min (dem l p) (sup l p) := by
  have hm := h.mem
  have e0 : curveBest 0 l = bestOf 0 l := by simp [curveBest, h]
  have e1 : curveBest 1 l = bestOf 1 l := by simp [curveBest, h]
  simp only [curveCross, e0, e1, Bool.and_eq_true, decide_eq_true_eq]
  have hd : ∀ p, 0 < dem l p ↔ ∃ x ∈ l, isDem p x = true := fun p => sumOf_pos l hm
  have hs : ∀ p, 0 < sup l p ↔ ∃ x ∈ l, isSup p x = true := fun p => sumOf_pos l hm
  constructor
  · rintro ⟨⟨h1, h2⟩, h3⟩
    rcases bestOf_spec 0 (.inl rfl) l hm with ⟨h, _⟩ | ⟨_, ⟨x, hx, hx1, hx2⟩, _⟩
    · omega
    rcases bestOf_spec 1 (.inr rfl) l hm with ⟨h, _⟩ | ⟨_, ⟨y, hy, hy1, hy2⟩, _⟩
    · omega
    have bx := (Lot.ok_iff.1 (hm x hx)).2.2.2.1
    have h4 := (hd (bestOf 0 l)).2 ⟨x, hx, by simp [isDem, hx1, hx2]⟩
    have h5 := (hs (bestOf 0 l)).2 ⟨y, hy, by simp [isSup, hy1, hy2]; omega⟩
    exact ⟨bestOf 0 l, by omega, by omega, by omega⟩
  · rintro ⟨p, hp1, hp2, hv⟩
    obtain ⟨x, hx, hx'⟩ := (hd p).1 (by omega)
    obtain ⟨y, hy, hy'⟩ := (hs p).1 (by omega)
    simp only [isDem, isSup, Bool.and_eq_true, beq_iff_eq, decide_eq_true_eq] at hx' hy'
    rcases bestOf_spec 0 (.inl rfl) l hm with ⟨_, h⟩ | ⟨h1, _, h2⟩
    · exact absurd hx'.1 (h x hx)
    rcases bestOf_spec 1 (.inr rfl) l hm with ⟨_, h⟩ | ⟨h3, _, h4⟩
    · exact absurd hy'.1 (h y hy)
    have a := h2 x hx hx'.1
    have b := h4 y hy hy'.1
    simp at a b
    omega
end Go.Proofs.YtmbboflakfokhaaDoor

/- What the document's BestOf, PricesOf and SameInts compute. -/
set_option linter.unusedSimpArgs false
set_option linter.unusedVariables false
namespace Go.Proofs.YtmbboflakfokhaaDoor
open Go.RowKit

theorem ins_spec {xs : List Int} {p : Int} {m : Nat} (hs : xs.Pairwise (· < ·)) (hm : m ≤ xs.length) (h1 : ∀ j (h : j < xs.length), j < m → xs[j] < p) (h2 : ∀ (h : m < xs.length), p < xs[m]) :
    (xs.take m ++ [p] ++ xs.drop m).Pairwise (· < ·) ∧ ∀ q, q ∈ (xs.take m ++ [p] ++ xs.drop m) ↔ q ∈ xs ∨ q = p := by
  have hg := List.pairwise_iff_getElem.1 hs
  have hd : ∀ y ∈ xs.drop m, p < y := by
    intro y hy
    obtain ⟨i, hi, rfl⟩ := List.getElem_of_mem hy
    rw [List.getElem_drop]
    simp at hi
    have a := h2 (by omega)
    by_cases e : i = 0
    · subst e; simpa using a
    · have := hg m (m + i) (by omega) (by omega) (by omega); omega
  have ht : ∀ y ∈ xs.take m, y < p := by
    intro y hy
    rw [List.mem_take_iff_getElem] at hy
    obtain ⟨i, hi, rfl⟩ := hy
    exact h1 i (by omega) (by omega)
  refine ⟨?_, fun q => ?_⟩
  · rw [List.pairwise_append, List.pairwise_append]
    refine ⟨⟨hs.sublist (List.take_sublist _ _), by simp, fun a ha b hb => by simp at hb; rw [hb]; exact ht a ha⟩, hs.sublist (List.drop_sublist _ _), fun a ha b hb => ?_⟩
    have := hd b hb
    rcases List.mem_append.1 ha with ha | ha
    · have := ht a ha; omega
    · simp at ha; omega
  · conv => rhs; rw [← List.take_append_drop m xs]
    simp only [List.mem_append, List.mem_singleton]
    constructor
    · rintro ((h | h) | h)
      · exact .inl (.inl h)
      · exact .inr h
      · exact .inl (.inr h)
    · rintro ((h | h) | h)
      · exact .inl (.inl h)
      · exact .inr h
      · exact .inl (.inr h)
theorem sorted_unique : ∀ {xs ys : List Int}, xs.Pairwise (· < ·) → ys.Pairwise (· < ·) → (∀ p, p ∈ xs ↔ p ∈ ys) → xs = ys
  | [], [], _, _, _ => rfl
  | [], y :: ys, _, _, h => by have := (h y).2 (by simp); cases this
  | x :: xs, [], _, _, h => by have := (h x).1 (by simp); cases this
  | x :: xs, y :: ys, hx, hy, h => by
    rw [List.pairwise_cons] at hx hy
    have e : x = y := by
      have a := (h x).1 (by simp)
      have b := (h y).2 (by simp)
      rcases List.mem_cons.1 a with a | a
      · exact a
      · rcases List.mem_cons.1 b with b | b
        · exact b.symm
        · have := hy.1 x a; have := hx.1 y b; omega
    subst e
    congr 1
    refine sorted_unique hx.2 hy.2 fun p => ⟨fun hp => ?_, fun hp => ?_⟩
    · have := hx.1 p hp
      rcases List.mem_cons.1 ((h p).1 (by simp [hp])) with e | e
      · omega
      · exact e
    · have := hy.1 p hp
      rcases List.mem_cons.1 ((h p).2 (by simp [hp])) with e | e
      · omega
      · exact e

/-- What k rounds of PricesOf leave. -/
def PrInv (l : List Lot) (w : World) (k : Nat) (u : Value) (xs : List Int) (wr : World) : Prop := wr.ownsRow w.heap.size 3 1 u xs.length (xs.map (Value.int .i64)) ∧ xs.Pairwise (· < ·) ∧ (∀ p, p ∈ xs ↔ ∃ x ∈ l.take k, x.price = p) ∧ xs.length ≤ k ∧ Below w.heap.size w wr
theorem PrInv.same {l : List Lot} {w wr w' : World} {k : Nat} {u : Value} {xs : List Int} {a : Lot} (h : PrInv l w k u xs wr) (ha : l[k]? = some a) (hp : a.price ∈ xs) (hx : Ex wr w') : PrInv l w (k + 1) u xs w' := by
  obtain ⟨h1, h2, h3, h4, h5⟩ := h
  refine ⟨h1.kept (Below.grownBy hx.below) (Classical.em _), h2, fun p => ?_, by omega, h5.trans (hx.below.mono h5.size)⟩
  rw [List.take_add_one, ha, h3]
  simp only [Option.toList_some, List.mem_append, List.mem_singleton]
  constructor
  · rintro ⟨x, hx, e⟩; exact ⟨x, .inl hx, e⟩
  · rintro ⟨x, hx | rfl, e⟩
    · exact ⟨x, hx, e⟩
    · rw [e] at hp; exact (h3 p).1 hp
theorem PrInv.ins {l : List Lot} {w wr w' : World} {k m : Nat} {u v : Value} {xs : List Int} {a : Lot} (h : PrInv l w k u xs wr) (ha : l[k]? = some a) (hm : m ≤ xs.length) (h1 : ∀ j (h : j < xs.length), j < m → xs[j] < a.price) (h2 : ∀ (h : m < xs.length), a.price < xs[m])
    (hv : w'.ownsRow w.heap.size 3 1 v (xs.length + 1) ((xs.take m ++ [a.price] ++ xs.drop m).map (Value.int .i64))) (hB : Below wr.heap.size wr w') : PrInv l w (k + 1) v (xs.take m ++ [a.price] ++ xs.drop m) w' := by
  obtain ⟨k1, k2, k3, k4, k5⟩ := h
  obtain ⟨i1, i2⟩ := ins_spec k2 hm h1 h2
  have el : (xs.take m ++ [a.price] ++ xs.drop m).length = xs.length + 1 := by simp; omega
  refine ⟨by rw [el]; exact hv, i1, fun p => ?_, by rw [el]; omega, k5.trans (hB.mono k5.size)⟩
  rw [i2, List.take_add_one, ha, k3]
  simp only [Option.toList_some, List.mem_append, List.mem_singleton]
  constructor
  · rintro (⟨x, hx, e⟩ | rfl)
    · exact ⟨x, .inl hx, e⟩
    · exact ⟨a, .inr rfl, rfl⟩
  · rintro ⟨x, hx | rfl, e⟩
    · exact .inl ⟨x, hx, e⟩
    · exact .inr e.symm

theorem owns_mono {w : World} {base base' : Nat} {e : TypeId} {size : Nat} {v : Value} {n : Nat} {xs : List Value} (h : w.ownsRow base e size v n xs) (hb : base' ≤ base) : w.ownsRow base' e size v n xs :=
  ⟨h.1, h.2.imp id fun ⟨g, cap, cur, h1, h2, h3⟩ => ⟨g, cap, cur, h1, Nat.le_trans hb h2, h3⟩⟩
theorem int_one {l : List Int} : ∀ u ∈ l.map (Value.int .i64), u.oneCell' = true := fun u hu => by
  obtain ⟨x, _, rfl⟩ := List.mem_map.1 hu; rfl
theorem add_none (g o j : Nat) : (⟨g, o, none⟩ : Addr).add j = ⟨g, o + j, none⟩ := by unfold Addr.add; split <;> simp_all
theorem row_take {wr W : World} {g : Nat} {xs : List Int} (hc : ∀ j (h : j < xs.length), wr.cell? ⟨g, j, none⟩ = some (.int .i64 xs[j])) (hB : Below wr.heap.size wr W) (hg : g < wr.heap.size) (m : Nat) : ∀ j u, ((xs.take m).map (Value.int .i64))[j]? = some u → W.cell? ((⟨g, 0, none⟩ : Addr).add j) = some u := fun j u hj => by
  rw [add_none, Nat.zero_add, hB.cell (p := ⟨g, j, none⟩) hg]
  rw [List.getElem?_map, Option.map_eq_some_iff] at hj
  obtain ⟨x, hx, rfl⟩ := hj
  obtain ⟨h1, h2⟩ := List.getElem?_eq_some_iff.1 hx
  rw [List.getElem_take] at h2
  simp at h1
  rw [hc j (by omega), h2]
theorem row_drop {wr W : World} {g : Nat} {xs : List Int} (hc : ∀ j (h : j < xs.length), wr.cell? ⟨g, j, none⟩ = some (.int .i64 xs[j])) (hB : Below wr.heap.size wr W) (hg : g < wr.heap.size) (m : Nat) : ∀ j u, ((xs.drop m).map (Value.int .i64))[j]? = some u → W.cell? ((⟨g, m, none⟩ : Addr).add j) = some u := fun j u hj => by
  rw [add_none, hB.cell (p := ⟨g, m + j, none⟩) hg]
  rw [List.getElem?_map, Option.map_eq_some_iff] at hj
  obtain ⟨x, hx, rfl⟩ := hj
  obtain ⟨h1, h2⟩ := List.getElem?_eq_some_iff.1 hx
  rw [List.getElem_drop] at h2
  simp at h1
  rw [hc (m + j) (by omega), h2]
theorem row_none {W : World} {ad : Addr} {xs : List Int} {m : Nat} (h : xs.length ≤ m) : ∀ j u, ((xs.drop m).map (Value.int .i64))[j]? = some u → W.cell? (ad.add j) = some u := fun j u hj => by
  rw [List.drop_of_length_le h] at hj; simp at hj
end Go.Proofs.YtmbboflakfokhaaDoor
