/- Plain facts: lots in another order, and at prices that are all greater by one number. -/
import Derived.Test.YtjkaeiioofknoaaDoorClearP
set_option linter.unusedSimpArgs false
set_option linter.unusedVariables false
namespace Go.Proofs.YtjkaeiioofknoaaDoor
open Go.RowKit

def Lot.up (d : Int) (x : Lot) : Lot := { x with price := x.price + d }
def ups (d : Int) (l : List Lot) : List Lot := (l.map (Lot.up d)).reverse

theorem idsNodup_iff (l : List Lot) : (∀ k x, l[k]? = some x → (l.take k).any (fun y => y.id == x.id) = false) ↔ (l.map Lot.id).Nodup := by
  rw [List.Nodup, List.pairwise_iff_getElem]
  constructor
  · intro h i j hi hj hij
    have hi' : i < l.length := by simpa using hi
    have hj' : j < l.length := by simpa using hj
    have := h j _ (List.getElem?_eq_getElem hj')
    rw [List.any_eq_false] at this
    have := this l[i] (by rw [List.mem_take_iff_getElem]; exact ⟨i, by omega, rfl⟩)
    simpa using this
  · intro h k x hx
    rw [List.any_eq_false]
    intro y hy
    rw [List.mem_take_iff_getElem] at hy
    obtain ⟨i, hi, rfl⟩ := hy
    obtain ⟨hk, rfl⟩ := List.getElem?_eq_some_iff.1 hx
    have := h i k (by simp; omega) (by simpa using hk) (by omega)
    simpa using this

theorem lotsOk_iff (l : List Lot) : LotsOk l ↔ l.length ≤ 120 ∧ (∀ x ∈ l, x.ok = true) ∧ (l.map Lot.id).Nodup := by
  rw [← idsNodup_iff]
  constructor
  · intro h
    refine ⟨h.1, h.mem, fun k x hx => ?_⟩
    have hk := (List.getElem?_eq_some_iff.1 hx).1
    have := h.2 k hk
    rw [codeAt_at hx, h.ok hx] at this
    simp only [if_true] at this
    cases hc : (l.take k).any (fun y => y.id == x.id) with
    | false => rfl
    | true => rw [hc] at this; simp at this
  · rintro ⟨h1, h2, h3⟩
    refine ⟨h1, fun k hk => ?_⟩
    have hx := List.getElem?_eq_getElem hk
    rw [codeAt_at hx, h2 _ (List.getElem_mem hk), h3 k _ hx]
    simp

theorem sumOf_reverse (is : Lot → Bool) : ∀ l : List Lot, sumOf is l.reverse = sumOf is l
  | [] => rfl
  | x :: l => by rw [List.reverse_cons, sumOf_append, sumOf_reverse is l]; simp only [sumOf]; omega
theorem sumOf_up (is : Lot → Bool) (d : Int) : ∀ l : List Lot, sumOf is (l.map (Lot.up d)) = sumOf (fun x => is (x.up d)) l
  | [] => rfl
  | x :: l => by rw [List.map_cons]; simp only [sumOf, sumOf_up is d l]; rfl
theorem dem_ups (d : Int) (l : List Lot) (q : Int) : dem (ups d l) q = dem l (q - d) := by
  rw [dem, ups, sumOf_reverse, sumOf_up]
  exact sumOf_congr l fun x _ => by simp only [isDem, Lot.up]; congr 1; exact decide_eq_decide.2 (by omega)
theorem sup_ups (d : Int) (l : List Lot) (q : Int) : sup (ups d l) q = sup l (q - d) := by
  rw [sup, ups, sumOf_reverse, sumOf_up]
  exact sumOf_congr l fun x _ => by simp only [isSup, Lot.up]; congr 1; exact decide_eq_decide.2 (by omega)

theorem ups_ok {d : Int} {l : List Lot} (h : LotsOk l) (hd : 0 ≤ d) (hp : ∀ x ∈ l, x.price ≤ 1000 - d) : LotsOk (ups d l) := by
  rw [lotsOk_iff] at h ⊢
  obtain ⟨h1, h2, h3⟩ := h
  refine ⟨by simpa [ups] using h1, fun x hx => ?_, ?_⟩
  · simp only [ups, List.mem_reverse, List.mem_map] at hx
    obtain ⟨y, hy, rfl⟩ := hx
    have := Lot.ok_iff.1 (h2 y hy)
    have := hp y hy
    rw [Lot.ok_iff]
    simp only [Lot.up]
    omega
  · rw [ups, List.map_reverse, (List.reverse_perm _).nodup_iff, List.map_map]
    exact h3

/-- The price moves with the lots. -/
theorem bestC_ups {d ref : Int} {l : List Lot} (h : LotsOk l) (hd : 0 ≤ d) (hp : ∀ x ∈ l, x.price ≤ 1000 - d) :
    (bestC (ups d l) (ref + d) 1000).vol = (bestC l ref 1000).vol ∧
    (((bestC l ref 1000).vol = 0 ∧ (bestC l ref 1000).price = 0 ∧ (bestC (ups d l) (ref + d) 1000).price = 0) ∨
     (0 < (bestC l ref 1000).vol ∧ (bestC (ups d l) (ref + d) 1000).price = (bestC l ref 1000).price + d)) := by
  have hm := h.mem
  have key : ∀ q, 0 < min (dem l q) (sup l q) → 1 ≤ q ∧ q ≤ 1000 - d := by
    intro q hq
    obtain ⟨x, hx, hx'⟩ := (sumOf_pos (is := isDem q) l hm).1 (by change 0 < dem l q; omega)
    obtain ⟨y, hy, hy'⟩ := (sumOf_pos (is := isSup q) l hm).1 (by change 0 < sup l q; omega)
    simp only [isDem, isSup, Bool.and_eq_true, beq_iff_eq, decide_eq_true_eq] at hx' hy'
    have := hp x hx
    have := Lot.ok_iff.1 (hm y hy)
    omega
  have e : ∀ q, (candAt (ups d l) (ref + d) q).vol = min (dem l (q - d)) (sup l (q - d)) ∧ (candAt (ups d l) (ref + d) q).sur = iabs (dem l (q - d) - sup l (q - d)) ∧ (candAt (ups d l) (ref + d) q).far = iabs (q - d - ref) ∧ (candAt (ups d l) (ref + d) q).price = q := by
    intro q
    simp only [candAt, dem_ups, sup_ups]
    exact ⟨trivial, trivial, by congr 1; omega, trivial⟩
  rcases bestC_spec l ref 1000 with ⟨h1, h2⟩ | ⟨p, p1, p2, h2, h3, h4⟩ <;> rcases bestC_spec (ups d l) (ref + d) 1000 with ⟨g1, g2⟩ | ⟨r, r1, r2, g2, g3, g4⟩
  · rw [h2, g2]; exact ⟨rfl, .inl ⟨rfl, rfl, rfl⟩⟩
  · rw [(e r).1] at g3
    have := key _ g3
    have := h1 (r - d) this.1 (by omega)
    simp only [candAt] at this
    omega
  · simp only [candAt] at h3
    have := key _ h3
    have := g1 (p + d) (by omega) (by omega)
    rw [(e _).1, show p + d - d = p by omega] at this
    omega
  · have k3 := g3
    rw [(e r).1] at g3
    have hr := key _ g3
    have l3 := h3
    simp only [candAt] at h3
    have hp' := key _ h3
    have hpr : r = p + d := by
      apply Classical.byContradiction
      intro hne
      have a := h4 (r - d) hr.1 (by omega) (by omega)
      have b := g4 (p + d) (by omega) (by omega) (by omega)
      rw [(e (p + d)).1] at b
      obtain ⟨e1, e2, e3, e4⟩ := e r
      obtain ⟨f1, f2, f3, f4⟩ := e (p + d)
      rw [show p + d - d = p by omega] at f1 f2 f3 b
      unfold Cand.better at a b
      rw [e1, e2, e3, e4, f1, f2, f3, f4] at b
      simp only [candAt] at a
      omega
    subst hpr
    rw [h2, g2, (e _).1, (e _).2.2.2, show p + d - d = p by omega]
    exact ⟨rfl, .inr ⟨l3, rfl⟩⟩
end Go.Proofs.YtjkaeiioofknoaaDoor
