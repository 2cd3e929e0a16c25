/- Plain facts: the levels of a book's side; what quantity rests. -/
import Derived.Test.YtfeeibealokhfaaDoorBOrdLaw
set_option linter.unusedSimpArgs false
set_option linter.unusedVariables false
namespace Go.Proofs.YtfeeibealokhfaaDoor
open Go.RowKit

theorem Lot.ok_parts {x : Lot} (h : x.ok = true) : (0 ≤ x.side ∧ x.side ≤ 1) ∧ (1 ≤ x.price ∧ x.price ≤ 1000) ∧ (1 ≤ x.qty ∧ x.qty ≤ 1000) := by
  simp only [Lot.ok, Bool.and_eq_true, inR, decide_eq_true_eq] at h
  omega
/-- A lot of a side, at a price. -/
def atP (side p : Int) (x : Lot) : Bool := x.side == side && x.price == p
def sumQ (l : List Lot) : Int := (l.map Lot.qty).sum
def qtyP (side p : Int) (l : List Lot) : Int := sumQ (l.filter (atP side p))
def manyP (side p : Int) (l : List Lot) : Nat := (l.filter (atP side p)).length
/-- A level. -/
structure Lvl where
  price : Int
  qty : Int
  many : Int
def Lvl.cells (x : Lvl) : List Value := [.int .i64 x.price, .int .i64 x.qty, .int .i64 x.many]
def lvlP (side : Int) (l : List Lot) (p : Int) : Lvl := ⟨p, qtyP side p l, manyP side p l⟩
/-- The prices of a side, rising. -/
def upP (side : Int) (l : List Lot) : List Int := ((List.range 1000).map fun k : Nat => (k : Int) + 1).filter fun p => decide (0 < manyP side p l)
/-- The prices of a side, better ones first. -/
def psP (side : Int) (l : List Lot) : List Int := if side = 0 then (upP side l).reverse else upP side l
def levelsB (side : Int) (l : List Lot) : List Lvl := (psP side l).map (lvlP side l)

theorem sumQ_append (l m : List Lot) : sumQ (l ++ m) = sumQ l + sumQ m := by simp [sumQ]
theorem sumQ_nil : sumQ [] = 0 := rfl
theorem sumQ_cons (x : Lot) (l : List Lot) : sumQ (x :: l) = x.qty + sumQ l := by simp [sumQ]
theorem manyP_pos {side p : Int} {l : List Lot} : 0 < manyP side p l ↔ ∃ x ∈ l, x.side = side ∧ x.price = p := by
  unfold manyP
  rw [List.length_pos_iff_exists_mem]
  constructor
  · rintro ⟨x, hx⟩
    simp only [List.mem_filter, atP, Bool.and_eq_true, beq_iff_eq] at hx
    exact ⟨x, hx⟩
  · rintro ⟨x, hx, h1, h2⟩
    exact ⟨x, by simp [List.mem_filter, atP, hx, h1, h2]⟩
theorem manyP_le (side p : Int) (l : List Lot) : manyP side p l ≤ l.length := List.length_filter_le _ _
theorem sumQ_bound {l : List Lot} (h : ∀ x ∈ l, x.ok = true) : 0 ≤ sumQ l ∧ sumQ l ≤ 1000 * (l.length : Int) := by
  induction l with
  | nil => simp [sumQ]
  | cons x l ih =>
    have := ih (fun y hy => h y (List.mem_cons_of_mem _ hy))
    have hx := (Lot.ok_parts (h x (by simp))).2.2
    rw [sumQ_cons, List.length_cons]
    omega
theorem qtyP_bound {l : List Lot} (h : ∀ x ∈ l, x.ok = true) (side p : Int) : 0 ≤ qtyP side p l ∧ qtyP side p l ≤ 1000 * (l.length : Int) := by
  have h1 := sumQ_bound (l := l.filter (atP side p)) (fun x hx => h x (List.mem_filter.1 hx).1)
  have h2 := List.length_filter_le (atP side p) l
  unfold qtyP
  omega
theorem mem_upP {side p : Int} {l : List Lot} (h : ∀ x ∈ l, x.ok = true) : p ∈ upP side l ↔ 0 < manyP side p l := by
  unfold upP
  rw [List.mem_filter]
  simp only [decide_eq_true_eq, List.mem_map, List.mem_range]
  constructor
  · exact fun h => h.2
  · intro h1
    refine ⟨?_, h1⟩
    obtain ⟨x, hx, _, hp⟩ := manyP_pos.1 h1
    have := (Lot.ok_parts (h x hx)).2.1
    exact ⟨(p - 1).toNat, by omega, by omega⟩
theorem upP_rising (side : Int) (l : List Lot) : (upP side l).Pairwise (· < ·) := by
  unfold upP
  refine List.Pairwise.filter _ ?_
  rw [List.pairwise_map]
  exact List.pairwise_lt_range.imp (by intros; omega)
theorem upP_range {side p : Int} {l : List Lot} (h : p ∈ upP side l) : 1 ≤ p ∧ p ≤ 1000 := by
  unfold upP at h
  have := (List.mem_filter.1 h).1
  simp only [List.mem_map, List.mem_range] at this
  obtain ⟨k, hk, rfl⟩ := this
  omega
theorem rising_unique : ∀ {l m : List Int}, l.Pairwise (· < ·) → m.Pairwise (· < ·) → (∀ p, p ∈ l ↔ p ∈ m) → l = m
  | [], [], _, _, _ => rfl
  | [], b :: m, _, _, h => absurd ((h b).2 (by simp)) (by simp)
  | a :: l, [], _, _, h => absurd ((h a).1 (by simp)) (by simp)
  | a :: l, b :: m, hl, hm, h => by
    obtain ⟨l1, l2⟩ := List.pairwise_cons.1 hl
    obtain ⟨m1, m2⟩ := List.pairwise_cons.1 hm
    have hab : a = b := by
      rcases List.mem_cons.1 ((h a).1 (by simp)) with e | e
      · exact e
      · rcases List.mem_cons.1 ((h b).2 (by simp)) with e2 | e2
        · exact e2.symm
        · have := m1 a e; have := l1 b e2; omega
    subst hab
    congr 1
    refine rising_unique l2 m2 fun p => ⟨fun hp => ?_, fun hp => ?_⟩
    · rcases List.mem_cons.1 ((h p).1 (by simp [hp])) with e | e
      · have := l1 p hp; omega
      · exact e
    · rcases List.mem_cons.1 ((h p).2 (by simp [hp])) with e | e
      · have := m1 p hp; omega
      · exact e
theorem sorted_upP {side : Int} {l : List Lot} (hok : ∀ x ∈ l, x.ok = true) {qs : List Int} (hn : qs.Nodup) (hm : ∀ p, p ∈ qs ↔ 0 < manyP side p l) : (qs.mergeSort fun x y => decide (x ≤ y)) = upP side l := by
  have hs : (qs.mergeSort fun x y => decide (x ≤ y)).Pairwise (· ≤ ·) := by
    have := List.pairwise_mergeSort (le := fun x y : Int => decide (x ≤ y)) (fun a b c h k => by simp at h k ⊢; omega) (fun a b => by simp; omega) qs
    exact this.imp fun h => by simpa using h
  have hnd : (qs.mergeSort fun x y => decide (x ≤ y)).Nodup := (List.mergeSort_perm _ _).nodup_iff.2 hn
  refine rising_unique ?_ (upP_rising side l) fun p => ?_
  · exact (hs.and hnd).imp fun h => by have := h.1; have := h.2; omega
  · rw [(List.mergeSort_perm _ _).mem_iff, hm, mem_upP hok]
theorem sorted_down {side : Int} {l : List Lot} (hok : ∀ x ∈ l, x.ok = true) {qs : List Int} (hn : qs.Nodup) (hm : ∀ p, p ∈ qs ↔ 0 < manyP side p l) : (qs.mergeSort fun x y => decide (y ≤ x)) = (upP side l).reverse := by
  have hs : (qs.mergeSort fun x y => decide (y ≤ x)).Pairwise (· ≥ ·) := by
    have := List.pairwise_mergeSort (le := fun x y : Int => decide (y ≤ x)) (fun a b c h k => by simp at h k ⊢; omega) (fun a b => by simp; omega) qs
    exact this.imp fun h => by simpa using h
  have hnd : (qs.mergeSort fun x y => decide (y ≤ x)).Nodup := (List.mergeSort_perm _ _).nodup_iff.2 hn
  have e : (qs.mergeSort fun x y => decide (y ≤ x)).reverse = upP side l := by
    refine rising_unique ?_ (upP_rising side l) fun p => ?_
    · rw [List.pairwise_reverse]
      exact (hs.and hnd).imp fun h => by have := h.1; have := h.2; omega
    · rw [List.mem_reverse, (List.mergeSort_perm _ _).mem_iff, hm, mem_upP hok]
  rw [← e, List.reverse_reverse]

theorem sum_one (c v : Int) (g : Int → Int) : ∀ {ps : List Int}, ps.Nodup → (ps.map fun p => (if p = c then v else 0) + g p).sum = (if c ∈ ps then v else 0) + (ps.map g).sum
  | [], _ => by simp
  | q :: ps, h => by
    obtain ⟨h1, h2⟩ := List.nodup_cons.1 h
    rw [List.map_cons, List.sum_cons, List.map_cons, List.sum_cons, sum_one c v g h2]
    by_cases e : q = c
    · subst e
      rw [if_pos rfl, if_neg h1, if_pos (by simp)]
      omega
    · rw [if_neg e]
      by_cases e2 : c ∈ ps
      · rw [if_pos e2, if_pos (List.mem_cons_of_mem _ e2)]; omega
      · rw [if_neg e2, if_neg (by simp [e2]; omega)]; omega
theorem sum_noughts (ps : List Int) : (ps.map fun _ => (0 : Int)).sum = 0 := by
  induction ps with
  | nil => rfl
  | cons q ps ih => rw [List.map_cons, List.sum_cons, ih]; rfl
/-- Summed over prices, or over lots. -/
theorem part_sum (f : Lot → Int) (side : Int) {ps : List Int} (hn : ps.Nodup) : ∀ (l : List Lot), (∀ x ∈ l, x.side = side → x.price ∈ ps) → (ps.map fun p => ((l.filter (atP side p)).map f).sum).sum = ((l.filter fun x => x.side == side).map f).sum
  | [], _ => by
    simpa using sum_noughts ps
  | x :: l, h => by
    have ih := part_sum f side hn l (fun y hy => h y (List.mem_cons_of_mem _ hy))
    by_cases hs : x.side = side
    · have hp := h x (by simp) hs
      have e : (ps.map fun p => (((x :: l).filter (atP side p)).map f).sum) = ps.map fun p => (if p = x.price then f x else 0) + ((l.filter (atP side p)).map f).sum := by
        refine List.map_congr_left fun p _ => ?_
        by_cases e : p = x.price
        · rw [if_pos e, List.filter_cons_of_pos (by simp [atP, hs, e]), List.map_cons, List.sum_cons]
        · rw [if_neg e, List.filter_cons_of_neg (by simp [atP]; omega)]; omega
      rw [e, sum_one _ _ _ hn, if_pos hp, ih, List.filter_cons_of_pos (by simp [hs]), List.map_cons, List.sum_cons]
    · have e : (ps.map fun p => (((x :: l).filter (atP side p)).map f).sum) = ps.map fun p => ((l.filter (atP side p)).map f).sum := by
        refine List.map_congr_left fun p _ => ?_
        rw [List.filter_cons_of_neg (by simp [atP]; omega)]
      rw [e, ih, List.filter_cons_of_neg (by simpa using hs)]
theorem psP_nodup (side : Int) (l : List Lot) : (psP side l).Nodup := by
  have h : (upP side l).Nodup := (upP_rising side l).imp (by intros; omega)
  unfold psP
  split
  · exact (List.reverse_perm _).nodup_iff.2 h
  · exact h
theorem mem_psP {side p : Int} {l : List Lot} (h : ∀ x ∈ l, x.ok = true) : p ∈ psP side l ↔ 0 < manyP side p l := by
  unfold psP
  split
  · rw [List.mem_reverse]; exact mem_upP h
  · exact mem_upP h
theorem levels_qty {side : Int} {l : List Lot} (h : ∀ x ∈ l, x.ok = true) : ((levelsB side l).map Lvl.qty).sum = sumQ (l.filter fun x => x.side == side) := by
  have := part_sum Lot.qty side (psP_nodup side l) l (fun x hx hs => (mem_psP h).2 (manyP_pos.2 ⟨x, hx, hs, rfl⟩))
  unfold levelsB
  rw [List.map_map]
  exact this
theorem sum_ones (l : List Lot) : (l.map fun _ => (1 : Int)).sum = l.length := by
  induction l with
  | nil => rfl
  | cons x l ih => rw [List.map_cons, List.sum_cons, ih, List.length_cons]; omega
theorem levels_many {side : Int} {l : List Lot} (h : ∀ x ∈ l, x.ok = true) : ((levelsB side l).map Lvl.many).sum = ((l.filter fun x => x.side == side).length : Int) := by
  have := part_sum (fun _ => 1) side (psP_nodup side l) l (fun x hx hs => (mem_psP h).2 (manyP_pos.2 ⟨x, hx, hs, rfl⟩))
  simp only [sum_ones] at this
  unfold levelsB
  rw [List.map_map]
  exact this
theorem sides_qty {l : List Lot} (h : ∀ x ∈ l, x.ok = true) : sumQ (l.filter fun x => x.side == 0) + sumQ (l.filter fun x => x.side == 1) = sumQ l := by
  induction l with
  | nil => rfl
  | cons x l ih =>
    have := ih (fun y hy => h y (List.mem_cons_of_mem _ hy))
    have hx := (Lot.ok_parts (h x (by simp))).1
    by_cases e : x.side = 0
    · rw [List.filter_cons_of_pos (by simp [e]), List.filter_cons_of_neg (by simp [e]), sumQ_cons, sumQ_cons]; omega
    · rw [List.filter_cons_of_neg (by simp [e]), List.filter_cons_of_pos (by simp; omega), sumQ_cons, sumQ_cons]; omega
theorem sides_many {l : List Lot} (h : ∀ x ∈ l, x.ok = true) : ((l.filter fun x => x.side == 0).length : Int) + ((l.filter fun x => x.side == 1).length : Int) = l.length := by
  induction l with
  | nil => rfl
  | cons x l ih =>
    have := ih (fun y hy => h y (List.mem_cons_of_mem _ hy))
    have hx := (Lot.ok_parts (h x (by simp))).1
    by_cases e : x.side = 0
    · rw [List.filter_cons_of_pos (by simp [e]), List.filter_cons_of_neg (by simp [e])]; simp only [List.length_cons]; omega
    · rw [List.filter_cons_of_neg (by simp [e]), List.filter_cons_of_pos (by simp; omega)]; simp only [List.length_cons]; omega
theorem manyP_snoc {side p : Int} {l : List Lot} {k : Nat} (hk : k < l.length) : manyP side p (l.take (k + 1)) = manyP side p (l.take k) + (if atP side p l[k] then 1 else 0) := by
  rw [List.take_succ_eq_append_getElem hk]
  unfold manyP
  rw [List.filter_append, List.length_append]
  congr 1
  by_cases h : atP side p l[k] = true <;> simp [h]
theorem qtyP_snoc {side p : Int} {l : List Lot} {k : Nat} (hk : k < l.length) : qtyP side p (l.take (k + 1)) = qtyP side p (l.take k) + (if atP side p l[k] then l[k].qty else 0) := by
  rw [List.take_succ_eq_append_getElem hk]
  unfold qtyP
  rw [List.filter_append, sumQ_append]
  congr 1
  by_cases h : atP side p l[k] = true <;> simp [h, sumQ]
theorem levels_len (side : Int) (l : List Lot) (h : ∀ x ∈ l, x.ok = true) : (levelsB side l).length ≤ l.length := by
  have h1 := levels_many (side := side) h
  have h2 : ((levelsB side l).length : Int) ≤ ((levelsB side l).map Lvl.many).sum := by
    have : ∀ v ∈ levelsB side l, 1 ≤ v.many := fun v hv => by
      unfold levelsB at hv
      obtain ⟨p, hp, rfl⟩ := List.mem_map.1 hv
      have := (mem_psP h).1 hp
      show 1 ≤ ((manyP side p l : Nat) : Int)
      omega
    generalize levelsB side l = L at *
    clear h1
    induction L with
    | nil => simp
    | cons v L ih =>
      have := ih (fun x hx => this x (List.mem_cons_of_mem _ hx))
      have := this
      have hv := ‹∀ x ∈ v :: L, 1 ≤ x.many› v (by simp)
      rw [List.map_cons, List.sum_cons, List.length_cons]
      omega
  have h3 := List.length_filter_le (fun x : Lot => x.side == side) l
  omega
end Go.Proofs.YtfeeibealokhfaaDoor
