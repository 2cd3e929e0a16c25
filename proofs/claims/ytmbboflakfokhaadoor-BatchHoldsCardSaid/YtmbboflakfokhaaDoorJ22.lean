import Derived.Test.YtmbboflakfokhaaDoorFills
import Derived.Test.YtmbboflakfokhaaDoorJ17
/- Plain facts: the document's fills, price by price, are those of the levels. -/
set_option linter.unusedSimpArgs false
set_option linter.unusedVariables false
namespace Go.Proofs.YtmbboflakfokhaaDoor
open Go.RowKit

/-- The lots of a side at a price. -/
def atP (side p : Int) (l : List Lot) : List Lot := l.filter fun x => x.side == side && x.price == p
/-- c levels are left, the next one is f c. -/
def refF (f : Nat → List Lot) : Nat → Int → Int → List Fil
  | 0, _, _ => []
  | c + 1, m, s => if 0 < m then (takeF (servL (f (c + 1)) m s) m).1 ++ refF f c (takeF (servL (f (c + 1)) m s) m).2 s else []
def downTo : Nat → List Nat
  | 0 => []
  | c + 1 => (c + 1) :: downTo c
theorem takeF_zero : ∀ l : List Lot, takeF l 0 = ([], 0)
  | [] => rfl
  | x :: l => by simp only [takeF]; rw [if_neg (by omega)]; exact takeF_zero l
theorem sideF_zero (s : Int) : ∀ L : List (List Lot), sideF L 0 s = []
  | [] => rfl
  | lv :: L => by simp only [sideF, takeF_zero, if_true]
theorem refF_zero (f : Nat → List Lot) (s : Int) : ∀ c, refF f c 0 s = []
  | 0 => rfl
  | c + 1 => by simp [refF]
theorem refF_eq (f : Nat → List Lot) (s : Int) : ∀ (c : Nat) (m : Int), 0 ≤ m → sideF ((downTo c).map f) m s = refF f c m s
  | 0, _, _ => rfl
  | c + 1, m, h => by
    simp only [downTo, List.map_cons, sideF, refF]
    by_cases hm : 0 < m
    · rw [if_pos hm]
      have hl := takeF_left (servL (f (c + 1)) m s) m h
      generalize takeF (servL (f (c + 1)) m s) m = T at *
      by_cases h0 : T.2 = 0
      · rw [if_pos h0, h0, refF_zero, List.append_nil]
      · rw [if_neg h0, refF_eq f s c T.2 hl.1]
    · have : m = 0 := by omega
      subst this
      simp only [takeF_zero, if_true]
      rw [if_neg (by omega)]
theorem sideF_filter (s : Int) : ∀ (L : List (List Lot)) (m : Int), 0 ≤ m → sideF (L.filter fun lv => !lv.isEmpty) m s = sideF L m s
  | [], _, _ => rfl
  | [] :: L, m, h => by
    have e : servL [] m s = [] := by
      have h0 : totL [] = 0 := rfl
      unfold servL
      rw [if_neg (by rw [h0]; omega)]
    rw [List.filter_cons_of_neg (by simp), sideF_filter s L m h]
    simp only [sideF, e, takeF]
    by_cases h0 : m = 0
    · rw [if_pos h0, h0, sideF_zero]
    · rw [if_neg h0, List.nil_append]
  | (x :: lv) :: L, m, h => by
    rw [List.filter_cons_of_pos (by simp)]
    simp only [sideF]
    have hl := takeF_left (servL (x :: lv) m s) m h
    rw [sideF_filter s L _ hl.1]
theorem downTo_pairwise : ∀ c, (downTo c).Pairwise (· > ·)
  | 0 => List.Pairwise.nil
  | c + 1 => by
    simp only [downTo, List.pairwise_cons]
    refine ⟨fun x hx => ?_, downTo_pairwise c⟩
    have : ∀ c x, x ∈ downTo c → 1 ≤ x ∧ x ≤ c := by
      intro c
      induction c with
      | zero => intro x h; cases h
      | succ c ih =>
        intro x h
        rcases List.mem_cons.1 h with rfl | h
        · omega
        · have := ih x h; omega
    have := this c x hx
    omega
theorem mem_downTo : ∀ {c x : Nat}, x ∈ downTo c ↔ 1 ≤ x ∧ x ≤ c
  | 0, x => by simp [downTo]; omega
  | c + 1, x => by
    simp only [downTo, List.mem_cons, mem_downTo (c := c)]
    omega
theorem atP_eq0 {price p : Int} {l : List Lot} (h : price ≤ p) : atP 0 p l = lotsAtP 0 price p l := by
  refine List.filter_congr fun x _ => ?_
  by_cases h2 : x.price = p
  · have e : decide (x.price < price) = false := decide_eq_false (by omega)
    have e2 : (x.side == 0 && !((0 : Int) == 0 && false) && !((0 : Int) == 1 && decide (x.price > price))) = (x.side == 0) := by simp
    simp only [mayT, e, e2]
  · have e : (x.price == p) = false := by simpa using h2
    rw [e, Bool.and_false, Bool.and_false]
theorem atP_eq1 {price p : Int} {l : List Lot} (h : p ≤ price) : atP 1 p l = lotsAtP 1 price p l := by
  refine List.filter_congr fun x _ => ?_
  by_cases h2 : x.price = p
  · have e : decide (x.price > price) = false := decide_eq_false (by omega)
    have e2 : (x.side == 1 && !((1 : Int) == 0 && decide (x.price < price)) && !((1 : Int) == 1 && false)) = (x.side == 1) := by simp
    simp only [mayT, e, e2]
  · have e : (x.price == p) = false := by simpa using h2
    rw [e, Bool.and_false, Bool.and_false]
def fOf0 (price : Int) (l : List Lot) (c : Nat) : List Lot := atP 0 (price + c - 1) l
def fOf1 (price : Int) (l : List Lot) (c : Nat) : List Lot := atP 1 (price + 1 - c) l
theorem mem_levP {side price p : Int} {l : List Lot} : p ∈ levP side price l ↔ lotsAtP side price p l ≠ [] := by
  rw [levP, (pricesL_spec _).1, lotsAtP_ne]
theorem notEmpty_iff {l : List Lot} : (!l.isEmpty) = true ↔ l ≠ [] := by cases l <;> simp
theorem side0_eq {l : List Lot} (hok : LotsOk l) {price : Int} (p1 : 1 ≤ price) (p2 : price ≤ 1000) (m s : Int) (hm : 0 ≤ m) : refF (fOf0 price l) (1001 - price).toNat m s = sideF (levelsL 0 price l) m s := by
  rw [← refF_eq _ _ _ _ hm, ← sideF_filter _ _ _ hm, List.filter_map]
  congr 1
  have hq : ((downTo (1001 - price).toNat).filter ((fun lv => !lv.isEmpty) ∘ fOf0 price l)).map (fun c : Nat => price + (c : Int) - 1) = (levP 0 price l).reverse := by
    rw [← List.reverse_reverse (List.map _ _)]
    congr 1
    refine sorted_unique ?_ (pricesL_spec _).2 fun p => ?_
    · rw [List.pairwise_reverse, List.pairwise_map]
      exact ((downTo_pairwise _).filter _).imp fun h => by omega
    · rw [List.mem_reverse, List.mem_map]
      change _ ↔ p ∈ levP 0 price l
      rw [mem_levP]
      constructor
      · rintro ⟨c, hc, rfl⟩
        rw [List.mem_filter, mem_downTo] at hc
        have h2 := notEmpty_iff.1 hc.2
        rw [fOf0, atP_eq0 (price := price) (by omega)] at h2
        exact h2
      · intro h
        obtain ⟨x, hx⟩ := List.exists_mem_of_ne_nil _ h
        obtain ⟨hx1, hx2, hx3⟩ := lotsAtP_mem hx
        have ho := Lot.ok_iff.1 (hok.mem x hx1)
        have hpr : price ≤ x.price := by
          simp only [mayT, Bool.and_eq_true, Bool.not_eq_true', Bool.and_eq_false_iff, beq_iff_eq, decide_eq_false_iff_not] at hx2
          rcases hx2.1.2 with h | h
          · simp at h
          · omega
        refine ⟨(p + 1 - price).toNat, ?_, by omega⟩
        rw [List.mem_filter, mem_downTo]
        refine ⟨by omega, notEmpty_iff.2 ?_⟩
        rw [fOf0, show price + ((p + 1 - price).toNat : Int) - 1 = p by omega, atP_eq0 (price := price) (by omega)]
        exact h
  rw [levelsL, if_pos rfl, ← hq, List.map_map]
  refine List.map_congr_left fun c hc => ?_
  rw [List.mem_filter, mem_downTo] at hc
  exact atP_eq0 (price := price) (by omega)
theorem side1_eq {l : List Lot} (hok : LotsOk l) {price : Int} (p1 : 1 ≤ price) (p2 : price ≤ 1000) (m s : Int) (hm : 0 ≤ m) : refF (fOf1 price l) price.toNat m s = sideF (levelsL 1 price l) m s := by
  rw [← refF_eq _ _ _ _ hm, ← sideF_filter _ _ _ hm, List.filter_map]
  congr 1
  have hq : ((downTo price.toNat).filter ((fun lv => !lv.isEmpty) ∘ fOf1 price l)).map (fun c : Nat => price + 1 - (c : Int)) = levP 1 price l := by
    refine sorted_unique ?_ (pricesL_spec _).2 fun p => ?_
    · rw [List.pairwise_map]
      exact ((downTo_pairwise _).filter _).imp fun h => by omega
    · rw [List.mem_map]
      change _ ↔ p ∈ levP 1 price l
      rw [mem_levP]
      constructor
      · rintro ⟨c, hc, rfl⟩
        rw [List.mem_filter, mem_downTo] at hc
        have h2 := notEmpty_iff.1 hc.2
        rw [fOf1, atP_eq1 (price := price) (by omega)] at h2
        exact h2
      · intro h
        obtain ⟨x, hx⟩ := List.exists_mem_of_ne_nil _ h
        obtain ⟨hx1, hx2, hx3⟩ := lotsAtP_mem hx
        have ho := Lot.ok_iff.1 (hok.mem x hx1)
        have hpr : x.price ≤ price := by
          simp only [mayT, Bool.and_eq_true, Bool.not_eq_true', Bool.and_eq_false_iff, beq_iff_eq, decide_eq_false_iff_not] at hx2
          rcases hx2.2 with h | h
          · simp at h
          · omega
        refine ⟨(price + 1 - p).toNat, ?_, by omega⟩
        rw [List.mem_filter, mem_downTo]
        refine ⟨by omega, notEmpty_iff.2 ?_⟩
        rw [fOf1, show price + 1 - ((price + 1 - p).toNat : Int) = p by omega, atP_eq1 (price := price) (by omega)]
        exact h
  rw [levelsL, if_neg (by decide), ← hq, List.map_map]
  refine List.map_congr_left fun c hc => ?_
  rw [List.mem_filter, mem_downTo] at hc
  exact atP_eq1 (price := price) (by omega)
end Go.Proofs.YtmbboflakfokhaaDoor

/- Plain facts: who gets how much is fair, and a seed parts at most one level of a side. -/
set_option linter.unusedSimpArgs false
set_option linter.unusedVariables false
namespace Go.Proofs.YtmbboflakfokhaaDoor
open Go.RowKit

/-- What an ID gets. -/
def gotF : List Fil → Int → Int
  | [], _ => 0
  | f :: x, id => (if f.id = id then f.qty else 0) + gotF x id
theorem gotF_append (a b : List Fil) (id : Int) : gotF (a ++ b) id = gotF a id + gotF b id := by
  induction a with
  | nil => simp [gotF]
  | cons f a ih => simp only [List.cons_append, gotF, ih]; omega
theorem gotF_none {x : List Fil} {id : Int} (h : ∀ f ∈ x, f.id ≠ id) : gotF x id = 0 := by
  induction x with
  | nil => rfl
  | cons f x ih => simp only [gotF, if_neg (h f (by simp)), ih (fun g hg => h g (by simp [hg]))]; rfl
theorem gotF_bounds : ∀ (x : List Fil) (id : Int), (∀ f ∈ x, 1 ≤ f.qty ∧ f.qty ≤ 1000) → 0 ≤ gotF x id ∧ gotF x id ≤ 1000 * x.length
  | [], _, _ => by simp [gotF]
  | f :: x, id, h => by
    have ih := gotF_bounds x id (fun g hg => h g (by simp [hg]))
    have := h f (by simp)
    simp only [gotF, List.length_cons]
    split <;> omega
theorem gotF_step {x : List Fil} {k : Nat} {f : Fil} (h : x[k]? = some f) (id : Int) : gotF (x.take (k + 1)) id = gotF (x.take k) id + if f.id = id then f.qty else 0 := by
  rw [List.take_add_one, h, gotF_append]
  simp [gotF]
/-- The whole of some fills. -/
def qtyF : List Fil → Int
  | [] => 0
  | f :: x => f.qty + qtyF x
theorem qtyF_append (a b : List Fil) : qtyF (a ++ b) = qtyF a + qtyF b := by
  induction a with
  | nil => simp [qtyF]
  | cons f a ih => simp only [List.cons_append, qtyF, ih]; omega
theorem totL_cons (x : Lot) (l : List Lot) : totL (x :: l) = x.qty + totL l := by simp [totL, sumOf]
theorem totL_append (a b : List Lot) : totL (a ++ b) = totL a + totL b := sumOf_append _ a b
theorem totL_nonneg {l : List Lot} (h : ∀ x ∈ l, 1 ≤ x.qty) : 0 ≤ totL l := by
  induction l with
  | nil => exact Int.le_refl _
  | cons x l ih => rw [totL_cons]; have := h x (by simp); have := ih (fun y hy => h y (by simp [hy])); omega
theorem totL_perm {a b : List Lot} (h : a.Perm b) : totL a = totL b := by
  induction h with
  | nil => rfl
  | cons x _ ih => rw [totL_cons, totL_cons, ih]
  | swap x y l => simp only [totL_cons]; omega
  | trans _ _ h1 h2 => rw [h1, h2]
/-- Told apart by their IDs. -/
def IdsApart (l : List Lot) : Prop := l.Pairwise fun x y => x.id ≠ y.id
theorem IdsApart.eq {l : List Lot} (h : IdsApart l) : ∀ {x y : Lot}, x ∈ l → y ∈ l → x.id = y.id → x = y := by
  induction l with
  | nil => intro x y hx; cases hx
  | cons z l ih =>
    obtain ⟨h1, h2⟩ := List.pairwise_cons.1 h
    intro x y hx hy e
    rcases List.mem_cons.1 hx with ex | hx2 <;> rcases List.mem_cons.1 hy with ey | hy2
    · rw [ex, ey]
    · exact absurd (ex ▸ e) (h1 y hy2)
    · exact absurd (ey ▸ e.symm) (h1 x hx2)
    · exact ih h2 hx2 hy2 e
theorem LotsOk.apart {l : List Lot} (h : LotsOk l) : IdsApart l := by
  refine List.pairwise_iff_getElem.2 fun i j hi hj hij e => ?_
  have hc := h.2 j hj
  have hg : l[j]? = some l[j] := List.getElem?_eq_getElem hj
  rw [codeAt_at hg, if_pos (h.ok hg)] at hc
  have : (l.take j).any (fun y => y.id == (l[j]).id) = true := by
    rw [List.any_eq_true]
    refine ⟨l[i], ?_, by simpa using e⟩
    have : (l.take j)[i]'(by simp; omega) = l[i] := by simp
    rw [← this]
    exact List.getElem_mem _
  rw [if_pos this] at hc
  cases hc

/- what some lots get, one after another -/
theorem takeF_ids : ∀ (l : List Lot) (m : Int), ∀ f ∈ (takeF l m).1, 1 ≤ f.qty ∧ ∃ x ∈ l, x.id = f.id ∧ f.qty ≤ x.qty
  | [], _, f, h => by simp [takeF] at h
  | x :: l, m, f, h => by
    simp only [takeF] at h
    split at h
    · rcases List.mem_cons.1 h with rfl | h
      · exact ⟨by simp only; omega, x, by simp, rfl, by simp only; omega⟩
      · obtain ⟨h1, y, hy, h2⟩ := takeF_ids l _ f h
        exact ⟨h1, y, by simp [hy], h2⟩
    · obtain ⟨h1, y, hy, h2⟩ := takeF_ids l _ f h
      exact ⟨h1, y, by simp [hy], h2⟩
theorem takeF_none {l : List Lot} {m : Int} {id : Int} (h : ∀ x ∈ l, x.id ≠ id) : gotF (takeF l m).1 id = 0 :=
  gotF_none fun f hf e => by
    obtain ⟨_, x, hx, hi, _⟩ := takeF_ids l m f hf
    exact h x hx (hi.trans e)
theorem takeF_got : ∀ (l : List Lot) (m : Int), 0 ≤ m → IdsApart l → (∀ x ∈ l, 1 ≤ x.qty) →
    (∀ x ∈ l, 0 ≤ gotF (takeF l m).1 x.id ∧ gotF (takeF l m).1 x.id ≤ x.qty) ∧ (totL l ≤ m → ∀ x ∈ l, gotF (takeF l m).1 x.id = x.qty) ∧ (takeF l m).2 = max (m - totL l) 0 ∧ qtyF (takeF l m).1 = m - (takeF l m).2
  | [], m, h0, _, _ => by
    refine ⟨fun x hx => by simp at hx, fun _ x hx => by simp at hx, ?_, ?_⟩
    · simp only [takeF, totL, sumOf]; omega
    · simp only [takeF, qtyF]; omega
  | x :: l, m, h0, ha, hq => by
    obtain ⟨h1, h2⟩ := List.pairwise_cons.1 ha
    have hx := hq x (by simp)
    have hqs := fun y hy => hq y (List.mem_cons_of_mem x hy)
    have hn := totL_nonneg hqs
    have hno : ∀ m, gotF (takeF l m).1 x.id = 0 := fun m => takeF_none fun y hy e => h1 y hy e.symm
    simp only [takeF, totL_cons]
    split
    · obtain ⟨i1, i2, i3, i4⟩ := takeF_got l (m - min x.qty m) (by omega) h2 hqs
      have hd : ∀ y ∈ l, gotF ((⟨x.id, min x.qty m⟩ : Fil) :: (takeF l (m - min x.qty m)).1) y.id = gotF (takeF l (m - min x.qty m)).1 y.id := fun y hy => by
        simp only [gotF, if_neg (h1 y hy)]; omega
      have hh : gotF ((⟨x.id, min x.qty m⟩ : Fil) :: (takeF l (m - min x.qty m)).1) x.id = min x.qty m := by
        simp only [gotF, hno, if_true]; omega
      refine ⟨fun y hy => ?_, fun ht y hy => ?_, ?_, ?_⟩
      · rcases List.mem_cons.1 hy with rfl | hy
        · rw [hh]; omega
        · rw [hd y hy]; exact i1 y hy
      · rcases List.mem_cons.1 hy with rfl | hy
        · rw [hh]; omega
        · rw [hd y hy]; exact i2 (by omega) y hy
      · simp only; rw [i3]; omega
      · simp only [qtyF]; omega
    · obtain ⟨i1, i2, i3, i4⟩ := takeF_got l m h0 h2 hqs
      refine ⟨fun y hy => ?_, fun ht y hy => ?_, ?_, ?_⟩
      · rcases List.mem_cons.1 hy with rfl | hy
        · rw [hno]; omega
        · exact i1 y hy
      · omega
      · rw [i3]; omega
      · exact i4

/- a turn keeps the lots -/
theorem swp_perm {L : List Int} {i k : Nat} (hi : i < L.length) (hk : k < L.length) : (swp L i k).Perm L := by
  unfold swp
  rw [List.getD_eq_getElem?_getD, List.getD_eq_getElem?_getD, List.getElem?_eq_getElem hi, List.getElem?_eq_getElem hk]
  exact List.set_set_perm hi hk
theorem shufF_perm : ∀ (i : Nat) (L : List Int) (s : Int), i < L.length → (shufF i L s).Perm L
  | 0, L, _, _ => List.Perm.refl L
  | i + 1, L, s, hi => by
    have e := Int.emod_nonneg (nxt s) (show (i : Int) + 2 ≠ 0 by omega)
    have e' := Int.emod_lt_of_pos (nxt s) (show 0 < (i : Int) + 2 by omega)
    simp only [shufF]
    exact (shufF_perm i _ _ (by rw [swp_len]; omega)).trans (swp_perm hi (by omega))
theorem shufL_perm (n : Nat) (s : Int) : (shufL n s).Perm (rangeI n) := by
  by_cases h : n = 0
  · subst h; exact List.Perm.refl _
  · exact shufF_perm _ _ _ (by rw [rangeI_len]; omega)
theorem turnL_perm (l : List Lot) (s : Int) : (turnL l s).Perm l := by
  have h := (shufL_perm l.length s).map fun k => l.getD k.toNat lot0
  refine h.trans (List.Perm.of_eq ?_)
  refine List.ext_getElem (by simp [rangeI]) fun i h1 h2 => ?_
  simp [rangeI, List.getElem?_eq_getElem h2]
theorem servL_perm (l : List Lot) (m s : Int) : (servL l m s).Perm l := by
  unfold servL
  split
  · exact turnL_perm l s
  · exact List.Perm.refl l

/- a side -/
theorem sideF_cons (lv : List Lot) (r : List (List Lot)) (m s : Int) : sideF (lv :: r) m s = (takeF (servL lv m s) m).1 ++ sideF r (takeF (servL lv m s) m).2 s := by
  rw [sideF]
  split
  · rename_i h; rw [h, sideF_zero, List.append_nil]
  · rfl
theorem sideF_ids : ∀ (L : List (List Lot)) (m s : Int), ∀ f ∈ sideF L m s, 1 ≤ f.qty ∧ ∃ x ∈ L.flatten, x.id = f.id ∧ f.qty ≤ x.qty
  | [], _, _, f, h => by simp [sideF] at h
  | lv :: r, m, s, f, h => by
    rw [sideF_cons] at h
    rcases List.mem_append.1 h with h | h
    · obtain ⟨h1, x, hx, h2⟩ := takeF_ids _ _ f h
      exact ⟨h1, x, by simp [(servL_perm lv m s).mem_iff.1 hx], h2⟩
    · obtain ⟨h1, x, hx, h2⟩ := sideF_ids r _ s f h
      exact ⟨h1, x, by rw [List.flatten_cons]; exact List.mem_append_right _ hx, h2⟩
theorem sideF_none {L : List (List Lot)} {m s id : Int} (h : ∀ x ∈ L.flatten, x.id ≠ id) : gotF (sideF L m s) id = 0 :=
  gotF_none fun f hf e => by
    obtain ⟨_, x, hx, hi, _⟩ := sideF_ids L m s f hf
    exact h x hx (hi.trans e)
/-- The facts about a level that is served, and about what follows it. -/
theorem serv_facts {lv : List Lot} {m s : Int} (h0 : 0 ≤ m) (ha : IdsApart lv) (hq : ∀ x ∈ lv, 1 ≤ x.qty) :
    (∀ x ∈ lv, 0 ≤ gotF (takeF (servL lv m s) m).1 x.id ∧ gotF (takeF (servL lv m s) m).1 x.id ≤ x.qty) ∧ (totL lv ≤ m → ∀ x ∈ lv, gotF (takeF (servL lv m s) m).1 x.id = x.qty) ∧ (takeF (servL lv m s) m).2 = max (m - totL lv) 0 ∧ qtyF (takeF (servL lv m s) m).1 = m - (takeF (servL lv m s) m).2 := by
  have hp := servL_perm lv m s
  have ha2 : IdsApart (servL lv m s) := (List.Perm.pairwise_iff (fun h e => h e.symm) hp).2 ha
  obtain ⟨h1, h2, h3, h4⟩ := takeF_got (servL lv m s) m h0 ha2 (fun x hx => hq x (hp.mem_iff.1 hx))
  rw [totL_perm hp] at h2 h3
  exact ⟨fun x hx => h1 x (hp.mem_iff.2 hx), fun ht x hx => h2 ht x (hp.mem_iff.2 hx), h3, h4⟩
theorem apart_cons {lv : List Lot} {r : List (List Lot)} (h : IdsApart (lv :: r).flatten) : IdsApart lv ∧ IdsApart r.flatten ∧ ∀ x ∈ lv, ∀ y ∈ r.flatten, x.id ≠ y.id := by
  rw [List.flatten_cons] at h
  exact List.pairwise_append.1 h
theorem got_head {lv : List Lot} {r : List (List Lot)} {m s : Int} (h : IdsApart (lv :: r).flatten) {x : Lot} (hx : x ∈ lv) : gotF (sideF (lv :: r) m s) x.id = gotF (takeF (servL lv m s) m).1 x.id := by
  rw [sideF_cons, gotF_append, sideF_none (L := r) (fun y hy e => (apart_cons h).2.2 x hx y hy e.symm)]; omega
theorem got_rest {lv : List Lot} {r : List (List Lot)} {m s : Int} (h : IdsApart (lv :: r).flatten) {x : Lot} (hx : x ∈ r.flatten) : gotF (sideF (lv :: r) m s) x.id = gotF (sideF r (takeF (servL lv m s) m).2 s) x.id := by
  rw [sideF_cons, gotF_append, takeF_none (fun y hy => (apart_cons h).2.2 y ((servL_perm lv m s).mem_iff.1 hy) x hx)]; omega
theorem sideF_bd : ∀ (L : List (List Lot)) (m s : Int), 0 ≤ m → IdsApart L.flatten → (∀ x ∈ L.flatten, 1 ≤ x.qty) →
    (∀ x ∈ L.flatten, 0 ≤ gotF (sideF L m s) x.id ∧ gotF (sideF L m s) x.id ≤ x.qty) ∧ qtyF (sideF L m s) = min m (totL L.flatten)
  | [], m, s, h0, _, _ => by
    refine ⟨fun x hx => by simp at hx, ?_⟩
    simp only [sideF, qtyF, List.flatten_nil, totL, sumOf]
    omega
  | lv :: r, m, s, h0, ha, hq => by
    have hq1 : ∀ x ∈ lv, 1 ≤ x.qty := fun x hx => hq x (by simp [hx])
    have hq2 : ∀ x ∈ r.flatten, 1 ≤ x.qty := fun x hx => hq x (by rw [List.flatten_cons]; exact List.mem_append_right _ hx)
    obtain ⟨f1, f2, f3, f4⟩ := serv_facts (m := m) (s := s) h0 (apart_cons ha).1 hq1
    obtain ⟨i1, i2⟩ := sideF_bd r (takeF (servL lv m s) m).2 s (by omega) (apart_cons ha).2.1 hq2
    have := totL_nonneg hq1
    have := totL_nonneg hq2
    refine ⟨fun x hx => ?_, ?_⟩
    · rw [List.flatten_cons] at hx
      rcases List.mem_append.1 hx with hx | hx
      · rw [got_head ha hx]; exact f1 x hx
      · rw [got_rest ha hx]; exact i1 x hx
    · rw [sideF_cons, qtyF_append, i2, f4, List.flatten_cons, totL_append, f3]
      omega
theorem sideF_best (better : Lot → Lot → Prop) : ∀ (L : List (List Lot)) (m s : Int), 0 ≤ m → IdsApart L.flatten → (∀ x ∈ L.flatten, 1 ≤ x.qty) →
    (∀ lv ∈ L, ∀ x ∈ lv, ∀ y ∈ lv, ¬ better y x) → L.Pairwise (fun a b => ∀ x ∈ a, ∀ y ∈ b, ¬ better y x) →
    ∀ x ∈ L.flatten, ∀ y ∈ L.flatten, better y x → 0 < gotF (sideF L m s) x.id → gotF (sideF L m s) y.id = y.qty
  | [], m, s, _, _, _, _, _, x, hx, _, _ => by simp at hx
  | lv :: r, m, s, h0, ha, hq, hb1, hb2, x, hx, y, hy => by
    intro hb hg
    have hq1 : ∀ x ∈ lv, 1 ≤ x.qty := fun x hx => hq x (by simp [hx])
    have hq2 : ∀ x ∈ r.flatten, 1 ≤ x.qty := fun x hx => hq x (by rw [List.flatten_cons]; exact List.mem_append_right _ hx)
    obtain ⟨f1, f2, f3, f4⟩ := serv_facts (m := m) (s := s) h0 (apart_cons ha).1 hq1
    obtain ⟨p1, p2⟩ := List.pairwise_cons.1 hb2
    rw [List.flatten_cons] at hx hy
    rcases List.mem_append.1 hx with hx | hx <;> rcases List.mem_append.1 hy with hy | hy
    · exact absurd hb (hb1 lv (by simp) x hx y hy)
    · obtain ⟨b, hbm, hyb⟩ := List.mem_flatten.1 hy
      exact absurd hb (p1 b hbm x hx y hyb)
    · rw [got_head ha hy]
      rw [got_rest ha hx] at hg
      refine f2 ?_ y hy
      refine Classical.byContradiction fun hn => ?_
      have h2 : (takeF (servL lv m s) m).2 = 0 := by omega
      rw [h2, sideF_zero] at hg
      simp [gotF] at hg
    · rw [got_rest ha hy]
      rw [got_rest ha hx] at hg
      exact sideF_best better r _ s (by omega) (apart_cons ha).2.1 hq2 (fun lv h => hb1 lv (by simp [h])) p2 x hx y hy hb hg
theorem servL_whole {lv : List Lot} {m : Int} (h : totL lv ≤ m) (s : Int) : servL lv m s = lv := by
  unfold servL; exact if_neg (by omega)
theorem sideF_whole : ∀ (L : List (List Lot)) (m a b : Int), IdsApart L.flatten → (∀ x ∈ L.flatten, 1 ≤ x.qty) → totL L.flatten ≤ m → sideF L m a = sideF L m b
  | [], _, _, _, _, _, _ => rfl
  | lv :: r, m, a, b, ha, hq, ht => by
    have hq1 : ∀ x ∈ lv, 1 ≤ x.qty := fun x hx => hq x (by simp [hx])
    have hq2 : ∀ x ∈ r.flatten, 1 ≤ x.qty := fun x hx => hq x (by rw [List.flatten_cons]; exact List.mem_append_right _ hx)
    rw [List.flatten_cons, totL_append] at ht
    have n1 := totL_nonneg hq1
    have n2 := totL_nonneg hq2
    have f3 := (takeF_got lv m (by omega) (apart_cons ha).1 hq1).2.2.1
    rw [sideF_cons, sideF_cons, servL_whole (by omega), servL_whole (by omega)]
    rw [sideF_whole r _ a b (apart_cons ha).2.1 hq2 (by omega)]
theorem sideF_parted : ∀ (L : List (List Lot)) (m a b : Int), 0 ≤ m → IdsApart L.flatten → (∀ x ∈ L.flatten, 1 ≤ x.qty) → (∀ lv ∈ L, ∃ p, ∀ x ∈ lv, x.price = p) →
    ∃ p, ∀ x ∈ L.flatten, gotF (sideF L m a) x.id ≠ gotF (sideF L m b) x.id → x.price = p
  | [], _, _, _, _, _, _, _ => ⟨0, fun x hx => by simp at hx⟩
  | lv :: r, m, a, b, h0, ha, hq, hp => by
    have hq1 : ∀ x ∈ lv, 1 ≤ x.qty := fun x hx => hq x (by simp [hx])
    have hq2 : ∀ x ∈ r.flatten, 1 ≤ x.qty := fun x hx => hq x (by rw [List.flatten_cons]; exact List.mem_append_right _ hx)
    by_cases ht : totL lv ≤ m
    · have f3 := (takeF_got lv m h0 (apart_cons ha).1 hq1).2.2.1
      obtain ⟨p, hpp⟩ := sideF_parted r (takeF lv m).2 a b (by omega) (apart_cons ha).2.1 hq2 (fun lv h => hp lv (by simp [h]))
      refine ⟨p, fun x hx hne => ?_⟩
      rw [List.flatten_cons] at hx
      rcases List.mem_append.1 hx with hx | hx
      · rw [got_head ha hx, got_head ha hx, servL_whole ht, servL_whole ht] at hne
        exact absurd rfl hne
      · rw [got_rest ha hx, got_rest ha hx, servL_whole ht, servL_whole ht] at hne
        exact hpp x hx hne
    · obtain ⟨p, hpp⟩ := hp lv (by simp)
      have fa := (serv_facts (m := m) (s := a) h0 (apart_cons ha).1 hq1).2.2.1
      have fb := (serv_facts (m := m) (s := b) h0 (apart_cons ha).1 hq1).2.2.1
      refine ⟨p, fun x hx hne => ?_⟩
      rw [List.flatten_cons] at hx
      rcases List.mem_append.1 hx with hx | hx
      · exact hpp x hx
      · rw [got_rest ha hx, got_rest ha hx, show (takeF (servL lv m a) m).2 = 0 by omega, show (takeF (servL lv m b) m).2 = 0 by omega, sideF_zero, sideF_zero] at hne
        exact absurd rfl hne
end Go.Proofs.YtmbboflakfokhaaDoor
