/- Plain facts: who gets how much is fair, and a seed parts at most one level of a side. -/
import Derived.Test.YtjkaeiioofknoaaDoorRefSideP
import Derived.Test.YtjkaeiioofknoaaDoorClearP
import Derived.Test.YtjkaeiioofknoaaDoorFills
set_option linter.unusedSimpArgs false
set_option linter.unusedVariables false
namespace Go.Proofs.YtjkaeiioofknoaaDoor
open Go.RowKit

/-- What an ID gets. -/
def gotF : List Fil → Int → Int
  | [], _ => 0
  | f :: x, id => (if f.id = id then f.qty else 0) + gotF x id
theorem gotF_append (a b : List Fil) (id : Int) : gotF (a ++ b) id = gotF a id + gotF b id := by
  induction a with
  | nil => simp [gotF]
  | cons f a ih => simp only [List.cons_append, gotF, ih]; omega
theorem gotF_none {x : List Fil} {id : Int} (h : ∀ f ∈ x, f.id ≠ id) : gotF x id = 0 := by
  induction x with
  | nil => rfl
  | cons f x ih => simp only [gotF, if_neg (h f (by simp)), ih (fun g hg => h g (by simp [hg]))]; rfl
theorem gotF_bounds : ∀ (x : List Fil) (id : Int), (∀ f ∈ x, 1 ≤ f.qty ∧ f.qty ≤ 1000) → 0 ≤ gotF x id ∧ gotF x id ≤ 1000 * x.length
  | [], _, _ => by simp [gotF]
  | f :: x, id, h => by
    have ih := gotF_bounds x id (fun g hg => h g (by simp [hg]))
    have := h f (by simp)
    simp only [gotF, List.length_cons]
    split <;> omega
theorem gotF_step {x : List Fil} {k : Nat} {f : Fil} (h : x[k]? = some f) (id : Int) : gotF (x.take (k + 1)) id = gotF (x.take k) id + if f.id = id then f.qty else 0 := by
  rw [List.take_add_one, h, gotF_append]
  simp [gotF]
/-- The whole of some fills. -/
def qtyF : List Fil → Int
  | [] => 0
  | f :: x => f.qty + qtyF x
theorem qtyF_append (a b : List Fil) : qtyF (a ++ b) = qtyF a + qtyF b := by
  induction a with
  | nil => simp [qtyF]
  | cons f a ih => simp only [List.cons_append, qtyF, ih]; omega
theorem totL_cons (x : Lot) (l : List Lot) : totL (x :: l) = x.qty + totL l := by simp [totL, sumOf]
theorem totL_append (a b : List Lot) : totL (a ++ b) = totL a + totL b := sumOf_append _ a b
theorem totL_nonneg {l : List Lot} (h : ∀ x ∈ l, 1 ≤ x.qty) : 0 ≤ totL l := by
  induction l with
  | nil => exact Int.le_refl _
  | cons x l ih => rw [totL_cons]; have := h x (by simp); have := ih (fun y hy => h y (by simp [hy])); omega
theorem totL_perm {a b : List Lot} (h : a.Perm b) : totL a = totL b := by
  induction h with
  | nil => rfl
  | cons x _ ih => rw [totL_cons, totL_cons, ih]
  | swap x y l => simp only [totL_cons]; omega
  | trans _ _ h1 h2 => rw [h1, h2]
/-- Told apart by their IDs. -/
def IdsApart (l : List Lot) : Prop := l.Pairwise fun x y => x.id ≠ y.id
theorem IdsApart.eq {l : List Lot} (h : IdsApart l) : ∀ {x y : Lot}, x ∈ l → y ∈ l → x.id = y.id → x = y := by
  induction l with
  | nil => intro x y hx; cases hx
  | cons z l ih =>
    obtain ⟨h1, h2⟩ := List.pairwise_cons.1 h
    intro x y hx hy e
    rcases List.mem_cons.1 hx with ex | hx2 <;> rcases List.mem_cons.1 hy with ey | hy2
    · rw [ex, ey]
    · exact absurd (ex ▸ e) (h1 y hy2)
    · exact absurd (ey ▸ e.symm) (h1 x hx2)
    · exact ih h2 hx2 hy2 e
theorem LotsOk.apart {l : List Lot} (h : LotsOk l) : IdsApart l := by
  refine List.pairwise_iff_getElem.2 fun i j hi hj hij e => ?_
  have hc := h.2 j hj
  have hg : l[j]? = some l[j] := List.getElem?_eq_getElem hj
  rw [codeAt_at hg, if_pos (h.ok hg)] at hc
  have : (l.take j).any (fun y => y.id == (l[j]).id) = true := by
    rw [List.any_eq_true]
    refine ⟨l[i], ?_, by simpa using e⟩
    have : (l.take j)[i]'(by simp; omega) = l[i] := by simp
    rw [← this]
    exact List.getElem_mem _
  rw [if_pos this] at hc
  cases hc

/- what some lots get, one after another -/
theorem takeF_ids : ∀ (l : List Lot) (m : Int), ∀ f ∈ (takeF l m).1, 1 ≤ f.qty ∧ ∃ x ∈ l, x.id = f.id ∧ f.qty ≤ x.qty
  | [], _, f, h => by simp [takeF] at h
  | x :: l, m, f, h => by
    simp only [takeF] at h
    split at h
    · rcases List.mem_cons.1 h with rfl | h
      · exact ⟨by simp only; omega, x, by simp, rfl, by simp only; omega⟩
      · obtain ⟨h1, y, hy, h2⟩ := takeF_ids l _ f h
        exact ⟨h1, y, by simp [hy], h2⟩
    · obtain ⟨h1, y, hy, h2⟩ := takeF_ids l _ f h
      exact ⟨h1, y, by simp [hy], h2⟩
theorem takeF_none {l : List Lot} {m : Int} {id : Int} (h : ∀ x ∈ l, x.id ≠ id) : gotF (takeF l m).1 id = 0 :=
  gotF_none fun f hf e => by
    obtain ⟨_, x, hx, hi, _⟩ := takeF_ids l m f hf
    exact h x hx (hi.trans e)
theorem takeF_got : ∀ (l : List Lot) (m : Int), 0 ≤ m → IdsApart l → (∀ x ∈ l, 1 ≤ x.qty) →
    (∀ x ∈ l, 0 ≤ gotF (takeF l m).1 x.id ∧ gotF (takeF l m).1 x.id ≤ x.qty) ∧ (totL l ≤ m → ∀ x ∈ l, gotF (takeF l m).1 x.id = x.qty) ∧ (takeF l m).2 = max (m - totL l) 0 ∧ qtyF (takeF l m).1 = m - (takeF l m).2
  | [], m, h0, _, _ => by
    refine ⟨fun x hx => by simp at hx, fun _ x hx => by simp at hx, ?_, ?_⟩
    · simp only [takeF, totL, sumOf]; omega
    · simp only [takeF, qtyF]; omega
  | x :: l, m, h0, ha, hq => by
    obtain ⟨h1, h2⟩ := List.pairwise_cons.1 ha
    have hx := hq x (by simp)
    have hqs := fun y hy => hq y (List.mem_cons_of_mem x hy)
    have hn := totL_nonneg hqs
    have hno : ∀ m, gotF (takeF l m).1 x.id = 0 := fun m => takeF_none fun y hy e => h1 y hy e.symm
    simp only [takeF, totL_cons]
    split
    · obtain ⟨i1, i2, i3, i4⟩ := takeF_got l (m - min x.qty m) (by omega) h2 hqs
      have hd : ∀ y ∈ l, gotF ((⟨x.id, min x.qty m⟩ : Fil) :: (takeF l (m - min x.qty m)).1) y.id = gotF (takeF l (m - min x.qty m)).1 y.id := fun y hy => by
        simp only [gotF, if_neg (h1 y hy)]; omega
      have hh : gotF ((⟨x.id, min x.qty m⟩ : Fil) :: (takeF l (m - min x.qty m)).1) x.id = min x.qty m := by
        simp only [gotF, hno, if_true]; omega
      refine ⟨fun y hy => ?_, fun ht y hy => ?_, ?_, ?_⟩
      · rcases List.mem_cons.1 hy with rfl | hy
        · rw [hh]; omega
        · rw [hd y hy]; exact i1 y hy
      · rcases List.mem_cons.1 hy with rfl | hy
        · rw [hh]; omega
        · rw [hd y hy]; exact i2 (by omega) y hy
      · simp only; rw [i3]; omega
      · simp only [qtyF]; omega
    · obtain ⟨i1, i2, i3, i4⟩ := takeF_got l m h0 h2 hqs
      refine ⟨fun y hy => ?_, fun ht y hy => ?_, ?_, ?_⟩
      · rcases List.mem_cons.1 hy with rfl | hy
        · rw [hno]; omega
        · exact i1 y hy
      · omega
      · rw [i3]; omega
      · exact i4

/- a turn keeps the lots -/
theorem swp_perm {L : List Int} {i k : Nat} (hi : i < L.length) (hk : k < L.length) : (swp L i k).Perm L := by
  unfold swp
  rw [List.getD_eq_getElem?_getD, List.getD_eq_getElem?_getD, List.getElem?_eq_getElem hi, List.getElem?_eq_getElem hk]
  exact List.set_set_perm hi hk
theorem shufF_perm : ∀ (i : Nat) (L : List Int) (s : Int), i < L.length → (shufF i L s).Perm L
  | 0, L, _, _ => List.Perm.refl L
  | i + 1, L, s, hi => by
    have e := Int.emod_nonneg (nxt s) (show (i : Int) + 2 ≠ 0 by omega)
    have e' := Int.emod_lt_of_pos (nxt s) (show 0 < (i : Int) + 2 by omega)
    simp only [shufF]
    exact (shufF_perm i _ _ (by rw [swp_len]; omega)).trans (swp_perm hi (by omega))
theorem shufL_perm (n : Nat) (s : Int) : (shufL n s).Perm (rangeI n) := by
  by_cases h : n = 0
  · subst h; exact List.Perm.refl _
  · exact shufF_perm _ _ _ (by rw [rangeI_len]; omega)
theorem turnL_perm (l : List Lot) (s : Int) : (turnL l s).Perm l := by
  have h := (shufL_perm l.length s).map fun k => l.getD k.toNat lot0
  refine h.trans (List.Perm.of_eq ?_)
  refine List.ext_getElem (by simp [rangeI]) fun i h1 h2 => ?_
  simp [rangeI, List.getElem?_eq_getElem h2]
theorem servL_perm (l : List Lot) (m s : Int) : (servL l m s).Perm l := by
  unfold servL
  split
  · exact turnL_perm l s
  · exact List.Perm.refl l

/- a side -/
theorem sideF_cons (lv : List Lot) (r : List (List Lot)) (m s : Int) : sideF (lv :: r) m s = (takeF (servL lv m s) m).1 ++ sideF r (takeF (servL lv m s) m).2 s := by
  rw [sideF]
  split
  · rename_i h; rw [h, sideF_zero, List.append_nil]
  · rfl
theorem sideF_ids : ∀ (L : List (List Lot)) (m s : Int), ∀ f ∈ sideF L m s, 1 ≤ f.qty ∧ ∃ x ∈ L.flatten, x.id = f.id ∧ f.qty ≤ x.qty
  | [], _, _, f, h => by simp [sideF] at h
  | lv :: r, m, s, f, h => by
    rw [sideF_cons] at h
    rcases List.mem_append.1 h with h | h
    · obtain ⟨h1, x, hx, h2⟩ := takeF_ids _ _ f h
      exact ⟨h1, x, by simp [(servL_perm lv m s).mem_iff.1 hx], h2⟩
    · obtain ⟨h1, x, hx, h2⟩ := sideF_ids r _ s f h
      exact ⟨h1, x, by rw [List.flatten_cons]; exact List.mem_append_right _ hx, h2⟩
theorem sideF_none {L : List (List Lot)} {m s id : Int} (h : ∀ x ∈ L.flatten, x.id ≠ id) : gotF (sideF L m s) id = 0 :=
  gotF_none fun f hf e => by
    obtain ⟨_, x, hx, hi, _⟩ := sideF_ids L m s f hf
    exact h x hx (hi.trans e)
/-- The facts about a level that is served, and about what follows it. -/
theorem serv_facts {lv : List Lot} {m s : Int} (h0 : 0 ≤ m) (ha : IdsApart lv) (hq : ∀ x ∈ lv, 1 ≤ x.qty) :
    (∀ x ∈ lv, 0 ≤ gotF (takeF (servL lv m s) m).1 x.id ∧ gotF (takeF (servL lv m s) m).1 x.id ≤ x.qty) ∧ (totL lv ≤ m → ∀ x ∈ lv, gotF (takeF (servL lv m s) m).1 x.id = x.qty) ∧ (takeF (servL lv m s) m).2 = max (m - totL lv) 0 ∧ qtyF (takeF (servL lv m s) m).1 = m - (takeF (servL lv m s) m).2 := by
  have hp := servL_perm lv m s
  have ha2 : IdsApart (servL lv m s) := (List.Perm.pairwise_iff (fun h e => h e.symm) hp).2 ha
  obtain ⟨h1, h2, h3, h4⟩ := takeF_got (servL lv m s) m h0 ha2 (fun x hx => hq x (hp.mem_iff.1 hx))
  rw [totL_perm hp] at h2 h3
  exact ⟨fun x hx => h1 x (hp.mem_iff.2 hx), fun ht x hx => h2 ht x (hp.mem_iff.2 hx), h3, h4⟩
theorem apart_cons {lv : List Lot} {r : List (List Lot)} (h : IdsApart (lv :: r).flatten) : IdsApart lv ∧ IdsApart r.flatten ∧ ∀ x ∈ lv, ∀ y ∈ r.flatten, x.id ≠ y.id := by
  rw [List.flatten_cons] at h
  exact List.pairwise_append.1 h
theorem got_head {lv : List Lot} {r : List (List Lot)} {m s : Int} (h : IdsApart (lv :: r).flatten) {x : Lot} (hx : x ∈ lv) : gotF (sideF (lv :: r) m s) x.id = gotF (takeF (servL lv m s) m).1 x.id := by
  rw [sideF_cons, gotF_append, sideF_none (L := r) (fun y hy e => (apart_cons h).2.2 x hx y hy e.symm)]; omega
theorem got_rest {lv : List Lot} {r : List (List Lot)} {m s : Int} (h : IdsApart (lv :: r).flatten) {x : Lot} (hx : x ∈ r.flatten) : gotF (sideF (lv :: r) m s) x.id = gotF (sideF r (takeF (servL lv m s) m).2 s) x.id := by
  rw [sideF_cons, gotF_append, takeF_none (fun y hy => (apart_cons h).2.2 y ((servL_perm lv m s).mem_iff.1 hy) x hx)]; omega
theorem sideF_bd : ∀ (L : List (List Lot)) (m s : Int), 0 ≤ m → IdsApart L.flatten → (∀ x ∈ L.flatten, 1 ≤ x.qty) →
    (∀ x ∈ L.flatten, 0 ≤ gotF (sideF L m s) x.id ∧ gotF (sideF L m s) x.id ≤ x.qty) ∧ qtyF (sideF L m s) = min m (totL L.flatten)
  | [], m, s, h0, _, _ => by
    refine ⟨fun x hx => by simp at hx, ?_⟩
    simp only [sideF, qtyF, List.flatten_nil, totL, sumOf]
    omega
  | lv :: r, m, s, h0, ha, hq => by
    have hq1 : ∀ x ∈ lv, 1 ≤ x.qty := fun x hx => hq x (by simp [hx])
    have hq2 : ∀ x ∈ r.flatten, 1 ≤ x.qty := fun x hx => hq x (by rw [List.flatten_cons]; exact List.mem_append_right _ hx)
    obtain ⟨f1, f2, f3, f4⟩ := serv_facts (m := m) (s := s) h0 (apart_cons ha).1 hq1
    obtain ⟨i1, i2⟩ := sideF_bd r (takeF (servL lv m s) m).2 s (by omega) (apart_cons ha).2.1 hq2
    have := totL_nonneg hq1
    have := totL_nonneg hq2
    refine ⟨fun x hx => ?_, ?_⟩
    · rw [List.flatten_cons] at hx
      rcases List.mem_append.1 hx with hx | hx
      · rw [got_head ha hx]; exact f1 x hx
      · rw [got_rest ha hx]; exact i1 x hx
    · rw [sideF_cons, qtyF_append, i2, f4, List.flatten_cons, totL_append, f3]
      omega
theorem sideF_best (better : Lot → Lot → Prop) : ∀ (L : List (List Lot)) (m s : Int), 0 ≤ m → IdsApart L.flatten → (∀ x ∈ L.flatten, 1 ≤ x.qty) →
    (∀ lv ∈ L, ∀ x ∈ lv, ∀ y ∈ lv, ¬ better y x) → L.Pairwise (fun a b => ∀ x ∈ a, ∀ y ∈ b, ¬ better y x) →
    ∀ x ∈ L.flatten, ∀ y ∈ L.flatten, better y x → 0 < gotF (sideF L m s) x.id → gotF (sideF L m s) y.id = y.qty
  | [], m, s, _, _, _, _, _, x, hx, _, _ => by simp at hx
  | lv :: r, m, s, h0, ha, hq, hb1, hb2, x, hx, y, hy => by
    intro hb hg
    have hq1 : ∀ x ∈ lv, 1 ≤ x.qty := fun x hx => hq x (by simp [hx])
    have hq2 : ∀ x ∈ r.flatten, 1 ≤ x.qty := fun x hx => hq x (by rw [List.flatten_cons]; exact List.mem_append_right _ hx)
    obtain ⟨f1, f2, f3, f4⟩ := serv_facts (m := m) (s := s) h0 (apart_cons ha).1 hq1
    obtain ⟨p1, p2⟩ := List.pairwise_cons.1 hb2
    rw [List.flatten_cons] at hx hy
    rcases List.mem_append.1 hx with hx | hx <;> rcases List.mem_append.1 hy with hy | hy
    · exact absurd hb (hb1 lv (by simp) x hx y hy)
    · obtain ⟨b, hbm, hyb⟩ := List.mem_flatten.1 hy
      exact absurd hb (p1 b hbm x hx y hyb)
    · rw [got_head ha hy]
      rw [got_rest ha hx] at hg
      refine f2 ?_ y hy
      refine Classical.byContradiction fun hn => ?_
      have h2 : (takeF (servL lv m s) m).2 = 0 := by omega
      rw [h2, sideF_zero] at hg
      simp [gotF] at hg
    · rw [got_rest ha hy]
      rw [got_rest ha hx] at hg
      exact sideF_best better r _ s (by omega) (apart_cons ha).2.1 hq2 (fun lv h => hb1 lv (by simp [h])) p2 x hx y hy hb hg
theorem servL_whole {lv : List Lot} {m : Int} (h : totL lv ≤ m) (s : Int) : servL lv m s = lv := by
  unfold servL; exact if_neg (by omega)
theorem sideF_whole : ∀ (L : List (List Lot)) (m a b : Int), IdsApart L.flatten → (∀ x ∈ L.flatten, 1 ≤ x.qty) → totL L.flatten ≤ m → sideF L m a = sideF L m b
  | [], _, _, _, _, _, _ => rfl
  | lv :: r, m, a, b, ha, hq, ht => by
    have hq1 : ∀ x ∈ lv, 1 ≤ x.qty := fun x hx => hq x (by simp [hx])
    have hq2 : ∀ x ∈ r.flatten, 1 ≤ x.qty := fun x hx => hq x (by rw [List.flatten_cons]; exact List.mem_append_right _ hx)
    rw [List.flatten_cons, totL_append] at ht
    have n1 := totL_nonneg hq1
    have n2 := totL_nonneg hq2
    have f3 := (takeF_got lv m (by omega) (apart_cons ha).1 hq1).2.2.1
    rw [sideF_cons, sideF_cons, servL_whole (by omega), servL_whole (by omega)]
    rw [sideF_whole r _ a b (apart_cons ha).2.1 hq2 (by omega)]
theorem sideF_parted : ∀ (L : List (List Lot)) (m a b : Int), 0 ≤ m → IdsApart L.flatten → (∀ x ∈ L.flatten, 1 ≤ x.qty) → (∀ lv ∈ L, ∃ p, ∀ x ∈ lv, x.price = p) →
    ∃ p, ∀ x ∈ L.flatten, gotF (sideF L m a) x.id ≠ gotF (sideF L m b) x.id → x.price = p
  | [], _, _, _, _, _, _, _ => ⟨0, fun x hx => by simp at hx⟩
  | lv :: r, m, a, b, h0, ha, hq, hp => by
    have hq1 : ∀ x ∈ lv, 1 ≤ x.qty := fun x hx => hq x (by simp [hx])
    have hq2 : ∀ x ∈ r.flatten, 1 ≤ x.qty := fun x hx => hq x (by rw [List.flatten_cons]; exact List.mem_append_right _ hx)
    by_cases ht : totL lv ≤ m
    · have f3 := (takeF_got lv m h0 (apart_cons ha).1 hq1).2.2.1
      obtain ⟨p, hpp⟩ := sideF_parted r (takeF lv m).2 a b (by omega) (apart_cons ha).2.1 hq2 (fun lv h => hp lv (by simp [h]))
      refine ⟨p, fun x hx hne => ?_⟩
      rw [List.flatten_cons] at hx
      rcases List.mem_append.1 hx with hx | hx
      · rw [got_head ha hx, got_head ha hx, servL_whole ht, servL_whole ht] at hne
        exact absurd rfl hne
      · rw [got_rest ha hx, got_rest ha hx, servL_whole ht, servL_whole ht] at hne
        exact hpp x hx hne
    · obtain ⟨p, hpp⟩ := hp lv (by simp)
      have fa := (serv_facts (m := m) (s := a) h0 (apart_cons ha).1 hq1).2.2.1
      have fb := (serv_facts (m := m) (s := b) h0 (apart_cons ha).1 hq1).2.2.1
      refine ⟨p, fun x hx hne => ?_⟩
      rw [List.flatten_cons] at hx
      rcases List.mem_append.1 hx with hx | hx
      · exact hpp x hx
      · rw [got_rest ha hx, got_rest ha hx, show (takeF (servL lv m a) m).2 = 0 by omega, show (takeF (servL lv m b) m).2 = 0 by omega, sideF_zero, sideF_zero] at hne
        exact absurd rfl hne
end Go.Proofs.YtjkaeiioofknoaaDoor
