/- What an act on a book leaves of its lots' order: plain law. -/
import Derived.Test.YtfeeibealokhfaaDoorBAny
set_option linter.unusedSimpArgs false
set_option linter.unusedVariables false
namespace Go.Proofs.YtfeeibealokhfaaDoor
open Go.RowKit

/-- Each ID once. -/
def Ids (l : List Lot) : Prop := l.Pairwise (fun x y => x.id ≠ y.id)
/-- A lot is there still, or less of it. -/
def Still (x y : Lot) : Prop := y.id = x.id ∧ y.qty ≤ x.qty ∧ y.price = x.price ∧ y.owner = x.owner
/-- From l to l' but the lot at e is gone (e the length: none is), and one more may have come. -/
structure Goes (l l' : List Lot) (e : Nat) : Prop where
  le : e ≤ l.length
  fore : ∀ j, j < e → (h : j < l.length) → ∃ h' : j < l'.length, Still l[j] l'[j]
  aft : ∀ j, e < j → (h : j < l.length) → ∃ h' : j - 1 < l'.length, Still l[j] l'[j - 1]
  hole : (h : e < l.length) → (h' : e < l'.length) → l'[e].id ≠ l[e].id
  all : e = l.length → l.length ≤ l'.length ∧ l'.length ≤ l.length + 1
  one : e < l.length → l'.length + 1 = l.length
  ids : Ids l'

theorem Still.rfl' (x : Lot) : Still x x := ⟨rfl, Int.le_refl _, rfl, rfl⟩
theorem goes_same {l : List Lot} (h : Ids l) : Goes l l l.length :=
  ⟨Nat.le_refl _, fun j _ h => ⟨h, Still.rfl' _⟩, fun j h1 h2 => by omega, fun h => by omega, fun _ => ⟨Nat.le_refl _, Nat.le_succ _⟩, fun h => by omega, h⟩
theorem goes_erase {l : List Lot} (h : Ids l) {k : Nat} (hk : k < l.length) : Goes l (l.eraseIdx k) k := by
  have hz : (l.eraseIdx k).length + 1 = l.length := by rw [List.length_eraseIdx_of_lt hk]; omega
  refine ⟨Nat.le_of_lt hk, fun j h1 h2 => ⟨by omega, ?_⟩, fun j h1 h2 => ⟨by omega, ?_⟩, fun h1 h2 => ?_, fun e => by omega, fun _ => hz, h.sublist (List.eraseIdx_sublist l k)⟩
  · rw [List.getElem_eraseIdx_of_lt (by omega) h1]; exact Still.rfl' _
  · have : (l.eraseIdx k)[j - 1]'(by omega) = l[j] := by
      rw [List.getElem_eraseIdx_of_ge (by omega) (by omega)]
      congr 1; omega
    rw [this]; exact Still.rfl' _
  · rw [List.getElem_eraseIdx_of_ge (by omega) (Nat.le_refl _)]
    exact ((List.pairwise_iff_getElem.1 h) k (k + 1) h1 (by omega) (by omega)).symm
theorem goes_set {l : List Lot} (h : Ids l) {k : Nat} (hk : k < l.length) {q : Int} (hq : 0 ≤ q) : Goes l (l.set k (l[k].less q)) l.length := by
  have hst : ∀ j (h1 : j < l.length), Still l[j] ((l.set k (l[k].less q))[j]'(by rw [List.length_set]; exact h1)) := fun j h1 => by
    rw [List.getElem_set]
    split
    · rename_i e; subst e; exact ⟨rfl, by show l[k].qty - q ≤ _; omega, rfl, rfl⟩
    · exact Still.rfl' _
  refine ⟨Nat.le_refl _, fun j _ h1 => ⟨by rw [List.length_set]; exact h1, hst j h1⟩, fun j h1 h2 => by omega, fun h => by omega, fun _ => by rw [List.length_set]; omega, fun h => by omega, ?_⟩
  refine List.pairwise_iff_getElem.2 fun a b ha hb hab => ?_
  rw [List.length_set] at ha hb
  rw [(hst a ha).1, (hst b hb).1]
  exact (List.pairwise_iff_getElem.1 h) a b ha hb hab
theorem goes_add {l : List Lot} (h : Ids l) {x : Lot} (hx : ∀ y ∈ l, y.id ≠ x.id) : Goes l (l ++ [x]) l.length := by
  refine ⟨Nat.le_refl _, fun j _ h1 => ⟨by rw [List.length_append]; simp; omega, ?_⟩, fun j h1 h2 => by omega, fun h => by omega, fun _ => by simp, fun h => by omega, ?_⟩
  · rw [List.getElem_append_left h1]; exact Still.rfl' _
  · refine List.pairwise_append.2 ⟨h, List.pairwise_singleton _ _, fun a ha b hb => ?_⟩
    rw [List.mem_singleton] at hb
    subst hb
    exact hx a ha

theorem idIdx_neg {l : List Lot} {id : Int} (h : ¬ 0 ≤ idIdx l id) : ∀ x ∈ l, x.id ≠ id := by
  rcases idIdx_cases l id with ⟨k, hk, hi, _⟩ | ⟨_, h2⟩
  · rw [hi] at h; omega
  · exact h2
theorem add_goes {l : List Lot} (h : Ids l) (x : Lot) : ∃ e, Goes l (addL l x) e := by
  unfold addL
  split
  · rename_i he
    unfold addE at he
    split at he
    · split at he
      · cases he
      · rename_i hn
        exact ⟨_, goes_add h (idIdx_neg hn)⟩
    · cases he
  · exact ⟨_, goes_same h⟩
theorem cancel_goes {l : List Lot} (h : Ids l) (id : Int) : ∃ e, Goes l (cancelR l id).2.2 e := by
  rcases idIdx_cases l id with ⟨k, hk, hi, _, hf⟩ | ⟨hi, _⟩
  · have e : cancelR l id = (l[k], 0, l.eraseIdx k) := by
      unfold cancelR
      rw [hf]
      simp only [List.getElem?_eq_getElem hk]
    rw [e]
    exact ⟨_, goes_erase h hk⟩
  · have e : cancelR l id = (zeroLot, 6, l) := by unfold cancelR; rw [find_none hi]
    rw [e]
    exact ⟨_, goes_same h⟩
theorem take_goes {l : List Lot} (h : Ids l) (id qty : Int) : ∃ e, Goes l (takeR l id qty).2 e := by
  rcases idIdx_cases l id with ⟨k, hk, hi, _, hf⟩ | ⟨hi, _⟩
  · have e : takeR l id qty = if qty < 1 ∨ l[k].qty < qty then (2, l) else if qty = l[k].qty then (0, l.eraseIdx k) else (0, l.set k (l[k].less qty)) := by
      unfold takeR
      rw [hf]
      simp only [List.getElem?_eq_getElem hk]
    rw [e]
    split
    · exact ⟨_, goes_same h⟩
    · rename_i hq
      split
      · exact ⟨_, goes_erase h hk⟩
      · exact ⟨_, goes_set h hk (by omega)⟩
  · have e : takeR l id qty = (6, l) := by unfold takeR; rw [find_none hi]
    rw [e]
    exact ⟨_, goes_same h⟩

/-- How many of now's lots are met when j of was are read. -/
def metK (e j : Nat) : Nat := if j ≤ e then j else j - 1
section
variable {l l' : List Lot} {e : Nat}
theorem Goes.met (h : Goes l l' e) {j : Nat} (hj : j < l.length) (hne : j ≠ e) : ∃ h' : metK e j < l'.length, Still l[j] l'[metK e j] ∧ metK e (j + 1) = metK e j + 1 := by
  unfold metK
  by_cases h1 : j < e
  · obtain ⟨h', hs⟩ := h.fore j h1 hj
    have e1 : (if j ≤ e then j else j - 1) = j := if_pos (by omega)
    simp only [e1]
    exact ⟨h', hs, if_pos (by omega)⟩
  · obtain ⟨h', hs⟩ := h.aft j (by omega) hj
    have e1 : (if j ≤ e then j else j - 1) = j - 1 := if_neg (by omega)
    simp only [e1]
    exact ⟨h', hs, by rw [if_neg (by omega)]; omega⟩
theorem Goes.miss (h : Goes l l' e) (hj : e < l.length) : metK e e = e ∧ metK e (e + 1) = e ∧ ∀ h' : e < l'.length, (l'[e].id == l[e].id) = false := by
  refine ⟨if_pos (Nat.le_refl _), by unfold metK; rw [if_neg (by omega)]; omega, fun h' => ?_⟩
  simpa using h.hole hj h'
theorem Goes.ends (h : Goes l l' e) : metK e l.length ≤ l'.length ∧ l'.length ≤ metK e l.length + 1 ∧ l.length ≤ metK e l.length + 1 ∧ metK e l.length ≤ l.length := by
  have := h.le
  unfold metK
  by_cases h1 : e = l.length
  · have := h.all h1
    rw [if_pos (by omega)]
    omega
  · have := h.one (by omega)
    rw [if_neg (by omega)]
    omega
theorem Goes.last (h : Goes l l' e) {j : Nat} (hj : j < l'.length) (hn : j ≠ l'.length - 1) : (l'[j].id == (l'[l'.length - 1]'(by omega)).id) = false := by
  have := (List.pairwise_iff_getElem.1 h.ids) j (l'.length - 1) hj (by omega) (by omega)
  simpa using this
end
end Go.Proofs.YtfeeibealokhfaaDoor
