/- Plain facts: who gets how much. -/
import Derived.Test.YtjkaeiioofknoaaDoorLevels
import Derived.Test.YtjkaeiioofknoaaDoorStream
set_option linter.unusedSimpArgs false
set_option linter.unusedVariables false
namespace Go.Proofs.YtjkaeiioofknoaaDoor
open Go.RowKit

structure Fil where
  id : Int
  qty : Int
def Fil.cells (f : Fil) : List Value := [.int .i64 f.id, .int .i64 f.qty]
/-- What some lots get of a quantity, one after another, and what is left of it. -/
def takeF : List Lot → Int → List Fil × Int
  | [], m => ([], m)
  | x :: r, m => if 0 < min x.qty m then (⟨x.id, min x.qty m⟩ :: (takeF r (m - min x.qty m)).1, (takeF r (m - min x.qty m)).2) else takeF r m
theorem takeF_snoc (x : Lot) : ∀ (l : List Lot) (m : Int), takeF (l ++ [x]) m = if 0 < min x.qty (takeF l m).2 then ((takeF l m).1 ++ [⟨x.id, min x.qty (takeF l m).2⟩], (takeF l m).2 - min x.qty (takeF l m).2) else takeF l m
  | [], m => by simp only [List.nil_append, takeF]; rfl
  | y :: l, m => by
    simp only [List.cons_append, takeF, takeF_snoc x l]
    by_cases h : 0 < min y.qty m
    · simp only [if_pos h]
      by_cases h2 : 0 < min x.qty (takeF l (m - min y.qty m)).2
      · simp only [if_pos h2, List.cons_append]
      · simp only [if_neg h2]
    · simp only [if_neg h]
theorem takeF_len : ∀ (l : List Lot) (m : Int), (takeF l m).1.length ≤ l.length
  | [], _ => Nat.le_refl _
  | x :: l, m => by
    simp only [takeF]
    split
    · have := takeF_len l (m - min x.qty m); simp; omega
    · have := takeF_len l m; simp; omega
theorem takeF_left : ∀ (l : List Lot) (m : Int), 0 ≤ m → 0 ≤ (takeF l m).2 ∧ (takeF l m).2 ≤ m
  | [], _, h => ⟨h, Int.le_refl _⟩
  | x :: l, m, h => by
    simp only [takeF]
    split
    · have := takeF_left l (m - min x.qty m) (by omega); simp only; omega
    · exact takeF_left l m h
/-- The quantity of some lots. -/
def totL (l : List Lot) : Int := sumOf (fun _ => true) l
def lot0 : Lot := ⟨0, 0, 0, 0, 0⟩
/-- Lots in the order of a shuffle. -/
def turnL (l : List Lot) (s : Int) : List Lot := (shufL l.length s).map fun k => l.getD k.toNat lot0
def servL (l : List Lot) (m s : Int) : List Lot := if totL l > m then turnL l s else l
/-- What a side gets. -/
def sideF : List (List Lot) → Int → Int → List Fil
  | [], _, _ => []
  | lv :: r, m, s => if (takeF (servL lv m s) m).2 = 0 then (takeF (servL lv m s) m).1 else (takeF (servL lv m s) m).1 ++ sideF r (takeF (servL lv m s) m).2 s

theorem swp_mem {L : List Int} {i k : Nat} (hi : i < L.length) (hk : k < L.length) {x : Int} (h : x ∈ swp L i k) : x ∈ L := by
  unfold swp at h
  have gi : L.getD i 0 ∈ L := by rw [List.getD_eq_getElem?_getD, List.getElem?_eq_getElem hi]; exact List.getElem_mem hi
  have gk : L.getD k 0 ∈ L := by rw [List.getD_eq_getElem?_getD, List.getElem?_eq_getElem hk]; exact List.getElem_mem hk
  rcases List.mem_or_eq_of_mem_set h with h | h
  · rcases List.mem_or_eq_of_mem_set h with h | h
    · exact h
    · rw [h]; exact gk
  · rw [h]; exact gi
theorem shufF_mem : ∀ (i : Nat) (L : List Int) (s : Int), i < L.length → ∀ x ∈ shufF i L s, x ∈ L
  | 0, _, _, _, _, h => h
  | i + 1, L, s, hi, x, h => by
    have e := Int.emod_nonneg (nxt s) (show (i : Int) + 2 ≠ 0 by omega)
    have e' := Int.emod_lt_of_pos (nxt s) (show 0 < (i : Int) + 2 by omega)
    simp only [shufF] at h
    exact swp_mem hi (by omega) (shufF_mem i _ _ (by rw [swp_len]; omega) x h)
theorem shufL_range {n : Nat} {s : Int} : ∀ x ∈ shufL n s, 0 ≤ x ∧ x < n := fun x hx => by
  by_cases h0 : n = 0
  · have := shufL_len n s
    rw [h0] at this
    rw [h0, List.eq_nil_of_length_eq_zero this] at hx
    cases hx
  · have := shufF_mem (n - 1) (rangeI n) (seedOf s) (by rw [rangeI_len]; omega) x hx
    simp only [rangeI, List.mem_map, List.mem_range] at this
    obtain ⟨k, hk, rfl⟩ := this
    omega
theorem turnL_len (l : List Lot) (s : Int) : (turnL l s).length = l.length := by simp [turnL, shufL_len]
theorem servL_len (l : List Lot) (m s : Int) : (servL l m s).length = l.length := by unfold servL; split; exact turnL_len _ _; rfl
theorem turnL_mem {l : List Lot} {s : Int} : ∀ x ∈ turnL l s, x ∈ l := fun x hx => by
  simp only [turnL, List.mem_map] at hx
  obtain ⟨k, hk, rfl⟩ := hx
  have := shufL_range k hk
  rw [List.getD_eq_getElem?_getD, List.getElem?_eq_getElem (by omega)]
  exact List.getElem_mem _
theorem servL_mem {l : List Lot} {m s : Int} : ∀ x ∈ servL l m s, x ∈ l := fun x hx => by
  unfold servL at hx
  split at hx
  · exact turnL_mem x hx
  · exact hx
theorem levelsL_mem {side price : Int} {l : List Lot} : ∀ lv ∈ levelsL side price l, ∃ p, lv = lotsAtP side price p l := fun lv h => by
  simp only [levelsL, List.mem_map] at h
  obtain ⟨p, _, rfl⟩ := h
  exact ⟨p, rfl⟩
theorem levelsL_len (side price : Int) (l : List Lot) : (levelsL side price l).length ≤ l.length := by
  have h : (levP side price l).length ≤ l.length := Nat.le_trans (pricesL_len _) (List.length_filter_le _ _)
  simp only [levelsL, List.length_map]
  split
  · simpa using h
  · exact h
theorem sideF_drop {L : List (List Lot)} {i : Nat} (hi : i < L.length) (m s : Int) : sideF (L.drop i) m s = if (takeF (servL L[i] m s) m).2 = 0 then (takeF (servL L[i] m s) m).1 else (takeF (servL L[i] m s) m).1 ++ sideF (L.drop (i + 1)) (takeF (servL L[i] m s) m).2 s := by
  rw [List.drop_eq_getElem_cons hi]; rfl
end Go.Proofs.YtjkaeiioofknoaaDoor
