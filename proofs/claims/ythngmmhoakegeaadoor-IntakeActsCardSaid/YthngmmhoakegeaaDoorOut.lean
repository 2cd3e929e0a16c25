/- Plain laws on what a drain gives: of each client the first two, in order. No program. -/
import Derived.Test.YthngmmhoakegeaaDoorDrain
set_option linter.unusedSimpArgs false
set_option linter.unusedVariables false
namespace Go.Proofs.YthngmmhoakegeaaDoor

open Go.RowKit
theorem IntakeAt.exts {own : Nat → Nat} {i : Nat} {w : World} {p : Nat} {l : Nat → List Ask} {turn : Nat} (h : IntakeAt own i w p l turn) (bs : List Obj) (d : Nat) : IntakeAt own i (ext w bs d) p l turn :=
  h.kp (m := 1) (g := i + 1) (Kp.ext (Kp.refl _ _ _ _) bs d) (by simp) (fun _ _ h => h)
theorem IntakeAt.alloc {own : Nat → Nat} {i : Nat} {w : World} {p : Nat} {l : Nat → List Ask} {turn : Nat} (h : IntakeAt own i w p l turn) (o : Obj) : IntakeAt own i (w.alloc o) p l turn :=
  h.kp (m := 1) (g := i + 1) (Kp.alloc (Kp.refl _ _ _ _) o) (by simp) (fun _ _ h => h)
theorem IntakeAt.drew {own : Nat → Nat} {i : Nat} {w : World} {p : Nat} {l : Nat → List Ask} {turn : Nat} (h : IntakeAt own i w p l turn) : IntakeAt own i w.drew p l turn :=
  h.kp (m := 1) (g := i + 1) (Kp.drew (Kp.refl _ _ _ _)) (by simp) (fun _ _ h => h)
theorem IntakeAt.later {own : Nat → Nat} {i : Nat} {w w' : World} {p : Nat} {l : Nat → List Ask} {turn : Nat} (h : IntakeAt own i w p l turn) (hx : Ex w w') : IntakeAt own i w' p l turn := by
  obtain ⟨bs, d, rfl⟩ := hx
  exact h.exts bs d
/-- Each request waits in its client's queue. -/
def Cl (l : Nat → List Ask) : Prop := ∀ d, d < 6 → ∀ a, a ∈ l d → a.client = (d : Int)

theorem filter_out {l : Nat → List Ask} {turn c : Nat} (hc : c < 6) (hcl : Cl l) : ∀ k, k ≤ 6 → (outOf l turn k).filter (fun a => a.client == (c : Int)) = if (List.range k).any (fun j => (turn + j) % 6 == c) then (l c).take 2 else []
  | 0, _ => by simp [outOf]
  | k + 1, hk => by
    have ih := filter_out (turn := turn) hc hcl k (by omega)
    rw [outOf, List.filter_append, ih, List.range_succ, List.any_append]
    by_cases e : (turn + k) % 6 = c
    · have h0 : ((List.range k).any fun j => (turn + j) % 6 == c) = false := by
        rw [List.any_eq_false]
        intro j hj
        have := List.mem_range.1 hj
        simp
        omega
      have h1 : ((l c).take 2).filter (fun a => a.client == (c : Int)) = (l c).take 2 := List.filter_eq_self.2 fun a ha => by simpa using hcl c hc a (List.mem_of_mem_take ha)
      rw [h0, e, h1]
      simp [e]
    · have h1 : ((l ((turn + k) % 6)).take 2).filter (fun a => a.client == (c : Int)) = [] := List.filter_eq_nil_iff.2 fun a ha => by
        have := hcl ((turn + k) % 6) (by omega) a (List.mem_of_mem_take ha)
        simp only [this, beq_iff_eq]
        omega
      rw [h1]
      simp [e]
theorem filter_out6 {l : Nat → List Ask} {turn c : Nat} (hc : c < 6) (hcl : Cl l) : (outOf l turn 6).filter (fun a => a.client == (c : Int)) = (l c).take 2 := by
  rw [filter_out hc hcl 6 (Nat.le_refl _), if_pos]
  simp only [List.any_eq_true, List.mem_range, beq_iff_eq]
  exact ⟨(c + 6 - turn % 6) % 6, by omega, by omega⟩
theorem mem_out {l : Nat → List Ask} {turn : Nat} (hcl : Cl l) : ∀ k a, a ∈ outOf l turn k → 0 ≤ a.client ∧ a.client < 6
  | 0, a, h => by simp [outOf] at h
  | k + 1, a, h => by
    rw [outOf, List.mem_append] at h
    rcases h with h | h
    · exact mem_out hcl k a h
    · have := hcl ((turn + k) % 6) (by omega) a (List.mem_of_mem_take h)
      omega
theorem filter_get {α : Type} {P : α → Bool} {xs : List α} {j : Nat} (hj : j < xs.length) (hp : P xs[j] = true) : (xs.filter P)[(xs.take j).countP P]? = some xs[j] := by
  have e : xs = xs.take j ++ xs[j] :: xs.drop (j + 1) := by rw [← List.drop_eq_getElem_cons hj, List.take_append_drop]
  have h1 : xs.filter P = (xs.take j).filter P ++ xs[j] :: (xs.drop (j + 1)).filter P := by
    have h2 := congrArg (List.filter P) e
    rw [List.filter_append, List.filter_cons, if_pos hp] at h2
    exact h2
  rw [h1, List.countP_eq_length_filter, List.getElem?_append_right (Nat.le_refl _), Nat.sub_self]
  rfl
theorem countP_succ {α : Type} {P : α → Bool} {xs : List α} {j : Nat} (hj : j < xs.length) : (xs.take (j + 1)).countP P = (xs.take j).countP P + (if P xs[j] then 1 else 0) := by
  rw [List.take_succ_eq_append_getElem hj, List.countP_append, List.countP_singleton]
theorem countP_take_le {α : Type} {P : α → Bool} {xs : List α} (j : Nat) : (xs.take j).countP P ≤ (xs.filter P).length := by
  rw [← List.countP_eq_length_filter]
  conv => rhs; rw [← List.take_append_drop j xs, List.countP_append]
  omega
theorem Cl.drop {l : Nat → List Ask} (h : Cl l) : Cl (fun d => (l d).drop 2) := fun d hd a ha => h d hd a (List.mem_of_mem_drop ha)
theorem Cl.put {l : Nat → List Ask} (h : Cl l) {c : Nat} {a : Ask} (ha : a.client = (c : Int)) : Cl (fun d => if d = c then l c ++ [a] else l d) := fun d hd x hx => by
  by_cases e : d = c
  · subst e
    simp only [if_true, List.mem_append, List.mem_singleton] at hx
    rcases hx with hx | rfl
    · exact h d hd x hx
    · exact ha
  · simp only [e, if_false] at hx
    exact h d hd x hx
theorem Cl.clear {l : Nat → List Ask} (h : Cl l) {c : Nat} : Cl (fun d => if d = c then [] else l d) := fun d hd x hx => by
  by_cases e : d = c
  · simp [e] at hx
  · simp only [e, if_false] at hx
    exact h d hd x hx
theorem Cl.nil : Cl (fun _ => []) := fun d _ a ha => by cases ha
end Go.Proofs.YthngmmhoakegeaaDoor
