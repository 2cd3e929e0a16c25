/- What the methods of an intake compute. -/
import Derived.Test.YthngmmhoakegeaaDoorObj
import Derived.Test.YthngmmhoakegeaaDoorErrs
import Derived.Test.YthngmmhoakegeaaDoorChecked
import Derived.Deep.DeepCutAuto
import Derived.Deep.OwnRows
import Derived.Deep.RegionHeld3
set_option linter.unusedSimpArgs false
set_option linter.unusedVariables false
namespace Go.Proofs.YthngmmhoakegeaaDoor
open Go.RowKit

/-- Six queues: each a row of its own, none in block p. -/
structure Qs (own : Nat → Nat) (i : Nat) (w : World) (p : Nat) (vs : Nat → Value) (l : Nat → List Ask) : Prop where
  row : ∀ c, c < 6 → OwnRow own i w 30 8 (vs c) (l c).length (flat Ask.cells (l c))
  apart : ∀ c d, c < 6 → d < 6 → c ≠ d → ∀ g, (vs c).ownBlock = some g → (vs d).ownBlock ≠ some g
  main : own p = i
  lt : p < w.heap.size
  off : ∀ c, c < 6 → (vs c).ownBlock ≠ some p

/-- An intake: its queues, whose turn it is. -/
def IntakeAt (own : Nat → Nat) (i : Nat) (w : World) (p : Nat) (l : Nat → List Ask) (turn : Nat) : Prop :=
  turn < 6 ∧ (∀ c, c < 6 → (l c).length ≤ 6) ∧ ∃ vs t, w.rowIs p t 7 (fun c => if c < 6 then vs c else .int .i64 (turn : Int)) ∧ Qs own i w p vs l

theorem Qs.kp {own own' : Nat → Nat} {i m g : Nat} {w w' : World} {p : Nat} {vs : Nat → Value} {l : Nat → List Ask} (h : Qs own i w p vs l) (hk : Kp own m g w w') (hi : i / m ≠ g) (ho : ∀ n, n < w.heap.size → own n = i → own' n = i) : Qs own' i w' p vs l :=
  ⟨fun c hc => (h.row c hc).kp hk hi ho, h.apart, ho p h.lt h.main, Nat.lt_of_lt_of_le h.lt hk.size, h.off⟩
theorem IntakeAt.kp {own own' : Nat → Nat} {i m g : Nat} {w w' : World} {p : Nat} {l : Nat → List Ask} {turn : Nat} (h : IntakeAt own i w p l turn) (hk : Kp own m g w w') (hi : i / m ≠ g) (ho : ∀ n, n < w.heap.size → own n = i → own' n = i) : IntakeAt own' i w' p l turn := by
  obtain ⟨h1, h2, vs, t, h3, h4⟩ := h
  exact ⟨h1, h2, vs, t, h3.of_block (hk.block p h4.lt (by rw [h4.main]; exact hi)), h4.kp hk hi ho⟩
theorem Qs.congr {own : Nat → Nat} {i : Nat} {w : World} {p : Nat} {vs : Nat → Value} {l l' : Nat → List Ask} (h : Qs own i w p vs l) (e : ∀ c, c < 6 → l c = l' c) : Qs own i w p vs l' := ⟨fun c hc => e c hc ▸ h.row c hc, h.apart, h.main, h.lt, h.off⟩
theorem IntakeAt.congr {own : Nat → Nat} {i : Nat} {w : World} {p : Nat} {l l' : Nat → List Ask} {turn : Nat} (h : IntakeAt own i w p l turn) (e : ∀ c, c < 6 → l c = l' c) : IntakeAt own i w p l' turn := by
  obtain ⟨h1, h2, vs, t, h3, h4⟩ := h
  exact ⟨h1, fun c hc => e c hc ▸ h2 c hc, vs, t, h3, h4.congr e⟩
theorem IntakeAt.relabel {own own' : Nat → Nat} {i : Nat} {w : World} {p : Nat} {l : Nat → List Ask} {turn : Nat} (h : IntakeAt own i w p l turn) (ho : ∀ n, n < w.heap.size → own n = i → own' n = i) : IntakeAt own' i w p l turn :=
  h.kp (m := 1) (g := i + 1) (Kp.refl _ _ _ _) (by simp) ho
/-- A label function in which queue c bears 2, the main block 3, all else 0. -/
theorem Qs.pick {own : Nat → Nat} {i : Nat} {w : World} {p : Nat} {vs : Nat → Value} {l : Nat → List Ask} (h : Qs own i w p vs l) (c : Nat) (hc : c < 6) :
    ∃ o : Nat → Nat, OwnRow o 2 w 30 8 (vs c) (l c).length (flat Ask.cells (l c)) ∧ o p = 3 ∧ (∀ n, w.heap.size ≤ n → o n = 0) ∧ (∀ n, o n / 2 = 1 → own n = i) ∧ (∀ n, o n = 2 → (vs c).ownBlock = some n) ∧ (∀ n, o n / 2 = 1 → n = p ∨ (vs c).ownBlock = some n) := by
  refine ⟨fun n => if n = p then 3 else if (vs c).ownBlock = some n then 2 else 0, ⟨(h.row c hc).1, fun g hg => ?_⟩, if_pos rfl, fun n hn => ?_, fun n hn => ?_, fun n hn => ?_, fun n hn => ?_⟩
  · have : g ≠ p := by rintro rfl; exact h.off c hc hg
    simp [this, hg]
  · have h1 : n ≠ p := by have := h.lt; omega
    have h2 : (vs c).ownBlock ≠ some n := fun e => by have := (h.row c hc).1.lt n e; omega
    simp [h1, h2]
  · by_cases h1 : n = p
    · subst h1; exact h.main
    · simp only [h1, if_false] at hn
      by_cases h2 : (vs c).ownBlock = some n
      · exact (h.row c hc).2 n h2
      · simp [h2] at hn
  · by_cases h1 : n = p
    · simp [h1] at hn
    · simp only [h1, if_false] at hn
      by_cases h2 : (vs c).ownBlock = some n
      · exact h2
      · simp [h2] at hn
  · by_cases h1 : n = p
    · exact .inl h1
    · simp only [h1, if_false] at hn
      by_cases h2 : (vs c).ownBlock = some n
      · exact .inr h2
      · simp [h2] at hn

/-- One queue is another one now, all else stands. -/
theorem Qs.step {own own' : Nat → Nat} {i : Nat} {w w' : World} {p : Nat} {vs : Nat → Value} {l : Nat → List Ask} (h : Qs own i w p vs l) {c : Nat} (hc : c < 6) {v' : Value} {x : List Ask}
    (hv : RowAt w' 30 8 v' x.length (flat Ask.cells x)) (hb : ∀ g, v'.ownBlock = some g → ((vs c).ownBlock = some g ∨ w.heap.size ≤ g) ∧ own' g = i) (hk : ∀ n, n < w.heap.size → own n = i → n ≠ p → (vs c).ownBlock ≠ some n → w'.heap[n]? = w.heap[n]?)
    (hs : w.heap.size ≤ w'.heap.size) (ho : ∀ n, n < w.heap.size → own n = i → own' n = i) : Qs own' i w' p (fun d => if d = c then v' else vs d) (fun d => if d = c then x else l d) := by
  refine ⟨fun d hd => ?_, fun d d' hd hd' hne g hg => ?_, ho p h.lt h.main, Nat.lt_of_lt_of_le h.lt hs, fun d hd => ?_⟩
  · by_cases e : d = c
    · subst e; simp only [if_true]; exact ⟨hv, fun g hg => (hb g hg).2⟩
    · simp only [e, if_false]
      have hr := h.row d hd
      exact ⟨hr.1.of_block fun g hg => hk g (hr.1.lt g hg) (hr.2 g hg) (fun e' => h.off d hd (e' ▸ hg)) (fun e' => h.apart c d hc hd (Ne.symm e) g e' hg), fun g hg => ho g (hr.1.lt g hg) (hr.2 g hg)⟩
  · by_cases e : d = c
    · subst e
      have e' : d' ≠ d := Ne.symm hne
      simp only [if_true] at hg
      simp only [e', if_false]
      intro hg'
      rcases (hb g hg).1 with h1 | h1
      · exact h.apart d d' hd hd' hne g h1 hg'
      · have := (h.row d' hd').1.lt g hg'; omega
    · simp only [e, if_false] at hg
      by_cases e' : d' = c
      · subst e'
        simp only [if_true]
        intro hg'
        rcases (hb g hg').1 with h1 | h1
        · exact h.apart d d' hd hd' hne g hg h1
        · have := (h.row d hd).1.lt g hg; omega
      · simp only [e', if_false]
        exact h.apart d d' hd hd' hne g hg
  · by_cases e : d = c
    · subst e
      simp only [if_true]
      intro hg
      rcases (hb p hg).1 with h1 | h1
      · exact h.off d hd h1
      · have := h.lt; omega
    · simp only [e, if_false]
      exact h.off d hd

/-- One queue by itself, and what is to be shown of a world in which it alone has turned. -/
theorem IntakeAt.pick {own : Nat → Nat} {i : Nat} {w : World} {p : Nat} {l : Nat → List Ask} {turn : Nat} (h : IntakeAt own i w p l turn) (c : Nat) (hc : c < 6) :
    ∃ ao cap o, w.cell? ⟨p, c, none⟩ = some (.slice ao (l c).length cap) ∧ (l c).length ≤ cap ∧ OwnRow o 2 w 30 8 (.slice ao (l c).length cap) (l c).length (flat Ask.cells (l c)) ∧ o p = 3 ∧ (∀ n, w.heap.size ≤ n → o n = 0) ∧ (∀ n, o n / 2 = 1 → own n = i) ∧
      ∀ W' own' v' x, x.length ≤ 6 → RowAt W' 30 8 v' x.length (flat Ask.cells x) → (∀ g, v'.ownBlock = some g → (o g = 2 ∨ w.heap.size ≤ g) ∧ own' g = i) → (w.heap.size ≤ W'.heap.size ∧ ∀ n, n < w.heap.size → own n = i → o n / 2 ≠ 1 → W'.heap[n]? = w.heap[n]?) →
        (∀ t f, w.rowIs p t 7 f → W'.rowIs p t 7 (fun j => if j = c then v' else f j)) → (∀ n, n < w.heap.size → own n = i → own' n = i) → IntakeAt own' i W' p (fun d => if d = c then x else l d) turn := by
  obtain ⟨h1, h2, vs, t, h3, h4⟩ := h
  obtain ⟨o, g1, g2, g3, g4, g5, g6⟩ := h4.pick c hc
  obtain ⟨ao, cap, hv, hcap, _⟩ := (h4.row c hc).form
  have hcell := h3.cell (i := c) (by omega)
  simp only [hc, if_true, hv] at hcell
  refine ⟨ao, cap, o, hcell, hcap, hv ▸ g1, g2, g3, g4, fun W' own' v' x hx hr hb hk hp ho => ⟨h1, fun d hd => ?_, _, t, (hp t _ h3).congr fun j hj => ?_, h4.step hc hr (fun g hg => ⟨(hb g hg).1.imp (g5 g) id, (hb g hg).2⟩) (fun n hn hi hp hv => hk.2 n hn hi fun e => (g6 n e).elim hp hv) hk.1 ho⟩⟩
  · by_cases e : d = c
    · simp only [e, if_true]; exact hx
    · simp only [e, if_false]; exact h2 d hd
  · by_cases e : j = c
    · subst e; simp [hc]
    · simp [e]

/-- What Put makes of the queues; the error's number. -/
def putL (l : Nat → List Ask) (a : Ask) : Nat → List Ask := fun d => if d = a.client.toNat then l d ++ [a] else l d
def putE (l : Nat → List Ask) (a : Ask) : Nat := if (a.kind != 111 && a.kind != 99) then 4 else if !(inR a.client 0 5) then 2 else if 6 ≤ (l a.client.toNat).length then 8 else 0
end Go.Proofs.YthngmmhoakegeaaDoor
