/- What IntakeKeeps holds while it goes through what was drained. -/
import Derived.Test.YthngmmhoakegeaaDoorWaitAt
set_option linter.unusedSimpArgs false
set_option linter.unusedVariables false
namespace Go.Proofs.YthngmmhoakegeaaDoor
open Go.RowKit

/-- How many of a client's stand among the first j. -/
def cnt (x : List Ask) (d j : Nat) : Nat := (x.take j).countP (fun a => a.client == (d : Int))
theorem cnt_zero (x : List Ask) (d : Nat) : cnt x d 0 = 0 := by simp [cnt]
theorem cnt_succ (x : List Ask) (d : Nat) {j c : Nat} (hj : j < x.length) (hc : x[j].client = (c : Int)) : cnt x d (j + 1) = cnt x d j + (if d = c then 1 else 0) := by
  unfold cnt
  rw [countP_succ hj]
  congr 1
  by_cases e : d = c
  · subst e; simp [hc]
  · simp only [hc, e, if_false, beq_iff_eq]
    rw [if_neg (by omega)]

def KeepD (w : World) (p q mb : Nat) (o : Nat → Nat) (s : Nat → List Ask) (turn : Nat) (x : List Ask) (xv : Value) (j : Nat) (wr : World) : Prop :=
  IntakeAt o 1 wr p (fun d => (s d).drop 2) turn ∧ WaitAt o 2 wr q (fun d => (s d).drop (cnt x d j)) ∧ OwnRow o 3 wr 30 8 xv x.length (flat Ask.cells x) ∧ (∃ t, wr.rowIs mb t 6 (fun d => .int .i64 ((cnt x d j : Nat) : Int))) ∧ o mb = 0 ∧ w.heap.size ≤ wr.heap.size ∧ Below w.heap.size w wr

section
variable {w wr : World} {p q mb : Nat} {o : Nat → Nat} {s : Nat → List Ask} {turn : Nat} {x : List Ask} {xv : Value} {j : Nat}
theorem KeepD.drew (h : KeepD w p q mb o s turn x xv j wr) : KeepD w p q mb o s turn x xv j wr.drew := by
  obtain ⟨h1, h2, h3, ⟨t, h4⟩, h5, h6, h7⟩ := h
  exact ⟨h1.drew, h2.drew, h3.drew, ⟨t, h4.drew⟩, h5, h6, Below.drew h7⟩
theorem KeepD.step (h : KeepD w p q mb o s turn x xv j wr) (hq : w.heap.size ≤ q) (hm : w.heap.size ≤ mb) (hj : j < x.length) {c : Nat} (hc6 : c < 6) (hc : x[j].client = (c : Int)) {v' : Value} {rest : List Ask} (hrest : (s c).drop (cnt x c j) = x[j] :: rest)
    (hr : RowAt wr 30 8 v' rest.length (flat Ask.cells rest)) (hb : ∀ g, v'.ownBlock = some g → ∃ n cap ao, wr.cell? ⟨q, c, none⟩ = some (.slice ao n cap) ∧ (Value.slice ao n cap).ownBlock = some g) :
    KeepD w p q mb o s turn x xv (j + 1) ((wr.setCell ⟨q, c, none⟩ v').setCell ⟨mb, c, none⟩ (.int .i64 ((cnt x c j : Nat) + 1 : Int))) := by
  obtain ⟨h1, h2, h3, ⟨t, h4⟩, h5, h6, h7⟩ := h
  have hq2 := h2.main
  have hne : mb ≠ q := fun e => by rw [e, hq2] at h5; omega
  have hd : ∀ d, cnt x d (j + 1) = cnt x d j + (if d = c then 1 else 0) := fun d => cnt_succ x d hj hc
  refine ⟨(h1.setCell (q := ⟨q, c, none⟩) (by rw [hq2]; decide) v').setCell (q := ⟨mb, c, none⟩) (by rw [h5]; decide) _, ?_, (h3.setCell (p := ⟨q, c, none⟩) (by rw [hq2]; decide) v').setCell (p := ⟨mb, c, none⟩) (by rw [h5]; decide) _, ⟨t, ?_⟩, h5, by simp [World.setCell]; exact h6, Below.setCell (Below.setCell h7 hq _) hm _⟩
  · have hs := h2.store c hc6 (v' := v') (x := rest) hr hb
    refine (hs.congr fun d hd6 => ?_).setCell (q := ⟨mb, c, none⟩) (by rw [h5]; decide) _
    rw [hd]
    by_cases e : d = c
    · subst e
      simp only [if_true]
      rw [← List.drop_drop, hrest]
      rfl
    · simp [e]
  · refine ((h4.setOther (a := ⟨q, c, none⟩) hne v').set c _).congr fun d hd6 => ?_
    rw [hd]
    by_cases e : d = c
    · subst e; simp
    · simp [e]
/-- Behind the last one. -/
theorem KeepD.done (h : KeepD w p q mb o s turn x xv x.length wr) (h0 : ∀ b, b < w.heap.size → o b = 0) (hcl : Cl s) (hx : ∀ c : Nat, c < 6 → x.filter (fun a => a.client == (c : Int)) = (s c).take 2) : KeepInv w p q wr := by
  obtain ⟨h1, h2, h3, _, h5, h6, h7⟩ := h
  refine KeepInv.of h1 hcl.drop (h2.congr fun d hd => ?_) h0 h6 h7
  have e : cnt x d x.length = min 2 (s d).length := by
    unfold cnt
    rw [List.take_length, List.countP_eq_length_filter, hx d hd, List.length_take]
  rw [e]
  by_cases h : (s d).length < 2
  · rw [List.drop_of_length_le (by omega), List.drop_of_length_le (by omega)]
  · rw [show min 2 (s d).length = 2 by omega]
/-- What waits ahead of the j-th. -/
theorem rest_of (hj : j < x.length) {c : Nat} (hc6 : c < 6) (hc : x[j].client = (c : Int)) (hx : ∀ c : Nat, c < 6 → x.filter (fun a => a.client == (c : Int)) = (s c).take 2) : cnt x c j < 2 ∧ ∃ rest, (s c).drop (cnt x c j) = x[j] :: rest := by
  have h1 := filter_get (P := fun a : Ask => a.client == (c : Int)) hj (by simpa using hc)
  rw [hx c hc6, List.getElem?_take] at h1
  split at h1
  · rename_i h2
    obtain ⟨h3, h4⟩ := List.getElem?_eq_some_iff.1 h1
    exact ⟨h2, _, by rw [← h4]; exact List.drop_eq_getElem_cons h3⟩
  · cases h1
end
end Go.Proofs.YthngmmhoakegeaaDoor
