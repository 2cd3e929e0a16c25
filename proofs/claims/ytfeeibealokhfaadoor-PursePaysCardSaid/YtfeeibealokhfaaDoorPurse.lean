/- A purse of all clients: one block of 48 numbers. -/
import Derived.Test.YtfeeibealokhfaaDoorObj
import Derived.Test.YtfeeibealokhfaaDoorCurve
import Derived.Deep.OwnRows
import Derived.Deep.RegionHeld3
set_option linter.unusedSimpArgs false
set_option linter.unusedVariables false
namespace Go.Proofs.YtfeeibealokhfaaDoor
open Go.RowKit

/-- What each client has: cash, held, stock (three), kept (three). -/
def Pu := Nat → Nat → Int
def Pu.set (P : Pu) (c j : Nat) (v : Int) : Pu := fun d k => if d = c ∧ k = j then v else P d k
def PInv (P : Pu) : Prop := ∀ c, c < 6 → 0 ≤ P c 1 ∧ P c 1 ≤ P c 0 ∧ P c 0 ≤ 1099511627776 ∧ ∀ i, i < 3 → 0 ≤ P c (5 + i) ∧ P c (5 + i) ≤ P c (2 + i) ∧ P c (2 + i) ≤ 1073741824

def PurseAt (own : Nat → Nat) (i : Nat) (w : World) (p : Nat) (P : Pu) : Prop :=
  own p = i ∧ PInv P ∧ ∃ t, w.rowIs p t 48 (fun n => .int .i64 (P (n / 8) (n % 8)))

section
variable {own own' : Nat → Nat} {i m g : Nat} {w w' : World} {p : Nat} {P : Pu}
theorem PurseAt.lt (h : PurseAt own i w p P) : p < w.heap.size := by obtain ⟨_, _, t, h⟩ := h; exact h.lt
theorem PurseAt.free (h : PurseAt own i w p P) (j : Nat) : w.frozen? ⟨p, j, none⟩ = false := by obtain ⟨_, _, t, h⟩ := h; exact h.frozen j
theorem PurseAt.cell (h : PurseAt own i w p P) {c j : Nat} (hc : c < 6) (hj : j < 8) : w.cell? ⟨p, c * 8 + j, none⟩ = some (.int .i64 (P c j)) := by
  obtain ⟨_, _, t, h⟩ := h
  have h1 := h.cell (i := c * 8 + j) (by omega)
  rw [h1]
  congr 2
  rw [show (c * 8 + j) / 8 = c by omega, show (c * 8 + j) % 8 = j by omega]
theorem PurseAt.kp (h : PurseAt own i w p P) (hk : Kp own m g w w') (hi : i / m ≠ g) (ho : ∀ n, n < w.heap.size → own n = i → own' n = i) : PurseAt own' i w' p P := by
  have hl := h.lt
  obtain ⟨h1, h2, t, h3⟩ := h
  exact ⟨ho p hl h1, h2, t, h3.of_block (hk.block p hl (by rw [h1]; exact hi))⟩
theorem PurseAt.exts (h : PurseAt own i w p P) (bs : List Obj) (d : Nat) : PurseAt own i (ext w bs d) p P := h.kp (m := 1) (g := i + 1) (Kp.ext (Kp.refl _ _ _ _) bs d) (by simp) (fun _ _ h => h)
theorem PurseAt.alloc (h : PurseAt own i w p P) (o : Obj) : PurseAt own i (w.alloc o) p P := h.kp (m := 1) (g := i + 1) (Kp.alloc (Kp.refl _ _ _ _) o) (by simp) (fun _ _ h => h)
theorem PurseAt.later (h : PurseAt own i w p P) (hx : Ex w w') : PurseAt own i w' p P := by obtain ⟨bs, d, rfl⟩ := hx; exact h.exts bs d
theorem PurseAt.relabel (h : PurseAt own i w p P) (ho : ∀ n, n < w.heap.size → own n = i → own' n = i) : PurseAt own' i w p P := h.kp (m := 1) (g := i + 1) (Kp.refl _ _ _ _) (by simp) ho
theorem PurseAt.set (h : PurseAt own i w p P) {c j : Nat} (hc : c < 6) (hj : j < 8) (v : Int) (hv : PInv (P.set c j v)) {b : Value} (hb : b = .int .i64 v) {n : Nat} (hn : n = c * 8 + j) : PurseAt own i (w.setCell ⟨p, n, none⟩ b) p (P.set c j v) := by
  subst hb hn
  obtain ⟨h1, h2, t, h3⟩ := h
  refine ⟨h1, hv, t, (h3.set (c * 8 + j) _).congr fun k hk => ?_⟩
  by_cases e : k = c * 8 + j
  · subst e
    rw [if_pos rfl]
    congr 1
    unfold Pu.set
    rw [if_pos ⟨by omega, by omega⟩]
  · rw [if_neg e]
    congr 1
    unfold Pu.set
    rw [if_neg (by omega)]
end

/-- Is an item one, and a lot well? -/
def rightB (item : Int) (x : Lot) : Bool := inR item 0 2 && x.ok
/-- Why a lot is not held (0: it is). -/
def holdE (P : Pu) (item : Int) (x : Lot) : Nat :=
  if rightB item x then
    (if x.side = 0 then (if P x.owner.toNat 0 - P x.owner.toNat 1 < x.price * x.qty then 10 else 0)
     else (if P x.owner.toNat (2 + item.toNat) - P x.owner.toNat (5 + item.toNat) < x.qty then 10 else 0))
  else 2
def holdP (P : Pu) (item : Int) (x : Lot) : Pu :=
  if holdE P item x = 0 then
    (if x.side = 0 then P.set x.owner.toNat 1 (P x.owner.toNat 1 + x.price * x.qty) else P.set x.owner.toNat (5 + item.toNat) (P x.owner.toNat (5 + item.toNat) + x.qty))
  else P
/-- Why nothing is freed for a lot (0: it is). -/
def freeE (P : Pu) (item : Int) (x : Lot) : Nat :=
  if rightB item x then
    (if x.side = 0 then (if P x.owner.toNat 1 < x.price * x.qty then 10 else 0)
     else (if P x.owner.toNat (5 + item.toNat) < x.qty then 10 else 0))
  else 2
def freeP (P : Pu) (item : Int) (x : Lot) : Pu :=
  if freeE P item x = 0 then
    (if x.side = 0 then P.set x.owner.toNat 1 (P x.owner.toNat 1 - x.price * x.qty) else P.set x.owner.toNat (5 + item.toNat) (P x.owner.toNat (5 + item.toNat) - x.qty))
  else P

theorem PInv.set_held {P : Pu} (h : PInv P) {c : Nat} (v : Int) (h0 : 0 ≤ v) (h1 : v ≤ P c 0) : PInv (P.set c 1 v) := fun d hd => by
  obtain ⟨a1, a2, a3, a4⟩ := h d hd
  refine ⟨?_, ?_, ?_, fun i hi => ?_⟩
  · unfold Pu.set; split
    · exact h0
    · exact a1
  · unfold Pu.set
    rw [if_neg (show ¬ (d = c ∧ 0 = 1) by omega)]
    split
    · rename_i e; rw [e.1]; exact h1
    · exact a2
  · unfold Pu.set; rw [if_neg (by omega)]; exact a3
  · unfold Pu.set
    rw [if_neg (by omega), if_neg (by omega)]
    exact a4 i hi
theorem PInv.set_kept {P : Pu} (h : PInv P) {c i : Nat} (hi : i < 3) (v : Int) (h0 : 0 ≤ v) (h1 : v ≤ P c (2 + i)) : PInv (P.set c (5 + i) v) := fun d hd => by
  obtain ⟨a1, a2, a3, a4⟩ := h d hd
  refine ⟨?_, ?_, ?_, fun k hk => ?_⟩
  · unfold Pu.set; rw [if_neg (by omega)]; exact a1
  · unfold Pu.set; rw [if_neg (by omega), if_neg (by omega)]; exact a2
  · unfold Pu.set; rw [if_neg (by omega)]; exact a3
  · obtain ⟨b1, b2, b3⟩ := a4 k hk
    unfold Pu.set
    rw [if_neg (show ¬ (d = c ∧ 2 + k = 5 + i) by omega)]
    split
    · rename_i e
      obtain ⟨rfl, e2⟩ := e
      have e3 : k = i := by omega
      subst e3
      exact ⟨h0, h1, b3⟩
    · exact ⟨b1, b2, b3⟩
theorem Lot.ok_iff {x : Lot} (h : x.ok = true) : (1 ≤ x.id ∧ x.id ≤ 1073741824) ∧ (0 ≤ x.owner ∧ x.owner ≤ 5) ∧ (0 ≤ x.side ∧ x.side ≤ 1) ∧ (1 ≤ x.price ∧ x.price ≤ 1000) ∧ (1 ≤ x.qty ∧ x.qty ≤ 1000) := by
  simp only [Lot.ok, Bool.and_eq_true] at h
  exact ⟨inR_iff.1 h.1.1.1.1, inR_iff.1 h.1.1.1.2, inR_iff.1 h.1.1.2, inR_iff.1 h.1.2, inR_iff.1 h.2⟩
theorem mul_bd {a b : Int} (h1 : 1 ≤ a) (h2 : a ≤ 1000) (h3 : 1 ≤ b) (h4 : b ≤ 1000) : 1 ≤ a * b ∧ a * b ≤ 1000000 := by
  constructor
  · have := Int.mul_le_mul h1 h3 (by omega) (by omega); omega
  · have := Int.mul_le_mul h2 h4 (by omega) (by omega); omega
theorem hold_inv {P : Pu} (h : PInv P) (item : Int) (x : Lot) : PInv (holdP P item x) := by
  unfold holdP
  split
  · rename_i he
    unfold holdE at he
    split at he
    · rename_i hr
      simp only [rightB, Bool.and_eq_true] at hr
      obtain ⟨hi0, hi2⟩ := inR_iff.1 hr.1
      obtain ⟨_, ho, _, hp, hq⟩ := Lot.ok_iff hr.2
      obtain ⟨a1, a2, a3, a4⟩ := h x.owner.toNat (by omega)
      have hm := mul_bd hp.1 hp.2 hq.1 hq.2
      split at he
      · rename_i hs
        rw [if_pos hs]
        split at he
        · cases he
        · exact h.set_held _ (by omega) (by omega)
      · rename_i hs
        rw [if_neg hs]
        split at he
        · cases he
        · have := a4 item.toNat (by omega)
          exact h.set_kept (by omega) _ (by omega) (by omega)
    · cases he
  · exact h
theorem free_inv {P : Pu} (h : PInv P) (item : Int) (x : Lot) : PInv (freeP P item x) := by
  unfold freeP
  split
  · rename_i he
    unfold freeE at he
    split at he
    · rename_i hr
      simp only [rightB, Bool.and_eq_true] at hr
      obtain ⟨hi0, hi2⟩ := inR_iff.1 hr.1
      obtain ⟨_, ho, _, hp, hq⟩ := Lot.ok_iff hr.2
      obtain ⟨a1, a2, a3, a4⟩ := h x.owner.toNat (by omega)
      have hm := mul_bd hp.1 hp.2 hq.1 hq.2
      split at he
      · rename_i hs
        rw [if_pos hs]
        split at he
        · cases he
        · exact h.set_held _ (by omega) (by omega)
      · rename_i hs
        rw [if_neg hs]
        split at he
        · cases he
        · have := a4 item.toNat (by omega)
          exact h.set_kept (by omega) _ (by omega) (by omega)
    · cases he
  · exact h
end Go.Proofs.YtfeeibealokhfaaDoor
