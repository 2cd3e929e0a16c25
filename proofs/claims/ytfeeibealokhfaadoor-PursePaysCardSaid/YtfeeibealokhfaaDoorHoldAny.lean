/- What Hold and Free of package purse compute, whatever they are given. -/
import Derived.Test.YtfeeibealokhfaaDoorHold
set_option linter.unusedSimpArgs false
set_option linter.unusedVariables false
namespace Go.Proofs.YtfeeibealokhfaaDoor
open Go.RowKit

section
variable {own : Nat → Nat} {i : Nat} {w : World} {p : Nat} {P : Pu}
theorem hold_any (h : PurseAt own i w p P) (item : Int) (x : Lot) (E : Nat → Addr) (hE : Errs E [2, 10] w) :
    Calls Tryd.prog 15 #[.pointer (some ⟨p, 0, none⟩), .int .i64 item, x.val] w fun e w' => e = .returned (errV E (holdE P item x)) ∧ ObjTo own i i w (fun o w' => PurseAt o i w' p (holdP P item x)) w' := by
  cases hr : rightB item x
  · have e1 : holdE P item x = 2 := by simp [holdE, hr]
    have e2 : holdP P item x = P := by unfold holdP; rw [if_neg (by rw [e1]; decide)]
    rw [e1, e2]
    exact hold_bad h item x E hE hr
  · have hr' := hr
    simp only [rightB, Bool.and_eq_true] at hr'
    obtain ⟨i0, i2⟩ := inR_iff.1 hr'.1
    obtain ⟨_, ho, hsd, _, _⟩ := Lot.ok_iff hr'.2
    obtain ⟨it, rfl⟩ := Int.eq_ofNat_of_zero_le i0
    have hoc : x.owner = ((x.owner.toNat : Nat) : Int) := by omega
    by_cases hs : x.side = 0
    · by_cases hok : P x.owner.toNat 0 - P x.owner.toNat 1 < x.price * x.qty
      · have e1 : holdE P (it : Int) x = 10 := by simp [holdE, hr, hs, hok]
        have e2 : holdP P (it : Int) x = P := by unfold holdP; rw [if_neg (by rw [e1]; decide)]
        rw [e1, e2]
        exact hold_buy_poor h x.owner.toNat it (by omega) (by omega) x hoc E hE hr hs hok
      · have e1 : holdE P (it : Int) x = 0 := by simp [holdE, hr, hs, hok]
        have e2 : holdP P (it : Int) x = P.set x.owner.toNat 1 (P x.owner.toNat 1 + x.price * x.qty) := by unfold holdP; rw [if_pos e1, if_pos hs]
        rw [e1, e2, errV_zero]
        exact hold_buy h x.owner.toNat it (by omega) (by omega) x hoc E hE hr hs hok
    · have hs1 : x.side = 1 := by omega
      by_cases hok : P x.owner.toNat (2 + it) - P x.owner.toNat (5 + it) < x.qty
      · have e1 : holdE P (it : Int) x = 10 := by simp [holdE, hr, hs1, hok]
        have e2 : holdP P (it : Int) x = P := by unfold holdP; rw [if_neg (by rw [e1]; decide)]
        rw [e1, e2]
        exact hold_sell_poor h x.owner.toNat it (by omega) (by omega) x hoc E hE hr hs1 hok
      · have e1 : holdE P (it : Int) x = 0 := by simp [holdE, hr, hs1, hok]
        have e2 : holdP P (it : Int) x = P.set x.owner.toNat (5 + it) (P x.owner.toNat (5 + it) + x.qty) := by unfold holdP; rw [if_pos e1, if_neg hs]; rfl
        rw [e1, e2, errV_zero]
        exact hold_sell h x.owner.toNat it (by omega) (by omega) x hoc E hE hr hs1 hok
theorem free_any (h : PurseAt own i w p P) (item : Int) (x : Lot) (E : Nat → Addr) (hE : Errs E [2, 10] w) :
    Calls Tryd.prog 18 #[.pointer (some ⟨p, 0, none⟩), .int .i64 item, x.val] w fun e w' => e = .returned (errV E (freeE P item x)) ∧ ObjTo own i i w (fun o w' => PurseAt o i w' p (freeP P item x)) w' := by
  cases hr : rightB item x
  · have e1 : freeE P item x = 2 := by simp [freeE, hr]
    have e2 : freeP P item x = P := by unfold freeP; rw [if_neg (by rw [e1]; decide)]
    rw [e1, e2]
    exact free_bad h item x E hE hr
  · have hr' := hr
    simp only [rightB, Bool.and_eq_true] at hr'
    obtain ⟨i0, i2⟩ := inR_iff.1 hr'.1
    obtain ⟨_, ho, hsd, _, _⟩ := Lot.ok_iff hr'.2
    obtain ⟨it, rfl⟩ := Int.eq_ofNat_of_zero_le i0
    have hoc : x.owner = ((x.owner.toNat : Nat) : Int) := by omega
    by_cases hs : x.side = 0
    · by_cases hok : P x.owner.toNat 1 < x.price * x.qty
      · have e1 : freeE P (it : Int) x = 10 := by simp [freeE, hr, hs, hok]
        have e2 : freeP P (it : Int) x = P := by unfold freeP; rw [if_neg (by rw [e1]; decide)]
        rw [e1, e2]
        exact free_buy_poor h x.owner.toNat it (by omega) (by omega) x hoc E hE hr hs hok
      · have e1 : freeE P (it : Int) x = 0 := by simp [freeE, hr, hs, hok]
        have e2 : freeP P (it : Int) x = P.set x.owner.toNat 1 (P x.owner.toNat 1 - x.price * x.qty) := by unfold freeP; rw [if_pos e1, if_pos hs]
        rw [e1, e2, errV_zero]
        exact free_buy h x.owner.toNat it (by omega) (by omega) x hoc E hE hr hs hok
    · have hs1 : x.side = 1 := by omega
      by_cases hok : P x.owner.toNat (5 + it) < x.qty
      · have e1 : freeE P (it : Int) x = 10 := by simp [freeE, hr, hs1, hok]
        have e2 : freeP P (it : Int) x = P := by unfold freeP; rw [if_neg (by rw [e1]; decide)]
        rw [e1, e2]
        exact free_sell_poor h x.owner.toNat it (by omega) (by omega) x hoc E hE hr hs1 hok
      · have e1 : freeE P (it : Int) x = 0 := by simp [freeE, hr, hs1, hok]
        have e2 : freeP P (it : Int) x = P.set x.owner.toNat (5 + it) (P x.owner.toNat (5 + it) - x.qty) := by unfold freeP; rw [if_pos e1, if_neg hs]; rfl
        rw [e1, e2, errV_zero]
        exact free_sell h x.owner.toNat it (by omega) (by omega) x hoc E hE hr hs1 hok
end
end Go.Proofs.YtfeeibealokhfaaDoor
