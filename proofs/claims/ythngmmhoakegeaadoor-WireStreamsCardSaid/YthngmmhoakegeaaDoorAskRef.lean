/- What the document's AskError computes: the same number as wire's Check. -/
import Derived.Test.YthngmmhoakegeaaDoorVals
import Derived.Test.YthngmmhoakegeaaDoorChecked
set_option linter.unusedSimpArgs false
set_option linter.unusedVariables false
namespace Go.Proofs.YthngmmhoakegeaaDoor
open Go.RowKit

theorem Ask.common_iff (a : Ask) : a.common = true ↔ (0 ≤ a.client ∧ a.client ≤ 5) ∧ (0 ≤ a.seq ∧ a.seq ≤ 1073741824) ∧ (0 ≤ a.id ∧ a.id ≤ 1073741824) := by
  simp only [Ask.common, Bool.and_eq_true, inR_iff, and_assoc]
theorem Ask.place_iff (a : Ask) : a.place = true ↔ (0 ≤ a.item ∧ a.item ≤ 2) ∧ (0 ≤ a.side ∧ a.side ≤ 1) ∧ (1 ≤ a.price ∧ a.price ≤ 1000) ∧ (1 ≤ a.qty ∧ a.qty ≤ 1000) := by
  simp only [Ask.place, Bool.and_eq_true, inR_iff, and_assoc]
theorem Ask.rest5_iff (a : Ask) : a.rest5 = true ↔ a.item ≠ 0 ∨ a.side ≠ 0 ∨ a.price ≠ 0 ∨ a.qty ≠ 0 ∨ a.id ≠ 0 := by
  simp only [Ask.rest5, Bool.or_eq_true, bne_iff_ne, or_assoc]
theorem Ask.rest3_iff (a : Ask) : a.rest3 = true ↔ a.side ≠ 0 ∨ a.price ≠ 0 ∨ a.qty ≠ 0 := by
  simp only [Ask.rest3, Bool.or_eq_true, bne_iff_ne, or_assoc]
theorem Ask.err_place {a : Ask} (h : a.kind = 111) : a.err = if ((0 ≤ a.client ∧ a.client ≤ 5) ∧ (0 ≤ a.seq ∧ a.seq ≤ 1073741824) ∧ (0 ≤ a.id ∧ a.id ≤ 1073741824)) ∧ (0 ≤ a.item ∧ a.item ≤ 2) ∧ (0 ≤ a.side ∧ a.side ≤ 1) ∧ (1 ≤ a.price ∧ a.price ≤ 1000) ∧ (1 ≤ a.qty ∧ a.qty ≤ 1000) then 0 else 2 := by
  unfold Ask.err
  rw [h]
  simp only [show ((111 : Int) == 108 || (111 : Int) == 104 || (111 : Int) == 113) = false by decide, Bool.false_eq_true, if_false, beq_self_eq_true, if_true, Bool.and_eq_true, Ask.common_iff, Ask.place_iff]
theorem Ask.err_cancel {a : Ask} (h : a.kind = 99) : a.err = if ((0 ≤ a.client ∧ a.client ≤ 5) ∧ (0 ≤ a.seq ∧ a.seq ≤ 1073741824) ∧ (0 ≤ a.id ∧ a.id ≤ 1073741824)) ∧ (0 ≤ a.item ∧ a.item ≤ 2) then (if a.side ≠ 0 ∨ a.price ≠ 0 ∨ a.qty ≠ 0 then 3 else 0) else 2 := by
  unfold Ask.err
  rw [h]
  simp only [show ((99 : Int) == 108 || (99 : Int) == 104 || (99 : Int) == 113) = false by decide, show ((99 : Int) == 111) = false by decide, Bool.false_eq_true, if_false, beq_self_eq_true, if_true, Bool.and_eq_true, Ask.common_iff, inR_iff, Ask.rest3_iff]
  (repeat' split) <;> first | rfl | (exfalso; omega)
theorem Ask.err_talk {a : Ask} (h : a.kind = 108 ∨ a.kind = 104 ∨ a.kind = 113) : a.err = if (0 ≤ a.client ∧ a.client ≤ 5) ∧ (0 ≤ a.seq ∧ a.seq ≤ 1073741824) ∧ (0 ≤ a.id ∧ a.id ≤ 1073741824) then (if a.item ≠ 0 ∨ a.side ≠ 0 ∨ a.price ≠ 0 ∨ a.qty ≠ 0 ∨ a.id ≠ 0 then 3 else 0) else 2 := by
  unfold Ask.err
  rw [if_pos (by simp only [Bool.or_eq_true, beq_iff_eq]; omega)]
  simp only [Bool.and_eq_true, Ask.common_iff, Ask.rest5_iff]
  (repeat' split) <;> first | rfl | (exfalso; omega)
theorem Ask.err_none {a : Ask} (h1 : a.kind ≠ 108) (h2 : a.kind ≠ 104) (h3 : a.kind ≠ 113) (h4 : a.kind ≠ 111) (h5 : a.kind ≠ 99) : a.err = 4 := by
  unfold Ask.err
  rw [if_neg (by simp only [Bool.or_eq_true, beq_iff_eq]; omega), if_neg (by simpa using h4), if_neg (by simpa using h5)]

theorem refIn_any (n lo hi : Int) (w : World) :
    Calls Tryd.prog 64 #[.int .i64 n, .int .i64 lo, .int .i64 hi] w fun e w' => e = .returned (.bool (inR n lo hi)) ∧ w = w' := by
  by_cases h : lo ≤ n
  · go_enter Tryd.func64, Tryd.ntmps64
    go_wp2
    all_goals go_ret
    all_goals exact ⟨ret_bool (by simp [inR, h]), rfl⟩
  · go_enter Tryd.func64, Tryd.ntmps64
    go_wp2
    all_goals go_ret
    all_goals exact ⟨ret_bool (by simp [inR]; omega), rfl⟩

set_option maxHeartbeats 4000000 in
set_option maxRecDepth 100000 in
theorem askError_any (a : Ask) (w : World) :
    Calls Tryd.prog 48 #[a.val] w fun e w' => e = .returned (.int .i64 a.err) ∧ Ex w w' := by
  by_cases k1 : a.kind = 111
  · have HERR := Lib.hid (Ask.err_place k1)
    have q1 : (a.kind == 111) = true := by simp [k1]
    have q2 : (a.kind == 99) = false := by simp [k1]
    have q3 : (a.kind != 108) = true := by simp [k1]
    have q4 : (a.kind != 104) = true := by simp [k1]
    have q5 : (a.kind != 113) = true := by simp [k1]
    clear k1
    go_enter Tryd.func48, Tryd.ntmps48
    go_wp2_with (go_at_call 64; refine (refIn_any _ _ _ _).mono ?_; rintro e w1 ⟨rfl, rfl⟩)
    all_goals go_ret
    all_goals
      refine ⟨ret_int ?_, (by repeat (first | exact Ex.refl _ | refine Ex.alloc ?_ _ | refine Ex.ext ?_ _ _ | refine Ex.drew ?_ | refine Ex.drewN ?_ _))⟩
      rw [HERR.out]
      try simp only [Bool.not_eq_eq_eq_not, Bool.not_true, Bool.not_false, inR_iff, inR_not, bne_iff_ne, bne_eq_false_iff_eq, ne_eq] at *
      first | rfl | (rw [if_neg (by omega)]; rfl) | (rw [if_pos (by omega)]; rfl) | (rw [if_pos (by omega), if_pos (by omega)]; rfl) | (rw [if_pos (by omega), if_neg (by omega)]; rfl)
  by_cases k2 : a.kind = 99
  · have HERR := Lib.hid (Ask.err_cancel k2)
    have q1 : (a.kind == 111) = false := by simp [k2]
    have q2 : (a.kind == 99) = true := by simp [k2]
    have q3 : (a.kind != 108) = true := by simp [k2]
    have q4 : (a.kind != 104) = true := by simp [k2]
    have q5 : (a.kind != 113) = true := by simp [k2]
    clear k1 k2
    go_enter Tryd.func48, Tryd.ntmps48
    go_wp2_with (go_at_call 64; refine (refIn_any _ _ _ _).mono ?_; rintro e w1 ⟨rfl, rfl⟩)
    all_goals go_ret
    all_goals
      refine ⟨ret_int ?_, (by repeat (first | exact Ex.refl _ | refine Ex.alloc ?_ _ | refine Ex.ext ?_ _ _ | refine Ex.drew ?_ | refine Ex.drewN ?_ _))⟩
      rw [HERR.out]
      try simp only [Bool.not_eq_eq_eq_not, Bool.not_true, Bool.not_false, inR_iff, inR_not, bne_iff_ne, bne_eq_false_iff_eq, ne_eq] at *
      first | rfl | (rw [if_neg (by omega)]; rfl) | (rw [if_pos (by omega)]; rfl) | (rw [if_pos (by omega), if_pos (by omega)]; rfl) | (rw [if_pos (by omega), if_neg (by omega)]; rfl)
  by_cases k3 : a.kind = 108
  · have HERR := Lib.hid (Ask.err_talk (.inl k3))
    have q1 : (a.kind == 111) = false := by simp [k3]
    have q2 : (a.kind == 99) = false := by simp [k3]
    have q3 : (a.kind != 108) = false := by simp [k3]
    have q4 : (a.kind != 104) = true := by simp [k3]
    have q5 : (a.kind != 113) = true := by simp [k3]
    clear k1 k2 k3
    go_enter Tryd.func48, Tryd.ntmps48
    go_wp2_with (go_at_call 64; refine (refIn_any _ _ _ _).mono ?_; rintro e w1 ⟨rfl, rfl⟩)
    all_goals go_ret
    all_goals
      refine ⟨ret_int ?_, (by repeat (first | exact Ex.refl _ | refine Ex.alloc ?_ _ | refine Ex.ext ?_ _ _ | refine Ex.drew ?_ | refine Ex.drewN ?_ _))⟩
      rw [HERR.out]
      try simp only [Bool.not_eq_eq_eq_not, Bool.not_true, Bool.not_false, inR_iff, inR_not, bne_iff_ne, bne_eq_false_iff_eq, ne_eq] at *
      first | rfl | (rw [if_neg (by omega)]; rfl) | (rw [if_pos (by omega)]; rfl) | (rw [if_pos (by omega), if_pos (by omega)]; rfl) | (rw [if_pos (by omega), if_neg (by omega)]; rfl)
  by_cases k4 : a.kind = 104
  · have HERR := Lib.hid (Ask.err_talk (.inr (.inl k4)))
    have q1 : (a.kind == 111) = false := by simp [k4]
    have q2 : (a.kind == 99) = false := by simp [k4]
    have q3 : (a.kind != 108) = true := by simp [k4]
    have q4 : (a.kind != 104) = false := by simp [k4]
    have q5 : (a.kind != 113) = true := by simp [k4]
    clear k1 k2 k3 k4
    go_enter Tryd.func48, Tryd.ntmps48
    go_wp2_with (go_at_call 64; refine (refIn_any _ _ _ _).mono ?_; rintro e w1 ⟨rfl, rfl⟩)
    all_goals go_ret
    all_goals
      refine ⟨ret_int ?_, (by repeat (first | exact Ex.refl _ | refine Ex.alloc ?_ _ | refine Ex.ext ?_ _ _ | refine Ex.drew ?_ | refine Ex.drewN ?_ _))⟩
      rw [HERR.out]
      try simp only [Bool.not_eq_eq_eq_not, Bool.not_true, Bool.not_false, inR_iff, inR_not, bne_iff_ne, bne_eq_false_iff_eq, ne_eq] at *
      first | rfl | (rw [if_neg (by omega)]; rfl) | (rw [if_pos (by omega)]; rfl) | (rw [if_pos (by omega), if_pos (by omega)]; rfl) | (rw [if_pos (by omega), if_neg (by omega)]; rfl)
  by_cases k5 : a.kind = 113
  · have HERR := Lib.hid (Ask.err_talk (.inr (.inr k5)))
    have q1 : (a.kind == 111) = false := by simp [k5]
    have q2 : (a.kind == 99) = false := by simp [k5]
    have q3 : (a.kind != 108) = true := by simp [k5]
    have q4 : (a.kind != 104) = true := by simp [k5]
    have q5 : (a.kind != 113) = false := by simp [k5]
    clear k1 k2 k3 k4 k5
    go_enter Tryd.func48, Tryd.ntmps48
    go_wp2_with (go_at_call 64; refine (refIn_any _ _ _ _).mono ?_; rintro e w1 ⟨rfl, rfl⟩)
    all_goals go_ret
    all_goals
      refine ⟨ret_int ?_, (by repeat (first | exact Ex.refl _ | refine Ex.alloc ?_ _ | refine Ex.ext ?_ _ _ | refine Ex.drew ?_ | refine Ex.drewN ?_ _))⟩
      rw [HERR.out]
      try simp only [Bool.not_eq_eq_eq_not, Bool.not_true, Bool.not_false, inR_iff, inR_not, bne_iff_ne, bne_eq_false_iff_eq, ne_eq] at *
      first | rfl | (rw [if_neg (by omega)]; rfl) | (rw [if_pos (by omega)]; rfl) | (rw [if_pos (by omega), if_pos (by omega)]; rfl) | (rw [if_pos (by omega), if_neg (by omega)]; rfl)
  · have HERR := Lib.hid (Ask.err_none k3 k4 k5 k1 k2)
    have q1 : (a.kind == 111) = false := by simp [k1, k2, k3, k4, k5]
    have q2 : (a.kind == 99) = false := by simp [k1, k2, k3, k4, k5]
    have q3 : (a.kind != 108) = true := by simp [k1, k2, k3, k4, k5]
    have q4 : (a.kind != 104) = true := by simp [k1, k2, k3, k4, k5]
    have q5 : (a.kind != 113) = true := by simp [k1, k2, k3, k4, k5]
    clear k1 k2 k3 k4 k5
    go_enter Tryd.func48, Tryd.ntmps48
    go_wp2_with (go_at_call 64; refine (refIn_any _ _ _ _).mono ?_; rintro e w1 ⟨rfl, rfl⟩)
    all_goals go_ret
    all_goals
      refine ⟨ret_int ?_, (by repeat (first | exact Ex.refl _ | refine Ex.alloc ?_ _ | refine Ex.ext ?_ _ _ | refine Ex.drew ?_ | refine Ex.drewN ?_ _))⟩
      rw [HERR.out]
      try simp only [Bool.not_eq_eq_eq_not, Bool.not_true, Bool.not_false, inR_iff, inR_not, bne_iff_ne, bne_eq_false_iff_eq, ne_eq] at *
      first | rfl | (rw [if_neg (by omega)]; rfl) | (rw [if_pos (by omega)]; rfl) | (rw [if_pos (by omega), if_pos (by omega)]; rfl) | (rw [if_pos (by omega), if_neg (by omega)]; rfl)
end Go.Proofs.YthngmmhoakegeaaDoor
