import Derived.Test.YtmbboflakfokhaaDoorTradeOk
/- Trade of package purse where it does not trade. -/
set_option linter.unusedSimpArgs false
set_option linter.unusedVariables false
namespace Go.Proofs.YtmbboflakfokhaaDoor
open Go.RowKit

section
variable {own : Nat → Nat} {i : Nat} {w : World} {p : Nat} {P : Pu}
set_option maxRecDepth 100000 in
theorem trade_unfair (h : PurseAt own i w p P) (item : Int) (b s : Lot) (price qty : Int) (E : Nat → Addr) (hE : Errs E [2, 3, 8, 10, 12] w) (hf : fairE item b s price qty ≠ 0) :
    Calls Tryd.prog 58 #[.pointer (some ⟨p, 0, none⟩), .int .i64 item, b.val, s.val, .int .i64 price, .int .i64 qty] w fun e w' => e = .returned (errV E (fairE item b s price qty)) ∧ ObjTo own i i w (fun o w' => PurseAt o i w' p P) w' := by
  have hF := fair_any item b s price qty E
  rw [errV_pos _ _ hf]
  rw [errV_pos _ _ hf] at hF
  have HF := Lib.hid hF
  have HE := Lib.hid hE
  have H := Lib.hid h
  clear hF hE h hf
  generalize fairE item b s price qty = n at *
  go_enter Tryd.func58, Tryd.ntmps58
  go_wp2_with fail
  refine (HF.out _ (by exact Errs.sub (HE.out.ex (by repeat (first | exact Ex.refl _ | refine Ex.alloc ?_ _ | refine Ex.ext ?_ _ _ | refine Ex.drew ?_ | refine Ex.drewN ?_ _))) (by decide))).mono ?_
  rintro e w1 ⟨rfl, l1, d1, rfl⟩
  go_wp2_with fail
  all_goals go_ret
  all_goals exact ⟨rfl, ObjTo.of_ex (by repeat (first | exact Ex.refl _ | refine Ex.alloc ?_ _ | refine Ex.ext ?_ _ _ | refine Ex.drew ?_ | refine Ex.drewN ?_ _)) ((H.out.relabel (fun n hn e => by rw [lab_lt hn]; exact e)).later (by repeat (first | exact Ex.refl _ | refine Ex.alloc ?_ _ | refine Ex.ext ?_ _ _ | refine Ex.drew ?_ | refine Ex.drewN ?_ _)))⟩
set_option maxRecDepth 100000 in
set_option maxHeartbeats 2000000 in
theorem trade_poor1 (h : PurseAt own i w p P) (bo so it : Nat) (hbo6 : bo < 6) (hso6 : so < 6) (hit : it < 3) (b s : Lot) (hbo : b.owner = (bo : Int)) (hso : s.owner = (so : Int)) (price qty : Int) (E : Nat → Addr) (hE : Errs E [2, 3, 8, 10, 12] w)
    (hf : fairE (it : Int) b s price qty = 0) (h1 : P bo 1 < b.price * qty) :
    Calls Tryd.prog 58 #[.pointer (some ⟨p, 0, none⟩), .int .i64 (it : Int), b.val, s.val, .int .i64 price, .int .i64 qty] w fun e w' => e = .returned (errV E 10) ∧ ObjTo own i i w (fun o w' => PurseAt o i w' p P) w' := by
  have e10 : w.cell? ⟨5, 0, none⟩ = some (.iface 160 (.pointer (some (E 10)))) := hE 10 (by decide)
  have b10 : 5 < w.heap.size := lt_of_cell e10
  obtain ⟨f1, f2, f3, f4, f5, f6, f7, f8, f9, f10, f11⟩ := fair_zero hf
  have HF := Lib.hid (fair_any (it : Int) b s price qty E)
  rw [hf, errV_zero] at HF
  have HE := Lib.hid hE
  have H := Lib.hid h
  obtain ⟨id1, owner1, side1, price1, qty1⟩ := b
  obtain ⟨id2, owner2, side2, price2, qty2⟩ := s
  simp only at hbo hso f3 f4 f8 f9 f10 f11 h1
  subst hbo hso f3 f4
  have hp := h.lt
  have c0 : (0 : Int) ≤ (bo : Int) := by omega
  have c6 : (bo : Int) < 6 := by omega
  have s0 : (0 : Int) ≤ (so : Int) := by omega
  have s6 : (so : Int) < 6 := by omega
  have i0 : (0 : Int) ≤ (it : Int) := by omega
  have i3 : (it : Int) < 3 := by omega
  have q1 := h.cell hbo6 (j := 1) (by omega)
  have q0 := h.cell hso6 (j := 0) (by omega)
  have q5 := h.cell hso6 (j := 5 + it) (by omega)
  have q2 := h.cell hbo6 (j := 2 + it) (by omega)
  simp only [Nat.add_zero, ← Nat.add_assoc] at q0 q2 q5
  obtain ⟨u1, u2, u3, u4⟩ := h.2.1 bo hbo6
  obtain ⟨v1, v2, v3, v4⟩ := h.2.1 so hso6
  obtain ⟨u5, u6, u7⟩ := u4 it hit
  obtain ⟨v5, v6, v7⟩ := v4 it hit
  obtain ⟨_, _, _, hp1, hq1⟩ := Lot.okC (x := ⟨id1, (bo : Int), 0, price1, qty1⟩) (by simp only [rightB, Bool.and_eq_true] at f1; exact f1.2)
  simp only at hp1 hq1
  have hm1 := mul_bd hp1.1 hp1.2 f7 (by omega)
  have hm2 := mul_bd f5 f6 f7 (by omega)
  have k1 : IntKind.i64.wrap (price1 * qty) = price1 * qty := IntWalk.i64_in _ (by omega)
  have k2 : IntKind.i64.wrap (price * qty) = price * qty := IntWalk.i64_in _ (by omega)
  have k3 : IntKind.i64.wrap (1073741824 - P bo (2 + it)) = 1073741824 - P bo (2 + it) := IntWalk.i64_in _ (by omega)
  have k4 : IntKind.i64.wrap (1099511627776 - P so 0) = 1099511627776 - P so 0 := IntWalk.i64_in _ (by omega)
  have k5 : decide (P bo 1 < price1 * qty) = true := decide_eq_true (by omega)
  have n1 : p ≠ w.heap.size := by omega
  have n2 : p < w.heap.size + 1 := by omega
  clear hE h hf f1 f2 u4 v4
  go_enter Tryd.func58, Tryd.ntmps58
  go_wp2_with fail
  refine (HF.out _ (by exact Errs.sub (HE.out.ex (by repeat (first | exact Ex.refl _ | refine Ex.alloc ?_ _ | refine Ex.ext ?_ _ _ | refine Ex.drew ?_ | refine Ex.drewN ?_ _))) (by decide))).mono ?_
  rintro e w1 ⟨rfl, l1, d1, rfl⟩
  go_wp2_with fail
  go_region_held3 (fun w' => w'.cell? ⟨w.heap.size, 1, none⟩ = some (.int .i64 (bo : Int)) ∧ w'.cell? ⟨w.heap.size + 1, 1, none⟩ = some (.int .i64 (so : Int))) (first | (refine ⟨?_, ?_⟩ <;> assumption) | (simp [go_sem, ↓IntWalk.iteOmega, *]; done)) (fail)
  go_wp2_with fail
  go_quiet (fail)
  go_wp2_with fail
  all_goals go_ret
  all_goals exact ⟨by rw [errV_pos _ _ (by decide)]; rfl, ObjTo.of_ex (by repeat (first | exact Ex.refl _ | refine Ex.alloc ?_ _ | refine Ex.ext ?_ _ _ | refine Ex.drew ?_ | refine Ex.drewN ?_ _)) ((H.out.relabel (fun n hn e => by rw [lab_lt hn]; exact e)).later (by repeat (first | exact Ex.refl _ | refine Ex.alloc ?_ _ | refine Ex.ext ?_ _ _ | refine Ex.drew ?_ | refine Ex.drewN ?_ _)))⟩
set_option maxRecDepth 100000 in
set_option maxHeartbeats 2000000 in
theorem trade_poor2 (h : PurseAt own i w p P) (bo so it : Nat) (hbo6 : bo < 6) (hso6 : so < 6) (hit : it < 3) (b s : Lot) (hbo : b.owner = (bo : Int)) (hso : s.owner = (so : Int)) (price qty : Int) (E : Nat → Addr) (hE : Errs E [2, 3, 8, 10, 12] w)
    (hf : fairE (it : Int) b s price qty = 0) (h1 : b.price * qty ≤ P bo 1) (h2 : P so (5 + it) < qty) :
    Calls Tryd.prog 58 #[.pointer (some ⟨p, 0, none⟩), .int .i64 (it : Int), b.val, s.val, .int .i64 price, .int .i64 qty] w fun e w' => e = .returned (errV E 10) ∧ ObjTo own i i w (fun o w' => PurseAt o i w' p P) w' := by
  have e10 : w.cell? ⟨5, 0, none⟩ = some (.iface 160 (.pointer (some (E 10)))) := hE 10 (by decide)
  have b10 : 5 < w.heap.size := lt_of_cell e10
  obtain ⟨f1, f2, f3, f4, f5, f6, f7, f8, f9, f10, f11⟩ := fair_zero hf
  have HF := Lib.hid (fair_any (it : Int) b s price qty E)
  rw [hf, errV_zero] at HF
  have HE := Lib.hid hE
  have H := Lib.hid h
  obtain ⟨id1, owner1, side1, price1, qty1⟩ := b
  obtain ⟨id2, owner2, side2, price2, qty2⟩ := s
  simp only at hbo hso f3 f4 f8 f9 f10 f11 h1
  subst hbo hso f3 f4
  have hp := h.lt
  have c0 : (0 : Int) ≤ (bo : Int) := by omega
  have c6 : (bo : Int) < 6 := by omega
  have s0 : (0 : Int) ≤ (so : Int) := by omega
  have s6 : (so : Int) < 6 := by omega
  have i0 : (0 : Int) ≤ (it : Int) := by omega
  have i3 : (it : Int) < 3 := by omega
  have q1 := h.cell hbo6 (j := 1) (by omega)
  have q0 := h.cell hso6 (j := 0) (by omega)
  have q5 := h.cell hso6 (j := 5 + it) (by omega)
  have q2 := h.cell hbo6 (j := 2 + it) (by omega)
  simp only [Nat.add_zero, ← Nat.add_assoc] at q0 q2 q5
  obtain ⟨u1, u2, u3, u4⟩ := h.2.1 bo hbo6
  obtain ⟨v1, v2, v3, v4⟩ := h.2.1 so hso6
  obtain ⟨u5, u6, u7⟩ := u4 it hit
  obtain ⟨v5, v6, v7⟩ := v4 it hit
  obtain ⟨_, _, _, hp1, hq1⟩ := Lot.okC (x := ⟨id1, (bo : Int), 0, price1, qty1⟩) (by simp only [rightB, Bool.and_eq_true] at f1; exact f1.2)
  simp only at hp1 hq1
  have hm1 := mul_bd hp1.1 hp1.2 f7 (by omega)
  have hm2 := mul_bd f5 f6 f7 (by omega)
  have k1 : IntKind.i64.wrap (price1 * qty) = price1 * qty := IntWalk.i64_in _ (by omega)
  have k2 : IntKind.i64.wrap (price * qty) = price * qty := IntWalk.i64_in _ (by omega)
  have k3 : IntKind.i64.wrap (1073741824 - P bo (2 + it)) = 1073741824 - P bo (2 + it) := IntWalk.i64_in _ (by omega)
  have k4 : IntKind.i64.wrap (1099511627776 - P so 0) = 1099511627776 - P so 0 := IntWalk.i64_in _ (by omega)
  have k5 : decide (P bo 1 < price1 * qty) = false := decide_eq_false (by omega); have k6 : decide (P so (5 + it) < qty) = true := decide_eq_true (by omega)
  have n1 : p ≠ w.heap.size := by omega
  have n2 : p < w.heap.size + 1 := by omega
  clear hE h hf f1 f2 u4 v4
  go_enter Tryd.func58, Tryd.ntmps58
  go_wp2_with fail
  refine (HF.out _ (by exact Errs.sub (HE.out.ex (by repeat (first | exact Ex.refl _ | refine Ex.alloc ?_ _ | refine Ex.ext ?_ _ _ | refine Ex.drew ?_ | refine Ex.drewN ?_ _))) (by decide))).mono ?_
  rintro e w1 ⟨rfl, l1, d1, rfl⟩
  go_wp2_with fail
  go_region_held3 (fun w' => w'.cell? ⟨w.heap.size, 1, none⟩ = some (.int .i64 (bo : Int)) ∧ w'.cell? ⟨w.heap.size + 1, 1, none⟩ = some (.int .i64 (so : Int))) (first | (refine ⟨?_, ?_⟩ <;> assumption) | (simp [go_sem, ↓IntWalk.iteOmega, *]; done)) (fail)
  go_wp2_with fail
  go_quiet (fail)
  go_wp2_with fail
  all_goals go_ret
  all_goals exact ⟨by rw [errV_pos _ _ (by decide)]; rfl, ObjTo.of_ex (by repeat (first | exact Ex.refl _ | refine Ex.alloc ?_ _ | refine Ex.ext ?_ _ _ | refine Ex.drew ?_ | refine Ex.drewN ?_ _)) ((H.out.relabel (fun n hn e => by rw [lab_lt hn]; exact e)).later (by repeat (first | exact Ex.refl _ | refine Ex.alloc ?_ _ | refine Ex.ext ?_ _ _ | refine Ex.drew ?_ | refine Ex.drewN ?_ _)))⟩
set_option maxRecDepth 100000 in
set_option maxHeartbeats 2000000 in
theorem trade_full1 (h : PurseAt own i w p P) (bo so it : Nat) (hbo6 : bo < 6) (hso6 : so < 6) (hit : it < 3) (b s : Lot) (hbo : b.owner = (bo : Int)) (hso : s.owner = (so : Int)) (price qty : Int) (E : Nat → Addr) (hE : Errs E [2, 3, 8, 10, 12] w)
    (hf : fairE (it : Int) b s price qty = 0) (h1 : b.price * qty ≤ P bo 1) (h2 : qty ≤ P so (5 + it)) (hne : bo ≠ so) (h3 : 1073741824 - P bo (2 + it) < qty) :
    Calls Tryd.prog 58 #[.pointer (some ⟨p, 0, none⟩), .int .i64 (it : Int), b.val, s.val, .int .i64 price, .int .i64 qty] w fun e w' => e = .returned (errV E 8) ∧ ObjTo own i i w (fun o w' => PurseAt o i w' p P) w' := by
  have e8 : w.cell? ⟨2, 0, none⟩ = some (.iface 160 (.pointer (some (E 8)))) := hE 8 (by decide)
  have b8 : 2 < w.heap.size := lt_of_cell e8
  obtain ⟨f1, f2, f3, f4, f5, f6, f7, f8, f9, f10, f11⟩ := fair_zero hf
  have HF := Lib.hid (fair_any (it : Int) b s price qty E)
  rw [hf, errV_zero] at HF
  have HE := Lib.hid hE
  have H := Lib.hid h
  obtain ⟨id1, owner1, side1, price1, qty1⟩ := b
  obtain ⟨id2, owner2, side2, price2, qty2⟩ := s
  simp only at hbo hso f3 f4 f8 f9 f10 f11 h1
  subst hbo hso f3 f4
  have hp := h.lt
  have c0 : (0 : Int) ≤ (bo : Int) := by omega
  have c6 : (bo : Int) < 6 := by omega
  have s0 : (0 : Int) ≤ (so : Int) := by omega
  have s6 : (so : Int) < 6 := by omega
  have i0 : (0 : Int) ≤ (it : Int) := by omega
  have i3 : (it : Int) < 3 := by omega
  have q1 := h.cell hbo6 (j := 1) (by omega)
  have q0 := h.cell hso6 (j := 0) (by omega)
  have q5 := h.cell hso6 (j := 5 + it) (by omega)
  have q2 := h.cell hbo6 (j := 2 + it) (by omega)
  simp only [Nat.add_zero, ← Nat.add_assoc] at q0 q2 q5
  obtain ⟨u1, u2, u3, u4⟩ := h.2.1 bo hbo6
  obtain ⟨v1, v2, v3, v4⟩ := h.2.1 so hso6
  obtain ⟨u5, u6, u7⟩ := u4 it hit
  obtain ⟨v5, v6, v7⟩ := v4 it hit
  obtain ⟨_, _, _, hp1, hq1⟩ := Lot.okC (x := ⟨id1, (bo : Int), 0, price1, qty1⟩) (by simp only [rightB, Bool.and_eq_true] at f1; exact f1.2)
  simp only at hp1 hq1
  have hm1 := mul_bd hp1.1 hp1.2 f7 (by omega)
  have hm2 := mul_bd f5 f6 f7 (by omega)
  have k1 : IntKind.i64.wrap (price1 * qty) = price1 * qty := IntWalk.i64_in _ (by omega)
  have k2 : IntKind.i64.wrap (price * qty) = price * qty := IntWalk.i64_in _ (by omega)
  have k3 : IntKind.i64.wrap (1073741824 - P bo (2 + it)) = 1073741824 - P bo (2 + it) := IntWalk.i64_in _ (by omega)
  have k4 : IntKind.i64.wrap (1099511627776 - P so 0) = 1099511627776 - P so 0 := IntWalk.i64_in _ (by omega)
  have k5 : decide (P bo 1 < price1 * qty) = false := decide_eq_false (by omega); have k6 : decide (P so (5 + it) < qty) = false := decide_eq_false (by omega); have k7 : decide (1073741824 - P bo (2 + it) < qty) = true := decide_eq_true (by omega)
  have n1 : p ≠ w.heap.size := by omega
  have n2 : p < w.heap.size + 1 := by omega
  clear hE h hf f1 f2 u4 v4
  go_enter Tryd.func58, Tryd.ntmps58
  go_wp2_with fail
  refine (HF.out _ (by exact Errs.sub (HE.out.ex (by repeat (first | exact Ex.refl _ | refine Ex.alloc ?_ _ | refine Ex.ext ?_ _ _ | refine Ex.drew ?_ | refine Ex.drewN ?_ _))) (by decide))).mono ?_
  rintro e w1 ⟨rfl, l1, d1, rfl⟩
  go_wp2_with fail
  go_region_held3 (fun w' => w'.cell? ⟨w.heap.size, 1, none⟩ = some (.int .i64 (bo : Int)) ∧ w'.cell? ⟨w.heap.size + 1, 1, none⟩ = some (.int .i64 (so : Int))) (first | (refine ⟨?_, ?_⟩ <;> assumption) | (simp [go_sem, ↓IntWalk.iteOmega, *]; done)) (fail)
  go_wp2_with fail
  go_quiet (fail)
  go_upto_region 7 with (fail)
  refine wp_world (R := fun W => Ex w W) (by repeat (first | exact Ex.refl _ | refine Ex.alloc ?_ _ | refine Ex.ext ?_ _ _ | refine Ex.drew ?_ | refine Ex.drewN ?_ _)) (fun W hW => ?_)
  have hR1 := H.out.later hW
  have hne' := neHasPtr_other W p (bo * 8) (so * 8) (by omega) hR1.block
  have y2 := hR1.cell hbo6 (j := 2 + it) (by omega)
  have y0 := hR1.cell hso6 (j := 0) (by omega)
  simp only [Nat.add_zero, ← Nat.add_assoc] at y0 y2
  have e8' := (hW.below.cell (p := ⟨2, 0, none⟩) b8).trans e8
  have HW := Lib.hid hW
  clear hR1 hW
  go_wp2_with fail
  all_goals go_ret
  all_goals exact ⟨by rw [errV_pos _ _ (by decide)]; rfl, ObjTo.of_ex (HW.out.trans (by repeat (first | exact Ex.refl _ | refine Ex.alloc ?_ _ | refine Ex.ext ?_ _ _ | refine Ex.drew ?_ | refine Ex.drewN ?_ _))) ((H.out.relabel (fun n hn e => by rw [lab_lt hn]; exact e)).later (HW.out.trans (by repeat (first | exact Ex.refl _ | refine Ex.alloc ?_ _ | refine Ex.ext ?_ _ _ | refine Ex.drew ?_ | refine Ex.drewN ?_ _))))⟩
set_option maxRecDepth 100000 in
set_option maxHeartbeats 2000000 in
theorem trade_full2 (h : PurseAt own i w p P) (bo so it : Nat) (hbo6 : bo < 6) (hso6 : so < 6) (hit : it < 3) (b s : Lot) (hbo : b.owner = (bo : Int)) (hso : s.owner = (so : Int)) (price qty : Int) (E : Nat → Addr) (hE : Errs E [2, 3, 8, 10, 12] w)
    (hf : fairE (it : Int) b s price qty = 0) (h1 : b.price * qty ≤ P bo 1) (h2 : qty ≤ P so (5 + it)) (hne : bo ≠ so) (h3 : qty ≤ 1073741824 - P bo (2 + it)) (h4 : 1099511627776 - P so 0 < price * qty) :
    Calls Tryd.prog 58 #[.pointer (some ⟨p, 0, none⟩), .int .i64 (it : Int), b.val, s.val, .int .i64 price, .int .i64 qty] w fun e w' => e = .returned (errV E 8) ∧ ObjTo own i i w (fun o w' => PurseAt o i w' p P) w' := by
  have e8 : w.cell? ⟨2, 0, none⟩ = some (.iface 160 (.pointer (some (E 8)))) := hE 8 (by decide)
  have b8 : 2 < w.heap.size := lt_of_cell e8
  obtain ⟨f1, f2, f3, f4, f5, f6, f7, f8, f9, f10, f11⟩ := fair_zero hf
  have HF := Lib.hid (fair_any (it : Int) b s price qty E)
  rw [hf, errV_zero] at HF
  have HE := Lib.hid hE
  have H := Lib.hid h
  obtain ⟨id1, owner1, side1, price1, qty1⟩ := b
  obtain ⟨id2, owner2, side2, price2, qty2⟩ := s
  simp only at hbo hso f3 f4 f8 f9 f10 f11 h1
  subst hbo hso f3 f4
  have hp := h.lt
  have c0 : (0 : Int) ≤ (bo : Int) := by omega
  have c6 : (bo : Int) < 6 := by omega
  have s0 : (0 : Int) ≤ (so : Int) := by omega
  have s6 : (so : Int) < 6 := by omega
  have i0 : (0 : Int) ≤ (it : Int) := by omega
  have i3 : (it : Int) < 3 := by omega
  have q1 := h.cell hbo6 (j := 1) (by omega)
  have q0 := h.cell hso6 (j := 0) (by omega)
  have q5 := h.cell hso6 (j := 5 + it) (by omega)
  have q2 := h.cell hbo6 (j := 2 + it) (by omega)
  simp only [Nat.add_zero, ← Nat.add_assoc] at q0 q2 q5
  obtain ⟨u1, u2, u3, u4⟩ := h.2.1 bo hbo6
  obtain ⟨v1, v2, v3, v4⟩ := h.2.1 so hso6
  obtain ⟨u5, u6, u7⟩ := u4 it hit
  obtain ⟨v5, v6, v7⟩ := v4 it hit
  obtain ⟨_, _, _, hp1, hq1⟩ := Lot.okC (x := ⟨id1, (bo : Int), 0, price1, qty1⟩) (by simp only [rightB, Bool.and_eq_true] at f1; exact f1.2)
  simp only at hp1 hq1
  have hm1 := mul_bd hp1.1 hp1.2 f7 (by omega)
  have hm2 := mul_bd f5 f6 f7 (by omega)
  have k1 : IntKind.i64.wrap (price1 * qty) = price1 * qty := IntWalk.i64_in _ (by omega)
  have k2 : IntKind.i64.wrap (price * qty) = price * qty := IntWalk.i64_in _ (by omega)
  have k3 : IntKind.i64.wrap (1073741824 - P bo (2 + it)) = 1073741824 - P bo (2 + it) := IntWalk.i64_in _ (by omega)
  have k4 : IntKind.i64.wrap (1099511627776 - P so 0) = 1099511627776 - P so 0 := IntWalk.i64_in _ (by omega)
  have k5 : decide (P bo 1 < price1 * qty) = false := decide_eq_false (by omega); have k6 : decide (P so (5 + it) < qty) = false := decide_eq_false (by omega); have k7 : decide (1073741824 - P bo (2 + it) < qty) = false := decide_eq_false (by omega); have k8 : decide (1099511627776 - P so 0 < price * qty) = true := decide_eq_true (by omega)
  have n1 : p ≠ w.heap.size := by omega
  have n2 : p < w.heap.size + 1 := by omega
  clear hE h hf f1 f2 u4 v4
  go_enter Tryd.func58, Tryd.ntmps58
  go_wp2_with fail
  refine (HF.out _ (by exact Errs.sub (HE.out.ex (by repeat (first | exact Ex.refl _ | refine Ex.alloc ?_ _ | refine Ex.ext ?_ _ _ | refine Ex.drew ?_ | refine Ex.drewN ?_ _))) (by decide))).mono ?_
  rintro e w1 ⟨rfl, l1, d1, rfl⟩
  go_wp2_with fail
  go_region_held3 (fun w' => w'.cell? ⟨w.heap.size, 1, none⟩ = some (.int .i64 (bo : Int)) ∧ w'.cell? ⟨w.heap.size + 1, 1, none⟩ = some (.int .i64 (so : Int))) (first | (refine ⟨?_, ?_⟩ <;> assumption) | (simp [go_sem, ↓IntWalk.iteOmega, *]; done)) (fail)
  go_wp2_with fail
  go_quiet (fail)
  go_upto_region 7 with (fail)
  refine wp_world (R := fun W => Ex w W) (by repeat (first | exact Ex.refl _ | refine Ex.alloc ?_ _ | refine Ex.ext ?_ _ _ | refine Ex.drew ?_ | refine Ex.drewN ?_ _)) (fun W hW => ?_)
  have hR1 := H.out.later hW
  have hne' := neHasPtr_other W p (bo * 8) (so * 8) (by omega) hR1.block
  have y2 := hR1.cell hbo6 (j := 2 + it) (by omega)
  have y0 := hR1.cell hso6 (j := 0) (by omega)
  simp only [Nat.add_zero, ← Nat.add_assoc] at y0 y2
  have e8' := (hW.below.cell (p := ⟨2, 0, none⟩) b8).trans e8
  have HW := Lib.hid hW
  clear hR1 hW
  go_wp2_with fail
  all_goals go_ret
  all_goals exact ⟨by rw [errV_pos _ _ (by decide)]; rfl, ObjTo.of_ex (HW.out.trans (by repeat (first | exact Ex.refl _ | refine Ex.alloc ?_ _ | refine Ex.ext ?_ _ _ | refine Ex.drew ?_ | refine Ex.drewN ?_ _))) ((H.out.relabel (fun n hn e => by rw [lab_lt hn]; exact e)).later (HW.out.trans (by repeat (first | exact Ex.refl _ | refine Ex.alloc ?_ _ | refine Ex.ext ?_ _ _ | refine Ex.drew ?_ | refine Ex.drewN ?_ _))))⟩
end
end Go.Proofs.YtmbboflakfokhaaDoor
