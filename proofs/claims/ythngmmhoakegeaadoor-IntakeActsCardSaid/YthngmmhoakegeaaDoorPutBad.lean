/- What Put of an intake computes where it takes nothing. -/
import Derived.Test.YthngmmhoakegeaaDoorIntake1
set_option linter.unusedSimpArgs false
set_option linter.unusedVariables false
namespace Go.Proofs.YthngmmhoakegeaaDoor
open Go.RowKit

/-- Why a request is not put (0: it is). -/
def putErr (l : Nat → List Ask) (a : Ask) : Nat := if (a.kind != 111 && a.kind != 99) then 4 else if inR a.client 0 5 then (if 6 ≤ (l a.client.toNat).length then 8 else 0) else 2

section
variable {own : Nat → Nat} {i : Nat} {w : World} {p : Nat} {l : Nat → List Ask} {turn : Nat}
set_option maxRecDepth 100000 in
set_option maxHeartbeats 1000000 in
theorem put_kind (a : Ask) (E : Nat → Addr) (hE : Errs E [2, 4, 8] w) (hk : (a.kind != 111 && a.kind != 99) = true) :
    Calls Tryd.prog 17 #[.pointer (some ⟨p, 0, none⟩), a.val] w fun e w' => e = .returned (errV E 4) ∧ Ex w w' := by
  have e4 : w.cell? ⟨3, 0, none⟩ = some (.iface 114 (.pointer (some (E 4)))) := hE 4 (by decide)
  have b4 : 3 < w.heap.size := lt_of_cell e4
  clear hE
  obtain ⟨k1, k2⟩ : (a.kind != 111) = true ∧ (a.kind != 99) = true := by simpa using hk
  go_enter Tryd.func17, Tryd.ntmps17
  go_wp2_with fail
  all_goals go_ret
  all_goals exact ⟨by rw [errV_pos _ _ (by decide)]; rfl, (by repeat (first | exact Ex.refl _ | refine Ex.alloc ?_ _ | refine Ex.ext ?_ _ _ | refine Ex.drew ?_ | refine Ex.drewN ?_ _))⟩
set_option maxRecDepth 100000 in
set_option maxHeartbeats 1000000 in
theorem put_client (a : Ask) (E : Nat → Addr) (hE : Errs E [2, 4, 8] w) (hk : (a.kind == 111) = true ∨ (a.kind == 99) = true) (hc : inR a.client 0 5 = false) :
    Calls Tryd.prog 17 #[.pointer (some ⟨p, 0, none⟩), a.val] w fun e w' => e = .returned (errV E 2) ∧ Ex w w' := by
  have e2 : w.cell? ⟨1, 0, none⟩ = some (.iface 114 (.pointer (some (E 2)))) := hE 2 (by decide)
  have b2 : 1 < w.heap.size := lt_of_cell e2
  clear hE
  have hC := Lib.hid (client_any a.client)
  rw [hc] at hC
  clear hc
  have HK := Lib.hid hk
  clear hk
  by_cases h111 : (a.kind == 111) = true
  · have k1 : (a.kind != 111) = false := by simpa using h111
    go_enter Tryd.func17, Tryd.ntmps17
    go_wp2_with (go_at_call 58; refine (hC.out _).mono ?_; rintro e w1 ⟨rfl, l1, d1, rfl⟩)
    all_goals go_ret
    all_goals exact ⟨by rw [errV_pos _ _ (by decide)]; rfl, (by repeat (first | exact Ex.refl _ | refine Ex.alloc ?_ _ | refine Ex.ext ?_ _ _ | refine Ex.drew ?_ | refine Ex.drewN ?_ _))⟩
  · have k1 : (a.kind != 99) = false := by simpa [h111] using HK.out
    have k2 : (a.kind != 111) = true := by simpa using h111
    go_enter Tryd.func17, Tryd.ntmps17
    go_wp2_with (go_at_call 58; refine (hC.out _).mono ?_; rintro e w1 ⟨rfl, l1, d1, rfl⟩)
    all_goals go_ret
    all_goals exact ⟨by rw [errV_pos _ _ (by decide)]; rfl, (by repeat (first | exact Ex.refl _ | refine Ex.alloc ?_ _ | refine Ex.ext ?_ _ _ | refine Ex.drew ?_ | refine Ex.drewN ?_ _))⟩
set_option maxRecDepth 100000 in
set_option maxHeartbeats 1000000 in
theorem put_full (h : IntakeAt own i w p l turn) (a : Ask) (E : Nat → Addr) (hE : Errs E [2, 4, 8] w) (hk : (a.kind == 111) = true ∨ (a.kind == 99) = true) (c : Nat) (hc : c < 6) (he : a.client = (c : Int)) (hq : 6 ≤ (l c).length) :
    Calls Tryd.prog 17 #[.pointer (some ⟨p, 0, none⟩), a.val] w fun e w' => e = .returned (errV E 8) ∧ Ex w w' := by
  have e8 : w.cell? ⟨7, 0, none⟩ = some (.iface 114 (.pointer (some (E 8)))) := hE 8 (by decide)
  have b8 : 7 < w.heap.size := lt_of_cell e8
  clear hE
  obtain ⟨ao, cap, o, hcell, _⟩ := h.pick c hc
  have hp := h.lt
  have hC := Lib.hid (client_any (c : Int))
  rw [show inR (c : Int) 0 5 = true from inR_iff.2 (by omega)] at hC
  clear h
  obtain ⟨kind, client, seq, item, side, price, qty, id⟩ := a
  simp only at he hk
  subst he
  have HK := Lib.hid hk
  clear hk
  have c0 : (0 : Int) ≤ (c : Int) := by omega
  have c1 : (c : Int) < 6 := by omega
  by_cases h111 : (kind == 111) = true
  · have k1 : (kind != 111) = false := by simpa using h111
    go_enter Tryd.func17, Tryd.ntmps17
    go_wp2_with (go_at_call 58; refine (hC.out _).mono ?_; rintro e w1 ⟨rfl, l1, d1, rfl⟩)
    go_region_held3 (fun w' => w'.cell? ⟨w.heap.size, 1, none⟩ = some (.int .i64 (c : Int)) ∧ w'.cell? ⟨p, c, none⟩ = some (.slice ao (l c).length cap)) (first | exact ⟨by assumption, by assumption⟩ | (simp [go_sem, ↓IntWalk.iteOmega, *]; done)) (fail)
    go_wp2_with fail
    all_goals go_ret
    all_goals exact ⟨by rw [errV_pos _ _ (by decide)]; rfl, (by repeat (first | exact Ex.refl _ | refine Ex.alloc ?_ _ | refine Ex.ext ?_ _ _ | refine Ex.drew ?_ | refine Ex.drewN ?_ _))⟩
  · have k1 : (kind != 99) = false := by simpa [h111] using HK.out
    have k2 : (kind != 111) = true := by simpa using h111
    go_enter Tryd.func17, Tryd.ntmps17
    go_wp2_with (go_at_call 58; refine (hC.out _).mono ?_; rintro e w1 ⟨rfl, l1, d1, rfl⟩)
    go_region_held3 (fun w' => w'.cell? ⟨w.heap.size, 1, none⟩ = some (.int .i64 (c : Int)) ∧ w'.cell? ⟨p, c, none⟩ = some (.slice ao (l c).length cap)) (first | exact ⟨by assumption, by assumption⟩ | (simp [go_sem, ↓IntWalk.iteOmega, *]; done)) (fail)
    go_wp2_with fail
    all_goals go_ret
    all_goals exact ⟨by rw [errV_pos _ _ (by decide)]; rfl, (by repeat (first | exact Ex.refl _ | refine Ex.alloc ?_ _ | refine Ex.ext ?_ _ _ | refine Ex.drew ?_ | refine Ex.drewN ?_ _))⟩
end
end Go.Proofs.YthngmmhoakegeaaDoor
