/- The walk of CurveTells. -/
import Derived.Test.YtjkaeiioofknoaaDoorFaulted
import Derived.Test.YtjkaeiioofknoaaDoorRefPrices
import Derived.Test.YtjkaeiioofknoaaDoorCurved
import Derived.Test.YtjkaeiioofknoaaDoorPrLaw
import Derived.Deep.RegionHeld3
set_option linter.unusedSimpArgs false
set_option linter.unusedVariables false
namespace Go.Proofs.YtjkaeiioofknoaaDoor
open Go.RowKit

theorem bestOf_other {side : Int} {l : List Lot} (h : LotsOk l) (h0 : side ≠ 0) (h1 : side ≠ 1) : bestOf side l = 0 := by
  have : ∀ (l : List Lot), (∀ x ∈ l, x.ok = true) → ∀ b, l.foldl (fun b x => if takes side b x then x.price else b) b = b := by
    intro l
    induction l with
    | nil => intro _ b; rfl
    | cons x l ih =>
      intro hm b
      have hx := (Lot.ok_iff.1 (hm x (by simp))).2.2.1
      have ht : takes side b x = false := by
        have : (x.side == side) = false := by simp; omega
        simp [takes, this]
      rw [List.foldl_cons, ht]
      exact ih (fun y hy => hm y (by simp [hy])) b
  exact this l h.mem 0

set_option maxRecDepth 100000 in
set_option maxHeartbeats 1000000 in
theorem tells_out (ao : Option Addr) (len cap : Nat) (p side : Int) (E : Nat → Addr) (w : World) (hE : Errs E [2, 7, 8] w) (hm : len ≤ 9223372036854775807) (h1 : len > 130) :
    Calls Tryd.prog 11 #[.slice ao len cap, .int .i64 p, .int .i64 side] w fun e w' => e = .returned (.bool true) ∧ Ex w w' := by
  go_enter Tryd.func11, Tryd.ntmps11
  go_wp2_with (go_at_call 13; refine (curved_any E _ (by exact Errs.sub (hE.ex (by repeat (first | exact Ex.refl _ | refine Ex.alloc ?_ _ | refine Ex.ext ?_ _ _ | refine Ex.drew ?_ | refine Ex.drewN ?_ _))) (by decide))).mono ?_; rintro e w1 ⟨rfl, l1, d1, rfl⟩)
  all_goals go_ret
  all_goals exact ⟨rfl, (by repeat (first | exact Ex.refl _ | refine Ex.alloc ?_ _ | refine Ex.ext ?_ _ _ | refine Ex.drew ?_ | refine Ex.drewN ?_ _))⟩

set_option maxRecDepth 100000 in
set_option maxHeartbeats 4000000 in
theorem tells_bad (ao : Option Addr) (len cap : Nat) (l : List Lot) (p side : Int) (E : Nat → Addr) (w : World) (hcap : len ≤ cap ∧ cap ≤ 9223372036854775807 ∧ (ao = none → cap = 0)) (hR : CodeReady E w) (hl : LotsAt w ao len l) (h1 : len ≤ 130) (hok : ¬ LotsOk l) :
    Calls Tryd.prog 11 #[.slice ao len cap, .int .i64 p, .int .i64 side] w fun e w' => e = .returned (.bool true) ∧ Ex w w' := by
  have HL := Lib.hid hl
  have HOK := Lib.hid hok
  have HR0 := Lib.hid hR
  have hE : Errs E [2, 7, 8] w := Errs.sub hR.1 (by decide)
  have hC := fault_bad hok
  have HLF := Lib.hid (fun w hl => lotsFault_any ao len cap l w hl)
  have D0 := fun ao cap => demand_any ao len cap l p E
  have S0 := fun ao cap => supply_any ao len cap l p E
  have V0 := fun ao cap => volume_any ao len cap l p E
  have U0 := fun ao cap => surplus_any ao len cap l p E
  simp only [curveSum_not _ HOK.out] at D0 S0 V0 U0
  have HD0 := Lib.hid D0; have HS0 := Lib.hid S0; have HV0 := Lib.hid V0; have HU0 := Lib.hid U0
  have HP0 := Lib.hid (fun ao cap w hc hE hl => prices_bad ao len cap l E w hc hE hl HOK.out)
  have HFC := Lib.hid (fun (w0 w : World) (v : Value) (h : CheckV E w0 w l v) (hr : CodeReady E w) => faulted_check h hr)
  generalize faultC l = C at *
  generalize faultA l = F at *
  clear hl hok hR D0 S0 V0 U0
  go_enter Tryd.func11, Tryd.ntmps11
  go_wp2_with (go_at_call 13; refine (curved_any E _ (by exact Errs.sub (hE.ex (by repeat (first | exact Ex.refl _ | refine Ex.alloc ?_ _ | refine Ex.ext ?_ _ _ | refine Ex.drew ?_ | refine Ex.drewN ?_ _))) (by decide))).mono ?_; rintro e w1 ⟨rfl, l1, d1, rfl⟩)
  refine (ownLots_any ao len cap l _ hcap (by omega) (HL.out.ex (by repeat (first | exact Ex.refl _ | refine Ex.alloc ?_ _ | refine Ex.ext ?_ _ _ | refine Ex.drew ?_ | refine Ex.drewN ?_ _)))).mono ?_
  rintro e wo ⟨⟨ao', cap', rfl, hc', hl'⟩, hx1'⟩
  have HX : Hid (Ex w wo) := Lib.hid (Ex.trans (by repeat (first | exact Ex.refl _ | refine Ex.alloc ?_ _ | refine Ex.ext ?_ _ _ | refine Ex.drew ?_ | refine Ex.drewN ?_ _)) hx1')
  have hE' := hE.ex HX.out
  clear hx1'
  have HL' := Lib.hid hl'
  clear hl'
  have hcl := hc'.1
  go_wp2_with fail
  go_upto_region 6 with (go_at_call 24; refine (HLF.out _ (LotsAt.ex HL.out (HX.out.trans (by repeat (first | exact Ex.refl _ | refine Ex.alloc ?_ _ | refine Ex.ext ?_ _ _ | refine Ex.drew ?_ | refine Ex.drewN ?_ _))))).mono ?_; rintro e w1 ⟨rfl, l5, d5, rfl⟩)
  go_region_held3 (fun w' => w'.cell? ⟨wo.heap.size + l5.length, 0, none⟩ = some (.int .i64 (C : Int)) ∧ w'.cell? ⟨wo.heap.size + l5.length, 1, none⟩ = some (.int .i64 F)) (first | exact ⟨by assumption, by assumption⟩ | (simp [go_sem, ↓IntWalk.iteOmega, *]; done))
    (first
      | (go_at_call 15; refine (check_any _ len _ l E _ hcl (Errs.ex hE' (by repeat (first | exact Ex.refl _ | refine Ex.alloc ?_ _ | refine Ex.ext ?_ _ _ | refine Ex.drew ?_ | refine Ex.drewN ?_ _))) (LotsAt.ex HL'.out (by repeat (first | exact Ex.refl _ | refine Ex.alloc ?_ _ | refine Ex.ext ?_ _ _ | refine Ex.drew ?_ | refine Ex.drewN ?_ _)))).mono ?_; rintro e w1 ⟨⟨v, rfl, hv⟩, l6, d6, rfl⟩; have HV := Lib.hid hv; clear hv)
      | (go_at_call 26; refine (HFC.out _ _ _ (CheckV.later HV.out (by repeat (first | exact Ex.refl _ | refine Ex.alloc ?_ _ | refine Ex.ext ?_ _ _ | refine Ex.drew ?_ | refine Ex.drewN ?_ _))) (CodeReady.ex HR0.out (HX.out.trans (by repeat (first | exact Ex.refl _ | refine Ex.alloc ?_ _ | refine Ex.ext ?_ _ _ | refine Ex.drew ?_ | refine Ex.drewN ?_ _))))).mono ?_; rintro e w1 ⟨rfl, l6, d6, rfl⟩))
  all_goals
    go_wp2_with (first
      | (go_at_call 16; ((with_reducible refine (HD0.out ao' cap' _ ?_ ?_ ?_).mono ?_); (focus exact hcl); (focus exact Errs.ex hE' (by repeat (first | exact Ex.refl _ | refine Ex.alloc ?_ _ | refine Ex.ext ?_ _ _ | refine Ex.drew ?_ | refine Ex.drewN ?_ _))); (focus exact LotsAt.ex HL'.out (by repeat (first | exact Ex.refl _ | refine Ex.alloc ?_ _ | refine Ex.ext ?_ _ _ | refine Ex.drew ?_ | refine Ex.drewN ?_ _)))); rintro e w1 ⟨rfl, l6, d6, rfl⟩)
      | (go_at_call 17; ((with_reducible refine (HS0.out ao' cap' _ ?_ ?_ ?_).mono ?_); (focus exact hcl); (focus exact Errs.ex hE' (by repeat (first | exact Ex.refl _ | refine Ex.alloc ?_ _ | refine Ex.ext ?_ _ _ | refine Ex.drew ?_ | refine Ex.drewN ?_ _))); (focus exact LotsAt.ex HL'.out (by repeat (first | exact Ex.refl _ | refine Ex.alloc ?_ _ | refine Ex.ext ?_ _ _ | refine Ex.drew ?_ | refine Ex.drewN ?_ _)))); rintro e w1 ⟨rfl, l6, d6, rfl⟩)
      | (go_at_call 19; ((with_reducible refine (HV0.out ao' cap' _ ?_ ?_ ?_).mono ?_); (focus exact hcl); (focus exact Errs.ex hE' (by repeat (first | exact Ex.refl _ | refine Ex.alloc ?_ _ | refine Ex.ext ?_ _ _ | refine Ex.drew ?_ | refine Ex.drewN ?_ _))); (focus exact LotsAt.ex HL'.out (by repeat (first | exact Ex.refl _ | refine Ex.alloc ?_ _ | refine Ex.ext ?_ _ _ | refine Ex.drew ?_ | refine Ex.drewN ?_ _)))); rintro e w1 ⟨rfl, l6, d6, rfl⟩)
      | (go_at_call 18; ((with_reducible refine (HU0.out ao' cap' _ ?_ ?_ ?_).mono ?_); (focus exact hcl); (focus exact Errs.ex hE' (by repeat (first | exact Ex.refl _ | refine Ex.alloc ?_ _ | refine Ex.ext ?_ _ _ | refine Ex.drew ?_ | refine Ex.drewN ?_ _))); (focus exact LotsAt.ex HL'.out (by repeat (first | exact Ex.refl _ | refine Ex.alloc ?_ _ | refine Ex.ext ?_ _ _ | refine Ex.drew ?_ | refine Ex.drewN ?_ _)))); rintro e w1 ⟨rfl, l6, d6, rfl⟩)
      | (go_at_call 31; ((with_reducible refine (HP0.out ao' cap' _ ?_ ?_ ?_).mono ?_); (focus exact hcl); (focus exact Errs.ex hE' (by repeat (first | exact Ex.refl _ | refine Ex.alloc ?_ _ | refine Ex.ext ?_ _ _ | refine Ex.drew ?_ | refine Ex.drewN ?_ _))); (focus exact LotsAt.ex HL'.out (by repeat (first | exact Ex.refl _ | refine Ex.alloc ?_ _ | refine Ex.ext ?_ _ _ | refine Ex.drew ?_ | refine Ex.drewN ?_ _)))); rintro e w1 ⟨rfl, l6, d6, rfl⟩))
    all_goals go_ret
    all_goals exact ⟨rfl, HX.out.trans (by repeat (first | exact Ex.refl _ | refine Ex.alloc ?_ _ | refine Ex.ext ?_ _ _ | refine Ex.drew ?_ | refine Ex.drewN ?_ _))⟩

set_option maxRecDepth 100000 in
set_option maxHeartbeats 8000000 in
theorem tells_ok (ao : Option Addr) (len cap : Nat) (l : List Lot) (p side : Int) (E : Nat → Addr) (w : World) (hcap : len ≤ cap ∧ cap ≤ 9223372036854775807 ∧ (ao = none → cap = 0)) (hR : CodeReady E w) (hl : LotsAt w ao len l) (h1 : len ≤ 130) (hok : LotsOk l) :
    Calls Tryd.prog 11 #[.slice ao len cap, .int .i64 p, .int .i64 side] w fun e w' => e = .returned (.bool true) ∧ Ex w w' := by
  have HL := Lib.hid hl
  have HOK := Lib.hid hok
  have HR0 := Lib.hid hR
  have hlen : l.length = len := hl.1
  have h120 := hok.1
  have hE : Errs E [2, 7, 8] w := Errs.sub hR.1 (by decide)
  have hF := fault_good hok
  have LF := fun w hl => lotsFault_any ao len cap l w hl
  rw [hF.1, hF.2] at LF
  have HLF := Lib.hid LF
  have D0 := fun ao cap => demand_any ao len cap l p E
  have S0 := fun ao cap => supply_any ao len cap l p E
  have V0 := fun ao cap => volume_any ao len cap l p E
  have U0 := fun ao cap => surplus_any ao len cap l p E
  have B3 := fun ao cap => best_any ao len cap l side E
  have C0 := fun ao cap => cross_any ao len cap l E
  simp only [curveSum_ok hok] at D0 S0 V0 U0
  rw [show curveBest side l = bestOf side l from if_pos hok] at B3
  rw [show curveCross l = (decide (bestOf 0 l > 0) && decide (bestOf 1 l > 0) && decide (bestOf 0 l ≥ bestOf 1 l)) by simp only [curveCross, curveBest, if_pos hok]] at C0
  have D1 := fun w hl => demandOf_any ao len cap l p w hl hok
  have S1 := fun w hl => supplyOf_any ao len cap l p w hl hok
  have V1 := fun w hl => volumeOf_any ao len cap l p w hl hok
  have B2 := fun w hl => refBest_any ao len cap l side w hl hok
  have B0 := fun w hl => refBest_any ao len cap l 0 w hl hok
  have B1 := fun w hl => refBest_any ao len cap l 1 w hl hok
  have b1 := sumOf_bounds (isDem p) l hok.mem
  have b2 := sumOf_bounds (isSup p) l hok.mem
  have ho : side ≠ 0 → side ≠ 1 → bestOf side l = 0 := bestOf_other hok
  have hpl := pricesL_len l
  generalize sumOf (isDem p) l = D at *
  generalize sumOf (isSup p) l = S at *
  generalize bestOf side l = bs at *
  generalize bestOf 0 l = x0 at *
  generalize bestOf 1 l = x1 at *
  have n1 : (D != D) = false := by simp
  have n2 : (S != S) = false := by simp
  have n3 : (min D S != min D S) = false := by simp
  have n4 : (D - S != D - S) = false := by simp
  have n5 : (bs == bs) = true := by simp
  have HD0 := Lib.hid D0; have HS0 := Lib.hid S0; have HV0 := Lib.hid V0; have HU0 := Lib.hid U0; have HB3 := Lib.hid B3
  have HD1 := Lib.hid D1; have HS1 := Lib.hid S1; have HV1 := Lib.hid V1; have HB2 := Lib.hid B2; have HB0 := Lib.hid B0; have HB1 := Lib.hid B1
  have HO := Lib.hid ho
  clear hl hok hR LF D0 S0 V0 U0 B3 D1 S1 V1 B2 B0 B1 hF ho
  go_enter Tryd.func11, Tryd.ntmps11
  go_wp2_with (go_at_call 13; refine (curved_any E _ (by exact Errs.sub (hE.ex (by repeat (first | exact Ex.refl _ | refine Ex.alloc ?_ _ | refine Ex.ext ?_ _ _ | refine Ex.drew ?_ | refine Ex.drewN ?_ _))) (by decide))).mono ?_; rintro e w1 ⟨rfl, l1, d1, rfl⟩)
  refine (ownLots_any ao len cap l _ hcap (by omega) (HL.out.ex (by repeat (first | exact Ex.refl _ | refine Ex.alloc ?_ _ | refine Ex.ext ?_ _ _ | refine Ex.drew ?_ | refine Ex.drewN ?_ _)))).mono ?_
  rintro e wo ⟨⟨ao', cap', rfl, hc', hl'⟩, hx1'⟩
  have HX : Hid (Ex w wo) := Lib.hid (Ex.trans (by repeat (first | exact Ex.refl _ | refine Ex.alloc ?_ _ | refine Ex.ext ?_ _ _ | refine Ex.drew ?_ | refine Ex.drewN ?_ _)) hx1')
  have hE' := hE.ex HX.out
  clear hx1'
  have HL' := Lib.hid hl'
  clear hl'
  have hcl := hc'.1
  go_wp2_with fail
  go_upto_region 6 with (go_at_call 24; refine (HLF.out _ (LotsAt.ex HL.out (HX.out.trans (by repeat (first | exact Ex.refl _ | refine Ex.alloc ?_ _ | refine Ex.ext ?_ _ _ | refine Ex.drew ?_ | refine Ex.drewN ?_ _))))).mono ?_; rintro e w1 ⟨rfl, l5, d5, rfl⟩)
  go_region_held3 (fun w' => w'.cell? ⟨wo.heap.size + l5.length, 0, none⟩ = some (.int .i64 0) ∧ w'.cell? ⟨wo.heap.size + l5.length, 1, none⟩ = some (.int .i64 (-1))) (first | exact ⟨by assumption, by assumption⟩ | (simp [go_sem, ↓IntWalk.iteOmega, *]; done))
    (first
      | (go_at_call 15; refine (check_any _ len _ l E _ hcl (Errs.ex hE' (by repeat (first | exact Ex.refl _ | refine Ex.alloc ?_ _ | refine Ex.ext ?_ _ _ | refine Ex.drew ?_ | refine Ex.drewN ?_ _))) (LotsAt.ex HL'.out (by repeat (first | exact Ex.refl _ | refine Ex.alloc ?_ _ | refine Ex.ext ?_ _ _ | refine Ex.drew ?_ | refine Ex.drewN ?_ _)))).mono ?_; rintro e w1 ⟨⟨v, rfl, hv⟩, l6, d6, rfl⟩; obtain rfl := CheckV.ok HOK.out hv; clear hv)
      | (go_at_call 26; refine (faulted_nil _).mono ?_; rintro e w1 ⟨rfl, l6, d6, rfl⟩))
  all_goals
    have hside : (side != 0) = false ∨ ((side != 0) = true ∧ (side != 1) = false) ∨ ((side != 0) = true ∧ (side != 1) = true) := by
      cases (side != 0) <;> cases (side != 1) <;> simp
    by_cases c0 : x0 > 0
    · by_cases c1 : x1 > 0
      · by_cases c2 : x0 ≥ x1
        · have HC0 := Lib.hid C0
          rw [decide_eq_true c0, decide_eq_true c1, decide_eq_true c2] at HC0
          rcases hside with s0 | ⟨s0, s1⟩ | ⟨s0, s1⟩
          · clear C0
            go_upto_region 19 with (first
              | (go_at_call 16; ((with_reducible refine (HD0.out ao' cap' _ ?_ ?_ ?_).mono ?_); (focus exact hcl); (focus exact Errs.ex hE' (by repeat (first | exact Ex.refl _ | refine Ex.alloc ?_ _ | refine Ex.ext ?_ _ _ | refine Ex.drew ?_ | refine Ex.drewN ?_ _))); (focus exact LotsAt.ex HL'.out (by repeat (first | exact Ex.refl _ | refine Ex.alloc ?_ _ | refine Ex.ext ?_ _ _ | refine Ex.drew ?_ | refine Ex.drewN ?_ _)))); rintro e w1 ⟨rfl, l6, d6, rfl⟩)
              | (go_at_call 17; ((with_reducible refine (HS0.out ao' cap' _ ?_ ?_ ?_).mono ?_); (focus exact hcl); (focus exact Errs.ex hE' (by repeat (first | exact Ex.refl _ | refine Ex.alloc ?_ _ | refine Ex.ext ?_ _ _ | refine Ex.drew ?_ | refine Ex.drewN ?_ _))); (focus exact LotsAt.ex HL'.out (by repeat (first | exact Ex.refl _ | refine Ex.alloc ?_ _ | refine Ex.ext ?_ _ _ | refine Ex.drew ?_ | refine Ex.drewN ?_ _)))); rintro e w1 ⟨rfl, l6, d6, rfl⟩)
              | (go_at_call 19; ((with_reducible refine (HV0.out ao' cap' _ ?_ ?_ ?_).mono ?_); (focus exact hcl); (focus exact Errs.ex hE' (by repeat (first | exact Ex.refl _ | refine Ex.alloc ?_ _ | refine Ex.ext ?_ _ _ | refine Ex.drew ?_ | refine Ex.drewN ?_ _))); (focus exact LotsAt.ex HL'.out (by repeat (first | exact Ex.refl _ | refine Ex.alloc ?_ _ | refine Ex.ext ?_ _ _ | refine Ex.drew ?_ | refine Ex.drewN ?_ _)))); rintro e w1 ⟨rfl, l6, d6, rfl⟩)
              | (go_at_call 18; ((with_reducible refine (HU0.out ao' cap' _ ?_ ?_ ?_).mono ?_); (focus exact hcl); (focus exact Errs.ex hE' (by repeat (first | exact Ex.refl _ | refine Ex.alloc ?_ _ | refine Ex.ext ?_ _ _ | refine Ex.drew ?_ | refine Ex.drewN ?_ _))); (focus exact LotsAt.ex HL'.out (by repeat (first | exact Ex.refl _ | refine Ex.alloc ?_ _ | refine Ex.ext ?_ _ _ | refine Ex.drew ?_ | refine Ex.drewN ?_ _)))); rintro e w1 ⟨rfl, l6, d6, rfl⟩)
              | (go_at_call 28; ((with_reducible refine (HD1.out _ ?_).mono ?_); (focus exact LotsAt.ex HL.out (HX.out.trans (by repeat (first | exact Ex.refl _ | refine Ex.alloc ?_ _ | refine Ex.ext ?_ _ _ | refine Ex.drew ?_ | refine Ex.drewN ?_ _))))); rintro e w1 ⟨rfl, rfl⟩)
              | (go_at_call 29; ((with_reducible refine (HS1.out _ ?_).mono ?_); (focus exact LotsAt.ex HL.out (HX.out.trans (by repeat (first | exact Ex.refl _ | refine Ex.alloc ?_ _ | refine Ex.ext ?_ _ _ | refine Ex.drew ?_ | refine Ex.drewN ?_ _))))); rintro e w1 ⟨rfl, rfl⟩)
              | (go_at_call 43; ((with_reducible refine (HV1.out _ ?_).mono ?_); (focus exact LotsAt.ex HL.out (HX.out.trans (by repeat (first | exact Ex.refl _ | refine Ex.alloc ?_ _ | refine Ex.ext ?_ _ _ | refine Ex.drew ?_ | refine Ex.drewN ?_ _))))); rintro e w1 ⟨rfl, rfl⟩)
              | (go_at_call 44; ((with_reducible refine (HB2.out _ ?_).mono ?_); (focus exact LotsAt.ex HL.out (HX.out.trans (by repeat (first | exact Ex.refl _ | refine Ex.alloc ?_ _ | refine Ex.ext ?_ _ _ | refine Ex.drew ?_ | refine Ex.drewN ?_ _))))); rintro e w1 ⟨rfl, rfl⟩)
              | (go_at_call 44; ((with_reducible refine (HB0.out _ ?_).mono ?_); (focus exact LotsAt.ex HL.out (HX.out.trans (by repeat (first | exact Ex.refl _ | refine Ex.alloc ?_ _ | refine Ex.ext ?_ _ _ | refine Ex.drew ?_ | refine Ex.drewN ?_ _))))); rintro e w1 ⟨rfl, rfl⟩)
              | (go_at_call 44; ((with_reducible refine (HB1.out _ ?_).mono ?_); (focus exact LotsAt.ex HL.out (HX.out.trans (by repeat (first | exact Ex.refl _ | refine Ex.alloc ?_ _ | refine Ex.ext ?_ _ _ | refine Ex.drew ?_ | refine Ex.drewN ?_ _))))); rintro e w1 ⟨rfl, rfl⟩))
            go_wp2_with fail
            refine (prices_ok _ len _ l E _ hcl (Errs.ex hE' (by repeat (first | exact Ex.refl _ | refine Ex.alloc ?_ _ | refine Ex.ext ?_ _ _ | refine Ex.drew ?_ | refine Ex.drewN ?_ _))) (LotsAt.ex HL'.out (by repeat (first | exact Ex.refl _ | refine Ex.alloc ?_ _ | refine Ex.ext ?_ _ _ | refine Ex.drew ?_ | refine Ex.drewN ?_ _))) HOK.out).mono ?_
            rintro e w3 ⟨⟨ao3, cap3, rfl, hc3, hz3⟩, hx3⟩
            have HX3 : Hid (Ex wo w3) := Lib.hid (Ex.trans (by repeat (first | exact Ex.refl _ | refine Ex.alloc ?_ _ | refine Ex.ext ?_ _ _ | refine Ex.drew ?_ | refine Ex.drewN ?_ _)) hx3)
            have HZ3 := Lib.hid hz3
            clear hx3 hz3
            go_wp2_with fail
            refine (pricesOf_any ao len cap l _ (HL.out.ex (HX.out.trans (HX3.out.trans (by repeat (first | exact Ex.refl _ | refine Ex.alloc ?_ _ | refine Ex.ext ?_ _ _ | refine Ex.drew ?_ | refine Ex.drewN ?_ _))))) (by omega)).mono ?_
            rintro e w4 ⟨⟨ao4, cap4, rfl, hz4⟩, hx4⟩
            have HX34 : Hid (Ex w3 w4) := Lib.hid (Ex.trans (by repeat (first | exact Ex.refl _ | refine Ex.alloc ?_ _ | refine Ex.ext ?_ _ _ | refine Ex.drew ?_ | refine Ex.drewN ?_ _)) hx4)
            have HZ4 := Lib.hid hz4
            clear hx4 hz4
            go_wp2_with fail
            refine (sameInts_any _ _ _ _ (pricesL l) _ (HZ3.out.ex (HX34.out.trans (by repeat (first | exact Ex.refl _ | refine Ex.alloc ?_ _ | refine Ex.ext ?_ _ _ | refine Ex.drew ?_ | refine Ex.drewN ?_ _)))) (HZ4.out.ex (by repeat (first | exact Ex.refl _ | refine Ex.alloc ?_ _ | refine Ex.ext ?_ _ _ | refine Ex.drew ?_ | refine Ex.drewN ?_ _))) (by omega)).mono ?_
            rintro e w5 ⟨rfl, l7, d7, rfl⟩
            have HX4 : Hid (Ex wo w4) := Lib.hid (HX3.out.trans HX34.out)
            have hE4 := hE'.ex HX4.out
            have HL4 := Lib.hid (HL'.out.ex HX4.out)
            go_wp2_with (first
              | (go_at_call 32; ((with_reducible refine (HB3.out ao' cap' _ ?_ ?_ ?_).mono ?_); (focus exact hcl); (focus exact Errs.ex hE4 (by repeat (first | exact Ex.refl _ | refine Ex.alloc ?_ _ | refine Ex.ext ?_ _ _ | refine Ex.drew ?_ | refine Ex.drewN ?_ _))); (focus exact LotsAt.ex HL4.out (by repeat (first | exact Ex.refl _ | refine Ex.alloc ?_ _ | refine Ex.ext ?_ _ _ | refine Ex.drew ?_ | refine Ex.drewN ?_ _)))); rintro e w1 ⟨rfl, l6, d6, rfl⟩)
              | (go_at_call 22; ((with_reducible refine (HC0.out ao' cap' _ ?_ ?_ ?_).mono ?_); (focus exact hcl); (focus exact Errs.ex hE4 (by repeat (first | exact Ex.refl _ | refine Ex.alloc ?_ _ | refine Ex.ext ?_ _ _ | refine Ex.drew ?_ | refine Ex.drewN ?_ _))); (focus exact LotsAt.ex HL4.out (by repeat (first | exact Ex.refl _ | refine Ex.alloc ?_ _ | refine Ex.ext ?_ _ _ | refine Ex.drew ?_ | refine Ex.drewN ?_ _)))); rintro e w1 ⟨rfl, l6, d6, rfl⟩))
            all_goals go_ret
            all_goals exact ⟨by first | rfl | exact ret_bool (by simp; omega), (HX.out.trans HX4.out).trans (by repeat (first | exact Ex.refl _ | refine Ex.alloc ?_ _ | refine Ex.ext ?_ _ _ | refine Ex.drew ?_ | refine Ex.drewN ?_ _))⟩
          · clear C0
            go_upto_region 19 with (first
              | (go_at_call 16; ((with_reducible refine (HD0.out ao' cap' _ ?_ ?_ ?_).mono ?_); (focus exact hcl); (focus exact Errs.ex hE' (by repeat (first | exact Ex.refl _ | refine Ex.alloc ?_ _ | refine Ex.ext ?_ _ _ | refine Ex.drew ?_ | refine Ex.drewN ?_ _))); (focus exact LotsAt.ex HL'.out (by repeat (first | exact Ex.refl _ | refine Ex.alloc ?_ _ | refine Ex.ext ?_ _ _ | refine Ex.drew ?_ | refine Ex.drewN ?_ _)))); rintro e w1 ⟨rfl, l6, d6, rfl⟩)
              | (go_at_call 17; ((with_reducible refine (HS0.out ao' cap' _ ?_ ?_ ?_).mono ?_); (focus exact hcl); (focus exact Errs.ex hE' (by repeat (first | exact Ex.refl _ | refine Ex.alloc ?_ _ | refine Ex.ext ?_ _ _ | refine Ex.drew ?_ | refine Ex.drewN ?_ _))); (focus exact LotsAt.ex HL'.out (by repeat (first | exact Ex.refl _ | refine Ex.alloc ?_ _ | refine Ex.ext ?_ _ _ | refine Ex.drew ?_ | refine Ex.drewN ?_ _)))); rintro e w1 ⟨rfl, l6, d6, rfl⟩)
              | (go_at_call 19; ((with_reducible refine (HV0.out ao' cap' _ ?_ ?_ ?_).mono ?_); (focus exact hcl); (focus exact Errs.ex hE' (by repeat (first | exact Ex.refl _ | refine Ex.alloc ?_ _ | refine Ex.ext ?_ _ _ | refine Ex.drew ?_ | refine Ex.drewN ?_ _))); (focus exact LotsAt.ex HL'.out (by repeat (first | exact Ex.refl _ | refine Ex.alloc ?_ _ | refine Ex.ext ?_ _ _ | refine Ex.drew ?_ | refine Ex.drewN ?_ _)))); rintro e w1 ⟨rfl, l6, d6, rfl⟩)
              | (go_at_call 18; ((with_reducible refine (HU0.out ao' cap' _ ?_ ?_ ?_).mono ?_); (focus exact hcl); (focus exact Errs.ex hE' (by repeat (first | exact Ex.refl _ | refine Ex.alloc ?_ _ | refine Ex.ext ?_ _ _ | refine Ex.drew ?_ | refine Ex.drewN ?_ _))); (focus exact LotsAt.ex HL'.out (by repeat (first | exact Ex.refl _ | refine Ex.alloc ?_ _ | refine Ex.ext ?_ _ _ | refine Ex.drew ?_ | refine Ex.drewN ?_ _)))); rintro e w1 ⟨rfl, l6, d6, rfl⟩)
              | (go_at_call 28; ((with_reducible refine (HD1.out _ ?_).mono ?_); (focus exact LotsAt.ex HL.out (HX.out.trans (by repeat (first | exact Ex.refl _ | refine Ex.alloc ?_ _ | refine Ex.ext ?_ _ _ | refine Ex.drew ?_ | refine Ex.drewN ?_ _))))); rintro e w1 ⟨rfl, rfl⟩)
              | (go_at_call 29; ((with_reducible refine (HS1.out _ ?_).mono ?_); (focus exact LotsAt.ex HL.out (HX.out.trans (by repeat (first | exact Ex.refl _ | refine Ex.alloc ?_ _ | refine Ex.ext ?_ _ _ | refine Ex.drew ?_ | refine Ex.drewN ?_ _))))); rintro e w1 ⟨rfl, rfl⟩)
              | (go_at_call 43; ((with_reducible refine (HV1.out _ ?_).mono ?_); (focus exact LotsAt.ex HL.out (HX.out.trans (by repeat (first | exact Ex.refl _ | refine Ex.alloc ?_ _ | refine Ex.ext ?_ _ _ | refine Ex.drew ?_ | refine Ex.drewN ?_ _))))); rintro e w1 ⟨rfl, rfl⟩)
              | (go_at_call 44; ((with_reducible refine (HB2.out _ ?_).mono ?_); (focus exact LotsAt.ex HL.out (HX.out.trans (by repeat (first | exact Ex.refl _ | refine Ex.alloc ?_ _ | refine Ex.ext ?_ _ _ | refine Ex.drew ?_ | refine Ex.drewN ?_ _))))); rintro e w1 ⟨rfl, rfl⟩)
              | (go_at_call 44; ((with_reducible refine (HB0.out _ ?_).mono ?_); (focus exact LotsAt.ex HL.out (HX.out.trans (by repeat (first | exact Ex.refl _ | refine Ex.alloc ?_ _ | refine Ex.ext ?_ _ _ | refine Ex.drew ?_ | refine Ex.drewN ?_ _))))); rintro e w1 ⟨rfl, rfl⟩)
              | (go_at_call 44; ((with_reducible refine (HB1.out _ ?_).mono ?_); (focus exact LotsAt.ex HL.out (HX.out.trans (by repeat (first | exact Ex.refl _ | refine Ex.alloc ?_ _ | refine Ex.ext ?_ _ _ | refine Ex.drew ?_ | refine Ex.drewN ?_ _))))); rintro e w1 ⟨rfl, rfl⟩))
            go_wp2_with fail
            refine (prices_ok _ len _ l E _ hcl (Errs.ex hE' (by repeat (first | exact Ex.refl _ | refine Ex.alloc ?_ _ | refine Ex.ext ?_ _ _ | refine Ex.drew ?_ | refine Ex.drewN ?_ _))) (LotsAt.ex HL'.out (by repeat (first | exact Ex.refl _ | refine Ex.alloc ?_ _ | refine Ex.ext ?_ _ _ | refine Ex.drew ?_ | refine Ex.drewN ?_ _))) HOK.out).mono ?_
            rintro e w3 ⟨⟨ao3, cap3, rfl, hc3, hz3⟩, hx3⟩
            have HX3 : Hid (Ex wo w3) := Lib.hid (Ex.trans (by repeat (first | exact Ex.refl _ | refine Ex.alloc ?_ _ | refine Ex.ext ?_ _ _ | refine Ex.drew ?_ | refine Ex.drewN ?_ _)) hx3)
            have HZ3 := Lib.hid hz3
            clear hx3 hz3
            go_wp2_with fail
            refine (pricesOf_any ao len cap l _ (HL.out.ex (HX.out.trans (HX3.out.trans (by repeat (first | exact Ex.refl _ | refine Ex.alloc ?_ _ | refine Ex.ext ?_ _ _ | refine Ex.drew ?_ | refine Ex.drewN ?_ _))))) (by omega)).mono ?_
            rintro e w4 ⟨⟨ao4, cap4, rfl, hz4⟩, hx4⟩
            have HX34 : Hid (Ex w3 w4) := Lib.hid (Ex.trans (by repeat (first | exact Ex.refl _ | refine Ex.alloc ?_ _ | refine Ex.ext ?_ _ _ | refine Ex.drew ?_ | refine Ex.drewN ?_ _)) hx4)
            have HZ4 := Lib.hid hz4
            clear hx4 hz4
            go_wp2_with fail
            refine (sameInts_any _ _ _ _ (pricesL l) _ (HZ3.out.ex (HX34.out.trans (by repeat (first | exact Ex.refl _ | refine Ex.alloc ?_ _ | refine Ex.ext ?_ _ _ | refine Ex.drew ?_ | refine Ex.drewN ?_ _)))) (HZ4.out.ex (by repeat (first | exact Ex.refl _ | refine Ex.alloc ?_ _ | refine Ex.ext ?_ _ _ | refine Ex.drew ?_ | refine Ex.drewN ?_ _))) (by omega)).mono ?_
            rintro e w5 ⟨rfl, l7, d7, rfl⟩
            have HX4 : Hid (Ex wo w4) := Lib.hid (HX3.out.trans HX34.out)
            have hE4 := hE'.ex HX4.out
            have HL4 := Lib.hid (HL'.out.ex HX4.out)
            go_wp2_with (first
              | (go_at_call 32; ((with_reducible refine (HB3.out ao' cap' _ ?_ ?_ ?_).mono ?_); (focus exact hcl); (focus exact Errs.ex hE4 (by repeat (first | exact Ex.refl _ | refine Ex.alloc ?_ _ | refine Ex.ext ?_ _ _ | refine Ex.drew ?_ | refine Ex.drewN ?_ _))); (focus exact LotsAt.ex HL4.out (by repeat (first | exact Ex.refl _ | refine Ex.alloc ?_ _ | refine Ex.ext ?_ _ _ | refine Ex.drew ?_ | refine Ex.drewN ?_ _)))); rintro e w1 ⟨rfl, l6, d6, rfl⟩)
              | (go_at_call 22; ((with_reducible refine (HC0.out ao' cap' _ ?_ ?_ ?_).mono ?_); (focus exact hcl); (focus exact Errs.ex hE4 (by repeat (first | exact Ex.refl _ | refine Ex.alloc ?_ _ | refine Ex.ext ?_ _ _ | refine Ex.drew ?_ | refine Ex.drewN ?_ _))); (focus exact LotsAt.ex HL4.out (by repeat (first | exact Ex.refl _ | refine Ex.alloc ?_ _ | refine Ex.ext ?_ _ _ | refine Ex.drew ?_ | refine Ex.drewN ?_ _)))); rintro e w1 ⟨rfl, l6, d6, rfl⟩))
            all_goals go_ret
            all_goals exact ⟨by first | rfl | exact ret_bool (by simp; omega), (HX.out.trans HX4.out).trans (by repeat (first | exact Ex.refl _ | refine Ex.alloc ?_ _ | refine Ex.ext ?_ _ _ | refine Ex.drew ?_ | refine Ex.drewN ?_ _))⟩
          · clear C0
            obtain rfl : bs = 0 := HO.out (by simpa using s0) (by simpa using s1)
            go_upto_region 19 with (first
              | (go_at_call 16; ((with_reducible refine (HD0.out ao' cap' _ ?_ ?_ ?_).mono ?_); (focus exact hcl); (focus exact Errs.ex hE' (by repeat (first | exact Ex.refl _ | refine Ex.alloc ?_ _ | refine Ex.ext ?_ _ _ | refine Ex.drew ?_ | refine Ex.drewN ?_ _))); (focus exact LotsAt.ex HL'.out (by repeat (first | exact Ex.refl _ | refine Ex.alloc ?_ _ | refine Ex.ext ?_ _ _ | refine Ex.drew ?_ | refine Ex.drewN ?_ _)))); rintro e w1 ⟨rfl, l6, d6, rfl⟩)
              | (go_at_call 17; ((with_reducible refine (HS0.out ao' cap' _ ?_ ?_ ?_).mono ?_); (focus exact hcl); (focus exact Errs.ex hE' (by repeat (first | exact Ex.refl _ | refine Ex.alloc ?_ _ | refine Ex.ext ?_ _ _ | refine Ex.drew ?_ | refine Ex.drewN ?_ _))); (focus exact LotsAt.ex HL'.out (by repeat (first | exact Ex.refl _ | refine Ex.alloc ?_ _ | refine Ex.ext ?_ _ _ | refine Ex.drew ?_ | refine Ex.drewN ?_ _)))); rintro e w1 ⟨rfl, l6, d6, rfl⟩)
              | (go_at_call 19; ((with_reducible refine (HV0.out ao' cap' _ ?_ ?_ ?_).mono ?_); (focus exact hcl); (focus exact Errs.ex hE' (by repeat (first | exact Ex.refl _ | refine Ex.alloc ?_ _ | refine Ex.ext ?_ _ _ | refine Ex.drew ?_ | refine Ex.drewN ?_ _))); (focus exact LotsAt.ex HL'.out (by repeat (first | exact Ex.refl _ | refine Ex.alloc ?_ _ | refine Ex.ext ?_ _ _ | refine Ex.drew ?_ | refine Ex.drewN ?_ _)))); rintro e w1 ⟨rfl, l6, d6, rfl⟩)
              | (go_at_call 18; ((with_reducible refine (HU0.out ao' cap' _ ?_ ?_ ?_).mono ?_); (focus exact hcl); (focus exact Errs.ex hE' (by repeat (first | exact Ex.refl _ | refine Ex.alloc ?_ _ | refine Ex.ext ?_ _ _ | refine Ex.drew ?_ | refine Ex.drewN ?_ _))); (focus exact LotsAt.ex HL'.out (by repeat (first | exact Ex.refl _ | refine Ex.alloc ?_ _ | refine Ex.ext ?_ _ _ | refine Ex.drew ?_ | refine Ex.drewN ?_ _)))); rintro e w1 ⟨rfl, l6, d6, rfl⟩)
              | (go_at_call 28; ((with_reducible refine (HD1.out _ ?_).mono ?_); (focus exact LotsAt.ex HL.out (HX.out.trans (by repeat (first | exact Ex.refl _ | refine Ex.alloc ?_ _ | refine Ex.ext ?_ _ _ | refine Ex.drew ?_ | refine Ex.drewN ?_ _))))); rintro e w1 ⟨rfl, rfl⟩)
              | (go_at_call 29; ((with_reducible refine (HS1.out _ ?_).mono ?_); (focus exact LotsAt.ex HL.out (HX.out.trans (by repeat (first | exact Ex.refl _ | refine Ex.alloc ?_ _ | refine Ex.ext ?_ _ _ | refine Ex.drew ?_ | refine Ex.drewN ?_ _))))); rintro e w1 ⟨rfl, rfl⟩)
              | (go_at_call 43; ((with_reducible refine (HV1.out _ ?_).mono ?_); (focus exact LotsAt.ex HL.out (HX.out.trans (by repeat (first | exact Ex.refl _ | refine Ex.alloc ?_ _ | refine Ex.ext ?_ _ _ | refine Ex.drew ?_ | refine Ex.drewN ?_ _))))); rintro e w1 ⟨rfl, rfl⟩)
              | (go_at_call 44; ((with_reducible refine (HB2.out _ ?_).mono ?_); (focus exact LotsAt.ex HL.out (HX.out.trans (by repeat (first | exact Ex.refl _ | refine Ex.alloc ?_ _ | refine Ex.ext ?_ _ _ | refine Ex.drew ?_ | refine Ex.drewN ?_ _))))); rintro e w1 ⟨rfl, rfl⟩)
              | (go_at_call 44; ((with_reducible refine (HB0.out _ ?_).mono ?_); (focus exact LotsAt.ex HL.out (HX.out.trans (by repeat (first | exact Ex.refl _ | refine Ex.alloc ?_ _ | refine Ex.ext ?_ _ _ | refine Ex.drew ?_ | refine Ex.drewN ?_ _))))); rintro e w1 ⟨rfl, rfl⟩)
              | (go_at_call 44; ((with_reducible refine (HB1.out _ ?_).mono ?_); (focus exact LotsAt.ex HL.out (HX.out.trans (by repeat (first | exact Ex.refl _ | refine Ex.alloc ?_ _ | refine Ex.ext ?_ _ _ | refine Ex.drew ?_ | refine Ex.drewN ?_ _))))); rintro e w1 ⟨rfl, rfl⟩))
            go_wp2_with fail
            refine (prices_ok _ len _ l E _ hcl (Errs.ex hE' (by repeat (first | exact Ex.refl _ | refine Ex.alloc ?_ _ | refine Ex.ext ?_ _ _ | refine Ex.drew ?_ | refine Ex.drewN ?_ _))) (LotsAt.ex HL'.out (by repeat (first | exact Ex.refl _ | refine Ex.alloc ?_ _ | refine Ex.ext ?_ _ _ | refine Ex.drew ?_ | refine Ex.drewN ?_ _))) HOK.out).mono ?_
            rintro e w3 ⟨⟨ao3, cap3, rfl, hc3, hz3⟩, hx3⟩
            have HX3 : Hid (Ex wo w3) := Lib.hid (Ex.trans (by repeat (first | exact Ex.refl _ | refine Ex.alloc ?_ _ | refine Ex.ext ?_ _ _ | refine Ex.drew ?_ | refine Ex.drewN ?_ _)) hx3)
            have HZ3 := Lib.hid hz3
            clear hx3 hz3
            go_wp2_with fail
            refine (pricesOf_any ao len cap l _ (HL.out.ex (HX.out.trans (HX3.out.trans (by repeat (first | exact Ex.refl _ | refine Ex.alloc ?_ _ | refine Ex.ext ?_ _ _ | refine Ex.drew ?_ | refine Ex.drewN ?_ _))))) (by omega)).mono ?_
            rintro e w4 ⟨⟨ao4, cap4, rfl, hz4⟩, hx4⟩
            have HX34 : Hid (Ex w3 w4) := Lib.hid (Ex.trans (by repeat (first | exact Ex.refl _ | refine Ex.alloc ?_ _ | refine Ex.ext ?_ _ _ | refine Ex.drew ?_ | refine Ex.drewN ?_ _)) hx4)
            have HZ4 := Lib.hid hz4
            clear hx4 hz4
            go_wp2_with fail
            refine (sameInts_any _ _ _ _ (pricesL l) _ (HZ3.out.ex (HX34.out.trans (by repeat (first | exact Ex.refl _ | refine Ex.alloc ?_ _ | refine Ex.ext ?_ _ _ | refine Ex.drew ?_ | refine Ex.drewN ?_ _)))) (HZ4.out.ex (by repeat (first | exact Ex.refl _ | refine Ex.alloc ?_ _ | refine Ex.ext ?_ _ _ | refine Ex.drew ?_ | refine Ex.drewN ?_ _))) (by omega)).mono ?_
            rintro e w5 ⟨rfl, l7, d7, rfl⟩
            have HX4 : Hid (Ex wo w4) := Lib.hid (HX3.out.trans HX34.out)
            have hE4 := hE'.ex HX4.out
            have HL4 := Lib.hid (HL'.out.ex HX4.out)
            go_wp2_with (first
              | (go_at_call 32; ((with_reducible refine (HB3.out ao' cap' _ ?_ ?_ ?_).mono ?_); (focus exact hcl); (focus exact Errs.ex hE4 (by repeat (first | exact Ex.refl _ | refine Ex.alloc ?_ _ | refine Ex.ext ?_ _ _ | refine Ex.drew ?_ | refine Ex.drewN ?_ _))); (focus exact LotsAt.ex HL4.out (by repeat (first | exact Ex.refl _ | refine Ex.alloc ?_ _ | refine Ex.ext ?_ _ _ | refine Ex.drew ?_ | refine Ex.drewN ?_ _)))); rintro e w1 ⟨rfl, l6, d6, rfl⟩)
              | (go_at_call 22; ((with_reducible refine (HC0.out ao' cap' _ ?_ ?_ ?_).mono ?_); (focus exact hcl); (focus exact Errs.ex hE4 (by repeat (first | exact Ex.refl _ | refine Ex.alloc ?_ _ | refine Ex.ext ?_ _ _ | refine Ex.drew ?_ | refine Ex.drewN ?_ _))); (focus exact LotsAt.ex HL4.out (by repeat (first | exact Ex.refl _ | refine Ex.alloc ?_ _ | refine Ex.ext ?_ _ _ | refine Ex.drew ?_ | refine Ex.drewN ?_ _)))); rintro e w1 ⟨rfl, l6, d6, rfl⟩))
            all_goals go_ret
            all_goals exact ⟨by first | rfl | exact ret_bool (by simp; omega), (HX.out.trans HX4.out).trans (by repeat (first | exact Ex.refl _ | refine Ex.alloc ?_ _ | refine Ex.ext ?_ _ _ | refine Ex.drew ?_ | refine Ex.drewN ?_ _))⟩
        · have HC0 := Lib.hid C0
          rw [decide_eq_true c0, decide_eq_true c1, decide_eq_false c2] at HC0
          rcases hside with s0 | ⟨s0, s1⟩ | ⟨s0, s1⟩
          · clear C0
            go_upto_region 19 with (first
              | (go_at_call 16; ((with_reducible refine (HD0.out ao' cap' _ ?_ ?_ ?_).mono ?_); (focus exact hcl); (focus exact Errs.ex hE' (by repeat (first | exact Ex.refl _ | refine Ex.alloc ?_ _ | refine Ex.ext ?_ _ _ | refine Ex.drew ?_ | refine Ex.drewN ?_ _))); (focus exact LotsAt.ex HL'.out (by repeat (first | exact Ex.refl _ | refine Ex.alloc ?_ _ | refine Ex.ext ?_ _ _ | refine Ex.drew ?_ | refine Ex.drewN ?_ _)))); rintro e w1 ⟨rfl, l6, d6, rfl⟩)
              | (go_at_call 17; ((with_reducible refine (HS0.out ao' cap' _ ?_ ?_ ?_).mono ?_); (focus exact hcl); (focus exact Errs.ex hE' (by repeat (first | exact Ex.refl _ | refine Ex.alloc ?_ _ | refine Ex.ext ?_ _ _ | refine Ex.drew ?_ | refine Ex.drewN ?_ _))); (focus exact LotsAt.ex HL'.out (by repeat (first | exact Ex.refl _ | refine Ex.alloc ?_ _ | refine Ex.ext ?_ _ _ | refine Ex.drew ?_ | refine Ex.drewN ?_ _)))); rintro e w1 ⟨rfl, l6, d6, rfl⟩)
              | (go_at_call 19; ((with_reducible refine (HV0.out ao' cap' _ ?_ ?_ ?_).mono ?_); (focus exact hcl); (focus exact Errs.ex hE' (by repeat (first | exact Ex.refl _ | refine Ex.alloc ?_ _ | refine Ex.ext ?_ _ _ | refine Ex.drew ?_ | refine Ex.drewN ?_ _))); (focus exact LotsAt.ex HL'.out (by repeat (first | exact Ex.refl _ | refine Ex.alloc ?_ _ | refine Ex.ext ?_ _ _ | refine Ex.drew ?_ | refine Ex.drewN ?_ _)))); rintro e w1 ⟨rfl, l6, d6, rfl⟩)
              | (go_at_call 18; ((with_reducible refine (HU0.out ao' cap' _ ?_ ?_ ?_).mono ?_); (focus exact hcl); (focus exact Errs.ex hE' (by repeat (first | exact Ex.refl _ | refine Ex.alloc ?_ _ | refine Ex.ext ?_ _ _ | refine Ex.drew ?_ | refine Ex.drewN ?_ _))); (focus exact LotsAt.ex HL'.out (by repeat (first | exact Ex.refl _ | refine Ex.alloc ?_ _ | refine Ex.ext ?_ _ _ | refine Ex.drew ?_ | refine Ex.drewN ?_ _)))); rintro e w1 ⟨rfl, l6, d6, rfl⟩)
              | (go_at_call 28; ((with_reducible refine (HD1.out _ ?_).mono ?_); (focus exact LotsAt.ex HL.out (HX.out.trans (by repeat (first | exact Ex.refl _ | refine Ex.alloc ?_ _ | refine Ex.ext ?_ _ _ | refine Ex.drew ?_ | refine Ex.drewN ?_ _))))); rintro e w1 ⟨rfl, rfl⟩)
              | (go_at_call 29; ((with_reducible refine (HS1.out _ ?_).mono ?_); (focus exact LotsAt.ex HL.out (HX.out.trans (by repeat (first | exact Ex.refl _ | refine Ex.alloc ?_ _ | refine Ex.ext ?_ _ _ | refine Ex.drew ?_ | refine Ex.drewN ?_ _))))); rintro e w1 ⟨rfl, rfl⟩)
              | (go_at_call 43; ((with_reducible refine (HV1.out _ ?_).mono ?_); (focus exact LotsAt.ex HL.out (HX.out.trans (by repeat (first | exact Ex.refl _ | refine Ex.alloc ?_ _ | refine Ex.ext ?_ _ _ | refine Ex.drew ?_ | refine Ex.drewN ?_ _))))); rintro e w1 ⟨rfl, rfl⟩)
              | (go_at_call 44; ((with_reducible refine (HB2.out _ ?_).mono ?_); (focus exact LotsAt.ex HL.out (HX.out.trans (by repeat (first | exact Ex.refl _ | refine Ex.alloc ?_ _ | refine Ex.ext ?_ _ _ | refine Ex.drew ?_ | refine Ex.drewN ?_ _))))); rintro e w1 ⟨rfl, rfl⟩)
              | (go_at_call 44; ((with_reducible refine (HB0.out _ ?_).mono ?_); (focus exact LotsAt.ex HL.out (HX.out.trans (by repeat (first | exact Ex.refl _ | refine Ex.alloc ?_ _ | refine Ex.ext ?_ _ _ | refine Ex.drew ?_ | refine Ex.drewN ?_ _))))); rintro e w1 ⟨rfl, rfl⟩)
              | (go_at_call 44; ((with_reducible refine (HB1.out _ ?_).mono ?_); (focus exact LotsAt.ex HL.out (HX.out.trans (by repeat (first | exact Ex.refl _ | refine Ex.alloc ?_ _ | refine Ex.ext ?_ _ _ | refine Ex.drew ?_ | refine Ex.drewN ?_ _))))); rintro e w1 ⟨rfl, rfl⟩))
            go_wp2_with fail
            refine (prices_ok _ len _ l E _ hcl (Errs.ex hE' (by repeat (first | exact Ex.refl _ | refine Ex.alloc ?_ _ | refine Ex.ext ?_ _ _ | refine Ex.drew ?_ | refine Ex.drewN ?_ _))) (LotsAt.ex HL'.out (by repeat (first | exact Ex.refl _ | refine Ex.alloc ?_ _ | refine Ex.ext ?_ _ _ | refine Ex.drew ?_ | refine Ex.drewN ?_ _))) HOK.out).mono ?_
            rintro e w3 ⟨⟨ao3, cap3, rfl, hc3, hz3⟩, hx3⟩
            have HX3 : Hid (Ex wo w3) := Lib.hid (Ex.trans (by repeat (first | exact Ex.refl _ | refine Ex.alloc ?_ _ | refine Ex.ext ?_ _ _ | refine Ex.drew ?_ | refine Ex.drewN ?_ _)) hx3)
            have HZ3 := Lib.hid hz3
            clear hx3 hz3
            go_wp2_with fail
            refine (pricesOf_any ao len cap l _ (HL.out.ex (HX.out.trans (HX3.out.trans (by repeat (first | exact Ex.refl _ | refine Ex.alloc ?_ _ | refine Ex.ext ?_ _ _ | refine Ex.drew ?_ | refine Ex.drewN ?_ _))))) (by omega)).mono ?_
            rintro e w4 ⟨⟨ao4, cap4, rfl, hz4⟩, hx4⟩
            have HX34 : Hid (Ex w3 w4) := Lib.hid (Ex.trans (by repeat (first | exact Ex.refl _ | refine Ex.alloc ?_ _ | refine Ex.ext ?_ _ _ | refine Ex.drew ?_ | refine Ex.drewN ?_ _)) hx4)
            have HZ4 := Lib.hid hz4
            clear hx4 hz4
            go_wp2_with fail
            refine (sameInts_any _ _ _ _ (pricesL l) _ (HZ3.out.ex (HX34.out.trans (by repeat (first | exact Ex.refl _ | refine Ex.alloc ?_ _ | refine Ex.ext ?_ _ _ | refine Ex.drew ?_ | refine Ex.drewN ?_ _)))) (HZ4.out.ex (by repeat (first | exact Ex.refl _ | refine Ex.alloc ?_ _ | refine Ex.ext ?_ _ _ | refine Ex.drew ?_ | refine Ex.drewN ?_ _))) (by omega)).mono ?_
            rintro e w5 ⟨rfl, l7, d7, rfl⟩
            have HX4 : Hid (Ex wo w4) := Lib.hid (HX3.out.trans HX34.out)
            have hE4 := hE'.ex HX4.out
            have HL4 := Lib.hid (HL'.out.ex HX4.out)
            go_wp2_with (first
              | (go_at_call 32; ((with_reducible refine (HB3.out ao' cap' _ ?_ ?_ ?_).mono ?_); (focus exact hcl); (focus exact Errs.ex hE4 (by repeat (first | exact Ex.refl _ | refine Ex.alloc ?_ _ | refine Ex.ext ?_ _ _ | refine Ex.drew ?_ | refine Ex.drewN ?_ _))); (focus exact LotsAt.ex HL4.out (by repeat (first | exact Ex.refl _ | refine Ex.alloc ?_ _ | refine Ex.ext ?_ _ _ | refine Ex.drew ?_ | refine Ex.drewN ?_ _)))); rintro e w1 ⟨rfl, l6, d6, rfl⟩)
              | (go_at_call 22; ((with_reducible refine (HC0.out ao' cap' _ ?_ ?_ ?_).mono ?_); (focus exact hcl); (focus exact Errs.ex hE4 (by repeat (first | exact Ex.refl _ | refine Ex.alloc ?_ _ | refine Ex.ext ?_ _ _ | refine Ex.drew ?_ | refine Ex.drewN ?_ _))); (focus exact LotsAt.ex HL4.out (by repeat (first | exact Ex.refl _ | refine Ex.alloc ?_ _ | refine Ex.ext ?_ _ _ | refine Ex.drew ?_ | refine Ex.drewN ?_ _)))); rintro e w1 ⟨rfl, l6, d6, rfl⟩))
            all_goals go_ret
            all_goals exact ⟨by first | rfl | exact ret_bool (by simp; omega), (HX.out.trans HX4.out).trans (by repeat (first | exact Ex.refl _ | refine Ex.alloc ?_ _ | refine Ex.ext ?_ _ _ | refine Ex.drew ?_ | refine Ex.drewN ?_ _))⟩
          · clear C0
            go_upto_region 19 with (first
              | (go_at_call 16; ((with_reducible refine (HD0.out ao' cap' _ ?_ ?_ ?_).mono ?_); (focus exact hcl); (focus exact Errs.ex hE' (by repeat (first | exact Ex.refl _ | refine Ex.alloc ?_ _ | refine Ex.ext ?_ _ _ | refine Ex.drew ?_ | refine Ex.drewN ?_ _))); (focus exact LotsAt.ex HL'.out (by repeat (first | exact Ex.refl _ | refine Ex.alloc ?_ _ | refine Ex.ext ?_ _ _ | refine Ex.drew ?_ | refine Ex.drewN ?_ _)))); rintro e w1 ⟨rfl, l6, d6, rfl⟩)
              | (go_at_call 17; ((with_reducible refine (HS0.out ao' cap' _ ?_ ?_ ?_).mono ?_); (focus exact hcl); (focus exact Errs.ex hE' (by repeat (first | exact Ex.refl _ | refine Ex.alloc ?_ _ | refine Ex.ext ?_ _ _ | refine Ex.drew ?_ | refine Ex.drewN ?_ _))); (focus exact LotsAt.ex HL'.out (by repeat (first | exact Ex.refl _ | refine Ex.alloc ?_ _ | refine Ex.ext ?_ _ _ | refine Ex.drew ?_ | refine Ex.drewN ?_ _)))); rintro e w1 ⟨rfl, l6, d6, rfl⟩)
              | (go_at_call 19; ((with_reducible refine (HV0.out ao' cap' _ ?_ ?_ ?_).mono ?_); (focus exact hcl); (focus exact Errs.ex hE' (by repeat (first | exact Ex.refl _ | refine Ex.alloc ?_ _ | refine Ex.ext ?_ _ _ | refine Ex.drew ?_ | refine Ex.drewN ?_ _))); (focus exact LotsAt.ex HL'.out (by repeat (first | exact Ex.refl _ | refine Ex.alloc ?_ _ | refine Ex.ext ?_ _ _ | refine Ex.drew ?_ | refine Ex.drewN ?_ _)))); rintro e w1 ⟨rfl, l6, d6, rfl⟩)
              | (go_at_call 18; ((with_reducible refine (HU0.out ao' cap' _ ?_ ?_ ?_).mono ?_); (focus exact hcl); (focus exact Errs.ex hE' (by repeat (first | exact Ex.refl _ | refine Ex.alloc ?_ _ | refine Ex.ext ?_ _ _ | refine Ex.drew ?_ | refine Ex.drewN ?_ _))); (focus exact LotsAt.ex HL'.out (by repeat (first | exact Ex.refl _ | refine Ex.alloc ?_ _ | refine Ex.ext ?_ _ _ | refine Ex.drew ?_ | refine Ex.drewN ?_ _)))); rintro e w1 ⟨rfl, l6, d6, rfl⟩)
              | (go_at_call 28; ((with_reducible refine (HD1.out _ ?_).mono ?_); (focus exact LotsAt.ex HL.out (HX.out.trans (by repeat (first | exact Ex.refl _ | refine Ex.alloc ?_ _ | refine Ex.ext ?_ _ _ | refine Ex.drew ?_ | refine Ex.drewN ?_ _))))); rintro e w1 ⟨rfl, rfl⟩)
              | (go_at_call 29; ((with_reducible refine (HS1.out _ ?_).mono ?_); (focus exact LotsAt.ex HL.out (HX.out.trans (by repeat (first | exact Ex.refl _ | refine Ex.alloc ?_ _ | refine Ex.ext ?_ _ _ | refine Ex.drew ?_ | refine Ex.drewN ?_ _))))); rintro e w1 ⟨rfl, rfl⟩)
              | (go_at_call 43; ((with_reducible refine (HV1.out _ ?_).mono ?_); (focus exact LotsAt.ex HL.out (HX.out.trans (by repeat (first | exact Ex.refl _ | refine Ex.alloc ?_ _ | refine Ex.ext ?_ _ _ | refine Ex.drew ?_ | refine Ex.drewN ?_ _))))); rintro e w1 ⟨rfl, rfl⟩)
              | (go_at_call 44; ((with_reducible refine (HB2.out _ ?_).mono ?_); (focus exact LotsAt.ex HL.out (HX.out.trans (by repeat (first | exact Ex.refl _ | refine Ex.alloc ?_ _ | refine Ex.ext ?_ _ _ | refine Ex.drew ?_ | refine Ex.drewN ?_ _))))); rintro e w1 ⟨rfl, rfl⟩)
              | (go_at_call 44; ((with_reducible refine (HB0.out _ ?_).mono ?_); (focus exact LotsAt.ex HL.out (HX.out.trans (by repeat (first | exact Ex.refl _ | refine Ex.alloc ?_ _ | refine Ex.ext ?_ _ _ | refine Ex.drew ?_ | refine Ex.drewN ?_ _))))); rintro e w1 ⟨rfl, rfl⟩)
              | (go_at_call 44; ((with_reducible refine (HB1.out _ ?_).mono ?_); (focus exact LotsAt.ex HL.out (HX.out.trans (by repeat (first | exact Ex.refl _ | refine Ex.alloc ?_ _ | refine Ex.ext ?_ _ _ | refine Ex.drew ?_ | refine Ex.drewN ?_ _))))); rintro e w1 ⟨rfl, rfl⟩))
            go_wp2_with fail
            refine (prices_ok _ len _ l E _ hcl (Errs.ex hE' (by repeat (first | exact Ex.refl _ | refine Ex.alloc ?_ _ | refine Ex.ext ?_ _ _ | refine Ex.drew ?_ | refine Ex.drewN ?_ _))) (LotsAt.ex HL'.out (by repeat (first | exact Ex.refl _ | refine Ex.alloc ?_ _ | refine Ex.ext ?_ _ _ | refine Ex.drew ?_ | refine Ex.drewN ?_ _))) HOK.out).mono ?_
            rintro e w3 ⟨⟨ao3, cap3, rfl, hc3, hz3⟩, hx3⟩
            have HX3 : Hid (Ex wo w3) := Lib.hid (Ex.trans (by repeat (first | exact Ex.refl _ | refine Ex.alloc ?_ _ | refine Ex.ext ?_ _ _ | refine Ex.drew ?_ | refine Ex.drewN ?_ _)) hx3)
            have HZ3 := Lib.hid hz3
            clear hx3 hz3
            go_wp2_with fail
            refine (pricesOf_any ao len cap l _ (HL.out.ex (HX.out.trans (HX3.out.trans (by repeat (first | exact Ex.refl _ | refine Ex.alloc ?_ _ | refine Ex.ext ?_ _ _ | refine Ex.drew ?_ | refine Ex.drewN ?_ _))))) (by omega)).mono ?_
            rintro e w4 ⟨⟨ao4, cap4, rfl, hz4⟩, hx4⟩
            have HX34 : Hid (Ex w3 w4) := Lib.hid (Ex.trans (by repeat (first | exact Ex.refl _ | refine Ex.alloc ?_ _ | refine Ex.ext ?_ _ _ | refine Ex.drew ?_ | refine Ex.drewN ?_ _)) hx4)
            have HZ4 := Lib.hid hz4
            clear hx4 hz4
            go_wp2_with fail
            refine (sameInts_any _ _ _ _ (pricesL l) _ (HZ3.out.ex (HX34.out.trans (by repeat (first | exact Ex.refl _ | refine Ex.alloc ?_ _ | refine Ex.ext ?_ _ _ | refine Ex.drew ?_ | refine Ex.drewN ?_ _)))) (HZ4.out.ex (by repeat (first | exact Ex.refl _ | refine Ex.alloc ?_ _ | refine Ex.ext ?_ _ _ | refine Ex.drew ?_ | refine Ex.drewN ?_ _))) (by omega)).mono ?_
            rintro e w5 ⟨rfl, l7, d7, rfl⟩
            have HX4 : Hid (Ex wo w4) := Lib.hid (HX3.out.trans HX34.out)
            have hE4 := hE'.ex HX4.out
            have HL4 := Lib.hid (HL'.out.ex HX4.out)
            go_wp2_with (first
              | (go_at_call 32; ((with_reducible refine (HB3.out ao' cap' _ ?_ ?_ ?_).mono ?_); (focus exact hcl); (focus exact Errs.ex hE4 (by repeat (first | exact Ex.refl _ | refine Ex.alloc ?_ _ | refine Ex.ext ?_ _ _ | refine Ex.drew ?_ | refine Ex.drewN ?_ _))); (focus exact LotsAt.ex HL4.out (by repeat (first | exact Ex.refl _ | refine Ex.alloc ?_ _ | refine Ex.ext ?_ _ _ | refine Ex.drew ?_ | refine Ex.drewN ?_ _)))); rintro e w1 ⟨rfl, l6, d6, rfl⟩)
              | (go_at_call 22; ((with_reducible refine (HC0.out ao' cap' _ ?_ ?_ ?_).mono ?_); (focus exact hcl); (focus exact Errs.ex hE4 (by repeat (first | exact Ex.refl _ | refine Ex.alloc ?_ _ | refine Ex.ext ?_ _ _ | refine Ex.drew ?_ | refine Ex.drewN ?_ _))); (focus exact LotsAt.ex HL4.out (by repeat (first | exact Ex.refl _ | refine Ex.alloc ?_ _ | refine Ex.ext ?_ _ _ | refine Ex.drew ?_ | refine Ex.drewN ?_ _)))); rintro e w1 ⟨rfl, l6, d6, rfl⟩))
            all_goals go_ret
            all_goals exact ⟨by first | rfl | exact ret_bool (by simp; omega), (HX.out.trans HX4.out).trans (by repeat (first | exact Ex.refl _ | refine Ex.alloc ?_ _ | refine Ex.ext ?_ _ _ | refine Ex.drew ?_ | refine Ex.drewN ?_ _))⟩
          · clear C0
            obtain rfl : bs = 0 := HO.out (by simpa using s0) (by simpa using s1)
            go_upto_region 19 with (first
              | (go_at_call 16; ((with_reducible refine (HD0.out ao' cap' _ ?_ ?_ ?_).mono ?_); (focus exact hcl); (focus exact Errs.ex hE' (by repeat (first | exact Ex.refl _ | refine Ex.alloc ?_ _ | refine Ex.ext ?_ _ _ | refine Ex.drew ?_ | refine Ex.drewN ?_ _))); (focus exact LotsAt.ex HL'.out (by repeat (first | exact Ex.refl _ | refine Ex.alloc ?_ _ | refine Ex.ext ?_ _ _ | refine Ex.drew ?_ | refine Ex.drewN ?_ _)))); rintro e w1 ⟨rfl, l6, d6, rfl⟩)
              | (go_at_call 17; ((with_reducible refine (HS0.out ao' cap' _ ?_ ?_ ?_).mono ?_); (focus exact hcl); (focus exact Errs.ex hE' (by repeat (first | exact Ex.refl _ | refine Ex.alloc ?_ _ | refine Ex.ext ?_ _ _ | refine Ex.drew ?_ | refine Ex.drewN ?_ _))); (focus exact LotsAt.ex HL'.out (by repeat (first | exact Ex.refl _ | refine Ex.alloc ?_ _ | refine Ex.ext ?_ _ _ | refine Ex.drew ?_ | refine Ex.drewN ?_ _)))); rintro e w1 ⟨rfl, l6, d6, rfl⟩)
              | (go_at_call 19; ((with_reducible refine (HV0.out ao' cap' _ ?_ ?_ ?_).mono ?_); (focus exact hcl); (focus exact Errs.ex hE' (by repeat (first | exact Ex.refl _ | refine Ex.alloc ?_ _ | refine Ex.ext ?_ _ _ | refine Ex.drew ?_ | refine Ex.drewN ?_ _))); (focus exact LotsAt.ex HL'.out (by repeat (first | exact Ex.refl _ | refine Ex.alloc ?_ _ | refine Ex.ext ?_ _ _ | refine Ex.drew ?_ | refine Ex.drewN ?_ _)))); rintro e w1 ⟨rfl, l6, d6, rfl⟩)
              | (go_at_call 18; ((with_reducible refine (HU0.out ao' cap' _ ?_ ?_ ?_).mono ?_); (focus exact hcl); (focus exact Errs.ex hE' (by repeat (first | exact Ex.refl _ | refine Ex.alloc ?_ _ | refine Ex.ext ?_ _ _ | refine Ex.drew ?_ | refine Ex.drewN ?_ _))); (focus exact LotsAt.ex HL'.out (by repeat (first | exact Ex.refl _ | refine Ex.alloc ?_ _ | refine Ex.ext ?_ _ _ | refine Ex.drew ?_ | refine Ex.drewN ?_ _)))); rintro e w1 ⟨rfl, l6, d6, rfl⟩)
              | (go_at_call 28; ((with_reducible refine (HD1.out _ ?_).mono ?_); (focus exact LotsAt.ex HL.out (HX.out.trans (by repeat (first | exact Ex.refl _ | refine Ex.alloc ?_ _ | refine Ex.ext ?_ _ _ | refine Ex.drew ?_ | refine Ex.drewN ?_ _))))); rintro e w1 ⟨rfl, rfl⟩)
              | (go_at_call 29; ((with_reducible refine (HS1.out _ ?_).mono ?_); (focus exact LotsAt.ex HL.out (HX.out.trans (by repeat (first | exact Ex.refl _ | refine Ex.alloc ?_ _ | refine Ex.ext ?_ _ _ | refine Ex.drew ?_ | refine Ex.drewN ?_ _))))); rintro e w1 ⟨rfl, rfl⟩)
              | (go_at_call 43; ((with_reducible refine (HV1.out _ ?_).mono ?_); (focus exact LotsAt.ex HL.out (HX.out.trans (by repeat (first | exact Ex.refl _ | refine Ex.alloc ?_ _ | refine Ex.ext ?_ _ _ | refine Ex.drew ?_ | refine Ex.drewN ?_ _))))); rintro e w1 ⟨rfl, rfl⟩)
              | (go_at_call 44; ((with_reducible refine (HB2.out _ ?_).mono ?_); (focus exact LotsAt.ex HL.out (HX.out.trans (by repeat (first | exact Ex.refl _ | refine Ex.alloc ?_ _ | refine Ex.ext ?_ _ _ | refine Ex.drew ?_ | refine Ex.drewN ?_ _))))); rintro e w1 ⟨rfl, rfl⟩)
              | (go_at_call 44; ((with_reducible refine (HB0.out _ ?_).mono ?_); (focus exact LotsAt.ex HL.out (HX.out.trans (by repeat (first | exact Ex.refl _ | refine Ex.alloc ?_ _ | refine Ex.ext ?_ _ _ | refine Ex.drew ?_ | refine Ex.drewN ?_ _))))); rintro e w1 ⟨rfl, rfl⟩)
              | (go_at_call 44; ((with_reducible refine (HB1.out _ ?_).mono ?_); (focus exact LotsAt.ex HL.out (HX.out.trans (by repeat (first | exact Ex.refl _ | refine Ex.alloc ?_ _ | refine Ex.ext ?_ _ _ | refine Ex.drew ?_ | refine Ex.drewN ?_ _))))); rintro e w1 ⟨rfl, rfl⟩))
            go_wp2_with fail
            refine (prices_ok _ len _ l E _ hcl (Errs.ex hE' (by repeat (first | exact Ex.refl _ | refine Ex.alloc ?_ _ | refine Ex.ext ?_ _ _ | refine Ex.drew ?_ | refine Ex.drewN ?_ _))) (LotsAt.ex HL'.out (by repeat (first | exact Ex.refl _ | refine Ex.alloc ?_ _ | refine Ex.ext ?_ _ _ | refine Ex.drew ?_ | refine Ex.drewN ?_ _))) HOK.out).mono ?_
            rintro e w3 ⟨⟨ao3, cap3, rfl, hc3, hz3⟩, hx3⟩
            have HX3 : Hid (Ex wo w3) := Lib.hid (Ex.trans (by repeat (first | exact Ex.refl _ | refine Ex.alloc ?_ _ | refine Ex.ext ?_ _ _ | refine Ex.drew ?_ | refine Ex.drewN ?_ _)) hx3)
            have HZ3 := Lib.hid hz3
            clear hx3 hz3
            go_wp2_with fail
            refine (pricesOf_any ao len cap l _ (HL.out.ex (HX.out.trans (HX3.out.trans (by repeat (first | exact Ex.refl _ | refine Ex.alloc ?_ _ | refine Ex.ext ?_ _ _ | refine Ex.drew ?_ | refine Ex.drewN ?_ _))))) (by omega)).mono ?_
            rintro e w4 ⟨⟨ao4, cap4, rfl, hz4⟩, hx4⟩
            have HX34 : Hid (Ex w3 w4) := Lib.hid (Ex.trans (by repeat (first | exact Ex.refl _ | refine Ex.alloc ?_ _ | refine Ex.ext ?_ _ _ | refine Ex.drew ?_ | refine Ex.drewN ?_ _)) hx4)
            have HZ4 := Lib.hid hz4
            clear hx4 hz4
            go_wp2_with fail
            refine (sameInts_any _ _ _ _ (pricesL l) _ (HZ3.out.ex (HX34.out.trans (by repeat (first | exact Ex.refl _ | refine Ex.alloc ?_ _ | refine Ex.ext ?_ _ _ | refine Ex.drew ?_ | refine Ex.drewN ?_ _)))) (HZ4.out.ex (by repeat (first | exact Ex.refl _ | refine Ex.alloc ?_ _ | refine Ex.ext ?_ _ _ | refine Ex.drew ?_ | refine Ex.drewN ?_ _))) (by omega)).mono ?_
            rintro e w5 ⟨rfl, l7, d7, rfl⟩
            have HX4 : Hid (Ex wo w4) := Lib.hid (HX3.out.trans HX34.out)
            have hE4 := hE'.ex HX4.out
            have HL4 := Lib.hid (HL'.out.ex HX4.out)
            go_wp2_with (first
              | (go_at_call 32; ((with_reducible refine (HB3.out ao' cap' _ ?_ ?_ ?_).mono ?_); (focus exact hcl); (focus exact Errs.ex hE4 (by repeat (first | exact Ex.refl _ | refine Ex.alloc ?_ _ | refine Ex.ext ?_ _ _ | refine Ex.drew ?_ | refine Ex.drewN ?_ _))); (focus exact LotsAt.ex HL4.out (by repeat (first | exact Ex.refl _ | refine Ex.alloc ?_ _ | refine Ex.ext ?_ _ _ | refine Ex.drew ?_ | refine Ex.drewN ?_ _)))); rintro e w1 ⟨rfl, l6, d6, rfl⟩)
              | (go_at_call 22; ((with_reducible refine (HC0.out ao' cap' _ ?_ ?_ ?_).mono ?_); (focus exact hcl); (focus exact Errs.ex hE4 (by repeat (first | exact Ex.refl _ | refine Ex.alloc ?_ _ | refine Ex.ext ?_ _ _ | refine Ex.drew ?_ | refine Ex.drewN ?_ _))); (focus exact LotsAt.ex HL4.out (by repeat (first | exact Ex.refl _ | refine Ex.alloc ?_ _ | refine Ex.ext ?_ _ _ | refine Ex.drew ?_ | refine Ex.drewN ?_ _)))); rintro e w1 ⟨rfl, l6, d6, rfl⟩))
            all_goals go_ret
            all_goals exact ⟨by first | rfl | exact ret_bool (by simp; omega), (HX.out.trans HX4.out).trans (by repeat (first | exact Ex.refl _ | refine Ex.alloc ?_ _ | refine Ex.ext ?_ _ _ | refine Ex.drew ?_ | refine Ex.drewN ?_ _))⟩
      · have HC0 := Lib.hid C0
        rw [decide_eq_true c0, decide_eq_false c1] at HC0
        rcases hside with s0 | ⟨s0, s1⟩ | ⟨s0, s1⟩
        · clear C0
          go_upto_region 19 with (first
            | (go_at_call 16; ((with_reducible refine (HD0.out ao' cap' _ ?_ ?_ ?_).mono ?_); (focus exact hcl); (focus exact Errs.ex hE' (by repeat (first | exact Ex.refl _ | refine Ex.alloc ?_ _ | refine Ex.ext ?_ _ _ | refine Ex.drew ?_ | refine Ex.drewN ?_ _))); (focus exact LotsAt.ex HL'.out (by repeat (first | exact Ex.refl _ | refine Ex.alloc ?_ _ | refine Ex.ext ?_ _ _ | refine Ex.drew ?_ | refine Ex.drewN ?_ _)))); rintro e w1 ⟨rfl, l6, d6, rfl⟩)
            | (go_at_call 17; ((with_reducible refine (HS0.out ao' cap' _ ?_ ?_ ?_).mono ?_); (focus exact hcl); (focus exact Errs.ex hE' (by repeat (first | exact Ex.refl _ | refine Ex.alloc ?_ _ | refine Ex.ext ?_ _ _ | refine Ex.drew ?_ | refine Ex.drewN ?_ _))); (focus exact LotsAt.ex HL'.out (by repeat (first | exact Ex.refl _ | refine Ex.alloc ?_ _ | refine Ex.ext ?_ _ _ | refine Ex.drew ?_ | refine Ex.drewN ?_ _)))); rintro e w1 ⟨rfl, l6, d6, rfl⟩)
            | (go_at_call 19; ((with_reducible refine (HV0.out ao' cap' _ ?_ ?_ ?_).mono ?_); (focus exact hcl); (focus exact Errs.ex hE' (by repeat (first | exact Ex.refl _ | refine Ex.alloc ?_ _ | refine Ex.ext ?_ _ _ | refine Ex.drew ?_ | refine Ex.drewN ?_ _))); (focus exact LotsAt.ex HL'.out (by repeat (first | exact Ex.refl _ | refine Ex.alloc ?_ _ | refine Ex.ext ?_ _ _ | refine Ex.drew ?_ | refine Ex.drewN ?_ _)))); rintro e w1 ⟨rfl, l6, d6, rfl⟩)
            | (go_at_call 18; ((with_reducible refine (HU0.out ao' cap' _ ?_ ?_ ?_).mono ?_); (focus exact hcl); (focus exact Errs.ex hE' (by repeat (first | exact Ex.refl _ | refine Ex.alloc ?_ _ | refine Ex.ext ?_ _ _ | refine Ex.drew ?_ | refine Ex.drewN ?_ _))); (focus exact LotsAt.ex HL'.out (by repeat (first | exact Ex.refl _ | refine Ex.alloc ?_ _ | refine Ex.ext ?_ _ _ | refine Ex.drew ?_ | refine Ex.drewN ?_ _)))); rintro e w1 ⟨rfl, l6, d6, rfl⟩)
            | (go_at_call 28; ((with_reducible refine (HD1.out _ ?_).mono ?_); (focus exact LotsAt.ex HL.out (HX.out.trans (by repeat (first | exact Ex.refl _ | refine Ex.alloc ?_ _ | refine Ex.ext ?_ _ _ | refine Ex.drew ?_ | refine Ex.drewN ?_ _))))); rintro e w1 ⟨rfl, rfl⟩)
            | (go_at_call 29; ((with_reducible refine (HS1.out _ ?_).mono ?_); (focus exact LotsAt.ex HL.out (HX.out.trans (by repeat (first | exact Ex.refl _ | refine Ex.alloc ?_ _ | refine Ex.ext ?_ _ _ | refine Ex.drew ?_ | refine Ex.drewN ?_ _))))); rintro e w1 ⟨rfl, rfl⟩)
            | (go_at_call 43; ((with_reducible refine (HV1.out _ ?_).mono ?_); (focus exact LotsAt.ex HL.out (HX.out.trans (by repeat (first | exact Ex.refl _ | refine Ex.alloc ?_ _ | refine Ex.ext ?_ _ _ | refine Ex.drew ?_ | refine Ex.drewN ?_ _))))); rintro e w1 ⟨rfl, rfl⟩)
            | (go_at_call 44; ((with_reducible refine (HB2.out _ ?_).mono ?_); (focus exact LotsAt.ex HL.out (HX.out.trans (by repeat (first | exact Ex.refl _ | refine Ex.alloc ?_ _ | refine Ex.ext ?_ _ _ | refine Ex.drew ?_ | refine Ex.drewN ?_ _))))); rintro e w1 ⟨rfl, rfl⟩)
            | (go_at_call 44; ((with_reducible refine (HB0.out _ ?_).mono ?_); (focus exact LotsAt.ex HL.out (HX.out.trans (by repeat (first | exact Ex.refl _ | refine Ex.alloc ?_ _ | refine Ex.ext ?_ _ _ | refine Ex.drew ?_ | refine Ex.drewN ?_ _))))); rintro e w1 ⟨rfl, rfl⟩)
            | (go_at_call 44; ((with_reducible refine (HB1.out _ ?_).mono ?_); (focus exact LotsAt.ex HL.out (HX.out.trans (by repeat (first | exact Ex.refl _ | refine Ex.alloc ?_ _ | refine Ex.ext ?_ _ _ | refine Ex.drew ?_ | refine Ex.drewN ?_ _))))); rintro e w1 ⟨rfl, rfl⟩))
          go_wp2_with fail
          refine (prices_ok _ len _ l E _ hcl (Errs.ex hE' (by repeat (first | exact Ex.refl _ | refine Ex.alloc ?_ _ | refine Ex.ext ?_ _ _ | refine Ex.drew ?_ | refine Ex.drewN ?_ _))) (LotsAt.ex HL'.out (by repeat (first | exact Ex.refl _ | refine Ex.alloc ?_ _ | refine Ex.ext ?_ _ _ | refine Ex.drew ?_ | refine Ex.drewN ?_ _))) HOK.out).mono ?_
          rintro e w3 ⟨⟨ao3, cap3, rfl, hc3, hz3⟩, hx3⟩
          have HX3 : Hid (Ex wo w3) := Lib.hid (Ex.trans (by repeat (first | exact Ex.refl _ | refine Ex.alloc ?_ _ | refine Ex.ext ?_ _ _ | refine Ex.drew ?_ | refine Ex.drewN ?_ _)) hx3)
          have HZ3 := Lib.hid hz3
          clear hx3 hz3
          go_wp2_with fail
          refine (pricesOf_any ao len cap l _ (HL.out.ex (HX.out.trans (HX3.out.trans (by repeat (first | exact Ex.refl _ | refine Ex.alloc ?_ _ | refine Ex.ext ?_ _ _ | refine Ex.drew ?_ | refine Ex.drewN ?_ _))))) (by omega)).mono ?_
          rintro e w4 ⟨⟨ao4, cap4, rfl, hz4⟩, hx4⟩
          have HX34 : Hid (Ex w3 w4) := Lib.hid (Ex.trans (by repeat (first | exact Ex.refl _ | refine Ex.alloc ?_ _ | refine Ex.ext ?_ _ _ | refine Ex.drew ?_ | refine Ex.drewN ?_ _)) hx4)
          have HZ4 := Lib.hid hz4
          clear hx4 hz4
          go_wp2_with fail
          refine (sameInts_any _ _ _ _ (pricesL l) _ (HZ3.out.ex (HX34.out.trans (by repeat (first | exact Ex.refl _ | refine Ex.alloc ?_ _ | refine Ex.ext ?_ _ _ | refine Ex.drew ?_ | refine Ex.drewN ?_ _)))) (HZ4.out.ex (by repeat (first | exact Ex.refl _ | refine Ex.alloc ?_ _ | refine Ex.ext ?_ _ _ | refine Ex.drew ?_ | refine Ex.drewN ?_ _))) (by omega)).mono ?_
          rintro e w5 ⟨rfl, l7, d7, rfl⟩
          have HX4 : Hid (Ex wo w4) := Lib.hid (HX3.out.trans HX34.out)
          have hE4 := hE'.ex HX4.out
          have HL4 := Lib.hid (HL'.out.ex HX4.out)
          go_wp2_with (first
            | (go_at_call 32; ((with_reducible refine (HB3.out ao' cap' _ ?_ ?_ ?_).mono ?_); (focus exact hcl); (focus exact Errs.ex hE4 (by repeat (first | exact Ex.refl _ | refine Ex.alloc ?_ _ | refine Ex.ext ?_ _ _ | refine Ex.drew ?_ | refine Ex.drewN ?_ _))); (focus exact LotsAt.ex HL4.out (by repeat (first | exact Ex.refl _ | refine Ex.alloc ?_ _ | refine Ex.ext ?_ _ _ | refine Ex.drew ?_ | refine Ex.drewN ?_ _)))); rintro e w1 ⟨rfl, l6, d6, rfl⟩)
            | (go_at_call 22; ((with_reducible refine (HC0.out ao' cap' _ ?_ ?_ ?_).mono ?_); (focus exact hcl); (focus exact Errs.ex hE4 (by repeat (first | exact Ex.refl _ | refine Ex.alloc ?_ _ | refine Ex.ext ?_ _ _ | refine Ex.drew ?_ | refine Ex.drewN ?_ _))); (focus exact LotsAt.ex HL4.out (by repeat (first | exact Ex.refl _ | refine Ex.alloc ?_ _ | refine Ex.ext ?_ _ _ | refine Ex.drew ?_ | refine Ex.drewN ?_ _)))); rintro e w1 ⟨rfl, l6, d6, rfl⟩))
          all_goals go_ret
          all_goals exact ⟨by first | rfl | exact ret_bool (by simp; omega), (HX.out.trans HX4.out).trans (by repeat (first | exact Ex.refl _ | refine Ex.alloc ?_ _ | refine Ex.ext ?_ _ _ | refine Ex.drew ?_ | refine Ex.drewN ?_ _))⟩
        · clear C0
          go_upto_region 19 with (first
            | (go_at_call 16; ((with_reducible refine (HD0.out ao' cap' _ ?_ ?_ ?_).mono ?_); (focus exact hcl); (focus exact Errs.ex hE' (by repeat (first | exact Ex.refl _ | refine Ex.alloc ?_ _ | refine Ex.ext ?_ _ _ | refine Ex.drew ?_ | refine Ex.drewN ?_ _))); (focus exact LotsAt.ex HL'.out (by repeat (first | exact Ex.refl _ | refine Ex.alloc ?_ _ | refine Ex.ext ?_ _ _ | refine Ex.drew ?_ | refine Ex.drewN ?_ _)))); rintro e w1 ⟨rfl, l6, d6, rfl⟩)
            | (go_at_call 17; ((with_reducible refine (HS0.out ao' cap' _ ?_ ?_ ?_).mono ?_); (focus exact hcl); (focus exact Errs.ex hE' (by repeat (first | exact Ex.refl _ | refine Ex.alloc ?_ _ | refine Ex.ext ?_ _ _ | refine Ex.drew ?_ | refine Ex.drewN ?_ _))); (focus exact LotsAt.ex HL'.out (by repeat (first | exact Ex.refl _ | refine Ex.alloc ?_ _ | refine Ex.ext ?_ _ _ | refine Ex.drew ?_ | refine Ex.drewN ?_ _)))); rintro e w1 ⟨rfl, l6, d6, rfl⟩)
            | (go_at_call 19; ((with_reducible refine (HV0.out ao' cap' _ ?_ ?_ ?_).mono ?_); (focus exact hcl); (focus exact Errs.ex hE' (by repeat (first | exact Ex.refl _ | refine Ex.alloc ?_ _ | refine Ex.ext ?_ _ _ | refine Ex.drew ?_ | refine Ex.drewN ?_ _))); (focus exact LotsAt.ex HL'.out (by repeat (first | exact Ex.refl _ | refine Ex.alloc ?_ _ | refine Ex.ext ?_ _ _ | refine Ex.drew ?_ | refine Ex.drewN ?_ _)))); rintro e w1 ⟨rfl, l6, d6, rfl⟩)
            | (go_at_call 18; ((with_reducible refine (HU0.out ao' cap' _ ?_ ?_ ?_).mono ?_); (focus exact hcl); (focus exact Errs.ex hE' (by repeat (first | exact Ex.refl _ | refine Ex.alloc ?_ _ | refine Ex.ext ?_ _ _ | refine Ex.drew ?_ | refine Ex.drewN ?_ _))); (focus exact LotsAt.ex HL'.out (by repeat (first | exact Ex.refl _ | refine Ex.alloc ?_ _ | refine Ex.ext ?_ _ _ | refine Ex.drew ?_ | refine Ex.drewN ?_ _)))); rintro e w1 ⟨rfl, l6, d6, rfl⟩)
            | (go_at_call 28; ((with_reducible refine (HD1.out _ ?_).mono ?_); (focus exact LotsAt.ex HL.out (HX.out.trans (by repeat (first | exact Ex.refl _ | refine Ex.alloc ?_ _ | refine Ex.ext ?_ _ _ | refine Ex.drew ?_ | refine Ex.drewN ?_ _))))); rintro e w1 ⟨rfl, rfl⟩)
            | (go_at_call 29; ((with_reducible refine (HS1.out _ ?_).mono ?_); (focus exact LotsAt.ex HL.out (HX.out.trans (by repeat (first | exact Ex.refl _ | refine Ex.alloc ?_ _ | refine Ex.ext ?_ _ _ | refine Ex.drew ?_ | refine Ex.drewN ?_ _))))); rintro e w1 ⟨rfl, rfl⟩)
            | (go_at_call 43; ((with_reducible refine (HV1.out _ ?_).mono ?_); (focus exact LotsAt.ex HL.out (HX.out.trans (by repeat (first | exact Ex.refl _ | refine Ex.alloc ?_ _ | refine Ex.ext ?_ _ _ | refine Ex.drew ?_ | refine Ex.drewN ?_ _))))); rintro e w1 ⟨rfl, rfl⟩)
            | (go_at_call 44; ((with_reducible refine (HB2.out _ ?_).mono ?_); (focus exact LotsAt.ex HL.out (HX.out.trans (by repeat (first | exact Ex.refl _ | refine Ex.alloc ?_ _ | refine Ex.ext ?_ _ _ | refine Ex.drew ?_ | refine Ex.drewN ?_ _))))); rintro e w1 ⟨rfl, rfl⟩)
            | (go_at_call 44; ((with_reducible refine (HB0.out _ ?_).mono ?_); (focus exact LotsAt.ex HL.out (HX.out.trans (by repeat (first | exact Ex.refl _ | refine Ex.alloc ?_ _ | refine Ex.ext ?_ _ _ | refine Ex.drew ?_ | refine Ex.drewN ?_ _))))); rintro e w1 ⟨rfl, rfl⟩)
            | (go_at_call 44; ((with_reducible refine (HB1.out _ ?_).mono ?_); (focus exact LotsAt.ex HL.out (HX.out.trans (by repeat (first | exact Ex.refl _ | refine Ex.alloc ?_ _ | refine Ex.ext ?_ _ _ | refine Ex.drew ?_ | refine Ex.drewN ?_ _))))); rintro e w1 ⟨rfl, rfl⟩))
          go_wp2_with fail
          refine (prices_ok _ len _ l E _ hcl (Errs.ex hE' (by repeat (first | exact Ex.refl _ | refine Ex.alloc ?_ _ | refine Ex.ext ?_ _ _ | refine Ex.drew ?_ | refine Ex.drewN ?_ _))) (LotsAt.ex HL'.out (by repeat (first | exact Ex.refl _ | refine Ex.alloc ?_ _ | refine Ex.ext ?_ _ _ | refine Ex.drew ?_ | refine Ex.drewN ?_ _))) HOK.out).mono ?_
          rintro e w3 ⟨⟨ao3, cap3, rfl, hc3, hz3⟩, hx3⟩
          have HX3 : Hid (Ex wo w3) := Lib.hid (Ex.trans (by repeat (first | exact Ex.refl _ | refine Ex.alloc ?_ _ | refine Ex.ext ?_ _ _ | refine Ex.drew ?_ | refine Ex.drewN ?_ _)) hx3)
          have HZ3 := Lib.hid hz3
          clear hx3 hz3
          go_wp2_with fail
          refine (pricesOf_any ao len cap l _ (HL.out.ex (HX.out.trans (HX3.out.trans (by repeat (first | exact Ex.refl _ | refine Ex.alloc ?_ _ | refine Ex.ext ?_ _ _ | refine Ex.drew ?_ | refine Ex.drewN ?_ _))))) (by omega)).mono ?_
          rintro e w4 ⟨⟨ao4, cap4, rfl, hz4⟩, hx4⟩
          have HX34 : Hid (Ex w3 w4) := Lib.hid (Ex.trans (by repeat (first | exact Ex.refl _ | refine Ex.alloc ?_ _ | refine Ex.ext ?_ _ _ | refine Ex.drew ?_ | refine Ex.drewN ?_ _)) hx4)
          have HZ4 := Lib.hid hz4
          clear hx4 hz4
          go_wp2_with fail
          refine (sameInts_any _ _ _ _ (pricesL l) _ (HZ3.out.ex (HX34.out.trans (by repeat (first | exact Ex.refl _ | refine Ex.alloc ?_ _ | refine Ex.ext ?_ _ _ | refine Ex.drew ?_ | refine Ex.drewN ?_ _)))) (HZ4.out.ex (by repeat (first | exact Ex.refl _ | refine Ex.alloc ?_ _ | refine Ex.ext ?_ _ _ | refine Ex.drew ?_ | refine Ex.drewN ?_ _))) (by omega)).mono ?_
          rintro e w5 ⟨rfl, l7, d7, rfl⟩
          have HX4 : Hid (Ex wo w4) := Lib.hid (HX3.out.trans HX34.out)
          have hE4 := hE'.ex HX4.out
          have HL4 := Lib.hid (HL'.out.ex HX4.out)
          go_wp2_with (first
            | (go_at_call 32; ((with_reducible refine (HB3.out ao' cap' _ ?_ ?_ ?_).mono ?_); (focus exact hcl); (focus exact Errs.ex hE4 (by repeat (first | exact Ex.refl _ | refine Ex.alloc ?_ _ | refine Ex.ext ?_ _ _ | refine Ex.drew ?_ | refine Ex.drewN ?_ _))); (focus exact LotsAt.ex HL4.out (by repeat (first | exact Ex.refl _ | refine Ex.alloc ?_ _ | refine Ex.ext ?_ _ _ | refine Ex.drew ?_ | refine Ex.drewN ?_ _)))); rintro e w1 ⟨rfl, l6, d6, rfl⟩)
            | (go_at_call 22; ((with_reducible refine (HC0.out ao' cap' _ ?_ ?_ ?_).mono ?_); (focus exact hcl); (focus exact Errs.ex hE4 (by repeat (first | exact Ex.refl _ | refine Ex.alloc ?_ _ | refine Ex.ext ?_ _ _ | refine Ex.drew ?_ | refine Ex.drewN ?_ _))); (focus exact LotsAt.ex HL4.out (by repeat (first | exact Ex.refl _ | refine Ex.alloc ?_ _ | refine Ex.ext ?_ _ _ | refine Ex.drew ?_ | refine Ex.drewN ?_ _)))); rintro e w1 ⟨rfl, l6, d6, rfl⟩))
          all_goals go_ret
          all_goals exact ⟨by first | rfl | exact ret_bool (by simp; omega), (HX.out.trans HX4.out).trans (by repeat (first | exact Ex.refl _ | refine Ex.alloc ?_ _ | refine Ex.ext ?_ _ _ | refine Ex.drew ?_ | refine Ex.drewN ?_ _))⟩
        · clear C0
          obtain rfl : bs = 0 := HO.out (by simpa using s0) (by simpa using s1)
          go_upto_region 19 with (first
            | (go_at_call 16; ((with_reducible refine (HD0.out ao' cap' _ ?_ ?_ ?_).mono ?_); (focus exact hcl); (focus exact Errs.ex hE' (by repeat (first | exact Ex.refl _ | refine Ex.alloc ?_ _ | refine Ex.ext ?_ _ _ | refine Ex.drew ?_ | refine Ex.drewN ?_ _))); (focus exact LotsAt.ex HL'.out (by repeat (first | exact Ex.refl _ | refine Ex.alloc ?_ _ | refine Ex.ext ?_ _ _ | refine Ex.drew ?_ | refine Ex.drewN ?_ _)))); rintro e w1 ⟨rfl, l6, d6, rfl⟩)
            | (go_at_call 17; ((with_reducible refine (HS0.out ao' cap' _ ?_ ?_ ?_).mono ?_); (focus exact hcl); (focus exact Errs.ex hE' (by repeat (first | exact Ex.refl _ | refine Ex.alloc ?_ _ | refine Ex.ext ?_ _ _ | refine Ex.drew ?_ | refine Ex.drewN ?_ _))); (focus exact LotsAt.ex HL'.out (by repeat (first | exact Ex.refl _ | refine Ex.alloc ?_ _ | refine Ex.ext ?_ _ _ | refine Ex.drew ?_ | refine Ex.drewN ?_ _)))); rintro e w1 ⟨rfl, l6, d6, rfl⟩)
            | (go_at_call 19; ((with_reducible refine (HV0.out ao' cap' _ ?_ ?_ ?_).mono ?_); (focus exact hcl); (focus exact Errs.ex hE' (by repeat (first | exact Ex.refl _ | refine Ex.alloc ?_ _ | refine Ex.ext ?_ _ _ | refine Ex.drew ?_ | refine Ex.drewN ?_ _))); (focus exact LotsAt.ex HL'.out (by repeat (first | exact Ex.refl _ | refine Ex.alloc ?_ _ | refine Ex.ext ?_ _ _ | refine Ex.drew ?_ | refine Ex.drewN ?_ _)))); rintro e w1 ⟨rfl, l6, d6, rfl⟩)
            | (go_at_call 18; ((with_reducible refine (HU0.out ao' cap' _ ?_ ?_ ?_).mono ?_); (focus exact hcl); (focus exact Errs.ex hE' (by repeat (first | exact Ex.refl _ | refine Ex.alloc ?_ _ | refine Ex.ext ?_ _ _ | refine Ex.drew ?_ | refine Ex.drewN ?_ _))); (focus exact LotsAt.ex HL'.out (by repeat (first | exact Ex.refl _ | refine Ex.alloc ?_ _ | refine Ex.ext ?_ _ _ | refine Ex.drew ?_ | refine Ex.drewN ?_ _)))); rintro e w1 ⟨rfl, l6, d6, rfl⟩)
            | (go_at_call 28; ((with_reducible refine (HD1.out _ ?_).mono ?_); (focus exact LotsAt.ex HL.out (HX.out.trans (by repeat (first | exact Ex.refl _ | refine Ex.alloc ?_ _ | refine Ex.ext ?_ _ _ | refine Ex.drew ?_ | refine Ex.drewN ?_ _))))); rintro e w1 ⟨rfl, rfl⟩)
            | (go_at_call 29; ((with_reducible refine (HS1.out _ ?_).mono ?_); (focus exact LotsAt.ex HL.out (HX.out.trans (by repeat (first | exact Ex.refl _ | refine Ex.alloc ?_ _ | refine Ex.ext ?_ _ _ | refine Ex.drew ?_ | refine Ex.drewN ?_ _))))); rintro e w1 ⟨rfl, rfl⟩)
            | (go_at_call 43; ((with_reducible refine (HV1.out _ ?_).mono ?_); (focus exact LotsAt.ex HL.out (HX.out.trans (by repeat (first | exact Ex.refl _ | refine Ex.alloc ?_ _ | refine Ex.ext ?_ _ _ | refine Ex.drew ?_ | refine Ex.drewN ?_ _))))); rintro e w1 ⟨rfl, rfl⟩)
            | (go_at_call 44; ((with_reducible refine (HB2.out _ ?_).mono ?_); (focus exact LotsAt.ex HL.out (HX.out.trans (by repeat (first | exact Ex.refl _ | refine Ex.alloc ?_ _ | refine Ex.ext ?_ _ _ | refine Ex.drew ?_ | refine Ex.drewN ?_ _))))); rintro e w1 ⟨rfl, rfl⟩)
            | (go_at_call 44; ((with_reducible refine (HB0.out _ ?_).mono ?_); (focus exact LotsAt.ex HL.out (HX.out.trans (by repeat (first | exact Ex.refl _ | refine Ex.alloc ?_ _ | refine Ex.ext ?_ _ _ | refine Ex.drew ?_ | refine Ex.drewN ?_ _))))); rintro e w1 ⟨rfl, rfl⟩)
            | (go_at_call 44; ((with_reducible refine (HB1.out _ ?_).mono ?_); (focus exact LotsAt.ex HL.out (HX.out.trans (by repeat (first | exact Ex.refl _ | refine Ex.alloc ?_ _ | refine Ex.ext ?_ _ _ | refine Ex.drew ?_ | refine Ex.drewN ?_ _))))); rintro e w1 ⟨rfl, rfl⟩))
          go_wp2_with fail
          refine (prices_ok _ len _ l E _ hcl (Errs.ex hE' (by repeat (first | exact Ex.refl _ | refine Ex.alloc ?_ _ | refine Ex.ext ?_ _ _ | refine Ex.drew ?_ | refine Ex.drewN ?_ _))) (LotsAt.ex HL'.out (by repeat (first | exact Ex.refl _ | refine Ex.alloc ?_ _ | refine Ex.ext ?_ _ _ | refine Ex.drew ?_ | refine Ex.drewN ?_ _))) HOK.out).mono ?_
          rintro e w3 ⟨⟨ao3, cap3, rfl, hc3, hz3⟩, hx3⟩
          have HX3 : Hid (Ex wo w3) := Lib.hid (Ex.trans (by repeat (first | exact Ex.refl _ | refine Ex.alloc ?_ _ | refine Ex.ext ?_ _ _ | refine Ex.drew ?_ | refine Ex.drewN ?_ _)) hx3)
          have HZ3 := Lib.hid hz3
          clear hx3 hz3
          go_wp2_with fail
          refine (pricesOf_any ao len cap l _ (HL.out.ex (HX.out.trans (HX3.out.trans (by repeat (first | exact Ex.refl _ | refine Ex.alloc ?_ _ | refine Ex.ext ?_ _ _ | refine Ex.drew ?_ | refine Ex.drewN ?_ _))))) (by omega)).mono ?_
          rintro e w4 ⟨⟨ao4, cap4, rfl, hz4⟩, hx4⟩
          have HX34 : Hid (Ex w3 w4) := Lib.hid (Ex.trans (by repeat (first | exact Ex.refl _ | refine Ex.alloc ?_ _ | refine Ex.ext ?_ _ _ | refine Ex.drew ?_ | refine Ex.drewN ?_ _)) hx4)
          have HZ4 := Lib.hid hz4
          clear hx4 hz4
          go_wp2_with fail
          refine (sameInts_any _ _ _ _ (pricesL l) _ (HZ3.out.ex (HX34.out.trans (by repeat (first | exact Ex.refl _ | refine Ex.alloc ?_ _ | refine Ex.ext ?_ _ _ | refine Ex.drew ?_ | refine Ex.drewN ?_ _)))) (HZ4.out.ex (by repeat (first | exact Ex.refl _ | refine Ex.alloc ?_ _ | refine Ex.ext ?_ _ _ | refine Ex.drew ?_ | refine Ex.drewN ?_ _))) (by omega)).mono ?_
          rintro e w5 ⟨rfl, l7, d7, rfl⟩
          have HX4 : Hid (Ex wo w4) := Lib.hid (HX3.out.trans HX34.out)
          have hE4 := hE'.ex HX4.out
          have HL4 := Lib.hid (HL'.out.ex HX4.out)
          go_wp2_with (first
            | (go_at_call 32; ((with_reducible refine (HB3.out ao' cap' _ ?_ ?_ ?_).mono ?_); (focus exact hcl); (focus exact Errs.ex hE4 (by repeat (first | exact Ex.refl _ | refine Ex.alloc ?_ _ | refine Ex.ext ?_ _ _ | refine Ex.drew ?_ | refine Ex.drewN ?_ _))); (focus exact LotsAt.ex HL4.out (by repeat (first | exact Ex.refl _ | refine Ex.alloc ?_ _ | refine Ex.ext ?_ _ _ | refine Ex.drew ?_ | refine Ex.drewN ?_ _)))); rintro e w1 ⟨rfl, l6, d6, rfl⟩)
            | (go_at_call 22; ((with_reducible refine (HC0.out ao' cap' _ ?_ ?_ ?_).mono ?_); (focus exact hcl); (focus exact Errs.ex hE4 (by repeat (first | exact Ex.refl _ | refine Ex.alloc ?_ _ | refine Ex.ext ?_ _ _ | refine Ex.drew ?_ | refine Ex.drewN ?_ _))); (focus exact LotsAt.ex HL4.out (by repeat (first | exact Ex.refl _ | refine Ex.alloc ?_ _ | refine Ex.ext ?_ _ _ | refine Ex.drew ?_ | refine Ex.drewN ?_ _)))); rintro e w1 ⟨rfl, l6, d6, rfl⟩))
          all_goals go_ret
          all_goals exact ⟨by first | rfl | exact ret_bool (by simp; omega), (HX.out.trans HX4.out).trans (by repeat (first | exact Ex.refl _ | refine Ex.alloc ?_ _ | refine Ex.ext ?_ _ _ | refine Ex.drew ?_ | refine Ex.drewN ?_ _))⟩
    · have HC0 := Lib.hid C0
      rw [decide_eq_false c0] at HC0
      rcases hside with s0 | ⟨s0, s1⟩ | ⟨s0, s1⟩
      · clear C0
        go_upto_region 19 with (first
          | (go_at_call 16; ((with_reducible refine (HD0.out ao' cap' _ ?_ ?_ ?_).mono ?_); (focus exact hcl); (focus exact Errs.ex hE' (by repeat (first | exact Ex.refl _ | refine Ex.alloc ?_ _ | refine Ex.ext ?_ _ _ | refine Ex.drew ?_ | refine Ex.drewN ?_ _))); (focus exact LotsAt.ex HL'.out (by repeat (first | exact Ex.refl _ | refine Ex.alloc ?_ _ | refine Ex.ext ?_ _ _ | refine Ex.drew ?_ | refine Ex.drewN ?_ _)))); rintro e w1 ⟨rfl, l6, d6, rfl⟩)
          | (go_at_call 17; ((with_reducible refine (HS0.out ao' cap' _ ?_ ?_ ?_).mono ?_); (focus exact hcl); (focus exact Errs.ex hE' (by repeat (first | exact Ex.refl _ | refine Ex.alloc ?_ _ | refine Ex.ext ?_ _ _ | refine Ex.drew ?_ | refine Ex.drewN ?_ _))); (focus exact LotsAt.ex HL'.out (by repeat (first | exact Ex.refl _ | refine Ex.alloc ?_ _ | refine Ex.ext ?_ _ _ | refine Ex.drew ?_ | refine Ex.drewN ?_ _)))); rintro e w1 ⟨rfl, l6, d6, rfl⟩)
          | (go_at_call 19; ((with_reducible refine (HV0.out ao' cap' _ ?_ ?_ ?_).mono ?_); (focus exact hcl); (focus exact Errs.ex hE' (by repeat (first | exact Ex.refl _ | refine Ex.alloc ?_ _ | refine Ex.ext ?_ _ _ | refine Ex.drew ?_ | refine Ex.drewN ?_ _))); (focus exact LotsAt.ex HL'.out (by repeat (first | exact Ex.refl _ | refine Ex.alloc ?_ _ | refine Ex.ext ?_ _ _ | refine Ex.drew ?_ | refine Ex.drewN ?_ _)))); rintro e w1 ⟨rfl, l6, d6, rfl⟩)
          | (go_at_call 18; ((with_reducible refine (HU0.out ao' cap' _ ?_ ?_ ?_).mono ?_); (focus exact hcl); (focus exact Errs.ex hE' (by repeat (first | exact Ex.refl _ | refine Ex.alloc ?_ _ | refine Ex.ext ?_ _ _ | refine Ex.drew ?_ | refine Ex.drewN ?_ _))); (focus exact LotsAt.ex HL'.out (by repeat (first | exact Ex.refl _ | refine Ex.alloc ?_ _ | refine Ex.ext ?_ _ _ | refine Ex.drew ?_ | refine Ex.drewN ?_ _)))); rintro e w1 ⟨rfl, l6, d6, rfl⟩)
          | (go_at_call 28; ((with_reducible refine (HD1.out _ ?_).mono ?_); (focus exact LotsAt.ex HL.out (HX.out.trans (by repeat (first | exact Ex.refl _ | refine Ex.alloc ?_ _ | refine Ex.ext ?_ _ _ | refine Ex.drew ?_ | refine Ex.drewN ?_ _))))); rintro e w1 ⟨rfl, rfl⟩)
          | (go_at_call 29; ((with_reducible refine (HS1.out _ ?_).mono ?_); (focus exact LotsAt.ex HL.out (HX.out.trans (by repeat (first | exact Ex.refl _ | refine Ex.alloc ?_ _ | refine Ex.ext ?_ _ _ | refine Ex.drew ?_ | refine Ex.drewN ?_ _))))); rintro e w1 ⟨rfl, rfl⟩)
          | (go_at_call 43; ((with_reducible refine (HV1.out _ ?_).mono ?_); (focus exact LotsAt.ex HL.out (HX.out.trans (by repeat (first | exact Ex.refl _ | refine Ex.alloc ?_ _ | refine Ex.ext ?_ _ _ | refine Ex.drew ?_ | refine Ex.drewN ?_ _))))); rintro e w1 ⟨rfl, rfl⟩)
          | (go_at_call 44; ((with_reducible refine (HB2.out _ ?_).mono ?_); (focus exact LotsAt.ex HL.out (HX.out.trans (by repeat (first | exact Ex.refl _ | refine Ex.alloc ?_ _ | refine Ex.ext ?_ _ _ | refine Ex.drew ?_ | refine Ex.drewN ?_ _))))); rintro e w1 ⟨rfl, rfl⟩)
          | (go_at_call 44; ((with_reducible refine (HB0.out _ ?_).mono ?_); (focus exact LotsAt.ex HL.out (HX.out.trans (by repeat (first | exact Ex.refl _ | refine Ex.alloc ?_ _ | refine Ex.ext ?_ _ _ | refine Ex.drew ?_ | refine Ex.drewN ?_ _))))); rintro e w1 ⟨rfl, rfl⟩)
          | (go_at_call 44; ((with_reducible refine (HB1.out _ ?_).mono ?_); (focus exact LotsAt.ex HL.out (HX.out.trans (by repeat (first | exact Ex.refl _ | refine Ex.alloc ?_ _ | refine Ex.ext ?_ _ _ | refine Ex.drew ?_ | refine Ex.drewN ?_ _))))); rintro e w1 ⟨rfl, rfl⟩))
        go_wp2_with fail
        refine (prices_ok _ len _ l E _ hcl (Errs.ex hE' (by repeat (first | exact Ex.refl _ | refine Ex.alloc ?_ _ | refine Ex.ext ?_ _ _ | refine Ex.drew ?_ | refine Ex.drewN ?_ _))) (LotsAt.ex HL'.out (by repeat (first | exact Ex.refl _ | refine Ex.alloc ?_ _ | refine Ex.ext ?_ _ _ | refine Ex.drew ?_ | refine Ex.drewN ?_ _))) HOK.out).mono ?_
        rintro e w3 ⟨⟨ao3, cap3, rfl, hc3, hz3⟩, hx3⟩
        have HX3 : Hid (Ex wo w3) := Lib.hid (Ex.trans (by repeat (first | exact Ex.refl _ | refine Ex.alloc ?_ _ | refine Ex.ext ?_ _ _ | refine Ex.drew ?_ | refine Ex.drewN ?_ _)) hx3)
        have HZ3 := Lib.hid hz3
        clear hx3 hz3
        go_wp2_with fail
        refine (pricesOf_any ao len cap l _ (HL.out.ex (HX.out.trans (HX3.out.trans (by repeat (first | exact Ex.refl _ | refine Ex.alloc ?_ _ | refine Ex.ext ?_ _ _ | refine Ex.drew ?_ | refine Ex.drewN ?_ _))))) (by omega)).mono ?_
        rintro e w4 ⟨⟨ao4, cap4, rfl, hz4⟩, hx4⟩
        have HX34 : Hid (Ex w3 w4) := Lib.hid (Ex.trans (by repeat (first | exact Ex.refl _ | refine Ex.alloc ?_ _ | refine Ex.ext ?_ _ _ | refine Ex.drew ?_ | refine Ex.drewN ?_ _)) hx4)
        have HZ4 := Lib.hid hz4
        clear hx4 hz4
        go_wp2_with fail
        refine (sameInts_any _ _ _ _ (pricesL l) _ (HZ3.out.ex (HX34.out.trans (by repeat (first | exact Ex.refl _ | refine Ex.alloc ?_ _ | refine Ex.ext ?_ _ _ | refine Ex.drew ?_ | refine Ex.drewN ?_ _)))) (HZ4.out.ex (by repeat (first | exact Ex.refl _ | refine Ex.alloc ?_ _ | refine Ex.ext ?_ _ _ | refine Ex.drew ?_ | refine Ex.drewN ?_ _))) (by omega)).mono ?_
        rintro e w5 ⟨rfl, l7, d7, rfl⟩
        have HX4 : Hid (Ex wo w4) := Lib.hid (HX3.out.trans HX34.out)
        have hE4 := hE'.ex HX4.out
        have HL4 := Lib.hid (HL'.out.ex HX4.out)
        go_wp2_with (first
          | (go_at_call 32; ((with_reducible refine (HB3.out ao' cap' _ ?_ ?_ ?_).mono ?_); (focus exact hcl); (focus exact Errs.ex hE4 (by repeat (first | exact Ex.refl _ | refine Ex.alloc ?_ _ | refine Ex.ext ?_ _ _ | refine Ex.drew ?_ | refine Ex.drewN ?_ _))); (focus exact LotsAt.ex HL4.out (by repeat (first | exact Ex.refl _ | refine Ex.alloc ?_ _ | refine Ex.ext ?_ _ _ | refine Ex.drew ?_ | refine Ex.drewN ?_ _)))); rintro e w1 ⟨rfl, l6, d6, rfl⟩)
          | (go_at_call 22; ((with_reducible refine (HC0.out ao' cap' _ ?_ ?_ ?_).mono ?_); (focus exact hcl); (focus exact Errs.ex hE4 (by repeat (first | exact Ex.refl _ | refine Ex.alloc ?_ _ | refine Ex.ext ?_ _ _ | refine Ex.drew ?_ | refine Ex.drewN ?_ _))); (focus exact LotsAt.ex HL4.out (by repeat (first | exact Ex.refl _ | refine Ex.alloc ?_ _ | refine Ex.ext ?_ _ _ | refine Ex.drew ?_ | refine Ex.drewN ?_ _)))); rintro e w1 ⟨rfl, l6, d6, rfl⟩))
        all_goals go_ret
        all_goals exact ⟨by first | rfl | exact ret_bool (by simp; omega), (HX.out.trans HX4.out).trans (by repeat (first | exact Ex.refl _ | refine Ex.alloc ?_ _ | refine Ex.ext ?_ _ _ | refine Ex.drew ?_ | refine Ex.drewN ?_ _))⟩
      · clear C0
        go_upto_region 19 with (first
          | (go_at_call 16; ((with_reducible refine (HD0.out ao' cap' _ ?_ ?_ ?_).mono ?_); (focus exact hcl); (focus exact Errs.ex hE' (by repeat (first | exact Ex.refl _ | refine Ex.alloc ?_ _ | refine Ex.ext ?_ _ _ | refine Ex.drew ?_ | refine Ex.drewN ?_ _))); (focus exact LotsAt.ex HL'.out (by repeat (first | exact Ex.refl _ | refine Ex.alloc ?_ _ | refine Ex.ext ?_ _ _ | refine Ex.drew ?_ | refine Ex.drewN ?_ _)))); rintro e w1 ⟨rfl, l6, d6, rfl⟩)
          | (go_at_call 17; ((with_reducible refine (HS0.out ao' cap' _ ?_ ?_ ?_).mono ?_); (focus exact hcl); (focus exact Errs.ex hE' (by repeat (first | exact Ex.refl _ | refine Ex.alloc ?_ _ | refine Ex.ext ?_ _ _ | refine Ex.drew ?_ | refine Ex.drewN ?_ _))); (focus exact LotsAt.ex HL'.out (by repeat (first | exact Ex.refl _ | refine Ex.alloc ?_ _ | refine Ex.ext ?_ _ _ | refine Ex.drew ?_ | refine Ex.drewN ?_ _)))); rintro e w1 ⟨rfl, l6, d6, rfl⟩)
          | (go_at_call 19; ((with_reducible refine (HV0.out ao' cap' _ ?_ ?_ ?_).mono ?_); (focus exact hcl); (focus exact Errs.ex hE' (by repeat (first | exact Ex.refl _ | refine Ex.alloc ?_ _ | refine Ex.ext ?_ _ _ | refine Ex.drew ?_ | refine Ex.drewN ?_ _))); (focus exact LotsAt.ex HL'.out (by repeat (first | exact Ex.refl _ | refine Ex.alloc ?_ _ | refine Ex.ext ?_ _ _ | refine Ex.drew ?_ | refine Ex.drewN ?_ _)))); rintro e w1 ⟨rfl, l6, d6, rfl⟩)
          | (go_at_call 18; ((with_reducible refine (HU0.out ao' cap' _ ?_ ?_ ?_).mono ?_); (focus exact hcl); (focus exact Errs.ex hE' (by repeat (first | exact Ex.refl _ | refine Ex.alloc ?_ _ | refine Ex.ext ?_ _ _ | refine Ex.drew ?_ | refine Ex.drewN ?_ _))); (focus exact LotsAt.ex HL'.out (by repeat (first | exact Ex.refl _ | refine Ex.alloc ?_ _ | refine Ex.ext ?_ _ _ | refine Ex.drew ?_ | refine Ex.drewN ?_ _)))); rintro e w1 ⟨rfl, l6, d6, rfl⟩)
          | (go_at_call 28; ((with_reducible refine (HD1.out _ ?_).mono ?_); (focus exact LotsAt.ex HL.out (HX.out.trans (by repeat (first | exact Ex.refl _ | refine Ex.alloc ?_ _ | refine Ex.ext ?_ _ _ | refine Ex.drew ?_ | refine Ex.drewN ?_ _))))); rintro e w1 ⟨rfl, rfl⟩)
          | (go_at_call 29; ((with_reducible refine (HS1.out _ ?_).mono ?_); (focus exact LotsAt.ex HL.out (HX.out.trans (by repeat (first | exact Ex.refl _ | refine Ex.alloc ?_ _ | refine Ex.ext ?_ _ _ | refine Ex.drew ?_ | refine Ex.drewN ?_ _))))); rintro e w1 ⟨rfl, rfl⟩)
          | (go_at_call 43; ((with_reducible refine (HV1.out _ ?_).mono ?_); (focus exact LotsAt.ex HL.out (HX.out.trans (by repeat (first | exact Ex.refl _ | refine Ex.alloc ?_ _ | refine Ex.ext ?_ _ _ | refine Ex.drew ?_ | refine Ex.drewN ?_ _))))); rintro e w1 ⟨rfl, rfl⟩)
          | (go_at_call 44; ((with_reducible refine (HB2.out _ ?_).mono ?_); (focus exact LotsAt.ex HL.out (HX.out.trans (by repeat (first | exact Ex.refl _ | refine Ex.alloc ?_ _ | refine Ex.ext ?_ _ _ | refine Ex.drew ?_ | refine Ex.drewN ?_ _))))); rintro e w1 ⟨rfl, rfl⟩)
          | (go_at_call 44; ((with_reducible refine (HB0.out _ ?_).mono ?_); (focus exact LotsAt.ex HL.out (HX.out.trans (by repeat (first | exact Ex.refl _ | refine Ex.alloc ?_ _ | refine Ex.ext ?_ _ _ | refine Ex.drew ?_ | refine Ex.drewN ?_ _))))); rintro e w1 ⟨rfl, rfl⟩)
          | (go_at_call 44; ((with_reducible refine (HB1.out _ ?_).mono ?_); (focus exact LotsAt.ex HL.out (HX.out.trans (by repeat (first | exact Ex.refl _ | refine Ex.alloc ?_ _ | refine Ex.ext ?_ _ _ | refine Ex.drew ?_ | refine Ex.drewN ?_ _))))); rintro e w1 ⟨rfl, rfl⟩))
        go_wp2_with fail
        refine (prices_ok _ len _ l E _ hcl (Errs.ex hE' (by repeat (first | exact Ex.refl _ | refine Ex.alloc ?_ _ | refine Ex.ext ?_ _ _ | refine Ex.drew ?_ | refine Ex.drewN ?_ _))) (LotsAt.ex HL'.out (by repeat (first | exact Ex.refl _ | refine Ex.alloc ?_ _ | refine Ex.ext ?_ _ _ | refine Ex.drew ?_ | refine Ex.drewN ?_ _))) HOK.out).mono ?_
        rintro e w3 ⟨⟨ao3, cap3, rfl, hc3, hz3⟩, hx3⟩
        have HX3 : Hid (Ex wo w3) := Lib.hid (Ex.trans (by repeat (first | exact Ex.refl _ | refine Ex.alloc ?_ _ | refine Ex.ext ?_ _ _ | refine Ex.drew ?_ | refine Ex.drewN ?_ _)) hx3)
        have HZ3 := Lib.hid hz3
        clear hx3 hz3
        go_wp2_with fail
        refine (pricesOf_any ao len cap l _ (HL.out.ex (HX.out.trans (HX3.out.trans (by repeat (first | exact Ex.refl _ | refine Ex.alloc ?_ _ | refine Ex.ext ?_ _ _ | refine Ex.drew ?_ | refine Ex.drewN ?_ _))))) (by omega)).mono ?_
        rintro e w4 ⟨⟨ao4, cap4, rfl, hz4⟩, hx4⟩
        have HX34 : Hid (Ex w3 w4) := Lib.hid (Ex.trans (by repeat (first | exact Ex.refl _ | refine Ex.alloc ?_ _ | refine Ex.ext ?_ _ _ | refine Ex.drew ?_ | refine Ex.drewN ?_ _)) hx4)
        have HZ4 := Lib.hid hz4
        clear hx4 hz4
        go_wp2_with fail
        refine (sameInts_any _ _ _ _ (pricesL l) _ (HZ3.out.ex (HX34.out.trans (by repeat (first | exact Ex.refl _ | refine Ex.alloc ?_ _ | refine Ex.ext ?_ _ _ | refine Ex.drew ?_ | refine Ex.drewN ?_ _)))) (HZ4.out.ex (by repeat (first | exact Ex.refl _ | refine Ex.alloc ?_ _ | refine Ex.ext ?_ _ _ | refine Ex.drew ?_ | refine Ex.drewN ?_ _))) (by omega)).mono ?_
        rintro e w5 ⟨rfl, l7, d7, rfl⟩
        have HX4 : Hid (Ex wo w4) := Lib.hid (HX3.out.trans HX34.out)
        have hE4 := hE'.ex HX4.out
        have HL4 := Lib.hid (HL'.out.ex HX4.out)
        go_wp2_with (first
          | (go_at_call 32; ((with_reducible refine (HB3.out ao' cap' _ ?_ ?_ ?_).mono ?_); (focus exact hcl); (focus exact Errs.ex hE4 (by repeat (first | exact Ex.refl _ | refine Ex.alloc ?_ _ | refine Ex.ext ?_ _ _ | refine Ex.drew ?_ | refine Ex.drewN ?_ _))); (focus exact LotsAt.ex HL4.out (by repeat (first | exact Ex.refl _ | refine Ex.alloc ?_ _ | refine Ex.ext ?_ _ _ | refine Ex.drew ?_ | refine Ex.drewN ?_ _)))); rintro e w1 ⟨rfl, l6, d6, rfl⟩)
          | (go_at_call 22; ((with_reducible refine (HC0.out ao' cap' _ ?_ ?_ ?_).mono ?_); (focus exact hcl); (focus exact Errs.ex hE4 (by repeat (first | exact Ex.refl _ | refine Ex.alloc ?_ _ | refine Ex.ext ?_ _ _ | refine Ex.drew ?_ | refine Ex.drewN ?_ _))); (focus exact LotsAt.ex HL4.out (by repeat (first | exact Ex.refl _ | refine Ex.alloc ?_ _ | refine Ex.ext ?_ _ _ | refine Ex.drew ?_ | refine Ex.drewN ?_ _)))); rintro e w1 ⟨rfl, l6, d6, rfl⟩))
        all_goals go_ret
        all_goals exact ⟨by first | rfl | exact ret_bool (by simp; omega), (HX.out.trans HX4.out).trans (by repeat (first | exact Ex.refl _ | refine Ex.alloc ?_ _ | refine Ex.ext ?_ _ _ | refine Ex.drew ?_ | refine Ex.drewN ?_ _))⟩
      · clear C0
        obtain rfl : bs = 0 := HO.out (by simpa using s0) (by simpa using s1)
        go_upto_region 19 with (first
          | (go_at_call 16; ((with_reducible refine (HD0.out ao' cap' _ ?_ ?_ ?_).mono ?_); (focus exact hcl); (focus exact Errs.ex hE' (by repeat (first | exact Ex.refl _ | refine Ex.alloc ?_ _ | refine Ex.ext ?_ _ _ | refine Ex.drew ?_ | refine Ex.drewN ?_ _))); (focus exact LotsAt.ex HL'.out (by repeat (first | exact Ex.refl _ | refine Ex.alloc ?_ _ | refine Ex.ext ?_ _ _ | refine Ex.drew ?_ | refine Ex.drewN ?_ _)))); rintro e w1 ⟨rfl, l6, d6, rfl⟩)
          | (go_at_call 17; ((with_reducible refine (HS0.out ao' cap' _ ?_ ?_ ?_).mono ?_); (focus exact hcl); (focus exact Errs.ex hE' (by repeat (first | exact Ex.refl _ | refine Ex.alloc ?_ _ | refine Ex.ext ?_ _ _ | refine Ex.drew ?_ | refine Ex.drewN ?_ _))); (focus exact LotsAt.ex HL'.out (by repeat (first | exact Ex.refl _ | refine Ex.alloc ?_ _ | refine Ex.ext ?_ _ _ | refine Ex.drew ?_ | refine Ex.drewN ?_ _)))); rintro e w1 ⟨rfl, l6, d6, rfl⟩)
          | (go_at_call 19; ((with_reducible refine (HV0.out ao' cap' _ ?_ ?_ ?_).mono ?_); (focus exact hcl); (focus exact Errs.ex hE' (by repeat (first | exact Ex.refl _ | refine Ex.alloc ?_ _ | refine Ex.ext ?_ _ _ | refine Ex.drew ?_ | refine Ex.drewN ?_ _))); (focus exact LotsAt.ex HL'.out (by repeat (first | exact Ex.refl _ | refine Ex.alloc ?_ _ | refine Ex.ext ?_ _ _ | refine Ex.drew ?_ | refine Ex.drewN ?_ _)))); rintro e w1 ⟨rfl, l6, d6, rfl⟩)
          | (go_at_call 18; ((with_reducible refine (HU0.out ao' cap' _ ?_ ?_ ?_).mono ?_); (focus exact hcl); (focus exact Errs.ex hE' (by repeat (first | exact Ex.refl _ | refine Ex.alloc ?_ _ | refine Ex.ext ?_ _ _ | refine Ex.drew ?_ | refine Ex.drewN ?_ _))); (focus exact LotsAt.ex HL'.out (by repeat (first | exact Ex.refl _ | refine Ex.alloc ?_ _ | refine Ex.ext ?_ _ _ | refine Ex.drew ?_ | refine Ex.drewN ?_ _)))); rintro e w1 ⟨rfl, l6, d6, rfl⟩)
          | (go_at_call 28; ((with_reducible refine (HD1.out _ ?_).mono ?_); (focus exact LotsAt.ex HL.out (HX.out.trans (by repeat (first | exact Ex.refl _ | refine Ex.alloc ?_ _ | refine Ex.ext ?_ _ _ | refine Ex.drew ?_ | refine Ex.drewN ?_ _))))); rintro e w1 ⟨rfl, rfl⟩)
          | (go_at_call 29; ((with_reducible refine (HS1.out _ ?_).mono ?_); (focus exact LotsAt.ex HL.out (HX.out.trans (by repeat (first | exact Ex.refl _ | refine Ex.alloc ?_ _ | refine Ex.ext ?_ _ _ | refine Ex.drew ?_ | refine Ex.drewN ?_ _))))); rintro e w1 ⟨rfl, rfl⟩)
          | (go_at_call 43; ((with_reducible refine (HV1.out _ ?_).mono ?_); (focus exact LotsAt.ex HL.out (HX.out.trans (by repeat (first | exact Ex.refl _ | refine Ex.alloc ?_ _ | refine Ex.ext ?_ _ _ | refine Ex.drew ?_ | refine Ex.drewN ?_ _))))); rintro e w1 ⟨rfl, rfl⟩)
          | (go_at_call 44; ((with_reducible refine (HB2.out _ ?_).mono ?_); (focus exact LotsAt.ex HL.out (HX.out.trans (by repeat (first | exact Ex.refl _ | refine Ex.alloc ?_ _ | refine Ex.ext ?_ _ _ | refine Ex.drew ?_ | refine Ex.drewN ?_ _))))); rintro e w1 ⟨rfl, rfl⟩)
          | (go_at_call 44; ((with_reducible refine (HB0.out _ ?_).mono ?_); (focus exact LotsAt.ex HL.out (HX.out.trans (by repeat (first | exact Ex.refl _ | refine Ex.alloc ?_ _ | refine Ex.ext ?_ _ _ | refine Ex.drew ?_ | refine Ex.drewN ?_ _))))); rintro e w1 ⟨rfl, rfl⟩)
          | (go_at_call 44; ((with_reducible refine (HB1.out _ ?_).mono ?_); (focus exact LotsAt.ex HL.out (HX.out.trans (by repeat (first | exact Ex.refl _ | refine Ex.alloc ?_ _ | refine Ex.ext ?_ _ _ | refine Ex.drew ?_ | refine Ex.drewN ?_ _))))); rintro e w1 ⟨rfl, rfl⟩))
        go_wp2_with fail
        refine (prices_ok _ len _ l E _ hcl (Errs.ex hE' (by repeat (first | exact Ex.refl _ | refine Ex.alloc ?_ _ | refine Ex.ext ?_ _ _ | refine Ex.drew ?_ | refine Ex.drewN ?_ _))) (LotsAt.ex HL'.out (by repeat (first | exact Ex.refl _ | refine Ex.alloc ?_ _ | refine Ex.ext ?_ _ _ | refine Ex.drew ?_ | refine Ex.drewN ?_ _))) HOK.out).mono ?_
        rintro e w3 ⟨⟨ao3, cap3, rfl, hc3, hz3⟩, hx3⟩
        have HX3 : Hid (Ex wo w3) := Lib.hid (Ex.trans (by repeat (first | exact Ex.refl _ | refine Ex.alloc ?_ _ | refine Ex.ext ?_ _ _ | refine Ex.drew ?_ | refine Ex.drewN ?_ _)) hx3)
        have HZ3 := Lib.hid hz3
        clear hx3 hz3
        go_wp2_with fail
        refine (pricesOf_any ao len cap l _ (HL.out.ex (HX.out.trans (HX3.out.trans (by repeat (first | exact Ex.refl _ | refine Ex.alloc ?_ _ | refine Ex.ext ?_ _ _ | refine Ex.drew ?_ | refine Ex.drewN ?_ _))))) (by omega)).mono ?_
        rintro e w4 ⟨⟨ao4, cap4, rfl, hz4⟩, hx4⟩
        have HX34 : Hid (Ex w3 w4) := Lib.hid (Ex.trans (by repeat (first | exact Ex.refl _ | refine Ex.alloc ?_ _ | refine Ex.ext ?_ _ _ | refine Ex.drew ?_ | refine Ex.drewN ?_ _)) hx4)
        have HZ4 := Lib.hid hz4
        clear hx4 hz4
        go_wp2_with fail
        refine (sameInts_any _ _ _ _ (pricesL l) _ (HZ3.out.ex (HX34.out.trans (by repeat (first | exact Ex.refl _ | refine Ex.alloc ?_ _ | refine Ex.ext ?_ _ _ | refine Ex.drew ?_ | refine Ex.drewN ?_ _)))) (HZ4.out.ex (by repeat (first | exact Ex.refl _ | refine Ex.alloc ?_ _ | refine Ex.ext ?_ _ _ | refine Ex.drew ?_ | refine Ex.drewN ?_ _))) (by omega)).mono ?_
        rintro e w5 ⟨rfl, l7, d7, rfl⟩
        have HX4 : Hid (Ex wo w4) := Lib.hid (HX3.out.trans HX34.out)
        have hE4 := hE'.ex HX4.out
        have HL4 := Lib.hid (HL'.out.ex HX4.out)
        go_wp2_with (first
          | (go_at_call 32; ((with_reducible refine (HB3.out ao' cap' _ ?_ ?_ ?_).mono ?_); (focus exact hcl); (focus exact Errs.ex hE4 (by repeat (first | exact Ex.refl _ | refine Ex.alloc ?_ _ | refine Ex.ext ?_ _ _ | refine Ex.drew ?_ | refine Ex.drewN ?_ _))); (focus exact LotsAt.ex HL4.out (by repeat (first | exact Ex.refl _ | refine Ex.alloc ?_ _ | refine Ex.ext ?_ _ _ | refine Ex.drew ?_ | refine Ex.drewN ?_ _)))); rintro e w1 ⟨rfl, l6, d6, rfl⟩)
          | (go_at_call 22; ((with_reducible refine (HC0.out ao' cap' _ ?_ ?_ ?_).mono ?_); (focus exact hcl); (focus exact Errs.ex hE4 (by repeat (first | exact Ex.refl _ | refine Ex.alloc ?_ _ | refine Ex.ext ?_ _ _ | refine Ex.drew ?_ | refine Ex.drewN ?_ _))); (focus exact LotsAt.ex HL4.out (by repeat (first | exact Ex.refl _ | refine Ex.alloc ?_ _ | refine Ex.ext ?_ _ _ | refine Ex.drew ?_ | refine Ex.drewN ?_ _)))); rintro e w1 ⟨rfl, l6, d6, rfl⟩))
        all_goals go_ret
        all_goals exact ⟨by first | rfl | exact ret_bool (by simp; omega), (HX.out.trans HX4.out).trans (by repeat (first | exact Ex.refl _ | refine Ex.alloc ?_ _ | refine Ex.ext ?_ _ _ | refine Ex.drew ?_ | refine Ex.drewN ?_ _))⟩
end Go.Proofs.YtjkaeiioofknoaaDoor
