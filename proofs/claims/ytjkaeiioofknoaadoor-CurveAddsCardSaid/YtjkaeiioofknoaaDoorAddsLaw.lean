/- The walk of CurveAdds. -/
import Derived.Test.YtjkaeiioofknoaaDoorAdds
set_option linter.unusedSimpArgs false
set_option linter.unusedVariables false
namespace Go.Proofs.YtjkaeiioofknoaaDoor
open Go.RowKit

set_option maxRecDepth 100000 in
set_option maxHeartbeats 2000000 in
theorem adds_out (ao : Option Addr) (len cap : Nat) (cut p : Int) (E : Nat → Addr) (w : World) (hE : Errs E [2, 7, 8] w) (hm : len ≤ 9223372036854775807) (h : 60 < len ∨ cut < 0 ∨ cut > len) :
    Calls Tryd.prog 3 #[.slice ao len cap, .int .i64 cut, .int .i64 p] w fun e w' => e = .returned (.bool true) ∧ Ex w w' := by
  by_cases h1 : len > 60
  · go_enter Tryd.func3, Tryd.ntmps3
    go_wp2_with (go_at_call 13; refine (curved_any E _ (by exact Errs.sub (hE.ex (by repeat (first | exact Ex.refl _ | refine Ex.alloc ?_ _ | refine Ex.ext ?_ _ _ | refine Ex.drew ?_ | refine Ex.drewN ?_ _))) (by decide))).mono ?_; rintro e w1 ⟨rfl, l1, d1, rfl⟩)
    all_goals go_ret
    all_goals exact ⟨rfl, (by repeat (first | exact Ex.refl _ | refine Ex.alloc ?_ _ | refine Ex.ext ?_ _ _ | refine Ex.drew ?_ | refine Ex.drewN ?_ _))⟩
  by_cases h2 : cut < 0
  · go_enter Tryd.func3, Tryd.ntmps3
    go_wp2_with (go_at_call 13; refine (curved_any E _ (by exact Errs.sub (hE.ex (by repeat (first | exact Ex.refl _ | refine Ex.alloc ?_ _ | refine Ex.ext ?_ _ _ | refine Ex.drew ?_ | refine Ex.drewN ?_ _))) (by decide))).mono ?_; rintro e w1 ⟨rfl, l1, d1, rfl⟩)
    all_goals go_ret
    all_goals exact ⟨rfl, (by repeat (first | exact Ex.refl _ | refine Ex.alloc ?_ _ | refine Ex.ext ?_ _ _ | refine Ex.drew ?_ | refine Ex.drewN ?_ _))⟩
  · have h3 : cut > len := by omega
    go_enter Tryd.func3, Tryd.ntmps3
    go_wp2_with (go_at_call 13; refine (curved_any E _ (by exact Errs.sub (hE.ex (by repeat (first | exact Ex.refl _ | refine Ex.alloc ?_ _ | refine Ex.ext ?_ _ _ | refine Ex.drew ?_ | refine Ex.drewN ?_ _))) (by decide))).mono ?_; rintro e w1 ⟨rfl, l1, d1, rfl⟩)
    all_goals go_ret
    all_goals exact ⟨rfl, (by repeat (first | exact Ex.refl _ | refine Ex.alloc ?_ _ | refine Ex.ext ?_ _ _ | refine Ex.drew ?_ | refine Ex.drewN ?_ _))⟩

set_option maxRecDepth 100000 in
set_option maxHeartbeats 2000000 in
theorem adds_bad (ao : Option Addr) (len cap : Nat) (l : List Lot) (cut p : Int) (E : Nat → Addr) (w : World) (hcap : len ≤ cap ∧ cap ≤ 9223372036854775807 ∧ (ao = none → cap = 0)) (hE : Errs E [2, 7, 8] w) (hl : LotsAt w ao len l) (h1 : len ≤ 60) (h2 : 0 ≤ cut) (h3 : cut ≤ len) (hok : ¬ LotsOk l) :
    Calls Tryd.prog 3 #[.slice ao len cap, .int .i64 cut, .int .i64 p] w fun e w' => e = .returned (.bool true) ∧ Ex w w' := by
  have HL := Lib.hid hl
  have HOK := Lib.hid hok
  clear hl hok
  go_enter Tryd.func3, Tryd.ntmps3
  go_wp2_with (go_at_call 13; refine (curved_any E _ (by exact Errs.sub (hE.ex (by repeat (first | exact Ex.refl _ | refine Ex.alloc ?_ _ | refine Ex.ext ?_ _ _ | refine Ex.drew ?_ | refine Ex.drewN ?_ _))) (by decide))).mono ?_; rintro e w1 ⟨rfl, l1, d1, rfl⟩)
  refine (ownLots_any ao len cap l _ hcap (by omega) (HL.out.ex (by repeat (first | exact Ex.refl _ | refine Ex.alloc ?_ _ | refine Ex.ext ?_ _ _ | refine Ex.drew ?_ | refine Ex.drewN ?_ _)))).mono ?_
  rintro e w1 ⟨⟨ao', cap', rfl, hc', hl'⟩, l2, d2, rfl⟩
  rw [ext_ext] at hl'
  have HL' := Lib.hid hl'
  clear hl'
  go_wp2_with fail
  refine (check_any _ len _ l E _ hc'.1 (by exact Errs.sub (hE.ex (by repeat (first | exact Ex.refl _ | refine Ex.alloc ?_ _ | refine Ex.ext ?_ _ _ | refine Ex.drew ?_ | refine Ex.drewN ?_ _))) (by decide)) HL'.out).mono ?_
  rintro e w1 ⟨⟨v, rfl, hv⟩, l3, d3, rfl⟩
  obtain ⟨u, x, rfl⟩ := CheckV.bad HOK.out hv
  clear hv
  go_wp2
  all_goals go_ret
  all_goals exact ⟨rfl, (by repeat (first | exact Ex.refl _ | refine Ex.alloc ?_ _ | refine Ex.ext ?_ _ _ | refine Ex.drew ?_ | refine Ex.drewN ?_ _))⟩

theorem LotsAt.drop {w : World} {ad : Addr} {len : Nat} {l : List Lot} (h : LotsAt w (some ad) len l) (c : Nat) (hc : c ≤ len) : LotsAt w (some (ad.add (c * 5))) (len - c) (l.drop c) := by
  obtain ⟨h1, h2, h3, h4⟩ := h
  refine ⟨by rw [List.length_drop, h1], by omega, fun a ha => h3 a (List.mem_of_mem_drop ha), fun h0 => ?_⟩
  obtain ⟨b, off, e, hb, hz⟩ := h4 (by omega)
  obtain rfl := Option.some.inj e
  refine ⟨b, off + c * 5, ?_, hb, fun k hk j hj => ?_⟩
  · unfold Addr.add
    by_cases h0 : c * 5 = 0 <;> simp [h0]
  · rw [List.getElem_drop, ← hz (c + k) (by rw [List.length_drop] at hk; omega) j hj]
    congr 2
    omega
theorem LotsAt.empty (w : World) (ao : Option Addr) : LotsAt w ao 0 [] := ⟨rfl, by omega, fun _ h => (by cases h), fun h => by omega⟩
theorem Lots_drop {w : World} {ao : Option Addr} {len cap : Nat} {l : List Lot} (h : LotsAt w ao len l) (k1 : len ≤ cap) (k3 : ao = none → cap = 0) (c : Nat) (hc : c ≤ len) (hne : ¬ cap = c) :
    LotsAt w (Option.map (fun x => x.add (c * 5)) ao) (len - c) (l.drop c) := by
  cases ao with
  | none => have := k3 rfl; omega
  | some ad => exact h.drop c hc

set_option maxRecDepth 100000 in
set_option maxHeartbeats 4000000 in
theorem adds_ok (ao : Option Addr) (len cap : Nat) (l : List Lot) (c : Nat) (p : Int) (E : Nat → Addr) (w : World) (hcap : len ≤ cap ∧ cap ≤ 9223372036854775807 ∧ (ao = none → cap = 0)) (hE : Errs E [2, 7, 8] w) (hl : LotsAt w ao len l) (h1 : len ≤ 60) (h3 : c ≤ len) (hok : LotsOk l) :
    Calls Tryd.prog 3 #[.slice ao len cap, .int .i64 c, .int .i64 p] w fun e w' => e = .returned (.bool true) ∧ Ex w w' := by
  have HL := Lib.hid hl
  have HOK := Lib.hid hok
  have D0 := fun ao len cap => demand_any ao len cap l p E
  have D1 := fun ao len cap => demand_any ao len cap (l.take c) p E
  have D2 := fun ao len cap => demand_any ao len cap (l.drop c) p E
  have S0 := fun ao len cap => supply_any ao len cap l p E
  have S1 := fun ao len cap => supply_any ao len cap (l.take c) p E
  have S2 := fun ao len cap => supply_any ao len cap (l.drop c) p E
  have X0 := fun ao len cap => surplus_any ao len cap l p E
  have X1 := fun ao len cap => surplus_any ao len cap (l.take c) p E
  have X2 := fun ao len cap => surplus_any ao len cap (l.drop c) p E
  have V0 := fun ao len cap => volume_any ao len cap l p E
  have V1 := fun ao len cap => volume_any ao len cap (l.take c) p E
  have V2 := fun ao len cap => volume_any ao len cap (l.drop c) p E
  have hd := curveSum_parts (isDem p) hok c
  have hs := curveSum_parts (isSup p) hok c
  have b1 := curveSum_bounds (isDem p) (l.take c)
  have b2 := curveSum_bounds (isDem p) (l.drop c)
  have b3 := curveSum_bounds (isSup p) (l.take c)
  have b4 := curveSum_bounds (isSup p) (l.drop c)
  have b5 := curveSum_bounds (isDem p) l
  have b6 := curveSum_bounds (isSup p) l
  generalize curveSum (isDem p) l = d0 at *
  generalize curveSum (isDem p) (l.take c) = d1 at *
  generalize curveSum (isDem p) (l.drop c) = d2 at *
  generalize curveSum (isSup p) l = s0 at *
  generalize curveSum (isSup p) (l.take c) = s1 at *
  generalize curveSum (isSup p) (l.drop c) = s2 at *
  have t1 : (d0 != d1 + d2) = false := by simp; omega
  have t2 : (s0 != s1 + s2) = false := by simp; omega
  have t3 : (d0 - s0 == d1 - s1 + (d2 - s2)) = true := by simp; omega
  have t4 : min d1 s1 + min d2 s2 ≤ min d0 s0 := by omega
  have HD0 := Lib.hid D0; clear D0
  have HD1 := Lib.hid D1; clear D1
  have HD2 := Lib.hid D2; clear D2
  have HS0 := Lib.hid S0; clear S0
  have HS1 := Lib.hid S1; clear S1
  have HS2 := Lib.hid S2; clear S2
  have HX0 := Lib.hid X0; clear X0
  have HX1 := Lib.hid X1; clear X1
  have HX2 := Lib.hid X2; clear X2
  have HV0 := Lib.hid V0; clear V0
  have HV1 := Lib.hid V1; clear V1
  have HV2 := Lib.hid V2; clear V2
  clear hl hok hd hs
  go_enter Tryd.func3, Tryd.ntmps3
  go_wp2_with (go_at_call 13; refine (curved_any E _ (by exact Errs.sub (hE.ex (by repeat (first | exact Ex.refl _ | refine Ex.alloc ?_ _ | refine Ex.ext ?_ _ _ | refine Ex.drew ?_ | refine Ex.drewN ?_ _))) (by decide))).mono ?_; rintro e w1 ⟨rfl, l1, d1, rfl⟩)
  refine (ownLots_any ao len cap l _ hcap (by omega) (HL.out.ex (by repeat (first | exact Ex.refl _ | refine Ex.alloc ?_ _ | refine Ex.ext ?_ _ _ | refine Ex.drew ?_ | refine Ex.drewN ?_ _)))).mono ?_
  rintro e wo ⟨⟨ao', cap', rfl, hc', hl'⟩, hx1⟩
  have HX : Hid (Ex w wo) := Lib.hid (Ex.trans (by repeat (first | exact Ex.refl _ | refine Ex.alloc ?_ _ | refine Ex.ext ?_ _ _ | refine Ex.drew ?_ | refine Ex.drewN ?_ _)) hx1)
  have hE' := hE.ex HX.out
  clear hx1
  have HL' := Lib.hid hl'
  clear hl'
  go_wp2_with fail
  refine (check_any _ len _ l E _ hc'.1 hE' HL'.out).mono ?_
  rintro e w1 ⟨⟨v, rfl, hv⟩, l3, d3, rfl⟩
  obtain rfl := CheckV.ok HOK.out hv
  clear hv
  obtain ⟨k1, k2, k3⟩ := hc'
  have HK3 := Lib.hid k3
  clear k3
  have k4 : c ≤ cap' := by omega
  have HLA := Lib.hid (HL'.out.take c h3)
  by_cases hcc : cap' = c
  · subst hcc
    have HLB : Hid (LotsAt wo ao' 0 (l.drop cap')) := Lib.hid (by rw [List.drop_of_length_le (by have := HL'.out.1; omega)]; exact LotsAt.empty _ _)
    go_wp2_with (first
      | (go_at_call 16; ((with_reducible refine (HD0.out ao' len cap' _ ?_ ?_ ?_).mono ?_); (focus omega); (focus exact Errs.ex hE' (by repeat (first | exact Ex.refl _ | refine Ex.alloc ?_ _ | refine Ex.ext ?_ _ _ | refine Ex.drew ?_ | refine Ex.drewN ?_ _))); (focus exact LotsAt.ex HL'.out (by repeat (first | exact Ex.refl _ | refine Ex.alloc ?_ _ | refine Ex.ext ?_ _ _ | refine Ex.drew ?_ | refine Ex.drewN ?_ _)))); rintro e w1 ⟨rfl, l4, d4, rfl⟩)
      | (go_at_call 16; ((with_reducible refine (HD1.out ao' cap' cap' _ ?_ ?_ ?_).mono ?_); (focus omega); (focus exact Errs.ex hE' (by repeat (first | exact Ex.refl _ | refine Ex.alloc ?_ _ | refine Ex.ext ?_ _ _ | refine Ex.drew ?_ | refine Ex.drewN ?_ _))); (focus exact LotsAt.ex HLA.out (by repeat (first | exact Ex.refl _ | refine Ex.alloc ?_ _ | refine Ex.ext ?_ _ _ | refine Ex.drew ?_ | refine Ex.drewN ?_ _)))); rintro e w1 ⟨rfl, l4, d4, rfl⟩)
      | (go_at_call 16; ((with_reducible refine (HD2.out ao' 0 0 _ ?_ ?_ ?_).mono ?_); (focus omega); (focus exact Errs.ex hE' (by repeat (first | exact Ex.refl _ | refine Ex.alloc ?_ _ | refine Ex.ext ?_ _ _ | refine Ex.drew ?_ | refine Ex.drewN ?_ _))); (focus exact LotsAt.ex HLB.out (by repeat (first | exact Ex.refl _ | refine Ex.alloc ?_ _ | refine Ex.ext ?_ _ _ | refine Ex.drew ?_ | refine Ex.drewN ?_ _)))); rintro e w1 ⟨rfl, l4, d4, rfl⟩)
      | (go_at_call 17; ((with_reducible refine (HS0.out ao' len cap' _ ?_ ?_ ?_).mono ?_); (focus omega); (focus exact Errs.ex hE' (by repeat (first | exact Ex.refl _ | refine Ex.alloc ?_ _ | refine Ex.ext ?_ _ _ | refine Ex.drew ?_ | refine Ex.drewN ?_ _))); (focus exact LotsAt.ex HL'.out (by repeat (first | exact Ex.refl _ | refine Ex.alloc ?_ _ | refine Ex.ext ?_ _ _ | refine Ex.drew ?_ | refine Ex.drewN ?_ _)))); rintro e w1 ⟨rfl, l4, d4, rfl⟩)
      | (go_at_call 17; ((with_reducible refine (HS1.out ao' cap' cap' _ ?_ ?_ ?_).mono ?_); (focus omega); (focus exact Errs.ex hE' (by repeat (first | exact Ex.refl _ | refine Ex.alloc ?_ _ | refine Ex.ext ?_ _ _ | refine Ex.drew ?_ | refine Ex.drewN ?_ _))); (focus exact LotsAt.ex HLA.out (by repeat (first | exact Ex.refl _ | refine Ex.alloc ?_ _ | refine Ex.ext ?_ _ _ | refine Ex.drew ?_ | refine Ex.drewN ?_ _)))); rintro e w1 ⟨rfl, l4, d4, rfl⟩)
      | (go_at_call 17; ((with_reducible refine (HS2.out ao' 0 0 _ ?_ ?_ ?_).mono ?_); (focus omega); (focus exact Errs.ex hE' (by repeat (first | exact Ex.refl _ | refine Ex.alloc ?_ _ | refine Ex.ext ?_ _ _ | refine Ex.drew ?_ | refine Ex.drewN ?_ _))); (focus exact LotsAt.ex HLB.out (by repeat (first | exact Ex.refl _ | refine Ex.alloc ?_ _ | refine Ex.ext ?_ _ _ | refine Ex.drew ?_ | refine Ex.drewN ?_ _)))); rintro e w1 ⟨rfl, l4, d4, rfl⟩)
      | (go_at_call 18; ((with_reducible refine (HX0.out ao' len cap' _ ?_ ?_ ?_).mono ?_); (focus omega); (focus exact Errs.ex hE' (by repeat (first | exact Ex.refl _ | refine Ex.alloc ?_ _ | refine Ex.ext ?_ _ _ | refine Ex.drew ?_ | refine Ex.drewN ?_ _))); (focus exact LotsAt.ex HL'.out (by repeat (first | exact Ex.refl _ | refine Ex.alloc ?_ _ | refine Ex.ext ?_ _ _ | refine Ex.drew ?_ | refine Ex.drewN ?_ _)))); rintro e w1 ⟨rfl, l4, d4, rfl⟩)
      | (go_at_call 18; ((with_reducible refine (HX1.out ao' cap' cap' _ ?_ ?_ ?_).mono ?_); (focus omega); (focus exact Errs.ex hE' (by repeat (first | exact Ex.refl _ | refine Ex.alloc ?_ _ | refine Ex.ext ?_ _ _ | refine Ex.drew ?_ | refine Ex.drewN ?_ _))); (focus exact LotsAt.ex HLA.out (by repeat (first | exact Ex.refl _ | refine Ex.alloc ?_ _ | refine Ex.ext ?_ _ _ | refine Ex.drew ?_ | refine Ex.drewN ?_ _)))); rintro e w1 ⟨rfl, l4, d4, rfl⟩)
      | (go_at_call 18; ((with_reducible refine (HX2.out ao' 0 0 _ ?_ ?_ ?_).mono ?_); (focus omega); (focus exact Errs.ex hE' (by repeat (first | exact Ex.refl _ | refine Ex.alloc ?_ _ | refine Ex.ext ?_ _ _ | refine Ex.drew ?_ | refine Ex.drewN ?_ _))); (focus exact LotsAt.ex HLB.out (by repeat (first | exact Ex.refl _ | refine Ex.alloc ?_ _ | refine Ex.ext ?_ _ _ | refine Ex.drew ?_ | refine Ex.drewN ?_ _)))); rintro e w1 ⟨rfl, l4, d4, rfl⟩)
      | (go_at_call 19; ((with_reducible refine (HV0.out ao' len cap' _ ?_ ?_ ?_).mono ?_); (focus omega); (focus exact Errs.ex hE' (by repeat (first | exact Ex.refl _ | refine Ex.alloc ?_ _ | refine Ex.ext ?_ _ _ | refine Ex.drew ?_ | refine Ex.drewN ?_ _))); (focus exact LotsAt.ex HL'.out (by repeat (first | exact Ex.refl _ | refine Ex.alloc ?_ _ | refine Ex.ext ?_ _ _ | refine Ex.drew ?_ | refine Ex.drewN ?_ _)))); rintro e w1 ⟨rfl, l4, d4, rfl⟩)
      | (go_at_call 19; ((with_reducible refine (HV1.out ao' cap' cap' _ ?_ ?_ ?_).mono ?_); (focus omega); (focus exact Errs.ex hE' (by repeat (first | exact Ex.refl _ | refine Ex.alloc ?_ _ | refine Ex.ext ?_ _ _ | refine Ex.drew ?_ | refine Ex.drewN ?_ _))); (focus exact LotsAt.ex HLA.out (by repeat (first | exact Ex.refl _ | refine Ex.alloc ?_ _ | refine Ex.ext ?_ _ _ | refine Ex.drew ?_ | refine Ex.drewN ?_ _)))); rintro e w1 ⟨rfl, l4, d4, rfl⟩)
      | (go_at_call 19; ((with_reducible refine (HV2.out ao' 0 0 _ ?_ ?_ ?_).mono ?_); (focus omega); (focus exact Errs.ex hE' (by repeat (first | exact Ex.refl _ | refine Ex.alloc ?_ _ | refine Ex.ext ?_ _ _ | refine Ex.drew ?_ | refine Ex.drewN ?_ _))); (focus exact LotsAt.ex HLB.out (by repeat (first | exact Ex.refl _ | refine Ex.alloc ?_ _ | refine Ex.ext ?_ _ _ | refine Ex.drew ?_ | refine Ex.drewN ?_ _)))); rintro e w1 ⟨rfl, l4, d4, rfl⟩))
    all_goals go_ret
    all_goals exact ⟨rfl, HX.out.trans (by repeat (first | exact Ex.refl _ | refine Ex.alloc ?_ _ | refine Ex.ext ?_ _ _ | refine Ex.drew ?_ | refine Ex.drewN ?_ _))⟩
  · have HLB := Lib.hid (Lots_drop HL'.out k1 HK3.out c h3 hcc)
    go_wp2_with (first
      | (go_at_call 16; ((with_reducible refine (HD0.out ao' len cap' _ ?_ ?_ ?_).mono ?_); (focus omega); (focus exact Errs.ex hE' (by repeat (first | exact Ex.refl _ | refine Ex.alloc ?_ _ | refine Ex.ext ?_ _ _ | refine Ex.drew ?_ | refine Ex.drewN ?_ _))); (focus exact LotsAt.ex HL'.out (by repeat (first | exact Ex.refl _ | refine Ex.alloc ?_ _ | refine Ex.ext ?_ _ _ | refine Ex.drew ?_ | refine Ex.drewN ?_ _)))); rintro e w1 ⟨rfl, l4, d4, rfl⟩)
      | (go_at_call 16; ((with_reducible refine (HD1.out ao' c cap' _ ?_ ?_ ?_).mono ?_); (focus omega); (focus exact Errs.ex hE' (by repeat (first | exact Ex.refl _ | refine Ex.alloc ?_ _ | refine Ex.ext ?_ _ _ | refine Ex.drew ?_ | refine Ex.drewN ?_ _))); (focus exact LotsAt.ex HLA.out (by repeat (first | exact Ex.refl _ | refine Ex.alloc ?_ _ | refine Ex.ext ?_ _ _ | refine Ex.drew ?_ | refine Ex.drewN ?_ _)))); rintro e w1 ⟨rfl, l4, d4, rfl⟩)
      | (go_at_call 16; ((with_reducible refine (HD2.out (Option.map (fun x => x.add (c * 5)) ao') (len - c) (cap' - c) _ ?_ ?_ ?_).mono ?_); (focus omega); (focus exact Errs.ex hE' (by repeat (first | exact Ex.refl _ | refine Ex.alloc ?_ _ | refine Ex.ext ?_ _ _ | refine Ex.drew ?_ | refine Ex.drewN ?_ _))); (focus exact LotsAt.ex HLB.out (by repeat (first | exact Ex.refl _ | refine Ex.alloc ?_ _ | refine Ex.ext ?_ _ _ | refine Ex.drew ?_ | refine Ex.drewN ?_ _)))); rintro e w1 ⟨rfl, l4, d4, rfl⟩)
      | (go_at_call 17; ((with_reducible refine (HS0.out ao' len cap' _ ?_ ?_ ?_).mono ?_); (focus omega); (focus exact Errs.ex hE' (by repeat (first | exact Ex.refl _ | refine Ex.alloc ?_ _ | refine Ex.ext ?_ _ _ | refine Ex.drew ?_ | refine Ex.drewN ?_ _))); (focus exact LotsAt.ex HL'.out (by repeat (first | exact Ex.refl _ | refine Ex.alloc ?_ _ | refine Ex.ext ?_ _ _ | refine Ex.drew ?_ | refine Ex.drewN ?_ _)))); rintro e w1 ⟨rfl, l4, d4, rfl⟩)
      | (go_at_call 17; ((with_reducible refine (HS1.out ao' c cap' _ ?_ ?_ ?_).mono ?_); (focus omega); (focus exact Errs.ex hE' (by repeat (first | exact Ex.refl _ | refine Ex.alloc ?_ _ | refine Ex.ext ?_ _ _ | refine Ex.drew ?_ | refine Ex.drewN ?_ _))); (focus exact LotsAt.ex HLA.out (by repeat (first | exact Ex.refl _ | refine Ex.alloc ?_ _ | refine Ex.ext ?_ _ _ | refine Ex.drew ?_ | refine Ex.drewN ?_ _)))); rintro e w1 ⟨rfl, l4, d4, rfl⟩)
      | (go_at_call 17; ((with_reducible refine (HS2.out (Option.map (fun x => x.add (c * 5)) ao') (len - c) (cap' - c) _ ?_ ?_ ?_).mono ?_); (focus omega); (focus exact Errs.ex hE' (by repeat (first | exact Ex.refl _ | refine Ex.alloc ?_ _ | refine Ex.ext ?_ _ _ | refine Ex.drew ?_ | refine Ex.drewN ?_ _))); (focus exact LotsAt.ex HLB.out (by repeat (first | exact Ex.refl _ | refine Ex.alloc ?_ _ | refine Ex.ext ?_ _ _ | refine Ex.drew ?_ | refine Ex.drewN ?_ _)))); rintro e w1 ⟨rfl, l4, d4, rfl⟩)
      | (go_at_call 18; ((with_reducible refine (HX0.out ao' len cap' _ ?_ ?_ ?_).mono ?_); (focus omega); (focus exact Errs.ex hE' (by repeat (first | exact Ex.refl _ | refine Ex.alloc ?_ _ | refine Ex.ext ?_ _ _ | refine Ex.drew ?_ | refine Ex.drewN ?_ _))); (focus exact LotsAt.ex HL'.out (by repeat (first | exact Ex.refl _ | refine Ex.alloc ?_ _ | refine Ex.ext ?_ _ _ | refine Ex.drew ?_ | refine Ex.drewN ?_ _)))); rintro e w1 ⟨rfl, l4, d4, rfl⟩)
      | (go_at_call 18; ((with_reducible refine (HX1.out ao' c cap' _ ?_ ?_ ?_).mono ?_); (focus omega); (focus exact Errs.ex hE' (by repeat (first | exact Ex.refl _ | refine Ex.alloc ?_ _ | refine Ex.ext ?_ _ _ | refine Ex.drew ?_ | refine Ex.drewN ?_ _))); (focus exact LotsAt.ex HLA.out (by repeat (first | exact Ex.refl _ | refine Ex.alloc ?_ _ | refine Ex.ext ?_ _ _ | refine Ex.drew ?_ | refine Ex.drewN ?_ _)))); rintro e w1 ⟨rfl, l4, d4, rfl⟩)
      | (go_at_call 18; ((with_reducible refine (HX2.out (Option.map (fun x => x.add (c * 5)) ao') (len - c) (cap' - c) _ ?_ ?_ ?_).mono ?_); (focus omega); (focus exact Errs.ex hE' (by repeat (first | exact Ex.refl _ | refine Ex.alloc ?_ _ | refine Ex.ext ?_ _ _ | refine Ex.drew ?_ | refine Ex.drewN ?_ _))); (focus exact LotsAt.ex HLB.out (by repeat (first | exact Ex.refl _ | refine Ex.alloc ?_ _ | refine Ex.ext ?_ _ _ | refine Ex.drew ?_ | refine Ex.drewN ?_ _)))); rintro e w1 ⟨rfl, l4, d4, rfl⟩)
      | (go_at_call 19; ((with_reducible refine (HV0.out ao' len cap' _ ?_ ?_ ?_).mono ?_); (focus omega); (focus exact Errs.ex hE' (by repeat (first | exact Ex.refl _ | refine Ex.alloc ?_ _ | refine Ex.ext ?_ _ _ | refine Ex.drew ?_ | refine Ex.drewN ?_ _))); (focus exact LotsAt.ex HL'.out (by repeat (first | exact Ex.refl _ | refine Ex.alloc ?_ _ | refine Ex.ext ?_ _ _ | refine Ex.drew ?_ | refine Ex.drewN ?_ _)))); rintro e w1 ⟨rfl, l4, d4, rfl⟩)
      | (go_at_call 19; ((with_reducible refine (HV1.out ao' c cap' _ ?_ ?_ ?_).mono ?_); (focus omega); (focus exact Errs.ex hE' (by repeat (first | exact Ex.refl _ | refine Ex.alloc ?_ _ | refine Ex.ext ?_ _ _ | refine Ex.drew ?_ | refine Ex.drewN ?_ _))); (focus exact LotsAt.ex HLA.out (by repeat (first | exact Ex.refl _ | refine Ex.alloc ?_ _ | refine Ex.ext ?_ _ _ | refine Ex.drew ?_ | refine Ex.drewN ?_ _)))); rintro e w1 ⟨rfl, l4, d4, rfl⟩)
      | (go_at_call 19; ((with_reducible refine (HV2.out (Option.map (fun x => x.add (c * 5)) ao') (len - c) (cap' - c) _ ?_ ?_ ?_).mono ?_); (focus omega); (focus exact Errs.ex hE' (by repeat (first | exact Ex.refl _ | refine Ex.alloc ?_ _ | refine Ex.ext ?_ _ _ | refine Ex.drew ?_ | refine Ex.drewN ?_ _))); (focus exact LotsAt.ex HLB.out (by repeat (first | exact Ex.refl _ | refine Ex.alloc ?_ _ | refine Ex.ext ?_ _ _ | refine Ex.drew ?_ | refine Ex.drewN ?_ _)))); rintro e w1 ⟨rfl, l4, d4, rfl⟩))
    all_goals go_ret
    all_goals exact ⟨rfl, HX.out.trans (by repeat (first | exact Ex.refl _ | refine Ex.alloc ?_ _ | refine Ex.ext ?_ _ _ | refine Ex.drew ?_ | refine Ex.drewN ?_ _))⟩
end Go.Proofs.YtjkaeiioofknoaaDoor
