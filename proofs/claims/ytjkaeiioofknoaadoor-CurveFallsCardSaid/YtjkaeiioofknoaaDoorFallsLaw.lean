/- The walk of CurveFalls. -/
import Derived.Test.YtjkaeiioofknoaaDoorClearP
import Derived.Test.YtjkaeiioofknoaaDoorCurved
import Derived.Test.YtjkaeiioofknoaaDoorPrices
set_option linter.unusedSimpArgs false
set_option linter.unusedVariables false
namespace Go.Proofs.YtjkaeiioofknoaaDoor
open Go.RowKit

def inPQ (p q : Int) (z : Int) : Bool := decide (z ≥ p) && decide (z ≤ q)
theorem falls_facts {l : List Lot} (h : LotsOk l) (p q : Int) (hpq : p ≤ q) : curveSum (isDem q) l ≤ curveSum (isDem p) l ∧ curveSum (isSup p) l ≤ curveSum (isSup q) l ∧
    ((pricesL l).any (inPQ p q) = false → curveSum (isDem p) l = curveSum (isDem q) l ∧ curveSum (isSup p) l = curveSum (isSup q) l) ∧
    (curveCross l = decide (0 < min (curveSum (isDem (curveBest 0 l)) l) (curveSum (isSup (curveBest 0 l)) l))) := by
  have hm := h.mem
  have sc : ∀ is, curveSum is l = sumOf is l := fun is => curveSum_ok h
  simp only [sc]
  refine ⟨sumOf_mono l hm fun x _ hx => by simp [isDem] at hx ⊢; omega, sumOf_mono l hm fun x _ hx => by simp [isSup] at hx ⊢; omega, fun hn => ?_, ?_⟩
  · have hz : ∀ x ∈ l, ¬ (p ≤ x.price ∧ x.price ≤ q) := fun x hx hc => by
      rw [List.any_eq_false] at hn
      have := hn x.price (((pricesL_spec l).1 x.price).2 ⟨x, hx, rfl⟩)
      simp [inPQ] at this
      omega
    have cg : ∀ {is js : Lot → Bool}, (∀ x ∈ l, is x = js x) → sumOf is l = sumOf js l := by
      intro is js hc
      have a := sumOf_mono (is := is) (js := js) l hm fun x hx k => by rw [← hc x hx]; exact k
      have b := sumOf_mono (is := js) (js := is) l hm fun x hx k => by rw [hc x hx]; exact k
      omega
    refine ⟨cg fun x hx => ?_, cg fun x hx => ?_⟩
    · have := hz x hx
      simp only [isDem]
      congr 1
      exact decide_eq_decide.2 (by omega)
    · have := hz x hx
      simp only [isSup]
      congr 1
      exact decide_eq_decide.2 (by omega)
  · have e0 : curveBest 0 l = bestOf 0 l := by simp [curveBest, h]
    have e1 : curveBest 1 l = bestOf 1 l := by simp [curveBest, h]
    have hb1 := sumOf_pos (is := isDem (bestOf 0 l)) l hm
    have hb2 := sumOf_pos (is := isSup (bestOf 0 l)) l hm
    rw [curveCross, e0, e1, Bool.eq_iff_iff]
    simp only [Bool.and_eq_true, decide_eq_true_eq]
    constructor
    · rintro ⟨⟨h1, h2⟩, h3⟩
      rcases bestOf_spec 0 (.inl rfl) l hm with ⟨h, _⟩ | ⟨_, ⟨x, hx, hx1, hx2⟩, _⟩
      · omega
      rcases bestOf_spec 1 (.inr rfl) l hm with ⟨h, _⟩ | ⟨_, ⟨y, hy, hy1, hy2⟩, _⟩
      · omega
      have h4 := hb1.2 ⟨x, hx, by simp [isDem, hx1, hx2]⟩
      have h5 := hb2.2 ⟨y, hy, by simp [isSup, hy1, hy2]; omega⟩
      omega
    · intro hv
      obtain ⟨x, hx, hx'⟩ := hb1.1 (by omega)
      obtain ⟨y, hy, hy'⟩ := hb2.1 (by omega)
      simp only [isDem, isSup, Bool.and_eq_true, beq_iff_eq, decide_eq_true_eq] at hx' hy'
      rcases bestOf_spec 0 (.inl rfl) l hm with ⟨_, h⟩ | ⟨h1, _, h2⟩
      · exact absurd hx'.1 (h x hx)
      rcases bestOf_spec 1 (.inr rfl) l hm with ⟨_, h⟩ | ⟨h3, _, h4⟩
      · exact absurd hy'.1 (h y hy)
      have b := h4 y hy hy'.1
      simp at b
      omega

set_option maxRecDepth 100000 in
set_option maxHeartbeats 2000000 in
theorem falls_out (ao : Option Addr) (len cap : Nat) (p q : Int) (E : Nat → Addr) (w : World) (hE : Errs E [2, 7, 8] w) (hm : len ≤ 9223372036854775807) (h : 60 < len ∨ q < p ∨ p < 1 ∨ 1000 < q) :
    Calls Tryd.prog 7 #[.slice ao len cap, .int .i64 p, .int .i64 q] w fun e w' => e = .returned (.bool true) ∧ Ex w w' := by
  by_cases h1 : len > 60
  · go_enter Tryd.func7, Tryd.ntmps7
    go_wp2_with (go_at_call 13; refine (curved_any E _ (by exact Errs.sub (hE.ex (by repeat (first | exact Ex.refl _ | refine Ex.alloc ?_ _ | refine Ex.ext ?_ _ _ | refine Ex.drew ?_ | refine Ex.drewN ?_ _))) (by decide))).mono ?_; rintro e w1 ⟨rfl, l1, d1, rfl⟩)
    all_goals go_ret
    all_goals exact ⟨rfl, (by repeat (first | exact Ex.refl _ | refine Ex.alloc ?_ _ | refine Ex.ext ?_ _ _ | refine Ex.drew ?_ | refine Ex.drewN ?_ _))⟩
  by_cases h2 : p > q
  · go_enter Tryd.func7, Tryd.ntmps7
    go_wp2_with (go_at_call 13; refine (curved_any E _ (by exact Errs.sub (hE.ex (by repeat (first | exact Ex.refl _ | refine Ex.alloc ?_ _ | refine Ex.ext ?_ _ _ | refine Ex.drew ?_ | refine Ex.drewN ?_ _))) (by decide))).mono ?_; rintro e w1 ⟨rfl, l1, d1, rfl⟩)
    all_goals go_ret
    all_goals exact ⟨rfl, (by repeat (first | exact Ex.refl _ | refine Ex.alloc ?_ _ | refine Ex.ext ?_ _ _ | refine Ex.drew ?_ | refine Ex.drewN ?_ _))⟩
  by_cases h3 : p < 1
  · go_enter Tryd.func7, Tryd.ntmps7
    go_wp2_with (go_at_call 13; refine (curved_any E _ (by exact Errs.sub (hE.ex (by repeat (first | exact Ex.refl _ | refine Ex.alloc ?_ _ | refine Ex.ext ?_ _ _ | refine Ex.drew ?_ | refine Ex.drewN ?_ _))) (by decide))).mono ?_; rintro e w1 ⟨rfl, l1, d1, rfl⟩)
    all_goals go_ret
    all_goals exact ⟨rfl, (by repeat (first | exact Ex.refl _ | refine Ex.alloc ?_ _ | refine Ex.ext ?_ _ _ | refine Ex.drew ?_ | refine Ex.drewN ?_ _))⟩
  · have h4 : q > 1000 := by omega
    go_enter Tryd.func7, Tryd.ntmps7
    go_wp2_with (go_at_call 13; refine (curved_any E _ (by exact Errs.sub (hE.ex (by repeat (first | exact Ex.refl _ | refine Ex.alloc ?_ _ | refine Ex.ext ?_ _ _ | refine Ex.drew ?_ | refine Ex.drewN ?_ _))) (by decide))).mono ?_; rintro e w1 ⟨rfl, l1, d1, rfl⟩)
    all_goals go_ret
    all_goals exact ⟨rfl, (by repeat (first | exact Ex.refl _ | refine Ex.alloc ?_ _ | refine Ex.ext ?_ _ _ | refine Ex.drew ?_ | refine Ex.drewN ?_ _))⟩

set_option maxRecDepth 100000 in
set_option maxHeartbeats 4000000 in
theorem falls_in (ao : Option Addr) (len cap : Nat) (l : List Lot) (p q : Int) (E : Nat → Addr) (w : World) (hcap : len ≤ cap ∧ cap ≤ 9223372036854775807 ∧ (ao = none → cap = 0)) (hE : Errs E [2, 7, 8] w) (hl : LotsAt w ao len l) (h1 : len ≤ 60) (h2 : p ≤ q) (h3 : 1 ≤ p) (h4 : q ≤ 1000) :
    Calls Tryd.prog 7 #[.slice ao len cap, .int .i64 p, .int .i64 q] w fun e w' => e = .returned (.bool true) ∧ Ex w w' := by
  have HL := Lib.hid hl
  by_cases hok : LotsOk l
  · have HOK := Lib.hid hok
    have D0 := fun ao cap => demand_any ao len cap l p E
    have D1 := fun ao cap => demand_any ao len cap l q E
    have S0 := fun ao cap => supply_any ao len cap l p E
    have S1 := fun ao cap => supply_any ao len cap l q E
    have C0 := fun ao cap => cross_any ao len cap l E
    have B0 := fun ao cap => best_any ao len cap l 0 E
    have V0 := fun ao cap => volume_any ao len cap l (curveBest 0 l) E
    obtain ⟨f1, f2, f3, f4⟩ := falls_facts hok p q h2
    rw [f4] at C0
    have P0 := fun ao cap w hc hE hl => prices_ok ao len cap l E w hc hE hl hok
    have b1 := curveSum_bounds (isDem p) l
    have b2 := curveSum_bounds (isSup q) l
    generalize curveSum (isDem p) l = dp at *
    generalize curveSum (isDem q) l = dq at *
    generalize curveSum (isSup p) l = sp at *
    generalize curveSum (isSup q) l = sq at *
    generalize min (curveSum (isDem (curveBest 0 l)) l) (curveSum (isSup (curveBest 0 l)) l) = v at *
    generalize curveBest 0 l = bst at *
    have hplen : (pricesL l).length ≤ 60 := by have := pricesL_len l; have := hl.1; omega
    generalize pricesL l = zs at *
    have HD0 := Lib.hid D0; have HD1 := Lib.hid D1; have HS0 := Lib.hid S0; have HS1 := Lib.hid S1; have HC0 := Lib.hid C0; have HB0 := Lib.hid B0; have HV0 := Lib.hid V0; have HP0 := Lib.hid P0
    have F3 := Lib.hid f3
    clear hl hok D0 D1 S0 S1 C0 B0 V0 P0 f3 f4
    go_enter Tryd.func7, Tryd.ntmps7
    go_wp2_with (go_at_call 13; refine (curved_any E _ (by exact Errs.sub (hE.ex (by repeat (first | exact Ex.refl _ | refine Ex.alloc ?_ _ | refine Ex.ext ?_ _ _ | refine Ex.drew ?_ | refine Ex.drewN ?_ _))) (by decide))).mono ?_; rintro e w1 ⟨rfl, l1, d1, rfl⟩)
    refine (ownLots_any ao len cap l _ hcap (by omega) (HL.out.ex (by repeat (first | exact Ex.refl _ | refine Ex.alloc ?_ _ | refine Ex.ext ?_ _ _ | refine Ex.drew ?_ | refine Ex.drewN ?_ _)))).mono ?_
    rintro e wo ⟨⟨ao', cap', rfl, hc', hl'⟩, hx1'⟩
    have HX : Hid (Ex w wo) := Lib.hid (Ex.trans (by repeat (first | exact Ex.refl _ | refine Ex.alloc ?_ _ | refine Ex.ext ?_ _ _ | refine Ex.drew ?_ | refine Ex.drewN ?_ _)) hx1')
    have hE' := hE.ex HX.out
    clear hx1'
    have HL' := Lib.hid hl'
    clear hl'
    have hcl := hc'.1
    go_wp2_with fail
    refine (check_any _ len _ l E _ hc'.1 hE' HL'.out).mono ?_
    rintro e wx ⟨⟨u, rfl, hv⟩, hx2⟩
    obtain rfl := CheckV.ok HOK.out hv
    have HX2 : Hid (Ex w wx) := Lib.hid (HX.out.trans hx2)
    have HL2 := Lib.hid (HL'.out.ex hx2)
    have HE2 := hE'.ex hx2
    clear hv hx2 HX HL' hE' hE HL
    have hE' := HE2
    have HL' := HL2
    go_wp2_with (first
      | (go_at_call 16; ((with_reducible refine (HD0.out ao' cap' _ ?_ ?_ ?_).mono ?_); (focus exact hcl); (focus exact Errs.ex hE' (by repeat (first | exact Ex.refl _ | refine Ex.alloc ?_ _ | refine Ex.ext ?_ _ _ | refine Ex.drew ?_ | refine Ex.drewN ?_ _))); (focus exact LotsAt.ex HL'.out (by repeat (first | exact Ex.refl _ | refine Ex.alloc ?_ _ | refine Ex.ext ?_ _ _ | refine Ex.drew ?_ | refine Ex.drewN ?_ _)))); rintro e w1 ⟨rfl, l4, d4, rfl⟩)
      | (go_at_call 16; ((with_reducible refine (HD1.out ao' cap' _ ?_ ?_ ?_).mono ?_); (focus exact hcl); (focus exact Errs.ex hE' (by repeat (first | exact Ex.refl _ | refine Ex.alloc ?_ _ | refine Ex.ext ?_ _ _ | refine Ex.drew ?_ | refine Ex.drewN ?_ _))); (focus exact LotsAt.ex HL'.out (by repeat (first | exact Ex.refl _ | refine Ex.alloc ?_ _ | refine Ex.ext ?_ _ _ | refine Ex.drew ?_ | refine Ex.drewN ?_ _)))); rintro e w1 ⟨rfl, l4, d4, rfl⟩)
      | (go_at_call 17; ((with_reducible refine (HS0.out ao' cap' _ ?_ ?_ ?_).mono ?_); (focus exact hcl); (focus exact Errs.ex hE' (by repeat (first | exact Ex.refl _ | refine Ex.alloc ?_ _ | refine Ex.ext ?_ _ _ | refine Ex.drew ?_ | refine Ex.drewN ?_ _))); (focus exact LotsAt.ex HL'.out (by repeat (first | exact Ex.refl _ | refine Ex.alloc ?_ _ | refine Ex.ext ?_ _ _ | refine Ex.drew ?_ | refine Ex.drewN ?_ _)))); rintro e w1 ⟨rfl, l4, d4, rfl⟩)
      | (go_at_call 17; ((with_reducible refine (HS1.out ao' cap' _ ?_ ?_ ?_).mono ?_); (focus exact hcl); (focus exact Errs.ex hE' (by repeat (first | exact Ex.refl _ | refine Ex.alloc ?_ _ | refine Ex.ext ?_ _ _ | refine Ex.drew ?_ | refine Ex.drewN ?_ _))); (focus exact LotsAt.ex HL'.out (by repeat (first | exact Ex.refl _ | refine Ex.alloc ?_ _ | refine Ex.ext ?_ _ _ | refine Ex.drew ?_ | refine Ex.drewN ?_ _)))); rintro e w1 ⟨rfl, l4, d4, rfl⟩))
    all_goals
      refine (HP0.out ao' cap' _ hcl (Errs.ex hE' (by repeat (first | exact Ex.refl _ | refine Ex.alloc ?_ _ | refine Ex.ext ?_ _ _ | refine Ex.drew ?_ | refine Ex.drewN ?_ _))) (LotsAt.ex HL'.out (by repeat (first | exact Ex.refl _ | refine Ex.alloc ?_ _ | refine Ex.ext ?_ _ _ | refine Ex.drew ?_ | refine Ex.drewN ?_ _)))).mono ?_
      rintro e w3 ⟨⟨ao3, cap3, rfl, hc3, hz3⟩, hx3⟩
      have HX3 : Hid (Ex w w3) := Lib.hid ((HX2.out.trans (by repeat (first | exact Ex.refl _ | refine Ex.alloc ?_ _ | refine Ex.ext ?_ _ _ | refine Ex.drew ?_ | refine Ex.drewN ?_ _))).trans hx3)
      have HX23 : Hid (Ex wx w3) := Lib.hid (Ex.trans (by repeat (first | exact Ex.refl _ | refine Ex.alloc ?_ _ | refine Ex.ext ?_ _ _ | refine Ex.drew ?_ | refine Ex.drewN ?_ _)) hx3)
      have HZ3 := Lib.hid hz3
      clear hx3 hz3
      go_wp2_with fail
      go_loopw [10, 11] (fun b i wr => ∃ (k : Nat) (B : Bool), .bool B = b ∧ k ≤ zs.length ∧ i = .int .i64 k ∧ B = (zs.take k).any (inPQ p q) ∧ Ex w3 wr) (fun _ i _ => zs.length - (intOf i).toNat)
      case atStart => exact ⟨0, false, rfl, Nat.zero_le _, rfl, rfl, Ex.refl _⟩
      case round =>
        obtain ⟨k, B, rfl, hk, rfl, hB, hx4⟩ := hrel
        have HB := Lib.hid hB
        have HX4 := Lib.hid hx4
        clear hB
        by_cases hlt : k < zs.length
        · obtain ⟨b, off, rfl, hbs, hc⟩ := HZ3.out (by omega)
          have hck := (hx4.below.cell (p := ⟨b, off + k, none⟩) hbs).trans (hc k hlt)
          have htk : (zs.take (k + 1)).any (inPQ p q) = ((zs.take k).any (inPQ p q) || inPQ p q zs[k]) := by rw [List.take_add_one, List.getElem?_eq_getElem hlt, List.any_append]; simp
          clear hc hx4
          generalize zs[k] = z at hck htk
          have HTK := Lib.hid htk
          clear htk
          by_cases c1 : z ≥ p
          · by_cases c2 : z ≤ q
            · have HI : Hid (inPQ p q z = true) := Lib.hid (by simp [inPQ, c1, c2])
              go_wp2_with fail
              all_goals
                go_roundw
                case measure => simp [intOf]; omega
                case rel => exact ⟨k + 1, true, rfl, by omega, by go_num, by rw [HTK.out, HI.out, Bool.or_true], HX4.out.trans (by repeat (first | exact Ex.refl _ | refine Ex.alloc ?_ _ | refine Ex.ext ?_ _ _ | refine Ex.drew ?_ | refine Ex.drewN ?_ _))⟩
            · have HI : Hid (inPQ p q z = false) := Lib.hid (by simp [inPQ]; omega)
              go_wp2_with fail
              all_goals
                go_roundw
                case measure => simp [intOf]; omega
                case rel => exact ⟨k + 1, B, rfl, by omega, by go_num, by rw [HTK.out, HI.out, Bool.or_false]; exact HB.out, HX4.out.trans (by repeat (first | exact Ex.refl _ | refine Ex.alloc ?_ _ | refine Ex.ext ?_ _ _ | refine Ex.drew ?_ | refine Ex.drewN ?_ _))⟩
          · have HI : Hid (inPQ p q z = false) := Lib.hid (by simp [inPQ]; omega)
            go_wp2_with fail
            all_goals
              go_roundw
              case measure => simp [intOf]; omega
              case rel => exact ⟨k + 1, B, rfl, by omega, by go_num, by rw [HTK.out, HI.out, Bool.or_false]; exact HB.out, HX4.out.trans (by repeat (first | exact Ex.refl _ | refine Ex.alloc ?_ _ | refine Ex.ext ?_ _ _ | refine Ex.drew ?_ | refine Ex.drewN ?_ _))⟩
        · have hkz : k = zs.length := by omega
          have hB := HB.out
          rw [hkz, List.take_length] at hB
          have HX5 : Hid (Ex wx wr) := Lib.hid (HX23.out.trans hx4)
          have hE3 := hE'.ex HX5.out
          have HL3 := Lib.hid (HL'.out.ex HX5.out)
          clear hE' HL' hx4
          have hE' := hE3
          have HL' := HL3
          have hv : decide (0 < v) = true ∨ decide (0 < v) = false := by cases decide (0 < v) <;> simp
          rcases hv with hv | hv
          all_goals
            have HC1 := HC0.out
            rw [hv] at HC1
            have HC2 := Lib.hid HC1
            simp only [decide_eq_true_eq, decide_eq_false_iff_not] at hv
            clear HC1
            cases B
            · have e1 := F3.out hB.symm
              have t1 : (dp != dq) = false := by simp [e1.1]
              have t2 : (sp != sq) = false := by simp [e1.2]
              clear e1 hB
              go_wp2_with (first
                | (go_at_call 16; ((with_reducible refine (HD0.out ao' cap' _ ?_ ?_ ?_).mono ?_); (focus exact hcl); (focus exact Errs.ex hE' (by repeat (first | exact Ex.refl _ | refine Ex.alloc ?_ _ | refine Ex.ext ?_ _ _ | refine Ex.drew ?_ | refine Ex.drewN ?_ _))); (focus exact LotsAt.ex HL'.out (by repeat (first | exact Ex.refl _ | refine Ex.alloc ?_ _ | refine Ex.ext ?_ _ _ | refine Ex.drew ?_ | refine Ex.drewN ?_ _)))); rintro e w1 ⟨rfl, l4, d4, rfl⟩)
                | (go_at_call 16; ((with_reducible refine (HD1.out ao' cap' _ ?_ ?_ ?_).mono ?_); (focus exact hcl); (focus exact Errs.ex hE' (by repeat (first | exact Ex.refl _ | refine Ex.alloc ?_ _ | refine Ex.ext ?_ _ _ | refine Ex.drew ?_ | refine Ex.drewN ?_ _))); (focus exact LotsAt.ex HL'.out (by repeat (first | exact Ex.refl _ | refine Ex.alloc ?_ _ | refine Ex.ext ?_ _ _ | refine Ex.drew ?_ | refine Ex.drewN ?_ _)))); rintro e w1 ⟨rfl, l4, d4, rfl⟩)
                | (go_at_call 17; ((with_reducible refine (HS0.out ao' cap' _ ?_ ?_ ?_).mono ?_); (focus exact hcl); (focus exact Errs.ex hE' (by repeat (first | exact Ex.refl _ | refine Ex.alloc ?_ _ | refine Ex.ext ?_ _ _ | refine Ex.drew ?_ | refine Ex.drewN ?_ _))); (focus exact LotsAt.ex HL'.out (by repeat (first | exact Ex.refl _ | refine Ex.alloc ?_ _ | refine Ex.ext ?_ _ _ | refine Ex.drew ?_ | refine Ex.drewN ?_ _)))); rintro e w1 ⟨rfl, l4, d4, rfl⟩)
                | (go_at_call 17; ((with_reducible refine (HS1.out ao' cap' _ ?_ ?_ ?_).mono ?_); (focus exact hcl); (focus exact Errs.ex hE' (by repeat (first | exact Ex.refl _ | refine Ex.alloc ?_ _ | refine Ex.ext ?_ _ _ | refine Ex.drew ?_ | refine Ex.drewN ?_ _))); (focus exact LotsAt.ex HL'.out (by repeat (first | exact Ex.refl _ | refine Ex.alloc ?_ _ | refine Ex.ext ?_ _ _ | refine Ex.drew ?_ | refine Ex.drewN ?_ _)))); rintro e w1 ⟨rfl, l4, d4, rfl⟩)
                | (go_at_call 22; ((with_reducible refine (HC2.out ao' cap' _ ?_ ?_ ?_).mono ?_); (focus exact hcl); (focus exact Errs.ex hE' (by repeat (first | exact Ex.refl _ | refine Ex.alloc ?_ _ | refine Ex.ext ?_ _ _ | refine Ex.drew ?_ | refine Ex.drewN ?_ _))); (focus exact LotsAt.ex HL'.out (by repeat (first | exact Ex.refl _ | refine Ex.alloc ?_ _ | refine Ex.ext ?_ _ _ | refine Ex.drew ?_ | refine Ex.drewN ?_ _)))); rintro e w1 ⟨rfl, l4, d4, rfl⟩)
                | (go_at_call 32; ((with_reducible refine (HB0.out ao' cap' _ ?_ ?_ ?_).mono ?_); (focus exact hcl); (focus exact Errs.ex hE' (by repeat (first | exact Ex.refl _ | refine Ex.alloc ?_ _ | refine Ex.ext ?_ _ _ | refine Ex.drew ?_ | refine Ex.drewN ?_ _))); (focus exact LotsAt.ex HL'.out (by repeat (first | exact Ex.refl _ | refine Ex.alloc ?_ _ | refine Ex.ext ?_ _ _ | refine Ex.drew ?_ | refine Ex.drewN ?_ _)))); rintro e w1 ⟨rfl, l4, d4, rfl⟩)
                | (go_at_call 19; ((with_reducible refine (HV0.out ao' cap' _ ?_ ?_ ?_).mono ?_); (focus exact hcl); (focus exact Errs.ex hE' (by repeat (first | exact Ex.refl _ | refine Ex.alloc ?_ _ | refine Ex.ext ?_ _ _ | refine Ex.drew ?_ | refine Ex.drewN ?_ _))); (focus exact LotsAt.ex HL'.out (by repeat (first | exact Ex.refl _ | refine Ex.alloc ?_ _ | refine Ex.ext ?_ _ _ | refine Ex.drew ?_ | refine Ex.drewN ?_ _)))); rintro e w1 ⟨rfl, l4, d4, rfl⟩))
              all_goals go_ret
              all_goals exact ⟨ret_bool (by first | rfl | exact decide_eq_true hv | (rw [decide_eq_false hv]; rfl) | (simp; omega)), (HX2.out.trans HX5.out).trans (by repeat (first | exact Ex.refl _ | refine Ex.alloc ?_ _ | refine Ex.ext ?_ _ _ | refine Ex.drew ?_ | refine Ex.drewN ?_ _))⟩
            · clear hB
              go_wp2_with (first
                | (go_at_call 22; ((with_reducible refine (HC2.out ao' cap' _ ?_ ?_ ?_).mono ?_); (focus exact hcl); (focus exact Errs.ex hE' (by repeat (first | exact Ex.refl _ | refine Ex.alloc ?_ _ | refine Ex.ext ?_ _ _ | refine Ex.drew ?_ | refine Ex.drewN ?_ _))); (focus exact LotsAt.ex HL'.out (by repeat (first | exact Ex.refl _ | refine Ex.alloc ?_ _ | refine Ex.ext ?_ _ _ | refine Ex.drew ?_ | refine Ex.drewN ?_ _)))); rintro e w1 ⟨rfl, l4, d4, rfl⟩)
                | (go_at_call 32; ((with_reducible refine (HB0.out ao' cap' _ ?_ ?_ ?_).mono ?_); (focus exact hcl); (focus exact Errs.ex hE' (by repeat (first | exact Ex.refl _ | refine Ex.alloc ?_ _ | refine Ex.ext ?_ _ _ | refine Ex.drew ?_ | refine Ex.drewN ?_ _))); (focus exact LotsAt.ex HL'.out (by repeat (first | exact Ex.refl _ | refine Ex.alloc ?_ _ | refine Ex.ext ?_ _ _ | refine Ex.drew ?_ | refine Ex.drewN ?_ _)))); rintro e w1 ⟨rfl, l4, d4, rfl⟩)
                | (go_at_call 19; ((with_reducible refine (HV0.out ao' cap' _ ?_ ?_ ?_).mono ?_); (focus exact hcl); (focus exact Errs.ex hE' (by repeat (first | exact Ex.refl _ | refine Ex.alloc ?_ _ | refine Ex.ext ?_ _ _ | refine Ex.drew ?_ | refine Ex.drewN ?_ _))); (focus exact LotsAt.ex HL'.out (by repeat (first | exact Ex.refl _ | refine Ex.alloc ?_ _ | refine Ex.ext ?_ _ _ | refine Ex.drew ?_ | refine Ex.drewN ?_ _)))); rintro e w1 ⟨rfl, l4, d4, rfl⟩))
              all_goals go_ret
              all_goals exact ⟨ret_bool (by first | rfl | exact decide_eq_true hv | (rw [decide_eq_false hv]; rfl) | (simp; omega)), (HX2.out.trans HX5.out).trans (by repeat (first | exact Ex.refl _ | refine Ex.alloc ?_ _ | refine Ex.ext ?_ _ _ | refine Ex.drew ?_ | refine Ex.drewN ?_ _))⟩
  · have HOK := Lib.hid hok
    clear hl hok
    go_enter Tryd.func7, Tryd.ntmps7
    go_wp2_with (go_at_call 13; refine (curved_any E _ (by exact Errs.sub (hE.ex (by repeat (first | exact Ex.refl _ | refine Ex.alloc ?_ _ | refine Ex.ext ?_ _ _ | refine Ex.drew ?_ | refine Ex.drewN ?_ _))) (by decide))).mono ?_; rintro e w1 ⟨rfl, l1, d1, rfl⟩)
    refine (ownLots_any ao len cap l _ hcap (by omega) (HL.out.ex (by repeat (first | exact Ex.refl _ | refine Ex.alloc ?_ _ | refine Ex.ext ?_ _ _ | refine Ex.drew ?_ | refine Ex.drewN ?_ _)))).mono ?_
    rintro e wo ⟨⟨ao', cap', rfl, hc', hl'⟩, hx1'⟩
    have HX : Hid (Ex w wo) := Lib.hid (Ex.trans (by repeat (first | exact Ex.refl _ | refine Ex.alloc ?_ _ | refine Ex.ext ?_ _ _ | refine Ex.drew ?_ | refine Ex.drewN ?_ _)) hx1')
    have hE' := hE.ex HX.out
    clear hx1'
    have HL' := Lib.hid hl'
    clear hl'
    have hcl := hc'.1
    go_wp2_with fail
    refine (check_any _ len _ l E _ hc'.1 hE' HL'.out).mono ?_
    rintro e w1 ⟨⟨v, rfl, hv⟩, l3, d3, rfl⟩
    obtain ⟨u, x, rfl⟩ := CheckV.bad HOK.out hv
    clear hv
    go_wp2
    all_goals go_ret
    all_goals exact ⟨rfl, HX.out.trans (by repeat (first | exact Ex.refl _ | refine Ex.alloc ?_ _ | refine Ex.ext ?_ _ _ | refine Ex.drew ?_ | refine Ex.drewN ?_ _))⟩
end Go.Proofs.YtjkaeiioofknoaaDoor
