/- The walk of ClearPrices. -/
import Derived.Test.YtjkaeiioofknoaaDoorFaulted
import Derived.Test.YtjkaeiioofknoaaDoorPriceOf
import Derived.Test.YtjkaeiioofknoaaDoorClearBestLaw
set_option linter.unusedSimpArgs false
set_option linter.unusedVariables false
namespace Go.Proofs.YtjkaeiioofknoaaDoor
open Go.RowKit

/-- Which side is short. -/
def shortOf (x : Int) : Int := if x < 0 then 0 else if x > 0 then 1 else -1
set_option maxRecDepth 100000 in
theorem short_any (ao : Option Addr) (len cap : Nat) (l : List Lot) (p x : Int) (E : Nat → Addr) (w : World) (hcap : len ≤ cap) (hE : Errs E [2, 7, 8] w) (hl : LotsAt w ao len l) (hx : curveSum (isDem p) l - curveSum (isSup p) l = x) :
    Calls Tryd.prog 30 #[.slice ao len cap, .int .i64 p] w fun e w' => e = .returned (.int .i64 (shortOf x)) ∧ Ex w w' := by
  have H := surplus_any ao len cap l p E w hcap hE hl
  rw [hx] at H
  have HX := Lib.hid H
  clear H hx hl hE
  by_cases h1 : x < 0
  · rw [show shortOf x = 0 from if_pos h1]
    go_enter Tryd.func30, Tryd.ntmps30
    go_wp2_with (go_at_call 18; refine HX.out.mono ?_; rintro e w1 ⟨rfl, l1, d1, rfl⟩)
    all_goals go_ret
    all_goals exact ⟨rfl, (by repeat (first | exact Ex.refl _ | refine Ex.alloc ?_ _ | refine Ex.ext ?_ _ _ | refine Ex.drew ?_ | refine Ex.drewN ?_ _))⟩
  by_cases h2 : x > 0
  · rw [show shortOf x = 1 by unfold shortOf; rw [if_neg h1, if_pos h2]]
    go_enter Tryd.func30, Tryd.ntmps30
    go_wp2_with (go_at_call 18; refine HX.out.mono ?_; rintro e w1 ⟨rfl, l1, d1, rfl⟩)
    all_goals go_ret
    all_goals exact ⟨rfl, (by repeat (first | exact Ex.refl _ | refine Ex.alloc ?_ _ | refine Ex.ext ?_ _ _ | refine Ex.drew ?_ | refine Ex.drewN ?_ _))⟩
  · rw [show shortOf x = -1 by unfold shortOf; rw [if_neg h1, if_neg h2]]
    go_enter Tryd.func30, Tryd.ntmps30
    go_wp2_with (go_at_call 18; refine HX.out.mono ?_; rintro e w1 ⟨rfl, l1, d1, rfl⟩)
    all_goals go_ret
    all_goals exact ⟨rfl, (by repeat (first | exact Ex.refl _ | refine Ex.alloc ?_ _ | refine Ex.ext ?_ _ _ | refine Ex.drew ?_ | refine Ex.drewN ?_ _))⟩
set_option maxRecDepth 100000 in
theorem strict_bad (ao : Option Addr) (len cap : Nat) (l : List Lot) (side p : Int) (E : Nat → Addr) (w : World) (hcap : len ≤ cap) (hE : Errs E [2, 7, 8] w) (hl : LotsAt w ao len l) (hok : ¬ LotsOk l) :
    Calls Tryd.prog 23 #[.slice ao len cap, .int .i64 side, .int .i64 p] w fun e w' => e = .returned (.int .i64 0) ∧ Ex w w' := by
  have HC := Lib.hid (check_any ao len cap l E w hcap hE hl)
  have HOK := Lib.hid hok
  clear hl hok hE
  go_enter Tryd.func23, Tryd.ntmps23
  go_wp2_with fail
  refine HC.out.mono ?_
  rintro e w1 ⟨⟨v, rfl, hv⟩, l1, d1, rfl⟩
  obtain ⟨u, x, rfl⟩ := CheckV.bad HOK.out hv
  clear hv
  go_wp2
  all_goals go_ret
  all_goals exact ⟨rfl, (by repeat (first | exact Ex.refl _ | refine Ex.alloc ?_ _ | refine Ex.ext ?_ _ _ | refine Ex.drew ?_ | refine Ex.drewN ?_ _))⟩

theorem fault_bad {l : List Lot} (h : ¬ LotsOk l) : 1 ≤ faultC l := by
  by_cases h1 : 120 < l.length
  · rw [(fault_full h1).1]; decide
  · have h2 : ∃ k, k < l.length ∧ codeAt l k ≠ 0 ∧ ∀ j, j < k → codeAt l j = 0 := by
      apply Classical.byContradiction
      intro hn
      apply h
      refine ⟨by omega, ?_⟩
      intro k
      induction k using Nat.strongRecOn with
      | _ k ih =>
        intro hk
        apply Classical.byContradiction
        intro hc
        exact hn ⟨k, hk, hc, fun j hj => ih j hj (by omega)⟩
    obtain ⟨k, a, b, c⟩ := h2
    rw [(fault_some (by omega) a c b).1]
    omega
theorem fault_good {l : List Lot} (h : LotsOk l) : faultC l = 0 ∧ faultA l = -1 := fault_none h.1 h.2

set_option maxRecDepth 100000 in
set_option maxHeartbeats 1000000 in
theorem clearPrices_out (ao : Option Addr) (len cap : Nat) (ref p side : Int) (E : Nat → Addr) (w : World) (hE : Errs E [2, 7, 8] w) (hm : len ≤ 9223372036854775807) (h1 : len > 130) :
    Calls Tryd.prog 6 #[.slice ao len cap, .int .i64 ref, .int .i64 p, .int .i64 side] w fun e w' => e = .returned (.bool true) ∧ Ex w w' := by
  go_enter Tryd.func6, Tryd.ntmps6
  go_wp2_with (go_at_call 20; refine (cleared_any E _ (by exact Errs.sub (hE.ex (by repeat (first | exact Ex.refl _ | refine Ex.alloc ?_ _ | refine Ex.ext ?_ _ _ | refine Ex.drew ?_ | refine Ex.drewN ?_ _))) (by decide))).mono ?_; rintro e w1 ⟨rfl, l1, d1, rfl⟩)
  all_goals go_ret
  all_goals exact ⟨rfl, (by repeat (first | exact Ex.refl _ | refine Ex.alloc ?_ _ | refine Ex.ext ?_ _ _ | refine Ex.drew ?_ | refine Ex.drewN ?_ _))⟩

set_option maxRecDepth 100000 in
set_option maxHeartbeats 4000000 in
theorem clearPrices_bad (ao : Option Addr) (len cap : Nat) (l : List Lot) (ref p side : Int) (E : Nat → Addr) (w : World) (hcap : len ≤ cap ∧ cap ≤ 9223372036854775807 ∧ (ao = none → cap = 0)) (hR : CodeReady E w) (hl : LotsAt w ao len l) (h1 : len ≤ 130) (hok : ¬ LotsOk l) :
    Calls Tryd.prog 6 #[.slice ao len cap, .int .i64 ref, .int .i64 p, .int .i64 side] w fun e w' => e = .returned (.bool true) ∧ Ex w w' := by
  have HL := Lib.hid hl
  have HOK := Lib.hid hok
  have HR0 := Lib.hid hR
  have hE : Errs E [2, 7, 8] w := Errs.sub hR.1 (by decide)
  have hC := fault_bad hok
  clear hl hok hR
  go_enter Tryd.func6, Tryd.ntmps6
  go_wp2_with (go_at_call 20; refine (cleared_any E _ (by exact Errs.sub (hE.ex (by repeat (first | exact Ex.refl _ | refine Ex.alloc ?_ _ | refine Ex.ext ?_ _ _ | refine Ex.drew ?_ | refine Ex.drewN ?_ _))) (by decide))).mono ?_; rintro e w1 ⟨rfl, l1, d1, rfl⟩)
  refine (ownLots_any ao len cap l _ hcap (by omega) (HL.out.ex (by repeat (first | exact Ex.refl _ | refine Ex.alloc ?_ _ | refine Ex.ext ?_ _ _ | refine Ex.drew ?_ | refine Ex.drewN ?_ _)))).mono ?_
  rintro e wo ⟨⟨ao', cap', rfl, hc', hl'⟩, hx1'⟩
  have HX : Hid (Ex w wo) := Lib.hid (Ex.trans (by repeat (first | exact Ex.refl _ | refine Ex.alloc ?_ _ | refine Ex.ext ?_ _ _ | refine Ex.drew ?_ | refine Ex.drewN ?_ _)) hx1')
  have hE' := hE.ex HX.out
  clear hx1'
  have HL' := Lib.hid hl'
  clear hl'
  have hcl := hc'.1
  go_wp2_with fail
  refine (price_bad _ len _ l ref E _ hc'.1 hE' HL'.out HOK.out).mono ?_
  rintro e wp ⟨⟨t, x, rfl, hV⟩, hxp⟩
  have HXP : Hid (Ex w wp) := Lib.hid (HX.out.trans hxp)
  have HLO := Lib.hid (HL'.out.ex hxp)
  have hE2 := hE'.ex hxp
  have HR := Lib.hid (HR0.out.ex HXP.out)
  have HLA := Lib.hid (HL.out.ex HXP.out)
  have HFA := Lib.hid (fun w2 (hx : Ex wp w2) => faulted_check (hV.later hx) (HR.out.ex hx))
  have HLF := Lib.hid (fun w hl => lotsFault_any ao len cap l w hl)
  have HSH := Lib.hid (fun ao cap w hc hE hl => short_any ao len cap l p 0 E w hc hE hl (by rw [curveSum_not _ HOK.out, curveSum_not _ HOK.out]; rfl))
  have HTR := Lib.hid (fun ao cap w hc hE hl => strict_bad ao len cap l side p E w hc hE hl HOK.out)
  rw [show shortOf 0 = -1 from rfl] at HSH
  generalize faultC l = C at *
  generalize faultA l = F at *
  have hC0 : ((C : Int) == 0) = false := by simp; omega
  clear hV hxp HX HL' hE' hE HL
  go_wp2_with (first
    | (go_at_call 24; refine (HLF.out _ (LotsAt.ex HLA.out (by repeat (first | exact Ex.refl _ | refine Ex.alloc ?_ _ | refine Ex.ext ?_ _ _ | refine Ex.drew ?_ | refine Ex.drewN ?_ _)))).mono ?_; rintro e w1 ⟨rfl, l5, d5, rfl⟩)
    | (go_at_call 26; refine (HFA.out _ (by repeat (first | exact Ex.refl _ | refine Ex.alloc ?_ _ | refine Ex.ext ?_ _ _ | refine Ex.drew ?_ | refine Ex.drewN ?_ _))).mono ?_; rintro e w1 ⟨rfl, l5, d5, rfl⟩)
    | (go_at_call 30; ((with_reducible refine (HSH.out ao' cap' _ ?_ ?_ ?_).mono ?_); (focus exact hcl); (focus exact Errs.ex hE2 (by repeat (first | exact Ex.refl _ | refine Ex.alloc ?_ _ | refine Ex.ext ?_ _ _ | refine Ex.drew ?_ | refine Ex.drewN ?_ _))); (focus exact LotsAt.ex HLO.out (by repeat (first | exact Ex.refl _ | refine Ex.alloc ?_ _ | refine Ex.ext ?_ _ _ | refine Ex.drew ?_ | refine Ex.drewN ?_ _)))); rintro e w1 ⟨rfl, l5, d5, rfl⟩)
    | (go_at_call 23; ((with_reducible refine (HTR.out ao' cap' _ ?_ ?_ ?_).mono ?_); (focus exact hcl); (focus exact Errs.ex hE2 (by repeat (first | exact Ex.refl _ | refine Ex.alloc ?_ _ | refine Ex.ext ?_ _ _ | refine Ex.drew ?_ | refine Ex.drewN ?_ _))); (focus exact LotsAt.ex HLO.out (by repeat (first | exact Ex.refl _ | refine Ex.alloc ?_ _ | refine Ex.ext ?_ _ _ | refine Ex.drew ?_ | refine Ex.drewN ?_ _)))); rintro e w1 ⟨rfl, l5, d5, rfl⟩))
  all_goals go_ret
  all_goals exact ⟨rfl, HXP.out.trans (by repeat (first | exact Ex.refl _ | refine Ex.alloc ?_ _ | refine Ex.ext ?_ _ _ | refine Ex.drew ?_ | refine Ex.drewN ?_ _))⟩

set_option maxRecDepth 100000 in
set_option maxHeartbeats 4000000 in
theorem clearPrices_ref (ao : Option Addr) (len cap : Nat) (l : List Lot) (ref p side : Int) (E : Nat → Addr) (w : World) (hcap : len ≤ cap ∧ cap ≤ 9223372036854775807 ∧ (ao = none → cap = 0)) (hR : CodeReady E w) (hl : LotsAt w ao len l) (h1 : len ≤ 130) (hok : LotsOk l) (hr : ref < 1 ∨ 1000 < ref) :
    Calls Tryd.prog 6 #[.slice ao len cap, .int .i64 ref, .int .i64 p, .int .i64 side] w fun e w' => e = .returned (.bool true) ∧ Ex w w' := by
  have HL := Lib.hid hl
  have HOK := Lib.hid hok
  have HR0 := Lib.hid hR
  have HLEN := Lib.hid hl.1
  have hlmx := hl.2.1
  have hE : Errs E [2, 7, 8] w := Errs.sub hR.1 (by decide)
  have hF := fault_good hok
  have LF := fun w hl => lotsFault_any ao len cap l w hl
  rw [hF.1, hF.2] at LF
  have HLF := Lib.hid LF
  have D1 := fun w hl => demandOf_any ao len cap l p w hl HOK.out
  have S1 := fun w hl => supplyOf_any ao len cap l p w hl HOK.out
  have TR := fun ao cap w hc hE hl => strict_any ao len cap l side p E w hc hE hl HOK.out
  have SX : curveSum (isDem p) l - curveSum (isSup p) l = sumOf (isDem p) l - sumOf (isSup p) l := by rw [curveSum_ok HOK.out, curveSum_ok HOK.out]
  have b1 := sumOf_bounds (isDem p) l HOK.out.mem
  have b2 := sumOf_bounds (isSup p) l HOK.out.mem
  have h120 := HOK.out.1
  generalize sumOf (isDem p) l = D at *
  generalize sumOf (isSup p) l = S at *
  have HD1 := Lib.hid D1
  have HS1 := Lib.hid S1
  have HTR := Lib.hid TR
  have HSX := Lib.hid SX
  clear LF D1 S1 TR SX hF hl hok hR
  go_enter Tryd.func6, Tryd.ntmps6
  go_wp2_with (go_at_call 20; refine (cleared_any E _ (by exact Errs.sub (hE.ex (by repeat (first | exact Ex.refl _ | refine Ex.alloc ?_ _ | refine Ex.ext ?_ _ _ | refine Ex.drew ?_ | refine Ex.drewN ?_ _))) (by decide))).mono ?_; rintro e w1 ⟨rfl, l1, d1, rfl⟩)
  refine (ownLots_any ao len cap l _ hcap (by omega) (HL.out.ex (by repeat (first | exact Ex.refl _ | refine Ex.alloc ?_ _ | refine Ex.ext ?_ _ _ | refine Ex.drew ?_ | refine Ex.drewN ?_ _)))).mono ?_
  rintro e wo ⟨⟨ao', cap', rfl, hc', hl'⟩, hx1'⟩
  have HX : Hid (Ex w wo) := Lib.hid (Ex.trans (by repeat (first | exact Ex.refl _ | refine Ex.alloc ?_ _ | refine Ex.ext ?_ _ _ | refine Ex.drew ?_ | refine Ex.drewN ?_ _)) hx1')
  have hE' := hE.ex HX.out
  clear hx1'
  have HL' := Lib.hid hl'
  clear hl'
  have hcl := hc'.1
  go_wp2_with fail
  have HRR := Lib.hid hr
  clear hr
  refine (price_ref _ len _ l ref E _ hc'.1 hE' HL'.out HOK.out HRR.out).mono ?_
  rintro e wp ⟨rfl, hxp⟩
  have HFA := Lib.hid (fun w hr => faulted_err 2 E w hr (by decide) (by decide))
  rw [errV_pos _ _ (by decide)] at HFA
  have HXP : Hid (Ex w wp) := Lib.hid (HX.out.trans hxp)
  have HLO := Lib.hid (HL'.out.ex hxp)
  have hE2 := hE'.ex hxp
  have HR := Lib.hid (HR0.out.ex HXP.out)
  have HLA := Lib.hid (HL.out.ex HXP.out)
  clear hxp HX HL' hE' hE HL
  have HPO := Lib.hid True.intro
  rcases HRR.out with hr | hr
  all_goals
    by_cases k1 : D < S
    · have hsh := fun ao cap w hc hE hl => short_any ao len cap l p (D - S) E w hc hE hl HSX.out
      rw [show shortOf (D - S) = 0 from if_pos (by omega)] at hsh
      have HSH := Lib.hid hsh
      clear hsh
      go_wp2_with (first
        | (go_at_call 24; refine (HLF.out _ (LotsAt.ex HLA.out (by repeat (first | exact Ex.refl _ | refine Ex.alloc ?_ _ | refine Ex.ext ?_ _ _ | refine Ex.drew ?_ | refine Ex.drewN ?_ _)))).mono ?_; rintro e w1 ⟨rfl, l5, d5, rfl⟩)
        | (go_at_call 25; refine (bare_any _ _).mono ?_; rintro e w1 ⟨rfl, l5, d5, rfl⟩)
        | (go_at_call 26; refine (HFA.out _ (CodeReady.ex HR.out (by repeat (first | exact Ex.refl _ | refine Ex.alloc ?_ _ | refine Ex.ext ?_ _ _ | refine Ex.drew ?_ | refine Ex.drewN ?_ _)))).mono ?_; rintro e w1 ⟨rfl, l5, d5, rfl⟩)
        | (go_at_call 27; refine (HPO.out _ (LotsAt.ex HLA.out (by repeat (first | exact Ex.refl _ | refine Ex.alloc ?_ _ | refine Ex.ext ?_ _ _ | refine Ex.drew ?_ | refine Ex.drewN ?_ _)))).mono ?_; rintro e w1 ⟨rfl, l5, d5, rfl⟩)
        | (go_at_call 28; refine (HD1.out _ (LotsAt.ex HLA.out (by repeat (first | exact Ex.refl _ | refine Ex.alloc ?_ _ | refine Ex.ext ?_ _ _ | refine Ex.drew ?_ | refine Ex.drewN ?_ _)))).mono ?_; rintro e w1 ⟨rfl, rfl⟩)
        | (go_at_call 29; refine (HS1.out _ (LotsAt.ex HLA.out (by repeat (first | exact Ex.refl _ | refine Ex.alloc ?_ _ | refine Ex.ext ?_ _ _ | refine Ex.drew ?_ | refine Ex.drewN ?_ _)))).mono ?_; rintro e w1 ⟨rfl, rfl⟩))
      go_loop [19, 22] (fun n i => ∃ (k : Nat), k ≤ len ∧ i = .int .i64 k ∧ n = .int .i64 (sumOf (isStrict side p) (l.take k))) (fun _ i => len - (intOf i).toNat)
      case atStart => exact ⟨0, Nat.zero_le _, rfl, (by simp [sumOf])⟩
      case round =>
        obtain ⟨k, hk, rfl, rfl⟩ := hrel
        by_cases hlt : k < len
        · have hkl : k < l.length := by rw [HLEN.out]; omega
          obtain ⟨b, off, rfl, hbs, hz⟩ := HLA.out.2.2.2 (by omega)
          have hzk := hz k hkl
          have ha0 : l[k]? = some (l[k]'hkl) := List.getElem?_eq_getElem hkl
          clear hz
          generalize l[k]'hkl = a at hzk ha0
          have a0 := hzk 0 (by omega)
          have a1 := hzk 1 (by omega)
          have a2 := hzk 2 (by omega)
          have a3 := hzk 3 (by omega)
          have a4 := hzk 4 (by omega)
          simp only [Lot.cells, List.getElem?_cons_zero, List.getElem?_cons_succ, Nat.add_zero] at a0 a1 a2 a3 a4
          clear hzk
          have hstep := sumOf_step (isStrict side p) ha0
          obtain ⟨hb0, hb1⟩ := HOK.out.sum_bounds (isStrict side p) k
          obtain ⟨hq0, hq1⟩ := HOK.out.qty ha0
          have HS := Lib.hid hstep
          clear hstep ha0
          generalize sumOf (isStrict side p) (l.take k) = n at *
          cases h1 : (a.side == side)
          · have htk : isStrict side p a = false := by simp only [isStrict, *, Bool.false_and, Bool.true_and, Bool.and_true, Bool.and_false, Bool.or_true, Bool.true_or, Bool.false_or, Bool.or_false] <;> (first | done | rfl | (simp; done) | (simp; omega))
            have HTK := Lib.hid htk
            clear htk
            go_wp2_with fail
            all_goals
              go_round
              case measure => simp [intOf]; omega
              case rel => exact ⟨k + 1, by omega, by go_num, by rw [HS.out, HTK.out]; first | rfl | (simp; done)⟩
          cases h2 : (side == 0)
          · cases h3 : (side == 1)
            · have htk : isStrict side p a = false := by simp only [isStrict, *, Bool.false_and, Bool.true_and, Bool.and_true, Bool.and_false, Bool.or_true, Bool.true_or, Bool.false_or, Bool.or_false] <;> (first | done | rfl | (simp; done) | (simp; omega))
              have HTK := Lib.hid htk
              clear htk
              go_wp2_with fail
              all_goals
                go_round
                case measure => simp [intOf]; omega
                case rel => exact ⟨k + 1, by omega, by go_num, by rw [HS.out, HTK.out]; first | rfl | (simp; done)⟩
            · by_cases h4 : a.price < p
              · have htk : isStrict side p a = true := by simp only [isStrict, *, Bool.false_and, Bool.true_and, Bool.and_true, Bool.and_false, Bool.or_true, Bool.true_or, Bool.false_or, Bool.or_false] <;> (first | done | rfl | (simp; done) | (simp; omega))
                have HTK := Lib.hid htk
                clear htk
                go_wp2_with fail
                all_goals
                  go_round
                  case measure => simp [intOf]; omega
                  case rel => exact ⟨k + 1, by omega, by go_num, by rw [HS.out, HTK.out]; first | rfl | (simp; done)⟩
              · have htk : isStrict side p a = false := by simp only [isStrict, *, Bool.false_and, Bool.true_and, Bool.and_true, Bool.and_false, Bool.or_true, Bool.true_or, Bool.false_or, Bool.or_false] <;> (first | done | rfl | (simp; done) | (simp; omega))
                have HTK := Lib.hid htk
                clear htk
                go_wp2_with fail
                all_goals
                  go_round
                  case measure => simp [intOf]; omega
                  case rel => exact ⟨k + 1, by omega, by go_num, by rw [HS.out, HTK.out]; first | rfl | (simp; done)⟩
          · have h3 : (side == 1) = false := by simp at h2 ⊢; omega
            by_cases h4 : a.price > p
            · have htk : isStrict side p a = true := by simp only [isStrict, *, Bool.false_and, Bool.true_and, Bool.and_true, Bool.and_false, Bool.or_true, Bool.true_or, Bool.false_or, Bool.or_false] <;> (first | done | rfl | (simp; done) | (simp; omega))
              have HTK := Lib.hid htk
              clear htk
              go_wp2_with fail
              all_goals
                go_round
                case measure => simp [intOf]; omega
                case rel => exact ⟨k + 1, by omega, by go_num, by rw [HS.out, HTK.out]; first | rfl | (simp; done)⟩
            · have htk : isStrict side p a = false := by simp only [isStrict, *, Bool.false_and, Bool.true_and, Bool.and_true, Bool.and_false, Bool.or_true, Bool.true_or, Bool.false_or, Bool.or_false] <;> (first | done | rfl | (simp; done) | (simp; omega))
              have HTK := Lib.hid htk
              clear htk
              go_wp2_with fail
              all_goals
                go_round
                case measure => simp [intOf]; omega
                case rel => exact ⟨k + 1, by omega, by go_num, by rw [HS.out, HTK.out]; first | rfl | (simp; done)⟩
        · have htk : l.take k = l := List.take_of_length_le (by have := HLEN.out; omega)
          rw [htk]
          generalize sumOf (isStrict side p) l = n at *
          have hnn : (n == n) = true := by simp
          go_wp2_with (first
            | (go_at_call 30; ((with_reducible refine (HSH.out ao' cap' _ ?_ ?_ ?_).mono ?_); (focus exact hcl); (focus exact Errs.ex hE2 (by repeat (first | exact Ex.refl _ | refine Ex.alloc ?_ _ | refine Ex.ext ?_ _ _ | refine Ex.drew ?_ | refine Ex.drewN ?_ _))); (focus exact LotsAt.ex HLO.out (by repeat (first | exact Ex.refl _ | refine Ex.alloc ?_ _ | refine Ex.ext ?_ _ _ | refine Ex.drew ?_ | refine Ex.drewN ?_ _)))); rintro e w1 ⟨rfl, l5, d5, rfl⟩)
            | (go_at_call 23; ((with_reducible refine (HTR.out ao' cap' _ ?_ ?_ ?_).mono ?_); (focus exact hcl); (focus exact Errs.ex hE2 (by repeat (first | exact Ex.refl _ | refine Ex.alloc ?_ _ | refine Ex.ext ?_ _ _ | refine Ex.drew ?_ | refine Ex.drewN ?_ _))); (focus exact LotsAt.ex HLO.out (by repeat (first | exact Ex.refl _ | refine Ex.alloc ?_ _ | refine Ex.ext ?_ _ _ | refine Ex.drew ?_ | refine Ex.drewN ?_ _)))); rintro e w1 ⟨rfl, l5, d5, rfl⟩))
          all_goals go_ret
          all_goals exact ⟨rfl, HXP.out.trans (by repeat (first | exact Ex.refl _ | refine Ex.alloc ?_ _ | refine Ex.ext ?_ _ _ | refine Ex.drew ?_ | refine Ex.drewN ?_ _))⟩
    by_cases k2 : D > S
    · have hsh := fun ao cap w hc hE hl => short_any ao len cap l p (D - S) E w hc hE hl HSX.out
      rw [show shortOf (D - S) = 1 by unfold shortOf; rw [if_neg (by omega), if_pos (by omega)]] at hsh
      have HSH := Lib.hid hsh
      clear hsh
      go_wp2_with (first
        | (go_at_call 24; refine (HLF.out _ (LotsAt.ex HLA.out (by repeat (first | exact Ex.refl _ | refine Ex.alloc ?_ _ | refine Ex.ext ?_ _ _ | refine Ex.drew ?_ | refine Ex.drewN ?_ _)))).mono ?_; rintro e w1 ⟨rfl, l5, d5, rfl⟩)
        | (go_at_call 25; refine (bare_any _ _).mono ?_; rintro e w1 ⟨rfl, l5, d5, rfl⟩)
        | (go_at_call 26; refine (HFA.out _ (CodeReady.ex HR.out (by repeat (first | exact Ex.refl _ | refine Ex.alloc ?_ _ | refine Ex.ext ?_ _ _ | refine Ex.drew ?_ | refine Ex.drewN ?_ _)))).mono ?_; rintro e w1 ⟨rfl, l5, d5, rfl⟩)
        | (go_at_call 27; refine (HPO.out _ (LotsAt.ex HLA.out (by repeat (first | exact Ex.refl _ | refine Ex.alloc ?_ _ | refine Ex.ext ?_ _ _ | refine Ex.drew ?_ | refine Ex.drewN ?_ _)))).mono ?_; rintro e w1 ⟨rfl, l5, d5, rfl⟩)
        | (go_at_call 28; refine (HD1.out _ (LotsAt.ex HLA.out (by repeat (first | exact Ex.refl _ | refine Ex.alloc ?_ _ | refine Ex.ext ?_ _ _ | refine Ex.drew ?_ | refine Ex.drewN ?_ _)))).mono ?_; rintro e w1 ⟨rfl, rfl⟩)
        | (go_at_call 29; refine (HS1.out _ (LotsAt.ex HLA.out (by repeat (first | exact Ex.refl _ | refine Ex.alloc ?_ _ | refine Ex.ext ?_ _ _ | refine Ex.drew ?_ | refine Ex.drewN ?_ _)))).mono ?_; rintro e w1 ⟨rfl, rfl⟩))
      go_loop [19, 22] (fun n i => ∃ (k : Nat), k ≤ len ∧ i = .int .i64 k ∧ n = .int .i64 (sumOf (isStrict side p) (l.take k))) (fun _ i => len - (intOf i).toNat)
      case atStart => exact ⟨0, Nat.zero_le _, rfl, (by simp [sumOf])⟩
      case round =>
        obtain ⟨k, hk, rfl, rfl⟩ := hrel
        by_cases hlt : k < len
        · have hkl : k < l.length := by rw [HLEN.out]; omega
          obtain ⟨b, off, rfl, hbs, hz⟩ := HLA.out.2.2.2 (by omega)
          have hzk := hz k hkl
          have ha0 : l[k]? = some (l[k]'hkl) := List.getElem?_eq_getElem hkl
          clear hz
          generalize l[k]'hkl = a at hzk ha0
          have a0 := hzk 0 (by omega)
          have a1 := hzk 1 (by omega)
          have a2 := hzk 2 (by omega)
          have a3 := hzk 3 (by omega)
          have a4 := hzk 4 (by omega)
          simp only [Lot.cells, List.getElem?_cons_zero, List.getElem?_cons_succ, Nat.add_zero] at a0 a1 a2 a3 a4
          clear hzk
          have hstep := sumOf_step (isStrict side p) ha0
          obtain ⟨hb0, hb1⟩ := HOK.out.sum_bounds (isStrict side p) k
          obtain ⟨hq0, hq1⟩ := HOK.out.qty ha0
          have HS := Lib.hid hstep
          clear hstep ha0
          generalize sumOf (isStrict side p) (l.take k) = n at *
          cases h1 : (a.side == side)
          · have htk : isStrict side p a = false := by simp only [isStrict, *, Bool.false_and, Bool.true_and, Bool.and_true, Bool.and_false, Bool.or_true, Bool.true_or, Bool.false_or, Bool.or_false] <;> (first | done | rfl | (simp; done) | (simp; omega))
            have HTK := Lib.hid htk
            clear htk
            go_wp2_with fail
            all_goals
              go_round
              case measure => simp [intOf]; omega
              case rel => exact ⟨k + 1, by omega, by go_num, by rw [HS.out, HTK.out]; first | rfl | (simp; done)⟩
          cases h2 : (side == 0)
          · cases h3 : (side == 1)
            · have htk : isStrict side p a = false := by simp only [isStrict, *, Bool.false_and, Bool.true_and, Bool.and_true, Bool.and_false, Bool.or_true, Bool.true_or, Bool.false_or, Bool.or_false] <;> (first | done | rfl | (simp; done) | (simp; omega))
              have HTK := Lib.hid htk
              clear htk
              go_wp2_with fail
              all_goals
                go_round
                case measure => simp [intOf]; omega
                case rel => exact ⟨k + 1, by omega, by go_num, by rw [HS.out, HTK.out]; first | rfl | (simp; done)⟩
            · by_cases h4 : a.price < p
              · have htk : isStrict side p a = true := by simp only [isStrict, *, Bool.false_and, Bool.true_and, Bool.and_true, Bool.and_false, Bool.or_true, Bool.true_or, Bool.false_or, Bool.or_false] <;> (first | done | rfl | (simp; done) | (simp; omega))
                have HTK := Lib.hid htk
                clear htk
                go_wp2_with fail
                all_goals
                  go_round
                  case measure => simp [intOf]; omega
                  case rel => exact ⟨k + 1, by omega, by go_num, by rw [HS.out, HTK.out]; first | rfl | (simp; done)⟩
              · have htk : isStrict side p a = false := by simp only [isStrict, *, Bool.false_and, Bool.true_and, Bool.and_true, Bool.and_false, Bool.or_true, Bool.true_or, Bool.false_or, Bool.or_false] <;> (first | done | rfl | (simp; done) | (simp; omega))
                have HTK := Lib.hid htk
                clear htk
                go_wp2_with fail
                all_goals
                  go_round
                  case measure => simp [intOf]; omega
                  case rel => exact ⟨k + 1, by omega, by go_num, by rw [HS.out, HTK.out]; first | rfl | (simp; done)⟩
          · have h3 : (side == 1) = false := by simp at h2 ⊢; omega
            by_cases h4 : a.price > p
            · have htk : isStrict side p a = true := by simp only [isStrict, *, Bool.false_and, Bool.true_and, Bool.and_true, Bool.and_false, Bool.or_true, Bool.true_or, Bool.false_or, Bool.or_false] <;> (first | done | rfl | (simp; done) | (simp; omega))
              have HTK := Lib.hid htk
              clear htk
              go_wp2_with fail
              all_goals
                go_round
                case measure => simp [intOf]; omega
                case rel => exact ⟨k + 1, by omega, by go_num, by rw [HS.out, HTK.out]; first | rfl | (simp; done)⟩
            · have htk : isStrict side p a = false := by simp only [isStrict, *, Bool.false_and, Bool.true_and, Bool.and_true, Bool.and_false, Bool.or_true, Bool.true_or, Bool.false_or, Bool.or_false] <;> (first | done | rfl | (simp; done) | (simp; omega))
              have HTK := Lib.hid htk
              clear htk
              go_wp2_with fail
              all_goals
                go_round
                case measure => simp [intOf]; omega
                case rel => exact ⟨k + 1, by omega, by go_num, by rw [HS.out, HTK.out]; first | rfl | (simp; done)⟩
        · have htk : l.take k = l := List.take_of_length_le (by have := HLEN.out; omega)
          rw [htk]
          generalize sumOf (isStrict side p) l = n at *
          have hnn : (n == n) = true := by simp
          go_wp2_with (first
            | (go_at_call 30; ((with_reducible refine (HSH.out ao' cap' _ ?_ ?_ ?_).mono ?_); (focus exact hcl); (focus exact Errs.ex hE2 (by repeat (first | exact Ex.refl _ | refine Ex.alloc ?_ _ | refine Ex.ext ?_ _ _ | refine Ex.drew ?_ | refine Ex.drewN ?_ _))); (focus exact LotsAt.ex HLO.out (by repeat (first | exact Ex.refl _ | refine Ex.alloc ?_ _ | refine Ex.ext ?_ _ _ | refine Ex.drew ?_ | refine Ex.drewN ?_ _)))); rintro e w1 ⟨rfl, l5, d5, rfl⟩)
            | (go_at_call 23; ((with_reducible refine (HTR.out ao' cap' _ ?_ ?_ ?_).mono ?_); (focus exact hcl); (focus exact Errs.ex hE2 (by repeat (first | exact Ex.refl _ | refine Ex.alloc ?_ _ | refine Ex.ext ?_ _ _ | refine Ex.drew ?_ | refine Ex.drewN ?_ _))); (focus exact LotsAt.ex HLO.out (by repeat (first | exact Ex.refl _ | refine Ex.alloc ?_ _ | refine Ex.ext ?_ _ _ | refine Ex.drew ?_ | refine Ex.drewN ?_ _)))); rintro e w1 ⟨rfl, l5, d5, rfl⟩))
          all_goals go_ret
          all_goals exact ⟨rfl, HXP.out.trans (by repeat (first | exact Ex.refl _ | refine Ex.alloc ?_ _ | refine Ex.ext ?_ _ _ | refine Ex.drew ?_ | refine Ex.drewN ?_ _))⟩
    · have hsh := fun ao cap w hc hE hl => short_any ao len cap l p (D - S) E w hc hE hl HSX.out
      rw [show shortOf (D - S) = -1 by unfold shortOf; rw [if_neg (by omega), if_neg (by omega)]] at hsh
      have HSH := Lib.hid hsh
      clear hsh
      go_wp2_with (first
        | (go_at_call 24; refine (HLF.out _ (LotsAt.ex HLA.out (by repeat (first | exact Ex.refl _ | refine Ex.alloc ?_ _ | refine Ex.ext ?_ _ _ | refine Ex.drew ?_ | refine Ex.drewN ?_ _)))).mono ?_; rintro e w1 ⟨rfl, l5, d5, rfl⟩)
        | (go_at_call 25; refine (bare_any _ _).mono ?_; rintro e w1 ⟨rfl, l5, d5, rfl⟩)
        | (go_at_call 26; refine (HFA.out _ (CodeReady.ex HR.out (by repeat (first | exact Ex.refl _ | refine Ex.alloc ?_ _ | refine Ex.ext ?_ _ _ | refine Ex.drew ?_ | refine Ex.drewN ?_ _)))).mono ?_; rintro e w1 ⟨rfl, l5, d5, rfl⟩)
        | (go_at_call 27; refine (HPO.out _ (LotsAt.ex HLA.out (by repeat (first | exact Ex.refl _ | refine Ex.alloc ?_ _ | refine Ex.ext ?_ _ _ | refine Ex.drew ?_ | refine Ex.drewN ?_ _)))).mono ?_; rintro e w1 ⟨rfl, l5, d5, rfl⟩)
        | (go_at_call 28; refine (HD1.out _ (LotsAt.ex HLA.out (by repeat (first | exact Ex.refl _ | refine Ex.alloc ?_ _ | refine Ex.ext ?_ _ _ | refine Ex.drew ?_ | refine Ex.drewN ?_ _)))).mono ?_; rintro e w1 ⟨rfl, rfl⟩)
        | (go_at_call 29; refine (HS1.out _ (LotsAt.ex HLA.out (by repeat (first | exact Ex.refl _ | refine Ex.alloc ?_ _ | refine Ex.ext ?_ _ _ | refine Ex.drew ?_ | refine Ex.drewN ?_ _)))).mono ?_; rintro e w1 ⟨rfl, rfl⟩))
      go_loop [19, 22] (fun n i => ∃ (k : Nat), k ≤ len ∧ i = .int .i64 k ∧ n = .int .i64 (sumOf (isStrict side p) (l.take k))) (fun _ i => len - (intOf i).toNat)
      case atStart => exact ⟨0, Nat.zero_le _, rfl, (by simp [sumOf])⟩
      case round =>
        obtain ⟨k, hk, rfl, rfl⟩ := hrel
        by_cases hlt : k < len
        · have hkl : k < l.length := by rw [HLEN.out]; omega
          obtain ⟨b, off, rfl, hbs, hz⟩ := HLA.out.2.2.2 (by omega)
          have hzk := hz k hkl
          have ha0 : l[k]? = some (l[k]'hkl) := List.getElem?_eq_getElem hkl
          clear hz
          generalize l[k]'hkl = a at hzk ha0
          have a0 := hzk 0 (by omega)
          have a1 := hzk 1 (by omega)
          have a2 := hzk 2 (by omega)
          have a3 := hzk 3 (by omega)
          have a4 := hzk 4 (by omega)
          simp only [Lot.cells, List.getElem?_cons_zero, List.getElem?_cons_succ, Nat.add_zero] at a0 a1 a2 a3 a4
          clear hzk
          have hstep := sumOf_step (isStrict side p) ha0
          obtain ⟨hb0, hb1⟩ := HOK.out.sum_bounds (isStrict side p) k
          obtain ⟨hq0, hq1⟩ := HOK.out.qty ha0
          have HS := Lib.hid hstep
          clear hstep ha0
          generalize sumOf (isStrict side p) (l.take k) = n at *
          cases h1 : (a.side == side)
          · have htk : isStrict side p a = false := by simp only [isStrict, *, Bool.false_and, Bool.true_and, Bool.and_true, Bool.and_false, Bool.or_true, Bool.true_or, Bool.false_or, Bool.or_false] <;> (first | done | rfl | (simp; done) | (simp; omega))
            have HTK := Lib.hid htk
            clear htk
            go_wp2_with fail
            all_goals
              go_round
              case measure => simp [intOf]; omega
              case rel => exact ⟨k + 1, by omega, by go_num, by rw [HS.out, HTK.out]; first | rfl | (simp; done)⟩
          cases h2 : (side == 0)
          · cases h3 : (side == 1)
            · have htk : isStrict side p a = false := by simp only [isStrict, *, Bool.false_and, Bool.true_and, Bool.and_true, Bool.and_false, Bool.or_true, Bool.true_or, Bool.false_or, Bool.or_false] <;> (first | done | rfl | (simp; done) | (simp; omega))
              have HTK := Lib.hid htk
              clear htk
              go_wp2_with fail
              all_goals
                go_round
                case measure => simp [intOf]; omega
                case rel => exact ⟨k + 1, by omega, by go_num, by rw [HS.out, HTK.out]; first | rfl | (simp; done)⟩
            · by_cases h4 : a.price < p
              · have htk : isStrict side p a = true := by simp only [isStrict, *, Bool.false_and, Bool.true_and, Bool.and_true, Bool.and_false, Bool.or_true, Bool.true_or, Bool.false_or, Bool.or_false] <;> (first | done | rfl | (simp; done) | (simp; omega))
                have HTK := Lib.hid htk
                clear htk
                go_wp2_with fail
                all_goals
                  go_round
                  case measure => simp [intOf]; omega
                  case rel => exact ⟨k + 1, by omega, by go_num, by rw [HS.out, HTK.out]; first | rfl | (simp; done)⟩
              · have htk : isStrict side p a = false := by simp only [isStrict, *, Bool.false_and, Bool.true_and, Bool.and_true, Bool.and_false, Bool.or_true, Bool.true_or, Bool.false_or, Bool.or_false] <;> (first | done | rfl | (simp; done) | (simp; omega))
                have HTK := Lib.hid htk
                clear htk
                go_wp2_with fail
                all_goals
                  go_round
                  case measure => simp [intOf]; omega
                  case rel => exact ⟨k + 1, by omega, by go_num, by rw [HS.out, HTK.out]; first | rfl | (simp; done)⟩
          · have h3 : (side == 1) = false := by simp at h2 ⊢; omega
            by_cases h4 : a.price > p
            · have htk : isStrict side p a = true := by simp only [isStrict, *, Bool.false_and, Bool.true_and, Bool.and_true, Bool.and_false, Bool.or_true, Bool.true_or, Bool.false_or, Bool.or_false] <;> (first | done | rfl | (simp; done) | (simp; omega))
              have HTK := Lib.hid htk
              clear htk
              go_wp2_with fail
              all_goals
                go_round
                case measure => simp [intOf]; omega
                case rel => exact ⟨k + 1, by omega, by go_num, by rw [HS.out, HTK.out]; first | rfl | (simp; done)⟩
            · have htk : isStrict side p a = false := by simp only [isStrict, *, Bool.false_and, Bool.true_and, Bool.and_true, Bool.and_false, Bool.or_true, Bool.true_or, Bool.false_or, Bool.or_false] <;> (first | done | rfl | (simp; done) | (simp; omega))
              have HTK := Lib.hid htk
              clear htk
              go_wp2_with fail
              all_goals
                go_round
                case measure => simp [intOf]; omega
                case rel => exact ⟨k + 1, by omega, by go_num, by rw [HS.out, HTK.out]; first | rfl | (simp; done)⟩
        · have htk : l.take k = l := List.take_of_length_le (by have := HLEN.out; omega)
          rw [htk]
          generalize sumOf (isStrict side p) l = n at *
          have hnn : (n == n) = true := by simp
          go_wp2_with (first
            | (go_at_call 30; ((with_reducible refine (HSH.out ao' cap' _ ?_ ?_ ?_).mono ?_); (focus exact hcl); (focus exact Errs.ex hE2 (by repeat (first | exact Ex.refl _ | refine Ex.alloc ?_ _ | refine Ex.ext ?_ _ _ | refine Ex.drew ?_ | refine Ex.drewN ?_ _))); (focus exact LotsAt.ex HLO.out (by repeat (first | exact Ex.refl _ | refine Ex.alloc ?_ _ | refine Ex.ext ?_ _ _ | refine Ex.drew ?_ | refine Ex.drewN ?_ _)))); rintro e w1 ⟨rfl, l5, d5, rfl⟩)
            | (go_at_call 23; ((with_reducible refine (HTR.out ao' cap' _ ?_ ?_ ?_).mono ?_); (focus exact hcl); (focus exact Errs.ex hE2 (by repeat (first | exact Ex.refl _ | refine Ex.alloc ?_ _ | refine Ex.ext ?_ _ _ | refine Ex.drew ?_ | refine Ex.drewN ?_ _))); (focus exact LotsAt.ex HLO.out (by repeat (first | exact Ex.refl _ | refine Ex.alloc ?_ _ | refine Ex.ext ?_ _ _ | refine Ex.drew ?_ | refine Ex.drewN ?_ _)))); rintro e w1 ⟨rfl, l5, d5, rfl⟩))
          all_goals go_ret
          all_goals exact ⟨rfl, HXP.out.trans (by repeat (first | exact Ex.refl _ | refine Ex.alloc ?_ _ | refine Ex.ext ?_ _ _ | refine Ex.drew ?_ | refine Ex.drewN ?_ _))⟩

set_option maxRecDepth 100000 in
set_option maxHeartbeats 4000000 in
theorem clearPrices_ok (ao : Option Addr) (len cap : Nat) (l : List Lot) (ref p side : Int) (E : Nat → Addr) (w : World) (hcap : len ≤ cap ∧ cap ≤ 9223372036854775807 ∧ (ao = none → cap = 0)) (hR : CodeReady E w) (hl : LotsAt w ao len l) (h1 : len ≤ 130) (hok : LotsOk l) (r1 : 1 ≤ ref) (r2 : ref ≤ 1000) :
    Calls Tryd.prog 6 #[.slice ao len cap, .int .i64 ref, .int .i64 p, .int .i64 side] w fun e w' => e = .returned (.bool true) ∧ Ex w w' := by
  have HL := Lib.hid hl
  have HOK := Lib.hid hok
  have HR0 := Lib.hid hR
  have HLEN := Lib.hid hl.1
  have hlmx := hl.2.1
  have hE : Errs E [2, 7, 8] w := Errs.sub hR.1 (by decide)
  have hF := fault_good hok
  have LF := fun w hl => lotsFault_any ao len cap l w hl
  rw [hF.1, hF.2] at LF
  have HLF := Lib.hid LF
  have D1 := fun w hl => demandOf_any ao len cap l p w hl HOK.out
  have S1 := fun w hl => supplyOf_any ao len cap l p w hl HOK.out
  have TR := fun ao cap w hc hE hl => strict_any ao len cap l side p E w hc hE hl HOK.out
  have SX : curveSum (isDem p) l - curveSum (isSup p) l = sumOf (isDem p) l - sumOf (isSup p) l := by rw [curveSum_ok HOK.out, curveSum_ok HOK.out]
  have b1 := sumOf_bounds (isDem p) l HOK.out.mem
  have b2 := sumOf_bounds (isSup p) l HOK.out.mem
  have h120 := HOK.out.1
  generalize sumOf (isDem p) l = D at *
  generalize sumOf (isSup p) l = S at *
  have HD1 := Lib.hid D1
  have HS1 := Lib.hid S1
  have HTR := Lib.hid TR
  have HSX := Lib.hid SX
  clear LF D1 S1 TR SX hF hl hok hR
  have PO := fun w hl => priceOf_any ao len cap l ref w hl HOK.out r1 r2
  have P0 := fun ao cap w hc hE hl => price_ok ao len cap l ref E w hc hE hl HOK.out r1 r2
  generalize (bestC l ref 1000).price = bp at *
  generalize (bestC l ref 1000).vol = bv at *
  have HPO := Lib.hid PO
  have HP0 := Lib.hid P0
  have q1 : (bp != bp) = false := by simp
  have q2 : (bv != bv) = false := by simp
  clear PO P0
  go_enter Tryd.func6, Tryd.ntmps6
  go_wp2_with (go_at_call 20; refine (cleared_any E _ (by exact Errs.sub (hE.ex (by repeat (first | exact Ex.refl _ | refine Ex.alloc ?_ _ | refine Ex.ext ?_ _ _ | refine Ex.drew ?_ | refine Ex.drewN ?_ _))) (by decide))).mono ?_; rintro e w1 ⟨rfl, l1, d1, rfl⟩)
  refine (ownLots_any ao len cap l _ hcap (by omega) (HL.out.ex (by repeat (first | exact Ex.refl _ | refine Ex.alloc ?_ _ | refine Ex.ext ?_ _ _ | refine Ex.drew ?_ | refine Ex.drewN ?_ _)))).mono ?_
  rintro e wo ⟨⟨ao', cap', rfl, hc', hl'⟩, hx1'⟩
  have HX : Hid (Ex w wo) := Lib.hid (Ex.trans (by repeat (first | exact Ex.refl _ | refine Ex.alloc ?_ _ | refine Ex.ext ?_ _ _ | refine Ex.drew ?_ | refine Ex.drewN ?_ _)) hx1')
  have hE' := hE.ex HX.out
  clear hx1'
  have HL' := Lib.hid hl'
  clear hl'
  have hcl := hc'.1
  go_wp2_with fail
  refine (HP0.out _ _ _ hc'.1 hE' HL'.out).mono ?_
  rintro e wp ⟨rfl, hxp⟩
  have HFA := Lib.hid (fun w (hr : CodeReady E w) => faulted_nil w)
  have HXP : Hid (Ex w wp) := Lib.hid (HX.out.trans hxp)
  have HLO := Lib.hid (HL'.out.ex hxp)
  have hE2 := hE'.ex hxp
  have HR := Lib.hid (HR0.out.ex HXP.out)
  have HLA := Lib.hid (HL.out.ex HXP.out)
  clear hxp HX HL' hE' hE HL
  by_cases k1 : D < S
  · have hsh := fun ao cap w hc hE hl => short_any ao len cap l p (D - S) E w hc hE hl HSX.out
    rw [show shortOf (D - S) = 0 from if_pos (by omega)] at hsh
    have HSH := Lib.hid hsh
    clear hsh
    go_wp2_with (first
      | (go_at_call 24; refine (HLF.out _ (LotsAt.ex HLA.out (by repeat (first | exact Ex.refl _ | refine Ex.alloc ?_ _ | refine Ex.ext ?_ _ _ | refine Ex.drew ?_ | refine Ex.drewN ?_ _)))).mono ?_; rintro e w1 ⟨rfl, l5, d5, rfl⟩)
      | (go_at_call 25; refine (bare_any _ _).mono ?_; rintro e w1 ⟨rfl, l5, d5, rfl⟩)
      | (go_at_call 26; refine (HFA.out _ (CodeReady.ex HR.out (by repeat (first | exact Ex.refl _ | refine Ex.alloc ?_ _ | refine Ex.ext ?_ _ _ | refine Ex.drew ?_ | refine Ex.drewN ?_ _)))).mono ?_; rintro e w1 ⟨rfl, l5, d5, rfl⟩)
      | (go_at_call 27; refine (HPO.out _ (LotsAt.ex HLA.out (by repeat (first | exact Ex.refl _ | refine Ex.alloc ?_ _ | refine Ex.ext ?_ _ _ | refine Ex.drew ?_ | refine Ex.drewN ?_ _)))).mono ?_; rintro e w1 ⟨rfl, l5, d5, rfl⟩)
      | (go_at_call 28; refine (HD1.out _ (LotsAt.ex HLA.out (by repeat (first | exact Ex.refl _ | refine Ex.alloc ?_ _ | refine Ex.ext ?_ _ _ | refine Ex.drew ?_ | refine Ex.drewN ?_ _)))).mono ?_; rintro e w1 ⟨rfl, rfl⟩)
      | (go_at_call 29; refine (HS1.out _ (LotsAt.ex HLA.out (by repeat (first | exact Ex.refl _ | refine Ex.alloc ?_ _ | refine Ex.ext ?_ _ _ | refine Ex.drew ?_ | refine Ex.drewN ?_ _)))).mono ?_; rintro e w1 ⟨rfl, rfl⟩))
    go_loop [19, 22] (fun n i => ∃ (k : Nat), k ≤ len ∧ i = .int .i64 k ∧ n = .int .i64 (sumOf (isStrict side p) (l.take k))) (fun _ i => len - (intOf i).toNat)
    case atStart => exact ⟨0, Nat.zero_le _, rfl, (by simp [sumOf])⟩
    case round =>
      obtain ⟨k, hk, rfl, rfl⟩ := hrel
      by_cases hlt : k < len
      · have hkl : k < l.length := by rw [HLEN.out]; omega
        obtain ⟨b, off, rfl, hbs, hz⟩ := HLA.out.2.2.2 (by omega)
        have hzk := hz k hkl
        have ha0 : l[k]? = some (l[k]'hkl) := List.getElem?_eq_getElem hkl
        clear hz
        generalize l[k]'hkl = a at hzk ha0
        have a0 := hzk 0 (by omega)
        have a1 := hzk 1 (by omega)
        have a2 := hzk 2 (by omega)
        have a3 := hzk 3 (by omega)
        have a4 := hzk 4 (by omega)
        simp only [Lot.cells, List.getElem?_cons_zero, List.getElem?_cons_succ, Nat.add_zero] at a0 a1 a2 a3 a4
        clear hzk
        have hstep := sumOf_step (isStrict side p) ha0
        obtain ⟨hb0, hb1⟩ := HOK.out.sum_bounds (isStrict side p) k
        obtain ⟨hq0, hq1⟩ := HOK.out.qty ha0
        have HS := Lib.hid hstep
        clear hstep ha0
        generalize sumOf (isStrict side p) (l.take k) = n at *
        cases h1 : (a.side == side)
        · have htk : isStrict side p a = false := by simp only [isStrict, *, Bool.false_and, Bool.true_and, Bool.and_true, Bool.and_false, Bool.or_true, Bool.true_or, Bool.false_or, Bool.or_false] <;> (first | done | rfl | (simp; done) | (simp; omega))
          have HTK := Lib.hid htk
          clear htk
          go_wp2_with fail
          all_goals
            go_round
            case measure => simp [intOf]; omega
            case rel => exact ⟨k + 1, by omega, by go_num, by rw [HS.out, HTK.out]; first | rfl | (simp; done)⟩
        cases h2 : (side == 0)
        · cases h3 : (side == 1)
          · have htk : isStrict side p a = false := by simp only [isStrict, *, Bool.false_and, Bool.true_and, Bool.and_true, Bool.and_false, Bool.or_true, Bool.true_or, Bool.false_or, Bool.or_false] <;> (first | done | rfl | (simp; done) | (simp; omega))
            have HTK := Lib.hid htk
            clear htk
            go_wp2_with fail
            all_goals
              go_round
              case measure => simp [intOf]; omega
              case rel => exact ⟨k + 1, by omega, by go_num, by rw [HS.out, HTK.out]; first | rfl | (simp; done)⟩
          · by_cases h4 : a.price < p
            · have htk : isStrict side p a = true := by simp only [isStrict, *, Bool.false_and, Bool.true_and, Bool.and_true, Bool.and_false, Bool.or_true, Bool.true_or, Bool.false_or, Bool.or_false] <;> (first | done | rfl | (simp; done) | (simp; omega))
              have HTK := Lib.hid htk
              clear htk
              go_wp2_with fail
              all_goals
                go_round
                case measure => simp [intOf]; omega
                case rel => exact ⟨k + 1, by omega, by go_num, by rw [HS.out, HTK.out]; first | rfl | (simp; done)⟩
            · have htk : isStrict side p a = false := by simp only [isStrict, *, Bool.false_and, Bool.true_and, Bool.and_true, Bool.and_false, Bool.or_true, Bool.true_or, Bool.false_or, Bool.or_false] <;> (first | done | rfl | (simp; done) | (simp; omega))
              have HTK := Lib.hid htk
              clear htk
              go_wp2_with fail
              all_goals
                go_round
                case measure => simp [intOf]; omega
                case rel => exact ⟨k + 1, by omega, by go_num, by rw [HS.out, HTK.out]; first | rfl | (simp; done)⟩
        · have h3 : (side == 1) = false := by simp at h2 ⊢; omega
          by_cases h4 : a.price > p
          · have htk : isStrict side p a = true := by simp only [isStrict, *, Bool.false_and, Bool.true_and, Bool.and_true, Bool.and_false, Bool.or_true, Bool.true_or, Bool.false_or, Bool.or_false] <;> (first | done | rfl | (simp; done) | (simp; omega))
            have HTK := Lib.hid htk
            clear htk
            go_wp2_with fail
            all_goals
              go_round
              case measure => simp [intOf]; omega
              case rel => exact ⟨k + 1, by omega, by go_num, by rw [HS.out, HTK.out]; first | rfl | (simp; done)⟩
          · have htk : isStrict side p a = false := by simp only [isStrict, *, Bool.false_and, Bool.true_and, Bool.and_true, Bool.and_false, Bool.or_true, Bool.true_or, Bool.false_or, Bool.or_false] <;> (first | done | rfl | (simp; done) | (simp; omega))
            have HTK := Lib.hid htk
            clear htk
            go_wp2_with fail
            all_goals
              go_round
              case measure => simp [intOf]; omega
              case rel => exact ⟨k + 1, by omega, by go_num, by rw [HS.out, HTK.out]; first | rfl | (simp; done)⟩
      · have htk : l.take k = l := List.take_of_length_le (by have := HLEN.out; omega)
        rw [htk]
        generalize sumOf (isStrict side p) l = n at *
        have hnn : (n == n) = true := by simp
        go_wp2_with (first
          | (go_at_call 30; ((with_reducible refine (HSH.out ao' cap' _ ?_ ?_ ?_).mono ?_); (focus exact hcl); (focus exact Errs.ex hE2 (by repeat (first | exact Ex.refl _ | refine Ex.alloc ?_ _ | refine Ex.ext ?_ _ _ | refine Ex.drew ?_ | refine Ex.drewN ?_ _))); (focus exact LotsAt.ex HLO.out (by repeat (first | exact Ex.refl _ | refine Ex.alloc ?_ _ | refine Ex.ext ?_ _ _ | refine Ex.drew ?_ | refine Ex.drewN ?_ _)))); rintro e w1 ⟨rfl, l5, d5, rfl⟩)
          | (go_at_call 23; ((with_reducible refine (HTR.out ao' cap' _ ?_ ?_ ?_).mono ?_); (focus exact hcl); (focus exact Errs.ex hE2 (by repeat (first | exact Ex.refl _ | refine Ex.alloc ?_ _ | refine Ex.ext ?_ _ _ | refine Ex.drew ?_ | refine Ex.drewN ?_ _))); (focus exact LotsAt.ex HLO.out (by repeat (first | exact Ex.refl _ | refine Ex.alloc ?_ _ | refine Ex.ext ?_ _ _ | refine Ex.drew ?_ | refine Ex.drewN ?_ _)))); rintro e w1 ⟨rfl, l5, d5, rfl⟩))
        all_goals go_ret
        all_goals exact ⟨rfl, HXP.out.trans (by repeat (first | exact Ex.refl _ | refine Ex.alloc ?_ _ | refine Ex.ext ?_ _ _ | refine Ex.drew ?_ | refine Ex.drewN ?_ _))⟩
  by_cases k2 : D > S
  · have hsh := fun ao cap w hc hE hl => short_any ao len cap l p (D - S) E w hc hE hl HSX.out
    rw [show shortOf (D - S) = 1 by unfold shortOf; rw [if_neg (by omega), if_pos (by omega)]] at hsh
    have HSH := Lib.hid hsh
    clear hsh
    go_wp2_with (first
      | (go_at_call 24; refine (HLF.out _ (LotsAt.ex HLA.out (by repeat (first | exact Ex.refl _ | refine Ex.alloc ?_ _ | refine Ex.ext ?_ _ _ | refine Ex.drew ?_ | refine Ex.drewN ?_ _)))).mono ?_; rintro e w1 ⟨rfl, l5, d5, rfl⟩)
      | (go_at_call 25; refine (bare_any _ _).mono ?_; rintro e w1 ⟨rfl, l5, d5, rfl⟩)
      | (go_at_call 26; refine (HFA.out _ (CodeReady.ex HR.out (by repeat (first | exact Ex.refl _ | refine Ex.alloc ?_ _ | refine Ex.ext ?_ _ _ | refine Ex.drew ?_ | refine Ex.drewN ?_ _)))).mono ?_; rintro e w1 ⟨rfl, l5, d5, rfl⟩)
      | (go_at_call 27; refine (HPO.out _ (LotsAt.ex HLA.out (by repeat (first | exact Ex.refl _ | refine Ex.alloc ?_ _ | refine Ex.ext ?_ _ _ | refine Ex.drew ?_ | refine Ex.drewN ?_ _)))).mono ?_; rintro e w1 ⟨rfl, l5, d5, rfl⟩)
      | (go_at_call 28; refine (HD1.out _ (LotsAt.ex HLA.out (by repeat (first | exact Ex.refl _ | refine Ex.alloc ?_ _ | refine Ex.ext ?_ _ _ | refine Ex.drew ?_ | refine Ex.drewN ?_ _)))).mono ?_; rintro e w1 ⟨rfl, rfl⟩)
      | (go_at_call 29; refine (HS1.out _ (LotsAt.ex HLA.out (by repeat (first | exact Ex.refl _ | refine Ex.alloc ?_ _ | refine Ex.ext ?_ _ _ | refine Ex.drew ?_ | refine Ex.drewN ?_ _)))).mono ?_; rintro e w1 ⟨rfl, rfl⟩))
    go_loop [19, 22] (fun n i => ∃ (k : Nat), k ≤ len ∧ i = .int .i64 k ∧ n = .int .i64 (sumOf (isStrict side p) (l.take k))) (fun _ i => len - (intOf i).toNat)
    case atStart => exact ⟨0, Nat.zero_le _, rfl, (by simp [sumOf])⟩
    case round =>
      obtain ⟨k, hk, rfl, rfl⟩ := hrel
      by_cases hlt : k < len
      · have hkl : k < l.length := by rw [HLEN.out]; omega
        obtain ⟨b, off, rfl, hbs, hz⟩ := HLA.out.2.2.2 (by omega)
        have hzk := hz k hkl
        have ha0 : l[k]? = some (l[k]'hkl) := List.getElem?_eq_getElem hkl
        clear hz
        generalize l[k]'hkl = a at hzk ha0
        have a0 := hzk 0 (by omega)
        have a1 := hzk 1 (by omega)
        have a2 := hzk 2 (by omega)
        have a3 := hzk 3 (by omega)
        have a4 := hzk 4 (by omega)
        simp only [Lot.cells, List.getElem?_cons_zero, List.getElem?_cons_succ, Nat.add_zero] at a0 a1 a2 a3 a4
        clear hzk
        have hstep := sumOf_step (isStrict side p) ha0
        obtain ⟨hb0, hb1⟩ := HOK.out.sum_bounds (isStrict side p) k
        obtain ⟨hq0, hq1⟩ := HOK.out.qty ha0
        have HS := Lib.hid hstep
        clear hstep ha0
        generalize sumOf (isStrict side p) (l.take k) = n at *
        cases h1 : (a.side == side)
        · have htk : isStrict side p a = false := by simp only [isStrict, *, Bool.false_and, Bool.true_and, Bool.and_true, Bool.and_false, Bool.or_true, Bool.true_or, Bool.false_or, Bool.or_false] <;> (first | done | rfl | (simp; done) | (simp; omega))
          have HTK := Lib.hid htk
          clear htk
          go_wp2_with fail
          all_goals
            go_round
            case measure => simp [intOf]; omega
            case rel => exact ⟨k + 1, by omega, by go_num, by rw [HS.out, HTK.out]; first | rfl | (simp; done)⟩
        cases h2 : (side == 0)
        · cases h3 : (side == 1)
          · have htk : isStrict side p a = false := by simp only [isStrict, *, Bool.false_and, Bool.true_and, Bool.and_true, Bool.and_false, Bool.or_true, Bool.true_or, Bool.false_or, Bool.or_false] <;> (first | done | rfl | (simp; done) | (simp; omega))
            have HTK := Lib.hid htk
            clear htk
            go_wp2_with fail
            all_goals
              go_round
              case measure => simp [intOf]; omega
              case rel => exact ⟨k + 1, by omega, by go_num, by rw [HS.out, HTK.out]; first | rfl | (simp; done)⟩
          · by_cases h4 : a.price < p
            · have htk : isStrict side p a = true := by simp only [isStrict, *, Bool.false_and, Bool.true_and, Bool.and_true, Bool.and_false, Bool.or_true, Bool.true_or, Bool.false_or, Bool.or_false] <;> (first | done | rfl | (simp; done) | (simp; omega))
              have HTK := Lib.hid htk
              clear htk
              go_wp2_with fail
              all_goals
                go_round
                case measure => simp [intOf]; omega
                case rel => exact ⟨k + 1, by omega, by go_num, by rw [HS.out, HTK.out]; first | rfl | (simp; done)⟩
            · have htk : isStrict side p a = false := by simp only [isStrict, *, Bool.false_and, Bool.true_and, Bool.and_true, Bool.and_false, Bool.or_true, Bool.true_or, Bool.false_or, Bool.or_false] <;> (first | done | rfl | (simp; done) | (simp; omega))
              have HTK := Lib.hid htk
              clear htk
              go_wp2_with fail
              all_goals
                go_round
                case measure => simp [intOf]; omega
                case rel => exact ⟨k + 1, by omega, by go_num, by rw [HS.out, HTK.out]; first | rfl | (simp; done)⟩
        · have h3 : (side == 1) = false := by simp at h2 ⊢; omega
          by_cases h4 : a.price > p
          · have htk : isStrict side p a = true := by simp only [isStrict, *, Bool.false_and, Bool.true_and, Bool.and_true, Bool.and_false, Bool.or_true, Bool.true_or, Bool.false_or, Bool.or_false] <;> (first | done | rfl | (simp; done) | (simp; omega))
            have HTK := Lib.hid htk
            clear htk
            go_wp2_with fail
            all_goals
              go_round
              case measure => simp [intOf]; omega
              case rel => exact ⟨k + 1, by omega, by go_num, by rw [HS.out, HTK.out]; first | rfl | (simp; done)⟩
          · have htk : isStrict side p a = false := by simp only [isStrict, *, Bool.false_and, Bool.true_and, Bool.and_true, Bool.and_false, Bool.or_true, Bool.true_or, Bool.false_or, Bool.or_false] <;> (first | done | rfl | (simp; done) | (simp; omega))
            have HTK := Lib.hid htk
            clear htk
            go_wp2_with fail
            all_goals
              go_round
              case measure => simp [intOf]; omega
              case rel => exact ⟨k + 1, by omega, by go_num, by rw [HS.out, HTK.out]; first | rfl | (simp; done)⟩
      · have htk : l.take k = l := List.take_of_length_le (by have := HLEN.out; omega)
        rw [htk]
        generalize sumOf (isStrict side p) l = n at *
        have hnn : (n == n) = true := by simp
        go_wp2_with (first
          | (go_at_call 30; ((with_reducible refine (HSH.out ao' cap' _ ?_ ?_ ?_).mono ?_); (focus exact hcl); (focus exact Errs.ex hE2 (by repeat (first | exact Ex.refl _ | refine Ex.alloc ?_ _ | refine Ex.ext ?_ _ _ | refine Ex.drew ?_ | refine Ex.drewN ?_ _))); (focus exact LotsAt.ex HLO.out (by repeat (first | exact Ex.refl _ | refine Ex.alloc ?_ _ | refine Ex.ext ?_ _ _ | refine Ex.drew ?_ | refine Ex.drewN ?_ _)))); rintro e w1 ⟨rfl, l5, d5, rfl⟩)
          | (go_at_call 23; ((with_reducible refine (HTR.out ao' cap' _ ?_ ?_ ?_).mono ?_); (focus exact hcl); (focus exact Errs.ex hE2 (by repeat (first | exact Ex.refl _ | refine Ex.alloc ?_ _ | refine Ex.ext ?_ _ _ | refine Ex.drew ?_ | refine Ex.drewN ?_ _))); (focus exact LotsAt.ex HLO.out (by repeat (first | exact Ex.refl _ | refine Ex.alloc ?_ _ | refine Ex.ext ?_ _ _ | refine Ex.drew ?_ | refine Ex.drewN ?_ _)))); rintro e w1 ⟨rfl, l5, d5, rfl⟩))
        all_goals go_ret
        all_goals exact ⟨rfl, HXP.out.trans (by repeat (first | exact Ex.refl _ | refine Ex.alloc ?_ _ | refine Ex.ext ?_ _ _ | refine Ex.drew ?_ | refine Ex.drewN ?_ _))⟩
  · have hsh := fun ao cap w hc hE hl => short_any ao len cap l p (D - S) E w hc hE hl HSX.out
    rw [show shortOf (D - S) = -1 by unfold shortOf; rw [if_neg (by omega), if_neg (by omega)]] at hsh
    have HSH := Lib.hid hsh
    clear hsh
    go_wp2_with (first
      | (go_at_call 24; refine (HLF.out _ (LotsAt.ex HLA.out (by repeat (first | exact Ex.refl _ | refine Ex.alloc ?_ _ | refine Ex.ext ?_ _ _ | refine Ex.drew ?_ | refine Ex.drewN ?_ _)))).mono ?_; rintro e w1 ⟨rfl, l5, d5, rfl⟩)
      | (go_at_call 25; refine (bare_any _ _).mono ?_; rintro e w1 ⟨rfl, l5, d5, rfl⟩)
      | (go_at_call 26; refine (HFA.out _ (CodeReady.ex HR.out (by repeat (first | exact Ex.refl _ | refine Ex.alloc ?_ _ | refine Ex.ext ?_ _ _ | refine Ex.drew ?_ | refine Ex.drewN ?_ _)))).mono ?_; rintro e w1 ⟨rfl, l5, d5, rfl⟩)
      | (go_at_call 27; refine (HPO.out _ (LotsAt.ex HLA.out (by repeat (first | exact Ex.refl _ | refine Ex.alloc ?_ _ | refine Ex.ext ?_ _ _ | refine Ex.drew ?_ | refine Ex.drewN ?_ _)))).mono ?_; rintro e w1 ⟨rfl, l5, d5, rfl⟩)
      | (go_at_call 28; refine (HD1.out _ (LotsAt.ex HLA.out (by repeat (first | exact Ex.refl _ | refine Ex.alloc ?_ _ | refine Ex.ext ?_ _ _ | refine Ex.drew ?_ | refine Ex.drewN ?_ _)))).mono ?_; rintro e w1 ⟨rfl, rfl⟩)
      | (go_at_call 29; refine (HS1.out _ (LotsAt.ex HLA.out (by repeat (first | exact Ex.refl _ | refine Ex.alloc ?_ _ | refine Ex.ext ?_ _ _ | refine Ex.drew ?_ | refine Ex.drewN ?_ _)))).mono ?_; rintro e w1 ⟨rfl, rfl⟩))
    go_loop [19, 22] (fun n i => ∃ (k : Nat), k ≤ len ∧ i = .int .i64 k ∧ n = .int .i64 (sumOf (isStrict side p) (l.take k))) (fun _ i => len - (intOf i).toNat)
    case atStart => exact ⟨0, Nat.zero_le _, rfl, (by simp [sumOf])⟩
    case round =>
      obtain ⟨k, hk, rfl, rfl⟩ := hrel
      by_cases hlt : k < len
      · have hkl : k < l.length := by rw [HLEN.out]; omega
        obtain ⟨b, off, rfl, hbs, hz⟩ := HLA.out.2.2.2 (by omega)
        have hzk := hz k hkl
        have ha0 : l[k]? = some (l[k]'hkl) := List.getElem?_eq_getElem hkl
        clear hz
        generalize l[k]'hkl = a at hzk ha0
        have a0 := hzk 0 (by omega)
        have a1 := hzk 1 (by omega)
        have a2 := hzk 2 (by omega)
        have a3 := hzk 3 (by omega)
        have a4 := hzk 4 (by omega)
        simp only [Lot.cells, List.getElem?_cons_zero, List.getElem?_cons_succ, Nat.add_zero] at a0 a1 a2 a3 a4
        clear hzk
        have hstep := sumOf_step (isStrict side p) ha0
        obtain ⟨hb0, hb1⟩ := HOK.out.sum_bounds (isStrict side p) k
        obtain ⟨hq0, hq1⟩ := HOK.out.qty ha0
        have HS := Lib.hid hstep
        clear hstep ha0
        generalize sumOf (isStrict side p) (l.take k) = n at *
        cases h1 : (a.side == side)
        · have htk : isStrict side p a = false := by simp only [isStrict, *, Bool.false_and, Bool.true_and, Bool.and_true, Bool.and_false, Bool.or_true, Bool.true_or, Bool.false_or, Bool.or_false] <;> (first | done | rfl | (simp; done) | (simp; omega))
          have HTK := Lib.hid htk
          clear htk
          go_wp2_with fail
          all_goals
            go_round
            case measure => simp [intOf]; omega
            case rel => exact ⟨k + 1, by omega, by go_num, by rw [HS.out, HTK.out]; first | rfl | (simp; done)⟩
        cases h2 : (side == 0)
        · cases h3 : (side == 1)
          · have htk : isStrict side p a = false := by simp only [isStrict, *, Bool.false_and, Bool.true_and, Bool.and_true, Bool.and_false, Bool.or_true, Bool.true_or, Bool.false_or, Bool.or_false] <;> (first | done | rfl | (simp; done) | (simp; omega))
            have HTK := Lib.hid htk
            clear htk
            go_wp2_with fail
            all_goals
              go_round
              case measure => simp [intOf]; omega
              case rel => exact ⟨k + 1, by omega, by go_num, by rw [HS.out, HTK.out]; first | rfl | (simp; done)⟩
          · by_cases h4 : a.price < p
            · have htk : isStrict side p a = true := by simp only [isStrict, *, Bool.false_and, Bool.true_and, Bool.and_true, Bool.and_false, Bool.or_true, Bool.true_or, Bool.false_or, Bool.or_false] <;> (first | done | rfl | (simp; done) | (simp; omega))
              have HTK := Lib.hid htk
              clear htk
              go_wp2_with fail
              all_goals
                go_round
                case measure => simp [intOf]; omega
                case rel => exact ⟨k + 1, by omega, by go_num, by rw [HS.out, HTK.out]; first | rfl | (simp; done)⟩
            · have htk : isStrict side p a = false := by simp only [isStrict, *, Bool.false_and, Bool.true_and, Bool.and_true, Bool.and_false, Bool.or_true, Bool.true_or, Bool.false_or, Bool.or_false] <;> (first | done | rfl | (simp; done) | (simp; omega))
              have HTK := Lib.hid htk
              clear htk
              go_wp2_with fail
              all_goals
                go_round
                case measure => simp [intOf]; omega
                case rel => exact ⟨k + 1, by omega, by go_num, by rw [HS.out, HTK.out]; first | rfl | (simp; done)⟩
        · have h3 : (side == 1) = false := by simp at h2 ⊢; omega
          by_cases h4 : a.price > p
          · have htk : isStrict side p a = true := by simp only [isStrict, *, Bool.false_and, Bool.true_and, Bool.and_true, Bool.and_false, Bool.or_true, Bool.true_or, Bool.false_or, Bool.or_false] <;> (first | done | rfl | (simp; done) | (simp; omega))
            have HTK := Lib.hid htk
            clear htk
            go_wp2_with fail
            all_goals
              go_round
              case measure => simp [intOf]; omega
              case rel => exact ⟨k + 1, by omega, by go_num, by rw [HS.out, HTK.out]; first | rfl | (simp; done)⟩
          · have htk : isStrict side p a = false := by simp only [isStrict, *, Bool.false_and, Bool.true_and, Bool.and_true, Bool.and_false, Bool.or_true, Bool.true_or, Bool.false_or, Bool.or_false] <;> (first | done | rfl | (simp; done) | (simp; omega))
            have HTK := Lib.hid htk
            clear htk
            go_wp2_with fail
            all_goals
              go_round
              case measure => simp [intOf]; omega
              case rel => exact ⟨k + 1, by omega, by go_num, by rw [HS.out, HTK.out]; first | rfl | (simp; done)⟩
      · have htk : l.take k = l := List.take_of_length_le (by have := HLEN.out; omega)
        rw [htk]
        generalize sumOf (isStrict side p) l = n at *
        have hnn : (n == n) = true := by simp
        go_wp2_with (first
          | (go_at_call 30; ((with_reducible refine (HSH.out ao' cap' _ ?_ ?_ ?_).mono ?_); (focus exact hcl); (focus exact Errs.ex hE2 (by repeat (first | exact Ex.refl _ | refine Ex.alloc ?_ _ | refine Ex.ext ?_ _ _ | refine Ex.drew ?_ | refine Ex.drewN ?_ _))); (focus exact LotsAt.ex HLO.out (by repeat (first | exact Ex.refl _ | refine Ex.alloc ?_ _ | refine Ex.ext ?_ _ _ | refine Ex.drew ?_ | refine Ex.drewN ?_ _)))); rintro e w1 ⟨rfl, l5, d5, rfl⟩)
          | (go_at_call 23; ((with_reducible refine (HTR.out ao' cap' _ ?_ ?_ ?_).mono ?_); (focus exact hcl); (focus exact Errs.ex hE2 (by repeat (first | exact Ex.refl _ | refine Ex.alloc ?_ _ | refine Ex.ext ?_ _ _ | refine Ex.drew ?_ | refine Ex.drewN ?_ _))); (focus exact LotsAt.ex HLO.out (by repeat (first | exact Ex.refl _ | refine Ex.alloc ?_ _ | refine Ex.ext ?_ _ _ | refine Ex.drew ?_ | refine Ex.drewN ?_ _)))); rintro e w1 ⟨rfl, l5, d5, rfl⟩))
        all_goals go_ret
        all_goals exact ⟨rfl, HXP.out.trans (by repeat (first | exact Ex.refl _ | refine Ex.alloc ?_ _ | refine Ex.ext ?_ _ _ | refine Ex.drew ?_ | refine Ex.drewN ?_ _))⟩
end Go.Proofs.YtjkaeiioofknoaaDoor
