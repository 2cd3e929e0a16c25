/- The walk of RationSame. -/
import Derived.Test.YtjkaeiioofknoaaDoorFilledOf
import Derived.Test.YtjkaeiioofknoaaDoorRationed
import Derived.Test.YtjkaeiioofknoaaDoorOwn
set_option linter.unusedSimpArgs false
set_option linter.unusedVariables false
namespace Go.Proofs.YtjkaeiioofknoaaDoor
open Go.RowKit

set_option maxRecDepth 100000 in
theorem same_out (ao : Option Addr) (len cap : Nat) (price volume sa sb : Int) (E : Nat → Addr) (w : World) (hE : Errs E [2, 3, 7, 8] w) (hm : len ≤ 9223372036854775807) (h1 : len > 60) :
    Calls Tryd.prog 9 #[.slice ao len cap, .int .i64 price, .int .i64 volume, .int .u32 sa, .int .u32 sb] w fun e w' => e = .returned (.bool true) ∧ Ex w w' := by
  go_enter Tryd.func9, Tryd.ntmps9
  go_wp2_with (go_at_call 33; refine (rationed_any E _ (by exact Errs.sub (hE.ex (by repeat (first | exact Ex.refl _ | refine Ex.alloc ?_ _ | refine Ex.ext ?_ _ _ | refine Ex.drew ?_ | refine Ex.drewN ?_ _))) (by decide))).mono ?_; rintro e w1 ⟨rfl, l1, d1, rfl⟩)
  all_goals go_ret
  all_goals exact ⟨rfl, (by repeat (first | exact Ex.refl _ | refine Ex.alloc ?_ _ | refine Ex.ext ?_ _ _ | refine Ex.drew ?_ | refine Ex.drewN ?_ _))⟩
set_option maxRecDepth 100000 in
set_option maxHeartbeats 4000000 in
theorem same_bad (ao : Option Addr) (len cap : Nat) (l : List Lot) (price volume sa sb : Int) (E : Nat → Addr) (w : World) (hcap : len ≤ cap ∧ cap ≤ 9223372036854775807 ∧ (ao = none → cap = 0)) (hE : Errs E [2, 3, 7, 8] w) (hl : LotsAt w ao len l) (h1 : len ≤ 60) (hok : ¬ LotsOk l) :
    Calls Tryd.prog 9 #[.slice ao len cap, .int .i64 price, .int .i64 volume, .int .u32 sa, .int .u32 sb] w fun e w' => e = .returned (.bool true) ∧ Ex w w' := by
  have HL := Lib.hid hl
  have HOK := Lib.hid hok
  clear hl hok
  go_enter Tryd.func9, Tryd.ntmps9
  go_wp2_with (go_at_call 33; refine (rationed_any E _ (by exact Errs.sub (hE.ex (by repeat (first | exact Ex.refl _ | refine Ex.alloc ?_ _ | refine Ex.ext ?_ _ _ | refine Ex.drew ?_ | refine Ex.drewN ?_ _))) (by decide))).mono ?_; rintro e w1 ⟨rfl, l1, d1, rfl⟩)
  refine (ownLots_any ao len cap l _ hcap (by omega) (HL.out.ex (by repeat (first | exact Ex.refl _ | refine Ex.alloc ?_ _ | refine Ex.ext ?_ _ _ | refine Ex.drew ?_ | refine Ex.drewN ?_ _)))).mono ?_
  rintro e wo ⟨⟨ao', cap', rfl, hc', hl'⟩, hx1'⟩
  have HX : Hid (Ex w wo) := Lib.hid (Ex.trans (by repeat (first | exact Ex.refl _ | refine Ex.alloc ?_ _ | refine Ex.ext ?_ _ _ | refine Ex.drew ?_ | refine Ex.drewN ?_ _)) hx1')
  have hE' := hE.ex HX.out
  clear hx1'
  have HL' := Lib.hid hl'
  clear hl'
  have hcl := hc'.1
  go_wp2_with fail
  refine (fills_bad _ len _ l price volume sa E _ hc'.1 hE' HL'.out HOK.out).mono ?_
  rintro e wp ⟨⟨t1, x1, rfl, hV1⟩, hxp⟩
  have HXP : Hid (Ex w wp) := Lib.hid (HX.out.trans hxp)
  have HL2 := Lib.hid (HL'.out.ex hxp)
  have hE2 := hE'.ex hxp
  clear hxp
  go_wp2_with fail
  refine (fills_bad _ len _ l price volume sb E _ hc'.1 (hE2.ex (by repeat (first | exact Ex.refl _ | refine Ex.alloc ?_ _ | refine Ex.ext ?_ _ _ | refine Ex.drew ?_ | refine Ex.drewN ?_ _))) (HL2.out.ex (by repeat (first | exact Ex.refl _ | refine Ex.alloc ?_ _ | refine Ex.ext ?_ _ _ | refine Ex.drew ?_ | refine Ex.drewN ?_ _))) HOK.out).mono ?_
  rintro e wq ⟨⟨t2, x2, rfl, hV2⟩, hxq⟩
  have HXQ : Hid (Ex w wq) := Lib.hid (HXP.out.trans (Ex.trans (by repeat (first | exact Ex.refl _ | refine Ex.alloc ?_ _ | refine Ex.ext ?_ _ _ | refine Ex.drew ?_ | refine Ex.drewN ?_ _)) hxq))
  clear hxq
  go_wp2_with fail
  all_goals go_ret
  all_goals exact ⟨rfl, HXQ.out.trans (by repeat (first | exact Ex.refl _ | refine Ex.alloc ?_ _ | refine Ex.ext ?_ _ _ | refine Ex.drew ?_ | refine Ex.drewN ?_ _))⟩
set_option maxRecDepth 100000 in
set_option maxHeartbeats 4000000 in
theorem same_bound (ao : Option Addr) (len cap : Nat) (l : List Lot) (price volume sa sb : Int) (E : Nat → Addr) (w : World) (hcap : len ≤ cap ∧ cap ≤ 9223372036854775807 ∧ (ao = none → cap = 0)) (hE : Errs E [2, 3, 7, 8] w) (hl : LotsAt w ao len l) (h1 : len ≤ 60) (hok : LotsOk l) (hb : price < 1 ∨ 1000 < price ∨ volume < 0) :
    Calls Tryd.prog 9 #[.slice ao len cap, .int .i64 price, .int .i64 volume, .int .u32 sa, .int .u32 sb] w fun e w' => e = .returned (.bool true) ∧ Ex w w' := by
  have HL := Lib.hid hl
  have HOK := Lib.hid hok
  have HBB := Lib.hid hb
  clear hl hok hb
  go_enter Tryd.func9, Tryd.ntmps9
  go_wp2_with (go_at_call 33; refine (rationed_any E _ (by exact Errs.sub (hE.ex (by repeat (first | exact Ex.refl _ | refine Ex.alloc ?_ _ | refine Ex.ext ?_ _ _ | refine Ex.drew ?_ | refine Ex.drewN ?_ _))) (by decide))).mono ?_; rintro e w1 ⟨rfl, l1, d1, rfl⟩)
  refine (ownLots_any ao len cap l _ hcap (by omega) (HL.out.ex (by repeat (first | exact Ex.refl _ | refine Ex.alloc ?_ _ | refine Ex.ext ?_ _ _ | refine Ex.drew ?_ | refine Ex.drewN ?_ _)))).mono ?_
  rintro e wo ⟨⟨ao', cap', rfl, hc', hl'⟩, hx1'⟩
  have HX : Hid (Ex w wo) := Lib.hid (Ex.trans (by repeat (first | exact Ex.refl _ | refine Ex.alloc ?_ _ | refine Ex.ext ?_ _ _ | refine Ex.drew ?_ | refine Ex.drewN ?_ _)) hx1')
  have hE' := hE.ex HX.out
  clear hx1'
  have HL' := Lib.hid hl'
  clear hl'
  have hcl := hc'.1
  go_wp2_with fail
  refine (fills_bound _ len _ l price volume sa E _ hc'.1 hE' HL'.out HOK.out HBB.out).mono ?_
  rintro e wp ⟨rfl, hxp⟩
  have HXP : Hid (Ex w wp) := Lib.hid (HX.out.trans hxp)
  have HL2 := Lib.hid (HL'.out.ex hxp)
  have hE2 := hE'.ex hxp
  clear hxp
  rw [errV_pos _ _ (by decide)]
  go_wp2_with fail
  refine (fills_bound _ len _ l price volume sb E _ hc'.1 (hE2.ex (by repeat (first | exact Ex.refl _ | refine Ex.alloc ?_ _ | refine Ex.ext ?_ _ _ | refine Ex.drew ?_ | refine Ex.drewN ?_ _))) (HL2.out.ex (by repeat (first | exact Ex.refl _ | refine Ex.alloc ?_ _ | refine Ex.ext ?_ _ _ | refine Ex.drew ?_ | refine Ex.drewN ?_ _))) HOK.out HBB.out).mono ?_
  rintro e wq ⟨rfl, hxq⟩
  have HXQ : Hid (Ex w wq) := Lib.hid (HXP.out.trans (Ex.trans (by repeat (first | exact Ex.refl _ | refine Ex.alloc ?_ _ | refine Ex.ext ?_ _ _ | refine Ex.drew ?_ | refine Ex.drewN ?_ _)) hxq))
  clear hxq
  rw [errV_pos _ _ (by decide)]
  go_wp2_with fail
  all_goals go_ret
  all_goals exact ⟨rfl, HXQ.out.trans (by repeat (first | exact Ex.refl _ | refine Ex.alloc ?_ _ | refine Ex.ext ?_ _ _ | refine Ex.drew ?_ | refine Ex.drewN ?_ _))⟩
set_option maxRecDepth 100000 in
set_option maxHeartbeats 4000000 in
theorem same_shape (ao : Option Addr) (len cap : Nat) (l : List Lot) (price volume sa sb : Int) (E : Nat → Addr) (w : World) (hcap : len ≤ cap ∧ cap ≤ 9223372036854775807 ∧ (ao = none → cap = 0)) (hE : Errs E [2, 3, 7, 8] w) (hl : LotsAt w ao len l) (h1 : len ≤ 60) (hok : LotsOk l) (p1 : 1 ≤ price) (p2 : price ≤ 1000) (v0 : 0 ≤ volume) (hv : min (dem l price) (sup l price) < volume) :
    Calls Tryd.prog 9 #[.slice ao len cap, .int .i64 price, .int .i64 volume, .int .u32 sa, .int .u32 sb] w fun e w' => e = .returned (.bool true) ∧ Ex w w' := by
  have HL := Lib.hid hl
  have HOK := Lib.hid hok
  have HV := Lib.hid hv
  clear hl hok hv
  go_enter Tryd.func9, Tryd.ntmps9
  go_wp2_with (go_at_call 33; refine (rationed_any E _ (by exact Errs.sub (hE.ex (by repeat (first | exact Ex.refl _ | refine Ex.alloc ?_ _ | refine Ex.ext ?_ _ _ | refine Ex.drew ?_ | refine Ex.drewN ?_ _))) (by decide))).mono ?_; rintro e w1 ⟨rfl, l1, d1, rfl⟩)
  refine (ownLots_any ao len cap l _ hcap (by omega) (HL.out.ex (by repeat (first | exact Ex.refl _ | refine Ex.alloc ?_ _ | refine Ex.ext ?_ _ _ | refine Ex.drew ?_ | refine Ex.drewN ?_ _)))).mono ?_
  rintro e wo ⟨⟨ao', cap', rfl, hc', hl'⟩, hx1'⟩
  have HX : Hid (Ex w wo) := Lib.hid (Ex.trans (by repeat (first | exact Ex.refl _ | refine Ex.alloc ?_ _ | refine Ex.ext ?_ _ _ | refine Ex.drew ?_ | refine Ex.drewN ?_ _)) hx1')
  have hE' := hE.ex HX.out
  clear hx1'
  have HL' := Lib.hid hl'
  clear hl'
  have hcl := hc'.1
  go_wp2_with fail
  refine (fills_shape _ len _ l price volume sa E _ hc'.1 hE' HL'.out HOK.out p1 p2 v0 HV.out).mono ?_
  rintro e wp ⟨rfl, hxp⟩
  have HXP : Hid (Ex w wp) := Lib.hid (HX.out.trans hxp)
  have HL2 := Lib.hid (HL'.out.ex hxp)
  have hE2 := hE'.ex hxp
  clear hxp
  rw [errV_pos _ _ (by decide)]
  go_wp2_with fail
  refine (fills_shape _ len _ l price volume sb E _ hc'.1 (hE2.ex (by repeat (first | exact Ex.refl _ | refine Ex.alloc ?_ _ | refine Ex.ext ?_ _ _ | refine Ex.drew ?_ | refine Ex.drewN ?_ _))) (HL2.out.ex (by repeat (first | exact Ex.refl _ | refine Ex.alloc ?_ _ | refine Ex.ext ?_ _ _ | refine Ex.drew ?_ | refine Ex.drewN ?_ _))) HOK.out p1 p2 v0 HV.out).mono ?_
  rintro e wq ⟨rfl, hxq⟩
  have HXQ : Hid (Ex w wq) := Lib.hid (HXP.out.trans (Ex.trans (by repeat (first | exact Ex.refl _ | refine Ex.alloc ?_ _ | refine Ex.ext ?_ _ _ | refine Ex.drew ?_ | refine Ex.drewN ?_ _)) hxq))
  clear hxq
  rw [errV_pos _ _ (by decide)]
  go_wp2_with fail
  all_goals go_ret
  all_goals exact ⟨rfl, HXQ.out.trans (by repeat (first | exact Ex.refl _ | refine Ex.alloc ?_ _ | refine Ex.ext ?_ _ _ | refine Ex.drew ?_ | refine Ex.drewN ?_ _))⟩
theorem same_small {l : List Lot} (hok : LotsOk l) (price volume seed : Int) : (fillsL l price volume seed).length ≤ 100000 := by
  have n1 := sideF_len (levelsL 0 price l) volume seed
  have n2 := sideF_len (levelsL 1 price l) volume ((seed + 1) % 4294967296)
  have m1 := levels_small (side := 0) (price := price) hok
  have m2 := levels_small (side := 1) (price := price) hok
  rw [fillsL, List.length_append]
  omega
set_option maxRecDepth 100000 in
set_option maxHeartbeats 16000000 in
theorem same_ok (ao : Option Addr) (len cap : Nat) (l : List Lot) (price volume sa sb : Int) (E : Nat → Addr) (w : World) (hcap : len ≤ cap ∧ cap ≤ 9223372036854775807 ∧ (ao = none → cap = 0)) (hE : Errs E [2, 3, 7, 8] w) (hl : LotsAt w ao len l) (h1 : len ≤ 60) (hok : LotsOk l) (p1 : 1 ≤ price) (p2 : price ≤ 1000) (v0 : 0 ≤ volume) (hv : volume ≤ min (dem l price) (sup l price)) (ua : U32 sa) (ub : U32 sb) :
    Calls Tryd.prog 9 #[.slice ao len cap, .int .i64 price, .int .i64 volume, .int .u32 sa, .int .u32 sb] w fun e w' => e = .returned (.bool true) ∧ Ex w w' := by
  obtain ⟨P, hP⟩ := fills_parted (price := price) hok v0 sa sb
  have hwh : dem l price = volume → sup l price = volume → fillsL l price volume sa = fillsL l price volume sb := fun h0 h1 => fills_whole hok h0 h1 sa sb
  have FRA := Lib.hid (fills_fair (price := price) (volume := volume) (seed := sa) hok v0 hv).qty
  have FRB := Lib.hid (fills_fair (price := price) (volume := volume) (seed := sb) hok v0 hv).qty
  have hfa := same_small hok price volume sa
  have hfb := same_small hok price volume sb
  have FOA := fun ao len cap w hc hE hl => fills_ok ao len cap l price volume sa E w hc hE hl hok p1 p2 v0 hv ua
  have FOB := fun ao len cap w hc hE hl => fills_ok ao len cap l price volume sb E w hc hE hl hok p1 p2 v0 hv ub
  have DM := fun ao len cap w hc hE hl => demand_any ao len cap l price E w hc hE hl
  have SU := fun ao len cap w hc hE hl => supply_any ao len cap l price E w hc hE hl
  rw [show curveSum (isDem price) l = dem l price from curveSum_ok hok] at DM
  rw [show curveSum (isSup price) l = sup l price from curveSum_ok hok] at SU
  have HL := Lib.hid hl
  have HLEN := Lib.hid hl.1
  have HOK := Lib.hid hok
  clear hl hok hv ua ub
  generalize dem l price = D at *
  generalize sup l price = S at *
  generalize fillsL l price volume sa = TA at *
  generalize fillsL l price volume sb = TB at *
  have HFA := Lib.hid FOA
  have HFB := Lib.hid FOB
  have HDM := Lib.hid DM
  have HSU := Lib.hid SU
  have HP := Lib.hid hP
  have HWH := Lib.hid hwh
  clear FOA FOB DM SU hP hwh
  go_enter Tryd.func9, Tryd.ntmps9
  go_wp2_with (go_at_call 33; refine (rationed_any E _ (by exact Errs.sub (hE.ex (by repeat (first | exact Ex.refl _ | refine Ex.alloc ?_ _ | refine Ex.ext ?_ _ _ | refine Ex.drew ?_ | refine Ex.drewN ?_ _))) (by decide))).mono ?_; rintro e w1 ⟨rfl, l1, d1, rfl⟩)
  refine (ownLots_any ao len cap l _ hcap (by omega) (HL.out.ex (by repeat (first | exact Ex.refl _ | refine Ex.alloc ?_ _ | refine Ex.ext ?_ _ _ | refine Ex.drew ?_ | refine Ex.drewN ?_ _)))).mono ?_
  rintro e wo ⟨⟨ao', cap', rfl, hc', hl'⟩, hx1'⟩
  have HX : Hid (Ex w wo) := Lib.hid (Ex.trans (by repeat (first | exact Ex.refl _ | refine Ex.alloc ?_ _ | refine Ex.ext ?_ _ _ | refine Ex.drew ?_ | refine Ex.drewN ?_ _)) hx1')
  have hE' := hE.ex HX.out
  clear hx1'
  have HL' := Lib.hid hl'
  clear hl'
  have hcl := hc'.1
  go_wp2_with fail
  refine (HFA.out _ len _ _ hc'.1 hE' HL'.out).mono ?_
  rintro e wp ⟨⟨ao3, cap3, rfl, hc3, hf3⟩, hxp⟩
  have HL2 := Lib.hid (HL'.out.ex hxp)
  have hE2 := hE'.ex hxp
  have HF3 := Lib.hid hf3
  have HXP : Hid (Ex w wp) := Lib.hid (HX.out.trans hxp)
  clear hxp hf3
  go_wp2_with fail
  refine (HFB.out _ len _ _ hc'.1 (hE2.ex (by repeat (first | exact Ex.refl _ | refine Ex.alloc ?_ _ | refine Ex.ext ?_ _ _ | refine Ex.drew ?_ | refine Ex.drewN ?_ _))) (HL2.out.ex (by repeat (first | exact Ex.refl _ | refine Ex.alloc ?_ _ | refine Ex.ext ?_ _ _ | refine Ex.drew ?_ | refine Ex.drewN ?_ _)))).mono ?_
  rintro e wq ⟨⟨ao4, cap4, rfl, hc4, hf4⟩, hxq⟩
  have hxq2 : Ex wp wq := Ex.trans (by repeat (first | exact Ex.refl _ | refine Ex.alloc ?_ _ | refine Ex.ext ?_ _ _ | refine Ex.drew ?_ | refine Ex.drewN ?_ _)) hxq
  have HF4 := Lib.hid hf4
  have HF5 := Lib.hid (HF3.out.ex hxq2)
  have HL3 := Lib.hid (HL2.out.ex hxq2)
  have hE3 := hE2.ex hxq2
  have HXQ : Hid (Ex w wq) := Lib.hid (HXP.out.trans hxq2)
  clear hxq hxq2 hf4 HL HX HL' hE' hE HL2 hE2 HF3 HFA HFB
  go_upto_region 9 with fail
  go_cut [75] (fun v wx => v = .bool false ∧ Ex wq wx)
  case first =>
    by_cases hD : D = volume
    · by_cases hS : S = volume
      · have hT := HWH.out hD hS
        subst hT hD hS
        go_wp2_with (first
          | (go_at_call 16; refine (HDM.out _ _ _ _ hc'.1 (by exact Errs.sub (hE3.ex (by repeat (first | exact Ex.refl _ | refine Ex.alloc ?_ _ | refine Ex.ext ?_ _ _ | refine Ex.drew ?_ | refine Ex.drewN ?_ _))) (by decide)) (HL3.out.ex (by repeat (first | exact Ex.refl _ | refine Ex.alloc ?_ _ | refine Ex.ext ?_ _ _ | refine Ex.drew ?_ | refine Ex.drewN ?_ _)))).mono ?_; rintro e w1 ⟨rfl, l7, d7, rfl⟩)
          | (go_at_call 17; refine (HSU.out _ _ _ _ hc'.1 (by exact Errs.sub (hE3.ex (by repeat (first | exact Ex.refl _ | refine Ex.alloc ?_ _ | refine Ex.ext ?_ _ _ | refine Ex.drew ?_ | refine Ex.drewN ?_ _))) (by decide)) (HL3.out.ex (by repeat (first | exact Ex.refl _ | refine Ex.alloc ?_ _ | refine Ex.ext ?_ _ _ | refine Ex.drew ?_ | refine Ex.drewN ?_ _)))).mono ?_; rintro e w1 ⟨rfl, l8, d8, rfl⟩)
          | (go_at_call 36; refine (sameFills_any _ _ _ _ TA _ (HF5.out.ex (by repeat (first | exact Ex.refl _ | refine Ex.alloc ?_ _ | refine Ex.ext ?_ _ _ | refine Ex.drew ?_ | refine Ex.drewN ?_ _))) (HF4.out.ex (by repeat (first | exact Ex.refl _ | refine Ex.alloc ?_ _ | refine Ex.ext ?_ _ _ | refine Ex.drew ?_ | refine Ex.drewN ?_ _))) hfa).mono ?_; rintro e w1 ⟨rfl, l9, d9, rfl⟩))
        go_meet
        case rel => exact ⟨rfl, (by repeat (first | exact Ex.refl _ | refine Ex.alloc ?_ _ | refine Ex.ext ?_ _ _ | refine Ex.drew ?_ | refine Ex.drewN ?_ _))⟩
      · subst hD
        have hS1 := decide_eq_false hS
        have hS2 : (S == D) = false := by simpa using hS
        clear HWH
        go_wp2_with (first
          | (go_at_call 16; refine (HDM.out _ _ _ _ hc'.1 (by exact Errs.sub (hE3.ex (by repeat (first | exact Ex.refl _ | refine Ex.alloc ?_ _ | refine Ex.ext ?_ _ _ | refine Ex.drew ?_ | refine Ex.drewN ?_ _))) (by decide)) (HL3.out.ex (by repeat (first | exact Ex.refl _ | refine Ex.alloc ?_ _ | refine Ex.ext ?_ _ _ | refine Ex.drew ?_ | refine Ex.drewN ?_ _)))).mono ?_; rintro e w1 ⟨rfl, l7, d7, rfl⟩)
          | (go_at_call 17; refine (HSU.out _ _ _ _ hc'.1 (by exact Errs.sub (hE3.ex (by repeat (first | exact Ex.refl _ | refine Ex.alloc ?_ _ | refine Ex.ext ?_ _ _ | refine Ex.drew ?_ | refine Ex.drewN ?_ _))) (by decide)) (HL3.out.ex (by repeat (first | exact Ex.refl _ | refine Ex.alloc ?_ _ | refine Ex.ext ?_ _ _ | refine Ex.drew ?_ | refine Ex.drewN ?_ _)))).mono ?_; rintro e w1 ⟨rfl, l8, d8, rfl⟩))
        go_meet
        case rel => exact ⟨rfl, (by repeat (first | exact Ex.refl _ | refine Ex.alloc ?_ _ | refine Ex.ext ?_ _ _ | refine Ex.drew ?_ | refine Ex.drewN ?_ _))⟩
    · have hD1 := decide_eq_false hD
      have hD2 : (D == volume) = false := by simpa using hD
      clear HWH
      go_wp2_with (go_at_call 16; refine (HDM.out _ _ _ _ hc'.1 (by exact Errs.sub (hE3.ex (by repeat (first | exact Ex.refl _ | refine Ex.alloc ?_ _ | refine Ex.ext ?_ _ _ | refine Ex.drew ?_ | refine Ex.drewN ?_ _))) (by decide)) (HL3.out.ex (by repeat (first | exact Ex.refl _ | refine Ex.alloc ?_ _ | refine Ex.ext ?_ _ _ | refine Ex.drew ?_ | refine Ex.drewN ?_ _)))).mono ?_; rintro e w1 ⟨rfl, l7, d7, rfl⟩)
      go_meet
      case rel => exact ⟨rfl, (by repeat (first | exact Ex.refl _ | refine Ex.alloc ?_ _ | refine Ex.ext ?_ _ _ | refine Ex.drew ?_ | refine Ex.drewN ?_ _))⟩
  case rest =>
    obtain ⟨rfl, hxc⟩ := hcut
    have HL4 := Lib.hid (HL3.out.ex hxc)
    have HG3 := Lib.hid (fun w2 (hx : Ex wc w2) id => filledOf_any ao3 cap3 TA id w2 (HF5.out.ex (hxc.trans hx)) FRA.out hfa)
    have HG4 := Lib.hid (fun w2 (hx : Ex wc w2) id => filledOf_any ao4 cap4 TB id w2 (HF4.out.ex (hxc.trans hx)) FRB.out hfb)
    have HXC : Hid (Ex w wc) := Lib.hid (HXQ.out.trans hxc)
    clear hxc HXQ HXP HL3 HF4 HF5 HDM HSU HWH hE3 FRA FRB
    go_wp2_with fail
    go_loopw [18] (fun i wr => ∃ (k : Nat) (x y : Int), k ≤ len ∧ i = .int .i64 k ∧ (x = 0 ∨ x = P 0) ∧ (y = 0 ∨ y = P 1) ∧ TwoAt wr wc.heap.size x y ∧ Below wc.heap.size wc wr) (fun i _ => len - (intOf i).toNat)
    case atStart => exact ⟨0, 0, 0, Nat.zero_le _, rfl, .inl rfl, .inl rfl, (show (wc.alloc _).heap[wc.heap.size]? = _ from alloc_at rfl), Ex.below (by repeat (first | exact Ex.refl _ | refine Ex.alloc ?_ _ | refine Ex.ext ?_ _ _ | refine Ex.drew ?_ | refine Ex.drewN ?_ _))⟩
    case round =>
      obtain ⟨k, x, y, hk, rfl, hx0, hy0, htwo, hbl⟩ := hrel
      have HB := Lib.hid hbl
      have hbz := hbl.size
      have HX0 := Lib.hid hx0
      have HY0 := Lib.hid hy0
      clear hx0 hy0
      have HLA := Lib.hid (HL4.out.ex (Ex.of hbl))
      by_cases hlt : k < len
      · have hkl : k < l.length := by rw [HLEN.out]; omega
        obtain ⟨b, off, rfl, hbs, hz⟩ := HLA.out.2.2.2 (by omega)
        have hzk := hz k hkl
        have ha0 : l[k]? = some (l[k]'hkl) := List.getElem?_eq_getElem hkl
        clear hz
        generalize l[k]'hkl = a at hzk ha0
        have a0 := hzk 0 (by omega)
        have a1 := hzk 1 (by omega)
        have a2 := hzk 2 (by omega)
        have a3 := hzk 3 (by omega)
        have a4 := hzk 4 (by omega)
        simp only [Lot.cells, List.getElem?_cons_zero, List.getElem?_cons_succ, Nat.add_zero] at a0 a1 a2 a3 a4
        clear hzk
        have hmem : a ∈ l := List.mem_of_getElem? ha0
        have hao := (Lot.ok_iff.1 (HOK.out.ok ha0)).2.2.2.1
        have HPP := Lib.hid (HP.out a hmem)
        have hs2 := lot_side (HOK.out.mem a hmem)
        have HGa := Lib.hid (fun w2 hx => HG3.out w2 hx a.id)
        have HGb := Lib.hid (fun w2 hx => HG4.out w2 hx a.id)
        generalize gotF TA a.id = n1 at *
        generalize gotF TB a.id = n2 at *
        have HT := Lib.hid htwo
        have c0 := htwo.cell0
        have c1 := htwo.cell1
        have f0 := htwo.frozen 0
        have f1 := htwo.frozen 1
        have htl := htwo.lt
        clear htwo hbl ha0 HLA HG3 HG4
        by_cases hn : n1 = n2
        · subst hn
          clear HPP
          go_wp2_with fail
          go_quiet ((go_at_call 35; first | (with_reducible refine Calls.quiet_of_same ((HGa.out _ ?_).mono fun e w' ⟨k1, k2⟩ => ⟨k1, k2.symm⟩); exact (Ex.of HB.out).trans (by repeat (first | exact Ex.refl _ | refine Ex.alloc ?_ _ | refine Ex.ext ?_ _ _ | refine Ex.drew ?_ | refine Ex.drewN ?_ _))) | (with_reducible refine Calls.quiet_of_same ((HGb.out _ ?_).mono fun e w' ⟨k1, k2⟩ => ⟨k1, k2.symm⟩); exact (Ex.of HB.out).trans (by repeat (first | exact Ex.refl _ | refine Ex.alloc ?_ _ | refine Ex.ext ?_ _ _ | refine Ex.drew ?_ | refine Ex.drewN ?_ _)))))
          all_goals go_wp2_with fail
          all_goals
            go_roundw
            case measure => simp [intOf]; omega
            case rel => exact ⟨k + 1, x, y, by omega, by go_num, HX0.out, HY0.out, HT.out.ex (by repeat (first | exact Ex.refl _ | refine Ex.alloc ?_ _ | refine Ex.ext ?_ _ _ | refine Ex.drew ?_ | refine Ex.drewN ?_ _)), (by (refine Below.trans HB.out ?_; repeat (first | exact Below.refl _ _ | (refine Below.drew ?_) | (refine Below.drewN ?_ _) | (refine Below.ext ?_ (by first | omega | (simp [go_sem]; done) | (simp [go_sem]; omega)) _ _) | (refine Below.alloc ?_ (by first | omega | (simp [go_sem]; done) | (simp [go_sem]; omega)) _) | (refine Below.setCell ?_ (by first | omega | (simp [go_sem]; done) | (simp [go_sem]; omega)) _))))⟩
        · have hpr := HPP.out hn
          have hn1 := decide_eq_false hn
          have hn2 : (n1 == n2) = false := by simpa using hn
          clear HPP hn
          go_wp2_with fail
          go_quiet ((go_at_call 35; first | (with_reducible refine Calls.quiet_of_same ((HGa.out _ ?_).mono fun e w' ⟨k1, k2⟩ => ⟨k1, k2.symm⟩); exact (Ex.of HB.out).trans (by repeat (first | exact Ex.refl _ | refine Ex.alloc ?_ _ | refine Ex.ext ?_ _ _ | refine Ex.drew ?_ | refine Ex.drewN ?_ _))) | (with_reducible refine Calls.quiet_of_same ((HGb.out _ ?_).mono fun e w' ⟨k1, k2⟩ => ⟨k1, k2.symm⟩); exact (Ex.of HB.out).trans (by repeat (first | exact Ex.refl _ | refine Ex.alloc ?_ _ | refine Ex.ext ?_ _ _ | refine Ex.drew ?_ | refine Ex.drewN ?_ _)))))
          clear hn1 hn2 HGa HGb
          rcases hs2 with hs | hs
          · rw [hs] at a2 hpr
            have HPR := Lib.hid hpr
            clear hpr
            rcases HX0.out with hx | hx
            · subst hx
              have hz1 : decide (a.price = 0) = false := decide_eq_false (by omega)
              have hz2 : (a.price == 0) = false := by simp; omega
              have hz3 : (a.price != 0) = true := by simp; omega
              go_wp2_with fail
              go_quiet (fail)
              all_goals go_wp2_with fail
              all_goals go_region
              all_goals go_wp2_with fail
              all_goals
                go_roundw
                case measure => simp [intOf]; omega
                case rel => exact ⟨k + 1, a.price, y, by omega, by go_num, .inr HPR.out, HY0.out, (HT.out.ex (by repeat (first | exact Ex.refl _ | refine Ex.alloc ?_ _ | refine Ex.ext ?_ _ _ | refine Ex.drew ?_ | refine Ex.drewN ?_ _))).set0 _, (by (refine Below.trans HB.out ?_; repeat (first | exact Below.refl _ _ | (refine Below.drew ?_) | (refine Below.drewN ?_ _) | (refine Below.ext ?_ (by first | omega | (simp [go_sem]; done) | (simp [go_sem]; omega)) _ _) | (refine Below.alloc ?_ (by first | omega | (simp [go_sem]; done) | (simp [go_sem]; omega)) _) | (refine Below.setCell ?_ (by first | omega | (simp [go_sem]; done) | (simp [go_sem]; omega)) _))))⟩
            · obtain rfl : x = a.price := by rw [hx, HPR.out]
              clear hx
              have hz1 : decide (a.price = 0) = false := decide_eq_false (by omega)
              have hz2 : (a.price == 0) = false := by simp; omega
              have hz3 : (a.price != 0) = true := by simp; omega
              go_wp2_with fail
              go_quiet (fail)
              all_goals go_wp2_with fail
              all_goals go_region
              all_goals go_wp2_with fail
              all_goals
                go_roundw
                case measure => simp [intOf]; omega
                case rel => exact ⟨k + 1, a.price, y, by omega, by go_num, .inr HPR.out, HY0.out, (HT.out.ex (by repeat (first | exact Ex.refl _ | refine Ex.alloc ?_ _ | refine Ex.ext ?_ _ _ | refine Ex.drew ?_ | refine Ex.drewN ?_ _))).set0 _, (by (refine Below.trans HB.out ?_; repeat (first | exact Below.refl _ _ | (refine Below.drew ?_) | (refine Below.drewN ?_ _) | (refine Below.ext ?_ (by first | omega | (simp [go_sem]; done) | (simp [go_sem]; omega)) _ _) | (refine Below.alloc ?_ (by first | omega | (simp [go_sem]; done) | (simp [go_sem]; omega)) _) | (refine Below.setCell ?_ (by first | omega | (simp [go_sem]; done) | (simp [go_sem]; omega)) _))))⟩
          · rw [hs] at a2 hpr
            have HPR := Lib.hid hpr
            clear hpr
            rcases HY0.out with hy | hy
            · subst hy
              have hz1 : decide (a.price = 0) = false := decide_eq_false (by omega)
              have hz2 : (a.price == 0) = false := by simp; omega
              have hz3 : (a.price != 0) = true := by simp; omega
              go_wp2_with fail
              go_quiet (fail)
              all_goals go_wp2_with fail
              all_goals go_region
              all_goals go_wp2_with fail
              all_goals
                go_roundw
                case measure => simp [intOf]; omega
                case rel => exact ⟨k + 1, x, a.price, by omega, by go_num, HX0.out, .inr HPR.out, (HT.out.ex (by repeat (first | exact Ex.refl _ | refine Ex.alloc ?_ _ | refine Ex.ext ?_ _ _ | refine Ex.drew ?_ | refine Ex.drewN ?_ _))).set1 _, (by (refine Below.trans HB.out ?_; repeat (first | exact Below.refl _ _ | (refine Below.drew ?_) | (refine Below.drewN ?_ _) | (refine Below.ext ?_ (by first | omega | (simp [go_sem]; done) | (simp [go_sem]; omega)) _ _) | (refine Below.alloc ?_ (by first | omega | (simp [go_sem]; done) | (simp [go_sem]; omega)) _) | (refine Below.setCell ?_ (by first | omega | (simp [go_sem]; done) | (simp [go_sem]; omega)) _))))⟩
            · obtain rfl : y = a.price := by rw [hy, HPR.out]
              clear hy
              have hz1 : decide (a.price = 0) = false := decide_eq_false (by omega)
              have hz2 : (a.price == 0) = false := by simp; omega
              have hz3 : (a.price != 0) = true := by simp; omega
              go_wp2_with fail
              go_quiet (fail)
              all_goals go_wp2_with fail
              all_goals go_region
              all_goals go_wp2_with fail
              all_goals
                go_roundw
                case measure => simp [intOf]; omega
                case rel => exact ⟨k + 1, x, a.price, by omega, by go_num, HX0.out, .inr HPR.out, (HT.out.ex (by repeat (first | exact Ex.refl _ | refine Ex.alloc ?_ _ | refine Ex.ext ?_ _ _ | refine Ex.drew ?_ | refine Ex.drewN ?_ _))).set1 _, (by (refine Below.trans HB.out ?_; repeat (first | exact Below.refl _ _ | (refine Below.drew ?_) | (refine Below.drewN ?_ _) | (refine Below.ext ?_ (by first | omega | (simp [go_sem]; done) | (simp [go_sem]; omega)) _ _) | (refine Below.alloc ?_ (by first | omega | (simp [go_sem]; done) | (simp [go_sem]; omega)) _) | (refine Below.setCell ?_ (by first | omega | (simp [go_sem]; done) | (simp [go_sem]; omega)) _))))⟩
      · obtain rfl : k = len := by omega
        go_wp2_with fail
        all_goals go_ret
        all_goals exact ⟨rfl, HXC.out.trans ((Ex.of HB.out).trans (by repeat (first | exact Ex.refl _ | refine Ex.alloc ?_ _ | refine Ex.ext ?_ _ _ | refine Ex.drew ?_ | refine Ex.drewN ?_ _)))⟩
end Go.Proofs.YtjkaeiioofknoaaDoor
