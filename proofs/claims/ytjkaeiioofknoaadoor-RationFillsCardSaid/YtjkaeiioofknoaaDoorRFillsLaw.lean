/- The walk of RationFills. -/
import Derived.Test.YtjkaeiioofknoaaDoorRefSide
import Derived.Test.YtjkaeiioofknoaaDoorRationed
import Derived.Test.YtjkaeiioofknoaaDoorFaulted
import Derived.Test.YtjkaeiioofknoaaDoorPrLaw
set_option linter.unusedSimpArgs false
set_option linter.unusedVariables false
namespace Go.Proofs.YtjkaeiioofknoaaDoor
open Go.RowKit

set_option maxRecDepth 100000 in
set_option maxHeartbeats 4000000 in
theorem refFills_any (ao : Option Addr) (len cap : Nat) (l : List Lot) (price volume seed : Int) (w : World) (hl : LotsAt w ao len l) (hok : LotsOk l) (hs : U32 seed) (p1 : 1 ≤ price) (p2 : price ≤ 1000) (v0 : 0 ≤ volume) (v1 : volume ≤ 1000000) :
    Calls Tryd.prog 46 #[.slice ao len cap, .int .i64 price, .int .i64 volume, .int .u32 seed] w fun e w' => (∃ ao' cap', e = .returned (.slice ao' (fillsL l price volume seed).length cap') ∧ FillAt w' ao' (fillsL l price volume seed)) ∧ Ex w w' := by
  have HL := Lib.hid hl
  have HU := Lib.hid hs
  obtain ⟨hs0, hs1⟩ := hs
  have HU2 : Hid (U32 ((seed + 1) % 4294967296)) := Lib.hid (by unfold U32; omega)
  obtain ⟨iF, hF0, hi⟩ := Option.map_eq_some_iff.1 infoFill
  simp only [Prod.mk.injEq] at hi
  obtain ⟨hFz, hF1, hF2⟩ := hi
  have HFL := Lib.hid (show sideF (levelsL 0 price l) volume seed ++ sideF (levelsL 1 price l) volume ((seed + 1) % 4294967296) = fillsL l price volume seed from rfl)
  have n1 := sideF_len (levelsL 0 price l) volume seed
  have n2 := sideF_len (levelsL 1 price l) volume ((seed + 1) % 4294967296)
  have m1 := levels_small (side := 0) (price := price) hok
  have m2 := levels_small (side := 1) (price := price) hok
  have S1 := fun w hl => refSide0_any ao len cap l price volume seed w hl hok HU.out p1 p2 v0 v1
  have S2 := fun w hl => refSide1_any ao len cap l price volume ((seed + 1) % 4294967296) w hl hok HU2.out p1 p2 v0 v1
  clear hl hok
  generalize sideF (levelsL 0 price l) volume seed = A at *
  generalize sideF (levelsL 1 price l) volume ((seed + 1) % 4294967296) = B at *
  generalize fillsL l price volume seed = T at *
  have HS1 := Lib.hid S1
  have HS2 := Lib.hid S2
  clear S1 S2
  go_enter Tryd.func46, Tryd.ntmps46
  go_wp2_with fail
  refine (HS1.out _ HL.out).mono ?_
  rintro e w2 ⟨⟨va, rfl, ha⟩, hx2⟩
  have HX2 := Lib.hid hx2
  have hwz := HX2.out.below.size
  have HA := Lib.hid ha
  clear hx2 ha
  go_wp2_with fail
  refine (HS2.out _ (HL.out.ex (HX2.out.trans (by repeat (first | exact Ex.refl _ | refine Ex.alloc ?_ _ | refine Ex.ext ?_ _ _ | refine Ex.drew ?_ | refine Ex.drewN ?_ _))))).mono ?_
  rintro e w3 ⟨⟨vb, rfl, hb⟩, hx3⟩
  have HX3 : Hid (Ex w2 w3) := Lib.hid (Ex.trans (by repeat (first | exact Ex.refl _ | refine Ex.alloc ?_ _ | refine Ex.ext ?_ _ _ | refine Ex.drew ?_ | refine Ex.drewN ?_ _)) hx3)
  have HA3 := Lib.hid (HA.out.kept (Below.grownBy HX3.out.below) (Classical.em _))
  have hwz3 := HX3.out.below.size
  clear hx3
  rcases hb.2 with ⟨rfl, h0⟩ | ⟨g, capb, cur, rfl, hrest⟩
  · have hB0 : B = [] := List.length_eq_zero_iff.1 h0
    subst hB0
    rw [List.append_nil] at HFL
    go_wp2_with (at_builtin; refine wpList_append_own_none rfl (.tmp 15) (.tmp 21) 47 rfl w.heap.size 52 iF 2 Tryd.underlying47 hF0 va _ _ rfl HA3.out rfl ?_)
    all_goals
      obtain ⟨ao5, cap5, rfl, hc5, hf5⟩ := fills_of_owned rfl HA3.out
      go_ret
      rw [← HFL.out]
      exact ⟨⟨ao5, cap5, rfl, hf5⟩, HX2.out.trans HX3.out⟩
  · have hcells := hb.cells (g := g) rfl
    have HCL := Lib.hid hcells
    clear hrest hcells hb
    go_wp2_with (at_builtin; refine wpList_append_own _ rfl (.tmp 15) (.tmp 21) 47 rfl w.heap.size 52 iF _ 2 16 Tryd.underlying47 hF0 hFz hF1 hF2 rfl (by decide) va A.length (A.flatMap Fil.cells) rfl HA3.out ⟨g, 0, none⟩ B.length capb (B.flatMap Fil.cells) rfl ?_ HCL.out (fil_one B) (by unfold maxLen; omega) (by omega) ?_ ?_; (focus exact fil_len B); (focus omega); intro v4 w4 hown4 hgr4 _)
    all_goals
      have hown5 : w4.ownsRow w.heap.size 52 2 v4 (A ++ B).length ((A ++ B).flatMap Fil.cells) := by rw [List.length_append, List.flatMap_append]; exact hown4
      obtain ⟨ao5, cap5, rfl, hc5, hf5⟩ := fills_of_owned rfl hown5
      go_ret
      rw [← HFL.out]
      exact ⟨⟨ao5, cap5, rfl, hf5⟩, Ex.of (Below.grown (HX2.out.trans HX3.out).below hgr4 (by omega) (fun b hb => (HA3.out.lt b hb).1))⟩

set_option maxRecDepth 100000 in
theorem rfills_out (ao : Option Addr) (len cap : Nat) (price volume seed : Int) (E : Nat → Addr) (w : World) (hE : Errs E [2, 3, 7, 8] w) (hm : len ≤ 9223372036854775807) (h1 : len > 130) :
    Calls Tryd.prog 12 #[.slice ao len cap, .int .i64 price, .int .i64 volume, .int .u32 seed] w fun e w' => e = .returned (.bool true) ∧ Ex w w' := by
  go_enter Tryd.func12, Tryd.ntmps12
  go_wp2_with (go_at_call 33; refine (rationed_any E _ (by exact Errs.sub (hE.ex (by repeat (first | exact Ex.refl _ | refine Ex.alloc ?_ _ | refine Ex.ext ?_ _ _ | refine Ex.drew ?_ | refine Ex.drewN ?_ _))) (by decide))).mono ?_; rintro e w1 ⟨rfl, l1, d1, rfl⟩)
  all_goals go_ret
  all_goals exact ⟨rfl, (by repeat (first | exact Ex.refl _ | refine Ex.alloc ?_ _ | refine Ex.ext ?_ _ _ | refine Ex.drew ?_ | refine Ex.drewN ?_ _))⟩
set_option maxRecDepth 100000 in
set_option maxHeartbeats 4000000 in
theorem rfills_bad (ao : Option Addr) (len cap : Nat) (l : List Lot) (price volume seed : Int) (E : Nat → Addr) (w : World) (hcap : len ≤ cap ∧ cap ≤ 9223372036854775807 ∧ (ao = none → cap = 0)) (hR : CodeReady E w) (hl : LotsAt w ao len l) (h1 : len ≤ 130) (hok : ¬ LotsOk l) :
    Calls Tryd.prog 12 #[.slice ao len cap, .int .i64 price, .int .i64 volume, .int .u32 seed] w fun e w' => e = .returned (.bool true) ∧ Ex w w' := by
  have HL := Lib.hid hl
  have HOK := Lib.hid hok
  have HR0 := Lib.hid hR
  have hE : Errs E [2, 3, 7, 8] w := Errs.sub hR.1 (by decide)
  have hC := fault_bad hok
  clear hl hok hR
  go_enter Tryd.func12, Tryd.ntmps12
  go_wp2_with (go_at_call 33; refine (rationed_any E _ (by exact Errs.sub (hE.ex (by repeat (first | exact Ex.refl _ | refine Ex.alloc ?_ _ | refine Ex.ext ?_ _ _ | refine Ex.drew ?_ | refine Ex.drewN ?_ _))) (by decide))).mono ?_; rintro e w1 ⟨rfl, l1, d1, rfl⟩)
  refine (ownLots_any ao len cap l _ hcap (by omega) (HL.out.ex (by repeat (first | exact Ex.refl _ | refine Ex.alloc ?_ _ | refine Ex.ext ?_ _ _ | refine Ex.drew ?_ | refine Ex.drewN ?_ _)))).mono ?_
  rintro e wo ⟨⟨ao', cap', rfl, hc', hl'⟩, hx1'⟩
  have HX : Hid (Ex w wo) := Lib.hid (Ex.trans (by repeat (first | exact Ex.refl _ | refine Ex.alloc ?_ _ | refine Ex.ext ?_ _ _ | refine Ex.drew ?_ | refine Ex.drewN ?_ _)) hx1')
  have hE' := hE.ex HX.out
  clear hx1'
  have HL' := Lib.hid hl'
  clear hl'
  have hcl := hc'.1
  go_wp2_with fail
  refine (fills_bad _ len _ l price volume seed E _ hc'.1 hE' HL'.out HOK.out).mono ?_
  rintro e wp ⟨⟨t, x, rfl, hV⟩, hxp⟩
  have HXP : Hid (Ex w wp) := Lib.hid (HX.out.trans hxp)
  have HR := Lib.hid (HR0.out.ex HXP.out)
  have HLA := Lib.hid (HL.out.ex HXP.out)
  clear hxp HX HL' hE' hE HL
  have HFC := Lib.hid (fun w2 (hx : Ex wp w2) => faulted_check (hV.later hx) (HR.out.ex hx))
  have HLF := Lib.hid (fun w hl => lotsFault_any ao len cap l w hl)
  generalize faultC l = C at *
  generalize faultA l = F at *
  have hC0 : ((C : Int) == 0) = false := by simp; omega
  clear hV
  go_wp2_with (first
    | (go_at_call 24; refine (HLF.out _ (LotsAt.ex HLA.out (by repeat (first | exact Ex.refl _ | refine Ex.alloc ?_ _ | refine Ex.ext ?_ _ _ | refine Ex.drew ?_ | refine Ex.drewN ?_ _)))).mono ?_; rintro e w1 ⟨rfl, l5, d5, rfl⟩)
    | (go_at_call 26; refine (HFC.out _ (by repeat (first | exact Ex.refl _ | refine Ex.alloc ?_ _ | refine Ex.ext ?_ _ _ | refine Ex.drew ?_ | refine Ex.drewN ?_ _))).mono ?_; rintro e w1 ⟨rfl, l5, d5, rfl⟩))
  all_goals go_ret
  all_goals exact ⟨rfl, HXP.out.trans (by repeat (first | exact Ex.refl _ | refine Ex.alloc ?_ _ | refine Ex.ext ?_ _ _ | refine Ex.drew ?_ | refine Ex.drewN ?_ _))⟩
set_option maxRecDepth 100000 in
set_option maxHeartbeats 4000000 in
theorem rfills_bound (ao : Option Addr) (len cap : Nat) (l : List Lot) (price volume seed : Int) (E : Nat → Addr) (w : World) (hcap : len ≤ cap ∧ cap ≤ 9223372036854775807 ∧ (ao = none → cap = 0)) (hR : CodeReady E w) (hl : LotsAt w ao len l) (h1 : len ≤ 130) (hok : LotsOk l) (hb : price < 1 ∨ 1000 < price ∨ volume < 0) :
    Calls Tryd.prog 12 #[.slice ao len cap, .int .i64 price, .int .i64 volume, .int .u32 seed] w fun e w' => e = .returned (.bool true) ∧ Ex w w' := by
  have HL := Lib.hid hl
  have HOK := Lib.hid hok
  have HR0 := Lib.hid hR
  have hE : Errs E [2, 3, 7, 8] w := Errs.sub hR.1 (by decide)
  have hF := fault_good hok
  have LF := fun w hl => lotsFault_any ao len cap l w hl
  rw [hF.1, hF.2] at LF
  have HLF := Lib.hid LF
  have HVO := Lib.hid (fun w hl => volumeOf_any ao len cap l price w hl HOK.out)
  clear hl hok hR LF hF
  have HBB := Lib.hid hb
  clear hb
  go_enter Tryd.func12, Tryd.ntmps12
  go_wp2_with (go_at_call 33; refine (rationed_any E _ (by exact Errs.sub (hE.ex (by repeat (first | exact Ex.refl _ | refine Ex.alloc ?_ _ | refine Ex.ext ?_ _ _ | refine Ex.drew ?_ | refine Ex.drewN ?_ _))) (by decide))).mono ?_; rintro e w1 ⟨rfl, l1, d1, rfl⟩)
  refine (ownLots_any ao len cap l _ hcap (by omega) (HL.out.ex (by repeat (first | exact Ex.refl _ | refine Ex.alloc ?_ _ | refine Ex.ext ?_ _ _ | refine Ex.drew ?_ | refine Ex.drewN ?_ _)))).mono ?_
  rintro e wo ⟨⟨ao', cap', rfl, hc', hl'⟩, hx1'⟩
  have HX : Hid (Ex w wo) := Lib.hid (Ex.trans (by repeat (first | exact Ex.refl _ | refine Ex.alloc ?_ _ | refine Ex.ext ?_ _ _ | refine Ex.drew ?_ | refine Ex.drewN ?_ _)) hx1')
  have hE' := hE.ex HX.out
  clear hx1'
  have HL' := Lib.hid hl'
  clear hl'
  have hcl := hc'.1
  go_wp2_with fail
  refine (fills_bound _ len _ l price volume seed E _ hc'.1 hE' HL'.out HOK.out HBB.out).mono ?_
  rintro e wp ⟨rfl, hxp⟩
  have HXP : Hid (Ex w wp) := Lib.hid (HX.out.trans hxp)
  have HR := Lib.hid (HR0.out.ex HXP.out)
  have HLA := Lib.hid (HL.out.ex HXP.out)
  clear hxp HX HL' hE' hE HL
  have HFA := Lib.hid (fun w hr => faulted_err 2 E w hr (by decide) (by decide))
  rw [errV_pos _ _ (by decide)] at HFA
  rw [errV_pos _ _ (by decide)]
  by_cases k1 : price < 1
  · go_wp2_with (first
      | (go_at_call 24; refine (HLF.out _ (LotsAt.ex HLA.out (by repeat (first | exact Ex.refl _ | refine Ex.alloc ?_ _ | refine Ex.ext ?_ _ _ | refine Ex.drew ?_ | refine Ex.drewN ?_ _)))).mono ?_; rintro e w1 ⟨rfl, l5, d5, rfl⟩)
      | (go_at_call 25; refine (bare_any _ _).mono ?_; rintro e w1 ⟨rfl, l5, d5, rfl⟩)
      | (go_at_call 43; refine (HVO.out _ (LotsAt.ex HLA.out (by repeat (first | exact Ex.refl _ | refine Ex.alloc ?_ _ | refine Ex.ext ?_ _ _ | refine Ex.drew ?_ | refine Ex.drewN ?_ _)))).mono ?_; rintro e w1 ⟨rfl, rfl⟩)
      | (go_at_call 26; refine (HFA.out _ (CodeReady.ex HR.out (by repeat (first | exact Ex.refl _ | refine Ex.alloc ?_ _ | refine Ex.ext ?_ _ _ | refine Ex.drew ?_ | refine Ex.drewN ?_ _)))).mono ?_; rintro e w1 ⟨rfl, l5, d5, rfl⟩))
    all_goals go_ret
    all_goals exact ⟨rfl, HXP.out.trans (by repeat (first | exact Ex.refl _ | refine Ex.alloc ?_ _ | refine Ex.ext ?_ _ _ | refine Ex.drew ?_ | refine Ex.drewN ?_ _))⟩
  by_cases k2 : price > 1000
  · go_wp2_with (first
      | (go_at_call 24; refine (HLF.out _ (LotsAt.ex HLA.out (by repeat (first | exact Ex.refl _ | refine Ex.alloc ?_ _ | refine Ex.ext ?_ _ _ | refine Ex.drew ?_ | refine Ex.drewN ?_ _)))).mono ?_; rintro e w1 ⟨rfl, l5, d5, rfl⟩)
      | (go_at_call 25; refine (bare_any _ _).mono ?_; rintro e w1 ⟨rfl, l5, d5, rfl⟩)
      | (go_at_call 43; refine (HVO.out _ (LotsAt.ex HLA.out (by repeat (first | exact Ex.refl _ | refine Ex.alloc ?_ _ | refine Ex.ext ?_ _ _ | refine Ex.drew ?_ | refine Ex.drewN ?_ _)))).mono ?_; rintro e w1 ⟨rfl, rfl⟩)
      | (go_at_call 26; refine (HFA.out _ (CodeReady.ex HR.out (by repeat (first | exact Ex.refl _ | refine Ex.alloc ?_ _ | refine Ex.ext ?_ _ _ | refine Ex.drew ?_ | refine Ex.drewN ?_ _)))).mono ?_; rintro e w1 ⟨rfl, l5, d5, rfl⟩))
    all_goals go_ret
    all_goals exact ⟨rfl, HXP.out.trans (by repeat (first | exact Ex.refl _ | refine Ex.alloc ?_ _ | refine Ex.ext ?_ _ _ | refine Ex.drew ?_ | refine Ex.drewN ?_ _))⟩
  · have k3 : volume < 0 := by have := HBB.out; omega
    go_wp2_with (first
      | (go_at_call 24; refine (HLF.out _ (LotsAt.ex HLA.out (by repeat (first | exact Ex.refl _ | refine Ex.alloc ?_ _ | refine Ex.ext ?_ _ _ | refine Ex.drew ?_ | refine Ex.drewN ?_ _)))).mono ?_; rintro e w1 ⟨rfl, l5, d5, rfl⟩)
      | (go_at_call 25; refine (bare_any _ _).mono ?_; rintro e w1 ⟨rfl, l5, d5, rfl⟩)
      | (go_at_call 43; refine (HVO.out _ (LotsAt.ex HLA.out (by repeat (first | exact Ex.refl _ | refine Ex.alloc ?_ _ | refine Ex.ext ?_ _ _ | refine Ex.drew ?_ | refine Ex.drewN ?_ _)))).mono ?_; rintro e w1 ⟨rfl, rfl⟩)
      | (go_at_call 26; refine (HFA.out _ (CodeReady.ex HR.out (by repeat (first | exact Ex.refl _ | refine Ex.alloc ?_ _ | refine Ex.ext ?_ _ _ | refine Ex.drew ?_ | refine Ex.drewN ?_ _)))).mono ?_; rintro e w1 ⟨rfl, l5, d5, rfl⟩))
    all_goals go_ret
    all_goals exact ⟨rfl, HXP.out.trans (by repeat (first | exact Ex.refl _ | refine Ex.alloc ?_ _ | refine Ex.ext ?_ _ _ | refine Ex.drew ?_ | refine Ex.drewN ?_ _))⟩
set_option maxRecDepth 100000 in
set_option maxHeartbeats 4000000 in
theorem rfills_shape (ao : Option Addr) (len cap : Nat) (l : List Lot) (price volume seed : Int) (E : Nat → Addr) (w : World) (hcap : len ≤ cap ∧ cap ≤ 9223372036854775807 ∧ (ao = none → cap = 0)) (hR : CodeReady E w) (hl : LotsAt w ao len l) (h1 : len ≤ 130) (hok : LotsOk l) (p1 : 1 ≤ price) (p2 : price ≤ 1000) (v0 : 0 ≤ volume) (hv : min (dem l price) (sup l price) < volume) :
    Calls Tryd.prog 12 #[.slice ao len cap, .int .i64 price, .int .i64 volume, .int .u32 seed] w fun e w' => e = .returned (.bool true) ∧ Ex w w' := by
  have HV := Lib.hid hv
  change min (sumOf (isDem price) l) (sumOf (isSup price) l) < volume at hv
  have HL := Lib.hid hl
  have HOK := Lib.hid hok
  have HR0 := Lib.hid hR
  have hE : Errs E [2, 3, 7, 8] w := Errs.sub hR.1 (by decide)
  have hF := fault_good hok
  have LF := fun w hl => lotsFault_any ao len cap l w hl
  rw [hF.1, hF.2] at LF
  have HLF := Lib.hid LF
  have HVO := Lib.hid (fun w hl => volumeOf_any ao len cap l price w hl HOK.out)
  clear hl hok hR LF hF
  generalize min (sumOf (isDem price) l) (sumOf (isSup price) l) = vm at *
  go_enter Tryd.func12, Tryd.ntmps12
  go_wp2_with (go_at_call 33; refine (rationed_any E _ (by exact Errs.sub (hE.ex (by repeat (first | exact Ex.refl _ | refine Ex.alloc ?_ _ | refine Ex.ext ?_ _ _ | refine Ex.drew ?_ | refine Ex.drewN ?_ _))) (by decide))).mono ?_; rintro e w1 ⟨rfl, l1, d1, rfl⟩)
  refine (ownLots_any ao len cap l _ hcap (by omega) (HL.out.ex (by repeat (first | exact Ex.refl _ | refine Ex.alloc ?_ _ | refine Ex.ext ?_ _ _ | refine Ex.drew ?_ | refine Ex.drewN ?_ _)))).mono ?_
  rintro e wo ⟨⟨ao', cap', rfl, hc', hl'⟩, hx1'⟩
  have HX : Hid (Ex w wo) := Lib.hid (Ex.trans (by repeat (first | exact Ex.refl _ | refine Ex.alloc ?_ _ | refine Ex.ext ?_ _ _ | refine Ex.drew ?_ | refine Ex.drewN ?_ _)) hx1')
  have hE' := hE.ex HX.out
  clear hx1'
  have HL' := Lib.hid hl'
  clear hl'
  have hcl := hc'.1
  go_wp2_with fail
  refine (fills_shape _ len _ l price volume seed E _ hc'.1 hE' HL'.out HOK.out p1 p2 v0 HV.out).mono ?_
  rintro e wp ⟨rfl, hxp⟩
  have HXP : Hid (Ex w wp) := Lib.hid (HX.out.trans hxp)
  have HR := Lib.hid (HR0.out.ex HXP.out)
  have HLA := Lib.hid (HL.out.ex HXP.out)
  clear hxp HX HL' hE' hE HL
  have HFA := Lib.hid (fun w hr => faulted_err 3 E w hr (by decide) (by decide))
  rw [errV_pos _ _ (by decide)] at HFA
  rw [errV_pos _ _ (by decide)]
  go_wp2_with (first
    | (go_at_call 24; refine (HLF.out _ (LotsAt.ex HLA.out (by repeat (first | exact Ex.refl _ | refine Ex.alloc ?_ _ | refine Ex.ext ?_ _ _ | refine Ex.drew ?_ | refine Ex.drewN ?_ _)))).mono ?_; rintro e w1 ⟨rfl, l5, d5, rfl⟩)
    | (go_at_call 25; refine (bare_any _ _).mono ?_; rintro e w1 ⟨rfl, l5, d5, rfl⟩)
    | (go_at_call 43; refine (HVO.out _ (LotsAt.ex HLA.out (by repeat (first | exact Ex.refl _ | refine Ex.alloc ?_ _ | refine Ex.ext ?_ _ _ | refine Ex.drew ?_ | refine Ex.drewN ?_ _)))).mono ?_; rintro e w1 ⟨rfl, rfl⟩)
    | (go_at_call 26; refine (HFA.out _ (CodeReady.ex HR.out (by repeat (first | exact Ex.refl _ | refine Ex.alloc ?_ _ | refine Ex.ext ?_ _ _ | refine Ex.drew ?_ | refine Ex.drewN ?_ _)))).mono ?_; rintro e w1 ⟨rfl, l5, d5, rfl⟩))
  all_goals go_ret
  all_goals exact ⟨rfl, HXP.out.trans (by repeat (first | exact Ex.refl _ | refine Ex.alloc ?_ _ | refine Ex.ext ?_ _ _ | refine Ex.drew ?_ | refine Ex.drewN ?_ _))⟩
set_option maxRecDepth 100000 in
set_option maxHeartbeats 4000000 in
theorem rfills_ok (ao : Option Addr) (len cap : Nat) (l : List Lot) (price volume seed : Int) (E : Nat → Addr) (w : World) (hcap : len ≤ cap ∧ cap ≤ 9223372036854775807 ∧ (ao = none → cap = 0)) (hR : CodeReady E w) (hl : LotsAt w ao len l) (h1 : len ≤ 130) (hok : LotsOk l) (p1 : 1 ≤ price) (p2 : price ≤ 1000) (v0 : 0 ≤ volume) (hv : volume ≤ min (dem l price) (sup l price)) (hs : U32 seed) :
    Calls Tryd.prog 12 #[.slice ao len cap, .int .i64 price, .int .i64 volume, .int .u32 seed] w fun e w' => e = .returned (.bool true) ∧ Ex w w' := by
  have HV := Lib.hid hv
  have HS := Lib.hid hs
  change volume ≤ min (sumOf (isDem price) l) (sumOf (isSup price) l) at hv
  have bd := sumOf_bounds (isDem price) l hok.mem
  have bl := hok.1
  have v1 : volume ≤ 1000000 := by omega
  have HL := Lib.hid hl
  have HOK := Lib.hid hok
  have HR0 := Lib.hid hR
  have hE : Errs E [2, 3, 7, 8] w := Errs.sub hR.1 (by decide)
  have hF := fault_good hok
  have LF := fun w hl => lotsFault_any ao len cap l w hl
  rw [hF.1, hF.2] at LF
  have HLF := Lib.hid LF
  have HVO := Lib.hid (fun w hl => volumeOf_any ao len cap l price w hl HOK.out)
  clear hl hok hR LF hF
  have RF := fun w hl => refFills_any ao len cap l price volume seed w hl HOK.out HS.out p1 p2 v0 v1
  have n1 := sideF_len (levelsL 0 price l) volume seed
  have n2 := sideF_len (levelsL 1 price l) volume ((seed + 1) % 4294967296)
  have m1 := levels_small (side := 0) (price := price) HOK.out
  have m2 := levels_small (side := 1) (price := price) HOK.out
  have hfl : (fillsL l price volume seed).length ≤ 100000 := by rw [fillsL, List.length_append]; omega
  have FO := fun ao len cap w hc hE hl => fills_ok ao len cap l price volume seed E w hc hE hl HOK.out p1 p2 v0 HV.out HS.out
  clear bd n1 n2 m1 m2 hs
  generalize min (sumOf (isDem price) l) (sumOf (isSup price) l) = vm at *
  generalize fillsL l price volume seed = T at *
  have HRF := Lib.hid RF
  have HFO := Lib.hid FO
  clear RF FO
  go_enter Tryd.func12, Tryd.ntmps12
  go_wp2_with (go_at_call 33; refine (rationed_any E _ (by exact Errs.sub (hE.ex (by repeat (first | exact Ex.refl _ | refine Ex.alloc ?_ _ | refine Ex.ext ?_ _ _ | refine Ex.drew ?_ | refine Ex.drewN ?_ _))) (by decide))).mono ?_; rintro e w1 ⟨rfl, l1, d1, rfl⟩)
  refine (ownLots_any ao len cap l _ hcap (by omega) (HL.out.ex (by repeat (first | exact Ex.refl _ | refine Ex.alloc ?_ _ | refine Ex.ext ?_ _ _ | refine Ex.drew ?_ | refine Ex.drewN ?_ _)))).mono ?_
  rintro e wo ⟨⟨ao', cap', rfl, hc', hl'⟩, hx1'⟩
  have HX : Hid (Ex w wo) := Lib.hid (Ex.trans (by repeat (first | exact Ex.refl _ | refine Ex.alloc ?_ _ | refine Ex.ext ?_ _ _ | refine Ex.drew ?_ | refine Ex.drewN ?_ _)) hx1')
  have hE' := hE.ex HX.out
  clear hx1'
  have HL' := Lib.hid hl'
  clear hl'
  have hcl := hc'.1
  go_wp2_with fail
  refine (HFO.out _ len _ _ hc'.1 hE' HL'.out).mono ?_
  rintro e wp ⟨⟨ao3, cap3, rfl, hc3, hf3⟩, hxp⟩
  have HF3 := Lib.hid hf3
  clear hf3
  have HXP : Hid (Ex w wp) := Lib.hid (HX.out.trans hxp)
  have HR := Lib.hid (HR0.out.ex HXP.out)
  have HLA := Lib.hid (HL.out.ex HXP.out)
  clear hxp HX HL' hE' hE HL
  go_wp2_with (first
    | (go_at_call 24; refine (HLF.out _ (LotsAt.ex HLA.out (by repeat (first | exact Ex.refl _ | refine Ex.alloc ?_ _ | refine Ex.ext ?_ _ _ | refine Ex.drew ?_ | refine Ex.drewN ?_ _)))).mono ?_; rintro e w1 ⟨rfl, l5, d5, rfl⟩)
    | (go_at_call 43; refine (HVO.out _ (LotsAt.ex HLA.out (by repeat (first | exact Ex.refl _ | refine Ex.alloc ?_ _ | refine Ex.ext ?_ _ _ | refine Ex.drew ?_ | refine Ex.drewN ?_ _)))).mono ?_; rintro e w1 ⟨rfl, rfl⟩))
  refine (HRF.out _ (LotsAt.ex HLA.out (by repeat (first | exact Ex.refl _ | refine Ex.alloc ?_ _ | refine Ex.ext ?_ _ _ | refine Ex.drew ?_ | refine Ex.drewN ?_ _)))).mono ?_
  rintro e w4 ⟨⟨ao4, cap4, rfl, hf4⟩, hx4⟩
  have HX4 : Hid (Ex wp w4) := Lib.hid (Ex.trans (by repeat (first | exact Ex.refl _ | refine Ex.alloc ?_ _ | refine Ex.ext ?_ _ _ | refine Ex.drew ?_ | refine Ex.drewN ?_ _)) hx4)
  have HF4 := Lib.hid hf4
  clear hx4 hf4
  go_wp2_with fail
  refine (sameFills_any _ _ _ _ T _ (HF3.out.ex (HX4.out.trans (by repeat (first | exact Ex.refl _ | refine Ex.alloc ?_ _ | refine Ex.ext ?_ _ _ | refine Ex.drew ?_ | refine Ex.drewN ?_ _)))) (HF4.out.ex (by repeat (first | exact Ex.refl _ | refine Ex.alloc ?_ _ | refine Ex.ext ?_ _ _ | refine Ex.drew ?_ | refine Ex.drewN ?_ _))) hfl).mono ?_
  rintro e w5 ⟨rfl, l7, d7, rfl⟩
  go_wp2_with fail
  all_goals go_ret
  all_goals exact ⟨rfl, (HXP.out.trans HX4.out).trans (by repeat (first | exact Ex.refl _ | refine Ex.alloc ?_ _ | refine Ex.ext ?_ _ _ | refine Ex.drew ?_ | refine Ex.drewN ?_ _))⟩
end Go.Proofs.YtjkaeiioofknoaaDoor
