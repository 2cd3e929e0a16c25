/- What the document's PriceOf computes. -/
import Derived.Test.YtjkaeiioofknoaaDoorPriceOfP
import Derived.Test.YtjkaeiioofknoaaDoorRefLots
import Derived.Test.YtjkaeiioofknoaaDoorPrices
import Derived.Test.YtjkaeiioofknoaaDoorMake
set_option linter.unusedSimpArgs false
set_option linter.unusedVariables false
namespace Go.Proofs.YtjkaeiioofknoaaDoor
open Go.RowKit

theorem refSize_any (n : Int) (w : World) (h1 : -1000000 ≤ n) (h2 : n ≤ 1000000) : Calls Tryd.prog 59 #[.int .i64 n] w fun e w' => e = .returned (.int .i64 (iabs n)) ∧ w = w' := by
  by_cases h : n < 0
  all_goals
    go_enter Tryd.func59, Tryd.ntmps59
    go_wp2
    all_goals go_ret
    all_goals exact ⟨ret_int (by unfold iabs; omega), rfl⟩

def PoInv (l : List Lot) (w : World) (k : Nat) (wr : World) : Prop := wr.rowIs w.heap.size 3 1001 (fun j => .int .i64 (if 1 ≤ j ∧ j ≤ k then volP l j else 0)) ∧ wr.rowIs (w.heap.size + 1) 3 1001 (fun j => .int .i64 (if 1 ≤ j ∧ j ≤ k then surP l j else 0)) ∧ Below w.heap.size w wr
theorem po_row {l : Nat → Int} {k : Nat} {v : Int} (hv : l (k + 1) = v) (j : Nat) : (if j = k + 1 then Value.int .i64 v else .int .i64 (if 1 ≤ j ∧ j ≤ k then l j else 0)) = .int .i64 (if 1 ≤ j ∧ j ≤ k + 1 then l j else 0) := by
  by_cases e : j = k + 1
  · subst e; rw [if_pos rfl, if_pos (by omega), hv]
  · rw [if_neg e]
    by_cases e2 : 1 ≤ j ∧ j ≤ k
    · rw [if_pos e2, if_pos (by omega)]
    · rw [if_neg e2, if_neg (by omega)]
theorem PoInv.step1 {l : List Lot} {w wr : World} {k : Nat} {v s : Int} (h : PoInv l w k wr) (hk : k < 1000) (hv : volP l ((k : Int) + 1) = v) (hs : surP l ((k : Int) + 1) = s) :
    PoInv l w (k + 1) ((wr.setCell ⟨w.heap.size, k + 1, none⟩ (.int .i64 v)).setCell ⟨w.heap.size + 1, k + 1, none⟩ (.int .i64 s)) := by
  obtain ⟨h1, h2, h3⟩ := h
  refine ⟨((h1.set (k + 1) _).setOther (by simp) _).congr fun j _ => po_row (l := fun j => volP l j) hv j, ((h2.setOther (by simp) _).set (k + 1) _).congr fun j _ => po_row (l := fun j => surP l j) hs j, ?_⟩
  exact Below.setCell (Below.setCell h3 (Nat.le_refl _) _) (by show w.heap.size ≤ w.heap.size + 1; omega) _
theorem PoInv.step2 {l : List Lot} {w wr : World} {k : Nat} {v s u : Int} (h : PoInv l w k wr) (hk : k < 1000) (hv : volP l ((k : Int) + 1) = v) (hs : surP l ((k : Int) + 1) = s) :
    PoInv l w (k + 1) (((wr.setCell ⟨w.heap.size, k + 1, none⟩ (.int .i64 u)).setCell ⟨w.heap.size, k + 1, none⟩ (.int .i64 v)).setCell ⟨w.heap.size + 1, k + 1, none⟩ (.int .i64 s)) := by
  obtain ⟨h1, h2, h3⟩ := h
  refine ⟨(((h1.set (k + 1) _).set (k + 1) _).setOther (by simp) _).congr fun j _ => ?_, (((h2.setOther (by simp) _).setOther (by simp) _).set (k + 1) _).congr fun j _ => po_row (l := fun j => surP l j) hs j, ?_⟩
  · rw [← po_row (l := fun j => volP l j) hv j]
    by_cases e : j = k + 1
    · rw [if_pos e, if_pos e]
    · rw [if_neg e, if_neg e, if_neg e]
  · exact Below.setCell (Below.setCell (Below.setCell h3 (Nat.le_refl _) _) (Nat.le_refl _) _) (by show w.heap.size ≤ w.heap.size + 1; omega) _

set_option maxRecDepth 100000 in
set_option maxHeartbeats 8000000 in
theorem priceOf_any (ao : Option Addr) (len cap : Nat) (l : List Lot) (ref : Int) (w : World) (hl : LotsAt w ao len l) (hok : LotsOk l) (r1 : 1 ≤ ref) (r2 : ref ≤ 1000) :
    Calls Tryd.prog 27 #[.slice ao len cap, .int .i64 ref] w fun e w' => e = .returned (.tuple #[.int .i64 (bestC l ref 1000).price, .int .i64 (bestC l ref 1000).vol]) ∧ Ex w w' := by
  obtain ⟨cs, hcs, hcn, hcf⟩ : ∃ cs : Array Value, cs = madeCells #[.int .i64 0] 1001 ∧ cs.size = 1001 ∧ ∀ i, i < 1001 → cs[i]? = some (.int .i64 0) := ⟨_, rfl, size_madeCells _ _, fun i hi => by simp [madeCells, hi, Nat.mod_one]⟩
  have hmk := fun w : World => run_make_row' (P := Tryd.prog) 44 3 (.int .i64 0) 8 Tryd.underlying44 infoInt rfl .i64 .i64 1001 (by omega) (by omega) w
  rw [← hcs] at hmk
  have HMK := Lib.hid hmk
  have HCS := Lib.hid hcs
  have HCF := Lib.hid hcf
  have HLA := Lib.hid hl
  have HOK := Lib.hid hok
  obtain ⟨e1, e2, e3⟩ := priceOf_eq l ref
  have HE1 := Lib.hid e1; have HE2 := Lib.hid e2; have HE3 := Lib.hid e3
  have hlenmx := hl.2.1
  clear hmk hcs hcf hl hok e1 e2 e3
  go_enter Tryd.func27, Tryd.ntmps27
  go_wp2_with (with_reducible refine wpList_make_row rfl 44 _ _ rfl 1001 cs 3 .i64 .i64 rfl rfl HMK.out ?_)
  go_loopw [8, 9] (fun m p wr => ∃ (k : Nat), k ≤ 1000 ∧ p = .int .i64 ((k : Int) + 1) ∧ m = .int .i64 (mostOf l k) ∧ PoInv l w k wr) (fun _ p _ => 1001 - (intOf p).toNat)
  case atStart =>
    refine ⟨0, by omega, rfl, rfl, ?_, ?_, Ex.below (by repeat (first | exact Ex.refl _ | refine Ex.alloc ?_ _ | refine Ex.ext ?_ _ _ | refine Ex.drew ?_ | refine Ex.drewN ?_ _))⟩
    · exact World.rowIs.alloc (rowIs_of (cs := cs) (heap_alloc_eq _ _) hcn (fun i hi => by rw [HCF.out i hi, if_neg (by omega)])) _
    · exact rowIs_of (cs := cs) (alloc_at (by simp)) hcn (fun i hi => by rw [HCF.out i hi, if_neg (by omega)])
  case round =>
    obtain ⟨k, hk, rfl, rfl, hpo⟩ := hrel
    by_cases hlt : k < 1000
    · have HLW := Lib.hid (HLA.out.ex (Ex.of hpo.2.2))
      have HPO := Lib.hid hpo
      have c1 := hpo.1.cell (i := k + 1) (by omega)
      have c2 := hpo.2.1.cell (i := k + 1) (by omega)
      have f1 := hpo.1.frozen (k + 1)
      have f2 := hpo.2.1.frozen (k + 1)
      have z1 := hpo.1.lt
      have z2 := hpo.2.1.lt
      rw [if_neg (by omega)] at c1 c2
      have hd1 := fun w hl => demandOf_any ao len cap l ((k : Int) + 1) w hl HOK.out
      have hs1 := fun w hl => supplyOf_any ao len cap l ((k : Int) + 1) w hl HOK.out
      have b1 := sumOf_bounds (isDem ((k : Int) + 1)) l HOK.out.mem
      have b2 := sumOf_bounds (isSup ((k : Int) + 1)) l HOK.out.mem
      have hv0 : volP l ((k : Int) + 1) = min (sumOf (isDem ((k : Int) + 1)) l) (sumOf (isSup ((k : Int) + 1)) l) := rfl
      have hv1 : surP l ((k : Int) + 1) = iabs (sumOf (isDem ((k : Int) + 1)) l - sumOf (isSup ((k : Int) + 1)) l) := rfl
      generalize sumOf (isDem ((k : Int) + 1)) l = D at *
      generalize sumOf (isSup ((k : Int) + 1)) l = S at *
      have h120 := HOK.out.1
      have HD1 := Lib.hid hd1
      have HS1 := Lib.hid hs1
      have HV0 := Lib.hid hv0
      have HV1 := Lib.hid hv1
      have j0 : (0 : Int) ≤ (k : Int) + 1 := by omega
      have j1 : (k : Int) + 1 < 1001 := by omega
      have j2 : ((k : Int) + 1).toNat = k + 1 := by omega
      have i1 : IntKind.i64.wrap (D - S) = D - S := IntWalk.i64_in _ (by omega)
      clear hpo hd1 hs1 hv0 hv1
      by_cases hsd : S < D
      · have HMS := Lib.hid (show mostOf l (k + 1) = if volP l ((k : Int) + 1) > mostOf l k then volP l ((k : Int) + 1) else mostOf l k from rfl)
        have hvp : volP l ((k : Int) + 1) = S := by rw [HV0.out]; omega
        rw [hvp] at HMS
        have HST := Lib.hid (PoInv.step2 (u := D) HPO.out hlt hvp HV1.out)
        clear hvp
        generalize mostOf l k = M at *
        by_cases hm : S > M
        all_goals
          go_wp2_with (first
            | (go_at_call 28; refine (HD1.out _ HLW.out).mono ?_; rintro e w1 ⟨rfl, rfl⟩)
            | (go_at_call 29; refine (HS1.out _ HLW.out).mono ?_; rintro e w1 ⟨rfl, rfl⟩)
            | (go_at_call 59; ((with_reducible refine (refSize_any _ _ ?_ ?_).mono ?_); (focus omega); (focus omega)); rintro e w1 ⟨rfl, rfl⟩))
        all_goals
          go_roundw
          case measure => simp [intOf]; omega
          case rel => exact ⟨k + 1, by omega, by go_num, by (rw [HMS.out]; first | rw [if_pos (by omega)] | rw [if_neg (by omega)]), HST.out⟩
      · have HMS := Lib.hid (show mostOf l (k + 1) = if volP l ((k : Int) + 1) > mostOf l k then volP l ((k : Int) + 1) else mostOf l k from rfl)
        have hvp : volP l ((k : Int) + 1) = D := by rw [HV0.out]; omega
        rw [hvp] at HMS
        have HST := Lib.hid (PoInv.step1 HPO.out hlt hvp HV1.out)
        clear hvp
        generalize mostOf l k = M at *
        by_cases hm : D > M
        all_goals
          go_wp2_with (first
            | (go_at_call 28; refine (HD1.out _ HLW.out).mono ?_; rintro e w1 ⟨rfl, rfl⟩)
            | (go_at_call 29; refine (HS1.out _ HLW.out).mono ?_; rintro e w1 ⟨rfl, rfl⟩)
            | (go_at_call 59; ((with_reducible refine (refSize_any _ _ ?_ ?_).mono ?_); (focus omega); (focus omega)); rintro e w1 ⟨rfl, rfl⟩))
        all_goals
          go_roundw
          case measure => simp [intOf]; omega
          case rel => exact ⟨k + 1, by omega, by go_num, by (rw [HMS.out]; first | rw [if_pos (by omega)] | rw [if_neg (by omega)]), HST.out⟩
    · obtain rfl : k = 1000 := by omega
      by_cases hm0 : mostOf l 1000 = 0
      · have hp0 := HE2.out hm0
        have HP0 := Lib.hid hp0
        have HX := Lib.hid (Ex.of hpo.2.2)
        rw [hm0]
        have HM0 := Lib.hid hm0
        clear hp0 hm0 hpo
        go_wp2_with fail
        go_ret2
        exact ⟨by rw [HP0.out, HE1.out, HM0.out]; rfl, HX.out.trans (by repeat (first | exact Ex.refl _ | refine Ex.alloc ?_ _ | refine Ex.ext ?_ _ _ | refine Ex.drew ?_ | refine Ex.drewN ?_ _))⟩
      · have HE4 := Lib.hid (HE3.out hm0)
        have hm0' : (mostOf l 1000 == 0) = false := by simpa using hm0
        have HPO := Lib.hid hpo
        have HX := Lib.hid (Ex.of hpo.2.2)
        have hvr : ∀ q : Nat, 1 ≤ q → q ≤ 1000 → wr.cell? ⟨w.heap.size, q, none⟩ = some (.int .i64 (volP l q)) ∧ wr.cell? ⟨w.heap.size + 1, q, none⟩ = some (.int .i64 (surP l q)) := fun q a b => by
          have c1 := hpo.1.cell (i := q) (by omega)
          have c2 := hpo.2.1.cell (i := q) (by omega)
          rw [if_pos ⟨a, b⟩] at c1 c2
          exact ⟨c1, c2⟩
        have HVR := Lib.hid hvr
        have z1 := hpo.1.lt
        have z2 := hpo.2.1.lt
        clear hpo hvr hm0
        generalize mostOf l 1000 = M at *
        go_wp2_with fail
        go_loop [12, 13] (fun c p => ∃ (k : Nat), k ≤ 1000 ∧ p = .int .i64 ((k : Int) + 1) ∧ c = .int .i64 (leastOf l M k)) (fun _ p => 1001 - (intOf p).toNat)
        case atStart => exact ⟨0, by omega, rfl, rfl⟩
        case round =>
          obtain ⟨k, hk, rfl, rfl⟩ := hrel
          by_cases hlt : k < 1000
          · obtain ⟨c1, c2⟩ := HVR.out (k + 1) (by omega) (by omega)
            have HMS := Lib.hid (show leastOf l M (k + 1) = if (volP l ((k : Int) + 1) == M && (decide (leastOf l M k < 0) || decide (surP l ((k : Int) + 1) < leastOf l M k))) = true then surP l ((k : Int) + 1) else leastOf l M k from rfl)
            rw [show ((k + 1 : Nat) : Int) = (k : Int) + 1 by omega] at c1 c2
            generalize volP l ((k : Int) + 1) = v at *
            generalize surP l ((k : Int) + 1) = s at *
            generalize leastOf l M k = L at *
            have j0 : (0 : Int) ≤ (k : Int) + 1 := by omega
            have j1 : (k : Int) + 1 < 1001 := by omega
            have j2 : ((k : Int) + 1).toNat = k + 1 := by omega
            cases t1 : (v == M)
            · go_wp2_with fail
              all_goals
                go_round
                case measure => simp [intOf]; omega
                case rel => exact ⟨k + 1, by omega, by go_num, by rw [HMS.out, t1]; rfl⟩
            · by_cases t2 : L < 0
              · go_wp2_with fail
                all_goals
                  go_round
                  case measure => simp [intOf]; omega
                  case rel => exact ⟨k + 1, by omega, by go_num, by rw [HMS.out, t1, decide_eq_true t2]; rfl⟩
              · by_cases t3 : s < L
                · go_wp2_with fail
                  all_goals
                    go_round
                    case measure => simp [intOf]; omega
                    case rel => exact ⟨k + 1, by omega, by go_num, by rw [HMS.out, t1, decide_eq_false t2, decide_eq_true t3]; rfl⟩
                · go_wp2_with fail
                  all_goals
                    go_round
                    case measure => simp [intOf]; omega
                    case rel => exact ⟨k + 1, by omega, by go_num, by rw [HMS.out, t1, decide_eq_false t2, decide_eq_false t3]; rfl⟩
          · obtain rfl : k = 1000 := by omega
            generalize leastOf l M 1000 = L at *
            go_wp2_with fail
            go_loop [14, 15] (fun b p => ∃ (q : Nat), q ≤ 1000 ∧ p = .int .i64 (q : Int) ∧ b = .int .i64 (bestD l ref M L (1000 - q))) (fun _ p => (intOf p).toNat)
            case atStart => exact ⟨1000, by omega, rfl, rfl⟩
            case round =>
              obtain ⟨q, hq, rfl, rfl⟩ := hrel
              cases q with
              | zero =>
                go_wp2_with fail
                go_ret2
                exact ⟨by rw [HE4.out, HE1.out]; rfl, HX.out.trans (by repeat (first | exact Ex.refl _ | refine Ex.alloc ?_ _ | refine Ex.ext ?_ _ _ | refine Ex.drew ?_ | refine Ex.drewN ?_ _))⟩
              | succ q =>
                obtain ⟨c1, c2⟩ := HVR.out (q + 1) (by omega) (by omega)
                have eq1 : ((q + 1 : Nat) : Int) = (q : Int) + 1 := by omega
                rw [eq1] at c1 c2
                rw [eq1]
                have j0 : (0 : Int) ≤ (q : Int) + 1 := by omega
                have j1 : (q : Int) + 1 < 1001 := by omega
                have j2 : ((q : Int) + 1).toNat = q + 1 := by omega
                clear eq1
                have hbd : 0 ≤ bestD l ref M L (1000 - (q + 1)) ∧ bestD l ref M L (1000 - (q + 1)) ≤ 1000 := by
                  rcases bestD_spec l ref M L (1000 - (q + 1)) (by omega) with ⟨h, _⟩ | ⟨h1, h2, _⟩
                  · rw [h]; omega
                  · omega
                have e0 : (1000 : Int) - ((1000 - (q + 1) : Nat) : Int) = ((q : Int) + 1) := by omega
                have hms : bestD l ref M L (1000 - (q + 1) + 1) = if (volP l ((q : Int) + 1) != M || surP l ((q : Int) + 1) != L) = true then bestD l ref M L (1000 - (q + 1))
                    else if (bestD l ref M L (1000 - (q + 1)) == 0 || decide (iabs (((q : Int) + 1) - ref) ≤ iabs (bestD l ref M L (1000 - (q + 1)) - ref))) = true then ((q : Int) + 1) else bestD l ref M L (1000 - (q + 1)) := by
                  rw [← e0]; rfl
                rw [show 1000 - (q + 1) + 1 = 1000 - q by omega] at hms
                have HMS := Lib.hid hms
                generalize volP l ((q : Int) + 1) = v at *
                generalize surP l ((q : Int) + 1) = s at *
                generalize bestD l ref M L (1000 - (q + 1)) = bb at *
                have HSZ1 := Lib.hid (refSize_any (((q : Int) + 1) - ref) wr (by omega) (by omega))
                have HSZ2 := Lib.hid (refSize_any (bb - ref) wr (by omega) (by omega))
                generalize hi1 : iabs (((q : Int) + 1) - ref) = x1 at *
                generalize hi2 : iabs (bb - ref) = x2 at *
                clear hms e0 hi1 hi2
                cases t1 : (v != M)
                · cases t2 : (s != L)
                  · cases t3 : (bb == 0)
                    · by_cases t4 : x1 ≤ x2
                      · go_wp2_with (first
                          | (go_at_call 59; (with_reducible refine HSZ1.out.mono ?_); rintro e w1 ⟨rfl, rfl⟩)
                          | (go_at_call 59; (with_reducible refine HSZ2.out.mono ?_); rintro e w1 ⟨rfl, rfl⟩))
                        all_goals
                          go_round
                          case measure => simp [intOf]
                          case rel => exact ⟨q, by omega, by go_num, by rw [HMS.out, t1, t2, t3, decide_eq_true t4]; rfl⟩
                      · go_wp2_with (first
                          | (go_at_call 59; (with_reducible refine HSZ1.out.mono ?_); rintro e w1 ⟨rfl, rfl⟩)
                          | (go_at_call 59; (with_reducible refine HSZ2.out.mono ?_); rintro e w1 ⟨rfl, rfl⟩))
                        all_goals
                          go_round
                          case measure => simp [intOf]
                          case rel => exact ⟨q, by omega, by go_num, by rw [HMS.out, t1, t2, t3, decide_eq_false (show ¬ x1 ≤ x2 by omega)]; rfl⟩
                    · go_wp2_with fail
                      all_goals
                        go_round
                        case measure => simp [intOf]
                        case rel => exact ⟨q, by omega, by go_num, by rw [HMS.out, t1, t2, t3]; rfl⟩
                  · go_wp2_with fail
                    all_goals
                      go_round
                      case measure => simp [intOf]
                      case rel => exact ⟨q, by omega, by go_num, by rw [HMS.out, t1, t2]; rfl⟩
                · go_wp2_with fail
                  all_goals
                    go_round
                    case measure => simp [intOf]
                    case rel => exact ⟨q, by omega, by go_num, by rw [HMS.out, t1]; rfl⟩
end Go.Proofs.YtjkaeiioofknoaaDoor
