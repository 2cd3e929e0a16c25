/- What the closed fact of the intake's statements computes. -/
import Derived.Test.YthngmmhoakegeaaDoorPutAny
import Derived.Test.YthngmmhoakegeaaDoorOut
import Derived.Test.YthngmmhoakegeaaDoorEqAsk
set_option linter.unusedSimpArgs false
set_option linter.unusedVariables false
namespace Go.Proofs.YthngmmhoakegeaaDoor
open Go.RowKit

set_option maxRecDepth 100000 in
set_option maxHeartbeats 4000000 in
theorem taken_any (w : World) : Calls Tryd.prog 15 #[] w fun e w' => e = .returned (.bool true) ∧ Ex w w' := by
  have HN := Lib.hid (intakeNew (fun _ => 0) 1)
  have ho : outOf (fun d => if d = 2 then [] ++ [(⟨99, 2, 0, 0, 0, 0, 0, 5⟩ : Ask)] else []) 0 6 = [⟨99, 2, 0, 0, 0, 0, 0, 5⟩] := by rfl
  have HO := Lib.hid ho
  clear ho
  go_enter Tryd.func15, Tryd.ntmps15
  go_wp2_with (go_at_call 16; refine (HN.out _).mono ?_; rintro e w1 ⟨rfl, k1, x1, rfl, hI1⟩)
  have hI2 := hI1.alloc (.cells #[.int .u8 99, .int .i64 2, .int .i64 0, .int .i64 0, .int .i64 0, .int .i64 0, .int .i64 0, .int .i64 5] 30)
  refine (put_ok hI2 ⟨99, 2, 0, 0, 0, 0, 0, 5⟩ (fun _ => ⟨0, 0, none⟩) (.inr rfl) 2 (by decide) rfl (by decide)).mono ?_
  rintro e w2 ⟨rfl, k2, x2, rfl, hI3⟩
  have HW := Lib.hid (intakeWait_in hI3 2 (by decide))
  have HD := Lib.hid (fun w' own' (h : IntakeAt own' 1 w' w.heap.size (fun d => if d = 2 then [] ++ [(⟨99, 2, 0, 0, 0, 0, 0, 5⟩ : Ask)] else []) 0) => drain_any (j := 2) (by decide) h)
  have HI3 := Lib.hid hI3
  clear hI1 hI2 hI3
  go_wp2_with (go_at_call 19; refine (HW.out).mono ?_; rintro e w3 ⟨rfl, l3, d3, rfl⟩)
  have hI4 := HI3.out.exts l3 d3
  refine (HD.out _ _ hI4).mono ?_
  rintro e w4 ⟨v, rfl, hT⟩
  obtain ⟨o4, ⟨hI5, hR⟩, hB5, ho5, hs5, hK5⟩ := hT.use (B := w.heap.size) (a := w) (by (repeat (first | exact Below.refl _ _ | (refine Below.drew ?_) | (refine Below.drewN ?_ _) | (refine Below.ext ?_ (by first | omega | (simp [go_sem]; done) | (simp [go_sem]; omega)) _ _) | (refine Below.ov ?_ _ _ _ _ _ (fun b hb => by first | (simp [lab, hb, go_sem]; done) | (simp [lab, go_sem, ↓IntWalk.iteOmega]; done)) (by first | omega | (simp [go_sem]; done) | (simp [go_sem]; omega))) | (refine Below.alloc ?_ (by first | omega | (simp [go_sem]; done) | (simp [go_sem]; omega)) _) | (refine Below.setCell ?_ (by first | omega | (simp [go_sem]; done) | (simp [go_sem]; omega)) _)))) (by simp [go_sem]; omega) (fun b hb => by simp [lab, go_sem, ↓IntWalk.iteOmega])
  rw [HO.out] at hR
  obtain ⟨g, off, cap, rfl, hcap, _, hg, hcell⟩ := hR.opened (by decide)
  have ha : ∀ j, w4.cell? ⟨w.heap.size + k1, j, none⟩ = (#[.int .u8 99, .int .i64 2, .int .i64 0, .int .i64 0, .int .i64 0, .int .i64 0, .int .i64 0, .int .i64 5] : Array Value)[j]? := fun j =>
    (World.cell?_of_block (a := ⟨w.heap.size + k1, j, none⟩) (hK5.other (k := w.heap.size + k1) (by simp [go_sem]; omega) (by simp [go_sem, ↓IntWalk.iteOmega]))).trans (by simp [go_sem, ↓IntWalk.iteOmega])
  have HT := Lib.hid (fun w' (hx : Ex w4 w') => intakeTurn (hI5.later hx))
  have HW2 := Lib.hid (fun w' (hx : Ex w4 w') => intakeWait_in (hI5.later hx) 2 (by decide))
  have HQ := Lib.hid (eqAsk ⟨99, 2, 0, 0, 0, 0, 0, 5⟩ ⟨99, 2, 0, 0, 0, 0, 0, 5⟩)
  have a0 := ha 0
  have a1 := ha 1
  have a2 := ha 2
  have a3 := ha 3
  have a4 := ha 4
  have a5 := ha 5
  have a6 := ha 6
  have a7 := ha 7
  have o0 := hcell 0 (by decide)
  have o1 := hcell 1 (by decide)
  have o2 := hcell 2 (by decide)
  have o3 := hcell 3 (by decide)
  have o4' := hcell 4 (by decide)
  have o5 := hcell 5 (by decide)
  have o6 := hcell 6 (by decide)
  have o7 := hcell 7 (by decide)
  simp only [flat_one, Ask.cells, Nat.add_zero, List.getElem?_cons_zero, List.getElem?_cons_succ, List.getElem?_toArray] at a0 a1 a2 a3 a4 a5 a6 a7 o0 o1 o2 o3 o4' o5 o6 o7
  have hq := HQ.out
  have hcap1 : 1 ≤ cap := hcap
  have hlt := lt_of_cell a0
  clear ha hcell hT hI5 HI3 HW HD HN hR hI4 HO HQ hK5 hcap
  go_wp2_with fail
  go_region_held3 (fun w' => w'.cell? ⟨w.heap.size + k1, 0, none⟩ = some (.int .u8 99) ∧ w'.cell? ⟨w.heap.size + k1, 1, none⟩ = some (.int .i64 2) ∧ w'.cell? ⟨w.heap.size + k1, 2, none⟩ = some (.int .i64 0) ∧ w'.cell? ⟨w.heap.size + k1, 3, none⟩ = some (.int .i64 0) ∧ w'.cell? ⟨w.heap.size + k1, 4, none⟩ = some (.int .i64 0) ∧ w'.cell? ⟨w.heap.size + k1, 5, none⟩ = some (.int .i64 0) ∧ w'.cell? ⟨w.heap.size + k1, 6, none⟩ = some (.int .i64 0) ∧ w'.cell? ⟨w.heap.size + k1, 7, none⟩ = some (.int .i64 5) ∧ w'.cell? ⟨g, off, none⟩ = some (.int .u8 99) ∧ w'.cell? ⟨g, off + 1, none⟩ = some (.int .i64 2) ∧ w'.cell? ⟨g, off + 2, none⟩ = some (.int .i64 0) ∧ w'.cell? ⟨g, off + 3, none⟩ = some (.int .i64 0) ∧ w'.cell? ⟨g, off + 4, none⟩ = some (.int .i64 0) ∧ w'.cell? ⟨g, off + 5, none⟩ = some (.int .i64 0) ∧ w'.cell? ⟨g, off + 6, none⟩ = some (.int .i64 0) ∧ w'.cell? ⟨g, off + 7, none⟩ = some (.int .i64 5)) (first | (refine ⟨?_, ?_, ?_, ?_, ?_, ?_, ?_, ?_, ?_, ?_, ?_, ?_, ?_, ?_, ?_, ?_⟩ <;> assumption) | (simp [go_sem, ↓IntWalk.iteOmega, *]; done))
    (first | (go_at_call 43; refine (HT.out _ (by repeat (first | exact Ex.refl _ | refine Ex.alloc ?_ _ | refine Ex.ext ?_ _ _ | refine Ex.drew ?_ | refine Ex.drewN ?_ _))).mono ?_; rintro e w5 ⟨rfl, l5, d5, rfl⟩) | (go_at_call 19; refine (HW2.out _ (by repeat (first | exact Ex.refl _ | refine Ex.alloc ?_ _ | refine Ex.ext ?_ _ _ | refine Ex.drew ?_ | refine Ex.drewN ?_ _))).mono ?_; rintro e w5 ⟨rfl, l5, d5, rfl⟩))
  all_goals go_wp2_with fail
  all_goals go_ret
  all_goals exact ⟨rfl, (Ex.of hB5).trans (by repeat (first | exact Ex.refl _ | refine Ex.alloc ?_ _ | refine Ex.ext ?_ _ _ | refine Ex.drew ?_ | refine Ex.drewN ?_ _))⟩
end Go.Proofs.YthngmmhoakegeaaDoor
