/- The closed fact of chapter 3. -/
import Derived.Test.YtjkaeiioofknoaaDoorBest
import Derived.Test.YtjkaeiioofknoaaDoorOwn
set_option linter.unusedSimpArgs false
set_option linter.unusedVariables false
namespace Go.Proofs.YtjkaeiioofknoaaDoor
open Go.RowKit

theorem lots_block {w : World} {b : Nat} {cs : Array Value} {t : TypeId} {fr : Nat × Nat} {l : List Lot} (h : w.heap[b]? = some (.cells cs t fr)) (hc : cs.toList = l.flatMap Lot.cells) (hwf : ∀ a ∈ l, a.wf) (hn : l.length ≤ 9223372036854775807) :
    LotsAt w (some ⟨b, 0, none⟩) l.length l := by
  refine ⟨rfl, hn, hwf, fun h0 => ⟨b, 0, rfl, ?_, fun k hk j hj => ?_⟩⟩
  · rcases Nat.lt_or_ge b w.heap.size with h' | h'
    · exact h'
    · rw [Array.getElem?_eq_none h'] at h; cases h
  · rw [← flat_at l k j hk hj, ← hc, Nat.zero_add]
    simp [World.cell?, h]

def lots3 : List Lot := [⟨1, 0, 0, 10, 5⟩, ⟨2, 0, 0, 8, 3⟩, ⟨3, 0, 1, 9, 4⟩]
theorem lots3_ok : LotsOk lots3 := ⟨by decide, fun k hk => by
  match k, hk with
  | 0, _ => rfl
  | 1, _ => rfl
  | 2, _ => rfl⟩
theorem lots3_d9 : curveSum (isDem 9) lots3 = 5 := by rw [curveSum_ok lots3_ok]; rfl
theorem lots3_d8 : curveSum (isDem 8) lots3 = 8 := by rw [curveSum_ok lots3_ok]; rfl
theorem lots3_s9 : curveSum (isSup 9) lots3 = 4 := by rw [curveSum_ok lots3_ok]; rfl
theorem lots3_cross : curveCross lots3 = true := by
  simp only [curveCross, curveBest, if_pos lots3_ok]; rfl

set_option maxRecDepth 100000 in
set_option maxHeartbeats 1000000 in
theorem curved_any (E : Nat → Addr) (w : World) (hE : Errs E [2, 7, 8] w) : Calls Tryd.prog 13 #[] w fun e w' => e = .returned (.bool true) ∧ Ex w w' := by
  have H1 := fun ao len cap => demand_any ao len cap lots3 9 E
  have H2 := fun ao len cap => demand_any ao len cap lots3 8 E
  have H3 := fun ao len cap => volume_any ao len cap lots3 9 E
  have H4 := fun ao len cap => cross_any ao len cap lots3 E
  rw [lots3_d9] at H1
  rw [lots3_d8] at H2
  rw [lots3_d9, lots3_s9] at H3
  rw [lots3_cross] at H4
  go_enter Tryd.func13, Tryd.ntmps13
  go_wp2_with fail
  have HL : LotsAt (w.alloc (Obj.cells (lots3.flatMap Lot.cells).toArray 31)) (some ⟨w.heap.size, 0, none⟩) 3 lots3 :=
    lots_block (l := lots3) (alloc_at rfl) rfl (by intro a ha; simp only [lots3, List.mem_cons, List.not_mem_nil, or_false] at ha; rcases ha with rfl | rfl | rfl <;> (refine ⟨?_, ?_, ?_, ?_, ?_⟩ <;> decide)) (by decide)
  have HL := Lib.hid HL
  have G1 := Lib.hid H1
  have G2 := Lib.hid H2
  have G3 := Lib.hid H3
  have G4 := Lib.hid H4
  clear H1 H2 H3 H4
  refine (G1.out _ _ _ _ (by decide) (by exact Errs.sub (hE.ex (by repeat (first | exact Ex.refl _ | refine Ex.alloc ?_ _ | refine Ex.ext ?_ _ _ | refine Ex.drew ?_ | refine Ex.drewN ?_ _))) (by decide)) (HL.out.ex (by repeat (first | exact Ex.refl _ | refine Ex.alloc ?_ _ | refine Ex.ext ?_ _ _ | refine Ex.drew ?_ | refine Ex.drewN ?_ _)))).mono ?_
  rintro e w1 ⟨rfl, l1, d1, rfl⟩
  go_wp2_with fail
  refine (G2.out _ _ _ _ (by decide) (by exact Errs.sub (hE.ex (by repeat (first | exact Ex.refl _ | refine Ex.alloc ?_ _ | refine Ex.ext ?_ _ _ | refine Ex.drew ?_ | refine Ex.drewN ?_ _))) (by decide)) (HL.out.ex (by repeat (first | exact Ex.refl _ | refine Ex.alloc ?_ _ | refine Ex.ext ?_ _ _ | refine Ex.drew ?_ | refine Ex.drewN ?_ _)))).mono ?_
  rintro e w1 ⟨rfl, l2, d2, rfl⟩
  go_wp2_with fail
  refine (G3.out _ _ _ _ (by decide) (by exact Errs.sub (hE.ex (by repeat (first | exact Ex.refl _ | refine Ex.alloc ?_ _ | refine Ex.ext ?_ _ _ | refine Ex.drew ?_ | refine Ex.drewN ?_ _))) (by decide)) (HL.out.ex (by repeat (first | exact Ex.refl _ | refine Ex.alloc ?_ _ | refine Ex.ext ?_ _ _ | refine Ex.drew ?_ | refine Ex.drewN ?_ _)))).mono ?_
  rintro e w1 ⟨rfl, l3, d3, rfl⟩
  go_wp2_with fail
  refine (G4.out _ _ _ _ (by decide) (by exact Errs.sub (hE.ex (by repeat (first | exact Ex.refl _ | refine Ex.alloc ?_ _ | refine Ex.ext ?_ _ _ | refine Ex.drew ?_ | refine Ex.drewN ?_ _))) (by decide)) (HL.out.ex (by repeat (first | exact Ex.refl _ | refine Ex.alloc ?_ _ | refine Ex.ext ?_ _ _ | refine Ex.drew ?_ | refine Ex.drewN ?_ _)))).mono ?_
  rintro e w1 ⟨rfl, l4, d4, rfl⟩
  go_wp2
  all_goals go_ret
  all_goals exact ⟨rfl, (by repeat (first | exact Ex.refl _ | refine Ex.alloc ?_ _ | refine Ex.ext ?_ _ _ | refine Ex.drew ?_ | refine Ex.drewN ?_ _))⟩
end Go.Proofs.YtjkaeiioofknoaaDoor
