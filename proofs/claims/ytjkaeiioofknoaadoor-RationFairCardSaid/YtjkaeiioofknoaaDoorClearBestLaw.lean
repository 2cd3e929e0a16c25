/- The walk of ClearBest. -/
import Derived.Test.YtjkaeiioofknoaaDoorPrice
import Derived.Test.YtjkaeiioofknoaaDoorStrict
import Derived.Test.YtjkaeiioofknoaaDoorOwn
import Derived.Test.YtjkaeiioofknoaaDoorCurved
set_option linter.unusedSimpArgs false
set_option linter.unusedVariables false
namespace Go.Proofs.YtjkaeiioofknoaaDoor
open Go.RowKit

def lots2 : List Lot := [⟨1, 0, 0, 10, 5⟩, ⟨2, 0, 1, 8, 4⟩]
theorem lots2_ok : LotsOk lots2 := ⟨by decide, fun k hk => by
  match k, hk with
  | 0, _ => rfl
  | 1, _ => rfl⟩
theorem lots2_best : (bestC lots2 9 1000).price = 9 ∧ (bestC lots2 9 1000).vol = 4 := by decide +kernel

set_option maxRecDepth 100000 in
set_option maxHeartbeats 1000000 in
theorem cleared_any (E : Nat → Addr) (w : World) (hE : Errs E [2, 7, 8] w) : Calls Tryd.prog 20 #[] w fun e w' => e = .returned (.bool true) ∧ Ex w w' := by
  have H1 := fun ao len cap w hc hE hl => price_ok ao len cap lots2 9 E w hc hE hl lots2_ok (by decide) (by decide)
  rw [lots2_best.1, lots2_best.2] at H1
  go_enter Tryd.func20, Tryd.ntmps20
  go_wp2_with fail
  have HL : LotsAt (w.alloc (Obj.cells (lots2.flatMap Lot.cells).toArray 31)) (some ⟨w.heap.size, 0, none⟩) 2 lots2 :=
    lots_block (l := lots2) (alloc_at rfl) rfl (by intro a ha; simp only [lots2, List.mem_cons, List.not_mem_nil, or_false] at ha; rcases ha with rfl | rfl <;> (refine ⟨?_, ?_, ?_, ?_, ?_⟩ <;> decide)) (by decide)
  have HL := Lib.hid HL
  have G1 := Lib.hid H1
  clear H1
  refine (G1.out _ _ _ _ (by decide) (by exact Errs.sub (hE.ex (by repeat (first | exact Ex.refl _ | refine Ex.alloc ?_ _ | refine Ex.ext ?_ _ _ | refine Ex.drew ?_ | refine Ex.drewN ?_ _))) (by decide)) (HL.out.ex (by repeat (first | exact Ex.refl _ | refine Ex.alloc ?_ _ | refine Ex.ext ?_ _ _ | refine Ex.drew ?_ | refine Ex.drewN ?_ _)))).mono ?_
  rintro e w1 ⟨rfl, l1, d1, rfl⟩
  go_wp2
  all_goals go_ret
  all_goals exact ⟨rfl, (by repeat (first | exact Ex.refl _ | refine Ex.alloc ?_ _ | refine Ex.ext ?_ _ _ | refine Ex.drew ?_ | refine Ex.drewN ?_ _))⟩

/-- What is so of the price that is found. -/
theorem best_facts {l : List Lot} (h : LotsOk l) (ref other : Int) (o1 : 1 ≤ other) (o2 : other ≤ 1000) : let b := bestC l ref 1000
    curveSum (isDem other) l = dem l other ∧ curveSum (isSup other) l = sup l other ∧ min (dem l other) (sup l other) ≤ b.vol ∧ (curveCross l = decide (0 < b.vol)) ∧
    ((b.vol = 0 ∧ b.price = 0) ∨ (0 < b.vol ∧ 1 ≤ b.price ∧ b.price ≤ 1000 ∧ min (dem l b.price) (sup l b.price) = b.vol ∧
      (min (dem l other) (sup l other) = b.vol → iabs (dem l b.price - sup l b.price) ≤ iabs (dem l other - sup l other)) ∧ curveSum (isDem b.price) l = dem l b.price ∧ curveSum (isSup b.price) l = sup l b.price ∧
      sumOf (isStrict 0 b.price) l ≤ dem l b.price ∧ sumOf (isStrict 1 b.price) l ≤ sup l b.price)) := by
  have hm := h.mem
  have nn : ∀ q, 0 ≤ min (dem l q) (sup l q) := fun q => by
    have := (sumOf_bounds (isDem q) l hm).1; have := (sumOf_bounds (isSup q) l hm).1
    unfold dem sup; omega
  have sc : ∀ is, curveSum is l = sumOf is l := fun is => curveSum_ok h
  simp only
  rcases bestC_spec l ref 1000 with ⟨h1, h2⟩ | ⟨p, p1, p2, h2, h3, h4⟩
  · have hv : ∀ q, 1 ≤ q → q ≤ 1000 → min (dem l q) (sup l q) ≤ 0 := fun q a b => h1 q a (by omega)
    rw [h2]
    refine ⟨sc _, sc _, hv other o1 o2, ?_, .inl (by simp)⟩
    have : curveCross l = false := by
      rw [Bool.eq_false_iff]
      intro hc
      obtain ⟨q, a, b, c⟩ := (curveCross_iff h).1 hc
      have := hv q a b
      omega
    rw [this]; rfl
  · rw [h2]
    simp only [candAt] at h3 h4 ⊢
    refine ⟨sc _, sc _, ?_, ?_, .inr ⟨h3, p1, by omega, (by first | trivial | rfl), ?_, sc _, sc _, ?_, ?_⟩⟩
    · by_cases e : other = p
      · rw [e]; omega
      · rcases h4 other o1 (by omega) e with g | g
        · omega
        · unfold Cand.better at g; simp only at g; omega
    · rw [(curveCross_iff h).2 ⟨p, p1, by omega, h3⟩]
      exact (decide_eq_true h3).symm
    · intro he
      by_cases e : other = p
      · rw [e]; omega
      · rcases h4 other o1 (by omega) e with g | g
        · omega
        · unfold Cand.better at g; simp only at g; omega
    · exact sumOf_mono l hm fun x _ hx => by simp [isStrict, isDem] at hx ⊢; omega
    · exact sumOf_mono l hm fun x _ hx => by simp [isStrict, isSup] at hx ⊢; omega

set_option maxRecDepth 100000 in
set_option maxHeartbeats 2000000 in
theorem clearBest_out (ao : Option Addr) (len cap : Nat) (ref other : Int) (E : Nat → Addr) (w : World) (hE : Errs E [2, 7, 8] w) (hm : len ≤ 9223372036854775807) (h : 60 < len ∨ other < 1 ∨ 1000 < other) :
    Calls Tryd.prog 5 #[.slice ao len cap, .int .i64 ref, .int .i64 other] w fun e w' => e = .returned (.bool true) ∧ Ex w w' := by
  by_cases h1 : len > 60
  · go_enter Tryd.func5, Tryd.ntmps5
    go_wp2_with (go_at_call 20; refine (cleared_any E _ (by exact Errs.sub (hE.ex (by repeat (first | exact Ex.refl _ | refine Ex.alloc ?_ _ | refine Ex.ext ?_ _ _ | refine Ex.drew ?_ | refine Ex.drewN ?_ _))) (by decide))).mono ?_; rintro e w1 ⟨rfl, l1, d1, rfl⟩)
    all_goals go_ret
    all_goals exact ⟨rfl, (by repeat (first | exact Ex.refl _ | refine Ex.alloc ?_ _ | refine Ex.ext ?_ _ _ | refine Ex.drew ?_ | refine Ex.drewN ?_ _))⟩
  by_cases h2 : other < 1
  · go_enter Tryd.func5, Tryd.ntmps5
    go_wp2_with (go_at_call 20; refine (cleared_any E _ (by exact Errs.sub (hE.ex (by repeat (first | exact Ex.refl _ | refine Ex.alloc ?_ _ | refine Ex.ext ?_ _ _ | refine Ex.drew ?_ | refine Ex.drewN ?_ _))) (by decide))).mono ?_; rintro e w1 ⟨rfl, l1, d1, rfl⟩)
    all_goals go_ret
    all_goals exact ⟨rfl, (by repeat (first | exact Ex.refl _ | refine Ex.alloc ?_ _ | refine Ex.ext ?_ _ _ | refine Ex.drew ?_ | refine Ex.drewN ?_ _))⟩
  · have h3 : other > 1000 := by omega
    go_enter Tryd.func5, Tryd.ntmps5
    go_wp2_with (go_at_call 20; refine (cleared_any E _ (by exact Errs.sub (hE.ex (by repeat (first | exact Ex.refl _ | refine Ex.alloc ?_ _ | refine Ex.ext ?_ _ _ | refine Ex.drew ?_ | refine Ex.drewN ?_ _))) (by decide))).mono ?_; rintro e w1 ⟨rfl, l1, d1, rfl⟩)
    all_goals go_ret
    all_goals exact ⟨rfl, (by repeat (first | exact Ex.refl _ | refine Ex.alloc ?_ _ | refine Ex.ext ?_ _ _ | refine Ex.drew ?_ | refine Ex.drewN ?_ _))⟩

set_option maxRecDepth 100000 in
set_option maxHeartbeats 4000000 in
theorem clearBest_in (ao : Option Addr) (len cap : Nat) (l : List Lot) (ref other : Int) (E : Nat → Addr) (w : World) (hcap : len ≤ cap ∧ cap ≤ 9223372036854775807 ∧ (ao = none → cap = 0)) (hE : Errs E [2, 7, 8] w) (hl : LotsAt w ao len l) (h1 : len ≤ 60) (o1 : 1 ≤ other) (o2 : other ≤ 1000) :
    Calls Tryd.prog 5 #[.slice ao len cap, .int .i64 ref, .int .i64 other] w fun e w' => e = .returned (.bool true) ∧ Ex w w' := by
  have HL := Lib.hid hl
  by_cases hok : LotsOk l
  · have HOK := Lib.hid hok
    by_cases hr : ref < 1 ∨ 1000 < ref
    · have HR := Lib.hid hr
      clear hl hok hr
      go_enter Tryd.func5, Tryd.ntmps5
      go_wp2_with (go_at_call 20; refine (cleared_any E _ (by exact Errs.sub (hE.ex (by repeat (first | exact Ex.refl _ | refine Ex.alloc ?_ _ | refine Ex.ext ?_ _ _ | refine Ex.drew ?_ | refine Ex.drewN ?_ _))) (by decide))).mono ?_; rintro e w1 ⟨rfl, l1, d1, rfl⟩)
      refine (ownLots_any ao len cap l _ hcap (by omega) (HL.out.ex (by repeat (first | exact Ex.refl _ | refine Ex.alloc ?_ _ | refine Ex.ext ?_ _ _ | refine Ex.drew ?_ | refine Ex.drewN ?_ _)))).mono ?_
      rintro e wo ⟨⟨ao', cap', rfl, hc', hl'⟩, hx1'⟩
      have HX : Hid (Ex w wo) := Lib.hid (Ex.trans (by repeat (first | exact Ex.refl _ | refine Ex.alloc ?_ _ | refine Ex.ext ?_ _ _ | refine Ex.drew ?_ | refine Ex.drewN ?_ _)) hx1')
      have hE' := hE.ex HX.out
      clear hx1'
      have HL' := Lib.hid hl'
      clear hl'
      have hcl := hc'.1
      go_wp2_with fail
      refine (price_ref _ len _ l ref E _ hc'.1 hE' HL'.out HOK.out HR.out).mono ?_
      rintro e w1 ⟨rfl, l3, d3, rfl⟩
      go_wp2
      all_goals go_ret
      all_goals exact ⟨rfl, HX.out.trans (by repeat (first | exact Ex.refl _ | refine Ex.alloc ?_ _ | refine Ex.ext ?_ _ _ | refine Ex.drew ?_ | refine Ex.drewN ?_ _))⟩
    · have r1 : 1 ≤ ref := by omega
      have r2 : ref ≤ 1000 := by omega
      clear hr
      have P0 := fun ao cap w hc hE hl => price_ok ao len cap l ref E w hc hE hl hok r1 r2
      have C0 := fun ao cap => cross_any ao len cap l E
      have V0 := fun ao cap => volume_any ao len cap l other E
      have X0 := fun ao cap => surplus_any ao len cap l other E
      have V1 := fun ao cap => volume_any ao len cap l (bestC l ref 1000).price E
      have X1 := fun ao cap => surplus_any ao len cap l (bestC l ref 1000).price E
      have D1 := fun ao cap => demand_any ao len cap l (bestC l ref 1000).price E
      have S1 := fun ao cap => supply_any ao len cap l (bestC l ref 1000).price E
      have T0 := fun ao cap w hc hE hl => strict_any ao len cap l 0 (bestC l ref 1000).price E w hc hE hl hok
      have T1 := fun ao cap w hc hE hl => strict_any ao len cap l 1 (bestC l ref 1000).price E w hc hE hl hok
      obtain ⟨f1, f2, f3, f4, f5⟩ := best_facts hok ref other o1 o2
      try simp only at f3 f4 f5
      have bo1 := sumOf_bounds (isDem other) l hok.mem
      have bo2 := sumOf_bounds (isSup other) l hok.mem
      have hlen := hl.1
      change 0 ≤ dem l other ∧ dem l other ≤ _ at bo1
      change 0 ≤ sup l other ∧ sup l other ≤ _ at bo2
      rw [f1, f2] at V0 X0
      rw [f4] at C0
      generalize dem l other = d0 at *
      generalize sup l other = s0 at *
      rcases f5 with ⟨e1, e2⟩ | ⟨g1, g2, g3, g4, g5, g6, g7, g8, g9⟩
      · rw [e1, e2] at P0
        rw [e1] at C0 f3
        have q1 : ¬ (0 < min d0 s0) := by omega
        have HP0 := Lib.hid P0; have HC0 := Lib.hid C0; have HV0 := Lib.hid V0
        clear hl hok P0 C0 V0 X0 V1 X1 D1 S1 T0 T1 f1 f2 f4 e1 e2
        generalize min d0 s0 = vo at *
        have q2 : decide (0 < vo) = false := by simpa using q1
        go_enter Tryd.func5, Tryd.ntmps5
        go_wp2_with (go_at_call 20; refine (cleared_any E _ (by exact Errs.sub (hE.ex (by repeat (first | exact Ex.refl _ | refine Ex.alloc ?_ _ | refine Ex.ext ?_ _ _ | refine Ex.drew ?_ | refine Ex.drewN ?_ _))) (by decide))).mono ?_; rintro e w1 ⟨rfl, l1, d1, rfl⟩)
        refine (ownLots_any ao len cap l _ hcap (by omega) (HL.out.ex (by repeat (first | exact Ex.refl _ | refine Ex.alloc ?_ _ | refine Ex.ext ?_ _ _ | refine Ex.drew ?_ | refine Ex.drewN ?_ _)))).mono ?_
        rintro e wo ⟨⟨ao', cap', rfl, hc', hl'⟩, hx1'⟩
        have HX : Hid (Ex w wo) := Lib.hid (Ex.trans (by repeat (first | exact Ex.refl _ | refine Ex.alloc ?_ _ | refine Ex.ext ?_ _ _ | refine Ex.drew ?_ | refine Ex.drewN ?_ _)) hx1')
        have hE' := hE.ex HX.out
        clear hx1'
        have HL' := Lib.hid hl'
        clear hl'
        have hcl := hc'.1
        go_wp2_with fail
        go_wp2_with (first
          | (go_at_call 21; ((with_reducible refine (HP0.out ao' cap' _ ?_ ?_ ?_).mono ?_); (focus exact hcl); (focus exact Errs.ex hE' (by repeat (first | exact Ex.refl _ | refine Ex.alloc ?_ _ | refine Ex.ext ?_ _ _ | refine Ex.drew ?_ | refine Ex.drewN ?_ _))); (focus exact LotsAt.ex HL'.out (by repeat (first | exact Ex.refl _ | refine Ex.alloc ?_ _ | refine Ex.ext ?_ _ _ | refine Ex.drew ?_ | refine Ex.drewN ?_ _)))); rintro e w1 ⟨rfl, l4, d4, rfl⟩)
          | (go_at_call 19; ((with_reducible refine (HV0.out ao' cap' _ ?_ ?_ ?_).mono ?_); (focus exact hcl); (focus exact Errs.ex hE' (by repeat (first | exact Ex.refl _ | refine Ex.alloc ?_ _ | refine Ex.ext ?_ _ _ | refine Ex.drew ?_ | refine Ex.drewN ?_ _))); (focus exact LotsAt.ex HL'.out (by repeat (first | exact Ex.refl _ | refine Ex.alloc ?_ _ | refine Ex.ext ?_ _ _ | refine Ex.drew ?_ | refine Ex.drewN ?_ _)))); rintro e w1 ⟨rfl, l4, d4, rfl⟩)
          | (go_at_call 22; ((with_reducible refine (HC0.out ao' cap' _ ?_ ?_ ?_).mono ?_); (focus exact hcl); (focus exact Errs.ex hE' (by repeat (first | exact Ex.refl _ | refine Ex.alloc ?_ _ | refine Ex.ext ?_ _ _ | refine Ex.drew ?_ | refine Ex.drewN ?_ _))); (focus exact LotsAt.ex HL'.out (by repeat (first | exact Ex.refl _ | refine Ex.alloc ?_ _ | refine Ex.ext ?_ _ _ | refine Ex.drew ?_ | refine Ex.drewN ?_ _)))); rintro e w1 ⟨rfl, l4, d4, rfl⟩))
        all_goals go_ret
        all_goals exact ⟨rfl, HX.out.trans (by repeat (first | exact Ex.refl _ | refine Ex.alloc ?_ _ | refine Ex.ext ?_ _ _ | refine Ex.drew ?_ | refine Ex.drewN ?_ _))⟩
      · have bp1 := sumOf_bounds (isDem (bestC l ref 1000).price) l hok.mem
        have bp2 := sumOf_bounds (isSup (bestC l ref 1000).price) l hok.mem
        change 0 ≤ dem l _ ∧ dem l _ ≤ _ at bp1
        change 0 ≤ sup l _ ∧ sup l _ ≤ _ at bp2
        rw [g6, g7] at V1 X1
        rw [g6] at D1
        rw [g7] at S1
        rw [g4] at V1
        clear f1 f2 f4 g6 g7
        generalize dem l (bestC l ref 1000).price = d1 at *
        generalize sup l (bestC l ref 1000).price = s1 at *
        generalize sumOf (isStrict 0 (bestC l ref 1000).price) l = t0 at *
        generalize sumOf (isStrict 1 (bestC l ref 1000).price) l = t1 at *
        generalize (bestC l ref 1000).price = p at *
        generalize (bestC l ref 1000).vol = v at *
        generalize hvo : min d0 s0 = vo at *
        have hx0 : -60000 ≤ d0 - s0 ∧ d0 - s0 ≤ 60000 := by omega
        have hx1 : -60000 ≤ d1 - s1 ∧ d1 - s1 ≤ 60000 := by omega
        generalize d0 - s0 = x0 at *
        generalize d1 - s1 = x1 at *
        clear hvo g4 bp1 bp2 bo1 bo2
        have q0 : decide (0 < v) = true := by simpa using g1
        rw [q0] at C0
        have q1 : ¬ (vo > v) := by omega
        have q3 : (v == 0) = false := by simp; omega
        have q4 : (v == v) = true := by simp
        have HP0 := Lib.hid P0; have HC0 := Lib.hid C0; have HV0 := Lib.hid V0; have HX0 := Lib.hid X0; have HV1 := Lib.hid V1; have HX1 := Lib.hid X1; have HD1 := Lib.hid D1; have HS1 := Lib.hid S1; have HT0 := Lib.hid T0; have HT1 := Lib.hid T1
        have G5 := Lib.hid g5
        clear hl hok P0 C0 V0 X0 V1 X1 D1 S1 T0 T1 g5
        by_cases hv : vo = v
        · have q5 : (vo == v) = true := by simpa using hv
          have hle := G5.out hv
          simp only [iabs] at hle
          have HVV := Lib.hid hv
          clear hv
          by_cases n1 : x1 < 0 <;> by_cases n0 : x0 < 0
          · have hc : ¬ (-x0 < -x1) := by omega
            go_enter Tryd.func5, Tryd.ntmps5
            go_wp2_with (go_at_call 20; refine (cleared_any E _ (by exact Errs.sub (hE.ex (by repeat (first | exact Ex.refl _ | refine Ex.alloc ?_ _ | refine Ex.ext ?_ _ _ | refine Ex.drew ?_ | refine Ex.drewN ?_ _))) (by decide))).mono ?_; rintro e w1 ⟨rfl, l1, d1, rfl⟩)
            refine (ownLots_any ao len cap l _ hcap (by omega) (HL.out.ex (by repeat (first | exact Ex.refl _ | refine Ex.alloc ?_ _ | refine Ex.ext ?_ _ _ | refine Ex.drew ?_ | refine Ex.drewN ?_ _)))).mono ?_
            rintro e wo ⟨⟨ao', cap', rfl, hc', hl'⟩, hx1'⟩
            have HX : Hid (Ex w wo) := Lib.hid (Ex.trans (by repeat (first | exact Ex.refl _ | refine Ex.alloc ?_ _ | refine Ex.ext ?_ _ _ | refine Ex.drew ?_ | refine Ex.drewN ?_ _)) hx1')
            have hE' := hE.ex HX.out
            clear hx1'
            have HL' := Lib.hid hl'
            clear hl'
            have hcl := hc'.1
            go_wp2_with fail
            go_wp2_with (first
              | (go_at_call 21; ((with_reducible refine (HP0.out ao' cap' _ ?_ ?_ ?_).mono ?_); (focus exact hcl); (focus exact Errs.ex hE' (by repeat (first | exact Ex.refl _ | refine Ex.alloc ?_ _ | refine Ex.ext ?_ _ _ | refine Ex.drew ?_ | refine Ex.drewN ?_ _))); (focus exact LotsAt.ex HL'.out (by repeat (first | exact Ex.refl _ | refine Ex.alloc ?_ _ | refine Ex.ext ?_ _ _ | refine Ex.drew ?_ | refine Ex.drewN ?_ _)))); rintro e w1 ⟨rfl, l4, d4, rfl⟩)
              | (go_at_call 19; ((with_reducible refine (HV0.out ao' cap' _ ?_ ?_ ?_).mono ?_); (focus exact hcl); (focus exact Errs.ex hE' (by repeat (first | exact Ex.refl _ | refine Ex.alloc ?_ _ | refine Ex.ext ?_ _ _ | refine Ex.drew ?_ | refine Ex.drewN ?_ _))); (focus exact LotsAt.ex HL'.out (by repeat (first | exact Ex.refl _ | refine Ex.alloc ?_ _ | refine Ex.ext ?_ _ _ | refine Ex.drew ?_ | refine Ex.drewN ?_ _)))); rintro e w1 ⟨rfl, l4, d4, rfl⟩)
              | (go_at_call 19; ((with_reducible refine (HV1.out ao' cap' _ ?_ ?_ ?_).mono ?_); (focus exact hcl); (focus exact Errs.ex hE' (by repeat (first | exact Ex.refl _ | refine Ex.alloc ?_ _ | refine Ex.ext ?_ _ _ | refine Ex.drew ?_ | refine Ex.drewN ?_ _))); (focus exact LotsAt.ex HL'.out (by repeat (first | exact Ex.refl _ | refine Ex.alloc ?_ _ | refine Ex.ext ?_ _ _ | refine Ex.drew ?_ | refine Ex.drewN ?_ _)))); rintro e w1 ⟨rfl, l4, d4, rfl⟩)
              | (go_at_call 22; ((with_reducible refine (HC0.out ao' cap' _ ?_ ?_ ?_).mono ?_); (focus exact hcl); (focus exact Errs.ex hE' (by repeat (first | exact Ex.refl _ | refine Ex.alloc ?_ _ | refine Ex.ext ?_ _ _ | refine Ex.drew ?_ | refine Ex.drewN ?_ _))); (focus exact LotsAt.ex HL'.out (by repeat (first | exact Ex.refl _ | refine Ex.alloc ?_ _ | refine Ex.ext ?_ _ _ | refine Ex.drew ?_ | refine Ex.drewN ?_ _)))); rintro e w1 ⟨rfl, l4, d4, rfl⟩)
              | (go_at_call 18; ((with_reducible refine (HX0.out ao' cap' _ ?_ ?_ ?_).mono ?_); (focus exact hcl); (focus exact Errs.ex hE' (by repeat (first | exact Ex.refl _ | refine Ex.alloc ?_ _ | refine Ex.ext ?_ _ _ | refine Ex.drew ?_ | refine Ex.drewN ?_ _))); (focus exact LotsAt.ex HL'.out (by repeat (first | exact Ex.refl _ | refine Ex.alloc ?_ _ | refine Ex.ext ?_ _ _ | refine Ex.drew ?_ | refine Ex.drewN ?_ _)))); rintro e w1 ⟨rfl, l4, d4, rfl⟩)
              | (go_at_call 18; ((with_reducible refine (HX1.out ao' cap' _ ?_ ?_ ?_).mono ?_); (focus exact hcl); (focus exact Errs.ex hE' (by repeat (first | exact Ex.refl _ | refine Ex.alloc ?_ _ | refine Ex.ext ?_ _ _ | refine Ex.drew ?_ | refine Ex.drewN ?_ _))); (focus exact LotsAt.ex HL'.out (by repeat (first | exact Ex.refl _ | refine Ex.alloc ?_ _ | refine Ex.ext ?_ _ _ | refine Ex.drew ?_ | refine Ex.drewN ?_ _)))); rintro e w1 ⟨rfl, l4, d4, rfl⟩)
              | (go_at_call 16; ((with_reducible refine (HD1.out ao' cap' _ ?_ ?_ ?_).mono ?_); (focus exact hcl); (focus exact Errs.ex hE' (by repeat (first | exact Ex.refl _ | refine Ex.alloc ?_ _ | refine Ex.ext ?_ _ _ | refine Ex.drew ?_ | refine Ex.drewN ?_ _))); (focus exact LotsAt.ex HL'.out (by repeat (first | exact Ex.refl _ | refine Ex.alloc ?_ _ | refine Ex.ext ?_ _ _ | refine Ex.drew ?_ | refine Ex.drewN ?_ _)))); rintro e w1 ⟨rfl, l4, d4, rfl⟩)
              | (go_at_call 17; ((with_reducible refine (HS1.out ao' cap' _ ?_ ?_ ?_).mono ?_); (focus exact hcl); (focus exact Errs.ex hE' (by repeat (first | exact Ex.refl _ | refine Ex.alloc ?_ _ | refine Ex.ext ?_ _ _ | refine Ex.drew ?_ | refine Ex.drewN ?_ _))); (focus exact LotsAt.ex HL'.out (by repeat (first | exact Ex.refl _ | refine Ex.alloc ?_ _ | refine Ex.ext ?_ _ _ | refine Ex.drew ?_ | refine Ex.drewN ?_ _)))); rintro e w1 ⟨rfl, l4, d4, rfl⟩)
              | (go_at_call 23; ((with_reducible refine (HT0.out ao' cap' _ ?_ ?_ ?_).mono ?_); (focus exact hcl); (focus exact Errs.ex hE' (by repeat (first | exact Ex.refl _ | refine Ex.alloc ?_ _ | refine Ex.ext ?_ _ _ | refine Ex.drew ?_ | refine Ex.drewN ?_ _))); (focus exact LotsAt.ex HL'.out (by repeat (first | exact Ex.refl _ | refine Ex.alloc ?_ _ | refine Ex.ext ?_ _ _ | refine Ex.drew ?_ | refine Ex.drewN ?_ _)))); rintro e w1 ⟨rfl, l4, d4, rfl⟩)
              | (go_at_call 23; ((with_reducible refine (HT1.out ao' cap' _ ?_ ?_ ?_).mono ?_); (focus exact hcl); (focus exact Errs.ex hE' (by repeat (first | exact Ex.refl _ | refine Ex.alloc ?_ _ | refine Ex.ext ?_ _ _ | refine Ex.drew ?_ | refine Ex.drewN ?_ _))); (focus exact LotsAt.ex HL'.out (by repeat (first | exact Ex.refl _ | refine Ex.alloc ?_ _ | refine Ex.ext ?_ _ _ | refine Ex.drew ?_ | refine Ex.drewN ?_ _)))); rintro e w1 ⟨rfl, l4, d4, rfl⟩))
            all_goals go_ret
            all_goals exact ⟨rfl, HX.out.trans (by repeat (first | exact Ex.refl _ | refine Ex.alloc ?_ _ | refine Ex.ext ?_ _ _ | refine Ex.drew ?_ | refine Ex.drewN ?_ _))⟩
          · have hc : ¬ (x0 < -x1) := by omega
            go_enter Tryd.func5, Tryd.ntmps5
            go_wp2_with (go_at_call 20; refine (cleared_any E _ (by exact Errs.sub (hE.ex (by repeat (first | exact Ex.refl _ | refine Ex.alloc ?_ _ | refine Ex.ext ?_ _ _ | refine Ex.drew ?_ | refine Ex.drewN ?_ _))) (by decide))).mono ?_; rintro e w1 ⟨rfl, l1, d1, rfl⟩)
            refine (ownLots_any ao len cap l _ hcap (by omega) (HL.out.ex (by repeat (first | exact Ex.refl _ | refine Ex.alloc ?_ _ | refine Ex.ext ?_ _ _ | refine Ex.drew ?_ | refine Ex.drewN ?_ _)))).mono ?_
            rintro e wo ⟨⟨ao', cap', rfl, hc', hl'⟩, hx1'⟩
            have HX : Hid (Ex w wo) := Lib.hid (Ex.trans (by repeat (first | exact Ex.refl _ | refine Ex.alloc ?_ _ | refine Ex.ext ?_ _ _ | refine Ex.drew ?_ | refine Ex.drewN ?_ _)) hx1')
            have hE' := hE.ex HX.out
            clear hx1'
            have HL' := Lib.hid hl'
            clear hl'
            have hcl := hc'.1
            go_wp2_with fail
            go_wp2_with (first
              | (go_at_call 21; ((with_reducible refine (HP0.out ao' cap' _ ?_ ?_ ?_).mono ?_); (focus exact hcl); (focus exact Errs.ex hE' (by repeat (first | exact Ex.refl _ | refine Ex.alloc ?_ _ | refine Ex.ext ?_ _ _ | refine Ex.drew ?_ | refine Ex.drewN ?_ _))); (focus exact LotsAt.ex HL'.out (by repeat (first | exact Ex.refl _ | refine Ex.alloc ?_ _ | refine Ex.ext ?_ _ _ | refine Ex.drew ?_ | refine Ex.drewN ?_ _)))); rintro e w1 ⟨rfl, l4, d4, rfl⟩)
              | (go_at_call 19; ((with_reducible refine (HV0.out ao' cap' _ ?_ ?_ ?_).mono ?_); (focus exact hcl); (focus exact Errs.ex hE' (by repeat (first | exact Ex.refl _ | refine Ex.alloc ?_ _ | refine Ex.ext ?_ _ _ | refine Ex.drew ?_ | refine Ex.drewN ?_ _))); (focus exact LotsAt.ex HL'.out (by repeat (first | exact Ex.refl _ | refine Ex.alloc ?_ _ | refine Ex.ext ?_ _ _ | refine Ex.drew ?_ | refine Ex.drewN ?_ _)))); rintro e w1 ⟨rfl, l4, d4, rfl⟩)
              | (go_at_call 19; ((with_reducible refine (HV1.out ao' cap' _ ?_ ?_ ?_).mono ?_); (focus exact hcl); (focus exact Errs.ex hE' (by repeat (first | exact Ex.refl _ | refine Ex.alloc ?_ _ | refine Ex.ext ?_ _ _ | refine Ex.drew ?_ | refine Ex.drewN ?_ _))); (focus exact LotsAt.ex HL'.out (by repeat (first | exact Ex.refl _ | refine Ex.alloc ?_ _ | refine Ex.ext ?_ _ _ | refine Ex.drew ?_ | refine Ex.drewN ?_ _)))); rintro e w1 ⟨rfl, l4, d4, rfl⟩)
              | (go_at_call 22; ((with_reducible refine (HC0.out ao' cap' _ ?_ ?_ ?_).mono ?_); (focus exact hcl); (focus exact Errs.ex hE' (by repeat (first | exact Ex.refl _ | refine Ex.alloc ?_ _ | refine Ex.ext ?_ _ _ | refine Ex.drew ?_ | refine Ex.drewN ?_ _))); (focus exact LotsAt.ex HL'.out (by repeat (first | exact Ex.refl _ | refine Ex.alloc ?_ _ | refine Ex.ext ?_ _ _ | refine Ex.drew ?_ | refine Ex.drewN ?_ _)))); rintro e w1 ⟨rfl, l4, d4, rfl⟩)
              | (go_at_call 18; ((with_reducible refine (HX0.out ao' cap' _ ?_ ?_ ?_).mono ?_); (focus exact hcl); (focus exact Errs.ex hE' (by repeat (first | exact Ex.refl _ | refine Ex.alloc ?_ _ | refine Ex.ext ?_ _ _ | refine Ex.drew ?_ | refine Ex.drewN ?_ _))); (focus exact LotsAt.ex HL'.out (by repeat (first | exact Ex.refl _ | refine Ex.alloc ?_ _ | refine Ex.ext ?_ _ _ | refine Ex.drew ?_ | refine Ex.drewN ?_ _)))); rintro e w1 ⟨rfl, l4, d4, rfl⟩)
              | (go_at_call 18; ((with_reducible refine (HX1.out ao' cap' _ ?_ ?_ ?_).mono ?_); (focus exact hcl); (focus exact Errs.ex hE' (by repeat (first | exact Ex.refl _ | refine Ex.alloc ?_ _ | refine Ex.ext ?_ _ _ | refine Ex.drew ?_ | refine Ex.drewN ?_ _))); (focus exact LotsAt.ex HL'.out (by repeat (first | exact Ex.refl _ | refine Ex.alloc ?_ _ | refine Ex.ext ?_ _ _ | refine Ex.drew ?_ | refine Ex.drewN ?_ _)))); rintro e w1 ⟨rfl, l4, d4, rfl⟩)
              | (go_at_call 16; ((with_reducible refine (HD1.out ao' cap' _ ?_ ?_ ?_).mono ?_); (focus exact hcl); (focus exact Errs.ex hE' (by repeat (first | exact Ex.refl _ | refine Ex.alloc ?_ _ | refine Ex.ext ?_ _ _ | refine Ex.drew ?_ | refine Ex.drewN ?_ _))); (focus exact LotsAt.ex HL'.out (by repeat (first | exact Ex.refl _ | refine Ex.alloc ?_ _ | refine Ex.ext ?_ _ _ | refine Ex.drew ?_ | refine Ex.drewN ?_ _)))); rintro e w1 ⟨rfl, l4, d4, rfl⟩)
              | (go_at_call 17; ((with_reducible refine (HS1.out ao' cap' _ ?_ ?_ ?_).mono ?_); (focus exact hcl); (focus exact Errs.ex hE' (by repeat (first | exact Ex.refl _ | refine Ex.alloc ?_ _ | refine Ex.ext ?_ _ _ | refine Ex.drew ?_ | refine Ex.drewN ?_ _))); (focus exact LotsAt.ex HL'.out (by repeat (first | exact Ex.refl _ | refine Ex.alloc ?_ _ | refine Ex.ext ?_ _ _ | refine Ex.drew ?_ | refine Ex.drewN ?_ _)))); rintro e w1 ⟨rfl, l4, d4, rfl⟩)
              | (go_at_call 23; ((with_reducible refine (HT0.out ao' cap' _ ?_ ?_ ?_).mono ?_); (focus exact hcl); (focus exact Errs.ex hE' (by repeat (first | exact Ex.refl _ | refine Ex.alloc ?_ _ | refine Ex.ext ?_ _ _ | refine Ex.drew ?_ | refine Ex.drewN ?_ _))); (focus exact LotsAt.ex HL'.out (by repeat (first | exact Ex.refl _ | refine Ex.alloc ?_ _ | refine Ex.ext ?_ _ _ | refine Ex.drew ?_ | refine Ex.drewN ?_ _)))); rintro e w1 ⟨rfl, l4, d4, rfl⟩)
              | (go_at_call 23; ((with_reducible refine (HT1.out ao' cap' _ ?_ ?_ ?_).mono ?_); (focus exact hcl); (focus exact Errs.ex hE' (by repeat (first | exact Ex.refl _ | refine Ex.alloc ?_ _ | refine Ex.ext ?_ _ _ | refine Ex.drew ?_ | refine Ex.drewN ?_ _))); (focus exact LotsAt.ex HL'.out (by repeat (first | exact Ex.refl _ | refine Ex.alloc ?_ _ | refine Ex.ext ?_ _ _ | refine Ex.drew ?_ | refine Ex.drewN ?_ _)))); rintro e w1 ⟨rfl, l4, d4, rfl⟩))
            all_goals go_ret
            all_goals exact ⟨rfl, HX.out.trans (by repeat (first | exact Ex.refl _ | refine Ex.alloc ?_ _ | refine Ex.ext ?_ _ _ | refine Ex.drew ?_ | refine Ex.drewN ?_ _))⟩
          · have hc : ¬ (-x0 < x1) := by omega
            go_enter Tryd.func5, Tryd.ntmps5
            go_wp2_with (go_at_call 20; refine (cleared_any E _ (by exact Errs.sub (hE.ex (by repeat (first | exact Ex.refl _ | refine Ex.alloc ?_ _ | refine Ex.ext ?_ _ _ | refine Ex.drew ?_ | refine Ex.drewN ?_ _))) (by decide))).mono ?_; rintro e w1 ⟨rfl, l1, d1, rfl⟩)
            refine (ownLots_any ao len cap l _ hcap (by omega) (HL.out.ex (by repeat (first | exact Ex.refl _ | refine Ex.alloc ?_ _ | refine Ex.ext ?_ _ _ | refine Ex.drew ?_ | refine Ex.drewN ?_ _)))).mono ?_
            rintro e wo ⟨⟨ao', cap', rfl, hc', hl'⟩, hx1'⟩
            have HX : Hid (Ex w wo) := Lib.hid (Ex.trans (by repeat (first | exact Ex.refl _ | refine Ex.alloc ?_ _ | refine Ex.ext ?_ _ _ | refine Ex.drew ?_ | refine Ex.drewN ?_ _)) hx1')
            have hE' := hE.ex HX.out
            clear hx1'
            have HL' := Lib.hid hl'
            clear hl'
            have hcl := hc'.1
            go_wp2_with fail
            go_wp2_with (first
              | (go_at_call 21; ((with_reducible refine (HP0.out ao' cap' _ ?_ ?_ ?_).mono ?_); (focus exact hcl); (focus exact Errs.ex hE' (by repeat (first | exact Ex.refl _ | refine Ex.alloc ?_ _ | refine Ex.ext ?_ _ _ | refine Ex.drew ?_ | refine Ex.drewN ?_ _))); (focus exact LotsAt.ex HL'.out (by repeat (first | exact Ex.refl _ | refine Ex.alloc ?_ _ | refine Ex.ext ?_ _ _ | refine Ex.drew ?_ | refine Ex.drewN ?_ _)))); rintro e w1 ⟨rfl, l4, d4, rfl⟩)
              | (go_at_call 19; ((with_reducible refine (HV0.out ao' cap' _ ?_ ?_ ?_).mono ?_); (focus exact hcl); (focus exact Errs.ex hE' (by repeat (first | exact Ex.refl _ | refine Ex.alloc ?_ _ | refine Ex.ext ?_ _ _ | refine Ex.drew ?_ | refine Ex.drewN ?_ _))); (focus exact LotsAt.ex HL'.out (by repeat (first | exact Ex.refl _ | refine Ex.alloc ?_ _ | refine Ex.ext ?_ _ _ | refine Ex.drew ?_ | refine Ex.drewN ?_ _)))); rintro e w1 ⟨rfl, l4, d4, rfl⟩)
              | (go_at_call 19; ((with_reducible refine (HV1.out ao' cap' _ ?_ ?_ ?_).mono ?_); (focus exact hcl); (focus exact Errs.ex hE' (by repeat (first | exact Ex.refl _ | refine Ex.alloc ?_ _ | refine Ex.ext ?_ _ _ | refine Ex.drew ?_ | refine Ex.drewN ?_ _))); (focus exact LotsAt.ex HL'.out (by repeat (first | exact Ex.refl _ | refine Ex.alloc ?_ _ | refine Ex.ext ?_ _ _ | refine Ex.drew ?_ | refine Ex.drewN ?_ _)))); rintro e w1 ⟨rfl, l4, d4, rfl⟩)
              | (go_at_call 22; ((with_reducible refine (HC0.out ao' cap' _ ?_ ?_ ?_).mono ?_); (focus exact hcl); (focus exact Errs.ex hE' (by repeat (first | exact Ex.refl _ | refine Ex.alloc ?_ _ | refine Ex.ext ?_ _ _ | refine Ex.drew ?_ | refine Ex.drewN ?_ _))); (focus exact LotsAt.ex HL'.out (by repeat (first | exact Ex.refl _ | refine Ex.alloc ?_ _ | refine Ex.ext ?_ _ _ | refine Ex.drew ?_ | refine Ex.drewN ?_ _)))); rintro e w1 ⟨rfl, l4, d4, rfl⟩)
              | (go_at_call 18; ((with_reducible refine (HX0.out ao' cap' _ ?_ ?_ ?_).mono ?_); (focus exact hcl); (focus exact Errs.ex hE' (by repeat (first | exact Ex.refl _ | refine Ex.alloc ?_ _ | refine Ex.ext ?_ _ _ | refine Ex.drew ?_ | refine Ex.drewN ?_ _))); (focus exact LotsAt.ex HL'.out (by repeat (first | exact Ex.refl _ | refine Ex.alloc ?_ _ | refine Ex.ext ?_ _ _ | refine Ex.drew ?_ | refine Ex.drewN ?_ _)))); rintro e w1 ⟨rfl, l4, d4, rfl⟩)
              | (go_at_call 18; ((with_reducible refine (HX1.out ao' cap' _ ?_ ?_ ?_).mono ?_); (focus exact hcl); (focus exact Errs.ex hE' (by repeat (first | exact Ex.refl _ | refine Ex.alloc ?_ _ | refine Ex.ext ?_ _ _ | refine Ex.drew ?_ | refine Ex.drewN ?_ _))); (focus exact LotsAt.ex HL'.out (by repeat (first | exact Ex.refl _ | refine Ex.alloc ?_ _ | refine Ex.ext ?_ _ _ | refine Ex.drew ?_ | refine Ex.drewN ?_ _)))); rintro e w1 ⟨rfl, l4, d4, rfl⟩)
              | (go_at_call 16; ((with_reducible refine (HD1.out ao' cap' _ ?_ ?_ ?_).mono ?_); (focus exact hcl); (focus exact Errs.ex hE' (by repeat (first | exact Ex.refl _ | refine Ex.alloc ?_ _ | refine Ex.ext ?_ _ _ | refine Ex.drew ?_ | refine Ex.drewN ?_ _))); (focus exact LotsAt.ex HL'.out (by repeat (first | exact Ex.refl _ | refine Ex.alloc ?_ _ | refine Ex.ext ?_ _ _ | refine Ex.drew ?_ | refine Ex.drewN ?_ _)))); rintro e w1 ⟨rfl, l4, d4, rfl⟩)
              | (go_at_call 17; ((with_reducible refine (HS1.out ao' cap' _ ?_ ?_ ?_).mono ?_); (focus exact hcl); (focus exact Errs.ex hE' (by repeat (first | exact Ex.refl _ | refine Ex.alloc ?_ _ | refine Ex.ext ?_ _ _ | refine Ex.drew ?_ | refine Ex.drewN ?_ _))); (focus exact LotsAt.ex HL'.out (by repeat (first | exact Ex.refl _ | refine Ex.alloc ?_ _ | refine Ex.ext ?_ _ _ | refine Ex.drew ?_ | refine Ex.drewN ?_ _)))); rintro e w1 ⟨rfl, l4, d4, rfl⟩)
              | (go_at_call 23; ((with_reducible refine (HT0.out ao' cap' _ ?_ ?_ ?_).mono ?_); (focus exact hcl); (focus exact Errs.ex hE' (by repeat (first | exact Ex.refl _ | refine Ex.alloc ?_ _ | refine Ex.ext ?_ _ _ | refine Ex.drew ?_ | refine Ex.drewN ?_ _))); (focus exact LotsAt.ex HL'.out (by repeat (first | exact Ex.refl _ | refine Ex.alloc ?_ _ | refine Ex.ext ?_ _ _ | refine Ex.drew ?_ | refine Ex.drewN ?_ _)))); rintro e w1 ⟨rfl, l4, d4, rfl⟩)
              | (go_at_call 23; ((with_reducible refine (HT1.out ao' cap' _ ?_ ?_ ?_).mono ?_); (focus exact hcl); (focus exact Errs.ex hE' (by repeat (first | exact Ex.refl _ | refine Ex.alloc ?_ _ | refine Ex.ext ?_ _ _ | refine Ex.drew ?_ | refine Ex.drewN ?_ _))); (focus exact LotsAt.ex HL'.out (by repeat (first | exact Ex.refl _ | refine Ex.alloc ?_ _ | refine Ex.ext ?_ _ _ | refine Ex.drew ?_ | refine Ex.drewN ?_ _)))); rintro e w1 ⟨rfl, l4, d4, rfl⟩))
            all_goals go_ret
            all_goals exact ⟨rfl, HX.out.trans (by repeat (first | exact Ex.refl _ | refine Ex.alloc ?_ _ | refine Ex.ext ?_ _ _ | refine Ex.drew ?_ | refine Ex.drewN ?_ _))⟩
          · have hc : ¬ (x0 < x1) := by omega
            go_enter Tryd.func5, Tryd.ntmps5
            go_wp2_with (go_at_call 20; refine (cleared_any E _ (by exact Errs.sub (hE.ex (by repeat (first | exact Ex.refl _ | refine Ex.alloc ?_ _ | refine Ex.ext ?_ _ _ | refine Ex.drew ?_ | refine Ex.drewN ?_ _))) (by decide))).mono ?_; rintro e w1 ⟨rfl, l1, d1, rfl⟩)
            refine (ownLots_any ao len cap l _ hcap (by omega) (HL.out.ex (by repeat (first | exact Ex.refl _ | refine Ex.alloc ?_ _ | refine Ex.ext ?_ _ _ | refine Ex.drew ?_ | refine Ex.drewN ?_ _)))).mono ?_
            rintro e wo ⟨⟨ao', cap', rfl, hc', hl'⟩, hx1'⟩
            have HX : Hid (Ex w wo) := Lib.hid (Ex.trans (by repeat (first | exact Ex.refl _ | refine Ex.alloc ?_ _ | refine Ex.ext ?_ _ _ | refine Ex.drew ?_ | refine Ex.drewN ?_ _)) hx1')
            have hE' := hE.ex HX.out
            clear hx1'
            have HL' := Lib.hid hl'
            clear hl'
            have hcl := hc'.1
            go_wp2_with fail
            go_wp2_with (first
              | (go_at_call 21; ((with_reducible refine (HP0.out ao' cap' _ ?_ ?_ ?_).mono ?_); (focus exact hcl); (focus exact Errs.ex hE' (by repeat (first | exact Ex.refl _ | refine Ex.alloc ?_ _ | refine Ex.ext ?_ _ _ | refine Ex.drew ?_ | refine Ex.drewN ?_ _))); (focus exact LotsAt.ex HL'.out (by repeat (first | exact Ex.refl _ | refine Ex.alloc ?_ _ | refine Ex.ext ?_ _ _ | refine Ex.drew ?_ | refine Ex.drewN ?_ _)))); rintro e w1 ⟨rfl, l4, d4, rfl⟩)
              | (go_at_call 19; ((with_reducible refine (HV0.out ao' cap' _ ?_ ?_ ?_).mono ?_); (focus exact hcl); (focus exact Errs.ex hE' (by repeat (first | exact Ex.refl _ | refine Ex.alloc ?_ _ | refine Ex.ext ?_ _ _ | refine Ex.drew ?_ | refine Ex.drewN ?_ _))); (focus exact LotsAt.ex HL'.out (by repeat (first | exact Ex.refl _ | refine Ex.alloc ?_ _ | refine Ex.ext ?_ _ _ | refine Ex.drew ?_ | refine Ex.drewN ?_ _)))); rintro e w1 ⟨rfl, l4, d4, rfl⟩)
              | (go_at_call 19; ((with_reducible refine (HV1.out ao' cap' _ ?_ ?_ ?_).mono ?_); (focus exact hcl); (focus exact Errs.ex hE' (by repeat (first | exact Ex.refl _ | refine Ex.alloc ?_ _ | refine Ex.ext ?_ _ _ | refine Ex.drew ?_ | refine Ex.drewN ?_ _))); (focus exact LotsAt.ex HL'.out (by repeat (first | exact Ex.refl _ | refine Ex.alloc ?_ _ | refine Ex.ext ?_ _ _ | refine Ex.drew ?_ | refine Ex.drewN ?_ _)))); rintro e w1 ⟨rfl, l4, d4, rfl⟩)
              | (go_at_call 22; ((with_reducible refine (HC0.out ao' cap' _ ?_ ?_ ?_).mono ?_); (focus exact hcl); (focus exact Errs.ex hE' (by repeat (first | exact Ex.refl _ | refine Ex.alloc ?_ _ | refine Ex.ext ?_ _ _ | refine Ex.drew ?_ | refine Ex.drewN ?_ _))); (focus exact LotsAt.ex HL'.out (by repeat (first | exact Ex.refl _ | refine Ex.alloc ?_ _ | refine Ex.ext ?_ _ _ | refine Ex.drew ?_ | refine Ex.drewN ?_ _)))); rintro e w1 ⟨rfl, l4, d4, rfl⟩)
              | (go_at_call 18; ((with_reducible refine (HX0.out ao' cap' _ ?_ ?_ ?_).mono ?_); (focus exact hcl); (focus exact Errs.ex hE' (by repeat (first | exact Ex.refl _ | refine Ex.alloc ?_ _ | refine Ex.ext ?_ _ _ | refine Ex.drew ?_ | refine Ex.drewN ?_ _))); (focus exact LotsAt.ex HL'.out (by repeat (first | exact Ex.refl _ | refine Ex.alloc ?_ _ | refine Ex.ext ?_ _ _ | refine Ex.drew ?_ | refine Ex.drewN ?_ _)))); rintro e w1 ⟨rfl, l4, d4, rfl⟩)
              | (go_at_call 18; ((with_reducible refine (HX1.out ao' cap' _ ?_ ?_ ?_).mono ?_); (focus exact hcl); (focus exact Errs.ex hE' (by repeat (first | exact Ex.refl _ | refine Ex.alloc ?_ _ | refine Ex.ext ?_ _ _ | refine Ex.drew ?_ | refine Ex.drewN ?_ _))); (focus exact LotsAt.ex HL'.out (by repeat (first | exact Ex.refl _ | refine Ex.alloc ?_ _ | refine Ex.ext ?_ _ _ | refine Ex.drew ?_ | refine Ex.drewN ?_ _)))); rintro e w1 ⟨rfl, l4, d4, rfl⟩)
              | (go_at_call 16; ((with_reducible refine (HD1.out ao' cap' _ ?_ ?_ ?_).mono ?_); (focus exact hcl); (focus exact Errs.ex hE' (by repeat (first | exact Ex.refl _ | refine Ex.alloc ?_ _ | refine Ex.ext ?_ _ _ | refine Ex.drew ?_ | refine Ex.drewN ?_ _))); (focus exact LotsAt.ex HL'.out (by repeat (first | exact Ex.refl _ | refine Ex.alloc ?_ _ | refine Ex.ext ?_ _ _ | refine Ex.drew ?_ | refine Ex.drewN ?_ _)))); rintro e w1 ⟨rfl, l4, d4, rfl⟩)
              | (go_at_call 17; ((with_reducible refine (HS1.out ao' cap' _ ?_ ?_ ?_).mono ?_); (focus exact hcl); (focus exact Errs.ex hE' (by repeat (first | exact Ex.refl _ | refine Ex.alloc ?_ _ | refine Ex.ext ?_ _ _ | refine Ex.drew ?_ | refine Ex.drewN ?_ _))); (focus exact LotsAt.ex HL'.out (by repeat (first | exact Ex.refl _ | refine Ex.alloc ?_ _ | refine Ex.ext ?_ _ _ | refine Ex.drew ?_ | refine Ex.drewN ?_ _)))); rintro e w1 ⟨rfl, l4, d4, rfl⟩)
              | (go_at_call 23; ((with_reducible refine (HT0.out ao' cap' _ ?_ ?_ ?_).mono ?_); (focus exact hcl); (focus exact Errs.ex hE' (by repeat (first | exact Ex.refl _ | refine Ex.alloc ?_ _ | refine Ex.ext ?_ _ _ | refine Ex.drew ?_ | refine Ex.drewN ?_ _))); (focus exact LotsAt.ex HL'.out (by repeat (first | exact Ex.refl _ | refine Ex.alloc ?_ _ | refine Ex.ext ?_ _ _ | refine Ex.drew ?_ | refine Ex.drewN ?_ _)))); rintro e w1 ⟨rfl, l4, d4, rfl⟩)
              | (go_at_call 23; ((with_reducible refine (HT1.out ao' cap' _ ?_ ?_ ?_).mono ?_); (focus exact hcl); (focus exact Errs.ex hE' (by repeat (first | exact Ex.refl _ | refine Ex.alloc ?_ _ | refine Ex.ext ?_ _ _ | refine Ex.drew ?_ | refine Ex.drewN ?_ _))); (focus exact LotsAt.ex HL'.out (by repeat (first | exact Ex.refl _ | refine Ex.alloc ?_ _ | refine Ex.ext ?_ _ _ | refine Ex.drew ?_ | refine Ex.drewN ?_ _)))); rintro e w1 ⟨rfl, l4, d4, rfl⟩))
            all_goals go_ret
            all_goals exact ⟨rfl, HX.out.trans (by repeat (first | exact Ex.refl _ | refine Ex.alloc ?_ _ | refine Ex.ext ?_ _ _ | refine Ex.drew ?_ | refine Ex.drewN ?_ _))⟩
        · have q5 : (vo == v) = false := by simpa using hv
          by_cases n1 : x1 < 0 <;> by_cases n0 : x0 < 0
          · go_enter Tryd.func5, Tryd.ntmps5
            go_wp2_with (go_at_call 20; refine (cleared_any E _ (by exact Errs.sub (hE.ex (by repeat (first | exact Ex.refl _ | refine Ex.alloc ?_ _ | refine Ex.ext ?_ _ _ | refine Ex.drew ?_ | refine Ex.drewN ?_ _))) (by decide))).mono ?_; rintro e w1 ⟨rfl, l1, d1, rfl⟩)
            refine (ownLots_any ao len cap l _ hcap (by omega) (HL.out.ex (by repeat (first | exact Ex.refl _ | refine Ex.alloc ?_ _ | refine Ex.ext ?_ _ _ | refine Ex.drew ?_ | refine Ex.drewN ?_ _)))).mono ?_
            rintro e wo ⟨⟨ao', cap', rfl, hc', hl'⟩, hx1'⟩
            have HX : Hid (Ex w wo) := Lib.hid (Ex.trans (by repeat (first | exact Ex.refl _ | refine Ex.alloc ?_ _ | refine Ex.ext ?_ _ _ | refine Ex.drew ?_ | refine Ex.drewN ?_ _)) hx1')
            have hE' := hE.ex HX.out
            clear hx1'
            have HL' := Lib.hid hl'
            clear hl'
            have hcl := hc'.1
            go_wp2_with fail
            go_wp2_with (first
              | (go_at_call 21; ((with_reducible refine (HP0.out ao' cap' _ ?_ ?_ ?_).mono ?_); (focus exact hcl); (focus exact Errs.ex hE' (by repeat (first | exact Ex.refl _ | refine Ex.alloc ?_ _ | refine Ex.ext ?_ _ _ | refine Ex.drew ?_ | refine Ex.drewN ?_ _))); (focus exact LotsAt.ex HL'.out (by repeat (first | exact Ex.refl _ | refine Ex.alloc ?_ _ | refine Ex.ext ?_ _ _ | refine Ex.drew ?_ | refine Ex.drewN ?_ _)))); rintro e w1 ⟨rfl, l4, d4, rfl⟩)
              | (go_at_call 19; ((with_reducible refine (HV0.out ao' cap' _ ?_ ?_ ?_).mono ?_); (focus exact hcl); (focus exact Errs.ex hE' (by repeat (first | exact Ex.refl _ | refine Ex.alloc ?_ _ | refine Ex.ext ?_ _ _ | refine Ex.drew ?_ | refine Ex.drewN ?_ _))); (focus exact LotsAt.ex HL'.out (by repeat (first | exact Ex.refl _ | refine Ex.alloc ?_ _ | refine Ex.ext ?_ _ _ | refine Ex.drew ?_ | refine Ex.drewN ?_ _)))); rintro e w1 ⟨rfl, l4, d4, rfl⟩)
              | (go_at_call 19; ((with_reducible refine (HV1.out ao' cap' _ ?_ ?_ ?_).mono ?_); (focus exact hcl); (focus exact Errs.ex hE' (by repeat (first | exact Ex.refl _ | refine Ex.alloc ?_ _ | refine Ex.ext ?_ _ _ | refine Ex.drew ?_ | refine Ex.drewN ?_ _))); (focus exact LotsAt.ex HL'.out (by repeat (first | exact Ex.refl _ | refine Ex.alloc ?_ _ | refine Ex.ext ?_ _ _ | refine Ex.drew ?_ | refine Ex.drewN ?_ _)))); rintro e w1 ⟨rfl, l4, d4, rfl⟩)
              | (go_at_call 22; ((with_reducible refine (HC0.out ao' cap' _ ?_ ?_ ?_).mono ?_); (focus exact hcl); (focus exact Errs.ex hE' (by repeat (first | exact Ex.refl _ | refine Ex.alloc ?_ _ | refine Ex.ext ?_ _ _ | refine Ex.drew ?_ | refine Ex.drewN ?_ _))); (focus exact LotsAt.ex HL'.out (by repeat (first | exact Ex.refl _ | refine Ex.alloc ?_ _ | refine Ex.ext ?_ _ _ | refine Ex.drew ?_ | refine Ex.drewN ?_ _)))); rintro e w1 ⟨rfl, l4, d4, rfl⟩)
              | (go_at_call 18; ((with_reducible refine (HX0.out ao' cap' _ ?_ ?_ ?_).mono ?_); (focus exact hcl); (focus exact Errs.ex hE' (by repeat (first | exact Ex.refl _ | refine Ex.alloc ?_ _ | refine Ex.ext ?_ _ _ | refine Ex.drew ?_ | refine Ex.drewN ?_ _))); (focus exact LotsAt.ex HL'.out (by repeat (first | exact Ex.refl _ | refine Ex.alloc ?_ _ | refine Ex.ext ?_ _ _ | refine Ex.drew ?_ | refine Ex.drewN ?_ _)))); rintro e w1 ⟨rfl, l4, d4, rfl⟩)
              | (go_at_call 18; ((with_reducible refine (HX1.out ao' cap' _ ?_ ?_ ?_).mono ?_); (focus exact hcl); (focus exact Errs.ex hE' (by repeat (first | exact Ex.refl _ | refine Ex.alloc ?_ _ | refine Ex.ext ?_ _ _ | refine Ex.drew ?_ | refine Ex.drewN ?_ _))); (focus exact LotsAt.ex HL'.out (by repeat (first | exact Ex.refl _ | refine Ex.alloc ?_ _ | refine Ex.ext ?_ _ _ | refine Ex.drew ?_ | refine Ex.drewN ?_ _)))); rintro e w1 ⟨rfl, l4, d4, rfl⟩)
              | (go_at_call 16; ((with_reducible refine (HD1.out ao' cap' _ ?_ ?_ ?_).mono ?_); (focus exact hcl); (focus exact Errs.ex hE' (by repeat (first | exact Ex.refl _ | refine Ex.alloc ?_ _ | refine Ex.ext ?_ _ _ | refine Ex.drew ?_ | refine Ex.drewN ?_ _))); (focus exact LotsAt.ex HL'.out (by repeat (first | exact Ex.refl _ | refine Ex.alloc ?_ _ | refine Ex.ext ?_ _ _ | refine Ex.drew ?_ | refine Ex.drewN ?_ _)))); rintro e w1 ⟨rfl, l4, d4, rfl⟩)
              | (go_at_call 17; ((with_reducible refine (HS1.out ao' cap' _ ?_ ?_ ?_).mono ?_); (focus exact hcl); (focus exact Errs.ex hE' (by repeat (first | exact Ex.refl _ | refine Ex.alloc ?_ _ | refine Ex.ext ?_ _ _ | refine Ex.drew ?_ | refine Ex.drewN ?_ _))); (focus exact LotsAt.ex HL'.out (by repeat (first | exact Ex.refl _ | refine Ex.alloc ?_ _ | refine Ex.ext ?_ _ _ | refine Ex.drew ?_ | refine Ex.drewN ?_ _)))); rintro e w1 ⟨rfl, l4, d4, rfl⟩)
              | (go_at_call 23; ((with_reducible refine (HT0.out ao' cap' _ ?_ ?_ ?_).mono ?_); (focus exact hcl); (focus exact Errs.ex hE' (by repeat (first | exact Ex.refl _ | refine Ex.alloc ?_ _ | refine Ex.ext ?_ _ _ | refine Ex.drew ?_ | refine Ex.drewN ?_ _))); (focus exact LotsAt.ex HL'.out (by repeat (first | exact Ex.refl _ | refine Ex.alloc ?_ _ | refine Ex.ext ?_ _ _ | refine Ex.drew ?_ | refine Ex.drewN ?_ _)))); rintro e w1 ⟨rfl, l4, d4, rfl⟩)
              | (go_at_call 23; ((with_reducible refine (HT1.out ao' cap' _ ?_ ?_ ?_).mono ?_); (focus exact hcl); (focus exact Errs.ex hE' (by repeat (first | exact Ex.refl _ | refine Ex.alloc ?_ _ | refine Ex.ext ?_ _ _ | refine Ex.drew ?_ | refine Ex.drewN ?_ _))); (focus exact LotsAt.ex HL'.out (by repeat (first | exact Ex.refl _ | refine Ex.alloc ?_ _ | refine Ex.ext ?_ _ _ | refine Ex.drew ?_ | refine Ex.drewN ?_ _)))); rintro e w1 ⟨rfl, l4, d4, rfl⟩))
            all_goals go_ret
            all_goals exact ⟨rfl, HX.out.trans (by repeat (first | exact Ex.refl _ | refine Ex.alloc ?_ _ | refine Ex.ext ?_ _ _ | refine Ex.drew ?_ | refine Ex.drewN ?_ _))⟩
          · go_enter Tryd.func5, Tryd.ntmps5
            go_wp2_with (go_at_call 20; refine (cleared_any E _ (by exact Errs.sub (hE.ex (by repeat (first | exact Ex.refl _ | refine Ex.alloc ?_ _ | refine Ex.ext ?_ _ _ | refine Ex.drew ?_ | refine Ex.drewN ?_ _))) (by decide))).mono ?_; rintro e w1 ⟨rfl, l1, d1, rfl⟩)
            refine (ownLots_any ao len cap l _ hcap (by omega) (HL.out.ex (by repeat (first | exact Ex.refl _ | refine Ex.alloc ?_ _ | refine Ex.ext ?_ _ _ | refine Ex.drew ?_ | refine Ex.drewN ?_ _)))).mono ?_
            rintro e wo ⟨⟨ao', cap', rfl, hc', hl'⟩, hx1'⟩
            have HX : Hid (Ex w wo) := Lib.hid (Ex.trans (by repeat (first | exact Ex.refl _ | refine Ex.alloc ?_ _ | refine Ex.ext ?_ _ _ | refine Ex.drew ?_ | refine Ex.drewN ?_ _)) hx1')
            have hE' := hE.ex HX.out
            clear hx1'
            have HL' := Lib.hid hl'
            clear hl'
            have hcl := hc'.1
            go_wp2_with fail
            go_wp2_with (first
              | (go_at_call 21; ((with_reducible refine (HP0.out ao' cap' _ ?_ ?_ ?_).mono ?_); (focus exact hcl); (focus exact Errs.ex hE' (by repeat (first | exact Ex.refl _ | refine Ex.alloc ?_ _ | refine Ex.ext ?_ _ _ | refine Ex.drew ?_ | refine Ex.drewN ?_ _))); (focus exact LotsAt.ex HL'.out (by repeat (first | exact Ex.refl _ | refine Ex.alloc ?_ _ | refine Ex.ext ?_ _ _ | refine Ex.drew ?_ | refine Ex.drewN ?_ _)))); rintro e w1 ⟨rfl, l4, d4, rfl⟩)
              | (go_at_call 19; ((with_reducible refine (HV0.out ao' cap' _ ?_ ?_ ?_).mono ?_); (focus exact hcl); (focus exact Errs.ex hE' (by repeat (first | exact Ex.refl _ | refine Ex.alloc ?_ _ | refine Ex.ext ?_ _ _ | refine Ex.drew ?_ | refine Ex.drewN ?_ _))); (focus exact LotsAt.ex HL'.out (by repeat (first | exact Ex.refl _ | refine Ex.alloc ?_ _ | refine Ex.ext ?_ _ _ | refine Ex.drew ?_ | refine Ex.drewN ?_ _)))); rintro e w1 ⟨rfl, l4, d4, rfl⟩)
              | (go_at_call 19; ((with_reducible refine (HV1.out ao' cap' _ ?_ ?_ ?_).mono ?_); (focus exact hcl); (focus exact Errs.ex hE' (by repeat (first | exact Ex.refl _ | refine Ex.alloc ?_ _ | refine Ex.ext ?_ _ _ | refine Ex.drew ?_ | refine Ex.drewN ?_ _))); (focus exact LotsAt.ex HL'.out (by repeat (first | exact Ex.refl _ | refine Ex.alloc ?_ _ | refine Ex.ext ?_ _ _ | refine Ex.drew ?_ | refine Ex.drewN ?_ _)))); rintro e w1 ⟨rfl, l4, d4, rfl⟩)
              | (go_at_call 22; ((with_reducible refine (HC0.out ao' cap' _ ?_ ?_ ?_).mono ?_); (focus exact hcl); (focus exact Errs.ex hE' (by repeat (first | exact Ex.refl _ | refine Ex.alloc ?_ _ | refine Ex.ext ?_ _ _ | refine Ex.drew ?_ | refine Ex.drewN ?_ _))); (focus exact LotsAt.ex HL'.out (by repeat (first | exact Ex.refl _ | refine Ex.alloc ?_ _ | refine Ex.ext ?_ _ _ | refine Ex.drew ?_ | refine Ex.drewN ?_ _)))); rintro e w1 ⟨rfl, l4, d4, rfl⟩)
              | (go_at_call 18; ((with_reducible refine (HX0.out ao' cap' _ ?_ ?_ ?_).mono ?_); (focus exact hcl); (focus exact Errs.ex hE' (by repeat (first | exact Ex.refl _ | refine Ex.alloc ?_ _ | refine Ex.ext ?_ _ _ | refine Ex.drew ?_ | refine Ex.drewN ?_ _))); (focus exact LotsAt.ex HL'.out (by repeat (first | exact Ex.refl _ | refine Ex.alloc ?_ _ | refine Ex.ext ?_ _ _ | refine Ex.drew ?_ | refine Ex.drewN ?_ _)))); rintro e w1 ⟨rfl, l4, d4, rfl⟩)
              | (go_at_call 18; ((with_reducible refine (HX1.out ao' cap' _ ?_ ?_ ?_).mono ?_); (focus exact hcl); (focus exact Errs.ex hE' (by repeat (first | exact Ex.refl _ | refine Ex.alloc ?_ _ | refine Ex.ext ?_ _ _ | refine Ex.drew ?_ | refine Ex.drewN ?_ _))); (focus exact LotsAt.ex HL'.out (by repeat (first | exact Ex.refl _ | refine Ex.alloc ?_ _ | refine Ex.ext ?_ _ _ | refine Ex.drew ?_ | refine Ex.drewN ?_ _)))); rintro e w1 ⟨rfl, l4, d4, rfl⟩)
              | (go_at_call 16; ((with_reducible refine (HD1.out ao' cap' _ ?_ ?_ ?_).mono ?_); (focus exact hcl); (focus exact Errs.ex hE' (by repeat (first | exact Ex.refl _ | refine Ex.alloc ?_ _ | refine Ex.ext ?_ _ _ | refine Ex.drew ?_ | refine Ex.drewN ?_ _))); (focus exact LotsAt.ex HL'.out (by repeat (first | exact Ex.refl _ | refine Ex.alloc ?_ _ | refine Ex.ext ?_ _ _ | refine Ex.drew ?_ | refine Ex.drewN ?_ _)))); rintro e w1 ⟨rfl, l4, d4, rfl⟩)
              | (go_at_call 17; ((with_reducible refine (HS1.out ao' cap' _ ?_ ?_ ?_).mono ?_); (focus exact hcl); (focus exact Errs.ex hE' (by repeat (first | exact Ex.refl _ | refine Ex.alloc ?_ _ | refine Ex.ext ?_ _ _ | refine Ex.drew ?_ | refine Ex.drewN ?_ _))); (focus exact LotsAt.ex HL'.out (by repeat (first | exact Ex.refl _ | refine Ex.alloc ?_ _ | refine Ex.ext ?_ _ _ | refine Ex.drew ?_ | refine Ex.drewN ?_ _)))); rintro e w1 ⟨rfl, l4, d4, rfl⟩)
              | (go_at_call 23; ((with_reducible refine (HT0.out ao' cap' _ ?_ ?_ ?_).mono ?_); (focus exact hcl); (focus exact Errs.ex hE' (by repeat (first | exact Ex.refl _ | refine Ex.alloc ?_ _ | refine Ex.ext ?_ _ _ | refine Ex.drew ?_ | refine Ex.drewN ?_ _))); (focus exact LotsAt.ex HL'.out (by repeat (first | exact Ex.refl _ | refine Ex.alloc ?_ _ | refine Ex.ext ?_ _ _ | refine Ex.drew ?_ | refine Ex.drewN ?_ _)))); rintro e w1 ⟨rfl, l4, d4, rfl⟩)
              | (go_at_call 23; ((with_reducible refine (HT1.out ao' cap' _ ?_ ?_ ?_).mono ?_); (focus exact hcl); (focus exact Errs.ex hE' (by repeat (first | exact Ex.refl _ | refine Ex.alloc ?_ _ | refine Ex.ext ?_ _ _ | refine Ex.drew ?_ | refine Ex.drewN ?_ _))); (focus exact LotsAt.ex HL'.out (by repeat (first | exact Ex.refl _ | refine Ex.alloc ?_ _ | refine Ex.ext ?_ _ _ | refine Ex.drew ?_ | refine Ex.drewN ?_ _)))); rintro e w1 ⟨rfl, l4, d4, rfl⟩))
            all_goals go_ret
            all_goals exact ⟨rfl, HX.out.trans (by repeat (first | exact Ex.refl _ | refine Ex.alloc ?_ _ | refine Ex.ext ?_ _ _ | refine Ex.drew ?_ | refine Ex.drewN ?_ _))⟩
          · go_enter Tryd.func5, Tryd.ntmps5
            go_wp2_with (go_at_call 20; refine (cleared_any E _ (by exact Errs.sub (hE.ex (by repeat (first | exact Ex.refl _ | refine Ex.alloc ?_ _ | refine Ex.ext ?_ _ _ | refine Ex.drew ?_ | refine Ex.drewN ?_ _))) (by decide))).mono ?_; rintro e w1 ⟨rfl, l1, d1, rfl⟩)
            refine (ownLots_any ao len cap l _ hcap (by omega) (HL.out.ex (by repeat (first | exact Ex.refl _ | refine Ex.alloc ?_ _ | refine Ex.ext ?_ _ _ | refine Ex.drew ?_ | refine Ex.drewN ?_ _)))).mono ?_
            rintro e wo ⟨⟨ao', cap', rfl, hc', hl'⟩, hx1'⟩
            have HX : Hid (Ex w wo) := Lib.hid (Ex.trans (by repeat (first | exact Ex.refl _ | refine Ex.alloc ?_ _ | refine Ex.ext ?_ _ _ | refine Ex.drew ?_ | refine Ex.drewN ?_ _)) hx1')
            have hE' := hE.ex HX.out
            clear hx1'
            have HL' := Lib.hid hl'
            clear hl'
            have hcl := hc'.1
            go_wp2_with fail
            go_wp2_with (first
              | (go_at_call 21; ((with_reducible refine (HP0.out ao' cap' _ ?_ ?_ ?_).mono ?_); (focus exact hcl); (focus exact Errs.ex hE' (by repeat (first | exact Ex.refl _ | refine Ex.alloc ?_ _ | refine Ex.ext ?_ _ _ | refine Ex.drew ?_ | refine Ex.drewN ?_ _))); (focus exact LotsAt.ex HL'.out (by repeat (first | exact Ex.refl _ | refine Ex.alloc ?_ _ | refine Ex.ext ?_ _ _ | refine Ex.drew ?_ | refine Ex.drewN ?_ _)))); rintro e w1 ⟨rfl, l4, d4, rfl⟩)
              | (go_at_call 19; ((with_reducible refine (HV0.out ao' cap' _ ?_ ?_ ?_).mono ?_); (focus exact hcl); (focus exact Errs.ex hE' (by repeat (first | exact Ex.refl _ | refine Ex.alloc ?_ _ | refine Ex.ext ?_ _ _ | refine Ex.drew ?_ | refine Ex.drewN ?_ _))); (focus exact LotsAt.ex HL'.out (by repeat (first | exact Ex.refl _ | refine Ex.alloc ?_ _ | refine Ex.ext ?_ _ _ | refine Ex.drew ?_ | refine Ex.drewN ?_ _)))); rintro e w1 ⟨rfl, l4, d4, rfl⟩)
              | (go_at_call 19; ((with_reducible refine (HV1.out ao' cap' _ ?_ ?_ ?_).mono ?_); (focus exact hcl); (focus exact Errs.ex hE' (by repeat (first | exact Ex.refl _ | refine Ex.alloc ?_ _ | refine Ex.ext ?_ _ _ | refine Ex.drew ?_ | refine Ex.drewN ?_ _))); (focus exact LotsAt.ex HL'.out (by repeat (first | exact Ex.refl _ | refine Ex.alloc ?_ _ | refine Ex.ext ?_ _ _ | refine Ex.drew ?_ | refine Ex.drewN ?_ _)))); rintro e w1 ⟨rfl, l4, d4, rfl⟩)
              | (go_at_call 22; ((with_reducible refine (HC0.out ao' cap' _ ?_ ?_ ?_).mono ?_); (focus exact hcl); (focus exact Errs.ex hE' (by repeat (first | exact Ex.refl _ | refine Ex.alloc ?_ _ | refine Ex.ext ?_ _ _ | refine Ex.drew ?_ | refine Ex.drewN ?_ _))); (focus exact LotsAt.ex HL'.out (by repeat (first | exact Ex.refl _ | refine Ex.alloc ?_ _ | refine Ex.ext ?_ _ _ | refine Ex.drew ?_ | refine Ex.drewN ?_ _)))); rintro e w1 ⟨rfl, l4, d4, rfl⟩)
              | (go_at_call 18; ((with_reducible refine (HX0.out ao' cap' _ ?_ ?_ ?_).mono ?_); (focus exact hcl); (focus exact Errs.ex hE' (by repeat (first | exact Ex.refl _ | refine Ex.alloc ?_ _ | refine Ex.ext ?_ _ _ | refine Ex.drew ?_ | refine Ex.drewN ?_ _))); (focus exact LotsAt.ex HL'.out (by repeat (first | exact Ex.refl _ | refine Ex.alloc ?_ _ | refine Ex.ext ?_ _ _ | refine Ex.drew ?_ | refine Ex.drewN ?_ _)))); rintro e w1 ⟨rfl, l4, d4, rfl⟩)
              | (go_at_call 18; ((with_reducible refine (HX1.out ao' cap' _ ?_ ?_ ?_).mono ?_); (focus exact hcl); (focus exact Errs.ex hE' (by repeat (first | exact Ex.refl _ | refine Ex.alloc ?_ _ | refine Ex.ext ?_ _ _ | refine Ex.drew ?_ | refine Ex.drewN ?_ _))); (focus exact LotsAt.ex HL'.out (by repeat (first | exact Ex.refl _ | refine Ex.alloc ?_ _ | refine Ex.ext ?_ _ _ | refine Ex.drew ?_ | refine Ex.drewN ?_ _)))); rintro e w1 ⟨rfl, l4, d4, rfl⟩)
              | (go_at_call 16; ((with_reducible refine (HD1.out ao' cap' _ ?_ ?_ ?_).mono ?_); (focus exact hcl); (focus exact Errs.ex hE' (by repeat (first | exact Ex.refl _ | refine Ex.alloc ?_ _ | refine Ex.ext ?_ _ _ | refine Ex.drew ?_ | refine Ex.drewN ?_ _))); (focus exact LotsAt.ex HL'.out (by repeat (first | exact Ex.refl _ | refine Ex.alloc ?_ _ | refine Ex.ext ?_ _ _ | refine Ex.drew ?_ | refine Ex.drewN ?_ _)))); rintro e w1 ⟨rfl, l4, d4, rfl⟩)
              | (go_at_call 17; ((with_reducible refine (HS1.out ao' cap' _ ?_ ?_ ?_).mono ?_); (focus exact hcl); (focus exact Errs.ex hE' (by repeat (first | exact Ex.refl _ | refine Ex.alloc ?_ _ | refine Ex.ext ?_ _ _ | refine Ex.drew ?_ | refine Ex.drewN ?_ _))); (focus exact LotsAt.ex HL'.out (by repeat (first | exact Ex.refl _ | refine Ex.alloc ?_ _ | refine Ex.ext ?_ _ _ | refine Ex.drew ?_ | refine Ex.drewN ?_ _)))); rintro e w1 ⟨rfl, l4, d4, rfl⟩)
              | (go_at_call 23; ((with_reducible refine (HT0.out ao' cap' _ ?_ ?_ ?_).mono ?_); (focus exact hcl); (focus exact Errs.ex hE' (by repeat (first | exact Ex.refl _ | refine Ex.alloc ?_ _ | refine Ex.ext ?_ _ _ | refine Ex.drew ?_ | refine Ex.drewN ?_ _))); (focus exact LotsAt.ex HL'.out (by repeat (first | exact Ex.refl _ | refine Ex.alloc ?_ _ | refine Ex.ext ?_ _ _ | refine Ex.drew ?_ | refine Ex.drewN ?_ _)))); rintro e w1 ⟨rfl, l4, d4, rfl⟩)
              | (go_at_call 23; ((with_reducible refine (HT1.out ao' cap' _ ?_ ?_ ?_).mono ?_); (focus exact hcl); (focus exact Errs.ex hE' (by repeat (first | exact Ex.refl _ | refine Ex.alloc ?_ _ | refine Ex.ext ?_ _ _ | refine Ex.drew ?_ | refine Ex.drewN ?_ _))); (focus exact LotsAt.ex HL'.out (by repeat (first | exact Ex.refl _ | refine Ex.alloc ?_ _ | refine Ex.ext ?_ _ _ | refine Ex.drew ?_ | refine Ex.drewN ?_ _)))); rintro e w1 ⟨rfl, l4, d4, rfl⟩))
            all_goals go_ret
            all_goals exact ⟨rfl, HX.out.trans (by repeat (first | exact Ex.refl _ | refine Ex.alloc ?_ _ | refine Ex.ext ?_ _ _ | refine Ex.drew ?_ | refine Ex.drewN ?_ _))⟩
          · go_enter Tryd.func5, Tryd.ntmps5
            go_wp2_with (go_at_call 20; refine (cleared_any E _ (by exact Errs.sub (hE.ex (by repeat (first | exact Ex.refl _ | refine Ex.alloc ?_ _ | refine Ex.ext ?_ _ _ | refine Ex.drew ?_ | refine Ex.drewN ?_ _))) (by decide))).mono ?_; rintro e w1 ⟨rfl, l1, d1, rfl⟩)
            refine (ownLots_any ao len cap l _ hcap (by omega) (HL.out.ex (by repeat (first | exact Ex.refl _ | refine Ex.alloc ?_ _ | refine Ex.ext ?_ _ _ | refine Ex.drew ?_ | refine Ex.drewN ?_ _)))).mono ?_
            rintro e wo ⟨⟨ao', cap', rfl, hc', hl'⟩, hx1'⟩
            have HX : Hid (Ex w wo) := Lib.hid (Ex.trans (by repeat (first | exact Ex.refl _ | refine Ex.alloc ?_ _ | refine Ex.ext ?_ _ _ | refine Ex.drew ?_ | refine Ex.drewN ?_ _)) hx1')
            have hE' := hE.ex HX.out
            clear hx1'
            have HL' := Lib.hid hl'
            clear hl'
            have hcl := hc'.1
            go_wp2_with fail
            go_wp2_with (first
              | (go_at_call 21; ((with_reducible refine (HP0.out ao' cap' _ ?_ ?_ ?_).mono ?_); (focus exact hcl); (focus exact Errs.ex hE' (by repeat (first | exact Ex.refl _ | refine Ex.alloc ?_ _ | refine Ex.ext ?_ _ _ | refine Ex.drew ?_ | refine Ex.drewN ?_ _))); (focus exact LotsAt.ex HL'.out (by repeat (first | exact Ex.refl _ | refine Ex.alloc ?_ _ | refine Ex.ext ?_ _ _ | refine Ex.drew ?_ | refine Ex.drewN ?_ _)))); rintro e w1 ⟨rfl, l4, d4, rfl⟩)
              | (go_at_call 19; ((with_reducible refine (HV0.out ao' cap' _ ?_ ?_ ?_).mono ?_); (focus exact hcl); (focus exact Errs.ex hE' (by repeat (first | exact Ex.refl _ | refine Ex.alloc ?_ _ | refine Ex.ext ?_ _ _ | refine Ex.drew ?_ | refine Ex.drewN ?_ _))); (focus exact LotsAt.ex HL'.out (by repeat (first | exact Ex.refl _ | refine Ex.alloc ?_ _ | refine Ex.ext ?_ _ _ | refine Ex.drew ?_ | refine Ex.drewN ?_ _)))); rintro e w1 ⟨rfl, l4, d4, rfl⟩)
              | (go_at_call 19; ((with_reducible refine (HV1.out ao' cap' _ ?_ ?_ ?_).mono ?_); (focus exact hcl); (focus exact Errs.ex hE' (by repeat (first | exact Ex.refl _ | refine Ex.alloc ?_ _ | refine Ex.ext ?_ _ _ | refine Ex.drew ?_ | refine Ex.drewN ?_ _))); (focus exact LotsAt.ex HL'.out (by repeat (first | exact Ex.refl _ | refine Ex.alloc ?_ _ | refine Ex.ext ?_ _ _ | refine Ex.drew ?_ | refine Ex.drewN ?_ _)))); rintro e w1 ⟨rfl, l4, d4, rfl⟩)
              | (go_at_call 22; ((with_reducible refine (HC0.out ao' cap' _ ?_ ?_ ?_).mono ?_); (focus exact hcl); (focus exact Errs.ex hE' (by repeat (first | exact Ex.refl _ | refine Ex.alloc ?_ _ | refine Ex.ext ?_ _ _ | refine Ex.drew ?_ | refine Ex.drewN ?_ _))); (focus exact LotsAt.ex HL'.out (by repeat (first | exact Ex.refl _ | refine Ex.alloc ?_ _ | refine Ex.ext ?_ _ _ | refine Ex.drew ?_ | refine Ex.drewN ?_ _)))); rintro e w1 ⟨rfl, l4, d4, rfl⟩)
              | (go_at_call 18; ((with_reducible refine (HX0.out ao' cap' _ ?_ ?_ ?_).mono ?_); (focus exact hcl); (focus exact Errs.ex hE' (by repeat (first | exact Ex.refl _ | refine Ex.alloc ?_ _ | refine Ex.ext ?_ _ _ | refine Ex.drew ?_ | refine Ex.drewN ?_ _))); (focus exact LotsAt.ex HL'.out (by repeat (first | exact Ex.refl _ | refine Ex.alloc ?_ _ | refine Ex.ext ?_ _ _ | refine Ex.drew ?_ | refine Ex.drewN ?_ _)))); rintro e w1 ⟨rfl, l4, d4, rfl⟩)
              | (go_at_call 18; ((with_reducible refine (HX1.out ao' cap' _ ?_ ?_ ?_).mono ?_); (focus exact hcl); (focus exact Errs.ex hE' (by repeat (first | exact Ex.refl _ | refine Ex.alloc ?_ _ | refine Ex.ext ?_ _ _ | refine Ex.drew ?_ | refine Ex.drewN ?_ _))); (focus exact LotsAt.ex HL'.out (by repeat (first | exact Ex.refl _ | refine Ex.alloc ?_ _ | refine Ex.ext ?_ _ _ | refine Ex.drew ?_ | refine Ex.drewN ?_ _)))); rintro e w1 ⟨rfl, l4, d4, rfl⟩)
              | (go_at_call 16; ((with_reducible refine (HD1.out ao' cap' _ ?_ ?_ ?_).mono ?_); (focus exact hcl); (focus exact Errs.ex hE' (by repeat (first | exact Ex.refl _ | refine Ex.alloc ?_ _ | refine Ex.ext ?_ _ _ | refine Ex.drew ?_ | refine Ex.drewN ?_ _))); (focus exact LotsAt.ex HL'.out (by repeat (first | exact Ex.refl _ | refine Ex.alloc ?_ _ | refine Ex.ext ?_ _ _ | refine Ex.drew ?_ | refine Ex.drewN ?_ _)))); rintro e w1 ⟨rfl, l4, d4, rfl⟩)
              | (go_at_call 17; ((with_reducible refine (HS1.out ao' cap' _ ?_ ?_ ?_).mono ?_); (focus exact hcl); (focus exact Errs.ex hE' (by repeat (first | exact Ex.refl _ | refine Ex.alloc ?_ _ | refine Ex.ext ?_ _ _ | refine Ex.drew ?_ | refine Ex.drewN ?_ _))); (focus exact LotsAt.ex HL'.out (by repeat (first | exact Ex.refl _ | refine Ex.alloc ?_ _ | refine Ex.ext ?_ _ _ | refine Ex.drew ?_ | refine Ex.drewN ?_ _)))); rintro e w1 ⟨rfl, l4, d4, rfl⟩)
              | (go_at_call 23; ((with_reducible refine (HT0.out ao' cap' _ ?_ ?_ ?_).mono ?_); (focus exact hcl); (focus exact Errs.ex hE' (by repeat (first | exact Ex.refl _ | refine Ex.alloc ?_ _ | refine Ex.ext ?_ _ _ | refine Ex.drew ?_ | refine Ex.drewN ?_ _))); (focus exact LotsAt.ex HL'.out (by repeat (first | exact Ex.refl _ | refine Ex.alloc ?_ _ | refine Ex.ext ?_ _ _ | refine Ex.drew ?_ | refine Ex.drewN ?_ _)))); rintro e w1 ⟨rfl, l4, d4, rfl⟩)
              | (go_at_call 23; ((with_reducible refine (HT1.out ao' cap' _ ?_ ?_ ?_).mono ?_); (focus exact hcl); (focus exact Errs.ex hE' (by repeat (first | exact Ex.refl _ | refine Ex.alloc ?_ _ | refine Ex.ext ?_ _ _ | refine Ex.drew ?_ | refine Ex.drewN ?_ _))); (focus exact LotsAt.ex HL'.out (by repeat (first | exact Ex.refl _ | refine Ex.alloc ?_ _ | refine Ex.ext ?_ _ _ | refine Ex.drew ?_ | refine Ex.drewN ?_ _)))); rintro e w1 ⟨rfl, l4, d4, rfl⟩))
            all_goals go_ret
            all_goals exact ⟨rfl, HX.out.trans (by repeat (first | exact Ex.refl _ | refine Ex.alloc ?_ _ | refine Ex.ext ?_ _ _ | refine Ex.drew ?_ | refine Ex.drewN ?_ _))⟩
  · have HOK := Lib.hid hok
    clear hl hok
    go_enter Tryd.func5, Tryd.ntmps5
    go_wp2_with (go_at_call 20; refine (cleared_any E _ (by exact Errs.sub (hE.ex (by repeat (first | exact Ex.refl _ | refine Ex.alloc ?_ _ | refine Ex.ext ?_ _ _ | refine Ex.drew ?_ | refine Ex.drewN ?_ _))) (by decide))).mono ?_; rintro e w1 ⟨rfl, l1, d1, rfl⟩)
    refine (ownLots_any ao len cap l _ hcap (by omega) (HL.out.ex (by repeat (first | exact Ex.refl _ | refine Ex.alloc ?_ _ | refine Ex.ext ?_ _ _ | refine Ex.drew ?_ | refine Ex.drewN ?_ _)))).mono ?_
    rintro e wo ⟨⟨ao', cap', rfl, hc', hl'⟩, hx1'⟩
    have HX : Hid (Ex w wo) := Lib.hid (Ex.trans (by repeat (first | exact Ex.refl _ | refine Ex.alloc ?_ _ | refine Ex.ext ?_ _ _ | refine Ex.drew ?_ | refine Ex.drewN ?_ _)) hx1')
    have hE' := hE.ex HX.out
    clear hx1'
    have HL' := Lib.hid hl'
    clear hl'
    have hcl := hc'.1
    go_wp2_with fail
    refine (price_bad _ len _ l ref E _ hc'.1 hE' HL'.out HOK.out).mono ?_
    rintro e w1 ⟨⟨tt, xx, rfl, _⟩, l3, d3, rfl⟩
    go_wp2
    all_goals go_ret
    all_goals exact ⟨rfl, HX.out.trans (by repeat (first | exact Ex.refl _ | refine Ex.alloc ?_ _ | refine Ex.ext ?_ _ _ | refine Ex.drew ?_ | refine Ex.drewN ?_ _))⟩
end Go.Proofs.YtjkaeiioofknoaaDoor
