/- What band's Next computes at what is not right, and the document's answer on bands. -/
import Derived.Test.YthngmmhoakegeaaDoorBandLaw
import Derived.Test.YthngmmhoakegeaaDoorCoded2
import Derived.RegionTactic
set_option linter.unusedSimpArgs false
set_option linter.unusedVariables false
namespace Go.Proofs.YthngmmhoakegeaaDoor
open Go.RowKit

theorem bandCheck_bad (r l : Int) (w : World) (t : TypeId) (x : Value) (hE : w.cell? ⟨1, 0, none⟩ = some (.iface t x)) (ho : r < 1 ∨ 1000 < r ∨ l < 0 ∨ 1000 < l) :
    Calls Tryd.prog 35 #[.agg #[.int .i64 r, .int .i64 l]] w fun e w' => e = .returned (.iface t x) ∧ Ex w w' := by
  have hb : 1 < w.heap.size := World.block_lt_of_cell? _ _ hE
  go_enter Tryd.func35, Tryd.ntmps35
  go_wp2
  all_goals (first | go_ret | (exfalso; omega))
  all_goals exact ⟨rfl, Ex.of ((Below.refl _ _).alloc (Nat.le_refl _) _)⟩

set_option maxHeartbeats 1000000 in
theorem next_bad (ref left wi halt p v : Int) (w : World) (t : TypeId) (x : Value) (hE : w.cell? ⟨1, 0, none⟩ = some (.iface t x))
    (ho : (ref < 1 ∨ 1000 < ref ∨ left < 0 ∨ 1000 < left) ∨ ((1 ≤ ref ∧ ref ≤ 1000 ∧ 0 ≤ left ∧ left ≤ 1000) ∧ ((wi < 0 ∨ 100 < wi ∨ halt < 1 ∨ 1000 < halt) ∨ (0 ≤ wi ∧ wi ≤ 100 ∧ 1 ≤ halt ∧ halt ≤ 1000) ∧ (v < 0 ∨ 0 < v ∧ (p < 1 ∨ 1000 < p))))) :
    Calls Tryd.prog 22 #[.agg #[.int .i64 ref, .int .i64 left], .agg #[.int .i64 wi, .int .i64 halt], .int .i64 p, .int .i64 v] w fun e w' =>
      e = .returned (.tuple #[.agg #[.int .i64 0, .int .i64 0], .bool false, .iface t x]) ∧ Ex w w' := by
  have hb : 1 < w.heap.size := World.block_lt_of_cell? _ _ hE
  rcases ho with ho | ⟨⟨a1, a2, a3, a4⟩, ho | ⟨⟨b1, b2, b3, b4⟩, ho⟩⟩
  · go_enter Tryd.func22, Tryd.ntmps22
    go_wp2_with fail
    refine (bandCheck_bad _ _ _ t x (by simp [go_sem, ↓IntWalk.iteOmega, *]) ho).mono ?_
    rintro e w1 ⟨rfl, l1, d1, rfl⟩
    go_wp2
    all_goals ((try simp only [Exit.inBlock, Exit.then]); refine bodyPost_ret (v := .tuple #[.agg #[.int .i64 0, .int .i64 0], .bool false, .iface t x]) ?_ rfl ⟨rfl, (by repeat (first | exact Ex.refl _ | refine Ex.alloc ?_ _ | refine Ex.ext ?_ _ _ | refine Ex.drew ?_ | refine Ex.drewN ?_ _))⟩; simp [results, Tryd.results22, go_sem, ↓IntWalk.iteOmega])
  · go_enter Tryd.func22, Tryd.ntmps22
    go_wp2_with fail
    refine (bandCheck_ok _ _ _ a1 a2 a3 a4).mono ?_
    rintro e w1 ⟨rfl, l1, d1, rfl⟩
    go_wp2_with fail
    refine (ruleCheck_bad _ _ _ t x (by simp [go_sem, ↓IntWalk.iteOmega, *]) ho).mono ?_
    rintro e w2 ⟨rfl, l2, d2, rfl⟩
    go_wp2
    all_goals ((try simp only [Exit.inBlock, Exit.then]); refine bodyPost_ret (v := .tuple #[.agg #[.int .i64 0, .int .i64 0], .bool false, .iface t x]) ?_ rfl ⟨rfl, (by repeat (first | exact Ex.refl _ | refine Ex.alloc ?_ _ | refine Ex.ext ?_ _ _ | refine Ex.drew ?_ | refine Ex.drewN ?_ _))⟩; simp [results, Tryd.results22, go_sem, ↓IntWalk.iteOmega])
  · rcases ho with ho | ⟨ho1, ho | ho⟩
    all_goals
      go_enter Tryd.func22, Tryd.ntmps22
      go_wp2_with fail
      refine (bandCheck_ok _ _ _ a1 a2 a3 a4).mono ?_
      rintro e w1 ⟨rfl, l1, d1, rfl⟩
      go_wp2_with fail
      refine (ruleCheck_ok _ _ _ b1 b2 b3 b4).mono ?_
      rintro e w2 ⟨rfl, l2, d2, rfl⟩
      go_wp2_with fail
      go_region
      all_goals go_wp2
      all_goals ((try simp only [Exit.inBlock, Exit.then]); refine bodyPost_ret (v := .tuple #[.agg #[.int .i64 0, .int .i64 0], .bool false, .iface t x]) ?_ rfl ⟨rfl, (by repeat (first | exact Ex.refl _ | refine Ex.alloc ?_ _ | refine Ex.ext ?_ _ _ | refine Ex.drew ?_ | refine Ex.drewN ?_ _))⟩; simp [results, Tryd.results22, go_sem, ↓IntWalk.iteOmega])

theorem bandError_ok (r l wi h : Int) (w : World) (a1 : 1 ≤ r) (a2 : r ≤ 1000) (a3 : 0 ≤ l) (a4 : l ≤ 1000) (b1 : 0 ≤ wi) (b2 : wi ≤ 100) (b3 : 1 ≤ h) (b4 : h ≤ 1000) :
    Calls Tryd.prog 33 #[.agg #[.int .i64 r, .int .i64 l], .int .i64 wi, .int .i64 h] w fun e w' => e = .returned (.int .i64 0) ∧ Ex w w' := by
  go_enter Tryd.func33, Tryd.ntmps33
  go_wp2
  all_goals (first | go_ret | (exfalso; omega))
  all_goals exact ⟨rfl, (by repeat (first | exact Ex.refl _ | refine Ex.alloc ?_ _ | refine Ex.ext ?_ _ _ | refine Ex.drew ?_ | refine Ex.drewN ?_ _))⟩
theorem bandError_bad (r l wi h : Int) (w : World) (ho : r < 1 ∨ 1000 < r ∨ l < 0 ∨ 1000 < l ∨ wi < 0 ∨ 100 < wi ∨ h < 1 ∨ 1000 < h) :
    Calls Tryd.prog 33 #[.agg #[.int .i64 r, .int .i64 l], .int .i64 wi, .int .i64 h] w fun e w' => e = .returned (.int .i64 2) ∧ Ex w w' := by
  go_enter Tryd.func33, Tryd.ntmps33
  go_wp2
  all_goals (first | go_ret | (exfalso; omega))
  all_goals exact ⟨rfl, (by repeat (first | exact Ex.refl _ | refine Ex.alloc ?_ _ | refine Ex.ext ?_ _ _ | refine Ex.drew ?_ | refine Ex.drewN ?_ _))⟩
theorem isWithin_any (wi ref p : Int) (w : World) (h1 : 0 ≤ wi) (h2 : wi ≤ 100) (h3 : 1 ≤ ref) (h4 : ref ≤ 1000) (h5 : 1 ≤ p) (h6 : p ≤ 1000) :
    Calls Tryd.prog 37 #[.int .i64 wi, .int .i64 ref, .int .i64 p] w fun e w' => e = .returned (.bool (within wi ref p)) ∧ Ex w w' := by
  obtain ⟨b1, b2⟩ := prod_bd ref wi h1 h2 h3 h4
  by_cases hp : p - ref < 0
  · go_enter Tryd.func37, Tryd.ntmps37
    go_wp2
    all_goals go_ret
    all_goals refine ⟨ret_bool ?_, (by repeat (first | exact Ex.refl _ | refine Ex.alloc ?_ _ | refine Ex.ext ?_ _ _ | refine Ex.drew ?_ | refine Ex.drewN ?_ _))⟩
    all_goals (unfold within; rw [if_pos (by omega)]; congr 1; rw [show ref - p = -(p - ref) by omega])
  · go_enter Tryd.func37, Tryd.ntmps37
    go_wp2
    all_goals go_ret
    all_goals refine ⟨ret_bool ?_, (by repeat (first | exact Ex.refl _ | refine Ex.alloc ?_ _ | refine Ex.ext ?_ _ _ | refine Ex.drew ?_ | refine Ex.drewN ?_ _))⟩
    all_goals (unfold within; rw [if_neg (by omega)])

set_option maxHeartbeats 1000000 in
theorem nextBand_any (ref left wi halt p v : Int) (w : World) (h1 : 0 ≤ wi) (h2 : wi ≤ 100) (h5 : 1 ≤ ref) (h6 : ref ≤ 1000) (h7 : 0 ≤ left) (h8 : left ≤ 1000) (h9 : 0 ≤ v) (h10 : 0 < v → 1 ≤ p ∧ p ≤ 1000) :
    Calls Tryd.prog 36 #[.agg #[.int .i64 ref, .int .i64 left], .int .i64 wi, .int .i64 halt, .int .i64 p, .int .i64 v] w fun e w' =>
      e = .returned (.tuple #[.agg #[.int .i64 (bnext ref left wi halt p v).1, .int .i64 (bnext ref left wi halt p v).2.1], .bool (bnext ref left wi halt p v).2.2]) ∧ Ex w w' := by
  by_cases hv : 0 < v
  · obtain ⟨p1, p2⟩ := h10 hv
    have hq : (v == 0) = false := by simp; omega
    clear h10
    go_enter Tryd.func36, Tryd.ntmps36
    go_wp2_with (go_at_call 37; ((with_reducible refine (isWithin_any _ _ _ _ ?_ ?_ ?_ ?_ ?_ ?_).mono ?_); (iterate 6 (focus omega))); rintro e w3 ⟨rfl, l3, d3, rfl⟩)
    all_goals (try simp only [Exit.inBlock, Exit.then])
    all_goals (refine bodyPost_ret (v := .tuple #[.agg #[.int .i64 (bnext ref left wi halt p v).1, .int .i64 (bnext ref left wi halt p v).2.1], .bool (bnext ref left wi halt p v).2.2]) ?_ rfl ⟨rfl, ?_⟩)
    all_goals first
      | (simp [results, Tryd.results36, go_sem]
         unfold bnext
         repeat' split
         all_goals first | (exfalso; omega) | (simp_all; done) | (simp; omega) | (simp_all; omega))
      | (repeat (first | exact Ex.refl _ | refine Ex.alloc ?_ _ | refine Ex.ext ?_ _ _ | refine Ex.drew ?_))
  · obtain rfl : v = 0 := by omega
    clear h10
    go_enter Tryd.func36, Tryd.ntmps36
    go_wp2_with (go_at_call 37; ((with_reducible refine (isWithin_any _ _ _ _ ?_ ?_ ?_ ?_ ?_ ?_).mono ?_); (iterate 6 (focus omega))); rintro e w3 ⟨rfl, l3, d3, rfl⟩)
    all_goals (try simp only [Exit.inBlock, Exit.then])
    all_goals (refine bodyPost_ret (v := .tuple #[.agg #[.int .i64 (bnext ref left wi halt p 0).1, .int .i64 (bnext ref left wi halt p 0).2.1], .bool (bnext ref left wi halt p 0).2.2]) ?_ rfl ⟨rfl, ?_⟩)
    all_goals first
      | (simp [results, Tryd.results36, go_sem]
         unfold bnext
         repeat' split
         all_goals first | (exfalso; omega) | (simp_all; done) | (simp; omega) | (simp_all; omega))
      | (repeat (first | exact Ex.refl _ | refine Ex.alloc ?_ _ | refine Ex.ext ?_ _ _ | refine Ex.drew ?_))
end Go.Proofs.YthngmmhoakegeaaDoor
