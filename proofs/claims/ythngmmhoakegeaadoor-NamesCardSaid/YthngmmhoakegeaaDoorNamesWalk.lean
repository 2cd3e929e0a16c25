/- The walk of Names. -/
import Derived.Test.YthngmmhoakegeaaDoorNamesLaw
set_option linter.unusedSimpArgs false
set_option linter.unusedVariables false
namespace Go.Proofs.YthngmmhoakegeaaDoor
open Go.RowKit

set_option maxRecDepth 100000 in
theorem errorsNew_any (s : ByteArray) (w : World) : Calls Tryd.prog 32 #[.string s] w fun e w' => e = .returned (.iface 114 (.pointer (some ⟨w.heap.size, 0, none⟩))) ∧ w' = w.alloc (.cells #[.string s] 116) := by
  go_enter Tryd.func32, Tryd.ntmps32
  go_wp2
  go_ret
  exact ⟨rfl, rfl⟩

set_option maxRecDepth 100000 in
set_option maxHeartbeats 4000000 in
theorem names_any (E : Nat → Addr) (w : World) (hr : CodeReady E w) : Calls Tryd.prog 8 #[] w fun e w' => e = .returned (.bool true) ∧ Ex w w' := by
  have hE := hr.1
  have e1 : w.cell? ⟨0, 0, none⟩ = some (.iface 114 (.pointer (some (E 1)))) := hE 1 (by decide)
  have b1 : 0 < w.heap.size := lt_of_cell e1
  have e2 : w.cell? ⟨1, 0, none⟩ = some (.iface 114 (.pointer (some (E 2)))) := hE 2 (by decide)
  have b2 : 1 < w.heap.size := lt_of_cell e2
  have e3 : w.cell? ⟨2, 0, none⟩ = some (.iface 114 (.pointer (some (E 3)))) := hE 3 (by decide)
  have b3 : 2 < w.heap.size := lt_of_cell e3
  have e4 : w.cell? ⟨3, 0, none⟩ = some (.iface 114 (.pointer (some (E 4)))) := hE 4 (by decide)
  have b4 : 3 < w.heap.size := lt_of_cell e4
  have e5 : w.cell? ⟨4, 0, none⟩ = some (.iface 114 (.pointer (some (E 5)))) := hE 5 (by decide)
  have b5 : 4 < w.heap.size := lt_of_cell e5
  have e6 : w.cell? ⟨5, 0, none⟩ = some (.iface 114 (.pointer (some (E 6)))) := hE 6 (by decide)
  have b6 : 5 < w.heap.size := lt_of_cell e6
  have e7 : w.cell? ⟨6, 0, none⟩ = some (.iface 114 (.pointer (some (E 7)))) := hE 7 (by decide)
  have b7 : 6 < w.heap.size := lt_of_cell e7
  have e8 : w.cell? ⟨7, 0, none⟩ = some (.iface 114 (.pointer (some (E 8)))) := hE 8 (by decide)
  have b8 : 7 < w.heap.size := lt_of_cell e8
  have e9 : w.cell? ⟨8, 0, none⟩ = some (.iface 114 (.pointer (some (E 9)))) := hE 9 (by decide)
  have b9 : 8 < w.heap.size := lt_of_cell e9
  have e10 : w.cell? ⟨9, 0, none⟩ = some (.iface 114 (.pointer (some (E 10)))) := hE 10 (by decide)
  have b10 : 9 < w.heap.size := lt_of_cell e10
  have e11 : w.cell? ⟨10, 0, none⟩ = some (.iface 114 (.pointer (some (E 11)))) := hE 11 (by decide)
  have b11 : 10 < w.heap.size := lt_of_cell e11
  have e12 : w.cell? ⟨11, 0, none⟩ = some (.iface 114 (.pointer (some (E 12)))) := hE 12 (by decide)
  have b12 : 11 < w.heap.size := lt_of_cell e12
  have HR := Lib.hid hr
  have hlt : ∀ c ∈ allE, (E c).block < w.heap.size := fun c hc => by
    obtain ⟨cs, t, h⟩ := hr.2.1.1 c hc
    exact (Array.getElem?_eq_some_iff.1 h).1
  have HLT := Lib.hid hlt
  clear hr hE hlt
  go_enter Tryd.func8, Tryd.ntmps8
  go_wp2_with (go_at_call 29; ((with_reducible refine (sameInts_same _ 24 _ _ _ names24 _ ?_ ?_).mono ?_); (focus exact names24_at (by rw [Below.heap_alloc _ _ _ (by simp)]; exact alloc_at rfl)); (focus exact names24_at (alloc_at (by simp)))); rintro e w1 ⟨rfl, l1, d1, rfl⟩)
  clear e1 e2 e3 e4 e5 e6 e7 e8 e9 e10 e11 e12
  go_loopw [4] (fun i wr => ∃ (k : Nat), k ≤ 12 ∧ i = .int .i64 k ∧ (∀ j, j < 12 → wr.cell? ⟨w.heap.size + 1 + 1 + l1.length, j, none⟩ = some (.iface 114 (.pointer (some (E (j + 1)))))) ∧ w.heap.size + 1 + 1 + l1.length < wr.heap.size ∧ Below w.heap.size w wr) (fun i _ => 12 - (intOf i).toNat)
  case atStart =>
    refine ⟨0, Nat.zero_le _, rfl, fun j hj => ?_, by simp [go_sem], Ex.below (by repeat (first | exact Ex.refl _ | refine Ex.alloc ?_ _ | refine Ex.ext ?_ _ _ | refine Ex.drew ?_ | refine Ex.drewN ?_ _))⟩
    have := errsRow_at E j hj
    simp only [errsRow] at this
    simp [go_sem, ↓IntWalk.iteOmega, this]
  case round =>
    obtain ⟨k, hk, rfl, hcl, hsz, hbl⟩ := hrel
    have hEr := HR.out.ex (Ex.of hbl)
    have HER := Lib.hid hEr
    clear hEr
    by_cases hlt : k < 12
    · have ck := hcl k hlt
      have HCL := Lib.hid hcl
      clear hcl
      obtain ⟨c, hc1, hc2⟩ : ∃ c, k < c ∧ c ≤ 12 := ⟨12, hlt, Nat.le_refl _⟩
      have HLT2 := Lib.hid hlt
      clear hlt hk
      have q1 : (((k + 1 : Nat) : Int) == (k : Int) + 1) = true := by simp
      have q2 : (((k + 1 : Nat) : Int) != (k : Int) + 1) = false := by simp
      go_wp2_with (first
        | (go_at_call 30; ((refine (code_fault (k + 1) 7 _ E _ ?_ ?_ ?_ ?_ ?_).mono ?_); (focus exact CodeReady.ex HER.out (by repeat (first | exact Ex.refl _ | refine Ex.alloc ?_ _ | refine Ex.ext ?_ _ _ | refine Ex.drew ?_ | refine Ex.drewN ?_ _))); (focus omega); (focus omega); (focus (simp [go_sem, ↓IntWalk.iteOmega, *])); (focus (simp [go_sem, ↓IntWalk.iteOmega, *]))); rintro e w1 ⟨rfl, l2, d2, rfl⟩)
        | (go_at_call 31; ((refine (coded_err (k + 1) _ E _ ?_ ?_ ?_).mono ?_); (focus exact CodeReady.ex HER.out (by repeat (first | exact Ex.refl _ | refine Ex.alloc ?_ _ | refine Ex.ext ?_ _ _ | refine Ex.drew ?_ | refine Ex.drewN ?_ _))); (focus omega); (focus omega)); rintro e w1 ⟨rfl, l3, d3, rfl⟩))
      all_goals
        go_roundw
        case measure => simp [intOf]; omega
        case rel =>
          refine ⟨k + 1, by omega, by go_num, fun j hj => ?_, ?_, ?_⟩
          · have := HCL.out j hj
            simp [go_sem, ↓IntWalk.iteOmega, *]
          · simp [go_sem]; omega
          · (refine Below.trans hbl ?_; repeat (first | exact Below.refl _ _ | (refine Below.drew ?_) | (refine Below.drewN ?_ _) | (refine Below.ext ?_ (by first | omega | (simp [go_sem]; done) | (simp [go_sem]; omega)) _ _) | (refine Below.alloc ?_ (by first | omega | (simp [go_sem]; done) | (simp [go_sem]; omega)) _) | (refine Below.setCell ?_ (by first | omega | (simp [go_sem]; done) | (simp [go_sem]; omega)) _)))
    · clear hcl
      go_wp2_with (first
        | (go_at_call 32; refine (errorsNew_any _ _).mono ?_; rintro e w1 ⟨rfl, rfl⟩)
        | (go_at_call 30; ((refine (code_other _ _ _ E _ ?_ ?_ (alloc_at rfl)).mono ?_); (focus exact CodeReady.ex HER.out (by repeat (first | exact Ex.refl _ | refine Ex.alloc ?_ _ | refine Ex.ext ?_ _ _ | refine Ex.drew ?_ | refine Ex.drewN ?_ _))); (focus (intro c hc e; have h1 := HLT.out c hc; rw [← e] at h1; have h2 := hbl.size; simp at h1; omega))); rintro e w1 ⟨rfl, l2, d2, rfl⟩)
        | (go_at_call 31; refine (coded_nil _ _).mono ?_; rintro e w1 ⟨rfl, l3, d3, rfl⟩))
      all_goals go_ret
      all_goals exact ⟨rfl, (Ex.of hbl).trans (by repeat (first | exact Ex.refl _ | refine Ex.alloc ?_ _ | refine Ex.ext ?_ _ _ | refine Ex.drew ?_ | refine Ex.drewN ?_ _))⟩
end Go.Proofs.YthngmmhoakegeaaDoor
