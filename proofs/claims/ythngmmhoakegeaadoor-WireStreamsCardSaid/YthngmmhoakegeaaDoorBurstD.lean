/- What Decode of package wire computes where the sum is another one. -/
import Derived.Test.YthngmmhoakegeaaDoorWireLaw
set_option linter.unusedSimpArgs false
set_option linter.unusedVariables false
namespace Go.Proofs.YthngmmhoakegeaaDoor
open Go.RowKit

theorem neq_str {s t : ByteArray} (h : s ≠ t) : (s.toList != t.toList) = true := by
  rw [bne, toList_ne h]; rfl
set_option maxRecDepth 100000 in
set_option maxHeartbeats 1000000 in
theorem decode_sum (s : ByteArray) (E : Nat → Addr) (w : World) (hs : s.size = 30) (hE : Errs E [5] w) (hne : strOfNums (lowB (crc (s.extract 0 26).data.toList)) ≠ s.extract 26 30) :
    Calls Tryd.prog 50 #[.string s] w fun e w' => e = .returned (.tuple #[.agg #[.int .u8 0, .int .i64 0, .int .i64 0, .int .i64 0, .int .i64 0, .int .i64 0, .int .i64 0, .int .i64 0], .iface 114 (.pointer (some (E 5)))]) ∧ Ex w w' := by
  have hn1 := neq_str hne
  have hn2 := toList_ne hne
  have hsz : (s.extract 0 26).size ≤ maxLen := by rw [ByteArray.size_extract, hs]; decide
  have HSM := Lib.hid (fun w => sum_any (s.extract 0 26) w hsz)
  have hcl := crc_lt (s.extract 0 26).data.toList
  generalize crc (s.extract 0 26).data.toList = c at *
  have h5 : w.cell? ⟨4, 0, none⟩ = some (.iface 114 (.pointer (some (E 5)))) := hE 5 (by decide)
  have h5l : 4 < w.heap.size := World.block_lt_of_cell? _ _ h5
  have h5n : ¬ 4 = w.heap.size := by omega
  have h5m : 4 < w.heap.size + 1 := by omega
  clear hne hsz
  go_enter Tryd.func50, Tryd.ntmps50
  go_wp2_with fail
  go_region_law (first
    | (go_simp; go_at_call 53; refine (HSM.out _).mono ?_; rintro e w1 ⟨rfl, rfl⟩)
    | (go_simp; go_at_call 61; refine (wireLow_any c _ hcl).mono ?_; rintro e w1 ⟨rfl, l5, d5, rfl⟩))
  all_goals go_wp2_with fail
  all_goals go_region
  all_goals go_wp2_with fail
  all_goals (try simp only [Exit.inBlock, Exit.then])
  all_goals (refine bodyPost_ret (v := .tuple #[.agg #[.int .u8 0, .int .i64 0, .int .i64 0, .int .i64 0, .int .i64 0, .int .i64 0, .int .i64 0, .int .i64 0], .iface 114 (.pointer (some (E 5)))]) ?_ rfl ⟨rfl, Ex.of (by (refine Below.trans (Below.refl _ _) ?_; repeat (first | exact Below.refl _ _ | (refine Below.drew ?_) | (refine Below.drewN ?_ _) | (refine Below.ext ?_ (by first | omega | (simp [go_sem]; done) | (simp [go_sem]; omega)) _ _) | (refine Below.alloc ?_ (by first | omega | (simp [go_sem]; done) | (simp [go_sem]; omega)) _) | (refine Below.setCell ?_ (by first | omega | (simp [go_sem]; done) | (simp [go_sem]; omega)) _))))⟩)
  all_goals simp only [results, Tryd.results50]
  all_goals simp [go_sem, ↓IntWalk.iteOmega]
end Go.Proofs.YthngmmhoakegeaaDoor
