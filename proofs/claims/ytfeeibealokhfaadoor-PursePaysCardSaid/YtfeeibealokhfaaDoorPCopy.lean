/- What Copy of package purse computes. -/
import Derived.Test.YtfeeibealokhfaaDoorPurse1
import Derived.Test.YtfeeibealokhfaaDoorArr
set_option linter.unusedSimpArgs false
set_option linter.unusedVariables false
namespace Go.Proofs.YtfeeibealokhfaaDoor
open Go.RowKit

theorem zeroPu (w : World) : (zeroValue 112).run Tryd.prog w = .ok (.agg (Array.replicate 48 (.int .i64 0))) w := by kernel_rfl
theorem sizePu : (Tryd.prog.info? 112).map (·.size) = some 48 := by kernel_rfl
section
variable {own : Nat → Nat} {i : Nat} {w : World} {p : Nat} {P : Pu}
/-- A new block that holds the same. -/
def CopyTo (w : World) (P : Pu) (e : Ending) (w' : World) : Prop := e = .returned (.pointer (some ⟨w.heap.size, 0, none⟩)) ∧ Ex w w' ∧ w.heap.size < w'.heap.size ∧ ∃ t, w'.rowIs w.heap.size t 48 (fun n => .int .i64 (P (n / 8) (n % 8)))
set_option maxRecDepth 100000 in
theorem pcopy_any (h : PurseAt own i w p P) : Calls Tryd.prog 16 #[.pointer (some ⟨p, 0, none⟩)] w (CopyTo w P) := by
  have hp := h.lt
  obtain ⟨_, _, t, cs, hg, hn, hc⟩ := h
  have hs : (Tryd.prog.info? 112).map (·.size) = some cs.size := by rw [hn]; exact sizePu
  have h1 : ∀ v ∈ cs.toList, v.oneCell' = true := fun v hv => by
    obtain ⟨k, hk, rfl⟩ := List.getElem_of_mem hv
    have h2 := hc k (by simpa [hn] using hk)
    simp only [Array.getElem_toList]
    rw [Array.getElem?_eq_getElem (by simpa using hk)] at h2
    rw [Option.some.inj h2]
    rfl
  have HG := Lib.hid hg
  have HN := Lib.hid hn
  have HS := Lib.hid hs
  have H1 := Lib.hid h1
  have HC := Lib.hid hc
  clear hg hn hs h1 hc
  go_enter Tryd.func16, Tryd.ntmps16
  go_wp2_with (first
    | (refine wpList_load_row rfl 112 (.tmp 5) rfl p rfl t cs (0, 0) _ HG.out Tryd.underlying112 rfl HS.out ?_)
    | (with_reducible refine wpList_alloc_row rfl 112 rfl _ _ zeroPu rfl ?_)
    | (refine wpList_store_row rfl 112 (.tmp 3) (.tmp 6) rfl w.heap.size rfl cs rfl (Array.replicate 48 (.int .i64 0)) 112 (heap_new rfl) HS.out (by rw [HN.out]; rfl) H1.out ?_))
  all_goals go_ret
  have hrow : (((w.alloc (.cells (Array.replicate 48 (.int .i64 0)) 112)).setRow w.heap.size cs)).heap[w.heap.size]? = some (.cells cs 112 (0, 0)) := setRow_heap _ _ _ _ _ _ (heap_new rfl)
  refine ⟨rfl, Ex.of ?_, by simp, 112, cs, hrow, HN.out, HC.out⟩
  have h2 := (Below.refl w.heap.size w).alloc (Nat.le_refl _) (.cells (Array.replicate 48 (.int .i64 0)) 112)
  exact h2.trans ⟨rfl, rfl, rfl, by simp, fun k hk => setRow_other _ _ _ _ (by omega)⟩
end
end Go.Proofs.YtfeeibealokhfaaDoor
