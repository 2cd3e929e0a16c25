/- What the statements' filledOf computes; a slice of two numbers. -/
import Derived.Test.YtjkaeiioofknoaaDoorFairL
set_option linter.unusedSimpArgs false
set_option linter.unusedVariables false
namespace Go.Proofs.YtjkaeiioofknoaaDoor
open Go.RowKit

/-- A block of two numbers. -/
def TwoAt (w : World) (b : Nat) (x y : Int) : Prop := w.heap[b]? = some (.cells #[.int .i64 x, .int .i64 y] 3 (0, 0))
theorem TwoAt.lt {w : World} {b : Nat} {x y : Int} (h : TwoAt w b x y) : b < w.heap.size := (Array.getElem?_eq_some_iff.1 h).1
theorem TwoAt.cell0 {w : World} {b : Nat} {x y : Int} (h : TwoAt w b x y) : w.cell? ⟨b, 0, none⟩ = some (.int .i64 x) := by simp [World.cell?, show w.heap[b]? = _ from h]
theorem TwoAt.cell1 {w : World} {b : Nat} {x y : Int} (h : TwoAt w b x y) : w.cell? ⟨b, 1, none⟩ = some (.int .i64 y) := by simp [World.cell?, show w.heap[b]? = _ from h]
theorem TwoAt.frozen {w : World} {b : Nat} {x y : Int} (h : TwoAt w b x y) (i : Nat) : w.frozen? ⟨b, i, none⟩ = false := by simp [World.frozen?, show w.heap[b]? = _ from h]
theorem TwoAt.ex {w w' : World} {b : Nat} {x y : Int} (h : TwoAt w b x y) (hx : Ex w w') : TwoAt w' b x y :=
  ((Below.grownBy hx.below).block b h.lt (row := none) (by simp)).trans h
theorem TwoAt.set0 {w : World} {b : Nat} {x y : Int} (h : TwoAt w b x y) (z : Int) : TwoAt (w.setCell ⟨b, 0, none⟩ (.int .i64 z)) b z y := by
  have := heap_setCell_same w b 0 _ _ (.int .i64 z) h
  simpa [TwoAt] using this
theorem TwoAt.set1 {w : World} {b : Nat} {x y : Int} (h : TwoAt w b x y) (z : Int) : TwoAt (w.setCell ⟨b, 1, none⟩ (.int .i64 z)) b x z := by
  have := heap_setCell_same w b 1 _ _ (.int .i64 z) h
  simpa [TwoAt] using this
theorem TwoAt.drew {w : World} {b : Nat} {x y : Int} (h : TwoAt w b x y) : TwoAt w.drew b x y := h

set_option maxRecDepth 100000 in
theorem filledOf_any (ao : Option Addr) (cap : Nat) (F : List Fil) (id : Int) (w : World) (hf : FillAt w ao F) (hq : ∀ f ∈ F, 1 ≤ f.qty ∧ f.qty ≤ 1000) (hz : F.length ≤ 100000) :
    Calls Tryd.prog 35 #[.slice ao F.length cap, .int .i64 id] w fun e w' => e = .returned (.int .i64 (gotF F id)) ∧ w = w' := by
  have HF := Lib.hid hf
  have HQ := Lib.hid hq
  clear hf hq
  go_enter Tryd.func35, Tryd.ntmps35
  go_wp2_with fail
  go_loop [5, 6] (fun n i => ∃ (k : Nat), k ≤ F.length ∧ i = .int .i64 k ∧ n = .int .i64 (gotF (F.take k) id)) (fun _ i => F.length - (intOf i).toNat)
  case atStart => exact ⟨0, Nat.zero_le _, rfl, rfl⟩
  case round =>
    obtain ⟨k, hk, rfl, rfl⟩ := hrel
    by_cases hlt : k < F.length
    · obtain ⟨b1, o1, rfl, hb1, hc1⟩ := HF.out (by omega)
      have a1 := hc1 k hlt 0 (by omega)
      have a3 := hc1 k hlt 1 (by omega)
      have hst := gotF_step (List.getElem?_eq_getElem hlt) id
      have hb := gotF_bounds (F.take k) id (fun f h => HQ.out f (List.mem_of_mem_take h))
      have hq := HQ.out F[k] (List.getElem_mem hlt)
      have hl : (F.take k).length ≤ k := by simp; omega
      generalize F[k] = z at *
      generalize gotF (F.take k) id = n at *
      simp only [Fil.cells, List.getElem?_cons_zero, List.getElem?_cons_succ, Nat.add_zero] at a1 a3
      clear hc1
      by_cases he : z.id = id
      · rw [if_pos he] at hst
        rw [he] at a1
        have HS := Lib.hid hst
        clear hst he
        go_wp2
        all_goals
          go_round
          case measure => simp [intOf]; omega
          case rel => exact ⟨k + 1, by omega, by go_num, by rw [HS.out]⟩
      · rw [if_neg he] at hst
        have HS := Lib.hid hst
        clear hst
        go_wp2
        all_goals
          go_round
          case measure => simp [intOf]; omega
          case rel => exact ⟨k + 1, by omega, by go_num, by rw [HS.out, Int.add_zero]⟩
    · go_wp2
      go_ret
      exact ⟨ret_int (by rw [List.take_of_length_le (by omega)]), rfl⟩
end Go.Proofs.YtjkaeiioofknoaaDoor
