/- The document's book: what Find and Add compute. -/
import Derived.Test.YtfeeibealokhfaaDoorBAny
import Derived.Test.YtfeeibealokhfaaDoorAppK
import Derived.Test.YtfeeibealokhfaaDoorLotErr
import Derived.Deep.RegionLaw
set_option linter.unusedSimpArgs false
set_option linter.unusedVariables false
namespace Go.Proofs.YtfeeibealokhfaaDoor
open Go.RowKit

theorem rowAt_of_owned {w : World} {base : Nat} {e : TypeId} {size : Nat} {v : Value} {n : Nat} {xs : List Value} (h : w.ownsRow base e size v n xs) : RowAt w e size v n xs := by
  obtain ⟨h1, h2 | ⟨g, cap, cur, rfl, hg, hh, hc, hm, hs, ht⟩⟩ := h
  · exact ⟨h1, .inl h2⟩
  · exact ⟨h1, .inr ⟨g, 0, cap, cur, rfl, ⟨(0, 0), hh, Unmarked.plain _⟩, hc, hm, by rw [Nat.zero_add, hs]; exact Nat.le_refl _, by rw [List.drop_zero]; exact ht⟩⟩
theorem row_form {w : World} {e : TypeId} {size : Nat} {v : Value} {n : Nat} {xs : List Value} (h : RowAt w e size v n xs) : ∃ ao cap, v = .slice ao n cap := by
  obtain ⟨_, ⟨rfl, h2⟩ | ⟨g, off, cap, cur, rfl, _⟩⟩ := h
  · exact ⟨none, 0, by rw [h2]⟩
  · exact ⟨_, _, rfl⟩
section
variable {own : Nat → Nat} {i : Nat} {w : World} {p : Nat} {l : List Lot}
/-- The object where its own row, and then its cell, have turned. -/
theorem mb_turn {e : TypeId} {v : Value} {n : Nat} {xs : List Value} (h3 : OneAt own i w p 1 (fun _ => .nilIface) e 5 v n xs) {w3 : World} {v' : Value} {n' : Nat} {xs' : List Value} (h1 : w3.os = w.os) (h2 : w3.tape = w.tape) (h4 : w3.output = w.output) (h5 : w.heap.size ≤ w3.heap.size)
    (hk : ∀ b, b < w.heap.size → v.ownBlock ≠ some b → w3.heap[b]? = w.heap[b]?) (hv : RowAt w3 e 5 v' n' xs') (hb : ∀ g, v'.ownBlock = some g → v.ownBlock = some g ∨ w.heap.size ≤ g) :
    Kp own 1 i w (w3.setCell ⟨p, 0, none⟩ v') ∧ OneAt (lab own w.heap.size ((w3.setCell ⟨p, 0, none⟩ v').heap.size - w.heap.size) i) i (w3.setCell ⟨p, 0, none⟩ v') p 1 (fun _ => .nilIface) e 5 v' n' xs' := by
  have hp := h3.lt
  have hpb := h3.2.2.2
  obtain ⟨o, g1, g2, g3, g4⟩ := h3.pick
  obtain ⟨t, hrow⟩ := h3.main
  have hne : ∀ g, v'.ownBlock = some g → g ≠ p := fun g hg e => by
    rcases hb g hg with h | h
    · exact hpb (e ▸ h)
    · omega
  have hK : Kp o 2 1 w (w3.setCell ⟨p, 0, none⟩ v') := ⟨h1, h2, h4, by simpa [World.setCell] using h5, fun b hb' hlab => by
    have e1 : b ≠ p := fun e => hlab (by rw [e, g2])
    have e2 : v.ownBlock ≠ some b := fun e => hlab (by rw [g1.2 b e])
    rw [Below.heap_setCell w3 ⟨p, 0, none⟩ v' b (by simpa using e1)]
    exact hk b hb' e2⟩
  refine h3.turned (n' := n') (xs' := xs') g2 g4 hK ⟨t, ?_⟩ (hv.of_block fun g hg => Below.heap_setCell _ _ _ _ (by simpa using hne g hg)) (fun g hg => ?_)
  · have := (hrow.of_block (w' := w3) (hk p hp hpb)).set 0 v'
    exact this.congr fun j hj => by
      obtain rfl : j = 0 := by omega
      simp
  · rcases hb g hg with h | h
    · exact .inl (g1.2 g h)
    · exact .inr h
theorem mb_free {w3 : World} (h : BookAt own i w p l) {v : Value} (hc : w.cell? ⟨p, 0, none⟩ = some v) (hk : w3.heap[p]? = w.heap[p]?) : w3.frozen? ⟨p, 0, none⟩ = false ∧ p < w3.heap.size ∧ w3.cell? ⟨p, 0, none⟩ = some v := by
  obtain ⟨_, _, v, h3⟩ := h
  obtain ⟨t, hrow⟩ := h3.main
  have := hrow.of_block (w' := w3) hk
  exact ⟨this.frozen 0, this.lt, (World.cell?_of_block (w := w) (w' := w3) hk).trans hc⟩
set_option maxRecDepth 100000 in
theorem mfind_any (h : BookAt own i w p l) (id : Int) : Calls Tryd.prog 53 #[.pointer (some ⟨p, 0, none⟩), .int .i64 id] w fun e w' => e = .returned (.int .i64 (idIdx l id)) ∧ Ex w w' := by
  obtain ⟨ao, cap, c0, hc, hm, h0, hl, hr⟩ := h.slice
  have hp := h.lt
  have hb := h.1
  obtain ⟨_, _, _, hz⟩ := hl
  have HZ := Lib.hid hz
  clear h hr h0 hz
  go_enter Tryd.func53, Tryd.ntmps53
  go_wp2_with fail
  go_loopw [5] (fun i wr => ∃ (k : Nat), k ≤ l.length ∧ i = .int .i64 (k : Int) ∧ (∀ x ∈ l.take k, x.id ≠ id) ∧ Ex w wr) (fun i _ => l.length - (intOf i).toNat)
  case atStart => exact ⟨0, Nat.zero_le _, rfl, fun x hx => by simp at hx, Ex.refl _⟩
  case round =>
    obtain ⟨k, hk, rfl, hno, l1, d1, rfl⟩ := hrel
    have HNO := Lib.hid hno
    clear hno
    by_cases hlt : k < l.length
    · obtain ⟨g, off, rfl, hg, hcc⟩ := HZ.out (by omega)
      have a0 := hcc k hlt 0 (by omega)
      simp only [Lot.cells, List.getElem?_cons_zero, Nat.add_zero] at a0
      by_cases he : l[k].id = id
      · have HI : Hid (idIdx l id = (k : Int)) := Lib.hid (by
          unfold idIdx
          have : l.findIdx? (fun y => y.id == id) = some k := by
            rw [List.findIdx?_eq_some_iff_getElem]
            refine ⟨hlt, by simp [he], fun j hj => ?_⟩
            have := HNO.out l[j] (List.mem_iff_getElem.2 ⟨j, by rw [List.length_take]; omega, by rw [List.getElem_take]⟩)
            simpa using this
          rw [this])
        have e1 : (l[k].id == id) = true := by simp [he]
        clear he hcc
        generalize l[k] = x at *
        go_wp2_with fail
        all_goals go_ret
        all_goals exact ⟨by rw [HI.out]; rfl, (by repeat (first | exact Ex.refl _ | refine Ex.alloc ?_ _ | refine Ex.ext ?_ _ _ | refine Ex.drew ?_ | refine Ex.drewN ?_ _))⟩
      · have e1 : (l[k].id == id) = false := by simpa using he
        have HNN : Hid (∀ x ∈ l.take (k + 1), x.id ≠ id) := Lib.hid (fun x hx => by
          rw [List.take_succ_eq_append_getElem hlt, List.mem_append, List.mem_singleton] at hx
          rcases hx with hx | rfl
          · exact HNO.out x hx
          · exact he)
        clear he hcc
        generalize l[k] = x at *
        go_wp2_with fail
        all_goals
          go_roundw
          case measure => simp [intOf]; omega
          case rel => exact ⟨k + 1, by omega, by go_num, HNN.out, (by repeat (first | exact Ex.refl _ | refine Ex.alloc ?_ _ | refine Ex.ext ?_ _ _ | refine Ex.drew ?_ | refine Ex.drewN ?_ _))⟩
    · obtain rfl : k = l.length := by omega
      have HI : Hid (idIdx l id = -1) := Lib.hid (by
        unfold idIdx
        have : l.findIdx? (fun y => y.id == id) = none := by
          rw [List.findIdx?_eq_none_iff]
          intro x hx
          have := HNO.out x (by rw [List.take_length]; exact hx)
          simpa using this
        rw [this])
      go_wp2_with fail
      all_goals go_ret
      all_goals exact ⟨by rw [HI.out]; rfl, (by repeat (first | exact Ex.refl _ | refine Ex.alloc ?_ _ | refine Ex.ext ?_ _ _ | refine Ex.drew ?_ | refine Ex.drewN ?_ _))⟩
/-- The object's end where its own row has grown. -/
theorem madd_end (h : BookAt own i w p l) {v : Value} (hc : w.cell? ⟨p, 0, none⟩ = some v) (x : Lot) (hx : x.wf) (hf : l.length < 60) {W w3 : World} {v' : Value} (hW : Ex w W) (hr : RowAt w3 24 5 v' (l.length + 1) (flat Lot.cells l ++ x.cells)) (hg : W.grownBy w3 v.ownBlock) (hb : v'.ownBlock = v.ownBlock ∨ v'.ownBlock = some W.heap.size) :
    ObjTo own i i w (fun o w' => BookAt o i w' p (l ++ [x])) (w3.setCell ⟨p, 0, none⟩ v') := by
  obtain ⟨h1, h2, v0, h3⟩ := h
  obtain rfl : v0 = v := Option.some.inj ((h3.cell0 (by decide)).symm.trans hc)
  have hs := hW.below.size
  have hs3 := hg.size
  have hlt := h3.2.1.1.lt
  have := mb_turn h3 (w3 := w3) (v' := v') (n' := (l ++ [x]).length) (xs' := flat Lot.cells (l ++ [x])) (hg.os.trans hW.below.os) (hg.tape.trans hW.below.tape) (hg.output.trans hW.below.output) (by omega) (fun b hb' hne => (hg.block b (by omega) (fun e => hne e.symm)).trans (hW.below.block b hb'))
    (by rw [show (l ++ [x]).length = l.length + 1 by simp, show flat Lot.cells (l ++ [x]) = flat Lot.cells l ++ x.cells by rw [flat_append, flat_one]]; exact hr) (fun g hgb => by
      rcases hb with e | e
      · exact .inl (e ▸ hgb)
      · rw [hgb] at e; exact .inr (by have := Option.some.inj e; omega))
  refine ObjTo.of this.1 ⟨by simp; omega, fun y hy => ?_, v', this.2⟩
  rw [List.mem_append, List.mem_singleton] at hy
  rcases hy with hy | rfl
  · exact h2 y hy
  · exact hx
end
end Go.Proofs.YtfeeibealokhfaaDoor
