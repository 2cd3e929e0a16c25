/- The document's book: what off computes. -/
import Derived.Test.YtfeeibealokhfaaDoorMAdd
set_option linter.unusedSimpArgs false
set_option linter.unusedVariables false
namespace Go.Proofs.YtfeeibealokhfaaDoor
open Go.RowKit

theorem flat_cells {W : World} {g off : Nat} {m : List Lot} (h : ∀ k (hk : k < m.length) j, j < 5 → W.cell? ⟨g, off + k * 5 + j, none⟩ = m[k].cells[j]?) : ∀ j u, (flat Lot.cells m)[j]? = some u → W.cell? ((⟨g, off, none⟩ : Addr).add j) = some u := by
  intro j u hu
  have hj : j < m.length * 5 := by
    have := (List.getElem?_eq_some_iff.1 hu).1
    rwa [flat_length lotc_len] at this
  have h1 : j / 5 < m.length := by omega
  have e := flat_get lotc_len m (j / 5) h1 (j % 5) (by omega)
  rw [show j / 5 * 5 + j % 5 = j by omega, hu] at e
  rw [addr_add, e]
  have := h (j / 5) h1 (j % 5) (by omega)
  rw [← this]
  congr 2
  omega
theorem off_row {base : Nat} {w : World} {l : List Lot} {k : Nat} {v : Value} (hk : k < l.length) (h : w.ownsRow base 24 5 v (k + (l.length - (k + 1))) (flat Lot.cells (l.take k) ++ flat Lot.cells (l.drop (k + 1)))) : LotsRow base (l.eraseIdx k) v w := by
  unfold LotsRow
  rw [List.length_eraseIdx_of_lt hk, List.eraseIdx_eq_take_drop_succ, flat_append, show l.length - 1 = k + (l.length - (k + 1)) by omega]
  exact h
theorem off_last {base : Nat} {w : World} {l : List Lot} {k : Nat} {v : Value} (hk : l.length = k + 1) (h : w.ownsRow base 24 5 v (k + 0) (flat Lot.cells (l.take k) ++ [])) : LotsRow base (l.eraseIdx k) v w := by
  unfold LotsRow
  rw [List.length_eraseIdx_of_lt (by omega), List.eraseIdx_eq_take_drop_succ, List.drop_of_length_le (by omega), List.append_nil, show l.length - 1 = k + 0 by omega]
  rw [List.append_nil] at h
  exact h
section
variable {own : Nat → Nat} {i : Nat} {w : World} {p : Nat} {l : List Lot}
/-- The object's end where a row of the call's own has come. -/
theorem mset_end (h : BookAt own i w p l) {w3 : World} {v' : Value} {l' : List Lot} (hx : Ex w w3) (hr : LotsRow w.heap.size l' v' w3) (hl : l'.length ≤ 60) (hw : ∀ x ∈ l', x.wf) : ObjTo own i i w (fun o w' => BookAt o i w' p l') (w3.setCell ⟨p, 0, none⟩ v') := by
  obtain ⟨h1, h2, v0, h3⟩ := h
  have := mb_turn h3 (w3 := w3) (v' := v') hx.below.os hx.below.tape hx.below.output hx.below.size (fun b hb _ => hx.below.block b hb) (rowAt_of_owned hr) (fun g hg => .inr (hr.lt g hg).1)
  exact ObjTo.of this.1 ⟨hl, hw, v', this.2⟩
theorem book_block (h : BookAt own i w p l) {v : Value} (hc : w.cell? ⟨p, 0, none⟩ = some v) : v.ownBlock ≠ some p := by
  obtain ⟨_, _, v0, h3⟩ := h
  have := h3.cell0 (by decide)
  rw [hc] at this
  cases this
  exact h3.2.2.2
set_option maxRecDepth 100000 in
set_option maxHeartbeats 4000000 in
theorem moff_any (h : BookAt own i w p l) (k : Nat) (hk : k < l.length) :
    Calls Tryd.prog 79 #[.pointer (some ⟨p, 0, none⟩), .int .i64 (k : Int)] w fun e w' => e = .returned (.tuple #[]) ∧ ObjTo own i i w (fun o w' => BookAt o i w' p (l.eraseIdx k)) w' := by
  obtain ⟨i0, hi0, hz0, hz1, hz2⟩ := info_parts infoLot
  obtain ⟨ao, cap, c0, hc, hm, h0, hl, hr⟩ := h.slice
  have H := Lib.hid h
  have hp := h.lt
  have hb := h.1
  have hcm : cap ≤ 9223372036854775807 := by unfold maxLen at hm; omega
  obtain ⟨_, _, _, hz⟩ := hl
  obtain ⟨g, off, rfl, hg, hcc⟩ := hz (by omega)
  have hC1 := fun (W : World) (hx : Ex w W) => flat_cells (W := W) (g := g) (off := off) (m := l.take k) (fun q hq j hj => by
    rw [List.length_take] at hq
    rw [List.getElem_take]
    exact (hx.below.cell (p := ⟨g, off + q * 5 + j, none⟩) hg).trans (hcc q (by omega) j hj))
  have hC2 := fun (W : World) (hx : Ex w W) => flat_cells (W := W) (g := g) (off := off + (k + 1) * 5) (m := l.drop (k + 1)) (fun q hq j hj => by
    rw [List.length_drop] at hq
    rw [List.getElem_drop]
    have := (hx.below.cell (p := ⟨g, off + (k + 1 + q) * 5 + j, none⟩) hg).trans (hcc (k + 1 + q) (by omega) j hj)
    rw [← this]
    congr 2
    omega)
  have hC1 := Lib.hid hC1
  have hC2 := Lib.hid hC2
  have HT : Hid ((flat Lot.cells (l.take k)).length = k * 5) := Lib.hid (by rw [flat_length lotc_len, List.length_take]; congr 1; omega)
  have HD : Hid ((flat Lot.cells (l.drop (k + 1))).length = (l.length - (k + 1)) * 5) := Lib.hid (by rw [flat_length lotc_len, List.length_drop])
  have HF := Lib.hid (fun (w3 : World) (hx : Ex w w3) => mb_free (w3 := w3) h c0 (hx.below.block p hp))
  have HEND := Lib.hid (fun (w3 : World) (v : Value) (hx : Ex w w3) (hr : LotsRow w.heap.size (l.eraseIdx k) v w3) => mset_end h hx hr (by rw [List.length_eraseIdx_of_lt hk]; omega) (fun x hx => h.2.1 x (List.mem_of_mem_eraseIdx hx)))
  have hk1 : ((k : Int) + 1).toNat = k + 1 := by omega
  clear h hr h0 hz hcc
  by_cases hkc : k + 1 < cap
  · go_enter Tryd.func79, Tryd.ntmps79
    go_wp2_with (first
      | (at_builtin; refine wpList_append_own _ rfl (.tmp 5) (.tmp 11) 52 rfl w.heap.size 24 i0 _ 5 40 Tryd.underlying52 hi0 hz0 hz1 hz2 rfl (by decide) (.slice none 0 0) 0 [] rfl (World.ownsRow_nil _ _ _ _) ⟨g, off, none⟩ k cap (flat Lot.cells (l.take k)) rfl HT.out (hC1.out _ (Ex.refl _)) (lot_one _) (by unfold maxLen; omega) (by omega) (by simp) ?_; intro v1 w1 hown hgrow hnil; rw [Nat.zero_add, List.nil_append] at hown; have HX1 : Hid (Ex w w1) := Lib.hid (Ex.of (Below.grown (Below.refl _ _) hgrow (Nat.le_refl _) (fun b hb => by cases hb))); have HOW := Lib.hid hown; obtain ⟨f1, p1, c1⟩ := HF.out _ HX1.out; obtain ⟨ao1, cap1, rfl⟩ := row_form (rowAt_of_owned hown); clear hown hgrow hnil)
      | (at_builtin; refine wpList_append_own _ rfl (.tmp 14) (.tmp 21) 52 rfl w.heap.size 24 i0 _ 5 40 Tryd.underlying52 hi0 hz0 hz1 hz2 rfl (by decide) (.slice ao1 k cap1) k (flat Lot.cells (l.take k)) rfl HOW.out ⟨g, off + (k + 1) * 5, none⟩ (l.length - (k + 1)) (cap - (k + 1)) (flat Lot.cells (l.drop (k + 1))) rfl HD.out (hC2.out _ HX1.out) (lot_one _) (by unfold maxLen; omega) (by omega) (HX1.out.below.size) ?_; intro v3 w3 hown hgrow hnil; have HX3 : Hid (Ex w w3) := Lib.hid (Ex.of (Below.grown HX1.out.below hgrow HX1.out.below.size (fun b hb => (HOW.out.lt b hb).1))); have HO3 := Lib.hid hown; obtain ⟨f3, p3, c3⟩ := HF.out _ HX3.out; obtain ⟨ao3, cap3, rfl⟩ := row_form (rowAt_of_owned hown); clear hown hgrow hnil))
    all_goals go_end0
    all_goals exact ⟨rfl, HEND.out _ _ HX3.out (off_row hk HO3.out)⟩
  · obtain rfl : cap = k + 1 := by omega
    have hlk : l.length = k + 1 := by omega
    have HLK := Lib.hid hlk
    go_enter Tryd.func79, Tryd.ntmps79
    go_wp2_with (first
      | (at_builtin; refine wpList_append_own _ rfl (.tmp 5) (.tmp 11) 52 rfl w.heap.size 24 i0 _ 5 40 Tryd.underlying52 hi0 hz0 hz1 hz2 rfl (by decide) (.slice none 0 0) 0 [] rfl (World.ownsRow_nil _ _ _ _) ⟨g, off, none⟩ k (k + 1) (flat Lot.cells (l.take k)) rfl HT.out (hC1.out _ (Ex.refl _)) (lot_one _) (by unfold maxLen; omega) (by omega) (by simp) ?_; intro v1 w1 hown hgrow hnil; rw [Nat.zero_add, List.nil_append] at hown; have HX1 : Hid (Ex w w1) := Lib.hid (Ex.of (Below.grown (Below.refl _ _) hgrow (Nat.le_refl _) (fun b hb => by cases hb))); have HOW := Lib.hid hown; obtain ⟨f1, p1, c1⟩ := HF.out _ HX1.out; obtain ⟨ao1, cap1, rfl⟩ := row_form (rowAt_of_owned hown); clear hown hgrow hnil)
      | (at_builtin; refine wpList_append_own _ rfl (.tmp 14) (.tmp 21) 52 rfl w.heap.size 24 i0 _ 5 40 Tryd.underlying52 hi0 hz0 hz1 hz2 rfl (by decide) (.slice ao1 k cap1) k (flat Lot.cells (l.take k)) rfl HOW.out ⟨g, off, none⟩ 0 0 [] rfl rfl (fun j u hu => by simp at hu) (by simp) (by unfold maxLen; omega) (by omega) (HX1.out.below.size) ?_; intro v3 w3 hown hgrow hnil; have HX3 : Hid (Ex w w3) := Lib.hid (Ex.of (Below.grown HX1.out.below hgrow HX1.out.below.size (fun b hb => (HOW.out.lt b hb).1))); have HO3 := Lib.hid hown; obtain ⟨f3, p3, c3⟩ := HF.out _ HX3.out; obtain ⟨ao3, cap3, rfl⟩ := row_form (rowAt_of_owned hown); clear hown hgrow hnil))
    all_goals go_end0
    all_goals exact ⟨rfl, HEND.out _ _ HX3.out (off_last (HLK.out) HO3.out)⟩
end
end Go.Proofs.YtfeeibealokhfaaDoor
