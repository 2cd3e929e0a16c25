/- The document's book: what Take computes where less is taken. -/
import Derived.Test.YtfeeibealokhfaaDoorMTake
set_option linter.unusedSimpArgs false
set_option linter.unusedVariables false
namespace Go.Proofs.YtfeeibealokhfaaDoor
open Go.RowKit

theorem own_open {w : World} {base : Nat} {e : TypeId} {v : Value} {n : Nat} {xs : List Value} (h : w.ownsRow base e 5 v n xs) (hn : 0 < n) : ∃ g cap, v = .slice (some ⟨g, 0, none⟩) n cap ∧ base ≤ g ∧ g < w.heap.size ∧ n ≤ cap ∧ cap ≤ maxLen ∧ ∀ j, j < n * 5 → (∃ u, w.cell? ⟨g, j, none⟩ = some u) ∧ w.frozen? ⟨g, j, none⟩ = false := by
  obtain ⟨h1, ⟨_, h2⟩ | ⟨g, cap, cur, rfl, hb, hg, hc, hm, hs, ht⟩⟩ := h
  · omega
  · refine ⟨g, cap, rfl, hb, (Array.getElem?_eq_some_iff.1 hg).1, hc, hm, fun j hj => ?_⟩
    have := Nat.mul_le_mul_right 5 hc
    refine ⟨⟨cur[j]'(by omega), ?_⟩, by simp [World.frozen?, hg]⟩
    simp [World.cell?, hg]
section
variable {own : Nat → Nat} {i : Nat} {w : World} {p : Nat} {l : List Lot}
set_option maxRecDepth 100000 in
set_option maxHeartbeats 4000000 in
theorem mtake_less (h : BookAt own i w p l) (id qty : Int) (k : Nat) (hk : k < l.length) (hi : idIdx l id = (k : Int)) (hq : 1 ≤ qty) (hq2 : qty < l[k].qty) :
    Calls Tryd.prog 51 #[.pointer (some ⟨p, 0, none⟩), .int .i64 id, .int .i64 qty] w fun e w' => e = .returned (.int .i64 0) ∧ ObjTo own i i w (fun o w' => BookAt o i w' p (l.set k (l[k].less qty))) w' := by
  obtain ⟨i0, hi0, hz0, hz1, hz2⟩ := info_parts infoLot
  have HF := Lib.hid (fun W (hx : Ex w W) => mfind_any (h.later hx) id)
  rw [hi] at HF
  obtain ⟨ao, cap, c0, hc, hm, h0, hl, hr⟩ := h.slice
  have hp := h.lt
  have hb := h.1
  have hwk := h.2.1 l[k] (List.getElem_mem hk)
  have hlw : (l[k].less qty).wf := ⟨hwk.1, hwk.2.1, hwk.2.2.1, hwk.2.2.2.1, by
    have := hwk.2.2.2.2
    simp [Lit.wf, IntKind.min, IntKind.max, IntKind.signed, IntKind.bits] at this
    show (Lit.int .i64 (l[k].qty - qty)).wf = true
    simp [Lit.wf, IntKind.min, IntKind.max, IntKind.signed, IntKind.bits]; omega⟩
  have hqw : -9223372036854775808 ≤ l[k].qty ∧ l[k].qty ≤ 9223372036854775807 := by
    have := hwk.2.2.2.2
    simp [Lit.wf, IntKind.min, IntKind.max, IntKind.signed, IntKind.bits] at this
    omega
  have HEND := Lib.hid (fun (w3 : World) (v : Value) (hx : Ex w w3) (hr : LotsRow w.heap.size (l.set k (l[k].less qty)) v w3) => mset_end h hx hr (by rw [List.length_set]; exact hb) (fun x hx => by
    rcases List.mem_or_eq_of_mem_set hx with hx | rfl
    · exact h.2.1 x hx
    · exact hlw))
  have HFR := Lib.hid (fun (w3 : World) (hx : Ex w w3) => mb_free (w3 := w3) h c0 (hx.below.block p hp))
  have HPUT := Lib.hid (fun (w3 : World) (g cap : Nat) (h : w3.ownsRow w.heap.size 24 5 (.slice (some ⟨g, 0, none⟩) l.length cap) l.length (flat Lot.cells l)) => own_put (l[k].less qty) h rfl hk)
  obtain ⟨_, _, _, hz⟩ := hl
  obtain ⟨g, off, rfl, hg, hcc⟩ := hz (by omega)
  have HT := Lib.hid (flat_length lotc_len l)
  have HC := Lib.hid (fun (W : World) (hx : Ex w W) => flat_cells (W := W) (g := g) (off := off) (m := l) (fun q hq j hj => (hx.below.cell (p := ⟨g, off + q * 5 + j, none⟩) hg).trans (hcc q hq j hj)))
  have hzk := hcc k hk
  have a0 := hzk 0 (by omega)
  have a1 := hzk 1 (by omega)
  have a2 := hzk 2 (by omega)
  have a3 := hzk 3 (by omega)
  have a4 := hzk 4 (by omega)
  simp only [Lot.cells, List.getElem?_cons_zero, List.getElem?_cons_succ, Nat.add_zero] at a0 a1 a2 a3 a4
  generalize l[k] = x at *
  have e1 : (qty == x.qty) = false := by simp; omega
  have k3 : ¬ qty < 1 := by omega
  have k4 : ¬ x.qty < qty := by omega
  clear hz hcc hzk hi h hr h0 hwk hlw
  go_enter Tryd.func51, Tryd.ntmps51
  go_upto_region 13 with (first
    | (go_at_call 53; refine (HF.out _ (by repeat (first | exact Ex.refl _ | refine Ex.alloc ?_ _ | refine Ex.ext ?_ _ _ | refine Ex.drew ?_ | refine Ex.drewN ?_ _))).mono ?_; rintro e w1 ⟨rfl, l1, d1, rfl⟩)
    | (at_builtin; refine wpList_append_own _ rfl (.tmp 42) (.tmp 46) 52 rfl w.heap.size 24 i0 _ 5 40 Tryd.underlying52 hi0 hz0 hz1 hz2 rfl (by decide) (.slice none 0 0) 0 [] rfl (World.ownsRow_nil _ _ _ _) ⟨g, off, none⟩ l.length cap (flat Lot.cells l) rfl HT.out (HC.out _ (by exact (by repeat (first | exact Ex.refl _ | refine Ex.alloc ?_ _ | refine Ex.ext ?_ _ _ | refine Ex.drew ?_ | refine Ex.drewN ?_ _)))) (lot_one _) (by unfold maxLen; omega) (by omega) (by simp [go_sem]; omega) ?_; intro v1 w3 hown hgrow hnil))
  rw [Nat.zero_add, List.nil_append] at hown
  have hx3 : Ex w w3 := Ex.of (Below.grown (Ex.below (by exact (by repeat (first | exact Ex.refl _ | refine Ex.alloc ?_ _ | refine Ex.ext ?_ _ _ | refine Ex.drew ?_ | refine Ex.drewN ?_ _)))) hgrow (by simp [go_sem]; omega) (fun b hb => by cases hb))
  have hbx : w3.heap[w.heap.size + l1.length]? = some (.cells #[.int .i64 x.id, .int .i64 x.owner, .int .i64 x.side, .int .i64 x.price, .int .i64 (x.qty - qty)] 24) := (hgrow.block _ (by simp [go_sem]) (by simp [Value.ownBlock])).trans (alloc_top (by simp [go_sem]))
  have HX3 := Lib.hid hx3
  obtain ⟨g1, cap1, rfl, hg1, hg2, hg3, hg4, hcl⟩ := own_open hown (by omega)
  obtain ⟨f3, p3, c3⟩ := HFR.out _ hx3
  have b0 : w3.cell? ⟨w.heap.size + l1.length, 0, none⟩ = some (.int .i64 x.id) := by simp [World.cell?, hbx]
  have b1 : w3.cell? ⟨w.heap.size + l1.length, 1, none⟩ = some (.int .i64 x.owner) := by simp [World.cell?, hbx]
  have b2 : w3.cell? ⟨w.heap.size + l1.length, 2, none⟩ = some (.int .i64 x.side) := by simp [World.cell?, hbx]
  have b3 : w3.cell? ⟨w.heap.size + l1.length, 3, none⟩ = some (.int .i64 x.price) := by simp [World.cell?, hbx]
  have b4 : w3.cell? ⟨w.heap.size + l1.length, 4, none⟩ = some (.int .i64 (x.qty - qty)) := by simp [World.cell?, hbx]
  obtain ⟨⟨u0, y0⟩, z0⟩ := hcl (k * 5) (by omega)
  obtain ⟨⟨u1, y1⟩, z1⟩ := hcl (k * 5 + 1) (by omega)
  obtain ⟨⟨u2, y2⟩, z2⟩ := hcl (k * 5 + 2) (by omega)
  obtain ⟨⟨u3, y3⟩, z3⟩ := hcl (k * 5 + 3) (by omega)
  obtain ⟨⟨u4, y4⟩, z4⟩ := hcl (k * 5 + 4) (by omega)
  have hpg : p ≠ g1 := by omega
  have HFIN := Lib.hid (HEND.out _ _ (Ex.of ((((((hx3.below.setCell (p := ⟨g1, k * 5, none⟩) (by exact hg1) (.int .i64 x.id)).setCell (p := ⟨g1, k * 5 + 1, none⟩) (by exact hg1) (.int .i64 x.owner)).setCell (p := ⟨g1, k * 5 + 2, none⟩) (by exact hg1) (.int .i64 x.side)).setCell (p := ⟨g1, k * 5 + 3, none⟩) (by exact hg1) (.int .i64 x.price)).setCell (p := ⟨g1, k * 5 + 4, none⟩) (by exact hg1) (.int .i64 (x.qty - qty))))) (by
    have := HPUT.out _ _ _ hown
    unfold LotsRow
    rw [List.length_set]
    exact this))
  clear hbx hcl hown hgrow hnil hx3 HPUT HEND
  go_wp2_with fail
  all_goals go_ret
  all_goals exact ⟨rfl, HFIN.out⟩
theorem mtake_any (h : BookAt own i w p l) (id qty : Int) :
    Calls Tryd.prog 51 #[.pointer (some ⟨p, 0, none⟩), .int .i64 id, .int .i64 qty] w fun e w' => e = .returned (.int .i64 ((takeR l id qty).1 : Int)) ∧ ObjTo own i i w (fun o w' => BookAt o i w' p (takeR l id qty).2) w' := by
  rcases idIdx_cases l id with ⟨k, hk, hi, _, hf⟩ | ⟨hi, _⟩
  · have e : takeR l id qty = if qty < 1 ∨ l[k].qty < qty then (2, l) else if qty = l[k].qty then (0, l.eraseIdx k) else (0, l.set k (l[k].less qty)) := by
      unfold takeR
      rw [hf]
      simp only [List.getElem?_eq_getElem hk]
    rw [e]
    by_cases h1 : qty < 1 ∨ l[k].qty < qty
    · rw [if_pos h1]; exact mtake_bound h id qty k hk hi h1
    · rw [if_neg h1]
      by_cases h2 : qty = l[k].qty
      · rw [if_pos h2]; exact mtake_all h id qty k hk hi (by omega) h2
      · rw [if_neg h2]; exact mtake_less h id qty k hk hi (by omega) (by omega)
  · have e : takeR l id qty = (6, l) := by unfold takeR; rw [find_none hi]
    rw [e]
    exact mtake_none h id qty hi
end
end Go.Proofs.YtfeeibealokhfaaDoor
