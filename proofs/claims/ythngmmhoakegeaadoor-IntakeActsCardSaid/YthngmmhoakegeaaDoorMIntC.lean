/- The document's intake: what Clear computes. -/
import Derived.Test.YthngmmhoakegeaaDoorMIntW
set_option linter.unusedSimpArgs false
set_option linter.unusedVariables false
namespace Go.Proofs.YthngmmhoakegeaaDoor
open Go.RowKit

section
variable {own : Nat → Nat} {i : Nat} {w : World} {q : Nat} {L : List Ask} {turn : Nat}
theorem mi_end0 (h : MIntAt own i w q L turn) {w3 : World} {v' : Value} {L' : List Ask} (hx : Ex w w3) (hr : RowAt w3 30 8 v' L'.length (flat Ask.cells L')) (hb : ∀ g, v'.ownBlock = some g → w.heap.size ≤ g) (hl : L'.length ≤ 36) :
    ObjTo own i i w (fun o w' => MIntAt o i w' q L' turn) (w3.setCell ⟨q, 0, none⟩ v') := by
  have hq := h.lt
  obtain ⟨h1, h2, v0, h3⟩ := h
  obtain ⟨t, hrow⟩ := h3.main
  have hne : ∀ g, v'.ownBlock = some g → g ≠ q := fun g hg => by have := hb g hg; omega
  have := mi_turn (w4 := w3.setCell ⟨q, 0, none⟩ v') (f' := fun _ => .int .i64 (turn : Int)) h3 hx.below.os hx.below.tape hx.below.output (by simpa [World.setCell] using hx.below.size)
    (fun b hb' e _ => by rw [Below.heap_setCell _ ⟨q, 0, none⟩ _ b (by simpa using e)]; exact hx.below.block b hb')
    ⟨t, ((hrow.of_block (w' := w3) (hx.below.block q hq)).set 0 v').congr fun j hj => by
      have : j = 0 ∨ j = 1 := by omega
      rcases this with rfl | rfl <;> simp⟩
    (hr.of_block fun g hg => Below.heap_setCell _ ⟨q, 0, none⟩ _ g (by simpa using hne g hg))
    (fun g hg => .inr (hb g hg))
  exact ObjTo.of this.1 ⟨h1, hl, v', this.2⟩
set_option maxRecDepth 100000 in
set_option maxHeartbeats 4000000 in
theorem mclear_any (h : MIntAt own i w q L turn) (n : Int) : Calls Tryd.prog 40 #[.pointer (some ⟨q, 0, none⟩), .int .i64 n] w fun e w' => e = .returned (.int .i64 ((ofC L n).length : Nat)) ∧ ObjTo own i i w (fun o w' => MIntAt o i w' q (clearLL L n) turn) w' := by
  obtain ⟨i0, hi0, hz0, hz1, hz2⟩ := info_parts infoAsk'
  obtain ⟨ao, cap, c0, _, hc, hm, h0, hz, hr, _⟩ := h.slice
  have hp := h.lt
  have hb := h.2.1
  have HZ := Lib.hid hz
  have HCL := Lib.hid (clearLL_len L n)
  have HEND := Lib.hid (fun (w3 : World) (v : Value) (hx : Ex w w3) (hr : w3.ownsRow w.heap.size 30 8 v (clearLL L n).length (flat Ask.cells (clearLL L n))) => mi_end0 h hx (rowAt_of_owned hr) (fun g hg => (hr.lt g hg).1) (by have := clearLL_len L n; omega))
  have HFR := Lib.hid (fun (w3 : World) (hx : Ex w w3) => mi_cells (w3 := w3) h c0 (hx.below.block q hp))
  clear h hr h0 hz
  go_enter Tryd.func40, Tryd.ntmps40
  go_wp2_with fail
  go_loopw [5, 6] (fun v i wr => ∃ (k : Nat) (u : Value), u = v ∧ k ≤ L.length ∧ i = .int .i64 (k : Int) ∧ wr.ownsRow w.heap.size 30 8 u (clearLL (L.take k) n).length (flat Ask.cells (clearLL (L.take k) n)) ∧ Ex w wr) (fun _ i _ => L.length - (intOf i).toNat)
  case atStart => exact ⟨0, _, rfl, Nat.zero_le _, rfl, World.ownsRow_nil _ _ _ _, (by repeat (first | exact Ex.refl _ | refine Ex.alloc ?_ _ | refine Ex.ext ?_ _ _ | refine Ex.drew ?_ | refine Ex.drewN ?_ _))⟩
  case round =>
    obtain ⟨k, v, rfl, hk, rfl, hrow, hex⟩ := hrel
    have hsz := hex.below.size
    have HROW := Lib.hid hrow
    have HEX := Lib.hid hex
    have cp : wr.cell? ⟨q, 0, none⟩ = some (.slice ao L.length cap) := (hex.below.cell (p := ⟨q, 0, none⟩) hp).trans c0
    have hpr : q < wr.heap.size := by omega
    by_cases hlt : k < L.length
    · obtain ⟨g, off, rfl, hg, hcc⟩ := HZ.out (by omega)
      have hcx : ∀ j, j < 8 → wr.cell? ⟨g, off + k * 8 + j, none⟩ = L[k].cells[j]? := fun j hj => (hex.below.cell (p := ⟨g, off + k * 8 + j, none⟩) hg).trans (hcc k hlt j hj)
      have hgr : g < wr.heap.size := by omega
      have a0 := hcx 0 (by omega)
      have a1 := hcx 1 (by omega)
      have a2 := hcx 2 (by omega)
      have a3 := hcx 3 (by omega)
      have a4 := hcx 4 (by omega)
      have a5 := hcx 5 (by omega)
      have a6 := hcx 6 (by omega)
      have a7 := hcx 7 (by omega)
      simp only [Ask.cells, List.getElem?_cons_zero, List.getElem?_cons_succ, Nat.add_zero] at a0 a1 a2 a3 a4 a5 a6 a7
      have HSN := Lib.hid (clearTo_succ hlt n)
      have hle := clearLL_len (L.take k) n
      have hle2 : (L.take k).length ≤ 36 := by rw [List.length_take]; omega
      obtain ⟨aov, capv, hv⟩ := row_form (rowAt_of_owned hrow)
      subst hv
      clear hcc hcx hrow hex
      generalize L[k] = x at *
      generalize clearLL (L.take k) n = D at *
      by_cases ho : (x.client != n) = true
      · rw [if_neg (by simpa using ho)] at HSN
        go_wp2_with (at_builtin; refine wpList_append_own _ rfl (.tmp 27) (.tmp 35) 33 rfl w.heap.size 30 i0 _ 8 64 Tryd.underlying33 hi0 hz0 hz1 hz2 rfl (by decide) (.slice aov D.length capv) D.length (flat Ask.cells D) rfl ?_ _ 1 1 x.cells rfl rfl ?_ ?_ (by unfold maxLen; omega) (by omega) ?_ ?_; (focus exact HROW.out.alloc _); (focus exact World.news_of_block (alloc_top (by first | rfl | (simp [ext_size]; done) | (simp [ext_size]; omega)))); (focus simp [Ask.cells, Value.oneCell']); (focus (simp [go_sem, ext_size]; omega)); intro v1 w3 hown hgrow hnil; have HOW := Lib.hid hown; have HGR := Lib.hid hgrow; clear hown hgrow hnil)
        go_roundw
        case measure => simp [intOf]; omega
        case rel => exact ⟨k + 1, _, rfl, by omega, by go_num, by rw [HSN.out, List.length_append, flat_append, flat_one]; exact HOW.out, Ex.of (Below.grown (HEX.out.trans (show Ex wr (wr.alloc (.cells #[.int .u8 x.kind, .int .i64 x.client, .int .i64 x.seq, .int .i64 x.item, .int .i64 x.side, .int .i64 x.price, .int .i64 x.qty, .int .i64 x.id] 30)) from (by repeat (first | exact Ex.refl _ | refine Ex.alloc ?_ _ | refine Ex.ext ?_ _ _ | refine Ex.drew ?_ | refine Ex.drewN ?_ _)))).below HGR.out (by simp [go_sem, ext_size]; omega) (fun j hj => (HROW.out.lt j hj).1))⟩
      · have ho2 : (x.client != n) = false := by simpa using ho
        rw [if_pos (by simpa using ho), List.append_nil] at HSN
        go_wp2_with fail
        go_roundw
        case measure => simp [intOf]; omega
        case rel => exact ⟨k + 1, _, rfl, by omega, by go_num, by rw [HSN.out]; exact HROW.out, HEX.out.trans (by repeat (first | exact Ex.refl _ | refine Ex.alloc ?_ _ | refine Ex.ext ?_ _ _ | refine Ex.drew ?_ | refine Ex.drewN ?_ _))⟩
    · obtain rfl : k = L.length := by omega
      rw [List.take_length] at HROW
      obtain ⟨aov, capv, hv⟩ := row_form (rowAt_of_owned HROW.out)
      subst hv
      have HFIN := Lib.hid (HEND.out _ _ HEX.out HROW.out)
      obtain ⟨f0, _, f2, f3, _⟩ := HFR.out _ HEX.out
      have hcl := HCL.out
      have hm1 : (clearLL L n).length ≤ L.length := by omega
      have hsub : (L.length : Int) - ((clearLL L n).length : Int) = ((ofC L n).length : Int) := by omega
      clear hrow hex cp
      generalize (clearLL L n).length = m1 at *
      have HSUB : Hid (Value.int .i64 ((L.length : Int) - (m1 : Int)) = .int .i64 ((ofC L n).length : Int)) := Lib.hid (by rw [hsub])
      clear hsub hcl
      go_wp2_with fail
      all_goals go_ret
      all_goals exact ⟨congrArg Ending.returned HSUB.out, HFIN.out⟩
end
end Go.Proofs.YthngmmhoakegeaaDoor
