/- What write of a disk computes. -/
import Derived.Test.YtfeeibealokhfaaDoorTape3
import Derived.Test.YtfeeibealokhfaaDoorLow
import Derived.Deep.RegionLaw
set_option linter.unusedSimpArgs false
set_option linter.unusedVariables false
namespace Go.Proofs.YtfeeibealokhfaaDoor
open Go.RowKit

theorem infoU8 : (Tryd.prog.info? 5).map (fun i => (i.zero, i.size, i.bytes)) = some (some (.int .u8 0), 1, 1) := by kernel_rfl
def wrE (d : Dk) (r : List UInt8) : Nat := if d.off then 9 else if 0 ≤ d.cut ∧ d.cut < (r.length : Int) then 9 else 0
def wrD (d : Dk) (r : List UInt8) : Dk := if d.off then d else if 0 ≤ d.cut ∧ d.cut < (r.length : Int) then ⟨d.b ++ r.take d.cut.toNat, true, d.cut⟩ else ⟨d.b ++ r, false, if 0 ≤ d.cut then d.cut - (r.length : Int) else d.cut⟩
section
variable {own : Nat → Nat} {i : Nat} {w : World} {p : Nat} {d : Dk}
theorem disk_end {o : Nat → Nat} {v v' : Value} {W1 W' u : World} {k : Nat} {x : List UInt8} {d' : Dk} (h3 : OneAt own i w p 3 (dkF d) 5 1 v d.b.length (byteC d.b)) (g2 : o p = 3) (g4 : ∀ n, o n / 2 = 1 → own n = i) (hs : w.heap.size ≤ W1.heap.size) (hK : Kp o 2 1 w W')
    (hp : ∀ g, g ≠ p → W'.heap[g]? = (ov W1 o 1 2 k u).heap[g]?) (hrow : ∃ t, W'.rowIs p t 3 (fun j => if j = 0 then v' else dkF d' j)) (hv : OwnRow (lab o W1.heap.size k 2) 2 (ov W1 o 1 2 k u) 5 1 v' (d.b.length + x.length) (byteC d.b ++ byteC x))
    (hb : d'.b = d.b ++ x) (hl : d'.b.length ≤ 1048576) (hcut : -1 ≤ d'.cut ∧ d'.cut ≤ 9223372036854775807) : ObjTo own i i w (fun o w' => DiskAt o i w' p d') W' := by
  rw [← List.length_append, ← byteC_append, ← hb] at hv
  obtain ⟨k1, k2⟩ := h3.appEnd g2 g4 hs hK hp hrow hv
  exact ObjTo.of k1 ⟨hl, hcut, v', k2⟩
set_option maxRecDepth 100000 in
theorem write_off (h : DiskAt own i w p d) (r : List UInt8) (E : Nat → Addr) (hE : Errs E [9] w) (ho : d.off = true) :
    Calls Tryd.prog 65 #[.pointer (some ⟨p, 0, none⟩), .string ⟨r.toArray⟩] w fun e w' => e = .returned (errV E 9) ∧ ObjTo own i i w (fun o w' => DiskAt o i w' p d) w' := by
  have e9 : w.cell? ⟨6, 0, none⟩ = some (.iface 199 (.pointer (some (E 9)))) := hE 9 (by decide)
  have b9 : 6 < w.heap.size := lt_of_cell e9
  have c1 := h.off
  have hp := h.lt
  rw [ho] at c1
  have H := Lib.hid (h.keep (Ex.refl w))
  rw [errV_pos _ _ (by decide)]
  clear h hE ho
  go_enter Tryd.func65, Tryd.ntmps65
  go_wp2_with fail
  all_goals go_ret
  all_goals exact ⟨rfl, H.out⟩
set_option maxRecDepth 100000 in
set_option maxHeartbeats 1000000 in
theorem write_all (h : DiskAt own i w p d) (r : List UInt8) (hfit : d.b.length + r.length ≤ 1048576) (ho : d.off = false) (hc : d.cut < 0) :
    Calls Tryd.prog 65 #[.pointer (some ⟨p, 0, none⟩), .string ⟨r.toArray⟩] w fun e w' => e = .returned .nilIface ∧ ObjTo own i i w (fun o w' => DiskAt o i w' p ⟨d.b ++ r, false, d.cut⟩) w' := by
  have c1 := h.off
  have c2 := h.cut
  have f0 := h.free 0
  have f2 := h.free 2
  have hp := h.lt
  have zr := bytes_size r
  have H := Lib.hid h
  obtain ⟨h1, h2, v, h3⟩ := h
  obtain ⟨o, g1, g2, g3, g4⟩ := h3.pick
  obtain ⟨t, hrow⟩ := h3.main
  obtain ⟨ao, cap, rfl, hcap, _⟩ := h3.2.1.form
  have c0 := h3.cell0 (by decide)
  obtain ⟨i0, hi0, hz0, hz1, hz2⟩ := info_parts infoU8
  have H3 := Lib.hid h3
  have HROW := Lib.hid hrow
  have HO := Lib.hid ho
  have HB := Lib.hid h2
  rw [ho] at c1
  have d1 : decide (0 ≤ d.cut) = false := decide_eq_false (by omega)
  clear h3 hrow ho h2
  go_enter Tryd.func65, Tryd.ntmps65
  go_wp2_with (at_builtin; refine wpList_append_lab (own := o) (j := 2) rfl (.tmp 60) (.tmp 61) 119 9 rfl 5 i0 _ 1 1 Tryd.underlying119 hi0 hz0 hz1 hz2 rfl (.slice ao d.b.length cap) (.string ⟨r.toArray⟩) d.b.length r.length (byteC d.b) (byteC r) rfl rfl g1 ?_ (by unfold maxLen; omega) (by omega) ?_; (focus (have hs := Src.ofString (P := Tryd.prog) w Tryd.underlying9 ⟨r.toArray⟩; rw [zr, bytes_cells] at hs; exact hs)); intro v' k' u hv' hnil; obtain ⟨ao', cap', rfl, hcap', _⟩ := hv'.form)
  all_goals go_ret
  have e := ov_set_lt w o 1 2 k' u p 0 (.slice ao' (d.b.length + r.length) cap') hp (by rw [g2]; decide)
  refine ⟨rfl, disk_end (W1 := w) (k := k') (u := u) (x := r) (v' := .slice ao' (d.b.length + r.length) cap') H3.out g2 g4 (Nat.le_refl _) (grown_kp k' u ((Kp.refl _ _ _ _).setCell (fun _ => by rw [g2]) _)) (fun g hg => by rw [← e]; exact Below.heap_setCell _ _ _ _ hg) ⟨t, ?_⟩ hv' rfl (by simp; omega) HB.out⟩
  refine rowIs_ov ((HROW.out.set 0 _).congr fun j hj => ?_) _ _ _ _ _ (by rw [g2]; decide)
  have : j = 0 ∨ j = 1 ∨ j = 2 := by omega
  rcases this with rfl | rfl | rfl <;> simp [dkF, HO.out]
set_option maxRecDepth 100000 in
set_option maxHeartbeats 1000000 in
theorem write_rest (h : DiskAt own i w p d) (r : List UInt8) (hfit : d.b.length + r.length ≤ 1048576) (ho : d.off = false) (hc : (r.length : Int) ≤ d.cut) :
    Calls Tryd.prog 65 #[.pointer (some ⟨p, 0, none⟩), .string ⟨r.toArray⟩] w fun e w' => e = .returned .nilIface ∧ ObjTo own i i w (fun o w' => DiskAt o i w' p ⟨d.b ++ r, false, d.cut - (r.length : Int)⟩) w' := by
  have c1 := h.off
  have c2 := h.cut
  have f0 := h.free 0
  have f1 := h.free 1
  have f2 := h.free 2
  have hp := h.lt
  have zr := bytes_size r
  obtain ⟨h1, h2, v, h3⟩ := h
  obtain ⟨o, g1, g2, g3, g4⟩ := h3.pick
  obtain ⟨t, hrow⟩ := h3.main
  obtain ⟨ao, cap, rfl, hcap, _⟩ := h3.2.1.form
  have c0 := h3.cell0 (by decide)
  obtain ⟨i0, hi0, hz0, hz1, hz2⟩ := info_parts infoU8
  have H3 := Lib.hid h3
  have HROW := Lib.hid hrow
  have HO := Lib.hid ho
  have HB := Lib.hid h2
  rw [ho] at c1
  have d1 : decide (0 ≤ d.cut) = true := decide_eq_true (by omega)
  have d2 : decide (d.cut < (r.length : Int)) = false := decide_eq_false (by omega)
  have hw : IntKind.i64.wrap (d.cut - (r.length : Int)) = d.cut - (r.length : Int) := IntWalk.i64_in _ (by omega)
  have HC : Hid (-1 ≤ d.cut - (r.length : Int) ∧ d.cut - (r.length : Int) ≤ 9223372036854775807) := Lib.hid (by omega)
  have hk1 : Kp o 2 1 w (w.setCell ⟨p, 2, none⟩ (.int .i64 (d.cut - (r.length : Int)))) := (Kp.refl _ _ _ _).setCell (fun _ => by rw [g2]) _
  have hr1 : OwnRow o 2 (w.setCell ⟨p, 2, none⟩ (.int .i64 (d.cut - (r.length : Int)))) 5 1 (.slice ao d.b.length cap) d.b.length (byteC d.b) := g1.setCell (by rw [g2]; decide) _
  have hq1 := HROW.out.set 2 (.int .i64 (d.cut - (r.length : Int)))
  have hs1 : (w.setCell ⟨p, 2, none⟩ (.int .i64 (d.cut - (r.length : Int)))).heap.size = w.heap.size := by simp [go_sem]
  have HK1 := Lib.hid hk1
  have HR1 := Lib.hid hr1
  have HQ1 := Lib.hid hq1
  clear h3 hrow ho h2 hk1 hr1 hq1
  go_enter Tryd.func65, Tryd.ntmps65
  go_wp2_with (at_builtin; refine wpList_append_lab (own := o) (j := 2) rfl (.tmp 60) (.tmp 61) 119 9 rfl 5 i0 _ 1 1 Tryd.underlying119 hi0 hz0 hz1 hz2 rfl (.slice ao d.b.length cap) (.string ⟨r.toArray⟩) d.b.length r.length (byteC d.b) (byteC r) rfl rfl HR1.out ?_ (by unfold maxLen; omega) (by omega) ?_; (focus (have hs := Src.ofString (P := Tryd.prog) (w.setCell ⟨p, 2, none⟩ (.int .i64 (d.cut - (r.length : Int)))) Tryd.underlying9 ⟨r.toArray⟩; rw [zr, bytes_cells] at hs; exact hs)); intro v' k' u hv' hnil; obtain ⟨ao', cap', rfl, hcap', _⟩ := hv'.form)
  all_goals go_ret
  have e := ov_set_lt (w.setCell ⟨p, 2, none⟩ (.int .i64 (d.cut - (r.length : Int)))) o 1 2 k' u p 0 (.slice ao' (d.b.length + r.length) cap') (by rw [hs1]; exact hp) (by rw [g2]; decide)
  refine ⟨rfl, disk_end (W1 := w.setCell ⟨p, 2, none⟩ (.int .i64 (d.cut - (r.length : Int)))) (k := k') (u := u) (x := r) (v' := .slice ao' (d.b.length + r.length) cap') H3.out g2 g4 (Nat.le_of_eq hs1.symm) (grown_kp k' u (HK1.out.setCell (fun _ => by rw [g2]) _)) (fun g hg => by rw [← e]; exact Below.heap_setCell _ _ _ _ hg) ⟨t, ?_⟩ hv' rfl (by simp; omega) HC.out⟩
  refine rowIs_ov ((HQ1.out.set 0 _).congr fun j hj => ?_) _ _ _ _ _ (by rw [g2]; decide)
  have : j = 0 ∨ j = 1 ∨ j = 2 := by omega
  rcases this with rfl | rfl | rfl <;> simp [dkF, HO.out]
set_option maxRecDepth 100000 in
set_option maxHeartbeats 2000000 in
theorem write_cut (h : DiskAt own i w p d) (r : List UInt8) (E : Nat → Addr) (hE : Errs E [9] w) (hfit : d.b.length + r.length ≤ 1048576) (ho : d.off = false) (c : Nat) (hdc : d.cut = (c : Int)) (hc : c < r.length) (hg : own (gOf 9) ≠ i) :
    Calls Tryd.prog 65 #[.pointer (some ⟨p, 0, none⟩), .string ⟨r.toArray⟩] w fun e w' => e = .returned (errV E 9) ∧ ObjTo own i i w (fun o w' => DiskAt o i w' p ⟨d.b ++ r.take c, true, d.cut⟩) w' := by
  have e9 : w.cell? ⟨6, 0, none⟩ = some (.iface 199 (.pointer (some (E 9)))) := hE 9 (by decide)
  have b9 : 6 < w.heap.size := lt_of_cell e9
  have c1 := h.off
  have c2 := h.cut
  have f0 := h.free 0
  have f1 := h.free 1
  have f2 := h.free 2
  have hp := h.lt
  have zr := bytes_size r
  obtain ⟨h1, h2, v, h3⟩ := h
  obtain ⟨o, g1, g2, g3, g4⟩ := h3.pick
  obtain ⟨t, hrow⟩ := h3.main
  obtain ⟨ao, cap, rfl, hcap, _⟩ := h3.2.1.form
  have c0 := h3.cell0 (by decide)
  obtain ⟨i0, hi0, hz0, hz1, hz2⟩ := info_parts infoU8
  have H3 := Lib.hid h3
  have HROW := Lib.hid hrow
  have HO := Lib.hid ho
  have HB := Lib.hid h2
  rw [ho] at c1
  rw [hdc] at c2
  have hg9 : ¬ o 6 = 2 := fun e => hg (g4 6 (by rw [e]))
  have hgp : ¬ 6 = p := fun e => hg (g4 6 (by rw [e, g2]))
  have d1 : decide (0 ≤ (c : Int)) = true := decide_eq_true (by omega)
  have d2 : decide ((c : Int) < (r.length : Int)) = true := decide_eq_true (by omega)
  have c3 : (c : Int) ≤ (r.length : Int) := by omega
  have c4 : (0 : Int) ≤ (c : Int) := by omega
  have ht := bytes_head r c
  have htl : (r.take c).length = c := by rw [List.length_take]; omega
  rw [errV_pos _ _ (by decide)]
  clear h3 hrow ho h2 hE
  go_enter Tryd.func65, Tryd.ntmps65
  go_wp2_with fail
  go_region_law
    (((refine step_append_lab (own := o) (j := 2) ?_ (.tmp 28) (.tmp 34) 119 9 ?_ 5 i0 _ 1 1 Tryd.underlying119 hi0 hz0 hz1 hz2 ?_ (.slice ao d.b.length cap) (.string ⟨(r.take c).toArray⟩) d.b.length c (byteC d.b) (byteC (r.take c)) ?_ ?_ ?_ ?_ ?_ ?_ ?_); (focus rfl); (focus rfl); (focus rfl); (focus rfl); (focus rfl); (focus exact (by repeat (first | exact g1 | (refine OwnRow.alloc ?_ _) | (refine OwnRow.drew ?_) | (refine OwnRow.drewN ?_ _) | (refine OwnRow.exts ?_ _ _)))); (focus (have hs := fun w => Src.ofString (P := Tryd.prog) w Tryd.underlying9 ⟨(r.take c).toArray⟩; rw [bytes_size, htl, bytes_cells] at hs; exact hs _)); (focus (unfold maxLen; omega)); (focus omega); intro v' k' u hv' hnil; obtain ⟨ao', cap', rfl, hcap', _⟩ := hv'.form))
  all_goals go_wp2_with fail
  all_goals go_ret
  all_goals
    have e0 := ov_set_lt w.drew o 1 2 k' u p 0 (.slice ao' (d.b.length + c) cap') hp (by rw [g2]; decide)
    have e1 := ov_set_lt (w.drew.setCell ⟨p, 0, none⟩ (.slice ao' (d.b.length + c) cap')) o 1 2 k' u p 1 (.bool true) (by simp [go_sem]; exact hp) (by rw [g2]; decide)
    refine ⟨rfl, disk_end (W1 := w.drew) (k := k') (u := u) (x := r.take c) (v' := .slice ao' (d.b.length + c) cap') H3.out g2 g4 (Nat.le_refl _) (grown_kp k' u (((Kp.refl _ _ _ _).setCell (fun _ => by rw [g2]) _).setCell (fun _ => by rw [g2]) _).drew) (fun g hg => ?_) ⟨t, ?_⟩ (by rw [htl]; exact hv') rfl (by simp; omega) HB.out⟩
    · show (ov ((w.drew.setCell ⟨p, 0, none⟩ (.slice ao' (d.b.length + c) cap')).setCell ⟨p, 1, none⟩ (.bool true)) o 1 2 k' u).heap[g]? = _
      rw [← e1, ← e0]
      exact (Below.heap_setCell _ _ _ _ hg).trans (Below.heap_setCell _ _ _ _ hg)
    · refine rowIs_ov (show World.rowIs ((w.setCell ⟨p, 0, none⟩ (.slice ao' (d.b.length + c) cap')).setCell ⟨p, 1, none⟩ (.bool true)) _ _ _ _ from ((HROW.out.set 0 _).set 1 _).congr fun j hj => ?_) _ _ _ _ _ (by rw [g2]; decide)
      have : j = 0 ∨ j = 1 ∨ j = 2 := by omega
      rcases this with rfl | rfl | rfl <;> simp [dkF]
theorem write_any (h : DiskAt own i w p d) (r : List UInt8) (E : Nat → Addr) (hE : Errs E [9] w) (hg : own (gOf 9) ≠ i) (hfit : d.b.length + r.length ≤ 1048576) :
    Calls Tryd.prog 65 #[.pointer (some ⟨p, 0, none⟩), .string ⟨r.toArray⟩] w fun e w' => e = .returned (errV E (wrE d r)) ∧ ObjTo own i i w (fun o w' => DiskAt o i w' p (wrD d r)) w' := by
  have hb := h.2.1
  cases ho : d.off with
  | true =>
    rw [show wrE d r = 9 by unfold wrE; rw [if_pos ho], show wrD d r = d by unfold wrD; rw [if_pos ho]]
    exact write_off h r E hE ho
  | false =>
    have n0 : ¬ (d.off = true) := by rw [ho]; decide
    by_cases hc : d.cut < 0
    · rw [show wrE d r = 0 by unfold wrE; rw [if_neg n0, if_neg (by omega)], show wrD d r = ⟨d.b ++ r, false, d.cut⟩ by unfold wrD; rw [if_neg n0, if_neg (by omega), if_neg (by omega)]]
      exact write_all h r hfit ho hc
    · by_cases hl : d.cut < (r.length : Int)
      · rw [show wrE d r = 9 by unfold wrE; rw [if_neg n0, if_pos (by omega)], show wrD d r = ⟨d.b ++ r.take d.cut.toNat, true, d.cut⟩ by unfold wrD; rw [if_neg n0, if_pos (by omega)]]
        exact write_cut h r E hE hfit ho d.cut.toNat (by omega) (by omega) hg
      · rw [show wrE d r = 0 by unfold wrE; rw [if_neg n0, if_neg (by omega)], show wrD d r = ⟨d.b ++ r, false, d.cut - (r.length : Int)⟩ by unfold wrD; rw [if_neg n0, if_neg (by omega), if_pos (by omega)]]
        exact write_rest h r hfit ho (by omega)
end
end Go.Proofs.YtfeeibealokhfaaDoor
