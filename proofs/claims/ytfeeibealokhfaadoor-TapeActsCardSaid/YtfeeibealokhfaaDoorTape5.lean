/- What Append and Recover of package tape compute. -/
import Derived.Test.YtfeeibealokhfaaDoorTape4
set_option linter.unusedSimpArgs false
set_option linter.unusedVariables false
namespace Go.Proofs.YtfeeibealokhfaaDoor
open Go.RowKit

section
variable {own : Nat → Nat} {i : Nat} {w : World} {p : Nat} {d : Dk}
theorem app_is (d : Dk) (s : List UInt8) (h1 : ¬ 10000 < s.length) (h2 : ¬ 1048576 < d.b.length + (s.length + 12)) : d.appE s = wrE d (recL s) ∧ d.app s = wrD d (recL s) := by
  unfold Dk.appE wrE Dk.app wrD
  rw [recL_len, if_neg h1, if_neg h2, if_neg h1, if_neg h2]
  exact ⟨rfl, rfl⟩
set_option maxRecDepth 100000 in
set_option maxHeartbeats 1000000 in
theorem append_any (h : DiskAt own i w p d) (s : List UInt8) (hm : s.length ≤ maxLen) (E : Nat → Addr) (hE : Errs E [2, 8, 9] w) (hg : own (gOf 9) ≠ i) :
    Calls Tryd.prog 22 #[.pointer (some ⟨p, 0, none⟩), .string ⟨s.toArray⟩] w fun e w' => e = .returned (errV E (d.appE s)) ∧ ObjTo own i i w (fun o w' => DiskAt o i w' p (d.app s)) w' := by
  have zs := bytes_size s
  have hb := h.1
  unfold maxLen at hm
  obtain ⟨ao, cap, c0, _⟩ := h.slice
  have hp := h.lt
  by_cases h1 : 10000 < s.length
  · have e2 : w.cell? ⟨0, 0, none⟩ = some (.iface 199 (.pointer (some (E 2)))) := hE 2 (by decide)
    have b2 : 0 < w.heap.size := lt_of_cell e2
    have H := Lib.hid (h.keep (Ex.refl w))
    rw [show d.appE s = 2 by unfold Dk.appE; rw [if_pos h1], show d.app s = d by unfold Dk.app; rw [if_pos h1], errV_pos _ _ (by decide)]
    have k1 : (10000 : Int) < (s.length : Int) := by omega
    clear h hE
    go_enter Tryd.func22, Tryd.ntmps22
    go_wp2_with fail
    all_goals go_ret
    all_goals exact ⟨rfl, H.out⟩
  have k1 : ¬ (10000 : Int) < (s.length : Int) := by omega
  by_cases h2 : 1048576 < d.b.length + (s.length + 12)
  · have e8 : w.cell? ⟨1, 0, none⟩ = some (.iface 199 (.pointer (some (E 8)))) := hE 8 (by decide)
    have b8 : 1 < w.heap.size := lt_of_cell e8
    have H := Lib.hid (h.keep (Ex.refl w))
    rw [show d.appE s = 8 by unfold Dk.appE; rw [if_neg h1, if_pos h2], show d.app s = d by unfold Dk.app; rw [if_neg h1, if_pos h2], errV_pos _ _ (by decide)]
    have k2 : 1048576 - (d.b.length : Int) < (s.length : Int) + 12 := by omega
    clear h hE
    go_enter Tryd.func22, Tryd.ntmps22
    go_wp2_with fail
    all_goals go_ret
    all_goals exact ⟨rfl, H.out⟩
  have k2 : ¬ 1048576 - (d.b.length : Int) < (s.length : Int) + 12 := by omega
  rw [(app_is d s h1 h2).1, (app_is d s h1 h2).2]
  have HR := Lib.hid (fun w => record_any s w (by omega))
  have HW := Lib.hid (fun w' (hx : Ex w w') => write_any (h.later hx) (recL s) E (Errs.sub (hE.ex hx) (by decide)) hg (by rw [recL_len]; omega))
  clear h hE
  go_enter Tryd.func22, Tryd.ntmps22
  go_wp2_with (first
    | (go_at_call 66; refine (HR.out _).mono ?_; rintro e w1 ⟨rfl, l1, d1, rfl⟩)
    | (go_at_call 65; refine (HW.out _ (by repeat (first | exact Ex.refl _ | refine Ex.alloc ?_ _ | refine Ex.ext ?_ _ _ | refine Ex.drew ?_ | refine Ex.drewN ?_ _))).mono ?_; rintro e w2 ⟨rfl, hT⟩))
  all_goals go_ret
  all_goals exact ⟨rfl, ObjTo.after (by repeat (first | exact Ex.refl _ | refine Ex.alloc ?_ _ | refine Ex.ext ?_ _ _ | refine Ex.drew ?_ | refine Ex.drewN ?_ _)) hT (fun o o' ho hI => hI.relabel ho)⟩
theorem RowAt.take3 {e : TypeId} {size g off N cap : Nat} {xs : List Value} (h : RowAt w e size (.slice (some ⟨g, off, none⟩) N cap) N xs) (n : Nat) (hn : n ≤ N) : RowAt w e size (.slice (some ⟨g, off, none⟩) n n) n (xs.take (n * size)) := by
  obtain ⟨h1, ⟨h2, _⟩ | ⟨g', off', cap', cur, h2, ⟨fr, hg, hf⟩, hr, hm, hc, ht⟩⟩ := h
  · cases h2
  · cases h2
    have e1 : n * size ≤ N * size := Nat.mul_le_mul_right _ hn
    have e2 : n * size ≤ cap * size := Nat.mul_le_mul_right _ (by omega)
    refine ⟨by rw [List.length_take, h1, Nat.min_eq_left e1], .inr ⟨g, off, n, cur, rfl, ⟨fr, hg, hf⟩, Nat.le_refl _, by omega, by omega, ?_⟩⟩
    rw [← ht, List.take_take, Nat.min_eq_left e1]
/-- What Recover returns and leaves. -/
def RecRet (own : Nat → Nat) (i j : Nat) (w : World) (p : Nat) (d : Dk) (e : Ending) (w' : World) : Prop := ∃ v l n, e = .returned (.tuple #[v, .nilIface]) ∧ Reads d.b l n ∧ w'.ownsRow w.heap.size 9 1 v l.length (l.map strV) ∧ ObjTo own i j w (fun o w' => DiskAt o i w' p ⟨d.b.take n, false, -1⟩) w'
set_option maxRecDepth 100000 in
set_option maxHeartbeats 1000000 in
theorem recover_any (h : DiskAt own i w p d) (j : Nat) : Calls Tryd.prog 32 #[.pointer (some ⟨p, 0, none⟩)] w (RecRet own i j w p d) := by
  have hb := h.1
  have f0 := h.free 0
  have hp := h.lt
  have HON := Lib.hid (on_raw h)
  obtain ⟨ao, cap, c0, hc, hm, h0, hr⟩ := h.slice
  have HV := Lib.hid (conv_bytes rfl hr)
  have HR := Lib.hid hr
  have H := Lib.hid h
  have hne : ao ≠ some ⟨p, 0, none⟩ ∧ (Value.slice ao d.b.length cap).ownBlock ≠ some p := by
    obtain ⟨_, _, v, h3⟩ := h
    have h4 := h3.cell0 (by decide)
    rw [c0] at h4
    obtain rfl := Option.some.inj h4
    exact ⟨fun e => h3.2.2.2 (by rw [e]; rfl), h3.2.2.2⟩
  have HNE := Lib.hid hne.2
  have hRd := Lib.hid (fun w => read_any d.b w (by omega))
  unfold maxLen at hm
  clear h hr hne
  have hcv : ∀ W : World, (∀ g, g ≠ p → W.heap[g]? = w.heap[g]?) → (convert 119 9 (.slice ao d.b.length cap)).run Tryd.prog W = .ok (.string ⟨d.b.toArray⟩) W := fun W hW => HV.out W (fun g hg => hW g (fun e => HNE.out (e ▸ hg)))
  have hc1 := hcv ((w.setCell ⟨p, 1, none⟩ (.bool false)).setCell ⟨p, 2, none⟩ (.int .i64 (-1))) (fun g hg => by rw [Below.heap_setCell _ _ _ _ hg, Below.heap_setCell _ _ _ _ hg])
  clear hcv
  go_enter Tryd.func32, Tryd.ntmps32
  go_wp2_with fail
  refine HON.out.mono ?_
  rintro e w1 ⟨rfl, rfl⟩
  go_upto_region 5 with (go_at_call 20; refine (hRd.out _).mono ?_; rintro e w1 ⟨⟨v, l, n, rfl, hrd, hrow⟩, l1, d1, rfl⟩)
  have hn := hrd.le
  have zw : ((w.setCell ⟨p, 1, none⟩ (.bool false)).setCell ⟨p, 2, none⟩ (.int .i64 (-1))).heap.size = w.heap.size := by simp [go_sem]
  rw [zw] at hrow
  have HRD := Lib.hid hrd
  have HROW := Lib.hid hrow
  clear hrd hrow
  have a1 : (0 : Int) ≤ (n : Int) := by omega
  have a2 : (n : Int) ≤ (cap : Int) := by omega
  have key : ∀ v' : Value, RowAt w 5 1 v' n (byteC (d.b.take n)) → (∀ g, v'.ownBlock = some g → (Value.slice ao d.b.length cap).ownBlock = some g) →
      RecRet own i j w p d (.returned (.tuple #[v, .nilIface])) (ext (((w.setCell ⟨p, 1, none⟩ (.bool false)).setCell ⟨p, 2, none⟩ (.int .i64 (-1))).setCell ⟨p, 0, none⟩ v') l1 d1) := by
    intro v' hv' hvb
    obtain ⟨q1, q2, v0, h3⟩ := H.out
    have h4 := h3.cell0 (by decide)
    rw [c0] at h4
    obtain rfl := Option.some.inj h4
    obtain ⟨o, g1, g2, g3, g4⟩ := h3.pick
    obtain ⟨t, hmain⟩ := h3.main
    have e := ext_set_lt ((w.setCell ⟨p, 1, none⟩ (.bool false)).setCell ⟨p, 2, none⟩ (.int .i64 (-1))) l1 d1 p 0 v' (by rw [zw]; exact hp)
    have hoth : ∀ g, g ≠ p → g < w.heap.size → (ext (((w.setCell ⟨p, 1, none⟩ (.bool false)).setCell ⟨p, 2, none⟩ (.int .i64 (-1))).setCell ⟨p, 0, none⟩ v') l1 d1).heap[g]? = w.heap[g]? := fun g hg hl => by
      rw [ext_heap_lt _ _ _ _ (by simpa [go_sem] using hl), Below.heap_setCell _ _ _ _ hg, Below.heap_setCell _ _ _ _ hg, Below.heap_setCell _ _ _ _ hg]
    have hK : Kp o 2 1 w (ext (((w.setCell ⟨p, 1, none⟩ (.bool false)).setCell ⟨p, 2, none⟩ (.int .i64 (-1))).setCell ⟨p, 0, none⟩ v') l1 d1) :=
      ((((Kp.refl _ _ _ _).setCell (fun _ => by rw [g2]) _).setCell (fun _ => by rw [g2]) _).setCell (fun _ => by rw [g2]) _).ext _ _
    have hl : (d.b.take n).length = n := by rw [List.length_take]; omega
    have hm3 := (((hmain.set 1 (.bool false)).set 2 (.int .i64 (-1))).set 0 v').congr (g := fun j => if j = 0 then v' else dkF ⟨d.b.take n, false, -1⟩ j) (fun j hj => by
      have : j = 0 ∨ j = 1 ∨ j = 2 := by omega
      rcases this with rfl | rfl | rfl <;> simp [dkF])
    have hb2 : ∀ g, v'.ownBlock = some g → o g = 2 := fun g hg => g1.2 g (hvb g hg)
    have hrw := hv'.of_block (w' := ext (((w.setCell ⟨p, 1, none⟩ (.bool false)).setCell ⟨p, 2, none⟩ (.int .i64 (-1))).setCell ⟨p, 0, none⟩ v') l1 d1) (fun g hg => hoth g (fun e => by have := hb2 g hg; rw [e, g2] at this; omega) (hv'.lt g hg))
    have hK1 : Kp own 1 i w (ext (((w.setCell ⟨p, 1, none⟩ (.bool false)).setCell ⟨p, 2, none⟩ (.int .i64 (-1))).setCell ⟨p, 0, none⟩ v') l1 d1) := ⟨hK.os, hK.tape, hK.output, hK.size, fun n hn hne => hK.block n hn (fun e => hne (by rw [Nat.div_one]; exact g4 n e))⟩
    have hown : ∀ k' : Nat, ∀ g, v'.ownBlock = some g → lab own w.heap.size k' j g = i := fun k' g hg => by
      have h2 := hb2 g hg
      have hlt : g < w.heap.size := by
        rcases Nat.lt_or_ge g w.heap.size with h | h
        · exact h
        · rw [g3 g h] at h2; cases h2
      rw [lab_lt hlt]
      exact g4 g (by rw [h2])
    refine ⟨v, l, n, rfl, HRD.out, ?_, ?_⟩
    · rw [← e]
      exact HROW.out.kept (grown_cell _ p 0 v') (owns_bound HROW.out hp)
    · refine ObjTo.of hK1 ⟨by show (d.b.take n).length ≤ _; omega, ⟨(show (-1 : Int) ≤ -1 by decide), (show (-1 : Int) ≤ 9223372036854775807 by decide)⟩, v', ⟨t, rowIs_ext hm3 l1 d1⟩, ⟨?_, hown _⟩, (lab_lt hp).trans h3.2.2.1, fun hg => by have := hb2 p hg; omega⟩
      show RowAt _ _ _ _ (d.b.take n).length _
      rw [hl]; exact hrw
  have KEY := Lib.hid key
  clear key
  cases ao with
  | none =>
    have hz : d.b.length = 0 := by have := h0 rfl; omega
    have hc0 : cap = 0 := h0 rfl
    have hn0 : n = 0 := by omega
    subst hc0 hn0
    go_wp2_with fail
    all_goals go_ret2
    all_goals exact KEY.out (.slice none 0 0) ⟨by simp [byteC], .inl ⟨rfl, rfl⟩⟩ (fun g hg => by cases hg)
  | some a =>
    obtain ⟨_, ⟨hv0, _⟩ | ⟨g, off, cap', cur, hv0, _⟩⟩ := HR.out
    · cases hv0
    obtain rfl : a = ⟨g, off, none⟩ := by cases hv0; rfl
    go_wp2_with fail
    all_goals go_ret2
    have h3 := HR.out.take3 n hn
    rw [Nat.mul_one, ← byteC_take] at h3
    all_goals exact KEY.out (.slice (some ⟨g, off, none⟩) n n) h3 (fun g hg => hg)
end
end Go.Proofs.YtfeeibealokhfaaDoor
