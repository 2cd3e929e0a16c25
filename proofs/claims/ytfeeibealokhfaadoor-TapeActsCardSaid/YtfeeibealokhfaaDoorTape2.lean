/- A disk: its bytes, is power off, when it fails. What NewDisk, Cut, On, Power and Bytes of package tape compute. -/
import Derived.Test.YtfeeibealokhfaaDoorOne
import Derived.Test.YtfeeibealokhfaaDoorTape1
import Derived.Test.YtfeeibealokhfaaDoorErrs
set_option linter.unusedSimpArgs false
set_option linter.unusedVariables false
namespace Go.Proofs.YtfeeibealokhfaaDoor
open Go.RowKit

def dkF (d : Dk) : Nat → Value := fun j => if j = 1 then .bool d.off else .int .i64 d.cut
def byteC (l : List UInt8) : List Value := l.map fun b => Value.int .u8 b.toNat
theorem byteC_len (l : List UInt8) : (byteC l).length = l.length := by simp [byteC]
theorem byteC_one (l : List UInt8) : ∀ u ∈ byteC l, u.oneCell' = true := fun u hu => by obtain ⟨b, _, rfl⟩ := List.mem_map.1 hu; rfl
theorem byteC_append (l m : List UInt8) : byteC (l ++ m) = byteC l ++ byteC m := by simp [byteC]
theorem byteC_take (l : List UInt8) (n : Nat) : byteC (l.take n) = (byteC l).take n := by simp [byteC]
/-- A disk. Its cut is -1 or above it, and no number of more than 63 bits. -/
def DiskAt (own : Nat → Nat) (i : Nat) (w : World) (p : Nat) (d : Dk) : Prop := d.b.length ≤ 1048576 ∧ (-1 ≤ d.cut ∧ d.cut ≤ 9223372036854775807) ∧ ∃ v, OneAt own i w p 3 (dkF d) 5 1 v d.b.length (byteC d.b)
section
variable {own own' : Nat → Nat} {i m g : Nat} {w w' : World} {p : Nat} {d : Dk}
theorem DiskAt.lt (h : DiskAt own i w p d) : p < w.heap.size := by obtain ⟨_, _, v, h⟩ := h; exact h.lt
theorem DiskAt.free (h : DiskAt own i w p d) (j : Nat) : w.frozen? ⟨p, j, none⟩ = false := by obtain ⟨_, _, v, h⟩ := h; exact h.free j
theorem DiskAt.off (h : DiskAt own i w p d) : w.cell? ⟨p, 1, none⟩ = some (.bool d.off) := by obtain ⟨_, _, v, h⟩ := h; exact h.cell (j := 1) (by decide) (by decide)
theorem DiskAt.cut (h : DiskAt own i w p d) : w.cell? ⟨p, 2, none⟩ = some (.int .i64 d.cut) := by obtain ⟨_, _, v, h⟩ := h; exact h.cell (j := 2) (by decide) (by decide)
theorem DiskAt.kp (h : DiskAt own i w p d) (hk : Kp own m g w w') (hi : i / m ≠ g) (ho : ∀ n, n < w.heap.size → own n = i → own' n = i) : DiskAt own' i w' p d := by
  obtain ⟨h1, h2, v, h3⟩ := h
  exact ⟨h1, h2, v, h3.kp hk hi ho⟩
theorem DiskAt.relabel (h : DiskAt own i w p d) (ho : ∀ n, n < w.heap.size → own n = i → own' n = i) : DiskAt own' i w p d := h.kp (m := 1) (g := i + 1) (Kp.refl _ _ _ _) (by simp) ho
theorem DiskAt.later (h : DiskAt own i w p d) (hx : Ex w w') : DiskAt own i w' p d := by
  obtain ⟨h1, h2, v, h3⟩ := h
  exact ⟨h1, h2, v, h3.later hx⟩
theorem DiskAt.keep (h : DiskAt own i w p d) (hx : Ex w w') : ObjTo own i i w (fun o w' => DiskAt o i w' p d) w' := ObjTo.of_ex hx ((h.relabel (fun n hn e => by rw [lab_lt hn]; exact e)).later hx)
/-- What a disk's bytes read as. -/
theorem DiskAt.slice (h : DiskAt own i w p d) : ∃ ao cap, w.cell? ⟨p, 0, none⟩ = some (.slice ao d.b.length cap) ∧ d.b.length ≤ cap ∧ cap ≤ maxLen ∧ (ao = none → cap = 0) ∧ RowAt w 5 1 (.slice ao d.b.length cap) d.b.length (byteC d.b) := by
  obtain ⟨h1, _, v, h3⟩ := h
  obtain ⟨ao, cap, rfl, hc, hm, h0, _⟩ := h3.2.1.form
  exact ⟨ao, cap, h3.cell0 (by decide), hc, hm, h0, h3.2.1.1⟩
/-- string(b) of a row of bytes. -/
theorem conv_bytes {ao : Option Addr} {n cap : Nat} {l : List UInt8} (hl : l.length = n) (h : RowAt w 5 1 (.slice ao n cap) n (byteC l)) (w' : World) (hx : ∀ g, (Value.slice ao n cap).ownBlock = some g → w'.heap[g]? = w.heap[g]?) :
    (convert 119 9 (.slice ao n cap)).run Tryd.prog w' = .ok (.string ⟨l.toArray⟩) w' := by
  subst hl
  have h' := h.of_block hx
  cases ao with
  | none =>
    have hl0 : l.length = 0 := by
      obtain ⟨_, ⟨_, h2⟩ | ⟨g, off, cap', cur, h2, _⟩⟩ := h
      · exact h2
      · cases h2
    obtain rfl : l = [] := List.eq_nil_of_length_eq_zero hl0
    exact run_convert_bytes_nil w' 119 5 Tryd.underlying119 Tryd.underlying5 0 cap 9 Tryd.underlying9
  | some a =>
    obtain ⟨_, ⟨h2, _⟩ | ⟨g, off, cap', cur, h2, _⟩⟩ := h
    · cases h2
    · cases h2
      refine run_convert_bytes_back w' 119 9 5 ⟨g, off, none⟩ cap l Tryd.underlying119 Tryd.underlying5 Tryd.underlying9 (fun j hj => ?_)
      rw [addr_add]
      have := h'.cell (j := j) (by omega)
      rw [this]
      simp [byteC, hj]
end
section
variable {own : Nat → Nat} {i : Nat} {w : World} {p : Nat} {d : Dk}
theorem power_any (h : DiskAt own i w p d) : Calls Tryd.prog 33 #[.pointer (some ⟨p, 0, none⟩)] w fun e w' => e = .returned (.bool (!d.off)) ∧ w = w' := by
  have c := h.off
  go_enter Tryd.func33, Tryd.ntmps33
  go_wp2_with fail
  all_goals go_ret
  all_goals exact ⟨rfl, rfl⟩
theorem bytes_any (h : DiskAt own i w p d) : Calls Tryd.prog 23 #[.pointer (some ⟨p, 0, none⟩)] w fun e w' => e = .returned (.string ⟨d.b.toArray⟩) ∧ w = w' := by
  obtain ⟨ao, cap, c, hc, hm, h0, hr⟩ := h.slice
  have hv := conv_bytes rfl hr w (fun _ _ => rfl)
  go_enter Tryd.func23, Tryd.ntmps23
  go_wp2_with fail
  all_goals go_ret
  all_goals exact ⟨rfl, rfl⟩
/-- The cells behind the first one turn. -/
theorem DiskAt.turn (h : DiskAt own i w p d) (off : Bool) (cut : Int) (hcut : -1 ≤ cut ∧ cut ≤ 9223372036854775807) : ObjTo own i i w (fun o w' => DiskAt o i w' p ⟨d.b, off, cut⟩) ((w.setCell ⟨p, 1, none⟩ (.bool off)).setCell ⟨p, 2, none⟩ (.int .i64 cut)) := by
  obtain ⟨h1, h2, v, h3⟩ := h
  obtain ⟨o, g1, g2, g3, g4⟩ := h3.pick
  have hK : Kp o 2 1 w ((w.setCell ⟨p, 1, none⟩ (.bool off)).setCell ⟨p, 2, none⟩ (.int .i64 cut)) := ((Kp.refl _ _ _ _).setCell (fun _ => by rw [g2]) _).setCell (fun _ => by rw [g2]) _
  obtain ⟨t, hrow⟩ := h3.main
  have hm := ((hrow.set 1 (.bool off)).set 2 (.int .i64 cut)).congr (g := fun j => if j = 0 then v else dkF ⟨d.b, off, cut⟩ j) (fun j hj => by
    have : j = 0 ∨ j = 1 ∨ j = 2 := by omega
    rcases this with rfl | rfl | rfl <;> simp [dkF])
  have hr := h3.2.1.1.of_block (w' := ((w.setCell ⟨p, 1, none⟩ (.bool off)).setCell ⟨p, 2, none⟩ (.int .i64 cut))) (fun g hg => by
    have e : g ≠ p := fun e => h3.2.2.2 (e ▸ hg)
    rw [Below.heap_setCell _ _ _ _ e, Below.heap_setCell _ _ _ _ e])
  obtain ⟨k1, k2⟩ := h3.turned (f' := dkF ⟨d.b, off, cut⟩) (v' := v) g2 g4 hK ⟨t, hm⟩ hr (fun g hg => .inl (g1.2 g hg))
  exact ObjTo.of k1 ⟨h1, hcut, v, k2⟩
theorem DiskAt.turn1 (h : DiskAt own i w p d) (off : Bool) : ObjTo own i i w (fun o w' => DiskAt o i w' p ⟨d.b, off, d.cut⟩) (w.setCell ⟨p, 1, none⟩ (.bool off)) := by
  obtain ⟨h1, h2, v, h3⟩ := h
  obtain ⟨o, g1, g2, g3, g4⟩ := h3.pick
  have hK : Kp o 2 1 w (w.setCell ⟨p, 1, none⟩ (.bool off)) := (Kp.refl _ _ _ _).setCell (fun _ => by rw [g2]) _
  obtain ⟨t, hrow⟩ := h3.main
  have hm := (hrow.set 1 (.bool off)).congr (g := fun j => if j = 0 then v else dkF ⟨d.b, off, d.cut⟩ j) (fun j hj => by
    have : j = 0 ∨ j = 1 ∨ j = 2 := by omega
    rcases this with rfl | rfl | rfl <;> simp [dkF])
  have hr := h3.2.1.1.of_block (w' := (w.setCell ⟨p, 1, none⟩ (.bool off))) (fun g hg => by
    have e : g ≠ p := fun e => h3.2.2.2 (e ▸ hg)
    rw [Below.heap_setCell _ _ _ _ e])
  obtain ⟨k1, k2⟩ := h3.turned (f' := dkF ⟨d.b, off, d.cut⟩) (v' := v) g2 g4 hK ⟨t, hm⟩ hr (fun g hg => .inl (g1.2 g hg))
  exact ObjTo.of k1 ⟨h1, h2, v, k2⟩
theorem DiskAt.turn2 (h : DiskAt own i w p d) (cut : Int) (hcut : -1 ≤ cut ∧ cut ≤ 9223372036854775807) : ObjTo own i i w (fun o w' => DiskAt o i w' p ⟨d.b, d.off, cut⟩) (w.setCell ⟨p, 2, none⟩ (.int .i64 cut)) := by
  obtain ⟨h1, h2, v, h3⟩ := h
  obtain ⟨o, g1, g2, g3, g4⟩ := h3.pick
  have hK : Kp o 2 1 w (w.setCell ⟨p, 2, none⟩ (.int .i64 cut)) := (Kp.refl _ _ _ _).setCell (fun _ => by rw [g2]) _
  obtain ⟨t, hrow⟩ := h3.main
  have hm := (hrow.set 2 (.int .i64 cut)).congr (g := fun j => if j = 0 then v else dkF ⟨d.b, d.off, cut⟩ j) (fun j hj => by
    have : j = 0 ∨ j = 1 ∨ j = 2 := by omega
    rcases this with rfl | rfl | rfl <;> simp [dkF])
  have hr := h3.2.1.1.of_block (w' := (w.setCell ⟨p, 2, none⟩ (.int .i64 cut))) (fun g hg => by
    have e : g ≠ p := fun e => h3.2.2.2 (e ▸ hg)
    rw [Below.heap_setCell _ _ _ _ e])
  obtain ⟨k1, k2⟩ := h3.turned (f' := dkF ⟨d.b, d.off, cut⟩) (v' := v) g2 g4 hK ⟨t, hm⟩ hr (fun g hg => .inl (g1.2 g hg))
  exact ObjTo.of k1 ⟨h1, hcut, v, k2⟩
set_option maxRecDepth 100000 in
theorem on_raw (h : DiskAt own i w p d) : Calls Tryd.prog 39 #[.pointer (some ⟨p, 0, none⟩)] w fun e w' => e = .returned (.tuple #[]) ∧ w' = (w.setCell ⟨p, 1, none⟩ (.bool false)).setCell ⟨p, 2, none⟩ (.int .i64 (-1)) := by
  have c1 := h.off
  have c2 := h.cut
  have f1 := h.free 1
  have f2 := h.free 2
  have hp := h.lt
  clear h
  go_enter Tryd.func39, Tryd.ntmps39
  go_wp2_with fail
  all_goals go_end0
  all_goals exact ⟨rfl, rfl⟩
set_option maxRecDepth 100000 in
theorem on_any (h : DiskAt own i w p d) : Calls Tryd.prog 39 #[.pointer (some ⟨p, 0, none⟩)] w fun e w' => e = .returned (.tuple #[]) ∧ ObjTo own i i w (fun o w' => DiskAt o i w' p ⟨d.b, false, -1⟩) w' := by
  exact (on_raw h).mono fun e w' ⟨h1, h2⟩ => ⟨h1, h2 ▸ h.turn false (-1) (by omega)⟩
set_option maxRecDepth 100000 in
theorem cut_any (h : DiskAt own i w p d) (n : Int) (hn : n ≤ 9223372036854775807) (E : Nat → Addr) (hE : Errs E [2, 9] w) : Calls Tryd.prog 31 #[.pointer (some ⟨p, 0, none⟩), .int .i64 n] w fun e w' => e = .returned (errV E (d.cutE n)) ∧ ObjTo own i i w (fun o w' => DiskAt o i w' p (d.cutD n)) w' := by
  have e2 : w.cell? ⟨0, 0, none⟩ = some (.iface 199 (.pointer (some (E 2)))) := hE 2 (by decide)
  have b2 : 0 < w.heap.size := lt_of_cell e2
  have e9 : w.cell? ⟨6, 0, none⟩ = some (.iface 199 (.pointer (some (E 9)))) := hE 9 (by decide)
  have b9 : 6 < w.heap.size := lt_of_cell e9
  have c1 := h.off
  have c2 := h.cut
  have f2 := h.free 2
  have hp := h.lt
  by_cases h0 : n < 0
  · have H := Lib.hid (h.keep (Ex.refl w))
    have e1 : d.cutE n = 2 := by unfold Dk.cutE; rw [if_pos h0]
    have e4 : d.cutD n = d := by unfold Dk.cutD; rw [if_pos h0]
    rw [e1, e4, errV_pos _ _ (by decide)]
    clear e1 e4 h hE
    go_enter Tryd.func31, Tryd.ntmps31
    go_wp2_with fail
    all_goals go_ret
    all_goals exact ⟨rfl, H.out⟩
  cases hoff : d.off with
  | true =>
    have H := Lib.hid (h.keep (Ex.refl w))
    have e1 : d.cutE n = 9 := by unfold Dk.cutE; rw [if_neg h0, if_pos hoff]
    have e4 : d.cutD n = d := by unfold Dk.cutD; rw [if_neg h0, if_pos hoff]
    rw [e1, e4, errV_pos _ _ (by decide)]
    rw [hoff] at c1
    clear e1 e4 h hE hoff
    go_enter Tryd.func31, Tryd.ntmps31
    go_wp2_with fail
    all_goals go_ret
    all_goals exact ⟨rfl, H.out⟩
  | false =>
    have H := Lib.hid (h.turn2 n (by omega))
    have e1 : d.cutE n = 0 := by unfold Dk.cutE; rw [if_neg h0, if_neg (by rw [hoff]; decide)]
    have e4 : d.cutD n = ⟨d.b, d.off, n⟩ := by unfold Dk.cutD; rw [if_neg h0, if_neg (by rw [hoff]; decide)]
    rw [e1, e4, errV_zero]
    rw [hoff] at c1
    clear e1 e4 h hE hoff
    go_enter Tryd.func31, Tryd.ntmps31
    go_wp2_with fail
    all_goals go_ret
    all_goals exact ⟨rfl, H.out⟩
end
end Go.Proofs.YtfeeibealokhfaaDoor
