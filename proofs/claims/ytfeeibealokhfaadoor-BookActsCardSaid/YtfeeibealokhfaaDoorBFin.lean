/- What a book, its copy, and the document's one are asked for at the end. -/
import Derived.Test.YtfeeibealokhfaaDoorMX
import Derived.Test.YtfeeibealokhfaaDoorMSame
import Derived.Test.YtfeeibealokhfaaDoorMOwner
import Derived.Test.YtfeeibealokhfaaDoorMLevels
import Derived.Test.YtfeeibealokhfaaDoorBooked
set_option linter.unusedSimpArgs false
set_option linter.unusedVariables false
namespace Go.Proofs.YtfeeibealokhfaaDoor
open Go.RowKit

section
variable {own : Nat → Nat} {i : Nat} {w : World} {p : Nat} {l : List Lot}
theorem book_made {W : World} {v : Value} {t : TypeId} {base : Nat} (hr : LotsRow base l v W) (hl : l.length ≤ 60) (hw : ∀ x ∈ l, x.wf) : BookAt (fun _ => 1) 1 (W.alloc (.cells #[v] t)) W.heap.size l := by
  have hx : Ex W (W.alloc (.cells #[v] t)) := (Ex.refl W).alloc _
  refine ⟨hl, hw, v, ⟨t, ?_⟩, ⟨(rowAt_of_owned hr).of_block (fun g hg => hx.below.block g (hr.lt g hg).2), fun _ _ => rfl⟩, rfl, fun e => ?_⟩
  · have h := World.rowIs_alloc W #[v] t (fun j => if j = 0 then v else .nilIface) (fun j hj => by
      have : j = 0 := by simp at hj; exact hj
      subst this; simp)
    simpa using h
  · have := (hr.lt _ e).2; omega
set_option maxRecDepth 100000 in
theorem bcopy_any (h : BookAt own i w p l) : Calls Tryd.prog 54 #[.pointer (some ⟨p, 0, none⟩)] w fun e w' => ∃ q, e = .returned (.pointer (some ⟨q, 0, none⟩)) ∧ BookAt (fun _ => 1) 1 w' q l ∧ Ex w w' := by
  obtain ⟨ao, cap, c0, hc, hm, h0, hl, hr⟩ := h.slice
  have hb := h.1
  have HW := Lib.hid h.2.1
  have hp := h.lt
  have HC := Lib.hid (clone_any ao cap l w (by omega) h0 hr)
  clear hl hr h h0
  go_enter Tryd.func54, Tryd.ntmps54
  go_wp2_with (go_at_call 67; refine HC.out.mono ?_; rintro e w1 ⟨⟨v, rfl, hv⟩, hx1⟩; have HV := Lib.hid hv; have HX1 := Lib.hid hx1; obtain ⟨av, capv, rfl⟩ := row_form (rowAt_of_owned hv); clear hv hx1)
  all_goals go_ret
  all_goals exact ⟨_, rfl, book_made HV.out hb HW.out, HX1.out.alloc _⟩
theorem lots_r (h : BookAt own i w p l) : Calls Tryd.prog 27 #[.pointer (some ⟨p, 0, none⟩)] w fun e w' => ∃ ao cap, e = .returned (.slice ao l.length cap) ∧ LotsAt w' ao l.length l ∧ Ex w w' := by
  refine (lots_any h).mono fun e w' ⟨⟨u, e1, hrow⟩, hx⟩ => ?_
  obtain ⟨ao, cap, rfl, _, _, h3⟩ := lots_of_owned h.2.1 (by have := h.1; omega) hrow
  exact ⟨ao, cap, e1, h3, hx⟩
theorem owner_r (h : BookAt own i w p l) (n : Int) : Calls Tryd.prog 57 #[.pointer (some ⟨p, 0, none⟩), .int .i64 n] w fun e w' => ∃ ao cap, e = .returned (.slice ao (ownerL l n).length cap) ∧ IntsOf w' ao (ownerL l n) ∧ Ex w w' := by
  refine (owner_any h n).mono fun e w' ⟨⟨u, e1, hrow⟩, hx⟩ => ?_
  obtain ⟨ao, cap, rfl, _, _, h3⟩ := ints_of_row rfl hrow
  exact ⟨ao, cap, e1, h3, hx⟩
theorem mowner_r (h : BookAt own i w p l) (n : Int) : Calls Tryd.prog 58 #[.pointer (some ⟨p, 0, none⟩), .int .i64 n] w fun e w' => ∃ ao cap, e = .returned (.slice ao (ownerL l n).length cap) ∧ IntsOf w' ao (ownerL l n) ∧ Ex w w' := by
  refine (mowner_any h n).mono fun e w' ⟨⟨u, e1, hrow⟩, hx⟩ => ?_
  obtain ⟨ao, cap, rfl, _, _, h3⟩ := ints_of_row rfl hrow
  exact ⟨ao, cap, e1, h3, hx⟩
theorem levels_r (h : BookAt own i w p l) (hok : AllOk l) (side : Int) (hs : side = 0 ∨ side = 1) : Calls Tryd.prog 48 #[.pointer (some ⟨p, 0, none⟩), .int .i64 side] w fun e w' => ∃ ao cap, e = .returned (.slice ao (levelsB side l).length cap) ∧ LvlsAt w' ao (levelsB side l) ∧ Ex w w' := by
  refine (levels_any h hok side hs).mono fun e w' ⟨⟨u, e1, hrow⟩, hx⟩ => ?_
  obtain ⟨ao, cap, rfl, _, _, h3⟩ := lvls_of_owned hrow
  exact ⟨ao, cap, e1, h3, hx⟩
theorem mlevels_r (h : BookAt own i w p l) (hok : AllOk l) (side : Int) (hs : side = 0 ∨ side = 1) : Calls Tryd.prog 60 #[.pointer (some ⟨p, 0, none⟩), .int .i64 side] w fun e w' => ∃ ao cap, e = .returned (.slice ao (levelsB side l).length cap) ∧ LvlsAt w' ao (levelsB side l) ∧ Ex w w' := by
  refine (mlevels_any h hok side hs).mono fun e w' ⟨⟨u, e1, hrow⟩, hx⟩ => ?_
  obtain ⟨ao, cap, rfl, _, _, h3⟩ := lvls_of_owned hrow
  exact ⟨ao, cap, e1, h3, hx⟩
end
end Go.Proofs.YtfeeibealokhfaaDoor
