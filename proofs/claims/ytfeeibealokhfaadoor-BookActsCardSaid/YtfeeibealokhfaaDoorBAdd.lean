/- What Add of a book computes. -/
import Derived.Test.YtfeeibealokhfaaDoorBook2
import Derived.Deep.RegionLaw
import Derived.Deep.RegionHeld3
set_option linter.unusedSimpArgs false
set_option linter.unusedVariables false
namespace Go.Proofs.YtfeeibealokhfaaDoor
open Go.RowKit

/-- Why a lot is not added (0: it is). -/
def addE (l : List Lot) (x : Lot) : Nat := if x.ok then (if 0 ≤ idIdx l x.id then 7 else if 60 ≤ l.length then 8 else 0) else 2
def addL (l : List Lot) (x : Lot) : List Lot := if addE l x = 0 then l ++ [x] else l
section
variable {own : Nat → Nat} {i : Nat} {w : World} {p : Nat} {l : List Lot}
set_option maxRecDepth 100000 in
theorem add_bad (h : BookAt own i w p l) (x : Lot) (E : Nat → Addr) (hE : Errs E [2, 7, 8] w) (hk : x.ok = false) :
    Calls Tryd.prog 28 #[.pointer (some ⟨p, 0, none⟩), x.val] w fun e w' => e = .returned (errV E 2) ∧ ObjTo own i i w (fun o w' => BookAt o i w' p l) w' := by
  have HO := Lib.hid (fun w (h : Errs E [2] w) => one_any x E w h)
  rw [hk] at HO
  simp only [Bool.false_eq_true, if_false, errV_pos E 2 (by decide)] at HO
  have e2 : w.cell? ⟨0, 0, none⟩ = some (.iface 199 (.pointer (some (E 2)))) := hE 2 (by decide)
  have b2 : 0 < w.heap.size := lt_of_cell e2
  have HE := Lib.hid hE
  have H := Lib.hid h
  clear hE hk h
  rw [errV_pos E 2 (by decide)]
  go_enter Tryd.func28, Tryd.ntmps28
  go_wp2_with (go_at_call 68; refine (HO.out _ (by exact Errs.sub (HE.out.ex (by repeat (first | exact Ex.refl _ | refine Ex.alloc ?_ _ | refine Ex.ext ?_ _ _ | refine Ex.drew ?_ | refine Ex.drewN ?_ _))) (by decide))).mono ?_; rintro e w1 ⟨rfl, l1, d1, rfl⟩)
  all_goals go_ret
  all_goals exact ⟨rfl, H.out.keep (by repeat (first | exact Ex.refl _ | refine Ex.alloc ?_ _ | refine Ex.ext ?_ _ _ | refine Ex.drew ?_ | refine Ex.drewN ?_ _))⟩
set_option maxRecDepth 100000 in
theorem add_exist (h : BookAt own i w p l) (x : Lot) (E : Nat → Addr) (hE : Errs E [2, 7, 8] w) (hk : x.ok = true) (k : Nat) (hi : idIdx l x.id = (k : Int)) :
    Calls Tryd.prog 28 #[.pointer (some ⟨p, 0, none⟩), x.val] w fun e w' => e = .returned (errV E 7) ∧ ObjTo own i i w (fun o w' => BookAt o i w' p l) w' := by
  have HO := Lib.hid (fun w (h : Errs E [2] w) => one_any x E w h)
  rw [hk] at HO
  simp only [if_true, errV_zero] at HO
  have HF := Lib.hid (fun W (hx : Ex w W) => find_any (h.later hx) x.id)
  rw [hi] at HF
  have e7 : w.cell? ⟨4, 0, none⟩ = some (.iface 199 (.pointer (some (E 7)))) := hE 7 (by decide)
  have b7 : 4 < w.heap.size := lt_of_cell e7
  have HE := Lib.hid hE
  have H := Lib.hid h
  clear hE hk h hi
  rw [errV_pos E 7 (by decide)]
  go_enter Tryd.func28, Tryd.ntmps28
  go_wp2_with (first
    | (go_at_call 68; refine (HO.out _ (by exact Errs.sub (HE.out.ex (by repeat (first | exact Ex.refl _ | refine Ex.alloc ?_ _ | refine Ex.ext ?_ _ _ | refine Ex.drew ?_ | refine Ex.drewN ?_ _))) (by decide))).mono ?_; rintro e w1 ⟨rfl, l1, d1, rfl⟩)
    | (go_at_call 69; refine (HF.out _ (by repeat (first | exact Ex.refl _ | refine Ex.alloc ?_ _ | refine Ex.ext ?_ _ _ | refine Ex.drew ?_ | refine Ex.drewN ?_ _))).mono ?_; rintro e w1 ⟨rfl, l2, d2, rfl⟩))
  all_goals go_ret
  all_goals exact ⟨rfl, H.out.keep (by repeat (first | exact Ex.refl _ | refine Ex.alloc ?_ _ | refine Ex.ext ?_ _ _ | refine Ex.drew ?_ | refine Ex.drewN ?_ _))⟩
set_option maxRecDepth 100000 in
theorem add_full (h : BookAt own i w p l) (x : Lot) (E : Nat → Addr) (hE : Errs E [2, 7, 8] w) (hk : x.ok = true) (hi : idIdx l x.id = -1) (hf : 60 ≤ l.length) :
    Calls Tryd.prog 28 #[.pointer (some ⟨p, 0, none⟩), x.val] w fun e w' => e = .returned (errV E 8) ∧ ObjTo own i i w (fun o w' => BookAt o i w' p l) w' := by
  obtain ⟨ao, cap, c0, hc, hm, h0, hl, hr⟩ := h.slice
  have hp := h.lt
  have hb := h.1
  have HO := Lib.hid (fun w (h : Errs E [2] w) => one_any x E w h)
  rw [hk] at HO
  simp only [if_true, errV_zero] at HO
  have HF := Lib.hid (fun W (hx : Ex w W) => find_any (h.later hx) x.id)
  rw [hi] at HF
  have e8 : w.cell? ⟨1, 0, none⟩ = some (.iface 199 (.pointer (some (E 8)))) := hE 8 (by decide)
  have b8 : 1 < w.heap.size := lt_of_cell e8
  have HE := Lib.hid hE
  have H := Lib.hid h
  have k2 : (60 : Int) ≤ (l.length : Int) := by omega
  clear hE hk h hi hl hr h0
  rw [errV_pos E 8 (by decide)]
  go_enter Tryd.func28, Tryd.ntmps28
  go_wp2_with (first
    | (go_at_call 68; refine (HO.out _ (by exact Errs.sub (HE.out.ex (by repeat (first | exact Ex.refl _ | refine Ex.alloc ?_ _ | refine Ex.ext ?_ _ _ | refine Ex.drew ?_ | refine Ex.drewN ?_ _))) (by decide))).mono ?_; rintro e w1 ⟨rfl, l1, d1, rfl⟩)
    | (go_at_call 69; refine (HF.out _ (by repeat (first | exact Ex.refl _ | refine Ex.alloc ?_ _ | refine Ex.ext ?_ _ _ | refine Ex.drew ?_ | refine Ex.drewN ?_ _))).mono ?_; rintro e w1 ⟨rfl, l2, d2, rfl⟩))
  all_goals go_ret
  all_goals exact ⟨rfl, H.out.keep (by repeat (first | exact Ex.refl _ | refine Ex.alloc ?_ _ | refine Ex.ext ?_ _ _ | refine Ex.drew ?_ | refine Ex.drewN ?_ _))⟩
/-- The end of Add: the cell stored, the row grown. -/
theorem add_end (h : BookAt own i w p l) {v : Value} (h3 : OneAt own i w p 1 (fun _ => .nilIface) 24 5 v l.length (flat Lot.cells l)) (x : Lot) (hx : x.wf) (hf : l.length < 60) {o : Nat → Nat} (g2 : o p = 3) (g4 : ∀ n, o n / 2 = 1 → own n = i)
    (c1 c2 : Array Value) (t1 t2 : TypeId) (l1 : List Obj) (d1 k' : Nat) (u : World) (v' : Value)
    (hv' : OwnRow (lab o ((ext (w.alloc (.cells c1 t1)) l1 d1).alloc (.cells c2 t2)).heap.size k' 2) 2 (ov ((ext (w.alloc (.cells c1 t1)) l1 d1).alloc (.cells c2 t2)) o 1 2 k' u) 24 5 v' (l.length + 1) (flat Lot.cells l ++ x.cells)) :
    ObjTo own i i w (fun o w' => BookAt o i w' p (l ++ [x])) (ov ((ext ((w.setCell ⟨p, 0, none⟩ v').alloc (.cells c1 t1)) l1 d1).alloc (.cells c2 t2)) o 1 2 k' u) := by
  have hp := h3.lt
  obtain ⟨t, hrow⟩ := h3.main
  have e : ov ((ext ((w.setCell ⟨p, 0, none⟩ v').alloc (.cells c1 t1)) l1 d1).alloc (.cells c2 t2)) o 1 2 k' u = (ov ((ext (w.alloc (.cells c1 t1)) l1 d1).alloc (.cells c2 t2)) o 1 2 k' u).setCell ⟨p, 0, none⟩ v' := by
    simp [go_sem, ↓IntWalk.iteOmega, g2]
  have hK : Kp o 2 1 w (ov ((ext ((w.setCell ⟨p, 0, none⟩ v').alloc (.cells c1 t1)) l1 d1).alloc (.cells c2 t2)) o 1 2 k' u) :=
    grown_kp k' u (((((Kp.refl _ _ _ _).setCell (fun _ => by rw [g2]) _).alloc _).ext _ _).alloc _)
  have hv2 := hv'
  rw [show l.length + 1 = (l ++ [x]).length by simp, show flat Lot.cells l ++ x.cells = flat Lot.cells (l ++ [x]) by rw [flat_append, flat_one]] at hv2
  obtain ⟨k1, k2⟩ := h3.appEnd (W1 := (ext (w.alloc (.cells c1 t1)) l1 d1).alloc (.cells c2 t2)) (k := k') (u := u) (f' := fun _ => .nilIface) (v' := v') g2 g4 (by simp [go_sem]; omega) hK (fun g hg => by rw [e]; exact Below.heap_setCell _ _ _ _ hg) ⟨t, rowIs_ov ((rowIs_ext (((hrow.set 0 v').congr (g := fun j => if j = 0 then v' else .nilIface) (fun j hj => by
    obtain rfl : j = 0 := by omega
    simp)).alloc _) _ _).alloc _) _ _ _ _ _ (by rw [g2]; decide)⟩ hv2
  refine ObjTo.of k1 ⟨by simp; omega, fun y hy => ?_, v', k2⟩
  rw [List.mem_append, List.mem_singleton] at hy
  rcases hy with hy | rfl
  · exact h.2.1 y hy
  · exact hx
set_option maxRecDepth 100000 in
set_option maxHeartbeats 8000000 in
theorem add_ok (h : BookAt own i w p l) (x : Lot) (hx : x.wf) (E : Nat → Addr) (hE : Errs E [2, 7, 8] w) (hk : x.ok = true) (hi : idIdx l x.id = -1) (hf : l.length < 60) :
    Calls Tryd.prog 28 #[.pointer (some ⟨p, 0, none⟩), x.val] w fun e w' => e = .returned .nilIface ∧ ObjTo own i i w (fun o w' => BookAt o i w' p (l ++ [x])) w' := by
  have HO := Lib.hid (fun w (h : Errs E [2] w) => one_any x E w h)
  rw [hk] at HO
  simp only [if_true, errV_zero] at HO
  have HF := Lib.hid (fun W (hx : Ex w W) => find_any (h.later hx) x.id)
  rw [hi] at HF
  have HE := Lib.hid hE
  have H := Lib.hid h
  obtain ⟨_, _, v, h3⟩ := h
  obtain ⟨o, g1, g2, g3, g4⟩ := h3.pick
  obtain ⟨ao, cap, rfl, hcap, _⟩ := h3.2.1.form
  have c0 := h3.cell0 (by decide)
  have f0 := h3.free 0
  have hp := h3.lt
  have H3 := Lib.hid h3
  have HX := Lib.hid hx
  obtain ⟨i0, hi0, hz0, hz1, hz2⟩ := info_parts infoLot
  have k2 : ¬ (60 : Int) ≤ (l.length : Int) := by omega
  clear hE hk hi h3 hx
  go_enter Tryd.func28, Tryd.ntmps28
  go_wp2_with (first
    | (go_at_call 68; refine (HO.out _ (by exact Errs.sub (HE.out.ex (by repeat (first | exact Ex.refl _ | refine Ex.alloc ?_ _ | refine Ex.ext ?_ _ _ | refine Ex.drew ?_ | refine Ex.drewN ?_ _))) (by decide))).mono ?_; rintro e w1 ⟨rfl, l1, d1, rfl⟩)
    | (go_at_call 69; refine (HF.out _ (by repeat (first | exact Ex.refl _ | refine Ex.alloc ?_ _ | refine Ex.ext ?_ _ _ | refine Ex.drew ?_ | refine Ex.drewN ?_ _))).mono ?_; rintro e w1 ⟨rfl, l2, d2, rfl⟩))
  generalize l1 ++ l2 = l3 at *
  have q0 : p ≠ w.heap.size := by omega
  have q1 : p ≠ w.heap.size + 1 + l3.length := by omega
  have q2 : p < w.heap.size + 1 := by omega
  have q3 : p < w.heap.size + 1 + l3.length + 1 := by omega
  have q4 : w.heap.size < w.heap.size + 1 + l3.length + 1 := by omega
  have q5 : p < w.heap.size + 1 + l3.length := by omega
  go_region_law
    (((refine step_append_lab (own := o) (j := 2) ?_ (.tmp 29) (.tmp 31) 52 52 ?_ 24 i0 _ 5 40 Tryd.underlying52 hi0 hz0 hz1 hz2 ?_ (.slice ao l.length cap) (.slice (some ⟨w.heap.size + 1 + l3.length, 0, none⟩) 1 1) l.length 1 (flat Lot.cells l) (Lot.cells x) ?_ ?_ ?_ ?_ ?_ ?_ ?_); (focus rfl); (focus rfl); (focus rfl); (focus rfl); (focus (simp [go_sem]; done)); (focus exact (by repeat (first | exact g1 | (refine OwnRow.alloc ?_ _) | (refine OwnRow.drew ?_) | (refine OwnRow.drewN ?_ _) | (refine OwnRow.exts ?_ _ _)))); (focus exact (Src.block Tryd.underlying52 1 1 (cs := #[.int .i64 x.id, .int .i64 x.owner, .int .i64 x.side, .int .i64 x.price, .int .i64 x.qty]) (t := 24) (fr := (0, 0)) (heap_new (by simp [go_sem])) (by simp) (by simp [Value.oneCell']))); (focus (unfold maxLen; omega)); (focus omega); intro v' k' u hv' hnil; obtain ⟨ao', cap', rfl, hcap', _⟩ := hv'.form))
  all_goals go_wp2_with fail
  all_goals go_ret
  all_goals exact ⟨rfl, add_end H.out H3.out x HX.out hf g2 g4 _ _ _ _ l3 _ _ _ _ hv'⟩
theorem add_any (h : BookAt own i w p l) (x : Lot) (hx : x.wf) (E : Nat → Addr) (hE : Errs E [2, 7, 8] w) :
    Calls Tryd.prog 28 #[.pointer (some ⟨p, 0, none⟩), x.val] w fun e w' => e = .returned (errV E (addE l x)) ∧ ObjTo own i i w (fun o w' => BookAt o i w' p (addL l x)) w' := by
  have hadd : ∀ n, addE l x = n → n ≠ 0 → addL l x = l := fun n hn h0 => by unfold addL; rw [if_neg (by omega)]
  cases hk : x.ok with
  | false =>
    have e : addE l x = 2 := by simp [addE, hk]
    rw [hadd 2 e (by decide), e]
    exact add_bad h x E hE hk
  | true =>
    rcases idIdx_cases l x.id with ⟨k, hkl, hi, _⟩ | ⟨hi, _⟩
    · have e : addE l x = 7 := by simp [addE, hk, hi]
      rw [hadd 7 e (by decide), e]
      exact add_exist h x E hE hk k hi
    · by_cases hf : 60 ≤ l.length
      · have e : addE l x = 8 := by simp [addE, hk, hi, hf]
        rw [hadd 8 e (by decide), e]
        exact add_full h x E hE hk hi hf
      · have e : addE l x = 0 := by simp [addE, hk, hi, hf]
        have e2 : addL l x = l ++ [x] := by unfold addL; rw [if_pos e]
        rw [e, e2, errV_zero]
        exact add_ok h x hx E hE hk hi (by omega)
end
end Go.Proofs.YtfeeibealokhfaaDoor
