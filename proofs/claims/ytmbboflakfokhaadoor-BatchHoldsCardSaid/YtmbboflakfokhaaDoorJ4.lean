import Derived.Test.YtmbboflakfokhaaDoorJ2
import Derived.Deep.RegionLaw
import Derived.Deep.RegionHeld3
import Derived.Test.YtmbboflakfokhaaDoorBDel
/- What Add of a book computes. -/
set_option linter.unusedSimpArgs false
set_option linter.unusedVariables false
namespace Go.Proofs.YtmbboflakfokhaaDoor
open Go.RowKit

/-- Why a lot is not added (0: it is). -/
def addE (l : List Lot) (x : Lot) : Nat := if x.ok then (if 0 ≤ idIdx l x.id then 7 else if 60 ≤ l.length then 8 else 0) else 2
def addL (l : List Lot) (x : Lot) : List Lot := if addE l x = 0 then l ++ [x] else l
section
variable {own : Nat → Nat} {i : Nat} {w : World} {p : Nat} {l : List Lot}
set_option maxRecDepth 100000 in
theorem add_bad (h : BookAt own i w p l) (x : Lot) (E : Nat → Addr) (hE : Errs E [2, 7, 8] w) (hk : x.ok = false) :
    Calls Tryd.prog 30 #[.pointer (some ⟨p, 0, none⟩), x.val] w fun e w' => e = .returned (errV E 2) ∧ ObjTo own i i w (fun o w' => BookAt o i w' p l) w' := by
  have HO := Lib.hid (fun w (h : Errs E [2] w) => one_any x E w h)
  rw [hk] at HO
  simp only [Bool.false_eq_true, if_false, errV_pos E 2 (by decide)] at HO
  have e2 : w.cell? ⟨0, 0, none⟩ = some (.iface 160 (.pointer (some (E 2)))) := hE 2 (by decide)
  have b2 : 0 < w.heap.size := lt_of_cell e2
  have HE := Lib.hid hE
  have H := Lib.hid h
  clear hE hk h
  rw [errV_pos E 2 (by decide)]
  go_enter Tryd.func30, Tryd.ntmps30
  go_wp2_with (go_at_call 48; refine (HO.out _ (by exact Errs.sub (HE.out.ex (by repeat (first | exact Ex.refl _ | refine Ex.alloc ?_ _ | refine Ex.ext ?_ _ _ | refine Ex.drew ?_ | refine Ex.drewN ?_ _))) (by decide))).mono ?_; rintro e w1 ⟨rfl, l1, d1, rfl⟩)
  all_goals go_ret
  all_goals exact ⟨rfl, H.out.keep (by repeat (first | exact Ex.refl _ | refine Ex.alloc ?_ _ | refine Ex.ext ?_ _ _ | refine Ex.drew ?_ | refine Ex.drewN ?_ _))⟩
set_option maxRecDepth 100000 in
theorem add_exist (h : BookAt own i w p l) (x : Lot) (E : Nat → Addr) (hE : Errs E [2, 7, 8] w) (hk : x.ok = true) (k : Nat) (hi : idIdx l x.id = (k : Int)) :
    Calls Tryd.prog 30 #[.pointer (some ⟨p, 0, none⟩), x.val] w fun e w' => e = .returned (errV E 7) ∧ ObjTo own i i w (fun o w' => BookAt o i w' p l) w' := by
  have HO := Lib.hid (fun w (h : Errs E [2] w) => one_any x E w h)
  rw [hk] at HO
  simp only [if_true, errV_zero] at HO
  have HF := Lib.hid (fun W (hx : Ex w W) => find_any (h.later hx) x.id)
  rw [hi] at HF
  have e7 : w.cell? ⟨4, 0, none⟩ = some (.iface 160 (.pointer (some (E 7)))) := hE 7 (by decide)
  have b7 : 4 < w.heap.size := lt_of_cell e7
  have HE := Lib.hid hE
  have H := Lib.hid h
  clear hE hk h hi
  rw [errV_pos E 7 (by decide)]
  go_enter Tryd.func30, Tryd.ntmps30
  go_wp2_with (first
    | (go_at_call 48; refine (HO.out _ (by exact Errs.sub (HE.out.ex (by repeat (first | exact Ex.refl _ | refine Ex.alloc ?_ _ | refine Ex.ext ?_ _ _ | refine Ex.drew ?_ | refine Ex.drewN ?_ _))) (by decide))).mono ?_; rintro e w1 ⟨rfl, l1, d1, rfl⟩)
    | (go_at_call 42; refine (HF.out _ (by repeat (first | exact Ex.refl _ | refine Ex.alloc ?_ _ | refine Ex.ext ?_ _ _ | refine Ex.drew ?_ | refine Ex.drewN ?_ _))).mono ?_; rintro e w1 ⟨rfl, l2, d2, rfl⟩))
  all_goals go_ret
  all_goals exact ⟨rfl, H.out.keep (by repeat (first | exact Ex.refl _ | refine Ex.alloc ?_ _ | refine Ex.ext ?_ _ _ | refine Ex.drew ?_ | refine Ex.drewN ?_ _))⟩
set_option maxRecDepth 100000 in
theorem add_full (h : BookAt own i w p l) (x : Lot) (E : Nat → Addr) (hE : Errs E [2, 7, 8] w) (hk : x.ok = true) (hi : idIdx l x.id = -1) (hf : 60 ≤ l.length) :
    Calls Tryd.prog 30 #[.pointer (some ⟨p, 0, none⟩), x.val] w fun e w' => e = .returned (errV E 8) ∧ ObjTo own i i w (fun o w' => BookAt o i w' p l) w' := by
  obtain ⟨ao, cap, c0, hc, hm, h0, hl, hr⟩ := h.slice
  have hp := h.lt
  have hb := h.1
  have HO := Lib.hid (fun w (h : Errs E [2] w) => one_any x E w h)
  rw [hk] at HO
  simp only [if_true, errV_zero] at HO
  have HF := Lib.hid (fun W (hx : Ex w W) => find_any (h.later hx) x.id)
  rw [hi] at HF
  have e8 : w.cell? ⟨2, 0, none⟩ = some (.iface 160 (.pointer (some (E 8)))) := hE 8 (by decide)
  have b8 : 2 < w.heap.size := lt_of_cell e8
  have HE := Lib.hid hE
  have H := Lib.hid h
  have k2 : (60 : Int) ≤ (l.length : Int) := by omega
  clear hE hk h hi hl hr h0
  rw [errV_pos E 8 (by decide)]
  go_enter Tryd.func30, Tryd.ntmps30
  go_wp2_with (first
    | (go_at_call 48; refine (HO.out _ (by exact Errs.sub (HE.out.ex (by repeat (first | exact Ex.refl _ | refine Ex.alloc ?_ _ | refine Ex.ext ?_ _ _ | refine Ex.drew ?_ | refine Ex.drewN ?_ _))) (by decide))).mono ?_; rintro e w1 ⟨rfl, l1, d1, rfl⟩)
    | (go_at_call 42; refine (HF.out _ (by repeat (first | exact Ex.refl _ | refine Ex.alloc ?_ _ | refine Ex.ext ?_ _ _ | refine Ex.drew ?_ | refine Ex.drewN ?_ _))).mono ?_; rintro e w1 ⟨rfl, l2, d2, rfl⟩))
  all_goals go_ret
  all_goals exact ⟨rfl, H.out.keep (by repeat (first | exact Ex.refl _ | refine Ex.alloc ?_ _ | refine Ex.ext ?_ _ _ | refine Ex.drew ?_ | refine Ex.drewN ?_ _))⟩
/-- The end of Add: the cell stored, the row grown. -/
theorem add_end (h : BookAt own i w p l) {v : Value} (h3 : OneAt own i w p 1 (fun _ => .nilIface) 56 5 v l.length (flat Lot.cells l)) (x : Lot) (hx : x.wf) (hf : l.length < 60) {o : Nat → Nat} (g2 : o p = 3) (g4 : ∀ n, o n / 2 = 1 → own n = i)
    (c1 c2 : Array Value) (t1 t2 : TypeId) (l1 : List Obj) (d1 k' : Nat) (u : World) (v' : Value)
    (hv' : OwnRow (lab o ((ext (w.alloc (.cells c1 t1)) l1 d1).alloc (.cells c2 t2)).heap.size k' 2) 2 (ov ((ext (w.alloc (.cells c1 t1)) l1 d1).alloc (.cells c2 t2)) o 1 2 k' u) 56 5 v' (l.length + 1) (flat Lot.cells l ++ x.cells)) :
    ObjTo own i i w (fun o w' => BookAt o i w' p (l ++ [x])) (ov ((ext ((w.setCell ⟨p, 0, none⟩ v').alloc (.cells c1 t1)) l1 d1).alloc (.cells c2 t2)) o 1 2 k' u) := by
  have hp := h3.lt
  obtain ⟨t, hrow⟩ := h3.main
  have e : ov ((ext ((w.setCell ⟨p, 0, none⟩ v').alloc (.cells c1 t1)) l1 d1).alloc (.cells c2 t2)) o 1 2 k' u = (ov ((ext (w.alloc (.cells c1 t1)) l1 d1).alloc (.cells c2 t2)) o 1 2 k' u).setCell ⟨p, 0, none⟩ v' := by
    simp [go_sem, ↓IntWalk.iteOmega, g2]
  have hK : Kp o 2 1 w (ov ((ext ((w.setCell ⟨p, 0, none⟩ v').alloc (.cells c1 t1)) l1 d1).alloc (.cells c2 t2)) o 1 2 k' u) :=
    grown_kp k' u (((((Kp.refl _ _ _ _).setCell (fun _ => by rw [g2]) _).alloc _).ext _ _).alloc _)
  have hv2 := hv'
  rw [show l.length + 1 = (l ++ [x]).length by simp, show flat Lot.cells l ++ x.cells = flat Lot.cells (l ++ [x]) by rw [flat_append, flat_one]] at hv2
  obtain ⟨k1, k2⟩ := h3.appEnd (W1 := (ext (w.alloc (.cells c1 t1)) l1 d1).alloc (.cells c2 t2)) (k := k') (u := u) (f' := fun _ => .nilIface) (v' := v') g2 g4 (by simp [go_sem]; omega) hK (fun g hg => by rw [e]; exact Below.heap_setCell _ _ _ _ hg) ⟨t, rowIs_ov ((rowIs_ext (((hrow.set 0 v').congr (g := fun j => if j = 0 then v' else .nilIface) (fun j hj => by
    obtain rfl : j = 0 := by omega
    simp)).alloc _) _ _).alloc _) _ _ _ _ _ (by rw [g2]; decide)⟩ hv2
  refine ObjTo.of k1 ⟨by simp; omega, fun y hy => ?_, v', k2⟩
  rw [List.mem_append, List.mem_singleton] at hy
  rcases hy with hy | rfl
  · exact h.2.1 y hy
  · exact hx
set_option maxRecDepth 100000 in
set_option maxHeartbeats 8000000 in
theorem add_ok (h : BookAt own i w p l) (x : Lot) (hx : x.wf) (E : Nat → Addr) (hE : Errs E [2, 7, 8] w) (hk : x.ok = true) (hi : idIdx l x.id = -1) (hf : l.length < 60) :
    Calls Tryd.prog 30 #[.pointer (some ⟨p, 0, none⟩), x.val] w fun e w' => e = .returned .nilIface ∧ ObjTo own i i w (fun o w' => BookAt o i w' p (l ++ [x])) w' := by
  have HO := Lib.hid (fun w (h : Errs E [2] w) => one_any x E w h)
  rw [hk] at HO
  simp only [if_true, errV_zero] at HO
  have HF := Lib.hid (fun W (hx : Ex w W) => find_any (h.later hx) x.id)
  rw [hi] at HF
  have HE := Lib.hid hE
  have H := Lib.hid h
  obtain ⟨_, _, v, h3⟩ := h
  obtain ⟨o, g1, g2, g3, g4⟩ := h3.pick
  obtain ⟨ao, cap, rfl, hcap, _⟩ := h3.2.1.form
  have c0 := h3.cell0 (by decide)
  have f0 := h3.free 0
  have hp := h3.lt
  have H3 := Lib.hid h3
  have HX := Lib.hid hx
  obtain ⟨i0, hi0, hz0, hz1, hz2⟩ := info_parts infoLotB
  have k2 : ¬ (60 : Int) ≤ (l.length : Int) := by omega
  clear hE hk hi h3 hx
  go_enter Tryd.func30, Tryd.ntmps30
  go_wp2_with (first
    | (go_at_call 48; refine (HO.out _ (by exact Errs.sub (HE.out.ex (by repeat (first | exact Ex.refl _ | refine Ex.alloc ?_ _ | refine Ex.ext ?_ _ _ | refine Ex.drew ?_ | refine Ex.drewN ?_ _))) (by decide))).mono ?_; rintro e w1 ⟨rfl, l1, d1, rfl⟩)
    | (go_at_call 42; refine (HF.out _ (by repeat (first | exact Ex.refl _ | refine Ex.alloc ?_ _ | refine Ex.ext ?_ _ _ | refine Ex.drew ?_ | refine Ex.drewN ?_ _))).mono ?_; rintro e w1 ⟨rfl, l2, d2, rfl⟩))
  generalize l1 ++ l2 = l3 at *
  have q0 : p ≠ w.heap.size := by omega
  have q1 : p ≠ w.heap.size + 1 + l3.length := by omega
  have q2 : p < w.heap.size + 1 := by omega
  have q3 : p < w.heap.size + 1 + l3.length + 1 := by omega
  have q4 : w.heap.size < w.heap.size + 1 + l3.length + 1 := by omega
  have q5 : p < w.heap.size + 1 + l3.length := by omega
  go_region_law
    (((refine step_append_lab (own := o) (j := 2) ?_ (.tmp 29) (.tmp 31) 37 37 ?_ 56 i0 _ 5 40 Tryd.underlying37 hi0 hz0 hz1 hz2 ?_ (.slice ao l.length cap) (.slice (some ⟨w.heap.size + 1 + l3.length, 0, none⟩) 1 1) l.length 1 (flat Lot.cells l) (Lot.cells x) ?_ ?_ ?_ ?_ ?_ ?_ ?_); (focus rfl); (focus rfl); (focus rfl); (focus rfl); (focus (simp [go_sem]; done)); (focus exact (by repeat (first | exact g1 | (refine OwnRow.alloc ?_ _) | (refine OwnRow.drew ?_) | (refine OwnRow.drewN ?_ _) | (refine OwnRow.exts ?_ _ _)))); (focus exact (Src.block Tryd.underlying37 1 1 (cs := #[.int .i64 x.id, .int .i64 x.owner, .int .i64 x.side, .int .i64 x.price, .int .i64 x.qty]) (t := 56) (fr := (0, 0)) (heap_new (by simp [go_sem])) (by simp) (by simp [Value.oneCell']))); (focus (unfold maxLen; omega)); (focus omega); intro v' k' u hv' hnil; obtain ⟨ao', cap', rfl, hcap', _⟩ := hv'.form))
  all_goals go_wp2_with fail
  all_goals go_ret
  all_goals exact ⟨rfl, add_end H.out H3.out x HX.out hf g2 g4 _ _ _ _ l3 _ _ _ _ hv'⟩
theorem add_any (h : BookAt own i w p l) (x : Lot) (hx : x.wf) (E : Nat → Addr) (hE : Errs E [2, 7, 8] w) :
    Calls Tryd.prog 30 #[.pointer (some ⟨p, 0, none⟩), x.val] w fun e w' => e = .returned (errV E (addE l x)) ∧ ObjTo own i i w (fun o w' => BookAt o i w' p (addL l x)) w' := by
  have hadd : ∀ n, addE l x = n → n ≠ 0 → addL l x = l := fun n hn h0 => by unfold addL; rw [if_neg (by omega)]
  cases hk : x.ok with
  | false =>
    have e : addE l x = 2 := by simp [addE, hk]
    rw [hadd 2 e (by decide), e]
    exact add_bad h x E hE hk
  | true =>
    rcases idIdx_cases l x.id with ⟨k, hkl, hi, _⟩ | ⟨hi, _⟩
    · have e : addE l x = 7 := by simp [addE, hk, hi]
      rw [hadd 7 e (by decide), e]
      exact add_exist h x E hE hk k hi
    · by_cases hf : 60 ≤ l.length
      · have e : addE l x = 8 := by simp [addE, hk, hi, hf]
        rw [hadd 8 e (by decide), e]
        exact add_full h x E hE hk hi hf
      · have e : addE l x = 0 := by simp [addE, hk, hi, hf]
        have e2 : addL l x = l ++ [x] := by unfold addL; rw [if_pos e]
        rw [e, e2, errV_zero]
        exact add_ok h x hx E hE hk hi (by omega)
end
end Go.Proofs.YtmbboflakfokhaaDoor

/- What Cancel and Take of a book compute. -/
set_option linter.unusedSimpArgs false
set_option linter.unusedVariables false
namespace Go.Proofs.YtmbboflakfokhaaDoor
open Go.RowKit

theorem OnlyAt.cell {g : Nat} {w w' : World} (h : OnlyAt g w w') {b : Nat} (hb : b ≠ g) (j : Nat) : w'.cell? ⟨b, j, none⟩ = w.cell? ⟨b, j, none⟩ := World.cell?_of_block (h.block b hb)
theorem OnlyAt.frozen {g : Nat} {w w' : World} (h : OnlyAt g w w') {b : Nat} (hb : b ≠ g) (j : Nat) : w'.frozen? ⟨b, j, none⟩ = w.frozen? ⟨b, j, none⟩ := World.frozen?_of_block (h.block b hb)
/-- A book whose row was cut in place, its cell stored, and new blocks turned. -/
theorem book_end {own : Nat → Nat} {i : Nat} {w : World} {p : Nat} {l l' : List Lot} {g off n cap : Nat} (h : BookAt own i w p l) (h3 : OneAt own i w p 1 (fun _ => .nilIface) 56 5 (.slice (some ⟨g, off, none⟩) n cap) l.length (flat Lot.cells l))
    {o : Nat → Nat} (g1 : OwnRow o 2 w 56 5 (.slice (some ⟨g, off, none⟩) n cap) l.length (flat Lot.cells l)) (g2 : o p = 3) (g4 : ∀ n, o n / 2 = 1 → own n = i) {W' : World} (hK : Kp o 2 1 w W') {n' : Nat}
    (hrow : ∃ t, W'.rowIs p t 1 (fun j => if j = 0 then .slice (some ⟨g, off, none⟩) n' cap else .nilIface)) (hr : RowAt W' 56 5 (.slice (some ⟨g, off, none⟩) n' cap) n' (flat Lot.cells l')) (hl' : l'.length = n') (hs : ∀ x ∈ l', x.wf) (h60 : n' ≤ 60) :
    ObjTo own i i w (fun o w' => BookAt o i w' p l') W' := by
  subst hl'
  obtain ⟨k1, k2⟩ := h3.turned (f' := fun _ => .nilIface) g2 g4 hK hrow hr (fun b hb => .inl (g1.2 b hb))
  exact ObjTo.of k1 ⟨h60, hs, _, k2⟩
def Lot.less (x : Lot) (q : Int) : Lot := ⟨x.id, x.owner, x.side, x.price, x.qty - q⟩
theorem flat_set (l : List Lot) (k : Nat) (hk : k < l.length) (q : Int) : flat Lot.cells (l.set k (l[k].less q)) = (flat Lot.cells l).set (k * 5 + 4) (.int .i64 (l[k].qty - q)) := by
  apply List.ext_getElem?
  intro n
  have e1 := flat_length lotc_len (l.set k (l[k].less q))
  have e2 := flat_length lotc_len l
  rw [List.length_set] at e1
  by_cases hn : n < l.length * 5
  · have ha : n / 5 < l.length := by omega
    have hm : n / 5 * 5 + n % 5 = n := by omega
    have h5 : n % 5 < 5 := by omega
    have f1 := flat_get lotc_len (l.set k (l[k].less q)) (n / 5) (by rw [List.length_set]; exact ha) (n % 5) h5
    have f2 := flat_get lotc_len l (n / 5) ha (n % 5) h5
    rw [hm] at f1 f2
    rw [f1, List.getElem?_set, f2]
    by_cases hk5 : n / 5 = k
    · subst hk5
      have : n % 5 = 0 ∨ n % 5 = 1 ∨ n % 5 = 2 ∨ n % 5 = 3 ∨ n % 5 = 4 := by omega
      simp only [List.getElem_set_self]
      rcases this with h | h | h | h | h
      · rw [if_neg (by omega), h]; rfl
      · rw [if_neg (by omega), h]; rfl
      · rw [if_neg (by omega), h]; rfl
      · rw [if_neg (by omega), h]; rfl
      · rw [if_pos (by omega), h, if_pos (by rw [e2]; omega)]; rfl
    · rw [List.getElem_set_ne (by omega), if_neg (by omega)]
  · rw [List.getElem?_eq_none (by omega), List.getElem?_eq_none (by rw [List.length_set]; omega)]
/-- A row of lots, one quantity of it stored. -/
theorem row_set {P : Program} {w : World} {e : TypeId} {g off n cap : Nat} {l : List Lot} (hl : l.length = n) (h : RowAt w e 5 (.slice (some ⟨g, off, none⟩) n cap) n (flat Lot.cells l)) {k : Nat} (hk : k < l.length) (q : Int) :
    RowAt (w.setCell ⟨g, off + k * 5 + 4, none⟩ (.int .i64 (l[k].qty - q))) e 5 (.slice (some ⟨g, off, none⟩) n cap) n (flat Lot.cells (l.set k (l[k].less q))) ∧ OnlyAt g w (w.setCell ⟨g, off + k * 5 + 4, none⟩ (.int .i64 (l[k].qty - q))) := by
  obtain ⟨h1, ⟨h2, _⟩ | ⟨g', off', cap', cur, h2, ⟨fr, hg, hf⟩, hnc, hm, hs, ht⟩⟩ := h
  · cases h2
  cases h2
  have hcn : n * 5 ≤ cap * 5 := Nat.mul_le_mul_right _ hnc
  have s1 : w.setCell ⟨g, off + k * 5 + 4, none⟩ (.int .i64 (l[k].qty - q)) = _ := setCells_row (P := P) (vs := [.int .i64 (l[k].qty - q)]) (o := off + k * 5 + 4) hg hf (by simp; omega) (by intro v hv; simp at hv; subst hv; rfl)
  have hst : cur.toList.take (off + k * 5 + 4) ++ [Value.int .i64 (l[k].qty - q)] ++ cur.toList.drop (off + k * 5 + 4 + 1) = cur.toList.set (off + k * 5 + 4) (.int .i64 (l[k].qty - q)) := by
    rw [List.set_eq_take_append_cons_drop, if_pos (by simp; omega)]
    simp
  simp only [List.length_singleton] at s1
  rw [hst] at s1
  rw [s1]
  refine ⟨⟨by rw [flat_length lotc_len, List.length_set, hl], .inr ⟨g, off, cap, _, rfl, ⟨fr, setRow_heap w g cur _ e fr hg, hf.imp id (fun h => by simpa using h)⟩, hnc, hm, by simpa using hs, ?_⟩⟩, ⟨rfl, rfl, rfl, by simp, fun b hb => setRow_other _ _ _ _ hb⟩⟩
  rw [flat_set, ← ht, List.toList_toArray, List.drop_set, if_neg (by omega), List.take_set]
  congr 1
  omega
section
variable {own : Nat → Nat} {i : Nat} {w : World} {p : Nat} {l : List Lot}
set_option maxRecDepth 100000 in
theorem cancel_none (h : BookAt own i w p l) (id : Int) (E : Nat → Addr) (hE : Errs E [6] w) (hi : idIdx l id = -1) :
    Calls Tryd.prog 32 #[.pointer (some ⟨p, 0, none⟩), .int .i64 id] w fun e w' => e = .returned (.tuple #[zeroLot.val, errV E 6]) ∧ ObjTo own i i w (fun o w' => BookAt o i w' p l) w' := by
  have HF := Lib.hid (fun W (hx : Ex w W) => find_any (h.later hx) id)
  rw [hi] at HF
  have e6 : w.cell? ⟨1, 0, none⟩ = some (.iface 160 (.pointer (some (E 6)))) := hE 6 (by decide)
  have b6 : 1 < w.heap.size := lt_of_cell e6
  have H := Lib.hid h
  clear hE hi h
  rw [errV_pos E 6 (by decide)]
  go_enter Tryd.func32, Tryd.ntmps32
  go_wp2_with (go_at_call 42; refine (HF.out _ (by repeat (first | exact Ex.refl _ | refine Ex.alloc ?_ _ | refine Ex.ext ?_ _ _ | refine Ex.drew ?_ | refine Ex.drewN ?_ _))).mono ?_; rintro e w1 ⟨rfl, l1, d1, rfl⟩)
  go_region
  all_goals go_wp2_with fail
  all_goals ((try simp only [Exit.inBlock, Exit.then]); (refine bodyPost_ret (v := .tuple #[zeroLot.val, .iface 160 (.pointer (some (E 6)))]) ?_ rfl ⟨rfl, H.out.keep (by repeat (first | exact Ex.refl _ | refine Ex.alloc ?_ _ | refine Ex.ext ?_ _ _ | refine Ex.drew ?_ | refine Ex.drewN ?_ _))⟩); simp only [results, Tryd.results32]; simp [go_sem, ↓IntWalk.iteOmega, zeroLot])
set_option maxRecDepth 100000 in
set_option maxHeartbeats 2000000 in
theorem cancel_in (h : BookAt own i w p l) (id : Int) (k : Nat) (hk : k < l.length) (hi : idIdx l id = (k : Int)) :
    Calls Tryd.prog 32 #[.pointer (some ⟨p, 0, none⟩), .int .i64 id] w fun e w' => e = .returned (.tuple #[l[k].val, .nilIface]) ∧ ObjTo own i i w (fun o w' => BookAt o i w' p (l.eraseIdx k)) w' := by
  have HF := Lib.hid (fun W (hx : Ex w W) => find_any (h.later hx) id)
  rw [hi] at HF
  have H := Lib.hid h
  obtain ⟨hb, hwf, v, h3⟩ := h
  obtain ⟨o, g1, g2, g3, g4⟩ := h3.pick
  obtain ⟨ao, cap, rfl, hcap, hcm, hca, _⟩ := h3.2.1.form
  obtain ⟨_, _, _, hz⟩ := lotsB_of_row hwf (by omega) rfl h3.2.1.1
  obtain ⟨g, off, rfl, hg, hcc⟩ := hz (by omega)
  have c0 := h3.cell0 (by decide)
  have f0 := h3.free 0
  have hp := h3.lt
  have hpg : p ≠ g := fun e => h3.2.2.2 (by rw [e]; rfl)
  have hzk := hcc k hk
  have a0 := hzk 0 (by omega)
  have a1 := hzk 1 (by omega)
  have a2 := hzk 2 (by omega)
  have a3 := hzk 3 (by omega)
  have a4 := hzk 4 (by omega)
  simp only [Lot.cells, List.getElem?_cons_zero, List.getElem?_cons_succ, Nat.add_zero] at a0 a1 a2 a3 a4
  have H3 := Lib.hid h3
  have HWF := Lib.hid hwf
  have HD := Lib.hid (fun W (hx : Ex w W) => delete_any (w := W) (g := g) (off := off) (cap := cap) rfl (h3.2.1.1.of_block (fun b hb => hx.below.block b (h3.2.1.1.lt b hb))) hk (by omega))
  generalize l[k] = x at *
  clear hz hcc hzk hi h3 hwf hca
  go_enter Tryd.func32, Tryd.ntmps32
  go_upto_region 5 with (go_at_call 42; refine (HF.out _ (by repeat (first | exact Ex.refl _ | refine Ex.alloc ?_ _ | refine Ex.ext ?_ _ _ | refine Ex.drew ?_ | refine Ex.drewN ?_ _))).mono ?_; rintro e w1 ⟨rfl, l1, d1, rfl⟩)
  go_wp2_with fail
  refine (HD.out _ (by repeat (first | exact Ex.refl _ | refine Ex.alloc ?_ _ | refine Ex.ext ?_ _ _ | refine Ex.drew ?_ | refine Ex.drewN ?_ _))).mono ?_
  rintro e w3 ⟨rfl, hr3, ho3⟩
  have hgw : g ≠ w.heap.size := by omega
  have hgx : g ≠ w.heap.size + 1 + l1.length := by omega
  have hpr : p ≠ w.heap.size := by omega
  have hxr : w.heap.size + 1 + l1.length ≠ w.heap.size := by omega
  have z3 : w3.heap.size = w.heap.size + 1 + l1.length + 1 := by rw [ho3.size]; simp [go_sem]
  have r0 : w3.cell? ⟨w.heap.size, 0, none⟩ = some (.int .i64 0) := by rw [ho3.cell (Ne.symm hgw)]; simp [go_sem, ↓IntWalk.iteOmega]
  have x0 : w3.cell? ⟨w.heap.size + 1 + l1.length, 0, none⟩ = some (.int .i64 x.id) := by rw [ho3.cell (Ne.symm hgx)]; simp [go_sem, ↓IntWalk.iteOmega]
  have rf0 : w3.frozen? ⟨w.heap.size, 0, none⟩ = false := by rw [ho3.frozen (Ne.symm hgw)]; simp [go_sem, ↓IntWalk.iteOmega]
  have r1 : w3.cell? ⟨w.heap.size, 1, none⟩ = some (.int .i64 0) := by rw [ho3.cell (Ne.symm hgw)]; simp [go_sem, ↓IntWalk.iteOmega]
  have x1 : w3.cell? ⟨w.heap.size + 1 + l1.length, 1, none⟩ = some (.int .i64 x.owner) := by rw [ho3.cell (Ne.symm hgx)]; simp [go_sem, ↓IntWalk.iteOmega]
  have rf1 : w3.frozen? ⟨w.heap.size, 1, none⟩ = false := by rw [ho3.frozen (Ne.symm hgw)]; simp [go_sem, ↓IntWalk.iteOmega]
  have r2 : w3.cell? ⟨w.heap.size, 2, none⟩ = some (.int .i64 0) := by rw [ho3.cell (Ne.symm hgw)]; simp [go_sem, ↓IntWalk.iteOmega]
  have x2 : w3.cell? ⟨w.heap.size + 1 + l1.length, 2, none⟩ = some (.int .i64 x.side) := by rw [ho3.cell (Ne.symm hgx)]; simp [go_sem, ↓IntWalk.iteOmega]
  have rf2 : w3.frozen? ⟨w.heap.size, 2, none⟩ = false := by rw [ho3.frozen (Ne.symm hgw)]; simp [go_sem, ↓IntWalk.iteOmega]
  have r3 : w3.cell? ⟨w.heap.size, 3, none⟩ = some (.int .i64 0) := by rw [ho3.cell (Ne.symm hgw)]; simp [go_sem, ↓IntWalk.iteOmega]
  have x3 : w3.cell? ⟨w.heap.size + 1 + l1.length, 3, none⟩ = some (.int .i64 x.price) := by rw [ho3.cell (Ne.symm hgx)]; simp [go_sem, ↓IntWalk.iteOmega]
  have rf3 : w3.frozen? ⟨w.heap.size, 3, none⟩ = false := by rw [ho3.frozen (Ne.symm hgw)]; simp [go_sem, ↓IntWalk.iteOmega]
  have r4 : w3.cell? ⟨w.heap.size, 4, none⟩ = some (.int .i64 0) := by rw [ho3.cell (Ne.symm hgw)]; simp [go_sem, ↓IntWalk.iteOmega]
  have x4 : w3.cell? ⟨w.heap.size + 1 + l1.length, 4, none⟩ = some (.int .i64 x.qty) := by rw [ho3.cell (Ne.symm hgx)]; simp [go_sem, ↓IntWalk.iteOmega]
  have rf4 : w3.frozen? ⟨w.heap.size, 4, none⟩ = false := by rw [ho3.frozen (Ne.symm hgw)]; simp [go_sem, ↓IntWalk.iteOmega]
  have pc : w3.cell? ⟨p, 0, none⟩ = some (.slice (some ⟨g, off, none⟩) l.length cap) := by rw [ho3.cell hpg]; simp [go_sem, ↓IntWalk.iteOmega, c0]
  have pf : w3.frozen? ⟨p, 0, none⟩ = false := by rw [ho3.frozen hpg]; simp [go_sem, ↓IntWalk.iteOmega, f0]
  have key : ObjTo own i i w (fun o w' => BookAt o i w' p (l.eraseIdx k)) ((((((w3.setCell ⟨p, 0, none⟩ (.slice (some ⟨g, off, none⟩) (l.length - 1) cap)).setCell ⟨w.heap.size, 0, none⟩ (.int .i64 x.id)).setCell ⟨w.heap.size, 1, none⟩ (.int .i64 x.owner)).setCell ⟨w.heap.size, 2, none⟩ (.int .i64 x.side)).setCell ⟨w.heap.size, 3, none⟩ (.int .i64 x.price)).setCell ⟨w.heap.size, 4, none⟩ (.int .i64 x.qty)) := by
    have hK0 : Kp o 2 1 w ((ext (w.alloc (.cells #[.int .i64 0, .int .i64 0, .int .i64 0, .int .i64 0, .int .i64 0] 56)) l1 d1).alloc (.cells #[.int .i64 x.id, .int .i64 x.owner, .int .i64 x.side, .int .i64 x.price, .int .i64 x.qty] 56)) := ((((Kp.refl _ _ _ _).alloc _).ext _ _).alloc _)
    have hog : o g = 2 := g1.2 g rfl
    have hK3 : Kp o 2 1 w w3 := hK0.trans ho3.os ho3.tape ho3.output (Nat.le_of_eq ho3.size.symm) (fun b hb hne => ho3.block b (fun e => hne (by rw [e, hog])))
    have hrb : w.heap.size < w.heap.size → o w.heap.size / 2 = 1 := fun h => absurd h (Nat.lt_irrefl _)
    have hKF : Kp o 2 1 w ((((((w3.setCell ⟨p, 0, none⟩ (.slice (some ⟨g, off, none⟩) (l.length - 1) cap)).setCell ⟨w.heap.size, 0, none⟩ (.int .i64 x.id)).setCell ⟨w.heap.size, 1, none⟩ (.int .i64 x.owner)).setCell ⟨w.heap.size, 2, none⟩ (.int .i64 x.side)).setCell ⟨w.heap.size, 3, none⟩ (.int .i64 x.price)).setCell ⟨w.heap.size, 4, none⟩ (.int .i64 x.qty)) := (((((hK3.setCell (fun _ => by rw [g2]) _).setCell hrb _).setCell hrb _).setCell hrb _).setCell hrb _).setCell hrb _
    obtain ⟨t, hmain⟩ := H3.out.main
    have hm3 : w3.rowIs p t 1 _ := hmain.of_block ((ho3.block p hpg).trans (((Ex.refl w).alloc _).ext _ _ |>.alloc _ |>.below.block p hp))
    have hmF := ((hm3.set 0 (.slice (some ⟨g, off, none⟩) (l.length - 1) cap)).congr (g := fun j => if j = 0 then .slice (some ⟨g, off, none⟩) (l.length - 1) cap else .nilIface) (fun j hj => by
      obtain rfl : j = 0 := by omega
      simp))
    refine book_end H.out H3.out g1 g2 g4 hKF (n' := l.length - 1) ⟨t, hmF.of_block ?_⟩ (hr3.of_block (fun b hb => ?_)) (by rw [List.length_eraseIdx_of_lt hk]) (fun y hy => HWF.out y (List.mem_of_mem_eraseIdx hy)) (by omega)
    · rw [Below.heap_setCell _ _ _ _ hpr, Below.heap_setCell _ _ _ _ hpr, Below.heap_setCell _ _ _ _ hpr, Below.heap_setCell _ _ _ _ hpr, Below.heap_setCell _ _ _ _ hpr]
    · cases hb
      rw [Below.heap_setCell _ _ _ _ hgw, Below.heap_setCell _ _ _ _ hgw, Below.heap_setCell _ _ _ _ hgw, Below.heap_setCell _ _ _ _ hgw, Below.heap_setCell _ _ _ _ hgw, Below.heap_setCell _ _ _ _ (Ne.symm hpg)]
  have KEY := Lib.hid key
  clear key hr3 ho3 HD
  go_wp2_with fail
  all_goals ((try simp only [Exit.inBlock, Exit.then]); (refine bodyPost_ret (v := .tuple #[x.val, .nilIface]) ?_ rfl ⟨rfl, KEY.out⟩); simp only [results, Tryd.results32]; simp [go_sem, ↓IntWalk.iteOmega, *])
set_option maxRecDepth 100000 in
set_option maxHeartbeats 2000000 in
theorem take_none (h : BookAt own i w p l) (id qty : Int) (E : Nat → Addr) (hE : Errs E [2, 6] w) (hi : idIdx l id = -1) :
    Calls Tryd.prog 59 #[.pointer (some ⟨p, 0, none⟩), .int .i64 id, .int .i64 qty] w fun e w' => e = .returned (errV E 6) ∧ ObjTo own i i w (fun o w' => BookAt o i w' p (l)) w' := by
  have HF := Lib.hid (fun W (hx : Ex w W) => find_any (h.later hx) id)
  rw [hi] at HF
  have H := Lib.hid h
  have e6 : w.cell? ⟨1, 0, none⟩ = some (.iface 160 (.pointer (some (E 6)))) := hE 6 (by decide)
  have b6 : 1 < w.heap.size := lt_of_cell e6
  clear hE hi h
  rw [errV_pos E 6 (by decide)]
  go_enter Tryd.func59, Tryd.ntmps59
  go_wp2_with (go_at_call 42; refine (HF.out _ (by repeat (first | exact Ex.refl _ | refine Ex.alloc ?_ _ | refine Ex.ext ?_ _ _ | refine Ex.drew ?_ | refine Ex.drewN ?_ _))).mono ?_; rintro e w1 ⟨rfl, l1, d1, rfl⟩)
  all_goals go_ret
  all_goals exact ⟨rfl, H.out.keep (by repeat (first | exact Ex.refl _ | refine Ex.alloc ?_ _ | refine Ex.ext ?_ _ _ | refine Ex.drew ?_ | refine Ex.drewN ?_ _))⟩
set_option maxRecDepth 100000 in
set_option maxHeartbeats 2000000 in
theorem take_bound (h : BookAt own i w p l) (id qty : Int) (E : Nat → Addr) (hE : Errs E [2, 6] w) (k : Nat) (hk : k < l.length) (hi : idIdx l id = (k : Int)) (hq : qty < 1 ∨ l[k].qty < qty) :
    Calls Tryd.prog 59 #[.pointer (some ⟨p, 0, none⟩), .int .i64 id, .int .i64 qty] w fun e w' => e = .returned (errV E 2) ∧ ObjTo own i i w (fun o w' => BookAt o i w' p (l)) w' := by
  have HF := Lib.hid (fun W (hx : Ex w W) => find_any (h.later hx) id)
  rw [hi] at HF
  have H := Lib.hid h
  obtain ⟨hb, hwf, v, h3⟩ := h
  obtain ⟨o, g1, g2, g3, g4⟩ := h3.pick
  obtain ⟨ao, cap, rfl, hcap, hcm, hca, _⟩ := h3.2.1.form
  obtain ⟨_, _, _, hz⟩ := lotsB_of_row hwf (by omega) rfl h3.2.1.1
  obtain ⟨g, off, rfl, hg, hcc⟩ := hz (by omega)
  have c0 := h3.cell0 (by decide)
  have f0 := h3.free 0
  have hp := h3.lt
  have hpg : p ≠ g := fun e => h3.2.2.2 (by rw [e]; rfl)
  have a4 := hcc k hk 4 (by omega)
  simp only [Lot.cells, List.getElem?_cons_zero, List.getElem?_cons_succ, Nat.add_zero] at a4
  have e2 : w.cell? ⟨0, 0, none⟩ = some (.iface 160 (.pointer (some (E 2)))) := hE 2 (by decide)
  have b2 : 0 < w.heap.size := lt_of_cell e2
  clear hE hi h3 hcc hz
  generalize l[k].qty = q at *
  rw [errV_pos E 2 (by decide)]
  by_cases h1 : qty < 1
  · have t1 : decide (qty < 1) = true := decide_eq_true h1
    go_enter Tryd.func59, Tryd.ntmps59
    go_wp2_with (go_at_call 42; refine (HF.out _ (by repeat (first | exact Ex.refl _ | refine Ex.alloc ?_ _ | refine Ex.ext ?_ _ _ | refine Ex.drew ?_ | refine Ex.drewN ?_ _))).mono ?_; rintro e w1 ⟨rfl, l1, d1, rfl⟩)
    all_goals go_ret
    all_goals exact ⟨rfl, H.out.keep (by repeat (first | exact Ex.refl _ | refine Ex.alloc ?_ _ | refine Ex.ext ?_ _ _ | refine Ex.drew ?_ | refine Ex.drewN ?_ _))⟩
  · have t1 : decide (qty < 1) = false := decide_eq_false h1
    have t2 : decide (q < qty) = true := decide_eq_true (by omega)
    go_enter Tryd.func59, Tryd.ntmps59
    go_wp2_with (go_at_call 42; refine (HF.out _ (by repeat (first | exact Ex.refl _ | refine Ex.alloc ?_ _ | refine Ex.ext ?_ _ _ | refine Ex.drew ?_ | refine Ex.drewN ?_ _))).mono ?_; rintro e w1 ⟨rfl, l1, d1, rfl⟩)
    all_goals go_ret
    all_goals exact ⟨rfl, H.out.keep (by repeat (first | exact Ex.refl _ | refine Ex.alloc ?_ _ | refine Ex.ext ?_ _ _ | refine Ex.drew ?_ | refine Ex.drewN ?_ _))⟩
set_option maxRecDepth 100000 in
set_option maxHeartbeats 2000000 in
theorem take_less (h : BookAt own i w p l) (id qty : Int) (k : Nat) (hk : k < l.length) (hi : idIdx l id = (k : Int)) (hq : 1 ≤ qty) (hq2 : qty < l[k].qty) :
    Calls Tryd.prog 59 #[.pointer (some ⟨p, 0, none⟩), .int .i64 id, .int .i64 qty] w fun e w' => e = .returned (.nilIface) ∧ ObjTo own i i w (fun o w' => BookAt o i w' p (l.set k (l[k].less qty))) w' := by
  have HF := Lib.hid (fun W (hx : Ex w W) => find_any (h.later hx) id)
  rw [hi] at HF
  have H := Lib.hid h
  obtain ⟨hb, hwf, v, h3⟩ := h
  obtain ⟨o, g1, g2, g3, g4⟩ := h3.pick
  obtain ⟨ao, cap, rfl, hcap, hcm, hca, _⟩ := h3.2.1.form
  obtain ⟨_, _, _, hz⟩ := lotsB_of_row hwf (by omega) rfl h3.2.1.1
  obtain ⟨g, off, rfl, hg, hcc⟩ := hz (by omega)
  have c0 := h3.cell0 (by decide)
  have f0 := h3.free 0
  have hp := h3.lt
  have hpg : p ≠ g := fun e => h3.2.2.2 (by rw [e]; rfl)
  have a4 := hcc k hk 4 (by omega)
  simp only [Lot.cells, List.getElem?_cons_zero, List.getElem?_cons_succ, Nat.add_zero] at a4
  have fg : w.frozen? ⟨g, off + k * 5 + 4, none⟩ = false := by
    obtain ⟨_, ⟨hv0, _⟩ | ⟨g', off', cap', cur, hv0, ⟨fr, hgg, hf⟩, hnc, hm, hs, _⟩⟩ := h3.2.1.1
    · cases hv0
    · cases hv0
      have hcn : l.length * 5 ≤ cap * 5 := Nat.mul_le_mul_right _ hnc
      exact hf.frozen hgg (by omega)
  have hqw := (hwf l[k] (List.getElem_mem hk))
  have hqb : l[k].qty ≤ 9223372036854775807 := by have := hqw.2.2.2.2; simp [Lit.wf, IntKind.min, IntKind.max, IntKind.signed, IntKind.bits] at this; omega
  have hlw : (l[k].less qty).wf := ⟨hqw.1, hqw.2.1, hqw.2.2.1, hqw.2.2.2.1, by show (Lit.int .i64 (l[k].qty - qty)).wf = true; simp [Lit.wf, IntKind.min, IntKind.max, IntKind.signed, IntKind.bits]; omega⟩
  obtain ⟨hrs, hos⟩ := row_set (P := Tryd.prog) rfl h3.2.1.1 hk qty
  have key : ∀ (l1 : List Obj) (d1 : Nat), ObjTo own i i w (fun o w' => BookAt o i w' p (l.set k (l[k].less qty))) (ext (w.setCell ⟨g, off + k * 5 + 4, none⟩ (.int .i64 (l[k].qty - qty))) l1 d1) := fun l1 d1 => by
    have hog : o g = 2 := g1.2 g rfl
    obtain ⟨t, hmain⟩ := h3.main
    refine book_end H.out h3 g1 g2 g4 (((Kp.refl _ _ _ _).setCell (fun _ => by show o g / 2 = 1; rw [hog]) _).ext _ _) (n' := l.length) ⟨t, rowIs_ext (hmain.of_block (hos.block p hpg)) _ _⟩ (hrs.of_block (fun b hb => ?_)) (by simp) (fun y hy => ?_) hb
    · cases hb
      exact ext_heap_lt _ _ _ _ (by rw [hos.size]; exact hg)
    · rcases List.mem_or_eq_of_mem_set hy with h | rfl
      · exact hwf y h
      · exact hlw
  have KEY := Lib.hid key
  clear key hi h3 hcc hz hrs hos hlw hqw hwf hca
  generalize l[k].less qty = x' at *
  generalize l[k].qty = q at *
  have t1 : decide (qty < 1) = false := decide_eq_false (by omega)
  have t2 : decide (q < qty) = false := decide_eq_false (by omega)
  have t3 : (q - qty == 0) = false := by rw [beq_eq_false_iff_ne]; omega
  have t4 : ¬ q - qty = 0 := by omega
  have hw : IntKind.i64.wrap (q - qty) = q - qty := IntWalk.i64_in _ (by omega)
  go_enter Tryd.func59, Tryd.ntmps59
  go_wp2_with (go_at_call 42; refine (HF.out _ (by repeat (first | exact Ex.refl _ | refine Ex.alloc ?_ _ | refine Ex.ext ?_ _ _ | refine Ex.drew ?_ | refine Ex.drewN ?_ _))).mono ?_; rintro e w1 ⟨rfl, l1, d1, rfl⟩)
  all_goals go_ret
  all_goals exact ⟨rfl, KEY.out l1 d1⟩
set_option maxRecDepth 100000 in
set_option maxHeartbeats 2000000 in
theorem take_all (h : BookAt own i w p l) (id qty : Int) (k : Nat) (hk : k < l.length) (hi : idIdx l id = (k : Int)) (hq : 1 ≤ qty) (hq2 : qty = l[k].qty) :
    Calls Tryd.prog 59 #[.pointer (some ⟨p, 0, none⟩), .int .i64 id, .int .i64 qty] w fun e w' => e = .returned (.nilIface) ∧ ObjTo own i i w (fun o w' => BookAt o i w' p (l.eraseIdx k)) w' := by
  have HF := Lib.hid (fun W (hx : Ex w W) => find_any (h.later hx) id)
  rw [hi] at HF
  have H := Lib.hid h
  obtain ⟨hb, hwf, v, h3⟩ := h
  obtain ⟨o, g1, g2, g3, g4⟩ := h3.pick
  obtain ⟨ao, cap, rfl, hcap, hcm, hca, _⟩ := h3.2.1.form
  obtain ⟨_, _, _, hz⟩ := lotsB_of_row hwf (by omega) rfl h3.2.1.1
  obtain ⟨g, off, rfl, hg, hcc⟩ := hz (by omega)
  have c0 := h3.cell0 (by decide)
  have f0 := h3.free 0
  have hp := h3.lt
  have hpg : p ≠ g := fun e => h3.2.2.2 (by rw [e]; rfl)
  have a4 := hcc k hk 4 (by omega)
  simp only [Lot.cells, List.getElem?_cons_zero, List.getElem?_cons_succ, Nat.add_zero] at a4
  have fg : w.frozen? ⟨g, off + k * 5 + 4, none⟩ = false := by
    obtain ⟨_, ⟨hv0, _⟩ | ⟨g', off', cap', cur, hv0, ⟨fr, hgg, hf⟩, hnc, hm, hs, _⟩⟩ := h3.2.1.1
    · cases hv0
    · cases hv0
      have hcn : l.length * 5 ≤ cap * 5 := Nat.mul_le_mul_right _ hnc
      exact hf.frozen hgg (by omega)
  subst hq2
  have hqw := (hwf l[k] (List.getElem_mem hk))
  have hqb : l[k].qty ≤ 9223372036854775807 := by have := hqw.2.2.2.2; simp [Lit.wf, IntKind.min, IntKind.max, IntKind.signed, IntKind.bits] at this; omega
  obtain ⟨hrs, hos⟩ := row_set (P := Tryd.prog) rfl h3.2.1.1 hk l[k].qty
  rw [Int.sub_self] at hrs hos
  have HD := Lib.hid (fun l1 d1 => delete_any (w := (ext (w.setCell ⟨g, off + k * 5 + 4, none⟩ (.int .i64 0)) l1 d1)) (g := g) (off := off) (cap := cap) (n := l.length) (l := l.set k (l[k].less l[k].qty)) (by simp) (hrs.of_block (fun b hb => by cases hb; exact ext_heap_lt _ _ _ _ (by rw [hos.size]; exact hg))) hk (by omega))
  have key : ∀ (l1 : List Obj) (d1 : Nat) (w3 : World), RowAt w3 56 5 (.slice (some ⟨g, off, none⟩) (l.length - 1) cap) (l.length - 1) (flat Lot.cells ((l.set k (l[k].less l[k].qty)).eraseIdx k)) → OnlyAt g (ext (w.setCell ⟨g, off + k * 5 + 4, none⟩ (.int .i64 0)) l1 d1) w3 →
      ObjTo own i i w (fun o w' => BookAt o i w' p (l.eraseIdx k)) (w3.setCell ⟨p, 0, none⟩ (.slice (some ⟨g, off, none⟩) (l.length - 1) cap)) := fun l1 d1 w3 hr3 ho3 => by
    have hog : o g = 2 := g1.2 g rfl
    have he : (l.set k (l[k].less l[k].qty)).eraseIdx k = l.eraseIdx k := by simp [List.eraseIdx_set_eq]
    rw [he] at hr3
    have hK0 : Kp o 2 1 w (ext (w.setCell ⟨g, off + k * 5 + 4, none⟩ (.int .i64 0)) l1 d1) := ((Kp.refl _ _ _ _).setCell (fun _ => by show o g / 2 = 1; rw [hog]) _).ext _ _
    have hK3 : Kp o 2 1 w w3 := hK0.trans ho3.os ho3.tape ho3.output (Nat.le_of_eq ho3.size.symm) (fun b hb hne => ho3.block b (fun e => hne (by rw [e, hog])))
    obtain ⟨t, hmain⟩ := h3.main
    have hm3 : w3.rowIs p t 1 _ := hmain.of_block ((ho3.block p hpg).trans ((ext_heap_lt _ _ _ _ (by rw [hos.size]; exact hp)).trans (hos.block p hpg)))
    refine book_end H.out h3 g1 g2 g4 (hK3.setCell (fun _ => by rw [g2]) _) (n' := l.length - 1) ⟨t, (hm3.set 0 (.slice (some ⟨g, off, none⟩) (l.length - 1) cap)).congr (fun j hj => by
      obtain rfl : j = 0 := by omega
      simp)⟩ (hr3.of_block (fun b hb => by cases hb; exact Below.heap_setCell _ _ _ _ (Ne.symm hpg))) (by rw [List.length_eraseIdx_of_lt hk]) (fun y hy => hwf y (List.mem_of_mem_eraseIdx hy)) (by omega)
  have KEY := Lib.hid key
  clear key hi h3 hcc hz hrs hos hqw hwf hca
  generalize l[k].less l[k].qty = x' at *
  generalize l[k].qty = q at *
  have t1 : decide (q < 1) = false := decide_eq_false (by omega)
  have t2 : decide (q < q) = false := decide_eq_false (by omega)
  have t3 : q - q = 0 := Int.sub_self q
  have hw : IntKind.i64.wrap (q - q) = 0 := by rw [t3]; rfl
  go_enter Tryd.func59, Tryd.ntmps59
  go_wp2_with (go_at_call 42; refine (HF.out _ (by repeat (first | exact Ex.refl _ | refine Ex.alloc ?_ _ | refine Ex.ext ?_ _ _ | refine Ex.drew ?_ | refine Ex.drewN ?_ _))).mono ?_; rintro e w1 ⟨rfl, l1, d1, rfl⟩)
  refine (HD.out l1 d1).mono ?_
  rintro e w3 ⟨rfl, hr3, ho3⟩
  have pc : w3.cell? ⟨p, 0, none⟩ = some (.slice (some ⟨g, off, none⟩) l.length cap) := by rw [ho3.cell hpg]; simp [go_sem, ↓IntWalk.iteOmega, c0, hpg]
  have pf : w3.frozen? ⟨p, 0, none⟩ = false := by rw [ho3.frozen hpg]; simp [go_sem, ↓IntWalk.iteOmega, f0, hpg]
  have KF := Lib.hid (KEY.out l1 d1 w3 hr3 ho3)
  clear hr3 ho3 HD
  go_wp2_with fail
  all_goals go_ret
  all_goals exact ⟨rfl, KF.out⟩
end
end Go.Proofs.YtmbboflakfokhaaDoor
