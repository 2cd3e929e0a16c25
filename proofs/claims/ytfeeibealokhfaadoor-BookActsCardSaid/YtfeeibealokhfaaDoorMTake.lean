/- The document's book: what Take computes. -/
import Derived.Test.YtfeeibealokhfaaDoorMCan
set_option linter.unusedSimpArgs false
set_option linter.unusedVariables false
namespace Go.Proofs.YtfeeibealokhfaaDoor
open Go.RowKit

theorem flat_put (l : List Lot) (k : Nat) (hk : k < l.length) (y : Lot) : flat Lot.cells (l.set k y) = (((((flat Lot.cells l).set (k * 5) (.int .i64 y.id)).set (k * 5 + 1) (.int .i64 y.owner)).set (k * 5 + 2) (.int .i64 y.side)).set (k * 5 + 3) (.int .i64 y.price)).set (k * 5 + 4) (.int .i64 y.qty) := by
  apply List.ext_getElem?
  intro n
  have e1 := flat_length lotc_len (l.set k y)
  have e2 := flat_length lotc_len l
  rw [List.length_set] at e1
  by_cases hn : n < l.length * 5
  · have ha : n / 5 < l.length := by omega
    have hm : n / 5 * 5 + n % 5 = n := by omega
    have h5 : n % 5 < 5 := by omega
    have f1 := flat_get lotc_len (l.set k y) (n / 5) (by rw [List.length_set]; exact ha) (n % 5) h5
    have f2 := flat_get lotc_len l (n / 5) ha (n % 5) h5
    rw [hm] at f1 f2
    rw [f1]
    by_cases hk5 : n / 5 = k
    · subst hk5
      have : n % 5 = 0 ∨ n % 5 = 1 ∨ n % 5 = 2 ∨ n % 5 = 3 ∨ n % 5 = 4 := by omega
      simp only [List.getElem_set_self]
      rcases this with h | h | h | h | h
      · rw [List.getElem?_set_ne (by omega), List.getElem?_set_ne (by omega), List.getElem?_set_ne (by omega), List.getElem?_set_ne (by omega), List.getElem?_set, if_pos (by omega), if_pos (by rw [e2]; omega), h]; rfl
      · rw [List.getElem?_set_ne (by omega), List.getElem?_set_ne (by omega), List.getElem?_set_ne (by omega), List.getElem?_set, if_pos (by omega), if_pos (by simp only [List.length_set]; rw [e2]; omega), h]; rfl
      · rw [List.getElem?_set_ne (by omega), List.getElem?_set_ne (by omega), List.getElem?_set, if_pos (by omega), if_pos (by simp only [List.length_set]; rw [e2]; omega), h]; rfl
      · rw [List.getElem?_set_ne (by omega), List.getElem?_set, if_pos (by omega), if_pos (by simp only [List.length_set]; rw [e2]; omega), h]; rfl
      · rw [List.getElem?_set, if_pos (by omega), if_pos (by simp only [List.length_set]; rw [e2]; omega), h]; rfl
    · rw [List.getElem?_set_ne (by omega), List.getElem?_set_ne (by omega), List.getElem?_set_ne (by omega), List.getElem?_set_ne (by omega), List.getElem?_set_ne (by omega), f2, List.getElem_set_ne (by omega)]
  · rw [List.getElem?_eq_none (by omega), List.getElem?_eq_none (by simp only [List.length_set]; omega)]
/-- A lot stored into a row of the call's own. -/
theorem own_put {w : World} {base : Nat} {e : TypeId} {g n cap : Nat} {l : List Lot} {k : Nat} (y : Lot) (h : w.ownsRow base e 5 (.slice (some ⟨g, 0, none⟩) n cap) n (flat Lot.cells l)) (hl : l.length = n) (hk : k < l.length) :
    (((((w.setCell ⟨g, k * 5, none⟩ (.int .i64 y.id)).setCell ⟨g, k * 5 + 1, none⟩ (.int .i64 y.owner)).setCell ⟨g, k * 5 + 2, none⟩ (.int .i64 y.side)).setCell ⟨g, k * 5 + 3, none⟩ (.int .i64 y.price)).setCell ⟨g, k * 5 + 4, none⟩ (.int .i64 y.qty)).ownsRow base e 5 (.slice (some ⟨g, 0, none⟩) n cap) n (flat Lot.cells (l.set k y)) := by
  rcases h.2 with ⟨e0, _⟩ | ⟨g', cap', cur, e0, hb, hg, hn, hm, hs, ht⟩
  · cases e0
  · obtain ⟨rfl, rfl⟩ : g = g' ∧ cap = cap' := by cases e0; exact ⟨rfl, rfl⟩
    clear e0
    have h0 := heap_setCell_same _ g (k * 5) _ _ (.int .i64 y.id) hg
    have h1 := heap_setCell_same _ g (k * 5 + 1) _ _ (.int .i64 y.owner) h0
    have h2 := heap_setCell_same _ g (k * 5 + 2) _ _ (.int .i64 y.side) h1
    have h3 := heap_setCell_same _ g (k * 5 + 3) _ _ (.int .i64 y.price) h2
    have h4 := heap_setCell_same _ g (k * 5 + 4) _ _ (.int .i64 y.qty) h3
    clear h0 h1 h2 h3
    generalize (((((w.setCell ⟨g, k * 5, none⟩ (.int .i64 y.id)).setCell ⟨g, k * 5 + 1, none⟩ (.int .i64 y.owner)).setCell ⟨g, k * 5 + 2, none⟩ (.int .i64 y.side)).setCell ⟨g, k * 5 + 3, none⟩ (.int .i64 y.price)).setCell ⟨g, k * 5 + 4, none⟩ (.int .i64 y.qty)) = w5 at h4 ⊢
    refine ⟨by rw [flat_length lotc_len, List.length_set, hl], .inr ⟨g, cap, _, rfl, hb, h4, hn, hm, by simp only [Array.size_setIfInBounds]; exact hs, ?_⟩⟩
    rw [flat_put l k hk y, ← ht]
    simp only [Array.toList_setIfInBounds, List.take_set]
section
variable {own : Nat → Nat} {i : Nat} {w : World} {p : Nat} {l : List Lot}
set_option maxRecDepth 100000 in
theorem mtake_none (h : BookAt own i w p l) (id qty : Int) (hi : idIdx l id = -1) :
    Calls Tryd.prog 51 #[.pointer (some ⟨p, 0, none⟩), .int .i64 id, .int .i64 qty] w fun e w' => e = .returned (.int .i64 6) ∧ ObjTo own i i w (fun o w' => BookAt o i w' p l) w' := by
  have HF := Lib.hid (fun W (hx : Ex w W) => mfind_any (h.later hx) id)
  rw [hi] at HF
  have H := Lib.hid h
  clear hi h
  go_enter Tryd.func51, Tryd.ntmps51
  go_wp2_with (go_at_call 53; refine (HF.out _ (by repeat (first | exact Ex.refl _ | refine Ex.alloc ?_ _ | refine Ex.ext ?_ _ _ | refine Ex.drew ?_ | refine Ex.drewN ?_ _))).mono ?_; rintro e w1 ⟨rfl, l1, d1, rfl⟩)
  all_goals go_ret
  all_goals exact ⟨rfl, H.out.keep (by repeat (first | exact Ex.refl _ | refine Ex.alloc ?_ _ | refine Ex.ext ?_ _ _ | refine Ex.drew ?_ | refine Ex.drewN ?_ _))⟩
set_option maxRecDepth 100000 in
theorem mtake_bound (h : BookAt own i w p l) (id qty : Int) (k : Nat) (hk : k < l.length) (hi : idIdx l id = (k : Int)) (hq : qty < 1 ∨ l[k].qty < qty) :
    Calls Tryd.prog 51 #[.pointer (some ⟨p, 0, none⟩), .int .i64 id, .int .i64 qty] w fun e w' => e = .returned (.int .i64 2) ∧ ObjTo own i i w (fun o w' => BookAt o i w' p l) w' := by
  have HF := Lib.hid (fun W (hx : Ex w W) => mfind_any (h.later hx) id)
  rw [hi] at HF
  have H := Lib.hid h
  obtain ⟨ao, cap, c0, hc, hm, h0, hl, hr⟩ := h.slice
  have hp := h.lt
  have hb := h.1
  obtain ⟨_, _, _, hz⟩ := hl
  obtain ⟨g, off, rfl, hg, hcc⟩ := hz (by omega)
  have hzk := hcc k hk
  have a0 := hzk 0 (by omega)
  have a1 := hzk 1 (by omega)
  have a2 := hzk 2 (by omega)
  have a3 := hzk 3 (by omega)
  have a4 := hzk 4 (by omega)
  simp only [Lot.cells, List.getElem?_cons_zero, List.getElem?_cons_succ, Nat.add_zero] at a0 a1 a2 a3 a4
  generalize l[k] = x at *
  clear hz hcc hzk hi h hr h0
  by_cases hq1 : qty < 1
  · clear hq
    go_enter Tryd.func51, Tryd.ntmps51
    go_wp2_with (go_at_call 53; refine (HF.out _ (by repeat (first | exact Ex.refl _ | refine Ex.alloc ?_ _ | refine Ex.ext ?_ _ _ | refine Ex.drew ?_ | refine Ex.drewN ?_ _))).mono ?_; rintro e w1 ⟨rfl, l1, d1, rfl⟩)
    all_goals go_ret
    all_goals exact ⟨rfl, H.out.keep (by repeat (first | exact Ex.refl _ | refine Ex.alloc ?_ _ | refine Ex.ext ?_ _ _ | refine Ex.drew ?_ | refine Ex.drewN ?_ _))⟩
  · have hq2 : x.qty < qty := by omega
    clear hq
    go_enter Tryd.func51, Tryd.ntmps51
    go_wp2_with (go_at_call 53; refine (HF.out _ (by repeat (first | exact Ex.refl _ | refine Ex.alloc ?_ _ | refine Ex.ext ?_ _ _ | refine Ex.drew ?_ | refine Ex.drewN ?_ _))).mono ?_; rintro e w1 ⟨rfl, l1, d1, rfl⟩)
    all_goals go_ret
    all_goals exact ⟨rfl, H.out.keep (by repeat (first | exact Ex.refl _ | refine Ex.alloc ?_ _ | refine Ex.ext ?_ _ _ | refine Ex.drew ?_ | refine Ex.drewN ?_ _))⟩
set_option maxRecDepth 100000 in
theorem mtake_all (h : BookAt own i w p l) (id qty : Int) (k : Nat) (hk : k < l.length) (hi : idIdx l id = (k : Int)) (hq : 1 ≤ qty) (hq2 : qty = l[k].qty) :
    Calls Tryd.prog 51 #[.pointer (some ⟨p, 0, none⟩), .int .i64 id, .int .i64 qty] w fun e w' => e = .returned (.int .i64 0) ∧ ObjTo own i i w (fun o w' => BookAt o i w' p (l.eraseIdx k)) w' := by
  have HF := Lib.hid (fun W (hx : Ex w W) => mfind_any (h.later hx) id)
  rw [hi] at HF
  have HO := Lib.hid (fun W (hx : Ex w W) => (moff_any (h.later hx) k hk).mono fun e w' k => (⟨k.1, ObjTo.after hx k.2 (fun o o' ho hb => hb.relabel ho)⟩ : e = .returned (.tuple #[]) ∧ ObjTo own i i w (fun o w' => BookAt o i w' p (l.eraseIdx _)) w'))
  obtain ⟨ao, cap, c0, hc, hm, h0, hl, hr⟩ := h.slice
  have hp := h.lt
  have hb := h.1
  obtain ⟨_, _, _, hz⟩ := hl
  obtain ⟨g, off, rfl, hg, hcc⟩ := hz (by omega)
  have hzk := hcc k hk
  have a0 := hzk 0 (by omega)
  have a1 := hzk 1 (by omega)
  have a2 := hzk 2 (by omega)
  have a3 := hzk 3 (by omega)
  have a4 := hzk 4 (by omega)
  simp only [Lot.cells, List.getElem?_cons_zero, List.getElem?_cons_succ, Nat.add_zero] at a0 a1 a2 a3 a4
  generalize l[k] = x at *
  have e1 : (qty == x.qty) = true := by simp [hq2]
  have k3 : ¬ qty < 1 := by omega
  have k4 : ¬ x.qty < qty := by omega
  clear hz hcc hzk hi h hr h0 hq2
  go_enter Tryd.func51, Tryd.ntmps51
  go_wp2_with (first
    | (go_at_call 53; refine (HF.out _ (by repeat (first | exact Ex.refl _ | refine Ex.alloc ?_ _ | refine Ex.ext ?_ _ _ | refine Ex.drew ?_ | refine Ex.drewN ?_ _))).mono ?_; rintro e w1 ⟨rfl, l1, d1, rfl⟩)
    | (go_at_call 79; refine (HO.out _ (by repeat (first | exact Ex.refl _ | refine Ex.alloc ?_ _ | refine Ex.ext ?_ _ _ | refine Ex.drew ?_ | refine Ex.drewN ?_ _))).mono ?_; rintro e w3 ⟨rfl, hT⟩))
  all_goals go_ret
  all_goals exact ⟨rfl, hT⟩
end
end Go.Proofs.YtfeeibealokhfaaDoor
