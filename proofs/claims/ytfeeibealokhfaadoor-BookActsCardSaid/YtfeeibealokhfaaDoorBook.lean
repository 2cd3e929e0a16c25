/- A book of lots that rest. What New, find and Lots of package book compute. -/
import Derived.Test.YtfeeibealokhfaaDoorOne
import Derived.Test.YtfeeibealokhfaaDoorGrown
import Derived.Test.YtfeeibealokhfaaDoorBFind
import Derived.Deep.AppendLies
import Derived.Lib.SliceRun
set_option linter.unusedSimpArgs false
set_option linter.unusedVariables false
namespace Go.Proofs.YtfeeibealokhfaaDoor
open Go.RowKit

theorem lotc_len (x : Lot) : x.cells.length = 5 := rfl
theorem lot_one (l : List Lot) : ∀ u ∈ flat Lot.cells l, u.oneCell' = true := by
  intro u hu
  obtain ⟨x, _, hx⟩ := List.mem_flatMap.1 hu
  simp only [Lot.cells, List.mem_cons, List.not_mem_nil, or_false] at hx
  rcases hx with rfl | rfl | rfl | rfl | rfl <;> rfl
/-- A row of lots, read as a slice. -/
theorem lots_of_row {w : World} {e : TypeId} {ao : Option Addr} {n cap : Nat} {l : List Lot} (hwf : ∀ a ∈ l, a.wf) (hn : n ≤ 9223372036854775807) (hl : l.length = n) (h : RowAt w e 5 (.slice ao n cap) n (flat Lot.cells l)) : LotsAt w ao n l := by
  refine ⟨hl, hn, hwf, fun h0 => ?_⟩
  have h' := h
  obtain ⟨_, ⟨hv, hz⟩ | ⟨g, off, cap', cur, hv, ⟨fr, hg, _⟩, _⟩⟩ := h
  · omega
  · cases hv
    refine ⟨g, off, rfl, (Array.getElem?_eq_some_iff.1 hg).1, fun k hk j hj => ?_⟩
    rw [Nat.add_assoc, h'.cell (j := k * 5 + j) (by omega), flat_get lotc_len l k hk j hj]
/-- A book: its lots. -/
def BookAt (own : Nat → Nat) (i : Nat) (w : World) (p : Nat) (l : List Lot) : Prop := l.length ≤ 60 ∧ (∀ x ∈ l, x.wf) ∧ ∃ v, OneAt own i w p 1 (fun _ => .nilIface) 24 5 v l.length (flat Lot.cells l)
section
variable {own own' : Nat → Nat} {i m g : Nat} {w w' : World} {p : Nat} {l : List Lot}
theorem BookAt.lt (h : BookAt own i w p l) : p < w.heap.size := by obtain ⟨_, _, v, h⟩ := h; exact h.lt
theorem BookAt.free (h : BookAt own i w p l) (j : Nat) : w.frozen? ⟨p, j, none⟩ = false := by obtain ⟨_, _, v, h⟩ := h; exact h.free j
theorem BookAt.kp (h : BookAt own i w p l) (hk : Kp own m g w w') (hi : i / m ≠ g) (ho : ∀ n, n < w.heap.size → own n = i → own' n = i) : BookAt own' i w' p l := by
  obtain ⟨h1, h2, v, h3⟩ := h
  exact ⟨h1, h2, v, h3.kp hk hi ho⟩
theorem BookAt.relabel (h : BookAt own i w p l) (ho : ∀ n, n < w.heap.size → own n = i → own' n = i) : BookAt own' i w p l := h.kp (m := 1) (g := i + 1) (Kp.refl _ _ _ _) (by simp) ho
theorem BookAt.later (h : BookAt own i w p l) (hx : Ex w w') : BookAt own i w' p l := by
  obtain ⟨h1, h2, v, h3⟩ := h
  exact ⟨h1, h2, v, h3.later hx⟩
theorem BookAt.keep (h : BookAt own i w p l) (hx : Ex w w') : ObjTo own i i w (fun o w' => BookAt o i w' p l) w' := ObjTo.of_ex hx ((h.relabel (fun n hn e => by rw [lab_lt hn]; exact e)).later hx)
theorem BookAt.slice (h : BookAt own i w p l) : ∃ ao cap, w.cell? ⟨p, 0, none⟩ = some (.slice ao l.length cap) ∧ l.length ≤ cap ∧ cap ≤ maxLen ∧ (ao = none → cap = 0) ∧ LotsAt w ao l.length l ∧ RowAt w 24 5 (.slice ao l.length cap) l.length (flat Lot.cells l) := by
  obtain ⟨h1, h2, v, h3⟩ := h
  obtain ⟨ao, cap, rfl, hc, hm, h0, _⟩ := h3.2.1.form
  exact ⟨ao, cap, h3.cell0 (by decide), hc, hm, h0, lots_of_row h2 (by omega) rfl h3.2.1.1, h3.2.1.1⟩
end
theorem BookAt.fresh (own : Nat → Nat) (i : Nat) (w : World) (t : TypeId) (hp : own w.heap.size = i) : BookAt own i (w.alloc (.cells #[.slice none 0 0] t)) w.heap.size [] := by
  refine ⟨by simp, fun x hx => by simp at hx, .slice none 0 0, ⟨t, ?_⟩, OwnRow.nil _ _ _ _ _, hp, fun e => by cases e⟩
  have h := World.rowIs_alloc w #[.slice none 0 0] t (fun j => if j = 0 then .slice none 0 0 else .nilIface) (fun j hj => by
    have : j = 0 := by simp at hj; exact hj
    subst this; simp)
  simpa using h
set_option maxRecDepth 100000 in
theorem bookNew (own : Nat → Nat) (i : Nat) (w : World) : Calls Tryd.prog 26 #[] w fun e w' => e = .returned (.pointer (some ⟨w.heap.size, 0, none⟩)) ∧ ObjTo own i i w (fun o w' => BookAt o i w' w.heap.size []) w' := by
  go_enter Tryd.func26, Tryd.ntmps26
  go_wp2
  all_goals go_ret
  all_goals exact ⟨rfl, ObjTo.of (by repeat (first | exact Kp.refl _ _ _ _ | (refine Kp.alloc ?_ _) | (refine Kp.drew ?_) | (refine Kp.drewN ?_ _) | (refine Kp.ext ?_ _ _))) (BookAt.fresh _ _ _ _ (by simp [lab]))⟩
section
variable {own : Nat → Nat} {i : Nat} {w : World} {p : Nat} {l : List Lot}
set_option maxRecDepth 100000 in
theorem find_any (h : BookAt own i w p l) (id : Int) : Calls Tryd.prog 69 #[.pointer (some ⟨p, 0, none⟩), .int .i64 id] w fun e w' => e = .returned (.int .i64 (idIdx l id)) ∧ Ex w w' := by
  obtain ⟨ao, cap, c0, hc, hm, h0, hl, hr⟩ := h.slice
  have hp := h.lt
  have HI := Lib.hid (fun xb W hx hW => index_any ao l.length cap l id xb W hW hx)
  have HL := Lib.hid (fun W (hx : Ex w W) => (show LotsAt W ao l.length l from by
    obtain ⟨a1, a2, a3, a4⟩ := hl
    exact ⟨a1, a2, a3, fun hz => by
      obtain ⟨b, off, e, hb, hcc⟩ := a4 hz
      exact ⟨b, off, e, Nat.lt_of_lt_of_le hb hx.below.size, fun k hk j hj => (hx.below.cell (p := ⟨b, off + k * 5 + j, none⟩) hb).trans (hcc k hk j hj)⟩⟩))
  clear hl hr h
  go_enter Tryd.func69, Tryd.ntmps69
  go_wp2_with (go_at_call 86; refine (HI.out w.heap.size _ ?_ ?_).mono ?_; (focus (simp [go_sem])); (focus (exact HL.out _ (by repeat (first | exact Ex.refl _ | refine Ex.alloc ?_ _ | refine Ex.ext ?_ _ _ | refine Ex.drew ?_ | refine Ex.drewN ?_ _)))); rintro e w1 ⟨rfl, l1, d1, rfl⟩)
  all_goals go_ret
  all_goals exact ⟨rfl, (by repeat (first | exact Ex.refl _ | refine Ex.alloc ?_ _ | refine Ex.ext ?_ _ _ | refine Ex.drew ?_ | refine Ex.drewN ?_ _))⟩
theorem infoLot : (Tryd.prog.info? 24).map (fun i => (i.zero, i.size, i.bytes)) = some (some (.agg #[.int .i64 0, .int .i64 0, .int .i64 0, .int .i64 0, .int .i64 0]), 5, 40) := by kernel_rfl
/-- A row of lots of a call's own. -/
def LotsRow (base : Nat) (l : List Lot) (v : Value) (w : World) : Prop := w.ownsRow base 24 5 v l.length (flat Lot.cells l)
set_option maxRecDepth 100000 in
theorem clone_any (ao : Option Addr) (cap : Nat) (l : List Lot) (w : World) (hl : l.length ≤ 1000) (h0 : ao = none → cap = 0) (hr : RowAt w 24 5 (.slice ao l.length cap) l.length (flat Lot.cells l)) :
    Calls Tryd.prog 67 #[.slice ao l.length cap] w fun e w' => (∃ v, e = .returned v ∧ LotsRow w.heap.size l v w') ∧ Ex w w' := by
  obtain ⟨i0, hi0, hz0, hz1, hz2⟩ := info_parts infoLot
  have HR := Lib.hid hr
  obtain ⟨_, ⟨hv, hz⟩ | ⟨g, off, cap', cur, hv, ⟨fr, hg, _⟩, hnc, hm, hs, ht⟩⟩ := hr
  · obtain ⟨rfl, _, rfl⟩ : ao = none ∧ l.length = 0 ∧ cap = 0 := by injection hv with e1 e2 e3; exact ⟨e1, hz, e3⟩
    obtain rfl : l = [] := List.eq_nil_of_length_eq_zero hz
    have he := fun w n c => Go.Lib.run_eql_slice_nil (P := Tryd.prog) w 52 24 none n c 0 0 Tryd.underlying52
    go_enter Tryd.func67, Tryd.ntmps67
    go_wp2_with fail
    all_goals go_ret
    all_goals exact ⟨⟨_, rfl, World.ownsRow_nil _ _ _ _⟩, (by repeat (first | exact Ex.refl _ | refine Ex.alloc ?_ _ | refine Ex.ext ?_ _ _ | refine Ex.drew ?_ | refine Ex.drewN ?_ _))⟩
  · obtain ⟨rfl, rfl⟩ : ao = some ⟨g, off, none⟩ ∧ cap = cap' := by cases hv; exact ⟨rfl, rfl⟩
    have hgl := (Array.getElem?_eq_some_iff.1 hg).1
    have hcell : ∀ j u, (flat Lot.cells l)[j]? = some u → (w.alloc (.cells #[] 24)).cell? ((⟨g, off, none⟩ : Addr).add j) = some u := fun j u hu => by
      have hj : j < l.length * 5 := by
        have := (List.getElem?_eq_some_iff.1 hu).1
        rwa [flat_length lotc_len] at this
      rw [addr_add, ← hu, ← HR.out.cell hj]
      exact ((Ex.refl w).alloc _).below.cell (p := ⟨g, off + j, none⟩) hgl
    have HC := Lib.hid hcell
    have hfl := flat_length lotc_len l
    have h1l := lot_one l
    have HF := Lib.hid hfl
    have H1 := Lib.hid h1l
    clear hcell hg ht hs hv hfl h1l
    have he := fun w n c => Go.Lib.run_eql_slice_nil (P := Tryd.prog) w 52 24 (some ⟨g, off, none⟩) n c 0 0 Tryd.underlying52
    go_enter Tryd.func67, Tryd.ntmps67
    go_wp2_with (at_builtin; refine wpList_append_own _ rfl (.tmp 5) (.tmp 6) 52 rfl w.heap.size 24 i0 _ 5 40 Tryd.underlying52 hi0 hz0 hz1 hz2 rfl (by decide) (.slice (some ⟨w.heap.size, 0, none⟩) 0 0) 0 [] rfl (World.ownsRow_made w #[] 0 (Nat.le_refl _) (by decide) (by simp)) ⟨g, off, none⟩ l.length cap (flat Lot.cells l) rfl HF.out HC.out H1.out (by unfold maxLen; omega) (by omega) (by simp) ?_; intro v1 w3 hown hgrow hnil)
    all_goals go_ret
    all_goals
      rw [Nat.zero_add, List.nil_append] at hown
      exact ⟨⟨_, rfl, hown⟩, Ex.of (Below.grown ((Ex.refl w).alloc _).below hgrow (by simp) (fun k hk => by cases hk; exact Nat.le_refl _))⟩
end
end Go.Proofs.YtfeeibealokhfaaDoor
