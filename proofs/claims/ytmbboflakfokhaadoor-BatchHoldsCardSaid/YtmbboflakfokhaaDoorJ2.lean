import Derived.Test.YtmbboflakfokhaaDoorJ1
import Derived.Deep.AppendLies
import Derived.Lib.SliceRun
/- What a book's search for an ID computes. -/
set_option linter.unusedSimpArgs false
set_option linter.unusedVariables false
namespace Go.Proofs.YtmbboflakfokhaaDoor
open Go.RowKit

set_option maxRecDepth 100000 in
theorem sameIdB_any (y : Lot) (id : Int) (xb : Nat) (w : World) (hx : w.cell? ⟨xb, 0, none⟩ = some (.int .i64 id)) :
    Calls Tryd.prog 61 #[y.val, .pointer (some ⟨xb, 0, none⟩)] w fun e w' => e = .returned (.bool (y.id == id)) ∧ Ex w w' := by
  have hb := lt_of_cell hx
  go_enter Tryd.func61, Tryd.ntmps61
  go_wp2
  all_goals go_ret
  all_goals exact ⟨ret_bool (by simp), (by repeat (first | exact Ex.refl _ | refine Ex.alloc ?_ _ | refine Ex.ext ?_ _ _ | refine Ex.drew ?_ | refine Ex.drewN ?_ _))⟩

set_option maxRecDepth 100000 in
set_option maxHeartbeats 1000000 in
theorem indexB_any (ao : Option Addr) (len cap : Nat) (l : List Lot) (id : Int) (xb : Nat) (w : World) (hl : LotsAt w ao len l) (hx : w.cell? ⟨xb, 0, none⟩ = some (.int .i64 id)) :
    Calls Tryd.prog 60 #[.slice ao len cap, .func (.func 61) #[] #[.pointer (some ⟨xb, 0, none⟩)]] w fun e w' =>
      e = .returned (.int .i64 (idIdx l id)) ∧ Ex w w' := by
  obtain ⟨hlen, hmx, hwf, hz⟩ := hl
  have hb := lt_of_cell hx
  have HZ := Lib.hid hz
  have HL := Lib.hid hlen
  clear hz hlen hwf
  go_enter Tryd.func60, Tryd.ntmps60
  go_wp2
  go_loopw [8] (fun i wr => ∃ (k : Nat), k ≤ len ∧ i = .int .i64 k ∧ (∀ j, (hj : j < l.length) → j < k → l[j].id ≠ id) ∧ Ex w wr) (fun i _ => len - (intOf i).toNat)
  case atStart => exact ⟨0, Nat.zero_le _, rfl, (fun j hj h => absurd h (Nat.not_lt_zero _)), (by repeat (first | exact Ex.refl _ | refine Ex.alloc ?_ _ | refine Ex.ext ?_ _ _ | refine Ex.drew ?_ | refine Ex.drewN ?_ _))⟩
  case round =>
    obtain ⟨k, hk, rfl, hn, l1, d1, rfl⟩ := hrel
    have HN := Lib.hid hn
    clear hn
    by_cases hlt : k < len
    · obtain ⟨b, off, rfl, hbs, hz⟩ := HZ.out (by omega)
      have hzk := hz k (by rw [HL.out]; exact hlt)
      clear hz
      have hg : ∃ a, a = l[k]'(by rw [HL.out]; exact hlt) := ⟨_, rfl⟩
      obtain ⟨a, ha⟩ := hg
      rw [← ha] at hzk
      have HA := Lib.hid ha
      clear ha
      have a0 := hzk 0 (by omega)
      have a1 := hzk 1 (by omega)
      have a2 := hzk 2 (by omega)
      have a3 := hzk 3 (by omega)
      have a4 := hzk 4 (by omega)
      simp only [Lot.cells, List.getElem?_cons_zero, List.getElem?_cons_succ, Nat.add_zero] at a0 a1 a2 a3 a4
      clear hzk
      go_wp2_with (go_at_call 61; refine (sameIdB_any a id xb _ (by simp [go_sem, ↓IntWalk.iteOmega, *])).mono ?_; rintro e w1 ⟨rfl, l2, d2, rfl⟩)
      · go_ret
        rename_i hid
        exact ⟨ret_int (idIdx_some (k := k) (by rw [HL.out]; exact hlt) (by rw [← HA.out]; simpa using hid) (fun j hj => HN.out j (by have := HL.out; omega) hj)).symm, (by repeat (first | exact Ex.refl _ | refine Ex.alloc ?_ _ | refine Ex.ext ?_ _ _ | refine Ex.drew ?_ | refine Ex.drewN ?_ _))⟩
      · rename_i hid
        go_roundw
        case measure => simp [intOf]; omega
        case rel =>
          refine ⟨k + 1, by omega, by go_num, fun j hj hjk => ?_, (by repeat (first | exact Ex.refl _ | refine Ex.alloc ?_ _ | refine Ex.ext ?_ _ _ | refine Ex.drew ?_ | refine Ex.drewN ?_ _))⟩
          by_cases e : j = k
          · subst e
            rw [← HA.out]; simpa using hid
          · exact HN.out j hj (by omega)
    · go_wp2
      go_ret
      exact ⟨ret_int (idIdx_none fun j hj => HN.out j hj (by have := HL.out; omega)).symm, (by repeat (first | exact Ex.refl _ | refine Ex.alloc ?_ _ | refine Ex.ext ?_ _ _ | refine Ex.drew ?_ | refine Ex.drewN ?_ _))⟩
end Go.Proofs.YtmbboflakfokhaaDoor

/- A book of lots that rest. What New, find and Lots of package book compute. -/
set_option linter.unusedSimpArgs false
set_option linter.unusedVariables false
namespace Go.Proofs.YtmbboflakfokhaaDoor
open Go.RowKit

theorem lotc_len (x : Lot) : x.cells.length = 5 := rfl
theorem lot_one (l : List Lot) : ∀ u ∈ flat Lot.cells l, u.oneCell' = true := by
  intro u hu
  obtain ⟨x, _, hx⟩ := List.mem_flatMap.1 hu
  simp only [Lot.cells, List.mem_cons, List.not_mem_nil, or_false] at hx
  rcases hx with rfl | rfl | rfl | rfl | rfl <;> rfl
/-- A row of lots, read as a slice. -/
theorem lotsB_of_row {w : World} {e : TypeId} {ao : Option Addr} {n cap : Nat} {l : List Lot} (hwf : ∀ a ∈ l, a.wf) (hn : n ≤ 9223372036854775807) (hl : l.length = n) (h : RowAt w e 5 (.slice ao n cap) n (flat Lot.cells l)) : LotsAt w ao n l := by
  refine ⟨hl, hn, hwf, fun h0 => ?_⟩
  have h' := h
  obtain ⟨_, ⟨hv, hz⟩ | ⟨g, off, cap', cur, hv, ⟨fr, hg, _⟩, _⟩⟩ := h
  · omega
  · cases hv
    refine ⟨g, off, rfl, (Array.getElem?_eq_some_iff.1 hg).1, fun k hk j hj => ?_⟩
    rw [Nat.add_assoc, h'.cell (j := k * 5 + j) (by omega), flat_get lotc_len l k hk j hj]
/-- A book: its lots. -/
def BookAt (own : Nat → Nat) (i : Nat) (w : World) (p : Nat) (l : List Lot) : Prop := l.length ≤ 60 ∧ (∀ x ∈ l, x.wf) ∧ ∃ v, OneAt own i w p 1 (fun _ => .nilIface) 56 5 v l.length (flat Lot.cells l)
section
variable {own own' : Nat → Nat} {i m g : Nat} {w w' : World} {p : Nat} {l : List Lot}
theorem BookAt.lt (h : BookAt own i w p l) : p < w.heap.size := by obtain ⟨_, _, v, h⟩ := h; exact h.lt
theorem BookAt.free (h : BookAt own i w p l) (j : Nat) : w.frozen? ⟨p, j, none⟩ = false := by obtain ⟨_, _, v, h⟩ := h; exact h.free j
theorem BookAt.kp (h : BookAt own i w p l) (hk : Kp own m g w w') (hi : i / m ≠ g) (ho : ∀ n, n < w.heap.size → own n = i → own' n = i) : BookAt own' i w' p l := by
  obtain ⟨h1, h2, v, h3⟩ := h
  exact ⟨h1, h2, v, h3.kp hk hi ho⟩
theorem BookAt.relabel (h : BookAt own i w p l) (ho : ∀ n, n < w.heap.size → own n = i → own' n = i) : BookAt own' i w p l := h.kp (m := 1) (g := i + 1) (Kp.refl _ _ _ _) (by simp) ho
theorem BookAt.later (h : BookAt own i w p l) (hx : Ex w w') : BookAt own i w' p l := by
  obtain ⟨h1, h2, v, h3⟩ := h
  exact ⟨h1, h2, v, h3.later hx⟩
theorem BookAt.keep (h : BookAt own i w p l) (hx : Ex w w') : ObjTo own i i w (fun o w' => BookAt o i w' p l) w' := ObjTo.of_ex hx ((h.relabel (fun n hn e => by rw [lab_lt hn]; exact e)).later hx)
theorem BookAt.slice (h : BookAt own i w p l) : ∃ ao cap, w.cell? ⟨p, 0, none⟩ = some (.slice ao l.length cap) ∧ l.length ≤ cap ∧ cap ≤ maxLen ∧ (ao = none → cap = 0) ∧ LotsAt w ao l.length l ∧ RowAt w 56 5 (.slice ao l.length cap) l.length (flat Lot.cells l) := by
  obtain ⟨h1, h2, v, h3⟩ := h
  obtain ⟨ao, cap, rfl, hc, hm, h0, _⟩ := h3.2.1.form
  exact ⟨ao, cap, h3.cell0 (by decide), hc, hm, h0, lotsB_of_row h2 (by omega) rfl h3.2.1.1, h3.2.1.1⟩
end
theorem BookAt.fresh (own : Nat → Nat) (i : Nat) (w : World) (t : TypeId) (hp : own w.heap.size = i) : BookAt own i (w.alloc (.cells #[.slice none 0 0] t)) w.heap.size [] := by
  refine ⟨by simp, fun x hx => by simp at hx, .slice none 0 0, ⟨t, ?_⟩, OwnRow.nil _ _ _ _ _, hp, fun e => by cases e⟩
  have h := World.rowIs_alloc w #[.slice none 0 0] t (fun j => if j = 0 then .slice none 0 0 else .nilIface) (fun j hj => by
    have : j = 0 := by simp at hj; exact hj
    subst this; simp)
  simpa using h
set_option maxRecDepth 100000 in
theorem bookNew (own : Nat → Nat) (i : Nat) (w : World) : Calls Tryd.prog 27 #[] w fun e w' => e = .returned (.pointer (some ⟨w.heap.size, 0, none⟩)) ∧ ObjTo own i i w (fun o w' => BookAt o i w' w.heap.size []) w' := by
  go_enter Tryd.func27, Tryd.ntmps27
  go_wp2
  all_goals go_ret
  all_goals exact ⟨rfl, ObjTo.of (by repeat (first | exact Kp.refl _ _ _ _ | (refine Kp.alloc ?_ _) | (refine Kp.drew ?_) | (refine Kp.drewN ?_ _) | (refine Kp.ext ?_ _ _))) (BookAt.fresh _ _ _ _ (by simp [lab]))⟩
section
variable {own : Nat → Nat} {i : Nat} {w : World} {p : Nat} {l : List Lot}
set_option maxRecDepth 100000 in
theorem find_any (h : BookAt own i w p l) (id : Int) : Calls Tryd.prog 42 #[.pointer (some ⟨p, 0, none⟩), .int .i64 id] w fun e w' => e = .returned (.int .i64 (idIdx l id)) ∧ Ex w w' := by
  obtain ⟨ao, cap, c0, hc, hm, h0, hl, hr⟩ := h.slice
  have hp := h.lt
  have HI := Lib.hid (fun xb W hx hW => indexB_any ao l.length cap l id xb W hW hx)
  have HL := Lib.hid (fun W (hx : Ex w W) => (show LotsAt W ao l.length l from by
    obtain ⟨a1, a2, a3, a4⟩ := hl
    exact ⟨a1, a2, a3, fun hz => by
      obtain ⟨b, off, e, hb, hcc⟩ := a4 hz
      exact ⟨b, off, e, Nat.lt_of_lt_of_le hb hx.below.size, fun k hk j hj => (hx.below.cell (p := ⟨b, off + k * 5 + j, none⟩) hb).trans (hcc k hk j hj)⟩⟩))
  clear hl hr h
  go_enter Tryd.func42, Tryd.ntmps42
  go_wp2_with (go_at_call 60; refine (HI.out w.heap.size _ ?_ ?_).mono ?_; (focus (simp [go_sem])); (focus (exact HL.out _ (by repeat (first | exact Ex.refl _ | refine Ex.alloc ?_ _ | refine Ex.ext ?_ _ _ | refine Ex.drew ?_ | refine Ex.drewN ?_ _)))); rintro e w1 ⟨rfl, l1, d1, rfl⟩)
  all_goals go_ret
  all_goals exact ⟨rfl, (by repeat (first | exact Ex.refl _ | refine Ex.alloc ?_ _ | refine Ex.ext ?_ _ _ | refine Ex.drew ?_ | refine Ex.drewN ?_ _))⟩
theorem infoLotB : (Tryd.prog.info? 56).map (fun i => (i.zero, i.size, i.bytes)) = some (some (.agg #[.int .i64 0, .int .i64 0, .int .i64 0, .int .i64 0, .int .i64 0]), 5, 40) := by kernel_rfl
/-- A row of lots of a call's own. -/
def LotsRow (base : Nat) (l : List Lot) (v : Value) (w : World) : Prop := w.ownsRow base 56 5 v l.length (flat Lot.cells l)
set_option maxRecDepth 100000 in
theorem clone_any (ao : Option Addr) (cap : Nat) (l : List Lot) (w : World) (hl : l.length ≤ 1000) (h0 : ao = none → cap = 0) (hr : RowAt w 56 5 (.slice ao l.length cap) l.length (flat Lot.cells l)) :
    Calls Tryd.prog 34 #[.slice ao l.length cap] w fun e w' => (∃ v, e = .returned v ∧ LotsRow w.heap.size l v w') ∧ Ex w w' := by
  obtain ⟨i0, hi0, hz0, hz1, hz2⟩ := info_parts infoLotB
  have HR := Lib.hid hr
  obtain ⟨_, ⟨hv, hz⟩ | ⟨g, off, cap', cur, hv, ⟨fr, hg, _⟩, hnc, hm, hs, ht⟩⟩ := hr
  · obtain ⟨rfl, _, rfl⟩ : ao = none ∧ l.length = 0 ∧ cap = 0 := by injection hv with e1 e2 e3; exact ⟨e1, hz, e3⟩
    obtain rfl : l = [] := List.eq_nil_of_length_eq_zero hz
    have he := fun w n c => Go.Lib.run_eql_slice_nil (P := Tryd.prog) w 37 56 none n c 0 0 Tryd.underlying37
    go_enter Tryd.func34, Tryd.ntmps34
    go_wp2_with fail
    all_goals go_ret
    all_goals exact ⟨⟨_, rfl, World.ownsRow_nil _ _ _ _⟩, (by repeat (first | exact Ex.refl _ | refine Ex.alloc ?_ _ | refine Ex.ext ?_ _ _ | refine Ex.drew ?_ | refine Ex.drewN ?_ _))⟩
  · obtain ⟨rfl, rfl⟩ : ao = some ⟨g, off, none⟩ ∧ cap = cap' := by cases hv; exact ⟨rfl, rfl⟩
    have hgl := (Array.getElem?_eq_some_iff.1 hg).1
    have hcell : ∀ j u, (flat Lot.cells l)[j]? = some u → (w.alloc (.cells #[] 56)).cell? ((⟨g, off, none⟩ : Addr).add j) = some u := fun j u hu => by
      have hj : j < l.length * 5 := by
        have := (List.getElem?_eq_some_iff.1 hu).1
        rwa [flat_length lotc_len] at this
      rw [addr_add, ← hu, ← HR.out.cell hj]
      exact ((Ex.refl w).alloc _).below.cell (p := ⟨g, off + j, none⟩) hgl
    have HC := Lib.hid hcell
    have hfl := flat_length lotc_len l
    have h1l := lot_one l
    have HF := Lib.hid hfl
    have H1 := Lib.hid h1l
    clear hcell hg ht hs hv hfl h1l
    have he := fun w n c => Go.Lib.run_eql_slice_nil (P := Tryd.prog) w 37 56 (some ⟨g, off, none⟩) n c 0 0 Tryd.underlying37
    go_enter Tryd.func34, Tryd.ntmps34
    go_wp2_with (at_builtin; refine wpList_append_own _ rfl (.tmp 5) (.tmp 6) 37 rfl w.heap.size 56 i0 _ 5 40 Tryd.underlying37 hi0 hz0 hz1 hz2 rfl (by decide) (.slice (some ⟨w.heap.size, 0, none⟩) 0 0) 0 [] rfl (World.ownsRow_made w #[] 0 (Nat.le_refl _) (by decide) (by simp)) ⟨g, off, none⟩ l.length cap (flat Lot.cells l) rfl HF.out HC.out H1.out (by unfold maxLen; omega) (by omega) (by simp) ?_; intro v1 w3 hown hgrow hnil)
    all_goals go_ret
    all_goals
      rw [Nat.zero_add, List.nil_append] at hown
      exact ⟨⟨_, rfl, hown⟩, Ex.of (Below.grown ((Ex.refl w).alloc _).below hgrow (by simp) (fun k hk => by cases hk; exact Nat.le_refl _))⟩
end
end Go.Proofs.YtmbboflakfokhaaDoor

/- What Lots and Get of package book compute. -/
set_option linter.unusedSimpArgs false
set_option linter.unusedVariables false
namespace Go.Proofs.YtmbboflakfokhaaDoor
open Go.RowKit

section
variable {own : Nat → Nat} {i : Nat} {w : World} {p : Nat} {l : List Lot}
set_option maxRecDepth 100000 in
theorem lots_any (h : BookAt own i w p l) : Calls Tryd.prog 11 #[.pointer (some ⟨p, 0, none⟩)] w fun e w' => (∃ v, e = .returned v ∧ LotsRow w.heap.size l v w') ∧ Ex w w' := by
  obtain ⟨ao, cap, c0, hc, hm, h0, hl, hr⟩ := h.slice
  have hb := h.1
  have HC := Lib.hid (clone_any ao cap l w (by omega) h0 hr)
  clear hl hr h h0
  go_enter Tryd.func11, Tryd.ntmps11
  go_wp2_with (go_at_call 34; refine HC.out.mono ?_; rintro e w1 ⟨⟨v, rfl, hv⟩, l1, d1, rfl⟩)
  all_goals go_ret
  all_goals exact ⟨⟨v, rfl, hv⟩, (by repeat (first | exact Ex.refl _ | refine Ex.alloc ?_ _ | refine Ex.ext ?_ _ _ | refine Ex.drew ?_ | refine Ex.drewN ?_ _))⟩
/-- What is found of an ID. -/
theorem idIdx_cases (l : List Lot) (id : Int) : (∃ k, ∃ hk : k < l.length, idIdx l id = (k : Int) ∧ l[k].id = id ∧ l.findIdx? (fun y => y.id == id) = some k) ∨ (idIdx l id = -1 ∧ ∀ x ∈ l, x.id ≠ id) := by
  unfold idIdx
  cases hf : l.findIdx? (fun y => y.id == id) with
  | none =>
    right
    rw [List.findIdx?_eq_none_iff] at hf
    exact ⟨rfl, fun x hx e => by have := hf x hx; simp [e] at this⟩
  | some k =>
    left
    rw [List.findIdx?_eq_some_iff_getElem] at hf
    obtain ⟨hk, h1, _⟩ := hf
    exact ⟨k, hk, rfl, by simpa using h1, rfl⟩
def zeroLot : Lot := ⟨0, 0, 0, 0, 0⟩
set_option maxRecDepth 100000 in
theorem get_in (h : BookAt own i w p l) (id : Int) (k : Nat) (hk : k < l.length) (hi : idIdx l id = (k : Int)) :
    Calls Tryd.prog 17 #[.pointer (some ⟨p, 0, none⟩), .int .i64 id] w fun e w' => e = .returned (.tuple #[l[k].val, .bool true]) ∧ Ex w w' := by
  obtain ⟨ao, cap, c0, hc, hm, h0, hl, hr⟩ := h.slice
  have hp := h.lt
  have hb := h.1
  have HF := Lib.hid (fun W (hx : Ex w W) => find_any (h.later hx) id)
  rw [hi] at HF
  obtain ⟨_, _, _, hz⟩ := hl
  obtain ⟨g, off, rfl, hg, hcc⟩ := hz (by omega)
  have hzk := hcc k hk
  have a0 := hzk 0 (by omega)
  have a1 := hzk 1 (by omega)
  have a2 := hzk 2 (by omega)
  have a3 := hzk 3 (by omega)
  have a4 := hzk 4 (by omega)
  simp only [Lot.cells, List.getElem?_cons_zero, List.getElem?_cons_succ, Nat.add_zero] at a0 a1 a2 a3 a4
  generalize l[k] = x at *
  clear hz hcc hzk hr h h0 hi
  go_enter Tryd.func17, Tryd.ntmps17
  go_wp2_with (go_at_call 42; refine (HF.out _ (by repeat (first | exact Ex.refl _ | refine Ex.alloc ?_ _ | refine Ex.ext ?_ _ _ | refine Ex.drew ?_ | refine Ex.drewN ?_ _))).mono ?_; rintro e w1 ⟨rfl, l1, d1, rfl⟩)
  all_goals ((try simp only [Exit.inBlock, Exit.then]); (refine bodyPost_ret (v := .tuple #[x.val, .bool true]) ?_ rfl ⟨rfl, (by repeat (first | exact Ex.refl _ | refine Ex.alloc ?_ _ | refine Ex.ext ?_ _ _ | refine Ex.drew ?_ | refine Ex.drewN ?_ _))⟩); simp only [results, Tryd.results17]; simp [go_sem, ↓IntWalk.iteOmega])
set_option maxRecDepth 100000 in
theorem get_out (h : BookAt own i w p l) (id : Int) (hi : idIdx l id = -1) :
    Calls Tryd.prog 17 #[.pointer (some ⟨p, 0, none⟩), .int .i64 id] w fun e w' => e = .returned (.tuple #[zeroLot.val, .bool false]) ∧ Ex w w' := by
  have HF := Lib.hid (fun W (hx : Ex w W) => find_any (h.later hx) id)
  rw [hi] at HF
  clear h hi
  go_enter Tryd.func17, Tryd.ntmps17
  go_wp2_with (go_at_call 42; refine (HF.out _ (by repeat (first | exact Ex.refl _ | refine Ex.alloc ?_ _ | refine Ex.ext ?_ _ _ | refine Ex.drew ?_ | refine Ex.drewN ?_ _))).mono ?_; rintro e w1 ⟨rfl, l1, d1, rfl⟩)
  all_goals ((try simp only [Exit.inBlock, Exit.then]); (refine bodyPost_ret (v := .tuple #[zeroLot.val, .bool false]) ?_ rfl ⟨rfl, (by repeat (first | exact Ex.refl _ | refine Ex.alloc ?_ _ | refine Ex.ext ?_ _ _ | refine Ex.drew ?_ | refine Ex.drewN ?_ _))⟩); simp only [results, Tryd.results17]; simp [go_sem, ↓IntWalk.iteOmega, zeroLot])
end
end Go.Proofs.YtmbboflakfokhaaDoor
