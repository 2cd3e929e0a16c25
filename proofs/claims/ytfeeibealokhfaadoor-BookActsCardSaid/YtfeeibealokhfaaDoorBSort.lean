/- What the sort of a slice of levels leaves. -/
import Derived.Test.YtfeeibealokhfaaDoorBCmp
import Derived.Test.YtfeeibealokhfaaDoorBMap
import Derived.Test.YtfeeibealokhfaaDoorShelf
import Derived.Test.YtfeeibealokhfaaDoorGrown
import Derived.Laws.AppendOwn
set_option linter.unusedSimpArgs false
set_option linter.unusedVariables false
namespace Go.Proofs.YtfeeibealokhfaaDoor
open Go.RowKit Go.Sort Go.Lib

/-- A price. -/
abbrev Pri := { p : Int // 1 ≤ p ∧ p ≤ 1000 }
instance : Inhabited Pri := ⟨⟨1, by omega⟩⟩
section
variable {α : Type} [Inhabited α]
theorem flatK_list (enc : α → List Value) (k : Nat) (hk : ∀ x, (enc x).length = k) (zs : List α) : (flatK enc k zs.toArray).toList = flat enc zs := by
  have hl : (flatK enc k zs.toArray).size = zs.length * k := by simp
  refine List.ext_getElem? fun t => ?_
  by_cases ht : t < zs.length * k
  · have k0 : 0 < k := by rcases Nat.eq_zero_or_pos k with h | h; · subst h; simp at ht
                          · exact h
    have h1 : t / k < zs.length := (Nat.div_lt_iff_lt_mul k0).2 ht
    have h2 : t % k < k := Nat.mod_lt _ k0
    have e := flat_get hk zs (t / k) h1 (t % k) h2
    rw [Nat.div_add_mod'] at e
    rw [e, Array.getElem?_toList]
    have e2 := get_flatK enc k zs.toArray t (by simpa using ht)
    rw [Array.getElem?_eq_getElem (by rw [hl]; exact ht)]
    rw [getElem!_pos _ _ (by rw [hl]; exact ht)] at e2
    rw [e2]
    have e3 : zs.toArray[t / k]! = zs[t / k] := by simp [getElem!_pos, h1]
    rw [e3, getElem!_pos _ _ (by rw [hk]; exact h2), List.getElem?_eq_getElem (by rw [hk]; exact h2)]
  · rw [List.getElem?_eq_none (by rw [Array.length_toList, hl]; omega), List.getElem?_eq_none (by rw [flat_length hk]; omega)]
/-- Down: a slice that owns its cells holds the elements. -/
theorem holdsK_of_owned {enc : α → List Value} {k : Nat} (hk : ∀ x, (enc x).length = k) {w : World} {base : Nat} {e : TypeId} {v : Value} {n : Nat} {zs : List α} (h : w.ownsRow base e k v n (flat enc zs)) (hz : zs.length = n) (hv : v ≠ .slice none 0 0) :
    ∃ g cap, v = .slice (some ⟨g, 0, none⟩) n cap ∧ base ≤ g ∧ g < w.heap.size ∧ HoldsK enc k w g 0 zs.toArray := by
  rcases h.2 with ⟨e0, _⟩ | ⟨g, cap, cur, rfl, hb, hg, hn, hm, hs, ht⟩
  · exact absurd e0 hv
  · have hlt : g < w.heap.size := (Array.getElem?_eq_some_iff.1 hg).1
    refine ⟨g, cap, rfl, hb, hlt, fun j hj => ?_⟩
    have hj' : j < n * k := by simpa [hz] using hj
    refine ⟨?_, by simp [World.frozen?, hg]⟩
    have e1 : (flatK enc k zs.toArray)[j]? = cur[j]? := by
      rw [← Array.getElem?_toList, ← Array.getElem?_toList, flatK_list enc k hk, ← ht, List.getElem?_take, if_pos hj']
    simp only [World.cell?, hg, Nat.zero_add]
    simp only [Option.isSome_none, Bool.false_eq_true, if_false]
    rw [← e1]
    have hj2 : j < (flatK enc k zs.toArray).size := by simpa [hz] using hj'
    rw [Array.getElem?_eq_getElem hj2, getElem!_pos (flatK enc k zs.toArray) j hj2]
    rfl
/-- Up: what the sort leaves. -/
theorem owned_sortK {enc : α → List Value} {k : Nat} (hk : ∀ x, (enc x).length = k) {w : World} {base : Nat} {e : TypeId} {g n cap q : Nat} {xs : List Value} {ys : List α} {os : Array Obj} (h : w.ownsRow base e k (.slice (some ⟨g, 0, none⟩) n cap) n xs) (hy : ys.length = n) :
    (sortWorldK enc k w g 0 q ys.toArray os).ownsRow base e k (.slice (some ⟨g, 0, none⟩) n cap) n (flat enc ys) ∧ w.grownBy (sortWorldK enc k w g 0 q ys.toArray os) (some g) := by
  rcases h.2 with ⟨e0, _⟩ | ⟨g', cap', cur, e0, hb, hg, hn, hm, hs, ht⟩
  · cases e0
  · injection e0 with e1 _ e3
    injection e1 with e1
    injection e1 with e1
    subst e1; subst e3
    have hlt : g < w.heap.size := (Array.getElem?_eq_some_iff.1 hg).1
    have hblk : ∀ i, i < w.heap.size → (sortWorldK enc k w g 0 q ys.toArray os).heap[i]? = if g = i then (w.heap[i]?).map (onCells (putCells id 0 (flatK enc k ys.toArray))) else w.heap[i]? := fun i hi => by
      unfold sortWorldK
      rw [heap_grow_old _ _ (by rw [size_putRowK]; exact hi)]
      simp [putRowK, putRow, mapBlock, Sort.ahead, Array.getElem?_modify]
    refine ⟨⟨by rw [flat_length hk, hy], .inr ⟨g, cap, putCells id 0 (flatK enc k ys.toArray) cur, rfl, hb, ?_, hn, hm, by simpa [putCells] using hs, ?_⟩⟩, ⟨rfl, rfl, rfl, ?_, fun b hb' hne => ?_⟩⟩
    · rw [hblk g hlt, if_pos rfl, hg]; rfl
    · rw [← flatK_list enc k hk ys]
      apply List.ext_getElem?
      intro j
      rw [List.getElem?_take, Array.getElem?_toList, Array.getElem?_toList]
      by_cases hj : j < n * k
      · have hjc : j < cur.size := by have := Nat.mul_le_mul_right k hn; omega
        have hj2 : j < (flatK enc k ys.toArray).size := by simpa [hy] using hj
        simp only [if_pos hj, putCells, Array.getElem?_mapIdx, Array.getElem?_eq_getElem hjc, Option.map_some]
        rw [if_pos (by simpa using hj2), Array.getElem?_eq_getElem hj2, Nat.sub_zero, getElem!_pos (flatK enc k ys.toArray) j hj2]
        rfl
      · rw [if_neg hj, Array.getElem?_eq_none (by simp [hy]; omega)]
    · unfold sortWorldK
      rw [size_grow, size_putRowK]
      exact Nat.le_add_right _ _
    · rw [hblk b hb', if_neg (fun e => hne (by rw [e]))]
end
def srt (side : Int) (qs : List Int) : List Int := if side = 0 then qs.mergeSort fun x y => decide (y ≤ x) else qs.mergeSort fun x y => decide (x ≤ y)
def cfP (side : Int) (x y : Pri) : Int := cmpL side x.1 y.1
def encP (side : Int) (l : List Lot) (p : Pri) : List Value := (lvlP side l p.1).cells
theorem lt_cfP (side : Int) (x y : Pri) : ltOf (cfP side) x y = if side = 0 then decide (y.1 < x.1) else decide (x.1 < y.1) := by
  unfold ltOf cfP cmpL
  split
  · congr 1; exact propext ⟨fun h => by omega, fun h => by omega⟩
  · congr 1; exact propext ⟨fun h => by omega, fun h => by omega⟩
theorem swoP (side : Int) : SWO (ltOf (cfP side)) where
  irrefl x := by rw [lt_cfP]; split <;> simp
  trans x y z h1 h2 := by
    rw [lt_cfP] at *
    by_cases h : side = 0
    · rw [if_pos h] at *; simp at *; omega
    · rw [if_neg h] at *; simp at *; omega
  ntrans x y z h1 h2 := by
    rw [lt_cfP] at *
    by_cases h : side = 0
    · rw [if_pos h] at *; simp at *; omega
    · rw [if_neg h] at *; simp at *; omega
theorem totP (side : Int) (x y : Pri) (h1 : ltOf (cfP side) x y = false) (h2 : ltOf (cfP side) y x = false) : x = y := by
  rw [lt_cfP] at *
  refine Subtype.ext ?_
  by_cases h : side = 0
  · rw [if_pos h] at *; simp at *; omega
  · rw [if_neg h] at *; simp at *; omega
theorem srt_len (side : Int) (qs : List Int) : (srt side qs).length = qs.length := by unfold srt; split <;> simp
theorem sort_vals (side : Int) (ds : List Pri) : ((ds.mergeSort fun x y => !(ltOf (cfP side)) y x).map Subtype.val) = srt side (ds.map Subtype.val) := by
  unfold srt
  split
  · rename_i h
    refine List.map_mergeSort fun a _ b _ => ?_
    rw [lt_cfP, if_pos h]
    by_cases e : b.1 ≤ a.1
    · rw [decide_eq_true e, decide_eq_false (by omega)]; rfl
    · rw [decide_eq_false e, decide_eq_true (by omega)]; rfl
  · rename_i h
    refine List.map_mergeSort fun a _ b _ => ?_
    rw [lt_cfP, if_neg h]
    by_cases e : a.1 ≤ b.1
    · rw [decide_eq_true e, decide_eq_false (by omega)]; rfl
    · rw [decide_eq_false e, decide_eq_true (by omega)]; rfl
theorem flat_vals (side : Int) (l : List Lot) (ds : List Pri) : flat (encP side l) ds = flat Lvl.cells ((ds.map Subtype.val).map (lvlP side l)) := by
  unfold flat encP
  rw [List.flatMap_map, List.flatMap_map]
theorem cmp_lays (side : Int) (hs : side = 0 ∨ side = 1) (l : List Lot) (sb g size : Nat) (w : World) (hc : w.cell? ⟨sb, 0, none⟩ = some (.int .i64 side)) (hne : sb ≠ g) : CmpLays Tryd.prog 78 #[.pointer (some ⟨sb, 0, none⟩)] (encP side l) 3 (cfP side) g 0 size w := by
  intro m os dk _ x y
  refine closureL side hs sb (lvlP side l x.1) (lvlP side l y.1) x.2 y.2 _ ?_
  have hsb := lt_of_cell hc
  unfold sortWorldK
  rw [cell?_grow _ _ _ (by rw [size_putRowK]; exact hsb), cell?_putRowK_other _ _ _ _ _ _ _ (by exact hne)]
  exact hc
theorem sort_lvls {W : World} {base : Nat} {u : Value} (side : Int) (hs : side = 0 ∨ side = 1) (l : List Lot) (qs : List Int) (hb : ∀ p ∈ qs, 1 ≤ p ∧ p ≤ 1000) (hn : qs.length ≤ 60) (sb : Nat) (hc : W.cell? ⟨sb, 0, none⟩ = some (.int .i64 side)) (hsb : sb < base)
    (h : W.ownsRow base 92 3 u qs.length (flat Lvl.cells (qs.map (lvlP side l)))) :
    Calls Tryd.prog 77 #[u, .func (.func 78) #[] #[.pointer (some ⟨sb, 0, none⟩)]] W fun e w' => e = .returned (.tuple #[]) ∧ w'.ownsRow base 92 3 u qs.length (flat Lvl.cells ((srt side qs).map (lvlP side l))) ∧ W.grownBy w' u.ownBlock := by
  by_cases hv : u = .slice none 0 0
  · subst hv
    have hz : qs = [] := by
      have h1 := h.1
      rcases h.2 with ⟨_, h3⟩ | ⟨g, cap, cur, e, _⟩
      · exact List.eq_nil_of_length_eq_zero h3
      · cases e
    subst hz
    refine (AnyF.slices_SortFunc_none (P := Tryd.prog) (ρ := Tryd.sortLv_ren) { Tryd.sortLv with } none 0 _ W).mono ?_
    rintro e w' ⟨rfl, rfl⟩
    have e : srt side [] = [] := by unfold srt; split <;> exact List.mergeSort_nil
    rw [e]
    exact ⟨rfl, h, grownBy_refl _ _⟩
  · obtain ⟨ds, hds⟩ : ∃ ds : List Pri, ds.map Subtype.val = qs := ⟨qs.pmap Subtype.mk hb, by rw [List.map_pmap]; simp⟩
    subst hds
    rw [← flat_vals] at h
    have hl : (ds.map Subtype.val).length = ds.length := List.length_map _
    rw [hl] at h hn ⊢
    obtain ⟨g, cap, rfl, hbg, hlg, hH⟩ := holdsK_of_owned (enc := encP side l) (fun _ => rfl) h rfl hv
    have eg : ∀ args w, (callFunc 78 args).run Tryd.prog w = .ok (.enter 78 args) w := enters_of Tryd.func78 (by kernel_rfl) rfl
    have hS := AnyQ.slices_SortFunc_total (P := Tryd.prog) (ρ := Tryd.sortLv_ren) Tryd.sortLv 3 Tryd.isAgg92 Tryd.sizeOf92 (encP side l) (fun _ => rfl) (fun x v hv => by
        simp only [encP, Lvl.cells, List.mem_cons, List.not_mem_nil, or_false] at hv
        rcases hv with rfl | rfl | rfl <;> rfl) (cfP side) (swoP side) 78 #[.pointer (some ⟨sb, 0, none⟩)] g 0 cap ds.toArray W eg (cmp_lays side hs l sb g _ W hc (by omega)) hH hlg (by simp; omega) (totP side)
    simp only [List.size_toArray] at hS
    refine Calls.mono (show Calls Tryd.prog 77 _ _ _ from hS) ?_
    rintro e w' ⟨rfl, q, os, rfl⟩
    have h2 := owned_sortK (enc := encP side l) (q := q) (os := os) (ys := ds.mergeSort fun x y => !(ltOf (cfP side)) y x) (fun _ => rfl) h (by simp)
    rw [flat_vals, sort_vals] at h2
    exact ⟨rfl, h2.1, h2.2⟩
end Go.Proofs.YtfeeibealokhfaaDoor
