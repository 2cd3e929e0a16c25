/- What curve's Prices computes. -/
import Derived.Test.YtjkaeiioofknoaaDoorOwn
import Derived.Test.YtjkaeiioofknoaaDoorDemand
import Derived.Test.YtjkaeiioofknoaaDoorShelf
import Derived.Lib.OwnBridge
import Derived.Deep.AppendLies
import Derived.Lib.SlicesCompact
set_option linter.unusedSimpArgs false
set_option linter.unusedVariables false
namespace Go.Proofs.YtjkaeiioofknoaaDoor
open Go.RowKit Go.Sort

theorem pairwise_get {zs : List Int} (hs : zs.Pairwise (· ≤ ·)) {i j : Nat} (hij : i ≤ j) (hj : j < zs.length) : zs[i]'(by omega) ≤ zs[j] := by
  by_cases e : i = j
  · subst e; exact Int.le_refl _
  · exact List.pairwise_iff_getElem.1 hs i j (by omega) hj (by omega)
theorem compactUpTo_spec (zs : List Int) (hs : zs.Pairwise (· ≤ ·)) : ∀ m, m ≤ zs.length →
    (∀ x ∈ Lib.compactUpTo zs.toArray m, ∃ (i : Nat) (h : i < zs.length), i < m ∧ zs[i] = x) ∧ (∀ (i : Nat) (h : i < zs.length), i < m → zs[i] ∈ Lib.compactUpTo zs.toArray m) ∧ (Lib.compactUpTo zs.toArray m).Pairwise (· < ·)
  | 0, _ => ⟨fun x hx => by simp [Lib.compactUpTo] at hx, fun i _ h => by omega, by simp [Lib.compactUpTo]⟩
  | m + 1, hm => by
    obtain ⟨h1, h2, h3⟩ := compactUpTo_spec zs hs m (by omega)
    have em : zs.toArray[m]! = zs[m] := by simp [getElem!_pos, show m < zs.length by omega]
    rw [Lib.compactUpTo_succ]
    by_cases hk : Lib.keeps zs.toArray m = true
    · rw [if_pos hk, em]
      have hlt : ∀ x ∈ Lib.compactUpTo zs.toArray m, x < zs[m] := by
        intro x hx
        obtain ⟨i, hi, him, rfl⟩ := h1 x hx
        have e1 : zs.toArray[m - 1]! = zs[m - 1] := by simp [getElem!_pos, show m - 1 < zs.length by omega]
        simp only [Lib.keeps, decide_eq_true_eq, em, e1] at hk
        have a := pairwise_get hs (i := i) (j := m - 1) (by omega) (by omega)
        have b := pairwise_get hs (i := m - 1) (j := m) (by omega) (by omega)
        rcases hk with hk | hk <;> omega
      refine ⟨fun x hx => ?_, fun i hi him => ?_, ?_⟩
      · rcases List.mem_append.1 hx with hx | hx
        · obtain ⟨i, hi, him, e⟩ := h1 x hx
          exact ⟨i, hi, by omega, e⟩
        · simp at hx; exact ⟨m, by omega, by omega, hx.symm⟩
      · by_cases e : i = m
        · subst e; simp
        · exact List.mem_append_left _ (h2 i hi (by omega))
      · rw [List.pairwise_append]
        refine ⟨h3, by simp, fun x hx y hy => ?_⟩
        simp at hy
        rw [hy]; exact hlt x hx
    · rw [if_neg hk, List.append_nil]
      refine ⟨fun x hx => ?_, fun i hi him => ?_, h3⟩
      · obtain ⟨i, hi, him, e⟩ := h1 x hx
        exact ⟨i, hi, by omega, e⟩
      · by_cases e : i = m
        · subst e
          have e1 : zs.toArray[i - 1]! = zs[i - 1] := by simp [getElem!_pos, show i - 1 < zs.length by omega]
          simp only [Lib.keeps, decide_eq_true_eq, em, e1, not_or, Decidable.not_not] at hk
          rw [hk.2]
          exact h2 (i - 1) (by omega) (by omega)
        · exact h2 i hi (by omega)
theorem compact_spec (zs : List Int) (hs : zs.Pairwise (· ≤ ·)) : (∀ x, x ∈ Lib.compact zs ↔ x ∈ zs) ∧ (Lib.compact zs).Pairwise (· < ·) := by
  obtain ⟨h1, h2, h3⟩ := compactUpTo_spec zs hs zs.length (Nat.le_refl _)
  refine ⟨fun x => ⟨fun hx => ?_, fun hx => ?_⟩, h3⟩
  · obtain ⟨i, hi, _, rfl⟩ := h1 x hx
    exact List.getElem_mem hi
  · obtain ⟨i, hi, rfl⟩ := List.getElem_of_mem hx
    exact h2 i hi hi
/-- The prices of lots, each once, rising. -/
def pricesL (l : List Lot) : List Int := Lib.compact ((l.map Lot.price).mergeSort fun x y => decide (x ≤ y))
theorem pricesL_spec (l : List Lot) : (∀ p, p ∈ pricesL l ↔ ∃ x ∈ l, x.price = p) ∧ (pricesL l).Pairwise (· < ·) := by
  have hs : ((l.map Lot.price).mergeSort fun x y => decide (x ≤ y)).Pairwise (· ≤ ·) := by
    have := List.pairwise_mergeSort (le := fun x y : Int => decide (x ≤ y)) (fun a b c h k => by simp at h k ⊢; omega) (fun a b => by simp; omega) (l.map Lot.price)
    exact this.imp fun h => by simpa using h
  obtain ⟨h1, h2⟩ := compact_spec _ hs
  refine ⟨fun p => ?_, h2⟩
  rw [pricesL, h1, (List.mergeSort_perm _ _).mem_iff, List.mem_map]
theorem pricesL_len (l : List Lot) : (pricesL l).length ≤ l.length := by
  have h : (Lib.compact ((l.map Lot.price).mergeSort fun x y => decide (x ≤ y))).length ≤ ((l.map Lot.price).mergeSort fun x y => decide (x ≤ y)).length := by
    simp only [Lib.compact, Lib.compactUpTo, List.length_map]
    exact Nat.le_trans (List.length_filter_le _ _) (by simp)
  simpa [pricesL] using h

/-- How a slice of numbers reads. -/
def IntsAt (w : World) (ao : Option Addr) (zs : List Int) : Prop := 0 < zs.length → ∃ b off, ao = some ⟨b, off, none⟩ ∧ b < w.heap.size ∧ ∀ k (hk : k < zs.length), w.cell? ⟨b, off + k, none⟩ = some (.int .i64 zs[k])
theorem IntsAt.ex {w w' : World} {ao : Option Addr} {zs : List Int} (h : IntsAt w ao zs) (hx : Ex w w') : IntsAt w' ao zs := fun h0 => by
  obtain ⟨b, off, e, hb, hc⟩ := h h0
  exact ⟨b, off, e, Nat.lt_of_lt_of_le hb hx.below.size, fun k hk => (hx.below.cell (p := ⟨b, off + k, none⟩) hb).trans (hc k hk)⟩
theorem ints_of_owned {w : World} {base : Nat} {e : TypeId} {g n cap : Nat} {zs : List Int} (h : w.ownsRow base e 1 (.slice (some ⟨g, 0, none⟩) n cap) n (zs.map (Value.int .i64))) : IntsAt w (some ⟨g, 0, none⟩) zs := fun h0 => by
  obtain ⟨g', cap', e1, hb, hlt, hn, hm, hl, hH⟩ := Lib.holds_of_ownsRow h (by simp)
  cases e1
  refine ⟨g, 0, rfl, hlt, fun k hk => ?_⟩
  have := (hH k (by simpa using hk)).1
  simpa [getElem!_pos, hk] using this

theorem infoInt : (Tryd.prog.info? 3).map (fun i => (i.zero, i.size, i.bytes)) = some (some (.int .i64 0), 1, 8) := by kernel_rfl

set_option maxRecDepth 100000 in
set_option maxHeartbeats 4000000 in
theorem prices_ok (ao : Option Addr) (len cap : Nat) (l : List Lot) (E : Nat → Addr) (w : World) (hcap : len ≤ cap) (hE : Errs E [2, 7, 8] w) (hl : LotsAt w ao len l) (hok : LotsOk l) :
    Calls Tryd.prog 31 #[.slice ao len cap] w fun e w' => (∃ ao' cap', e = .returned (.slice ao' (pricesL l).length cap') ∧ (pricesL l).length ≤ cap' ∧ IntsAt w' ao' (pricesL l)) ∧ Ex w w' := by
  have HC := Lib.hid (check_any ao len cap l E w hcap hE hl)
  have HLA := Lib.hid hl
  have HOK := Lib.hid hok
  have HLEN := Lib.hid hl.1
  have h120 := hok.1
  have hl1 := hl.1
  obtain ⟨i0, hi0, hi⟩ := Option.map_eq_some_iff.1 infoInt
  simp only [Prod.mk.injEq] at hi
  obtain ⟨hz0, hz1, hz2⟩ := hi
  have hlen : len ≤ 120 := by omega
  clear hl hok hE hl1 h120
  go_enter Tryd.func31, Tryd.ntmps31
  go_wp2_with fail
  refine HC.out.mono ?_
  rintro e wx ⟨⟨v, rfl, hv⟩, hx2⟩
  obtain rfl := CheckV.ok HOK.out hv
  have HX2 := Lib.hid hx2
  have HL2 := Lib.hid (HLA.out.ex hx2)
  clear hv hx2
  go_wp2_with fail
  go_loopw [3, 11] (fun v i wr => ∃ (k : Nat) (u : Value), u = v ∧ k ≤ len ∧ i = .int .i64 k ∧ wr.ownsRow wx.heap.size 3 1 v k ((l.take k).map fun x => Value.int .i64 x.price) ∧ Below wx.heap.size wx wr) (fun _ i _ => len - (intOf i).toNat)
  case atStart => exact ⟨0, _, rfl, Nat.zero_le _, rfl, World.ownsRow_nil _ _ _ _, Below.refl _ _⟩
  case round =>
    obtain ⟨k, v, rfl, hk, rfl, hrow, hB⟩ := hrel
    have HR := Lib.hid hrow
    have HB := Lib.hid hB
    clear hrow hB
    by_cases hlt : k < len
    · have hkl : k < l.length := by rw [HLEN.out]; omega
      obtain ⟨b, off, rfl, hbs, hz⟩ := HL2.out.2.2.2 (by omega)
      have hzk := hz k hkl
      clear hz
      have hcx : ∀ j, j < 5 → wr.cell? ⟨b, off + k * 5 + j, none⟩ = (l[k]'hkl).cells[j]? := fun j hj => (HB.out.cell (p := ⟨b, off + k * 5 + j, none⟩) hbs).trans (hzk j hj)
      clear hzk
      have hd : l.take (k + 1) = l.take k ++ [l[k]'hkl] := by rw [List.take_add_one, List.getElem?_eq_getElem hkl]; rfl
      generalize l[k]'hkl = a at hcx hd
      have HD := Lib.hid hd
      clear hd
      have a0 := hcx 0 (by omega)
      have a1 := hcx 1 (by omega)
      have a2 := hcx 2 (by omega)
      have a3 := hcx 3 (by omega)
      have a4 := hcx 4 (by omega)
      simp only [Lot.cells, List.getElem?_cons_zero, List.getElem?_cons_succ, Nat.add_zero] at a0 a1 a2 a3 a4
      clear hcx
      have hbw : b < wr.heap.size := by have := HB.out.size; omega
      go_wp2_with (at_builtin; refine wpList_append_own _ rfl (.tmp 15) (.tmp 18) 44 rfl wx.heap.size 3 i0 _ 1 8 Tryd.underlying44 hi0 hz0 hz1 hz2 rfl (by decide) v k ((l.take k).map fun x => Value.int .i64 x.price) rfl ?_ _ 1 1 [.int .i64 a.price] rfl rfl ?_ ?_ (by unfold maxLen; omega) (by omega) ?_ ?_; (focus (refine HR.out.kept (Below.grownBy ?_) (Classical.em _); ((refine Below.trans (Below.refl _ _) ?_; repeat (first | exact Below.refl _ _ | (refine Below.drew ?_) | (refine Below.drewN ?_ _) | (refine Below.ext ?_ (by first | omega | (simp [go_sem]; done) | (simp [go_sem]; omega)) _ _) | (refine Below.alloc ?_ (by first | omega | (simp [go_sem]; done) | (simp [go_sem]; omega)) _) | (refine Below.setCell ?_ (by first | omega | (simp [go_sem]; done) | (simp [go_sem]; omega)) _)))))); (focus exact World.news_of_block (alloc_at (by simp))); (focus simp [Value.oneCell']); (focus simp [go_sem]; have := HB.out.size; omega); intro v1 w1 hown hgrow hnil)
      all_goals
        go_roundw
        case measure => simp [intOf]; omega
        case rel =>
          refine ⟨k + 1, _, rfl, by omega, by go_num, ?_, ?_⟩
          · rw [HD.out, List.map_append]
            exact hown
          · have hsz := HB.out.size
            refine Below.grown (a := _) ?_ hgrow ?_ (fun b hb => (HR.out.lt b hb).1)
            · (refine Below.trans HB.out ?_; repeat (first | exact Below.refl _ _ | (refine Below.drew ?_) | (refine Below.drewN ?_ _) | (refine Below.ext ?_ (by first | omega | (simp [go_sem]; done) | (simp [go_sem]; omega)) _ _) | (refine Below.alloc ?_ (by first | omega | (simp [go_sem]; done) | (simp [go_sem]; omega)) _) | (refine Below.setCell ?_ (by first | omega | (simp [go_sem]; done) | (simp [go_sem]; omega)) _)))
            · exact (by first | omega | (simp [go_sem]; done) | (simp [go_sem]; omega))
    · obtain rfl : k = len := by omega
      have hrw : wr.ownsRow wx.heap.size 3 1 v k ((l.map Lot.price).map (Value.int .i64)) := by
        have := HR.out
        rw [List.take_of_length_le (by rw [HLEN.out]; exact Nat.le_refl _)] at this
        rw [List.map_map]; exact this
      by_cases hv : v = .slice none 0 0
      · subst hv
        have h0 : k = 0 := by
          rcases hrw.2 with ⟨_, h⟩ | ⟨g, cap, cur, e, _⟩
          · exact h
          · cases e
        subst h0
        have hl0 : l = [] := List.length_eq_zero_iff.1 HLEN.out
        subst hl0
        have hp0 : pricesL [] = [] := by decide +kernel
        have HP0 := Lib.hid hp0
        clear hrw hp0
        go_wp2_with (first
          | (go_at_call 60; refine (Tryd.slices_Sort_int_none _ _ _).mono ?_; rintro e w1 ⟨rfl, rfl⟩)
          | (go_at_call 61; refine (Tryd.slices_Compact_int_empty _ _ _).mono ?_; rintro e w1 ⟨rfl, rfl⟩))
        all_goals go_ret
        all_goals exact ⟨⟨none, 0, by rw [HP0.out]; rfl, by rw [HP0.out]; exact Nat.le_refl _, by rw [HP0.out]; intro h; cases h⟩, HX2.out.trans (Ex.of HB.out)⟩
      · obtain ⟨g, cap2, rfl, hbg, hlg, hn, hm, hlz, hH⟩ := Lib.holds_of_ownsRow hrw hv
        have hS := Tryd.slices_Sort_int g 0 cap2 (l.map Lot.price) wr hH hlg (by omega)
        rw [hlz] at hS
        have HS := Lib.hid hS
        have HRW := Lib.hid hrw
        have HLZ := Lib.hid hlz
        clear hS hrw hv hH hlz
        go_wp2_with fail
        refine HS.out.mono ?_
        rintro e w1 ⟨rfl, n1, os1, hw1⟩
        have own1 : w1.ownsRow wx.heap.size 3 1 (.slice (some ⟨g, 0, none⟩) k cap2) k (((l.map Lot.price).mergeSort fun x y => decide (x ≤ y)).map (Value.int .i64)) := by
          have h := Lib.ownsRow_putRow (q := n1) (k := k) HRW.out (ys := (l.map Lot.price).mergeSort fun x y => decide (x ≤ y)) (by simpa using HLZ.out) (Nat.le_refl _)
          rw [List.take_of_length_le (by have := HLZ.out; simp at this ⊢; omega)] at h
          rw [hw1]
          refine h.kept (row := none) ⟨rfl, rfl, rfl, by simp, fun b hb _ => heap_grow_old _ _ hb⟩ (Classical.em _)
        have hB1 : Below wx.heap.size wx w1 := by
          rw [hw1]
          have h := Lib.below_putRow (enc := Value.int .i64) (q := n1) (d := ((l.map Lot.price).mergeSort fun x y => decide (x ≤ y)).toArray) HB.out hbg
          exact ⟨h.os, h.tape, h.output, by have := h.size; simp; omega, fun b hb => (heap_grow_old _ _ (by have := h.size; omega)).trans (h.block b hb)⟩
        obtain ⟨g', cap', e1, _, hlg1, hn1, hm1, hlz1, hH1⟩ := Lib.holds_of_ownsRow own1 (by simp)
        cases e1
        have hCm := Tryd.slices_Compact_int g 0 cap2 _ w1 hH1 (by omega) (by omega)
        rw [hlz1] at hCm
        have HCM := Lib.hid hCm
        have OWN1 := Lib.hid own1
        have HB1 := Lib.hid hB1
        have HLZ1 := Lib.hid hlz1
        clear hCm own1 hB1 hH1 hlz1 hw1
        go_wp2_with fail
        refine HCM.out.mono ?_
        rintro e w2 ⟨rfl, q2, hw2⟩
        have hle : (pricesL l).length ≤ k := by have := pricesL_len l; have := HLEN.out; omega
        have own2 : w2.ownsRow wx.heap.size 3 1 (.slice (some ⟨g, 0, none⟩) (pricesL l).length cap2) (pricesL l).length ((pricesL l).map (Value.int .i64)) := by
          have h := Lib.ownsRow_putRow (q := q2) (k := (pricesL l).length) OWN1.out (ys := pricesL l ++ List.replicate (k - (pricesL l).length) 0) (by simp; omega) hle
          rw [List.take_left] at h
          rw [hw2]
          exact h
        have hB2 : Below wx.heap.size wx w2 := by
          rw [hw2]
          exact Lib.below_putRow (enc := Value.int .i64) HB1.out hbg
        clear hw2
        go_wp2_with fail
        all_goals go_ret
        all_goals exact ⟨⟨_, _, rfl, by omega, ints_of_owned own2⟩, HX2.out.trans (Ex.of hB2)⟩

set_option maxRecDepth 100000 in
theorem prices_bad (ao : Option Addr) (len cap : Nat) (l : List Lot) (E : Nat → Addr) (w : World) (hcap : len ≤ cap) (hE : Errs E [2, 7, 8] w) (hl : LotsAt w ao len l) (hok : ¬ LotsOk l) :
    Calls Tryd.prog 31 #[.slice ao len cap] w fun e w' => e = .returned (.slice none 0 0) ∧ Ex w w' := by
  have HC := Lib.hid (check_any ao len cap l E w hcap hE hl)
  have HOK := Lib.hid hok
  clear hl hok hE
  go_enter Tryd.func31, Tryd.ntmps31
  go_wp2_with fail
  refine HC.out.mono ?_
  rintro e w1 ⟨⟨v, rfl, hv⟩, l1, d1, rfl⟩
  obtain ⟨u, x, rfl⟩ := CheckV.bad HOK.out hv
  clear hv
  go_wp2
  all_goals go_ret
  all_goals exact ⟨rfl, (by repeat (first | exact Ex.refl _ | refine Ex.alloc ?_ _ | refine Ex.ext ?_ _ _ | refine Ex.drew ?_ | refine Ex.drewN ?_ _))⟩
end Go.Proofs.YtjkaeiioofknoaaDoor
