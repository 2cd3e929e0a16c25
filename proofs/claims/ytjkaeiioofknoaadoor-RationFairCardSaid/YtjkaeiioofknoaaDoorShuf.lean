/- What Shuffle of package ration computes. -/
import Derived.Test.YtjkaeiioofknoaaDoorStream
set_option linter.unusedSimpArgs false
set_option linter.unusedVariables false
namespace Go.Proofs.YtjkaeiioofknoaaDoor
open Go.RowKit

/-- The block of a stream. -/
def StrAt (w : World) (p : Nat) (x : Int) : Prop := w.heap[p]? = some (.cells #[.int .u32 x] 84 (0, 0))
theorem StrAt.cell {w : World} {p : Nat} {x : Int} (h : StrAt w p x) : w.cell? ⟨p, 0, none⟩ = some (.int .u32 x) := by simp [World.cell?, show w.heap[p]? = _ from h]
theorem StrAt.frozen {w : World} {p : Nat} {x : Int} (h : StrAt w p x) : w.frozen? ⟨p, 0, none⟩ = false := by simp [World.frozen?, show w.heap[p]? = _ from h]
theorem StrAt.lt {w : World} {p : Nat} {x : Int} (h : StrAt w p x) : p < w.heap.size := (Array.getElem?_eq_some_iff.1 h).1
theorem StrAt.kept {w w' : World} {p : Nat} {x : Int} {row : Option Nat} (h : StrAt w p x) (hg : w.grownBy w' row) (hne : some p ≠ row) : StrAt w' p x := (hg.block p h.lt hne).trans h
theorem StrAt.set {w : World} {p : Nat} {x : Int} (h : StrAt w p x) (y : Int) : StrAt (w.setCell ⟨p, 0, none⟩ (.int .u32 y)) p y := by
  have := heap_setCell_same w p 0 _ _ (.int .u32 y) h
  simpa [StrAt] using this
theorem StrAt.other {w : World} {p : Nat} {x : Int} (h : StrAt w p x) {a : Addr} (ha : p ≠ a.block) (v : Value) : StrAt (w.setCell a v) p x := (heap_setCell_other w a p v (fun e => ha (by simpa using e))).trans h

/-- What a shuffle holds on its way. -/
def ShInv (w : World) (N : Nat) (u : Value) (L : List Int) (x : Int) (wr : World) : Prop := wr.ownsRow (w.heap.size + 1) 3 1 u N (L.map (Value.int .i64)) ∧ StrAt wr w.heap.size x ∧ Below w.heap.size w wr

theorem ShInv.swap {w wr : World} {N g cap i kk : Nat} {L : List Int} {x y a b : Int} (hr : wr.ownsRow (w.heap.size + 1) 3 1 (.slice (some ⟨g, 0, none⟩) N cap) N (L.map (Value.int .i64))) (hs : StrAt wr w.heap.size x) (hb : Below w.heap.size w wr) (hg : w.heap.size + 1 ≤ g) :
    ShInv w N (.slice (some ⟨g, 0, none⟩) N cap) ((L.set i a).set kk b) y (((wr.setCell ⟨w.heap.size, 0, none⟩ (.int .u32 y)).setCell ⟨g, i, none⟩ (.int .i64 a)).setCell ⟨g, kk, none⟩ (.int .i64 b)).drew := by
  have hne : w.heap.size ≠ g := by omega
  have h0 : (wr.setCell ⟨w.heap.size, 0, none⟩ (.int .u32 y)).ownsRow (w.heap.size + 1) 3 1 (.slice (some ⟨g, 0, none⟩) N cap) N (L.map (Value.int .i64)) :=
    hr.kept (row := some w.heap.size) ⟨rfl, rfl, rfl, by simp, fun k _ hk => heap_setCell_other wr ⟨w.heap.size, 0, none⟩ k _ (fun e => hk (by simp [e]))⟩ (.inr (by simp [Value.ownBlock]; omega))
  have h1 := (h0.stored i (.int .i64 a)).1
  have h2 := (h1.stored kk (.int .i64 b)).1
  refine ⟨?_, ((hs.set y).other hne _).other hne _, ?_⟩
  · rw [← List.map_set, ← List.map_set] at h2
    exact h2
  · exact Below.drew (Below.setCell (Below.setCell (Below.setCell hb (Nat.le_refl _) _) (by show w.heap.size ≤ g; omega) _) (by show w.heap.size ≤ g; omega) _)

set_option maxRecDepth 100000 in
set_option maxHeartbeats 4000000 in
theorem shuffle_any (n : Int) (N : Nat) (seed : Int) (w : World) (hN : min (max n 0) 1000 = (N : Int)) (hs : U32 seed) :
    Calls Tryd.prog 38 #[.int .i64 n, .int .u32 seed] w fun e w' => (∃ ao' cap', e = .returned (.slice ao' N cap') ∧ N ≤ cap' ∧ IntsAt w' ao' (shufL N seed)) ∧ Ex w w' := by
  have hN1 : N ≤ 1000 := by omega
  have HN := Lib.hid hN
  have HU := Lib.hid (seedOf_u32 hs)
  have hu0 := HU.out.1
  have hu1 := HU.out.2
  obtain ⟨i0, hi0, hi⟩ := Option.map_eq_some_iff.1 infoInt
  simp only [Prod.mk.injEq] at hi
  obtain ⟨hz0, hz1, hz2⟩ := hi
  have HB := Lib.hid (begin_any seed)
  have HT := Lib.hid (show shufF (N - 1) (rangeI N) (seedOf seed) = shufL N seed from rfl)
  clear hs
  generalize seedOf seed = x0 at *
  generalize shufL N seed = T at *
  go_enter Tryd.func38, Tryd.ntmps38
  go_wp2_with (go_at_call 63; refine (HB.out _).mono ?_; rintro e w1 ⟨rfl, rfl⟩)
  clear hN
  go_loopw [6, 7, 15] (fun v _ i wr => ∃ (k : Nat) (u : Value), u = v ∧ k ≤ N ∧ i = .int .i64 k ∧ ShInv w k u (rangeI k) x0 wr) (fun _ _ i _ => N - (intOf i).toNat)
  case atStart => exact ⟨0, _, rfl, Nat.zero_le _, rfl, World.ownsRow_nil _ _ _ _, (show (w.alloc _).heap[w.heap.size]? = _ from alloc_at rfl), Ex.below (by repeat (first | exact Ex.refl _ | refine Ex.alloc ?_ _ | refine Ex.ext ?_ _ _ | refine Ex.drew ?_ | refine Ex.drewN ?_ _))⟩
  case round =>
    obtain ⟨k, v, rfl, hk, rfl, hrow, hstr, hbl⟩ := hrel
    have HR := Lib.hid hrow
    have HS := Lib.hid hstr
    have HL := Lib.hid hbl
    have hwz := hbl.size
    have hsz := hstr.lt
    clear hrow hstr hbl
    by_cases hlt : k < N
    · go_wp2_with (at_builtin; refine wpList_append_own _ rfl (.tmp 18) (.tmp 20) 44 rfl (w.heap.size + 1) 3 i0 _ 1 8 Tryd.underlying44 hi0 hz0 hz1 hz2 rfl (by decide) v k ((rangeI k).map (Value.int .i64)) rfl ?_ _ 1 1 [.int .i64 k] rfl rfl ?_ ?_ (by unfold maxLen; omega) (by omega) ?_ ?_; (focus (refine HR.out.kept (Below.grownBy ?_) (Classical.em _); ((refine Below.trans (Below.refl _ _) ?_; repeat (first | exact Below.refl _ _ | (refine Below.drew ?_) | (refine Below.drewN ?_ _) | (refine Below.ext ?_ (by first | omega | (simp [go_sem]; done) | (simp [go_sem]; omega)) _ _) | (refine Below.alloc ?_ (by first | omega | (simp [go_sem]; done) | (simp [go_sem]; omega)) _) | (refine Below.setCell ?_ (by first | omega | (simp [go_sem]; done) | (simp [go_sem]; omega)) _)))))); (focus exact World.news_of_block (alloc_at rfl)); (focus simp [Value.oneCell']); (focus exact (by first | omega | (simp [go_sem]; done) | (simp [go_sem]; omega))); intro v1 w1 hown hgrow hnil)
      all_goals
        go_roundw
        case measure => simp [intOf]; omega
        case rel =>
          refine ⟨k + 1, _, rfl, by omega, by go_num, ?_, ?_, ?_⟩
          · rw [rangeI_succ, List.map_append]
            exact hown
          · refine StrAt.kept (w := wr.alloc _) ?_ hgrow ?_
            · exact HS.out.kept (World.grownBy_alloc wr _ none) (by simp)
            · intro e
              have := (HR.out.lt _ e.symm).1
              omega
          · refine Below.grown (a := _) ?_ hgrow ?_ (fun b hb => by have := (HR.out.lt b hb).1; omega)
            · (refine Below.trans HL.out ?_; repeat (first | exact Below.refl _ _ | (refine Below.drew ?_) | (refine Below.drewN ?_ _) | (refine Below.ext ?_ (by first | omega | (simp [go_sem]; done) | (simp [go_sem]; omega)) _ _) | (refine Below.alloc ?_ (by first | omega | (simp [go_sem]; done) | (simp [go_sem]; omega)) _) | (refine Below.setCell ?_ (by first | omega | (simp [go_sem]; done) | (simp [go_sem]; omega)) _)))
            · exact (by first | omega | (simp [go_sem]; done) | (simp [go_sem]; omega))
    · obtain rfl : k = N := by omega
      have hform : ∃ ao cap, v = .slice ao k cap ∧ k ≤ cap := by
        by_cases hv : v = .slice none 0 0
        · have h0 : k = 0 := by
            rcases HR.out.2 with ⟨_, h⟩ | ⟨g, cap, cur, e, _⟩
            · exact h
            · rw [hv] at e; cases e
          exact ⟨none, 0, by rw [hv, h0], by omega⟩
        · obtain ⟨g, cap2, e, _, _, hn, _⟩ := Lib.holds_of_ownsRow HR.out hv
          exact ⟨_, _, e, hn⟩
      obtain ⟨ao2, cap2, rfl, hcap⟩ := hform
      go_wp2_with fail
      go_loopw [8, 9] (fun s _ wr => ∃ (j : Nat) (L : List Int) (x : Int), j ≤ k ∧ s = .int .i64 ((j : Int) - 1) ∧ L.length = k ∧ U32 x ∧ shufF (j - 1) L x = T ∧ ShInv w k (.slice ao2 k cap2) L x wr) (fun s _ _ => (intOf s + 1).toNat)
      case atStart => exact ⟨k, rangeI k, x0, Nat.le_refl _, rfl, rangeI_len k, HU.out, HT.out, HR.out, HS.out, HL.out⟩
      case round =>
        obtain ⟨j, L, x, hj, rfl, hL, hx, hT, hrow, hstr, hbl⟩ := hrel
        have HT2 := Lib.hid hT
        have HR2 := Lib.hid hrow
        have HS2 := Lib.hid hstr
        have HB2 := Lib.hid hbl
        have HX := Lib.hid hx
        have HLL := Lib.hid hL
        clear hT hbl hx
        by_cases hj2 : j < 2
        · have hTL : L = T := by
            rw [← HT2.out]
            match j, hj2 with
            | 0, _ => rfl
            | 1, _ => rfl
          subst hTL
          have hia : IntsAt wr ao2 L := by
            by_cases hv : (Value.slice ao2 k cap2) = .slice none 0 0
            · intro h0
              cases hv
              omega
            · obtain ⟨g, cap3, e, _⟩ := Lib.holds_of_ownsRow hrow hv
              cases e
              exact ints_of_owned hrow
          have HIA := Lib.hid hia
          have hj1 : ¬ ((j : Int) - 1 > 0) := by omega
          clear hrow hstr hia hL
          go_wp2_with fail
          go_ret
          exact ⟨⟨_, _, rfl, hcap, HIA.out.ex (by repeat (first | exact Ex.refl _ | refine Ex.alloc ?_ _ | refine Ex.ext ?_ _ _ | refine Ex.drew ?_ | refine Ex.drewN ?_ _))⟩, (Ex.of HB2.out).trans (by repeat (first | exact Ex.refl _ | refine Ex.alloc ?_ _ | refine Ex.ext ?_ _ _ | refine Ex.drew ?_ | refine Ex.drewN ?_ _))⟩
        · obtain ⟨i, rfl⟩ : ∃ i, j = i + 2 := ⟨j - 2, by omega⟩
          rw [show ((i + 2 : Nat) : Int) - 1 = (i : Int) + 1 by omega]
          obtain ⟨g, cap3, e, hbg, hlg, hn3, hm3, hlz, hH⟩ := Lib.holds_of_ownsRow hrow (by intro e; cases e; omega)
          cases e
          have c0 := hstr.cell
          have f0 := hstr.frozen
          have hgs : g ≠ w.heap.size := by omega
          have HST := Lib.hid (show shufF (i + 1) L x = shufF i (swp L (i + 1) ((nxt x % ((i : Int) + 2)).toNat)) (nxt x) from rfl)
          have hy := nxt_u32 x
          have HNX := Lib.hid (next_any w.heap.size x wr HX.out c0 f0)
          generalize nxt x = y at *
          obtain ⟨hy0, hy1⟩ := hy
          obtain ⟨kk, hkk, hkl⟩ : ∃ kk : Nat, y % ((i : Int) + 2) = (kk : Int) ∧ kk < i + 2 := by
            have a := Int.emod_nonneg y (show (i : Int) + 2 ≠ 0 by omega)
            have b := Int.emod_lt_of_pos y (show 0 < (i : Int) + 2 by omega)
            exact ⟨(y % ((i : Int) + 2)).toNat, by omega, by omega⟩
          have hckk := (hH kk (by simp [HLL.out]; omega)).1
          have hcki := (hH (i + 1) (by simp [HLL.out]; omega)).1
          have hfkk := (hH kk (by simp [HLL.out]; omega)).2
          have hfki := (hH (i + 1) (by simp [HLL.out]; omega)).2
          rw [hkk, Int.toNat_natCast] at HST
          have j1 : (kk : Int) < (k : Int) := by omega
          have j2 : (i : Int) + 1 < (k : Int) := by omega
          have j3 : (0 : Int) ≤ (i : Int) + 1 := by omega
          have j4 : ((i : Int) + 1).toNat = i + 1 := by omega
          have HW : Hid (wrap64 (y % ((i : Int) + 1 + 1)) = (kk : Int)) := Lib.hid (by rw [show (i : Int) + 1 + 1 = (i : Int) + 2 by omega, hkk]; unfold wrap64; omega)
          have hke : kk = i + 1 ∨ (kk ≠ i + 1 ∧ i + 1 ≠ kk) := by omega
          clear hkk
          simp only [Nat.zero_add] at hckk hcki hfkk hfki
          rw [show L.toArray[kk]! = L.getD kk 0 by simp [getElem!_def, List.getD]; rfl] at hckk
          rw [show L.toArray[i + 1]! = L.getD (i + 1) 0 by simp [getElem!_def, List.getD]; rfl] at hcki
          have HSW := Lib.hid (show swp L (i + 1) kk = (L.set (i + 1) (L.getD kk 0)).set kk (L.getD (i + 1) 0) from rfl)
          generalize L.getD kk 0 = a at *
          generalize L.getD (i + 1) 0 = b at *
          have HRW := Lib.hid hrow
          clear hrow hstr hH c0 f0 hL
          rcases hke with rfl | ⟨hk1, hk2⟩
          · go_wp2_with fail
            refine HNX.out.mono ?_
            rintro e w1 ⟨rfl, rfl⟩
            go_wp2_with fail
            rw [HW.out]
            go_region
            all_goals go_wp2
            have hab : a = b := by have := hckk.symm.trans hcki; simpa using this
            subst hab
            exact ⟨⟨i + 1, swp L (i + 1) (i + 1), y, by omega, by simp, by rw [swp_len]; exact HLL.out, ⟨hy0, hy1⟩, by rw [← HT2.out]; exact HST.out.symm, by rw [HSW.out]; exact ShInv.swap HRW.out HS2.out HB2.out hbg⟩, by simp [intOf]; omega⟩
          · go_wp2_with fail
            refine HNX.out.mono ?_
            rintro e w1 ⟨rfl, rfl⟩
            go_wp2_with fail
            rw [HW.out]
            go_region
            all_goals go_wp2
            exact ⟨⟨i + 1, swp L (i + 1) kk, y, by omega, by simp, by rw [swp_len]; exact HLL.out, ⟨hy0, hy1⟩, by rw [← HT2.out]; exact HST.out.symm, by rw [HSW.out]; exact ShInv.swap HRW.out HS2.out HB2.out hbg⟩, by simp [intOf]; omega⟩
end Go.Proofs.YtjkaeiioofknoaaDoor
