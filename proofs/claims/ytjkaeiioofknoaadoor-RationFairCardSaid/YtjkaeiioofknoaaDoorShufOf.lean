/- What the document's ShuffleOf computes. -/
import Derived.Test.YtjkaeiioofknoaaDoorShuf
set_option linter.unusedSimpArgs false
set_option linter.unusedVariables false
namespace Go.Proofs.YtjkaeiioofknoaaDoor
open Go.RowKit

theorem row_swap {w wr : World} {base N g cap i kk : Nat} {L : List Int} {a b : Int} (hr : wr.ownsRow base 3 1 (.slice (some ⟨g, 0, none⟩) N cap) N (L.map (Value.int .i64))) (hb : Below base w wr) (hg : base ≤ g) :
    ((wr.setCell ⟨g, i, none⟩ (.int .i64 a)).setCell ⟨g, kk, none⟩ (.int .i64 b)).ownsRow base 3 1 (.slice (some ⟨g, 0, none⟩) N cap) N (((L.set i a).set kk b).map (Value.int .i64)) ∧ Below base w ((wr.setCell ⟨g, i, none⟩ (.int .i64 a)).setCell ⟨g, kk, none⟩ (.int .i64 b)) := by
  have h2 := ((hr.stored i (.int .i64 a)).1.stored kk (.int .i64 b)).1
  rw [← List.map_set, ← List.map_set] at h2
  exact ⟨h2, Below.setCell (Below.setCell hb hg _) hg _⟩

/-- The block of a slice is one of numbers. -/
def IntsObj (w : World) (ao : Option Addr) : Prop := ∀ a, ao = some a → ∃ cs, w.heap[a.block]? = some (.cells cs 3 (0, 0))
theorem IntsObj.ex {w w' : World} {ao : Option Addr} (h : IntsObj w ao) (hx : Ex w w') : IntsObj w' ao := fun a e => by
  obtain ⟨cs, hc⟩ := h a e
  exact ⟨cs, (hx.below.block _ (Array.getElem?_eq_some_iff.1 hc).1).trans hc⟩
theorem ints_obj {w : World} {base n cap : Nat} {ao : Option Addr} {size : Nat} {xs : List Value} (h : w.ownsRow base 3 size (.slice ao n cap) n xs) : IntsObj w ao := fun a e => by
  rcases h.2 with ⟨e1, _⟩ | ⟨g, cap', cur, e1, _, hg, _⟩
  · injection e1 with e2; rw [e2] at e; cases e
  · injection e1 with e2
    rw [e2] at e
    cases e
    exact ⟨cur, hg⟩
set_option maxRecDepth 100000 in
set_option maxHeartbeats 4000000 in
theorem shuffleOf_all (n : Int) (N : Nat) (seed : Int) (w : World) (hN : min (max n 0) 1000 = (N : Int)) (hs : U32 seed) :
    Calls Tryd.prog 40 #[.int .i64 n, .int .u32 seed] w fun e w' => (∃ ao' cap', e = .returned (.slice ao' N cap') ∧ N ≤ cap' ∧ IntsAt w' ao' (shufL N seed) ∧ IntsObj w' ao') ∧ Ex w w' := by
  have hN1 : N ≤ 1000 := by omega
  have hcase : (n = (N : Int)) ∨ (n > 1000 ∧ 1000 ≤ N) ∨ (n < 0 ∧ N ≤ 0) := by omega
  have HU := Lib.hid (seedOf_u32 hs)
  have hu0 := HU.out.1
  have hu1 := HU.out.2
  obtain ⟨i0, hi0, hi⟩ := Option.map_eq_some_iff.1 infoInt
  simp only [Prod.mk.injEq] at hi
  obtain ⟨hz0, hz1, hz2⟩ := hi
  have HB := Lib.hid (refSeed_any seed)
  have HT := Lib.hid (show shufF (N - 1) (rangeI N) (seedOf seed) = shufL N seed from rfl)
  clear hs hN
  generalize seedOf seed = x0 at *
  generalize shufL N seed = T at *
  rcases hcase with rfl | ⟨hc, hN0⟩ | ⟨hc, hN0⟩
  · go_enter Tryd.func40, Tryd.ntmps40
    go_wp2_with fail
    go_loopw [5, 6] (fun v i wr => ∃ (k : Nat) (u : Value), u = v ∧ k ≤ N ∧ i = .int .i64 k ∧ wr.ownsRow w.heap.size 3 1 u k ((rangeI k).map (Value.int .i64)) ∧ Below w.heap.size w wr) (fun _ i _ => N - (intOf i).toNat)
    case atStart => exact ⟨0, _, rfl, Nat.zero_le _, rfl, World.ownsRow_nil _ _ _ _, Below.refl _ _⟩
    case round =>
      obtain ⟨k, v, rfl, hk, rfl, hrow, hbl⟩ := hrel
      have HR := Lib.hid hrow
      have HL := Lib.hid hbl
      have hwz := hbl.size
      clear hrow hbl
      by_cases hlt : k < N
      · go_wp2_with (at_builtin; refine wpList_append_own _ rfl (.tmp 20) (.tmp 22) 44 rfl w.heap.size 3 i0 _ 1 8 Tryd.underlying44 hi0 hz0 hz1 hz2 rfl (by decide) v k ((rangeI k).map (Value.int .i64)) rfl ?_ _ 1 1 [.int .i64 k] rfl rfl ?_ ?_ (by unfold maxLen; omega) (by omega) ?_ ?_; (focus (refine HR.out.kept (Below.grownBy ?_) (Classical.em _); ((refine Below.trans (Below.refl _ _) ?_; repeat (first | exact Below.refl _ _ | (refine Below.drew ?_) | (refine Below.drewN ?_ _) | (refine Below.ext ?_ (by first | omega | (simp [go_sem]; done) | (simp [go_sem]; omega)) _ _) | (refine Below.alloc ?_ (by first | omega | (simp [go_sem]; done) | (simp [go_sem]; omega)) _) | (refine Below.setCell ?_ (by first | omega | (simp [go_sem]; done) | (simp [go_sem]; omega)) _)))))); (focus exact World.news_of_block (alloc_at rfl)); (focus simp [Value.oneCell']); (focus exact (by first | omega | (simp [go_sem]; done) | (simp [go_sem]; omega))); intro v1 w1 hown hgrow hnil)
        all_goals
          go_roundw
          case measure => simp [intOf]; omega
          case rel =>
            refine ⟨k + 1, _, rfl, by omega, by go_num, ?_, ?_⟩
            · rw [rangeI_succ, List.map_append]
              exact hown
            · refine Below.grown (a := _) ?_ hgrow ?_ (fun b hb => (HR.out.lt b hb).1)
              · (refine Below.trans HL.out ?_; repeat (first | exact Below.refl _ _ | (refine Below.drew ?_) | (refine Below.drewN ?_ _) | (refine Below.ext ?_ (by first | omega | (simp [go_sem]; done) | (simp [go_sem]; omega)) _ _) | (refine Below.alloc ?_ (by first | omega | (simp [go_sem]; done) | (simp [go_sem]; omega)) _) | (refine Below.setCell ?_ (by first | omega | (simp [go_sem]; done) | (simp [go_sem]; omega)) _)))
              · exact (by first | omega | (simp [go_sem]; done) | (simp [go_sem]; omega))
      · obtain rfl : k = N := by omega
        have hform : ∃ ao cap, v = .slice ao k cap ∧ k ≤ cap := by
          by_cases hv : v = .slice none 0 0
          · have h0 : k = 0 := by
              rcases HR.out.2 with ⟨_, h⟩ | ⟨g, cap, cur, e, _⟩
              · exact h
              · rw [hv] at e; cases e
            exact ⟨none, 0, by rw [hv, h0], by omega⟩
          · obtain ⟨g, cap2, e, _, _, hn, _⟩ := Lib.holds_of_ownsRow HR.out hv
            exact ⟨_, _, e, hn⟩
        obtain ⟨ao2, cap2, rfl, hcap⟩ := hform
        go_wp2_with (go_at_call 41; refine (HB.out _).mono ?_; rintro e w1 ⟨rfl, rfl⟩)
        go_loopw [7, 8, 9, 10] (fun xs s _ _ wr => ∃ (j : Nat) (L : List Int) (x : Int), j ≤ k ∧ s = .int .i64 ((j : Int) - 1) ∧ xs = .int .u32 x ∧ L.length = k ∧ U32 x ∧ shufF (j - 1) L x = T ∧ wr.ownsRow w.heap.size 3 1 (.slice ao2 k cap2) k (L.map (Value.int .i64)) ∧ Below w.heap.size w wr) (fun _ s _ _ _ => (intOf s + 1).toNat)
        case atStart => exact ⟨k, rangeI k, x0, Nat.le_refl _, (by first | rfl | (congr 1; omega)), rfl, rangeI_len _, HU.out, HT.out, HR.out, HL.out⟩
        case round =>
          obtain ⟨j, L, x, hj, rfl, rfl, hL, hx, hT, hrow, hbl⟩ := hrel
          have HT2 := Lib.hid hT
          have HB2 := Lib.hid hbl
          have HX := Lib.hid hx
          have HLL := Lib.hid hL
          clear hT hbl hx
          by_cases hj2 : j < 2
          · have hTL : L = T := by
              rw [← HT2.out]
              match j, hj2 with
              | 0, _ => rfl
              | 1, _ => rfl
            subst hTL
            have hia : IntsAt wr ao2 L := by
              by_cases hv : (Value.slice ao2 k cap2) = .slice none 0 0
              · intro h0
                have h1 : k = 0 := by injection hv
                omega
              · obtain ⟨g, cap3, e, _⟩ := Lib.holds_of_ownsRow hrow hv
                cases e
                exact ints_of_owned hrow
            have HIA := Lib.hid hia
            have HIO := Lib.hid (ints_obj hrow)
            have hj1 : ¬ ((j : Int) - 1 > 0) := by omega
            clear hrow hia hL
            go_wp2_with fail
            go_ret
            exact ⟨⟨_, _, rfl, hcap, HIA.out.ex (by repeat (first | exact Ex.refl _ | refine Ex.alloc ?_ _ | refine Ex.ext ?_ _ _ | refine Ex.drew ?_ | refine Ex.drewN ?_ _)), HIO.out.ex (by repeat (first | exact Ex.refl _ | refine Ex.alloc ?_ _ | refine Ex.ext ?_ _ _ | refine Ex.drew ?_ | refine Ex.drewN ?_ _))⟩, (Ex.of HB2.out).trans (by repeat (first | exact Ex.refl _ | refine Ex.alloc ?_ _ | refine Ex.ext ?_ _ _ | refine Ex.drew ?_ | refine Ex.drewN ?_ _))⟩
          · obtain ⟨i, rfl⟩ : ∃ i, j = i + 2 := ⟨j - 2, by omega⟩
            rw [show ((i + 2 : Nat) : Int) - 1 = (i : Int) + 1 by omega]
            obtain ⟨g, cap3, e, hbg, hlg, hn3, hm3, hlz, hH⟩ := Lib.holds_of_ownsRow hrow (by intro e; injection e; omega)
            cases e
            have HST := Lib.hid (show shufF (i + 1) L x = shufF i (swp L (i + 1) ((nxt x % ((i : Int) + 2)).toNat)) (nxt x) from rfl)
            have hy := nxt_u32 x
            have HNX := Lib.hid (fun w => refNext_any x w HX.out)
            generalize nxt x = y at *
            obtain ⟨hy0, hy1⟩ := hy
            obtain ⟨kk, hkk, hkl⟩ : ∃ kk : Nat, y % ((i : Int) + 2) = (kk : Int) ∧ kk < i + 2 := by
              have a := Int.emod_nonneg y (show (i : Int) + 2 ≠ 0 by omega)
              have b := Int.emod_lt_of_pos y (show 0 < (i : Int) + 2 by omega)
              exact ⟨(y % ((i : Int) + 2)).toNat, by omega, by omega⟩
            have hckk := (hH kk (by simp [HLL.out]; omega)).1
            have hcki := (hH (i + 1) (by simp [HLL.out]; omega)).1
            have hfkk := (hH kk (by simp [HLL.out]; omega)).2
            have hfki := (hH (i + 1) (by simp [HLL.out]; omega)).2
            rw [hkk, Int.toNat_natCast] at HST
            have j1 : (kk : Int) < k := by omega
            have j2 : (i : Int) + 1 < k := by omega
            have j3 : (0 : Int) ≤ (i : Int) + 1 := by omega
            have j4 : ((i : Int) + 1).toNat = i + 1 := by omega
            have HW : Hid (wrap64 (y % ((i : Int) + 1 + 1)) = (kk : Int)) := Lib.hid (by rw [show (i : Int) + 1 + 1 = (i : Int) + 2 by omega, hkk]; unfold wrap64; omega)
            have hke : kk = i + 1 ∨ (kk ≠ i + 1 ∧ i + 1 ≠ kk) := by omega
            clear hkk
            simp only [Nat.zero_add] at hckk hcki hfkk hfki
            rw [show L.toArray[kk]! = L.getD kk 0 by simp [getElem!_def, List.getD]; rfl] at hckk
            rw [show L.toArray[i + 1]! = L.getD (i + 1) 0 by simp [getElem!_def, List.getD]; rfl] at hcki
            have HSW := Lib.hid (show swp L (i + 1) kk = (L.set (i + 1) (L.getD kk 0)).set kk (L.getD (i + 1) 0) from rfl)
            generalize L.getD kk 0 = a at *
            generalize L.getD (i + 1) 0 = b at *
            have HRW := Lib.hid hrow
            clear hrow hH hL
            rcases hke with rfl | ⟨hk1, hk2⟩
            · have hab : a = b := by have := hckk.symm.trans hcki; simpa using this
              subst hab
              go_upto_region 16 with (go_at_call 42; refine (HNX.out _).mono ?_; rintro e w1 ⟨rfl, rfl⟩)
              rw [HW.out]
              go_wp2_with fail
              have hend := row_swap (i := i + 1) (kk := i + 1) (a := a) (b := a) HRW.out HB2.out hbg
              go_roundw
              case measure => simp [intOf]; omega
              case rel => exact ⟨i + 1, swp L (i + 1) (i + 1), y, by omega, by simp, rfl, by rw [swp_len]; exact HLL.out, ⟨hy0, hy1⟩, by rw [← HT2.out]; exact HST.out.symm, by rw [HSW.out]; exact hend.1, hend.2⟩
            · go_upto_region 16 with (go_at_call 42; refine (HNX.out _).mono ?_; rintro e w1 ⟨rfl, rfl⟩)
              rw [HW.out]
              go_wp2_with fail
              have hend := row_swap (i := i + 1) (kk := kk) (a := a) (b := b) HRW.out HB2.out hbg
              go_roundw
              case measure => simp [intOf]; omega
              case rel => exact ⟨i + 1, swp L (i + 1) kk, y, by omega, by simp, rfl, by rw [swp_len]; exact HLL.out, ⟨hy0, hy1⟩, by rw [← HT2.out]; exact HST.out.symm, by rw [HSW.out]; exact hend.1, hend.2⟩
  · go_enter Tryd.func40, Tryd.ntmps40
    go_wp2_with fail
    go_loopw [5, 6] (fun v i wr => ∃ (k : Nat) (u : Value), u = v ∧ k ≤ N ∧ i = .int .i64 k ∧ wr.ownsRow w.heap.size 3 1 u k ((rangeI k).map (Value.int .i64)) ∧ Below w.heap.size w wr) (fun _ i _ => N - (intOf i).toNat)
    case atStart => exact ⟨0, _, rfl, Nat.zero_le _, rfl, World.ownsRow_nil _ _ _ _, Below.refl _ _⟩
    case round =>
      obtain ⟨k, v, rfl, hk, rfl, hrow, hbl⟩ := hrel
      have HR := Lib.hid hrow
      have HL := Lib.hid hbl
      have hwz := hbl.size
      clear hrow hbl
      by_cases hlt : k < N
      · go_wp2_with (at_builtin; refine wpList_append_own _ rfl (.tmp 20) (.tmp 22) 44 rfl w.heap.size 3 i0 _ 1 8 Tryd.underlying44 hi0 hz0 hz1 hz2 rfl (by decide) v k ((rangeI k).map (Value.int .i64)) rfl ?_ _ 1 1 [.int .i64 k] rfl rfl ?_ ?_ (by unfold maxLen; omega) (by omega) ?_ ?_; (focus (refine HR.out.kept (Below.grownBy ?_) (Classical.em _); ((refine Below.trans (Below.refl _ _) ?_; repeat (first | exact Below.refl _ _ | (refine Below.drew ?_) | (refine Below.drewN ?_ _) | (refine Below.ext ?_ (by first | omega | (simp [go_sem]; done) | (simp [go_sem]; omega)) _ _) | (refine Below.alloc ?_ (by first | omega | (simp [go_sem]; done) | (simp [go_sem]; omega)) _) | (refine Below.setCell ?_ (by first | omega | (simp [go_sem]; done) | (simp [go_sem]; omega)) _)))))); (focus exact World.news_of_block (alloc_at rfl)); (focus simp [Value.oneCell']); (focus exact (by first | omega | (simp [go_sem]; done) | (simp [go_sem]; omega))); intro v1 w1 hown hgrow hnil)
        all_goals
          go_roundw
          case measure => simp [intOf]; omega
          case rel =>
            refine ⟨k + 1, _, rfl, by omega, by go_num, ?_, ?_⟩
            · rw [rangeI_succ, List.map_append]
              exact hown
            · refine Below.grown (a := _) ?_ hgrow ?_ (fun b hb => (HR.out.lt b hb).1)
              · (refine Below.trans HL.out ?_; repeat (first | exact Below.refl _ _ | (refine Below.drew ?_) | (refine Below.drewN ?_ _) | (refine Below.ext ?_ (by first | omega | (simp [go_sem]; done) | (simp [go_sem]; omega)) _ _) | (refine Below.alloc ?_ (by first | omega | (simp [go_sem]; done) | (simp [go_sem]; omega)) _) | (refine Below.setCell ?_ (by first | omega | (simp [go_sem]; done) | (simp [go_sem]; omega)) _)))
              · exact (by first | omega | (simp [go_sem]; done) | (simp [go_sem]; omega))
      · obtain rfl : k = N := by omega
        have hform : ∃ ao cap, v = .slice ao k cap ∧ k ≤ cap := by
          by_cases hv : v = .slice none 0 0
          · have h0 : k = 0 := by
              rcases HR.out.2 with ⟨_, h⟩ | ⟨g, cap, cur, e, _⟩
              · exact h
              · rw [hv] at e; cases e
            exact ⟨none, 0, by rw [hv, h0], by omega⟩
          · obtain ⟨g, cap2, e, _, _, hn, _⟩ := Lib.holds_of_ownsRow HR.out hv
            exact ⟨_, _, e, hn⟩
        obtain ⟨ao2, cap2, rfl, hcap⟩ := hform
        go_wp2_with (go_at_call 41; refine (HB.out _).mono ?_; rintro e w1 ⟨rfl, rfl⟩)
        go_loopw [7, 8, 9, 10] (fun xs s _ _ wr => ∃ (j : Nat) (L : List Int) (x : Int), j ≤ k ∧ s = .int .i64 ((j : Int) - 1) ∧ xs = .int .u32 x ∧ L.length = k ∧ U32 x ∧ shufF (j - 1) L x = T ∧ wr.ownsRow w.heap.size 3 1 (.slice ao2 k cap2) k (L.map (Value.int .i64)) ∧ Below w.heap.size w wr) (fun _ s _ _ _ => (intOf s + 1).toNat)
        case atStart => exact ⟨k, rangeI k, x0, Nat.le_refl _, (by first | rfl | (congr 1; omega)), rfl, rangeI_len _, HU.out, HT.out, HR.out, HL.out⟩
        case round =>
          obtain ⟨j, L, x, hj, rfl, rfl, hL, hx, hT, hrow, hbl⟩ := hrel
          have HT2 := Lib.hid hT
          have HB2 := Lib.hid hbl
          have HX := Lib.hid hx
          have HLL := Lib.hid hL
          clear hT hbl hx
          by_cases hj2 : j < 2
          · have hTL : L = T := by
              rw [← HT2.out]
              match j, hj2 with
              | 0, _ => rfl
              | 1, _ => rfl
            subst hTL
            have hia : IntsAt wr ao2 L := by
              by_cases hv : (Value.slice ao2 k cap2) = .slice none 0 0
              · intro h0
                have h1 : k = 0 := by injection hv
                omega
              · obtain ⟨g, cap3, e, _⟩ := Lib.holds_of_ownsRow hrow hv
                cases e
                exact ints_of_owned hrow
            have HIA := Lib.hid hia
            have HIO := Lib.hid (ints_obj hrow)
            have hj1 : ¬ ((j : Int) - 1 > 0) := by omega
            clear hrow hia hL
            go_wp2_with fail
            go_ret
            exact ⟨⟨_, _, rfl, hcap, HIA.out.ex (by repeat (first | exact Ex.refl _ | refine Ex.alloc ?_ _ | refine Ex.ext ?_ _ _ | refine Ex.drew ?_ | refine Ex.drewN ?_ _)), HIO.out.ex (by repeat (first | exact Ex.refl _ | refine Ex.alloc ?_ _ | refine Ex.ext ?_ _ _ | refine Ex.drew ?_ | refine Ex.drewN ?_ _))⟩, (Ex.of HB2.out).trans (by repeat (first | exact Ex.refl _ | refine Ex.alloc ?_ _ | refine Ex.ext ?_ _ _ | refine Ex.drew ?_ | refine Ex.drewN ?_ _))⟩
          · obtain ⟨i, rfl⟩ : ∃ i, j = i + 2 := ⟨j - 2, by omega⟩
            rw [show ((i + 2 : Nat) : Int) - 1 = (i : Int) + 1 by omega]
            obtain ⟨g, cap3, e, hbg, hlg, hn3, hm3, hlz, hH⟩ := Lib.holds_of_ownsRow hrow (by intro e; injection e; omega)
            cases e
            have HST := Lib.hid (show shufF (i + 1) L x = shufF i (swp L (i + 1) ((nxt x % ((i : Int) + 2)).toNat)) (nxt x) from rfl)
            have hy := nxt_u32 x
            have HNX := Lib.hid (fun w => refNext_any x w HX.out)
            generalize nxt x = y at *
            obtain ⟨hy0, hy1⟩ := hy
            obtain ⟨kk, hkk, hkl⟩ : ∃ kk : Nat, y % ((i : Int) + 2) = (kk : Int) ∧ kk < i + 2 := by
              have a := Int.emod_nonneg y (show (i : Int) + 2 ≠ 0 by omega)
              have b := Int.emod_lt_of_pos y (show 0 < (i : Int) + 2 by omega)
              exact ⟨(y % ((i : Int) + 2)).toNat, by omega, by omega⟩
            have hckk := (hH kk (by simp [HLL.out]; omega)).1
            have hcki := (hH (i + 1) (by simp [HLL.out]; omega)).1
            have hfkk := (hH kk (by simp [HLL.out]; omega)).2
            have hfki := (hH (i + 1) (by simp [HLL.out]; omega)).2
            rw [hkk, Int.toNat_natCast] at HST
            have j1 : (kk : Int) < k := by omega
            have j2 : (i : Int) + 1 < k := by omega
            have j3 : (0 : Int) ≤ (i : Int) + 1 := by omega
            have j4 : ((i : Int) + 1).toNat = i + 1 := by omega
            have HW : Hid (wrap64 (y % ((i : Int) + 1 + 1)) = (kk : Int)) := Lib.hid (by rw [show (i : Int) + 1 + 1 = (i : Int) + 2 by omega, hkk]; unfold wrap64; omega)
            have hke : kk = i + 1 ∨ (kk ≠ i + 1 ∧ i + 1 ≠ kk) := by omega
            clear hkk
            simp only [Nat.zero_add] at hckk hcki hfkk hfki
            rw [show L.toArray[kk]! = L.getD kk 0 by simp [getElem!_def, List.getD]; rfl] at hckk
            rw [show L.toArray[i + 1]! = L.getD (i + 1) 0 by simp [getElem!_def, List.getD]; rfl] at hcki
            have HSW := Lib.hid (show swp L (i + 1) kk = (L.set (i + 1) (L.getD kk 0)).set kk (L.getD (i + 1) 0) from rfl)
            generalize L.getD kk 0 = a at *
            generalize L.getD (i + 1) 0 = b at *
            have HRW := Lib.hid hrow
            clear hrow hH hL
            rcases hke with rfl | ⟨hk1, hk2⟩
            · have hab : a = b := by have := hckk.symm.trans hcki; simpa using this
              subst hab
              go_upto_region 16 with (go_at_call 42; refine (HNX.out _).mono ?_; rintro e w1 ⟨rfl, rfl⟩)
              rw [HW.out]
              go_wp2_with fail
              have hend := row_swap (i := i + 1) (kk := i + 1) (a := a) (b := a) HRW.out HB2.out hbg
              go_roundw
              case measure => simp [intOf]; omega
              case rel => exact ⟨i + 1, swp L (i + 1) (i + 1), y, by omega, by simp, rfl, by rw [swp_len]; exact HLL.out, ⟨hy0, hy1⟩, by rw [← HT2.out]; exact HST.out.symm, by rw [HSW.out]; exact hend.1, hend.2⟩
            · go_upto_region 16 with (go_at_call 42; refine (HNX.out _).mono ?_; rintro e w1 ⟨rfl, rfl⟩)
              rw [HW.out]
              go_wp2_with fail
              have hend := row_swap (i := i + 1) (kk := kk) (a := a) (b := b) HRW.out HB2.out hbg
              go_roundw
              case measure => simp [intOf]; omega
              case rel => exact ⟨i + 1, swp L (i + 1) kk, y, by omega, by simp, rfl, by rw [swp_len]; exact HLL.out, ⟨hy0, hy1⟩, by rw [← HT2.out]; exact HST.out.symm, by rw [HSW.out]; exact hend.1, hend.2⟩
  · obtain rfl : N = 0 := by omega
    have HT0 := Lib.hid (show T = [] from HT.out.symm)
    clear HT
    go_enter Tryd.func40, Tryd.ntmps40
    go_wp2_with fail
    go_loopw [5, 6] (fun v i wr => v = .slice none 0 0 ∧ i = .int .i64 0 ∧ wr = w) (fun _ _ _ => 0)
    case atStart => exact ⟨rfl, rfl, rfl⟩
    case round =>
      obtain ⟨rfl, rfl, rfl⟩ := hrel
      go_wp2_with (go_at_call 41; refine (HB.out _).mono ?_; rintro e w1 ⟨rfl, rfl⟩)
      go_loopw [7, 8, 9, 10] (fun xs s _ _ wr' => s = .int .i64 (-1) ∧ wr' = wr) (fun _ _ _ _ _ => 0)
      case atStart => exact ⟨rfl, rfl⟩
      case round =>
        obtain ⟨rfl, rfl⟩ := hrel
        go_wp2_with fail
        go_ret
        exact ⟨⟨none, 0, rfl, Nat.le_refl _, (by rw [HT0.out]; intro h; cases h), (fun a e => by cases e)⟩, Ex.refl _⟩
theorem shuffleOf_any (n : Int) (N : Nat) (seed : Int) (w : World) (hN : min (max n 0) 1000 = (N : Int)) (hs : U32 seed) :
    Calls Tryd.prog 40 #[.int .i64 n, .int .u32 seed] w fun e w' => (∃ ao' cap', e = .returned (.slice ao' N cap') ∧ N ≤ cap' ∧ IntsAt w' ao' (shufL N seed)) ∧ Ex w w' :=
  (shuffleOf_all n N seed w hN hs).mono fun e w' ⟨⟨a, c, h1, h2, h3, _⟩, h5⟩ => ⟨⟨a, c, h1, h2, h3⟩, h5⟩
end Go.Proofs.YtjkaeiioofknoaaDoor
