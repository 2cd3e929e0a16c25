/- What the statements' rationed, and Stream of package ration, compute. -/
import Derived.Test.YtjkaeiioofknoaaDoorFills
import Derived.Test.YtjkaeiioofknoaaDoorShufOf
import Derived.Test.YtjkaeiioofknoaaDoorClearBestLaw
set_option linter.unusedSimpArgs false
set_option linter.unusedVariables false
namespace Go.Proofs.YtjkaeiioofknoaaDoor
open Go.RowKit

instance : DecidableEq Fil := fun a b => if h : a.id = b.id ∧ a.qty = b.qty then isTrue (by cases a; cases b; simp_all) else isFalse (by intro e; subst e; simp at h)
theorem lots2_fills : fillsL lots2 9 4 7 = [⟨1, 4⟩, ⟨2, 4⟩] := by decide +kernel
theorem lots2_vol : min (dem lots2 9) (sup lots2 9) = 4 := by decide +kernel
set_option maxRecDepth 100000 in
set_option maxHeartbeats 1000000 in
theorem rationed_any (E : Nat → Addr) (w : World) (hE : Errs E [2, 3, 7, 8] w) : Calls Tryd.prog 33 #[] w fun e w' => e = .returned (.bool true) ∧ Ex w w' := by
  have H1 := fun ao len cap w hc hE hl => fills_ok ao len cap lots2 9 4 7 E w hc hE hl lots2_ok (by decide) (by decide) (by decide) (by rw [lots2_vol]; decide) (by unfold U32; decide)
  rw [lots2_fills] at H1
  go_enter Tryd.func33, Tryd.ntmps33
  go_wp2_with fail
  have HL : LotsAt (w.alloc (Obj.cells (lots2.flatMap Lot.cells).toArray 31)) (some ⟨w.heap.size, 0, none⟩) 2 lots2 :=
    lots_block (l := lots2) (alloc_at rfl) rfl (by intro a ha; simp only [lots2, List.mem_cons, List.not_mem_nil, or_false] at ha; rcases ha with rfl | rfl <;> (refine ⟨?_, ?_, ?_, ?_, ?_⟩ <;> decide)) (by decide)
  have HL := Lib.hid HL
  have G1 := Lib.hid H1
  clear H1
  refine (G1.out _ _ _ _ (by decide) (hE.ex (by repeat (first | exact Ex.refl _ | refine Ex.alloc ?_ _ | refine Ex.ext ?_ _ _ | refine Ex.drew ?_ | refine Ex.drewN ?_ _))) (HL.out.ex (by repeat (first | exact Ex.refl _ | refine Ex.alloc ?_ _ | refine Ex.ext ?_ _ _ | refine Ex.drew ?_ | refine Ex.drewN ?_ _)))).mono ?_
  rintro e w1 ⟨⟨ao1, cap1, rfl, hc1, hf1⟩, hx1⟩
  have HX1 : Hid (Ex w w1) := Lib.hid (Ex.trans (by repeat (first | exact Ex.refl _ | refine Ex.alloc ?_ _ | refine Ex.ext ?_ _ _ | refine Ex.drew ?_ | refine Ex.drewN ?_ _)) hx1)
  have HF1 := Lib.hid hf1
  clear hx1 hf1
  go_wp2_with fail
  have HF2 : Hid (FillAt (w1.alloc (Obj.cells #[.int .i64 1, .int .i64 4, .int .i64 2, .int .i64 4] 52)) (some ⟨w1.heap.size, 0, none⟩) [⟨1, 4⟩, ⟨2, 4⟩]) := Lib.hid (fun _ => ⟨w1.heap.size, 0, rfl, by simp, fun k hk j hj => by
    have : k = 0 ∨ k = 1 := by simp at hk; omega
    have : j = 0 ∨ j = 1 := by omega
    rcases ‹k = 0 ∨ k = 1› with rfl | rfl <;> rcases ‹j = 0 ∨ j = 1› with rfl | rfl <;> simp [go_sem, Fil.cells]⟩)
  refine (sameFills_any _ _ _ _ [⟨1, 4⟩, ⟨2, 4⟩] _ (HF1.out.ex (by repeat (first | exact Ex.refl _ | refine Ex.alloc ?_ _ | refine Ex.ext ?_ _ _ | refine Ex.drew ?_ | refine Ex.drewN ?_ _))) (HF2.out.ex (by repeat (first | exact Ex.refl _ | refine Ex.alloc ?_ _ | refine Ex.ext ?_ _ _ | refine Ex.drew ?_ | refine Ex.drewN ?_ _))) (by decide)).mono ?_
  rintro e w2 ⟨rfl, l2, d2, rfl⟩
  go_wp2_with fail
  all_goals go_ret
  all_goals exact ⟨rfl, HX1.out.trans (by repeat (first | exact Ex.refl _ | refine Ex.alloc ?_ _ | refine Ex.ext ?_ _ _ | refine Ex.drew ?_ | refine Ex.drewN ?_ _))⟩

/-- The k-th number of a stream. -/
def strm (x : Int) : Nat → Int
  | 0 => x
  | k + 1 => nxt (strm x k)
def strmL (x : Int) (n : Nat) : List Int := (List.range n).map fun k => strm x (k + 1)
theorem strm_u32 {x : Int} (h : U32 x) : ∀ k, U32 (strm x k)
  | 0 => h
  | k + 1 => nxt_u32 _
theorem strmL_succ (x : Int) (n : Nat) : strmL x (n + 1) = strmL x n ++ [strm x (n + 1)] := by simp [strmL, List.range_succ]
theorem strmL_len (x : Int) (n : Nat) : (strmL x n).length = n := by simp [strmL]
/-- How a slice of numbers without a sign reads. -/
def WordsAt (w : World) (ao : Option Addr) (zs : List Int) : Prop := 0 < zs.length → ∃ b off, ao = some ⟨b, off, none⟩ ∧ b < w.heap.size ∧ ∀ k (hk : k < zs.length), w.cell? ⟨b, off + k, none⟩ = some (.int .u32 zs[k])
theorem WordsAt.ex {w w' : World} {ao : Option Addr} {zs : List Int} (h : WordsAt w ao zs) (hx : Ex w w') : WordsAt w' ao zs := fun h0 => by
  obtain ⟨b, off, e, hb, hc⟩ := h h0
  exact ⟨b, off, e, Nat.lt_of_lt_of_le hb hx.below.size, fun k hk => (hx.below.cell (p := ⟨b, off + k, none⟩) hb).trans (hc k hk)⟩
theorem infoU32 : (Tryd.prog.info? 46).map (fun i => (i.zero, i.size, i.bytes)) = some (some (.int .u32 0), 1, 4) := by kernel_rfl
theorem grown_set (w : World) (b j : Nat) (v : Value) : w.grownBy (w.setCell ⟨b, j, none⟩ v) (some b) := ⟨rfl, rfl, rfl, by simp, fun k _ hk => heap_setCell_other w ⟨b, j, none⟩ k _ (fun e => hk (by simp [e]))⟩
set_option maxRecDepth 100000 in
set_option maxHeartbeats 4000000 in
theorem stream_any (n : Int) (N : Nat) (seed : Int) (w : World) (hN : min (max n 0) 1000 = (N : Int)) (hs : U32 seed) :
    Calls Tryd.prog 37 #[.int .u32 seed, .int .i64 n] w fun e w' => (∃ ao' cap', e = .returned (.slice ao' N cap') ∧ N ≤ cap' ∧ WordsAt w' ao' (strmL (seedOf seed) N)) ∧ Ex w w' := by
  have hN1 : N ≤ 1000 := by omega
  have HU := Lib.hid (seedOf_u32 hs)
  obtain ⟨i0, hi0, hi⟩ := Option.map_eq_some_iff.1 infoU32
  simp only [Prod.mk.injEq] at hi
  obtain ⟨hz0, hz1, hz2⟩ := hi
  have HB := Lib.hid (begin_any seed)
  clear hs
  generalize seedOf seed = x0 at *
  go_enter Tryd.func37, Tryd.ntmps37
  go_wp2_with (go_at_call 63; refine (HB.out _).mono ?_; rintro e w1 ⟨rfl, rfl⟩)
  clear hN
  go_loopw [6, 12] (fun v i wr => ∃ (k : Nat) (u : Value), u = v ∧ k ≤ N ∧ i = .int .i64 k ∧ wr.ownsRow (w.heap.size + 1) 46 1 u k ((strmL x0 k).map (Value.int .u32)) ∧ StrAt wr w.heap.size (strm x0 k) ∧ Below w.heap.size w wr) (fun _ i _ => N - (intOf i).toNat)
  case atStart => exact ⟨0, _, rfl, Nat.zero_le _, rfl, World.ownsRow_nil _ _ _ _, (show (w.alloc _).heap[w.heap.size]? = _ from alloc_at rfl), Ex.below (by repeat (first | exact Ex.refl _ | refine Ex.alloc ?_ _ | refine Ex.ext ?_ _ _ | refine Ex.drew ?_ | refine Ex.drewN ?_ _))⟩
  case round =>
    obtain ⟨k, v, rfl, hk, rfl, hrow, hstr, hbl⟩ := hrel
    have HR := Lib.hid hrow
    have HS := Lib.hid hstr
    have HL := Lib.hid hbl
    have hwz := hbl.size
    have hsz := hstr.lt
    by_cases hlt : k < N
    · have HNX := Lib.hid (next_any w.heap.size (strm x0 k) wr (strm_u32 HU.out k) hstr.cell hstr.frozen)
      have HST := Lib.hid (show nxt (strm x0 k) = strm x0 (k + 1) from rfl)
      rw [HST.out] at HNX
      clear hrow hstr hbl
      generalize hy : strm x0 (k + 1) = y at *
      have HY := Lib.hid hy
      clear hy
      go_wp2_with fail
      refine HNX.out.mono ?_
      rintro e w1 ⟨rfl, rfl⟩
      go_wp2_with (at_builtin; refine wpList_append_own _ rfl (.tmp 14) (.tmp 16) 56 rfl (w.heap.size + 1) 46 i0 _ 1 4 Tryd.underlying56 hi0 hz0 hz1 hz2 rfl (by decide) v k ((strmL x0 k).map (Value.int .u32)) rfl ?_ _ 1 1 [.int .u32 y] rfl rfl ?_ ?_ (by unfold maxLen; omega) (by omega) ?_ ?_; (focus exact World.ownsRow.alloc (HR.out.kept (row := some w.heap.size) (grown_set wr _ _ _) (.inr (fun e => by have := (HR.out.lt _ e).1; omega))) _); (focus exact World.news_of_block (alloc_at (by simp))); (focus simp [Value.oneCell']); (focus (simp; omega)); intro v1 w1 hown hgrow hnil)
      all_goals
        go_roundw
        case measure => simp [intOf]; omega
        case rel =>
          refine ⟨k + 1, _, rfl, by omega, by go_num, ?_, ?_, ?_⟩
          · rw [strmL_succ, List.map_append, HY.out]
            exact hown
          · rw [HY.out]
            refine StrAt.kept (w := (wr.setCell _ _).alloc _) ?_ hgrow ?_
            · exact (HS.out.set y).kept (World.grownBy_alloc _ _ none) (by simp)
            · intro e
              have := (HR.out.lt _ e.symm).1
              omega
          · refine Below.grown (a := _) ?_ hgrow ?_ (fun b hb => by have := (HR.out.lt b hb).1; omega)
            · (refine Below.trans HL.out ?_; repeat (first | exact Below.refl _ _ | (refine Below.drew ?_) | (refine Below.drewN ?_ _) | (refine Below.ext ?_ (by first | omega | (simp [go_sem]; done) | (simp [go_sem]; omega)) _ _) | (refine Below.alloc ?_ (by first | omega | (simp [go_sem]; done) | (simp [go_sem]; omega)) _) | (refine Below.setCell ?_ (by first | omega | (simp [go_sem]; done) | (simp [go_sem]; omega)) _)))
            · first | exact (by first | omega | (simp [go_sem]; done) | (simp [go_sem]; omega)) | (simp; omega)
    · obtain rfl : k = N := by omega
      have hend : ∃ ao cap, v = .slice ao k cap ∧ k ≤ cap ∧ WordsAt wr ao (strmL x0 k) := by
        by_cases hv : v = .slice none 0 0
        · have h0 : k = 0 := by
            rcases hrow.2 with ⟨_, h⟩ | ⟨g, cap, cur, e, _⟩
            · exact h
            · rw [hv] at e; cases e
          subst h0
          exact ⟨none, 0, hv, Nat.le_refl _, fun h => by rw [strmL_len] at h; omega⟩
        · obtain ⟨g, cap2, e, _, hlg, hn, _, _, hH⟩ := Lib.holds_of_ownsRow hrow hv
          refine ⟨_, _, e, hn, fun h0 => ⟨g, 0, rfl, hlg, fun j hj => ?_⟩⟩
          have := (hH j (by simpa using hj)).1
          simpa [getElem!_pos, hj] using this
      obtain ⟨ao2, cap2, rfl, hcap, hwd⟩ := hend
      have HWD := Lib.hid hwd
      clear hrow hstr hbl hwd
      go_wp2_with fail
      go_ret
      exact ⟨⟨_, _, rfl, hcap, HWD.out.ex (by repeat (first | exact Ex.refl _ | refine Ex.alloc ?_ _ | refine Ex.ext ?_ _ _ | refine Ex.drew ?_ | refine Ex.drewN ?_ _))⟩, (Ex.of HL.out).trans (by repeat (first | exact Ex.refl _ | refine Ex.alloc ?_ _ | refine Ex.ext ?_ _ _ | refine Ex.drew ?_ | refine Ex.drewN ?_ _))⟩
end Go.Proofs.YtjkaeiioofknoaaDoor
