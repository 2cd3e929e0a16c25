import Derived.Test.YtmbboflakfokhaaDoorJ15
import Derived.Laws.Closers25b
import Derived.Laws.OwnMore
import Derived.Test.YtmbboflakfokhaaDoorLevels
/- What the streams of package ration, and of the document, compute. -/
set_option linter.unusedSimpArgs false
set_option linter.unusedVariables false
namespace Go.Proofs.YtmbboflakfokhaaDoor
open Go.RowKit

/-- The next number of a stream, in three steps. -/
def nx1 (x : Int) : Int := bits .xor .u32 x (x * 8192 % 4294967296)
def nx2 (x : Int) : Int := bits .xor .u32 x (x / 131072)
def nx3 (x : Int) : Int := bits .xor .u32 x (x * 32 % 4294967296)
def nxt (x : Int) : Int := nx3 (nx2 (nx1 x))
def seedOf (x : Int) : Int := if x = 0 then 2463534242 else x
def U32 (x : Int) : Prop := 0 ≤ x ∧ x < 4294967296
theorem bits_u32 (a b : Int) : U32 (bits .xor .u32 a b) := by
  have h := bits_within .xor .u32 a b
  simp [IntKind.min, IntKind.max, IntKind.bits, IntKind.signed] at h
  exact ⟨h.1, by omega⟩
theorem nxt_u32 (x : Int) : U32 (nxt x) := bits_u32 _ _
theorem seedOf_u32 {x : Int} (h : U32 x) : U32 (seedOf x) := by unfold seedOf U32 at *; split <;> omega

theorem nxt_eq (x : Int) : nxt x = bits .xor .u32 (bits .xor .u32 (bits .xor .u32 x (x * 8192 % 4294967296)) (bits .xor .u32 x (x * 8192 % 4294967296) / 131072)) (bits .xor .u32 (bits .xor .u32 x (x * 8192 % 4294967296)) (bits .xor .u32 x (x * 8192 % 4294967296) / 131072) * 32 % 4294967296) := rfl
theorem ret_u32 {a b : Int} (h : a = b) : Ending.returned (.int .u32 a) = .returned (.int .u32 b) := by rw [h]
theorem begin_any (x : Int) (w : World) : Calls Tryd.prog 76 #[.int .u32 x] w fun e w' => e = .returned (.int .u32 (seedOf x)) ∧ w = w' := by
  cases h : (x == 0)
  · have hs : seedOf x = x := by unfold seedOf; rw [if_neg (by simpa using h)]
    have HS := Lib.hid hs
    clear hs
    go_enter Tryd.func76, Tryd.ntmps76
    go_wp2
    all_goals go_ret
    exact ⟨ret_u32 HS.out.symm, rfl⟩
  · have hs : seedOf x = 2463534242 := by unfold seedOf; rw [if_pos (by simpa using h)]
    have HS := Lib.hid hs
    clear hs
    go_enter Tryd.func76, Tryd.ntmps76
    go_wp2
    all_goals go_ret
    exact ⟨ret_u32 HS.out.symm, rfl⟩
set_option maxRecDepth 100000 in
theorem next_any (p : Nat) (x : Int) (w : World) (h : U32 x) (hc : w.cell? ⟨p, 0, none⟩ = some (.int .u32 x)) (hf : w.frozen? ⟨p, 0, none⟩ = false) :
    Calls Tryd.prog 77 #[.pointer (some ⟨p, 0, none⟩)] w fun e w' => e = .returned (.int .u32 (nxt x)) ∧ w' = w.setCell ⟨p, 0, none⟩ (.int .u32 (nxt x)) := by
  obtain ⟨h0, h1⟩ := h
  go_enter Tryd.func77, Tryd.ntmps77
  go_wp2
  all_goals go_ret
  exact ⟨ret_u32 (nxt_eq x).symm, by rw [nxt_eq x]⟩

/-- The order of n things. -/
def swp (L : List Int) (i k : Nat) : List Int := (L.set i (L.getD k 0)).set k (L.getD i 0)
def shufF : Nat → List Int → Int → List Int
  | 0, L, _ => L
  | i + 1, L, x => shufF i (swp L (i + 1) ((nxt x % ((i : Int) + 2)).toNat)) (nxt x)
def rangeI (n : Nat) : List Int := (List.range n).map (fun i : Nat => (i : Int))
def shufL (n : Nat) (seed : Int) : List Int := shufF (n - 1) (rangeI n) (seedOf seed)
theorem swp_len (L : List Int) (i k : Nat) : (swp L i k).length = L.length := by simp [swp]
theorem rangeI_len (n : Nat) : (rangeI n).length = n := by simp [rangeI]
theorem rangeI_succ (n : Nat) : rangeI (n + 1) = rangeI n ++ [(n : Int)] := by simp [rangeI, List.range_succ]
theorem shufF_len : ∀ (i : Nat) (L : List Int) (x : Int), (shufF i L x).length = L.length
  | 0, _, _ => rfl
  | i + 1, L, x => by simp only [shufF]; rw [shufF_len i, swp_len]
theorem shufL_len (n : Nat) (seed : Int) : (shufL n seed).length = n := by rw [shufL, shufF_len, rangeI_len]
end Go.Proofs.YtmbboflakfokhaaDoor

/- Plain facts: who gets how much. -/
set_option linter.unusedSimpArgs false
set_option linter.unusedVariables false
namespace Go.Proofs.YtmbboflakfokhaaDoor
open Go.RowKit

structure Fil where
  id : Int
  qty : Int
def Fil.cells (f : Fil) : List Value := [.int .i64 f.id, .int .i64 f.qty]
/-- What some lots get of a quantity, one after another, and what is left of it. -/
def takeF : List Lot → Int → List Fil × Int
  | [], m => ([], m)
  | x :: r, m => if 0 < min x.qty m then (⟨x.id, min x.qty m⟩ :: (takeF r (m - min x.qty m)).1, (takeF r (m - min x.qty m)).2) else takeF r m
theorem takeF_snoc (x : Lot) : ∀ (l : List Lot) (m : Int), takeF (l ++ [x]) m = if 0 < min x.qty (takeF l m).2 then ((takeF l m).1 ++ [⟨x.id, min x.qty (takeF l m).2⟩], (takeF l m).2 - min x.qty (takeF l m).2) else takeF l m
  | [], m => by simp only [List.nil_append, takeF]; rfl
  | y :: l, m => by
    simp only [List.cons_append, takeF, takeF_snoc x l]
    by_cases h : 0 < min y.qty m
    · simp only [if_pos h]
      by_cases h2 : 0 < min x.qty (takeF l (m - min y.qty m)).2
      · simp only [if_pos h2, List.cons_append]
      · simp only [if_neg h2]
    · simp only [if_neg h]
theorem takeF_len : ∀ (l : List Lot) (m : Int), (takeF l m).1.length ≤ l.length
  | [], _ => Nat.le_refl _
  | x :: l, m => by
    simp only [takeF]
    split
    · have := takeF_len l (m - min x.qty m); simp; omega
    · have := takeF_len l m; simp; omega
theorem takeF_left : ∀ (l : List Lot) (m : Int), 0 ≤ m → 0 ≤ (takeF l m).2 ∧ (takeF l m).2 ≤ m
  | [], _, h => ⟨h, Int.le_refl _⟩
  | x :: l, m, h => by
    simp only [takeF]
    split
    · have := takeF_left l (m - min x.qty m) (by omega); simp only; omega
    · exact takeF_left l m h
/-- The quantity of some lots. -/
def totL (l : List Lot) : Int := sumOf (fun _ => true) l
def lot0 : Lot := ⟨0, 0, 0, 0, 0⟩
/-- Lots in the order of a shuffle. -/
def turnL (l : List Lot) (s : Int) : List Lot := (shufL l.length s).map fun k => l.getD k.toNat lot0
def servL (l : List Lot) (m s : Int) : List Lot := if totL l > m then turnL l s else l
/-- What a side gets. -/
def sideF : List (List Lot) → Int → Int → List Fil
  | [], _, _ => []
  | lv :: r, m, s => if (takeF (servL lv m s) m).2 = 0 then (takeF (servL lv m s) m).1 else (takeF (servL lv m s) m).1 ++ sideF r (takeF (servL lv m s) m).2 s

theorem swp_mem {L : List Int} {i k : Nat} (hi : i < L.length) (hk : k < L.length) {x : Int} (h : x ∈ swp L i k) : x ∈ L := by
  unfold swp at h
  have gi : L.getD i 0 ∈ L := by rw [List.getD_eq_getElem?_getD, List.getElem?_eq_getElem hi]; exact List.getElem_mem hi
  have gk : L.getD k 0 ∈ L := by rw [List.getD_eq_getElem?_getD, List.getElem?_eq_getElem hk]; exact List.getElem_mem hk
  rcases List.mem_or_eq_of_mem_set h with h | h
  · rcases List.mem_or_eq_of_mem_set h with h | h
    · exact h
    · rw [h]; exact gk
  · rw [h]; exact gi
theorem shufF_mem : ∀ (i : Nat) (L : List Int) (s : Int), i < L.length → ∀ x ∈ shufF i L s, x ∈ L
  | 0, _, _, _, _, h => h
  | i + 1, L, s, hi, x, h => by
    have e := Int.emod_nonneg (nxt s) (show (i : Int) + 2 ≠ 0 by omega)
    have e' := Int.emod_lt_of_pos (nxt s) (show 0 < (i : Int) + 2 by omega)
    simp only [shufF] at h
    exact swp_mem hi (by omega) (shufF_mem i _ _ (by rw [swp_len]; omega) x h)
theorem shufL_range {n : Nat} {s : Int} : ∀ x ∈ shufL n s, 0 ≤ x ∧ x < n := fun x hx => by
  by_cases h0 : n = 0
  · have := shufL_len n s
    rw [h0] at this
    rw [h0, List.eq_nil_of_length_eq_zero this] at hx
    cases hx
  · have := shufF_mem (n - 1) (rangeI n) (seedOf s) (by rw [rangeI_len]; omega) x hx
    simp only [rangeI, List.mem_map, List.mem_range] at this
    obtain ⟨k, hk, rfl⟩ := this
    omega
theorem turnL_len (l : List Lot) (s : Int) : (turnL l s).length = l.length := by simp [turnL, shufL_len]
theorem servL_len (l : List Lot) (m s : Int) : (servL l m s).length = l.length := by unfold servL; split; exact turnL_len _ _; rfl
theorem turnL_mem {l : List Lot} {s : Int} : ∀ x ∈ turnL l s, x ∈ l := fun x hx => by
  simp only [turnL, List.mem_map] at hx
  obtain ⟨k, hk, rfl⟩ := hx
  have := shufL_range k hk
  rw [List.getD_eq_getElem?_getD, List.getElem?_eq_getElem (by omega)]
  exact List.getElem_mem _
theorem servL_mem {l : List Lot} {m s : Int} : ∀ x ∈ servL l m s, x ∈ l := fun x hx => by
  unfold servL at hx
  split at hx
  · exact turnL_mem x hx
  · exact hx
theorem levelsL_mem {side price : Int} {l : List Lot} : ∀ lv ∈ levelsL side price l, ∃ p, lv = lotsAtP side price p l := fun lv h => by
  simp only [levelsL, List.mem_map] at h
  obtain ⟨p, _, rfl⟩ := h
  exact ⟨p, rfl⟩
theorem levelsL_len (side price : Int) (l : List Lot) : (levelsL side price l).length ≤ l.length := by
  have h : (levP side price l).length ≤ l.length := Nat.le_trans (pricesL_len _) (List.length_filter_le _ _)
  simp only [levelsL, List.length_map]
  split
  · simpa using h
  · exact h
theorem sideF_drop {L : List (List Lot)} {i : Nat} (hi : i < L.length) (m s : Int) : sideF (L.drop i) m s = if (takeF (servL L[i] m s) m).2 = 0 then (takeF (servL L[i] m s) m).1 else (takeF (servL L[i] m s) m).1 ++ sideF (L.drop (i + 1)) (takeF (servL L[i] m s) m).2 s := by
  rw [List.drop_eq_getElem_cons hi]; rfl
end Go.Proofs.YtmbboflakfokhaaDoor

/- What Shuffle of package ration computes. -/
set_option linter.unusedSimpArgs false
set_option linter.unusedVariables false
namespace Go.Proofs.YtmbboflakfokhaaDoor
open Go.RowKit

/-- The block of a stream. -/
def StrAt (w : World) (p : Nat) (x : Int) : Prop := w.heap[p]? = some (.cells #[.int .u32 x] 133 (0, 0))
theorem StrAt.cell {w : World} {p : Nat} {x : Int} (h : StrAt w p x) : w.cell? ⟨p, 0, none⟩ = some (.int .u32 x) := by simp [World.cell?, show w.heap[p]? = _ from h]
theorem StrAt.frozen {w : World} {p : Nat} {x : Int} (h : StrAt w p x) : w.frozen? ⟨p, 0, none⟩ = false := by simp [World.frozen?, show w.heap[p]? = _ from h]
theorem StrAt.lt {w : World} {p : Nat} {x : Int} (h : StrAt w p x) : p < w.heap.size := (Array.getElem?_eq_some_iff.1 h).1
theorem StrAt.kept {w w' : World} {p : Nat} {x : Int} {row : Option Nat} (h : StrAt w p x) (hg : w.grownBy w' row) (hne : some p ≠ row) : StrAt w' p x := (hg.block p h.lt hne).trans h
theorem StrAt.set {w : World} {p : Nat} {x : Int} (h : StrAt w p x) (y : Int) : StrAt (w.setCell ⟨p, 0, none⟩ (.int .u32 y)) p y := by
  have := heap_setCell_same w p 0 _ _ (.int .u32 y) h
  simpa [StrAt] using this
theorem StrAt.other {w : World} {p : Nat} {x : Int} (h : StrAt w p x) {a : Addr} (ha : p ≠ a.block) (v : Value) : StrAt (w.setCell a v) p x := (heap_setCell_other w a p v (fun e => ha (by simpa using e))).trans h

/-- What a shuffle holds on its way. -/
def ShInv (w : World) (N : Nat) (u : Value) (L : List Int) (x : Int) (wr : World) : Prop := wr.ownsRow (w.heap.size + 1) 3 1 u N (L.map (Value.int .i64)) ∧ StrAt wr w.heap.size x ∧ Below w.heap.size w wr

theorem ShInv.swap {w wr : World} {N g cap i kk : Nat} {L : List Int} {x y a b : Int} (hr : wr.ownsRow (w.heap.size + 1) 3 1 (.slice (some ⟨g, 0, none⟩) N cap) N (L.map (Value.int .i64))) (hs : StrAt wr w.heap.size x) (hb : Below w.heap.size w wr) (hg : w.heap.size + 1 ≤ g) :
    ShInv w N (.slice (some ⟨g, 0, none⟩) N cap) ((L.set i a).set kk b) y (((wr.setCell ⟨w.heap.size, 0, none⟩ (.int .u32 y)).setCell ⟨g, i, none⟩ (.int .i64 a)).setCell ⟨g, kk, none⟩ (.int .i64 b)).drew := by
  have hne : w.heap.size ≠ g := by omega
  have h0 : (wr.setCell ⟨w.heap.size, 0, none⟩ (.int .u32 y)).ownsRow (w.heap.size + 1) 3 1 (.slice (some ⟨g, 0, none⟩) N cap) N (L.map (Value.int .i64)) :=
    hr.kept (row := some w.heap.size) ⟨rfl, rfl, rfl, by simp, fun k _ hk => heap_setCell_other wr ⟨w.heap.size, 0, none⟩ k _ (fun e => hk (by simp [e]))⟩ (.inr (by simp [Value.ownBlock]; omega))
  have h1 := (h0.stored i (.int .i64 a)).1
  have h2 := (h1.stored kk (.int .i64 b)).1
  refine ⟨?_, ((hs.set y).other hne _).other hne _, ?_⟩
  · rw [← List.map_set, ← List.map_set] at h2
    exact h2
  · exact Below.drew (Below.setCell (Below.setCell (Below.setCell hb (Nat.le_refl _) _) (by show w.heap.size ≤ g; omega) _) (by show w.heap.size ≤ g; omega) _)

set_option maxRecDepth 100000 in
set_option maxHeartbeats 4000000 in
theorem shuffle_any (n : Int) (N : Nat) (seed : Int) (w : World) (hN : min (max n 0) 1000 = (N : Int)) (hs : U32 seed) :
    Calls Tryd.prog 69 #[.int .i64 n, .int .u32 seed] w fun e w' => (∃ ao' cap', e = .returned (.slice ao' N cap') ∧ N ≤ cap' ∧ IntsAt w' ao' (shufL N seed)) ∧ Ex w w' := by
  have hN1 : N ≤ 1000 := by omega
  have HN := Lib.hid hN
  have HU := Lib.hid (seedOf_u32 hs)
  have hu0 := HU.out.1
  have hu1 := HU.out.2
  obtain ⟨i0, hi0, hi⟩ := Option.map_eq_some_iff.1 infoInt
  simp only [Prod.mk.injEq] at hi
  obtain ⟨hz0, hz1, hz2⟩ := hi
  have HB := Lib.hid (begin_any seed)
  have HT := Lib.hid (show shufF (N - 1) (rangeI N) (seedOf seed) = shufL N seed from rfl)
  clear hs
  generalize seedOf seed = x0 at *
  generalize shufL N seed = T at *
  go_enter Tryd.func69, Tryd.ntmps69
  go_wp2_with (go_at_call 76; refine (HB.out _).mono ?_; rintro e w1 ⟨rfl, rfl⟩)
  clear hN
  go_loopw [6, 7, 15] (fun v _ i wr => ∃ (k : Nat) (u : Value), u = v ∧ k ≤ N ∧ i = .int .i64 k ∧ ShInv w k u (rangeI k) x0 wr) (fun _ _ i _ => N - (intOf i).toNat)
  case atStart => exact ⟨0, _, rfl, Nat.zero_le _, rfl, World.ownsRow_nil _ _ _ _, (show (w.alloc _).heap[w.heap.size]? = _ from alloc_at rfl), Ex.below (by repeat (first | exact Ex.refl _ | refine Ex.alloc ?_ _ | refine Ex.ext ?_ _ _ | refine Ex.drew ?_ | refine Ex.drewN ?_ _))⟩
  case round =>
    obtain ⟨k, v, rfl, hk, rfl, hrow, hstr, hbl⟩ := hrel
    have HR := Lib.hid hrow
    have HS := Lib.hid hstr
    have HL := Lib.hid hbl
    have hwz := hbl.size
    have hsz := hstr.lt
    clear hrow hstr hbl
    by_cases hlt : k < N
    · go_wp2_with (at_builtin; refine wpList_append_own _ rfl (.tmp 18) (.tmp 20) 108 rfl (w.heap.size + 1) 3 i0 _ 1 8 Tryd.underlying108 hi0 hz0 hz1 hz2 rfl (by decide) v k ((rangeI k).map (Value.int .i64)) rfl ?_ _ 1 1 [.int .i64 k] rfl rfl ?_ ?_ (by unfold maxLen; omega) (by omega) ?_ ?_; (focus (refine HR.out.kept (Below.grownBy ?_) (Classical.em _); ((refine Below.trans (Below.refl _ _) ?_; repeat (first | exact Below.refl _ _ | (refine Below.drew ?_) | (refine Below.drewN ?_ _) | (refine Below.ext ?_ (by first | omega | (simp [go_sem]; done) | (simp [go_sem]; omega)) _ _) | (refine Below.alloc ?_ (by first | omega | (simp [go_sem]; done) | (simp [go_sem]; omega)) _) | (refine Below.setCell ?_ (by first | omega | (simp [go_sem]; done) | (simp [go_sem]; omega)) _)))))); (focus exact World.news_of_block (alloc_at rfl)); (focus simp [Value.oneCell']); (focus exact (by first | omega | (simp [go_sem]; done) | (simp [go_sem]; omega))); intro v1 w1 hown hgrow hnil)
      all_goals
        go_roundw
        case measure => simp [intOf]; omega
        case rel =>
          refine ⟨k + 1, _, rfl, by omega, by go_num, ?_, ?_, ?_⟩
          · rw [rangeI_succ, List.map_append]
            exact hown
          · refine StrAt.kept (w := wr.alloc _) ?_ hgrow ?_
            · exact HS.out.kept (World.grownBy_alloc wr _ none) (by simp)
            · intro e
              have := (HR.out.lt _ e.symm).1
              omega
          · refine Below.grown (a := _) ?_ hgrow ?_ (fun b hb => by have := (HR.out.lt b hb).1; omega)
            · (refine Below.trans HL.out ?_; repeat (first | exact Below.refl _ _ | (refine Below.drew ?_) | (refine Below.drewN ?_ _) | (refine Below.ext ?_ (by first | omega | (simp [go_sem]; done) | (simp [go_sem]; omega)) _ _) | (refine Below.alloc ?_ (by first | omega | (simp [go_sem]; done) | (simp [go_sem]; omega)) _) | (refine Below.setCell ?_ (by first | omega | (simp [go_sem]; done) | (simp [go_sem]; omega)) _)))
            · exact (by first | omega | (simp [go_sem]; done) | (simp [go_sem]; omega))
    · obtain rfl : k = N := by omega
      have hform : ∃ ao cap, v = .slice ao k cap ∧ k ≤ cap := by
        by_cases hv : v = .slice none 0 0
        · have h0 : k = 0 := by
            rcases HR.out.2 with ⟨_, h⟩ | ⟨g, cap, cur, e, _⟩
            · exact h
            · rw [hv] at e; cases e
          exact ⟨none, 0, by rw [hv, h0], by omega⟩
        · obtain ⟨g, cap2, e, _, _, hn, _⟩ := Lib.holds_of_ownsRow HR.out hv
          exact ⟨_, _, e, hn⟩
      obtain ⟨ao2, cap2, rfl, hcap⟩ := hform
      go_wp2_with fail
      go_loopw [8, 9] (fun s _ wr => ∃ (j : Nat) (L : List Int) (x : Int), j ≤ k ∧ s = .int .i64 ((j : Int) - 1) ∧ L.length = k ∧ U32 x ∧ shufF (j - 1) L x = T ∧ ShInv w k (.slice ao2 k cap2) L x wr) (fun s _ _ => (intOf s + 1).toNat)
      case atStart => exact ⟨k, rangeI k, x0, Nat.le_refl _, rfl, rangeI_len k, HU.out, HT.out, HR.out, HS.out, HL.out⟩
      case round =>
        obtain ⟨j, L, x, hj, rfl, hL, hx, hT, hrow, hstr, hbl⟩ := hrel
        have HT2 := Lib.hid hT
        have HR2 := Lib.hid hrow
        have HS2 := Lib.hid hstr
        have HB2 := Lib.hid hbl
        have HX := Lib.hid hx
        have HLL := Lib.hid hL
        clear hT hbl hx
        by_cases hj2 : j < 2
        · have hTL : L = T := by
            rw [← HT2.out]
            match j, hj2 with
            | 0, _ => rfl
            | 1, _ => rfl
          subst hTL
          have hia : IntsAt wr ao2 L := by
            by_cases hv : (Value.slice ao2 k cap2) = .slice none 0 0
            · intro h0
              cases hv
              omega
            · obtain ⟨g, cap3, e, _⟩ := Lib.holds_of_ownsRow hrow hv
              cases e
              exact ints_of_owned hrow
          have HIA := Lib.hid hia
          have hj1 : ¬ ((j : Int) - 1 > 0) := by omega
          clear hrow hstr hia hL
          go_wp2_with fail
          go_ret
          exact ⟨⟨_, _, rfl, hcap, HIA.out.ex (by repeat (first | exact Ex.refl _ | refine Ex.alloc ?_ _ | refine Ex.ext ?_ _ _ | refine Ex.drew ?_ | refine Ex.drewN ?_ _))⟩, (Ex.of HB2.out).trans (by repeat (first | exact Ex.refl _ | refine Ex.alloc ?_ _ | refine Ex.ext ?_ _ _ | refine Ex.drew ?_ | refine Ex.drewN ?_ _))⟩
        · obtain ⟨i, rfl⟩ : ∃ i, j = i + 2 := ⟨j - 2, by omega⟩
          rw [show ((i + 2 : Nat) : Int) - 1 = (i : Int) + 1 by omega]
          obtain ⟨g, cap3, e, hbg, hlg, hn3, hm3, hlz, hH⟩ := Lib.holds_of_ownsRow hrow (by intro e; cases e; omega)
          cases e
          have c0 := hstr.cell
          have f0 := hstr.frozen
          have hgs : g ≠ w.heap.size := by omega
          have HST := Lib.hid (show shufF (i + 1) L x = shufF i (swp L (i + 1) ((nxt x % ((i : Int) + 2)).toNat)) (nxt x) from rfl)
          have hy := nxt_u32 x
          have HNX := Lib.hid (next_any w.heap.size x wr HX.out c0 f0)
          generalize nxt x = y at *
          obtain ⟨hy0, hy1⟩ := hy
          obtain ⟨kk, hkk, hkl⟩ : ∃ kk : Nat, y % ((i : Int) + 2) = (kk : Int) ∧ kk < i + 2 := by
            have a := Int.emod_nonneg y (show (i : Int) + 2 ≠ 0 by omega)
            have b := Int.emod_lt_of_pos y (show 0 < (i : Int) + 2 by omega)
            exact ⟨(y % ((i : Int) + 2)).toNat, by omega, by omega⟩
          have hckk := (hH kk (by simp [HLL.out]; omega)).1
          have hcki := (hH (i + 1) (by simp [HLL.out]; omega)).1
          have hfkk := (hH kk (by simp [HLL.out]; omega)).2
          have hfki := (hH (i + 1) (by simp [HLL.out]; omega)).2
          rw [hkk, Int.toNat_natCast] at HST
          have j1 : (kk : Int) < (k : Int) := by omega
          have j2 : (i : Int) + 1 < (k : Int) := by omega
          have j3 : (0 : Int) ≤ (i : Int) + 1 := by omega
          have j4 : ((i : Int) + 1).toNat = i + 1 := by omega
          have HW : Hid (wrap64 (y % ((i : Int) + 1 + 1)) = (kk : Int)) := Lib.hid (by rw [show (i : Int) + 1 + 1 = (i : Int) + 2 by omega, hkk]; unfold wrap64; omega)
          have hke : kk = i + 1 ∨ (kk ≠ i + 1 ∧ i + 1 ≠ kk) := by omega
          clear hkk
          simp only [Nat.zero_add] at hckk hcki hfkk hfki
          rw [show L.toArray[kk]! = L.getD kk 0 by simp [getElem!_def, List.getD]; rfl] at hckk
          rw [show L.toArray[i + 1]! = L.getD (i + 1) 0 by simp [getElem!_def, List.getD]; rfl] at hcki
          have HSW := Lib.hid (show swp L (i + 1) kk = (L.set (i + 1) (L.getD kk 0)).set kk (L.getD (i + 1) 0) from rfl)
          generalize L.getD kk 0 = a at *
          generalize L.getD (i + 1) 0 = b at *
          have HRW := Lib.hid hrow
          clear hrow hstr hH c0 f0 hL
          rcases hke with rfl | ⟨hk1, hk2⟩
          · go_wp2_with fail
            refine HNX.out.mono ?_
            rintro e w1 ⟨rfl, rfl⟩
            go_wp2_with fail
            rw [HW.out]
            go_region
            all_goals go_wp2
            have hab : a = b := by have := hckk.symm.trans hcki; simpa using this
            subst hab
            exact ⟨⟨i + 1, swp L (i + 1) (i + 1), y, by omega, by simp, by rw [swp_len]; exact HLL.out, ⟨hy0, hy1⟩, by rw [← HT2.out]; exact HST.out.symm, by rw [HSW.out]; exact ShInv.swap HRW.out HS2.out HB2.out hbg⟩, by simp [intOf]; omega⟩
          · go_wp2_with fail
            refine HNX.out.mono ?_
            rintro e w1 ⟨rfl, rfl⟩
            go_wp2_with fail
            rw [HW.out]
            go_region
            all_goals go_wp2
            exact ⟨⟨i + 1, swp L (i + 1) kk, y, by omega, by simp, by rw [swp_len]; exact HLL.out, ⟨hy0, hy1⟩, by rw [← HT2.out]; exact HST.out.symm, by rw [HSW.out]; exact ShInv.swap HRW.out HS2.out HB2.out hbg⟩, by simp [intOf]; omega⟩
end Go.Proofs.YtmbboflakfokhaaDoor
