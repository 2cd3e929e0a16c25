/- Slices of strings: how they read, and are compared. -/
import Derived.Test.YtfeeibealokhfaaDoorBytes
import Derived.Test.YtfeeibealokhfaaDoorGrown
import Derived.BigQuiet
import Derived.Deep.QuietTactic
set_option linter.unusedSimpArgs false
set_option linter.unusedVariables false
namespace Go.Proofs.YtfeeibealokhfaaDoor
open Go.RowKit

def strV (s : List UInt8) : Value := .string ⟨s.toArray⟩
/-- How a slice of strings reads. -/
def StrsAt (w : World) (ao : Option Addr) (l : List (List UInt8)) : Prop := 0 < l.length → ∃ b off, ao = some ⟨b, off, none⟩ ∧ b < w.heap.size ∧ ∀ k (hk : k < l.length), w.cell? ⟨b, off + k, none⟩ = some (strV l[k])
theorem StrsAt.ex {w w' : World} {ao : Option Addr} {l : List (List UInt8)} (h : StrsAt w ao l) (hx : Ex w w') : StrsAt w' ao l := fun h0 => by
  obtain ⟨b, off, e, hb, hc⟩ := h h0
  exact ⟨b, off, e, Nat.lt_of_lt_of_le hb hx.below.size, fun k hk => (hx.below.cell (p := ⟨b, off + k, none⟩) hb).trans (hc k hk)⟩
theorem StrsAt.head {w : World} {ao : Option Addr} {l m : List (List UInt8)} (h : StrsAt w ao (l ++ m)) : StrsAt w ao l := fun h0 => by
  obtain ⟨b, off, e, hb, hc⟩ := h (by rw [List.length_append]; omega)
  refine ⟨b, off, e, hb, fun k hk => ?_⟩
  rw [hc k (by rw [List.length_append]; omega), List.getElem_append_left hk]
theorem strs_of_owned {w : World} {base : Nat} {e : TypeId} {v : Value} {n : Nat} {l : List (List UInt8)} (hl : l.length = n) (h : w.ownsRow base e 1 v n (l.map strV)) : ∃ ao cap, v = .slice ao n cap ∧ n ≤ cap ∧ cap ≤ maxLen ∧ StrsAt w ao l := by
  obtain ⟨h1, ⟨rfl, rfl⟩ | ⟨g, cap, cur, rfl, hb, hg, hc, hm, hs, ht⟩⟩ := h
  · exact ⟨none, 0, rfl, Nat.le_refl _, Nat.zero_le _, fun h => by omega⟩
  · refine ⟨_, cap, rfl, hc, hm, fun h0 => ⟨g, 0, rfl, (Array.getElem?_eq_some_iff.1 hg).1, fun k hk => ?_⟩⟩
    have e : (l.map strV)[k]? = some (strV l[k]) := by rw [List.getElem?_map, List.getElem?_eq_getElem hk]; rfl
    rw [← e, ← ht, List.getElem?_take_of_lt (by omega), Nat.zero_add]
    simp [World.cell?, hg]
theorem strs_one {w : World} {t : TypeId} (s : List UInt8) {b : Nat} {fr : Nat × Nat} (h : w.heap[b]? = some (.cells #[strV s] t fr)) : StrsAt w (some ⟨b, 0, none⟩) [s] := fun _ => ⟨b, 0, rfl, (Array.getElem?_eq_some_iff.1 h).1, fun k hk => by
  have : k = 0 := by simpa using hk
  subst this
  simp [World.cell?, h]⟩
set_option maxRecDepth 100000 in
theorem sameTexts_same (ao bo : Option Addr) (c1 c2 : Nat) (l : List (List UInt8)) (w : World) (h1 : StrsAt w ao l) (h2 : StrsAt w bo l) (hz : l.length ≤ 100000000) :
    Calls Tryd.prog 24 #[.slice ao l.length c1, .slice bo l.length c2] w fun e w' => e = .returned (.bool true) ∧ Ex w w' := by
  have H1 := Lib.hid h1
  have H2 := Lib.hid h2
  clear h1 h2
  go_enter Tryd.func24, Tryd.ntmps24
  go_wp2_with fail
  go_loopw [5] (fun i wr => ∃ (k : Nat), k ≤ l.length ∧ i = .int .i64 k ∧ Ex w wr) (fun i _ => l.length - (intOf i).toNat)
  case atStart => exact ⟨0, Nat.zero_le _, rfl, Ex.refl _⟩
  case round =>
    obtain ⟨k, hk, rfl, l1, d1, rfl⟩ := hrel
    by_cases hlt : k < l.length
    · obtain ⟨b1, o1, rfl, hb1, hc1⟩ := H1.out (by omega)
      obtain ⟨b2, o2, rfl, hb2, hc2⟩ := H2.out (by omega)
      have a0 := hc1 k hlt
      have b0 := hc2 k hlt
      generalize l[k] = z at a0 b0
      unfold strV at a0 b0
      clear hc1 hc2
      go_wp2_with fail
      go_quiet (fail)
      all_goals go_wp2_with fail
      all_goals
        go_roundw
        case measure => simp [intOf]; omega
        case rel => exact ⟨k + 1, by omega, by go_num, (by repeat (first | exact Ex.refl _ | refine Ex.alloc ?_ _ | refine Ex.ext ?_ _ _ | refine Ex.drew ?_ | refine Ex.drewN ?_ _))⟩
    · go_wp2_with fail
      all_goals go_ret
      all_goals exact ⟨rfl, (by repeat (first | exact Ex.refl _ | refine Ex.alloc ?_ _ | refine Ex.ext ?_ _ _ | refine Ex.drew ?_ | refine Ex.drewN ?_ _))⟩
end Go.Proofs.YtfeeibealokhfaaDoor
