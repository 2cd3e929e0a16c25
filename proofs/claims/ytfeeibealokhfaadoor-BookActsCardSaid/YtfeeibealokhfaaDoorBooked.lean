/- What the closed fact of the books' statements computes. -/
import Derived.Test.YtfeeibealokhfaaDoorBAny
set_option linter.unusedSimpArgs false
set_option linter.unusedVariables false
namespace Go.Proofs.YtfeeibealokhfaaDoor
open Go.RowKit

/-- The integers of a slice, read. -/
def IntsOf (w : World) (ao : Option Addr) (zs : List Int) : Prop := 0 < zs.length → ∃ b off, ao = some ⟨b, off, none⟩ ∧ b < w.heap.size ∧ ∀ k (hk : k < zs.length), w.cell? ⟨b, off + k, none⟩ = some (.int .i64 zs[k])
theorem IntsOf.ex {w w' : World} {ao : Option Addr} {zs : List Int} (h : IntsOf w ao zs) (hx : Ex w w') : IntsOf w' ao zs := fun h0 => by
  obtain ⟨b, off, rfl, hb, hc⟩ := h h0
  exact ⟨b, off, rfl, Nat.lt_of_lt_of_le hb hx.below.size, fun k hk => (hx.below.cell (p := ⟨b, off + k, none⟩) hb).trans (hc k hk)⟩
theorem ints_of_row {w : World} {base : Nat} {e : TypeId} {v : Value} {n : Nat} {l : List Int} (hl : l.length = n) (h : w.ownsRow base e 1 v n (l.map (Value.int .i64))) : ∃ ao cap, v = .slice ao n cap ∧ n ≤ cap ∧ cap ≤ maxLen ∧ IntsOf w ao l := by
  obtain ⟨h1, ⟨rfl, rfl⟩ | ⟨g, cap, cur, rfl, hb, hg, hc, hm, hs, ht⟩⟩ := h
  · exact ⟨none, 0, rfl, Nat.le_refl _, Nat.zero_le _, fun h => by omega⟩
  · refine ⟨_, cap, rfl, hc, hm, fun h0 => ⟨g, 0, rfl, (Array.getElem?_eq_some_iff.1 hg).1, fun k hk => ?_⟩⟩
    have e : (l.map (Value.int .i64))[k]? = some (.int .i64 l[k]) := by rw [List.getElem?_map, List.getElem?_eq_getElem hk]; rfl
    rw [← e, ← ht, List.getElem?_take_of_lt (by omega), Nat.zero_add]
    simp [World.cell?, hg]
theorem ints_one {w : World} {t : TypeId} (s : Int) {b : Nat} {fr : Nat × Nat} (h : w.heap[b]? = some (.cells #[.int .i64 s] t fr)) : IntsOf w (some ⟨b, 0, none⟩) [s] := fun _ => ⟨b, 0, rfl, (Array.getElem?_eq_some_iff.1 h).1, fun k hk => by
  have : k = 0 := by simpa using hk
  subst this
  simp [World.cell?, h]⟩

set_option maxRecDepth 100000 in
theorem sameIntsOf (ao bo : Option Addr) (c1 c2 : Nat) (zs : List Int) (w : World) (h1 : IntsOf w ao zs) (h2 : IntsOf w bo zs) (hz : zs.length ≤ 1000) :
    Calls Tryd.prog 56 #[.slice ao zs.length c1, .slice bo zs.length c2] w fun e w' => e = .returned (.bool true) ∧ Ex w w' := by
  have H1 := Lib.hid h1
  have H2 := Lib.hid h2
  clear h1 h2
  go_enter Tryd.func56, Tryd.ntmps56
  go_wp2_with fail
  go_loopw [5] (fun i wr => ∃ (k : Nat), k ≤ zs.length ∧ i = .int .i64 k ∧ Ex w wr) (fun i _ => zs.length - (intOf i).toNat)
  case atStart => exact ⟨0, Nat.zero_le _, rfl, Ex.refl _⟩
  case round =>
    obtain ⟨k, hk, rfl, l1, d1, rfl⟩ := hrel
    by_cases hlt : k < zs.length
    · obtain ⟨b1, o1, rfl, hb1, hc1⟩ := H1.out (by omega)
      obtain ⟨b2, o2, rfl, hb2, hc2⟩ := H2.out (by omega)
      have a1 := hc1 k hlt
      have a2 := hc2 k hlt
      generalize zs[k] = z at a1 a2
      have ez : (z != z) = false := by simp
      clear hc1 hc2
      go_wp2_with fail
      go_quiet (fail)
      all_goals go_wp2
      all_goals
        go_roundw
        case measure => simp [intOf]; omega
        case rel => exact ⟨k + 1, by omega, by go_num, (by repeat (first | exact Ex.refl _ | refine Ex.alloc ?_ _ | refine Ex.ext ?_ _ _ | refine Ex.drew ?_ | refine Ex.drewN ?_ _))⟩
    · go_wp2
      go_ret
      exact ⟨rfl, (by repeat (first | exact Ex.refl _ | refine Ex.alloc ?_ _ | refine Ex.ext ?_ _ _ | refine Ex.drew ?_ | refine Ex.drewN ?_ _))⟩

set_option maxRecDepth 100000 in
set_option maxHeartbeats 1000000 in
theorem booked_any (w : World) (E : Nat → Addr) (hE : Errs E [2, 6, 7, 8] w) : Calls Tryd.prog 25 #[] w fun e w' => e = .returned (.bool true) ∧ Ex w w' := by
  have HN := Lib.hid (bookNew (fun _ => 0) 1 w)
  have g0 : addE [] ⟨7, 2, 0, 5, 3⟩ = 0 := by decide
  have g1 : addL [] ⟨7, 2, 0, 5, 3⟩ = [⟨7, 2, 0, 5, 3⟩] := by decide
  have g2 : takeR [⟨7, 2, 0, 5, 3⟩] 7 1 = (0, [⟨7, 2, 0, 5, 2⟩]) := by decide
  have g3 : getR [⟨7, 2, 0, 5, 2⟩] 7 = (⟨7, 2, 0, 5, 2⟩, true) := by decide
  have g4 : ownerL [⟨7, 2, 0, 5, 2⟩] 2 = [7] := by decide
  have hwf : Lot.wf ⟨7, 2, 0, 5, 3⟩ := by refine ⟨?_, ?_, ?_, ?_, ?_⟩ <;> decide
  have HE := Lib.hid hE
  clear hE
  go_enter Tryd.func25, Tryd.ntmps25
  go_wp2_with fail
  refine HN.out.mono ?_
  rintro e w1 ⟨rfl, hT⟩
  obtain ⟨o1, hI1, hB1, ho1, hs1, _⟩ := hT.use (Below.refl w.heap.size w) (Nat.le_refl _) (fun b _ => by simp)
  have hG := add_any hI1 ⟨7, 2, 0, 5, 3⟩ hwf E (Errs.sub (HE.out.ex (Ex.of hB1)) (by decide))
  rw [g0, g1, errV_zero] at hG
  have HG := Lib.hid hG
  have HB1 := Lib.hid hB1
  have HO1 := Lib.hid ho1
  clear hT hI1 hB1 ho1 hG g0 g1
  generalize hp : w.heap.size = p at *
  go_wp2_with fail
  refine HG.out.mono ?_
  rintro e w2 ⟨rfl, hT⟩
  obtain ⟨o2, hI2, hB2, ho2, hs2, _⟩ := hT.use HB1.out hs1 (fun b hb => by rw [HO1.out b hb]; decide)
  have hH := take_any hI2 7 1 E (Errs.sub (HE.out.ex (Ex.of (by rw [hp]; exact hB2))) (by decide))
  rw [g2] at hH
  simp only [errV_zero] at hH
  have HH := Lib.hid hH
  have HB2 := Lib.hid hB2
  have HO2 := Lib.hid ho2
  clear hT hI2 hB2 ho2 hH g2
  go_wp2_with fail
  refine HH.out.mono ?_
  rintro e w3 ⟨rfl, hT⟩
  obtain ⟨o3, hI3, hB3, ho3, hs3, _⟩ := hT.use HB2.out (by omega) (fun b hb => by rw [HO2.out b (by omega), HO1.out b hb]; decide)
  have hQ := get_any hI3 7
  rw [g3] at hQ
  have HQ := Lib.hid hQ
  have HOw := Lib.hid (fun w' (hx : Ex w3 w') => owner_any (hI3.later hx) 2)
  have HB3 := Lib.hid hB3
  clear hT hI3 hB3 ho3 hQ g3
  go_wp2_with fail
  refine HQ.out.mono ?_
  rintro e w4 ⟨rfl, l4, d4, rfl⟩
  go_wp2_with fail
  refine (HOw.out _ (by repeat (first | exact Ex.refl _ | refine Ex.alloc ?_ _ | refine Ex.ext ?_ _ _ | refine Ex.drew ?_ | refine Ex.drewN ?_ _))).mono ?_
  rintro e w5 ⟨⟨v, rfl, hrow⟩, hx5⟩
  rw [g4] at hrow
  obtain ⟨ao, cap, rfl, _, _, hst⟩ := ints_of_row rfl hrow
  have HST := Lib.hid hst
  have HX5 := Lib.hid hx5
  have HB := Lib.hid (show Below w.heap.size w w3 by rw [hp]; exact HB3.out)
  clear hx5 hrow hst
  go_wp2_with (go_at_call 56; refine (sameIntsOf _ _ _ _ [7] _ (HST.out.ex (by repeat (first | exact Ex.refl _ | refine Ex.alloc ?_ _ | refine Ex.ext ?_ _ _ | refine Ex.drew ?_ | refine Ex.drewN ?_ _))) (ints_one _ (alloc_top rfl)) (by decide)).mono ?_; rintro e w7 ⟨rfl, l7, d7, rfl⟩)
  all_goals go_ret
  all_goals exact ⟨rfl, (Ex.of HB.out).trans ((show Ex w3 _ from (by repeat (first | exact Ex.refl _ | refine Ex.alloc ?_ _ | refine Ex.ext ?_ _ _ | refine Ex.drew ?_ | refine Ex.drewN ?_ _))).trans (HX5.out.trans (by repeat (first | exact Ex.refl _ | refine Ex.alloc ?_ _ | refine Ex.ext ?_ _ _ | refine Ex.drew ?_ | refine Ex.drewN ?_ _))))⟩
end Go.Proofs.YtfeeibealokhfaaDoor
