/- Slices of lots, and of levels, compared. -/
import Derived.Test.YtfeeibealokhfaaDoorMBook
import Derived.Test.YtfeeibealokhfaaDoorBKeepsL
import Derived.Deep.DeepCutAuto
set_option linter.unusedSimpArgs false
set_option linter.unusedVariables false
namespace Go.Proofs.YtfeeibealokhfaaDoor
open Go.RowKit

theorem neLot_self (x : Lot) (w : World) : (binOp .neq 24 (.agg #[.int .i64 x.id, .int .i64 x.owner, .int .i64 x.side, .int .i64 x.price, .int .i64 x.qty]) (.agg #[.int .i64 x.id, .int .i64 x.owner, .int .i64 x.side, .int .i64 x.price, .int .i64 x.qty])).run Tryd.prog w = .ok (.bool false) w := by
  have hS : Tryd.prog.underlying 24 = some (.struct (Tryd.prog.fieldsOf 24)) := by kernel_rfl
  have hp : Tryd.prog.stoodInHeld 24 = false := by kernel_rfl
  rw [run_neq_struct, show (10000 : Nat) = 9999 + 1 from rfl, run_equalIn_agg w 9999 _ _ _ hS hp]
  simp only [Program.fieldsOf, Tryd.underlying24]
  go_simp
theorem LotsAt.ex {w w' : World} {ao : Option Addr} {n : Nat} {l : List Lot} (h : LotsAt w ao n l) (hx : Ex w w') : LotsAt w' ao n l := by
  obtain ⟨a1, a2, a3, a4⟩ := h
  exact ⟨a1, a2, a3, fun hz => by
    obtain ⟨b, off, e, hb, hcc⟩ := a4 hz
    exact ⟨b, off, e, Nat.lt_of_lt_of_le hb hx.below.size, fun k hk j hj => (hx.below.cell (p := ⟨b, off + k * 5 + j, none⟩) hb).trans (hcc k hk j hj)⟩⟩
set_option maxRecDepth 100000 in
theorem sameLotsOf (ao bo : Option Addr) (c1 c2 : Nat) (l : List Lot) (w : World) (h1 : LotsAt w ao l.length l) (h2 : LotsAt w bo l.length l) (hz : l.length ≤ 1000) :
    Calls Tryd.prog 55 #[.slice ao l.length c1, .slice bo l.length c2] w fun e w' => e = .returned (.bool true) ∧ Ex w w' := by
  have H1 := Lib.hid h1.2.2.2
  have H2 := Lib.hid h2.2.2.2
  clear h1 h2
  go_enter Tryd.func55, Tryd.ntmps55
  go_wp2_with fail
  go_loopw [5] (fun i wr => ∃ (k : Nat), k ≤ l.length ∧ i = .int .i64 (k : Int) ∧ Ex w wr) (fun i _ => l.length - (intOf i).toNat)
  case atStart => exact ⟨0, Nat.zero_le _, rfl, Ex.refl _⟩
  case round =>
    obtain ⟨k, hk, rfl, l1, d1, rfl⟩ := hrel
    by_cases hlt : k < l.length
    · obtain ⟨b1, o1, rfl, hb1, hc1⟩ := H1.out (by omega)
      obtain ⟨b2, o2, rfl, hb2, hc2⟩ := H2.out (by omega)
      have a0 := hc1 k hlt 0 (by omega)
      have a1 := hc1 k hlt 1 (by omega)
      have a2 := hc1 k hlt 2 (by omega)
      have a3 := hc1 k hlt 3 (by omega)
      have a4 := hc1 k hlt 4 (by omega)
      have e0 := hc2 k hlt 0 (by omega)
      have e1 := hc2 k hlt 1 (by omega)
      have e2 := hc2 k hlt 2 (by omega)
      have e3 := hc2 k hlt 3 (by omega)
      have e4 := hc2 k hlt 4 (by omega)
      simp only [Lot.cells, List.getElem?_cons_zero, List.getElem?_cons_succ, Nat.add_zero] at a0 a1 a2 a3 a4 e0 e1 e2 e3 e4
      generalize l[k] = x at *
      have ez := fun w => neLot_self x w
      clear hc1 hc2
      go_wp2_with fail
      go_quiet (fail)
      all_goals go_wp2
      all_goals
        go_roundw
        case measure => simp [intOf]; omega
        case rel => exact ⟨k + 1, by omega, by go_num, (by repeat (first | exact Ex.refl _ | refine Ex.alloc ?_ _ | refine Ex.ext ?_ _ _ | refine Ex.drew ?_ | refine Ex.drewN ?_ _))⟩
    · obtain rfl : k = l.length := by omega
      go_wp2
      all_goals go_ret
      all_goals exact ⟨rfl, (by repeat (first | exact Ex.refl _ | refine Ex.alloc ?_ _ | refine Ex.ext ?_ _ _ | refine Ex.drew ?_ | refine Ex.drewN ?_ _))⟩
set_option maxRecDepth 100000 in
theorem sameLvls (ao bo : Option Addr) (c1 c2 : Nat) (l : List Lvl) (w : World) (h1 : LvlsAt w ao l) (h2 : LvlsAt w bo l) (hz : l.length ≤ 1000) :
    Calls Tryd.prog 59 #[.slice ao l.length c1, .slice bo l.length c2] w fun e w' => e = .returned (.bool true) ∧ Ex w w' := by
  have H1 := Lib.hid h1
  have H2 := Lib.hid h2
  clear h1 h2
  go_enter Tryd.func59, Tryd.ntmps59
  go_wp2_with fail
  go_loopw [5] (fun i wr => ∃ (k : Nat), k ≤ l.length ∧ i = .int .i64 (k : Int) ∧ Ex w wr) (fun i _ => l.length - (intOf i).toNat)
  case atStart => exact ⟨0, Nat.zero_le _, rfl, Ex.refl _⟩
  case round =>
    obtain ⟨k, hk, rfl, l1, d1, rfl⟩ := hrel
    by_cases hlt : k < l.length
    · obtain ⟨b1, o1, rfl, hb1, hc1⟩ := H1.out (by omega)
      obtain ⟨b2, o2, rfl, hb2, hc2⟩ := H2.out (by omega)
      have a0 := hc1 k hlt 0 (by omega)
      have a1 := hc1 k hlt 1 (by omega)
      have a2 := hc1 k hlt 2 (by omega)
      have e0 := hc2 k hlt 0 (by omega)
      have e1 := hc2 k hlt 1 (by omega)
      have e2 := hc2 k hlt 2 (by omega)
      simp only [Lvl.cells, List.getElem?_cons_zero, List.getElem?_cons_succ, Nat.add_zero] at a0 a1 a2 e0 e1 e2
      generalize l[k] = x at *
      have z0 : (x.price != x.price) = false := by simp
      have z1 : (x.qty != x.qty) = false := by simp
      have z2 : (x.many != x.many) = false := by simp
      clear hc1 hc2
      go_wp2_with fail
      go_quiet (fail)
      all_goals go_wp2
      all_goals
        go_roundw
        case measure => simp [intOf]; omega
        case rel => exact ⟨k + 1, by omega, by go_num, (by repeat (first | exact Ex.refl _ | refine Ex.alloc ?_ _ | refine Ex.ext ?_ _ _ | refine Ex.drew ?_ | refine Ex.drewN ?_ _))⟩
    · obtain rfl : k = l.length := by omega
      go_wp2
      all_goals go_ret
      all_goals exact ⟨rfl, (by repeat (first | exact Ex.refl _ | refine Ex.alloc ?_ _ | refine Ex.ext ?_ _ _ | refine Ex.drew ?_ | refine Ex.drewN ?_ _))⟩
end Go.Proofs.YtfeeibealokhfaaDoor
