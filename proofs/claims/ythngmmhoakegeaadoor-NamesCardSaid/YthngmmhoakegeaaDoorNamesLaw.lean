/- The walk of Names. -/
import Derived.Test.YthngmmhoakegeaaDoorBandLaw
import Derived.Test.YthngmmhoakegeaaDoorCoded1
import Derived.Deep.QuietTactic
import Derived.BigQuiet
import Derived.Deep.DeepMust
set_option linter.unusedSimpArgs false
set_option linter.unusedVariables false
namespace Go.Proofs.YthngmmhoakegeaaDoor
open Go.RowKit

set_option maxRecDepth 100000 in
theorem sameInts_same (ao : Option Addr) (len cap : Nat) (ao2 : Option Addr) (cap2 : Nat) (zs : List Int) (w : World) (h1 : IntsAt w ao len zs) (h2 : IntsAt w ao2 len zs) :
    Calls Tryd.prog 29 #[.slice ao len cap, .slice ao2 len cap2] w fun e w' => e = .returned (.bool true) ∧ Ex w w' := by
  obtain ⟨hm, hz1⟩ := h1
  have hz2 := h2.2
  clear h2
  have HZ1 := Lib.hid hz1
  have HZ2 := Lib.hid hz2
  clear hz1 hz2
  go_enter Tryd.func29, Tryd.ntmps29
  go_wp2
  go_loopw [5] (fun i wr => ∃ (k : Nat), k ≤ len ∧ i = .int .i64 k ∧ Ex w wr) (fun i _ => len - (intOf i).toNat)
  case atStart => exact ⟨0, Nat.zero_le _, rfl, (by repeat (first | exact Ex.refl _ | refine Ex.alloc ?_ _ | refine Ex.ext ?_ _ _ | refine Ex.drew ?_ | refine Ex.drewN ?_ _))⟩
  case round =>
    obtain ⟨k, hk, rfl, l2, d2, rfl⟩ := hrel
    by_cases hlt : k < len
    · obtain ⟨b, off, rfl, hbs, hz⟩ := HZ1.out (by omega)
      obtain ⟨b2, off2, rfl, hbs2, hzz⟩ := HZ2.out (by omega)
      have z1 := hz k hlt
      have z2 := hzz k hlt
      clear hz hzz
      generalize zs.getD k 0 = v at *
      have j0 : (0 : Int) ≤ (k : Int) := by omega
      have j1 : (k : Int) < (len : Int) := by omega
      go_wp2_with fail
      go_quiet (fail)
      go_wp2
      all_goals
        go_roundw
        case measure => simp [intOf]; omega
        case rel => exact ⟨k + 1, by omega, by go_num, (by repeat (first | exact Ex.refl _ | refine Ex.alloc ?_ _ | refine Ex.ext ?_ _ _ | refine Ex.drew ?_ | refine Ex.drewN ?_ _))⟩
    · go_wp2
      go_ret
      exact ⟨rfl, (by repeat (first | exact Ex.refl _ | refine Ex.alloc ?_ _ | refine Ex.ext ?_ _ _ | refine Ex.drew ?_ | refine Ex.drewN ?_ _))⟩

set_option maxRecDepth 100000 in
set_option maxHeartbeats 2000000 in
theorem code_other (a : Addr) (ca : Array Value) (ta : TypeId) (E : Nat → Addr) (w : World) (hr : CodeReady E w) (hne : ∀ c ∈ allE, a ≠ E c) (hab : w.heap[a.block]? = some (.cells ca ta (0, 0))) :
    Calls Tryd.prog 30 #[.iface 114 (.pointer (some a))] w fun e w' => e = .returned (.tuple #[.int .i64 (-1), .int .i64 (-1)]) ∧ Ex w w' := by
  obtain ⟨hE, hA, hg⟩ := hr
  have e1 : w.cell? ⟨0, 0, none⟩ = some (.iface 114 (.pointer (some (E 1)))) := hE 1 (by decide)
  have b1 : 0 < w.heap.size := lt_of_cell e1
  have e2 : w.cell? ⟨1, 0, none⟩ = some (.iface 114 (.pointer (some (E 2)))) := hE 2 (by decide)
  have b2 : 1 < w.heap.size := lt_of_cell e2
  have e3 : w.cell? ⟨2, 0, none⟩ = some (.iface 114 (.pointer (some (E 3)))) := hE 3 (by decide)
  have b3 : 2 < w.heap.size := lt_of_cell e3
  have e4 : w.cell? ⟨3, 0, none⟩ = some (.iface 114 (.pointer (some (E 4)))) := hE 4 (by decide)
  have b4 : 3 < w.heap.size := lt_of_cell e4
  have e5 : w.cell? ⟨4, 0, none⟩ = some (.iface 114 (.pointer (some (E 5)))) := hE 5 (by decide)
  have b5 : 4 < w.heap.size := lt_of_cell e5
  have e6 : w.cell? ⟨5, 0, none⟩ = some (.iface 114 (.pointer (some (E 6)))) := hE 6 (by decide)
  have b6 : 5 < w.heap.size := lt_of_cell e6
  have e7 : w.cell? ⟨6, 0, none⟩ = some (.iface 114 (.pointer (some (E 7)))) := hE 7 (by decide)
  have b7 : 6 < w.heap.size := lt_of_cell e7
  have e8 : w.cell? ⟨7, 0, none⟩ = some (.iface 114 (.pointer (some (E 8)))) := hE 8 (by decide)
  have b8 : 7 < w.heap.size := lt_of_cell e8
  have e9 : w.cell? ⟨8, 0, none⟩ = some (.iface 114 (.pointer (some (E 9)))) := hE 9 (by decide)
  have b9 : 8 < w.heap.size := lt_of_cell e9
  have e10 : w.cell? ⟨9, 0, none⟩ = some (.iface 114 (.pointer (some (E 10)))) := hE 10 (by decide)
  have b10 : 9 < w.heap.size := lt_of_cell e10
  have e11 : w.cell? ⟨10, 0, none⟩ = some (.iface 114 (.pointer (some (E 11)))) := hE 11 (by decide)
  have b11 : 10 < w.heap.size := lt_of_cell e11
  have e12 : w.cell? ⟨11, 0, none⟩ = some (.iface 114 (.pointer (some (E 12)))) := hE 12 (by decide)
  have b12 : 11 < w.heap.size := lt_of_cell e12
  have HE := Lib.hid hE
  have HA := Lib.hid hA
  have HG := Lib.hid hg
  have HN := Lib.hid hne
  have HIS : Hid (∀ (k : Nat) (W : World), k < 12 → Ex w W → Calls Tryd.prog 63 #[.iface 114 (.pointer (some a)), .iface 114 (.pointer (some (E (k + 1))))] W fun e w' => e = .returned (.bool false) ∧ W = w') := by
    refine Lib.hid fun k W hk hx => ?_
    obtain ⟨_, _, h2⟩ := (hA.ex hx).1 (k + 1) (mem_allE (by omega) (by omega))
    exact is_other _ _ _ _ _ _ W (hne _ (mem_allE (by omega) (by omega))) ((hx.below.block _ (Array.getElem?_eq_some_iff.1 hab).1).trans hab) h2
  clear hE hA hg hne hab
  go_enter Tryd.func30, Tryd.ntmps30
  go_wp2_with (go_at_call 62; refine (as_miss _ _ _ (by exact HG.out.ex (by repeat (first | exact Ex.refl _ | refine Ex.alloc ?_ _ | refine Ex.ext ?_ _ _ | refine Ex.drew ?_ | refine Ex.drewN ?_ _)))).mono ?_; rintro e w1 ⟨rfl, l1, d1, rfl⟩)
  clear e1 e2 e3 e4 e5 e6 e7 e8 e9 e10 e11 e12
  go_loop [3, 30] (fun a i => ∃ k : Nat, k ≤ 12 ∧ i = .int .i64 k ∧ a = .int .i64 (-1)) (fun _ i => 12 - (intOf i).toNat)
  case atStart => exact ⟨0, by omega, rfl, rfl⟩
  case round =>
    obtain ⟨k, hk, rfl, rfl⟩ := hrel
    by_cases hlt : k < 12
    · have hrow := errsRow_at E k (by omega)
      simp only [errsRow] at hrow
      have h12 : decide ((k : Int) < 12) = true := by simp; omega
      obtain ⟨c, hc1, hc2⟩ : ∃ c, k < c ∧ c ≤ 12 := ⟨12, hlt, Nat.le_refl _⟩
      have HLT := Lib.hid hlt
      clear hlt hk
      go_wp2_with (go_at_call 63; refine (HIS.out k _ HLT.out (by exact (by repeat (first | exact Ex.refl _ | refine Ex.alloc ?_ _ | refine Ex.ext ?_ _ _ | refine Ex.drew ?_ | refine Ex.drewN ?_ _)))).mono ?_; rintro e w1 ⟨rfl, rfl⟩)
      go_round
      case rel => exact ⟨k + 1, by omega, by go_num, rfl⟩
      case measure => simp [intOf]; omega
    · have h12 : decide ((k : Int) < 12) = false := by simp; omega
      go_wp2
      go_ret2
      exact ⟨rfl, (by repeat (first | exact Ex.refl _ | refine Ex.alloc ?_ _ | refine Ex.ext ?_ _ _ | refine Ex.drew ?_ | refine Ex.drewN ?_ _))⟩

theorem alloc_at {w : World} {o : Obj} {n : Nat} (h : n = w.heap.size) : (w.alloc o).heap[n]? = some o := by
  subst h; show (w.heap.push o)[w.heap.size]? = some o; simp
def names24 : List Int := [6, 3, 1000, 1000, 1073741824, 60, 6, 2, 1099511627776, 1073741824, 5, 3, 1048576, 30, 2000, 100, 16, 0, 1, 108, 104, 111, 99, 113]
theorem names24_at {w : World} {b : Nat} (h : w.heap[b]? = some (.cells (names24.map (Value.int .i64)).toArray 3 (0, 0))) : IntsAt w (some ⟨b, 0, none⟩) 24 names24 := by
  refine ⟨by decide, fun _ => ⟨b, 0, rfl, (Array.getElem?_eq_some_iff.1 h).1, fun k hk => ?_⟩⟩
  rw [Nat.zero_add, cell_of_row w b k _ _ _ h]
  match k, hk with
  | 0, _ => rfl | 1, _ => rfl | 2, _ => rfl | 3, _ => rfl | 4, _ => rfl | 5, _ => rfl | 6, _ => rfl | 7, _ => rfl | 8, _ => rfl | 9, _ => rfl | 10, _ => rfl | 11, _ => rfl
  | 12, _ => rfl | 13, _ => rfl | 14, _ => rfl | 15, _ => rfl | 16, _ => rfl | 17, _ => rfl | 18, _ => rfl | 19, _ => rfl | 20, _ => rfl | 21, _ => rfl | 22, _ => rfl | 23, _ => rfl
  | k + 24, h => omega
end Go.Proofs.YthngmmhoakegeaaDoor
