/- What a book's search for an ID computes. -/
import Derived.Test.YtfeeibealokhfaaDoorCurve
set_option linter.unusedSimpArgs false
set_option linter.unusedVariables false
namespace Go.Proofs.YtfeeibealokhfaaDoor
open Go.RowKit

/-- Where a lot of an ID stands (-1: nowhere). -/
def idIdx (l : List Lot) (id : Int) : Int := match l.findIdx? (fun y => y.id == id) with | some k => (k : Int) | none => -1

theorem idIdx_some {l : List Lot} {id : Int} {k : Nat} (hk : k < l.length) (h : l[k].id = id) (hn : ∀ j, (hj : j < k) → l[j].id ≠ id) : idIdx l id = k := by
  have : l.findIdx? (fun y => y.id == id) = some k := by
    rw [List.findIdx?_eq_some_iff_getElem]
    exact ⟨hk, by simpa using h, fun j hj => by simpa using hn j hj⟩
  simp [idIdx, this]
theorem idIdx_none {l : List Lot} {id : Int} (hn : ∀ j, (hj : j < l.length) → l[j].id ≠ id) : idIdx l id = -1 := by
  have : l.findIdx? (fun y => y.id == id) = none := by
    rw [List.findIdx?_eq_none_iff]
    intro y hy
    obtain ⟨j, hj, rfl⟩ := List.getElem_of_mem hy
    simpa using hn j hj
  simp [idIdx, this]

set_option maxRecDepth 100000 in
theorem sameId_any (y : Lot) (id : Int) (xb : Nat) (w : World) (hx : w.cell? ⟨xb, 0, none⟩ = some (.int .i64 id)) :
    Calls Tryd.prog 87 #[y.val, .pointer (some ⟨xb, 0, none⟩)] w fun e w' => e = .returned (.bool (y.id == id)) ∧ Ex w w' := by
  have hb := lt_of_cell hx
  go_enter Tryd.func87, Tryd.ntmps87
  go_wp2
  all_goals go_ret
  all_goals exact ⟨ret_bool (by simp), (by repeat (first | exact Ex.refl _ | refine Ex.alloc ?_ _ | refine Ex.ext ?_ _ _ | refine Ex.drew ?_ | refine Ex.drewN ?_ _))⟩

set_option maxRecDepth 100000 in
set_option maxHeartbeats 1000000 in
theorem index_any (ao : Option Addr) (len cap : Nat) (l : List Lot) (id : Int) (xb : Nat) (w : World) (hl : LotsAt w ao len l) (hx : w.cell? ⟨xb, 0, none⟩ = some (.int .i64 id)) :
    Calls Tryd.prog 86 #[.slice ao len cap, .func (.func 87) #[] #[.pointer (some ⟨xb, 0, none⟩)]] w fun e w' =>
      e = .returned (.int .i64 (idIdx l id)) ∧ Ex w w' := by
  obtain ⟨hlen, hmx, hwf, hz⟩ := hl
  have hb := lt_of_cell hx
  have HZ := Lib.hid hz
  have HL := Lib.hid hlen
  clear hz hlen hwf
  go_enter Tryd.func86, Tryd.ntmps86
  go_wp2
  go_loopw [8] (fun i wr => ∃ (k : Nat), k ≤ len ∧ i = .int .i64 k ∧ (∀ j, (hj : j < l.length) → j < k → l[j].id ≠ id) ∧ Ex w wr) (fun i _ => len - (intOf i).toNat)
  case atStart => exact ⟨0, Nat.zero_le _, rfl, (fun j hj h => absurd h (Nat.not_lt_zero _)), (by repeat (first | exact Ex.refl _ | refine Ex.alloc ?_ _ | refine Ex.ext ?_ _ _ | refine Ex.drew ?_ | refine Ex.drewN ?_ _))⟩
  case round =>
    obtain ⟨k, hk, rfl, hn, l1, d1, rfl⟩ := hrel
    have HN := Lib.hid hn
    clear hn
    by_cases hlt : k < len
    · obtain ⟨b, off, rfl, hbs, hz⟩ := HZ.out (by omega)
      have hzk := hz k (by rw [HL.out]; exact hlt)
      clear hz
      have hg : ∃ a, a = l[k]'(by rw [HL.out]; exact hlt) := ⟨_, rfl⟩
      obtain ⟨a, ha⟩ := hg
      rw [← ha] at hzk
      have HA := Lib.hid ha
      clear ha
      have a0 := hzk 0 (by omega)
      have a1 := hzk 1 (by omega)
      have a2 := hzk 2 (by omega)
      have a3 := hzk 3 (by omega)
      have a4 := hzk 4 (by omega)
      simp only [Lot.cells, List.getElem?_cons_zero, List.getElem?_cons_succ, Nat.add_zero] at a0 a1 a2 a3 a4
      clear hzk
      go_wp2_with (go_at_call 87; refine (sameId_any a id xb _ (by simp [go_sem, ↓IntWalk.iteOmega, *])).mono ?_; rintro e w1 ⟨rfl, l2, d2, rfl⟩)
      · go_ret
        rename_i hid
        exact ⟨ret_int (idIdx_some (k := k) (by rw [HL.out]; exact hlt) (by rw [← HA.out]; simpa using hid) (fun j hj => HN.out j (by have := HL.out; omega) hj)).symm, (by repeat (first | exact Ex.refl _ | refine Ex.alloc ?_ _ | refine Ex.ext ?_ _ _ | refine Ex.drew ?_ | refine Ex.drewN ?_ _))⟩
      · rename_i hid
        go_roundw
        case measure => simp [intOf]; omega
        case rel =>
          refine ⟨k + 1, by omega, by go_num, fun j hj hjk => ?_, (by repeat (first | exact Ex.refl _ | refine Ex.alloc ?_ _ | refine Ex.ext ?_ _ _ | refine Ex.drew ?_ | refine Ex.drewN ?_ _))⟩
          by_cases e : j = k
          · subst e
            rw [← HA.out]; simpa using hid
          · exact HN.out j hj (by omega)
    · go_wp2
      go_ret
      exact ⟨ret_int (idIdx_none fun j hj => HN.out j hj (by have := HL.out; omega)).symm, (by repeat (first | exact Ex.refl _ | refine Ex.alloc ?_ _ | refine Ex.ext ?_ _ _ | refine Ex.drew ?_ | refine Ex.drewN ?_ _))⟩
end Go.Proofs.YtfeeibealokhfaaDoor
