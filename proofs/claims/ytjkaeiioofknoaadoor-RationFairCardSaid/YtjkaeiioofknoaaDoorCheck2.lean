/- What curve's Check computes: the walk. -/
import Derived.Test.YtjkaeiioofknoaaDoorCheck
import Derived.Deep.RegionHeld3
set_option linter.unusedSimpArgs false
set_option linter.unusedVariables false
namespace Go.Proofs.YtjkaeiioofknoaaDoor
open Go.RowKit

theorem alloc_at {w : World} {o : Obj} {n : Nat} (h : n = w.heap.size) : (w.alloc o).heap[n]? = some o := by
  subst h; show (w.heap.push o)[w.heap.size]? = some o; simp

set_option maxRecDepth 100000 in
set_option maxHeartbeats 2000000 in
theorem check_any (ao : Option Addr) (len cap : Nat) (l : List Lot) (E : Nat → Addr) (w : World) (hcap : len ≤ cap) (hE : Errs E [2, 7, 8] w) (hl : LotsAt w ao len l) :
    Calls Tryd.prog 15 #[.slice ao len cap] w fun e w' => (∃ v, e = .returned v ∧ CheckV E w w' l v) ∧ Ex w w' := by
  have hlen := hl.1
  have hmx := hl.2.1
  by_cases h120 : len > 120
  · have e8 : w.cell? ⟨0, 0, none⟩ = some (.iface 151 (.pointer (some (E 8)))) := hE 8 (by decide)
    have b8 : 0 < w.heap.size := lt_of_cell e8
    clear hE
    go_enter Tryd.func15, Tryd.ntmps15
    go_wp2
    go_ret
    exact ⟨⟨_, rfl, Or.inl ⟨by omega, rfl⟩⟩, (by repeat (first | exact Ex.refl _ | refine Ex.alloc ?_ _ | refine Ex.ext ?_ _ _ | refine Ex.drew ?_ | refine Ex.drewN ?_ _))⟩
  have HL := Lib.hid hlen
  have HLA := Lib.hid hl
  have HE := Lib.hid hE
  clear hl hlen hE
  go_enter Tryd.func15, Tryd.ntmps15
  go_wp2
  go_loopw [12] (fun i wr => ∃ (k : Nat), k ≤ len ∧ i = .int .i64 k ∧ (∀ j, j < k → codeAt l j = 0) ∧ Ex w wr) (fun i _ => len - (intOf i).toNat)
  case atStart => exact ⟨0, Nat.zero_le _, rfl, (fun j h => absurd h (Nat.not_lt_zero _)), (by repeat (first | exact Ex.refl _ | refine Ex.alloc ?_ _ | refine Ex.ext ?_ _ _ | refine Ex.drew ?_ | refine Ex.drewN ?_ _))⟩
  case round =>
    obtain ⟨k, hk, rfl, hn, l1, d1, rfl⟩ := hrel
    have HN := Lib.hid hn
    clear hn
    by_cases hlt : k < len
    · have hl := HLA.out
      have hE := HE.out
      obtain ⟨b, off, rfl, hbs, hz⟩ := hl.2.2.2 (by omega)
      have hzk := hz k (by rw [HL.out]; exact hlt)
      clear hz
      have HT := Lib.hid (hl.take k (by omega))
      have hg : ∃ a, l[k]? = some a ∧ a = l[k]'(by rw [HL.out]; exact hlt) := ⟨_, List.getElem?_eq_getElem (by rw [HL.out]; exact hlt), rfl⟩
      obtain ⟨a, ha0, ha⟩ := hg
      rw [← ha] at hzk
      clear ha
      have hcd := codeAt_at ha0
      clear ha0
      have a0 := hzk 0 (by omega)
      have a1 := hzk 1 (by omega)
      have a2 := hzk 2 (by omega)
      have a3 := hzk 3 (by omega)
      have a4 := hzk 4 (by omega)
      simp only [Lot.cells, List.getElem?_cons_zero, List.getElem?_cons_succ, Nat.add_zero] at a0 a1 a2 a3 a4
      clear hzk
      have H1 := one_any a E
      by_cases hok : a.ok = true
      · rw [hok] at H1 hcd
        simp only [if_true, errV_zero] at H1 hcd
        have HO := Lib.hid H1
        clear H1 hok
        have HC := Lib.hid hcd
        clear hcd
        have hkc : k ≤ cap := by omega
        have e7 : w.cell? ⟨1, 0, none⟩ = some (.iface 151 (.pointer (some (E 7)))) := hE 7 (by decide)
        have b7 : 1 < w.heap.size := lt_of_cell e7
        go_wp2_with (first
          | (go_at_call 47; refine (HO.out _ (by exact Errs.sub (hE.ex (by repeat (first | exact Ex.refl _ | refine Ex.alloc ?_ _ | refine Ex.ext ?_ _ _ | refine Ex.drew ?_ | refine Ex.drewN ?_ _))) (by decide))).mono ?_; rintro e w1 ⟨rfl, l2, d2, rfl⟩)
          | (go_at_call 48; refine (contains_any _ k cap (l.take k) a.id _ _ (HT.out.ex (by repeat (first | exact Ex.refl _ | refine Ex.alloc ?_ _ | refine Ex.ext ?_ _ _ | refine Ex.drew ?_ | refine Ex.drewN ?_ _))) (by simp [go_sem, ↓IntWalk.iteOmega])).mono ?_; rintro e w1 ⟨rfl, l3, d3, rfl⟩))
        · go_ret
          have hc7 : codeAt l k = 7 := by first | exact HC.out | (rw [HC.out]; simp [*])
          exact ⟨⟨_, rfl, Or.inr (Or.inr ⟨k, _, by have := HL.out; omega, by have := HL.out; omega, HN.out, by rw [hc7]; decide, rfl, (by first | omega | (simp [go_sem]; done) | (simp [go_sem]; omega)), by rw [hc7]; exact alloc_at (by first | omega | (simp [go_sem]; done) | (simp [go_sem]; omega))⟩)⟩, (by repeat (first | exact Ex.refl _ | refine Ex.alloc ?_ _ | refine Ex.ext ?_ _ _ | refine Ex.drew ?_ | refine Ex.drewN ?_ _))⟩
        · have hc0 : codeAt l k = 0 := by rw [HC.out]; simp [*]
          go_roundw
          case measure => simp [intOf]; omega
          case rel =>
            refine ⟨k + 1, by omega, by go_num, fun j hj => ?_, (by repeat (first | exact Ex.refl _ | refine Ex.alloc ?_ _ | refine Ex.ext ?_ _ _ | refine Ex.drew ?_ | refine Ex.drewN ?_ _))⟩
            by_cases e : j = k
            · rw [e]; exact hc0
            · exact HN.out j (by omega)
      · have hok : a.ok = false := by simpa using hok
        rw [hok] at H1 hcd
        simp only [Bool.false_eq_true, if_false, errV_pos E 2 (by decide)] at H1 hcd
        have HO := Lib.hid H1
        clear H1 hok
        have HC := Lib.hid hcd
        clear hcd
        have e2 : w.cell? ⟨2, 0, none⟩ = some (.iface 151 (.pointer (some (E 2)))) := hE 2 (by decide)
        have b2 : 2 < w.heap.size := lt_of_cell e2
        go_wp2_with (go_at_call 47; refine (HO.out _ (by exact Errs.sub (hE.ex (by repeat (first | exact Ex.refl _ | refine Ex.alloc ?_ _ | refine Ex.ext ?_ _ _ | refine Ex.drew ?_ | refine Ex.drewN ?_ _))) (by decide))).mono ?_; rintro e w1 ⟨rfl, l2, d2, rfl⟩)
        go_ret
        have hc7 : codeAt l k = 2 := by first | exact HC.out | (rw [HC.out]; simp [*])
        exact ⟨⟨_, rfl, Or.inr (Or.inr ⟨k, _, by have := HL.out; omega, by have := HL.out; omega, HN.out, by rw [hc7]; decide, rfl, (by first | omega | (simp [go_sem]; done) | (simp [go_sem]; omega)), by rw [hc7]; exact alloc_at (by first | omega | (simp [go_sem]; done) | (simp [go_sem]; omega))⟩)⟩, (by repeat (first | exact Ex.refl _ | refine Ex.alloc ?_ _ | refine Ex.ext ?_ _ _ | refine Ex.drew ?_ | refine Ex.drewN ?_ _))⟩
    · go_wp2
      go_ret
      exact ⟨⟨_, rfl, Or.inr (Or.inl ⟨⟨by have := HL.out; omega, fun j hj => HN.out j (by have := HL.out; omega)⟩, rfl⟩)⟩, (by repeat (first | exact Ex.refl _ | refine Ex.alloc ?_ _ | refine Ex.ext ?_ _ _ | refine Ex.drew ?_ | refine Ex.drewN ?_ _))⟩
end Go.Proofs.YtjkaeiioofknoaaDoor
