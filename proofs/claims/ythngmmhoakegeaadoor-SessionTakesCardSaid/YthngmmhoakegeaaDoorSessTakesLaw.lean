/- The walk of SessionTakes. -/
import Derived.Test.YthngmmhoakegeaaDoorSessRef
import Derived.Test.YthngmmhoakegeaaDoorSessLaw
import Derived.Test.YthngmmhoakegeaaDoorBandLaw
import Derived.Test.YthngmmhoakegeaaDoorCoded2
import Derived.Deep.DeepCutAuto
set_option linter.unusedSimpArgs false
set_option linter.unusedVariables false
namespace Go.Proofs.YthngmmhoakegeaaDoor
open Go.RowKit

theorem take_code (s : Sess) (a : Ask) (now : Int) : (s.take a now).2 ≤ 12 := by
  have : a.err ≤ 4 := by unfold Ask.err; (repeat' split) <;> omega
  unfold Sess.take
  (repeat' split) <;> first | (simp; done) | (simp; omega)
theorem take_last (s : Sess) (a : Ask) (now : Int) : (s.take a now).1.last = s.last ∨ (s.take a now).1.last = now ∨ (s.take a now).1.last = 0 := by
  unfold Sess.take
  (repeat' split) <;> simp

theorem sess_store (wc : World) (n : Nat) (s s' : Sess) (hn : n + 1 < wc.heap.size)
    (c0 : wc.cell? ⟨n, 0, none⟩ = some (.bool s.on)) (c1 : wc.cell? ⟨n, 1, none⟩ = some (.int .i64 s.next)) (c2 : wc.cell? ⟨n, 2, none⟩ = some (.int .i64 s.last))
    (f0 : wc.frozen? ⟨n, 0, none⟩ = false) (f1 : wc.frozen? ⟨n, 1, none⟩ = false) (f2 : wc.frozen? ⟨n, 2, none⟩ = false)
    (m0 : wc.cell? ⟨n + 1, 0, none⟩ = some (.bool s.on)) (m1 : wc.cell? ⟨n + 1, 1, none⟩ = some (.int .i64 s.next)) (m2 : wc.cell? ⟨n + 1, 2, none⟩ = some (.int .i64 s.last))
    (g0 : wc.frozen? ⟨n + 1, 0, none⟩ = false) (g1 : wc.frozen? ⟨n + 1, 1, none⟩ = false) (g2 : wc.frozen? ⟨n + 1, 2, none⟩ = false) (l8 : List Obj) (d8 : Nat) :
    (ext ((((((wc.setCell ⟨n, 0, none⟩ (.bool s'.on)).setCell ⟨n, 1, none⟩ (.int .i64 s'.next)).setCell ⟨n, 2, none⟩ (.int .i64 s'.last)).setCell ⟨n + 1, 0, none⟩ (.bool s'.on)).setCell ⟨n + 1, 1, none⟩ (.int .i64 s'.next)).setCell ⟨n + 1, 2, none⟩ (.int .i64 s'.last)) l8 d8).cell? ⟨n, 0, none⟩ = some (.bool s'.on) ∧ (ext ((((((wc.setCell ⟨n, 0, none⟩ (.bool s'.on)).setCell ⟨n, 1, none⟩ (.int .i64 s'.next)).setCell ⟨n, 2, none⟩ (.int .i64 s'.last)).setCell ⟨n + 1, 0, none⟩ (.bool s'.on)).setCell ⟨n + 1, 1, none⟩ (.int .i64 s'.next)).setCell ⟨n + 1, 2, none⟩ (.int .i64 s'.last)) l8 d8).cell? ⟨n, 1, none⟩ = some (.int .i64 s'.next) ∧ (ext ((((((wc.setCell ⟨n, 0, none⟩ (.bool s'.on)).setCell ⟨n, 1, none⟩ (.int .i64 s'.next)).setCell ⟨n, 2, none⟩ (.int .i64 s'.last)).setCell ⟨n + 1, 0, none⟩ (.bool s'.on)).setCell ⟨n + 1, 1, none⟩ (.int .i64 s'.next)).setCell ⟨n + 1, 2, none⟩ (.int .i64 s'.last)) l8 d8).cell? ⟨n, 2, none⟩ = some (.int .i64 s'.last) ∧ (ext ((((((wc.setCell ⟨n, 0, none⟩ (.bool s'.on)).setCell ⟨n, 1, none⟩ (.int .i64 s'.next)).setCell ⟨n, 2, none⟩ (.int .i64 s'.last)).setCell ⟨n + 1, 0, none⟩ (.bool s'.on)).setCell ⟨n + 1, 1, none⟩ (.int .i64 s'.next)).setCell ⟨n + 1, 2, none⟩ (.int .i64 s'.last)) l8 d8).frozen? ⟨n, 0, none⟩ = false ∧ (ext ((((((wc.setCell ⟨n, 0, none⟩ (.bool s'.on)).setCell ⟨n, 1, none⟩ (.int .i64 s'.next)).setCell ⟨n, 2, none⟩ (.int .i64 s'.last)).setCell ⟨n + 1, 0, none⟩ (.bool s'.on)).setCell ⟨n + 1, 1, none⟩ (.int .i64 s'.next)).setCell ⟨n + 1, 2, none⟩ (.int .i64 s'.last)) l8 d8).frozen? ⟨n, 1, none⟩ = false ∧ (ext ((((((wc.setCell ⟨n, 0, none⟩ (.bool s'.on)).setCell ⟨n, 1, none⟩ (.int .i64 s'.next)).setCell ⟨n, 2, none⟩ (.int .i64 s'.last)).setCell ⟨n + 1, 0, none⟩ (.bool s'.on)).setCell ⟨n + 1, 1, none⟩ (.int .i64 s'.next)).setCell ⟨n + 1, 2, none⟩ (.int .i64 s'.last)) l8 d8).frozen? ⟨n, 2, none⟩ = false ∧
      (ext ((((((wc.setCell ⟨n, 0, none⟩ (.bool s'.on)).setCell ⟨n, 1, none⟩ (.int .i64 s'.next)).setCell ⟨n, 2, none⟩ (.int .i64 s'.last)).setCell ⟨n + 1, 0, none⟩ (.bool s'.on)).setCell ⟨n + 1, 1, none⟩ (.int .i64 s'.next)).setCell ⟨n + 1, 2, none⟩ (.int .i64 s'.last)) l8 d8).cell? ⟨n + 1, 0, none⟩ = some (.bool s'.on) ∧ (ext ((((((wc.setCell ⟨n, 0, none⟩ (.bool s'.on)).setCell ⟨n, 1, none⟩ (.int .i64 s'.next)).setCell ⟨n, 2, none⟩ (.int .i64 s'.last)).setCell ⟨n + 1, 0, none⟩ (.bool s'.on)).setCell ⟨n + 1, 1, none⟩ (.int .i64 s'.next)).setCell ⟨n + 1, 2, none⟩ (.int .i64 s'.last)) l8 d8).cell? ⟨n + 1, 1, none⟩ = some (.int .i64 s'.next) ∧ (ext ((((((wc.setCell ⟨n, 0, none⟩ (.bool s'.on)).setCell ⟨n, 1, none⟩ (.int .i64 s'.next)).setCell ⟨n, 2, none⟩ (.int .i64 s'.last)).setCell ⟨n + 1, 0, none⟩ (.bool s'.on)).setCell ⟨n + 1, 1, none⟩ (.int .i64 s'.next)).setCell ⟨n + 1, 2, none⟩ (.int .i64 s'.last)) l8 d8).cell? ⟨n + 1, 2, none⟩ = some (.int .i64 s'.last) ∧ (ext ((((((wc.setCell ⟨n, 0, none⟩ (.bool s'.on)).setCell ⟨n, 1, none⟩ (.int .i64 s'.next)).setCell ⟨n, 2, none⟩ (.int .i64 s'.last)).setCell ⟨n + 1, 0, none⟩ (.bool s'.on)).setCell ⟨n + 1, 1, none⟩ (.int .i64 s'.next)).setCell ⟨n + 1, 2, none⟩ (.int .i64 s'.last)) l8 d8).frozen? ⟨n + 1, 0, none⟩ = false ∧ (ext ((((((wc.setCell ⟨n, 0, none⟩ (.bool s'.on)).setCell ⟨n, 1, none⟩ (.int .i64 s'.next)).setCell ⟨n, 2, none⟩ (.int .i64 s'.last)).setCell ⟨n + 1, 0, none⟩ (.bool s'.on)).setCell ⟨n + 1, 1, none⟩ (.int .i64 s'.next)).setCell ⟨n + 1, 2, none⟩ (.int .i64 s'.last)) l8 d8).frozen? ⟨n + 1, 1, none⟩ = false ∧ (ext ((((((wc.setCell ⟨n, 0, none⟩ (.bool s'.on)).setCell ⟨n, 1, none⟩ (.int .i64 s'.next)).setCell ⟨n, 2, none⟩ (.int .i64 s'.last)).setCell ⟨n + 1, 0, none⟩ (.bool s'.on)).setCell ⟨n + 1, 1, none⟩ (.int .i64 s'.next)).setCell ⟨n + 1, 2, none⟩ (.int .i64 s'.last)) l8 d8).frozen? ⟨n + 1, 2, none⟩ = false := by
  refine ⟨?_, ?_, ?_, ?_, ?_, ?_, ?_, ?_, ?_, ?_, ?_, ?_⟩ <;> simp [go_sem, ↓IntWalk.iteOmega, *]

theorem sess_below {B : Nat} {a wc : World} (h : Below B a wc) (n : Nat) (s' : Sess) (hn : n + 1 < wc.heap.size) (hB : B ≤ n) (l8 : List Obj) (d8 : Nat) : n + 1 < (ext ((((((wc.setCell ⟨n, 0, none⟩ (.bool s'.on)).setCell ⟨n, 1, none⟩ (.int .i64 s'.next)).setCell ⟨n, 2, none⟩ (.int .i64 s'.last)).setCell ⟨n + 1, 0, none⟩ (.bool s'.on)).setCell ⟨n + 1, 1, none⟩ (.int .i64 s'.next)).setCell ⟨n + 1, 2, none⟩ (.int .i64 s'.last)) l8 d8).heap.size ∧ Below B a (ext ((((((wc.setCell ⟨n, 0, none⟩ (.bool s'.on)).setCell ⟨n, 1, none⟩ (.int .i64 s'.next)).setCell ⟨n, 2, none⟩ (.int .i64 s'.last)).setCell ⟨n + 1, 0, none⟩ (.bool s'.on)).setCell ⟨n + 1, 1, none⟩ (.int .i64 s'.next)).setCell ⟨n + 1, 2, none⟩ (.int .i64 s'.last)) l8 d8) := by
  refine ⟨by simp [go_sem]; omega, ?_⟩
  have h1 := Below.setCell (Below.setCell (Below.setCell (Below.setCell (Below.setCell (Below.setCell h (p := ⟨n, 0, none⟩) hB (.bool s'.on)) (p := ⟨n, 1, none⟩) hB (.int .i64 s'.next)) (p := ⟨n, 2, none⟩) hB (.int .i64 s'.last)) (p := ⟨n + 1, 0, none⟩) (show B ≤ n + 1 by omega) (.bool s'.on)) (p := ⟨n + 1, 1, none⟩) (show B ≤ n + 1 by omega) (.int .i64 s'.next)) (p := ⟨n + 1, 2, none⟩) (show B ≤ n + 1 by omega) (.int .i64 s'.last)
  exact Below.ext h1 (by simp [World.setCell]; omega) l8 d8

set_option maxRecDepth 100000 in
set_option maxHeartbeats 1000000 in
theorem sessionTakes_out (on : Bool) (next last : Int) (ao : Option Addr) (len cap : Nat) (ao2 : Option Addr) (len2 cap2 : Nat) (E : Nat → Addr) (w : World) (hE : Errs E [2, 3, 4, 11, 12] w) (hm : len ≤ 9223372036854775807) (hm2 : len2 ≤ 9223372036854775807)
    (ho : 60 < len ∨ len2 < len ∨ next < 0 ∨ 1099511627776 < next ∨ last < 0 ∨ 1099511627776 < last) :
    Calls Tryd.prog 11 #[.bool on, .int .i64 next, .int .i64 last, .slice ao len cap, .slice ao2 len2 cap2] w fun e w' => e = .returned (.bool true) ∧ Ex w w' := by
  by_cases h1 : 60 < len
  · go_enter Tryd.func11, Tryd.ntmps11
    go_wp2_with (go_at_call 27; refine (logged_any E _ (by exact Errs.sub (hE.ex (by repeat (first | exact Ex.refl _ | refine Ex.alloc ?_ _ | refine Ex.ext ?_ _ _ | refine Ex.drew ?_ | refine Ex.drewN ?_ _))) (by decide))).mono ?_; rintro e w1 ⟨rfl, l1, d1, rfl⟩)
    all_goals go_ret
    all_goals exact ⟨rfl, (by repeat (first | exact Ex.refl _ | refine Ex.alloc ?_ _ | refine Ex.ext ?_ _ _ | refine Ex.drew ?_ | refine Ex.drewN ?_ _))⟩
  by_cases h2 : len2 < len
  · go_enter Tryd.func11, Tryd.ntmps11
    go_wp2_with (go_at_call 27; refine (logged_any E _ (by exact Errs.sub (hE.ex (by repeat (first | exact Ex.refl _ | refine Ex.alloc ?_ _ | refine Ex.ext ?_ _ _ | refine Ex.drew ?_ | refine Ex.drewN ?_ _))) (by decide))).mono ?_; rintro e w1 ⟨rfl, l1, d1, rfl⟩)
    all_goals go_ret
    all_goals exact ⟨rfl, (by repeat (first | exact Ex.refl _ | refine Ex.alloc ?_ _ | refine Ex.ext ?_ _ _ | refine Ex.drew ?_ | refine Ex.drewN ?_ _))⟩
  by_cases h3 : next < 0
  · go_enter Tryd.func11, Tryd.ntmps11
    go_wp2_with (go_at_call 27; refine (logged_any E _ (by exact Errs.sub (hE.ex (by repeat (first | exact Ex.refl _ | refine Ex.alloc ?_ _ | refine Ex.ext ?_ _ _ | refine Ex.drew ?_ | refine Ex.drewN ?_ _))) (by decide))).mono ?_; rintro e w1 ⟨rfl, l1, d1, rfl⟩)
    all_goals go_ret
    all_goals exact ⟨rfl, (by repeat (first | exact Ex.refl _ | refine Ex.alloc ?_ _ | refine Ex.ext ?_ _ _ | refine Ex.drew ?_ | refine Ex.drewN ?_ _))⟩
  by_cases h4 : 1099511627776 < next
  · go_enter Tryd.func11, Tryd.ntmps11
    go_wp2_with (go_at_call 27; refine (logged_any E _ (by exact Errs.sub (hE.ex (by repeat (first | exact Ex.refl _ | refine Ex.alloc ?_ _ | refine Ex.ext ?_ _ _ | refine Ex.drew ?_ | refine Ex.drewN ?_ _))) (by decide))).mono ?_; rintro e w1 ⟨rfl, l1, d1, rfl⟩)
    all_goals go_ret
    all_goals exact ⟨rfl, (by repeat (first | exact Ex.refl _ | refine Ex.alloc ?_ _ | refine Ex.ext ?_ _ _ | refine Ex.drew ?_ | refine Ex.drewN ?_ _))⟩
  by_cases h5 : last < 0
  · go_enter Tryd.func11, Tryd.ntmps11
    go_wp2_with (go_at_call 27; refine (logged_any E _ (by exact Errs.sub (hE.ex (by repeat (first | exact Ex.refl _ | refine Ex.alloc ?_ _ | refine Ex.ext ?_ _ _ | refine Ex.drew ?_ | refine Ex.drewN ?_ _))) (by decide))).mono ?_; rintro e w1 ⟨rfl, l1, d1, rfl⟩)
    all_goals go_ret
    all_goals exact ⟨rfl, (by repeat (first | exact Ex.refl _ | refine Ex.alloc ?_ _ | refine Ex.ext ?_ _ _ | refine Ex.drew ?_ | refine Ex.drewN ?_ _))⟩
  · have h6 : 1099511627776 < last := by omega
    go_enter Tryd.func11, Tryd.ntmps11
    go_wp2_with (go_at_call 27; refine (logged_any E _ (by exact Errs.sub (hE.ex (by repeat (first | exact Ex.refl _ | refine Ex.alloc ?_ _ | refine Ex.ext ?_ _ _ | refine Ex.drew ?_ | refine Ex.drewN ?_ _))) (by decide))).mono ?_; rintro e w1 ⟨rfl, l1, d1, rfl⟩)
    all_goals go_ret
    all_goals exact ⟨rfl, (by repeat (first | exact Ex.refl _ | refine Ex.alloc ?_ _ | refine Ex.ext ?_ _ _ | refine Ex.drew ?_ | refine Ex.drewN ?_ _))⟩

set_option maxRecDepth 100000 in
set_option maxHeartbeats 16000000 in
theorem sessionTakes_ok (on : Bool) (next last : Int) (ao : Option Addr) (len cap : Nat) (l : List Ask) (ao2 : Option Addr) (len2 cap2 : Nat) (zs : List Int) (E : Nat → Addr) (w : World) (hr : CodeReady E w) (hA : AsksAt w ao len l) (hZ : IntsAt w ao2 len2 zs)
    (h1 : len ≤ 60) (h2 : len ≤ len2) (h3 : 0 ≤ next) (h4 : next ≤ 1099511627776) (h5 : 0 ≤ last) (h6 : last ≤ 1099511627776) :
    Calls Tryd.prog 11 #[.bool on, .int .i64 next, .int .i64 last, .slice ao len cap, .slice ao2 len2 cap2] w fun e w' => e = .returned (.bool true) ∧ Ex w w' := by
  obtain ⟨hlen, _, hwf, hz⟩ := hA
  obtain ⟨hm2, hz2⟩ := hZ
  have hE := hr.1
  have HR := Lib.hid hr
  have HZ := Lib.hid hz
  have HZ2 := Lib.hid hz2
  have HL := Lib.hid hlen
  clear hz hz2 hlen hwf hr
  go_enter Tryd.func11, Tryd.ntmps11
  go_wp2_with (go_at_call 27; refine (logged_any E _ (hE.sub (by decide))).mono ?_; rintro e w1 ⟨rfl, l1, d1, rfl⟩)
  go_loopw [14] (fun i wr => ∃ (k : Nat) (s : Sess), k ≤ len ∧ i = .int .i64 k ∧ 0 ≤ s.last ∧ s.last ≤ 1099511627776 ∧
      wr.cell? ⟨w.heap.size + l1.length, 0, none⟩ = some (.bool s.on) ∧ wr.cell? ⟨w.heap.size + l1.length, 1, none⟩ = some (.int .i64 s.next) ∧ wr.cell? ⟨w.heap.size + l1.length, 2, none⟩ = some (.int .i64 s.last) ∧
      wr.frozen? ⟨w.heap.size + l1.length, 0, none⟩ = false ∧ wr.frozen? ⟨w.heap.size + l1.length, 1, none⟩ = false ∧ wr.frozen? ⟨w.heap.size + l1.length, 2, none⟩ = false ∧
      wr.cell? ⟨w.heap.size + l1.length + 1, 0, none⟩ = some (.bool s.on) ∧ wr.cell? ⟨w.heap.size + l1.length + 1, 1, none⟩ = some (.int .i64 s.next) ∧ wr.cell? ⟨w.heap.size + l1.length + 1, 2, none⟩ = some (.int .i64 s.last) ∧
      wr.frozen? ⟨w.heap.size + l1.length + 1, 0, none⟩ = false ∧ wr.frozen? ⟨w.heap.size + l1.length + 1, 1, none⟩ = false ∧ wr.frozen? ⟨w.heap.size + l1.length + 1, 2, none⟩ = false ∧
      w.heap.size + l1.length + 1 < wr.heap.size ∧ Below w.heap.size w wr)
    (fun i _ => len - (intOf i).toNat)
  case atStart =>
    refine ⟨0, ⟨on, next, last⟩, Nat.zero_le _, rfl, h5, h6, ?_, ?_, ?_, ?_, ?_, ?_, ?_, ?_, ?_, ?_, ?_, ?_, ?_, ?_⟩
    all_goals first
      | (simp [go_sem, ↓IntWalk.iteOmega]; done)
      | (simp [go_sem]; omega)
      | exact Ex.below (by repeat (first | exact Ex.refl _ | refine Ex.alloc ?_ _ | refine Ex.ext ?_ _ _ | refine Ex.drew ?_ | refine Ex.drewN ?_ _))
  case round =>
    obtain ⟨k, s, hk, rfl, hs0, hs1, c0, c1, c2, f0, f1, f2, m0, m1, m2, g0, g1, g2, hsz, hbl⟩ := hrel
    by_cases hlt : k < len
    · obtain ⟨b, off, rfl, hbs, hz⟩ := HZ.out (by omega)
      have hzk := hz k (by rw [HL.out]; exact hlt)
      clear hz
      have hcx : ∀ j, j < 8 → wr.cell? ⟨b, off + k * 8 + j, none⟩ = (l[k]'(by rw [HL.out]; exact hlt)).cells[j]? := fun j hj => (hbl.cell (p := ⟨b, off + k * 8 + j, none⟩) hbs).trans (hzk j hj)
      clear hzk
      generalize l[k]'(by rw [HL.out]; exact hlt) = a at hcx
      have a0 := hcx 0 (by omega)
      have a1 := hcx 1 (by omega)
      have a2 := hcx 2 (by omega)
      have a3 := hcx 3 (by omega)
      have a4 := hcx 4 (by omega)
      have a5 := hcx 5 (by omega)
      have a6 := hcx 6 (by omega)
      have a7 := hcx 7 (by omega)
      simp only [Ask.cells, List.getElem?_cons_zero, List.getElem?_cons_succ, Nat.add_zero] at a0 a1 a2 a3 a4 a5 a6 a7
      clear hcx
      obtain ⟨b2, off2, rfl, hbs2, hzz⟩ := HZ2.out (by omega)
      have hzz := hzz k (by omega)
      have z0 : wr.cell? ⟨b2, off2 + k, none⟩ = some (.int .i64 (zs.getD k 0)) := (hbl.cell (p := ⟨b2, off2 + k, none⟩) hbs2).trans hzz
      clear hzz
      generalize zs.getD k 0 = now at z0
      have hEr : CodeReady E wr := HR.out.ex (Ex.of hbl)
      have HER := Lib.hid hEr
      clear hEr
      by_cases hn : now < 0 ∨ 1099511627776 < now
      · rcases hn with hn | hn
        all_goals
          go_wp2
          all_goals go_ret
          all_goals exact ⟨rfl, (Ex.of hbl).trans (by repeat (first | exact Ex.refl _ | refine Ex.alloc ?_ _ | refine Ex.ext ?_ _ _ | refine Ex.drew ?_ | refine Ex.drewN ?_ _))⟩
      · have hn0 : 0 ≤ now := by omega
        have hn1 : now ≤ 1099511627776 := by omega
        clear hn
        have HLT := Lib.hid (fun w => sessLate_any s now w (by omega) (by omega))
        have HIL := Lib.hid (fun w => isLate_any s now w (by omega) (by omega) (by omega) (by omega))
        have HTK := sessTake_any s a now E
        have HTO := takeOf_any s a now
        have hcd := take_code s a now
        have hla := take_last s a now
        generalize s.late now = lt at *
        generalize s.take a now = t at *
        obtain ⟨s', e'⟩ := t
        have hb' : (lt != lt) = false := by simp
        have hl0 : 0 ≤ s'.last ∧ s'.last ≤ 1099511627776 := by rcases hla with h | h | h <;> simp only at h <;> omega
        clear hla
        rcases Nat.eq_zero_or_pos e' with rfl | hpos
        · simp only [errV_zero] at HTK
          have HTK := Lib.hid HTK
          have HTO := Lib.hid HTO
          go_wp2_with fail
          go_region_held3 (fun w' => w'.cell? ⟨w.heap.size + l1.length, 0, none⟩ = some (.bool s.on) ∧ w'.cell? ⟨w.heap.size + l1.length, 1, none⟩ = some (.int .i64 s.next) ∧ w'.cell? ⟨w.heap.size + l1.length, 2, none⟩ = some (.int .i64 s.last) ∧
              w'.cell? ⟨w.heap.size + l1.length + 1, 0, none⟩ = some (.bool s.on) ∧ w'.cell? ⟨w.heap.size + l1.length + 1, 1, none⟩ = some (.int .i64 s.next) ∧ w'.cell? ⟨w.heap.size + l1.length + 1, 2, none⟩ = some (.int .i64 s.last) ∧
              w'.cell? ⟨b, off + k * 8, none⟩ = some (.int .u8 a.kind) ∧ w'.cell? ⟨b, off + k * 8 + 1, none⟩ = some (.int .i64 a.client) ∧ w'.cell? ⟨b, off + k * 8 + 2, none⟩ = some (.int .i64 a.seq) ∧ w'.cell? ⟨b, off + k * 8 + 3, none⟩ = some (.int .i64 a.item) ∧
              w'.cell? ⟨b, off + k * 8 + 4, none⟩ = some (.int .i64 a.side) ∧ w'.cell? ⟨b, off + k * 8 + 5, none⟩ = some (.int .i64 a.price) ∧ w'.cell? ⟨b, off + k * 8 + 6, none⟩ = some (.int .i64 a.qty) ∧ w'.cell? ⟨b, off + k * 8 + 7, none⟩ = some (.int .i64 a.id))
            (first | exact ⟨c0, c1, c2, m0, m1, m2, a0, a1, a2, a3, a4, a5, a6, a7⟩ | (simp [go_sem, ↓IntWalk.iteOmega, *]; done))
            ((first | (go_at_call 45; refine (HLT.out _).mono ?_; rintro e w1 ⟨rfl, l4, d4, rfl⟩) | (go_at_call 46; refine (HIL.out _).mono ?_; rintro e w1 ⟨rfl, l5, d5, rfl⟩)))
          go_wp2_with fail
          go_cut [16, 17] (fun x er wx => ∃ xb : Nat, x = .pointer (some ⟨xb, 0, none⟩) ∧ er = .nilIface ∧ wx.cell? ⟨xb, 0, none⟩ = some (.bool s'.on) ∧ wx.cell? ⟨xb, 1, none⟩ = some (.int .i64 s'.next) ∧ wx.cell? ⟨xb, 2, none⟩ = some (.int .i64 s'.last) ∧ wr.heap.size ≤ xb ∧ xb < wx.heap.size ∧ Below wr.heap.size wr wx)
          case first =>
            go_region_held3 (fun w' => w'.cell? ⟨w.heap.size + l1.length, 0, none⟩ = some (.bool s.on) ∧ w'.cell? ⟨w.heap.size + l1.length, 1, none⟩ = some (.int .i64 s.next) ∧ w'.cell? ⟨w.heap.size + l1.length, 2, none⟩ = some (.int .i64 s.last) ∧
                w'.cell? ⟨w.heap.size + l1.length + 1, 0, none⟩ = some (.bool s.on) ∧ w'.cell? ⟨w.heap.size + l1.length + 1, 1, none⟩ = some (.int .i64 s.next) ∧ w'.cell? ⟨w.heap.size + l1.length + 1, 2, none⟩ = some (.int .i64 s.last) ∧
                w'.cell? ⟨b, off + k * 8, none⟩ = some (.int .u8 a.kind) ∧ w'.cell? ⟨b, off + k * 8 + 1, none⟩ = some (.int .i64 a.client) ∧ w'.cell? ⟨b, off + k * 8 + 2, none⟩ = some (.int .i64 a.seq) ∧ w'.cell? ⟨b, off + k * 8 + 3, none⟩ = some (.int .i64 a.item) ∧
                w'.cell? ⟨b, off + k * 8 + 4, none⟩ = some (.int .i64 a.side) ∧ w'.cell? ⟨b, off + k * 8 + 5, none⟩ = some (.int .i64 a.price) ∧ w'.cell? ⟨b, off + k * 8 + 6, none⟩ = some (.int .i64 a.qty) ∧ w'.cell? ⟨b, off + k * 8 + 7, none⟩ = some (.int .i64 a.id))
              (first | exact ⟨c0, c1, c2, m0, m1, m2, a0, a1, a2, a3, a4, a5, a6, a7⟩ | (simp [go_sem, ↓IntWalk.iteOmega, *]; done))
              ((go_at_call 28; refine (HTK.out _ (by exact Errs.sub (HER.out.ex (by repeat (first | exact Ex.refl _ | refine Ex.alloc ?_ _ | refine Ex.ext ?_ _ _ | refine Ex.drew ?_ | refine Ex.drewN ?_ _))).1 (by decide))).mono ?_; rintro e w1 ⟨rfl, l6, d6, rfl⟩))
            all_goals
              go_wp2_with fail
              go_meet
              case rel =>
                refine ⟨_, rfl, rfl, ?_, ?_, ?_, ?_, ?_, ?_⟩
                all_goals first
                  | (simp [go_sem, ↓IntWalk.iteOmega, *]; done)
                  | (simp [go_sem, ↓IntWalk.iteOmega, *]; omega)
                  | (refine Below.trans (Below.refl _ _) ?_; repeat (first | exact Below.refl _ _ | (refine Below.drew ?_) | (refine Below.drewN ?_ _) | (refine Below.ext ?_ (by first | omega | (simp [go_sem]; done) | (simp [go_sem]; omega)) _ _) | (refine Below.alloc ?_ (by first | omega | (simp [go_sem]; done) | (simp [go_sem]; omega)) _) | (refine Below.setCell ?_ (by first | omega | (simp [go_sem]; done) | (simp [go_sem]; omega)) _)))
          case rest =>
            obtain ⟨xb, rfl, rfl, x0, x1, x2, hx0, hx1, hbx⟩ := hcut
            have HBX := Lib.hid hbx
            replace c0 := (hbx.cell (p := ⟨w.heap.size + l1.length, 0, none⟩) (show w.heap.size + l1.length < _ by omega)).trans c0
            replace c1 := (hbx.cell (p := ⟨w.heap.size + l1.length, 1, none⟩) (show w.heap.size + l1.length < _ by omega)).trans c1
            replace c2 := (hbx.cell (p := ⟨w.heap.size + l1.length, 2, none⟩) (show w.heap.size + l1.length < _ by omega)).trans c2
            replace m0 := (hbx.cell (p := ⟨w.heap.size + l1.length + 1, 0, none⟩) (show w.heap.size + l1.length + 1 < _ by omega)).trans m0
            replace m1 := (hbx.cell (p := ⟨w.heap.size + l1.length + 1, 1, none⟩) (show w.heap.size + l1.length + 1 < _ by omega)).trans m1
            replace m2 := (hbx.cell (p := ⟨w.heap.size + l1.length + 1, 2, none⟩) (show w.heap.size + l1.length + 1 < _ by omega)).trans m2
            replace f0 := (hbx.frozen (p := ⟨w.heap.size + l1.length, 0, none⟩) (show w.heap.size + l1.length < _ by omega)).trans f0
            replace f1 := (hbx.frozen (p := ⟨w.heap.size + l1.length, 1, none⟩) (show w.heap.size + l1.length < _ by omega)).trans f1
            replace f2 := (hbx.frozen (p := ⟨w.heap.size + l1.length, 2, none⟩) (show w.heap.size + l1.length < _ by omega)).trans f2
            replace g0 := (hbx.frozen (p := ⟨w.heap.size + l1.length + 1, 0, none⟩) (show w.heap.size + l1.length + 1 < _ by omega)).trans g0
            replace g1 := (hbx.frozen (p := ⟨w.heap.size + l1.length + 1, 1, none⟩) (show w.heap.size + l1.length + 1 < _ by omega)).trans g1
            replace g2 := (hbx.frozen (p := ⟨w.heap.size + l1.length + 1, 2, none⟩) (show w.heap.size + l1.length + 1 < _ by omega)).trans g2
            replace a0 := (hbx.cell (p := ⟨b, off + k * 8, none⟩) (show b < _ by have := hbl.size; omega)).trans a0
            replace a1 := (hbx.cell (p := ⟨b, off + k * 8 + 1, none⟩) (show b < _ by have := hbl.size; omega)).trans a1
            replace a2 := (hbx.cell (p := ⟨b, off + k * 8 + 2, none⟩) (show b < _ by have := hbl.size; omega)).trans a2
            replace a3 := (hbx.cell (p := ⟨b, off + k * 8 + 3, none⟩) (show b < _ by have := hbl.size; omega)).trans a3
            replace a4 := (hbx.cell (p := ⟨b, off + k * 8 + 4, none⟩) (show b < _ by have := hbl.size; omega)).trans a4
            replace a5 := (hbx.cell (p := ⟨b, off + k * 8 + 5, none⟩) (show b < _ by have := hbl.size; omega)).trans a5
            replace a6 := (hbx.cell (p := ⟨b, off + k * 8 + 6, none⟩) (show b < _ by have := hbl.size; omega)).trans a6
            replace a7 := (hbx.cell (p := ⟨b, off + k * 8 + 7, none⟩) (show b < _ by have := hbl.size; omega)).trans a7
            go_wp2_with fail
            go_cut [18, 19] (fun y er wx => ∃ yb : Nat, y = .pointer (some ⟨yb, 0, none⟩) ∧ er = .int .i64 0 ∧ wx.cell? ⟨yb, 0, none⟩ = some (.bool s'.on) ∧ wx.cell? ⟨yb, 1, none⟩ = some (.int .i64 s'.next) ∧ wx.cell? ⟨yb, 2, none⟩ = some (.int .i64 s'.last) ∧ wc.heap.size ≤ yb ∧ yb < wx.heap.size ∧ Below wc.heap.size wc wx)
            case first =>
              go_region_held3 (fun w' => w'.cell? ⟨w.heap.size + l1.length, 0, none⟩ = some (.bool s.on) ∧ w'.cell? ⟨w.heap.size + l1.length, 1, none⟩ = some (.int .i64 s.next) ∧ w'.cell? ⟨w.heap.size + l1.length, 2, none⟩ = some (.int .i64 s.last) ∧
                  w'.cell? ⟨w.heap.size + l1.length + 1, 0, none⟩ = some (.bool s.on) ∧ w'.cell? ⟨w.heap.size + l1.length + 1, 1, none⟩ = some (.int .i64 s.next) ∧ w'.cell? ⟨w.heap.size + l1.length + 1, 2, none⟩ = some (.int .i64 s.last) ∧
                  w'.cell? ⟨b, off + k * 8, none⟩ = some (.int .u8 a.kind) ∧ w'.cell? ⟨b, off + k * 8 + 1, none⟩ = some (.int .i64 a.client) ∧ w'.cell? ⟨b, off + k * 8 + 2, none⟩ = some (.int .i64 a.seq) ∧ w'.cell? ⟨b, off + k * 8 + 3, none⟩ = some (.int .i64 a.item) ∧
                  w'.cell? ⟨b, off + k * 8 + 4, none⟩ = some (.int .i64 a.side) ∧ w'.cell? ⟨b, off + k * 8 + 5, none⟩ = some (.int .i64 a.price) ∧ w'.cell? ⟨b, off + k * 8 + 6, none⟩ = some (.int .i64 a.qty) ∧ w'.cell? ⟨b, off + k * 8 + 7, none⟩ = some (.int .i64 a.id))
                (first | exact ⟨c0, c1, c2, m0, m1, m2, a0, a1, a2, a3, a4, a5, a6, a7⟩ | (simp [go_sem, ↓IntWalk.iteOmega, *]; done))
                ((go_at_call 47; refine (HTO.out _).mono ?_; rintro e w1 ⟨rfl, l7, d7, rfl⟩))
              all_goals
                go_wp2_with fail
                go_meet
                case rel =>
                  refine ⟨_, rfl, rfl, ?_, ?_, ?_, ?_, ?_, ?_⟩
                  all_goals first
                    | (simp [go_sem, ↓IntWalk.iteOmega, *]; done)
                    | (simp [go_sem, ↓IntWalk.iteOmega, *]; omega)
                    | (refine Below.trans (Below.refl _ _) ?_; repeat (first | exact Below.refl _ _ | (refine Below.drew ?_) | (refine Below.drewN ?_ _) | (refine Below.ext ?_ (by first | omega | (simp [go_sem]; done) | (simp [go_sem]; omega)) _ _) | (refine Below.alloc ?_ (by first | omega | (simp [go_sem]; done) | (simp [go_sem]; omega)) _) | (refine Below.setCell ?_ (by first | omega | (simp [go_sem]; done) | (simp [go_sem]; omega)) _)))
            case rest =>
              obtain ⟨yb, rfl, rfl, y0, y1, y2, hy0, hy1, hby⟩ := hcut
              replace x0 := (hby.cell (p := ⟨xb, 0, none⟩) (show xb < _ by omega)).trans x0
              replace x1 := (hby.cell (p := ⟨xb, 1, none⟩) (show xb < _ by omega)).trans x1
              replace x2 := (hby.cell (p := ⟨xb, 2, none⟩) (show xb < _ by omega)).trans x2
              have hzx := hbx.size
              have hzl := hbl.size
              have hzy := hby.size
              have HBX := Lib.hid hby
              replace c0 := (hby.cell (p := ⟨w.heap.size + l1.length, 0, none⟩) (show w.heap.size + l1.length < _ by omega)).trans c0
              replace c1 := (hby.cell (p := ⟨w.heap.size + l1.length, 1, none⟩) (show w.heap.size + l1.length < _ by omega)).trans c1
              replace c2 := (hby.cell (p := ⟨w.heap.size + l1.length, 2, none⟩) (show w.heap.size + l1.length < _ by omega)).trans c2
              replace m0 := (hby.cell (p := ⟨w.heap.size + l1.length + 1, 0, none⟩) (show w.heap.size + l1.length + 1 < _ by omega)).trans m0
              replace m1 := (hby.cell (p := ⟨w.heap.size + l1.length + 1, 1, none⟩) (show w.heap.size + l1.length + 1 < _ by omega)).trans m1
              replace m2 := (hby.cell (p := ⟨w.heap.size + l1.length + 1, 2, none⟩) (show w.heap.size + l1.length + 1 < _ by omega)).trans m2
              replace f0 := (hby.frozen (p := ⟨w.heap.size + l1.length, 0, none⟩) (show w.heap.size + l1.length < _ by omega)).trans f0
              replace f1 := (hby.frozen (p := ⟨w.heap.size + l1.length, 1, none⟩) (show w.heap.size + l1.length < _ by omega)).trans f1
              replace f2 := (hby.frozen (p := ⟨w.heap.size + l1.length, 2, none⟩) (show w.heap.size + l1.length < _ by omega)).trans f2
              replace g0 := (hby.frozen (p := ⟨w.heap.size + l1.length + 1, 0, none⟩) (show w.heap.size + l1.length + 1 < _ by omega)).trans g0
              replace g1 := (hby.frozen (p := ⟨w.heap.size + l1.length + 1, 1, none⟩) (show w.heap.size + l1.length + 1 < _ by omega)).trans g1
              replace g2 := (hby.frozen (p := ⟨w.heap.size + l1.length + 1, 2, none⟩) (show w.heap.size + l1.length + 1 < _ by omega)).trans g2
              replace a0 := (hby.cell (p := ⟨b, off + k * 8, none⟩) (show b < _ by have := hbl.size; omega)).trans a0
              replace a1 := (hby.cell (p := ⟨b, off + k * 8 + 1, none⟩) (show b < _ by have := hbl.size; omega)).trans a1
              replace a2 := (hby.cell (p := ⟨b, off + k * 8 + 2, none⟩) (show b < _ by have := hbl.size; omega)).trans a2
              replace a3 := (hby.cell (p := ⟨b, off + k * 8 + 3, none⟩) (show b < _ by have := hbl.size; omega)).trans a3
              replace a4 := (hby.cell (p := ⟨b, off + k * 8 + 4, none⟩) (show b < _ by have := hbl.size; omega)).trans a4
              replace a5 := (hby.cell (p := ⟨b, off + k * 8 + 5, none⟩) (show b < _ by have := hbl.size; omega)).trans a5
              replace a6 := (hby.cell (p := ⟨b, off + k * 8 + 6, none⟩) (show b < _ by have := hbl.size; omega)).trans a6
              replace a7 := (hby.cell (p := ⟨b, off + k * 8 + 7, none⟩) (show b < _ by have := hbl.size; omega)).trans a7
              have HER2 := Lib.hid (HER.out.ex (Ex.of (hbx.trans (hby.mono hzx))))
              clear a0 a1 a2 a3 a4 a5 a6 a7 z0
              go_wp2_with (go_at_call 34; refine (coded_nil _ _).mono ?_; skip; rintro e w1 ⟨rfl, l8, d8, rfl⟩)
              all_goals
                go_roundw
                case measure => simp [intOf]; omega
                case rel =>
                  obtain ⟨q0, q1, q2, q3, q4, q5, q6, q7, q8, q9, q10, q11⟩ := sess_store wc _ s s' (show w.heap.size + l1.length + 1 < wc.heap.size by omega) c0 c1 c2 f0 f1 f2 m0 m1 m2 g0 g1 g2 l8 d8
                  obtain ⟨hs9, hb9⟩ := sess_below ((hbl.trans ((hbx.trans (hby.mono hzx)).mono hzl))) (w.heap.size + l1.length) s' (show w.heap.size + l1.length + 1 < wc.heap.size by omega) (by omega) l8 d8
                  exact ⟨k + 1, s', by omega, by go_num, hl0.1, hl0.2, q0, q1, q2, q3, q4, q5, q6, q7, q8, q9, q10, q11, hs9, hb9⟩
        · rw [errV_pos E e' (by omega)] at HTK
          have HTK := Lib.hid HTK
          have HTO := Lib.hid HTO
          go_wp2_with fail
          go_region_held3 (fun w' => w'.cell? ⟨w.heap.size + l1.length, 0, none⟩ = some (.bool s.on) ∧ w'.cell? ⟨w.heap.size + l1.length, 1, none⟩ = some (.int .i64 s.next) ∧ w'.cell? ⟨w.heap.size + l1.length, 2, none⟩ = some (.int .i64 s.last) ∧
              w'.cell? ⟨w.heap.size + l1.length + 1, 0, none⟩ = some (.bool s.on) ∧ w'.cell? ⟨w.heap.size + l1.length + 1, 1, none⟩ = some (.int .i64 s.next) ∧ w'.cell? ⟨w.heap.size + l1.length + 1, 2, none⟩ = some (.int .i64 s.last) ∧
              w'.cell? ⟨b, off + k * 8, none⟩ = some (.int .u8 a.kind) ∧ w'.cell? ⟨b, off + k * 8 + 1, none⟩ = some (.int .i64 a.client) ∧ w'.cell? ⟨b, off + k * 8 + 2, none⟩ = some (.int .i64 a.seq) ∧ w'.cell? ⟨b, off + k * 8 + 3, none⟩ = some (.int .i64 a.item) ∧
              w'.cell? ⟨b, off + k * 8 + 4, none⟩ = some (.int .i64 a.side) ∧ w'.cell? ⟨b, off + k * 8 + 5, none⟩ = some (.int .i64 a.price) ∧ w'.cell? ⟨b, off + k * 8 + 6, none⟩ = some (.int .i64 a.qty) ∧ w'.cell? ⟨b, off + k * 8 + 7, none⟩ = some (.int .i64 a.id))
            (first | exact ⟨c0, c1, c2, m0, m1, m2, a0, a1, a2, a3, a4, a5, a6, a7⟩ | (simp [go_sem, ↓IntWalk.iteOmega, *]; done))
            ((first | (go_at_call 45; refine (HLT.out _).mono ?_; rintro e w1 ⟨rfl, l4, d4, rfl⟩) | (go_at_call 46; refine (HIL.out _).mono ?_; rintro e w1 ⟨rfl, l5, d5, rfl⟩)))
          go_wp2_with fail
          go_cut [16, 17] (fun x er wx => ∃ xb : Nat, x = .pointer (some ⟨xb, 0, none⟩) ∧ er = .iface 114 (.pointer (some (E e'))) ∧ wx.cell? ⟨xb, 0, none⟩ = some (.bool s'.on) ∧ wx.cell? ⟨xb, 1, none⟩ = some (.int .i64 s'.next) ∧ wx.cell? ⟨xb, 2, none⟩ = some (.int .i64 s'.last) ∧ wr.heap.size ≤ xb ∧ xb < wx.heap.size ∧ Below wr.heap.size wr wx)
          case first =>
            go_region_held3 (fun w' => w'.cell? ⟨w.heap.size + l1.length, 0, none⟩ = some (.bool s.on) ∧ w'.cell? ⟨w.heap.size + l1.length, 1, none⟩ = some (.int .i64 s.next) ∧ w'.cell? ⟨w.heap.size + l1.length, 2, none⟩ = some (.int .i64 s.last) ∧
                w'.cell? ⟨w.heap.size + l1.length + 1, 0, none⟩ = some (.bool s.on) ∧ w'.cell? ⟨w.heap.size + l1.length + 1, 1, none⟩ = some (.int .i64 s.next) ∧ w'.cell? ⟨w.heap.size + l1.length + 1, 2, none⟩ = some (.int .i64 s.last) ∧
                w'.cell? ⟨b, off + k * 8, none⟩ = some (.int .u8 a.kind) ∧ w'.cell? ⟨b, off + k * 8 + 1, none⟩ = some (.int .i64 a.client) ∧ w'.cell? ⟨b, off + k * 8 + 2, none⟩ = some (.int .i64 a.seq) ∧ w'.cell? ⟨b, off + k * 8 + 3, none⟩ = some (.int .i64 a.item) ∧
                w'.cell? ⟨b, off + k * 8 + 4, none⟩ = some (.int .i64 a.side) ∧ w'.cell? ⟨b, off + k * 8 + 5, none⟩ = some (.int .i64 a.price) ∧ w'.cell? ⟨b, off + k * 8 + 6, none⟩ = some (.int .i64 a.qty) ∧ w'.cell? ⟨b, off + k * 8 + 7, none⟩ = some (.int .i64 a.id))
              (first | exact ⟨c0, c1, c2, m0, m1, m2, a0, a1, a2, a3, a4, a5, a6, a7⟩ | (simp [go_sem, ↓IntWalk.iteOmega, *]; done))
              ((go_at_call 28; refine (HTK.out _ (by exact Errs.sub (HER.out.ex (by repeat (first | exact Ex.refl _ | refine Ex.alloc ?_ _ | refine Ex.ext ?_ _ _ | refine Ex.drew ?_ | refine Ex.drewN ?_ _))).1 (by decide))).mono ?_; rintro e w1 ⟨rfl, l6, d6, rfl⟩))
            all_goals
              go_wp2_with fail
              go_meet
              case rel =>
                refine ⟨_, rfl, rfl, ?_, ?_, ?_, ?_, ?_, ?_⟩
                all_goals first
                  | (simp [go_sem, ↓IntWalk.iteOmega, *]; done)
                  | (simp [go_sem, ↓IntWalk.iteOmega, *]; omega)
                  | (refine Below.trans (Below.refl _ _) ?_; repeat (first | exact Below.refl _ _ | (refine Below.drew ?_) | (refine Below.drewN ?_ _) | (refine Below.ext ?_ (by first | omega | (simp [go_sem]; done) | (simp [go_sem]; omega)) _ _) | (refine Below.alloc ?_ (by first | omega | (simp [go_sem]; done) | (simp [go_sem]; omega)) _) | (refine Below.setCell ?_ (by first | omega | (simp [go_sem]; done) | (simp [go_sem]; omega)) _)))
          case rest =>
            obtain ⟨xb, rfl, rfl, x0, x1, x2, hx0, hx1, hbx⟩ := hcut
            have HBX := Lib.hid hbx
            replace c0 := (hbx.cell (p := ⟨w.heap.size + l1.length, 0, none⟩) (show w.heap.size + l1.length < _ by omega)).trans c0
            replace c1 := (hbx.cell (p := ⟨w.heap.size + l1.length, 1, none⟩) (show w.heap.size + l1.length < _ by omega)).trans c1
            replace c2 := (hbx.cell (p := ⟨w.heap.size + l1.length, 2, none⟩) (show w.heap.size + l1.length < _ by omega)).trans c2
            replace m0 := (hbx.cell (p := ⟨w.heap.size + l1.length + 1, 0, none⟩) (show w.heap.size + l1.length + 1 < _ by omega)).trans m0
            replace m1 := (hbx.cell (p := ⟨w.heap.size + l1.length + 1, 1, none⟩) (show w.heap.size + l1.length + 1 < _ by omega)).trans m1
            replace m2 := (hbx.cell (p := ⟨w.heap.size + l1.length + 1, 2, none⟩) (show w.heap.size + l1.length + 1 < _ by omega)).trans m2
            replace f0 := (hbx.frozen (p := ⟨w.heap.size + l1.length, 0, none⟩) (show w.heap.size + l1.length < _ by omega)).trans f0
            replace f1 := (hbx.frozen (p := ⟨w.heap.size + l1.length, 1, none⟩) (show w.heap.size + l1.length < _ by omega)).trans f1
            replace f2 := (hbx.frozen (p := ⟨w.heap.size + l1.length, 2, none⟩) (show w.heap.size + l1.length < _ by omega)).trans f2
            replace g0 := (hbx.frozen (p := ⟨w.heap.size + l1.length + 1, 0, none⟩) (show w.heap.size + l1.length + 1 < _ by omega)).trans g0
            replace g1 := (hbx.frozen (p := ⟨w.heap.size + l1.length + 1, 1, none⟩) (show w.heap.size + l1.length + 1 < _ by omega)).trans g1
            replace g2 := (hbx.frozen (p := ⟨w.heap.size + l1.length + 1, 2, none⟩) (show w.heap.size + l1.length + 1 < _ by omega)).trans g2
            replace a0 := (hbx.cell (p := ⟨b, off + k * 8, none⟩) (show b < _ by have := hbl.size; omega)).trans a0
            replace a1 := (hbx.cell (p := ⟨b, off + k * 8 + 1, none⟩) (show b < _ by have := hbl.size; omega)).trans a1
            replace a2 := (hbx.cell (p := ⟨b, off + k * 8 + 2, none⟩) (show b < _ by have := hbl.size; omega)).trans a2
            replace a3 := (hbx.cell (p := ⟨b, off + k * 8 + 3, none⟩) (show b < _ by have := hbl.size; omega)).trans a3
            replace a4 := (hbx.cell (p := ⟨b, off + k * 8 + 4, none⟩) (show b < _ by have := hbl.size; omega)).trans a4
            replace a5 := (hbx.cell (p := ⟨b, off + k * 8 + 5, none⟩) (show b < _ by have := hbl.size; omega)).trans a5
            replace a6 := (hbx.cell (p := ⟨b, off + k * 8 + 6, none⟩) (show b < _ by have := hbl.size; omega)).trans a6
            replace a7 := (hbx.cell (p := ⟨b, off + k * 8 + 7, none⟩) (show b < _ by have := hbl.size; omega)).trans a7
            go_wp2_with fail
            go_cut [18, 19] (fun y er wx => ∃ yb : Nat, y = .pointer (some ⟨yb, 0, none⟩) ∧ er = .int .i64 e' ∧ wx.cell? ⟨yb, 0, none⟩ = some (.bool s'.on) ∧ wx.cell? ⟨yb, 1, none⟩ = some (.int .i64 s'.next) ∧ wx.cell? ⟨yb, 2, none⟩ = some (.int .i64 s'.last) ∧ wc.heap.size ≤ yb ∧ yb < wx.heap.size ∧ Below wc.heap.size wc wx)
            case first =>
              go_region_held3 (fun w' => w'.cell? ⟨w.heap.size + l1.length, 0, none⟩ = some (.bool s.on) ∧ w'.cell? ⟨w.heap.size + l1.length, 1, none⟩ = some (.int .i64 s.next) ∧ w'.cell? ⟨w.heap.size + l1.length, 2, none⟩ = some (.int .i64 s.last) ∧
                  w'.cell? ⟨w.heap.size + l1.length + 1, 0, none⟩ = some (.bool s.on) ∧ w'.cell? ⟨w.heap.size + l1.length + 1, 1, none⟩ = some (.int .i64 s.next) ∧ w'.cell? ⟨w.heap.size + l1.length + 1, 2, none⟩ = some (.int .i64 s.last) ∧
                  w'.cell? ⟨b, off + k * 8, none⟩ = some (.int .u8 a.kind) ∧ w'.cell? ⟨b, off + k * 8 + 1, none⟩ = some (.int .i64 a.client) ∧ w'.cell? ⟨b, off + k * 8 + 2, none⟩ = some (.int .i64 a.seq) ∧ w'.cell? ⟨b, off + k * 8 + 3, none⟩ = some (.int .i64 a.item) ∧
                  w'.cell? ⟨b, off + k * 8 + 4, none⟩ = some (.int .i64 a.side) ∧ w'.cell? ⟨b, off + k * 8 + 5, none⟩ = some (.int .i64 a.price) ∧ w'.cell? ⟨b, off + k * 8 + 6, none⟩ = some (.int .i64 a.qty) ∧ w'.cell? ⟨b, off + k * 8 + 7, none⟩ = some (.int .i64 a.id))
                (first | exact ⟨c0, c1, c2, m0, m1, m2, a0, a1, a2, a3, a4, a5, a6, a7⟩ | (simp [go_sem, ↓IntWalk.iteOmega, *]; done))
                ((go_at_call 47; refine (HTO.out _).mono ?_; rintro e w1 ⟨rfl, l7, d7, rfl⟩))
              all_goals
                go_wp2_with fail
                go_meet
                case rel =>
                  refine ⟨_, rfl, rfl, ?_, ?_, ?_, ?_, ?_, ?_⟩
                  all_goals first
                    | (simp [go_sem, ↓IntWalk.iteOmega, *]; done)
                    | (simp [go_sem, ↓IntWalk.iteOmega, *]; omega)
                    | (refine Below.trans (Below.refl _ _) ?_; repeat (first | exact Below.refl _ _ | (refine Below.drew ?_) | (refine Below.drewN ?_ _) | (refine Below.ext ?_ (by first | omega | (simp [go_sem]; done) | (simp [go_sem]; omega)) _ _) | (refine Below.alloc ?_ (by first | omega | (simp [go_sem]; done) | (simp [go_sem]; omega)) _) | (refine Below.setCell ?_ (by first | omega | (simp [go_sem]; done) | (simp [go_sem]; omega)) _)))
            case rest =>
              obtain ⟨yb, rfl, rfl, y0, y1, y2, hy0, hy1, hby⟩ := hcut
              replace x0 := (hby.cell (p := ⟨xb, 0, none⟩) (show xb < _ by omega)).trans x0
              replace x1 := (hby.cell (p := ⟨xb, 1, none⟩) (show xb < _ by omega)).trans x1
              replace x2 := (hby.cell (p := ⟨xb, 2, none⟩) (show xb < _ by omega)).trans x2
              have hzx := hbx.size
              have hzl := hbl.size
              have hzy := hby.size
              have HBX := Lib.hid hby
              replace c0 := (hby.cell (p := ⟨w.heap.size + l1.length, 0, none⟩) (show w.heap.size + l1.length < _ by omega)).trans c0
              replace c1 := (hby.cell (p := ⟨w.heap.size + l1.length, 1, none⟩) (show w.heap.size + l1.length < _ by omega)).trans c1
              replace c2 := (hby.cell (p := ⟨w.heap.size + l1.length, 2, none⟩) (show w.heap.size + l1.length < _ by omega)).trans c2
              replace m0 := (hby.cell (p := ⟨w.heap.size + l1.length + 1, 0, none⟩) (show w.heap.size + l1.length + 1 < _ by omega)).trans m0
              replace m1 := (hby.cell (p := ⟨w.heap.size + l1.length + 1, 1, none⟩) (show w.heap.size + l1.length + 1 < _ by omega)).trans m1
              replace m2 := (hby.cell (p := ⟨w.heap.size + l1.length + 1, 2, none⟩) (show w.heap.size + l1.length + 1 < _ by omega)).trans m2
              replace f0 := (hby.frozen (p := ⟨w.heap.size + l1.length, 0, none⟩) (show w.heap.size + l1.length < _ by omega)).trans f0
              replace f1 := (hby.frozen (p := ⟨w.heap.size + l1.length, 1, none⟩) (show w.heap.size + l1.length < _ by omega)).trans f1
              replace f2 := (hby.frozen (p := ⟨w.heap.size + l1.length, 2, none⟩) (show w.heap.size + l1.length < _ by omega)).trans f2
              replace g0 := (hby.frozen (p := ⟨w.heap.size + l1.length + 1, 0, none⟩) (show w.heap.size + l1.length + 1 < _ by omega)).trans g0
              replace g1 := (hby.frozen (p := ⟨w.heap.size + l1.length + 1, 1, none⟩) (show w.heap.size + l1.length + 1 < _ by omega)).trans g1
              replace g2 := (hby.frozen (p := ⟨w.heap.size + l1.length + 1, 2, none⟩) (show w.heap.size + l1.length + 1 < _ by omega)).trans g2
              replace a0 := (hby.cell (p := ⟨b, off + k * 8, none⟩) (show b < _ by have := hbl.size; omega)).trans a0
              replace a1 := (hby.cell (p := ⟨b, off + k * 8 + 1, none⟩) (show b < _ by have := hbl.size; omega)).trans a1
              replace a2 := (hby.cell (p := ⟨b, off + k * 8 + 2, none⟩) (show b < _ by have := hbl.size; omega)).trans a2
              replace a3 := (hby.cell (p := ⟨b, off + k * 8 + 3, none⟩) (show b < _ by have := hbl.size; omega)).trans a3
              replace a4 := (hby.cell (p := ⟨b, off + k * 8 + 4, none⟩) (show b < _ by have := hbl.size; omega)).trans a4
              replace a5 := (hby.cell (p := ⟨b, off + k * 8 + 5, none⟩) (show b < _ by have := hbl.size; omega)).trans a5
              replace a6 := (hby.cell (p := ⟨b, off + k * 8 + 6, none⟩) (show b < _ by have := hbl.size; omega)).trans a6
              replace a7 := (hby.cell (p := ⟨b, off + k * 8 + 7, none⟩) (show b < _ by have := hbl.size; omega)).trans a7
              have HER2 := Lib.hid (HER.out.ex (Ex.of (hbx.trans (hby.mono hzx))))
              clear a0 a1 a2 a3 a4 a5 a6 a7 z0
              go_wp2_with (go_at_call 34; refine (coded_err e' _ E _ ?_ hpos hcd).mono ?_; (focus exact CodeReady.ex HER2.out (by repeat (first | exact Ex.refl _ | refine Ex.alloc ?_ _ | refine Ex.ext ?_ _ _ | refine Ex.drew ?_ | refine Ex.drewN ?_ _))); rintro e w1 ⟨rfl, l8, d8, rfl⟩)
              all_goals
                go_roundw
                case measure => simp [intOf]; omega
                case rel =>
                  obtain ⟨q0, q1, q2, q3, q4, q5, q6, q7, q8, q9, q10, q11⟩ := sess_store wc _ s s' (show w.heap.size + l1.length + 1 < wc.heap.size by omega) c0 c1 c2 f0 f1 f2 m0 m1 m2 g0 g1 g2 l8 d8
                  obtain ⟨hs9, hb9⟩ := sess_below ((hbl.trans ((hbx.trans (hby.mono hzx)).mono hzl))) (w.heap.size + l1.length) s' (show w.heap.size + l1.length + 1 < wc.heap.size by omega) (by omega) l8 d8
                  exact ⟨k + 1, s', by omega, by go_num, hl0.1, hl0.2, q0, q1, q2, q3, q4, q5, q6, q7, q8, q9, q10, q11, hs9, hb9⟩
    · go_wp2
      all_goals go_ret
      all_goals exact ⟨rfl, Ex.of hbl⟩
end Go.Proofs.YthngmmhoakegeaaDoor
