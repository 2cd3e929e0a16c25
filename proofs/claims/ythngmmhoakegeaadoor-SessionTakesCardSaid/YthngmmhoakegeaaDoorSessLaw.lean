/- The walk of SessionRises. -/
import Derived.Test.YthngmmhoakegeaaDoorSession
import Derived.Test.YthngmmhoakegeaaDoorRead
import Derived.Deep.RegionHeld3
set_option linter.unusedSimpArgs false
set_option linter.unusedVariables false
namespace Go.Proofs.YthngmmhoakegeaaDoor
open Go.RowKit

set_option maxRecDepth 100000 in
theorem logged_any (E : Nat → Addr) (w : World) (hE : Errs E [2, 3, 4, 11, 12] w) : Calls Tryd.prog 27 #[] w fun e w' => e = .returned (.bool true) ∧ Ex w w' := by
  have h1 : Sess.take ⟨false, 0, 0⟩ ⟨108, 0, 1, 0, 0, 0, 0, 0⟩ 9 = (⟨true, 2, 9⟩, 0) := by decide
  have H := sessTake_any ⟨false, 0, 0⟩ ⟨108, 0, 1, 0, 0, 0, 0, 0⟩ 9 E
  rw [h1] at H
  simp only [errV_zero] at H
  have l1 : Sess.late ⟨true, 2, 9⟩ 15 = true := by decide
  have l2 : Sess.late ⟨true, 2, 9⟩ 14 = false := by decide
  have H1 := sessLate_any ⟨true, 2, 9⟩ 15
  have H2 := sessLate_any ⟨true, 2, 9⟩ 14
  rw [l1] at H1
  rw [l2] at H2
  have HH := Lib.hid H
  have HH1 := Lib.hid H1
  have HH2 := Lib.hid H2
  clear H h1 l1 l2 H1 H2
  go_enter Tryd.func27, Tryd.ntmps27
  go_wp2_with fail
  refine (HH.out _ (by exact Errs.sub (hE.ex (by repeat (first | exact Ex.refl _ | refine Ex.alloc ?_ _ | refine Ex.ext ?_ _ _ | refine Ex.drew ?_ | refine Ex.drewN ?_ _))) (by decide))).mono ?_
  rintro e w1 ⟨rfl, l1, d1, rfl⟩
  go_wp2_with fail
  refine (HH1.out _ (by decide) (by decide)).mono ?_
  rintro e w1 ⟨rfl, l2, d2, rfl⟩
  go_wp2_with fail
  refine (HH2.out _ (by decide) (by decide)).mono ?_
  rintro e w1 ⟨rfl, l3, d3, rfl⟩
  go_wp2
  all_goals go_ret
  all_goals exact ⟨rfl, (by repeat (first | exact Ex.refl _ | refine Ex.alloc ?_ _ | refine Ex.ext ?_ _ _ | refine Ex.drew ?_ | refine Ex.drewN ?_ _))⟩

def SessInv (s : Sess) (n : Int) (k : Nat) : Prop := 0 ≤ n ∧ n ≤ k ∧ (s.on = true → s.next = n + 1) ∧ (s.on = false → s = ⟨false, 0, 0⟩)

set_option maxRecDepth 100000 in
set_option maxHeartbeats 2000000 in
theorem sessionRises_ok (ao : Option Addr) (len cap : Nat) (l : List Ask) (E : Nat → Addr) (w : World) (hE : Errs E [2, 3, 4, 11, 12] w) (hA : AsksAt w ao len l) (hl : len ≤ 100) :
    Calls Tryd.prog 7 #[.slice ao len cap] w fun e w' => e = .returned (.bool true) ∧ Ex w w' := by
  obtain ⟨hlen, _, hwf, hz⟩ := hA
  have HZ := Lib.hid hz
  have HL := Lib.hid hlen
  have HW := Lib.hid hwf
  clear hz hlen hwf
  go_enter Tryd.func7, Tryd.ntmps7
  go_wp2_with (go_at_call 27; refine (logged_any E _ hE).mono ?_; rintro e w1 ⟨rfl, l1, d1, rfl⟩)
  go_loopw [5, 6] (fun n i wr => ∃ (k : Nat) (m : Int) (s : Sess), k ≤ len ∧ i = .int .i64 k ∧ n = .int .i64 m ∧ SessInv s m k ∧
      wr.cell? ⟨w.heap.size + l1.length, 0, none⟩ = some (.bool s.on) ∧ wr.cell? ⟨w.heap.size + l1.length, 1, none⟩ = some (.int .i64 s.next) ∧ wr.cell? ⟨w.heap.size + l1.length, 2, none⟩ = some (.int .i64 s.last) ∧
      wr.frozen? ⟨w.heap.size + l1.length, 0, none⟩ = false ∧ wr.frozen? ⟨w.heap.size + l1.length, 1, none⟩ = false ∧ wr.frozen? ⟨w.heap.size + l1.length, 2, none⟩ = false ∧
      w.heap.size + l1.length < wr.heap.size ∧ Below w.heap.size w wr)
    (fun _ i _ => len - (intOf i).toNat)
  case atStart =>
    refine ⟨0, 0, ⟨false, 0, 0⟩, Nat.zero_le _, rfl, rfl, ⟨by omega, by omega, (by intro h; cases h), fun _ => rfl⟩, ?_, ?_, ?_, ?_, ?_, ?_, ?_, ?_⟩
    all_goals first
      | (simp [go_sem, ↓IntWalk.iteOmega]; done)
      | (simp [go_sem]; omega)
      | exact Ex.below (by repeat (first | exact Ex.refl _ | refine Ex.alloc ?_ _ | refine Ex.ext ?_ _ _ | refine Ex.drew ?_ | refine Ex.drewN ?_ _))
  case round =>
    obtain ⟨k, m, s, hk, rfl, rfl, hinv, c0, c1, c2, f0, f1, f2, hsz, hbl⟩ := hrel
    by_cases hlt : k < len
    · obtain ⟨b, off, rfl, hbs, hz⟩ := HZ.out (by omega)
      have hzk := hz k (by rw [HL.out]; exact hlt)
      clear hz
      have hcx : ∀ j, j < 8 → wr.cell? ⟨b, off + k * 8 + j, none⟩ = (l[k]'(by rw [HL.out]; exact hlt)).cells[j]? := fun j hj => (hbl.cell (p := ⟨b, off + k * 8 + j, none⟩) hbs).trans (hzk j hj)
      clear hzk
      generalize l[k]'(by rw [HL.out]; exact hlt) = a at hcx
      have a0 := hcx 0 (by omega)
      have a1 := hcx 1 (by omega)
      have a2 := hcx 2 (by omega)
      have a3 := hcx 3 (by omega)
      have a4 := hcx 4 (by omega)
      have a5 := hcx 5 (by omega)
      have a6 := hcx 6 (by omega)
      have a7 := hcx 7 (by omega)
      simp only [Ask.cells, List.getElem?_cons_zero, List.getElem?_cons_succ, Nat.add_zero] at a0 a1 a2 a3 a4 a5 a6 a7
      clear hcx
      have hEr : Errs E [2, 3, 4, 11, 12] wr := fun c hc => (hbl.cell (p := ⟨gOf c, 0, none⟩) (lt_of_cell (hE c hc))).trans (hE c hc)
      by_cases he : (s.take a k).2 = 0
      · by_cases hlog : (a.kind == 108) = true
        · have h1 : s.take a k = (⟨true, 2, k⟩, 0) ∧ (a.seq != 1) = false ∧ s.on = false := by
            revert he
            unfold Sess.take
            (repeat' split) <;> simp_all
          obtain ⟨h1, hq, hon⟩ := h1
          have H := sessTake_any s a k E
          rw [h1] at H
          simp only [errV_zero] at H
          have HT := Lib.hid H
          have HQ := Lib.hid hq
          have HON := Lib.hid hon
          clear H h1 he hq hon
          have h113 : (a.kind == 113) = false := by
            have : a.kind = 108 := by simpa using hlog
            rw [this]; decide
          have HLOG := Lib.hid hlog
          have H113 := Lib.hid h113
          clear hlog h113
          go_wp2_with fail
          go_region_held3 (fun w' => w'.cell? ⟨w.heap.size + l1.length, 0, none⟩ = some (.bool s.on) ∧ w'.cell? ⟨w.heap.size + l1.length, 1, none⟩ = some (.int .i64 s.next) ∧ w'.cell? ⟨w.heap.size + l1.length, 2, none⟩ = some (.int .i64 s.last) ∧
              w'.cell? ⟨b, off + k * 8, none⟩ = some (.int .u8 a.kind) ∧ w'.cell? ⟨b, off + k * 8 + 1, none⟩ = some (.int .i64 a.client) ∧ w'.cell? ⟨b, off + k * 8 + 2, none⟩ = some (.int .i64 a.seq) ∧ w'.cell? ⟨b, off + k * 8 + 3, none⟩ = some (.int .i64 a.item) ∧
              w'.cell? ⟨b, off + k * 8 + 4, none⟩ = some (.int .i64 a.side) ∧ w'.cell? ⟨b, off + k * 8 + 5, none⟩ = some (.int .i64 a.price) ∧ w'.cell? ⟨b, off + k * 8 + 6, none⟩ = some (.int .i64 a.qty) ∧ w'.cell? ⟨b, off + k * 8 + 7, none⟩ = some (.int .i64 a.id))
            (first | exact ⟨c0, c1, c2, a0, a1, a2, a3, a4, a5, a6, a7⟩ | (simp [go_sem, ↓IntWalk.iteOmega, *]; done))
            (first | (go_at_call 28; refine (HT.out _ (by exact Errs.sub (hEr.ex (by repeat (first | exact Ex.refl _ | refine Ex.alloc ?_ _ | refine Ex.ext ?_ _ _ | refine Ex.drew ?_ | refine Ex.drewN ?_ _))) (by decide))).mono ?_; rintro e w1 ⟨rfl, l2, d2, rfl⟩))
          all_goals
            have hlog := HLOG.out
            have h113 := H113.out
            have hon := HON.out
            have hq := HQ.out
            have hne : (a.kind != 108) = false := by rw [bne, hlog]; rfl
            go_wp2_with fail
            go_quiet (fail)
            go_wp2
            obtain ⟨i1, i2, i3, i4⟩ := hinv
            go_roundw
            case measure => simp [intOf]; omega
            case rel =>
              refine ⟨k + 1, 1, ⟨true, 2, k⟩, by omega, by go_num, rfl, ⟨by omega, by omega, fun _ => rfl, (fun h => by cases h)⟩, ?_, ?_, ?_, ?_, ?_, ?_, ?_, ?_⟩
              all_goals first
                | (simp [go_sem, ↓IntWalk.iteOmega, *]; done)
                | (simp [go_sem, ↓IntWalk.iteOmega, *]; omega)
                | (refine Below.trans hbl ?_; repeat (first | exact Below.refl _ _ | (refine Below.drew ?_) | (refine Below.drewN ?_ _) | (refine Below.ext ?_ (by first | omega | (simp [go_sem]; done) | (simp [go_sem]; omega)) _ _) | (refine Below.alloc ?_ (by first | omega | (simp [go_sem]; done) | (simp [go_sem]; omega)) _) | (refine Below.setCell ?_ (by first | omega | (simp [go_sem]; done) | (simp [go_sem]; omega)) _)))
        · have hlog : (a.kind == 108) = false := by simpa using hlog
          by_cases hout : (a.kind == 113) = true
          · have h1 : s.take a k = (⟨false, 0, 0⟩, 0) ∧ (a.seq != s.next) = false ∧ s.on = true := by
              revert he
              unfold Sess.take
              (repeat' split) <;> simp_all
            obtain ⟨h1, hq, hon⟩ := h1
            have H := sessTake_any s a k E
            rw [h1] at H
            simp only [errV_zero] at H
            obtain ⟨i1, i2, i3, i4⟩ := hinv
            have hm1 : (a.seq != m + 1) = false := by rw [← i3 hon]; exact hq
            have HT := Lib.hid H
            have HQ := Lib.hid hm1
            have HON := Lib.hid hon
            have HLOG := Lib.hid hlog
            have H113 := Lib.hid hout
            clear H h1 he hq hon hlog hout hm1 i3 i4
            go_wp2_with fail
            go_region_held3 (fun w' => w'.cell? ⟨w.heap.size + l1.length, 0, none⟩ = some (.bool s.on) ∧ w'.cell? ⟨w.heap.size + l1.length, 1, none⟩ = some (.int .i64 s.next) ∧ w'.cell? ⟨w.heap.size + l1.length, 2, none⟩ = some (.int .i64 s.last) ∧
                w'.cell? ⟨b, off + k * 8, none⟩ = some (.int .u8 a.kind) ∧ w'.cell? ⟨b, off + k * 8 + 1, none⟩ = some (.int .i64 a.client) ∧ w'.cell? ⟨b, off + k * 8 + 2, none⟩ = some (.int .i64 a.seq) ∧ w'.cell? ⟨b, off + k * 8 + 3, none⟩ = some (.int .i64 a.item) ∧
                w'.cell? ⟨b, off + k * 8 + 4, none⟩ = some (.int .i64 a.side) ∧ w'.cell? ⟨b, off + k * 8 + 5, none⟩ = some (.int .i64 a.price) ∧ w'.cell? ⟨b, off + k * 8 + 6, none⟩ = some (.int .i64 a.qty) ∧ w'.cell? ⟨b, off + k * 8 + 7, none⟩ = some (.int .i64 a.id))
              (first | exact ⟨c0, c1, c2, a0, a1, a2, a3, a4, a5, a6, a7⟩ | (simp [go_sem, ↓IntWalk.iteOmega, *]; done))
              (first | (go_at_call 28; refine (HT.out _ (by exact Errs.sub (hEr.ex (by repeat (first | exact Ex.refl _ | refine Ex.alloc ?_ _ | refine Ex.ext ?_ _ _ | refine Ex.drew ?_ | refine Ex.drewN ?_ _))) (by decide))).mono ?_; rintro e w1 ⟨rfl, l2, d2, rfl⟩))
            all_goals
              have hlog := HLOG.out
              have h113 := H113.out
              have hon := HON.out
              have hq := HQ.out
              go_wp2_with fail
              go_quiet (fail)
              go_wp2
              go_roundw
              case measure => simp [intOf]; omega
              case rel =>
                refine ⟨k + 1, m + 1, ⟨false, 0, 0⟩, by omega, by go_num, rfl, ⟨by omega, by omega, (fun h => by cases h), fun _ => rfl⟩, ?_, ?_, ?_, ?_, ?_, ?_, ?_, ?_⟩
                all_goals first
                  | (simp [go_sem, ↓IntWalk.iteOmega, *]; done)
                  | (simp [go_sem, ↓IntWalk.iteOmega, *]; omega)
                  | (refine Below.trans hbl ?_; repeat (first | exact Below.refl _ _ | (refine Below.drew ?_) | (refine Below.drewN ?_ _) | (refine Below.ext ?_ (by first | omega | (simp [go_sem]; done) | (simp [go_sem]; omega)) _ _) | (refine Below.alloc ?_ (by first | omega | (simp [go_sem]; done) | (simp [go_sem]; omega)) _) | (refine Below.setCell ?_ (by first | omega | (simp [go_sem]; done) | (simp [go_sem]; omega)) _)))
          · have hout : (a.kind == 113) = false := by simpa using hout
            have h1 : s.take a k = (⟨true, s.next + 1, k⟩, 0) ∧ (a.seq != s.next) = false ∧ s.on = true := by
              revert he
              unfold Sess.take
              (repeat' split) <;> simp_all
            obtain ⟨h1, hq, hon⟩ := h1
            have H := sessTake_any s a k E
            rw [h1] at H
            simp only [errV_zero] at H
            obtain ⟨i1, i2, i3, i4⟩ := hinv
            have hm1 : (a.seq != m + 1) = false := by rw [← i3 hon]; exact hq
            have HN := Lib.hid (i3 hon)
            have HT := Lib.hid H
            have HQ := Lib.hid hm1
            have HON := Lib.hid hon
            have HLOG := Lib.hid hlog
            have H113 := Lib.hid hout
            clear H h1 he hq hon hlog hout hm1 i3 i4
            go_wp2_with fail
            go_region_held3 (fun w' => w'.cell? ⟨w.heap.size + l1.length, 0, none⟩ = some (.bool s.on) ∧ w'.cell? ⟨w.heap.size + l1.length, 1, none⟩ = some (.int .i64 s.next) ∧ w'.cell? ⟨w.heap.size + l1.length, 2, none⟩ = some (.int .i64 s.last) ∧
                w'.cell? ⟨b, off + k * 8, none⟩ = some (.int .u8 a.kind) ∧ w'.cell? ⟨b, off + k * 8 + 1, none⟩ = some (.int .i64 a.client) ∧ w'.cell? ⟨b, off + k * 8 + 2, none⟩ = some (.int .i64 a.seq) ∧ w'.cell? ⟨b, off + k * 8 + 3, none⟩ = some (.int .i64 a.item) ∧
                w'.cell? ⟨b, off + k * 8 + 4, none⟩ = some (.int .i64 a.side) ∧ w'.cell? ⟨b, off + k * 8 + 5, none⟩ = some (.int .i64 a.price) ∧ w'.cell? ⟨b, off + k * 8 + 6, none⟩ = some (.int .i64 a.qty) ∧ w'.cell? ⟨b, off + k * 8 + 7, none⟩ = some (.int .i64 a.id))
              (first | exact ⟨c0, c1, c2, a0, a1, a2, a3, a4, a5, a6, a7⟩ | (simp [go_sem, ↓IntWalk.iteOmega, *]; done))
              (first | (go_at_call 28; refine (HT.out _ (by exact Errs.sub (hEr.ex (by repeat (first | exact Ex.refl _ | refine Ex.alloc ?_ _ | refine Ex.ext ?_ _ _ | refine Ex.drew ?_ | refine Ex.drewN ?_ _))) (by decide))).mono ?_; rintro e w1 ⟨rfl, l2, d2, rfl⟩))
            all_goals
              have hlog := HLOG.out
              have h113 := H113.out
              have hon := HON.out
              have hq := HQ.out
              go_wp2_with fail
              go_quiet (fail)
              go_wp2
              go_roundw
              case measure => simp [intOf]; omega
              case rel =>
                refine ⟨k + 1, m + 1, ⟨true, s.next + 1, k⟩, by omega, by go_num, rfl, ⟨by omega, by omega, fun _ => by rw [HN.out], (fun h => by cases h)⟩, ?_, ?_, ?_, ?_, ?_, ?_, ?_, ?_⟩
                all_goals first
                  | (simp [go_sem, ↓IntWalk.iteOmega, *]; done)
                  | (simp [go_sem, ↓IntWalk.iteOmega, *]; omega)
                  | (refine Below.trans hbl ?_; repeat (first | exact Below.refl _ _ | (refine Below.drew ?_) | (refine Below.drewN ?_ _) | (refine Below.ext ?_ (by first | omega | (simp [go_sem]; done) | (simp [go_sem]; omega)) _ _) | (refine Below.alloc ?_ (by first | omega | (simp [go_sem]; done) | (simp [go_sem]; omega)) _) | (refine Below.setCell ?_ (by first | omega | (simp [go_sem]; done) | (simp [go_sem]; omega)) _)))
      · have h1 : (s.take a k).1 = s := by
          revert he
          unfold Sess.take
          (repeat' split) <;> simp
        have H := sessTake_any s a k E
        rw [h1, errV_pos E _ he] at H
        have HT := Lib.hid H
        have HEN := Lib.hid he
        have HI := Lib.hid hinv
        clear H h1 he hinv
        go_wp2_with fail
        go_region_held3 (fun w' => w'.cell? ⟨w.heap.size + l1.length, 0, none⟩ = some (.bool s.on) ∧ w'.cell? ⟨w.heap.size + l1.length, 1, none⟩ = some (.int .i64 s.next) ∧ w'.cell? ⟨w.heap.size + l1.length, 2, none⟩ = some (.int .i64 s.last) ∧
            w'.cell? ⟨b, off + k * 8, none⟩ = some (.int .u8 a.kind) ∧ w'.cell? ⟨b, off + k * 8 + 1, none⟩ = some (.int .i64 a.client) ∧ w'.cell? ⟨b, off + k * 8 + 2, none⟩ = some (.int .i64 a.seq) ∧ w'.cell? ⟨b, off + k * 8 + 3, none⟩ = some (.int .i64 a.item) ∧
            w'.cell? ⟨b, off + k * 8 + 4, none⟩ = some (.int .i64 a.side) ∧ w'.cell? ⟨b, off + k * 8 + 5, none⟩ = some (.int .i64 a.price) ∧ w'.cell? ⟨b, off + k * 8 + 6, none⟩ = some (.int .i64 a.qty) ∧ w'.cell? ⟨b, off + k * 8 + 7, none⟩ = some (.int .i64 a.id))
          (first | exact ⟨c0, c1, c2, a0, a1, a2, a3, a4, a5, a6, a7⟩ | (simp [go_sem, ↓IntWalk.iteOmega, *]; done))
          (first | (go_at_call 28; refine (HT.out _ (by exact Errs.sub (hEr.ex (by repeat (first | exact Ex.refl _ | refine Ex.alloc ?_ _ | refine Ex.ext ?_ _ _ | refine Ex.drew ?_ | refine Ex.drewN ?_ _))) (by decide))).mono ?_; rintro e w1 ⟨rfl, l2, d2, rfl⟩))
        all_goals
          go_wp2
          obtain ⟨i1, i2, i3, i4⟩ := HI.out
          go_roundw
          case measure => simp [intOf]; omega
          case rel =>
            refine ⟨k + 1, m, s, by omega, by go_num, rfl, ⟨i1, by omega, i3, i4⟩, ?_, ?_, ?_, ?_, ?_, ?_, ?_, ?_⟩
            all_goals first
              | (simp [go_sem, ↓IntWalk.iteOmega, *]; done)
              | (simp [go_sem, ↓IntWalk.iteOmega, *]; omega)
              | (refine Below.trans hbl ?_; repeat (first | exact Below.refl _ _ | (refine Below.drew ?_) | (refine Below.drewN ?_ _) | (refine Below.ext ?_ (by first | omega | (simp [go_sem]; done) | (simp [go_sem]; omega)) _ _) | (refine Below.alloc ?_ (by first | omega | (simp [go_sem]; done) | (simp [go_sem]; omega)) _) | (refine Below.setCell ?_ (by first | omega | (simp [go_sem]; done) | (simp [go_sem]; omega)) _)))
    · obtain ⟨i1, i2, i3, i4⟩ := hinv
      by_cases hon : s.on = true
      · clear i3 i4
        go_wp2
        all_goals go_ret
        all_goals exact ⟨rfl, Ex.of hbl⟩
      · have hs := i4 (by simpa using hon)
        subst hs
        clear i3 i4 hon
        go_wp2
        all_goals go_ret
        all_goals exact ⟨rfl, Ex.of hbl⟩
end Go.Proofs.YthngmmhoakegeaaDoor
