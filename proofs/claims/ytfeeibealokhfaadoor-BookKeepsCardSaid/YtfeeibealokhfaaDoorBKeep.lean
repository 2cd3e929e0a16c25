/- The walk of BookKeeps. -/
import Derived.Test.YtfeeibealokhfaaDoorBKeepsL
import Derived.Test.YtfeeibealokhfaaDoorBooked
import Derived.Deep.CutBlock
import Derived.Deep.RegionHeld3
set_option linter.unusedSimpArgs false
set_option linter.unusedVariables false
namespace Go.Proofs.YtfeeibealokhfaaDoor
open Go.RowKit

set_option maxRecDepth 100000 in
set_option maxHeartbeats 4000000 in
theorem bookKeeps_in (ao : Option Addr) (len cap : Nat) (l : List BAct) (E : Nat → Addr) (w : World) (hE : Errs E [2, 6, 7, 8] w) (hA : BActsAt w ao len l) (hlen : len ≤ 100) :
    Calls Tryd.prog 10 #[.slice ao len cap] w fun e w' => e = .returned (.bool true) ∧ Below w.heap.size w w' := by
  obtain ⟨hL, _, hwf, hz⟩ := hA
  have HZ := Lib.hid hz
  have HL := Lib.hid hL
  have HWF := Lib.hid hwf
  have HEE := Lib.hid hE
  have HTP := Lib.hid (fun w h => booked_any w E h)
  have HND := Lib.hid (fun w => bookNew (fun _ => 0) 1 w)
  have d2 : decide ((100 : Int) < (len : Int)) = false := decide_eq_false (by omega)
  clear hz hL hwf hE
  go_enter Tryd.func10, Tryd.ntmps10
  go_upto_region 5 with (first
    | (go_at_call 25; refine (HTP.out _ HEE.out).mono ?_; rintro e wB ⟨rfl, hxB⟩)
    | (go_at_call 26; refine (HND.out _).mono ?_; rintro e wd ⟨rfl, hT⟩))
  have HX := Lib.hid hxB
  have hsw := hxB.below.size
  have HI0 := Lib.hid (bstart (own := fun _ => 0) hT)
  have HEB := Lib.hid (HEE.out.ex hxB)
  have hpd : wB.heap.size < wB.heap.size + 1 := Nat.lt_succ_self _
  clear hT hxB HND HTP
  generalize hp : wB.heap.size = p at HI0
  go_wp2_with fail
  go_loopw [5, 6, 7] (fun c f i wr => ∃ (k : Nat) (b : List Lot) (came left : Int), k ≤ len ∧ c = .int .i64 came ∧ f = .int .i64 left ∧ i = .int .i64 (k : Int) ∧ BInv wB p b wr ∧ KSum b came left k) (fun _ _ i _ => len - (intOf i).toNat)
  case atStart => exact ⟨0, [], 0, 0, Nat.zero_le _, rfl, rfl, rfl, HI0.out, KSum.start⟩
  case round =>
    obtain ⟨k, b, came, left, hk, rfl, rfl, rfl, hS, hks⟩ := hrel
    clear HI0
    by_cases hlt : k < len
    · obtain ⟨sb, so, rfl, hbs, hzz⟩ := HZ.out (by omega)
      have hzk := hzz k (by rw [HL.out]; exact hlt)
      clear hzz
      have hcx : ∀ j, j < 8 → wr.cell? ⟨sb, so + k * 8 + j, none⟩ = (l[k]'(by rw [HL.out]; exact hlt)).cells[j]? := fun j hj => (hS.2.1.cell (p := ⟨sb, so + k * 8 + j, none⟩) (by have := HX.out.below.size; show sb < _; omega)).trans ((HX.out.below.cell (p := ⟨sb, so + k * 8 + j, none⟩) hbs).trans (hzk j hj))
      have hwk := HWF.out (l[k]'(by rw [HL.out]; exact hlt)) (List.getElem_mem _)
      clear hzk
      generalize l[k]'(by rw [HL.out]; exact hlt) = a at hcx hwk
      have hbr : sb < wr.heap.size := by have := hS.2.2; omega
      have a0 := hcx 0 (by omega)
      have a1 := hcx 1 (by omega)
      have a2 := hcx 2 (by omega)
      have a3 := hcx 3 (by omega)
      have a4 := hcx 4 (by omega)
      have a5 := hcx 5 (by omega)
      have a6 := hcx 6 (by omega)
      have a7 := hcx 7 (by omega)
      simp only [BAct.cells, List.getElem?_cons_zero, List.getElem?_cons_succ, Nat.add_zero] at a0 a1 a2 a3 a4 a5 a6 a7
      have HMK := Lib.hid (hS.bw.make (a := a))
      have HKS := Lib.hid hks
      have hkb := hks.le
      have hkt := hks.top
      have hkp := hks.pos
      clear hcx hS hks
      go_upto_block 2 with fail
      refine wp_world (R := fun W => BX wB p wr.heap.size (.slice none 0 0) a [] b W) HMK.out ?_
      clear HMK a0 a1 a2 a3 a4 a5 a6 a7
      generalize wr.heap.size = bx at *
      rintro wa hxa
      have hbl := hxa.lt
      have HXA := Lib.hid hxa
      have hq := hxa.cells
      have c0 := hq 0 (by omega)
      have c1 := hq 1 (by omega)
      have c2 := hq 2 (by omega)
      have c3 := hq 3 (by omega)
      have c4 := hq 4 (by omega)
      have c5 := hq 5 (by omega)
      have c6 := hq 6 (by omega)
      have c7 := hq 7 (by omega)
      simp only [BAct.cells, List.getElem?_cons_zero, List.getElem?_cons_succ, Nat.add_zero] at c0 c1 c2 c3 c4 c5 c6 c7
      clear hxa hq
      have hq57 := HKS.out.ok
      have HT0 := Lib.hid (fun (x : Lot) (h : x ∈ b) => (Lot.ok_parts (hq57 x h)).2.2)
      clear hq57
      by_cases hadd : (a.kind.toList == [97, 100, 100]) = true
      · as_aux_lemma =>
        have H1 := Lib.hid (badd_r HXA.out hwk.2.1 E HEB.out)
        by_cases h0 : addE b a.l = 0
        · obtain ⟨hks', q1, q2⟩ := HKS.out.add a.l h0
          rw [h0, errV_zero] at H1
          have HK2 := Lib.hid hks'
          clear hks' h0
          generalize addL b a.l = b' at *
          go_wp2_with (go_at_call 28; refine (H1.out).mono ?_; rintro e w3 ⟨rfl, hx3⟩; have HX3 := Lib.hid hx3; have c4' := hx3.cells 5 (by omega); simp only [BAct.cells, List.getElem?_cons_zero, List.getElem?_cons_succ] at c4'; have hb3 := hx3.lt; clear hx3)
          all_goals
            go_roundw
            case measure => simp [intOf]; omega
            case rel => exact ⟨k + 1, b', _, _, by omega, rfl, rfl, by go_num, HX3.out.inv, HK2.out⟩
        · rw [errV_pos _ _ h0, add_stay h0] at H1
          clear h0
          go_wp2_with (go_at_call 28; refine (H1.out).mono ?_; rintro e w3 ⟨rfl, hx3⟩; have HX3 := Lib.hid hx3; clear hx3)
          all_goals
            go_roundw
            case measure => simp [intOf]; omega
            case rel => exact ⟨k + 1, b, _, _, by omega, rfl, rfl, by go_num, HX3.out.inv, HKS.out.more⟩
      · have hadd' : (a.kind.toList == [97, 100, 100]) = false := by simpa using hadd
        by_cases hcan : (a.kind.toList == [99, 97, 110, 99, 101, 108]) = true
        · as_aux_lemma =>
          have H1 := Lib.hid (bcancel_r HXA.out E HEB.out)
          by_cases h0 : (cancelR b a.id).2.1 = 0
          · obtain ⟨hks', q1, q2⟩ := HKS.out.cancel a.id h0
            rw [h0, errV_zero] at H1
            have HK2 := Lib.hid hks'
            have q3 := HK2.out.le
            have q4 := HK2.out.top
            clear hks' h0
            generalize (cancelR b a.id).2.2 = b' at *
            generalize (cancelR b a.id).1 = x at *
            go_wp2_with (go_at_call 29; refine (H1.out).mono ?_; rintro e w3 ⟨rfl, hx3⟩; have HX3 := Lib.hid hx3; have hb3 := hx3.lt; clear hx3)
            all_goals
              go_roundw
              case measure => simp [intOf]; omega
              case rel => exact ⟨k + 1, b', _, _, by omega, rfl, rfl, by go_num, HX3.out.inv.later (by repeat (first | exact Ex.refl _ | refine Ex.alloc ?_ _ | refine Ex.ext ?_ _ _ | refine Ex.drew ?_ | refine Ex.drewN ?_ _)), HK2.out⟩
          · rw [errV_pos _ _ h0, cancel_stay h0] at H1
            clear h0
            generalize (cancelR b a.id).1 = x at *
            go_wp2_with (go_at_call 29; refine (H1.out).mono ?_; rintro e w3 ⟨rfl, hx3⟩; have HX3 := Lib.hid hx3; have hb3 := hx3.lt; clear hx3)
            all_goals
              go_roundw
              case measure => simp [intOf]; omega
              case rel => exact ⟨k + 1, b, _, _, by omega, rfl, rfl, by go_num, HX3.out.inv.later (by repeat (first | exact Ex.refl _ | refine Ex.alloc ?_ _ | refine Ex.ext ?_ _ _ | refine Ex.drew ?_ | refine Ex.drewN ?_ _)), HKS.out.more⟩
        · have hcan' : (a.kind.toList == [99, 97, 110, 99, 101, 108]) = false := by simpa using hcan
          as_aux_lemma =>
          have H1 := Lib.hid (btake_r HXA.out E HEB.out)
          by_cases h0 : (takeR b a.id a.qty).1 = 0
          · obtain ⟨hks', q1, q2⟩ := HKS.out.take a.id a.qty h0
            rw [h0, errV_zero] at H1
            have HK2 := Lib.hid hks'
            have q3 := HK2.out.le
            have q4 := HK2.out.top
            clear hks' h0
            generalize (takeR b a.id a.qty).2 = b' at *
            go_wp2_with (go_at_call 30; refine (H1.out).mono ?_; rintro e w3 ⟨rfl, hx3⟩; have HX3 := Lib.hid hx3; have c4' := hx3.cells 7 (by omega); simp only [BAct.cells, List.getElem?_cons_zero, List.getElem?_cons_succ] at c4'; have hb3 := hx3.lt; clear hx3)
            all_goals
              go_roundw
              case measure => simp [intOf]; omega
              case rel => exact ⟨k + 1, b', _, _, by omega, rfl, rfl, by go_num, HX3.out.inv, HK2.out⟩
          · rw [errV_pos _ _ h0, take_stay h0] at H1
            clear h0
            go_wp2_with (go_at_call 30; refine (H1.out).mono ?_; rintro e w3 ⟨rfl, hx3⟩; have HX3 := Lib.hid hx3; clear hx3)
            all_goals
              go_roundw
              case measure => simp [intOf]; omega
              case rel => exact ⟨k + 1, b, _, _, by omega, rfl, rfl, by go_num, HX3.out.inv, HKS.out.more⟩
    · have HS0 := Lib.hid hS
      have HKS := Lib.hid hks
      have hkb := hks.le
      have hkt := hks.top
      have hkp := hks.pos
      have hsum := sumQ_bound hks.ok
      have hl60 : b.length ≤ 60 := by obtain ⟨⟨own, h1, _⟩, _⟩ := hS; exact h1.1
      have hce : (came == left + restS b 2) = true := by
        rw [show restS b 2 = sumQ b from rfl, ← hks.eq]; simp
      have hme : (manyS b 2 == (b.length : Int)) = true := by rw [show manyS b 2 = (b.length : Int) from rfl]; simp
      have hsb := restS_bound hks.ok hl60
      have HSB := Lib.hid hsb
      have hb2 := hsb 2
      clear hS hks hsb
      go_wp2_with fail
      go_loopw [11, 12, 13] (fun r m s wy => ∃ n : Nat, n ≤ 2 ∧ r = .int .i64 (restS b n) ∧ m = .int .i64 (manyS b n) ∧ s = .int .i64 (n : Int) ∧ BInv wB p b wy) (fun _ _ s _ => 2 - (intOf s).toNat)
      case atStart => exact ⟨0, Nat.zero_le _, rfl, rfl, rfl, HS0.out⟩
      case round =>
        obtain ⟨n, hn, rfl, rfl, rfl, hS1⟩ := hrel
        by_cases hn2 : n < 2
        · have hs01 : (n : Int) = 0 ∨ (n : Int) = 1 := by omega
          have HLV := Lib.hid (hS1.levels HKS.out.ok (n : Int) hs01)
          have HST := Lib.hid (restS_step HKS.out.ok hn2)
          have HB0 := Lib.hid (HSB.out n)
          have HB1 := Lib.hid (HSB.out (n + 1))
          have HPOS := Lib.hid (lvl_pos (side := (n : Int)) HKS.out.ok)
          have hlv := levels_len (n : Int) b HKS.out.ok
          have HSRT := Lib.hid (lv_sorted n b)
          generalize levelsB (n : Int) b = lv at *
          clear hS1
          go_wp2_with (go_at_call 48; refine (HLV.out).mono ?_; rintro e w4 ⟨⟨v, rfl, hrow⟩, hS2⟩)
          obtain ⟨av, capv, rfl, _, _, hlz⟩ := lvls_of_owned hrow
          have HLZ := Lib.hid hlz
          have HS2 := Lib.hid hS2
          clear hrow hlz hS2 HLV
          have hp1 := fun j => pre_le (f := Lvl.qty) (v := lv) (fun x hx => (HPOS.out x hx).1.1) j
          have hp2 := fun j => pre_le (f := Lvl.many) (v := lv) (fun x hx => (HPOS.out x hx).1.2) j
          have HP1 := Lib.hid hp1
          have HP2 := Lib.hid hp2
          clear hp1 hp2
          go_wp2_with fail
          go_loopw [11, 12, 15] (fun r m j wz => ∃ q : Nat, q ≤ lv.length ∧ r = .int .i64 (restS b n + pre Lvl.qty lv q) ∧ m = .int .i64 (manyS b n + pre Lvl.many lv q) ∧ j = .int .i64 (q : Int) ∧ Ex w4 wz) (fun _ _ j _ => lv.length - (intOf j).toNat)
          case atStart => exact ⟨0, Nat.zero_le _, by rw [pre_zero, Int.add_zero], by rw [pre_zero, Int.add_zero], rfl, Ex.refl _⟩
          case round =>
            obtain ⟨q, hq, rfl, rfl, rfl, l5, d5, rfl⟩ := hrel
            have k1 := HB0.out
            have k2 := HB1.out
            rw [← HST.out.1, ← HST.out.2] at k2
            by_cases hql : q < lv.length
            · obtain ⟨gb, go, rfl, hgb, hcn⟩ := HLZ.out (by omega)
              have y0 := hcn q hql 0 (by omega)
              have y1 := hcn q hql 1 (by omega)
              have y2 := hcn q hql 2 (by omega)
              simp only [Lvl.cells, List.getElem?_cons_zero, List.getElem?_cons_succ, Nat.add_zero] at y0 y1 y2
              have HS1 := Lib.hid (pre_succ Lvl.qty hql)
              have HS3 := Lib.hid (pre_succ Lvl.many hql)
              have k3 := HP1.out q
              have k4 := HP2.out q
              have k5 := HP1.out (q + 1)
              have k6 := HP2.out (q + 1)
              rw [HS1.out] at k5
              rw [HS3.out] at k6
              by_cases hq0 : q = 0
              · have t5 : decide (0 < (q : Int)) = false := decide_eq_false (by omega)
                have t6 : decide (0 < q) = false := decide_eq_false (by omega)
                generalize pre Lvl.qty lv q = P at *
                generalize pre Lvl.many lv q = M at *
                generalize lv[q] = x at *
                clear hcn hq0
                as_aux_lemma =>
                go_wp2_with fail
                go_quiet (fail)
                all_goals go_wp2
                all_goals
                  go_roundw
                  case measure => simp [intOf]; omega
                  case rel => exact ⟨q + 1, by omega, by rw [HS1.out, Int.add_assoc], by rw [HS3.out, Int.add_assoc], by go_num, (by repeat (first | exact Ex.refl _ | refine Ex.alloc ?_ _ | refine Ex.ext ?_ _ _ | refine Ex.drew ?_ | refine Ex.drewN ?_ _))⟩
              · obtain ⟨m, rfl⟩ : ∃ m, q = m + 1 := ⟨q - 1, by omega⟩
                have t5 : decide (0 < ((m + 1 : Nat) : Int)) = true := decide_eq_true (by omega)
                have t6 : decide (0 < m + 1) = true := decide_eq_true (by omega)
                have t7 : decide (0 < (m : Int) + 1) = true := decide_eq_true (by omega)
                have hcl : ((m + 1 : Nat) : Int) - 1 = (m : Int) := by omega
                have z0 := hcn m (by omega) 0 (by omega)
                simp only [Lvl.cells, List.getElem?_cons_zero, Nat.add_zero] at z0
                have hst := HSRT.out m
                clear hcn
                rcases (by omega : n = 0 ∨ n = 1) with hn0 | hn1
                · have t1 : ((n : Int) == 0) = true := by simp; omega
                  have t2 : ((n : Int) == 1) = false := by simp; omega
                  have t3 : decide (lv[m].price ≤ lv[m + 1].price) = false := decide_eq_false (by have := hst.1 hn0 hql; omega)
                  generalize pre Lvl.qty lv (m + 1) = P at *
                  generalize pre Lvl.many lv (m + 1) = M at *
                  clear hst hn0
                  generalize lv[m + 1] = x at *
                  generalize lv[m] = z at *
                  as_aux_lemma =>
                  go_wp2_with fail
                  go_quiet (fail)
                  all_goals go_wp2
                  all_goals
                    go_roundw
                    case measure => simp [intOf]; omega
                    case rel => exact ⟨m + 2, by omega, by rw [HS1.out, Int.add_assoc], by rw [HS3.out, Int.add_assoc], by go_num, (by repeat (first | exact Ex.refl _ | refine Ex.alloc ?_ _ | refine Ex.ext ?_ _ _ | refine Ex.drew ?_ | refine Ex.drewN ?_ _))⟩
                · have t1 : ((n : Int) == 0) = false := by simp; omega
                  have t2 : ((n : Int) == 1) = true := by simp; omega
                  have t3 : decide (lv[m + 1].price ≤ lv[m].price) = false := decide_eq_false (by have := hst.2 hn1 hql; omega)
                  generalize pre Lvl.qty lv (m + 1) = P at *
                  generalize pre Lvl.many lv (m + 1) = M at *
                  clear hst hn1
                  generalize lv[m + 1] = x at *
                  generalize lv[m] = z at *
                  as_aux_lemma =>
                  go_wp2_with fail
                  go_quiet (fail)
                  all_goals go_wp2
                  all_goals
                    go_roundw
                    case measure => simp [intOf]; omega
                    case rel => exact ⟨m + 2, by omega, by rw [HS1.out, Int.add_assoc], by rw [HS3.out, Int.add_assoc], by go_num, (by repeat (first | exact Ex.refl _ | refine Ex.alloc ?_ _ | refine Ex.ext ?_ _ _ | refine Ex.drew ?_ | refine Ex.drewN ?_ _))⟩
            · obtain rfl : q = lv.length := by omega
              have HA1 : Hid (restS b n + pre Lvl.qty lv lv.length = restS b (n + 1)) := Lib.hid (by rw [pre_all, HST.out.1])
              have HA2 : Hid (manyS b n + pre Lvl.many lv lv.length = manyS b (n + 1)) := Lib.hid (by rw [pre_all, HST.out.2])
              clear k1 k2
              go_wp2_with fail
              go_roundw
              case measure => simp [intOf]; omega
              case rel => exact ⟨n + 1, by omega, by rw [HA1.out], by rw [HA2.out], by go_num, HS2.out.later (by repeat (first | exact Ex.refl _ | refine Ex.alloc ?_ _ | refine Ex.ext ?_ _ _ | refine Ex.drew ?_ | refine Ex.drewN ?_ _))⟩
        · obtain rfl : n = 2 := by omega
          have HLO := Lib.hid hS1.lotsOf
          have HS1 := Lib.hid hS1
          clear hS1
          go_wp2_with (go_at_call 27; refine (HLO.out).mono ?_; rintro e w4 ⟨⟨av, capv, rfl⟩, hx4⟩)
          all_goals go_ret
          all_goals exact ⟨rfl, (HX.out.trans (Ex.of (HS1.out.later hx4).2.1)).below⟩
end Go.Proofs.YtfeeibealokhfaaDoor
