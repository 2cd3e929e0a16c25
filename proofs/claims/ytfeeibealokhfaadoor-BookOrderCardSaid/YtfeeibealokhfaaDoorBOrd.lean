/- The walk of BookOrder. -/
import Derived.Test.YtfeeibealokhfaaDoorBX
import Derived.Test.YtfeeibealokhfaaDoorBooked
import Derived.Deep.CutBlock
import Derived.Deep.RegionHeld3
set_option linter.unusedSimpArgs false
set_option linter.unusedVariables false
namespace Go.Proofs.YtfeeibealokhfaaDoor
open Go.RowKit

theorem BX.lots {wB : World} {p bx : Nat} {v : Value} {a : BAct} {was l : List Lot} {wr : World} (h : BX wB p bx v a was l wr) : Calls Tryd.prog 27 #[.pointer (some ⟨p, 0, none⟩)] wr fun e w' => ∃ u, e = .returned u ∧ (∃ base, LotsRow base l u w') ∧ BX wB p bx v a was l w' := by
  have h' := h
  obtain ⟨⟨own, h1, _⟩, _⟩ := h'
  exact (lots_any h1).mono fun e w' ⟨⟨u, e1, hrow⟩, hx⟩ => ⟨u, e1, ⟨_, hrow⟩, h.later hx⟩
set_option maxRecDepth 100000 in
set_option maxHeartbeats 4000000 in
theorem bookOrder_in (ao : Option Addr) (len cap : Nat) (l : List BAct) (E : Nat → Addr) (w : World) (hE : Errs E [2, 6, 7, 8] w) (hA : BActsAt w ao len l) (hlen : len ≤ 100) :
    Calls Tryd.prog 5 #[.slice ao len cap] w fun e w' => e = .returned (.bool true) ∧ Below w.heap.size w w' := by
  obtain ⟨hL, _, hwf, hz⟩ := hA
  have HZ := Lib.hid hz
  have HL := Lib.hid hL
  have HWF := Lib.hid hwf
  have HEE := Lib.hid hE
  have HTP := Lib.hid (fun w h => booked_any w E h)
  have HND := Lib.hid (fun w => bookNew (fun _ => 0) 1 w)
  have d2 : decide ((100 : Int) < (len : Int)) = false := decide_eq_false (by omega)
  clear hz hL hwf hE
  go_enter Tryd.func5, Tryd.ntmps5
  go_upto_region 5 with (first
    | (go_at_call 25; refine (HTP.out _ HEE.out).mono ?_; rintro e wB ⟨rfl, hxB⟩)
    | (go_at_call 26; refine (HND.out _).mono ?_; rintro e wd ⟨rfl, hT⟩))
  have HX := Lib.hid hxB
  have hsw := hxB.below.size
  have HI0 := Lib.hid (bstart (own := fun _ => 0) hT)
  have HEB := Lib.hid (HEE.out.ex hxB)
  have hpd : wB.heap.size < wB.heap.size + 1 := Nat.lt_succ_self _
  clear hT hxB HND HTP
  generalize hp : wB.heap.size = p at HI0
  go_wp2_with fail
  go_loopw [5] (fun i wr => ∃ (k : Nat) (b : List Lot), k ≤ len ∧ i = .int .i64 (k : Int) ∧ BInv wB p b wr ∧ Ids b) (fun i _ => len - (intOf i).toNat)
  case atStart => exact ⟨0, [], Nat.zero_le _, rfl, HI0.out, List.Pairwise.nil⟩
  case round =>
    obtain ⟨k, b, hk, rfl, hS, hids⟩ := hrel
    clear HI0
    by_cases hlt : k < len
    · obtain ⟨sb, so, rfl, hbs, hzz⟩ := HZ.out (by omega)
      have hzk := hzz k (by rw [HL.out]; exact hlt)
      clear hzz
      have hcx : ∀ j, j < 8 → wB.cell? ⟨sb, so + k * 8 + j, none⟩ = (l[k]'(by rw [HL.out]; exact hlt)).cells[j]? := fun j hj => ((HX.out.below.cell (p := ⟨sb, so + k * 8 + j, none⟩) hbs)).trans (hzk j hj)
      have hwk := HWF.out (l[k]'(by rw [HL.out]; exact hlt)) (List.getElem_mem _)
      clear hzk
      generalize l[k]'(by rw [HL.out]; exact hlt) = a at hcx hwk
      have hbr : sb < wr.heap.size := by have := hS.2.2; omega
      have H1 := Lib.hid (hS.lots)
      have HCX := Lib.hid hcx
      have hl60 : b.length ≤ 60 := by obtain ⟨⟨own, h1, _⟩, _⟩ := hS; exact h1.1
      have hbw : ∀ x ∈ b, x.wf := by obtain ⟨⟨own, h1, _⟩, _⟩ := hS; exact h1.2.1
      clear hcx hS
      go_upto_region 11 with (go_at_call 27; refine (H1.out).mono ?_; rintro e w2 ⟨v, rfl, hw2⟩)
      obtain ⟨base, hrow⟩ := hw2.2.1
      obtain ⟨aw, capw, rfl, _, _, _⟩ := lots_of_owned hbw (by omega) hrow
      have hcy : ∀ j, j < 8 → w2.cell? ⟨sb, so + k * 8 + j, none⟩ = a.cells[j]? := fun j hj => (hw2.2.2.1.cell (p := ⟨sb, so + k * 8 + j, none⟩) (by show sb < _; omega)).trans (HCX.out j hj)
      have a0 := hcy 0 (by omega)
      have a1 := hcy 1 (by omega)
      have a2 := hcy 2 (by omega)
      have a3 := hcy 3 (by omega)
      have a4 := hcy 4 (by omega)
      have a5 := hcy 5 (by omega)
      have a6 := hcy 6 (by omega)
      have a7 := hcy 7 (by omega)
      simp only [BAct.cells, List.getElem?_cons_zero, List.getElem?_cons_succ, Nat.add_zero] at a0 a1 a2 a3 a4 a5 a6 a7
      have hbr2 : sb < w2.heap.size := by have := hw2.2.2.2; omega
      have HMK := Lib.hid (hw2.make (a := a))
      clear hcy hw2 hrow H1 HCX
      go_upto_block 2 with fail
      refine wp_world (R := fun W => BX wB p w2.heap.size (.slice aw b.length capw) a b b W) HMK.out ?_
      clear HMK a0 a1 a2 a3 a4 a5 a6 a7
      generalize w2.heap.size = bx at *
      rintro wa hxa
      have hbl := hxa.lt
      have HXA := Lib.hid hxa
      have HIDS := Lib.hid hids
      have hq := hxa.cells
      have c0 := hq 0 (by omega)
      have c1 := hq 1 (by omega)
      have c2 := hq 2 (by omega)
      have c3 := hq 3 (by omega)
      have c4 := hq 4 (by omega)
      have c5 := hq 5 (by omega)
      have c6 := hq 6 (by omega)
      have c7 := hq 7 (by omega)
      simp only [BAct.cells, List.getElem?_cons_zero, List.getElem?_cons_succ, Nat.add_zero] at c0 c1 c2 c3 c4 c5 c6 c7
      clear hxa hq hids
      go_cut [] (fun wx => ∃ b' e, BX wB p bx (.slice aw b.length capw) a b b' wx ∧ Goes b b' e)
      case first =>
        have G1 := Lib.hid (add_goes HIDS.out a.l)
        have G2 := Lib.hid (cancel_goes HIDS.out a.id)
        have G3 := Lib.hid (take_goes HIDS.out a.id a.qty)
        by_cases hadd : (a.kind.toList == [97, 100, 100]) = true
        · as_aux_lemma =>
          have H1 := Lib.hid (badd_x HXA.out hwk.2.1 E HEB.out)
          go_wp2_with (go_at_call 28; refine (H1.out).mono ?_; rintro e w3 ⟨⟨u, rfl⟩, hx3⟩)
          all_goals
            go_meet
            case rel => obtain ⟨e, he⟩ := G1.out; exact ⟨_, e, hx3, he⟩
        · have hadd' : (a.kind.toList == [97, 100, 100]) = false := by simpa using hadd
          by_cases hcan : (a.kind.toList == [99, 97, 110, 99, 101, 108]) = true
          · as_aux_lemma =>
            have H1 := Lib.hid (bcancel_x HXA.out E HEB.out)
            go_wp2_with (go_at_call 29; refine (H1.out).mono ?_; rintro e w3 ⟨⟨u, u', rfl⟩, hx3⟩)
            all_goals
              go_meet
              case rel => obtain ⟨e, he⟩ := G2.out; exact ⟨_, e, hx3, he⟩
          · have hcan' : (a.kind.toList == [99, 97, 110, 99, 101, 108]) = false := by simpa using hcan
            as_aux_lemma =>
            have H1 := Lib.hid (btake_x HXA.out E HEB.out)
            go_wp2_with (go_at_call 30; refine (H1.out).mono ?_; rintro e w3 ⟨⟨u, rfl⟩, hx3⟩)
            all_goals
              go_meet
              case rel => obtain ⟨e, he⟩ := G3.out; exact ⟨_, e, hx3, he⟩
      case rest =>
        obtain ⟨b', e, hx3, hgo⟩ := hcut
        have H2 := Lib.hid hx3.lots
        have hfb : b'.length ≤ 60 ∧ ∀ x ∈ b', x.wf := by obtain ⟨⟨own, h1, _⟩, _⟩ := hx3; exact ⟨h1.1, h1.2.1⟩
        obtain ⟨hl60', hbw'⟩ := hfb
        clear hx3 HXA HIDS c0 c1 c2 c3 c4 c5 c6 c7
        go_upto_region 19 with (go_at_call 27; refine (H2.out).mono ?_; rintro e w4 ⟨v, rfl, ⟨base2, hrow2⟩, hx4⟩)
        obtain ⟨base, hrow⟩ := hx4.row
        obtain ⟨an, capn, rfl, _, _, hln⟩ := lots_of_owned hbw' (by omega) hrow2
        obtain ⟨aw', capw', hv, _, _, hlw⟩ := lots_of_owned hbw (by omega) hrow
        obtain ⟨rfl, rfl⟩ : aw = aw' ∧ capw = capw' := by cases hv; exact ⟨rfl, rfl⟩
        obtain ⟨_, _, _, hnz⟩ := hln
        obtain ⟨_, _, _, hwz⟩ := hlw
        have HNZ := Lib.hid hnz
        have HWZ := Lib.hid hwz
        have HGO := Lib.hid hgo
        have HX4 := Lib.hid hx4
        obtain ⟨n1, n2, n3, n4⟩ := hgo.ends
        have t1 : decide ((b.length : Int) + 1 < (b'.length : Int)) = false := decide_eq_false (by omega)
        have t2 : decide ((b'.length : Int) + 1 < (b.length : Int)) = false := decide_eq_false (by omega)
        clear hrow2 hrow hv hnz hwz hgo hx4 H2
        go_wp2_with fail
        go_loopw [9, 10, 11] (fun c g i wy => ∃ j : Nat, j ≤ b.length ∧ c = .int .i64 (metK e j : Nat) ∧ g = .int .i64 (j - metK e j : Nat) ∧ i = .int .i64 (j : Int) ∧ Ex w4 wy) (fun _ _ i _ => b.length - (intOf i).toNat)
        case atStart => exact ⟨0, Nat.zero_le _, by simp [metK], by simp [metK], rfl, Ex.refl _⟩
        case round =>
          obtain ⟨j, hj, rfl, rfl, rfl, l5, d5, rfl⟩ := hrel
          by_cases hjl : j < b.length
          · obtain ⟨bb, bo, rfl, hbb, hcw⟩ := HWZ.out (by omega)
            have x0 := hcw j hjl 0 (by omega)
            have x1 := hcw j hjl 1 (by omega)
            have x3 := hcw j hjl 3 (by omega)
            have x4 := hcw j hjl 4 (by omega)
            simp only [Lot.cells, List.getElem?_cons_zero, List.getElem?_cons_succ, Nat.add_zero] at x0 x1 x3 x4
            by_cases hje : j = e
            · as_aux_lemma =>
              subst hje
              obtain ⟨m1, m2, m3⟩ := HGO.out.miss hjl
              by_cases hin : j < b'.length
              · obtain ⟨gb, go, rfl, hgb, hcn⟩ := HNZ.out (by omega)
                have y0 := hcn j hin 0 (by omega)
                simp only [Lot.cells, List.getElem?_cons_zero, Nat.add_zero] at y0
                have r1 := m3 hin
                generalize b'[j] = y at *
                generalize b[j] = x at *
                rw [m1]
                clear hcw hcn
                go_wp2_with fail
                go_quiet (fail)
                all_goals go_wp2
                all_goals
                  go_roundw
                  case measure => simp [intOf]; omega
                  case rel => exact ⟨j + 1, by omega, by rw [m2], by rw [m2]; go_num, by go_num, (by repeat (first | exact Ex.refl _ | refine Ex.alloc ?_ _ | refine Ex.ext ?_ _ _ | refine Ex.drew ?_ | refine Ex.drewN ?_ _))⟩
              · have r1 : decide ((j : Int) < (b'.length : Int)) = false := decide_eq_false (by omega)
                rw [m1]
                clear hcw
                go_wp2_with fail
                go_quiet (fail)
                all_goals go_wp2
                all_goals
                  go_roundw
                  case measure => simp [intOf]; omega
                  case rel => exact ⟨j + 1, by omega, by rw [m2], by rw [m2]; go_num, by go_num, (by repeat (first | exact Ex.refl _ | refine Ex.alloc ?_ _ | refine Ex.ext ?_ _ _ | refine Ex.drew ?_ | refine Ex.drewN ?_ _))⟩
            · as_aux_lemma =>
              obtain ⟨hin, ⟨s1, s2, s3, s4⟩, m2⟩ := HGO.out.met hjl hje
              have hle : metK e j ≤ j := by unfold metK; split <;> omega
              generalize metK e j = c at *
              obtain ⟨gb, go, rfl, hgb, hcn⟩ := HNZ.out (by omega)
              have y0 := hcn c hin 0 (by omega)
              have y1 := hcn c hin 1 (by omega)
              have y3 := hcn c hin 3 (by omega)
              have y4 := hcn c hin 4 (by omega)
              simp only [Lot.cells, List.getElem?_cons_zero, List.getElem?_cons_succ, Nat.add_zero] at y0 y1 y3 y4
              have r1 : (b'[c].id == b[j].id) = true := by simp [s1]
              have r2 : decide (b[j].qty < b'[c].qty) = false := decide_eq_false (by omega)
              have r3 : (b'[c].price != b[j].price) = false := by simp [s3]
              have r4 : (b'[c].owner != b[j].owner) = false := by simp [s4]
              clear s1 s2 s3 s4 hcw hcn
              generalize b'[c] = y at *
              generalize b[j] = x at *
              go_wp2_with fail
              go_quiet (fail)
              all_goals go_wp2_with fail
              go_quiet (fail)
              all_goals go_wp2
              all_goals
                go_roundw
                case measure => simp [intOf]; omega
                case rel => exact ⟨j + 1, by omega, by rw [m2]; go_num, by rw [m2, Nat.add_sub_add_right], by go_num, (by repeat (first | exact Ex.refl _ | refine Ex.alloc ?_ _ | refine Ex.ext ?_ _ _ | refine Ex.drew ?_ | refine Ex.drewN ?_ _))⟩
          · obtain rfl : j = b.length := by omega
            generalize metK e b.length = K at *
            have t3 : decide ((1 : Int) < ((b.length - K : Nat) : Int)) = false := decide_eq_false (by omega)
            have t4 : decide ((1 : Int) < (b'.length : Int) - (K : Int)) = false := decide_eq_false (by omega)
            go_wp2_with fail
            go_loopw [12] (fun i wz => ∃ q : Nat, q ≤ K ∧ i = .int .i64 (q : Int) ∧ Ex w4 wz) (fun i _ => K - (intOf i).toNat)
            case atStart => exact ⟨0, Nat.zero_le _, rfl, (by repeat (first | exact Ex.refl _ | refine Ex.alloc ?_ _ | refine Ex.ext ?_ _ _ | refine Ex.drew ?_ | refine Ex.drewN ?_ _))⟩
            case round =>
              obtain ⟨q, hq, rfl, l6, d6, rfl⟩ := hrel
              by_cases hqk : q < K
              · as_aux_lemma =>
                have hin : q < b'.length := by omega
                obtain ⟨gb, go, rfl, hgb, hcn⟩ := HNZ.out (by omega)
                obtain ⟨m, hm⟩ : ∃ m, b'.length = m + 1 := ⟨b'.length - 1, by omega⟩
                have y0 := hcn q hin 0 (by omega)
                have z0 := hcn m (by omega) 0 (by omega)
                simp only [Lot.cells, List.getElem?_cons_zero, Nat.add_zero] at y0 z0
                have hcl : ((m + 1 : Nat) : Int) - 1 = (m : Int) := by omega
                by_cases hql : q = m
                · subst hql
                  have r2 : ((q : Int) != (q : Int)) = false := by simp
                  have r1 : (b'[q].id == b'[q].id) = true := by simp
                  generalize b'[q] = y at *
                  clear hcn HNZ HWZ
                  rw [hm]
                  go_wp2_with fail
                  go_quiet (fail)
                  all_goals go_wp2
                  all_goals
                    go_roundw
                    case measure => simp [intOf]; omega
                    case rel => exact ⟨q + 1, by omega, by go_num, (by repeat (first | exact Ex.refl _ | refine Ex.alloc ?_ _ | refine Ex.ext ?_ _ _ | refine Ex.drew ?_ | refine Ex.drewN ?_ _))⟩
                · have r1 : (b'[q].id == b'[m].id) = false := by
                    have := (List.pairwise_iff_getElem.1 HGO.out.ids) q m hin (by omega) (by omega)
                    simpa using this
                  generalize b'[q] = y at *
                  generalize b'[m] = z at *
                  clear hcn HNZ HWZ
                  rw [hm]
                  go_wp2_with fail
                  go_quiet (fail)
                  all_goals go_wp2
                  all_goals
                    go_roundw
                    case measure => simp [intOf]; omega
                    case rel => exact ⟨q + 1, by omega, by go_num, (by repeat (first | exact Ex.refl _ | refine Ex.alloc ?_ _ | refine Ex.ext ?_ _ _ | refine Ex.drew ?_ | refine Ex.drewN ?_ _))⟩
              · obtain rfl : q = K := by omega
                go_wp2_with fail
                go_roundw
                case measure => simp [intOf]; omega
                case rel => exact ⟨k + 1, b', by omega, by go_num, HX4.out.inv.later (by repeat (first | exact Ex.refl _ | refine Ex.alloc ?_ _ | refine Ex.ext ?_ _ _ | refine Ex.drew ?_ | refine Ex.drewN ?_ _)), HGO.out.ids⟩
    · go_wp2_with fail
      all_goals go_ret
      all_goals exact ⟨rfl, (HX.out.trans (Ex.of hS.2.1)).below⟩
end Go.Proofs.YtfeeibealokhfaaDoor
