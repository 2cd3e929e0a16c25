/- The walk of BookActs. -/
import Derived.Test.YtfeeibealokhfaaDoorBFin
import Derived.Deep.CutBlock
import Derived.Deep.RegionHeld3
set_option linter.unusedSimpArgs false
set_option linter.unusedVariables false
namespace Go.Proofs.YtfeeibealokhfaaDoor
open Go.RowKit

set_option maxRecDepth 100000 in
set_option maxHeartbeats 8000000 in
theorem bookActs_in (ao : Option Addr) (len cap : Nat) (l : List BAct) (n0 : Int) (E : Nat → Addr) (w : World) (hR : CodeReady E w) (hA : BActsAt w ao len l) (hlen : len ≤ 100) :
    Calls Tryd.prog 11 #[.slice ao len cap, .int .i64 n0] w fun e w' => e = .returned (.bool true) ∧ Below w.heap.size w w' := by
  obtain ⟨hL, _, hwf, hz⟩ := hA
  have HZ := Lib.hid hz
  have HL := Lib.hid hL
  have HWF := Lib.hid hwf
  have HEE := Lib.hid (Errs.sub hR.1 (by decide) : Errs E [2, 6, 7, 8] w)
  have HR0 := Lib.hid hR
  have HTP := Lib.hid (fun w h => booked_any w E h)
  have HND := Lib.hid (fun w => bookNew (fun _ => 0) 1 w)
  have d2 : decide ((100 : Int) < (len : Int)) = false := decide_eq_false (by omega)
  clear hz hL hwf hR
  go_enter Tryd.func11, Tryd.ntmps11
  go_upto_region 5 with (first
    | (go_at_call 25; refine (HTP.out _ HEE.out).mono ?_; rintro e wB ⟨rfl, hxB⟩)
    | (go_at_call 26; refine (HND.out _).mono ?_; rintro e wd ⟨rfl, hT⟩))
  have HX := Lib.hid hxB
  have hsw := hxB.below.size
  have HI0 := Lib.hid (bstart (own := fun _ => 0) hT)
  have HER := Lib.hid (HR0.out.ex hxB)
  have hpd : wB.heap.size < wB.heap.size + 1 := Nat.lt_succ_self _
  clear hT hxB HND HTP HR0 HEE
  generalize hp : wB.heap.size = p at HI0
  go_upto_region 8 with fail
  refine wp_world (R := fun W => MInv wB p wd.heap.size [] [] W) (minv_start HI0.out _) ?_
  clear HI0
  generalize wd.heap.size = m at *
  rintro wi hinv
  have HV0 := Lib.hid hinv
  clear hinv
  go_wp2_with fail
  go_loopw [8] (fun i wr => ∃ (k : Nat) (b : List Lot), k ≤ len ∧ i = .int .i64 (k : Int) ∧ MInv wB p m b b wr ∧ AllOk b) (fun i _ => len - (intOf i).toNat)
  case atStart => exact ⟨0, [], Nat.zero_le _, rfl, HV0.out, fun x hx => by cases hx⟩
  case round =>
    obtain ⟨k, b, hk, rfl, hS, hok⟩ := hrel
    clear HV0
    by_cases hlt : k < len
    · obtain ⟨sb, so, rfl, hbs, hzz⟩ := HZ.out (by omega)
      have hzk := hzz k (by rw [HL.out]; exact hlt)
      clear hzz
      have hcx : ∀ j, j < 8 → wr.cell? ⟨sb, so + k * 8 + j, none⟩ = (l[k]'(by rw [HL.out]; exact hlt)).cells[j]? := fun j hj => (hS.2.2.cell (p := ⟨sb, so + k * 8 + j, none⟩) (by have := HX.out.below.size; show sb < _; omega)).trans ((HX.out.below.cell (p := ⟨sb, so + k * 8 + j, none⟩) hbs).trans (hzk j hj))
      have hwk := HWF.out (l[k]'(by rw [HL.out]; exact hlt)) (List.getElem_mem _)
      clear hzk
      generalize l[k]'(by rw [HL.out]; exact hlt) = a at hcx hwk
      have hbr : sb < wr.heap.size := by have := hS.2.1; omega
      have a0 := hcx 0 (by omega)
      have a1 := hcx 1 (by omega)
      have a2 := hcx 2 (by omega)
      have a3 := hcx 3 (by omega)
      have a4 := hcx 4 (by omega)
      have a5 := hcx 5 (by omega)
      have a6 := hcx 6 (by omega)
      have a7 := hcx 7 (by omega)
      simp only [BAct.cells, List.getElem?_cons_zero, List.getElem?_cons_succ, Nat.add_zero] at a0 a1 a2 a3 a4 a5 a6 a7
      have HMK := Lib.hid (hS.make (a := a))
      have HOK := Lib.hid hok
      clear hcx hS hok
      go_upto_block 2 with fail
      refine wp_world (R := fun W => MX wB p m wr.heap.size a b b W) HMK.out ?_
      clear HMK a0 a1 a2 a3 a4 a5 a6 a7
      generalize wr.heap.size = bx at *
      rintro wa hxa
      have hbl := hxa.lt
      have c0 := hxa.cells.1
      obtain ⟨_, d1, d2', d3, d4, d5, d6, d7⟩ := hxa.cells
      have HXA := Lib.hid hxa
      have HC := Lib.hid (fun c w hr h => coded_same c E w hr h)
      clear hxa
      go_cut [] (fun wx => ∃ b', MX wB p m bx a b' b' wx ∧ AllOk b')
      case first =>
        have HX := HXA
        by_cases hadd : (a.kind.toList == [97, 100, 100]) = true
        · as_aux_lemma =>
          have H1 := Lib.hid (fun W h => xadd (w0 := wB) (p := p) (m := m) (bx := bx) (a := a) (b := b) (c := b) HER.out hwk.2.1 W h)
          have H2 := Lib.hid (fun W h => ymadd (w0 := wB) (p := p) (m := m) (bx := bx) (a := a) (b := addL b a.l) (c := b) hwk.2.1 W h)
          have hle := addE_le b a.l
          have HO2 := Lib.hid (HOK.out.add a.l)
          generalize addE b a.l = c at *
          generalize addL b a.l = b' at *
          clear d1 d2' d3 d4 d5 d6 d7
          go_upto_region 16 with fail
          go_region_held3 (fun W => W.cell? ⟨bx, 0, none⟩ = some (.string a.kind) ∧ W.cell? ⟨bx, 1, none⟩ = some (.int .i64 a.l.id) ∧ W.cell? ⟨bx, 2, none⟩ = some (.int .i64 a.l.owner) ∧ W.cell? ⟨bx, 3, none⟩ = some (.int .i64 a.l.side) ∧ W.cell? ⟨bx, 4, none⟩ = some (.int .i64 a.l.price) ∧ W.cell? ⟨bx, 5, none⟩ = some (.int .i64 a.l.qty) ∧ W.cell? ⟨bx, 6, none⟩ = some (.int .i64 a.id) ∧ W.cell? ⟨bx, 7, none⟩ = some (.int .i64 a.qty)) ((first | exact (HX3.out.later (by repeat (first | exact Ex.refl _ | refine Ex.alloc ?_ _ | refine Ex.ext ?_ _ _ | refine Ex.drew ?_ | refine Ex.drewN ?_ _))).cells | exact (HX2.out.later (by repeat (first | exact Ex.refl _ | refine Ex.alloc ?_ _ | refine Ex.ext ?_ _ _ | refine Ex.drew ?_ | refine Ex.drewN ?_ _))).cells | exact (HX.out.later (by repeat (first | exact Ex.refl _ | refine Ex.alloc ?_ _ | refine Ex.ext ?_ _ _ | refine Ex.drew ?_ | refine Ex.drewN ?_ _))).cells)) ((first
            | (go_at_call 28; (with_reducible refine (H1.out _ ?_).mono ?_); (focus (exact HX.out.later (by repeat (first | exact Ex.refl _ | refine Ex.alloc ?_ _ | refine Ex.ext ?_ _ _ | refine Ex.drew ?_ | refine Ex.drewN ?_ _)))); rintro e w2 ⟨rfl, hx2⟩; have HX2 := Lib.hid hx2; clear hx2)
            | (go_at_call 49; (with_reducible refine (H2.out _ ?_).mono ?_); (focus (exact HX2.out.later (by repeat (first | exact Ex.refl _ | refine Ex.alloc ?_ _ | refine Ex.ext ?_ _ _ | refine Ex.drew ?_ | refine Ex.drewN ?_ _)))); rintro e w3 ⟨rfl, hx3⟩; have HX3 := Lib.hid hx3; clear hx3)
            | (go_at_call 42; (with_reducible refine (HC.out _ _ ?_ ?_).mono ?_); (focus (exact (HX3.out.later (by repeat (first | exact Ex.refl _ | refine Ex.alloc ?_ _ | refine Ex.ext ?_ _ _ | refine Ex.drew ?_ | refine Ex.drewN ?_ _))).ready HER.out)); (focus (exact hle)); rintro e w4 ⟨rfl, l4, d4, rfl⟩)))
          all_goals go_wp2_with fail
          all_goals
            go_meet
            case rel => exact ⟨b', HX3.out.later (by repeat (first | exact Ex.refl _ | refine Ex.alloc ?_ _ | refine Ex.ext ?_ _ _ | refine Ex.drew ?_ | refine Ex.drewN ?_ _)), HO2.out⟩
        · have hadd' : (a.kind.toList == [97, 100, 100]) = false := by simpa using hadd
          by_cases hcan : (a.kind.toList == [99, 97, 110, 99, 101, 108]) = true
          · as_aux_lemma =>
            have H1 := Lib.hid (xcancel (w0 := wB) (p := p) (m := m) (bx := bx) (a := a) (b := b) (c := b) HER.out wa HX.out)
            have H2 := Lib.hid (fun (W : World) (h : MX wB p m bx a (cancelR b a.id).2.2 b W) cs t => ymcancel_box h cs t)
            have hle := cancelE_le b a.id
            have HO2 := Lib.hid (HOK.out.cancel a.id)
            generalize (cancelR b a.id).2.1 = c at *
            generalize (cancelR b a.id).2.2 = b' at *
            generalize (cancelR b a.id).1 = x at *
            have ez := fun w => neLot_self x w
            go_upto_region 20 with (go_at_call 29; refine (H1.out).mono ?_; rintro e w2 ⟨rfl, hx2⟩)
            have HX2 := Lib.hid hx2
            have hb2 := hx2.lt
            obtain ⟨_, _, _, _, _, _, e6, _⟩ := hx2.cells
            clear hx2
            go_upto_region 21 with (go_at_call 50; refine (H2.out _ HX2.out _ _).mono ?_; rintro e w3 ⟨rfl, hx3, hx3b, hx3l⟩)
            have HX3 := Lib.hid hx3
            have f0 : w3.cell? ⟨w2.heap.size, 0, none⟩ = some (.int .i64 x.id) := by simp [World.cell?, hx3b]
            have f1 : w3.cell? ⟨w2.heap.size, 1, none⟩ = some (.int .i64 x.owner) := by simp [World.cell?, hx3b]
            have f2 : w3.cell? ⟨w2.heap.size, 2, none⟩ = some (.int .i64 x.side) := by simp [World.cell?, hx3b]
            have f3 : w3.cell? ⟨w2.heap.size, 3, none⟩ = some (.int .i64 x.price) := by simp [World.cell?, hx3b]
            have f4 : w3.cell? ⟨w2.heap.size, 4, none⟩ = some (.int .i64 x.qty) := by simp [World.cell?, hx3b]
            clear hx3 hx3b d1 d2' d3 d4 d5 d6 d7 e6
            go_wp2_with (go_at_call 42; (with_reducible refine (HC.out _ _ ?_ ?_).mono ?_); (focus (exact (HX3.out.later (by repeat (first | exact Ex.refl _ | refine Ex.alloc ?_ _ | refine Ex.ext ?_ _ _ | refine Ex.drew ?_ | refine Ex.drewN ?_ _))).ready HER.out)); (focus (exact hle)); rintro e w4 ⟨rfl, l4, d4, rfl⟩)
            all_goals
              go_meet
              case rel => exact ⟨b', HX3.out.later (by repeat (first | exact Ex.refl _ | refine Ex.alloc ?_ _ | refine Ex.ext ?_ _ _ | refine Ex.drew ?_ | refine Ex.drewN ?_ _)), HO2.out⟩
          · have hcan' : (a.kind.toList == [99, 97, 110, 99, 101, 108]) = false := by simpa using hcan
            as_aux_lemma =>
            have H1 := Lib.hid (fun W h => xtake (w0 := wB) (p := p) (m := m) (bx := bx) (a := a) (b := b) (c := b) HER.out W h)
            have H2 := Lib.hid (fun W h => ymtake (w0 := wB) (p := p) (m := m) (bx := bx) (a := a) (b := (takeR b a.id a.qty).2) (c := b) W h)
            have hle := takeE_le b a.id a.qty
            have HO2 := Lib.hid (HOK.out.take a.id a.qty)
            generalize (takeR b a.id a.qty).1 = c at *
            generalize (takeR b a.id a.qty).2 = b' at *
            clear d1 d2' d3 d4 d5 d6 d7
            go_upto_region 13 with fail
            go_region_held3 (fun W => W.cell? ⟨bx, 0, none⟩ = some (.string a.kind) ∧ W.cell? ⟨bx, 1, none⟩ = some (.int .i64 a.l.id) ∧ W.cell? ⟨bx, 2, none⟩ = some (.int .i64 a.l.owner) ∧ W.cell? ⟨bx, 3, none⟩ = some (.int .i64 a.l.side) ∧ W.cell? ⟨bx, 4, none⟩ = some (.int .i64 a.l.price) ∧ W.cell? ⟨bx, 5, none⟩ = some (.int .i64 a.l.qty) ∧ W.cell? ⟨bx, 6, none⟩ = some (.int .i64 a.id) ∧ W.cell? ⟨bx, 7, none⟩ = some (.int .i64 a.qty)) ((first | exact (HX3.out.later (by repeat (first | exact Ex.refl _ | refine Ex.alloc ?_ _ | refine Ex.ext ?_ _ _ | refine Ex.drew ?_ | refine Ex.drewN ?_ _))).cells | exact (HX2.out.later (by repeat (first | exact Ex.refl _ | refine Ex.alloc ?_ _ | refine Ex.ext ?_ _ _ | refine Ex.drew ?_ | refine Ex.drewN ?_ _))).cells | exact (HX.out.later (by repeat (first | exact Ex.refl _ | refine Ex.alloc ?_ _ | refine Ex.ext ?_ _ _ | refine Ex.drew ?_ | refine Ex.drewN ?_ _))).cells)) ((first
              | (go_at_call 30; (with_reducible refine (H1.out _ ?_).mono ?_); (focus (exact HX.out.later (by repeat (first | exact Ex.refl _ | refine Ex.alloc ?_ _ | refine Ex.ext ?_ _ _ | refine Ex.drew ?_ | refine Ex.drewN ?_ _)))); rintro e w2 ⟨rfl, hx2⟩; have HX2 := Lib.hid hx2; clear hx2)
              | (go_at_call 51; (with_reducible refine (H2.out _ ?_).mono ?_); (focus (exact HX2.out.later (by repeat (first | exact Ex.refl _ | refine Ex.alloc ?_ _ | refine Ex.ext ?_ _ _ | refine Ex.drew ?_ | refine Ex.drewN ?_ _)))); rintro e w3 ⟨rfl, hx3⟩; have HX3 := Lib.hid hx3; clear hx3)
              | (go_at_call 42; (with_reducible refine (HC.out _ _ ?_ ?_).mono ?_); (focus (exact (HX3.out.later (by repeat (first | exact Ex.refl _ | refine Ex.alloc ?_ _ | refine Ex.ext ?_ _ _ | refine Ex.drew ?_ | refine Ex.drewN ?_ _))).ready HER.out)); (focus (exact hle)); rintro e w4 ⟨rfl, l4, d4, rfl⟩)))
            all_goals go_wp2_with fail
            all_goals
              go_meet
              case rel => exact ⟨b', HX3.out.later (by repeat (first | exact Ex.refl _ | refine Ex.alloc ?_ _ | refine Ex.ext ?_ _ _ | refine Ex.drew ?_ | refine Ex.drewN ?_ _)), HO2.out⟩
      case rest =>
        obtain ⟨b', hx5, hok5⟩ := hcut
        have HX5 := Lib.hid hx5
        have HOK5 := Lib.hid hok5
        have HG := Lib.hid (hx5.inv.get a.id)
        have HF := Lib.hid (fun W (hx : Ex wc W) => (hx5.inv.later hx).find a.id)
        have hb5 := hx5.lt
        obtain ⟨_, e1, e2, e3, e4, e5, e6, e7⟩ := hx5.cells
        obtain ⟨hml, hl60, am, capm, cm, hcm1, hcm2, _, _, _, hzm⟩ := hx5.inv.slice
        have HZM := Lib.hid hzm
        clear hx5 hok5 hzm HXA HOK HC d1 d2' d3 d4 d5 d6 d7 c0
        rcases idIdx_cases b' a.id with ⟨q, hq, hi, _, hf⟩ | ⟨hi, _⟩
        · as_aux_lemma =>
          have e : getR b' a.id = (b'[q], true) := by
            unfold getR
            rw [hf]
            simp only [List.getElem?_eq_getElem hq]
          rw [e] at HG
          rw [hi] at HF
          obtain ⟨gm, om, rfl, hgm, hcc⟩ := HZM.out (by omega)
          have a0 := hcc q hq 0 (by omega)
          have a1 := hcc q hq 1 (by omega)
          have a2 := hcc q hq 2 (by omega)
          have a3 := hcc q hq 3 (by omega)
          have a4 := hcc q hq 4 (by omega)
          simp only [Lot.cells, List.getElem?_cons_zero, List.getElem?_cons_succ, Nat.add_zero] at a0 a1 a2 a3 a4
          have t1 : decide (0 ≤ (q : Int)) = true := decide_eq_true (by omega)
          clear hcc e hi hf
          generalize b'[q] = x at *
          have ez := fun w => neLot_self x w
          go_wp2_with (first
            | (go_at_call 52; refine (HG.out).mono ?_; rintro e w6 ⟨rfl, l6, d6, rfl⟩)
            | (go_at_call 53; refine (HF.out _ (by repeat (first | exact Ex.refl _ | refine Ex.alloc ?_ _ | refine Ex.ext ?_ _ _ | refine Ex.drew ?_ | refine Ex.drewN ?_ _))).mono ?_; rintro e w7 ⟨rfl, l7, d7, rfl⟩))
          go_quiet (fail)
          all_goals go_wp2_with fail
          all_goals
            go_roundw
            case measure => simp [intOf]; omega
            case rel => exact ⟨k + 1, b', by omega, by go_num, HX5.out.inv.later (by repeat (first | exact Ex.refl _ | refine Ex.alloc ?_ _ | refine Ex.ext ?_ _ _ | refine Ex.drew ?_ | refine Ex.drewN ?_ _)), HOK5.out⟩
        · as_aux_lemma =>
          have e : getR b' a.id = (zeroLot, false) := by unfold getR; rw [find_none hi]
          rw [e] at HG
          rw [hi] at HF
          have ez : ∀ w, (binOp .neq 24 (.agg #[.int .i64 0, .int .i64 0, .int .i64 0, .int .i64 0, .int .i64 0]) (.agg #[.int .i64 0, .int .i64 0, .int .i64 0, .int .i64 0, .int .i64 0])).run Tryd.prog w = .ok (.bool false) w := fun w => neLot_self zeroLot w
          have t1 : decide ((0 : Int) ≤ -1) = false := by decide
          clear e hi
          have HG2 : Hid (Calls Tryd.prog 52 #[.pointer (some ⟨p, 0, none⟩), .int .i64 a.id] wc fun e w' => e = .returned (.tuple #[.agg #[.int .i64 0, .int .i64 0, .int .i64 0, .int .i64 0, .int .i64 0], .bool false]) ∧ Ex wc w') := HG
          clear HG
          go_wp2_with (first
            | (go_at_call 52; refine (HG2.out).mono ?_; rintro e w6 ⟨rfl, l6, d6, rfl⟩)
            | (go_at_call 53; refine (HF.out _ (by repeat (first | exact Ex.refl _ | refine Ex.alloc ?_ _ | refine Ex.ext ?_ _ _ | refine Ex.drew ?_ | refine Ex.drewN ?_ _))).mono ?_; rintro e w7 ⟨rfl, l7, d7, rfl⟩))
          go_quiet (fail)
          all_goals go_wp2_with fail
          all_goals
            go_roundw
            case measure => simp [intOf]; omega
            case rel => exact ⟨k + 1, b', by omega, by go_num, HX5.out.inv.later (by repeat (first | exact Ex.refl _ | refine Ex.alloc ?_ _ | refine Ex.ext ?_ _ _ | refine Ex.drew ?_ | refine Ex.drewN ?_ _)), HOK5.out⟩
    · have HS := Lib.hid hS
      have HOK := Lib.hid hok
      obtain ⟨hml, hl60, am, capm, cm, hcm1, hcm2, hzm⟩ := hS.slice
      have HZM := Lib.hid hzm
      obtain ⟨⟨own, h1, h2, _⟩, _, _⟩ := hS
      have HP := Lib.hid (fun W (hx : Ex wr W) => h1.later hx)
      have HM := Lib.hid (fun W (hx : Ex wr W) => h2.later hx)
      have HCP := Lib.hid (bcopy_any h1)
      have hol := ownerL_le b n0
      have hv0 := levels_len 0 b hok
      have hv1 := levels_len 1 b hok
      have HL1 := Lib.hid (fun W (hx : Ex wr W) => lots_r (h1.later hx))
      have HO1 := Lib.hid (fun W (hx : Ex wr W) => owner_r (h1.later hx) n0)
      have HO2 := Lib.hid (fun W (hx : Ex wr W) => mowner_r (h2.later hx) n0)
      have HV1 := Lib.hid (fun W (hx : Ex wr W) => levels_r (h1.later hx) hok 0 (.inl rfl))
      have HV2 := Lib.hid (fun W (hx : Ex wr W) => mlevels_r (h2.later hx) hok 0 (.inl rfl))
      have HV3 := Lib.hid (fun W (hx : Ex wr W) => levels_r (h1.later hx) hok 1 (.inr rfl))
      have HV4 := Lib.hid (fun W (hx : Ex wr W) => mlevels_r (h2.later hx) hok 1 (.inr rfl))
      generalize ownerL b n0 = D at *
      generalize levelsB 0 b = L0 at *
      generalize levelsB 1 b = L1 at *
      clear h1 h2 hzm hok
      go_upto_region 30 with (go_at_call 54; (with_reducible refine HCP.out.mono ?_); rintro e w1 ⟨q, rfl, hcb, hx1⟩)
      have HL2 := Lib.hid (fun W (hx : Ex w1 W) => lots_r (hcb.later hx))
      have HX1 := Lib.hid hx1
      have cm1 : w1.cell? ⟨m, 0, none⟩ = some (.slice am b.length capm) := (hx1.below.cell (p := ⟨m, 0, none⟩) hml).trans cm
      have hm1 : m < w1.heap.size := by have := hx1.below.size; omega
      clear hcb hx1 cm
      have HE := Lib.hid (Ex.refl w1)
      go_region_held3 (fun W => W.cell? ⟨m, 0, none⟩ = some (.slice am b.length capm)) ((first | assumption | exact ((HE.out.trans (by repeat (first | exact Ex.refl _ | refine Ex.alloc ?_ _ | refine Ex.ext ?_ _ _ | refine Ex.drew ?_ | refine Ex.drewN ?_ _))).below.cell (p := ⟨m, 0, none⟩) hm1).trans cm1)) ((first
        | (go_at_call 27; (with_reducible refine (HL2.out _ ?_).mono ?_); (focus (exact HE.out.trans (by repeat (first | exact Ex.refl _ | refine Ex.alloc ?_ _ | refine Ex.ext ?_ _ _ | refine Ex.drew ?_ | refine Ex.drewN ?_ _)))); rintro e w2 ⟨a2, c2, rfl, hz2, hx2⟩; have HZ2 := Lib.hid hz2; have HE := Lib.hid (HE.out.trans (Ex.trans (by repeat (first | exact Ex.refl _ | refine Ex.alloc ?_ _ | refine Ex.ext ?_ _ _ | refine Ex.drew ?_ | refine Ex.drewN ?_ _)) hx2)); clear hz2 hx2)
        | (go_at_call 27; (with_reducible refine (HL1.out _ ?_).mono ?_); (focus (exact HX1.out.trans (HE.out.trans (by repeat (first | exact Ex.refl _ | refine Ex.alloc ?_ _ | refine Ex.ext ?_ _ _ | refine Ex.drew ?_ | refine Ex.drewN ?_ _))))); rintro e w3 ⟨a3, c3, rfl, hz3, hx3⟩; have HZ2 := Lib.hid hz3; have HE := Lib.hid (HE.out.trans (Ex.trans (by repeat (first | exact Ex.refl _ | refine Ex.alloc ?_ _ | refine Ex.ext ?_ _ _ | refine Ex.drew ?_ | refine Ex.drewN ?_ _)) hx3)); clear hz3 hx3)
        | (go_at_call 55; (with_reducible refine (sameLotsOf _ _ _ _ b _ ?_ ?_ ?_).mono ?_); (focus (exact HZ2.out.ex (by repeat (first | exact Ex.refl _ | refine Ex.alloc ?_ _ | refine Ex.ext ?_ _ _ | refine Ex.drew ?_ | refine Ex.drewN ?_ _)))); (focus (exact HZM.out.ex (HX1.out.trans (HE.out.trans (by repeat (first | exact Ex.refl _ | refine Ex.alloc ?_ _ | refine Ex.ext ?_ _ _ | refine Ex.drew ?_ | refine Ex.drewN ?_ _)))))); (focus omega); rintro e w4 ⟨rfl, l4, d4, rfl⟩)
        | (go_at_call 57; (with_reducible refine (HO1.out _ ?_).mono ?_); (focus (exact HX1.out.trans (HE.out.trans (by repeat (first | exact Ex.refl _ | refine Ex.alloc ?_ _ | refine Ex.ext ?_ _ _ | refine Ex.drew ?_ | refine Ex.drewN ?_ _))))); rintro e w5 ⟨a5, c5, rfl, hz5, hx5⟩; have HZ5 := Lib.hid hz5; have HE := Lib.hid (HE.out.trans (Ex.trans (by repeat (first | exact Ex.refl _ | refine Ex.alloc ?_ _ | refine Ex.ext ?_ _ _ | refine Ex.drew ?_ | refine Ex.drewN ?_ _)) hx5)); clear hz5 hx5)
        | (go_at_call 58; (with_reducible refine (HO2.out _ ?_).mono ?_); (focus (exact HX1.out.trans (HE.out.trans (by repeat (first | exact Ex.refl _ | refine Ex.alloc ?_ _ | refine Ex.ext ?_ _ _ | refine Ex.drew ?_ | refine Ex.drewN ?_ _))))); rintro e w6 ⟨a6, c6, rfl, hz6, hx6⟩; have HZ5 := Lib.hid (HZ5.out.ex (Ex.trans (by repeat (first | exact Ex.refl _ | refine Ex.alloc ?_ _ | refine Ex.ext ?_ _ _ | refine Ex.drew ?_ | refine Ex.drewN ?_ _)) hx6)); have HZ6 := Lib.hid hz6; have HE := Lib.hid (HE.out.trans (Ex.trans (by repeat (first | exact Ex.refl _ | refine Ex.alloc ?_ _ | refine Ex.ext ?_ _ _ | refine Ex.drew ?_ | refine Ex.drewN ?_ _)) hx6)); clear hz6 hx6)
        | (go_at_call 56; (with_reducible refine (sameIntsOf _ _ _ _ D _ ?_ ?_ ?_).mono ?_); (focus (exact HZ5.out.ex (by repeat (first | exact Ex.refl _ | refine Ex.alloc ?_ _ | refine Ex.ext ?_ _ _ | refine Ex.drew ?_ | refine Ex.drewN ?_ _)))); (focus (exact HZ6.out.ex (by repeat (first | exact Ex.refl _ | refine Ex.alloc ?_ _ | refine Ex.ext ?_ _ _ | refine Ex.drew ?_ | refine Ex.drewN ?_ _)))); (focus omega); rintro e w7 ⟨rfl, l7, d7, rfl⟩)))
      go_wp2_with (first
        | (go_at_call 48; (with_reducible refine (HV1.out _ ?_).mono ?_); (focus (exact HX1.out.trans (HE.out.trans (by repeat (first | exact Ex.refl _ | refine Ex.alloc ?_ _ | refine Ex.ext ?_ _ _ | refine Ex.drew ?_ | refine Ex.drewN ?_ _))))); rintro e w8 ⟨a8, c8, rfl, hz8, hx8⟩; have HZ8 := Lib.hid hz8; have HE := Lib.hid (HE.out.trans (Ex.trans (by repeat (first | exact Ex.refl _ | refine Ex.alloc ?_ _ | refine Ex.ext ?_ _ _ | refine Ex.drew ?_ | refine Ex.drewN ?_ _)) hx8)); clear hz8 hx8)
        | (go_at_call 60; (with_reducible refine (HV2.out _ ?_).mono ?_); (focus (exact HX1.out.trans (HE.out.trans (by repeat (first | exact Ex.refl _ | refine Ex.alloc ?_ _ | refine Ex.ext ?_ _ _ | refine Ex.drew ?_ | refine Ex.drewN ?_ _))))); rintro e w9 ⟨a9, c9, rfl, hz9, hx9⟩; have HZ8 := Lib.hid (HZ8.out.ex (Ex.trans (by repeat (first | exact Ex.refl _ | refine Ex.alloc ?_ _ | refine Ex.ext ?_ _ _ | refine Ex.drew ?_ | refine Ex.drewN ?_ _)) hx9)); have HZ9 := Lib.hid hz9; have HE := Lib.hid (HE.out.trans (Ex.trans (by repeat (first | exact Ex.refl _ | refine Ex.alloc ?_ _ | refine Ex.ext ?_ _ _ | refine Ex.drew ?_ | refine Ex.drewN ?_ _)) hx9)); clear hz9 hx9)
        | (go_at_call 59; (with_reducible refine (sameLvls _ _ _ _ L0 _ ?_ ?_ ?_).mono ?_); (focus (exact HZ8.out.ex (by repeat (first | exact Ex.refl _ | refine Ex.alloc ?_ _ | refine Ex.ext ?_ _ _ | refine Ex.drew ?_ | refine Ex.drewN ?_ _)))); (focus (exact HZ9.out.ex (by repeat (first | exact Ex.refl _ | refine Ex.alloc ?_ _ | refine Ex.ext ?_ _ _ | refine Ex.drew ?_ | refine Ex.drewN ?_ _)))); (focus omega); rintro e w10 ⟨rfl, l10, d10, rfl⟩)
        | (go_at_call 48; (with_reducible refine (HV3.out _ ?_).mono ?_); (focus (exact HX1.out.trans (HE.out.trans (by repeat (first | exact Ex.refl _ | refine Ex.alloc ?_ _ | refine Ex.ext ?_ _ _ | refine Ex.drew ?_ | refine Ex.drewN ?_ _))))); rintro e w11 ⟨a11, c11, rfl, hz11, hx11⟩; have HZ11 := Lib.hid hz11; have HE := Lib.hid (HE.out.trans (Ex.trans (by repeat (first | exact Ex.refl _ | refine Ex.alloc ?_ _ | refine Ex.ext ?_ _ _ | refine Ex.drew ?_ | refine Ex.drewN ?_ _)) hx11)); clear hz11 hx11)
        | (go_at_call 60; (with_reducible refine (HV4.out _ ?_).mono ?_); (focus (exact HX1.out.trans (HE.out.trans (by repeat (first | exact Ex.refl _ | refine Ex.alloc ?_ _ | refine Ex.ext ?_ _ _ | refine Ex.drew ?_ | refine Ex.drewN ?_ _))))); rintro e w12 ⟨a12, c12, rfl, hz12, hx12⟩; have HZ11 := Lib.hid (HZ11.out.ex (Ex.trans (by repeat (first | exact Ex.refl _ | refine Ex.alloc ?_ _ | refine Ex.ext ?_ _ _ | refine Ex.drew ?_ | refine Ex.drewN ?_ _)) hx12)); have HZ12 := Lib.hid hz12; have HE := Lib.hid (HE.out.trans (Ex.trans (by repeat (first | exact Ex.refl _ | refine Ex.alloc ?_ _ | refine Ex.ext ?_ _ _ | refine Ex.drew ?_ | refine Ex.drewN ?_ _)) hx12)); clear hz12 hx12)
        | (go_at_call 59; (with_reducible refine (sameLvls _ _ _ _ L1 _ ?_ ?_ ?_).mono ?_); (focus (exact HZ11.out.ex (by repeat (first | exact Ex.refl _ | refine Ex.alloc ?_ _ | refine Ex.ext ?_ _ _ | refine Ex.drew ?_ | refine Ex.drewN ?_ _)))); (focus (exact HZ12.out.ex (by repeat (first | exact Ex.refl _ | refine Ex.alloc ?_ _ | refine Ex.ext ?_ _ _ | refine Ex.drew ?_ | refine Ex.drewN ?_ _)))); (focus omega); rintro e w13 ⟨rfl, l13, d13, rfl⟩))
      all_goals go_ret
      all_goals exact ⟨rfl, (HX.out.trans ((Ex.of HS.out.2.2).trans (HX1.out.trans (HE.out.trans (by repeat (first | exact Ex.refl _ | refine Ex.alloc ?_ _ | refine Ex.ext ?_ _ _ | refine Ex.drew ?_ | refine Ex.drewN ?_ _)))))).below⟩
end Go.Proofs.YtfeeibealokhfaaDoor
