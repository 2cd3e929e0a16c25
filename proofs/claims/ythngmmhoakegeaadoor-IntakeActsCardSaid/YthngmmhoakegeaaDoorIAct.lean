/- The walk of IntakeActs. -/
import Derived.Test.YthngmmhoakegeaaDoorIX
import Derived.Test.YthngmmhoakegeaaDoorTaken
import Derived.Deep.CutBlock
import Derived.Deep.RegionHeld3
set_option linter.unusedSimpArgs false
set_option linter.unusedVariables false
namespace Go.Proofs.YthngmmhoakegeaaDoor
open Go.RowKit

set_option maxRecDepth 100000 in
set_option maxHeartbeats 8000000 in
theorem intakeActs_in (ao : Option Addr) (len cap : Nat) (l : List Act) (E : Nat → Addr) (w : World) (hR : CodeReady E w) (hA : ActsAt w ao len l) (hlen : len ≤ 100) :
    Calls Tryd.prog 10 #[.slice ao len cap] w fun e w' => e = .returned (.bool true) ∧ Below w.heap.size w w' := by
  obtain ⟨hL, _, _, hz⟩ := hA
  have HZ := Lib.hid hz
  have HL := Lib.hid hL
  have HR0 := Lib.hid hR
  have HND := Lib.hid (fun w => intakeNew (fun _ => 0) 1 w)
  have d2 : decide ((100 : Int) < (len : Int)) = false := decide_eq_false (by omega)
  clear hz hL hR
  go_enter Tryd.func10, Tryd.ntmps10
  go_upto_region 5 with (first
    | (go_at_call 15; refine (taken_any _).mono ?_; rintro e wB ⟨rfl, hxB⟩)
    | (go_at_call 16; refine (HND.out _).mono ?_; rintro e wd ⟨rfl, hT⟩))
  have HX := Lib.hid hxB
  have hsw := hxB.below.size
  obtain ⟨o1, hI1, hB1, hl1, hs1, _⟩ := hT.use (B := wB.heap.size) (a := wB) (Below.refl _ _) (Nat.le_refl _) (fun b _ => by simp)
  have HI0 := Lib.hid (fun ty => iinv_start (w0 := wB) (l := qsOf []) hI1 (fun b hb => hl1 b hb) hs1 hB1 ty)
  have HER := Lib.hid (HR0.out.ex hxB)
  have hpd : wB.heap.size < wB.heap.size + 1 := Nat.lt_succ_self _
  clear hT hxB HND HR0 hI1 hB1 hl1 hs1
  generalize hp : wB.heap.size = p at HI0
  go_upto_region 8 with fail
  refine wp_world (R := fun W => IInv wB p wd.heap.size (qsOf []) 0 [] 0 W) (HI0.out _) ?_
  clear HI0
  generalize wd.heap.size = m at *
  rintro wi hinv
  have HV0 := Lib.hid hinv
  clear hinv
  go_wp2_with fail
  go_loopw [6] (fun i wr => ∃ (k : Nat) (L : List Ask) (t : Nat), k ≤ len ∧ i = .int .i64 (k : Int) ∧ IInv wB p m (qsOf L) t L t wr ∧ InC L) (fun i _ => len - (intOf i).toNat)
  case atStart => exact ⟨0, [], 0, Nat.zero_le _, rfl, HV0.out, fun x hx => by cases hx⟩
  case round =>
    obtain ⟨k, L, t, hk, rfl, hS, hin⟩ := hrel
    clear HV0
    by_cases hlt : k < len
    · obtain ⟨sb, so, rfl, hbs, hzz⟩ := HZ.out (by omega)
      have hzk := hzz k (by rw [HL.out]; exact hlt)
      clear hzz
      have hcx : ∀ j, j < 10 → wr.cell? ⟨sb, so + k * 10 + j, none⟩ = (l[k]'(by rw [HL.out]; exact hlt)).cells[j]? := fun j hj => (hS.2.2.cell (p := ⟨sb, so + k * 10 + j, none⟩) (by have := HX.out.below.size; show sb < _; omega)).trans ((HX.out.below.cell (p := ⟨sb, so + k * 10 + j, none⟩) hbs).trans (hzk j hj))
      clear hzk
      generalize l[k]'(by rw [HL.out]; exact hlt) = a at hcx
      have hbr : sb < wr.heap.size := by have := hS.2.1; omega
      have a0 := hcx 0 (by omega)
      have a1 := hcx 1 (by omega)
      have a2 := hcx 2 (by omega)
      have a3 := hcx 3 (by omega)
      have a4 := hcx 4 (by omega)
      have a5 := hcx 5 (by omega)
      have a6 := hcx 6 (by omega)
      have a7 := hcx 7 (by omega)
      have a8 := hcx 8 (by omega)
      have a9 := hcx 9 (by omega)
      simp only [Act.cells, List.getElem?_cons_zero, List.getElem?_cons_succ, Nat.add_zero] at a0 a1 a2 a3 a4 a5 a6 a7 a8 a9
      have HMK := Lib.hid (hS.make (a := a))
      have HIN := Lib.hid hin
      clear hcx hS hin
      go_upto_block 2 with fail
      refine wp_world (R := fun W => IX wB p m wr.heap.size a (qsOf L) t L t W) HMK.out ?_
      clear HMK a0 a1 a2 a3 a4 a5 a6 a7 a8 a9
      generalize wr.heap.size = bx at *
      rintro wa hxa
      have hbl := hxa.lt
      have c0 := hxa.cells.1
      obtain ⟨_, n1, n2, n3, n4, n5, n6, n7, n8, n9⟩ := hxa.cells
      have HXA := Lib.hid hxa
      have HQL := Lib.hid hxa.qlens
      have HC := Lib.hid (fun c w hr h => coded_same c E w hr h)
      clear hxa
      go_cut [] (fun wx => ∃ L' t', IX wB p m bx a (qsOf L') t' L' t' wx ∧ InC L')
      case first =>
        have HX := HXA
        by_cases hput : (a.kind.toList == [112, 117, 116]) = true
        · as_aux_lemma =>
          have H1 := Lib.hid (fun W h => xput (w0 := wB) (p := p) (q := m) (bx := bx) (a := a) (l := qsOf L) (t := t) (L := L) (t2 := t) HER.out W h)
          have H2 := Lib.hid (fun W h => yput (w0 := wB) (p := p) (q := m) (bx := bx) (a := a) (l := putTo (qsOf L) a.a) (t := t) (L := L) (t2 := t) W h HIN.out HQL.out)
          have hle := putErr_le (qsOf L) a.a
          have HO2 := Lib.hid (putLL_in HIN.out a.a)
          have HQ2 := Lib.hid (fun d => putLL_qs L a.a d)
          generalize putErr (qsOf L) a.a = c at *
          generalize putTo (qsOf L) a.a = l' at *
          generalize putLL L a.a = L' at *
          go_upto_region 16 with fail
          go_region_held3 (fun W => W.cell? ⟨bx, 0, none⟩ = some (.string a.kind) ∧ W.cell? ⟨bx, 1, none⟩ = some (.int .u8 a.a.kind) ∧ W.cell? ⟨bx, 2, none⟩ = some (.int .i64 a.a.client) ∧ W.cell? ⟨bx, 3, none⟩ = some (.int .i64 a.a.seq) ∧ W.cell? ⟨bx, 4, none⟩ = some (.int .i64 a.a.item) ∧ W.cell? ⟨bx, 5, none⟩ = some (.int .i64 a.a.side) ∧ W.cell? ⟨bx, 6, none⟩ = some (.int .i64 a.a.price) ∧ W.cell? ⟨bx, 7, none⟩ = some (.int .i64 a.a.qty) ∧ W.cell? ⟨bx, 8, none⟩ = some (.int .i64 a.a.id) ∧ W.cell? ⟨bx, 9, none⟩ = some (.int .i64 a.client)) ((first | exact (HX3.out.later (by repeat (first | exact Ex.refl _ | refine Ex.alloc ?_ _ | refine Ex.ext ?_ _ _ | refine Ex.drew ?_ | refine Ex.drewN ?_ _))).cells | exact (HX2.out.later (by repeat (first | exact Ex.refl _ | refine Ex.alloc ?_ _ | refine Ex.ext ?_ _ _ | refine Ex.drew ?_ | refine Ex.drewN ?_ _))).cells | exact (HX.out.later (by repeat (first | exact Ex.refl _ | refine Ex.alloc ?_ _ | refine Ex.ext ?_ _ _ | refine Ex.drew ?_ | refine Ex.drewN ?_ _))).cells)) ((first
            | (go_at_call 17; (with_reducible refine (H1.out _ ?_).mono ?_); (focus (exact HX.out.later (by repeat (first | exact Ex.refl _ | refine Ex.alloc ?_ _ | refine Ex.ext ?_ _ _ | refine Ex.drew ?_ | refine Ex.drewN ?_ _)))); rintro e w2 ⟨rfl, hx2⟩; have HX2 := Lib.hid hx2; clear hx2)
            | (go_at_call 39; (with_reducible refine (H2.out _ ?_).mono ?_); (focus (exact HX2.out.later (by repeat (first | exact Ex.refl _ | refine Ex.alloc ?_ _ | refine Ex.ext ?_ _ _ | refine Ex.drew ?_ | refine Ex.drewN ?_ _)))); rintro e w3 ⟨rfl, hx3⟩; have HX3 := Lib.hid hx3; clear hx3)
            | (go_at_call 38; (with_reducible refine (HC.out _ _ ?_ ?_).mono ?_); (focus (exact (HX3.out.later (by repeat (first | exact Ex.refl _ | refine Ex.alloc ?_ _ | refine Ex.ext ?_ _ _ | refine Ex.drew ?_ | refine Ex.drewN ?_ _))).ready HER.out)); (focus (exact hle)); rintro e w4 ⟨rfl, l4, d4, rfl⟩)))
          all_goals go_wp2_with fail
          all_goals
            go_meet
            case rel => exact ⟨L', t, (HX3.out.later (by repeat (first | exact Ex.refl _ | refine Ex.alloc ?_ _ | refine Ex.ext ?_ _ _ | refine Ex.drew ?_ | refine Ex.drewN ?_ _))).congr (fun d _ => HQ2.out d), HO2.out⟩
        · have hput' : (a.kind.toList == [112, 117, 116]) = false := by simpa using hput
          by_cases hclr : (a.kind.toList == [99, 108, 101, 97, 114]) = true
          · as_aux_lemma =>
            have H1 := Lib.hid (fun W h => xclear (w0 := wB) (p := p) (q := m) (bx := bx) (a := a) (L' := L) (t := t) (L := L) (t2 := t) W h HIN.out)
            have H2 := Lib.hid (fun W h => yclear (w0 := wB) (p := p) (q := m) (bx := bx) (a := a) (l := qsOf (clearLL L a.client)) (t := t) (L := L) (t2 := t) W h)
            have HO2 := Lib.hid (clearLL_in HIN.out a.client)
            generalize (ofC L a.client).length = c at *
            generalize clearLL L a.client = L' at *
            go_upto_region 19 with fail
            go_region_held3 (fun W => W.cell? ⟨bx, 0, none⟩ = some (.string a.kind) ∧ W.cell? ⟨bx, 1, none⟩ = some (.int .u8 a.a.kind) ∧ W.cell? ⟨bx, 2, none⟩ = some (.int .i64 a.a.client) ∧ W.cell? ⟨bx, 3, none⟩ = some (.int .i64 a.a.seq) ∧ W.cell? ⟨bx, 4, none⟩ = some (.int .i64 a.a.item) ∧ W.cell? ⟨bx, 5, none⟩ = some (.int .i64 a.a.side) ∧ W.cell? ⟨bx, 6, none⟩ = some (.int .i64 a.a.price) ∧ W.cell? ⟨bx, 7, none⟩ = some (.int .i64 a.a.qty) ∧ W.cell? ⟨bx, 8, none⟩ = some (.int .i64 a.a.id) ∧ W.cell? ⟨bx, 9, none⟩ = some (.int .i64 a.client)) ((first | exact (HX3.out.later (by repeat (first | exact Ex.refl _ | refine Ex.alloc ?_ _ | refine Ex.ext ?_ _ _ | refine Ex.drew ?_ | refine Ex.drewN ?_ _))).cells | exact (HX2.out.later (by repeat (first | exact Ex.refl _ | refine Ex.alloc ?_ _ | refine Ex.ext ?_ _ _ | refine Ex.drew ?_ | refine Ex.drewN ?_ _))).cells | exact (HX.out.later (by repeat (first | exact Ex.refl _ | refine Ex.alloc ?_ _ | refine Ex.ext ?_ _ _ | refine Ex.drew ?_ | refine Ex.drewN ?_ _))).cells)) ((first
              | (go_at_call 24; (with_reducible refine (H1.out _ ?_).mono ?_); (focus (exact HX.out.later (by repeat (first | exact Ex.refl _ | refine Ex.alloc ?_ _ | refine Ex.ext ?_ _ _ | refine Ex.drew ?_ | refine Ex.drewN ?_ _)))); rintro e w2 ⟨rfl, hx2⟩; have HX2 := Lib.hid hx2; clear hx2)
              | (go_at_call 40; (with_reducible refine (H2.out _ ?_).mono ?_); (focus (exact HX2.out.later (by repeat (first | exact Ex.refl _ | refine Ex.alloc ?_ _ | refine Ex.ext ?_ _ _ | refine Ex.drew ?_ | refine Ex.drewN ?_ _)))); rintro e w3 ⟨rfl, hx3⟩; have HX3 := Lib.hid hx3; clear hx3)))
            all_goals go_wp2_with fail
            all_goals
              go_meet
              case rel => exact ⟨L', t, HX3.out.later (by repeat (first | exact Ex.refl _ | refine Ex.alloc ?_ _ | refine Ex.ext ?_ _ _ | refine Ex.drew ?_ | refine Ex.drewN ?_ _)), HO2.out⟩
          · have hclr' : (a.kind.toList == [99, 108, 101, 97, 114]) = false := by simpa using hclr
            as_aux_lemma =>
            have H1 := Lib.hid (fun W h => xdrain (w0 := wB) (p := p) (q := m) (bx := bx) (a := a) (l := qsOf L) (t := t) (L := L) (t2 := t) W h)
            have H2 := Lib.hid (fun v W h => ydrain (w0 := wB) (p := p) (q := m) (bx := bx) (a := a) (l := fun d => (qsOf L d).drop 2) (t := (t + 1) % 6) (L := L) (t2 := t) (v := v) (x := outOf (qsOf L) t 6) W h HIN.out HQL.out)
            have HO2 := Lib.hid (drainLL_in HIN.out)
            have HQ2 := Lib.hid (fun d => (drainLL_qs L d).symm)
            have hol := outOf_length (qsOf L) t 6
            generalize outOf (qsOf L) t 6 = D at *
            generalize drainLL L = L' at *
            generalize (t + 1) % 6 = t' at *
            go_upto_region 13 with fail
            go_wp2_with (go_at_call 18; (with_reducible refine (H1.out _ ?_).mono ?_); (focus (exact HX.out.later (by repeat (first | exact Ex.refl _ | refine Ex.alloc ?_ _ | refine Ex.ext ?_ _ _ | refine Ex.drew ?_ | refine Ex.drewN ?_ _)))); rintro e w2 ⟨v, rfl, hx2⟩; have HX2 := Lib.hid hx2; clear hx2)
            go_wp2_with (go_at_call 42; (with_reducible refine (H2.out v _ ?_).mono ?_); (focus (exact HX2.out.later (by repeat (first | exact Ex.refl _ | refine Ex.alloc ?_ _ | refine Ex.ext ?_ _ _ | refine Ex.drew ?_ | refine Ex.drewN ?_ _)))); rintro e w3 ⟨⟨ao3, cap3, rfl, hac⟩, hx3⟩; obtain ⟨ao4, cap4, rfl, hac4⟩ := hx3.row; have HX3 := Lib.hid hx3; have HA3 := Lib.hid hac; have HA4 := Lib.hid hac4; clear hx3 hac hac4)
            go_wp2_with (go_at_call 41; (with_reducible refine (sameAsksOf _ _ _ _ D _ ?_ ?_ ?_).mono ?_); (focus (exact HA4.out.ex (by repeat (first | exact Ex.refl _ | refine Ex.alloc ?_ _ | refine Ex.ext ?_ _ _ | refine Ex.drew ?_ | refine Ex.drewN ?_ _)))); (focus (exact HA3.out.ex (by repeat (first | exact Ex.refl _ | refine Ex.alloc ?_ _ | refine Ex.ext ?_ _ _ | refine Ex.drew ?_ | refine Ex.drewN ?_ _)))); (focus omega); rintro e w4 ⟨rfl, l4, d4, rfl⟩)
            all_goals
              go_meet
              case rel => exact ⟨L', t', (HX3.out.later (by repeat (first | exact Ex.refl _ | refine Ex.alloc ?_ _ | refine Ex.ext ?_ _ _ | refine Ex.drew ?_ | refine Ex.drewN ?_ _))).ix.congr (fun d _ => HQ2.out d), HO2.out⟩
      case rest =>
        obtain ⟨L', t', hx5, hin5⟩ := hcut
        have HX5 := Lib.hid hx5
        have HIN5 := Lib.hid hin5
        have HT := Lib.hid (fun W (hx : Ex wc W) => iturn W (hx5.later hx))
        have HW1 := Lib.hid (fun W (hx : Ex wc W) => iwait W (hx5.later hx) hin5)
        have HW2 := Lib.hid (fun W (hx : Ex wc W) => ywait W (hx5.later hx))
        have hb5 := hx5.lt
        obtain ⟨_, e1, e2, e3, e4, e5, e6, e7, e8, e9⟩ := hx5.cells
        obtain ⟨ct, hml⟩ := hx5.tcell
        clear hx5 hin5 HXA HIN HQL HC n1 n2 n3 n4 n5 n6 n7 n8 n9 c0
        have HE := Lib.hid (Ex.refl wc)
        go_upto_region 21 with fail
        go_region_held3 (fun W => W.cell? ⟨m, 1, none⟩ = some (.int .i64 (t' : Int)) ∧ W.cell? ⟨bx, 9, none⟩ = some (.int .i64 a.client)) ((exact ⟨((HE.out.trans (by repeat (first | exact Ex.refl _ | refine Ex.alloc ?_ _ | refine Ex.ext ?_ _ _ | refine Ex.drew ?_ | refine Ex.drewN ?_ _))).below.cell (p := ⟨m, 1, none⟩) hml).trans ct, ((HE.out.trans (by repeat (first | exact Ex.refl _ | refine Ex.alloc ?_ _ | refine Ex.ext ?_ _ _ | refine Ex.drew ?_ | refine Ex.drewN ?_ _))).below.cell (p := ⟨bx, 9, none⟩) hb5).trans e9⟩)) ((first
          | (go_at_call 43; (with_reducible refine (HT.out _ ?_).mono ?_); (focus (exact HE.out.trans (by repeat (first | exact Ex.refl _ | refine Ex.alloc ?_ _ | refine Ex.ext ?_ _ _ | refine Ex.drew ?_ | refine Ex.drewN ?_ _)))); rintro e w6 ⟨rfl, hx6⟩; have HE := Lib.hid (HE.out.trans (Ex.trans (by repeat (first | exact Ex.refl _ | refine Ex.alloc ?_ _ | refine Ex.ext ?_ _ _ | refine Ex.drew ?_ | refine Ex.drewN ?_ _)) hx6)); clear hx6)
          | (go_at_call 19; (with_reducible refine (HW1.out _ ?_).mono ?_); (focus (exact HE.out.trans (by repeat (first | exact Ex.refl _ | refine Ex.alloc ?_ _ | refine Ex.ext ?_ _ _ | refine Ex.drew ?_ | refine Ex.drewN ?_ _)))); rintro e w7 ⟨rfl, hx7⟩; have HE := Lib.hid (HE.out.trans (Ex.trans (by repeat (first | exact Ex.refl _ | refine Ex.alloc ?_ _ | refine Ex.ext ?_ _ _ | refine Ex.drew ?_ | refine Ex.drewN ?_ _)) hx7)); clear hx7)
          | (go_at_call 44; (with_reducible refine (HW2.out _ ?_).mono ?_); (focus (exact HE.out.trans (by repeat (first | exact Ex.refl _ | refine Ex.alloc ?_ _ | refine Ex.ext ?_ _ _ | refine Ex.drew ?_ | refine Ex.drewN ?_ _)))); rintro e w8 ⟨rfl, hx8⟩; have HE := Lib.hid (HE.out.trans (Ex.trans (by repeat (first | exact Ex.refl _ | refine Ex.alloc ?_ _ | refine Ex.ext ?_ _ _ | refine Ex.drew ?_ | refine Ex.drewN ?_ _)) hx8)); clear hx8)))
        all_goals go_wp2_with fail
        all_goals
          go_roundw
          case measure => simp [intOf]; omega
          case rel => exact ⟨k + 1, L', t', by omega, by go_num, HX5.out.inv.later (HE.out.trans (by repeat (first | exact Ex.refl _ | refine Ex.alloc ?_ _ | refine Ex.ext ?_ _ _ | refine Ex.drew ?_ | refine Ex.drewN ?_ _))), HIN5.out⟩
    · have HS := Lib.hid hS
      clear hS
      go_wp2_with fail
      all_goals go_ret
      all_goals exact ⟨rfl, (HX.out.trans (Ex.of HS.out.2.2)).below⟩
end Go.Proofs.YthngmmhoakegeaaDoor
