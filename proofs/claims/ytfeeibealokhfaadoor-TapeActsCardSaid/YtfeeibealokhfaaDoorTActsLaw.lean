/- The walk of TapeActs. -/
import Derived.Test.YtfeeibealokhfaaDoorTX
import Derived.Deep.CutBlock
import Derived.Deep.RegionHeld3
set_option linter.unusedSimpArgs false
set_option linter.unusedVariables false
namespace Go.Proofs.YtfeeibealokhfaaDoor
open Go.RowKit

set_option maxRecDepth 100000 in
set_option maxHeartbeats 8000000 in
theorem tapeActs_in (b : List UInt8) (ao : Option Addr) (len cap : Nat) (l : List TAct) (E : Nat → Addr) (w : World) (hR : CodeReady E w) (hb : b.length ≤ 3000) (hA : TActsAt w ao len l) (hlen : len ≤ 60) :
    Calls Tryd.prog 8 #[.string ⟨b.toArray⟩, .slice ao len cap] w fun e w' => e = .returned (.bool true) ∧ Below w.heap.size w w' := by
  obtain ⟨hL, _, hwf, hz⟩ := hA
  have zb := bytes_size b
  have HZ := Lib.hid hz
  have HL := Lib.hid hL
  have HWF := Lib.hid hwf
  have HR := Lib.hid hR
  have HTP := Lib.hid (fun w h => taped_any w E h)
  have HND := Lib.hid (fun w => newDisk_any (fun _ => 0) 1 b w (by omega))
  have d1 : decide ((3000 : Int) < (b.length : Int)) = false := decide_eq_false (by omega)
  have d2 : decide ((60 : Int) < (len : Int)) = false := decide_eq_false (by omega)
  clear hz hL hwf hR
  go_enter Tryd.func8, Tryd.ntmps8
  go_upto_region 5 with (first
    | (go_at_call 19; refine (HTP.out _ (Errs.sub HR.out.1 (by decide))).mono ?_; rintro e wB ⟨rfl, hxB⟩)
    | (go_at_call 21; refine (HND.out _).mono ?_; rintro e wd ⟨rfl, hT⟩))
  have HX := Lib.hid hxB
  have hsw := hxB.below.size
  obtain ⟨o0, hI0, hB0, ho0, hs0, _⟩ := hT.use (B := wB.heap.size) (a := wB) (Below.refl _ _) (Nat.le_refl _) (fun b hb => by decide)
  have hz0 : ∀ b, b < wB.heap.size → o0 b = 0 := fun b hb => by rw [ho0 b hb]
  generalize wB.heap.size + 1 = p at *
  have hpd := hI0.lt
  have HI0 := Lib.hid hI0
  have HB0 := Lib.hid hB0
  have HZ0 := Lib.hid hz0
  have HRB := Lib.hid (HR.out.ex HX.out)
  clear hT hxB hI0 hB0 hz0 ho0 HND HTP
  go_upto_region 8 with fail
  refine wp_world (R := fun W => TInv wB p wd.heap.size ⟨b, false, -1⟩ ⟨b, false, -1⟩ W) ?_ ?_
  · refine ⟨⟨fun x => if x = wd.heap.size then 2 else o0 x, (HI0.out.relabel fun n hn e => ?_).later ((Ex.refl _).alloc _), ⟨by show b.length ≤ _; omega, ⟨(show (-1 : Int) ≤ -1 by decide), (show (-1 : Int) ≤ 9223372036854775807 by decide)⟩, if_pos rfl, _, (World.rowIs_alloc wd #[.string ⟨b.toArray⟩, .bool false, .int .i64 (-1)] _ (mdF ⟨b, false, -1⟩) (fun j hj => ?_))⟩, fun x hx => ?_⟩, HB0.out.trans ((Below.refl _ _).alloc hs0 _), by simp [go_sem]; omega⟩
    · show (if n = wd.heap.size then 2 else o0 n) = 1
      rw [if_neg (by omega)]; exact e
    · have : j = 0 ∨ j = 1 ∨ j = 2 := by simp at hj; omega
      rcases this with rfl | rfl | rfl <;> simp [mdF, dkF, strV]
    · show (if x = wd.heap.size then 2 else o0 x) = 0
      rw [if_neg (by omega)]; exact HZ0.out x hx
  clear HI0 HB0 HZ0
  generalize wd.heap.size = m at *
  rintro wi hinv
  have HV0 := Lib.hid hinv
  clear hinv
  go_wp2_with fail
  go_loopw [9] (fun i wr => ∃ (k : Nat) (d : Dk), k ≤ len ∧ i = .int .i64 (k : Int) ∧ TInv wB p m d d wr) (fun i _ => len - (intOf i).toNat)
  case atStart => exact ⟨0, _, Nat.zero_le _, rfl, HV0.out⟩
  case round =>
    obtain ⟨k, d, hk, rfl, hS⟩ := hrel
    clear HV0
    by_cases hlt : k < len
    · obtain ⟨sb, so, rfl, hbs, hzz⟩ := HZ.out (by omega)
      have hzk := hzz k (by rw [HL.out]; exact hlt)
      clear hzz
      have hcx : ∀ j, j < 3 → wr.cell? ⟨sb, so + k * 3 + j, none⟩ = (l[k]'(by rw [HL.out]; exact hlt)).cells[j]? := fun j hj => (hS.2.1.cell (p := ⟨sb, so + k * 3 + j, none⟩) (by show sb < _; omega)).trans (((HX.out.below.cell (p := ⟨sb, so + k * 3 + j, none⟩) hbs)).trans (hzk j hj))
      have hwk := HWF.out (l[k]'(by rw [HL.out]; exact hlt)) (List.getElem_mem _)
      clear hzk
      generalize l[k]'(by rw [HL.out]; exact hlt) = a at hcx hwk
      have a0 := hcx 0 (by omega)
      have a1 := hcx 1 (by omega)
      have a2 := hcx 2 (by omega)
      simp only [TAct.cells, List.getElem?_cons_zero, List.getElem?_cons_succ, Nat.add_zero] at a0 a1 a2
      have hbr : sb < wr.heap.size := by have := hS.2.2; omega
      have hsz := hwk.2.1
      have hnm : a.n ≤ 9223372036854775807 := by have := hwk.2.2; simp [Lit.wf, IntKind.min, IntKind.max, IntKind.signed, IntKind.bits] at this; omega
      have HMK := Lib.hid (hS.make (a := a))
      clear hcx hS hwk
      go_upto_region 12 with fail
      refine wp_world (R := fun W => TX wB p m wr.heap.size a d d W) HMK.out ?_
      clear HMK a0 a1 a2
      generalize wr.heap.size = bx at *
      rintro wa hxa
      have hbl := hxa.lt
      obtain ⟨c0, c1, c2⟩ := hxa.cells
      obtain ⟨S, hS1⟩ : ∃ S : List UInt8, a.s = ⟨S.toArray⟩ := ⟨a.s.data.toList, (bytes_list _).symm⟩
      rw [hS1] at c1
      have hsm : S.length ≤ maxLen := by rw [hS1, bytes_size] at hsz; exact hsz
      have HS1 := Lib.hid hS1
      clear hS1 hsz
      have zS := bytes_size S
      have HXA := Lib.hid hxa
      have HC := Lib.hid (fun c w hr h => coded1_same c E w hr h)
      have hdb : d.b.length ≤ 1048576 := hxa.inv.mcell.2.1
      clear hxa
      unfold maxLen at hsm
      by_cases hbig : 300 < S.length ∧ S.length ≠ 10001
      · as_aux_lemma =>
        have t1 : decide ((300 : Int) < (S.length : Int)) = true := decide_eq_true (by omega)
        have t2 : ((S.length : Int) != 10001) = true := by simp; omega
        go_wp2_with fail
        all_goals go_ret
        all_goals exact ⟨rfl, ((HX.out.trans (Ex.of HXA.out.inv.2.1)).trans (by repeat (first | exact Ex.refl _ | refine Ex.alloc ?_ _ | refine Ex.ext ?_ _ _ | refine Ex.drew ?_ | refine Ex.drewN ?_ _))).below⟩
      go_cut [65] (fun v wx => v = .bool false ∧ wx = wa)
      case first =>
        by_cases h3 : 300 < S.length
        · have t1 : decide ((300 : Int) < (S.length : Int)) = true := decide_eq_true (by omega)
          have t2 : ((S.length : Int) != 10001) = false := by simp; omega
          go_wp2_with fail
          all_goals
            go_meet
            case rel => exact ⟨rfl, rfl⟩
        · have t1 : decide ((300 : Int) < (S.length : Int)) = false := decide_eq_false (by omega)
          go_wp2_with fail
          all_goals
            go_meet
            case rel => exact ⟨rfl, rfl⟩
      case rest =>
        obtain ⟨rfl, rfl⟩ := hcut
        by_cases happ : (a.kind.toList == [97, 112, 112, 101, 110, 100]) = true
        · as_aux_lemma =>
          have H1 := Lib.hid (fun W (h : TX wB p m bx a d d W) => pappend_x h S hsm E (Errs.sub HRB.out.1 (by decide)))
          have H2 := Lib.hid (fun W (h : TX wB p m bx a (d.app S) d W) => mappend_x h S hsm)
          have hle : d.appE S ≤ 12 := appE_le d S
          generalize d.appE S = c at *
          generalize d.app S = d' at *
          go_upto_region 20 with fail
          go_region_held3 (fun W => W.cell? ⟨bx, 1, none⟩ = some (.string ⟨S.toArray⟩)) ((first
            | exact (HX3.out.later (by repeat (first | exact Ex.refl _ | refine Ex.alloc ?_ _ | refine Ex.ext ?_ _ _ | refine Ex.drew ?_ | refine Ex.drewN ?_ _))).cs HS1.out
            | exact (HX2.out.later (by repeat (first | exact Ex.refl _ | refine Ex.alloc ?_ _ | refine Ex.ext ?_ _ _ | refine Ex.drew ?_ | refine Ex.drewN ?_ _))).cs HS1.out
            | exact (HXA.out.later (by repeat (first | exact Ex.refl _ | refine Ex.alloc ?_ _ | refine Ex.ext ?_ _ _ | refine Ex.drew ?_ | refine Ex.drewN ?_ _))).cs HS1.out)) ((first
            | (go_at_call 22; (with_reducible refine (H1.out _ ?_).mono ?_); (focus (exact HXA.out.later (by repeat (first | exact Ex.refl _ | refine Ex.alloc ?_ _ | refine Ex.ext ?_ _ _ | refine Ex.drew ?_ | refine Ex.drewN ?_ _)))); rintro e w2 ⟨rfl, hx2⟩; have HX2 := Lib.hid hx2; clear hx2)
            | (go_at_call 37; (with_reducible refine (H2.out _ ?_).mono ?_); (focus (exact HX2.out.later (by repeat (first | exact Ex.refl _ | refine Ex.alloc ?_ _ | refine Ex.ext ?_ _ _ | refine Ex.drew ?_ | refine Ex.drewN ?_ _)))); rintro e w3 ⟨rfl, hx3⟩; have HX3 := Lib.hid hx3; clear hx3)
            | (go_at_call 36; (with_reducible refine (HC.out _ _ ?_ ?_).mono ?_); (focus (exact HRB.out.ex (Ex.of (HX3.out.later (by repeat (first | exact Ex.refl _ | refine Ex.alloc ?_ _ | refine Ex.ext ?_ _ _ | refine Ex.drew ?_ | refine Ex.drewN ?_ _))).inv.2.1))); (focus (exact hle)); rintro e w4 ⟨rfl, l4, d4, rfl⟩)))
          go_upto_region 29 with fail
          refine wp_world (R := fun W => TX wB p m bx a d' d' W) (HX3.out.later (by repeat (first | exact Ex.refl _ | refine Ex.alloc ?_ _ | refine Ex.ext ?_ _ _ | refine Ex.drew ?_ | refine Ex.drewN ?_ _))) ?_
          rintro wz hxz
          have z0 := hxz.mcells
          have hml := hxz.mlt
          have HXZ := Lib.hid hxz
          have HBY := Lib.hid (fun W (hW : Ex wz W) => (hxz.later hW).bytes)
          have HPW := Lib.hid (fun W (hW : Ex wz W) => (hxz.later hW).power)
          clear hxz
          obtain ⟨z0, z1⟩ := z0
          generalize d' = dz at *
          go_quiet ((first
            | (go_at_call 23; (with_reducible refine Calls.quiet_of_same ((HBY.out _ ?_).mono fun e w' ⟨k1, k2⟩ => ⟨k1, k2.symm⟩)); exact (by repeat (first | exact Ex.refl _ | refine Ex.alloc ?_ _ | refine Ex.ext ?_ _ _ | refine Ex.drew ?_ | refine Ex.drewN ?_ _)))
            | (go_at_call 33; (with_reducible refine Calls.quiet_of_same ((HPW.out _ ?_).mono fun e w' ⟨k1, k2⟩ => ⟨k1, k2.symm⟩)); exact (by repeat (first | exact Ex.refl _ | refine Ex.alloc ?_ _ | refine Ex.ext ?_ _ _ | refine Ex.drew ?_ | refine Ex.drewN ?_ _)))))
          all_goals go_wp2_with fail
          all_goals
            go_roundw
            case measure => simp [intOf]; omega
            case rel => exact ⟨k + 1, dz, by omega, by go_num, HXZ.out.inv.later (by repeat (first | exact Ex.refl _ | refine Ex.alloc ?_ _ | refine Ex.ext ?_ _ _ | refine Ex.drew ?_ | refine Ex.drewN ?_ _))⟩
        · have happ' : (a.kind.toList == [97, 112, 112, 101, 110, 100]) = false := by simpa using happ
          by_cases hcut' : (a.kind.toList == [99, 117, 116]) = true
          · as_aux_lemma =>
            have H1 := Lib.hid (fun W (h : TX wB p m bx a d d W) => pcut_x h a.n hnm E (Errs.sub HRB.out.1 (by decide)))
            have H2 := Lib.hid (fun W (h : TX wB p m bx a (d.cutD a.n) d W) => mcut_x h a.n hnm)
            have hle : d.cutE a.n ≤ 12 := cutE_le d a.n
            generalize d.cutE a.n = c at *
            generalize d.cutD a.n = d' at *
            go_upto_region 23 with fail
            go_region_held3 (fun W => W.cell? ⟨bx, 2, none⟩ = some (.int .i64 a.n)) ((first
              | exact (HX3.out.later (by repeat (first | exact Ex.refl _ | refine Ex.alloc ?_ _ | refine Ex.ext ?_ _ _ | refine Ex.drew ?_ | refine Ex.drewN ?_ _))).cells.2.2
              | exact (HX2.out.later (by repeat (first | exact Ex.refl _ | refine Ex.alloc ?_ _ | refine Ex.ext ?_ _ _ | refine Ex.drew ?_ | refine Ex.drewN ?_ _))).cells.2.2
              | exact (HXA.out.later (by repeat (first | exact Ex.refl _ | refine Ex.alloc ?_ _ | refine Ex.ext ?_ _ _ | refine Ex.drew ?_ | refine Ex.drewN ?_ _))).cells.2.2)) ((first
              | (go_at_call 31; (with_reducible refine (H1.out _ ?_).mono ?_); (focus (exact HXA.out.later (by repeat (first | exact Ex.refl _ | refine Ex.alloc ?_ _ | refine Ex.ext ?_ _ _ | refine Ex.drew ?_ | refine Ex.drewN ?_ _)))); rintro e w2 ⟨rfl, hx2⟩; have HX2 := Lib.hid hx2; clear hx2)
              | (go_at_call 38; (with_reducible refine (H2.out _ ?_).mono ?_); (focus (exact HX2.out.later (by repeat (first | exact Ex.refl _ | refine Ex.alloc ?_ _ | refine Ex.ext ?_ _ _ | refine Ex.drew ?_ | refine Ex.drewN ?_ _)))); rintro e w3 ⟨rfl, hx3⟩; have HX3 := Lib.hid hx3; clear hx3)
              | (go_at_call 36; (with_reducible refine (HC.out _ _ ?_ ?_).mono ?_); (focus (exact HRB.out.ex (Ex.of (HX3.out.later (by repeat (first | exact Ex.refl _ | refine Ex.alloc ?_ _ | refine Ex.ext ?_ _ _ | refine Ex.drew ?_ | refine Ex.drewN ?_ _))).inv.2.1))); (focus (exact hle)); rintro e w4 ⟨rfl, l4, d4, rfl⟩)))
            go_upto_region 29 with fail
            refine wp_world (R := fun W => TX wB p m bx a d' d' W) (HX3.out.later (by repeat (first | exact Ex.refl _ | refine Ex.alloc ?_ _ | refine Ex.ext ?_ _ _ | refine Ex.drew ?_ | refine Ex.drewN ?_ _))) ?_
            rintro wz hxz
            have z0 := hxz.mcells
            have hml := hxz.mlt
            have HXZ := Lib.hid hxz
            have HBY := Lib.hid (fun W (hW : Ex wz W) => (hxz.later hW).bytes)
            have HPW := Lib.hid (fun W (hW : Ex wz W) => (hxz.later hW).power)
            clear hxz
            obtain ⟨z0, z1⟩ := z0
            generalize d' = dz at *
            go_quiet ((first
              | (go_at_call 23; (with_reducible refine Calls.quiet_of_same ((HBY.out _ ?_).mono fun e w' ⟨k1, k2⟩ => ⟨k1, k2.symm⟩)); exact (by repeat (first | exact Ex.refl _ | refine Ex.alloc ?_ _ | refine Ex.ext ?_ _ _ | refine Ex.drew ?_ | refine Ex.drewN ?_ _)))
              | (go_at_call 33; (with_reducible refine Calls.quiet_of_same ((HPW.out _ ?_).mono fun e w' ⟨k1, k2⟩ => ⟨k1, k2.symm⟩)); exact (by repeat (first | exact Ex.refl _ | refine Ex.alloc ?_ _ | refine Ex.ext ?_ _ _ | refine Ex.drew ?_ | refine Ex.drewN ?_ _)))))
            all_goals go_wp2_with fail
            all_goals
              go_roundw
              case measure => simp [intOf]; omega
              case rel => exact ⟨k + 1, dz, by omega, by go_num, HXZ.out.inv.later (by repeat (first | exact Ex.refl _ | refine Ex.alloc ?_ _ | refine Ex.ext ?_ _ _ | refine Ex.drew ?_ | refine Ex.drewN ?_ _))⟩
          · have hcut2 : (a.kind.toList == [99, 117, 116]) = false := by simpa using hcut'
            by_cases hon : (a.kind.toList == [111, 110]) = true
            · as_aux_lemma =>
              have H1 := Lib.hid (on_x HXA.out)
              go_upto_region 27 with (go_at_call 39; refine (H1.out).mono ?_; rintro e w2 ⟨rfl, hx2⟩)
              have hm2 := hx2.mlt
              obtain ⟨m0, m1⟩ := hx2.mcells
              obtain ⟨m2, mf⟩ := hx2.mcell2
              have mf1 := mf 1
              have mf2 := mf 2
              have HX2 := Lib.hid hx2
              clear hx2 mf H1
              go_upto_region 29 with fail
              refine wp_world (R := fun W => TX wB p m bx a (⟨d.b, false, -1⟩ : Dk) (⟨d.b, false, -1⟩ : Dk) W) (HX2.out.on2) ?_
              rintro wz hxz
              have z0 := hxz.mcells
              have hml := hxz.mlt
              have HXZ := Lib.hid hxz
              have HBY := Lib.hid (fun W (hW : Ex wz W) => (hxz.later hW).bytes)
              have HPW := Lib.hid (fun W (hW : Ex wz W) => (hxz.later hW).power)
              clear hxz
              obtain ⟨z0, z1⟩ := z0
              generalize (⟨d.b, false, -1⟩ : Dk) = dz at *
              go_quiet ((first
                | (go_at_call 23; (with_reducible refine Calls.quiet_of_same ((HBY.out _ ?_).mono fun e w' ⟨k1, k2⟩ => ⟨k1, k2.symm⟩)); exact (by repeat (first | exact Ex.refl _ | refine Ex.alloc ?_ _ | refine Ex.ext ?_ _ _ | refine Ex.drew ?_ | refine Ex.drewN ?_ _)))
                | (go_at_call 33; (with_reducible refine Calls.quiet_of_same ((HPW.out _ ?_).mono fun e w' ⟨k1, k2⟩ => ⟨k1, k2.symm⟩)); exact (by repeat (first | exact Ex.refl _ | refine Ex.alloc ?_ _ | refine Ex.ext ?_ _ _ | refine Ex.drew ?_ | refine Ex.drewN ?_ _)))))
              all_goals go_wp2_with fail
              all_goals
                go_roundw
                case measure => simp [intOf]; omega
                case rel => exact ⟨k + 1, dz, by omega, by go_num, HXZ.out.inv.later (by repeat (first | exact Ex.refl _ | refine Ex.alloc ?_ _ | refine Ex.ext ?_ _ _ | refine Ex.drew ?_ | refine Ex.drewN ?_ _))⟩
            · have hon2 : (a.kind.toList == [111, 110]) = false := by simpa using hon
              as_aux_lemma =>
              have H1 := Lib.hid (precover_x HXA.out)
              have hml := HXA.out.mlt
              go_upto_region 16 with (go_at_call 32; refine (H1.out).mono ?_; rintro e w2 ⟨v, x, n, rfl, ⟨hrd, hrow⟩, hx2⟩)
              have HX2 := Lib.hid hx2
              have H2 := Lib.hid (mrecover_x hx2)
              have HRD := Lib.hid hrd
              have HROW := Lib.hid hrow
              clear hx2 hrd hrow
              go_upto_region 17 with (go_at_call 40; refine (H2.out).mono ?_; rintro e w3 ⟨v2, y, n2, rfl, ⟨hrd2, hrow2⟩, hx3, hfr⟩)
              obtain ⟨rfl, rfl⟩ := reads_same HRD.out hrd2
              have hrow3 := ownsRow_block HROW.out (fun g hg => hfr g (HROW.out.lt g hg).2 (fun e => by have := (HROW.out.lt g hg).1; omega))
              obtain ⟨ao1, cap1, rfl, _, _, hst1⟩ := strs_of_owned rfl hrow3
              obtain ⟨ao2, cap2, rfl, _, _, hst2⟩ := strs_of_owned rfl hrow2
              have hnx : y.length ≤ 1048576 := by
                have h1 := recs_ge y
                have h2 := HRD.out.le
                have h3 := HRD.out.2.1
                omega
              have HS1' := Lib.hid hst1
              have HS2' := Lib.hid hst2
              have HX3 := Lib.hid hx3
              have HSM := Lib.hid (fun W (h1 : StrsAt W ao1 y) (h2 : StrsAt W ao2 y) => sameTexts_same ao1 ao2 cap1 cap2 y W h1 h2 (by omega))
              clear hrow3 hst1 hst2 hx3 hfr hrd2 hrow2 H1 H2 HX2 HROW
              go_upto_region 29 with (go_at_call 24; refine (HSM.out _ (HS1'.out.ex (by repeat (first | exact Ex.refl _ | refine Ex.alloc ?_ _ | refine Ex.ext ?_ _ _ | refine Ex.drew ?_ | refine Ex.drewN ?_ _))) (HS2'.out.ex (by repeat (first | exact Ex.refl _ | refine Ex.alloc ?_ _ | refine Ex.ext ?_ _ _ | refine Ex.drew ?_ | refine Ex.drewN ?_ _)))).mono ?_; rintro e w5 ⟨rfl, l5, d5, rfl⟩)
              go_upto_region 29 with fail
              refine wp_world (R := fun W => TX wB p m bx a (⟨d.b.take n2, false, -1⟩ : Dk) (⟨d.b.take n2, false, -1⟩ : Dk) W) (HX3.out.later (by repeat (first | exact Ex.refl _ | refine Ex.alloc ?_ _ | refine Ex.ext ?_ _ _ | refine Ex.drew ?_ | refine Ex.drewN ?_ _))) ?_
              rintro wz hxz
              have z0 := hxz.mcells
              have hml := hxz.mlt
              have HXZ := Lib.hid hxz
              have HBY := Lib.hid (fun W (hW : Ex wz W) => (hxz.later hW).bytes)
              have HPW := Lib.hid (fun W (hW : Ex wz W) => (hxz.later hW).power)
              clear hxz
              obtain ⟨z0, z1⟩ := z0
              generalize (⟨d.b.take n2, false, -1⟩ : Dk) = dz at *
              go_quiet ((first
                | (go_at_call 23; (with_reducible refine Calls.quiet_of_same ((HBY.out _ ?_).mono fun e w' ⟨k1, k2⟩ => ⟨k1, k2.symm⟩)); exact (by repeat (first | exact Ex.refl _ | refine Ex.alloc ?_ _ | refine Ex.ext ?_ _ _ | refine Ex.drew ?_ | refine Ex.drewN ?_ _)))
                | (go_at_call 33; (with_reducible refine Calls.quiet_of_same ((HPW.out _ ?_).mono fun e w' ⟨k1, k2⟩ => ⟨k1, k2.symm⟩)); exact (by repeat (first | exact Ex.refl _ | refine Ex.alloc ?_ _ | refine Ex.ext ?_ _ _ | refine Ex.drew ?_ | refine Ex.drewN ?_ _)))))
              all_goals go_wp2_with fail
              all_goals
                go_roundw
                case measure => simp [intOf]; omega
                case rel => exact ⟨k + 1, dz, by omega, by go_num, HXZ.out.inv.later (by repeat (first | exact Ex.refl _ | refine Ex.alloc ?_ _ | refine Ex.ext ?_ _ _ | refine Ex.drew ?_ | refine Ex.drewN ?_ _))⟩
    · obtain ⟨q1, q2, q3⟩ := hS.mcell
      have zd := bytes_size d.b
      have HS := Lib.hid hS
      have HRD := Lib.hid (fun w => read_any d.b w (by omega))
      have HRT := Lib.hid (fun w => readTape_any d.b w (by omega))
      clear hS
      go_upto_region 32 with (go_at_call 20; refine (HRD.out _).mono ?_; rintro e w2 ⟨⟨v, x, n, rfl, hrd, hrow⟩, hx2⟩)
      have q4 := (hx2.below.cell (p := ⟨m, 0, none⟩) q3).trans q1
      have q5 : m < w2.heap.size := Nat.lt_of_lt_of_le q3 hx2.below.size
      have HX2 := Lib.hid hx2
      have HRX := Lib.hid hrd
      have HROW := Lib.hid hrow
      clear hx2 hrd hrow q1
      go_upto_region 33 with (go_at_call 41; refine (HRT.out _).mono ?_; rintro e w3 ⟨⟨v2, y, n2, rfl, hrd2, hrow2⟩, hx3⟩)
      obtain ⟨rfl, rfl⟩ := reads_same HRX.out hrd2
      obtain ⟨ao1, cap1, rfl, _, _, hst1⟩ := strs_of_owned rfl HROW.out
      obtain ⟨ao2, cap2, rfl, _, _, hst2⟩ := strs_of_owned rfl hrow2
      have hnx : y.length ≤ 1048576 := by
        have h1 := recs_ge y
        have h2 := HRX.out.le
        have h3 := HRX.out.2.1
        omega
      have HS1' := Lib.hid (hst1.ex hx3)
      have HS2' := Lib.hid hst2
      have HX3 := Lib.hid hx3
      have HSM := Lib.hid (fun W (h1 : StrsAt W ao1 y) (h2 : StrsAt W ao2 y) => sameTexts_same ao1 ao2 cap1 cap2 y W h1 h2 (by omega))
      clear hst1 hst2 hx3 hrd2 hrow2
      go_wp2_with (go_at_call 24; refine (HSM.out _ (HS1'.out.ex (by repeat (first | exact Ex.refl _ | refine Ex.alloc ?_ _ | refine Ex.ext ?_ _ _ | refine Ex.drew ?_ | refine Ex.drewN ?_ _))) (HS2'.out.ex (by repeat (first | exact Ex.refl _ | refine Ex.alloc ?_ _ | refine Ex.ext ?_ _ _ | refine Ex.drew ?_ | refine Ex.drewN ?_ _)))).mono ?_; rintro e w5 ⟨rfl, l5, d5, rfl⟩)
      all_goals go_ret
      all_goals exact ⟨rfl, ((((HX.out.trans (Ex.of HS.out.2.1)).trans HX2.out).trans HX3.out).trans (by repeat (first | exact Ex.refl _ | refine Ex.alloc ?_ _ | refine Ex.ext ?_ _ _ | refine Ex.drew ?_ | refine Ex.drewN ?_ _))).below⟩
end Go.Proofs.YtfeeibealokhfaaDoor
