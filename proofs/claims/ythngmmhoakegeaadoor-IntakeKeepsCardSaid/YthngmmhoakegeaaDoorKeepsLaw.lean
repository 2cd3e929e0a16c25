/- The walk of IntakeKeeps. -/
import Derived.Test.YthngmmhoakegeaaDoorTaken
import Derived.Test.YthngmmhoakegeaaDoorKeepsD
import Derived.Test.YthngmmhoakegeaaDoorActs
import Derived.Test.YthngmmhoakegeaaDoorEqAsk
set_option linter.unusedSimpArgs false
set_option linter.unusedVariables false
namespace Go.Proofs.YthngmmhoakegeaaDoor
open Go.RowKit

set_option maxRecDepth 100000 in
set_option maxHeartbeats 4000000 in
theorem intakeKeeps_ok (ao : Option Addr) (len cap : Nat) (l : List Act) (E : Nat → Addr) (w : World) (hE : Errs E [2, 4, 8] w) (hA : ActsAt w ao len l) (hlen : len ≤ 100) :
    Calls Tryd.prog 5 #[.slice ao len cap] w fun e w' => e = .returned (.bool true) ∧ Below w.heap.size w w' := by
  obtain ⟨hL, _, hwf, hz⟩ := hA
  have HZ := Lib.hid hz
  have HL := Lib.hid hL
  have HN := Lib.hid (fun w => intakeNew (fun _ => 0) 1 w)
  have HER := Lib.hid hE
  have hb1 : decide ((100 : Int) < (len : Int)) = false := decide_eq_false (by omega)
  clear hz hL hwf hE
  obtain ⟨i0, hi0, hz0, hz1, hz2⟩ := info_parts infoAsk
  go_enter Tryd.func5, Tryd.ntmps5
  go_wp2_with (go_at_call 15; refine (taken_any _).mono ?_; rintro e w1 ⟨rfl, l1, d1, rfl⟩)
  go_wp2_with (go_at_call 16; refine (HN.out _).mono ?_; rintro e wn ⟨rfl, hT⟩)
  have hsz : w.heap.size ≤ (ext w l1 d1).heap.size := by rw [ext_size]; omega
  obtain ⟨o1, hI1, hB1, hl1, hs1, _⟩ := hT.use (Ex.below ⟨l1, d1, rfl⟩) hsz (fun b _ => by simp)
  rw [ext_size] at hI1 hl1 hs1
  have HP := Lib.hid (KeepInv.start (w := w) hI1 (fun b hb => hl1 b (by omega)) (by omega) hB1 47)
  have hq0 : w.heap.size + l1.length < wn.heap.size + 1 := by omega
  have hq1 : w.heap.size ≤ wn.heap.size := by omega
  clear hT hI1 hB1 hl1 hs1
  generalize w.heap.size + l1.length = p at *
  generalize wn.heap.size = q at *
  go_loopw [6] (fun i wr => ∃ k : Nat, k ≤ len ∧ i = .int .i64 k ∧ KeepInv w p q wr) (fun i _ => len - (intOf i).toNat)
  case atStart => exact ⟨0, by omega, rfl, HP.out⟩
  case round =>
    obtain ⟨k, hk, rfl, own, s, turn, hI, hcl, hW, ho0, ho1, hs, hB⟩ := hrel
    by_cases hlt : k < len
    · obtain ⟨b, off, rfl, hbs, hzz⟩ := HZ.out (by omega)
      have hzk := hzz k (by rw [HL.out]; exact hlt)
      clear hzz
      have hcx : ∀ j, j < 10 → wr.cell? ⟨b, off + k * 10 + j, none⟩ = (l[k]'(by rw [HL.out]; exact hlt)).cells[j]? := fun j hj => (hB.cell (p := ⟨b, off + k * 10 + j, none⟩) hbs).trans (hzk j hj)
      clear hzk
      generalize l[k]'(by rw [HL.out]; exact hlt) = a at hcx
      have a0 := hcx 0 (by omega)
      have a1 := hcx 1 (by omega)
      have a2 := hcx 2 (by omega)
      have a3 := hcx 3 (by omega)
      have a4 := hcx 4 (by omega)
      have a5 := hcx 5 (by omega)
      have a6 := hcx 6 (by omega)
      have a7 := hcx 7 (by omega)
      have a8 := hcx 8 (by omega)
      have a9 := hcx 9 (by omega)
      simp only [Act.cells, List.getElem?_cons_zero, List.getElem?_cons_succ, Nat.add_zero] at a0 a1 a2 a3 a4 a5 a6 a7 a8 a9
      clear hcx
      have HI := Lib.hid hI
      have HW := Lib.hid hW
      have HO0 := Lib.hid ho0
      have HO1 := Lib.hid ho1
      have HB := Lib.hid hB
      clear hI hW ho0 ho1 hB
      by_cases hput : (a.kind.toList == [112, 117, 116]) = true
      · have hP := put_any (HI.out.alloc (.cells #[.string a.kind, .int .u8 a.a.kind, .int .i64 a.a.client, .int .i64 a.a.seq, .int .i64 a.a.item, .int .i64 a.a.side, .int .i64 a.a.price, .int .i64 a.a.qty, .int .i64 a.a.id, .int .i64 a.client] 32)) a.a E (Errs.ex HER.out (Ex.alloc (Ex.of HB.out) _))
        by_cases he : putErr s a.a = 0
        · rw [he, errV_zero] at hP
          have HP := Lib.hid hP
          have HE := Lib.hid he
          have hr : inR a.a.client 0 5 = true := by
            cases h : inR a.a.client 0 5
            · unfold putErr at he
              rw [h] at he
              split at he <;> simp at he
            · rfl
          obtain ⟨r0, r5⟩ := inR_iff.1 hr
          clear hP he hr
          go_wp2_with fail
          refine HP.out.mono ?_
          rintro e wp ⟨rfl, hT⟩
          obtain ⟨o2, hI2, hB2, ho2, hs2, hK2⟩ := hT.use (Below.alloc HB.out hs _) (by simp; omega) (fun b hb => by rw [HO0.out b hb]; decide)
          have hs3 : wr.heap.size + 1 ≤ wp.heap.size := by simpa using hs2
          clear hs2
          have hn0 : ∀ j, wp.cell? ⟨wr.heap.size, j, none⟩ = (#[.string a.kind, .int .u8 a.a.kind, .int .i64 a.a.client, .int .i64 a.a.seq, .int .i64 a.a.item, .int .i64 a.a.side, .int .i64 a.a.price, .int .i64 a.a.qty, .int .i64 a.a.id, .int .i64 a.client] : Array Value)[j]? := fun j =>
            (World.cell?_of_block (a := ⟨wr.heap.size, j, none⟩) (hK2.other (k := wr.heap.size) (by simp) (by rw [Nat.div_one, HO1.out _ (Nat.le_refl _)]; decide))).trans (by simp [go_sem])
          have n1 := hn0 1
          have n2 := hn0 2
          have n3 := hn0 3
          have n4 := hn0 4
          have n5 := hn0 5
          have n6 := hn0 6
          have n7 := hn0 7
          have n8 := hn0 8
          have n9 := hn0 9
          simp only [List.getElem?_toArray, List.getElem?_cons_zero, List.getElem?_cons_succ] at n1 n2 n3 n4 n5 n6 n7 n8 n9
          have hW2 := (HW.out.alloc (.cells #[.string a.kind, .int .u8 a.a.kind, .int .i64 a.a.client, .int .i64 a.a.seq, .int .i64 a.a.item, .int .i64 a.a.side, .int .i64 a.a.price, .int .i64 a.a.qty, .int .i64 a.a.id, .int .i64 a.client] 32)).kp hK2 (by decide) (own' := o2) (fun n hn e => by rw [ho2 n hn]; exact e)
          clear hn0
          obtain ⟨c, hcn⟩ : ∃ c : Nat, a.a.client = (c : Int) := ⟨a.a.client.toNat, by omega⟩
          have hc6 : c < 6 := by omega
          have hput2 : putTo s a.a = (fun d => if d = c then s c ++ [a.a] else s d) := by
            unfold putTo
            rw [if_pos HE.out, show a.a.client.toNat = c by omega]
          rw [hput2] at hI2
          obtain ⟨qo, qcap, o, hcell, hcap, hrow, h3, h0, hi, hend⟩ := hW2.pick c hc6
          have hl6 := hI2.2.1 c hc6
          simp only [if_true, List.length_append, List.length_singleton] at hl6
          have hqf := hW2.free c
          have hql := hW2.lt
          have hoa : o wr.heap.size ≠ 2 := fun e => by
            have h1 := hi wr.heap.size (by rw [e])
            rw [ho2 wr.heap.size (by simp), HO1.out _ (Nat.le_refl _)] at h1
            omega
          have hgrow := fun Wc hx k' u v' hv' => hW2.grow c hc6 o h3 hi hend (Wc := Wc) hx (k' := k') (u := u) (v' := v') a.a hv'
          have hcl2 : Cl (fun d => if d = c then s c ++ [a.a] else s d) := hcl.put (by omega)
          rw [hcn] at n2
          have hc0 : (0 : Int) ≤ (c : Int) := by omega
          have hc6' : (c : Int) < 6 := by omega
          have HG := Lib.hid hgrow
          have HI2 := Lib.hid hI2
          have HB2 := Lib.hid hB2
          have HO2 := Lib.hid ho2
          have HCN := Lib.hid hcn
          clear hgrow hI2 hB2 ho2 hcn hT hW2 hend hi hput2 HP hK2 hcl r0 r5
          go_wp2_with fail
          have hz : ∀ (Wc : World), Ex wp Wc → ∀ (k' : Nat) (u : World) (v' : Value), OwnRow (lab o Wc.heap.size k' 2) 2 (ov Wc o 1 2 k' u) 30 8 v' ((s c).length + 1) (flat Ask.cells (s c) ++ [.int .u8 a.a.kind, .int .i64 (c : Int), .int .i64 a.a.seq, .int .i64 a.a.item, .int .i64 a.a.side, .int .i64 a.a.price, .int .i64 a.a.qty, .int .i64 a.a.id]) → KeepInv w p q ((ov Wc o 1 2 k' u).setCell ⟨q, c, none⟩ v') := by
            intro Wc hx k' u v' hv'
            have h1 := HG.out Wc hx k' u v' (by rw [Ask.cells, HCN.out]; exact hv')
            obtain ⟨o3, hW3, hB3, ho3, hs4, hK3⟩ := h1.use HB2.out (by omega) (fun b hb => by rw [HO2.out b (by simp; omega), HO0.out b hb]; decide)
            exact KeepInv.of (HI2.out.kp hK3 (by decide) (own' := o3) (fun n hn e => by rw [ho3 n hn]; exact e)) hcl2 hW3 (fun b hb => by rw [ho3 b (by omega), HO2.out b (by simp; omega), HO0.out b hb]) (by omega) hB3
          have HZ2 := Lib.hid hz
          clear hz
          go_region_held3 (fun w' => w'.cell? ⟨wr.heap.size, 1, none⟩ = some (.int .u8 a.a.kind) ∧ w'.cell? ⟨wr.heap.size, 2, none⟩ = some (.int .i64 (c : Int)) ∧ w'.cell? ⟨wr.heap.size, 3, none⟩ = some (.int .i64 a.a.seq) ∧ w'.cell? ⟨wr.heap.size, 4, none⟩ = some (.int .i64 a.a.item) ∧ w'.cell? ⟨wr.heap.size, 5, none⟩ = some (.int .i64 a.a.side) ∧ w'.cell? ⟨wr.heap.size, 6, none⟩ = some (.int .i64 a.a.price) ∧ w'.cell? ⟨wr.heap.size, 7, none⟩ = some (.int .i64 a.a.qty) ∧ w'.cell? ⟨wr.heap.size, 8, none⟩ = some (.int .i64 a.a.id) ∧ w'.cell? ⟨q, c, none⟩ = some (.slice qo (s c).length qcap))
            (first | (refine ⟨?_, ?_, ?_, ?_, ?_, ?_, ?_, ?_, ?_⟩ <;> assumption) | (simp [go_sem, ↓IntWalk.iteOmega, *]; done))
            (((refine step_append_lab (own := o) (j := 2) ?_ (.tmp 109) (.tmp 112) 33 33 ?_ 30 i0 _ 8 64 Tryd.underlying33 hi0 hz0 hz1 hz2 ?_ (.slice qo (s c).length qcap) (.slice (some ⟨wp.heap.size, 0, none⟩) 1 1) (s c).length 1 (flat Ask.cells (s c)) [.int .u8 a.a.kind, .int .i64 (c : Int), .int .i64 a.a.seq, .int .i64 a.a.item, .int .i64 a.a.side, .int .i64 a.a.price, .int .i64 a.a.qty, .int .i64 a.a.id] ?_ ?_ ?_ ?_ ?_ ?_ ?_); (focus rfl); (focus rfl); (focus rfl); (focus rfl); (focus (simp [go_sem]; done)); (focus exact (by repeat (first | exact hrow | (refine OwnRow.alloc ?_ _) | (refine OwnRow.drew ?_) | (refine OwnRow.drewN ?_ _) | (refine OwnRow.exts ?_ _ _)))); (focus exact (Src.block Tryd.underlying33 1 1 (cs := #[.int .u8 a.a.kind, .int .i64 (c : Int), .int .i64 a.a.seq, .int .i64 a.a.item, .int .i64 a.a.side, .int .i64 a.a.price, .int .i64 a.a.qty, .int .i64 a.a.id]) (t := 30) (fr := (0, 0)) (heap_new (by simp [go_sem])) (by simp) (by simp [Value.oneCell']))); (focus (unfold maxLen; omega)); (focus omega); intro v' k' u hv' hnil; obtain ⟨ao', cap', rfl, hcap', _⟩ := hv'.form))
          have hKI := HZ2.out _ (by repeat (first | exact Ex.refl _ | refine Ex.alloc ?_ _ | refine Ex.ext ?_ _ _ | refine Ex.drew ?_ | refine Ex.drewN ?_ _)) _ _ _ hv'
          have HKI := Lib.hid hKI
          have HV := Lib.hid hv'
          have H3 := Lib.hid h3
          clear hKI hv'
          go_wp2_with fail
          clear h0
          go_loopw [14] (fun ci w3 => ∃ j : Nat, j ≤ 6 ∧ ci = .int .i64 j ∧ KeepInv w p q w3) (fun ci _ => 6 - (intOf ci).toNat)
          case atStart => exact ⟨0, by omega, rfl, (Eq.mp (congrArg (KeepInv w p q) (by simp [go_sem, ↓IntWalk.iteOmega, H3.out])) HKI.out)⟩
          case round =>
            obtain ⟨j, hj, rfl, hKI3⟩ := hrel
            have HK3 := Lib.hid hKI3
            by_cases hj6 : j < 6
            · obtain ⟨own3, s3, t3, hI3, _, hW3, _⟩ := hKI3
              obtain ⟨jo, jcap, _, hjc, _⟩ := hW3.pick j hj6
              have hWt := intakeWait_in hI3 j hj6
              have hl6 := hI3.2.1 j hj6
              have HWt := Lib.hid (fun w' (hx : Ex _ w') => intakeWait_in (hI3.later hx) j hj6)
              have hql3 := hW3.lt
              clear hI3 hW3 hWt
              have j0 : (0 : Int) ≤ (j : Int) := by omega
              have j6 : (j : Int) < 6 := by omega
              have hl6' : decide ((6 : Int) < ((s3 j).length : Int)) = false := decide_eq_false (by omega)
              go_wp2_with fail
              go_region_held3 (fun w' => w'.cell? ⟨q, j, none⟩ = some (.slice jo (s3 j).length jcap)) (first | assumption | (simp [go_sem, ↓IntWalk.iteOmega, *]; done)) (first | (go_at_call 19; refine (HWt.out _ (by repeat (first | exact Ex.refl _ | refine Ex.alloc ?_ _ | refine Ex.ext ?_ _ _ | refine Ex.drew ?_ | refine Ex.drewN ?_ _))).mono ?_; rintro e w5 ⟨rfl, l5, d5, rfl⟩))
              all_goals go_wp2_with fail
              all_goals
                go_roundw
                case measure => simp [intOf]; omega
                case rel => exact ⟨j + 1, by omega, by go_num, HK3.out.later (by repeat (first | exact Ex.refl _ | refine Ex.alloc ?_ _ | refine Ex.ext ?_ _ _ | refine Ex.drew ?_ | refine Ex.drewN ?_ _))⟩
            · clear hKI3
              go_wp2_with fail
              all_goals
                go_roundw
                case measure => simp [intOf]; omega
                case rel => exact ⟨k + 1, by omega, by go_num, HK3.out⟩
        · rw [errV_pos _ _ he] at hP
          have HP := Lib.hid hP
          have hput2 : putTo s a.a = s := by unfold putTo; rw [if_neg he]
          have HPT := Lib.hid hput2
          clear hP he hput2
          go_wp2_with fail
          refine HP.out.mono ?_
          rintro e wp ⟨rfl, hT⟩
          obtain ⟨o2, hI2, hB2, ho2, hs2, hK2⟩ := hT.use (Below.alloc HB.out hs _) (by simp; omega) (fun b hb => by rw [HO0.out b hb]; decide)
          have hs3 : wr.heap.size + 1 ≤ wp.heap.size := by simpa using hs2
          clear hs2
          have hn0 : ∀ j, wp.cell? ⟨wr.heap.size, j, none⟩ = (#[.string a.kind, .int .u8 a.a.kind, .int .i64 a.a.client, .int .i64 a.a.seq, .int .i64 a.a.item, .int .i64 a.a.side, .int .i64 a.a.price, .int .i64 a.a.qty, .int .i64 a.a.id, .int .i64 a.client] : Array Value)[j]? := fun j =>
            (World.cell?_of_block (a := ⟨wr.heap.size, j, none⟩) (hK2.other (k := wr.heap.size) (by simp) (by rw [Nat.div_one, HO1.out _ (Nat.le_refl _)]; decide))).trans (by simp [go_sem])
          have n1 := hn0 1
          have n2 := hn0 2
          have n3 := hn0 3
          have n4 := hn0 4
          have n5 := hn0 5
          have n6 := hn0 6
          have n7 := hn0 7
          have n8 := hn0 8
          have n9 := hn0 9
          simp only [List.getElem?_toArray, List.getElem?_cons_zero, List.getElem?_cons_succ] at n1 n2 n3 n4 n5 n6 n7 n8 n9
          have hW2 := (HW.out.alloc (.cells #[.string a.kind, .int .u8 a.a.kind, .int .i64 a.a.client, .int .i64 a.a.seq, .int .i64 a.a.item, .int .i64 a.a.side, .int .i64 a.a.price, .int .i64 a.a.qty, .int .i64 a.a.id, .int .i64 a.client] 32)).kp hK2 (by decide) (own' := o2) (fun n hn e => by rw [ho2 n hn]; exact e)
          clear hn0
          rw [HPT.out] at hI2
          have HKI := Lib.hid (KeepInv.of hI2 hcl hW2 (fun b hb => by rw [ho2 b (by simp; omega)]; exact HO0.out b hb) (by omega) hB2)
          clear hI2 hW2 ho2 hB2 hT hK2
          go_wp2_with fail
          go_loopw [14] (fun ci w3 => ∃ j : Nat, j ≤ 6 ∧ ci = .int .i64 j ∧ KeepInv w p q w3) (fun ci _ => 6 - (intOf ci).toNat)
          case atStart => exact ⟨0, by omega, rfl, HKI.out⟩
          case round =>
            obtain ⟨j, hj, rfl, hKI3⟩ := hrel
            have HK3 := Lib.hid hKI3
            by_cases hj6 : j < 6
            · obtain ⟨own3, s3, t3, hI3, _, hW3, _⟩ := hKI3
              obtain ⟨jo, jcap, _, hjc, _⟩ := hW3.pick j hj6
              have hWt := intakeWait_in hI3 j hj6
              have hl6 := hI3.2.1 j hj6
              have HWt := Lib.hid (fun w' (hx : Ex _ w') => intakeWait_in (hI3.later hx) j hj6)
              have hql3 := hW3.lt
              clear hI3 hW3 hWt
              have j0 : (0 : Int) ≤ (j : Int) := by omega
              have j6 : (j : Int) < 6 := by omega
              have hl6' : decide ((6 : Int) < ((s3 j).length : Int)) = false := decide_eq_false (by omega)
              go_wp2_with fail
              go_region_held3 (fun w' => w'.cell? ⟨q, j, none⟩ = some (.slice jo (s3 j).length jcap)) (first | assumption | (simp [go_sem, ↓IntWalk.iteOmega, *]; done)) (first | (go_at_call 19; refine (HWt.out _ (by repeat (first | exact Ex.refl _ | refine Ex.alloc ?_ _ | refine Ex.ext ?_ _ _ | refine Ex.drew ?_ | refine Ex.drewN ?_ _))).mono ?_; rintro e w5 ⟨rfl, l5, d5, rfl⟩))
              all_goals go_wp2_with fail
              all_goals
                go_roundw
                case measure => simp [intOf]; omega
                case rel => exact ⟨j + 1, by omega, by go_num, HK3.out.later (by repeat (first | exact Ex.refl _ | refine Ex.alloc ?_ _ | refine Ex.ext ?_ _ _ | refine Ex.drew ?_ | refine Ex.drewN ?_ _))⟩
            · clear hKI3
              go_wp2_with fail
              all_goals
                go_roundw
                case measure => simp [intOf]; omega
                case rel => exact ⟨k + 1, by omega, by go_num, HK3.out⟩
      · have hput' : (a.kind.toList == [112, 117, 116]) = false := by simpa using hput
        by_cases hclr : (a.kind.toList == [99, 108, 101, 97, 114]) = true
        · cases hr : inR a.client 0 5
          · have hC := intakeClear_out (w := wr.alloc (.cells #[.string a.kind, .int .u8 a.a.kind, .int .i64 a.a.client, .int .i64 a.a.seq, .int .i64 a.a.item, .int .i64 a.a.side, .int .i64 a.a.price, .int .i64 a.a.qty, .int .i64 a.a.id, .int .i64 a.client] 32)) (p := p) a.client hr
            have HC := Lib.hid hC
            clear hC
            rcases inR_not.1 hr with hlo | hhi
            · clear hr
              go_wp2_with fail
              refine HC.out.mono ?_
              rintro e wp ⟨rfl, l2, d2, rfl⟩
              have HKI : Hid (KeepInv w p q (ext (wr.alloc (.cells #[.string a.kind, .int .u8 a.a.kind, .int .i64 a.a.client, .int .i64 a.a.seq, .int .i64 a.a.item, .int .i64 a.a.side, .int .i64 a.a.price, .int .i64 a.a.qty, .int .i64 a.a.id, .int .i64 a.client] 32)) l2 d2)) := Lib.hid (KeepInv.later ⟨own, s, turn, HI.out, hcl, HW.out, HO0.out, HO1.out, hs, HB.out⟩ (by repeat (first | exact Ex.refl _ | refine Ex.alloc ?_ _ | refine Ex.ext ?_ _ _ | refine Ex.drew ?_ | refine Ex.drewN ?_ _)))
              go_wp2_with fail
              all_goals
                go_roundw
                case measure => simp [intOf]; omega
                case rel => exact ⟨k + 1, by omega, by go_num, HKI.out⟩
            · clear hr
              have hhi' : ¬ a.client < 0 := by omega
              go_wp2_with fail
              refine HC.out.mono ?_
              rintro e wp ⟨rfl, l2, d2, rfl⟩
              have HKI : Hid (KeepInv w p q (ext (wr.alloc (.cells #[.string a.kind, .int .u8 a.a.kind, .int .i64 a.a.client, .int .i64 a.a.seq, .int .i64 a.a.item, .int .i64 a.a.side, .int .i64 a.a.price, .int .i64 a.a.qty, .int .i64 a.a.id, .int .i64 a.client] 32)) l2 d2)) := Lib.hid (KeepInv.later ⟨own, s, turn, HI.out, hcl, HW.out, HO0.out, HO1.out, hs, HB.out⟩ (by repeat (first | exact Ex.refl _ | refine Ex.alloc ?_ _ | refine Ex.ext ?_ _ _ | refine Ex.drew ?_ | refine Ex.drewN ?_ _)))
              go_wp2_with fail
              all_goals
                go_roundw
                case measure => simp [intOf]; omega
                case rel => exact ⟨k + 1, by omega, by go_num, HKI.out⟩
          · obtain ⟨r0, r5⟩ := inR_iff.1 hr
            obtain ⟨c, hcn⟩ : ∃ c : Nat, a.client = (c : Int) := ⟨a.client.toNat, by omega⟩
            have hc6 : c < 6 := by omega
            have HCN := Lib.hid hcn
            have HC := Lib.hid (intakeClear_at (HI.out.alloc (.cells #[.string a.kind, .int .u8 a.a.kind, .int .i64 a.a.client, .int .i64 a.a.seq, .int .i64 a.a.item, .int .i64 a.a.side, .int .i64 a.a.price, .int .i64 a.a.qty, .int .i64 a.a.id, .int .i64 a.client] 32)) c hc6 a.client hcn)
            have hc0 : (0 : Int) ≤ (c : Int) := by omega
            have hc6' : (c : Int) < 6 := by omega
            clear hr r0 r5 hcn
            go_wp2_with fail
            refine HC.out.mono ?_
            rintro e wp ⟨rfl, hT⟩
            obtain ⟨o2, hI2, hB2, ho2, hs2, hK2⟩ := hT.use (Below.alloc HB.out hs _) (by simp; omega) (fun b hb => by rw [HO0.out b hb]; decide)
            have hs3 : wr.heap.size + 1 ≤ wp.heap.size := by simpa using hs2
            clear hs2
            have hn0 : ∀ j, wp.cell? ⟨wr.heap.size, j, none⟩ = (#[.string a.kind, .int .u8 a.a.kind, .int .i64 a.a.client, .int .i64 a.a.seq, .int .i64 a.a.item, .int .i64 a.a.side, .int .i64 a.a.price, .int .i64 a.a.qty, .int .i64 a.a.id, .int .i64 a.client] : Array Value)[j]? := fun j =>
              (World.cell?_of_block (a := ⟨wr.heap.size, j, none⟩) (hK2.other (k := wr.heap.size) (by simp) (by rw [Nat.div_one, HO1.out _ (Nat.le_refl _)]; decide))).trans (by simp [go_sem])
            have n1 := hn0 1
            have n2 := hn0 2
            have n3 := hn0 3
            have n4 := hn0 4
            have n5 := hn0 5
            have n6 := hn0 6
            have n7 := hn0 7
            have n8 := hn0 8
            have n9 := hn0 9
            simp only [List.getElem?_toArray, List.getElem?_cons_zero, List.getElem?_cons_succ] at n1 n2 n3 n4 n5 n6 n7 n8 n9
            have hW2 := (HW.out.alloc (.cells #[.string a.kind, .int .u8 a.a.kind, .int .i64 a.a.client, .int .i64 a.a.seq, .int .i64 a.a.item, .int .i64 a.a.side, .int .i64 a.a.price, .int .i64 a.a.qty, .int .i64 a.a.id, .int .i64 a.client] 32)).kp hK2 (by decide) (own' := o2) (fun n hn e => by rw [ho2 n hn]; exact e)
            clear hn0
            rw [HCN.out] at n9
            obtain ⟨qo, qcap, o, hcell, hcap, hrow, h3, h0, hi, hend⟩ := hW2.pick c hc6
            have hqf := hW2.free c
            have hql := hW2.lt
            have hst := hW2.store c hc6 (v' := .slice none 0 0) (x := []) (RowAt.nil _ _ _) (fun g hg => by cases hg)
            have HKI := Lib.hid (KeepInv.of (hI2.setCell (q := ⟨q, c, none⟩) (by rw [hW2.main]; decide) (.slice none 0 0)) hcl.clear hst (fun b hb => by rw [ho2 b (by simp; omega)]; exact HO0.out b hb) (by simp [World.setCell]; omega) (Below.setCell hB2 (by show w.heap.size ≤ q; omega) _))
            clear hI2 hW2 ho2 hB2 hT hK2 hst hend hi h0 hrow h3 HC
            go_wp2_with fail
            go_loopw [14] (fun ci w3 => ∃ j : Nat, j ≤ 6 ∧ ci = .int .i64 j ∧ KeepInv w p q w3) (fun ci _ => 6 - (intOf ci).toNat)
            case atStart => exact ⟨0, by omega, rfl, HKI.out⟩
            case round =>
              obtain ⟨j, hj, rfl, hKI3⟩ := hrel
              have HK3 := Lib.hid hKI3
              by_cases hj6 : j < 6
              · obtain ⟨own3, s3, t3, hI3, _, hW3, _⟩ := hKI3
                obtain ⟨jo, jcap, _, hjc, _⟩ := hW3.pick j hj6
                have hWt := intakeWait_in hI3 j hj6
                have hl6 := hI3.2.1 j hj6
                have HWt := Lib.hid (fun w' (hx : Ex _ w') => intakeWait_in (hI3.later hx) j hj6)
                have hql3 := hW3.lt
                clear hI3 hW3 hWt
                have j0 : (0 : Int) ≤ (j : Int) := by omega
                have j6 : (j : Int) < 6 := by omega
                have hl6' : decide ((6 : Int) < ((s3 j).length : Int)) = false := decide_eq_false (by omega)
                go_wp2_with fail
                go_region_held3 (fun w' => w'.cell? ⟨q, j, none⟩ = some (.slice jo (s3 j).length jcap)) (first | assumption | (simp [go_sem, ↓IntWalk.iteOmega, *]; done)) (first | (go_at_call 19; refine (HWt.out _ (by repeat (first | exact Ex.refl _ | refine Ex.alloc ?_ _ | refine Ex.ext ?_ _ _ | refine Ex.drew ?_ | refine Ex.drewN ?_ _))).mono ?_; rintro e w5 ⟨rfl, l5, d5, rfl⟩))
                all_goals go_wp2_with fail
                all_goals
                  go_roundw
                  case measure => simp [intOf]; omega
                  case rel => exact ⟨j + 1, by omega, by go_num, HK3.out.later (by repeat (first | exact Ex.refl _ | refine Ex.alloc ?_ _ | refine Ex.ext ?_ _ _ | refine Ex.drew ?_ | refine Ex.drewN ?_ _))⟩
              · clear hKI3
                go_wp2_with fail
                all_goals
                  go_roundw
                  case measure => simp [intOf]; omega
                  case rel => exact ⟨k + 1, by omega, by go_num, HK3.out⟩
        · have hclr' : (a.kind.toList == [99, 108, 101, 97, 114]) = false := by simpa using hclr
          have HD := Lib.hid (drain_any (j := 3) (by decide) (HI.out.alloc (.cells #[.string a.kind, .int .u8 a.a.kind, .int .i64 a.a.client, .int .i64 a.a.seq, .int .i64 a.a.item, .int .i64 a.a.side, .int .i64 a.a.price, .int .i64 a.a.qty, .int .i64 a.a.id, .int .i64 a.client] 32)))
          go_wp2_with fail
          refine HD.out.mono ?_
          rintro e wp ⟨v, rfl, hT0⟩
          obtain ⟨o2, ⟨hI2, hR⟩, hB2, ho2, hs2, hK2⟩ := hT0.use (Below.alloc HB.out hs _) (by simp; omega) (fun b hb => by rw [HO0.out b hb]; decide)
          have hs3 : wr.heap.size + 1 ≤ wp.heap.size := by simpa using hs2
          have hW2 := (HW.out.alloc (.cells #[.string a.kind, .int .u8 a.a.kind, .int .i64 a.a.client, .int .i64 a.a.seq, .int .i64 a.a.item, .int .i64 a.a.side, .int .i64 a.a.price, .int .i64 a.a.qty, .int .i64 a.a.id, .int .i64 a.client] 32)).kp hK2 (by decide) (own' := o2) (fun n hn e => by rw [ho2 n hn]; exact e)
          obtain ⟨xo, xcap, rfl, hxc, hxm, _⟩ := hR.form
          unfold maxLen at hxm
          have hfo : ∀ c : Nat, c < 6 → (outOf s turn 6).filter (fun a => a.client == (c : Int)) = (s c).take 2 := fun c hc => filter_out6 hc hcl
          have hmem := mem_out (turn := turn) hcl 6
          have ho4 : ∀ n, n < wp.heap.size → (if n < wp.heap.size then o2 n else 0) = o2 n := fun n hn => if_pos hn
          have hq3 : w.heap.size ≤ wp.heap.size := by omega
          have hKD : KeepD w p q wp.heap.size (fun n => if n < wp.heap.size then o2 n else 0) s ((turn + 1) % 6) (outOf s turn 6) (.slice xo (outOf s turn 6).length xcap) 0 (wp.alloc (.cells #[.int .i64 0, .int .i64 0, .int .i64 0, .int .i64 0, .int .i64 0, .int .i64 0] 48)) := by
            refine ⟨(hI2.relabel (fun n hn e => by simp [hn, e])).alloc _, ((hW2.relabel (fun n hn e => by simp [hn, e])).alloc _).congr (fun d _ => by rw [cnt_zero]; rfl), (OwnRow.relabel hR (fun n hn e => by simp [hn, e])).alloc _, ⟨_, World.rowIs_alloc wp _ _ _ (fun i hi => ?_)⟩, by simp, by simp; omega, Below.alloc hB2 hq3 _⟩
            simp at hi
            rw [cnt_zero]
            have : i = 0 ∨ i = 1 ∨ i = 2 ∨ i = 3 ∨ i = 4 ∨ i = 5 := by omega
            rcases this with rfl | rfl | rfl | rfl | rfl | rfl <;> rfl
          have HFO := Lib.hid hfo
          have HMEM := Lib.hid hmem
          have HKD := Lib.hid hKD
          have HOZ : Hid (∀ b, b < w.heap.size → (fun n => if n < wp.heap.size then o2 n else 0) b = 0) := Lib.hid (fun b hb => by show (if b < wp.heap.size then o2 b else 0) = 0; rw [if_pos (by omega), ho2 b (by simp; omega)]; exact HO0.out b hb)
          clear hT0 hs2 hfo hmem hKD hI2 hR hB2 ho2 hK2 hW2 ho4
          generalize outOf s turn 6 = x at *
          generalize (fun n => if n < wp.heap.size then o2 n else 0) = o4 at *
          have hx63 : (x.length : Int) ≤ 9223372036854775807 := by omega
          go_wp2_with fail
          generalize hmb : wp.heap.size = mb at *
          have HMB := Lib.hid hmb
          clear hmb
          go_loopw [12] (fun ji w4 => ∃ j : Nat, j ≤ x.length ∧ ji = .int .i64 j ∧ KeepD w p q mb o4 s ((turn + 1) % 6) x (.slice xo x.length xcap) j w4) (fun ji _ => x.length - (intOf ji).toNat)
          case atStart => exact ⟨0, by omega, rfl, HKD.out⟩
          case round =>
            obtain ⟨j, hj, rfl, hkd⟩ := hrel
            have HK4 := Lib.hid hkd
            by_cases hjx : j < x.length
            · obtain ⟨_, hW4, hR4, ⟨mt, hM4⟩, hom, hs4, hB4⟩ := hkd
              have hcr := HMEM.out x[j] (List.getElem_mem hjx)
              obtain ⟨c, hcn⟩ : ∃ c : Nat, x[j].client = (c : Int) := ⟨x[j].client.toNat, by omega⟩
              have hc6 : c < 6 := by omega
              obtain ⟨hm2, rest, hrest⟩ := rest_of hjx hc6 hcn HFO.out
              obtain ⟨qo, qcap, _, hcell, hcap, hrow, _⟩ := hW4.pick c hc6
              rw [hrest] at hcell hcap hrow
              obtain ⟨g2, off2, cap2, hv2, _, _, hg2, hcell2⟩ := hrow.opened (by simp)
              simp only [Value.slice.injEq] at hv2
              obtain ⟨rfl, -, rfl⟩ := hv2
              obtain ⟨g3, off3, cap3, hv3, _, _, hg3, hcell3⟩ := hR4.opened (by omega)
              simp only [Value.slice.injEq] at hv3
              obtain ⟨rfl, -, rfl⟩ := hv3
              have hr1 := hrow.1.from 1 (by simp)
              rw [flat_drop (N := 8) (fun _ => rfl), List.drop_one, List.tail_cons, List.length_cons, Nat.add_sub_cancel, Nat.one_mul] at hr1
              have hz2 : ∀ f, f < 8 → wr.cell? ⟨g2, off2 + f, none⟩ = x[j].cells[f]? := fun f hf => by
                have h := hcell2 f (by simp; omega)
                rw [show f = 0 * 8 + f by omega, flat_get (N := 8) (fun _ => rfl) (x[j] :: rest) 0 (by simp) f hf, Nat.zero_mul, Nat.zero_add] at h
                exact h
              have hz3 : ∀ f, f < 8 → wr.cell? ⟨g3, off3 + j * 8 + f, none⟩ = x[j].cells[f]? := fun f hf => by
                have h := hcell3 (j * 8 + f) (by omega)
                rw [flat_get (N := 8) (fun _ => rfl) x j hjx f hf, ← Nat.add_assoc] at h
                exact h
              have hmc := hM4.cell hc6
              have hmf := hM4.frozen c
              have hml := hM4.lt
              have hqf := hW4.free c
              have hql := hW4.lt
              have hqm := hW4.main
              have hne1 : mb ≠ q := fun e => by rw [e, hqm] at hom; omega
              have hne2 : q ≠ mb := Ne.symm hne1
              have hst := fun (v' : Value) hr hb => HK4.out.step (v' := v') hq1 hq3 hjx hc6 hcn hrest hr hb
              have hqe := fun w => (neAsk x[j] x[j] w).trans (by rw [decide_eq_true rfl]; rfl : _ = Result.ok (.bool false) w)
              simp only [List.length_cons] at hcell hcap
              generalize x[j] = a1 at *
              generalize cnt x c j = m at *
              have y0 := hz2 0 (by omega)
              have y1 := hz2 1 (by omega)
              have y2 := hz2 2 (by omega)
              have y3 := hz2 3 (by omega)
              have y4 := hz2 4 (by omega)
              have y5 := hz2 5 (by omega)
              have y6 := hz2 6 (by omega)
              have y7 := hz2 7 (by omega)
              have z0 := hz3 0 (by omega)
              have z1 := hz3 1 (by omega)
              have z2 := hz3 2 (by omega)
              have z3 := hz3 3 (by omega)
              have z4 := hz3 4 (by omega)
              have z5 := hz3 5 (by omega)
              have z6 := hz3 6 (by omega)
              have z7 := hz3 7 (by omega)
              simp only [Ask.cells, List.getElem?_cons_zero, List.getElem?_cons_succ, Nat.add_zero] at y0 y1 y2 y3 y4 y5 y6 y7 z0 z1 z2 z3 z4 z5 z6 z7
              obtain ⟨b1, b2, b3, b4, b5, b6, b7, b8⟩ := a1
              simp only at hcn y0 y1 y2 y3 y4 y5 y6 y7 z0 z1 z2 z3 z4 z5 z6 z7 hqe
              subst hcn
              have HST := Lib.hid hst
              have HR1 := Lib.hid hr1
              have HCELL := Lib.hid hcell
              have c0 : (0 : Int) ≤ (c : Int) := by omega
              have c6 : (c : Int) < 6 := by omega
              have c6' : decide ((6 : Int) ≤ (c : Int)) = false := decide_eq_false (by omega)
              have j0 : (0 : Int) ≤ (j : Int) := by omega
              have jx : (j : Int) < (x.length : Int) := by omega
              have m2 : decide ((2 : Int) < (m : Int) + 1) = false := decide_eq_false (by omega)
              have r0 : (((rest.length : Int) + 1) == 0) = false := by simp; omega
              have r1 : (0 : Int) < (rest.length : Int) + 1 := by omega
              clear hz2 hz3 hcell2 hcell3 hst hr1 hrow hR4 hW4 hM4 hrest hcr hB4 hxc hom hqm
              go_wp2_with fail
              go_region_held3 (fun w' => w'.cell? ⟨q, c, none⟩ = some (.slice (some ⟨g2, off2, none⟩) (rest.length + 1) qcap) ∧
                  w'.cell? ⟨g2, off2, none⟩ = some (.int .u8 b1) ∧ w'.cell? ⟨g2, off2 + 1, none⟩ = some (.int .i64 (c : Int)) ∧ w'.cell? ⟨g2, off2 + 2, none⟩ = some (.int .i64 b3) ∧ w'.cell? ⟨g2, off2 + 3, none⟩ = some (.int .i64 b4) ∧ w'.cell? ⟨g2, off2 + 4, none⟩ = some (.int .i64 b5) ∧ w'.cell? ⟨g2, off2 + 5, none⟩ = some (.int .i64 b6) ∧ w'.cell? ⟨g2, off2 + 6, none⟩ = some (.int .i64 b7) ∧ w'.cell? ⟨g2, off2 + 7, none⟩ = some (.int .i64 b8) ∧
                  w'.cell? ⟨g3, off3 + j * 8, none⟩ = some (.int .u8 b1) ∧ w'.cell? ⟨g3, off3 + j * 8 + 1, none⟩ = some (.int .i64 (c : Int)) ∧ w'.cell? ⟨g3, off3 + j * 8 + 2, none⟩ = some (.int .i64 b3) ∧ w'.cell? ⟨g3, off3 + j * 8 + 3, none⟩ = some (.int .i64 b4) ∧ w'.cell? ⟨g3, off3 + j * 8 + 4, none⟩ = some (.int .i64 b5) ∧ w'.cell? ⟨g3, off3 + j * 8 + 5, none⟩ = some (.int .i64 b6) ∧ w'.cell? ⟨g3, off3 + j * 8 + 6, none⟩ = some (.int .i64 b7) ∧ w'.cell? ⟨g3, off3 + j * 8 + 7, none⟩ = some (.int .i64 b8))
                (first | (refine ⟨?_, ?_, ?_, ?_, ?_, ?_, ?_, ?_, ?_, ?_, ?_, ?_, ?_, ?_, ?_, ?_, ?_⟩ <;> assumption) | (simp [go_sem, ↓IntWalk.iteOmega, *]; done)) (fail)
              by_cases hq1 : qcap = 1
              · have e0 : rest.length = 0 := by omega
                have HR2 : Hid (RowAt wr 30 8 (.slice (some ⟨g2, off2, none⟩) 0 0) rest.length (flat Ask.cells rest)) := by
                  have h := HR1.out
                  rw [hq1, if_pos rfl, e0] at h
                  rw [e0]
                  exact h
                clear e0
                subst hq1
                go_wp2_with fail
                all_goals
                  go_roundw
                  case measure => simp [intOf]; omega
                  case rel => exact ⟨j + 1, by omega, by go_num, (HST.out _ HR2.out (fun g hg => ⟨_, _, _, HCELL.out, hg⟩)).drew⟩
              · have HR2 : Hid (RowAt wr 30 8 (.slice (some ⟨g2, off2 + 8, none⟩) rest.length (qcap - 1)) rest.length (flat Ask.cells rest)) := by
                  have h := HR1.out
                  rw [if_neg hq1] at h
                  exact h
                have hq2 : 1 < qcap := by omega
                go_wp2_with fail
                all_goals
                  go_roundw
                  case measure => simp [intOf]; omega
                  case rel => exact ⟨j + 1, by omega, by go_num, (HST.out _ HR2.out (fun g hg => ⟨_, _, _, HCELL.out, hg⟩)).drew⟩
            · have HKI : Hid (KeepInv w p q wr) := Lib.hid (by
                obtain rfl : j = x.length := by omega
                exact HK4.out.done HOZ.out hcl HFO.out)
              clear hkd
              go_wp2_with fail
              go_loopw [14] (fun ci w3 => ∃ j : Nat, j ≤ 6 ∧ ci = .int .i64 j ∧ KeepInv w p q w3) (fun ci _ => 6 - (intOf ci).toNat)
              case atStart => exact ⟨0, by omega, rfl, HKI.out⟩
              case round =>
                obtain ⟨j, hj, rfl, hKI3⟩ := hrel
                have HK3 := Lib.hid hKI3
                by_cases hj6 : j < 6
                · obtain ⟨own3, s3, t3, hI3, _, hW3, _⟩ := hKI3
                  obtain ⟨jo, jcap, _, hjc, _⟩ := hW3.pick j hj6
                  have hWt := intakeWait_in hI3 j hj6
                  have hl6 := hI3.2.1 j hj6
                  have HWt := Lib.hid (fun w' (hx : Ex _ w') => intakeWait_in (hI3.later hx) j hj6)
                  have hql3 := hW3.lt
                  clear hI3 hW3 hWt
                  have j0 : (0 : Int) ≤ (j : Int) := by omega
                  have j6 : (j : Int) < 6 := by omega
                  have hl6' : decide ((6 : Int) < ((s3 j).length : Int)) = false := decide_eq_false (by omega)
                  go_wp2_with fail
                  go_region_held3 (fun w' => w'.cell? ⟨q, j, none⟩ = some (.slice jo (s3 j).length jcap)) (first | assumption | (simp [go_sem, ↓IntWalk.iteOmega, *]; done)) (first | (go_at_call 19; refine (HWt.out _ (by repeat (first | exact Ex.refl _ | refine Ex.alloc ?_ _ | refine Ex.ext ?_ _ _ | refine Ex.drew ?_ | refine Ex.drewN ?_ _))).mono ?_; rintro e w5 ⟨rfl, l5, d5, rfl⟩))
                  all_goals go_wp2_with fail
                  all_goals
                    go_roundw
                    case measure => simp [intOf]; omega
                    case rel => exact ⟨j + 1, by omega, by go_num, HK3.out.later (by repeat (first | exact Ex.refl _ | refine Ex.alloc ?_ _ | refine Ex.ext ?_ _ _ | refine Ex.drew ?_ | refine Ex.drewN ?_ _))⟩
                · clear hKI3
                  go_wp2_with fail
                  all_goals
                    go_roundw
                    case measure => simp [intOf]; omega
                    case rel => exact ⟨k + 1, by omega, by go_num, HK3.out⟩
    · have HB := Lib.hid hB
      clear hI hW ho0 ho1 hB
      go_wp2_with fail
      all_goals go_ret
      all_goals exact ⟨rfl, HB.out⟩
end Go.Proofs.YthngmmhoakegeaaDoor
