/- What the closed fact of the tapes' statements computes. -/
import Derived.Test.YtfeeibealokhfaaDoorTape5
import Derived.Test.YtfeeibealokhfaaDoorNumRef
set_option linter.unusedSimpArgs false
set_option linter.unusedVariables false
namespace Go.Proofs.YtfeeibealokhfaaDoor
open Go.RowKit

set_option maxRecDepth 100000 in
theorem recRef_any (s : List UInt8) (w : World) (hs : s.length ≤ 10000) :
    Calls Tryd.prog 63 #[.string ⟨s.toArray⟩] w fun e w' => e = .returned (.string ⟨(recL s).toArray⟩) ∧ Ex w w' := by
  have hz := bytes_size s
  have HH := Lib.hid (fun n w h0 h1 => highRef_any n w h0 h1)
  have HC := Lib.hid (fun w => crcRef_any ⟨s.toArray⟩ w (by rw [bytes_size]; unfold maxLen; omega))
  have HL := Lib.hid (fun w => lowRef_any (crc s) w (crc_lt _))
  have e2 : (4294967295 : Int) - (s.length : Int) = ((4294967295 - s.length : Nat) : Int) := by omega
  have E1 := Lib.hid (be4_nums s.length)
  have E2 := Lib.hid (be4_nums (4294967295 - s.length))
  rw [le4_nums] at HL
  have q1 : (highB (s.length : Int)).length = 4 := rfl
  have q2 : (highB ((4294967295 : Int) - (s.length : Int))).length = 4 := rfl
  have q3 : (le4 (crc s)).length = 4 := rfl
  have z1 := strOfNums_size (highB (s.length : Int))
  have z2 := strOfNums_size (highB ((4294967295 : Int) - (s.length : Int)))
  have HE2 := Lib.hid e2
  clear e2
  go_enter Tryd.func63, Tryd.ntmps63
  go_wp2_with (first
    | (go_at_call 80; (with_reducible refine (HH.out (s.length : Int) _ (by omega) (by omega)).mono ?_); rintro e w1 ⟨rfl, l1, d1, rfl⟩)
    | (go_at_call 80; (with_reducible refine (HH.out ((4294967295 : Int) - (s.length : Int)) _ (by omega) (by omega)).mono ?_); rintro e w1 ⟨rfl, l3, d3, rfl⟩)
    | (go_at_call 82; refine (HC.out _).mono ?_; rintro e w1 ⟨rfl, rfl⟩)
    | (go_at_call 81; refine (HL.out _).mono ?_; rintro e w1 ⟨rfl, l2, d2, rfl⟩))
  all_goals go_ret
  all_goals exact ⟨by rw [HE2.out, E1.out, E2.out, bytes_add, bytes_add, bytes_add]; rfl, (by repeat (first | exact Ex.refl _ | refine Ex.alloc ?_ _ | refine Ex.ext ?_ _ _ | refine Ex.drew ?_ | refine Ex.drewN ?_ _))⟩
theorem ab_rec : oneL (recL [97, 32, 98]) = some [97, 32, 98] := by
  have := oneL_rec [97, 32, 98] [] (by decide)
  rwa [List.append_nil] at this
theorem ab_reads {l : List (List UInt8)} {n : Nat} (h : Reads (recL [97, 32, 98]) l n) : l = [[97, 32, 98]] ∧ n = (recL [97, 32, 98]).length := by
  refine reads_same (l := [[97, 32, 98]]) (n := (recL [97, 32, 98]).length) ⟨fun s hs => ?_, by rw [recs_one], [], by rw [recs_one, List.append_nil], rfl⟩ h
  rw [List.mem_singleton] at hs
  subst hs
  decide
set_option maxRecDepth 100000 in
set_option maxHeartbeats 1000000 in
theorem taped_any (w : World) (E : Nat → Addr) (hE : Errs E [2, 8, 9] w) : Calls Tryd.prog 19 #[] w fun e w' => e = .returned (.bool true) ∧ Ex w w' := by
  have g0 : (⟨[], false, -1⟩ : Dk).appE [97, 32, 98] = 0 := by decide
  have g1 : (⟨[], false, -1⟩ : Dk).app [97, 32, 98] = ⟨recL [97, 32, 98], false, -1⟩ := by unfold Dk.app; rfl
  have G0 := Lib.hid g0
  have G1 := Lib.hid g1
  have HE := Lib.hid hE
  have hgl := lt_of_cell (hE 9 (by decide))
  have HR := Lib.hid (fun w => recRef_any [97, 32, 98] w (by decide))
  clear g0 g1 hE
  have HN := Lib.hid (newDisk_any (fun _ => 0) 1 [] w (by decide))
  go_enter Tryd.func19, Tryd.ntmps19
  go_wp2_with fail
  refine HN.out.mono ?_
  rintro e w1 ⟨rfl, hT⟩
  obtain ⟨o1, hI1, hB1, ho1, hs1, _⟩ := hT.use (Below.refl w.heap.size w) (Nat.le_refl _) (fun b _ => by simp)
  have hA := append_any hI1 [97, 32, 98] (by decide) E (Errs.sub (HE.out.ex (Ex.of hB1)) (by decide)) (by rw [ho1 _ hgl]; decide)
  rw [G0.out, G1.out, errV_zero] at hA
  have HA := Lib.hid hA
  have HB1 := Lib.hid hB1
  have HO1 := Lib.hid ho1
  clear hT hI1 hB1 ho1 hA
  generalize w.heap.size + 1 = p at *
  go_wp2_with fail
  refine HA.out.mono ?_
  rintro e w2 ⟨rfl, hT⟩
  obtain ⟨o2, hI2, hB2, ho2, hs2, _⟩ := hT.use HB1.out hs1 (fun b hb => by rw [HO1.out b hb]; decide)
  have HRC := Lib.hid (recover_any hI2 0)
  have HB2 := Lib.hid hB2
  have HO2 := Lib.hid ho2
  clear hT hI2 hB2 ho2
  go_wp2_with fail
  refine HRC.out.mono ?_
  rintro e w3 ⟨v, l, n, rfl, hrd, hrow, hT⟩
  obtain ⟨rfl, rfl⟩ := ab_reads hrd
  obtain ⟨o3, hI3, hB3, ho3, hs3, _⟩ := hT.use HB2.out (by omega) (fun b hb => by rw [HO2.out b (by omega), HO1.out b hb]; decide)
  obtain ⟨ao, cap, rfl, _, _, hst⟩ := strs_of_owned rfl hrow
  have htk : (recL [97, 32, 98]).take (recL [97, 32, 98]).length = recL [97, 32, 98] := List.take_length
  rw [htk] at hI3
  have HST := Lib.hid hst
  have HBY := Lib.hid (fun w' (hx : Ex w3 w') => bytes_any (hI3.later hx))
  have HB3 := Lib.hid hB3
  clear hT hI3 hB3 ho3 hrd hrow hst htk
  have HS := Lib.hid (fun W bo c2 (h1 : StrsAt W ao [[97, 32, 98]]) (h2 : StrsAt W bo [[97, 32, 98]]) => sameTexts_same ao bo cap c2 [[97, 32, 98]] W h1 h2 (by decide))
  generalize recL [97, 32, 98] = R at *
  go_wp2_with (first
    | (go_at_call 24; refine (HS.out _ _ _ (HST.out.ex (by repeat (first | exact Ex.refl _ | refine Ex.alloc ?_ _ | refine Ex.ext ?_ _ _ | refine Ex.drew ?_ | refine Ex.drewN ?_ _))) (strs_one _ (alloc_top rfl))).mono ?_; rintro e w5 ⟨rfl, l5, d5, rfl⟩)
    | (go_at_call 23; refine (HBY.out _ (by repeat (first | exact Ex.refl _ | refine Ex.alloc ?_ _ | refine Ex.ext ?_ _ _ | refine Ex.drew ?_ | refine Ex.drewN ?_ _))).mono ?_; rintro e w6 ⟨rfl, rfl⟩)
    | (go_at_call 63; refine (HR.out _).mono ?_; rintro e w7 ⟨rfl, l7, d7, rfl⟩))
  all_goals go_ret
  all_goals exact ⟨by simp, (Ex.of HB3.out).trans (by repeat (first | exact Ex.refl _ | refine Ex.alloc ?_ _ | refine Ex.ext ?_ _ _ | refine Ex.drew ?_ | refine Ex.drewN ?_ _))⟩
end Go.Proofs.YtfeeibealokhfaaDoor
