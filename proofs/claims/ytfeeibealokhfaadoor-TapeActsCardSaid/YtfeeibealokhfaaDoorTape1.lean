/- What high, record and one of package tape compute. -/
import Derived.Test.YtfeeibealokhfaaDoorTapeL
import Derived.Test.YtfeeibealokhfaaDoorBytes
import Derived.Test.YtfeeibealokhfaaDoorLow
import Derived.Deep.RegionWith
set_option linter.unusedSimpArgs false
set_option linter.unusedVariables false
namespace Go.Proofs.YtfeeibealokhfaaDoor
open Go.RowKit

theorem toNat_div (n k : Nat) : ((n : Int) / (k : Int)).toNat = n / k := by rw [← Int.natCast_ediv]; rfl
theorem be4_nums (n : Nat) : strOfNums (highB (n : Int)) = ⟨(be4 n).toArray⟩ := by
  have e1 : ((n : Int) / 16777216).toNat = n / 16777216 := by omega
  have e2 : ((n : Int) / 65536 % 256).toNat = n / 65536 % 256 := by omega
  have e3 : ((n : Int) / 256 % 256).toNat = n / 256 % 256 := by omega
  have e4 : ((n : Int) % 256).toNat = n % 256 := by omega
  simp only [strOfNums, highB, be4, List.map_cons, List.map_nil, e1, e2, e3, e4]
theorem le4_nums (n : Nat) : strOfNums (lowB n) = ⟨(le4 n).toArray⟩ := by
  have e1 : ((n : Int) / 16777216).toNat = n / 16777216 := by omega
  have e2 : ((n : Int) / 65536 % 256).toNat = n / 65536 % 256 := by omega
  have e3 : ((n : Int) / 256 % 256).toNat = n / 256 % 256 := by omega
  have e4 : ((n : Int) % 256).toNat = n % 256 := by omega
  simp only [strOfNums, lowB, le4, List.map_cons, List.map_nil, e1, e2, e3, e4]
set_option maxRecDepth 100000 in
theorem thigh_any (n : Nat) (w : World) (h1 : n < 4294967296) :
    Calls Tryd.prog 83 #[.int .u32 (n : Int)] w fun e w' => e = .returned (.string ⟨(be4 n).toArray⟩) ∧ Ex w w' := by
  have hconv := run_convert_bytes_arg (P := Tryd.prog) (w.alloc (.cells #[.int .u8 ((n : Int) / 16777216), .int .u8 ((n : Int) / 65536 % 256), .int .u8 ((n : Int) / 256 % 256), .int .u8 ((n : Int) % 256)] 5))
    119 5 Tryd.underlying119 Tryd.underlying5 w.heap.size 0 4 4 (highB n) rfl
    (fun i hi => by
      match i, hi with
      | 0, _ => simp [highB]
      | 1, _ => simp [highB]
      | 2, _ => simp [highB]
      | 3, _ => simp [highB]) 9 Tryd.underlying9
  rw [be4_nums] at hconv
  go_enter Tryd.func83, Tryd.ntmps83
  go_wp2
  go_ret
  exact ⟨rfl, (by repeat (first | exact Ex.refl _ | refine Ex.alloc ?_ _ | refine Ex.ext ?_ _ _ | refine Ex.drew ?_ | refine Ex.drewN ?_ _))⟩
theorem not_u32 (n : Nat) (h : n < 4294967296) : bits .xor .u32 IntKind.u32.max (n : Int) = ((4294967295 - n : Nat) : Int) := by
  have e : 4294967295 ^^^ n = 4294967295 - n := by
    have h1 : (BitVec.allOnes 32 ^^^ BitVec.ofNat 32 n).toNat = (~~~ (BitVec.ofNat 32 n)).toNat := by rw [BitVec.allOnes_xor]
    rw [BitVec.toNat_xor, BitVec.toNat_not, BitVec.toNat_ofNat, Nat.mod_eq_of_lt h] at h1
    exact h1
  rw [← e]
  exact bits_xor_u32 4294967295 n (by decide) h
set_option maxRecDepth 100000 in
theorem record_any (s : List UInt8) (w : World) (hs : s.length ≤ 10000) :
    Calls Tryd.prog 66 #[.string ⟨s.toArray⟩] w fun e w' => e = .returned (.string ⟨(recL s).toArray⟩) ∧ Ex w w' := by
  have hz := bytes_size s
  have HH := Lib.hid (fun n w h => thigh_any n w h)
  have HS := Lib.hid (fun w => sum_any ⟨s.toArray⟩ w (by rw [bytes_size]; unfold maxLen; omega))
  have HL := Lib.hid (fun w => wireLow_any (crc s) w (crc_lt _))
  rw [le4_nums] at HL
  have q1 : (be4 s.length).length = 4 := rfl
  have q2 : (be4 (4294967295 - s.length)).length = 4 := rfl
  have q3 : (le4 (crc s)).length = 4 := rfl
  have HN := Lib.hid (not_u32 s.length (by omega))
  have hw : IntKind.u32.wrap (s.length : Int) = (s.length : Int) := IntWalk.u32_in _ (by omega)
  go_enter Tryd.func66, Tryd.ntmps66
  go_wp2_with (first
    | (go_at_call 83; (with_reducible refine (HH.out s.length _ (by omega)).mono ?_); rintro e w1 ⟨rfl, l1, d1, rfl⟩)
    | (go_at_call 83; rw [HN.out]; refine (HH.out (4294967295 - s.length) _ (by omega)).mono ?_; rintro e w1 ⟨rfl, l3, d3, rfl⟩)
    | (go_at_call 85; refine (HS.out _).mono ?_; rintro e w1 ⟨rfl, rfl⟩)
    | (go_at_call 84; refine (HL.out _).mono ?_; rintro e w1 ⟨rfl, l2, d2, rfl⟩))
  all_goals go_ret
  all_goals exact ⟨by rw [bytes_add, bytes_add, bytes_add]; rfl, (by repeat (first | exact Ex.refl _ | refine Ex.alloc ?_ _ | refine Ex.ext ?_ _ _ | refine Ex.drew ?_ | refine Ex.drewN ?_ _))⟩
theorem num_or (x0 x1 x2 x3 : Nat) (b0 : x0 < 256) (b1 : x1 < 256) (b2 : x2 < 256) (b3 : x3 < 256) :
    bits .or .i64 (bits .or .i64 (bits .or .i64 ((x0 : Int) * 16777216) ((x1 : Int) * 65536)) ((x2 : Int) * 256)) (x3 : Int) = ((x0 * 16777216 + x1 * 65536 + x2 * 256 + x3 : Nat) : Int) := by
  have e1 : (x0 * 16777216) ||| (x1 * 65536) = x0 * 16777216 + x1 * 65536 := or_low x0 (x1 * 65536) 24 (by omega)
  have e2 : (x0 * 16777216 + x1 * 65536) ||| (x2 * 256) = x0 * 16777216 + x1 * 65536 + x2 * 256 := by
    have e := or_low (x0 * 256 + x1) (x2 * 256) 16 (by omega)
    rw [show (x0 * 256 + x1) * 2 ^ 16 = x0 * 16777216 + x1 * 65536 by omega] at e
    exact e
  have e3 : (x0 * 16777216 + x1 * 65536 + x2 * 256) ||| x3 = x0 * 16777216 + x1 * 65536 + x2 * 256 + x3 := by
    have e := or_low (x0 * 65536 + x1 * 256 + x2) x3 8 (by omega)
    rw [show (x0 * 65536 + x1 * 256 + x2) * 2 ^ 8 = x0 * 16777216 + x1 * 65536 + x2 * 256 by omega] at e
    exact e
  have o1 := bits_or_i64 (x0 * 16777216) (x1 * 65536) (by omega) (by omega)
  have o2 := bits_or_i64 (x0 * 16777216 + x1 * 65536) (x2 * 256) (by omega) (by omega)
  have o3 := bits_or_i64 (x0 * 16777216 + x1 * 65536 + x2 * 256) x3 (by omega) (by omega)
  rw [e1] at o1
  rw [e2] at o2
  rw [e3] at o3
  rw [show ((x0 : Int) * 16777216) = ((x0 * 16777216 : Nat) : Int) by omega, show ((x1 : Int) * 65536) = ((x1 * 65536 : Nat) : Int) by omega, show ((x2 : Int) * 256) = ((x2 * 256 : Nat) : Int) by omega, o1, o2, o3]
theorem numB_four (y0 y1 y2 y3 : UInt8) : numB [y0, y1, y2, y3] = y0.toNat * 16777216 + y1.toNat * 65536 + y2.toNat * 256 + y3.toNat := by simp [numB]; omega
/-- What one returns. -/
def OneRet (b : List UInt8) (e : Ending) : Prop := ∃ t r, e = .returned (.tuple #[.string ⟨t.toArray⟩, .bool r]) ∧ oneL b = if r then some t else none
set_option maxRecDepth 100000 in
set_option maxHeartbeats 1000000 in
theorem tone_any (b : List UInt8) (w : World) (hb : b.length ≤ 2000000) :
    Calls Tryd.prog 64 #[.string ⟨b.toArray⟩] w fun e w' => OneRet b e ∧ Ex w w' := by
  have hz := bytes_size b
  by_cases h12 : b.length < 12
  · have HO : Hid (oneL b = none) := Lib.hid (by unfold oneL; rw [if_pos h12])
    go_enter Tryd.func64, Tryd.ntmps64
    go_wp2_with fail
    all_goals go_ret2
    all_goals exact ⟨⟨[], false, rfl, HO.out⟩, (by repeat (first | exact Ex.refl _ | refine Ex.alloc ?_ _ | refine Ex.ext ?_ _ _ | refine Ex.drew ?_ | refine Ex.drewN ?_ _))⟩
  · obtain ⟨y0, y1, y2, y3, T, rfl⟩ : ∃ y0 y1 y2 y3 T, b = y0 :: y1 :: y2 :: y3 :: T := by
      match b, h12 with
      | y0 :: y1 :: y2 :: y3 :: T, _ => exact ⟨y0, y1, y2, y3, T, rfl⟩
      | [], h => simp at h
      | [_], h => simp at h
      | [_, _], h => simp at h
      | [_, _, _], h => simp at h
    have ht4 : (y0 :: y1 :: y2 :: y3 :: T).take 4 = [y0, y1, y2, y3] := rfl
    have HN := num_or y0.toNat y1.toNat y2.toNat y3.toNat y0.toNat_lt y1.toNat_lt y2.toNat_lt y3.toNat_lt
    rw [← numB_four] at HN
    have HOE : oneL (y0 :: y1 :: y2 :: y3 :: T) = if 10000 < numB [y0, y1, y2, y3] ∨ (y0 :: y1 :: y2 :: y3 :: T).length < numB [y0, y1, y2, y3] + 12 then none
        else if recL (((y0 :: y1 :: y2 :: y3 :: T).drop 8).take (numB [y0, y1, y2, y3])) = (y0 :: y1 :: y2 :: y3 :: T).take (numB [y0, y1, y2, y3] + 12) then some (((y0 :: y1 :: y2 :: y3 :: T).drop 8).take (numB [y0, y1, y2, y3])) else none := by
      unfold oneL
      rw [if_neg h12, ht4]
    have i0 : ∀ w, (Instr.index 9 (.string ⟨(y0 :: y1 :: y2 :: y3 :: T).toArray⟩) (.int .i64 0)).run Tryd.prog w = .ok (.int .u8 (y0.toNat : Int)) w := fun w => index_str _ 0 (by omega) w
    have i1 : ∀ w, (Instr.index 9 (.string ⟨(y0 :: y1 :: y2 :: y3 :: T).toArray⟩) (.int .i64 1)).run Tryd.prog w = .ok (.int .u8 (y1.toNat : Int)) w := fun w => index_str _ 1 (by omega) w
    have i2 : ∀ w, (Instr.index 9 (.string ⟨(y0 :: y1 :: y2 :: y3 :: T).toArray⟩) (.int .i64 2)).run Tryd.prog w = .ok (.int .u8 (y2.toNat : Int)) w := fun w => index_str _ 2 (by omega) w
    have i3 : ∀ w, (Instr.index 9 (.string ⟨(y0 :: y1 :: y2 :: y3 :: T).toArray⟩) (.int .i64 3)).run Tryd.prog w = .ok (.int .u8 (y3.toNat : Int)) w := fun w => index_str _ 3 (by omega) w
    have z0 := y0.toNat_lt
    have z1 := y1.toNat_lt
    have z2 := y2.toNat_lt
    have z3 := y3.toNat_lt
    have HO := Lib.hid HOE
    have HNN := Lib.hid HN
    clear HOE HN ht4
    generalize y0 :: y1 :: y2 :: y3 :: T = B at *
    generalize numB [y0, y1, y2, y3] = n at *
    generalize y0.toNat = x0 at *
    generalize y1.toNat = x1 at *
    generalize y2.toNat = x2 at *
    generalize y3.toNat = x3 at *
    go_enter Tryd.func64, Tryd.ntmps64
    go_wp2_with fail
    go_quiet (fail)
    rw [HNN.out]
    clear i0 i1 i2 i3 HNN
    by_cases hn : 10000 < n
    · have h1 : ((10000 : Int) < (n : Int)) := by omega
      go_wp2_with fail
      all_goals go_ret2
      all_goals exact ⟨⟨[], false, rfl, by rw [HO.out, if_pos (.inl hn)]; rfl⟩, (by repeat (first | exact Ex.refl _ | refine Ex.alloc ?_ _ | refine Ex.ext ?_ _ _ | refine Ex.drew ?_ | refine Ex.drewN ?_ _))⟩
    by_cases hm : B.length < n + 12
    · have h1 : ¬ ((10000 : Int) < (n : Int)) := by omega
      have h2 : decide ((B.length : Int) < (n : Int) + 12) = true := decide_eq_true (by omega)
      go_wp2_with fail
      all_goals go_ret2
      all_goals exact ⟨⟨[], false, rfl, by rw [HO.out, if_pos (.inr hm)]; rfl⟩, (by repeat (first | exact Ex.refl _ | refine Ex.alloc ?_ _ | refine Ex.ext ?_ _ _ | refine Ex.drew ?_ | refine Ex.drewN ?_ _))⟩
    have h1 : ¬ ((10000 : Int) < (n : Int)) := by omega
    have h2 : decide ((B.length : Int) < (n : Int) + 12) = false := decide_eq_false (by omega)
    have e8 : (⟨B.toArray⟩ : ByteArray).extract 8 (8 + n) = ⟨((B.drop 8).take n).toArray⟩ := by rw [bytes_mid]; congr 4; omega
    have e12 : (⟨B.toArray⟩ : ByteArray).extract 0 (n + 12) = ⟨(B.take (n + 12)).toArray⟩ := bytes_head _ _
    have hO2 : oneL B = if recL ((B.drop 8).take n) = B.take (n + 12) then some ((B.drop 8).take n) else none := by rw [HO.out, if_neg (by omega)]
    have HO2 := Lib.hid hO2
    have HR := Lib.hid (fun w => record_any ((B.drop 8).take n) w (by rw [List.length_take]; omega))
    have n8 : (8 + (n : Int)).toNat = 8 + n := by omega
    have n12 : ((n : Int) + 12).toNat = n + 12 := by omega
    have w12 : IntKind.i64.wrap ((n : Int) + 12) = (n : Int) + 12 := IntWalk.i64_in _ (by omega)
    have a1 : (0 : Int) ≤ 8 + (n : Int) := by omega
    have a2 : (8 : Int) ≤ 8 + (n : Int) := by omega
    have a3 : 8 + (n : Int) ≤ (B.length : Int) := by omega
    have a4 : (0 : Int) ≤ (n : Int) + 12 := by omega
    have a5 : (n : Int) + 12 ≤ (B.length : Int) := by omega
    clear hO2 HO
    go_wp2_with fail
    have hsl : ∀ w, (Instr.slice 9 (.string ⟨B.toArray⟩) none (some (.int .i64 ((n : Int) + 12))) none).run Tryd.prog w = .ok (.string ⟨(B.take (n + 12)).toArray⟩) w := fun w => by
      have hu := Tryd.underlying9
      go_simp
    refine wp_region_any (by kernel_rfl) ?_
    (try (change wpAny _ _ _ _ _ _ _ (World.drew _)))
    refine wpAny_take (i := 0) (v := ?_) rfl (by kernel_rfl) (by kernel_rfl) (by kernel_rfl) (fun _ _ _ h => h) (Or.inl ⟨by rfl, ?_⟩) ?_
    rotate_left
    focus (intro w; go_simp; (try with_reducible rfl))
    (try simp only [Act.put, List.setIfInBounds_toArray, List.set_cons_zero, List.set_cons_succ])
    refine wpAny_take (i := 1) (v := ?_) rfl (by kernel_rfl) (by kernel_rfl) (by kernel_rfl) (fun _ _ _ h => h) (Or.inl ⟨by rfl, ?_⟩) ?_
    rotate_left
    focus (intro w; go_simp; (try with_reducible rfl))
    (try simp only [Act.put, List.setIfInBounds_toArray, List.set_cons_zero, List.set_cons_succ])
    refine wpAny_take (i := 3) (v := ?_) rfl (by kernel_rfl) (by kernel_rfl) (by kernel_rfl) (fun _ _ _ h => h) (Or.inl ⟨by rfl, ?_⟩) ?_
    rotate_left
    focus (intro w; go_simp; (try with_reducible rfl))
    (try simp only [Act.put, List.setIfInBounds_toArray, List.set_cons_zero, List.set_cons_succ])
    refine wpAny_take (i := 4) (v := ?_) rfl (by kernel_rfl) (by kernel_rfl) (by kernel_rfl) (fun _ _ _ h => h) (Or.inl ⟨by rfl, ?_⟩) ?_
    rotate_left
    focus (intro w; go_simp; (try with_reducible rfl))
    (try simp only [Act.put, List.setIfInBounds_toArray, List.set_cons_zero, List.set_cons_succ])
    refine wpAny_take (i := 5) (v := ?_) rfl (by kernel_rfl) (by kernel_rfl) (by kernel_rfl) (fun _ _ _ h => h) (Or.inl ⟨by rfl, ?_⟩) ?_
    rotate_left
    focus (intro w; go_simp; (try with_reducible rfl))
    (try simp only [Act.put, List.setIfInBounds_toArray, List.set_cons_zero, List.set_cons_succ])
    refine wpAny_take (i := 6) (v := ?_) rfl (by kernel_rfl) (by kernel_rfl) (by kernel_rfl) (fun _ _ _ h => h) (Or.inl ⟨by rfl, ?_⟩) ?_
    rotate_left
    focus (intro w; go_simp; (try with_reducible rfl))
    (try simp only [Act.put, List.setIfInBounds_toArray, List.set_cons_zero, List.set_cons_succ])
    refine wpAny_ready (rs := [2]) (by kernel_rfl) (by simp) (AllReady.cons rfl (fun K hK => ?_) AllReady.nil)
    go_simp
    refine (HR.out _).mono ?_
    rintro e w1 ⟨rfl, l1, d1, rfl⟩
    (try (refine hK _ _ ?_; clear hK K))
    refine wpAny_ready (rs := [7, 8]) (by kernel_rfl) (by simp) (AllReady.cons rfl (fun K hK => ?_) (AllReady.cons rfl (fun K hK => ?_) AllReady.nil))
    · go_simp
      refine hK _ _ ?_
      clear hK K
      refine wpAny_ready (rs := [8]) (by kernel_rfl) (by simp) (AllReady.cons rfl (fun K hK => ?_) AllReady.nil)
      go_simp
      refine hK _ _ ?_
      clear hK K
      refine wpAny_ready (rs := [9]) (by kernel_rfl) (by simp) (AllReady.cons rfl (fun K hK => ?_) AllReady.nil)
      go_simp
      refine hK _ _ ?_
      clear hK K
      refine wpAny_done (by kernel_rfl) ?_ _
      go_wp2_with fail
      all_goals go_ret2
      all_goals
        refine ⟨⟨(B.drop 8).take n, (recL ((B.drop 8).take n) == B.take (n + 12)), rfl, ?_⟩, (by repeat (first | exact Ex.refl _ | refine Ex.alloc ?_ _ | refine Ex.ext ?_ _ _ | refine Ex.drew ?_ | refine Ex.drewN ?_ _))⟩
        rw [HO2.out]
        by_cases e : recL ((B.drop 8).take n) = B.take (n + 12)
        · rw [if_pos e, beq_iff_eq.2 e]; rfl
        · rw [if_neg e, beq_eq_false_iff_ne.2 e]; rfl
    · go_simp
      refine hK _ _ ?_
      clear hK K
      refine wpAny_ready (rs := [7]) (by kernel_rfl) (by simp) (AllReady.cons rfl (fun K hK => ?_) AllReady.nil)
      go_simp
      refine hK _ _ ?_
      clear hK K
      refine wpAny_ready (rs := [9]) (by kernel_rfl) (by simp) (AllReady.cons rfl (fun K hK => ?_) AllReady.nil)
      go_simp
      refine hK _ _ ?_
      clear hK K
      refine wpAny_done (by kernel_rfl) ?_ _
      go_wp2_with fail
      all_goals go_ret2
      all_goals
        refine ⟨⟨(B.drop 8).take n, (recL ((B.drop 8).take n) == B.take (n + 12)), rfl, ?_⟩, (by repeat (first | exact Ex.refl _ | refine Ex.alloc ?_ _ | refine Ex.ext ?_ _ _ | refine Ex.drew ?_ | refine Ex.drewN ?_ _))⟩
        rw [HO2.out]
        by_cases e : recL ((B.drop 8).take n) = B.take (n + 12)
        · rw [if_pos e, beq_iff_eq.2 e]; rfl
        · rw [if_neg e, beq_eq_false_iff_ne.2 e]; rfl
end Go.Proofs.YtfeeibealokhfaaDoor
