/- What the document's answer's CRC computes: the same sum. -/
import Derived.Test.YtfeeibealokhfaaDoorLow
set_option linter.unusedSimpArgs false
set_option linter.unusedVariables false
namespace Go.Proofs.YtfeeibealokhfaaDoor
open Go.RowKit

theorem bits_xor_i64 (a b : Nat) (ha : a < 4294967296) (hb : b < 4294967296) : bits .xor .i64 (a : Int) (b : Int) = ((a ^^^ b : Nat) : Int) := by
  have hx : a ^^^ b < 2 ^ 32 := Nat.xor_lt_two_pow (by omega) (by omega)
  have h1 : (BitVec.ofInt 64 (a : Int)).toNat = a := by rw [BitVec.ofInt_natCast, BitVec.toNat_ofNat]; exact Nat.mod_eq_of_lt (by omega)
  have h2 : (BitVec.ofInt 64 (b : Int)).toNat = b := by rw [BitVec.ofInt_natCast, BitVec.toNat_ofNat]; exact Nat.mod_eq_of_lt (by omega)
  show IntKind.i64.wrap ((BitVec.ofInt 64 (a : Int) ^^^ BitVec.ofInt 64 (b : Int)).toNat : Int) = _
  rw [BitVec.toNat_xor, h1, h2]
  simp [IntKind.wrap, IntKind.bits, IntKind.signed]
  omega
theorem crcRef_step (d e : Nat) : (d ^^^ e) / 2 ^^^ (3988292384 * (d % 2)) = crcBit d ^^^ (e / 2) := by
  rw [xor_div_two, crcBit, Nat.xor_assoc, Nat.xor_comm (e / 2), ← Nat.xor_assoc]

set_option maxRecDepth 100000 in
set_option maxHeartbeats 1000000 in
theorem crcRef_any (s : ByteArray) (w : World) (hs : s.size ≤ maxLen) :
    Calls Tryd.prog 82 #[.string s] w fun e w' => e = .returned (.int .i64 (crc s.data.toList)) ∧ w = w' := by
  unfold maxLen at hs
  go_enter Tryd.func82, Tryd.ntmps82
  go_wp2
  go_loop [3, 4] (fun c i => ∃ (k : Nat), k ≤ s.size ∧ i = .int .i64 k ∧ c = .int .i64 (crcFold (s.data.toList.take k) 4294967295)) (fun _ i => s.size - (intOf i).toNat)
  case atStart => exact ⟨0, Nat.zero_le _, rfl, rfl⟩
  case round =>
    obtain ⟨k, hk, rfl, rfl⟩ := hrel
    have hx := crcFold_lt (s.data.toList.take k) 4294967295 (by decide)
    by_cases hlt : k < s.size
    · have hb : (s[k]).toNat < 256 := (s[k]).toNat_lt
      have hsn := crcFold_snoc (s.data.toList.take k) s[k] 4294967295
      rw [← take_snoc s k hlt] at hsn
      have HS := Lib.hid hsn
      clear hsn
      generalize hg : crcFold (s.data.toList.take k) 4294967295 = x at *
      clear hg
      have hy : x ^^^ s[k].toNat < 4294967296 := Nat.xor_lt_two_pow (n := 32) hx (by omega)
      have HY : Hid (crcBits 8 (x ^^^ s[k].toNat) = crcFold (s.data.toList.take (k + 1)) 4294967295) := Lib.hid HS.out.symm
      have HX : Hid ((x ^^^ s[k].toNat) ^^^ s[k].toNat = x) := Lib.hid (by rw [Nat.xor_assoc, Nat.xor_self, Nat.xor_zero])
      clear HS
      generalize x ^^^ s[k].toNat = y at *
      go_wp2
      go_loop [3, 5] (fun c j => ∃ (m : Nat), m ≤ 8 ∧ j = .int .i64 m ∧ c = .int .i64 ((crcBits m y ^^^ (s[k].toNat / 2 ^ m) : Nat) : Int)) (fun _ j => 8 - (intOf j).toNat)
      case atStart => exact ⟨0, by omega, rfl, by rw [Nat.pow_zero, Nat.div_one]; show _ = Value.int .i64 ((y ^^^ s[k].toNat : Nat) : Int); rw [HX.out]⟩
      case round =>
        obtain ⟨m, hm, rfl, rfl⟩ := hrel
        by_cases hm8 : m < 8
        · have hz := crcBits_lt m y hy
          have HN : Hid (crcBits (m + 1) y ^^^ (s[k].toNat / 2 ^ (m + 1)) = (crcBits m y ^^^ (s[k].toNat / 2 ^ m)) / 2 ^^^ (3988292384 * (crcBits m y % 2))) := Lib.hid (by
            rw [crcRef_step, crcBits_succ, Nat.pow_succ, Nat.div_div_eq_div_mul])
          have he : ((s[k].toNat : Nat) : Int) / 2 ^ m = ((s[k].toNat / 2 ^ m : Nat) : Int) := by
            rw [Int.natCast_ediv, Int.natCast_pow]; rfl
          have he2 : s[k].toNat / 2 ^ m < 256 := Nat.lt_of_le_of_lt (Nat.div_le_self _ _) hb
          generalize crcBits m y = d at *
          generalize s[k].toNat / 2 ^ m = e at *
          have hc : d ^^^ e < 4294967296 := Nat.xor_lt_two_pow (n := 32) hz (by omega)
          have hxx := bits_xor_i64 (d ^^^ e) e hc (by omega)
          rw [Nat.xor_assoc, Nat.xor_self, Nat.xor_zero] at hxx
          have hmin : min m 64 = m := by omega
          generalize d ^^^ e = c at *
          have hq : ((c : Nat) : Int).tdiv 2 = ((c / 2 : Nat) : Int) := by rw [Int.tdiv_eq_ediv_of_nonneg (by omega)]; omega
          have h2 : d % 2 = 0 ∨ d % 2 = 1 := by omega
          have hpx := bits_xor_i64 (c / 2) 3988292384 (by omega) (by decide)
          rcases h2 with h2 | h2
          · have ht : ((d : Nat) : Int).tmod 2 = 0 := by rw [Int.tmod_eq_emod_of_nonneg (by omega)]; omega
            rw [h2, Nat.mul_zero, Nat.xor_zero] at HN
            go_wp2
            all_goals
              go_round
              case rel => exact ⟨m + 1, by omega, by go_num, by rw [HN.out]; congr 1⟩
              case measure => simp [intOf]; omega
          · have ht : ((d : Nat) : Int).tmod 2 = 1 := by rw [Int.tmod_eq_emod_of_nonneg (by omega)]; omega
            rw [h2, Nat.mul_one] at HN
            go_wp2
            all_goals
              go_round
              case rel => exact ⟨m + 1, by omega, by go_num, by rw [HN.out, ← hpx]; rfl⟩
              case measure => simp [intOf]; omega
        · obtain rfl : m = 8 := by omega
          have HZ : Hid (crcBits 8 y ^^^ (s[k].toNat / 2 ^ 8) = crcFold (s.data.toList.take (k + 1)) 4294967295) := Lib.hid (by
            rw [Nat.div_eq_of_lt (show s[k].toNat < 2 ^ 8 by omega), Nat.xor_zero]; exact HY.out)
          go_wp2
          go_round
          case rel => exact ⟨k + 1, by omega, by go_num, by rw [HZ.out]⟩
          case measure => simp [intOf]; omega
    · obtain rfl : k = s.size := by omega
      have HC : crc s.data.toList = 4294967295 ^^^ crcFold (s.data.toList.take s.size) 4294967295 := by
        rw [List.take_of_length_le (by simp)]; rfl
      have HC := Lib.hid HC
      generalize crcFold (s.data.toList.take s.size) 4294967295 = x at *
      have hpx := bits_xor_i64 x 4294967295 hx (by decide)
      go_wp2
      go_ret
      exact ⟨by rw [Nat.xor_comm 4294967295]; exact congrArg (fun z => Ending.returned (.int .i64 z)) hpx, rfl⟩
end Go.Proofs.YtfeeibealokhfaaDoor
