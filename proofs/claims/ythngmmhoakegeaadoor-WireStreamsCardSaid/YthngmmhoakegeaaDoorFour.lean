/- What wire's four computes. -/
import Derived.Test.YthngmmhoakegeaaDoorDecP
set_option linter.unusedSimpArgs false
set_option linter.unusedVariables false
namespace Go.Proofs.YthngmmhoakegeaaDoor
open Go.RowKit

theorem bits_or_i64 (a b : Nat) (ha : a < 4294967296) (hb : b < 4294967296) : bits .or .i64 (a : Int) (b : Int) = ((a ||| b : Nat) : Int) := by
  have hx : a ||| b < 2 ^ 32 := Nat.or_lt_two_pow (by omega) (by omega)
  have h1 : (BitVec.ofInt 64 (a : Int)).toNat = a := by rw [BitVec.ofInt_natCast, BitVec.toNat_ofNat]; exact Nat.mod_eq_of_lt (by omega)
  have h2 : (BitVec.ofInt 64 (b : Int)).toNat = b := by rw [BitVec.ofInt_natCast, BitVec.toNat_ofNat]; exact Nat.mod_eq_of_lt (by omega)
  show IntKind.i64.wrap ((BitVec.ofInt 64 (a : Int) ||| BitVec.ofInt 64 (b : Int)).toNat : Int) = _
  rw [BitVec.toNat_or, h1, h2]
  simp [IntKind.wrap, IntKind.bits, IntKind.signed]
  omega
theorem or_low (a b k : Nat) (hb : b < 2 ^ k) : (a * 2 ^ k) ||| b = a * 2 ^ k + b := by
  rw [Nat.mul_comm, Nat.two_pow_add_eq_or_of_lt hb]
theorem num4_bytes {s : ByteArray} {i : Nat} (h : i + 4 ≤ s.size) : num4 s i = (s[i]'(by omega)).toNat * 16777216 + (s[i + 1]'(by omega)).toNat * 65536 + (s[i + 2]'(by omega)).toNat * 256 + (s[i + 3]'(by omega)).toNat := by
  have hl : i + 4 ≤ s.data.toList.length := by rw [Array.length_toList]; exact h
  have e : (s.data.toList.drop i).take (i + 4 - i) = [s.data.toList[i]'(by omega), s.data.toList[i + 1]'(by omega), s.data.toList[i + 2]'(by omega), s.data.toList[i + 3]'(by omega)] := by
    rw [show i + 4 - i = 4 by omega, List.drop_eq_getElem_cons (by omega), List.drop_eq_getElem_cons (by omega), List.drop_eq_getElem_cons (by omega), List.drop_eq_getElem_cons (by omega)]
    rfl
  unfold num4
  rw [extract_list, e]
  have e0 : s.data.toList[i]'(by omega) = s[i]'(by omega) := by simp; rfl
  have e1 : s.data.toList[i + 1]'(by omega) = s[i + 1]'(by omega) := by simp; rfl
  have e2 : s.data.toList[i + 2]'(by omega) = s[i + 2]'(by omega) := by simp; rfl
  have e3 : s.data.toList[i + 3]'(by omega) = s[i + 3]'(by omega) := by simp; rfl
  rw [e0, e1, e2, e3]
  simp [numL]
  omega
set_option maxRecDepth 100000 in
theorem four_any (s : ByteArray) (i : Nat) (w : World) (h : i + 4 ≤ s.size) (hs : s.size ≤ 30) : Calls Tryd.prog 67 #[.string s, .int .i64 (i : Int)] w fun e w' => e = .returned (.int .i64 (num4 s i)) ∧ ∃ n, w' = w.drewN n := by
  have HN := Lib.hid (num4_bytes h)
  have b0 := (s[i]'(by omega)).toNat_lt
  have b1 := (s[i + 1]'(by omega)).toNat_lt
  have b2 := (s[i + 2]'(by omega)).toNat_lt
  have b3 := (s[i + 3]'(by omega)).toNat_lt
  have i0 : ∀ w, (Instr.index 9 (.string s) (.int .i64 (i : Int))).run Tryd.prog w = .ok (.int .u8 ((s[i]'(by omega)).toNat : Int)) w := fun w => index_str s i (by omega) w
  have i1 : ∀ w, (Instr.index 9 (.string s) (.int .i64 ((i : Int) + 1))).run Tryd.prog w = .ok (.int .u8 ((s[i + 1]'(by omega)).toNat : Int)) w := fun w => index_str s (i + 1) (by omega) w
  have i2 : ∀ w, (Instr.index 9 (.string s) (.int .i64 ((i : Int) + 2))).run Tryd.prog w = .ok (.int .u8 ((s[i + 2]'(by omega)).toNat : Int)) w := fun w => index_str s (i + 2) (by omega) w
  have i3 : ∀ w, (Instr.index 9 (.string s) (.int .i64 ((i : Int) + 3))).run Tryd.prog w = .ok (.int .u8 ((s[i + 3]'(by omega)).toNat : Int)) w := fun w => index_str s (i + 3) (by omega) w
  generalize (s[i]'(by omega)).toNat = x0 at *
  generalize (s[i + 1]'(by omega)).toNat = x1 at *
  generalize (s[i + 2]'(by omega)).toNat = x2 at *
  generalize (s[i + 3]'(by omega)).toNat = x3 at *
  go_enter Tryd.func67, Tryd.ntmps67
  go_wp2_with fail
  go_quiet (fail)
  all_goals go_wp2_with fail
  all_goals go_ret
  all_goals
    refine ⟨?_, _, rfl⟩
    rw [HN.out]
    have e1 : (x0 * 16777216) ||| (x1 * 65536) = x0 * 16777216 + x1 * 65536 := or_low x0 (x1 * 65536) 24 (by omega)
    have e2 : (x0 * 16777216 + x1 * 65536) ||| (x2 * 256) = x0 * 16777216 + x1 * 65536 + x2 * 256 := by
      have e := or_low (x0 * 256 + x1) (x2 * 256) 16 (by omega)
      rw [show (x0 * 256 + x1) * 2 ^ 16 = x0 * 16777216 + x1 * 65536 by omega] at e
      exact e
    have e3 : (x0 * 16777216 + x1 * 65536 + x2 * 256) ||| x3 = x0 * 16777216 + x1 * 65536 + x2 * 256 + x3 := by
      have e := or_low (x0 * 65536 + x1 * 256 + x2) x3 8 (by omega)
      rw [show (x0 * 65536 + x1 * 256 + x2) * 2 ^ 8 = x0 * 16777216 + x1 * 65536 + x2 * 256 by omega] at e
      exact e
    have o1 := bits_or_i64 (x0 * 16777216) (x1 * 65536) (by omega) (by omega)
    have o2 := bits_or_i64 (x0 * 16777216 + x1 * 65536) (x2 * 256) (by omega) (by omega)
    have o3 := bits_or_i64 (x0 * 16777216 + x1 * 65536 + x2 * 256) x3 (by omega) (by omega)
    rw [e1] at o1
    rw [e2] at o2
    rw [e3] at o3
    show Ending.returned (.int .i64 (bits .or .i64 (bits .or .i64 (bits .or .i64 ((x0 : Int) * 16777216) ((x1 : Int) * 65536)) ((x2 : Int) * 256)) (x3 : Int))) = _
    rw [show ((x0 : Int) * 16777216) = ((x0 * 16777216 : Nat) : Int) by omega, show ((x1 : Int) * 65536) = ((x1 * 65536 : Nat) : Int) by omega, show ((x2 : Int) * 256) = ((x2 * 256 : Nat) : Int) by omega, o1, o2, o3]
    congr 2
end Go.Proofs.YthngmmhoakegeaaDoor
