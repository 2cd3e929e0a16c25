/- What wire's Sum computes. -/
import Derived.Test.YtfeeibealokhfaaDoorVals
import Derived.Test.YtfeeibealokhfaaDoorChecked
import Derived.Deep.DeepCutAuto
set_option linter.unusedSimpArgs false
set_option linter.unusedVariables false
namespace Go.Proofs.YtfeeibealokhfaaDoor
open Go.RowKit

theorem bits_xor_u32 (a b : Nat) (ha : a < 4294967296) (hb : b < 4294967296) : bits .xor .u32 (a : Int) (b : Int) = ((a ^^^ b : Nat) : Int) := by
  have hx : a ^^^ b < 2 ^ 32 := Nat.xor_lt_two_pow (by omega) (by omega)
  have h1 : (BitVec.ofInt 32 (a : Int)).toNat = a := by rw [BitVec.ofInt_natCast, BitVec.toNat_ofNat]; exact Nat.mod_eq_of_lt (by omega)
  have h2 : (BitVec.ofInt 32 (b : Int)).toNat = b := by rw [BitVec.ofInt_natCast, BitVec.toNat_ofNat]; exact Nat.mod_eq_of_lt (by omega)
  show IntKind.u32.wrap ((BitVec.ofInt 32 (a : Int) ^^^ BitVec.ofInt 32 (b : Int)).toNat : Int) = _
  rw [BitVec.toNat_xor, h1, h2, IntKind.wrap_u32]
  omega
theorem bits_and1_u32 (a : Nat) (ha : a < 4294967296) : bits .and .u32 (a : Int) 1 = ((a % 2 : Nat) : Int) := by
  have h1 : (BitVec.ofInt 32 (a : Int)).toNat = a := by rw [BitVec.ofInt_natCast, BitVec.toNat_ofNat]; exact Nat.mod_eq_of_lt (by omega)
  show IntKind.u32.wrap ((BitVec.ofInt 32 (a : Int) &&& BitVec.ofInt 32 (1 : Int)).toNat : Int) = _
  rw [BitVec.toNat_and, h1, IntKind.wrap_u32]
  have : a &&& (BitVec.ofInt 32 (1 : Int)).toNat = a % 2 := by
    rw [show (BitVec.ofInt 32 (1 : Int)).toNat = 1 by decide]
    exact Nat.and_one_is_mod a
  rw [this]
  omega

/-- One bit of the sum. -/
def crcBit (c : Nat) : Nat := (c / 2) ^^^ (3988292384 * (c % 2))
theorem crcBit_lt (c : Nat) (h : c < 4294967296) : crcBit c < 4294967296 := by
  unfold crcBit
  have : c % 2 = 0 ∨ c % 2 = 1 := by omega
  refine Nat.xor_lt_two_pow (n := 32) (by omega) (by rcases this with h | h <;> rw [h] <;> decide)
def crcBits : Nat → Nat → Nat
  | 0, c => c
  | n + 1, c => crcBits n (crcBit c)
theorem crcBits_lt : ∀ (n c : Nat), c < 4294967296 → crcBits n c < 4294967296
  | 0, _, h => h
  | n + 1, c, h => crcBits_lt n _ (crcBit_lt c h)
theorem crcBits_succ : ∀ (n c : Nat), crcBits (n + 1) c = crcBit (crcBits n c)
  | 0, _ => rfl
  | n + 1, c => crcBits_succ n (crcBit c)
def crcStep (c : Nat) (b : UInt8) : Nat := crcBits 8 (c ^^^ b.toNat)
theorem crcStep_lt (c : Nat) (b : UInt8) (h : c < 4294967296) : crcStep c b < 4294967296 :=
  crcBits_lt _ _ (Nat.xor_lt_two_pow (n := 32) h (Nat.lt_trans b.toNat_lt (by decide)))
def crcFold (l : List UInt8) (c : Nat) : Nat := l.foldl crcStep c
theorem crcFold_lt : ∀ (l : List UInt8) (c : Nat), c < 4294967296 → crcFold l c < 4294967296
  | [], _, h => h
  | b :: l, c, h => crcFold_lt l _ (crcStep_lt c b h)
/-- The sum of a text. -/
def crc (l : List UInt8) : Nat := 4294967295 ^^^ crcFold l 4294967295
theorem crc_lt (l : List UInt8) : crc l < 4294967296 := Nat.xor_lt_two_pow (n := 32) (by decide) (crcFold_lt l _ (by decide))
theorem crcFold_snoc (l : List UInt8) (b : UInt8) (c : Nat) : crcFold (l ++ [b]) c = crcStep (crcFold l c) b := by simp [crcFold]

theorem take_snoc (s : ByteArray) (k : Nat) (h : k < s.size) : s.data.toList.take (k + 1) = s.data.toList.take k ++ [s[k]] := by
  rw [List.take_succ_eq_append_getElem (by simpa using h)]; rfl

set_option maxRecDepth 100000 in
set_option maxHeartbeats 1000000 in
theorem sum_any (s : ByteArray) (w : World) (hs : s.size ≤ maxLen) :
    Calls Tryd.prog 85 #[.string s] w fun e w' => e = .returned (.int .u32 (crc s.data.toList)) ∧ w = w' := by
  unfold maxLen at hs
  go_enter Tryd.func85, Tryd.ntmps85
  go_wp2
  go_loop [3, 7] (fun c i => ∃ (k : Nat), k ≤ s.size ∧ i = .int .i64 k ∧ c = .int .u32 (crcFold (s.data.toList.take k) 4294967295)) (fun _ i => s.size - (intOf i).toNat)
  case atStart => exact ⟨0, Nat.zero_le _, rfl, rfl⟩
  case round =>
    obtain ⟨k, hk, rfl, rfl⟩ := hrel
    have hx := crcFold_lt (s.data.toList.take k) 4294967295 (by decide)
    by_cases hlt : k < s.size
    · have hb : (s[k]).toNat < 256 := (s[k]).toNat_lt
      have hsn := crcFold_snoc (s.data.toList.take k) s[k] 4294967295
      rw [← take_snoc s k hlt] at hsn
      have HS := Lib.hid hsn
      clear hsn
      generalize hg : crcFold (s.data.toList.take k) 4294967295 = x at *
      clear hg
      have e1 : ((s[k].toNat : Int) % 4294967296) = (s[k].toNat : Int) := by omega
      have e2 := bits_xor_u32 x s[k].toNat hx (by omega)
      go_wp2
      have hy : x ^^^ s[k].toNat < 4294967296 := Nat.xor_lt_two_pow (n := 32) hx (by omega)
      have HY : crcBits 8 (x ^^^ s[k].toNat) = crcFold (s.data.toList.take (k + 1)) 4294967295 := HS.out.symm
      have HY := Lib.hid HY
      clear HS e1 e2
      generalize x ^^^ s[k].toNat = y at *
      go_loop [3, 16] (fun c j => ∃ (m : Nat), m ≤ 8 ∧ j = .int .i64 m ∧ c = .int .u32 (crcBits m y)) (fun _ j => 8 - (intOf j).toNat)
      case atStart => exact ⟨0, by omega, rfl, rfl⟩
      case round =>
        obtain ⟨m, hm, rfl, rfl⟩ := hrel
        by_cases hm8 : m < 8
        · have hz := crcBits_lt m y hy
          have hsn := crcBits_succ m y
          have HS := Lib.hid hsn
          clear hsn
          generalize crcBits m y = z at *
          have e3 := bits_and1_u32 z hz
          go_wp2
          have hb2 : crcBit z = z / 2 ^^^ 3988292384 * (z % 2) := rfl
          have hm2 : z % 2 = 0 ∨ z % 2 = 1 := by omega
          go_round
          case rel =>
            refine ⟨m + 1, by omega, by go_num, ?_⟩
            rw [HS.out, hb2, ← bits_xor_u32 (z / 2) (3988292384 * (z % 2)) (by omega) (by rcases hm2 with h | h <;> rw [h] <;> decide)]
            congr 2
          case measure => simp [intOf]; omega
        · obtain rfl : m = 8 := by omega
          go_wp2
          go_round
          case rel => exact ⟨k + 1, by omega, by go_num, by rw [HY.out]⟩
          case measure => simp [intOf]; omega
    · obtain rfl : k = s.size := by omega
      have HC : crc s.data.toList = 4294967295 ^^^ crcFold (s.data.toList.take s.size) 4294967295 := by
        rw [List.take_of_length_le (by simp)]; rfl
      go_wp2
      go_ret
      refine ⟨ret_int ?_, rfl⟩
      rw [← bits_xor_u32 _ _ (by decide) hx]
      rfl
end Go.Proofs.YtfeeibealokhfaaDoor
