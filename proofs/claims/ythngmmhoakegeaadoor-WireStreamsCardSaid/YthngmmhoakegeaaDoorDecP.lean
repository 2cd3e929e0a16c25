/- What a frame says, as a request and an error's number. -/
import Derived.Test.YthngmmhoakegeaaDoorNumRef
import Derived.Test.YthngmmhoakegeaaDoorAskRef
import Derived.Test.YthngmmhoakegeaaDoorBurstP
set_option linter.unusedSimpArgs false
set_option linter.unusedVariables false
namespace Go.Proofs.YthngmmhoakegeaaDoor
open Go.RowKit

def at8 (s : ByteArray) (i : Nat) : Int := if h : i < s.size then ((s[i]'h).toNat : Int) else 0
theorem at8_eq {s : ByteArray} {i : Nat} (h : i < s.size) : at8 s i = ((s[i]'h).toNat : Int) := dif_pos h
theorem at8_byte (s : ByteArray) (i : Nat) : 0 ≤ at8 s i ∧ at8 s i ≤ 255 := by
  unfold at8
  split
  · rename_i h
    have := (s[i]'h).toNat_lt
    omega
  · omega
def num4 (s : ByteArray) (i : Nat) : Int := (numL (s.extract i (i + 4)).data.toList : Int)
/-- The request that a frame's bytes say. -/
def askAt (s : ByteArray) : Ask := { kind := at8 s 0, client := at8 s 1, seq := num4 s 2, item := at8 s 6, side := at8 s 7, price := num4 s 8, qty := num4 s 12, id := num4 s 16 }
def sumOk (s : ByteArray) : Prop := strOfNums (lowB (crc (s.extract 0 26).data.toList)) = s.extract 26 30
instance (s : ByteArray) : Decidable (sumOk s) := inferInstanceAs (Decidable (_ = _))
/-- What is wrong with a frame: an error's number. -/
def decE (s : ByteArray) : Nat := if s.size ≠ 30 then 1 else if ¬ sumOk s then 5 else if (s.extract 20 26).data.toList ≠ [0, 0, 0, 0, 0, 0] then 3 else (askAt s).err
def zeroAsk : Ask := ⟨0, 0, 0, 0, 0, 0, 0, 0⟩
def decA (s : ByteArray) : Ask := if decE s = 0 then askAt s else zeroAsk
theorem num4_bd (s : ByteArray) (i : Nat) (h : i + 4 ≤ s.size) : 0 ≤ num4 s i ∧ num4 s i ≤ 4294967295 := by
  have hl : (s.extract i (i + 4)).data.toList.length = 4 := by rw [extract_list, List.length_take, List.length_drop, Array.length_toList]; show min _ (s.size - i) = 4; omega
  have := numL_lt 4 _ hl
  unfold num4
  omega
theorem numL3_zero {l : List UInt8} (h : l.length = 3) : numL l = 0 ↔ l = [0, 0, 0] := by
  match l, h with
  | [a, b, c], _ =>
    have e : numL [a, b, c] = 256 * (256 * a.toNat + b.toNat) + c.toNat := by simp [numL]
    rw [e]
    constructor
    · intro h0
      rw [UInt8.toNat_inj.1 (show a.toNat = (0 : UInt8).toNat by show a.toNat = 0; omega), UInt8.toNat_inj.1 (show b.toNat = (0 : UInt8).toNat by show b.toNat = 0; omega), UInt8.toNat_inj.1 (show c.toNat = (0 : UInt8).toNat by show c.toNat = 0; omega)]
    · intro h0
      simp at h0
      simp [h0]
theorem six_zero {s : ByteArray} (hs : s.size = 30) : (s.extract 20 26).data.toList = [0, 0, 0, 0, 0, 0] ↔ numL (s.extract 20 23).data.toList = 0 ∧ numL (s.extract 23 26).data.toList = 0 := by
  have hl : s.data.toList.length = 30 := by rw [Array.length_toList]; exact hs
  rw [numL3_zero (by rw [extract_list, List.length_take, List.length_drop, hl]; decide), numL3_zero (by rw [extract_list, List.length_take, List.length_drop, hl]; decide), extract_list, extract_list, extract_list]
  generalize s.data.toList = l at *
  have e : (l.drop 20).take (26 - 20) = (l.drop 20).take (23 - 20) ++ (l.drop 23).take (26 - 23) := by
    rw [show (26 : Nat) - 20 = 3 + 3 by decide, List.take_add, List.drop_drop]
  rw [e]
  have l1 : ((l.drop 20).take (23 - 20)).length = 3 := by rw [List.length_take, List.length_drop, hl]; decide
  constructor
  · intro h
    exact List.append_inj (s₁ := (l.drop 20).take (23 - 20)) (s₂ := [0, 0, 0]) (t₂ := [0, 0, 0]) h (by rw [l1]; rfl)
  · rintro ⟨h1, h2⟩
    rw [h1, h2]; rfl
theorem index_str (s : ByteArray) (i : Nat) (hi : i < s.size) (w : World) : (Instr.index 9 (.string s) (.int .i64 (i : Int))).run Tryd.prog w = .ok (.int .u8 ((s[i]'hi).toNat : Int)) w := by
  have hu := Tryd.underlying9
  have h0 : (0 : Int) ≤ (i : Int) := by omega
  have h1 : (i : Int) < (s.size : Int) := by omega
  go_simp
end Go.Proofs.YthngmmhoakegeaaDoor
