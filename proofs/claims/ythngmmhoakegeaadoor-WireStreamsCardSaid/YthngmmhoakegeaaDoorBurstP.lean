/- A frame whose bits are turned: as texts. -/
import Derived.Test.YthngmmhoakegeaaDoorBurstL
import Derived.Test.YthngmmhoakegeaaDoorBurstD
set_option linter.unusedSimpArgs false
set_option linter.unusedVariables false
namespace Go.Proofs.YthngmmhoakegeaaDoor
open Go.RowKit

theorem leN_inj : ∀ (x y : List UInt8), x.length = y.length → leN x = leN y → x = y
  | [], [], _, _ => rfl
  | a :: x, b :: y, hl, h => by
    have h' : a.toNat + 256 * leN x = b.toNat + 256 * leN y := h
    have ha := a.toNat_lt
    have hb := b.toNat_lt
    rw [leN_inj x y (by simpa using hl) (by omega), UInt8.toNat_inj.1 (show a.toNat = b.toNat by omega)]
def burstL (B a : Nat) (l : List UInt8) : Nat → List UInt8
  | 0 => l
  | i + 1 => if B / 2 ^ i % 2 = 1 ∧ a + i < 240 then flipAt (burstL B a l i) (a + i) else burstL B a l i
theorem burstL_len (B a : Nat) (l : List UInt8) : ∀ i, (burstL B a l i).length = l.length
  | 0 => rfl
  | i + 1 => by
    have ih := burstL_len B a l i
    unfold burstL
    split
    · rw [flipAt_len]; exact ih
    · exact ih
theorem burstL_num (B a : Nat) {l : List UInt8} (hl : l.length = 30) : ∀ i, leN (burstL B a l i) = leN l ^^^ burstN B a i
  | 0 => by rw [burstN_zero, Nat.xor_zero]; rfl
  | i + 1 => by
    have ih := burstL_num B a hl i
    have hlen := burstL_len B a l i
    rw [burstN_step]
    unfold burstL
    split
    · rename_i h
      rw [flipAt_num _ (by rw [hlen, hl]; omega), ih, Nat.xor_assoc]
    · rename_i h
      exact ih
theorem leN_low {v : Nat} (h : v < 4294967296) : leN (strOfNums (lowB v)).data.toList = v := by
  rw [strOfNums_data]
  have e : ∀ n : Int, 0 ≤ n → n < 256 → (UInt8.ofNat n.toNat).toNat = n.toNat := fun n h0 h1 => by
    have h2 : n.toNat < 256 := by omega
    exact UInt8.toNat_ofNat_of_lt' h2
  simp only [lowB, List.map_cons, List.map_nil, leN]
  rw [e _ (by omega) (by omega), e _ (by omega) (by omega), e _ (by omega) (by omega), e _ (by omega) (by omega)]
  omega
theorem low_len (v : Nat) : (strOfNums (lowB v)).data.toList.length = 4 := by rw [strOfNums_data]; simp [lowB]
theorem extract_list (s : ByteArray) (i j : Nat) : (s.extract i j).data.toList = (s.data.toList.drop i).take (j - i) := by
  simp [ByteArray.data_extract, List.extract_eq_take_drop]
/-- A frame that is turned bears a wrong sum. -/
theorem burst_text (a : Ask) {B at' : Nat} (hB : B < 4294967296) (hat : at' < 240) (hne : burstL B at' a.frame.data.toList 32 ≠ a.frame.data.toList) :
    let t : ByteArray := ⟨(burstL B at' a.frame.data.toList 32).toArray⟩
    t.size = 30 ∧ strOfNums (lowB (crc (t.extract 0 26).data.toList)) ≠ t.extract 26 30 ∧ t ≠ a.frame := by
  have hf : a.frame.data.toList = a.body.data.toList ++ (strOfNums (lowB (crc a.body.data.toList))).data.toList := by
    rw [Ask.frame]; simp [ByteArray.data_append]
  have hb : a.body.data.toList.length = 26 := by rw [Array.length_toList]; exact a.body_size
  have hl : a.frame.data.toList.length = 30 := by rw [Array.length_toList]; exact a.frame_size
  have hT : (burstL B at' a.frame.data.toList 32).length = 30 := by rw [burstL_len, hl]
  have hn := burstL_num B at' hl 32
  rw [burstN_all at' hB] at hn
  generalize hTT : burstL B at' a.frame.data.toList 32 = T at *
  intro t
  have e1 : (t.extract 0 26).data.toList = T.take 26 := by rw [extract_list]; simp [t]
  have e2 : (t.extract 26 30).data.toList = T.drop 26 := by
    rw [extract_list]
    show (T.toArray.toList.drop 26).take 4 = _
    rw [List.toList_toArray, List.take_of_length_le (by simp [hT])]
  refine ⟨by simp [t, ByteArray.size, hT], fun h => ?_, fun h => hne ?_⟩
  · have h0 : (B * 2 ^ at') % 2 ^ 240 ≠ 0 := fun h0 => hne (leN_inj _ _ (by rw [hT, hl]) (by rw [hn, h0, Nat.xor_zero]))
    have hs := burst_seen (l := a.body.data.toList) (q := (strOfNums (lowB (crc a.body.data.toList))).data.toList) (l' := T.take 26) (q' := T.drop 26) hb (low_len _) (by simp [hT]) (by simp [hT]) (leN_low (crc_lt _)) hB hat
      (by rw [List.take_append_drop, ← hf]; exact hn) h0
    apply hs
    rw [← e2, ← h, e1, leN_low (crc_lt _)]
  · have := congrArg (fun s : ByteArray => s.data.toList) h
    simpa [t] using this
end Go.Proofs.YthngmmhoakegeaaDoor
