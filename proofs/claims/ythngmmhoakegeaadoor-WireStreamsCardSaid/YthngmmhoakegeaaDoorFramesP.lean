/- A right request's frame says that request. -/
import Derived.Test.YthngmmhoakegeaaDoorDecP
set_option linter.unusedSimpArgs false
set_option linter.unusedVariables false
namespace Go.Proofs.YthngmmhoakegeaaDoor
open Go.RowKit

theorem at8_list (s : ByteArray) (i : Nat) : at8 s i = ((s.data.toList.getD i 0).toNat : Int) := by
  unfold at8
  split
  · rename_i h
    have e : s.data.toList.getD i 0 = s[i]'h := by
      rw [List.getD_eq_getElem?_getD, List.getElem?_eq_getElem (by rw [Array.length_toList]; exact h)]
      simp; rfl
    rw [e]
  · rename_i h
    rw [List.getD_eq_getElem?_getD, List.getElem?_eq_none (by rw [Array.length_toList]; exact Nat.le_of_not_lt h)]
    rfl
theorem byteNat {n : Int} (h0 : 0 ≤ n) (h1 : n < 256) : (((UInt8.ofNat n.toNat).toNat : Nat) : Int) = n := by
  have h2 : n.toNat < 256 := by omega
  have e : (UInt8.ofNat n.toNat).toNat = n.toNat := UInt8.toNat_ofNat_of_lt' h2
  rw [e]; omega
theorem numL4 (a b c d : UInt8) : ((numL [a, b, c, d] : Nat) : Int) = (a.toNat : Int) * 16777216 + (b.toNat : Int) * 65536 + (c.toNat : Int) * 256 + (d.toNat : Int) := by
  simp [numL]; omega
theorem num4_high {n : Int} (h0 : 0 ≤ n) (h1 : n ≤ 1073741824) {s : ByteArray} {i : Nat} (h : (s.data.toList.drop i).take 4 = (highB n).map fun n => UInt8.ofNat n.toNat) : num4 s i = n := by
  unfold num4
  rw [extract_list, show i + 4 - i = 4 by omega, h]
  simp only [highB, List.map_cons, List.map_nil]
  rw [numL4, byteNat (by omega) (by omega), byteNat (by omega) (by omega), byteNat (by omega) (by omega), byteNat (by omega) (by omega)]
  omega
theorem dec_frame {a : Ask} (hk : 0 ≤ a.kind ∧ a.kind ≤ 255) (he : a.err = 0) : a.frame.size = 30 ∧ sumOk a.frame ∧ (a.frame.extract 20 26).data.toList = [0, 0, 0, 0, 0, 0] ∧ askAt a.frame = a := by
  obtain ⟨⟨c0, c1⟩, ⟨s0, s1⟩, ⟨d0, d1⟩, ⟨t0, t1⟩, ⟨u0, u1⟩, ⟨p0, p1⟩, ⟨q0, q1⟩, _⟩ := Ask.bounds he
  have hf : a.frame.data.toList = a.body.data.toList ++ (strOfNums (lowB (crc a.body.data.toList))).data.toList := by
    rw [Ask.frame]; simp [ByteArray.data_append]
  have hb : a.body.data.toList = a.nums.map fun n => UInt8.ofNat n.toNat := strOfNums_data _
  have hbl : a.body.data.toList.length = 26 := by rw [Array.length_toList]; exact a.body_size
  have hll := low_len (crc a.body.data.toList)
  have e1 : a.frame.extract 0 26 = a.body := by
    apply ByteArray.ext
    apply Array.toList_inj.1
    rw [extract_list, hf, List.drop_zero, List.take_append_of_le_length (by omega), List.take_of_length_le (by omega)]
  have e2 : a.frame.extract 26 30 = strOfNums (lowB (crc a.body.data.toList)) := by
    apply ByteArray.ext
    apply Array.toList_inj.1
    rw [extract_list, hf, List.drop_append_of_le_length (by omega), List.drop_of_length_le (by omega), List.nil_append, List.take_of_length_le (by omega)]
  generalize (strOfNums (lowB (crc a.body.data.toList))).data.toList = q at *
  have hd : ∀ i k, i + k ≤ 26 → (a.frame.data.toList.drop i).take k = ((a.nums.map fun n => UInt8.ofNat n.toNat).drop i).take k := fun i k hik => by
    rw [hf, List.drop_append_of_le_length (by omega), List.take_append_of_le_length (by rw [List.length_drop]; omega), hb]
  have hg : ∀ i, i < 26 → a.frame.data.toList.getD i 0 = (a.nums.map fun n => UInt8.ofNat n.toNat).getD i 0 := fun i hi => by
    rw [List.getD_eq_getElem?_getD, List.getD_eq_getElem?_getD, hf, List.getElem?_append_left (by omega), hb]
  refine ⟨a.frame_size, ?_, ?_, ?_⟩
  · unfold sumOk; rw [e1, e2]
  · rw [extract_list, hd 20 (26 - 20) (by decide)]
    rfl
  · have x0 : at8 a.frame 0 = a.kind := by rw [at8_list, hg 0 (by decide)]; exact byteNat hk.1 (by omega)
    have x1 : at8 a.frame 1 = a.client := by rw [at8_list, hg 1 (by decide)]; exact byteNat c0 (by omega)
    have x6 : at8 a.frame 6 = a.item := by rw [at8_list, hg 6 (by decide)]; exact byteNat t0 (by omega)
    have x7 : at8 a.frame 7 = a.side := by rw [at8_list, hg 7 (by decide)]; exact byteNat u0 (by omega)
    have y2 : num4 a.frame 2 = a.seq := num4_high s0 s1 (by rw [hd 2 4 (by decide)]; rfl)
    have y8 : num4 a.frame 8 = a.price := num4_high p0 (by omega) (by rw [hd 8 4 (by decide)]; rfl)
    have y12 : num4 a.frame 12 = a.qty := num4_high q0 (by omega) (by rw [hd 12 4 (by decide)]; rfl)
    have y16 : num4 a.frame 16 = a.id := num4_high d0 d1 (by rw [hd 16 4 (by decide)]; rfl)
    unfold askAt
    rw [x0, x1, x6, x7, y2, y8, y12, y16]
theorem decE_frame {a : Ask} (hk : 0 ≤ a.kind ∧ a.kind ≤ 255) (he : a.err = 0) : decE a.frame = 0 ∧ decA a.frame = a := by
  obtain ⟨h1, h2, h3, h4⟩ := dec_frame hk he
  have h : decE a.frame = 0 := by
    unfold decE
    rw [if_neg (by rw [h1]; decide), if_neg (fun h => h h2), if_neg (fun h => h h3), h4, he]
  exact ⟨h, by unfold decA; rw [if_pos h, h4]⟩
end Go.Proofs.YthngmmhoakegeaaDoor
