/- What the document's answer's Byte, High, Low and Number compute. -/
import Derived.Test.YtfeeibealokhfaaDoorBytes
import Derived.Test.YtfeeibealokhfaaDoorCrcRef
set_option linter.unusedSimpArgs false
set_option linter.unusedVariables false
namespace Go.Proofs.YtfeeibealokhfaaDoor
open Go.RowKit

theorem byteRef_any (n : Int) (w : World) (h0 : 0 ≤ n) (h1 : n < 256) : Calls Tryd.prog 93 #[.int .i64 n] w fun e w' => e = .returned (.string (strOfNums [n])) ∧ Ex w w' := by
  have hconv := run_convert_bytes_arg (P := Tryd.prog) (w.alloc (.cells #[.int .u8 n] 5))
    119 5 Tryd.underlying119 Tryd.underlying5 w.heap.size 0 1 1 [n] rfl
    (fun i hi => by
      match i, hi with
      | 0, _ => simp) 9 Tryd.underlying9
  have hw : IntKind.u8.wrap n = n := IntWalk.u8_in _ (by omega)
  go_enter Tryd.func93, Tryd.ntmps93
  go_wp2
  go_ret
  exact ⟨rfl, (by repeat (first | exact Ex.refl _ | refine Ex.alloc ?_ _ | refine Ex.ext ?_ _ _ | refine Ex.drew ?_ | refine Ex.drewN ?_ _))⟩
set_option maxRecDepth 100000 in
theorem highRef_any (n : Int) (w : World) (h0 : 0 ≤ n) (h1 : n < 4294967296) : Calls Tryd.prog 80 #[.int .i64 n] w fun e w' => e = .returned (.string (strOfNums (highB n))) ∧ Ex w w' := by
  have q1 : n.tdiv 16777216 = n / 16777216 := Int.tdiv_eq_ediv_of_nonneg h0
  have q2 : n.tdiv 65536 = n / 65536 := Int.tdiv_eq_ediv_of_nonneg h0
  have q3 : n.tdiv 256 = n / 256 := Int.tdiv_eq_ediv_of_nonneg h0
  have r2 : (n / 65536).tmod 256 = n / 65536 % 256 := Int.tmod_eq_emod_of_nonneg (by omega)
  have r3 : (n / 256).tmod 256 = n / 256 % 256 := Int.tmod_eq_emod_of_nonneg (by omega)
  have r4 : n.tmod 256 = n % 256 := Int.tmod_eq_emod_of_nonneg h0
  have HB := Lib.hid byteRef_any
  go_enter Tryd.func80, Tryd.ntmps80
  go_wp2_with (go_at_call 93; refine (HB.out _ _ (by omega) (by omega)).mono ?_; rintro e w1 ⟨rfl, l1, d1, rfl⟩)
  all_goals go_ret
  all_goals exact ⟨by rw [strOfNums_append, strOfNums_append, strOfNums_append]; rfl, (by repeat (first | exact Ex.refl _ | refine Ex.alloc ?_ _ | refine Ex.ext ?_ _ _ | refine Ex.drew ?_ | refine Ex.drewN ?_ _))⟩
set_option maxRecDepth 100000 in
theorem lowRef_any (v : Nat) (w : World) (h1 : v < 4294967296) : Calls Tryd.prog 81 #[.int .i64 (v : Int)] w fun e w' => e = .returned (.string (strOfNums (lowB v))) ∧ Ex w w' := by
  obtain ⟨n, hn⟩ : ∃ n : Int, n = (v : Int) := ⟨_, rfl⟩
  have h0 : 0 ≤ n := by omega
  have h2 : n < 4294967296 := by omega
  have hl : lowB v = [n % 256, n / 256 % 256, n / 65536 % 256, n / 16777216] := by rw [lowB, hn]
  rw [hl, ← hn]
  clear hl hn h1
  have q1 : n.tdiv 16777216 = n / 16777216 := Int.tdiv_eq_ediv_of_nonneg h0
  have q2 : n.tdiv 65536 = n / 65536 := Int.tdiv_eq_ediv_of_nonneg h0
  have q3 : n.tdiv 256 = n / 256 := Int.tdiv_eq_ediv_of_nonneg h0
  have r2 : (n / 65536).tmod 256 = n / 65536 % 256 := Int.tmod_eq_emod_of_nonneg (by omega)
  have r3 : (n / 256).tmod 256 = n / 256 % 256 := Int.tmod_eq_emod_of_nonneg (by omega)
  have r4 : n.tmod 256 = n % 256 := Int.tmod_eq_emod_of_nonneg h0
  have HB := Lib.hid byteRef_any
  go_enter Tryd.func81, Tryd.ntmps81
  go_wp2_with (go_at_call 93; refine (HB.out _ _ (by omega) (by omega)).mono ?_; rintro e w1 ⟨rfl, l1, d1, rfl⟩)
  all_goals go_ret
  all_goals exact ⟨by rw [strOfNums_append, strOfNums_append, strOfNums_append]; rfl, (by repeat (first | exact Ex.refl _ | refine Ex.alloc ?_ _ | refine Ex.ext ?_ _ _ | refine Ex.drew ?_ | refine Ex.drewN ?_ _))⟩
/-- The number of bytes, the highest first. -/
def numL (l : List UInt8) : Nat := l.foldl (fun n b => 256 * n + b.toNat) 0
theorem numL_snoc (l : List UInt8) (b : UInt8) : numL (l ++ [b]) = 256 * numL l + b.toNat := by simp [numL]
theorem numL_lt : ∀ (k : Nat) (l : List UInt8), l.length = k → numL l < 256 ^ k := by
  intro k
  induction k with
  | zero => intro l h; obtain rfl := List.length_eq_zero_iff.1 h; decide
  | succ k ih =>
    intro l h
    obtain ⟨l', b, rfl⟩ : ∃ l' b, l = l' ++ [b] := ⟨l.dropLast, l.getLast (by intro e; rw [e] at h; simp at h), (List.dropLast_concat_getLast _).symm⟩
    rw [numL_snoc]
    have := ih l' (by simpa using h)
    have hb := b.toNat_lt
    rw [Nat.pow_succ]
    omega
set_option maxRecDepth 100000 in
theorem number_any (s : ByteArray) (w : World) (hs : s.size ≤ 6) : Calls Tryd.prog 73 #[.string s] w fun e w' => e = .returned (.int .i64 (numL s.data.toList)) ∧ w = w' := by
  go_enter Tryd.func73, Tryd.ntmps73
  go_wp2
  go_loop [3, 4] (fun c i => ∃ (k : Nat), k ≤ s.size ∧ i = .int .i64 k ∧ c = .int .i64 (numL (s.data.toList.take k))) (fun _ i => s.size - (intOf i).toNat)
  case atStart => exact ⟨0, Nat.zero_le _, rfl, rfl⟩
  case round =>
    obtain ⟨k, hk, rfl, rfl⟩ := hrel
    have hlen : (s.data.toList.take k).length = k := by rw [List.length_take, Array.length_toList]; exact Nat.min_eq_left hk
    have hx := numL_lt k (s.data.toList.take k) hlen
    have hx6 : numL (s.data.toList.take k) < 281474976710656 := Nat.lt_of_lt_of_le hx (Nat.le_trans (Nat.pow_le_pow_right (by decide) (show k ≤ 6 by omega)) (by decide))
    by_cases hlt : k < s.size
    · have hb : (s[k]).toNat < 256 := (s[k]).toNat_lt
      have hsn := numL_snoc (s.data.toList.take k) s[k]
      rw [← take_snoc s k hlt] at hsn
      have HS := Lib.hid hsn
      clear hsn hx hlen
      generalize numL (s.data.toList.take k) = x at *
      go_wp2
      all_goals
        go_round
        case rel => exact ⟨k + 1, by omega, by go_num, by rw [HS.out]; congr 1⟩
        case measure => simp [intOf]; omega
    · obtain rfl : k = s.size := by omega
      have HC : Hid (numL (s.data.toList.take s.size) = numL s.data.toList) := Lib.hid (by rw [List.take_of_length_le (by rw [Array.length_toList]; exact Nat.le_refl _)])
      generalize numL (s.data.toList.take s.size) = x at *
      go_wp2
      go_ret
      exact ⟨by rw [← HC.out]; rfl, rfl⟩
end Go.Proofs.YtfeeibealokhfaaDoor
