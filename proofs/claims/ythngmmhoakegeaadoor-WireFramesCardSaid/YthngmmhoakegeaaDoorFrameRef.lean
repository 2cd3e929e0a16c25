/- What the document's answer's Frame computes. -/
import Derived.Test.YthngmmhoakegeaaDoorNumRef
import Derived.Test.YthngmmhoakegeaaDoorDecP
import Derived.Deep.RegionHeld3
set_option linter.unusedSimpArgs false
set_option linter.unusedVariables false
namespace Go.Proofs.YthngmmhoakegeaaDoor
open Go.RowKit

def strSz : Value → Nat
  | .string s => s.size
  | _ => 0
def Ask.nums20 (a : Ask) : List Int := [a.kind, a.client] ++ highB a.seq ++ [a.item, a.side] ++ highB a.price ++ highB a.qty ++ highB a.id
theorem Ask.nums_eq (a : Ask) : a.nums = a.nums20 ++ List.replicate 6 0 := rfl
set_option maxRecDepth 100000 in
set_option maxHeartbeats 2000000 in
theorem frameRef_any (a : Ask) (w : World) (hk : 0 ≤ a.kind ∧ a.kind ≤ 255) (he : a.err = 0) : Calls Tryd.prog 51 #[a.val] w fun e w' => e = .returned (.string a.frame) ∧ Ex w w' := by
  obtain ⟨⟨c0, c1⟩, ⟨s0, s1⟩, ⟨d0, d1⟩, ⟨t0, t1⟩, ⟨u0, u1⟩, ⟨p0, p1⟩, ⟨q0, q1⟩, _⟩ := Ask.bounds he
  have HB := Lib.hid byteRef_any
  have HH := Lib.hid highRef_any
  have HF : Hid (a.frame = strOfNums a.nums ++ strOfNums (lowB (crc (strOfNums a.nums).data.toList))) := Lib.hid rfl
  have HN : Hid (strOfNums [a.kind] ++ strOfNums [a.client] ++ strOfNums (highB a.seq) ++ strOfNums [a.item] ++ strOfNums [a.side] ++ strOfNums (highB a.price) ++ strOfNums (highB a.qty) ++ strOfNums (highB a.id) = strOfNums a.nums20) := Lib.hid (by
    simp only [strOfNums_append]; rfl)
  clear he
  have zk : (strOfNums [a.kind]).size = 1 := by rw [strOfNums_size]; rfl
  have zc : (strOfNums [a.client]).size = 1 := by rw [strOfNums_size]; rfl
  have zs : (strOfNums (highB a.seq)).size = 4 := by rw [strOfNums_size]; rfl
  have zi : (strOfNums [a.item]).size = 1 := by rw [strOfNums_size]; rfl
  have zd : (strOfNums [a.side]).size = 1 := by rw [strOfNums_size]; rfl
  have zp : (strOfNums (highB a.price)).size = 4 := by rw [strOfNums_size]; rfl
  have zq : (strOfNums (highB a.qty)).size = 4 := by rw [strOfNums_size]; rfl
  have zx : (strOfNums (highB a.id)).size = 4 := by rw [strOfNums_size]; rfl
  obtain ⟨k0, k1⟩ := hk
  have kw : IntKind.i64.wrap a.kind = a.kind := by simp [IntKind.wrap, IntKind.bits, IntKind.signed]; omega
  have kw2 : wrap64 a.kind = a.kind := by unfold wrap64; omega
  go_enter Tryd.func51, Tryd.ntmps51
  go_wp2_with fail
  go_region_held3 (fun w' => w'.cell? ⟨w.heap.size, 0, none⟩ = some (.int .u8 a.kind) ∧ w'.cell? ⟨w.heap.size, 1, none⟩ = some (.int .i64 a.client) ∧ w'.cell? ⟨w.heap.size, 2, none⟩ = some (.int .i64 a.seq) ∧ w'.cell? ⟨w.heap.size, 3, none⟩ = some (.int .i64 a.item) ∧ w'.cell? ⟨w.heap.size, 4, none⟩ = some (.int .i64 a.side) ∧ w'.cell? ⟨w.heap.size, 5, none⟩ = some (.int .i64 a.price) ∧ w'.cell? ⟨w.heap.size, 6, none⟩ = some (.int .i64 a.qty) ∧ w'.cell? ⟨w.heap.size, 7, none⟩ = some (.int .i64 a.id))
    (first | (refine ⟨?_, ?_, ?_, ?_, ?_, ?_, ?_, ?_⟩ <;> assumption) | (simp [go_sem, ↓IntWalk.iteOmega, *]; done))
    (first
      | (go_at_call 68; ((with_reducible refine (HB.out _ _ ?_ ?_).mono ?_); (focus omega); (focus omega)); rintro e w1 ⟨rfl, l1, d1, rfl⟩)
      | (go_at_call 69; ((with_reducible refine (HH.out _ _ ?_ ?_).mono ?_); (focus omega); (focus omega)); rintro e w1 ⟨rfl, l1, d1, rfl⟩))
  all_goals go_wp2_with fail
  rw [HN.out]
  have hn20 : a.nums20.length = 20 := rfl
  go_loop [3] (fun v => ∃ k : Nat, k ≤ 6 ∧ v = .string (strOfNums (a.nums20 ++ List.replicate k 0))) (fun v => 26 - strSz v)
  case atStart => exact ⟨0, by omega, by rw [List.replicate_zero, List.append_nil]⟩
  case round =>
    obtain ⟨k, hk, rfl⟩ := hrel
    have hsz : (strOfNums (a.nums20 ++ List.replicate k 0)).size = 20 + k := by rw [strOfNums_size, List.length_append, hn20, List.length_replicate]
    by_cases hlt : k < 6
    · have HT : Hid (strOfNums (a.nums20 ++ List.replicate k 0) ++ ⟨#[0]⟩ = strOfNums (a.nums20 ++ List.replicate (k + 1) 0)) := Lib.hid (by
        rw [show (⟨#[0]⟩ : ByteArray) = strOfNums [0] from rfl, strOfNums_append, List.append_assoc, ← List.replicate_succ'])
      generalize strOfNums (a.nums20 ++ List.replicate k 0) = T at *
      go_wp2_with fail
      all_goals
        go_round
        case measure => simp [strSz, go_sem]; omega
        case rel => exact ⟨k + 1, by omega, by rw [← HT.out]⟩
    · obtain rfl : k = 6 := by omega
      rw [← Ask.nums_eq] at hsz ⊢
      have HC := Lib.hid (fun w => crcRef_any (strOfNums a.nums) w (by rw [hsz]; decide))
      have hcl := crc_lt (strOfNums a.nums).data.toList
      have HL := Lib.hid (fun w => lowRef_any (crc (strOfNums a.nums).data.toList) w hcl)
      generalize crc (strOfNums a.nums).data.toList = c at *
      have z4 : (strOfNums (lowB c)).size = 4 := by rw [strOfNums_size]; rfl
      generalize strOfNums a.nums = T at *
      go_wp2_with (first
        | (go_at_call 54; refine (HC.out _).mono ?_; rintro e w1 ⟨rfl, rfl⟩)
        | (go_at_call 70; refine (HL.out _).mono ?_; rintro e w1 ⟨rfl, l6, d6, rfl⟩))
      all_goals go_ret
      all_goals exact ⟨by rw [HF.out]; rfl, (by repeat (first | exact Ex.refl _ | refine Ex.alloc ?_ _ | refine Ex.ext ?_ _ _ | refine Ex.drew ?_ | refine Ex.drewN ?_ _))⟩
end Go.Proofs.YthngmmhoakegeaaDoor
