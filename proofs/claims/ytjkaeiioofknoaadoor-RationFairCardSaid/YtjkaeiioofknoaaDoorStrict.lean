/- What clear's Strict computes. -/
import Derived.Test.YtjkaeiioofknoaaDoorClearP
set_option linter.unusedSimpArgs false
set_option linter.unusedVariables false
namespace Go.Proofs.YtjkaeiioofknoaaDoor
open Go.RowKit

def isStrict (side p : Int) (x : Lot) : Bool := x.side == side && ((side == 0 && decide (x.price > p)) || (side == 1 && decide (x.price < p)))

set_option maxRecDepth 100000 in
set_option maxHeartbeats 2000000 in
theorem strict_any (ao : Option Addr) (len cap : Nat) (l : List Lot) (side p : Int) (E : Nat → Addr) (w : World) (hcap : len ≤ cap) (hE : Errs E [2, 7, 8] w) (hl : LotsAt w ao len l) (hok : LotsOk l) :
    Calls Tryd.prog 23 #[.slice ao len cap, .int .i64 side, .int .i64 p] w fun e w' => e = .returned (.int .i64 (sumOf (isStrict side p) l)) ∧ Ex w w' := by
  have HC := Lib.hid (check_any ao len cap l E w hcap hE hl)
  have hlen := hl.1
  have hmx := hl.2.1
  have h120 := hok.1
  have HL := Lib.hid hlen
  have HLA := Lib.hid hl
  have HOK := Lib.hid hok
  clear hl hlen hE hok
  go_enter Tryd.func23, Tryd.ntmps23
  go_wp2_with (go_at_call 15; refine HC.out.mono ?_; rintro e w1 ⟨⟨v, rfl, hv⟩, l1, d1, rfl⟩; have hvn := CheckV.ok HOK.out hv; clear hv; subst hvn)
  go_loopw [7, 15] (fun n i wr => ∃ (k : Nat), k ≤ len ∧ i = .int .i64 k ∧ n = .int .i64 (sumOf (isStrict side p) (l.take k)) ∧ Ex w wr) (fun _ i _ => len - (intOf i).toNat)
  case atStart => exact ⟨0, Nat.zero_le _, rfl, (by simp [sumOf]), (by repeat (first | exact Ex.refl _ | refine Ex.alloc ?_ _ | refine Ex.ext ?_ _ _ | refine Ex.drew ?_ | refine Ex.drewN ?_ _))⟩
  case round =>
    obtain ⟨k, hk, rfl, rfl, l2, d2, rfl⟩ := hrel
    by_cases hlt : k < len
    · have hl := HLA.out
      obtain ⟨b, off, rfl, hbs, hz⟩ := hl.2.2.2 (by omega)
      have hzk := hz k (by rw [HL.out]; exact hlt)
      clear hz
      have hg : ∃ a, l[k]? = some a ∧ a = l[k]'(by rw [HL.out]; exact hlt) := ⟨_, List.getElem?_eq_getElem (by rw [HL.out]; exact hlt), rfl⟩
      obtain ⟨a, ha0, ha⟩ := hg
      rw [← ha] at hzk
      clear ha
      have hstep := sumOf_step (isStrict side p) ha0
      obtain ⟨hb0, hb1⟩ := HOK.out.sum_bounds (isStrict side p) k
      obtain ⟨hq0, hq1⟩ := HOK.out.qty ha0
      clear ha0
      have a0 := hzk 0 (by omega)
      have a1 := hzk 1 (by omega)
      have a2 := hzk 2 (by omega)
      have a3 := hzk 3 (by omega)
      have a4 := hzk 4 (by omega)
      simp only [Lot.cells, List.getElem?_cons_zero, List.getElem?_cons_succ, Nat.add_zero] at a0 a1 a2 a3 a4
      clear hzk hl
      have HS := Lib.hid hstep
      clear hstep
      generalize sumOf (isStrict side p) (l.take k) = n at *
      cases h1 : (a.side == side)
      · have htk : isStrict side p a = false := by simp only [isStrict, *, Bool.false_and, Bool.true_and, Bool.and_true, Bool.and_false, Bool.or_true, Bool.true_or, Bool.false_or, Bool.or_false] <;> (first | done | rfl | (simp; done) | (simp; omega))
        have HTK := Lib.hid htk
        clear htk
        go_wp2
        all_goals
          go_roundw
          case measure => simp [intOf]; omega
          case rel => exact ⟨k + 1, by omega, by go_num, by rw [HS.out, HTK.out]; first | rfl | (simp; done), (by repeat (first | exact Ex.refl _ | refine Ex.alloc ?_ _ | refine Ex.ext ?_ _ _ | refine Ex.drew ?_ | refine Ex.drewN ?_ _))⟩
      cases h2 : (side == 0)
      · cases h3 : (side == 1)
        · have htk : isStrict side p a = false := by simp only [isStrict, *, Bool.false_and, Bool.true_and, Bool.and_true, Bool.and_false, Bool.or_true, Bool.true_or, Bool.false_or, Bool.or_false] <;> (first | done | rfl | (simp; done) | (simp; omega))
          have HTK := Lib.hid htk
          clear htk
          go_wp2
          all_goals
            go_roundw
            case measure => simp [intOf]; omega
            case rel => exact ⟨k + 1, by omega, by go_num, by rw [HS.out, HTK.out]; first | rfl | (simp; done), (by repeat (first | exact Ex.refl _ | refine Ex.alloc ?_ _ | refine Ex.ext ?_ _ _ | refine Ex.drew ?_ | refine Ex.drewN ?_ _))⟩
        · by_cases h4 : a.price < p
          · have htk : isStrict side p a = true := by simp only [isStrict, *, Bool.false_and, Bool.true_and, Bool.and_true, Bool.and_false, Bool.or_true, Bool.true_or, Bool.false_or, Bool.or_false] <;> (first | done | rfl | (simp; done) | (simp; omega))
            have HTK := Lib.hid htk
            clear htk
            go_wp2
            all_goals
              go_roundw
              case measure => simp [intOf]; omega
              case rel => exact ⟨k + 1, by omega, by go_num, by rw [HS.out, HTK.out]; first | rfl | (simp; done), (by repeat (first | exact Ex.refl _ | refine Ex.alloc ?_ _ | refine Ex.ext ?_ _ _ | refine Ex.drew ?_ | refine Ex.drewN ?_ _))⟩
          · have htk : isStrict side p a = false := by simp only [isStrict, *, Bool.false_and, Bool.true_and, Bool.and_true, Bool.and_false, Bool.or_true, Bool.true_or, Bool.false_or, Bool.or_false] <;> (first | done | rfl | (simp; done) | (simp; omega))
            have HTK := Lib.hid htk
            clear htk
            go_wp2
            all_goals
              go_roundw
              case measure => simp [intOf]; omega
              case rel => exact ⟨k + 1, by omega, by go_num, by rw [HS.out, HTK.out]; first | rfl | (simp; done), (by repeat (first | exact Ex.refl _ | refine Ex.alloc ?_ _ | refine Ex.ext ?_ _ _ | refine Ex.drew ?_ | refine Ex.drewN ?_ _))⟩
      · have h3 : (side == 1) = false := by simp at h2 ⊢; omega
        by_cases h4 : a.price > p
        · have htk : isStrict side p a = true := by simp only [isStrict, *, Bool.false_and, Bool.true_and, Bool.and_true, Bool.and_false, Bool.or_true, Bool.true_or, Bool.false_or, Bool.or_false] <;> (first | done | rfl | (simp; done) | (simp; omega))
          have HTK := Lib.hid htk
          clear htk
          go_wp2
          all_goals
            go_roundw
            case measure => simp [intOf]; omega
            case rel => exact ⟨k + 1, by omega, by go_num, by rw [HS.out, HTK.out]; first | rfl | (simp; done), (by repeat (first | exact Ex.refl _ | refine Ex.alloc ?_ _ | refine Ex.ext ?_ _ _ | refine Ex.drew ?_ | refine Ex.drewN ?_ _))⟩
        · have htk : isStrict side p a = false := by simp only [isStrict, *, Bool.false_and, Bool.true_and, Bool.and_true, Bool.and_false, Bool.or_true, Bool.true_or, Bool.false_or, Bool.or_false] <;> (first | done | rfl | (simp; done) | (simp; omega))
          have HTK := Lib.hid htk
          clear htk
          go_wp2
          all_goals
            go_roundw
            case measure => simp [intOf]; omega
            case rel => exact ⟨k + 1, by omega, by go_num, by rw [HS.out, HTK.out]; first | rfl | (simp; done), (by repeat (first | exact Ex.refl _ | refine Ex.alloc ?_ _ | refine Ex.ext ?_ _ _ | refine Ex.drew ?_ | refine Ex.drewN ?_ _))⟩
    · go_wp2
      go_ret
      exact ⟨ret_int (by rw [List.take_of_length_le (by have := HL.out; omega)]), (by repeat (first | exact Ex.refl _ | refine Ex.alloc ?_ _ | refine Ex.ext ?_ _ _ | refine Ex.drew ?_ | refine Ex.drewN ?_ _))⟩
end Go.Proofs.YtjkaeiioofknoaaDoor
