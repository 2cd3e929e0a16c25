/- The walk of WireFrames. -/
import Derived.Test.YthngmmhoakegeaaDoorDecAny
import Derived.Test.YthngmmhoakegeaaDoorFrameRef
set_option linter.unusedSimpArgs false
set_option linter.unusedVariables false
namespace Go.Proofs.YthngmmhoakegeaaDoor
open Go.RowKit

set_option maxRecDepth 100000 in
theorem frames_out (a : Ask) (s : ByteArray) (E : Nat → Addr) (w : World) (hE : Errs E [2, 3, 4] w) (h : 100 < s.size) (hm : s.size ≤ maxLen) :
    Calls Tryd.prog 12 #[a.val, .string s] w fun e w' => e = .returned (.bool true) ∧ Ex w w' := by
  have h1 : (100 : Int) < (s.size : Int) := by omega
  go_enter Tryd.func12, Tryd.ntmps12
  go_wp2_with (go_at_call 25; refine (framed_any E _ (by exact Errs.sub (hE.ex (by repeat (first | exact Ex.refl _ | refine Ex.alloc ?_ _ | refine Ex.ext ?_ _ _ | refine Ex.drew ?_ | refine Ex.drewN ?_ _))) (by decide))).mono ?_; rintro e w1 ⟨rfl, l1, d1, rfl⟩)
  all_goals go_ret
  all_goals exact ⟨rfl, (by repeat (first | exact Ex.refl _ | refine Ex.alloc ?_ _ | refine Ex.ext ?_ _ _ | refine Ex.drew ?_ | refine Ex.drewN ?_ _))⟩
set_option maxRecDepth 100000 in
set_option maxHeartbeats 4000000 in
theorem frames_in (a : Ask) (s : ByteArray) (E : Nat → Addr) (w : World) (hk : 0 ≤ a.kind ∧ a.kind ≤ 255) (hR : CodeReady E w) (h : s.size ≤ 100) :
    Calls Tryd.prog 12 #[a.val, .string s] w fun e w' => e = .returned (.bool true) ∧ Ex w w' := by
  have hE : Errs E [2, 3, 4] w := Errs.sub hR.1 (by decide)
  have HR := Lib.hid hR
  have h1 : ¬ (100 : Int) < (s.size : Int) := by omega
  have HAE := Lib.hid (fun w => askError_any a w)
  have HCK := Lib.hid (fun w hE => wireCheck_any a E w hE)
  have HDS := Lib.hid (fun w hE => decode_any s E w hE)
  have HAS := Lib.hid (fun w => askOf_any s w)
  have hds := decE_le s
  have HCD := Lib.hid (fun w hr => coded_same (decE s) E w hr (by omega))
  have hxx := fun w => ask_eq_self (decA s) w
  have HS1 := Lib.hid (fun w => sum_any s w (by unfold maxLen; omega))
  have HS2 := Lib.hid (fun w => crcRef_any s w (by unfold maxLen; omega))
  have hcl := crc_lt s.data.toList
  have hel := a.err_le
  generalize crc s.data.toList = cs at *
  generalize decA s = X at *
  generalize decE s = ds at *
  by_cases he : a.err = 0
  · have HEN := Lib.hid (fun w hE => encode_ok a E w hE he)
    have HFR := Lib.hid (fun w => frameRef_any a w hk he)
    obtain ⟨f1, f2⟩ := decE_frame hk he
    have HDF := Lib.hid (fun w hE => decode_any a.frame E w hE)
    rw [f1, f2, errV_zero] at HDF
    have hne := fun w => ask_ne_self a w
    have HC0 := Lib.hid (fun w => coded_nil 0 w)
    rw [he] at HAE HCK
    rw [show ((0 : Nat) : Int) = 0 from rfl] at HAE
    rw [errV_zero] at HCK
    clear hR f1 f2
    generalize a.frame = f at *
    go_enter Tryd.func12, Tryd.ntmps12
    go_wp2_with (first
      | (go_at_call 25; refine (framed_any E _ (by exact Errs.sub (hE.ex (by repeat (first | exact Ex.refl _ | refine Ex.alloc ?_ _ | refine Ex.ext ?_ _ _ | refine Ex.drew ?_ | refine Ex.drewN ?_ _))) (by decide))).mono ?_; rintro e w1 ⟨rfl, l1, d1, rfl⟩)
      | (go_at_call 48; refine (HAE.out _).mono ?_; rintro e w1 ⟨rfl, l2, d2, rfl⟩)
      | (go_at_call 26; refine (HEN.out _ (by exact Errs.sub (hE.ex (by repeat (first | exact Ex.refl _ | refine Ex.alloc ?_ _ | refine Ex.ext ?_ _ _ | refine Ex.drew ?_ | refine Ex.drewN ?_ _))) (by decide))).mono ?_; rintro e w1 ⟨rfl, l3, d3, rfl⟩)
      | (go_at_call 49; refine (HCK.out _ (by exact Errs.sub (hE.ex (by repeat (first | exact Ex.refl _ | refine Ex.alloc ?_ _ | refine Ex.ext ?_ _ _ | refine Ex.drew ?_ | refine Ex.drewN ?_ _))) (by decide))).mono ?_; rintro e w1 ⟨rfl, l4, d4, rfl⟩)
      | (go_at_call 31; (with_reducible refine (HC0.out _).mono ?_); rintro e w1 ⟨rfl, l5, d5, rfl⟩)
      | (go_at_call 50; (with_reducible refine (HDF.out _ ?_).mono ?_); (focus exact Errs.sub (HR.out.1.ex (by repeat (first | exact Ex.refl _ | refine Ex.alloc ?_ _ | refine Ex.ext ?_ _ _ | refine Ex.drew ?_ | refine Ex.drewN ?_ _))) (by decide)); rintro e w1 ⟨rfl, l6, d6, rfl⟩)
      | (go_at_call 51; refine (HFR.out _).mono ?_; rintro e w1 ⟨rfl, l7, d7, rfl⟩)
      | (go_at_call 50; (with_reducible refine (HDS.out _ ?_).mono ?_); (focus exact Errs.sub (HR.out.1.ex (by repeat (first | exact Ex.refl _ | refine Ex.alloc ?_ _ | refine Ex.ext ?_ _ _ | refine Ex.drew ?_ | refine Ex.drewN ?_ _))) (by decide)); rintro e w1 ⟨rfl, l8, d8, rfl⟩)
      | (go_at_call 52; refine (HAS.out _).mono ?_; rintro e w1 ⟨rfl, l9, d9, rfl⟩)
      | (go_at_call 31; (with_reducible refine (HCD.out _ ?_).mono ?_); (focus exact HR.out.ex (by repeat (first | exact Ex.refl _ | refine Ex.alloc ?_ _ | refine Ex.ext ?_ _ _ | refine Ex.drew ?_ | refine Ex.drewN ?_ _))); rintro e w1 ⟨rfl, l10, d10, rfl⟩)
      | (go_at_call 53; refine (HS1.out _).mono ?_; rintro e w1 ⟨rfl, rfl⟩)
      | (go_at_call 54; refine (HS2.out _).mono ?_; rintro e w1 ⟨rfl, rfl⟩))
    all_goals go_ret
    all_goals exact ⟨rfl, (by repeat (first | exact Ex.refl _ | refine Ex.alloc ?_ _ | refine Ex.ext ?_ _ _ | refine Ex.drew ?_ | refine Ex.drewN ?_ _))⟩
  · have HEN := Lib.hid (fun w hE => encode_bad a E w hE he)
    have HCE := Lib.hid (fun w hr => coded_same a.err E w hr (by omega))
    rw [errV_pos _ _ he] at HCK HCE
    have hep : (0 : Int) < (a.err : Int) := by omega
    clear hR he
    generalize a.err = ae at *
    go_enter Tryd.func12, Tryd.ntmps12
    go_wp2_with (first
      | (go_at_call 25; refine (framed_any E _ (by exact Errs.sub (hE.ex (by repeat (first | exact Ex.refl _ | refine Ex.alloc ?_ _ | refine Ex.ext ?_ _ _ | refine Ex.drew ?_ | refine Ex.drewN ?_ _))) (by decide))).mono ?_; rintro e w1 ⟨rfl, l1, d1, rfl⟩)
      | (go_at_call 48; refine (HAE.out _).mono ?_; rintro e w1 ⟨rfl, l2, d2, rfl⟩)
      | (go_at_call 26; refine (HEN.out _ (by exact Errs.sub (hE.ex (by repeat (first | exact Ex.refl _ | refine Ex.alloc ?_ _ | refine Ex.ext ?_ _ _ | refine Ex.drew ?_ | refine Ex.drewN ?_ _))) (by decide))).mono ?_; rintro e w1 ⟨rfl, l3, d3, rfl⟩)
      | (go_at_call 49; refine (HCK.out _ (by exact Errs.sub (hE.ex (by repeat (first | exact Ex.refl _ | refine Ex.alloc ?_ _ | refine Ex.ext ?_ _ _ | refine Ex.drew ?_ | refine Ex.drewN ?_ _))) (by decide))).mono ?_; rintro e w1 ⟨rfl, l4, d4, rfl⟩)
      | (go_at_call 31; (with_reducible refine (HCE.out _ ?_).mono ?_); (focus exact HR.out.ex (by repeat (first | exact Ex.refl _ | refine Ex.alloc ?_ _ | refine Ex.ext ?_ _ _ | refine Ex.drew ?_ | refine Ex.drewN ?_ _))); rintro e w1 ⟨rfl, l5, d5, rfl⟩)
      | (go_at_call 50; refine (HDS.out _ (Errs.sub (HR.out.1.ex (by repeat (first | exact Ex.refl _ | refine Ex.alloc ?_ _ | refine Ex.ext ?_ _ _ | refine Ex.drew ?_ | refine Ex.drewN ?_ _))) (by decide))).mono ?_; rintro e w1 ⟨rfl, l8, d8, rfl⟩)
      | (go_at_call 52; refine (HAS.out _).mono ?_; rintro e w1 ⟨rfl, l9, d9, rfl⟩)
      | (go_at_call 31; (with_reducible refine (HCD.out _ ?_).mono ?_); (focus exact HR.out.ex (by repeat (first | exact Ex.refl _ | refine Ex.alloc ?_ _ | refine Ex.ext ?_ _ _ | refine Ex.drew ?_ | refine Ex.drewN ?_ _))); rintro e w1 ⟨rfl, l10, d10, rfl⟩)
      | (go_at_call 53; refine (HS1.out _).mono ?_; rintro e w1 ⟨rfl, rfl⟩)
      | (go_at_call 54; refine (HS2.out _).mono ?_; rintro e w1 ⟨rfl, rfl⟩))
    all_goals go_ret
    all_goals exact ⟨rfl, (by repeat (first | exact Ex.refl _ | refine Ex.alloc ?_ _ | refine Ex.ext ?_ _ _ | refine Ex.drew ?_ | refine Ex.drewN ?_ _))⟩
end Go.Proofs.YthngmmhoakegeaaDoor
