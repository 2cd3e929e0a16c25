/- What Decode and AskOf make of any text. -/
import Derived.Test.YthngmmhoakegeaaDoorDecode
import Derived.Test.YthngmmhoakegeaaDoorFramesP
import Derived.Test.YthngmmhoakegeaaDoorCoded1
set_option linter.unusedSimpArgs false
set_option linter.unusedVariables false
namespace Go.Proofs.YthngmmhoakegeaaDoor
open Go.RowKit

theorem ask_eq_self (a : Ask) (w : World) : (binOp .eql 30 a.val a.val).run Tryd.prog w = .ok (.bool true) w := by
  have hS : Tryd.prog.underlying 30 = some (.struct (Tryd.prog.fieldsOf 30)) := by kernel_rfl
  have hp : Tryd.prog.stoodInHeld 30 = false := by kernel_rfl
  rw [run_eql_struct, show (10000 : Nat) = 9999 + 1 from rfl, run_equalIn_agg w 9999 _ _ _ hS hp]
  simp only [Program.fieldsOf, Tryd.underlying30]
  go_simp
theorem ask_ne_self (a : Ask) (w : World) : (binOp .neq 30 a.val a.val).run Tryd.prog w = .ok (.bool false) w := by
  have hS : Tryd.prog.underlying 30 = some (.struct (Tryd.prog.fieldsOf 30)) := by kernel_rfl
  have hp : Tryd.prog.stoodInHeld 30 = false := by kernel_rfl
  rw [run_neq_struct, show (10000 : Nat) = 9999 + 1 from rfl, run_equalIn_agg w 9999 _ _ _ hS hp]
  simp only [Program.fieldsOf, Tryd.underlying30]
  go_simp
theorem Ask.err_le (a : Ask) : a.err ≤ 4 := by
  unfold Ask.err
  repeat' split
  all_goals omega
theorem decE_le (s : ByteArray) : decE s ≤ 5 := by
  unfold decE
  have := (askAt s).err_le
  repeat' split
  all_goals omega
theorem coded_same (c : Nat) (E : Nat → Addr) (w : World) (hr : CodeReady E w) (h : c ≤ 12) : Calls Tryd.prog 31 #[errV E c, .int .i64 (c : Int)] w fun e w' => e = .returned (.bool true) ∧ Ex w w' := by
  by_cases h0 : c = 0
  · subst h0
    rw [errV_zero]
    exact (coded_nil 0 w).mono fun e w' ⟨h1, h2⟩ => ⟨by rw [h1]; rfl, h2⟩
  · rw [errV_pos _ _ h0]
    exact (coded_err c c E w hr (by omega) h).mono fun e w' ⟨h1, h2⟩ => ⟨by rw [h1]; simp, h2⟩
theorem decode_any (s : ByteArray) (E : Nat → Addr) (w : World) (hE : Errs E [1, 2, 3, 4, 5] w) : Calls Tryd.prog 50 #[.string s] w fun e w' => e = .returned (.tuple #[(decA s).val, errV E (decE s)]) ∧ Ex w w' := by
  by_cases h1 : s.size = 30
  · by_cases h2 : sumOk s
    · by_cases h3 : (s.extract 20 26).data.toList = [0, 0, 0, 0, 0, 0]
      · have e1 : decE s = (askAt s).err := by unfold decE; rw [if_neg (fun h => h h1), if_neg (fun h => h h2), if_neg (fun h => h h3)]
        have e2 : (decA s).val = if (askAt s).err = 0 then (askAt s).val else zeroV := by
          unfold decA; rw [e1]; split <;> rfl
        rw [e1, e2]
        exact decode_in s E w h1 (Errs.sub hE (by decide)) h2 h3
      · have e1 : decE s = 3 := by unfold decE; rw [if_neg (fun h => h h1), if_neg (fun h => h h2), if_pos h3]
        have e2 : decA s = zeroAsk := by unfold decA; rw [e1]; rfl
        rw [e1, e2]
        exact decode_shape s E w h1 (Errs.sub hE (by decide)) h2 h3
    · have e1 : decE s = 5 := by unfold decE; rw [if_neg (fun h => h h1), if_pos h2]
      have e2 : decA s = zeroAsk := by unfold decA; rw [e1]; rfl
      rw [e1, e2]
      exact decode_sum s E w h1 (Errs.sub hE (by decide)) h2
  · have e1 : decE s = 1 := by unfold decE; rw [if_pos h1]
    have e2 : decA s = zeroAsk := by unfold decA; rw [e1]; rfl
    rw [e1, e2]
    exact decode_len s E w h1 (Errs.sub hE (by decide))
theorem askOf_any (s : ByteArray) (w : World) : Calls Tryd.prog 52 #[.string s] w fun e w' => e = .returned (.tuple #[(decA s).val, .int .i64 (decE s)]) ∧ Ex w w' := by
  by_cases h1 : s.size = 30
  · by_cases h2 : sumOk s
    · by_cases h3 : (s.extract 20 26).data.toList = [0, 0, 0, 0, 0, 0]
      · have e1 : decE s = (askAt s).err := by unfold decE; rw [if_neg (fun h => h h1), if_neg (fun h => h h2), if_neg (fun h => h h3)]
        have e2 : (decA s).val = if (askAt s).err = 0 then (askAt s).val else zeroV := by
          unfold decA; rw [e1]; split <;> rfl
        rw [e1, e2]
        exact askOf_in s w h1 h2 ((six_zero h1).1 h3)
      · have e1 : decE s = 3 := by unfold decE; rw [if_neg (fun h => h h1), if_neg (fun h => h h2), if_pos h3]
        have e2 : decA s = zeroAsk := by unfold decA; rw [e1]; rfl
        rw [e1, e2]
        exact askOf_shape s w h1 h2 (fun h => h3 ((six_zero h1).2 h))
    · have e1 : decE s = 5 := by unfold decE; rw [if_neg (fun h => h h1), if_pos h2]
      have e2 : decA s = zeroAsk := by unfold decA; rw [e1]; rfl
      rw [e1, e2]
      exact askOf_sum s w h1 h2
  · have e1 : decE s = 1 := by unfold decE; rw [if_pos h1]
    have e2 : decA s = zeroAsk := by unfold decA; rw [e1]; rfl
    rw [e1, e2]
    exact askOf_len s w h1
end Go.Proofs.YthngmmhoakegeaaDoor
