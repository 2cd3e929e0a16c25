/- What the document's TakeOf and IsLate compute: the same as session's Take and Late. -/
import Derived.Test.YthngmmhoakegeaaDoorAskRef
import Derived.Test.YthngmmhoakegeaaDoorSession
set_option linter.unusedSimpArgs false
set_option linter.unusedVariables false
namespace Go.Proofs.YthngmmhoakegeaaDoor
open Go.RowKit

theorem isLate_any (s : Sess) (now : Int) (w : World) (h1 : 0 ≤ s.last) (h2 : s.last ≤ 4611686018427387904) (h3 : 0 ≤ now) (h4 : now ≤ 4611686018427387904) :
    Calls Tryd.prog 46 #[s.val, .int .i64 now] w fun e w' => e = .returned (.bool (s.late now)) ∧ Ex w w' := by
  go_enter Tryd.func46, Tryd.ntmps46
  go_wp2
  all_goals go_ret
  all_goals exact ⟨ret_bool (by simp [Sess.late, *] <;> omega), (by repeat (first | exact Ex.refl _ | refine Ex.alloc ?_ _ | refine Ex.ext ?_ _ _ | refine Ex.drew ?_ | refine Ex.drewN ?_ _))⟩

set_option maxHeartbeats 4000000 in
set_option maxRecDepth 100000 in
theorem takeOf_any (s : Sess) (a : Ask) (now : Int) (w : World) :
    Calls Tryd.prog 47 #[s.val, a.val, .int .i64 now] w fun e w' => e = .returned (.tuple #[(s.take a now).1.val, .int .i64 ((s.take a now).2 : Nat)]) ∧ Ex w w' := by
  by_cases he : a.err = 0
  · obtain ⟨hs1, hs2⟩ := Ask.seq_of_err he
    have H := askError_any a
    rw [he] at H
    have HE := Lib.hid he
    have HH := Lib.hid H
    clear he H
    go_enter Tryd.func47, Tryd.ntmps47
    go_wp2_with (go_at_call 48; refine (HH.out _).mono ?_; rintro e w1 ⟨rfl, l1, d1, rfl⟩)
    all_goals (try simp only [Exit.inBlock, Exit.then])
    all_goals (refine bodyPost_ret (v := .tuple #[(s.take a now).1.val, .int .i64 ((s.take a now).2 : Nat)]) ?_ rfl ⟨rfl, (by repeat (first | exact Ex.refl _ | refine Ex.alloc ?_ _ | refine Ex.ext ?_ _ _ | refine Ex.drew ?_ | refine Ex.drewN ?_ _))⟩)
    all_goals simp only [results, Tryd.results47]
    all_goals simp [go_sem, ↓IntWalk.iteOmega]
    all_goals have he := HE.out
    all_goals clear HE HH
    all_goals first
      | (simp [Sess.take, he, errV, *]; done)
      | (simp only [Bool.not_eq_eq_eq_not, Bool.not_true, Bool.not_false] at *; simp [Sess.take, he, errV, *]; done)
      | (unfold Sess.take
         rw [if_pos he]
         clear he hs1 hs2
         by_cases k1 : a.kind = 108 <;> by_cases k3 : a.kind = 113 <;> by_cases k4 : a.seq = 1 <;> by_cases k5 : a.seq = s.next <;> cases hon : s.on <;> simp_all)
  · have hp : 0 < (a.err : Int) := by omega
    have ht : s.take a now = (s, a.err) := by simp [Sess.take, he]
    rw [ht]
    have HH := Lib.hid (askError_any a)
    clear he ht
    generalize a.err = n at *
    go_enter Tryd.func47, Tryd.ntmps47
    go_wp2_with (go_at_call 48; refine (HH.out _).mono ?_; rintro e w1 ⟨rfl, l1, d1, rfl⟩)
    all_goals (try simp only [Exit.inBlock, Exit.then])
    all_goals (refine bodyPost_ret (v := .tuple #[s.val, .int .i64 (n : Nat)]) ?_ rfl ⟨rfl, (by repeat (first | exact Ex.refl _ | refine Ex.alloc ?_ _ | refine Ex.ext ?_ _ _ | refine Ex.drew ?_ | refine Ex.drewN ?_ _))⟩)
    all_goals simp only [results, Tryd.results47]
    all_goals simp [go_sem, ↓IntWalk.iteOmega]
end Go.Proofs.YthngmmhoakegeaaDoor
