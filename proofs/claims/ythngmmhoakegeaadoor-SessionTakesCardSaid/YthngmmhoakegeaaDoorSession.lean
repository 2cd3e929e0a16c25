/- What session's Take and Late compute. -/
import Derived.Test.YthngmmhoakegeaaDoorWire
set_option linter.unusedSimpArgs false
set_option linter.unusedVariables false
namespace Go.Proofs.YthngmmhoakegeaaDoor
open Go.RowKit

set_option maxHeartbeats 2000000 in
set_option maxRecDepth 100000 in
theorem sessTake_ok (s : Sess) (a : Ask) (now : Int) (E : Nat → Addr) (w : World) (hE : Errs E [2, 3, 4, 11, 12] w) (he : a.err = 0) :
    Calls Tryd.prog 28 #[s.val, a.val, .int .i64 now] w fun e w' => e = .returned (.tuple #[(s.take a now).1.val, errV E (s.take a now).2]) ∧ Ex w w' := by
  have e11 : w.cell? ⟨10, 0, none⟩ = some (.iface 114 (.pointer (some (E 11)))) := hE 11 (by decide)
  have b11 : 10 < w.heap.size := lt_of_cell e11
  have e12 : w.cell? ⟨11, 0, none⟩ = some (.iface 114 (.pointer (some (E 12)))) := hE 12 (by decide)
  have b12 : 11 < w.heap.size := lt_of_cell e12
  obtain ⟨hs1, hs2⟩ := Ask.seq_of_err he
  have hc := wireCheck_any a E
  rw [he, errV_zero] at hc
  have HE := Lib.hid he
  have HC := Lib.hid hc
  clear he hc
  go_enter Tryd.func28, Tryd.ntmps28
  go_wp2_with (go_at_call 49; go_loud (refine (HC.out _ (by exact Errs.sub (hE.ex (by repeat (first | exact Ex.refl _ | refine Ex.alloc ?_ _ | refine Ex.ext ?_ _ _ | refine Ex.drew ?_ | refine Ex.drewN ?_ _))) (by decide))).mono ?_); rintro e w1 ⟨rfl, l1, d1, rfl⟩)
  all_goals (try (go_region; all_goals go_wp2))
  go_ways
  all_goals (try simp only [Exit.inBlock, Exit.then])
  all_goals (refine bodyPost_ret (v := .tuple #[(s.take a now).1.val, errV E (s.take a now).2]) ?_ rfl ⟨rfl, (by repeat (first | exact Ex.refl _ | refine Ex.alloc ?_ _ | refine Ex.ext ?_ _ _ | refine Ex.drew ?_ | refine Ex.drewN ?_ _))⟩)
  all_goals simp only [results, Tryd.results28]
  all_goals simp [go_sem, ↓IntWalk.iteOmega]
  all_goals have he := HE.out
  all_goals clear HE HC hE e11 e12
  all_goals first
    | (simp [Sess.take, he, errV, *]; done)
    | (simp only [Bool.not_eq_eq_eq_not, Bool.not_true, Bool.not_false] at *; simp [Sess.take, he, errV, *]; done)
    | (have hq : (a.seq != s.next) = false := by assumption
       have hq2 : a.seq = s.next := by simpa using hq
       rw [IntWalk.wrap64_in _ (by omega)]
       simp only [Bool.not_eq_eq_eq_not, Bool.not_true, Bool.not_false] at *
       simp [Sess.take, he, errV, *])

set_option maxRecDepth 100000 in
theorem sessTake_bad (s : Sess) (a : Ask) (now : Int) (E : Nat → Addr) (w : World) (hE : Errs E [2, 3, 4, 11, 12] w) (he : a.err ≠ 0) :
    Calls Tryd.prog 28 #[s.val, a.val, .int .i64 now] w fun e w' => e = .returned (.tuple #[(s.take a now).1.val, errV E (s.take a now).2]) ∧ Ex w w' := by
  have hc := wireCheck_any a E
  rw [errV_pos E _ he] at hc
  have ht : s.take a now = (s, a.err) := by simp [Sess.take, he]
  rw [ht, errV_pos E _ he]
  have HC := Lib.hid hc
  clear he hc ht
  go_enter Tryd.func28, Tryd.ntmps28
  go_wp2_with (go_at_call 49; go_loud (refine (HC.out _ (by exact Errs.sub (hE.ex (by repeat (first | exact Ex.refl _ | refine Ex.alloc ?_ _ | refine Ex.ext ?_ _ _ | refine Ex.drew ?_ | refine Ex.drewN ?_ _))) (by decide))).mono ?_); rintro e w1 ⟨rfl, l1, d1, rfl⟩)
  all_goals (try simp only [Exit.inBlock, Exit.then])
  all_goals (refine bodyPost_ret (v := .tuple #[s.val, .iface 114 (.pointer (some (E a.err)))]) ?_ rfl ⟨rfl, (by repeat (first | exact Ex.refl _ | refine Ex.alloc ?_ _ | refine Ex.ext ?_ _ _ | refine Ex.drew ?_ | refine Ex.drewN ?_ _))⟩)
  all_goals simp only [results, Tryd.results28]
  all_goals simp [go_sem, ↓IntWalk.iteOmega]

theorem sessTake_any (s : Sess) (a : Ask) (now : Int) (E : Nat → Addr) (w : World) (hE : Errs E [2, 3, 4, 11, 12] w) :
    Calls Tryd.prog 28 #[s.val, a.val, .int .i64 now] w fun e w' => e = .returned (.tuple #[(s.take a now).1.val, errV E (s.take a now).2]) ∧ Ex w w' := by
  by_cases he : a.err = 0
  · exact sessTake_ok s a now E w hE he
  · exact sessTake_bad s a now E w hE he

theorem sessLate_any (s : Sess) (now : Int) (w : World) (h1 : -4611686018427387904 ≤ s.last) (h2 : s.last ≤ 4611686018427387904) :
    Calls Tryd.prog 45 #[s.val, .int .i64 now] w fun e w' => e = .returned (.bool (s.late now)) ∧ Ex w w' := by
  go_enter Tryd.func45, Tryd.ntmps45
  go_wp2
  all_goals go_ret
  all_goals exact ⟨ret_bool (by simp [Sess.late, *]), (by repeat (first | exact Ex.refl _ | refine Ex.alloc ?_ _ | refine Ex.ext ?_ _ _ | refine Ex.drew ?_ | refine Ex.drewN ?_ _))⟩
end Go.Proofs.YthngmmhoakegeaaDoor
