/- Requests compared. -/
import Derived.Test.YthngmmhoakegeaaDoorVals
import Derived.Test.YthngmmhoakegeaaDoorChecked
import Derived.Deep.DeepCutAuto
set_option linter.unusedSimpArgs false
set_option linter.unusedVariables false
namespace Go.Proofs.YthngmmhoakegeaaDoor
open Go.RowKit

theorem equalInAsk_no (a b : Ask) (w : World) (hne : a ≠ b) : (Op.equalIn 10000 30 (.agg #[.int .u8 a.kind, .int .i64 a.client, .int .i64 a.seq, .int .i64 a.item, .int .i64 a.side, .int .i64 a.price, .int .i64 a.qty, .int .i64 a.id]) (.agg #[.int .u8 b.kind, .int .i64 b.client, .int .i64 b.seq, .int .i64 b.item, .int .i64 b.side, .int .i64 b.price, .int .i64 b.qty, .int .i64 b.id])).run Tryd.prog w = .ok false w := by
  have hS : Tryd.prog.underlying 30 = some (.struct (Tryd.prog.fieldsOf 30)) := by kernel_rfl
  have hp : Tryd.prog.stoodInHeld 30 = false := by kernel_rfl
  rw [show (10000 : Nat) = 9999 + 1 from rfl, run_equalIn_agg w 9999 _ _ _ hS hp]
  simp only [Program.fieldsOf, Tryd.underlying30]
  go_simp
  obtain ⟨a1, a2, a3, a4, a5, a6, a7, a8⟩ := a
  obtain ⟨b1, b2, b3, b4, b5, b6, b7, b8⟩ := b
  simp only [ne_eq, Ask.mk.injEq, not_and] at hne
  exact hne
theorem equalInAsk_yes (a : Ask) (w : World) : (Op.equalIn 10000 30 (.agg #[.int .u8 a.kind, .int .i64 a.client, .int .i64 a.seq, .int .i64 a.item, .int .i64 a.side, .int .i64 a.price, .int .i64 a.qty, .int .i64 a.id]) (.agg #[.int .u8 a.kind, .int .i64 a.client, .int .i64 a.seq, .int .i64 a.item, .int .i64 a.side, .int .i64 a.price, .int .i64 a.qty, .int .i64 a.id])).run Tryd.prog w = .ok true w := by
  have hS : Tryd.prog.underlying 30 = some (.struct (Tryd.prog.fieldsOf 30)) := by kernel_rfl
  have hp : Tryd.prog.stoodInHeld 30 = false := by kernel_rfl
  rw [show (10000 : Nat) = 9999 + 1 from rfl, run_equalIn_agg w 9999 _ _ _ hS hp]
  simp only [Program.fieldsOf, Tryd.underlying30]
  go_simp
theorem eqAsk (a b : Ask) (w : World) : (binOp .eql 30 (.agg #[.int .u8 a.kind, .int .i64 a.client, .int .i64 a.seq, .int .i64 a.item, .int .i64 a.side, .int .i64 a.price, .int .i64 a.qty, .int .i64 a.id]) (.agg #[.int .u8 b.kind, .int .i64 b.client, .int .i64 b.seq, .int .i64 b.item, .int .i64 b.side, .int .i64 b.price, .int .i64 b.qty, .int .i64 b.id])).run Tryd.prog w = .ok (.bool (decide (a = b))) w := by
  rw [run_eql_struct]
  by_cases h : a = b
  · subst h; rw [equalInAsk_yes]; simp [Result.andThen]
  · rw [equalInAsk_no a b w h]; simp [Result.andThen, h]
theorem neAsk (a b : Ask) (w : World) : (binOp .neq 30 (.agg #[.int .u8 a.kind, .int .i64 a.client, .int .i64 a.seq, .int .i64 a.item, .int .i64 a.side, .int .i64 a.price, .int .i64 a.qty, .int .i64 a.id]) (.agg #[.int .u8 b.kind, .int .i64 b.client, .int .i64 b.seq, .int .i64 b.item, .int .i64 b.side, .int .i64 b.price, .int .i64 b.qty, .int .i64 b.id])).run Tryd.prog w = .ok (.bool (!decide (a = b))) w := by
  rw [run_neq_struct]
  by_cases h : a = b
  · subst h; rw [equalInAsk_yes]; simp [Result.andThen]
  · rw [equalInAsk_no a b w h]; simp [Result.andThen, h]
end Go.Proofs.YthngmmhoakegeaaDoor
