/- What the statements' faulted computes (chapters 1 to 5). -/
import Derived.Test.YtjkaeiioofknoaaDoorCode
import Derived.Test.YtjkaeiioofknoaaDoorRefLots
set_option linter.unusedSimpArgs false
set_option linter.unusedVariables false
namespace Go.Proofs.YtjkaeiioofknoaaDoor
open Go.RowKit

set_option maxRecDepth 100000 in
theorem faulted_code (v : Value) (c a : Int) (w : World) (hc : Calls Tryd.prog 58 #[v] (w.alloc (.cells #[.int .i64 c, .int .i64 a] 37)) fun e w' => e = .returned (.tuple #[.int .i64 c, .int .i64 a]) ∧ Ex (w.alloc (.cells #[.int .i64 c, .int .i64 a] 37)) w') :
    Calls Tryd.prog 26 #[v, faultV c a] w fun e w' => e = .returned (.bool true) ∧ Ex w w' := by
  have HC := Lib.hid hc
  clear hc
  have ec : (c == c) = true := by simp
  have ea : (a == a) = true := by simp
  cases c0 : (c == 0)
  all_goals
    go_enter Tryd.func26, Tryd.ntmps26
    go_wp2_with (go_at_call 58; refine HC.out.mono ?_; rintro e w1 ⟨rfl, l1, d1, rfl⟩)
    all_goals go_ret
    all_goals exact ⟨rfl, (by repeat (first | exact Ex.refl _ | refine Ex.alloc ?_ _ | refine Ex.ext ?_ _ _ | refine Ex.drew ?_ | refine Ex.drewN ?_ _))⟩
theorem faulted_nil (w : World) : Calls Tryd.prog 26 #[.nilIface, faultV 0 (-1)] w fun e w' => e = .returned (.bool true) ∧ Ex w w' :=
  faulted_code _ _ _ _ ((code_nil _).mono fun e w' h => ⟨h.1, h.2 ▸ Ex.refl _⟩)
theorem faulted_err (c : Nat) (E : Nat → Addr) (w : World) (hr : CodeReady E w) (h1 : 1 ≤ c) (h2 : c ≤ 12) : Calls Tryd.prog 26 #[errV E c, faultV c (-1)] w fun e w' => e = .returned (.bool true) ∧ Ex w w' := by
  rw [errV_pos _ _ (by omega)]
  exact faulted_code _ _ _ _ (code_err c E _ (hr.ex (by repeat (first | exact Ex.refl _ | refine Ex.alloc ?_ _ | refine Ex.ext ?_ _ _ | refine Ex.drew ?_ | refine Ex.drewN ?_ _))) h1 h2)
theorem faulted_fault (c : Nat) (at' : Int) (pb : Nat) (E : Nat → Addr) (w : World) (hr : CodeReady E w) (h1 : 1 ≤ c) (h2 : c ≤ 12) (c0 : w.cell? ⟨pb, 0, none⟩ = some (.int .i64 at')) (c1 : w.cell? ⟨pb, 1, none⟩ = some (.iface 151 (.pointer (some (E c))))) :
    Calls Tryd.prog 26 #[.iface 67 (.pointer (some ⟨pb, 0, none⟩)), faultV c at'] w fun e w' => e = .returned (.bool true) ∧ Ex w w' := by
  have hpb := lt_of_cell c0
  exact faulted_code _ _ _ _ (code_fault c at' pb E _ (hr.ex (by repeat (first | exact Ex.refl _ | refine Ex.alloc ?_ _ | refine Ex.ext ?_ _ _ | refine Ex.drew ?_ | refine Ex.drewN ?_ _))) h1 h2 ((World.cell?_alloc_old w _ _ (by show pb ≠ _; omega)).trans c0) ((World.cell?_alloc_old w _ _ (by show pb ≠ _; omega)).trans c1))
theorem CheckV.later {E : Nat → Addr} {w w' w'' : World} {l : List Lot} {v : Value} (h : CheckV E w w' l v) (hx : Ex w' w'') : CheckV E w w'' l v := by
  rcases h with h | h | ⟨k, b, h1, h2, h3, h4, h5, h6, h7⟩
  · exact .inl h
  · exact .inr (.inl h)
  · exact .inr (.inr ⟨k, b, h1, h2, h3, h4, h5, h6, (hx.below.block b (Array.getElem?_eq_some_iff.1 h7).1).trans h7⟩)
theorem codeAt_le (l : List Lot) (k : Nat) : codeAt l k ≤ 12 := by
  cases h : l[k]? with
  | none => simp [codeAt, h]
  | some x =>
    rw [eAt_code h]
    rcases eAt_vals l x k with e | e | e <;> rw [e] <;> decide
/-- What Check hands back is what LotsFault tells. -/
theorem faulted_check {E : Nat → Addr} {w0 w : World} {l : List Lot} {v : Value} (h : CheckV E w0 w l v) (hr : CodeReady E w) :
    Calls Tryd.prog 26 #[v, faultV (faultC l : Nat) (faultA l)] w fun e w' => e = .returned (.bool true) ∧ Ex w w' := by
  rcases h with ⟨h, rfl⟩ | ⟨h, rfl⟩ | ⟨k, b, h1, h2, h3, h4, rfl, _, h7⟩
  · obtain ⟨e1, e2⟩ := fault_full h
    rw [e1, e2]
    exact faulted_err 8 E w hr (by decide) (by decide)
  · obtain ⟨e1, e2⟩ := fault_none h.1 h.2
    rw [e1, e2]
    exact faulted_nil w
  · obtain ⟨e1, e2⟩ := fault_some h1 h2 h3 h4
    rw [e1, e2]
    refine faulted_fault _ _ b E w hr (by omega) (codeAt_le l k) ?_ ?_
    · simp [World.cell?, h7]
    · simp [World.cell?, h7, errV_pos _ _ h4]
end Go.Proofs.YtjkaeiioofknoaaDoor
