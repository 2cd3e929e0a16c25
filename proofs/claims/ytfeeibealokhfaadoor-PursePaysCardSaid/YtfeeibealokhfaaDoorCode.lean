/- What plain's Code computes: at nil, at an error of package api, at a Fault that holds one. -/
import Derived.Test.YtfeeibealokhfaaDoorAs
import Derived.Test.YtfeeibealokhfaaDoorErrs
set_option linter.unusedSimpArgs false
set_option linter.unusedVariables false
namespace Go.Proofs.YtfeeibealokhfaaDoor
open Go.RowKit

def allE : List Nat := [1, 2, 3, 4, 5, 6, 7, 8, 9, 10, 11, 12]
theorem mem_allE {c : Nat} (h1 : 1 ≤ c) (h2 : c ≤ 12) : c ∈ allE := by
  simp only [allE, List.mem_cons, List.not_mem_nil, or_false]; omega
theorem Apart.ex {E : Nat → Addr} {l : List Nat} {w w' : World} (h : Apart E l w) (hx : Ex w w') : Apart E l w' := by
  refine ⟨fun c hc => ?_, h.2⟩
  obtain ⟨cs, t, hh⟩ := h.1 c hc
  exact ⟨cs, t, (hx.below.block _ (Array.getElem?_eq_some_iff.1 hh).1).trans hh⟩
theorem Handle.ex {w w' : World} (h : Handle w) (hx : Ex w w') : Handle w' := (hx.below.cell (p := ⟨12, 0, none⟩) (lt_of_cell h)).trans h
/-- What a call of Code wants of the package-level variables. -/
def CodeReady (E : Nat → Addr) (w : World) : Prop := Errs E allE w ∧ Apart E allE w ∧ Handle w
theorem CodeReady.ex {E : Nat → Addr} {w w' : World} (h : CodeReady E w) (hx : Ex w w') : CodeReady E w' := ⟨h.1.ex hx, h.2.1.ex hx, h.2.2.ex hx⟩

theorem is_err (E : Nat → Addr) (c j : Nat) (w : World) (hA : Apart E allE w) (hc : c ∈ allE) (hj : j ∈ allE) :
    Calls Tryd.prog 89 #[.iface 199 (.pointer (some (E c))), .iface 199 (.pointer (some (E j)))] w fun e w' => e = .returned (.bool (c == j)) ∧ w = w' := by
  by_cases h : c = j
  · subst h
    rw [beq_self_eq_true]
    exact is_same _ w
  · rw [beq_eq_false_iff_ne.2 h]
    obtain ⟨_, _, h1⟩ := hA.1 c hc
    obtain ⟨_, _, h2⟩ := hA.1 j hj
    exact is_other _ _ _ _ _ _ w (hA.2 c hc j hj h) h1 h2
theorem is_fault (E : Nat → Addr) (c j : Nat) (pb : Nat) (w : World) (hA : Apart E allE w) (hc : c ∈ allE) (hj : j ∈ allE) (h1 : w.cell? ⟨pb, 1, none⟩ = some (.iface 199 (.pointer (some (E c))))) :
    Calls Tryd.prog 89 #[.iface 141 (.pointer (some ⟨pb, 0, none⟩)), .iface 199 (.pointer (some (E j)))] w fun e w' => e = .returned (.bool (c == j)) ∧ w = w' := by
  by_cases h : c = j
  · subst h
    rw [beq_self_eq_true]
    exact is_fault_same pb _ w h1
  · rw [beq_eq_false_iff_ne.2 h]
    obtain ⟨_, _, h2⟩ := hA.1 c hc
    obtain ⟨_, _, h3⟩ := hA.1 j hj
    exact is_fault_other pb _ _ _ _ _ _ w h1 (hA.2 c hc j hj h) h2 h3

def errsRow (E : Nat → Addr) : Array Value := #[.iface 199 (.pointer (some (E 1))), .iface 199 (.pointer (some (E 2))), .iface 199 (.pointer (some (E 3))), .iface 199 (.pointer (some (E 4))), .iface 199 (.pointer (some (E 5))), .iface 199 (.pointer (some (E 6))),
  .iface 199 (.pointer (some (E 7))), .iface 199 (.pointer (some (E 8))), .iface 199 (.pointer (some (E 9))), .iface 199 (.pointer (some (E 10))), .iface 199 (.pointer (some (E 11))), .iface 199 (.pointer (some (E 12)))]
theorem errsRow_at (E : Nat → Addr) : ∀ k, k < 12 → (errsRow E)[k]? = some (.iface 199 (.pointer (some (E (k + 1)))))
  | 0, _ => rfl | 1, _ => rfl | 2, _ => rfl | 3, _ => rfl | 4, _ => rfl | 5, _ => rfl | 6, _ => rfl | 7, _ => rfl | 8, _ => rfl | 9, _ => rfl | 10, _ => rfl | 11, _ => rfl
  | k + 12, h => by omega

theorem code_nil (w : World) : Calls Tryd.prog 72 #[.nilIface] w fun e w' => e = .returned (.tuple #[.int .i64 0, .int .i64 (-1)]) ∧ w = w' := by
  go_enter Tryd.func72, Tryd.ntmps72
  go_wp2
  go_ret2
  exact ⟨rfl, rfl⟩

set_option maxRecDepth 100000 in
set_option maxHeartbeats 2000000 in
theorem code_err (c : Nat) (E : Nat → Addr) (w : World) (hr : CodeReady E w) (h1 : 1 ≤ c) (h2 : c ≤ 12) :
    Calls Tryd.prog 72 #[.iface 199 (.pointer (some (E c)))] w fun e w' => e = .returned (.tuple #[.int .i64 c, .int .i64 (-1)]) ∧ Ex w w' := by
  obtain ⟨hE, hA, hg⟩ := hr
  have e1 : w.cell? ⟨8, 0, none⟩ = some (.iface 199 (.pointer (some (E 1)))) := hE 1 (by decide)
  have b1 : 8 < w.heap.size := lt_of_cell e1
  have e2 : w.cell? ⟨0, 0, none⟩ = some (.iface 199 (.pointer (some (E 2)))) := hE 2 (by decide)
  have b2 : 0 < w.heap.size := lt_of_cell e2
  have e3 : w.cell? ⟨3, 0, none⟩ = some (.iface 199 (.pointer (some (E 3)))) := hE 3 (by decide)
  have b3 : 3 < w.heap.size := lt_of_cell e3
  have e4 : w.cell? ⟨9, 0, none⟩ = some (.iface 199 (.pointer (some (E 4)))) := hE 4 (by decide)
  have b4 : 9 < w.heap.size := lt_of_cell e4
  have e5 : w.cell? ⟨10, 0, none⟩ = some (.iface 199 (.pointer (some (E 5)))) := hE 5 (by decide)
  have b5 : 10 < w.heap.size := lt_of_cell e5
  have e6 : w.cell? ⟨5, 0, none⟩ = some (.iface 199 (.pointer (some (E 6)))) := hE 6 (by decide)
  have b6 : 5 < w.heap.size := lt_of_cell e6
  have e7 : w.cell? ⟨4, 0, none⟩ = some (.iface 199 (.pointer (some (E 7)))) := hE 7 (by decide)
  have b7 : 4 < w.heap.size := lt_of_cell e7
  have e8 : w.cell? ⟨1, 0, none⟩ = some (.iface 199 (.pointer (some (E 8)))) := hE 8 (by decide)
  have b8 : 1 < w.heap.size := lt_of_cell e8
  have e9 : w.cell? ⟨6, 0, none⟩ = some (.iface 199 (.pointer (some (E 9)))) := hE 9 (by decide)
  have b9 : 6 < w.heap.size := lt_of_cell e9
  have e10 : w.cell? ⟨2, 0, none⟩ = some (.iface 199 (.pointer (some (E 10)))) := hE 10 (by decide)
  have b10 : 2 < w.heap.size := lt_of_cell e10
  have e11 : w.cell? ⟨11, 0, none⟩ = some (.iface 199 (.pointer (some (E 11)))) := hE 11 (by decide)
  have b11 : 11 < w.heap.size := lt_of_cell e11
  have e12 : w.cell? ⟨7, 0, none⟩ = some (.iface 199 (.pointer (some (E 12)))) := hE 12 (by decide)
  have b12 : 7 < w.heap.size := lt_of_cell e12
  have HE := Lib.hid hE
  have HA := Lib.hid hA
  have HG := Lib.hid hg
  clear hE hA hg
  go_enter Tryd.func72, Tryd.ntmps72
  go_wp2_with (go_at_call 88; refine (as_miss _ _ _ (by exact HG.out.ex (by repeat (first | exact Ex.refl _ | refine Ex.alloc ?_ _ | refine Ex.ext ?_ _ _ | refine Ex.drew ?_ | refine Ex.drewN ?_ _)))).mono ?_; rintro e w1 ⟨rfl, l1, d1, rfl⟩)
  clear e1 e2 e3 e4 e5 e6 e7 e8 e9 e10 e11 e12
  go_loop [3, 30] (fun a i => ∃ k : Nat, k < c ∧ i = .int .i64 k ∧ a = .int .i64 (-1)) (fun _ i => c - (intOf i).toNat)
  case atStart => exact ⟨0, by omega, rfl, rfl⟩
  case round =>
    obtain ⟨k, hk, rfl, rfl⟩ := hrel
    have hrow := errsRow_at E k (by omega)
    simp only [errsRow] at hrow
    have h12 : decide ((k : Int) < 12) = true := by simp; omega
    by_cases hck : c = k + 1
    · have HCK := Lib.hid hck
      have hq : (c == k + 1) = true := by simp [hck]
      clear hck
      go_wp2_with (go_at_call 89; refine (is_err E c (k + 1) _ (by exact HA.out.ex (by repeat (first | exact Ex.refl _ | refine Ex.alloc ?_ _ | refine Ex.ext ?_ _ _ | refine Ex.drew ?_ | refine Ex.drewN ?_ _))) (mem_allE h1 h2) (mem_allE (by omega) (by omega))).mono ?_; rintro e w1 ⟨rfl, rfl⟩)
      go_ret2
      exact ⟨by rw [HCK.out]; rfl, (by repeat (first | exact Ex.refl _ | refine Ex.alloc ?_ _ | refine Ex.ext ?_ _ _ | refine Ex.drew ?_ | refine Ex.drewN ?_ _))⟩
    · have hq : (c == k + 1) = false := by simp [hck]
      have hlt : k + 1 < c := by omega
      go_wp2_with (go_at_call 89; refine (is_err E c (k + 1) _ (by exact HA.out.ex (by repeat (first | exact Ex.refl _ | refine Ex.alloc ?_ _ | refine Ex.ext ?_ _ _ | refine Ex.drew ?_ | refine Ex.drewN ?_ _))) (mem_allE h1 h2) (mem_allE (by omega) (by omega))).mono ?_; rintro e w1 ⟨rfl, rfl⟩)
      go_round
      case rel => exact ⟨k + 1, by omega, by go_num, rfl⟩
      case measure => simp [intOf]; omega

set_option maxRecDepth 100000 in
set_option maxHeartbeats 2000000 in
theorem code_fault (c : Nat) (at' : Int) (pb : Nat) (E : Nat → Addr) (w : World) (hr : CodeReady E w) (h1 : 1 ≤ c) (h2 : c ≤ 12) (c0 : w.cell? ⟨pb, 0, none⟩ = some (.int .i64 at')) (c1 : w.cell? ⟨pb, 1, none⟩ = some (.iface 199 (.pointer (some (E c))))) :
    Calls Tryd.prog 72 #[.iface 141 (.pointer (some ⟨pb, 0, none⟩))] w fun e w' => e = .returned (.tuple #[.int .i64 c, .int .i64 at']) ∧ Ex w w' := by
  obtain ⟨hE, hA, hg⟩ := hr
  have e1 : w.cell? ⟨8, 0, none⟩ = some (.iface 199 (.pointer (some (E 1)))) := hE 1 (by decide)
  have b1 : 8 < w.heap.size := lt_of_cell e1
  have e2 : w.cell? ⟨0, 0, none⟩ = some (.iface 199 (.pointer (some (E 2)))) := hE 2 (by decide)
  have b2 : 0 < w.heap.size := lt_of_cell e2
  have e3 : w.cell? ⟨3, 0, none⟩ = some (.iface 199 (.pointer (some (E 3)))) := hE 3 (by decide)
  have b3 : 3 < w.heap.size := lt_of_cell e3
  have e4 : w.cell? ⟨9, 0, none⟩ = some (.iface 199 (.pointer (some (E 4)))) := hE 4 (by decide)
  have b4 : 9 < w.heap.size := lt_of_cell e4
  have e5 : w.cell? ⟨10, 0, none⟩ = some (.iface 199 (.pointer (some (E 5)))) := hE 5 (by decide)
  have b5 : 10 < w.heap.size := lt_of_cell e5
  have e6 : w.cell? ⟨5, 0, none⟩ = some (.iface 199 (.pointer (some (E 6)))) := hE 6 (by decide)
  have b6 : 5 < w.heap.size := lt_of_cell e6
  have e7 : w.cell? ⟨4, 0, none⟩ = some (.iface 199 (.pointer (some (E 7)))) := hE 7 (by decide)
  have b7 : 4 < w.heap.size := lt_of_cell e7
  have e8 : w.cell? ⟨1, 0, none⟩ = some (.iface 199 (.pointer (some (E 8)))) := hE 8 (by decide)
  have b8 : 1 < w.heap.size := lt_of_cell e8
  have e9 : w.cell? ⟨6, 0, none⟩ = some (.iface 199 (.pointer (some (E 9)))) := hE 9 (by decide)
  have b9 : 6 < w.heap.size := lt_of_cell e9
  have e10 : w.cell? ⟨2, 0, none⟩ = some (.iface 199 (.pointer (some (E 10)))) := hE 10 (by decide)
  have b10 : 2 < w.heap.size := lt_of_cell e10
  have e11 : w.cell? ⟨11, 0, none⟩ = some (.iface 199 (.pointer (some (E 11)))) := hE 11 (by decide)
  have b11 : 11 < w.heap.size := lt_of_cell e11
  have e12 : w.cell? ⟨7, 0, none⟩ = some (.iface 199 (.pointer (some (E 12)))) := hE 12 (by decide)
  have b12 : 7 < w.heap.size := lt_of_cell e12
  have hpb := lt_of_cell c0
  have HE := Lib.hid hE
  have HA := Lib.hid hA
  have HG := Lib.hid hg
  clear hE hA hg
  go_enter Tryd.func72, Tryd.ntmps72
  go_wp2_with (go_at_call 88; refine (as_hit _ _ (.pointer none) _ (by exact HG.out.ex (by repeat (first | exact Ex.refl _ | refine Ex.alloc ?_ _ | refine Ex.ext ?_ _ _ | refine Ex.drew ?_ | refine Ex.drewN ?_ _))) (by simp) (by simp)).mono ?_; rintro e w1 ⟨rfl, rfl⟩)
  clear e1 e2 e3 e4 e5 e6 e7 e8 e9 e10 e11 e12
  go_loop [3, 30] (fun a i => ∃ k : Nat, k < c ∧ i = .int .i64 k ∧ a = .int .i64 at') (fun _ i => c - (intOf i).toNat)
  case atStart => exact ⟨0, by omega, rfl, rfl⟩
  case round =>
    obtain ⟨k, hk, rfl, rfl⟩ := hrel
    have hrow := errsRow_at E k (by omega)
    simp only [errsRow] at hrow
    have h12 : decide ((k : Int) < 12) = true := by simp; omega
    by_cases hck : c = k + 1
    · have HCK := Lib.hid hck
      have hq : (c == k + 1) = true := by simp [hck]
      clear hck
      go_wp2_with (go_at_call 89; refine (is_fault E c (k + 1) pb _ (by exact HA.out.ex (by repeat (first | exact Ex.refl _ | refine Ex.alloc ?_ _ | refine Ex.ext ?_ _ _ | refine Ex.drew ?_ | refine Ex.drewN ?_ _))) (mem_allE h1 h2) (mem_allE (by omega) (by omega)) (by simp [go_sem, ↓IntWalk.iteOmega, *])).mono ?_; rintro e w1 ⟨rfl, rfl⟩)
      go_ret2
      exact ⟨by rw [HCK.out]; rfl, (by repeat (first | exact Ex.refl _ | refine Ex.alloc ?_ _ | refine Ex.ext ?_ _ _ | refine Ex.drew ?_ | refine Ex.drewN ?_ _))⟩
    · have hq : (c == k + 1) = false := by simp [hck]
      have hlt : k + 1 < c := by omega
      go_wp2_with (go_at_call 89; refine (is_fault E c (k + 1) pb _ (by exact HA.out.ex (by repeat (first | exact Ex.refl _ | refine Ex.alloc ?_ _ | refine Ex.ext ?_ _ _ | refine Ex.drew ?_ | refine Ex.drewN ?_ _))) (mem_allE h1 h2) (mem_allE (by omega) (by omega)) (by simp [go_sem, ↓IntWalk.iteOmega, *])).mono ?_; rintro e w1 ⟨rfl, rfl⟩)
      go_round
      case rel => exact ⟨k + 1, by omega, by go_num, rfl⟩
      case measure => simp [intOf]; omega
end Go.Proofs.YtfeeibealokhfaaDoor
