import Derived.Test.YtmbboflakfokhaaDoorJ25
import Derived.Test.YtmbboflakfokhaaDoorWire
import Derived.BigQuiet
import Derived.Deep.QuietTactic
/- What the small methods of a floor compute: right, asked, Book, Purse, Band. -/
set_option linter.unusedSimpArgs false
set_option linter.unusedVariables false
namespace Go.Proofs.YtmbboflakfokhaaDoor
open Go.RowKit

theorem fright_any (n : Int) (w : World) : Calls Tryd.prog 33 #[.int .i64 n] w fun e w' => e = .returned (.bool (inR n 0 2)) ∧ Ex w w' := by
  by_cases h : 0 ≤ n
  · by_cases h' : n < 3
    · rw [show inR n 0 2 = true from inR_iff.2 (by omega)]
      go_enter Tryd.func33, Tryd.ntmps33
      go_wp2
      all_goals go_ret
      all_goals exact ⟨rfl, (by repeat (first | exact Ex.refl _ | refine Ex.alloc ?_ _ | refine Ex.ext ?_ _ _ | refine Ex.drew ?_ | refine Ex.drewN ?_ _))⟩
    · rw [show inR n 0 2 = false from inR_not.2 (by omega)]
      go_enter Tryd.func33, Tryd.ntmps33
      go_wp2
      all_goals go_ret
      all_goals exact ⟨rfl, (by repeat (first | exact Ex.refl _ | refine Ex.alloc ?_ _ | refine Ex.ext ?_ _ _ | refine Ex.drew ?_ | refine Ex.drewN ?_ _))⟩
  · rw [show inR n 0 2 = false from inR_not.2 (by omega)]
    go_enter Tryd.func33, Tryd.ntmps33
    go_wp2
    all_goals go_ret
    all_goals exact ⟨rfl, (by repeat (first | exact Ex.refl _ | refine Ex.alloc ?_ _ | refine Ex.ext ?_ _ _ | refine Ex.drew ?_ | refine Ex.drewN ?_ _))⟩
/-- What is wrong with a request of a kind. -/
def askedE (a : Ask) (kind : Int) : Nat := if a.err = 0 then (if a.kind == kind then 0 else 4) else a.err
theorem asked_any (a : Ask) (kind : Int) (E : Nat → Addr) (w : World) (hE : Errs E [2, 3, 4] w) : Calls Tryd.prog 29 #[a.val, .int .u8 kind] w fun e w' => e = .returned (errV E (askedE a kind)) ∧ Ex w w' := by
  have HC := Lib.hid (fun w h => wireCheck_any a E w h)
  have e4 : w.cell? ⟨3, 0, none⟩ = some (.iface 160 (.pointer (some (E 4)))) := hE 4 (by decide)
  have b4 : 3 < w.heap.size := lt_of_cell e4
  have HE := Lib.hid hE; clear hE
  by_cases he : a.err = 0
  · have ha : askedE a kind = if a.kind == kind then 0 else 4 := if_pos he
    rw [ha]
    rw [he, errV_zero] at HC
    clear ha he
    cases hk : (a.kind == kind) with
    | true =>
      have hk2 : (a.kind != kind) = false := by simp [bne, hk]
      simp only [if_true, errV_zero]
      go_enter Tryd.func29, Tryd.ntmps29
      go_wp2_with (go_at_call 47; refine (HC.out _ (HE.out.ex (by repeat (first | exact Ex.refl _ | refine Ex.alloc ?_ _ | refine Ex.ext ?_ _ _ | refine Ex.drew ?_ | refine Ex.drewN ?_ _)))).mono ?_; rintro e w1 ⟨rfl, l1, d1, rfl⟩)
      all_goals go_ret
      all_goals exact ⟨rfl, (by repeat (first | exact Ex.refl _ | refine Ex.alloc ?_ _ | refine Ex.ext ?_ _ _ | refine Ex.drew ?_ | refine Ex.drewN ?_ _))⟩
    | false =>
      have hk2 : (a.kind != kind) = true := by simp [bne, hk]
      simp only [Bool.false_eq_true, if_false, errV_pos E 4 (by decide)]
      go_enter Tryd.func29, Tryd.ntmps29
      go_wp2_with (go_at_call 47; refine (HC.out _ (HE.out.ex (by repeat (first | exact Ex.refl _ | refine Ex.alloc ?_ _ | refine Ex.ext ?_ _ _ | refine Ex.drew ?_ | refine Ex.drewN ?_ _)))).mono ?_; rintro e w1 ⟨rfl, l1, d1, rfl⟩)
      all_goals go_ret
      all_goals exact ⟨rfl, (by repeat (first | exact Ex.refl _ | refine Ex.alloc ?_ _ | refine Ex.ext ?_ _ _ | refine Ex.drew ?_ | refine Ex.drewN ?_ _))⟩
  · have ha : askedE a kind = a.err := if_neg he
    rw [ha, errV_pos E _ he]
    rw [errV_pos E _ he] at HC
    clear ha he
    go_enter Tryd.func29, Tryd.ntmps29
    go_wp2_with (go_at_call 47; refine (HC.out _ (HE.out.ex (by repeat (first | exact Ex.refl _ | refine Ex.alloc ?_ _ | refine Ex.ext ?_ _ _ | refine Ex.drew ?_ | refine Ex.drewN ?_ _)))).mono ?_; rintro e w1 ⟨rfl, l1, d1, rfl⟩)
    all_goals go_ret
    all_goals exact ⟨rfl, (by repeat (first | exact Ex.refl _ | refine Ex.alloc ?_ _ | refine Ex.ext ?_ _ _ | refine Ex.drew ?_ | refine Ex.drewN ?_ _))⟩
/-- A request of a kind that is well. -/
theorem asked_zero {a : Ask} {kind : Int} (h : askedE a kind = 0) : a.err = 0 ∧ a.kind = kind := by
  unfold askedE at h
  split at h
  · rename_i he
    split at h
    · rename_i hk; exact ⟨he, by simpa using hk⟩
    · cases h
  · rename_i he; exact absurd h he
section
variable {own : Nat → Nat} {c : Nat} {w : World} {A : FlA} {st : FSt}
set_option maxRecDepth 100000 in
theorem fbook_in (h : FlAt own c w A st) (k : Nat) (hk : k < 3) : Calls Tryd.prog 10 #[.pointer (some ⟨A.f, 0, none⟩), .int .i64 (k : Int)] w fun e w' => e = .returned (.pointer (some ⟨A.bp k, 0, none⟩)) ∧ Ex w w' := by
  obtain ⟨c0, _, _, _, hf⟩ := h.cells
  obtain ⟨i0, _, _⟩ := h.items hk
  have hg := h.rowLt
  have HR := Lib.hid (fun w => fright_any (k : Int) w)
  rw [inR_iff.2 (by omega)] at HR
  have k3 : (k : Int) < 3 := by omega
  clear h
  go_enter Tryd.func10, Tryd.ntmps10
  go_wp2_with (go_at_call 33; refine (HR.out _).mono ?_; rintro e w1 ⟨rfl, l1, d1, rfl⟩)
  all_goals go_ret
  all_goals exact ⟨rfl, (by repeat (first | exact Ex.refl _ | refine Ex.alloc ?_ _ | refine Ex.ext ?_ _ _ | refine Ex.drew ?_ | refine Ex.drewN ?_ _))⟩
set_option maxRecDepth 100000 in
theorem fbook_out (p : Value) (n : Int) (hn : inR n 0 2 = false) (w : World) : Calls Tryd.prog 10 #[p, .int .i64 n] w fun e w' => e = .returned (.pointer none) ∧ Ex w w' := by
  have HR := Lib.hid (fun w => fright_any n w)
  rw [hn] at HR
  clear hn
  go_enter Tryd.func10, Tryd.ntmps10
  go_wp2_with (go_at_call 33; refine (HR.out _).mono ?_; rintro e w1 ⟨rfl, l1, d1, rfl⟩)
  all_goals go_ret
  all_goals exact ⟨rfl, (by repeat (first | exact Ex.refl _ | refine Ex.alloc ?_ _ | refine Ex.ext ?_ _ _ | refine Ex.drew ?_ | refine Ex.drewN ?_ _))⟩
set_option maxRecDepth 100000 in
theorem fpurse_any (h : FlAt own c w A st) : Calls Tryd.prog 12 #[.pointer (some ⟨A.f, 0, none⟩)] w fun e w' => e = .returned (.pointer (some ⟨A.pp, 0, none⟩)) ∧ Ex w w' := by
  obtain ⟨_, c1, _, _, hf⟩ := h.cells
  clear h
  go_enter Tryd.func12, Tryd.ntmps12
  go_wp2
  all_goals go_ret
  all_goals exact ⟨rfl, (by repeat (first | exact Ex.refl _ | refine Ex.alloc ?_ _ | refine Ex.ext ?_ _ _ | refine Ex.drew ?_ | refine Ex.drewN ?_ _))⟩
set_option maxRecDepth 100000 in
theorem fband_in (h : FlAt own c w A st) (k : Nat) (hk : k < 3) : Calls Tryd.prog 19 #[.pointer (some ⟨A.f, 0, none⟩), .int .i64 (k : Int)] w fun e w' => e = .returned (.agg #[.int .i64 (st.ref k), .int .i64 (st.left k)]) ∧ Ex w w' := by
  obtain ⟨c0, _, _, _, hf⟩ := h.cells
  obtain ⟨i0, i1, i2⟩ := h.items hk
  have hg := h.rowLt
  have HR := Lib.hid (fun w => fright_any (k : Int) w)
  rw [inR_iff.2 (by omega)] at HR
  have k3 : (k : Int) < 3 := by omega
  clear h
  go_enter Tryd.func19, Tryd.ntmps19
  go_wp2_with (go_at_call 33; refine (HR.out _).mono ?_; rintro e w1 ⟨rfl, l1, d1, rfl⟩)
  all_goals ((try simp only [Exit.inBlock, Exit.then]); (refine bodyPost_ret (v := .agg #[.int .i64 (st.ref k), .int .i64 (st.left k)]) ?_ rfl ⟨rfl, (by repeat (first | exact Ex.refl _ | refine Ex.alloc ?_ _ | refine Ex.ext ?_ _ _ | refine Ex.drew ?_ | refine Ex.drewN ?_ _))⟩); simp only [results, Tryd.results19]; simp [go_sem, ↓IntWalk.iteOmega])
end
end Go.Proofs.YtmbboflakfokhaaDoor
