/- What client, right, New and Of of package purse compute. -/
import Derived.Test.YtfeeibealokhfaaDoorPurse
set_option linter.unusedSimpArgs false
set_option linter.unusedVariables false
namespace Go.Proofs.YtfeeibealokhfaaDoor
open Go.RowKit

theorem pclient_any (n : Int) (w : World) : Calls Tryd.prog 61 #[.int .i64 n] w fun e w' => e = .returned (.bool (inR n 0 5)) ∧ Ex w w' := by
  by_cases h : 0 ≤ n
  · by_cases h' : n < 6
    · rw [show inR n 0 5 = true from inR_iff.2 (by omega)]
      go_enter Tryd.func61, Tryd.ntmps61
      go_wp2
      all_goals go_ret
      all_goals exact ⟨rfl, (by repeat (first | exact Ex.refl _ | refine Ex.alloc ?_ _ | refine Ex.ext ?_ _ _ | refine Ex.drew ?_ | refine Ex.drewN ?_ _))⟩
    · rw [show inR n 0 5 = false from inR_not.2 (by omega)]
      go_enter Tryd.func61, Tryd.ntmps61
      go_wp2
      all_goals go_ret
      all_goals exact ⟨rfl, (by repeat (first | exact Ex.refl _ | refine Ex.alloc ?_ _ | refine Ex.ext ?_ _ _ | refine Ex.drew ?_ | refine Ex.drewN ?_ _))⟩
  · rw [show inR n 0 5 = false from inR_not.2 (by omega)]
    go_enter Tryd.func61, Tryd.ntmps61
    go_wp2
    all_goals go_ret
    all_goals exact ⟨rfl, (by repeat (first | exact Ex.refl _ | refine Ex.alloc ?_ _ | refine Ex.ext ?_ _ _ | refine Ex.drew ?_ | refine Ex.drewN ?_ _))⟩

set_option maxRecDepth 100000 in
theorem right_any (item : Int) (x : Lot) (E : Nat → Addr) (w : World) (hE : Errs E [2] w) : Calls Tryd.prog 62 #[.int .i64 item, x.val] w fun e w' => e = .returned (.bool (rightB item x)) ∧ Ex w w' := by
  have HO := Lib.hid (fun w (h : Errs E [2] w) => one_any x E w h)
  have HE := Lib.hid hE
  clear hE
  by_cases h0 : 0 ≤ item
  · by_cases h1 : item < 3
    · cases hk : x.ok
      · rw [show rightB item x = false by simp [rightB, hk]]
        rw [hk] at HO
        simp only [Bool.false_eq_true, if_false, errV_pos E 2 (by decide)] at HO
        clear hk
        go_enter Tryd.func62, Tryd.ntmps62
        go_wp2_with (go_at_call 68; refine (HO.out _ (by exact HE.out.ex (by repeat (first | exact Ex.refl _ | refine Ex.alloc ?_ _ | refine Ex.ext ?_ _ _ | refine Ex.drew ?_ | refine Ex.drewN ?_ _)))).mono ?_; rintro e w1 ⟨rfl, l1, d1, rfl⟩)
        all_goals go_ret
        all_goals exact ⟨rfl, (by repeat (first | exact Ex.refl _ | refine Ex.alloc ?_ _ | refine Ex.ext ?_ _ _ | refine Ex.drew ?_ | refine Ex.drewN ?_ _))⟩
      · rw [show rightB item x = true by simp [rightB, hk, inR_iff]; omega]
        rw [hk] at HO
        simp only [if_true, errV_zero] at HO
        clear hk
        go_enter Tryd.func62, Tryd.ntmps62
        go_wp2_with (go_at_call 68; refine (HO.out _ (by exact HE.out.ex (by repeat (first | exact Ex.refl _ | refine Ex.alloc ?_ _ | refine Ex.ext ?_ _ _ | refine Ex.drew ?_ | refine Ex.drewN ?_ _)))).mono ?_; rintro e w1 ⟨rfl, l1, d1, rfl⟩)
        all_goals go_ret
        all_goals exact ⟨rfl, (by repeat (first | exact Ex.refl _ | refine Ex.alloc ?_ _ | refine Ex.ext ?_ _ _ | refine Ex.drew ?_ | refine Ex.drewN ?_ _))⟩
    · rw [show rightB item x = false by rw [rightB, show inR item 0 2 = false from inR_not.2 (by omega)]; rfl]
      go_enter Tryd.func62, Tryd.ntmps62
      go_wp2
      all_goals go_ret
      all_goals exact ⟨rfl, (by repeat (first | exact Ex.refl _ | refine Ex.alloc ?_ _ | refine Ex.ext ?_ _ _ | refine Ex.drew ?_ | refine Ex.drewN ?_ _))⟩
  · rw [show rightB item x = false by rw [rightB, show inR item 0 2 = false from inR_not.2 (by omega)]; rfl]
    go_enter Tryd.func62, Tryd.ntmps62
    go_wp2
    all_goals go_ret
    all_goals exact ⟨rfl, (by repeat (first | exact Ex.refl _ | refine Ex.alloc ?_ _ | refine Ex.ext ?_ _ _ | refine Ex.drew ?_ | refine Ex.drewN ?_ _))⟩

section
variable {own : Nat → Nat} {i : Nat} {w : World} {p : Nat} {P : Pu}
/-- What a client has, as a value. -/
abbrev hasV (P : Pu) (c : Nat) : Value := .agg #[.int .i64 (P c 0), .int .i64 (P c 1), .int .i64 (P c 2), .int .i64 (P c 3), .int .i64 (P c 4), .int .i64 (P c 5), .int .i64 (P c 6), .int .i64 (P c 7)]
set_option maxRecDepth 100000 in
theorem of_in (h : PurseAt own i w p P) (c : Nat) (hc : c < 6) : Calls Tryd.prog 17 #[.pointer (some ⟨p, 0, none⟩), .int .i64 (c : Int)] w fun e w' => e = .returned (hasV P c) ∧ Ex w w' := by
  have q0 := h.cell hc (j := 0) (by omega)
  have q1 := h.cell hc (j := 1) (by omega)
  have q2 := h.cell hc (j := 2) (by omega)
  have q3 := h.cell hc (j := 3) (by omega)
  have q4 := h.cell hc (j := 4) (by omega)
  have q5 := h.cell hc (j := 5) (by omega)
  have q6 := h.cell hc (j := 6) (by omega)
  have q7 := h.cell hc (j := 7) (by omega)
  have hp := h.lt
  have HC := Lib.hid (pclient_any (c : Int))
  rw [show inR (c : Int) 0 5 = true from inR_iff.2 (by omega)] at HC
  clear h
  have c0 : (0 : Int) ≤ (c : Int) := by omega
  have c6 : (c : Int) < 6 := by omega
  simp only [Nat.add_zero] at q0
  go_enter Tryd.func17, Tryd.ntmps17
  go_wp2_with (go_at_call 61; refine (HC.out _).mono ?_; rintro e w1 ⟨rfl, l1, d1, rfl⟩)
  all_goals (try simp only [Exit.inBlock, Exit.then])
  all_goals (refine bodyPost_ret (v := hasV P c) ?_ rfl ⟨rfl, (by repeat (first | exact Ex.refl _ | refine Ex.alloc ?_ _ | refine Ex.ext ?_ _ _ | refine Ex.drew ?_ | refine Ex.drewN ?_ _))⟩)
  all_goals simp only [results, Tryd.results17]
  all_goals simp [go_sem, ↓IntWalk.iteOmega]
set_option maxRecDepth 100000 in
theorem of_out (n : Int) (hn : inR n 0 5 = false) : Calls Tryd.prog 17 #[.pointer (some ⟨p, 0, none⟩), .int .i64 n] w fun e w' => e = .returned (hasV (fun _ _ => 0) 0) ∧ Ex w w' := by
  have HC := Lib.hid (pclient_any n)
  rw [hn] at HC
  clear hn
  go_enter Tryd.func17, Tryd.ntmps17
  go_wp2_with (go_at_call 61; refine (HC.out _).mono ?_; rintro e w1 ⟨rfl, l1, d1, rfl⟩)
  all_goals (try simp only [Exit.inBlock, Exit.then])
  all_goals (refine bodyPost_ret (v := hasV (fun _ _ => 0) 0) ?_ rfl ⟨rfl, (by repeat (first | exact Ex.refl _ | refine Ex.alloc ?_ _ | refine Ex.ext ?_ _ _ | refine Ex.drew ?_ | refine Ex.drewN ?_ _))⟩)
  all_goals simp only [results, Tryd.results17]
  all_goals simp [go_sem, ↓IntWalk.iteOmega]

theorem PurseAt.fresh (own : Nat → Nat) (i : Nat) (w : World) (t : TypeId) (hp : own w.heap.size = i) (cs : Array Value) (hc : cs = Array.replicate 48 (.int .i64 0)) : PurseAt own i (w.alloc (.cells cs t)) w.heap.size (fun _ _ => 0) :=
  by
  subst hc
  refine ⟨hp, fun c _ => by simp, t, ?_⟩
  have h := World.rowIs_alloc w (Array.replicate 48 (Value.int .i64 0)) t (fun n => .int .i64 0) (fun j hj => by simp at hj; simp [hj])
  simpa using h
set_option maxRecDepth 100000 in
theorem purseNew (own : Nat → Nat) (i : Nat) (w : World) : Calls Tryd.prog 13 #[] w fun e w' => e = .returned (.pointer (some ⟨w.heap.size, 0, none⟩)) ∧ ObjTo own i i w (fun o w' => PurseAt o i w' w.heap.size (fun _ _ => 0)) w' := by
  go_enter Tryd.func13, Tryd.ntmps13
  go_wp2
  all_goals go_ret
  all_goals exact ⟨rfl, ObjTo.of (by repeat (first | exact Kp.refl _ _ _ _ | (refine Kp.alloc ?_ _) | (refine Kp.drew ?_) | (refine Kp.drewN ?_ _) | (refine Kp.ext ?_ _ _))) (PurseAt.fresh _ _ _ _ (by simp [lab]) _ rfl)⟩

set_option maxRecDepth 100000 in
set_option maxHeartbeats 1000000 in
theorem hold_bad (h : PurseAt own i w p P) (item : Int) (x : Lot) (E : Nat → Addr) (hE : Errs E [2, 10] w) (hr : rightB item x = false) :
    Calls Tryd.prog 15 #[.pointer (some ⟨p, 0, none⟩), .int .i64 item, x.val] w fun e w' => e = .returned (errV E 2) ∧ ObjTo own i i w (fun o w' => PurseAt o i w' p P) w' := by
  have HR := Lib.hid (fun w (h : Errs E [2] w) => right_any item x E w h)
  rw [hr] at HR
  have e2 : w.cell? ⟨0, 0, none⟩ = some (.iface 199 (.pointer (some (E 2)))) := hE 2 (by decide)
  have b2 : 0 < w.heap.size := lt_of_cell e2
  have HE := Lib.hid hE
  have H := Lib.hid h
  clear hE hr h
  rw [errV_pos E 2 (by decide)]
  go_enter Tryd.func15, Tryd.ntmps15
  go_wp2_with (go_at_call 62; refine (HR.out _ (by exact Errs.sub (HE.out.ex (by repeat (first | exact Ex.refl _ | refine Ex.alloc ?_ _ | refine Ex.ext ?_ _ _ | refine Ex.drew ?_ | refine Ex.drewN ?_ _))) (by decide))).mono ?_; rintro e w1 ⟨rfl, l1, d1, rfl⟩)
  all_goals go_ret
  all_goals exact ⟨rfl, ObjTo.of_ex (by repeat (first | exact Ex.refl _ | refine Ex.alloc ?_ _ | refine Ex.ext ?_ _ _ | refine Ex.drew ?_ | refine Ex.drewN ?_ _)) ((H.out.relabel (fun n hn e => by rw [lab_lt hn]; exact e)).later (by repeat (first | exact Ex.refl _ | refine Ex.alloc ?_ _ | refine Ex.ext ?_ _ _ | refine Ex.drew ?_ | refine Ex.drewN ?_ _)))⟩
set_option maxRecDepth 100000 in
set_option maxHeartbeats 1000000 in
theorem free_bad (h : PurseAt own i w p P) (item : Int) (x : Lot) (E : Nat → Addr) (hE : Errs E [2, 10] w) (hr : rightB item x = false) :
    Calls Tryd.prog 18 #[.pointer (some ⟨p, 0, none⟩), .int .i64 item, x.val] w fun e w' => e = .returned (errV E 2) ∧ ObjTo own i i w (fun o w' => PurseAt o i w' p P) w' := by
  have HR := Lib.hid (fun w (h : Errs E [2] w) => right_any item x E w h)
  rw [hr] at HR
  have e2 : w.cell? ⟨0, 0, none⟩ = some (.iface 199 (.pointer (some (E 2)))) := hE 2 (by decide)
  have b2 : 0 < w.heap.size := lt_of_cell e2
  have HE := Lib.hid hE
  have H := Lib.hid h
  clear hE hr h
  rw [errV_pos E 2 (by decide)]
  go_enter Tryd.func18, Tryd.ntmps18
  go_wp2_with (go_at_call 62; refine (HR.out _ (by exact Errs.sub (HE.out.ex (by repeat (first | exact Ex.refl _ | refine Ex.alloc ?_ _ | refine Ex.ext ?_ _ _ | refine Ex.drew ?_ | refine Ex.drewN ?_ _))) (by decide))).mono ?_; rintro e w1 ⟨rfl, l1, d1, rfl⟩)
  all_goals go_ret
  all_goals exact ⟨rfl, ObjTo.of_ex (by repeat (first | exact Ex.refl _ | refine Ex.alloc ?_ _ | refine Ex.ext ?_ _ _ | refine Ex.drew ?_ | refine Ex.drewN ?_ _)) ((H.out.relabel (fun n hn e => by rw [lab_lt hn]; exact e)).later (by repeat (first | exact Ex.refl _ | refine Ex.alloc ?_ _ | refine Ex.ext ?_ _ _ | refine Ex.drew ?_ | refine Ex.drewN ?_ _)))⟩
end
end Go.Proofs.YtfeeibealokhfaaDoor
