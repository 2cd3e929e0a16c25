/- What the document's disk computes: SetCut and Append. -/
import Derived.Test.YtfeeibealokhfaaDoorTaped
import Derived.Deep.RegionLaw
set_option linter.unusedSimpArgs false
set_option linter.unusedVariables false
namespace Go.Proofs.YtfeeibealokhfaaDoor
open Go.RowKit

def mdF (d : Dk) : Nat → Value := fun j => if j = 0 then strV d.b else dkF d j
/-- The document's disk: one block. -/
def MDk (own : Nat → Nat) (i : Nat) (w : World) (m : Nat) (d : Dk) : Prop := d.b.length ≤ 1048576 ∧ (-1 ≤ d.cut ∧ d.cut ≤ 9223372036854775807) ∧ own m = i ∧ ∃ t, w.rowIs m t 3 (mdF d)
section
variable {own own' : Nat → Nat} {i j m' g : Nat} {w w' : World} {m : Nat} {d d' : Dk}
theorem MDk.lt (h : MDk own i w m d) : m < w.heap.size := by obtain ⟨_, _, _, t, h⟩ := h; exact h.lt
theorem MDk.free (h : MDk own i w m d) (j : Nat) : w.frozen? ⟨m, j, none⟩ = false := by obtain ⟨_, _, _, t, h⟩ := h; exact h.frozen j
theorem MDk.c0 (h : MDk own i w m d) : w.cell? ⟨m, 0, none⟩ = some (.string ⟨d.b.toArray⟩) := by obtain ⟨_, _, _, t, h⟩ := h; exact h.cell (i := 0) (by decide)
theorem MDk.c1 (h : MDk own i w m d) : w.cell? ⟨m, 1, none⟩ = some (.bool d.off) := by obtain ⟨_, _, _, t, h⟩ := h; exact h.cell (i := 1) (by decide)
theorem MDk.c2 (h : MDk own i w m d) : w.cell? ⟨m, 2, none⟩ = some (.int .i64 d.cut) := by obtain ⟨_, _, _, t, h⟩ := h; exact h.cell (i := 2) (by decide)
theorem MDk.kp (h : MDk own i w m d) (hk : Kp own m' g w w') (hi : i / m' ≠ g) (ho : ∀ n, n < w.heap.size → own n = i → own' n = i) : MDk own' i w' m d := by
  have hl := h.lt
  obtain ⟨h1, h2, h3, t, h4⟩ := h
  exact ⟨h1, h2, ho m hl h3, t, h4.of_block (hk.block m hl (by rw [h3]; exact hi))⟩
theorem MDk.relabel (h : MDk own i w m d) (ho : ∀ n, n < w.heap.size → own n = i → own' n = i) : MDk own' i w m d := h.kp (m' := 1) (g := i + 1) (Kp.refl _ _ _ _) (by simp) ho
theorem MDk.later (h : MDk own i w m d) (hx : Ex w w') : MDk own i w' m d := h.kp (m' := 1) (g := i + 1) (Kp.of_below hx.below) (by simp) (fun _ _ h => h)
theorem MDk.keep (h : MDk own i w m d) (hx : Ex w w') : ObjTo own i j w (fun o w' => MDk o i w' m d) w' := ObjTo.of_ex hx ((h.relabel (fun n hn e => by rw [lab_lt hn]; exact e)).later hx)
theorem MDk.turned (h : MDk own i w m d) (hk : Kp own 1 i w w') (h1 : d'.b.length ≤ 1048576) (h2 : -1 ≤ d'.cut ∧ d'.cut ≤ 9223372036854775807) (hr : ∃ t, w'.rowIs m t 3 (mdF d')) : ObjTo own i j w (fun o w' => MDk o i w' m d') w' :=
  ObjTo.of hk ⟨h1, h2, (lab_lt h.lt).trans h.2.2.1, hr⟩
theorem MDk.row (h : MDk own i w m d) : ∃ t, w.rowIs m t 3 (mdF d) := h.2.2.2
theorem MDk.lab (h : MDk own i w m d) : own m = i := h.2.2.1
end
section
variable {own : Nat → Nat} {i j : Nat} {w : World} {m : Nat} {d : Dk}
set_option maxRecDepth 100000 in
theorem msetCut_any (h : MDk own i w m d) (n : Int) (hn : n ≤ 9223372036854775807) : Calls Tryd.prog 38 #[.pointer (some ⟨m, 0, none⟩), .int .i64 n] w fun e w' => e = .returned (.int .i64 ((d.cutE n : Nat) : Int)) ∧ ObjTo own i j w (fun o w' => MDk o i w' m (d.cutD n)) w' := by
  have c1 := h.c1
  have c2 := h.c2
  have f2 := h.free 2
  have hp := h.lt
  have H := Lib.hid h
  by_cases h0 : n < 0
  · rw [show d.cutE n = 2 by unfold Dk.cutE; rw [if_pos h0], show d.cutD n = d by unfold Dk.cutD; rw [if_pos h0]]
    clear h
    go_enter Tryd.func38, Tryd.ntmps38
    go_wp2_with fail
    all_goals go_ret
    all_goals exact ⟨rfl, H.out.keep (by repeat (first | exact Ex.refl _ | refine Ex.alloc ?_ _ | refine Ex.ext ?_ _ _ | refine Ex.drew ?_ | refine Ex.drewN ?_ _))⟩
  cases hoff : d.off with
  | true =>
    rw [show d.cutE n = 9 by unfold Dk.cutE; rw [if_neg h0, if_pos hoff], show d.cutD n = d by unfold Dk.cutD; rw [if_neg h0, if_pos hoff]]
    rw [hoff] at c1
    clear h hoff
    go_enter Tryd.func38, Tryd.ntmps38
    go_wp2_with fail
    all_goals go_ret
    all_goals exact ⟨rfl, H.out.keep (by repeat (first | exact Ex.refl _ | refine Ex.alloc ?_ _ | refine Ex.ext ?_ _ _ | refine Ex.drew ?_ | refine Ex.drewN ?_ _))⟩
  | false =>
    rw [show d.cutE n = 0 by unfold Dk.cutE; rw [if_neg h0, if_neg (by rw [hoff]; decide)], show d.cutD n = ⟨d.b, d.off, n⟩ by unfold Dk.cutD; rw [if_neg h0, if_neg (by rw [hoff]; decide)]]
    rw [hoff] at c1
    clear h hoff
    go_enter Tryd.func38, Tryd.ntmps38
    go_wp2_with fail
    all_goals go_ret
    all_goals
      obtain ⟨t, hr⟩ := H.out.row
      refine ⟨rfl, H.out.turned ((Kp.refl _ _ _ _).setCell (fun _ => by rw [Nat.div_one]; exact H.out.lab) _) H.out.1 (by show -1 ≤ n ∧ n ≤ _; omega) ⟨t, (hr.set 2 (.int .i64 n)).congr fun j hj => ?_⟩⟩
      have : j = 0 ∨ j = 1 ∨ j = 2 := by omega
      rcases this with rfl | rfl | rfl <;> simp [mdF, dkF]
set_option maxRecDepth 100000 in
set_option maxHeartbeats 2000000 in
theorem mappend_any (h : MDk own i w m d) (s : List UInt8) (hm : s.length ≤ maxLen) : Calls Tryd.prog 37 #[.pointer (some ⟨m, 0, none⟩), .string ⟨s.toArray⟩] w fun e w' => e = .returned (.int .i64 ((d.appE s : Nat) : Int)) ∧ ObjTo own i j w (fun o w' => MDk o i w' m (d.app s)) w' := by
  have c0 := h.c0
  have c1 := h.c1
  have c2 := h.c2
  have f0 := h.free 0
  have f1 := h.free 1
  have f2 := h.free 2
  have hp := h.lt
  have hb := h.1
  have hcb := h.2.1
  have zs := bytes_size s
  have zb := bytes_size d.b
  have H := Lib.hid h
  clear h
  unfold maxLen at hm
  by_cases h1 : 10000 < s.length
  · rw [show d.appE s = 2 by unfold Dk.appE; rw [if_pos h1], show d.app s = d by unfold Dk.app; rw [if_pos h1]]
    have k1 : (10000 : Int) < (s.length : Int) := by omega
    go_enter Tryd.func37, Tryd.ntmps37
    go_wp2_with fail
    all_goals go_ret
    all_goals exact ⟨rfl, H.out.keep (by repeat (first | exact Ex.refl _ | refine Ex.alloc ?_ _ | refine Ex.ext ?_ _ _ | refine Ex.drew ?_ | refine Ex.drewN ?_ _))⟩
  have k1 : ¬ (10000 : Int) < (s.length : Int) := by omega
  have zr := bytes_size (recL s)
  have hrl := recL_len s
  have HR := Lib.hid (fun w => recRef_any s w (by omega))
  by_cases h2 : 1048576 < d.b.length + (s.length + 12)
  · rw [show d.appE s = 8 by unfold Dk.appE; rw [if_neg h1, if_pos h2], show d.app s = d by unfold Dk.app; rw [if_neg h1, if_pos h2]]
    rw [hrl] at zr
    have k2 : (1048576 : Int) < (d.b.length : Int) + ((s.length : Int) + 12) := by omega
    go_enter Tryd.func37, Tryd.ntmps37
    go_wp2_with (go_at_call 63; refine (HR.out _).mono ?_; rintro e w1 ⟨rfl, l1, d1, rfl⟩)
    all_goals go_ret
    all_goals exact ⟨rfl, H.out.keep (by repeat (first | exact Ex.refl _ | refine Ex.alloc ?_ _ | refine Ex.ext ?_ _ _ | refine Ex.drew ?_ | refine Ex.drewN ?_ _))⟩
  rw [(app_is d s h1 h2).1, (app_is d s h1 h2).2]
  have hfit : d.b.length + (recL s).length ≤ 1048576 := by omega
  have HFIT := Lib.hid hfit
  clear hfit
  have hrm : (recL s).length ≤ 10012 := by omega
  clear hrl k1
  have hr0 : ¬ (10000 : Int) < (s.length : Int) := by omega
  have k2 : ¬ (1048576 : Int) < (d.b.length : Int) + ((recL s).length : Int) := by have := HFIT.out; omega
  generalize recL s = r at *
  have ha := bytes_add d.b r
  cases hoff : d.off with
  | true =>
    rw [show wrE d r = 9 by unfold wrE; rw [if_pos hoff], show wrD d r = d by unfold wrD; rw [if_pos hoff]]
    rw [hoff] at c1
    clear hoff
    go_enter Tryd.func37, Tryd.ntmps37
    go_wp2_with (go_at_call 63; refine (HR.out _).mono ?_; rintro e w1 ⟨rfl, l1, d1, rfl⟩)
    all_goals go_ret
    all_goals exact ⟨rfl, H.out.keep (by repeat (first | exact Ex.refl _ | refine Ex.alloc ?_ _ | refine Ex.ext ?_ _ _ | refine Ex.drew ?_ | refine Ex.drewN ?_ _))⟩
  | false =>
    have n0 : ¬ (d.off = true) := by rw [hoff]; decide
    rw [hoff] at c1
    have HOFF := Lib.hid hoff
    clear hoff
    by_cases hc : d.cut < 0
    · rw [show wrE d r = 0 by unfold wrE; rw [if_neg n0, if_neg (by omega)], show wrD d r = ⟨d.b ++ r, false, d.cut⟩ by unfold wrD; rw [if_neg n0, if_neg (by omega), if_neg (by omega)]]
      have e1 : decide (0 ≤ d.cut) = false := decide_eq_false (by omega)
      go_enter Tryd.func37, Tryd.ntmps37
      go_wp2_with (go_at_call 63; refine (HR.out _).mono ?_; rintro e w1 ⟨rfl, l1, d1, rfl⟩)
      all_goals go_ret
      all_goals
        obtain ⟨t, hr⟩ := H.out.row
        refine ⟨rfl, H.out.turned (((Kp.refl _ _ _ _).setCell (fun _ => by rw [Nat.div_one]; exact H.out.lab) _).ext _ _) (by have := HFIT.out; simp; omega) hcb ⟨t, rowIs_ext ((hr.set 0 (.string ⟨(d.b ++ r).toArray⟩)).congr fun j hj => ?_) _ _⟩⟩
        have : j = 0 ∨ j = 1 ∨ j = 2 := by omega
        rcases this with rfl | rfl | rfl <;> simp [mdF, dkF, strV, HOFF.out]
    · obtain ⟨c, hdc⟩ : ∃ c : Nat, d.cut = (c : Int) := ⟨d.cut.toNat, by omega⟩
      have e1 : decide (0 ≤ d.cut) = true := decide_eq_true (by omega)
      by_cases hl : d.cut < (r.length : Int)
      · rw [show wrE d r = 9 by unfold wrE; rw [if_neg n0, if_pos (by omega)], show wrD d r = ⟨d.b ++ r.take c, true, d.cut⟩ by unfold wrD; rw [if_neg n0, if_pos (by omega), hdc]; rfl]
        rw [hdc] at c2 e1
        have e2 : decide ((c : Int) < (r.length : Int)) = true := decide_eq_true (by omega)
        have c3 : (c : Int) ≤ (r.length : Int) := by omega
        have c4 : (0 : Int) ≤ (c : Int) := by omega
        have ht := bytes_head r c
        have ha2 := bytes_add d.b (r.take c)
        have zt := bytes_size (r.take c)
        have htl : (r.take c).length = c := by rw [List.length_take]; omega
        have e3 : c < r.length := by omega
        clear ha hl
        go_enter Tryd.func37, Tryd.ntmps37
        go_wp2_with (go_at_call 63; refine (HR.out _).mono ?_; rintro e w1 ⟨rfl, l1, d1, rfl⟩)
        have hnl : ¬ 9223372036854775807 < d.b.length + c := by omega
        have w12 : IntKind.i64.wrap (c : Int) = (c : Int) := IntWalk.i64_in _ (by omega)
        refine wp_region_any (by kernel_rfl) ?_
        (try (change wpAny _ _ _ _ _ _ _ (World.drew _)))
        refine wpAny_take (i := 0) (v := ?_) rfl (by kernel_rfl) (by kernel_rfl) (by kernel_rfl) (fun _ _ _ h => h) (Or.inl ⟨by rfl, ?_⟩) ?_
        rotate_left
        focus (intro w; go_simp; (try with_reducible rfl))
        (try simp only [Act.put, List.setIfInBounds_toArray, List.set_cons_zero, List.set_cons_succ])
        refine wpAny_take (i := 1) (v := ?_) rfl (by kernel_rfl) (by kernel_rfl) (by kernel_rfl) (fun _ _ _ h => h) (Or.inl ⟨by rfl, ?_⟩) ?_
        rotate_left
        focus (intro w; go_simp; (try with_reducible rfl))
        (try simp only [Act.put, List.setIfInBounds_toArray, List.set_cons_zero, List.set_cons_succ])
        refine wpAny_take (i := 5) (v := ?_) rfl (by kernel_rfl) (by kernel_rfl) (by kernel_rfl) (fun _ _ _ h => h) (Or.inl ⟨by rfl, ?_⟩) ?_
        rotate_left
        focus (intro w; go_simp; (try with_reducible rfl))
        (try simp only [Act.put, List.setIfInBounds_toArray, List.set_cons_zero, List.set_cons_succ])
        refine wpAny_take (i := 6) (v := ?_) rfl (by kernel_rfl) (by kernel_rfl) (by kernel_rfl) (fun _ _ _ h => h) (Or.inl ⟨by rfl, ?_⟩) ?_
        rotate_left
        focus (intro w; go_simp; (try with_reducible rfl))
        (try simp only [Act.put, List.setIfInBounds_toArray, List.set_cons_zero, List.set_cons_succ])
        refine wpAny_take (i := 2) (v := ?_) rfl (by kernel_rfl) (by kernel_rfl) (by kernel_rfl) (fun _ _ _ h => h) (Or.inl ⟨by rfl, ?_⟩) ?_
        rotate_left
        focus (intro w; go_simp; (try with_reducible rfl))
        (try simp only [Act.put, List.setIfInBounds_toArray, List.set_cons_zero, List.set_cons_succ])
        refine wpAny_take (i := 7) (v := ?_) rfl (by kernel_rfl) (by kernel_rfl) (by kernel_rfl) (fun _ _ _ h => h) (Or.inl ⟨by rfl, ?_⟩) ?_
        rotate_left
        focus (intro w; go_simp; (try with_reducible rfl))
        (try simp only [Act.put, List.setIfInBounds_toArray, List.set_cons_zero, List.set_cons_succ])
        refine wpAny_take (i := 3) (v := ?_) rfl (by kernel_rfl) (by kernel_rfl) (by kernel_rfl) (fun _ _ _ h => h) (Or.inl ⟨by rfl, ?_⟩) ?_
        rotate_left
        focus (intro w; go_simp; (try with_reducible rfl))
        (try simp only [Act.put, List.setIfInBounds_toArray, List.set_cons_zero, List.set_cons_succ])
        refine wpAny_take (i := 8) (v := ?_) rfl (by kernel_rfl) (by kernel_rfl) (by kernel_rfl) (fun _ _ _ h => h) (Or.inl ⟨by rfl, ?_⟩) ?_
        rotate_left
        focus (intro w; go_simp; (try with_reducible rfl))
        (try simp only [Act.put, List.setIfInBounds_toArray, List.set_cons_zero, List.set_cons_succ])
        refine wpAny_ready (rs := [4, 9]) (by kernel_rfl) (by simp) (AllReady.cons rfl (fun K hK => ?_) (AllReady.cons rfl (fun K hK => ?_) AllReady.nil))
        · go_simp
          refine hK _ _ ?_
          clear hK K
          refine wpAny_ready (rs := [9]) (by kernel_rfl) (by simp) (AllReady.cons rfl (fun K hK => ?_) AllReady.nil)
          go_simp
          refine hK _ _ ?_
          clear hK K
          refine wpAny_ready (rs := [10]) (by kernel_rfl) (by simp) (AllReady.cons rfl (fun K hK => ?_) AllReady.nil)
          go_simp
          refine hK _ _ ?_
          clear hK K
          refine wpAny_ready (rs := [11]) (by kernel_rfl) (by simp) (AllReady.cons rfl (fun K hK => ?_) AllReady.nil)
          go_simp
          refine hK _ _ ?_
          clear hK K
          refine wpAny_ready (rs := [12]) (by kernel_rfl) (by simp) (AllReady.cons rfl (fun K hK => ?_) AllReady.nil)
          go_simp
          refine hK _ _ ?_
          clear hK K
          refine wpAny_ready (rs := [13]) (by kernel_rfl) (by simp) (AllReady.cons rfl (fun K hK => ?_) AllReady.nil)
          go_simp
          refine hK _ _ ?_
          clear hK K
          refine wpAny_ready (rs := [14]) (by kernel_rfl) (by simp) (AllReady.cons rfl (fun K hK => ?_) AllReady.nil)
          go_simp
          refine hK _ _ ?_
          clear hK K
          refine wpAny_done (by kernel_rfl) ?_ _
          go_wp2_with fail
          all_goals go_ret
          all_goals
            obtain ⟨t, hr⟩ := H.out.row
            refine ⟨rfl, H.out.turned ((((Kp.refl _ _ _ _).setCell (fun _ => by rw [Nat.div_one]; exact H.out.lab) _).setCell (fun _ => by rw [Nat.div_one]; exact H.out.lab) _).ext _ _) (by have := HFIT.out; simp; omega) hcb ⟨t, rowIs_ext (((hr.set 0 (.string ⟨(d.b ++ r.take c).toArray⟩)).set 1 (.bool true)).congr fun j hj => ?_) _ _⟩⟩
            have : j = 0 ∨ j = 1 ∨ j = 2 := by omega
            rcases this with rfl | rfl | rfl <;> simp [mdF, dkF, strV]
        · go_simp
          refine hK _ _ ?_
          clear hK K
          refine wpAny_take (i := 10) (v := ?_) rfl (by kernel_rfl) (by kernel_rfl) (by kernel_rfl) (fun _ _ _ h => h) (Or.inl ⟨by rfl, ?_⟩) ?_
          rotate_left
          focus (intro w; go_simp; (try with_reducible rfl))
          (try simp only [Act.put, List.setIfInBounds_toArray, List.set_cons_zero, List.set_cons_succ])
          refine wpAny_ready (rs := [4]) (by kernel_rfl) (by simp) (AllReady.cons rfl (fun K hK => ?_) AllReady.nil)
          go_simp
          refine hK _ _ ?_
          clear hK K
          refine wpAny_ready (rs := [11]) (by kernel_rfl) (by simp) (AllReady.cons rfl (fun K hK => ?_) AllReady.nil)
          go_simp
          refine hK _ _ ?_
          clear hK K
          refine wpAny_ready (rs := [12]) (by kernel_rfl) (by simp) (AllReady.cons rfl (fun K hK => ?_) AllReady.nil)
          go_simp
          refine hK _ _ ?_
          clear hK K
          refine wpAny_ready (rs := [13]) (by kernel_rfl) (by simp) (AllReady.cons rfl (fun K hK => ?_) AllReady.nil)
          go_simp
          refine hK _ _ ?_
          clear hK K
          refine wpAny_ready (rs := [14]) (by kernel_rfl) (by simp) (AllReady.cons rfl (fun K hK => ?_) AllReady.nil)
          go_simp
          refine hK _ _ ?_
          clear hK K
          refine wpAny_done (by kernel_rfl) ?_ _
          go_wp2_with fail
          all_goals go_ret
          all_goals
            obtain ⟨t, hr⟩ := H.out.row
            refine ⟨rfl, H.out.turned ((((Kp.refl _ _ _ _).setCell (fun _ => by rw [Nat.div_one]; exact H.out.lab) _).setCell (fun _ => by rw [Nat.div_one]; exact H.out.lab) _).ext _ _) (by have := HFIT.out; simp; omega) hcb ⟨t, rowIs_ext (((hr.set 0 (.string ⟨(d.b ++ r.take c).toArray⟩)).set 1 (.bool true)).congr fun j hj => ?_) _ _⟩⟩
            have : j = 0 ∨ j = 1 ∨ j = 2 := by omega
            rcases this with rfl | rfl | rfl <;> simp [mdF, dkF, strV]
      · rw [show wrE d r = 0 by unfold wrE; rw [if_neg n0, if_neg (by omega)], show wrD d r = ⟨d.b ++ r, false, d.cut - (r.length : Int)⟩ by unfold wrD; rw [if_neg n0, if_neg (by omega), if_pos (by omega)]]
        have e2 : decide (d.cut < (r.length : Int)) = false := decide_eq_false (by omega)
        have hw : IntKind.i64.wrap (d.cut - (r.length : Int)) = d.cut - (r.length : Int) := IntWalk.i64_in _ (by omega)
        have HC : Hid (-1 ≤ d.cut - (r.length : Int) ∧ d.cut - (r.length : Int) ≤ 9223372036854775807) := Lib.hid (by omega)
        clear hdc
        go_enter Tryd.func37, Tryd.ntmps37
        go_wp2_with (go_at_call 63; refine (HR.out _).mono ?_; rintro e w1 ⟨rfl, l1, d1, rfl⟩)
        all_goals go_ret
        all_goals
          obtain ⟨t, hr⟩ := H.out.row
          refine ⟨rfl, H.out.turned ((((Kp.refl _ _ _ _).setCell (fun _ => by rw [Nat.div_one]; exact H.out.lab) _).setCell (fun _ => by rw [Nat.div_one]; exact H.out.lab) _).ext _ _) (by have := HFIT.out; simp; omega) HC.out ⟨t, rowIs_ext (((hr.set 2 (.int .i64 (d.cut - (r.length : Int)))).set 0 (.string ⟨(d.b ++ r).toArray⟩)).congr fun j hj => ?_) _ _⟩⟩
          have : j = 0 ∨ j = 1 ∨ j = 2 := by omega
          rcases this with rfl | rfl | rfl <;> simp [mdF, dkF, strV, HOFF.out]
end
end Go.Proofs.YtfeeibealokhfaaDoor
