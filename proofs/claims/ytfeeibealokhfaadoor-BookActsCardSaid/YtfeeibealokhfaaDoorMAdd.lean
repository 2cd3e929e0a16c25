/- The document's book: what Add computes. -/
import Derived.Test.YtfeeibealokhfaaDoorMBook
set_option linter.unusedSimpArgs false
set_option linter.unusedVariables false
namespace Go.Proofs.YtfeeibealokhfaaDoor
open Go.RowKit

section
variable {own : Nat → Nat} {i : Nat} {w : World} {p : Nat} {l : List Lot}
set_option maxRecDepth 100000 in
theorem madd_bad (h : BookAt own i w p l) (x : Lot) (hk : x.ok = false) :
    Calls Tryd.prog 49 #[.pointer (some ⟨p, 0, none⟩), x.val] w fun e w' => e = .returned (.int .i64 2) ∧ ObjTo own i i w (fun o w' => BookAt o i w' p l) w' := by
  have HO := Lib.hid (fun w => lotError_any x w)
  rw [hk] at HO
  simp only [Bool.false_eq_true, if_false] at HO
  have H := Lib.hid h
  clear hk h
  go_enter Tryd.func49, Tryd.ntmps49
  go_wp2_with (go_at_call 76; refine (HO.out _).mono ?_; rintro e w1 ⟨rfl, l1, d1, rfl⟩)
  all_goals go_ret
  all_goals exact ⟨rfl, H.out.keep (by repeat (first | exact Ex.refl _ | refine Ex.alloc ?_ _ | refine Ex.ext ?_ _ _ | refine Ex.drew ?_ | refine Ex.drewN ?_ _))⟩
set_option maxRecDepth 100000 in
theorem madd_exist (h : BookAt own i w p l) (x : Lot) (hk : x.ok = true) (k : Nat) (hi : idIdx l x.id = (k : Int)) :
    Calls Tryd.prog 49 #[.pointer (some ⟨p, 0, none⟩), x.val] w fun e w' => e = .returned (.int .i64 7) ∧ ObjTo own i i w (fun o w' => BookAt o i w' p l) w' := by
  have HO := Lib.hid (fun w => lotError_any x w)
  rw [hk] at HO
  simp only [if_true] at HO
  have HF := Lib.hid (fun W (hx : Ex w W) => mfind_any (h.later hx) x.id)
  rw [hi] at HF
  have H := Lib.hid h
  clear hk h hi
  go_enter Tryd.func49, Tryd.ntmps49
  go_wp2_with (first
    | (go_at_call 76; refine (HO.out _).mono ?_; rintro e w1 ⟨rfl, l1, d1, rfl⟩)
    | (go_at_call 53; refine (HF.out _ (by repeat (first | exact Ex.refl _ | refine Ex.alloc ?_ _ | refine Ex.ext ?_ _ _ | refine Ex.drew ?_ | refine Ex.drewN ?_ _))).mono ?_; rintro e w1 ⟨rfl, l2, d2, rfl⟩))
  all_goals go_ret
  all_goals exact ⟨rfl, H.out.keep (by repeat (first | exact Ex.refl _ | refine Ex.alloc ?_ _ | refine Ex.ext ?_ _ _ | refine Ex.drew ?_ | refine Ex.drewN ?_ _))⟩
set_option maxRecDepth 100000 in
theorem madd_full (h : BookAt own i w p l) (x : Lot) (hk : x.ok = true) (hi : idIdx l x.id = -1) (hf : 60 ≤ l.length) :
    Calls Tryd.prog 49 #[.pointer (some ⟨p, 0, none⟩), x.val] w fun e w' => e = .returned (.int .i64 8) ∧ ObjTo own i i w (fun o w' => BookAt o i w' p l) w' := by
  obtain ⟨ao, cap, c0, hc, hm, h0, hl, hr⟩ := h.slice
  have hp := h.lt
  have hb := h.1
  have HO := Lib.hid (fun w => lotError_any x w)
  rw [hk] at HO
  simp only [if_true] at HO
  have HF := Lib.hid (fun W (hx : Ex w W) => mfind_any (h.later hx) x.id)
  rw [hi] at HF
  have H := Lib.hid h
  have k2 : (60 : Int) ≤ (l.length : Int) := by omega
  clear hk h hi hl hr h0
  go_enter Tryd.func49, Tryd.ntmps49
  go_wp2_with (first
    | (go_at_call 76; refine (HO.out _).mono ?_; rintro e w1 ⟨rfl, l1, d1, rfl⟩)
    | (go_at_call 53; refine (HF.out _ (by repeat (first | exact Ex.refl _ | refine Ex.alloc ?_ _ | refine Ex.ext ?_ _ _ | refine Ex.drew ?_ | refine Ex.drewN ?_ _))).mono ?_; rintro e w1 ⟨rfl, l2, d2, rfl⟩))
  all_goals go_ret
  all_goals exact ⟨rfl, H.out.keep (by repeat (first | exact Ex.refl _ | refine Ex.alloc ?_ _ | refine Ex.ext ?_ _ _ | refine Ex.drew ?_ | refine Ex.drewN ?_ _))⟩
set_option maxRecDepth 100000 in
set_option maxHeartbeats 8000000 in
theorem madd_ok (h : BookAt own i w p l) (x : Lot) (hx : x.wf) (hk : x.ok = true) (hi : idIdx l x.id = -1) (hf : l.length < 60) :
    Calls Tryd.prog 49 #[.pointer (some ⟨p, 0, none⟩), x.val] w fun e w' => e = .returned (.int .i64 0) ∧ ObjTo own i i w (fun o w' => BookAt o i w' p (l ++ [x])) w' := by
  have HO := Lib.hid (fun w => lotError_any x w)
  rw [hk] at HO
  simp only [if_true] at HO
  have HF := Lib.hid (fun W (hx : Ex w W) => mfind_any (h.later hx) x.id)
  rw [hi] at HF
  have H := Lib.hid h
  obtain ⟨ao, cap, c0, hc, hm, h0, hl, hr⟩ := h.slice
  have HR := Lib.hid hr
  have hp := h.lt
  have HX := Lib.hid hx
  have HC := Lib.hid c0
  obtain ⟨i0, hi0, hz0, hz1, hz2⟩ := info_parts infoLot
  have k2 : ¬ (60 : Int) ≤ (l.length : Int) := by omega
  have hpb : Hid ((Value.slice ao l.length cap).ownBlock ≠ some p) := Lib.hid (by
    obtain ⟨_, _, v, h3⟩ := h
    have := h3.cell0 (by decide)
    rw [c0] at this
    cases this
    exact h3.2.2.2)
  have HRX := Lib.hid (fun W (hx : Ex w W) => hr.of_block (w' := W) (fun g hg => hx.below.block g (hr.lt g hg)))
  have HFR := Lib.hid (fun (W w3 : World) (hx : Ex w W) (hg : W.grownBy w3 (Value.slice ao l.length cap).ownBlock) => mb_free (w3 := w3) h HC.out ((hg.block p (by have := hx.below.size; omega) (fun e => hpb.out e.symm)).trans (hx.below.block p hp)))
  clear hk hi h hx hl hr h0 hpb
  go_enter Tryd.func49, Tryd.ntmps49
  go_upto_region 8 with (first
    | (go_at_call 76; refine (HO.out _).mono ?_; rintro e w1 ⟨rfl, l1, d1, rfl⟩)
    | (go_at_call 53; refine (HF.out _ (by repeat (first | exact Ex.refl _ | refine Ex.alloc ?_ _ | refine Ex.ext ?_ _ _ | refine Ex.drew ?_ | refine Ex.drewN ?_ _))).mono ?_; rintro e w1 ⟨rfl, l2, d2, rfl⟩))
  generalize l1 ++ l2 = l3 at *
  have q0 : p ≠ w.heap.size := by omega
  have q1 : p ≠ w.heap.size + 1 + l3.length := by omega
  have q2 : p < w.heap.size + 1 := by omega
  have q3 : p < w.heap.size + 1 + l3.length + 1 := by omega
  have q4 : w.heap.size < w.heap.size + 1 + l3.length + 1 := by omega
  have q5 : p < w.heap.size + 1 + l3.length := by omega
  go_region_law
    ((refine step_append_keep ?_ (.tmp 26) (.tmp 28) 52 52 ?_ 24 i0 _ 5 40 Tryd.underlying52 hi0 hz0 hz1 hz2 ?_ (.slice ao l.length cap) (.slice (some ⟨w.heap.size + 1 + l3.length, 0, none⟩) 1 1) l.length 1 (flat Lot.cells l) (Lot.cells x) ?_ ?_ ?_ ?_ ?_ ?_ ?_); (focus rfl); (focus rfl); (focus rfl); (focus rfl); (focus (simp [go_sem]; done)); (focus exact HRX.out _ (by repeat (first | exact Ex.refl _ | refine Ex.alloc ?_ _ | refine Ex.ext ?_ _ _ | refine Ex.drew ?_ | refine Ex.drewN ?_ _))); (focus exact (Src.block Tryd.underlying52 1 1 (cs := #[.int .i64 x.id, .int .i64 x.owner, .int .i64 x.side, .int .i64 x.price, .int .i64 x.qty]) (t := 24) (fr := (0, 0)) (heap_new (by simp [go_sem])) (by simp) (by simp [Value.oneCell']))); (focus (unfold maxLen; omega)); (focus omega); intro v3 w3 h31 h32 h33 h35; have HEND := Lib.hid (madd_end H.out HC.out x HX.out hf (by exact (by repeat (first | exact Ex.refl _ | refine Ex.alloc ?_ _ | refine Ex.ext ?_ _ _ | refine Ex.drew ?_ | refine Ex.drewN ?_ _))) h31 h32 h33); obtain ⟨f3, p3, c3⟩ := HFR.out _ w3 (by exact (by repeat (first | exact Ex.refl _ | refine Ex.alloc ?_ _ | refine Ex.ext ?_ _ _ | refine Ex.drew ?_ | refine Ex.drewN ?_ _))) h32; obtain ⟨ao3, cap3, rfl⟩ := row_form h31; clear h31 h32 h33 h35)
  all_goals go_wp2_with fail
  all_goals go_ret
  all_goals exact ⟨rfl, HEND.out⟩
theorem madd_any (h : BookAt own i w p l) (x : Lot) (hx : x.wf) :
    Calls Tryd.prog 49 #[.pointer (some ⟨p, 0, none⟩), x.val] w fun e w' => e = .returned (.int .i64 (addE l x : Int)) ∧ ObjTo own i i w (fun o w' => BookAt o i w' p (addL l x)) w' := by
  have hadd : ∀ n, addE l x = n → n ≠ 0 → addL l x = l := fun n hn h0 => by unfold addL; rw [if_neg (by omega)]
  cases hk : x.ok with
  | false =>
    have e : addE l x = 2 := by simp [addE, hk]
    rw [hadd 2 e (by decide), e]
    exact madd_bad h x hk
  | true =>
    rcases idIdx_cases l x.id with ⟨k, hkl, hi, _⟩ | ⟨hi, _⟩
    · have e : addE l x = 7 := by simp [addE, hk, hi]
      rw [hadd 7 e (by decide), e]
      exact madd_exist h x hk k hi
    · by_cases hf : 60 ≤ l.length
      · have e : addE l x = 8 := by simp [addE, hk, hi, hf]
        rw [hadd 8 e (by decide), e]
        exact madd_full h x hk hi hf
      · have e : addE l x = 0 := by simp [addE, hk, hi, hf]
        have e2 : addL l x = l ++ [x] := by unfold addL; rw [if_pos e]
        rw [e, e2]
        exact madd_ok h x hx hk hi (by omega)
end
end Go.Proofs.YtfeeibealokhfaaDoor
