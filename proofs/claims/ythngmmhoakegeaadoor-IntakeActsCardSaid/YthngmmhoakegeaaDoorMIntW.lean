/- The document's intake: what Wait, Put and Clear compute. -/
import Derived.Test.YthngmmhoakegeaaDoorMInt
import Derived.Deep.AppendLies
import Derived.Deep.RegionLaw
import Derived.Test.YthngmmhoakegeaaDoorGrown
set_option linter.unusedSimpArgs false
set_option linter.unusedVariables false
namespace Go.Proofs.YthngmmhoakegeaaDoor
open Go.RowKit

section
variable {own : Nat → Nat} {i : Nat} {w : World} {q : Nat} {L : List Ask} {turn : Nat}
set_option maxRecDepth 100000 in
theorem mwait_any (h : MIntAt own i w q L turn) (n : Int) : Calls Tryd.prog 44 #[.pointer (some ⟨q, 0, none⟩), .int .i64 n] w fun e w' => e = .returned (.int .i64 ((ofC L n).length : Nat)) ∧ Ex w w' := by
  obtain ⟨ao, cap, c0, c1, hc, hm, h0, hz, hr, _⟩ := h.slice
  have hp := h.lt
  have hb := h.2.1
  have HZ := Lib.hid hz
  clear h hr h0 hz
  go_enter Tryd.func44, Tryd.ntmps44
  go_wp2_with fail
  go_loopw [5, 6] (fun c i wr => ∃ (k : Nat), k ≤ L.length ∧ c = .int .i64 ((ofC (L.take k) n).length : Int) ∧ i = .int .i64 (k : Int) ∧ Ex w wr) (fun _ i _ => L.length - (intOf i).toNat)
  case atStart => exact ⟨0, Nat.zero_le _, rfl, rfl, Ex.refl _⟩
  case round =>
    obtain ⟨k, hk, rfl, rfl, l1, d1, rfl⟩ := hrel
    by_cases hlt : k < L.length
    · obtain ⟨g, off, rfl, hg, hcc⟩ := HZ.out (by omega)
      have a1 := hcc k hlt 1 (by omega)
      simp only [Ask.cells, List.getElem?_cons_zero, List.getElem?_cons_succ, Nat.add_zero] at a1
      have hle := ofC_le (L.take k) n
      have hle2 : (L.take k).length ≤ 36 := by rw [List.length_take]; omega
      have HS := Lib.hid (ofC_succ hlt n)
      clear hcc
      generalize L[k] = x at *
      generalize ofC (L.take k) n = F at *
      by_cases he : (x.client == n) = true
      · have HS2 : Hid ((ofC (L.take (k + 1)) n).length = F.length + 1) := Lib.hid (by rw [HS.out, if_pos (by simpa using he)]; simp)
        go_wp2_with fail
        all_goals
          go_roundw
          case measure => simp [intOf]; omega
          case rel => exact ⟨k + 1, by omega, by rw [HS2.out]; go_num, by go_num, (by repeat (first | exact Ex.refl _ | refine Ex.alloc ?_ _ | refine Ex.ext ?_ _ _ | refine Ex.drew ?_ | refine Ex.drewN ?_ _))⟩
      · have he2 : (x.client == n) = false := by simpa using he
        have HS2 : Hid ((ofC (L.take (k + 1)) n).length = F.length) := Lib.hid (by rw [HS.out, if_neg (by simpa using he)]; simp)
        go_wp2_with fail
        all_goals
          go_roundw
          case measure => simp [intOf]; omega
          case rel => exact ⟨k + 1, by omega, by rw [HS2.out], by go_num, (by repeat (first | exact Ex.refl _ | refine Ex.alloc ?_ _ | refine Ex.ext ?_ _ _ | refine Ex.drew ?_ | refine Ex.drewN ?_ _))⟩
    · obtain rfl : k = L.length := by omega
      have HT : Hid (L.take L.length = L) := Lib.hid (List.take_length)
      go_wp2_with fail
      all_goals go_ret
      all_goals exact ⟨by rw [← HT.out]; simp [go_sem, HT.out], (by repeat (first | exact Ex.refl _ | refine Ex.alloc ?_ _ | refine Ex.ext ?_ _ _ | refine Ex.drew ?_ | refine Ex.drewN ?_ _))⟩
set_option maxRecDepth 100000 in
theorem mput_kind (h : MIntAt own i w q L turn) (a : Ask) (hk : (a.kind != 111 && a.kind != 99) = true) :
    Calls Tryd.prog 39 #[.pointer (some ⟨q, 0, none⟩), a.val] w fun e w' => e = .returned (.int .i64 4) ∧ ObjTo own i i w (fun o w' => MIntAt o i w' q L turn) w' := by
  have H := Lib.hid h
  simp only [Bool.and_eq_true] at hk
  obtain ⟨k1, k2⟩ := hk
  clear h
  go_enter Tryd.func39, Tryd.ntmps39
  go_wp2_with fail
  all_goals go_ret
  all_goals exact ⟨rfl, H.out.keep (by repeat (first | exact Ex.refl _ | refine Ex.alloc ?_ _ | refine Ex.ext ?_ _ _ | refine Ex.drew ?_ | refine Ex.drewN ?_ _))⟩
set_option maxRecDepth 100000 in
theorem mput_client (h : MIntAt own i w q L turn) (a : Ask) (hk : (a.kind == 111) = true ∨ (a.kind == 99) = true) (hc : a.client < 0 ∨ 6 ≤ a.client) :
    Calls Tryd.prog 39 #[.pointer (some ⟨q, 0, none⟩), a.val] w fun e w' => e = .returned (.int .i64 2) ∧ ObjTo own i i w (fun o w' => MIntAt o i w' q L turn) w' := by
  have H := Lib.hid h
  have n1 : (a.kind != 111) = !(a.kind == 111) := rfl
  have n2 : (a.kind != 99) = !(a.kind == 99) := rfl
  clear h
  rcases hk with k1 | k1
  · rcases hc with hc | hc
    · go_enter Tryd.func39, Tryd.ntmps39
      go_wp2_with fail
      all_goals go_ret
      all_goals exact ⟨rfl, H.out.keep (by repeat (first | exact Ex.refl _ | refine Ex.alloc ?_ _ | refine Ex.ext ?_ _ _ | refine Ex.drew ?_ | refine Ex.drewN ?_ _))⟩
    · have hc2 : ¬ a.client < 0 := by omega
      go_enter Tryd.func39, Tryd.ntmps39
      go_wp2_with fail
      all_goals go_ret
      all_goals exact ⟨rfl, H.out.keep (by repeat (first | exact Ex.refl _ | refine Ex.alloc ?_ _ | refine Ex.ext ?_ _ _ | refine Ex.drew ?_ | refine Ex.drewN ?_ _))⟩
  · rcases hc with hc | hc
    · go_enter Tryd.func39, Tryd.ntmps39
      go_wp2_with fail
      all_goals go_ret
      all_goals exact ⟨rfl, H.out.keep (by repeat (first | exact Ex.refl _ | refine Ex.alloc ?_ _ | refine Ex.ext ?_ _ _ | refine Ex.drew ?_ | refine Ex.drewN ?_ _))⟩
    · have hc2 : ¬ a.client < 0 := by omega
      go_enter Tryd.func39, Tryd.ntmps39
      go_wp2_with fail
      all_goals go_ret
      all_goals exact ⟨rfl, H.out.keep (by repeat (first | exact Ex.refl _ | refine Ex.alloc ?_ _ | refine Ex.ext ?_ _ _ | refine Ex.drew ?_ | refine Ex.drewN ?_ _))⟩
set_option maxRecDepth 100000 in
theorem mput_full (h : MIntAt own i w q L turn) (a : Ask) (hk : (a.kind == 111) = true ∨ (a.kind == 99) = true) (hc : 0 ≤ a.client ∧ a.client < 6) (hf : 6 ≤ (ofC L a.client).length) :
    Calls Tryd.prog 39 #[.pointer (some ⟨q, 0, none⟩), a.val] w fun e w' => e = .returned (.int .i64 8) ∧ ObjTo own i i w (fun o w' => MIntAt o i w' q L turn) w' := by
  have H := Lib.hid h
  have n1 : (a.kind != 111) = !(a.kind == 111) := rfl
  have n2 : (a.kind != 99) = !(a.kind == 99) := rfl
  have c1 : ¬ a.client < 0 := by omega
  have c2 : ¬ 6 ≤ a.client := by omega
  have HWT := Lib.hid (fun W (hx : Ex w W) => mwait_any (h.later hx) a.client)
  have hle := ofC_le L a.client
  have hl := h.2.1
  generalize (ofC L a.client).length = m at *
  have k2 : (6 : Int) ≤ (m : Int) := by omega
  clear h hc
  rcases hk with k1 | k1
  · go_enter Tryd.func39, Tryd.ntmps39
    go_wp2_with (go_at_call 44; refine (HWT.out _ (by repeat (first | exact Ex.refl _ | refine Ex.alloc ?_ _ | refine Ex.ext ?_ _ _ | refine Ex.drew ?_ | refine Ex.drewN ?_ _))).mono ?_; rintro e w1 ⟨rfl, l1, d1, rfl⟩)
    all_goals go_ret
    all_goals exact ⟨rfl, H.out.keep (by repeat (first | exact Ex.refl _ | refine Ex.alloc ?_ _ | refine Ex.ext ?_ _ _ | refine Ex.drew ?_ | refine Ex.drewN ?_ _))⟩
  · go_enter Tryd.func39, Tryd.ntmps39
    go_wp2_with (go_at_call 44; refine (HWT.out _ (by repeat (first | exact Ex.refl _ | refine Ex.alloc ?_ _ | refine Ex.ext ?_ _ _ | refine Ex.drew ?_ | refine Ex.drewN ?_ _))).mono ?_; rintro e w1 ⟨rfl, l1, d1, rfl⟩)
    all_goals go_ret
    all_goals exact ⟨rfl, H.out.keep (by repeat (first | exact Ex.refl _ | refine Ex.alloc ?_ _ | refine Ex.ext ?_ _ _ | refine Ex.drew ?_ | refine Ex.drewN ?_ _))⟩
set_option maxRecDepth 100000 in
set_option maxHeartbeats 8000000 in
theorem mput_ok (h : MIntAt own i w q L turn) (x : Ask) (hk : (x.kind == 111) = true ∨ (x.kind == 99) = true) (hc : 0 ≤ x.client ∧ x.client < 6) (hf0 : (ofC L x.client).length < 6) (hf : L.length < 36) :
    Calls Tryd.prog 39 #[.pointer (some ⟨q, 0, none⟩), x.val] w fun e w' => e = .returned (.int .i64 0) ∧ ObjTo own i i w (fun o w' => MIntAt o i w' q (L ++ [x]) turn) w' := by
  have H := Lib.hid h
  have n1 : (x.kind != 111) = !(x.kind == 111) := rfl
  have n2 : (x.kind != 99) = !(x.kind == 99) := rfl
  have cc1 : ¬ x.client < 0 := by omega
  have cc2 : ¬ 6 ≤ x.client := by omega
  have HWT := Lib.hid (fun W (hx : Ex w W) => mwait_any (h.later hx) x.client)
  generalize (ofC L x.client).length = m at *
  have k2 : ¬ (6 : Int) ≤ (m : Int) := by omega
  have k2n : ¬ 6 ≤ m := by omega
  obtain ⟨ao, cap, c0, _, hcc, hm, h0, hz, hr, hqb⟩ := h.slice
  have hp := h.lt
  have HC := Lib.hid c0
  obtain ⟨i0, hi0, hz0, hz1, hz2⟩ := info_parts infoAsk'
  have HRX := Lib.hid (fun W (hx : Ex w W) => hr.of_block (w' := W) (fun g hg => hx.below.block g (hr.lt g hg)))
  have HFR := Lib.hid (fun (W w3 : World) (hx : Ex w W) (hg : W.grownBy w3 (Value.slice ao L.length cap).ownBlock) => mi_cells (w3 := w3) h HC.out ((hg.block q (by have := hx.below.size; omega) (fun e => hqb e.symm)).trans (hx.below.block q hp)))
  clear h hc hr h0 hz hqb
  rcases hk with k1 | k1
  · go_enter Tryd.func39, Tryd.ntmps39
    go_upto_region 7 with (go_at_call 44; refine (HWT.out _ (by repeat (first | exact Ex.refl _ | refine Ex.alloc ?_ _ | refine Ex.ext ?_ _ _ | refine Ex.drew ?_ | refine Ex.drewN ?_ _))).mono ?_; rintro e w1 ⟨rfl, l3, d3, rfl⟩)
    have q0 : q ≠ w.heap.size := by omega
    have q1 : q ≠ w.heap.size + 1 + l3.length := by omega
    have q2 : q < w.heap.size + 1 := by omega
    have q3 : q < w.heap.size + 1 + l3.length + 1 := by omega
    have q4 : w.heap.size < w.heap.size + 1 + l3.length + 1 := by omega
    have q5 : q < w.heap.size + 1 + l3.length := by omega
    go_region_law
      ((refine step_append_keep ?_ (.tmp 30) (.tmp 32) 33 33 ?_ 30 i0 _ 8 64 Tryd.underlying33 hi0 hz0 hz1 hz2 ?_ (.slice ao L.length cap) (.slice (some ⟨w.heap.size + 1 + l3.length, 0, none⟩) 1 1) L.length 1 (flat Ask.cells L) (Ask.cells x) ?_ ?_ ?_ ?_ ?_ ?_ ?_); (focus rfl); (focus rfl); (focus rfl); (focus rfl); (focus (simp [go_sem]; done)); (focus exact HRX.out _ (by repeat (first | exact Ex.refl _ | refine Ex.alloc ?_ _ | refine Ex.ext ?_ _ _ | refine Ex.drew ?_ | refine Ex.drewN ?_ _))); (focus exact (Src.block Tryd.underlying33 1 1 (cs := #[.int .u8 x.kind, .int .i64 x.client, .int .i64 x.seq, .int .i64 x.item, .int .i64 x.side, .int .i64 x.price, .int .i64 x.qty, .int .i64 x.id]) (t := 30) (fr := (0, 0)) (heap_new (by simp [go_sem])) (by simp) (by simp [Value.oneCell']))); (focus (unfold maxLen; omega)); (focus omega); intro v3 w3 h31 h32 h33 h35; have HEND := Lib.hid (mi_grown H.out HC.out x hf (by exact (by repeat (first | exact Ex.refl _ | refine Ex.alloc ?_ _ | refine Ex.ext ?_ _ _ | refine Ex.drew ?_ | refine Ex.drewN ?_ _))) h31 h32 h33); obtain ⟨f3, _, p3, c3, _⟩ := HFR.out _ w3 (by exact (by repeat (first | exact Ex.refl _ | refine Ex.alloc ?_ _ | refine Ex.ext ?_ _ _ | refine Ex.drew ?_ | refine Ex.drewN ?_ _))) h32; obtain ⟨ao3, cap3, rfl⟩ := row_form h31; clear h31 h32 h33 h35)
    all_goals go_wp2_with fail
    all_goals go_ret
    all_goals exact ⟨rfl, HEND.out⟩
  · have k0 : (x.kind == 111) = false := by simp at k1 ⊢; omega
    go_enter Tryd.func39, Tryd.ntmps39
    go_upto_region 7 with (go_at_call 44; refine (HWT.out _ (by repeat (first | exact Ex.refl _ | refine Ex.alloc ?_ _ | refine Ex.ext ?_ _ _ | refine Ex.drew ?_ | refine Ex.drewN ?_ _))).mono ?_; rintro e w1 ⟨rfl, l3, d3, rfl⟩)
    have q0 : q ≠ w.heap.size := by omega
    have q1 : q ≠ w.heap.size + 1 + l3.length := by omega
    have q2 : q < w.heap.size + 1 := by omega
    have q3 : q < w.heap.size + 1 + l3.length + 1 := by omega
    have q4 : w.heap.size < w.heap.size + 1 + l3.length + 1 := by omega
    have q5 : q < w.heap.size + 1 + l3.length := by omega
    go_region_law
      ((refine step_append_keep ?_ (.tmp 30) (.tmp 32) 33 33 ?_ 30 i0 _ 8 64 Tryd.underlying33 hi0 hz0 hz1 hz2 ?_ (.slice ao L.length cap) (.slice (some ⟨w.heap.size + 1 + l3.length, 0, none⟩) 1 1) L.length 1 (flat Ask.cells L) (Ask.cells x) ?_ ?_ ?_ ?_ ?_ ?_ ?_); (focus rfl); (focus rfl); (focus rfl); (focus rfl); (focus (simp [go_sem]; done)); (focus exact HRX.out _ (by repeat (first | exact Ex.refl _ | refine Ex.alloc ?_ _ | refine Ex.ext ?_ _ _ | refine Ex.drew ?_ | refine Ex.drewN ?_ _))); (focus exact (Src.block Tryd.underlying33 1 1 (cs := #[.int .u8 x.kind, .int .i64 x.client, .int .i64 x.seq, .int .i64 x.item, .int .i64 x.side, .int .i64 x.price, .int .i64 x.qty, .int .i64 x.id]) (t := 30) (fr := (0, 0)) (heap_new (by simp [go_sem])) (by simp) (by simp [Value.oneCell']))); (focus (unfold maxLen; omega)); (focus omega); intro v3 w3 h31 h32 h33 h35; have HEND := Lib.hid (mi_grown H.out HC.out x hf (by exact (by repeat (first | exact Ex.refl _ | refine Ex.alloc ?_ _ | refine Ex.ext ?_ _ _ | refine Ex.drew ?_ | refine Ex.drewN ?_ _))) h31 h32 h33); obtain ⟨f3, _, p3, c3, _⟩ := HFR.out _ w3 (by exact (by repeat (first | exact Ex.refl _ | refine Ex.alloc ?_ _ | refine Ex.ext ?_ _ _ | refine Ex.drew ?_ | refine Ex.drewN ?_ _))) h32; obtain ⟨ao3, cap3, rfl⟩ := row_form h31; clear h31 h32 h33 h35)
    all_goals go_wp2_with fail
    all_goals go_ret
    all_goals exact ⟨rfl, HEND.out⟩
theorem mput_any (h : MIntAt own i w q L turn) (a : Ask) (hin : InC L) (hq : ∀ c, c < 6 → (qsOf L c).length ≤ 6) :
    Calls Tryd.prog 39 #[.pointer (some ⟨q, 0, none⟩), a.val] w fun e w' => e = .returned (.int .i64 (putErr (qsOf L) a : Int)) ∧ ObjTo own i i w (fun o w' => MIntAt o i w' q (putLL L a) turn) w' := by
  have bad : ∀ n, putErr (qsOf L) a = n → n ≠ 0 → putLL L a = L := fun n e h0 => by unfold putLL; rw [if_neg (by rw [e]; exact h0)]
  by_cases hk : (a.kind != 111 && a.kind != 99) = true
  · have e : putErr (qsOf L) a = 4 := by simp only [putErr, hk, if_true]
    rw [bad 4 e (by decide), e]
    exact mput_kind h a hk
  · have hk' : (a.kind == 111) = true ∨ (a.kind == 99) = true := by
      simp at hk
      by_cases h1 : a.kind = 111
      · exact .inl (by simpa using h1)
      · exact .inr (by simpa using hk h1)
    cases hc : inR a.client 0 5
    · have e : putErr (qsOf L) a = 2 := by simp [putErr, hk, hc]
      rw [bad 2 e (by decide), e]
      exact mput_client h a hk' (by rcases inR_not.1 hc with h | h <;> omega)
    · obtain ⟨h0, h5⟩ := inR_iff.1 hc
      have hcn : a.client = ((a.client.toNat : Nat) : Int) := by omega
      have hq2 : qsOf L a.client.toNat = ofC L a.client := by unfold qsOf; rw [← hcn]
      by_cases hf : 6 ≤ (ofC L a.client).length
      · have e : putErr (qsOf L) a = 8 := by simp [putErr, hk, hc, hq2, hf]
        rw [bad 8 e (by decide), e]
        exact mput_full h a hk' ⟨h0, by omega⟩ hf
      · have e : putErr (qsOf L) a = 0 := by simp [putErr, hk, hc, hq2, hf]
        have e2 : putLL L a = L ++ [a] := by unfold putLL; rw [if_pos e]
        have hl : L.length < 36 := by
          have hin' : InC (L ++ [a]) := fun y hy => by
            rcases List.mem_append.1 hy with hy | hy
            · exact hin y hy
            · simp at hy; subst hy; omega
          have := lens_le hin' (fun c hc6 => by
            show (ofC (L ++ [a]) (c : Int)).length ≤ 6
            rw [ofC_append, ofC_one, List.length_append]
            have h1 : (ofC L (c : Int)).length ≤ 6 := hq c hc6
            by_cases ec : a.client = (c : Int)
            · rw [if_pos ec, ← ec]; simp; omega
            · rw [if_neg ec]; simpa using h1)
          simp at this; omega
        rw [e, e2]
        exact mput_ok h a hk' ⟨h0, by omega⟩ (by omega) hl
end
end Go.Proofs.YthngmmhoakegeaaDoor
