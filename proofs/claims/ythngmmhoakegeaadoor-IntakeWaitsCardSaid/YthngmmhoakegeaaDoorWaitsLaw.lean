/- The walk of IntakeWaits. -/
import Derived.Test.YthngmmhoakegeaaDoorTaken
import Derived.Test.YthngmmhoakegeaaDoorPutAny
import Derived.Test.YthngmmhoakegeaaDoorOut
import Derived.Test.YthngmmhoakegeaaDoorActs
set_option linter.unusedSimpArgs false
set_option linter.unusedVariables false
namespace Go.Proofs.YthngmmhoakegeaaDoor
open Go.RowKit

/-- The requests that the statement puts ahead. -/
def mineL (c k : Nat) : List Ask := (List.range k).map fun q : Nat => ⟨99, (c : Int), 0, 0, 0, 0, 0, 1000 + (q : Int)⟩
theorem mineL_length (c k : Nat) : (mineL c k).length = k := by simp [mineL]
theorem mineL_succ (c k : Nat) : mineL c (k + 1) = mineL c k ++ [⟨99, (c : Int), 0, 0, 0, 0, 0, 1000 + (k : Int)⟩] := by simp [mineL, List.range_succ]
theorem mineL_get {c k q : Nat} {a : Ask} (h : (mineL c k)[q]? = some a) : a.id = 1000 + (q : Int) := by
  simp only [mineL, List.getElem?_map] at h
  obtain ⟨b, hb, rfl⟩ := Option.map_eq_some_iff.1 h
  obtain ⟨h1, h2⟩ := List.getElem?_eq_some_iff.1 hb
  simp at h2
  simp [h2]
theorem mineL_client {c k : Nat} {a : Ask} (h : a ∈ mineL c k) : a.client = (c : Int) := by
  simp only [mineL, List.mem_map] at h
  obtain ⟨q, _, rfl⟩ := h
  rfl

def WaitsInv (w : World) (p c n len : Nat) (k D : Nat) (wr : World) : Prop :=
  ∃ own l turn, IntakeAt own 1 wr p l turn ∧ Cl l ∧ l c = (mineL c (n + 1)).drop (2 * D) ∧ D ≤ k ∧ k ≤ D + len ∧ (∀ b, b < w.heap.size → own b ≠ 1) ∧ w.heap.size ≤ wr.heap.size ∧ Below w.heap.size w wr
/-- Ahead of them: k requests are put. -/
def WaitsPut (w : World) (p c : Nat) (k : Nat) (wr : World) : Prop :=
  ∃ own, IntakeAt own 1 wr p (fun d => if d = c then mineL c k else []) 0 ∧ (∀ b, b < w.heap.size → own b ≠ 1) ∧ w.heap.size ≤ wr.heap.size ∧ Below w.heap.size w wr

set_option maxRecDepth 100000 in
set_option maxHeartbeats 4000000 in
theorem intakeWaits_ok (ao : Option Addr) (len cap : Nat) (l : List Act) (c n : Nat) (E : Nat → Addr) (w : World) (hE : Errs E [2, 4, 8] w) (hA : ActsAt w ao len l) (hlen : len ≤ 60) (hc : c < 6) (hn : n < 6) :
    Calls Tryd.prog 3 #[.slice ao len cap, .int .i64 (c : Int), .int .i64 (n : Int)] w fun e w' => e = .returned (.bool true) ∧ Below w.heap.size w w' := by
  obtain ⟨hL, _, hwf, hz⟩ := hA
  have HZ := Lib.hid hz
  have HL := Lib.hid hL
  have HWF := Lib.hid hwf
  have HN := Lib.hid (fun w => intakeNew (fun _ => 0) 1 w)
  have HER := Lib.hid hE
  have c0 : (0 : Int) ≤ (c : Int) := by omega
  have c6 : (c : Int) < 6 := by omega
  have n0 : (0 : Int) ≤ (n : Int) := by omega
  have n6 : (n : Int) < 6 := by omega
  have hb1 : decide ((60 : Int) < (len : Int)) = false := decide_eq_false (by omega)
  have hb2 : decide ((c : Int) < 0) = false := decide_eq_false (by omega)
  have hb3 : decide ((6 : Int) ≤ (c : Int)) = false := decide_eq_false (by omega)
  have hb4 : decide ((n : Int) < 0) = false := decide_eq_false (by omega)
  have hb5 : decide ((6 : Int) ≤ (n : Int)) = false := decide_eq_false (by omega)
  clear hz hL hwf hE
  go_enter Tryd.func3, Tryd.ntmps3
  go_wp2_with (go_at_call 15; refine (taken_any _).mono ?_; rintro e w1 ⟨rfl, l1, d1, rfl⟩)
  go_wp2_with (go_at_call 16; refine (HN.out _).mono ?_; rintro e wn ⟨rfl, hT⟩)
  have hsz : w.heap.size ≤ (ext w l1 d1).heap.size := by rw [ext_size]; omega
  obtain ⟨o1, hI1, hB1, hl1, hs1, _⟩ := hT.use (Ex.below ⟨l1, d1, rfl⟩) hsz (fun b _ => by simp)
  have hP0 : WaitsPut w (w.heap.size + l1.length) c 0 wn := by
    rw [ext_size] at hI1 hl1 hs1
    exact ⟨o1, hI1.congr (fun d _ => by simp [mineL]), fun b hb => by rw [hl1 b (by omega)]; decide, by omega, hB1⟩
  have HP0 := Lib.hid hP0
  clear hT hI1 hB1 hl1 hP0
  generalize w.heap.size + l1.length = p at *
  go_wp2_with fail
  go_loopw [9] (fun i wr => ∃ k : Nat, k ≤ n + 1 ∧ i = .int .i64 k ∧ WaitsPut w p c k wr) (fun i _ => n + 1 - (intOf i).toNat)
  case atStart => exact ⟨0, by omega, rfl, HP0.out⟩
  case round =>
    obtain ⟨k, hk, rfl, own, hI, ho, hs, hB⟩ := hrel
    by_cases hlt : k ≤ n
    · have hP := put_ok hI ⟨99, (c : Int), 0, 0, 0, 0, 0, 1000 + (k : Int)⟩ E (.inr rfl) c hc rfl (by simp [mineL_length]; omega)
      have HP := Lib.hid hP
      have HO := Lib.hid ho
      have HB := Lib.hid hB
      clear hI hP ho hB
      go_wp2_with (go_at_call 17; refine (HP.out).mono ?_; rintro e wp ⟨rfl, hT⟩)
      obtain ⟨o2, hI2, hB2, ho2, hs2, _⟩ := hT.use HB.out hs HO.out
      have hW : WaitsPut w p c (k + 1) wp := ⟨o2, hI2.congr (fun d _ => by by_cases e : d = c <;> simp [e, mineL_succ]), fun b hb => by rw [ho2 b (by omega)]; exact HO.out b hb, by omega, hB2⟩
      have HW := Lib.hid hW
      clear hT hI2 hB2 ho2 hW
      all_goals
        go_roundw
        case measure => simp [intOf]; omega
        case rel => exact ⟨k + 1, by omega, by go_num, HW.out⟩
    · have hW : WaitsInv w p c n len 0 0 wr := ⟨own, _, 0, hI, fun d hd a ha => by
        by_cases e : d = c
        · simp only [e, if_true] at ha; rw [e]; exact mineL_client ha
        · simp [e] at ha, by simp [show k = n + 1 by omega], Nat.le_refl _, by omega, ho, hs, hB⟩
      have hb6 : decide ((k : Int) ≤ (n : Int)) = false := decide_eq_false (by omega)
      have HW := Lib.hid hW
      clear hI ho hB hW
      obtain ⟨wo, rfl⟩ : ∃ wo : World, wo = wr := ⟨_, rfl⟩
      go_wp2_with fail
      go_loopw [10, 11, 12] (fun d m i wr => ∃ k D : Nat, k ≤ len + 6 ∧ i = .int .i64 k ∧ d = .int .i64 D ∧ m = .int .i64 ((min (n + 1) (2 * D) : Nat) : Int) ∧ WaitsInv w p c n len k D wr) (fun _ _ i _ => len + 6 - (intOf i).toNat)
      case atStart => exact ⟨0, 0, by omega, rfl, rfl, by simp, HW.out⟩
      case round =>
        obtain ⟨k, D, hk2, rfl, rfl, rfl, own, q, turn, hI, hcl, hq, hD1, hD2, ho, hs, hB⟩ := hrel
        by_cases hlt : k < len + 6
        · have HI := Lib.hid hI
          have HO := Lib.hid ho
          have HB := Lib.hid hB
          have HQ := Lib.hid hq
          clear hI ho hB hq
          by_cases hl : k < len
          · obtain ⟨b, off, rfl, hbs, hzz⟩ := HZ.out (by omega)
            have hzk := hzz k (by rw [HL.out]; exact hl)
            clear hzz
            have hcx : ∀ j, j < 10 → wr.cell? ⟨b, off + k * 10 + j, none⟩ = (l[k]'(by rw [HL.out]; exact hl)).cells[j]? := fun j hj => (HB.out.cell (p := ⟨b, off + k * 10 + j, none⟩) hbs).trans (hzk j hj)
            clear hzk
            generalize l[k]'(by rw [HL.out]; exact hl) = a at hcx
            have a0 := hcx 0 (by omega)
            have a1 := hcx 1 (by omega)
            have a2 := hcx 2 (by omega)
            have a3 := hcx 3 (by omega)
            have a4 := hcx 4 (by omega)
            have a5 := hcx 5 (by omega)
            have a6 := hcx 6 (by omega)
            have a7 := hcx 7 (by omega)
            have a8 := hcx 8 (by omega)
            simp only [Act.cells, List.getElem?_cons_zero, List.getElem?_cons_succ, Nat.add_zero] at a0 a1 a2 a3 a4 a5 a6 a7 a8
            clear hcx
            have HX : ∀ D', Hid (WaitsInv w p c n len k D' wr → k < len → WaitsInv w p c n len (k + 1) D' wr) := fun D' ⟨own, l, turn, h1, h2, h3, h4, h5, h6⟩ hl => ⟨own, l, turn, h1, h2, h3, by omega, by omega, h6⟩
            by_cases hput : (a.kind.toList == [112, 117, 116]) = true
            · by_cases hcc : (a.a.client != (c : Int)) = true
              · have hP := put_any HI.out a.a E (Errs.ex HER.out (Ex.of HB.out))
                have HP := Lib.hid hP
                clear hP
                go_wp2_with (go_at_call 17; refine (HP.out).mono ?_; rintro e wp ⟨rfl, hT⟩)
                obtain ⟨o2, hI2, hB2, ho2, hs2, _⟩ := hT.use HB.out hs HO.out
                have hcl2 : Cl (putTo q a.a) := by
                  unfold putTo
                  split
                  · rename_i he
                    have hr : inR a.a.client 0 5 = true := by
                      cases h : inR a.a.client 0 5
                      · unfold putErr at he
                        rw [h] at he
                        split at he <;> simp at he
                      · rfl
                    have := inR_iff.1 hr
                    exact hcl.put (by omega)
                  · exact hcl
                have hq2 : putTo q a.a c = (mineL c (n + 1)).drop (2 * D) := by
                  rw [← HQ.out]
                  unfold putTo
                  split
                  · rename_i he
                    have hne : c ≠ a.a.client.toNat := by
                      have h1 : a.a.client ≠ (c : Int) := by simpa using hcc
                      have hr : inR a.a.client 0 5 = true := by
                        cases h : inR a.a.client 0 5
                        · unfold putErr at he
                          rw [h] at he
                          split at he <;> simp at he
                        · rfl
                      have := inR_iff.1 hr
                      omega
                    simp [hne]
                  · rfl
                have hW : WaitsInv w p c n len (k + 1) D wp := ⟨o2, _, turn, hI2, hcl2, hq2, by omega, by omega, fun b hb => by rw [ho2 b (by omega)]; exact HO.out b hb, by omega, hB2⟩
                have HW := Lib.hid hW
                clear hT hI2 hB2 ho2 hW hcl2 hq2
                all_goals
                  go_roundw
                  case measure => simp [intOf]; omega
                  case rel => exact ⟨k + 1, D, by omega, by go_num, rfl, rfl, HW.out⟩
              · have hcc' : (a.a.client != (c : Int)) = false := by simpa using hcc
                have HW := Lib.hid (show WaitsInv w p c n len (k + 1) D wr from ⟨own, q, turn, HI.out, hcl, HQ.out, by omega, by omega, HO.out, hs, HB.out⟩)
                clear HX
                go_wp2_with fail
                all_goals
                  go_roundw
                  case measure => simp [intOf]; omega
                  case rel => exact ⟨k + 1, D, by omega, by go_num, rfl, rfl, HW.out⟩
            · have hput' : (a.kind.toList == [112, 117, 116]) = false := by simpa using hput
              clear HX
              have HD := Lib.hid (drain_any (j := 2) (by decide) HI.out)
              go_wp2_with fail
              refine HD.out.mono ?_
              rintro e wd ⟨v, rfl, hT⟩
              obtain ⟨o2, ⟨hI2, hR⟩, hB2, ho2, hs2, _⟩ := hT.use HB.out hs HO.out
              have hfo := filter_out6 (turn := turn) hc hcl
              generalize outOf q turn 6 = x at *
              rw [HQ.out] at hfo
              have hW : WaitsInv w p c n len (k + 1) (D + 1) wd := ⟨o2, _, _, hI2, hcl.drop, by simp only [HQ.out, List.drop_drop, Nat.mul_add], by omega, by omega, fun b hb => by rw [ho2 b (by omega)]; exact HO.out b hb, by omega, hB2⟩
              have HW := Lib.hid hW
              have HR := Lib.hid hR
              have HF := Lib.hid hfo
              have HB2 := Lib.hid hB2
              obtain ⟨xo, xcap, rfl, hxc, hxm, _⟩ := hR.form
              unfold maxLen at hxm
              obtain ⟨C, hC⟩ : ∃ C, C = min (n + 1) (2 * D) := ⟨_, rfl⟩
              rw [← hC]
              have HC := Lib.hid hC
              have hC6 : C ≤ 6 := by omega
              clear hT hI2 hB2 ho2 hW hfo hR hC HQ HI HO HB HD
              go_wp2_with fail
              go_loopw [11, 14, 15] (fun ca mi qi wr => ∃ j : Nat, j ≤ x.length ∧ qi = .int .i64 j ∧ mi = .int .i64 ((x.take j).countP (fun a => a.client == (c : Int)) : Nat) ∧ ca = .int .i64 ((C : Int) + ((x.take j).countP (fun a => a.client == (c : Int)) : Nat)) ∧ Ex wd wr) (fun _ _ qi _ => x.length - (intOf qi).toNat)
              case atStart => exact ⟨0, by omega, rfl, rfl, by simp, (by repeat (first | exact Ex.refl _ | refine Ex.alloc ?_ _ | refine Ex.ext ?_ _ _ | refine Ex.drew ?_ | refine Ex.drewN ?_ _))⟩
              case round =>
                obtain ⟨j, hj, rfl, rfl, rfl, l3, d3, rfl⟩ := hrel
                have hm2 : (x.take j).countP (fun a => a.client == (c : Int)) ≤ 2 := by
                  have h1 := countP_take_le (P := fun a : Ask => a.client == (c : Int)) (xs := x) j
                  rw [HF.out, List.length_take] at h1
                  omega
                by_cases hjl : j < x.length
                · obtain ⟨g, off2, cap2, hv, _, _, hg, hcell⟩ := HR.out.opened (by omega)
                  simp only [Value.slice.injEq] at hv
                  obtain ⟨rfl, -, rfl⟩ := hv
                  have z1 : wd.cell? ⟨g, off2 + j * 8 + 1, none⟩ = some (.int .i64 x[j].client) := by
                    have h := hcell (j * 8 + 1) (by omega)
                    rw [flat_get (N := 8) (fun _ => rfl) x j hjl 1 (by omega), ← Nat.add_assoc] at h
                    exact h
                  have z7 : wd.cell? ⟨g, off2 + j * 8 + 7, none⟩ = some (.int .i64 x[j].id) := by
                    have h := hcell (j * 8 + 7) (by omega)
                    rw [flat_get (N := 8) (fun _ => rfl) x j hjl 7 (by omega), ← Nat.add_assoc] at h
                    exact h
                  have hst := countP_succ (P := fun a : Ask => a.client == (c : Int)) hjl
                  have hgt : x[j].client = (c : Int) → x[j].id = 1000 + ((C : Int) + ((x.take j).countP (fun a => a.client == (c : Int)) : Nat)) := fun hcl => by
                    have h1 := filter_get (P := fun a : Ask => a.client == (c : Int)) hjl (by simpa using hcl)
                    rw [HF.out, List.getElem?_take] at h1
                    split at h1
                    · rw [List.getElem?_drop] at h1
                      have h2 := mineL_get h1
                      have h3 := (List.getElem?_eq_some_iff.1 h1).1
                      rw [mineL_length] at h3
                      have h4 := HC.out
                      rw [h2]
                      omega
                    · cases h1
                  generalize x[j] = a1 at *
                  generalize (x.take j).countP (fun a => a.client == (c : Int)) = m at *
                  have HST := Lib.hid hst
                  have HGT := Lib.hid hgt
                  clear hcell hst hgt
                  by_cases hac : (a1.client != (c : Int)) = true
                  · go_wp2_with fail
                    all_goals
                      go_roundw
                      case measure => simp [intOf]; omega
                      case rel =>
                        have e : (x.take (j + 1)).countP (fun a => a.client == (c : Int)) = m := by
                          rw [HST.out, if_neg (by simpa using hac)]; rfl
                        exact ⟨j + 1, by omega, by go_num, by rw [e], by rw [e], (by repeat (first | exact Ex.refl _ | refine Ex.alloc ?_ _ | refine Ex.ext ?_ _ _ | refine Ex.drew ?_ | refine Ex.drewN ?_ _))⟩
                  · have hac' : (a1.client != (c : Int)) = false := by simpa using hac
                    have hid : (a1.id != 1000 + ((C : Int) + (m : Int))) = false := by
                      have := HGT.out (by simpa using hac)
                      simp [this]
                    go_wp2_with fail
                    all_goals
                      go_roundw
                      case measure => simp [intOf]; omega
                      case rel =>
                        have e : (x.take (j + 1)).countP (fun a => a.client == (c : Int)) = m + 1 := by
                          rw [HST.out, if_pos (by simpa using hac)]
                        exact ⟨j + 1, by omega, by go_num, by rw [e]; first | done | go_num, by rw [e]; exact congrArg (Value.int .i64) (by omega), (by repeat (first | exact Ex.refl _ | refine Ex.alloc ?_ _ | refine Ex.ext ?_ _ _ | refine Ex.drew ?_ | refine Ex.drewN ?_ _))⟩
                · have hm : (x.take j).countP (fun a => a.client == (c : Int)) = min 2 (n + 1 - 2 * D) := by
                    rw [List.take_of_length_le (by omega), List.countP_eq_length_filter, HF.out, List.length_take, List.length_drop, mineL_length]
                  generalize (x.take j).countP (fun a => a.client == (c : Int)) = m at *
                  have HM := Lib.hid hm
                  clear hm
                  have hx1 : w.heap.size ≤ wd.heap.size := by omega
                  have hrel : WaitsInv w p c n len (k + 1) (D + 1) (ext wd l3 d3) := by
                    obtain ⟨o, l', t', h1, h2, h3, h4, h5, h6, h7, h8⟩ := HW.out
                    exact ⟨o, l', t', h1.exts l3 d3, h2, h3, h4, h5, h6, by rw [ext_size]; omega, Below.ext h8 h7 l3 d3⟩
                  have HREL := Lib.hid hrel
                  clear hrel
                  by_cases w1 : (2 : Int) < (n : Int) + 1 - 2 * (D : Int)
                  · have hm2' : ((m : Int) != 2) = false := by have := HM.out; simp; omega
                    go_wp2_with fail
                    all_goals
                      go_roundw
                      case measure => simp [intOf]; omega
                      case rel => exact ⟨k + 1, D + 1, by omega, by go_num, by go_num, by have := HC.out; have := HM.out; exact congrArg (Value.int .i64) (by omega), HREL.out⟩
                  · by_cases w2 : (n : Int) + 1 - 2 * (D : Int) < 0
                    · have hm2' : ((m : Int) != 0) = false := by have := HM.out; simp; omega
                      go_wp2_with fail
                      all_goals
                        go_roundw
                        case measure => simp [intOf]; omega
                        case rel => exact ⟨k + 1, D + 1, by omega, by go_num, by go_num, by have := HC.out; have := HM.out; exact congrArg (Value.int .i64) (by omega), HREL.out⟩
                    · have hm2' : ((m : Int) != (n : Int) + 1 - 2 * (D : Int)) = false := by have := HM.out; simp; omega
                      go_wp2_with fail
                      all_goals
                        go_roundw
                        case measure => simp [intOf]; omega
                        case rel => exact ⟨k + 1, D + 1, by omega, by go_num, by go_num, by have := HC.out; have := HM.out; exact congrArg (Value.int .i64) (by omega), HREL.out⟩
          · have HD := Lib.hid (drain_any (j := 2) (by decide) HI.out)
            go_wp2_with fail
            refine HD.out.mono ?_
            rintro e wd ⟨v, rfl, hT⟩
            obtain ⟨o2, ⟨hI2, hR⟩, hB2, ho2, hs2, _⟩ := hT.use HB.out hs HO.out
            have hfo := filter_out6 (turn := turn) hc hcl
            generalize outOf q turn 6 = x at *
            rw [HQ.out] at hfo
            have hW : WaitsInv w p c n len (k + 1) (D + 1) wd := ⟨o2, _, _, hI2, hcl.drop, by simp only [HQ.out, List.drop_drop, Nat.mul_add], by omega, by omega, fun b hb => by rw [ho2 b (by omega)]; exact HO.out b hb, by omega, hB2⟩
            have HW := Lib.hid hW
            have HR := Lib.hid hR
            have HF := Lib.hid hfo
            have HB2 := Lib.hid hB2
            obtain ⟨xo, xcap, rfl, hxc, hxm, _⟩ := hR.form
            unfold maxLen at hxm
            obtain ⟨C, hC⟩ : ∃ C, C = min (n + 1) (2 * D) := ⟨_, rfl⟩
            rw [← hC]
            have HC := Lib.hid hC
            have hC6 : C ≤ 6 := by omega
            clear hT hI2 hB2 ho2 hW hfo hR hC HQ HI HO HB HD
            go_wp2_with fail
            go_loopw [11, 14, 15] (fun ca mi qi wr => ∃ j : Nat, j ≤ x.length ∧ qi = .int .i64 j ∧ mi = .int .i64 ((x.take j).countP (fun a => a.client == (c : Int)) : Nat) ∧ ca = .int .i64 ((C : Int) + ((x.take j).countP (fun a => a.client == (c : Int)) : Nat)) ∧ Ex wd wr) (fun _ _ qi _ => x.length - (intOf qi).toNat)
            case atStart => exact ⟨0, by omega, rfl, rfl, by simp, (by repeat (first | exact Ex.refl _ | refine Ex.alloc ?_ _ | refine Ex.ext ?_ _ _ | refine Ex.drew ?_ | refine Ex.drewN ?_ _))⟩
            case round =>
              obtain ⟨j, hj, rfl, rfl, rfl, l3, d3, rfl⟩ := hrel
              have hm2 : (x.take j).countP (fun a => a.client == (c : Int)) ≤ 2 := by
                have h1 := countP_take_le (P := fun a : Ask => a.client == (c : Int)) (xs := x) j
                rw [HF.out, List.length_take] at h1
                omega
              by_cases hjl : j < x.length
              · obtain ⟨g, off2, cap2, hv, _, _, hg, hcell⟩ := HR.out.opened (by omega)
                simp only [Value.slice.injEq] at hv
                obtain ⟨rfl, -, rfl⟩ := hv
                have z1 : wd.cell? ⟨g, off2 + j * 8 + 1, none⟩ = some (.int .i64 x[j].client) := by
                  have h := hcell (j * 8 + 1) (by omega)
                  rw [flat_get (N := 8) (fun _ => rfl) x j hjl 1 (by omega), ← Nat.add_assoc] at h
                  exact h
                have z7 : wd.cell? ⟨g, off2 + j * 8 + 7, none⟩ = some (.int .i64 x[j].id) := by
                  have h := hcell (j * 8 + 7) (by omega)
                  rw [flat_get (N := 8) (fun _ => rfl) x j hjl 7 (by omega), ← Nat.add_assoc] at h
                  exact h
                have hst := countP_succ (P := fun a : Ask => a.client == (c : Int)) hjl
                have hgt : x[j].client = (c : Int) → x[j].id = 1000 + ((C : Int) + ((x.take j).countP (fun a => a.client == (c : Int)) : Nat)) := fun hcl => by
                  have h1 := filter_get (P := fun a : Ask => a.client == (c : Int)) hjl (by simpa using hcl)
                  rw [HF.out, List.getElem?_take] at h1
                  split at h1
                  · rw [List.getElem?_drop] at h1
                    have h2 := mineL_get h1
                    have h3 := (List.getElem?_eq_some_iff.1 h1).1
                    rw [mineL_length] at h3
                    have h4 := HC.out
                    rw [h2]
                    omega
                  · cases h1
                generalize x[j] = a1 at *
                generalize (x.take j).countP (fun a => a.client == (c : Int)) = m at *
                have HST := Lib.hid hst
                have HGT := Lib.hid hgt
                clear hcell hst hgt
                by_cases hac : (a1.client != (c : Int)) = true
                · go_wp2_with fail
                  all_goals
                    go_roundw
                    case measure => simp [intOf]; omega
                    case rel =>
                      have e : (x.take (j + 1)).countP (fun a => a.client == (c : Int)) = m := by
                        rw [HST.out, if_neg (by simpa using hac)]; rfl
                      exact ⟨j + 1, by omega, by go_num, by rw [e], by rw [e], (by repeat (first | exact Ex.refl _ | refine Ex.alloc ?_ _ | refine Ex.ext ?_ _ _ | refine Ex.drew ?_ | refine Ex.drewN ?_ _))⟩
                · have hac' : (a1.client != (c : Int)) = false := by simpa using hac
                  have hid : (a1.id != 1000 + ((C : Int) + (m : Int))) = false := by
                    have := HGT.out (by simpa using hac)
                    simp [this]
                  go_wp2_with fail
                  all_goals
                    go_roundw
                    case measure => simp [intOf]; omega
                    case rel =>
                      have e : (x.take (j + 1)).countP (fun a => a.client == (c : Int)) = m + 1 := by
                        rw [HST.out, if_pos (by simpa using hac)]
                      exact ⟨j + 1, by omega, by go_num, by rw [e]; first | done | go_num, by rw [e]; exact congrArg (Value.int .i64) (by omega), (by repeat (first | exact Ex.refl _ | refine Ex.alloc ?_ _ | refine Ex.ext ?_ _ _ | refine Ex.drew ?_ | refine Ex.drewN ?_ _))⟩
              · have hm : (x.take j).countP (fun a => a.client == (c : Int)) = min 2 (n + 1 - 2 * D) := by
                  rw [List.take_of_length_le (by omega), List.countP_eq_length_filter, HF.out, List.length_take, List.length_drop, mineL_length]
                generalize (x.take j).countP (fun a => a.client == (c : Int)) = m at *
                have HM := Lib.hid hm
                clear hm
                have hx1 : w.heap.size ≤ wd.heap.size := by omega
                have hrel : WaitsInv w p c n len (k + 1) (D + 1) (ext wd l3 d3) := by
                  obtain ⟨o, l', t', h1, h2, h3, h4, h5, h6, h7, h8⟩ := HW.out
                  exact ⟨o, l', t', h1.exts l3 d3, h2, h3, h4, h5, h6, by rw [ext_size]; omega, Below.ext h8 h7 l3 d3⟩
                have HREL := Lib.hid hrel
                clear hrel
                by_cases w1 : (2 : Int) < (n : Int) + 1 - 2 * (D : Int)
                · have hm2' : ((m : Int) != 2) = false := by have := HM.out; simp; omega
                  go_wp2_with fail
                  all_goals
                    go_roundw
                    case measure => simp [intOf]; omega
                    case rel => exact ⟨k + 1, D + 1, by omega, by go_num, by go_num, by have := HC.out; have := HM.out; exact congrArg (Value.int .i64) (by omega), HREL.out⟩
                · by_cases w2 : (n : Int) + 1 - 2 * (D : Int) < 0
                  · have hm2' : ((m : Int) != 0) = false := by have := HM.out; simp; omega
                    go_wp2_with fail
                    all_goals
                      go_roundw
                      case measure => simp [intOf]; omega
                      case rel => exact ⟨k + 1, D + 1, by omega, by go_num, by go_num, by have := HC.out; have := HM.out; exact congrArg (Value.int .i64) (by omega), HREL.out⟩
                  · have hm2' : ((m : Int) != (n : Int) + 1 - 2 * (D : Int)) = false := by have := HM.out; simp; omega
                    go_wp2_with fail
                    all_goals
                      go_roundw
                      case measure => simp [intOf]; omega
                      case rel => exact ⟨k + 1, D + 1, by omega, by go_num, by go_num, by have := HC.out; have := HM.out; exact congrArg (Value.int .i64) (by omega), HREL.out⟩
        · obtain rfl : k = len + 6 := by omega
          have hm : min (n + 1) (2 * D) = n + 1 := by omega
          have hq0 : q c = [] := by rw [hq]; exact List.drop_of_length_le (by rw [mineL_length]; omega)
          have hWt := intakeWait_in hI c hc
          rw [hq0] at hWt
          have HWt := Lib.hid hWt
          have HB := Lib.hid hB
          rw [hm]
          clear hI ho hB hq hq0 hWt hm
          go_wp2_with (go_at_call 19; refine (HWt.out).mono ?_; rintro e w5 ⟨rfl, l5, d5, rfl⟩)
          all_goals go_ret
          all_goals exact ⟨rfl, Below.ext HB.out hs _ _⟩
end Go.Proofs.YthngmmhoakegeaaDoor
