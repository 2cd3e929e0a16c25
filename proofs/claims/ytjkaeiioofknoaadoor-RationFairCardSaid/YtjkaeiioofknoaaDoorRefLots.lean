/- What the document's LotsFault, DemandOf, SupplyOf, VolumeOf and BestOf compute. -/
import Derived.Test.YtjkaeiioofknoaaDoorBest
set_option linter.unusedSimpArgs false
set_option linter.unusedVariables false
namespace Go.Proofs.YtjkaeiioofknoaaDoor
open Go.RowKit

theorem refIn_any (n lo hi : Int) (w : World) :
    Calls Tryd.prog 67 #[.int .i64 n, .int .i64 lo, .int .i64 hi] w fun e w' => e = .returned (.bool (inR n lo hi)) ∧ w = w' := by
  by_cases h : lo ≤ n
  · go_enter Tryd.func67, Tryd.ntmps67
    go_wp2
    all_goals go_ret
    all_goals exact ⟨ret_bool (by simp [inR, h]), rfl⟩
  · go_enter Tryd.func67, Tryd.ntmps67
    go_wp2
    all_goals go_ret
    all_goals exact ⟨ret_bool (by simp [inR]; omega), rfl⟩

set_option maxRecDepth 100000 in
set_option maxHeartbeats 2000000 in
theorem lotError_any (x : Lot) (w : World) :
    Calls Tryd.prog 56 #[x.val] w fun e w' => e = .returned (.int .i64 (if x.ok then 0 else 2)) ∧ Ex w w' := by
  have C1 := fun w => refIn_any x.id 1 1073741824 w
  have C2 := fun w => refIn_any x.owner 0 5 w
  have C3 := fun w => refIn_any x.side 0 1 w
  have C4 := fun w => refIn_any x.price 1 1000 w
  have C5 := fun w => refIn_any x.qty 1 1000 w
  have e : x.ok = (inR x.id 1 1073741824 && inR x.owner 0 5 && inR x.side 0 1 && inR x.price 1 1000 && inR x.qty 1 1000) := rfl
  rw [e]
  clear e
  generalize inR x.id 1 1073741824 = b1 at *
  generalize inR x.owner 0 5 = b2 at *
  generalize inR x.side 0 1 = b3 at *
  generalize inR x.price 1 1000 = b4 at *
  generalize inR x.qty 1 1000 = b5 at *
  have H1 := Lib.hid C1; have H2 := Lib.hid C2; have H3 := Lib.hid C3; have H4 := Lib.hid C4; have H5 := Lib.hid C5
  clear C1 C2 C3 C4 C5
  cases b1 <;> cases b2 <;> cases b3 <;> cases b4 <;> cases b5
  all_goals
    go_enter Tryd.func56, Tryd.ntmps56
    go_wp2_with (first
      | (go_at_call 67; (with_reducible refine (H1.out _).mono ?_); rintro e w1 ⟨rfl, rfl⟩)
      | (go_at_call 67; (with_reducible refine (H2.out _).mono ?_); rintro e w1 ⟨rfl, rfl⟩)
      | (go_at_call 67; (with_reducible refine (H3.out _).mono ?_); rintro e w1 ⟨rfl, rfl⟩)
      | (go_at_call 67; (with_reducible refine (H4.out _).mono ?_); rintro e w1 ⟨rfl, rfl⟩)
      | (go_at_call 67; (with_reducible refine (H5.out _).mono ?_); rintro e w1 ⟨rfl, rfl⟩))
    all_goals go_ret
    all_goals exact ⟨rfl, (by repeat (first | exact Ex.refl _ | refine Ex.alloc ?_ _ | refine Ex.ext ?_ _ _ | refine Ex.drew ?_ | refine Ex.drewN ?_ _))⟩

/-- What is wrong with lots: an error's number, and where. -/
def badAt (l : List Lot) : Nat → Option Nat
  | 0 => none
  | k + 1 => match badAt l k with
    | some j => some j
    | none => if codeAt l k = 0 then none else some k
theorem badAt_none (l : List Lot) : ∀ n, (∀ j, j < n → codeAt l j = 0) → badAt l n = none
  | 0, _ => rfl
  | n + 1, h => by simp [badAt, badAt_none l n fun j hj => h j (by omega), h n (by omega)]
theorem badAt_some (l : List Lot) (k : Nat) (h : ∀ j, j < k → codeAt l j = 0) (hk : codeAt l k ≠ 0) : ∀ n, k < n → badAt l n = some k
  | 0, h0 => by omega
  | n + 1, hn => by
    by_cases e : k = n
    · subst e; simp [badAt, badAt_none l k h, hk]
    · simp [badAt, badAt_some l k h hk n (by omega)]
def faultC (l : List Lot) : Nat := if 120 < l.length then 8 else match badAt l l.length with
  | none => 0
  | some k => codeAt l k
def faultA (l : List Lot) : Int := if 120 < l.length then -1 else match badAt l l.length with
  | none => -1
  | some k => k
theorem fault_full {l : List Lot} (h : 120 < l.length) : faultC l = 8 ∧ faultA l = -1 := by simp [faultC, faultA, h]
theorem fault_none {l : List Lot} (h : l.length ≤ 120) (hk : ∀ j, j < l.length → codeAt l j = 0) : faultC l = 0 ∧ faultA l = -1 := by
  simp [faultC, faultA, badAt_none l _ hk, show ¬ 120 < l.length by omega]
theorem fault_some {l : List Lot} (h : l.length ≤ 120) {k : Nat} (hlt : k < l.length) (hk : ∀ j, j < k → codeAt l j = 0) (hc : codeAt l k ≠ 0) : faultC l = codeAt l k ∧ faultA l = k := by
  simp [faultC, faultA, badAt_some l k hk hc _ hlt, show ¬ 120 < l.length by omega]

abbrev faultV (c a : Int) : Value := .agg #[.int .i64 c, .int .i64 a]
theorem bare_any (c : Int) (w : World) : Calls Tryd.prog 25 #[.int .i64 c] w fun e w' => e = .returned (faultV c (-1)) ∧ Ex w w' := by
  go_enter Tryd.func25, Tryd.ntmps25
  go_wp2
  all_goals (try simp only [Exit.inBlock, Exit.then])
  all_goals (refine bodyPost_ret (v := faultV c (-1)) ?_ rfl ⟨rfl, (by repeat (first | exact Ex.refl _ | refine Ex.alloc ?_ _ | refine Ex.ext ?_ _ _ | refine Ex.drew ?_ | refine Ex.drewN ?_ _))⟩)
  all_goals simp only [results, Tryd.results25]
  all_goals simp [go_sem, ↓IntWalk.iteOmega]
theorem fine_any (w : World) : Calls Tryd.prog 57 #[] w fun e w' => e = .returned (faultV 0 (-1)) ∧ Ex w w' := by
  go_enter Tryd.func57, Tryd.ntmps57
  go_wp2
  all_goals (try simp only [Exit.inBlock, Exit.then])
  all_goals (refine bodyPost_ret (v := faultV 0 (-1)) ?_ rfl ⟨rfl, (by repeat (first | exact Ex.refl _ | refine Ex.alloc ?_ _ | refine Ex.ext ?_ _ _ | refine Ex.drew ?_ | refine Ex.drewN ?_ _))⟩)
  all_goals simp only [results, Tryd.results57]
  all_goals simp [go_sem, ↓IntWalk.iteOmega]

/-- What an error's number comes to behind m earlier lots. -/
def eAt (l : List Lot) (x : Lot) (m : Nat) : Nat := if x.ok then (if (l.take m).any (fun y => y.id == x.id) then 7 else 0) else 2
theorem eAt_code {l : List Lot} {k : Nat} {x : Lot} (h : l[k]? = some x) : codeAt l k = eAt l x k := codeAt_at h
theorem eAt_stay {l : List Lot} {x : Lot} {m n : Nat} (h : eAt l x m ≠ 0) (hmn : m ≤ n) : eAt l x n = eAt l x m := by
  unfold eAt at *
  by_cases hok : x.ok = true
  · simp only [hok, if_true] at h ⊢
    by_cases ha : (l.take m).any (fun y => y.id == x.id) = true
    · rw [if_pos ha, if_pos]
      rw [List.any_eq_true] at ha ⊢
      obtain ⟨y, hy, hy'⟩ := ha
      exact ⟨y, (List.take_prefix_take_left hmn).subset hy, hy'⟩
    · rw [if_neg ha] at h; exact absurd rfl h
  · simp [hok]
theorem eAt_succ {l : List Lot} {x y : Lot} {m : Nat} (hy : l[m]? = some y) (h : eAt l x m = 0) : eAt l x (m + 1) = if y.id == x.id then 7 else 0 := by
  unfold eAt at *
  by_cases hok : x.ok = true
  · simp only [hok, if_true] at h ⊢
    by_cases ha : (l.take m).any (fun y => y.id == x.id) = true
    · rw [if_pos ha] at h; cases h
    · rw [Bool.not_eq_true] at ha
      rw [List.take_add_one, hy, List.any_append, ha]
      simp
  · simp [hok] at h
theorem eAt_vals (l : List Lot) (x : Lot) (m : Nat) : eAt l x m = 0 ∨ eAt l x m = 2 ∨ eAt l x m = 7 := by
  unfold eAt; split
  · split
    · exact .inr (.inr rfl)
    · exact .inl rfl
  · exact .inr (.inl rfl)

set_option maxRecDepth 100000 in
set_option maxHeartbeats 4000000 in
theorem lotsFault_any (ao : Option Addr) (len cap : Nat) (l : List Lot) (w : World) (hl : LotsAt w ao len l) :
    Calls Tryd.prog 24 #[.slice ao len cap] w fun e w' => e = .returned (faultV (faultC l) (faultA l)) ∧ Ex w w' := by
  have HLA := Lib.hid hl
  have HLEN := Lib.hid hl.1
  have hmx := hl.2.1
  clear hl
  by_cases h120 : len > 120
  · have hf := fault_full (l := l) (by rw [HLEN.out]; exact h120)
    rw [hf.1, hf.2]
    clear hf
    go_enter Tryd.func24, Tryd.ntmps24
    go_wp2_with (go_at_call 25; refine (bare_any _ _).mono ?_; rintro e w1 ⟨rfl, l1, d1, rfl⟩)
    all_goals (try simp only [Exit.inBlock, Exit.then])
    all_goals (refine bodyPost_ret (v := faultV 8 (-1)) ?_ rfl ⟨rfl, (by repeat (first | exact Ex.refl _ | refine Ex.alloc ?_ _ | refine Ex.ext ?_ _ _ | refine Ex.drew ?_ | refine Ex.drewN ?_ _))⟩)
    all_goals simp only [results, Tryd.results24]
    all_goals simp [go_sem, ↓IntWalk.iteOmega]
  · go_enter Tryd.func24, Tryd.ntmps24
    go_wp2_with fail
    go_loopw [3] (fun i wr => ∃ (k : Nat), k ≤ len ∧ i = .int .i64 k ∧ (∀ j, j < k → codeAt l j = 0) ∧ Ex (w.alloc (.cells #[.int .i64 0, .int .i64 0] 37)) wr) (fun i _ => len - (intOf i).toNat)
    case atStart => exact ⟨0, Nat.zero_le _, rfl, (fun j h => absurd h (Nat.not_lt_zero _)), Ex.refl _⟩
    case round =>
      obtain ⟨k, hk, rfl, hn, l1, d1, rfl⟩ := hrel
      have HN := Lib.hid hn
      clear hn
      by_cases hlt : k < len
      · have hkl : k < l.length := by rw [HLEN.out]; omega
        obtain ⟨b, off, rfl, hbs, hz⟩ := HLA.out.2.2.2 (by omega)
        have hzk := hz k hkl
        have ha0 : l[k]? = some (l[k]'hkl) := List.getElem?_eq_getElem hkl
        clear hz
        generalize l[k]'hkl = a at hzk ha0
        have a0 := hzk 0 (by omega)
        have a1 := hzk 1 (by omega)
        have a2 := hzk 2 (by omega)
        have a3 := hzk 3 (by omega)
        have a4 := hzk 4 (by omega)
        simp only [Lot.cells, List.getElem?_cons_zero, List.getElem?_cons_succ, Nat.add_zero] at a0 a1 a2 a3 a4
        clear hzk
        have HA0 := Lib.hid ha0
        clear ha0
        have e0 : eAt l a 0 = if a.ok then 0 else 2 := by simp [eAt]
        have HC := lotError_any a
        have ec : (((if a.ok then 0 else 2 : Nat) : Nat) : Int) = (if a.ok then 0 else 2) := by split <;> rfl
        rw [← ec, ← e0] at HC
        have HE := Lib.hid HC
        clear HC ec e0
        go_wp2_with (go_at_call 56; refine (HE.out _).mono ?_; rintro e w1 ⟨rfl, l2, d2, rfl⟩)
        go_loopw [4, 5] (fun c m wr => ∃ (n : Nat), n ≤ k ∧ m = .int .i64 n ∧ c = .int .i64 (eAt l a n : Nat) ∧ Ex (w.alloc (.cells #[.int .i64 0, .int .i64 0] 37)) wr) (fun _ m _ => k - (intOf m).toNat)
        case atStart => exact ⟨0, Nat.zero_le _, rfl, rfl, (by repeat (first | exact Ex.refl _ | refine Ex.alloc ?_ _ | refine Ex.ext ?_ _ _ | refine Ex.drew ?_ | refine Ex.drewN ?_ _))⟩
        case round =>
          obtain ⟨n, hnk, rfl, rfl, l3, d3, rfl⟩ := hrel
          by_cases hend : n < k ∧ eAt l a n = 0
          · obtain ⟨hnl, hz0⟩ := hend
            have hnl' : n < l.length := by omega
            have hyk := (HLA.out.2.2.2 (by omega))
            obtain ⟨b', off', eb, hbs', hz'⟩ := hyk
            cases eb
            have hyn := hz' n hnl' 0 (by omega)
            have hy0 : l[n]? = some (l[n]'hnl') := List.getElem?_eq_getElem hnl'
            have hs := eAt_succ hy0 hz0
            clear hz' hy0
            generalize l[n]'hnl' = y at hyn hs
            simp only [Lot.cells, List.getElem?_cons_zero, Nat.add_zero] at hyn
            have HS := Lib.hid hs
            have HZ0 := Lib.hid hz0
            clear hs
            rw [hz0]
            clear hz0
            by_cases hid : y.id = a.id
            · have HI := Lib.hid hid
              have hq : (y.id == a.id) = true := by simpa using hid
              clear hid
              go_wp2_with fail
              go_quiet (fail)
              all_goals go_wp2
              all_goals
                go_roundw
                case measure => simp [intOf]; omega
                case rel => exact ⟨n + 1, by omega, by go_num, by rw [HS.out, hq]; rfl, (by repeat (first | exact Ex.refl _ | refine Ex.alloc ?_ _ | refine Ex.ext ?_ _ _ | refine Ex.drew ?_ | refine Ex.drewN ?_ _))⟩
            · have hq : (y.id == a.id) = false := by simpa using hid
              go_wp2_with fail
              go_quiet (fail)
              all_goals go_wp2
              all_goals
                go_roundw
                case measure => simp [intOf]; omega
                case rel => exact ⟨n + 1, by omega, by go_num, by rw [HS.out, hq]; rfl, (by repeat (first | exact Ex.refl _ | refine Ex.alloc ?_ _ | refine Ex.ext ?_ _ _ | refine Ex.drew ?_ | refine Ex.drewN ?_ _))⟩
          · have hcode : codeAt l k = eAt l a n := by
              rw [eAt_code HA0.out]
              by_cases e : eAt l a n = 0
              · have : n = k := by omega
                rw [this]
              · exact eAt_stay e hnk
            have hv := eAt_vals l a n
            generalize hcv : eAt l a n = c at *
            have HCV := Lib.hid hcv
            have HCODE := Lib.hid hcode
            clear hcv hcode
            rcases hv with rfl | rfl | rfl
            · have hnk' : n = k := by omega
              go_wp2
              all_goals
                go_roundw
                case measure => simp [intOf]; omega
                case rel => exact ⟨k + 1, by omega, by go_num, fun j hj => by (by_cases e : j = k); (rw [e]; exact HCODE.out); (exact HN.out j (by omega)), (by repeat (first | exact Ex.refl _ | refine Ex.alloc ?_ _ | refine Ex.ext ?_ _ _ | refine Ex.drew ?_ | refine Ex.drewN ?_ _))⟩
            · have hf := fault_some (by rw [HLEN.out]; omega) hkl HN.out (by rw [HCODE.out]; decide)
              have HF := Lib.hid hf
              clear hf
              go_wp2
              all_goals (try simp only [Exit.inBlock, Exit.then])
              all_goals (refine bodyPost_ret (v := faultV (2 : Nat) (k : Int)) ?_ rfl ⟨by rw [HF.out.1, HF.out.2, HCODE.out], (by repeat (first | exact Ex.refl _ | refine Ex.alloc ?_ _ | refine Ex.ext ?_ _ _ | refine Ex.drew ?_ | refine Ex.drewN ?_ _))⟩)
              all_goals simp only [results, Tryd.results24]
              all_goals simp [go_sem, ↓IntWalk.iteOmega]
            · have hf := fault_some (by rw [HLEN.out]; omega) hkl HN.out (by rw [HCODE.out]; decide)
              have HF := Lib.hid hf
              clear hf
              go_wp2
              all_goals (try simp only [Exit.inBlock, Exit.then])
              all_goals (refine bodyPost_ret (v := faultV (7 : Nat) (k : Int)) ?_ rfl ⟨by rw [HF.out.1, HF.out.2, HCODE.out], (by repeat (first | exact Ex.refl _ | refine Ex.alloc ?_ _ | refine Ex.ext ?_ _ _ | refine Ex.drew ?_ | refine Ex.drewN ?_ _))⟩)
              all_goals simp only [results, Tryd.results24]
              all_goals simp [go_sem, ↓IntWalk.iteOmega]
      · have hf := fault_none (l := l) (by rw [HLEN.out]; omega) (fun j hj => HN.out j (by rw [HLEN.out] at hj; omega))
        have HF := Lib.hid hf
        clear hf
        go_wp2_with (go_at_call 57; refine (fine_any _).mono ?_; rintro e w1 ⟨rfl, l2, d2, rfl⟩)
        all_goals (try simp only [Exit.inBlock, Exit.then])
        all_goals (refine bodyPost_ret (v := faultV 0 (-1)) ?_ rfl ⟨by rw [HF.out.1, HF.out.2]; rfl, (by repeat (first | exact Ex.refl _ | refine Ex.alloc ?_ _ | refine Ex.ext ?_ _ _ | refine Ex.drew ?_ | refine Ex.drewN ?_ _))⟩)
        all_goals simp only [results, Tryd.results24]
        all_goals simp [go_sem, ↓IntWalk.iteOmega]

set_option maxRecDepth 100000 in
set_option maxHeartbeats 1000000 in
theorem demandOf_any (ao : Option Addr) (len cap : Nat) (l : List Lot) (p : Int) (w : World) (hl : LotsAt w ao len l) (hok : LotsOk l) :
    Calls Tryd.prog 28 #[.slice ao len cap, .int .i64 p] w fun e w' => e = .returned (.int .i64 (sumOf (isDem p) l)) ∧ w = w' := by
  have HLA := Lib.hid hl
  have HOK := Lib.hid hok
  have HLEN := Lib.hid hl.1
  have hmx := hl.2.1
  clear hl hok
  go_enter Tryd.func28, Tryd.ntmps28
  go_wp2_with fail
  go_loop [5, 6] (fun n i => ∃ (k : Nat), k ≤ len ∧ i = .int .i64 k ∧ n = .int .i64 (sumOf (isDem p) (l.take k))) (fun _ i => len - (intOf i).toNat)
  case atStart => exact ⟨0, Nat.zero_le _, rfl, (by simp [sumOf])⟩
  case round =>
    obtain ⟨k, hk, rfl, rfl⟩ := hrel
    by_cases hlt : k < len
    · have hkl : k < l.length := by rw [HLEN.out]; omega
      obtain ⟨b, off, rfl, hbs, hz⟩ := HLA.out.2.2.2 (by omega)
      have hzk := hz k hkl
      have ha0 : l[k]? = some (l[k]'hkl) := List.getElem?_eq_getElem hkl
      clear hz
      generalize l[k]'hkl = a at hzk ha0
      have a0 := hzk 0 (by omega)
      have a1 := hzk 1 (by omega)
      have a2 := hzk 2 (by omega)
      have a3 := hzk 3 (by omega)
      have a4 := hzk 4 (by omega)
      simp only [Lot.cells, List.getElem?_cons_zero, List.getElem?_cons_succ, Nat.add_zero] at a0 a1 a2 a3 a4
      clear hzk
      have hstep := sumOf_step (isDem p) ha0
      obtain ⟨hb0, hb1⟩ := HOK.out.sum_bounds (isDem p) k
      obtain ⟨hq0, hq1⟩ := HOK.out.qty ha0
      have HS := Lib.hid hstep
      clear hstep ha0
      generalize sumOf (isDem p) (l.take k) = n at *
      cases h1 : (a.side == 0)
      · have htk : isDem p a = false := by simp only [isDem, *, Bool.false_and, Bool.true_and, Bool.and_true, Bool.and_false] <;> (first | done | rfl | (simp; done) | (simp; omega))
        have HTK := Lib.hid htk
        clear htk
        go_wp2
        all_goals
          go_round
          case measure => simp [intOf]; omega
          case rel => exact ⟨k + 1, by omega, by go_num, by rw [HS.out, HTK.out]; first | rfl | (simp; done)⟩
      by_cases h2 : a.price ≥ p
      · have htk : isDem p a = true := by simp only [isDem, *, Bool.false_and, Bool.true_and, Bool.and_true, Bool.and_false] <;> (first | done | rfl | (simp; done) | (simp; omega))
        have HTK := Lib.hid htk
        clear htk
        go_wp2
        all_goals
          go_round
          case measure => simp [intOf]; omega
          case rel => exact ⟨k + 1, by omega, by go_num, by rw [HS.out, HTK.out]; first | rfl | (simp; done)⟩
      · have htk : isDem p a = false := by simp only [isDem, *, Bool.false_and, Bool.true_and, Bool.and_true, Bool.and_false] <;> (first | done | rfl | (simp; done) | (simp; omega))
        have HTK := Lib.hid htk
        clear htk
        go_wp2
        all_goals
          go_round
          case measure => simp [intOf]; omega
          case rel => exact ⟨k + 1, by omega, by go_num, by rw [HS.out, HTK.out]; first | rfl | (simp; done)⟩
    · go_wp2
      go_ret
      exact ⟨ret_int (by rw [List.take_of_length_le (by have := HLEN.out; omega)]), rfl⟩
set_option maxRecDepth 100000 in
set_option maxHeartbeats 1000000 in
theorem supplyOf_any (ao : Option Addr) (len cap : Nat) (l : List Lot) (p : Int) (w : World) (hl : LotsAt w ao len l) (hok : LotsOk l) :
    Calls Tryd.prog 29 #[.slice ao len cap, .int .i64 p] w fun e w' => e = .returned (.int .i64 (sumOf (isSup p) l)) ∧ w = w' := by
  have HLA := Lib.hid hl
  have HOK := Lib.hid hok
  have HLEN := Lib.hid hl.1
  have hmx := hl.2.1
  clear hl hok
  go_enter Tryd.func29, Tryd.ntmps29
  go_wp2_with fail
  go_loop [5, 6] (fun n i => ∃ (k : Nat), k ≤ len ∧ i = .int .i64 k ∧ n = .int .i64 (sumOf (isSup p) (l.take k))) (fun _ i => len - (intOf i).toNat)
  case atStart => exact ⟨0, Nat.zero_le _, rfl, (by simp [sumOf])⟩
  case round =>
    obtain ⟨k, hk, rfl, rfl⟩ := hrel
    by_cases hlt : k < len
    · have hkl : k < l.length := by rw [HLEN.out]; omega
      obtain ⟨b, off, rfl, hbs, hz⟩ := HLA.out.2.2.2 (by omega)
      have hzk := hz k hkl
      have ha0 : l[k]? = some (l[k]'hkl) := List.getElem?_eq_getElem hkl
      clear hz
      generalize l[k]'hkl = a at hzk ha0
      have a0 := hzk 0 (by omega)
      have a1 := hzk 1 (by omega)
      have a2 := hzk 2 (by omega)
      have a3 := hzk 3 (by omega)
      have a4 := hzk 4 (by omega)
      simp only [Lot.cells, List.getElem?_cons_zero, List.getElem?_cons_succ, Nat.add_zero] at a0 a1 a2 a3 a4
      clear hzk
      have hstep := sumOf_step (isSup p) ha0
      obtain ⟨hb0, hb1⟩ := HOK.out.sum_bounds (isSup p) k
      obtain ⟨hq0, hq1⟩ := HOK.out.qty ha0
      have HS := Lib.hid hstep
      clear hstep ha0
      generalize sumOf (isSup p) (l.take k) = n at *
      cases h1 : (a.side == 1)
      · have htk : isSup p a = false := by simp only [isSup, *, Bool.false_and, Bool.true_and, Bool.and_true, Bool.and_false] <;> (first | done | rfl | (simp; done) | (simp; omega))
        have HTK := Lib.hid htk
        clear htk
        go_wp2
        all_goals
          go_round
          case measure => simp [intOf]; omega
          case rel => exact ⟨k + 1, by omega, by go_num, by rw [HS.out, HTK.out]; first | rfl | (simp; done)⟩
      by_cases h2 : a.price ≤ p
      · have htk : isSup p a = true := by simp only [isSup, *, Bool.false_and, Bool.true_and, Bool.and_true, Bool.and_false] <;> (first | done | rfl | (simp; done) | (simp; omega))
        have HTK := Lib.hid htk
        clear htk
        go_wp2
        all_goals
          go_round
          case measure => simp [intOf]; omega
          case rel => exact ⟨k + 1, by omega, by go_num, by rw [HS.out, HTK.out]; first | rfl | (simp; done)⟩
      · have htk : isSup p a = false := by simp only [isSup, *, Bool.false_and, Bool.true_and, Bool.and_true, Bool.and_false] <;> (first | done | rfl | (simp; done) | (simp; omega))
        have HTK := Lib.hid htk
        clear htk
        go_wp2
        all_goals
          go_round
          case measure => simp [intOf]; omega
          case rel => exact ⟨k + 1, by omega, by go_num, by rw [HS.out, HTK.out]; first | rfl | (simp; done)⟩
    · go_wp2
      go_ret
      exact ⟨ret_int (by rw [List.take_of_length_le (by have := HLEN.out; omega)]), rfl⟩
set_option maxRecDepth 100000 in
theorem volumeOf_any (ao : Option Addr) (len cap : Nat) (l : List Lot) (p : Int) (w : World) (hl : LotsAt w ao len l) (hok : LotsOk l) :
    Calls Tryd.prog 43 #[.slice ao len cap, .int .i64 p] w fun e w' => e = .returned (.int .i64 (min (sumOf (isDem p) l) (sumOf (isSup p) l))) ∧ w = w' := by
  have H1 := Lib.hid (fun w hl => demandOf_any ao len cap l p w hl hok)
  have H2 := Lib.hid (fun w hl => supplyOf_any ao len cap l p w hl hok)
  have HLA := Lib.hid hl
  clear hl
  generalize sumOf (isDem p) l = d at *
  generalize sumOf (isSup p) l = s at *
  by_cases h : s < d
  all_goals
    go_enter Tryd.func43, Tryd.ntmps43
    go_wp2_with (first
      | (go_at_call 28; refine (H1.out _ HLA.out).mono ?_; rintro e w1 ⟨rfl, rfl⟩)
      | (go_at_call 29; refine (H2.out _ HLA.out).mono ?_; rintro e w1 ⟨rfl, rfl⟩))
    all_goals go_ret
    all_goals exact ⟨ret_int (by omega), rfl⟩
end Go.Proofs.YtjkaeiioofknoaaDoor
