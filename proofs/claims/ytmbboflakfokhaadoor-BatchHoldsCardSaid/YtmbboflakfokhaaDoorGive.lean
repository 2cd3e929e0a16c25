import Derived.Test.YtmbboflakfokhaaDoorJ5
/- What Give of package purse computes. -/
set_option linter.unusedSimpArgs false
set_option linter.unusedVariables false
namespace Go.Proofs.YtmbboflakfokhaaDoor
open Go.RowKit

/-- Why nothing is given (0: it is). -/
def giveE (P : Pu) (n cash : Int) (s : Nat → Int) : Nat :=
  if inR n 0 5 && decide (0 ≤ cash) then
    (if 0 ≤ s 0 ∧ 0 ≤ s 1 ∧ 0 ≤ s 2 then
      (if 1099511627776 - P n.toNat 0 < cash then 8
       else if 1073741824 - P n.toNat 2 < s 0 ∨ 1073741824 - P n.toNat 3 < s 1 ∨ 1073741824 - P n.toNat 4 < s 2 then 8 else 0)
     else 2)
  else 2
/-- What a client has, with cash and stock more. -/
def Pu.add (P : Pu) (c : Nat) (cash : Int) (s : Nat → Int) : Pu := fun d j => if d = c then (if j = 0 then P c 0 + cash else if j = 2 then P c 2 + s 0 else if j = 3 then P c 3 + s 1 else if j = 4 then P c 4 + s 2 else P c j) else P d j
def giveP (P : Pu) (n cash : Int) (s : Nat → Int) : Pu := if giveE P n cash s = 0 then P.add n.toNat cash s else P
abbrev stockV (s : Nat → Int) : Value := .agg #[.int .i64 (s 0), .int .i64 (s 1), .int .i64 (s 2)]

section
variable {own : Nat → Nat} {i : Nat} {w : World} {p : Nat} {P : Pu}
theorem PurseAt.setAll (h : PurseAt own i w p P) {c : Nat} (hc : c < 6) (v : Nat → Int) (hv : PInv (fun d j => if d = c then v j else P d j)) :
    PurseAt own i ((((((((w.setCell ⟨p, c * 8, none⟩ (.int .i64 (v 0))).setCell ⟨p, c * 8 + 1, none⟩ (.int .i64 (v 1))).setCell ⟨p, c * 8 + 2, none⟩ (.int .i64 (v 2))).setCell ⟨p, c * 8 + 3, none⟩ (.int .i64 (v 3))).setCell ⟨p, c * 8 + 4, none⟩ (.int .i64 (v 4))).setCell ⟨p, c * 8 + 5, none⟩ (.int .i64 (v 5))).setCell ⟨p, c * 8 + 6, none⟩ (.int .i64 (v 6))).setCell ⟨p, c * 8 + 7, none⟩ (.int .i64 (v 7))) p (fun d j => if d = c then v j else P d j) := by
  obtain ⟨h1, h2, t, h3⟩ := h
  refine ⟨h1, hv, t, ((((((((h3.set (c * 8) _).set (c * 8 + 1) _).set (c * 8 + 2) _).set (c * 8 + 3) _).set (c * 8 + 4) _).set (c * 8 + 5) _).set (c * 8 + 6) _).set (c * 8 + 7) _).congr fun k hk => ?_⟩
  by_cases e : k / 8 = c
  · have hk8 : k = c * 8 + k % 8 := by omega
    have : k % 8 = 0 ∨ k % 8 = 1 ∨ k % 8 = 2 ∨ k % 8 = 3 ∨ k % 8 = 4 ∨ k % 8 = 5 ∨ k % 8 = 6 ∨ k % 8 = 7 := by omega
    simp only [e, if_true]
    rcases this with e2 | e2 | e2 | e2 | e2 | e2 | e2 | e2 <;> rw [e2] at hk8 ⊢ <;> subst hk8 <;> simp
  · simp only [e, if_false]
    rw [if_neg (by omega), if_neg (by omega), if_neg (by omega), if_neg (by omega), if_neg (by omega), if_neg (by omega), if_neg (by omega), if_neg (by omega)]
theorem PurseAt.toLab {w' : World} (h : PurseAt own i w' p P) : PurseAt (lab own w.heap.size (w'.heap.size - w.heap.size) i) i w' p P := h.relabel fun n hn e => by
  unfold lab
  split
  · exact e
  · split
    · rfl
    · omega
theorem add_inv (h : PInv P) {c : Nat} {cash : Int} {s : Nat → Int} (hc : 0 ≤ cash) (h0 : 0 ≤ s 0) (h1 : 0 ≤ s 1) (h2 : 0 ≤ s 2) (k : cash ≤ 1099511627776 - P c 0) (k0 : s 0 ≤ 1073741824 - P c 2) (k1 : s 1 ≤ 1073741824 - P c 3) (k2 : s 2 ≤ 1073741824 - P c 4) : PInv (P.add c cash s) := fun d hd => by
  obtain ⟨a1, a2, a3, a4⟩ := h d hd
  have b0 := a4 0 (by omega)
  have b1 := a4 1 (by omega)
  have b2 := a4 2 (by omega)
  simp only [Nat.reduceAdd] at b0 b1 b2
  by_cases e : d = c
  · subst e
    refine ⟨by simp [Pu.add]; omega, by simp [Pu.add]; omega, by simp [Pu.add]; omega, fun i hi => ?_⟩
    have : i = 0 ∨ i = 1 ∨ i = 2 := by omega
    rcases this with rfl | rfl | rfl <;> simp [Pu.add] <;> omega
  · simp only [Pu.add, e, if_false]
    exact ⟨a1, a2, a3, a4⟩
theorem give_end {wr : World} (h : PurseAt own i w p P) (hP : PurseAt own i wr p P) (hB : Below w.heap.size w wr) {c : Nat} (hc : c < 6) (cash : Int) (s : Nat → Int) (h00 : 0 ≤ cash) (h0 : 0 ≤ s 0) (h1 : 0 ≤ s 1) (h2 : 0 ≤ s 2) (k : cash ≤ 1099511627776 - P c 0) (k0 : s 0 ≤ 1073741824 - P c 2) (k1 : s 1 ≤ 1073741824 - P c 3) (k2 : s 2 ≤ 1073741824 - P c 4) :
    ObjTo own i i w (fun o w' => PurseAt o i w' p (P.add c cash s)) ((((((((wr.setCell ⟨p, c * 8, none⟩ (.int .i64 (P c 0 + cash))).setCell ⟨p, c * 8 + 1, none⟩ (.int .i64 (P c 1))).setCell ⟨p, c * 8 + 2, none⟩ (.int .i64 (P c 2 + s 0))).setCell ⟨p, c * 8 + 3, none⟩ (.int .i64 (P c 3 + s 1))).setCell ⟨p, c * 8 + 4, none⟩ (.int .i64 (P c 4 + s 2))).setCell ⟨p, c * 8 + 5, none⟩ (.int .i64 (P c 5))).setCell ⟨p, c * 8 + 6, none⟩ (.int .i64 (P c 6))).setCell ⟨p, c * 8 + 7, none⟩ (.int .i64 (P c 7))).drew := by
  have hi := add_inv h.2.1 (c := c) h00 h0 h1 h2 k k0 k1 k2
  have e : (fun d j => if d = c then P.add c cash s c j else P d j) = P.add c cash s := by
    funext d j
    by_cases e : d = c
    · simp [e]
    · simp [e, Pu.add]
  have hs := hP.setAll hc (fun j => P.add c cash s c j) (by rw [e]; exact hi)
  rw [e] at hs
  simp [Pu.add] at hs
  refine ObjTo.of ?_ (PurseAt.toLab (hs.later (Ex.drew (Ex.refl _))))
  refine Kp.drew ?_
  have hm := h.1
  have h7 : ∀ q : Addr, q.block = p → (q.block < w.heap.size → own q.block / 1 = i) := fun q hq _ => by rw [hq, Nat.div_one]; exact hm
  exact ((((((((Kp.of_below hB).setCell (h7 _ rfl) _).setCell (h7 _ rfl) _).setCell (h7 _ rfl) _).setCell (h7 _ rfl) _).setCell (h7 _ rfl) _).setCell (h7 _ rfl) _).setCell (h7 _ rfl) _).setCell (h7 _ rfl) _
set_option maxRecDepth 100000 in
theorem give_client (h : PurseAt own i w p P) (n cash : Int) (s : Nat → Int) (E : Nat → Addr) (hE : Errs E [2, 8] w) (hc : (inR n 0 5 && decide (0 ≤ cash)) = false) :
    Calls Tryd.prog 28 #[.pointer (some ⟨p, 0, none⟩), .int .i64 n, .int .i64 cash, stockV s] w fun e w' => e = .returned (errV E 2) ∧ ObjTo own i i w (fun o w' => PurseAt o i w' p P) w' := by
  have e2 : w.cell? ⟨0, 0, none⟩ = some (.iface 160 (.pointer (some (E 2)))) := hE 2 (by decide)
  have b2 : 0 < w.heap.size := lt_of_cell e2
  have H := Lib.hid h
  clear h
  have HC := Lib.hid (pclient_any n)
  rw [errV_pos E 2 (by decide)]
  clear hE
  cases hn : inR n 0 5
  · rw [hn] at HC
    clear hn hc
    go_enter Tryd.func28, Tryd.ntmps28
    go_wp2_with (go_at_call 43; refine (HC.out _).mono ?_; rintro e w1 ⟨rfl, l1, d1, rfl⟩)
    all_goals go_ret
    all_goals exact ⟨rfl, ObjTo.of_ex (by repeat (first | exact Ex.refl _ | refine Ex.alloc ?_ _ | refine Ex.ext ?_ _ _ | refine Ex.drew ?_ | refine Ex.drewN ?_ _)) ((H.out.relabel (fun n hn e => by rw [lab_lt hn]; exact e)).later (by repeat (first | exact Ex.refl _ | refine Ex.alloc ?_ _ | refine Ex.ext ?_ _ _ | refine Ex.drew ?_ | refine Ex.drewN ?_ _)))⟩
  · rw [hn] at HC hc
    have hcash : cash < 0 := by simpa using hc
    clear hn hc
    go_enter Tryd.func28, Tryd.ntmps28
    go_wp2_with (go_at_call 43; refine (HC.out _).mono ?_; rintro e w1 ⟨rfl, l1, d1, rfl⟩)
    all_goals go_ret
    all_goals exact ⟨rfl, ObjTo.of_ex (by repeat (first | exact Ex.refl _ | refine Ex.alloc ?_ _ | refine Ex.ext ?_ _ _ | refine Ex.drew ?_ | refine Ex.drewN ?_ _)) ((H.out.relabel (fun n hn e => by rw [lab_lt hn]; exact e)).later (by repeat (first | exact Ex.refl _ | refine Ex.alloc ?_ _ | refine Ex.ext ?_ _ _ | refine Ex.drew ?_ | refine Ex.drewN ?_ _)))⟩

set_option maxRecDepth 100000 in
set_option maxHeartbeats 2000000 in
theorem give_in (h : PurseAt own i w p P) (c : Nat) (hc : c < 6) (cash : Int) (hcash : 0 ≤ cash) (s : Nat → Int) (E : Nat → Addr) (hE : Errs E [2, 8] w) :
    Calls Tryd.prog 28 #[.pointer (some ⟨p, 0, none⟩), .int .i64 (c : Int), .int .i64 cash, stockV s] w fun e w' => e = .returned (errV E (giveE P (c : Int) cash s)) ∧ ObjTo own i i w (fun o w' => PurseAt o i w' p (giveP P (c : Int) cash s)) w' := by
  have e2 : w.cell? ⟨0, 0, none⟩ = some (.iface 160 (.pointer (some (E 2)))) := hE 2 (by decide)
  have b2 : 0 < w.heap.size := lt_of_cell e2
  have e8 : w.cell? ⟨2, 0, none⟩ = some (.iface 160 (.pointer (some (E 8)))) := hE 8 (by decide)
  have b8 : 2 < w.heap.size := lt_of_cell e8
  obtain ⟨v1, v2, v3, v4⟩ := h.2.1 c hc
  have v40 := v4 0 (by omega)
  have v41 := v4 1 (by omega)
  have v42 := v4 2 (by omega)
  simp only [Nat.reduceAdd] at v40 v41 v42
  have q0 := h.cell hc (j := 0) (by omega)
  have q1 := h.cell hc (j := 1) (by omega)
  have q2 := h.cell hc (j := 2) (by omega)
  have q3 := h.cell hc (j := 3) (by omega)
  have q4 := h.cell hc (j := 4) (by omega)
  have q5 := h.cell hc (j := 5) (by omega)
  have q6 := h.cell hc (j := 6) (by omega)
  have q7 := h.cell hc (j := 7) (by omega)
  simp only [Nat.add_zero] at q0
  have hp := h.lt
  have HC := Lib.hid (pclient_any (c : Int))
  rw [show inR (c : Int) 0 5 = true from inR_iff.2 (by omega)] at HC
  have H := Lib.hid h
  have c0 : (0 : Int) ≤ (c : Int) := by omega
  have c6 : (c : Int) < 6 := by omega
  clear h v4 hE
  have ix0 : ∀ w, (Instr.index 41 (.agg #[.int .i64 (s 0), .int .i64 (s 1), .int .i64 (s 2)]) (.int .i64 0)).run Tryd.prog w = .ok (.int .i64 (s 0)) w := fun _ => by kernel_rfl
  have ix1 : ∀ w, (Instr.index 41 (.agg #[.int .i64 (s 0), .int .i64 (s 1), .int .i64 (s 2)]) (.int .i64 1)).run Tryd.prog w = .ok (.int .i64 (s 1)) w := fun _ => by kernel_rfl
  have ix2 : ∀ w, (Instr.index 41 (.agg #[.int .i64 (s 0), .int .i64 (s 1), .int .i64 (s 2)]) (.int .i64 2)).run Tryd.prog w = .ok (.int .i64 (s 2)) w := fun _ => by kernel_rfl
  have HX : Hid (giveE P (c : Int) cash s = if 0 ≤ s 0 ∧ 0 ≤ s 1 ∧ 0 ≤ s 2 then (if 1099511627776 - P c 0 < cash then 8 else if 1073741824 - P c 2 < s 0 ∨ 1073741824 - P c 3 < s 1 ∨ 1073741824 - P c 4 < s 2 then 8 else 0) else 2) := by
    unfold giveE
    rw [show inR (c : Int) 0 5 = true from inR_iff.2 (by omega), decide_eq_true hcash, Bool.true_and, if_pos rfl, Int.toNat_natCast]
    rfl
  have HY : Hid (giveE P (c : Int) cash s ≠ 0 → giveP P (c : Int) cash s = P) := fun he => by unfold giveP; rw [if_neg he]
  go_enter Tryd.func28, Tryd.ntmps28
  go_wp2_with (go_at_call 43; refine (HC.out _).mono ?_; rintro e w1 ⟨rfl, l1, d1, rfl⟩)
  go_loop [23] (fun ik => ∃ k : Nat, k ≤ 3 ∧ ik = .int .i64 k ∧ ∀ j, j < k → 0 ≤ s j) (fun ik => 3 - (intOf ik).toNat)
  case atStart => exact ⟨0, by omega, rfl, fun j hj => by omega⟩
  case round =>
    obtain ⟨k, hk, rfl, hneg⟩ := hrel
    by_cases hlt : k < 3
    · have : k = 0 ∨ k = 1 ∨ k = 2 := by omega
      rcases this with rfl | rfl | rfl
      · by_cases hs : s 0 < 0
        · have e1 : giveE P (c : Int) cash s = 2 := by rw [HX.out, if_neg (by omega)]
          have HE1 := Lib.hid e1
          clear e1
          go_wp2
          all_goals go_ret
          all_goals refine ⟨by rw [HE1.out, errV_pos _ _ (by decide)]; rfl, ?_⟩
          all_goals rw [HY.out (by rw [HE1.out]; decide)]
          all_goals exact ObjTo.of_ex (by repeat (first | exact Ex.refl _ | refine Ex.alloc ?_ _ | refine Ex.ext ?_ _ _ | refine Ex.drew ?_ | refine Ex.drewN ?_ _)) ((H.out.relabel (fun n hn e => by rw [lab_lt hn]; exact e)).later (by repeat (first | exact Ex.refl _ | refine Ex.alloc ?_ _ | refine Ex.ext ?_ _ _ | refine Ex.drew ?_ | refine Ex.drewN ?_ _)))
        · go_wp2
          all_goals
            go_round
            case rel => exact ⟨1, by omega, by go_num, fun j hj => by obtain rfl : j = 0 := (by omega); omega⟩
            case measure => simp [intOf]
      · by_cases hs : s 1 < 0
        · have e1 : giveE P (c : Int) cash s = 2 := by rw [HX.out, if_neg (by omega)]
          have HE1 := Lib.hid e1
          clear e1
          go_wp2
          all_goals go_ret
          all_goals refine ⟨by rw [HE1.out, errV_pos _ _ (by decide)]; rfl, ?_⟩
          all_goals rw [HY.out (by rw [HE1.out]; decide)]
          all_goals exact ObjTo.of_ex (by repeat (first | exact Ex.refl _ | refine Ex.alloc ?_ _ | refine Ex.ext ?_ _ _ | refine Ex.drew ?_ | refine Ex.drewN ?_ _)) ((H.out.relabel (fun n hn e => by rw [lab_lt hn]; exact e)).later (by repeat (first | exact Ex.refl _ | refine Ex.alloc ?_ _ | refine Ex.ext ?_ _ _ | refine Ex.drew ?_ | refine Ex.drewN ?_ _)))
        · go_wp2
          all_goals
            go_round
            case rel => exact ⟨2, by omega, by go_num, fun j hj => by have : j = 0 ∨ j = 1 := (by omega); rcases this with rfl | rfl; (exact hneg 0 (by omega)); omega⟩
            case measure => simp [intOf]
      · by_cases hs : s 2 < 0
        · have e1 : giveE P (c : Int) cash s = 2 := by rw [HX.out, if_neg (by omega)]
          have HE1 := Lib.hid e1
          clear e1
          go_wp2
          all_goals go_ret
          all_goals refine ⟨by rw [HE1.out, errV_pos _ _ (by decide)]; rfl, ?_⟩
          all_goals rw [HY.out (by rw [HE1.out]; decide)]
          all_goals exact ObjTo.of_ex (by repeat (first | exact Ex.refl _ | refine Ex.alloc ?_ _ | refine Ex.ext ?_ _ _ | refine Ex.drew ?_ | refine Ex.drewN ?_ _)) ((H.out.relabel (fun n hn e => by rw [lab_lt hn]; exact e)).later (by repeat (first | exact Ex.refl _ | refine Ex.alloc ?_ _ | refine Ex.ext ?_ _ _ | refine Ex.drew ?_ | refine Ex.drewN ?_ _)))
        · go_wp2
          all_goals
            go_round
            case rel => exact ⟨3, by omega, by go_num, fun j hj => by have : j = 0 ∨ j = 1 ∨ j = 2 := (by omega); rcases this with rfl | rfl | rfl; (exact hneg 0 (by omega)); (exact hneg 1 (by omega)); omega⟩
            case measure => simp [intOf]
    · have s0 := hneg 0 (by omega)
      have s1 := hneg 1 (by omega)
      have s2 := hneg 2 (by omega)
      clear hneg
      by_cases hfull : 1099511627776 - P c 0 < cash
      · have e1 : giveE P (c : Int) cash s = 8 := by rw [HX.out, if_pos ⟨s0, s1, s2⟩, if_pos hfull]
        have HE1 := Lib.hid e1
        clear e1
        go_wp2
        all_goals go_ret
        all_goals refine ⟨by rw [HE1.out, errV_pos _ _ (by decide)]; rfl, ?_⟩
        all_goals rw [HY.out (by rw [HE1.out]; decide)]
        all_goals exact ObjTo.of_ex (by repeat (first | exact Ex.refl _ | refine Ex.alloc ?_ _ | refine Ex.ext ?_ _ _ | refine Ex.drew ?_ | refine Ex.drewN ?_ _)) ((H.out.relabel (fun n hn e => by rw [lab_lt hn]; exact e)).later (by repeat (first | exact Ex.refl _ | refine Ex.alloc ?_ _ | refine Ex.ext ?_ _ _ | refine Ex.drew ?_ | refine Ex.drewN ?_ _)))
      · have hk3 : decide ((k : Int) < 3) = false := decide_eq_false (by omega)
        have hcb : decide (cash < 0) = false := decide_eq_false (by omega)
        have hw : IntKind.i64.wrap (P c 0 + cash) = P c 0 + cash := IntWalk.i64_in _ (by omega)
        go_wp2
        go_loopw [48] (fun jk wr => ∃ m : Nat, m ≤ 3 ∧ jk = .int .i64 m ∧ (0 < m → s 0 ≤ 1073741824 - P c 2) ∧ (1 < m → s 1 ≤ 1073741824 - P c 3) ∧ (2 < m → s 2 ≤ 1073741824 - P c 4) ∧
            wr.cell? ⟨w.heap.size + 1 + l1.length, 0, none⟩ = some (.int .i64 (P c 0 + cash)) ∧ wr.cell? ⟨w.heap.size + 1 + l1.length, 1, none⟩ = some (.int .i64 (P c 1)) ∧ wr.cell? ⟨w.heap.size + 1 + l1.length, 2, none⟩ = some (.int .i64 (if 0 < m then P c 2 + s 0 else P c 2)) ∧ wr.cell? ⟨w.heap.size + 1 + l1.length, 3, none⟩ = some (.int .i64 (if 1 < m then P c 3 + s 1 else P c 3)) ∧ wr.cell? ⟨w.heap.size + 1 + l1.length, 4, none⟩ = some (.int .i64 (if 2 < m then P c 4 + s 2 else P c 4)) ∧
            wr.cell? ⟨w.heap.size + 1 + l1.length, 5, none⟩ = some (.int .i64 (P c 5)) ∧ wr.cell? ⟨w.heap.size + 1 + l1.length, 6, none⟩ = some (.int .i64 (P c 6)) ∧ wr.cell? ⟨w.heap.size + 1 + l1.length, 7, none⟩ = some (.int .i64 (P c 7)) ∧
            wr.frozen? ⟨w.heap.size + 1 + l1.length, 2, none⟩ = false ∧ wr.frozen? ⟨w.heap.size + 1 + l1.length, 3, none⟩ = false ∧ wr.frozen? ⟨w.heap.size + 1 + l1.length, 4, none⟩ = false ∧ Below w.heap.size w wr) (fun jk _ => 3 - (intOf jk).toNat)
        case atStart =>
          refine ⟨0, by omega, rfl, (fun h => absurd h (by omega)), (fun h => absurd h (by omega)), (fun h => absurd h (by omega)), ?_, ?_, ?_, ?_, ?_, ?_, ?_, ?_, ?_, ?_, ?_, ?_⟩
          all_goals first
            | (simp [go_sem, ↓IntWalk.iteOmega]; done)
            | exact Ex.below (by repeat (first | exact Ex.refl _ | refine Ex.alloc ?_ _ | refine Ex.ext ?_ _ _ | refine Ex.drew ?_ | refine Ex.drewN ?_ _))
        case round =>
          obtain ⟨m, hm, rfl, e0, e1, e2, z0, z1, z2, z3, z4, z5, z6, z7, f2, f3, f4, hB⟩ := hrel
          by_cases hmt : m < 3
          · have : m = 0 ∨ m = 1 ∨ m = 2 := by omega
            have HB := Lib.hid hB
            have hlt := lt_of_cell z0
            rcases this with rfl | rfl | rfl
            · simp at z2 z3 z4
              by_cases hs : 1073741824 - P c 2 < s 0
              · have e1 : giveE P (c : Int) cash s = 8 := by rw [HX.out, if_pos ⟨s0, s1, s2⟩, if_neg (by omega), if_pos (by omega)]
                have HE1 := Lib.hid e1
                have e8' : wr.cell? ⟨2, 0, none⟩ = _ := (HB.out.cell (p := ⟨2, 0, none⟩) b8).trans e8
                clear e1 hB
                go_wp2
                all_goals go_ret
                all_goals refine ⟨by rw [HE1.out, errV_pos _ _ (by decide)]; rfl, ?_⟩
                all_goals rw [HY.out (by rw [HE1.out]; decide)]
                all_goals exact ObjTo.of_ex (Ex.of HB.out) ((H.out.relabel (fun n hn e => by rw [lab_lt hn]; exact e)).later (Ex.of HB.out))
              · clear hB
                go_wp2
                all_goals
                  go_roundw
                  case measure => simp [intOf]
                  case rel =>
                    refine ⟨1, by omega, by go_num, (fun _ => by omega), (fun _ => by omega), (fun _ => by omega), ?_, ?_, ?_, ?_, ?_, ?_, ?_, ?_, ?_, ?_, ?_, ?_⟩
                    all_goals first
                      | (simp [go_sem, ↓IntWalk.iteOmega, *]; done)
                      | exact Below.setCell HB.out (by show w.heap.size ≤ w.heap.size + 1 + l1.length; omega) _
            · simp at z2 z3 z4
              by_cases hs : 1073741824 - P c 3 < s 1
              · have e1 : giveE P (c : Int) cash s = 8 := by rw [HX.out, if_pos ⟨s0, s1, s2⟩, if_neg (by omega), if_pos (by omega)]
                have HE1 := Lib.hid e1
                have e8' : wr.cell? ⟨2, 0, none⟩ = _ := (HB.out.cell (p := ⟨2, 0, none⟩) b8).trans e8
                clear e1 hB
                go_wp2
                all_goals go_ret
                all_goals refine ⟨by rw [HE1.out, errV_pos _ _ (by decide)]; rfl, ?_⟩
                all_goals rw [HY.out (by rw [HE1.out]; decide)]
                all_goals exact ObjTo.of_ex (Ex.of HB.out) ((H.out.relabel (fun n hn e => by rw [lab_lt hn]; exact e)).later (Ex.of HB.out))
              · clear hB
                go_wp2
                all_goals
                  go_roundw
                  case measure => simp [intOf]
                  case rel =>
                    refine ⟨2, by omega, by go_num, (fun _ => by omega), (fun _ => by omega), (fun _ => by omega), ?_, ?_, ?_, ?_, ?_, ?_, ?_, ?_, ?_, ?_, ?_, ?_⟩
                    all_goals first
                      | (simp [go_sem, ↓IntWalk.iteOmega, *]; done)
                      | exact Below.setCell HB.out (by show w.heap.size ≤ w.heap.size + 1 + l1.length; omega) _
            · simp at z2 z3 z4
              by_cases hs : 1073741824 - P c 4 < s 2
              · have e1 : giveE P (c : Int) cash s = 8 := by rw [HX.out, if_pos ⟨s0, s1, s2⟩, if_neg (by omega), if_pos (by omega)]
                have HE1 := Lib.hid e1
                have e8' : wr.cell? ⟨2, 0, none⟩ = _ := (HB.out.cell (p := ⟨2, 0, none⟩) b8).trans e8
                clear e1 hB
                go_wp2
                all_goals go_ret
                all_goals refine ⟨by rw [HE1.out, errV_pos _ _ (by decide)]; rfl, ?_⟩
                all_goals rw [HY.out (by rw [HE1.out]; decide)]
                all_goals exact ObjTo.of_ex (Ex.of HB.out) ((H.out.relabel (fun n hn e => by rw [lab_lt hn]; exact e)).later (Ex.of HB.out))
              · clear hB
                go_wp2
                all_goals
                  go_roundw
                  case measure => simp [intOf]
                  case rel =>
                    refine ⟨3, by omega, by go_num, (fun _ => by omega), (fun _ => by omega), (fun _ => by omega), ?_, ?_, ?_, ?_, ?_, ?_, ?_, ?_, ?_, ?_, ?_, ?_⟩
                    all_goals first
                      | (simp [go_sem, ↓IntWalk.iteOmega, *]; done)
                      | exact Below.setCell HB.out (by show w.heap.size ≤ w.heap.size + 1 + l1.length; omega) _
          · obtain rfl : m = 3 := by omega
            have g0 := e0 (by omega)
            have g1 := e1 (by omega)
            have g2 := e2 (by omega)
            simp at z2 z3 z4
            have HB := Lib.hid hB
            have hlt := lt_of_cell z0
            have hsz := hB.size
            have HP := Lib.hid (H.out.later (Ex.of hB))
            have f0 := fun j => HP.out.free j
            have y0 := (hB.cell (p := ⟨p, c * 8, none⟩) hp).trans q0
            have y1 := (hB.cell (p := ⟨p, c * 8 + 1, none⟩) hp).trans q1
            have y2 := (hB.cell (p := ⟨p, c * 8 + 2, none⟩) hp).trans q2
            have y3 := (hB.cell (p := ⟨p, c * 8 + 3, none⟩) hp).trans q3
            have y4 := (hB.cell (p := ⟨p, c * 8 + 4, none⟩) hp).trans q4
            have y5 := (hB.cell (p := ⟨p, c * 8 + 5, none⟩) hp).trans q5
            have y6 := (hB.cell (p := ⟨p, c * 8 + 6, none⟩) hp).trans q6
            have y7 := (hB.cell (p := ⟨p, c * 8 + 7, none⟩) hp).trans q7
            have hpw : p < wr.heap.size := by omega
            have hne : w.heap.size + 1 + l1.length ≠ p := by omega
            have E1 : Hid (giveE P (c : Int) cash s = 0) := by
              show giveE P (c : Int) cash s = 0
              rw [HX.out, if_pos ⟨s0, s1, s2⟩, if_neg (by omega), if_neg (by omega)]
            have E2 : Hid (giveP P (c : Int) cash s = P.add c cash s) := by
              show giveP P (c : Int) cash s = _
              unfold giveP
              rw [if_pos E1.out, Int.toNat_natCast]
            clear q0 q1 q2 q3 q4 q5 q6 q7 hB e0 e1 e2
            go_wp2
            go_region
            all_goals go_wp2
            all_goals go_ret
            all_goals refine ⟨by rw [E1.out, errV_zero]; rfl, ?_⟩
            all_goals rw [E2.out]
            all_goals exact give_end H.out HP.out HB.out hc cash s hcash s0 s1 s2 (by omega) g0 g1 g2
theorem give_any (h : PurseAt own i w p P) (n cash : Int) (s : Nat → Int) (E : Nat → Addr) (hE : Errs E [2, 8] w) :
    Calls Tryd.prog 28 #[.pointer (some ⟨p, 0, none⟩), .int .i64 n, .int .i64 cash, stockV s] w fun e w' => e = .returned (errV E (giveE P n cash s)) ∧ ObjTo own i i w (fun o w' => PurseAt o i w' p (giveP P n cash s)) w' := by
  cases hc : (inR n 0 5 && decide (0 ≤ cash))
  · have e1 : giveE P n cash s = 2 := by unfold giveE; rw [hc]; rfl
    have e2 : giveP P n cash s = P := by unfold giveP; rw [if_neg (by rw [e1]; decide)]
    rw [e1, e2]
    exact give_client h n cash s E hE hc
  · rw [Bool.and_eq_true] at hc
    obtain ⟨h0, h5⟩ := inR_iff.1 hc.1
    obtain ⟨c, rfl⟩ := Int.eq_ofNat_of_zero_le h0
    exact give_in h c (by omega) cash (by simpa using hc.2) s E hE
theorem give_inv {P : Pu} (h : PInv P) (n cash : Int) (s : Nat → Int) : PInv (giveP P n cash s) := by
  unfold giveP
  split
  · rename_i he
    unfold giveE at he
    split at he
    · rename_i hc
      rw [Bool.and_eq_true] at hc
      split at he
      · split at he
        · cases he
        · split at he
          · cases he
          · exact add_inv h (by simpa using hc.2) (by omega) (by omega) (by omega) (by omega) (by omega) (by omega) (by omega)
      · cases he
    · cases he
  · exact h
end
end Go.Proofs.YtmbboflakfokhaaDoor
