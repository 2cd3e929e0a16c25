/- What the document's Trade computes. Printed by wip/tools/mtrade_gen.py. -/
import Derived.Test.YtfeeibealokhfaaDoorMPurse
import Derived.Deep.RegionHeld3
import Derived.Deep.CutBlock
set_option linter.unusedSimpArgs false
set_option linter.unusedVariables false
namespace Go.Proofs.YtfeeibealokhfaaDoor
open Go.RowKit

/-- The purse behind a trade, or as it was. -/
def tradeQ (P : Pu) (item : Int) (b s : Lot) (price qty : Int) : Pu := if tradeE P item b s price qty = 0 then tradeF P b.owner.toNat s.owner.toNat item.toNat (b.price * qty) (price * qty) qty else P
/-- Two lots in blocks of their own. -/
def BoxTwo (nb ns : Nat) (b s : Lot) (W : World) : Prop := W.heap[nb]? = some (.cells #[.int .i64 b.id, .int .i64 b.owner, .int .i64 b.side, .int .i64 b.price, .int .i64 b.qty] 24 (0, 0)) ∧ W.heap[ns]? = some (.cells #[.int .i64 s.id, .int .i64 s.owner, .int .i64 s.side, .int .i64 s.price, .int .i64 s.qty] 24 (0, 0))
theorem boxTwoS {nb ns : Nat} {b s : Lot} {W : World} (h : BoxTwo nb ns b s W) : W.cell? ⟨nb, 0, none⟩ = some (.int .i64 b.id) ∧ W.cell? ⟨nb, 1, none⟩ = some (.int .i64 b.owner) ∧ W.cell? ⟨nb, 2, none⟩ = some (.int .i64 b.side) ∧ W.cell? ⟨nb, 3, none⟩ = some (.int .i64 b.price) ∧ W.cell? ⟨nb, 4, none⟩ = some (.int .i64 b.qty) ∧ W.cell? ⟨ns, 0, none⟩ = some (.int .i64 s.id) ∧ W.cell? ⟨ns, 1, none⟩ = some (.int .i64 s.owner) ∧ W.cell? ⟨ns, 2, none⟩ = some (.int .i64 s.side) ∧ W.cell? ⟨ns, 3, none⟩ = some (.int .i64 s.price) ∧ W.cell? ⟨ns, 4, none⟩ = some (.int .i64 s.qty) := by
  obtain ⟨h1, h2⟩ := h
  refine ⟨?_, ?_, ?_, ?_, ?_, ?_, ?_, ?_, ?_, ?_⟩ <;> simp [World.cell?, h1, h2]
theorem BoxTwo.lt {nb ns : Nat} {b s : Lot} {W : World} (h : BoxTwo nb ns b s W) : nb < W.heap.size ∧ ns < W.heap.size := ⟨(Array.getElem?_eq_some_iff.1 h.1).1, (Array.getElem?_eq_some_iff.1 h.2).1⟩
theorem BoxTwo.later {nb ns : Nat} {b s : Lot} {W W' : World} (h : BoxTwo nb ns b s W) (hx : Ex W W') : BoxTwo nb ns b s W' := ⟨(hx.below.block _ h.lt.1).trans h.1, (hx.below.block _ h.lt.2).trans h.2⟩
/-- What one client has, in a block of its own. -/
def HasBox (n : Nat) (z0 z1 z2 z3 z4 z5 z6 z7 : Int) (W : World) : Prop := W.heap[n]? = some (.cells #[.int .i64 z0, .int .i64 z1, .int .i64 z2, .int .i64 z3, .int .i64 z4, .int .i64 z5, .int .i64 z6, .int .i64 z7] 81 (0, 0))
theorem HasBox.cells {n : Nat} {z0 z1 z2 z3 z4 z5 z6 z7 : Int} {W : World} (h : HasBox n z0 z1 z2 z3 z4 z5 z6 z7 W) : W.cell? ⟨n, 0, none⟩ = some (.int .i64 z0) ∧ W.cell? ⟨n, 1, none⟩ = some (.int .i64 z1) ∧ W.cell? ⟨n, 2, none⟩ = some (.int .i64 z2) ∧ W.cell? ⟨n, 3, none⟩ = some (.int .i64 z3) ∧ W.cell? ⟨n, 4, none⟩ = some (.int .i64 z4) ∧ W.cell? ⟨n, 5, none⟩ = some (.int .i64 z5) ∧ W.cell? ⟨n, 6, none⟩ = some (.int .i64 z6) ∧ W.cell? ⟨n, 7, none⟩ = some (.int .i64 z7) := by
  have h' : W.heap[n]? = _ := h
  refine ⟨?_, ?_, ?_, ?_, ?_, ?_, ?_, ?_⟩ <;> simp [World.cell?, h']
theorem HasBox.frozen {n : Nat} {z0 z1 z2 z3 z4 z5 z6 z7 : Int} {W : World} (h : HasBox n z0 z1 z2 z3 z4 z5 z6 z7 W) (j : Nat) : W.frozen? ⟨n, j, none⟩ = false := by simp [World.frozen?, show W.heap[n]? = _ from h]
theorem HasBox.lt {n : Nat} {z0 z1 z2 z3 z4 z5 z6 z7 : Int} {W : World} (h : HasBox n z0 z1 z2 z3 z4 z5 z6 z7 W) : n < W.heap.size := (Array.getElem?_eq_some_iff.1 h).1
theorem HasBox.later {n : Nat} {z0 z1 z2 z3 z4 z5 z6 z7 : Int} {W W' : World} (h : HasBox n z0 z1 z2 z3 z4 z5 z6 z7 W) (hx : Ex W W') : HasBox n z0 z1 z2 z3 z4 z5 z6 z7 W' := (hx.below.block _ h.lt).trans h
theorem HasBox.top {n : Nat} {z0 z1 z2 z3 z4 z5 z6 z7 : Int} {W : World} (h : n = W.heap.size) : HasBox n z0 z1 z2 z3 z4 z5 z6 z7 (W.alloc (.cells #[.int .i64 z0, .int .i64 z1, .int .i64 z2, .int .i64 z3, .int .i64 z4, .int .i64 z5, .int .i64 z6, .int .i64 z7] 81)) := heap_new h
theorem HasBox.other {n : Nat} {z0 z1 z2 z3 z4 z5 z6 z7 : Int} {W : World} (h : HasBox n z0 z1 z2 z3 z4 z5 z6 z7 W) {q : Nat} (hq : n ≠ q) (j : Nat) (v : Value) : HasBox n z0 z1 z2 z3 z4 z5 z6 z7 (W.setCell ⟨q, j, none⟩ v) := (heap_setCell_other W ⟨q, j, none⟩ n v hq).trans h
theorem BoxTwo.other {nb ns : Nat} {b s : Lot} {W : World} (h : BoxTwo nb ns b s W) {q : Nat} (h1 : nb ≠ q) (h2 : ns ≠ q) (j : Nat) (v : Value) : BoxTwo nb ns b s (W.setCell ⟨q, j, none⟩ v) := ⟨(heap_setCell_other W ⟨q, j, none⟩ nb v h1).trans h.1, (heap_setCell_other W ⟨q, j, none⟩ ns v h2).trans h.2⟩
theorem BoxTwo.drewB {nb ns : Nat} {b s : Lot} {W : World} (h : BoxTwo nb ns b s W) : BoxTwo nb ns b s W.drew := h
theorem PRow.drewP {W : World} {p : Nat} {t : TypeId} {P : Pu} (h : PRow W p t P) : PRow W.drew p t P := h
theorem HasBox.drew {n : Nat} {z0 z1 z2 z3 z4 z5 z6 z7 : Int} {W : World} (h : HasBox n z0 z1 z2 z3 z4 z5 z6 z7 W) : HasBox n z0 z1 z2 z3 z4 z5 z6 z7 W.drew := h
theorem HasBox.set0 {n : Nat} {z0 z1 z2 z3 z4 z5 z6 z7 : Int} {W : World} (h : HasBox n z0 z1 z2 z3 z4 z5 z6 z7 W) (v : Int) : HasBox n v z1 z2 z3 z4 z5 z6 z7 (W.setCell ⟨n, 0, none⟩ (.int .i64 v)) := by
  have := heap_setCell_same W n 0 _ _ (.int .i64 v) h
  simpa [HasBox] using this
theorem HasBox.set1 {n : Nat} {z0 z1 z2 z3 z4 z5 z6 z7 : Int} {W : World} (h : HasBox n z0 z1 z2 z3 z4 z5 z6 z7 W) (v : Int) : HasBox n z0 v z2 z3 z4 z5 z6 z7 (W.setCell ⟨n, 1, none⟩ (.int .i64 v)) := by
  have := heap_setCell_same W n 1 _ _ (.int .i64 v) h
  simpa [HasBox] using this
theorem HasBox.set2 {n : Nat} {z0 z1 z2 z3 z4 z5 z6 z7 : Int} {W : World} (h : HasBox n z0 z1 z2 z3 z4 z5 z6 z7 W) (v : Int) : HasBox n z0 z1 v z3 z4 z5 z6 z7 (W.setCell ⟨n, 2, none⟩ (.int .i64 v)) := by
  have := heap_setCell_same W n 2 _ _ (.int .i64 v) h
  simpa [HasBox] using this
theorem HasBox.set3 {n : Nat} {z0 z1 z2 z3 z4 z5 z6 z7 : Int} {W : World} (h : HasBox n z0 z1 z2 z3 z4 z5 z6 z7 W) (v : Int) : HasBox n z0 z1 z2 v z4 z5 z6 z7 (W.setCell ⟨n, 3, none⟩ (.int .i64 v)) := by
  have := heap_setCell_same W n 3 _ _ (.int .i64 v) h
  simpa [HasBox] using this
theorem HasBox.set4 {n : Nat} {z0 z1 z2 z3 z4 z5 z6 z7 : Int} {W : World} (h : HasBox n z0 z1 z2 z3 z4 z5 z6 z7 W) (v : Int) : HasBox n z0 z1 z2 z3 v z5 z6 z7 (W.setCell ⟨n, 4, none⟩ (.int .i64 v)) := by
  have := heap_setCell_same W n 4 _ _ (.int .i64 v) h
  simpa [HasBox] using this
theorem HasBox.set5 {n : Nat} {z0 z1 z2 z3 z4 z5 z6 z7 : Int} {W : World} (h : HasBox n z0 z1 z2 z3 z4 z5 z6 z7 W) (v : Int) : HasBox n z0 z1 z2 z3 z4 v z6 z7 (W.setCell ⟨n, 5, none⟩ (.int .i64 v)) := by
  have := heap_setCell_same W n 5 _ _ (.int .i64 v) h
  simpa [HasBox] using this
theorem HasBox.set6 {n : Nat} {z0 z1 z2 z3 z4 z5 z6 z7 : Int} {W : World} (h : HasBox n z0 z1 z2 z3 z4 z5 z6 z7 W) (v : Int) : HasBox n z0 z1 z2 z3 z4 z5 v z7 (W.setCell ⟨n, 6, none⟩ (.int .i64 v)) := by
  have := heap_setCell_same W n 6 _ _ (.int .i64 v) h
  simpa [HasBox] using this
theorem HasBox.set7 {n : Nat} {z0 z1 z2 z3 z4 z5 z6 z7 : Int} {W : World} (h : HasBox n z0 z1 z2 z3 z4 z5 z6 z7 W) (v : Int) : HasBox n z0 z1 z2 z3 z4 z5 z6 v (W.setCell ⟨n, 7, none⟩ (.int .i64 v)) := by
  have := heap_setCell_same W n 7 _ _ (.int .i64 v) h
  simpa [HasBox] using this
/-- The end: one more client stored, behind what was stored before. -/
theorem mput_kp {own : Nat → Nat} {i : Nat} {w W6 : World} {p : Nat} {t : TypeId} {P1 : Pu} (hK : Kp own 1 i w W6) (hr : PRow W6 p t P1) (h1 : own p = i) {c : Nat} {z0 z1 z2 z3 z4 z5 z6 z7 : Int} {Q : Pu} (hI : PInv Q) (heq : ∀ d k, k < 8 → P1.put c (vec8 z0 z1 z2 z3 z4 z5 z6 z7) d k = Q d k) {W : World}
    (hx : Ex ((((((((W6.setCell ⟨p, c * 8, none⟩ (.int .i64 z0)).setCell ⟨p, c * 8 + 1, none⟩ (.int .i64 z1)).setCell ⟨p, c * 8 + 2, none⟩ (.int .i64 z2)).setCell ⟨p, c * 8 + 3, none⟩ (.int .i64 z3)).setCell ⟨p, c * 8 + 4, none⟩ (.int .i64 z4)).setCell ⟨p, c * 8 + 5, none⟩ (.int .i64 z5)).setCell ⟨p, c * 8 + 6, none⟩ (.int .i64 z6)).setCell ⟨p, c * 8 + 7, none⟩ (.int .i64 z7)) W) :
    ObjTo own i i w (fun o w' => PurseAt o i w' p Q) W := by
  have hr2 := (PRow.set8 hr c z0 z1 z2 z3 z4 z5 z6 z7).congr heq
  have hK2 := put8_kp hK h1 c (vec8 z0 z1 z2 z3 z4 z5 z6 z7)
  have hb := hx.below
  refine ObjTo.of (hK2.trans hb.os hb.tape hb.output hb.size fun k hk _ => hb.block k (Nat.lt_of_lt_of_le hk hK2.size)) (PurseAt.toLab (PurseAt.later ⟨h1, hI, t, hr2⟩ hx))
theorem trade_heq0 (P P1 : Pu) (bo so : Nat) (m1 m2 qty : Int) (h : P1 = P.put bo (vec8 (P bo 0 - m2) (P bo 1 - m1) (P bo 2 + qty) (P bo 3) (P bo 4) (P bo 5) (P bo 6) (P bo 7))) (d k : Nat) (hk : k < 8) : P1.put so (vec8 (P1 so 0 + m2) (P1 so 1) (P1 so 2 - qty) (P1 so 3) (P1 so 4) (P1 so 5 - qty) (P1 so 6) (P1 so 7)) d k = tradeF P bo so 0 m1 m2 qty d k := by
  subst h
  by_cases e1 : d = bo <;> by_cases e2 : d = so <;> by_cases e3 : bo = so <;> rcases lt8 hk with rfl | rfl | rfl | rfl | rfl | rfl | rfl | rfl <;> simp_all [tradeF, Pu.put, Pu.set, vec8] <;> omega
theorem trade_heq1 (P P1 : Pu) (bo so : Nat) (m1 m2 qty : Int) (h : P1 = P.put bo (vec8 (P bo 0 - m2) (P bo 1 - m1) (P bo 2) (P bo 3 + qty) (P bo 4) (P bo 5) (P bo 6) (P bo 7))) (d k : Nat) (hk : k < 8) : P1.put so (vec8 (P1 so 0 + m2) (P1 so 1) (P1 so 2) (P1 so 3 - qty) (P1 so 4) (P1 so 5) (P1 so 6 - qty) (P1 so 7)) d k = tradeF P bo so 1 m1 m2 qty d k := by
  subst h
  by_cases e1 : d = bo <;> by_cases e2 : d = so <;> by_cases e3 : bo = so <;> rcases lt8 hk with rfl | rfl | rfl | rfl | rfl | rfl | rfl | rfl <;> simp_all [tradeF, Pu.put, Pu.set, vec8] <;> omega
theorem trade_heq2 (P P1 : Pu) (bo so : Nat) (m1 m2 qty : Int) (h : P1 = P.put bo (vec8 (P bo 0 - m2) (P bo 1 - m1) (P bo 2) (P bo 3) (P bo 4 + qty) (P bo 5) (P bo 6) (P bo 7))) (d k : Nat) (hk : k < 8) : P1.put so (vec8 (P1 so 0 + m2) (P1 so 1) (P1 so 2) (P1 so 3) (P1 so 4 - qty) (P1 so 5) (P1 so 6) (P1 so 7 - qty)) d k = tradeF P bo so 2 m1 m2 qty d k := by
  subst h
  by_cases e1 : d = bo <;> by_cases e2 : d = so <;> by_cases e3 : bo = so <;> rcases lt8 hk with rfl | rfl | rfl | rfl | rfl | rfl | rfl | rfl <;> simp_all [tradeF, Pu.put, Pu.set, vec8] <;> omega
section
variable {own : Nat → Nat} {i : Nat} {w : World} {p : Nat} {P : Pu}
set_option maxRecDepth 100000 in
set_option maxHeartbeats 4000000 in
theorem mtrade_bad (h : PurseAt own i w p P) (item : Int) (b s : Lot) (price qty : Int) (hQ : PInv (tradeQ P item b s price qty)) (hfair : fairE item b s price qty ≠ 0) :
    Calls Tryd.prog 46 #[.pointer (some ⟨p, 0, none⟩), .int .i64 item, b.val, s.val, .int .i64 price, .int .i64 qty] w fun e w' => e = .returned (.int .i64 (tradeE P item b s price qty : Nat)) ∧ ObjTo own i i w (fun o w' => PurseAt o i w' p (tradeQ P item b s price qty)) w' := by
  have HB := Lib.hid (lotError_any b)
  have HS := Lib.hid (lotError_any s)
  have HI := Lib.hid (isItem_any item)
  have H := Lib.hid h
  have HQ := Lib.hid hQ
  have hp := h.lt
  clear h hQ
  have HBAD : Hid (∀ (n : Nat) W, tradeE P item b s price qty = n → n ≠ 0 → Ex w W → ObjTo own i i w (fun o w' => PurseAt o i w' p (tradeQ P item b s price qty)) W) := Lib.hid (fun n W e h0 hx => by
    unfold tradeQ
    rw [if_neg (by rw [e]; exact h0)]
    exact ObjTo.of_ex hx ((H.out.relabel (fun n hn e => by rw [lab_lt hn]; exact e)).later hx))
  go_enter Tryd.func46, Tryd.ntmps46
  cases hi : inR item 0 2
  · as_aux_lemma =>
    rw [hi] at HI
    have E0 : Hid (tradeE P item b s price qty = 2) := Lib.hid (by simp [tradeE, fairE, rightB, hi])
    clear hi
    go_upto_region 2 with (go_at_call 75; (with_reducible refine (HI.out _).mono ?_); rintro e w1 ⟨rfl, l1, d1, rfl⟩)
    go_quiet (fail)
    all_goals go_wp2_with fail
    all_goals go_ret
    all_goals exact ⟨by rw [E0.out]; rfl, HBAD.out 2 _ E0.out (by decide) (by repeat (first | exact Ex.refl _ | refine Ex.alloc ?_ _ | refine Ex.ext ?_ _ _ | refine Ex.drew ?_ | refine Ex.drewN ?_ _))⟩
  · rw [hi] at HI
    go_upto_region 2 with (go_at_call 75; (with_reducible refine (HI.out _).mono ?_); rintro e w1 ⟨rfl, l1, d1, rfl⟩)
    refine wp_world (R := fun W => Ex w W ∧ BoxTwo w.heap.size (w.heap.size + 1) b s W) ⟨(by repeat (first | exact Ex.refl _ | refine Ex.alloc ?_ _ | refine Ex.ext ?_ _ _ | refine Ex.drew ?_ | refine Ex.drewN ?_ _)), ?_⟩ ?_
    · exact BoxTwo.later (W := (w.alloc (.cells #[.int .i64 b.id, .int .i64 b.owner, .int .i64 b.side, .int .i64 b.price, .int .i64 b.qty] 24)).alloc (.cells #[.int .i64 s.id, .int .i64 s.owner, .int .i64 s.side, .int .i64 s.price, .int .i64 s.qty] 24)) ⟨(Below.heap_alloc _ _ _ (by simp [go_sem])).trans (heap_new rfl), heap_new (by simp [go_sem])⟩ (by repeat (first | exact Ex.refl _ | refine Ex.alloc ?_ _ | refine Ex.ext ?_ _ _ | refine Ex.drew ?_ | refine Ex.drewN ?_ _))
    rintro W1 ⟨hx1, hb1⟩
    have HX1 := Lib.hid hx1
    have HB1 := Lib.hid hb1
    have hn2 := hb1.lt
    clear hx1 hb1
    obtain ⟨kb, hkb⟩ : ∃ k : Int, k = if b.ok = true then 0 else 2 := ⟨_, rfl⟩
    obtain ⟨ks, hks⟩ : ∃ k : Int, k = if s.ok = true then 0 else 2 := ⟨_, rfl⟩
    rw [← hkb] at HB
    rw [← hks] at HS
    have hkb2 : (b.ok = true ∧ kb = 0) ∨ (b.ok = false ∧ kb = 2) := by rw [hkb]; cases b.ok <;> simp
    have hks2 : (s.ok = true ∧ ks = 0) ∨ (s.ok = false ∧ ks = 2) := by rw [hks]; cases s.ok <;> simp
    clear hkb hks
    have kw : IntKind.i64.wrap (kb + ks) = kb + ks := IntWalk.i64_in _ (by omega)
    generalize hnb : w.heap.size = nb at *
    generalize hns : nb + 1 = ns at *
    go_region_held3 (fun W => W.cell? ⟨nb, 0, none⟩ = some (.int .i64 b.id) ∧ W.cell? ⟨nb, 1, none⟩ = some (.int .i64 b.owner) ∧ W.cell? ⟨nb, 2, none⟩ = some (.int .i64 b.side) ∧ W.cell? ⟨nb, 3, none⟩ = some (.int .i64 b.price) ∧ W.cell? ⟨nb, 4, none⟩ = some (.int .i64 b.qty) ∧ W.cell? ⟨ns, 0, none⟩ = some (.int .i64 s.id) ∧ W.cell? ⟨ns, 1, none⟩ = some (.int .i64 s.owner) ∧ W.cell? ⟨ns, 2, none⟩ = some (.int .i64 s.side) ∧ W.cell? ⟨ns, 3, none⟩ = some (.int .i64 s.price) ∧ W.cell? ⟨ns, 4, none⟩ = some (.int .i64 s.qty)) ((first | exact boxTwoS HB1.out | exact boxTwoS (HB1.out.later (by repeat (first | exact Ex.refl _ | refine Ex.alloc ?_ _ | refine Ex.ext ?_ _ _ | refine Ex.drew ?_ | refine Ex.drewN ?_ _))))) ((first
      | (go_at_call 76; (with_reducible refine (HB.out _).mono ?_); rintro e w2 ⟨rfl, l2, d2, rfl⟩)
      | (go_at_call 76; (with_reducible refine (HS.out _).mono ?_); rintro e w3 ⟨rfl, l3, d3, rfl⟩)))
    clear kw
    by_cases hr : b.ok = true ∧ s.ok = true
    · have hz : kb + ks = 0 := by
        rcases hkb2 with h | h
        · rcases hks2 with h' | h'
          · omega
          · rw [h'.1] at hr; exact absurd hr.2 (by decide)
        · rw [h.1] at hr; exact absurd hr.1 (by decide)
      rw [hz]
      go_upto_region 4 with fail
      refine wp_world (R := fun W => Ex w W ∧ BoxTwo nb ns b s W) ⟨HX1.out.trans (by repeat (first | exact Ex.refl _ | refine Ex.alloc ?_ _ | refine Ex.ext ?_ _ _ | refine Ex.drew ?_ | refine Ex.drewN ?_ _)), HB1.out.later (by repeat (first | exact Ex.refl _ | refine Ex.alloc ?_ _ | refine Ex.ext ?_ _ _ | refine Ex.drew ?_ | refine Ex.drewN ?_ _))⟩ ?_
      clear HB HS HI HX1 HB1 hkb2 hks2 hn2

      rintro W2 ⟨hx2, hb2⟩
      obtain ⟨a0, a1, a2, a3, a4, b0, b1, b2, b3, b4⟩ := boxTwoS hb2
      have HX2 := Lib.hid hx2
      have HB2 := Lib.hid hb2
      have hn2 := hb2.lt
      have hz2 := hx2.below.size
      have HP2 := Lib.hid (H.out.later hx2)
      clear hx2 hb2
      have hrb : (rightB item b && rightB item s) = true := by simp [rightB, hi, hr.1, hr.2]
      have HF : Hid (fairE item b s price qty = (if b.side = 0 ∧ s.side = 1 then (if price < 1 ∨ 1000 < price ∨ qty < 1 ∨ b.qty < qty ∨ s.qty < qty then 2 else if b.price < price ∨ price < s.price then 12 else 0) else 3)) := Lib.hid (by unfold fairE; rw [if_pos hrb])
      have HT : Hid (∀ n, fairE item b s price qty = n → n ≠ 0 → tradeE P item b s price qty = n) := Lib.hid (fun n e h0 => by unfold tradeE; rw [if_neg (by rw [e]; exact h0), e])
      obtain ⟨_, ob, sb, pb, qb⟩ := Lot.ok_iff hr.1
      obtain ⟨_, os, ss, ps, qs⟩ := Lot.ok_iff hr.2
      obtain ⟨i0, i2⟩ := inR_iff.1 hi
      clear hr hrb hi
      by_cases f1 : b.side = 0 ∧ s.side = 1
      · rw [if_pos f1] at HF
        obtain ⟨f1b, f1s⟩ := f1
        rw [f1b] at a2
        rw [f1s] at b2
        by_cases p1 : price < 1
        · as_aux_lemma =>
          rw [if_pos (by omega)] at HF
          have E0 : Hid (tradeE P item b s price qty = 2) := Lib.hid (HT.out 2 HF.out (by decide))
          clear HF HT
          go_wp2_with fail
          all_goals go_ret
          all_goals exact ⟨by rw [E0.out]; rfl, HBAD.out 2 _ E0.out (by decide) (HX2.out.trans (by repeat (first | exact Ex.refl _ | refine Ex.alloc ?_ _ | refine Ex.ext ?_ _ _ | refine Ex.drew ?_ | refine Ex.drewN ?_ _)))⟩
        by_cases p2 : 1000 < price
        · as_aux_lemma =>
          rw [if_pos (by omega)] at HF
          have E0 : Hid (tradeE P item b s price qty = 2) := Lib.hid (HT.out 2 HF.out (by decide))
          clear HF HT
          go_wp2_with fail
          all_goals go_ret
          all_goals exact ⟨by rw [E0.out]; rfl, HBAD.out 2 _ E0.out (by decide) (HX2.out.trans (by repeat (first | exact Ex.refl _ | refine Ex.alloc ?_ _ | refine Ex.ext ?_ _ _ | refine Ex.drew ?_ | refine Ex.drewN ?_ _)))⟩
        by_cases p3 : qty < 1
        · as_aux_lemma =>
          rw [if_pos (by omega)] at HF
          have E0 : Hid (tradeE P item b s price qty = 2) := Lib.hid (HT.out 2 HF.out (by decide))
          clear HF HT
          go_wp2_with fail
          all_goals go_ret
          all_goals exact ⟨by rw [E0.out]; rfl, HBAD.out 2 _ E0.out (by decide) (HX2.out.trans (by repeat (first | exact Ex.refl _ | refine Ex.alloc ?_ _ | refine Ex.ext ?_ _ _ | refine Ex.drew ?_ | refine Ex.drewN ?_ _)))⟩
        by_cases p4 : b.qty < qty
        · as_aux_lemma =>
          rw [if_pos (by omega)] at HF
          have E0 : Hid (tradeE P item b s price qty = 2) := Lib.hid (HT.out 2 HF.out (by decide))
          clear HF HT
          go_wp2_with fail
          all_goals go_ret
          all_goals exact ⟨by rw [E0.out]; rfl, HBAD.out 2 _ E0.out (by decide) (HX2.out.trans (by repeat (first | exact Ex.refl _ | refine Ex.alloc ?_ _ | refine Ex.ext ?_ _ _ | refine Ex.drew ?_ | refine Ex.drewN ?_ _)))⟩
        by_cases p5 : s.qty < qty
        · as_aux_lemma =>
          rw [if_pos (by omega)] at HF
          have E0 : Hid (tradeE P item b s price qty = 2) := Lib.hid (HT.out 2 HF.out (by decide))
          clear HF HT
          go_wp2_with fail
          all_goals go_ret
          all_goals exact ⟨by rw [E0.out]; rfl, HBAD.out 2 _ E0.out (by decide) (HX2.out.trans (by repeat (first | exact Ex.refl _ | refine Ex.alloc ?_ _ | refine Ex.ext ?_ _ _ | refine Ex.drew ?_ | refine Ex.drewN ?_ _)))⟩
        rw [if_neg (by omega)] at HF
        by_cases p6 : b.price < price
        · as_aux_lemma =>
          rw [if_pos (by omega)] at HF
          have E0 : Hid (tradeE P item b s price qty = 12) := Lib.hid (HT.out 12 HF.out (by decide))
          clear HF HT
          go_wp2_with fail
          all_goals go_ret
          all_goals exact ⟨by rw [E0.out]; rfl, HBAD.out 12 _ E0.out (by decide) (HX2.out.trans (by repeat (first | exact Ex.refl _ | refine Ex.alloc ?_ _ | refine Ex.ext ?_ _ _ | refine Ex.drew ?_ | refine Ex.drewN ?_ _)))⟩
        by_cases p7 : price < s.price
        · as_aux_lemma =>
          rw [if_pos (by omega)] at HF
          have E0 : Hid (tradeE P item b s price qty = 12) := Lib.hid (HT.out 12 HF.out (by decide))
          clear HF HT
          go_wp2_with fail
          all_goals go_ret
          all_goals exact ⟨by rw [E0.out]; rfl, HBAD.out 12 _ E0.out (by decide) (HX2.out.trans (by repeat (first | exact Ex.refl _ | refine Ex.alloc ?_ _ | refine Ex.ext ?_ _ _ | refine Ex.drew ?_ | refine Ex.drewN ?_ _)))⟩
        rw [if_neg (by omega)] at HF
        exact (hfair HF.out).elim
      · rw [if_neg f1] at HF
        have E0 : Hid (tradeE P item b s price qty = 3) := Lib.hid (HT.out 3 HF.out (by decide))
        clear HF HT
        by_cases fb : b.side = 0
        · have fs : ¬ s.side = 1 := fun e => f1 ⟨fb, e⟩
          rw [fb] at a2
          clear f1
          go_wp2_with fail
          all_goals go_ret
          all_goals exact ⟨by rw [E0.out]; rfl, HBAD.out 3 _ E0.out (by decide) (HX2.out.trans (by repeat (first | exact Ex.refl _ | refine Ex.alloc ?_ _ | refine Ex.ext ?_ _ _ | refine Ex.drew ?_ | refine Ex.drewN ?_ _)))⟩
        · clear f1
          go_wp2_with fail
          all_goals go_ret
          all_goals exact ⟨by rw [E0.out]; rfl, HBAD.out 3 _ E0.out (by decide) (HX2.out.trans (by repeat (first | exact Ex.refl _ | refine Ex.alloc ?_ _ | refine Ex.ext ?_ _ _ | refine Ex.drew ?_ | refine Ex.drewN ?_ _)))⟩
    · have hz : decide (0 < kb + ks) = true := by
        apply decide_eq_true
        rcases hkb2 with h | h
        · rcases hks2 with h' | h'
          · exact absurd ⟨h.1, h'.1⟩ hr
          · omega
        · rcases hks2 with h' | h' <;> omega
      have E0 : Hid (tradeE P item b s price qty = 2) := Lib.hid (by
        have : (rightB item b && rightB item s) = false := by
          simp only [rightB, hi, Bool.true_and]
          cases hb : b.ok
          · rfl
          · cases hs : s.ok
            · rfl
            · exact absurd ⟨hb, hs⟩ hr
        simp [tradeE, fairE, this])
      rw [hz]
      go_wp2_with fail
      all_goals go_ret
      all_goals exact ⟨by rw [E0.out]; rfl, HBAD.out 2 _ E0.out (by decide) (HX1.out.trans (by repeat (first | exact Ex.refl _ | refine Ex.alloc ?_ _ | refine Ex.ext ?_ _ _ | refine Ex.drew ?_ | refine Ex.drewN ?_ _)))⟩
end
end Go.Proofs.YtfeeibealokhfaaDoor
