/- The walk of PursePays. Printed by wip/tools/ppays_gen.py. -/
import Derived.Test.YtfeeibealokhfaaDoorMTradeAny
import Derived.Test.YtfeeibealokhfaaDoorMHoldAny
import Derived.Test.YtfeeibealokhfaaDoorMGive
import Derived.Test.YtfeeibealokhfaaDoorSameHas
import Derived.Test.YtfeeibealokhfaaDoorCodedS
import Derived.Test.YtfeeibealokhfaaDoorPTotal
import Derived.Test.YtfeeibealokhfaaDoorBackLaw
import Derived.Deep.CutBlock
import Derived.Deep.RegionHeld3
set_option linter.unusedSimpArgs false
set_option linter.unusedVariables false
namespace Go.Proofs.YtfeeibealokhfaaDoor
open Go.RowKit

def payBox (a : Pay) : Array Value := #[.string a.kind, .int .i64 a.client, .int .i64 a.cash, .int .i64 a.stock.x, .int .i64 a.stock.y, .int .i64 a.stock.z, .int .i64 a.item, .int .i64 a.a.id, .int .i64 a.a.owner, .int .i64 a.a.side, .int .i64 a.a.price, .int .i64 a.a.qty, .int .i64 a.b.id, .int .i64 a.b.owner, .int .i64 a.b.side, .int .i64 a.b.price, .int .i64 a.b.qty, .int .i64 a.price, .int .i64 a.qty]
/-- The program's purse and the document's one. -/
def PayInv (w0 : World) (p m : Nat) (P Q : Pu) (wr : World) : Prop := (∃ own, PurseAt own 1 wr p P ∧ PurseAt own 2 wr m Q ∧ ∀ b, b < w0.heap.size → own b = 0) ∧ w0.heap.size ≤ wr.heap.size ∧ Below w0.heap.size w0 wr
/-- The same, and an act in a block of its own. -/
def PayX (w0 : World) (p m bx : Nat) (a : Pay) (P Q : Pu) (wr : World) : Prop := (∃ own, PurseAt own 1 wr p P ∧ PurseAt own 2 wr m Q ∧ own bx = 0 ∧ ∀ b, b < w0.heap.size → own b = 0) ∧ wr.heap[bx]? = some (.cells (payBox a) 30 (0, 0)) ∧ w0.heap.size ≤ wr.heap.size ∧ Below w0.heap.size w0 wr
theorem PayInv.later {w0 : World} {p m : Nat} {P Q : Pu} {wr w' : World} (h : PayInv w0 p m P Q wr) (hx : Ex wr w') : PayInv w0 p m P Q w' := by
  obtain ⟨⟨own, h1, h2, h3⟩, h5, h6⟩ := h
  exact ⟨⟨own, h1.later hx, h2.later hx, h3⟩, Nat.le_trans h5 hx.below.size, h6.trans (hx.below.mono h5)⟩
section
variable {w0 : World} {p m bx : Nat} {a : Pay} {P Q P' : Pu} {wr w' : World}
theorem PayX.inv (h : PayX w0 p m bx a P Q wr) : PayInv w0 p m P Q wr := by
  obtain ⟨⟨own, h1, h2, _, h3⟩, _, h5, h6⟩ := h
  exact ⟨⟨own, h1, h2, h3⟩, h5, h6⟩
theorem PayX.later (h : PayX w0 p m bx a P Q wr) (hx : Ex wr w') : PayX w0 p m bx a P Q w' := by
  obtain ⟨⟨own, h1, h2, hb, h3⟩, h4, h5, h6⟩ := h
  exact ⟨⟨own, h1.later hx, h2.later hx, hb, h3⟩, (hx.below.block _ (Array.getElem?_eq_some_iff.1 h4).1).trans h4, Nat.le_trans h5 hx.below.size, h6.trans (hx.below.mono h5)⟩
theorem PayX.lt (h : PayX w0 p m bx a P Q wr) : bx < wr.heap.size := (Array.getElem?_eq_some_iff.1 h.2.1).1
theorem PayX.ready {E : Nat → Addr} (h : PayX w0 p m bx a P Q wr) (hR : CodeReady E w0) : CodeReady E wr := hR.ex (Ex.of h.2.2.2)
theorem PayX.cells {W : World} (h : PayX w0 p m bx a P Q W) : W.cell? ⟨bx, 0, none⟩ = some (.string a.kind) ∧ W.cell? ⟨bx, 1, none⟩ = some (.int .i64 a.client) ∧ W.cell? ⟨bx, 2, none⟩ = some (.int .i64 a.cash) ∧ W.cell? ⟨bx, 3, none⟩ = some (.int .i64 a.stock.x) ∧ W.cell? ⟨bx, 4, none⟩ = some (.int .i64 a.stock.y) ∧ W.cell? ⟨bx, 5, none⟩ = some (.int .i64 a.stock.z) ∧ W.cell? ⟨bx, 6, none⟩ = some (.int .i64 a.item) ∧ W.cell? ⟨bx, 7, none⟩ = some (.int .i64 a.a.id) ∧ W.cell? ⟨bx, 8, none⟩ = some (.int .i64 a.a.owner) ∧ W.cell? ⟨bx, 9, none⟩ = some (.int .i64 a.a.side) ∧ W.cell? ⟨bx, 10, none⟩ = some (.int .i64 a.a.price) ∧ W.cell? ⟨bx, 11, none⟩ = some (.int .i64 a.a.qty) ∧ W.cell? ⟨bx, 12, none⟩ = some (.int .i64 a.b.id) ∧ W.cell? ⟨bx, 13, none⟩ = some (.int .i64 a.b.owner) ∧ W.cell? ⟨bx, 14, none⟩ = some (.int .i64 a.b.side) ∧ W.cell? ⟨bx, 15, none⟩ = some (.int .i64 a.b.price) ∧ W.cell? ⟨bx, 16, none⟩ = some (.int .i64 a.b.qty) ∧ W.cell? ⟨bx, 17, none⟩ = some (.int .i64 a.price) ∧ W.cell? ⟨bx, 18, none⟩ = some (.int .i64 a.qty) := by
  have h1 : W.heap[bx]? = some (.cells #[.string a.kind, .int .i64 a.client, .int .i64 a.cash, .int .i64 a.stock.x, .int .i64 a.stock.y, .int .i64 a.stock.z, .int .i64 a.item, .int .i64 a.a.id, .int .i64 a.a.owner, .int .i64 a.a.side, .int .i64 a.a.price, .int .i64 a.a.qty, .int .i64 a.b.id, .int .i64 a.b.owner, .int .i64 a.b.side, .int .i64 a.b.price, .int .i64 a.b.qty, .int .i64 a.price, .int .i64 a.qty] 30 (0, 0)) := h.2.1
  refine ⟨?_, ?_, ?_, ?_, ?_, ?_, ?_, ?_, ?_, ?_, ?_, ?_, ?_, ?_, ?_, ?_, ?_, ?_, ?_⟩ <;> simp [World.cell?, h1]
/-- The program's purse turns. -/
theorem PayX.one {own : Nat → Nat} (h1 : PurseAt own 2 wr m Q) (hb : own bx = 0) (h3 : ∀ b, b < w0.heap.size → own b = 0) (h4 : wr.heap[bx]? = some (.cells (payBox a) 30 (0, 0))) (h5 : w0.heap.size ≤ wr.heap.size) (h6 : Below w0.heap.size w0 wr)
    (hT : ObjTo own 1 1 wr (fun o w' => PurseAt o 1 w' p P') w') : PayX w0 p m bx a P' Q w' := by
  obtain ⟨o2, hI, hB2, ho2, hs2, hK⟩ := hT.use (B := w0.heap.size) (a := w0) h6 h5 (fun b hb => by rw [h3 b hb]; decide)
  have hl := (Array.getElem?_eq_some_iff.1 h4).1
  exact ⟨⟨o2, hI, h1.kp hK (by decide) (fun n hn e => by rw [ho2 n hn]; exact e), by rw [ho2 _ hl]; exact hb, fun b hb => by rw [ho2 b (by omega)]; exact h3 b hb⟩, (hK.other hl (by rw [Nat.div_one, hb]; decide)).trans h4, by omega, hB2⟩
/-- The document's purse turns. -/
theorem PayX.two {own : Nat → Nat} (h1 : PurseAt own 1 wr p P) (hb : own bx = 0) (h3 : ∀ b, b < w0.heap.size → own b = 0) (h4 : wr.heap[bx]? = some (.cells (payBox a) 30 (0, 0))) (h5 : w0.heap.size ≤ wr.heap.size) (h6 : Below w0.heap.size w0 wr)
    (hT : ObjTo own 2 2 wr (fun o w' => PurseAt o 2 w' m P') w') : PayX w0 p m bx a P P' w' := by
  obtain ⟨o2, hI, hB2, ho2, hs2, hK⟩ := hT.use (B := w0.heap.size) (a := w0) h6 h5 (fun b hb => by rw [h3 b hb]; decide)
  have hl := (Array.getElem?_eq_some_iff.1 h4).1
  exact ⟨⟨o2, h1.kp hK (by decide) (fun n hn e => by rw [ho2 n hn]; exact e), hI, by rw [ho2 _ hl]; exact hb, fun b hb => by rw [ho2 b (by omega)]; exact h3 b hb⟩, (hK.other hl (by rw [Nat.div_one, hb]; decide)).trans h4, by omega, hB2⟩
theorem pgive_x (E : Nat → Addr) (hR : CodeReady E w0) (n cash : Int) (s : Nat → Int) (W : World) (h : PayX w0 p m bx a P Q W) : Calls Tryd.prog 14 #[.pointer (some ⟨p, 0, none⟩), .int .i64 n, .int .i64 cash, stockV s] W fun e w' => e = .returned (errV E (giveE P n cash s)) ∧ PayX w0 p m bx a (giveP P n cash s) Q w' := by
  have h' := h
  obtain ⟨⟨own, h1, h2, hb, h3⟩, h4, h5, h6⟩ := h'
  exact (give_any h1 n cash s E (Errs.sub (hR.ex (Ex.of h.2.2.2)).1 (by decide))).mono fun e w' ⟨k1, k2⟩ => ⟨k1, PayX.one h2 hb h3 h4 h5 h6 k2⟩
theorem mgive_x (n cash : Int) (s : Nat → Int) (W : World) (h : PayX w0 p m bx a P Q W) : Calls Tryd.prog 43 #[.pointer (some ⟨m, 0, none⟩), .int .i64 n, .int .i64 cash, stockV s] W fun e w' => e = .returned (.int .i64 ((giveE Q n cash s : Nat) : Int)) ∧ PayX w0 p m bx a P (giveP Q n cash s) w' := by
  obtain ⟨⟨own, h1, h2, hb, h3⟩, h4, h5, h6⟩ := h
  exact (mgive_any h2 n cash s).mono fun e w' ⟨k1, k2⟩ => ⟨k1, PayX.two h1 hb h3 h4 h5 h6 k2⟩
theorem phold_x (E : Nat → Addr) (hR : CodeReady E w0) (item : Int) (x : Lot) (W : World) (h : PayX w0 p m bx a P Q W) : Calls Tryd.prog 15 #[.pointer (some ⟨p, 0, none⟩), .int .i64 item, x.val] W fun e w' => e = .returned (errV E (holdE P item x)) ∧ PayX w0 p m bx a (holdP P item x) Q w' := by
  have h' := h
  obtain ⟨⟨own, h1, h2, hb, h3⟩, h4, h5, h6⟩ := h'
  exact (hold_any h1 item x E (Errs.sub (hR.ex (Ex.of h.2.2.2)).1 (by decide))).mono fun e w' ⟨k1, k2⟩ => ⟨k1, PayX.one h2 hb h3 h4 h5 h6 k2⟩
theorem mhold_x (item : Int) (x : Lot) (W : World) (h : PayX w0 p m bx a P Q W) : Calls Tryd.prog 44 #[.pointer (some ⟨m, 0, none⟩), .int .i64 item, x.val] W fun e w' => e = .returned (.int .i64 ((holdE Q item x : Nat) : Int)) ∧ PayX w0 p m bx a P (holdP Q item x) w' := by
  obtain ⟨⟨own, h1, h2, hb, h3⟩, h4, h5, h6⟩ := h
  exact (mhold_any h2 item x).mono fun e w' ⟨k1, k2⟩ => ⟨k1, PayX.two h1 hb h3 h4 h5 h6 k2⟩
theorem pfree_x (E : Nat → Addr) (hR : CodeReady E w0) (item : Int) (x : Lot) (W : World) (h : PayX w0 p m bx a P Q W) : Calls Tryd.prog 18 #[.pointer (some ⟨p, 0, none⟩), .int .i64 item, x.val] W fun e w' => e = .returned (errV E (freeE P item x)) ∧ PayX w0 p m bx a (freeP P item x) Q w' := by
  have h' := h
  obtain ⟨⟨own, h1, h2, hb, h3⟩, h4, h5, h6⟩ := h'
  exact (free_any h1 item x E (Errs.sub (hR.ex (Ex.of h.2.2.2)).1 (by decide))).mono fun e w' ⟨k1, k2⟩ => ⟨k1, PayX.one h2 hb h3 h4 h5 h6 k2⟩
theorem mfree_x (item : Int) (x : Lot) (W : World) (h : PayX w0 p m bx a P Q W) : Calls Tryd.prog 45 #[.pointer (some ⟨m, 0, none⟩), .int .i64 item, x.val] W fun e w' => e = .returned (.int .i64 ((freeE Q item x : Nat) : Int)) ∧ PayX w0 p m bx a P (freeP Q item x) w' := by
  obtain ⟨⟨own, h1, h2, hb, h3⟩, h4, h5, h6⟩ := h
  exact (mfree_any h2 item x).mono fun e w' ⟨k1, k2⟩ => ⟨k1, PayX.two h1 hb h3 h4 h5 h6 k2⟩
theorem ptrade_x (E : Nat → Addr) (hR : CodeReady E w0) (item : Int) (b s : Lot) (price qty : Int) (W : World) (h : PayX w0 p m bx a P Q W) : Calls Tryd.prog 34 #[.pointer (some ⟨p, 0, none⟩), .int .i64 item, b.val, s.val, .int .i64 price, .int .i64 qty] W fun e w' => e = .returned (errV E (tradeE P item b s price qty)) ∧ PayX w0 p m bx a (tradeQ P item b s price qty) Q w' := by
  have h' := h
  obtain ⟨⟨own, h1, h2, hb, h3⟩, h4, h5, h6⟩ := h'
  exact (trade_any h1 item b s price qty E (Errs.sub (hR.ex (Ex.of h.2.2.2)).1 (by decide))).mono fun e w' ⟨k1, k2⟩ => ⟨k1, PayX.one h2 hb h3 h4 h5 h6 k2⟩
theorem mtrade_x (item : Int) (b s : Lot) (price qty : Int) (hQ : PInv (tradeQ Q item b s price qty)) (W : World) (h : PayX w0 p m bx a P Q W) : Calls Tryd.prog 46 #[.pointer (some ⟨m, 0, none⟩), .int .i64 item, b.val, s.val, .int .i64 price, .int .i64 qty] W fun e w' => e = .returned (.int .i64 ((tradeE Q item b s price qty : Nat) : Int)) ∧ PayX w0 p m bx a P (tradeQ Q item b s price qty) w' := by
  obtain ⟨⟨own, h1, h2, hb, h3⟩, h4, h5, h6⟩ := h
  exact (mtrade_any h2 item b s price qty hQ).mono fun e w' ⟨k1, k2⟩ => ⟨k1, PayX.two h1 hb h3 h4 h5 h6 k2⟩
theorem PayX.pinv (h : PayX w0 p m bx a P Q wr) : PInv P := by obtain ⟨⟨own, h1, _⟩, _⟩ := h; exact h1.2.1
end
theorem giveE_le (P : Pu) (n cash : Int) (s : Nat → Int) : giveE P n cash s ≤ 12 := by unfold giveE; (repeat' split) <;> omega
theorem holdE_le (P : Pu) (item : Int) (x : Lot) : holdE P item x ≤ 12 := by unfold holdE; (repeat' split) <;> omega
theorem freeE_le (P : Pu) (item : Int) (x : Lot) : freeE P item x ≤ 12 := by unfold freeE; (repeat' split) <;> omega
theorem tradeE_le (P : Pu) (item : Int) (b s : Lot) (price qty : Int) : tradeE P item b s price qty ≤ 12 := by
  have h : fairE item b s price qty ≤ 12 := by unfold fairE; (repeat' split) <;> omega
  unfold tradeE; (repeat' split) <;> omega
/-- Three purses that are the same, and are only read from now on. -/
def Fin3 (w0 : World) (p m q : Nat) (P : Pu) (W : World) : Prop := (∃ o, PurseAt o 1 W p P) ∧ (∃ o, PurseAt o 2 W m P) ∧ (∃ o, PurseAt o 3 W q P) ∧ Below w0.heap.size w0 W ∧ w0.heap.size ≤ W.heap.size
theorem Fin3.later {w0 : World} {p m q : Nat} {P : Pu} {W W' : World} (h : Fin3 w0 p m q P W) (hx : Ex W W') : Fin3 w0 p m q P W' := by
  obtain ⟨⟨o1, h1⟩, ⟨o2, h2⟩, ⟨o3, h3⟩, h4, h5⟩ := h
  exact ⟨⟨o1, h1.later hx⟩, ⟨o2, h2.later hx⟩, ⟨o3, h3.later hx⟩, h4.trans (hx.below.mono h5), Nat.le_trans h5 hx.below.size⟩
theorem Fin3.cells {w0 : World} {p m q : Nat} {P : Pu} {W : World} (h : Fin3 w0 p m q P W) {c : Nat} (hc : c < 6) : W.cell? ⟨m, c * 8, none⟩ = some (.int .i64 (P c 0)) ∧ W.cell? ⟨m, c * 8 + 1, none⟩ = some (.int .i64 (P c 1)) ∧ W.cell? ⟨m, c * 8 + 2, none⟩ = some (.int .i64 (P c 2)) ∧ W.cell? ⟨m, c * 8 + 3, none⟩ = some (.int .i64 (P c 3)) ∧ W.cell? ⟨m, c * 8 + 4, none⟩ = some (.int .i64 (P c 4)) ∧ W.cell? ⟨m, c * 8 + 5, none⟩ = some (.int .i64 (P c 5)) ∧ W.cell? ⟨m, c * 8 + 6, none⟩ = some (.int .i64 (P c 6)) ∧ W.cell? ⟨m, c * 8 + 7, none⟩ = some (.int .i64 (P c 7)) := by
  obtain ⟨_, ⟨o2, h2⟩, _⟩ := h
  exact ⟨by simpa using h2.cell hc (j := 0) (by omega), h2.cell hc (j := 1) (by omega), h2.cell hc (j := 2) (by omega), h2.cell hc (j := 3) (by omega), h2.cell hc (j := 4) (by omega), h2.cell hc (j := 5) (by omega), h2.cell hc (j := 6) (by omega), h2.cell hc (j := 7) (by omega)⟩
set_option maxRecDepth 100000 in
set_option maxHeartbeats 8000000 in
theorem pursePays_ok (ao : Option Addr) (len cap : Nat) (l : List Pay) (E : Nat → Addr) (w : World) (hR : CodeReady E w) (hA : PaysAt w ao len l) (hlen : len ≤ 60) :
    Calls Tryd.prog 9 #[.slice ao len cap] w fun e w' => e = .returned (.bool true) ∧ Below w.heap.size w w' := by
  obtain ⟨hL, _, hwf, hz⟩ := hA
  have HZ := Lib.hid hz
  have HL := Lib.hid hL
  have HN := Lib.hid (fun w => purseNew (fun _ => 0) 1 w)
  have HER := Lib.hid hR
  have hb1 : decide ((60 : Int) < (len : Int)) = false := decide_eq_false (by omega)
  have HPU := Lib.hid (fun w h => pursed_any w E h)
  clear hz hL hwf hR
  go_enter Tryd.func9, Tryd.ntmps9
  go_wp2_with (go_at_call 12; refine (HPU.out _ (by exact Errs.sub (HER.out.ex (by repeat (first | exact Ex.refl _ | refine Ex.alloc ?_ _ | refine Ex.ext ?_ _ _ | refine Ex.drew ?_ | refine Ex.drewN ?_ _))).1 (by decide))).mono ?_; rintro e w1 ⟨rfl, l1, d1, rfl⟩)
  go_upto_region 7 with (go_at_call 13; refine (HN.out _).mono ?_; rintro e wn ⟨rfl, hT⟩)
  have hx1 : Ex w (ext w l1 d1) := (by repeat (first | exact Ex.refl _ | refine Ex.alloc ?_ _ | refine Ex.ext ?_ _ _ | refine Ex.drew ?_ | refine Ex.drewN ?_ _))
  have hz1 := hx1.below.size
  obtain ⟨o0, hI0, hB0, ho0, hs0, hK0⟩ := hT.use (B := w.heap.size) (a := w) hx1.below hz1 (fun b hb => by decide)
  have hz0 : ∀ b, b < w.heap.size → o0 b = 0 := fun b hb => by rw [ho0 b (by omega)]
  have hbw : w.heap.size ≤ wn.heap.size := by omega
  rw [ext_size] at hI0
  generalize w.heap.size + l1.length = p at *
  have hpn := hI0.lt
  have HI0 := Lib.hid hI0
  have HB0 := Lib.hid hB0
  have HZ0 := Lib.hid hz0
  clear hT hx1 hK0 hI0 hB0 hz0 ho0 hs0
  go_upto_region 8 with fail
  refine wp_world (R := fun W => PayInv w p wn.heap.size (fun _ _ => 0) (fun _ _ => 0) W) ⟨⟨fun b => if b = wn.heap.size then 2 else o0 b, (HI0.out.relabel (fun n hn e => by show (if n = wn.heap.size then 2 else o0 n) = 1; rw [if_neg (by omega)]; exact e)).alloc _, (by refine PurseAt.fresh _ 2 wn _ ?_ _ ?_; (exact if_pos rfl); rfl), fun b hb => by show (if b = wn.heap.size then 2 else o0 b) = 0; rw [if_neg (by omega)]; exact HZ0.out b hb⟩, by simp [go_sem]; omega, HB0.out.trans (Below.alloc (Below.refl _ _) hbw _)⟩ ?_
  clear HI0 HB0 HZ0 HPU HN
  generalize wn.heap.size = m at *
  rintro wi hinv
  have HV0 := Lib.hid hinv
  clear hinv
  go_wp2_with fail
  go_loopw [6] (fun i wr => ∃ (k : Nat) (P : Pu), k ≤ len ∧ i = .int .i64 k ∧ PayInv w p m P P wr) (fun i _ => len - (intOf i).toNat)
  case atStart => exact ⟨0, fun _ _ => 0, by omega, rfl, HV0.out⟩
  case round =>
    obtain ⟨k, P, hk, rfl, hS⟩ := hrel
    clear HV0
    by_cases hlt : k < len
    · as_aux_lemma =>
      obtain ⟨⟨own, hI, hJ, ho⟩, hs, hB⟩ := hS
      obtain ⟨b, off, rfl, hbs, hzz⟩ := HZ.out (by omega)
      have hzk := hzz k (by rw [HL.out]; exact hlt)
      clear hzz
      have hcx : ∀ j, j < 19 → wr.cell? ⟨b, off + k * 19 + j, none⟩ = (l[k]'(by rw [HL.out]; exact hlt)).cells[j]? := fun j hj => (hB.cell (p := ⟨b, off + k * 19 + j, none⟩) (by show b < _; omega)).trans (hzk j hj)
      clear hzk
      generalize l[k]'(by rw [HL.out]; exact hlt) = a at hcx
      have a0 := hcx 0 (by omega)
      have a1 := hcx 1 (by omega)
      have a2 := hcx 2 (by omega)
      have a3 := hcx 3 (by omega)
      have a4 := hcx 4 (by omega)
      have a5 := hcx 5 (by omega)
      have a6 := hcx 6 (by omega)
      have a7 := hcx 7 (by omega)
      have a8 := hcx 8 (by omega)
      have a9 := hcx 9 (by omega)
      have a10 := hcx 10 (by omega)
      have a11 := hcx 11 (by omega)
      have a12 := hcx 12 (by omega)
      have a13 := hcx 13 (by omega)
      have a14 := hcx 14 (by omega)
      have a15 := hcx 15 (by omega)
      have a16 := hcx 16 (by omega)
      have a17 := hcx 17 (by omega)
      have a18 := hcx 18 (by omega)
      simp only [Pay.cells, Tri.cells, Lot.cells, List.cons_append, List.nil_append, List.getElem?_cons_zero, List.getElem?_cons_succ, Nat.add_zero] at a0 a1 a2 a3 a4 a5 a6 a7 a8 a9 a10 a11 a12 a13 a14 a15 a16 a17 a18
      have HI := Lib.hid hI
      have HJ := Lib.hid hJ
      have HO := Lib.hid ho
      have HB := Lib.hid hB
      have hpl := hI.lt
      have hml := hJ.lt
      clear hI hJ ho hB
      have hrange : wr.rangeAt b (off + k * 19) a.cells := fun j v hj => (hcx j (by have := (List.getElem?_eq_some_iff.1 hj).1; simpa [Pay.cells] using this)).trans hj
      have HRG := Lib.hid hrange
      clear hcx hrange
      go_upto_block 2 with (first
        | (refine wpList_load_mid rfl 30 (.tmp 35) rfl b (off + k * 19) rfl a.cells _ HRG.out Tryd.underlying30 rfl sizePay ?_)
        | (with_reducible refine wpList_alloc_row rfl 30 rfl _ _ zeroPay rfl ?_)
        | (refine wpList_store_fresh rfl 30 (.tmp 7) (.tmp 36) rfl (#[.string ByteArray.empty, .int .i64 0, .int .i64 0, .int .i64 0, .int .i64 0, .int .i64 0, .int .i64 0, .int .i64 0, .int .i64 0, .int .i64 0, .int .i64 0, .int .i64 0, .int .i64 0, .int .i64 0, .int .i64 0, .int .i64 0, .int .i64 0, .int .i64 0, .int .i64 0]) #[.string a.kind, .int .i64 a.client, .int .i64 a.cash, .int .i64 a.stock.x, .int .i64 a.stock.y, .int .i64 a.stock.z, .int .i64 a.item, .int .i64 a.a.id, .int .i64 a.a.owner, .int .i64 a.a.side, .int .i64 a.a.price, .int .i64 a.a.qty, .int .i64 a.b.id, .int .i64 a.b.owner, .int .i64 a.b.side, .int .i64 a.b.price, .int .i64 a.b.qty, .int .i64 a.price, .int .i64 a.qty] 30 rfl rfl sizePay rfl (by simp [Value.oneCell']) ?_))
      refine wp_world (R := fun W => PayX w p m wr.heap.size a P P W) ⟨⟨fun b => if b = wr.heap.size then 0 else own b, (HI.out.relabel (fun n hn e => by show (if n = wr.heap.size then 0 else own n) = 1; rw [if_neg (by omega)]; exact e)).alloc _, (HJ.out.relabel (fun n hn e => by show (if n = wr.heap.size then 0 else own n) = 2; rw [if_neg (by omega)]; exact e)).alloc _, if_pos rfl, fun b hb => by show (if b = wr.heap.size then 0 else own b) = 0; rw [if_neg (by omega)]; exact HO.out b hb⟩, heap_new rfl, by simp [go_sem]; omega, HB.out.trans (Below.alloc (Below.refl _ _) hs _)⟩ ?_
      clear HI HJ HO HB HRG a0 a1 a2 a3 a4 a5 a6 a7 a8 a9 a10 a11 a12 a13 a14 a15 a16 a17 a18
      generalize wr.heap.size = bx at *
      rintro wa hxa
      have hbl := hxa.lt
      have c0 := hxa.cells.1
      have HX := Lib.hid hxa
      clear hxa
      have HC := Lib.hid (fun c w hr h => coded_same c E w hr h)
      by_cases hgive : (a.kind.toList == [103, 105, 118, 101]) = true
      · as_aux_lemma =>
        have h1 : ∀ W, PayX w p m bx a P P W → Calls Tryd.prog 14 #[.pointer (some ⟨p, 0, none⟩), .int .i64 a.client, .int .i64 a.cash, .agg #[.int .i64 a.stock.x, .int .i64 a.stock.y, .int .i64 a.stock.z]] W fun e w' => e = .returned (errV E (giveE P a.client a.cash (fun i => if i = 0 then a.stock.x else if i = 1 then a.stock.y else a.stock.z))) ∧ PayX w p m bx a (giveP P a.client a.cash (fun i => if i = 0 then a.stock.x else if i = 1 then a.stock.y else a.stock.z)) P w' := fun W h => pgive_x E HER.out a.client a.cash (fun i => if i = 0 then a.stock.x else if i = 1 then a.stock.y else a.stock.z) W h
        have h2 : ∀ W, PayX w p m bx a (giveP P a.client a.cash (fun i => if i = 0 then a.stock.x else if i = 1 then a.stock.y else a.stock.z)) P W → Calls Tryd.prog 43 #[.pointer (some ⟨m, 0, none⟩), .int .i64 a.client, .int .i64 a.cash, .agg #[.int .i64 a.stock.x, .int .i64 a.stock.y, .int .i64 a.stock.z]] W fun e w' => e = .returned (.int .i64 ((giveE P a.client a.cash (fun i => if i = 0 then a.stock.x else if i = 1 then a.stock.y else a.stock.z) : Nat) : Int)) ∧ PayX w p m bx a (giveP P a.client a.cash (fun i => if i = 0 then a.stock.x else if i = 1 then a.stock.y else a.stock.z)) (giveP P a.client a.cash (fun i => if i = 0 then a.stock.x else if i = 1 then a.stock.y else a.stock.z)) w' := fun W h => mgive_x a.client a.cash (fun i => if i = 0 then a.stock.x else if i = 1 then a.stock.y else a.stock.z) W h
        have H1 := Lib.hid h1
        have H2 := Lib.hid h2
        clear h1 h2
        have hle : giveE P a.client a.cash (fun i => if i = 0 then a.stock.x else if i = 1 then a.stock.y else a.stock.z) ≤ 12 := giveE_le _ a.client a.cash (fun i => if i = 0 then a.stock.x else if i = 1 then a.stock.y else a.stock.z)
        generalize giveE P a.client a.cash (fun i => if i = 0 then a.stock.x else if i = 1 then a.stock.y else a.stock.z) = c at *
        generalize giveP P a.client a.cash (fun i => if i = 0 then a.stock.x else if i = 1 then a.stock.y else a.stock.z) = P' at *
        go_upto_region 16 with fail
        go_region_held3 (fun W => W.cell? ⟨bx, 0, none⟩ = some (.string a.kind) ∧ W.cell? ⟨bx, 1, none⟩ = some (.int .i64 a.client) ∧ W.cell? ⟨bx, 2, none⟩ = some (.int .i64 a.cash) ∧ W.cell? ⟨bx, 3, none⟩ = some (.int .i64 a.stock.x) ∧ W.cell? ⟨bx, 4, none⟩ = some (.int .i64 a.stock.y) ∧ W.cell? ⟨bx, 5, none⟩ = some (.int .i64 a.stock.z) ∧ W.cell? ⟨bx, 6, none⟩ = some (.int .i64 a.item) ∧ W.cell? ⟨bx, 7, none⟩ = some (.int .i64 a.a.id) ∧ W.cell? ⟨bx, 8, none⟩ = some (.int .i64 a.a.owner) ∧ W.cell? ⟨bx, 9, none⟩ = some (.int .i64 a.a.side) ∧ W.cell? ⟨bx, 10, none⟩ = some (.int .i64 a.a.price) ∧ W.cell? ⟨bx, 11, none⟩ = some (.int .i64 a.a.qty) ∧ W.cell? ⟨bx, 12, none⟩ = some (.int .i64 a.b.id) ∧ W.cell? ⟨bx, 13, none⟩ = some (.int .i64 a.b.owner) ∧ W.cell? ⟨bx, 14, none⟩ = some (.int .i64 a.b.side) ∧ W.cell? ⟨bx, 15, none⟩ = some (.int .i64 a.b.price) ∧ W.cell? ⟨bx, 16, none⟩ = some (.int .i64 a.b.qty) ∧ W.cell? ⟨bx, 17, none⟩ = some (.int .i64 a.price) ∧ W.cell? ⟨bx, 18, none⟩ = some (.int .i64 a.qty)) ((first | exact (HX3.out.later (by repeat (first | exact Ex.refl _ | refine Ex.alloc ?_ _ | refine Ex.ext ?_ _ _ | refine Ex.drew ?_ | refine Ex.drewN ?_ _))).cells | exact (HX2.out.later (by repeat (first | exact Ex.refl _ | refine Ex.alloc ?_ _ | refine Ex.ext ?_ _ _ | refine Ex.drew ?_ | refine Ex.drewN ?_ _))).cells | exact (HX.out.later (by repeat (first | exact Ex.refl _ | refine Ex.alloc ?_ _ | refine Ex.ext ?_ _ _ | refine Ex.drew ?_ | refine Ex.drewN ?_ _))).cells)) ((first
          | (go_at_call 14; (with_reducible refine (H1.out _ ?_).mono ?_); (focus (exact HX.out.later (by repeat (first | exact Ex.refl _ | refine Ex.alloc ?_ _ | refine Ex.ext ?_ _ _ | refine Ex.drew ?_ | refine Ex.drewN ?_ _)))); rintro e w2 ⟨rfl, hx2⟩; have HX2 := Lib.hid hx2; clear hx2)
          | (go_at_call 43; (with_reducible refine (H2.out _ ?_).mono ?_); (focus (exact HX2.out.later (by repeat (first | exact Ex.refl _ | refine Ex.alloc ?_ _ | refine Ex.ext ?_ _ _ | refine Ex.drew ?_ | refine Ex.drewN ?_ _)))); rintro e w3 ⟨rfl, hx3⟩; have HX3 := Lib.hid hx3; clear hx3)
          | (go_at_call 42; (with_reducible refine (HC.out _ _ ?_ ?_).mono ?_); (focus (exact (HX3.out.later (by repeat (first | exact Ex.refl _ | refine Ex.alloc ?_ _ | refine Ex.ext ?_ _ _ | refine Ex.drew ?_ | refine Ex.drewN ?_ _))).ready HER.out)); (focus (exact hle)); rintro e w4 ⟨rfl, l4, d4, rfl⟩)))
        go_wp2_with fail
        go_roundw
        case measure => simp [intOf]; omega
        case rel => exact ⟨k + 1, P', by omega, by go_num, HX3.out.inv.later (by repeat (first | exact Ex.refl _ | refine Ex.alloc ?_ _ | refine Ex.ext ?_ _ _ | refine Ex.drew ?_ | refine Ex.drewN ?_ _))⟩
      · have hgive' : (a.kind.toList == [103, 105, 118, 101]) = false := by simpa using hgive
        by_cases hhold : (a.kind.toList == [104, 111, 108, 100]) = true
        · as_aux_lemma =>
          have H1 := Lib.hid (fun W h => phold_x (w0 := w) (p := p) (m := m) (bx := bx) (a := a) (P := P) (Q := P) E HER.out a.item a.a W h)
          have H2 := Lib.hid (fun W h => mhold_x (w0 := w) (p := p) (m := m) (bx := bx) (a := a) (P := holdP P a.item a.a) (Q := P) a.item a.a W h)
          have hle : holdE P a.item a.a ≤ 12 := holdE_le _ a.item a.a
          generalize holdE P a.item a.a = c at *
          generalize holdP P a.item a.a = P' at *
          go_upto_region 19 with fail
          go_region_held3 (fun W => W.cell? ⟨bx, 0, none⟩ = some (.string a.kind) ∧ W.cell? ⟨bx, 1, none⟩ = some (.int .i64 a.client) ∧ W.cell? ⟨bx, 2, none⟩ = some (.int .i64 a.cash) ∧ W.cell? ⟨bx, 3, none⟩ = some (.int .i64 a.stock.x) ∧ W.cell? ⟨bx, 4, none⟩ = some (.int .i64 a.stock.y) ∧ W.cell? ⟨bx, 5, none⟩ = some (.int .i64 a.stock.z) ∧ W.cell? ⟨bx, 6, none⟩ = some (.int .i64 a.item) ∧ W.cell? ⟨bx, 7, none⟩ = some (.int .i64 a.a.id) ∧ W.cell? ⟨bx, 8, none⟩ = some (.int .i64 a.a.owner) ∧ W.cell? ⟨bx, 9, none⟩ = some (.int .i64 a.a.side) ∧ W.cell? ⟨bx, 10, none⟩ = some (.int .i64 a.a.price) ∧ W.cell? ⟨bx, 11, none⟩ = some (.int .i64 a.a.qty) ∧ W.cell? ⟨bx, 12, none⟩ = some (.int .i64 a.b.id) ∧ W.cell? ⟨bx, 13, none⟩ = some (.int .i64 a.b.owner) ∧ W.cell? ⟨bx, 14, none⟩ = some (.int .i64 a.b.side) ∧ W.cell? ⟨bx, 15, none⟩ = some (.int .i64 a.b.price) ∧ W.cell? ⟨bx, 16, none⟩ = some (.int .i64 a.b.qty) ∧ W.cell? ⟨bx, 17, none⟩ = some (.int .i64 a.price) ∧ W.cell? ⟨bx, 18, none⟩ = some (.int .i64 a.qty)) ((first | exact (HX3.out.later (by repeat (first | exact Ex.refl _ | refine Ex.alloc ?_ _ | refine Ex.ext ?_ _ _ | refine Ex.drew ?_ | refine Ex.drewN ?_ _))).cells | exact (HX2.out.later (by repeat (first | exact Ex.refl _ | refine Ex.alloc ?_ _ | refine Ex.ext ?_ _ _ | refine Ex.drew ?_ | refine Ex.drewN ?_ _))).cells | exact (HX.out.later (by repeat (first | exact Ex.refl _ | refine Ex.alloc ?_ _ | refine Ex.ext ?_ _ _ | refine Ex.drew ?_ | refine Ex.drewN ?_ _))).cells)) ((first
            | (go_at_call 15; (with_reducible refine (H1.out _ ?_).mono ?_); (focus (exact HX.out.later (by repeat (first | exact Ex.refl _ | refine Ex.alloc ?_ _ | refine Ex.ext ?_ _ _ | refine Ex.drew ?_ | refine Ex.drewN ?_ _)))); rintro e w2 ⟨rfl, hx2⟩; have HX2 := Lib.hid hx2; clear hx2)
            | (go_at_call 44; (with_reducible refine (H2.out _ ?_).mono ?_); (focus (exact HX2.out.later (by repeat (first | exact Ex.refl _ | refine Ex.alloc ?_ _ | refine Ex.ext ?_ _ _ | refine Ex.drew ?_ | refine Ex.drewN ?_ _)))); rintro e w3 ⟨rfl, hx3⟩; have HX3 := Lib.hid hx3; clear hx3)
            | (go_at_call 42; (with_reducible refine (HC.out _ _ ?_ ?_).mono ?_); (focus (exact (HX3.out.later (by repeat (first | exact Ex.refl _ | refine Ex.alloc ?_ _ | refine Ex.ext ?_ _ _ | refine Ex.drew ?_ | refine Ex.drewN ?_ _))).ready HER.out)); (focus (exact hle)); rintro e w4 ⟨rfl, l4, d4, rfl⟩)))
          go_wp2_with fail
          go_roundw
          case measure => simp [intOf]; omega
          case rel => exact ⟨k + 1, P', by omega, by go_num, HX3.out.inv.later (by repeat (first | exact Ex.refl _ | refine Ex.alloc ?_ _ | refine Ex.ext ?_ _ _ | refine Ex.drew ?_ | refine Ex.drewN ?_ _))⟩
        · have hhold' : (a.kind.toList == [104, 111, 108, 100]) = false := by simpa using hhold
          by_cases hfree : (a.kind.toList == [102, 114, 101, 101]) = true
          · as_aux_lemma =>
            have H1 := Lib.hid (fun W h => pfree_x (w0 := w) (p := p) (m := m) (bx := bx) (a := a) (P := P) (Q := P) E HER.out a.item a.a W h)
            have H2 := Lib.hid (fun W h => mfree_x (w0 := w) (p := p) (m := m) (bx := bx) (a := a) (P := freeP P a.item a.a) (Q := P) a.item a.a W h)
            have hle : freeE P a.item a.a ≤ 12 := freeE_le _ a.item a.a
            generalize freeE P a.item a.a = c at *
            generalize freeP P a.item a.a = P' at *
            go_upto_region 22 with fail
            go_region_held3 (fun W => W.cell? ⟨bx, 0, none⟩ = some (.string a.kind) ∧ W.cell? ⟨bx, 1, none⟩ = some (.int .i64 a.client) ∧ W.cell? ⟨bx, 2, none⟩ = some (.int .i64 a.cash) ∧ W.cell? ⟨bx, 3, none⟩ = some (.int .i64 a.stock.x) ∧ W.cell? ⟨bx, 4, none⟩ = some (.int .i64 a.stock.y) ∧ W.cell? ⟨bx, 5, none⟩ = some (.int .i64 a.stock.z) ∧ W.cell? ⟨bx, 6, none⟩ = some (.int .i64 a.item) ∧ W.cell? ⟨bx, 7, none⟩ = some (.int .i64 a.a.id) ∧ W.cell? ⟨bx, 8, none⟩ = some (.int .i64 a.a.owner) ∧ W.cell? ⟨bx, 9, none⟩ = some (.int .i64 a.a.side) ∧ W.cell? ⟨bx, 10, none⟩ = some (.int .i64 a.a.price) ∧ W.cell? ⟨bx, 11, none⟩ = some (.int .i64 a.a.qty) ∧ W.cell? ⟨bx, 12, none⟩ = some (.int .i64 a.b.id) ∧ W.cell? ⟨bx, 13, none⟩ = some (.int .i64 a.b.owner) ∧ W.cell? ⟨bx, 14, none⟩ = some (.int .i64 a.b.side) ∧ W.cell? ⟨bx, 15, none⟩ = some (.int .i64 a.b.price) ∧ W.cell? ⟨bx, 16, none⟩ = some (.int .i64 a.b.qty) ∧ W.cell? ⟨bx, 17, none⟩ = some (.int .i64 a.price) ∧ W.cell? ⟨bx, 18, none⟩ = some (.int .i64 a.qty)) ((first | exact (HX3.out.later (by repeat (first | exact Ex.refl _ | refine Ex.alloc ?_ _ | refine Ex.ext ?_ _ _ | refine Ex.drew ?_ | refine Ex.drewN ?_ _))).cells | exact (HX2.out.later (by repeat (first | exact Ex.refl _ | refine Ex.alloc ?_ _ | refine Ex.ext ?_ _ _ | refine Ex.drew ?_ | refine Ex.drewN ?_ _))).cells | exact (HX.out.later (by repeat (first | exact Ex.refl _ | refine Ex.alloc ?_ _ | refine Ex.ext ?_ _ _ | refine Ex.drew ?_ | refine Ex.drewN ?_ _))).cells)) ((first
              | (go_at_call 18; (with_reducible refine (H1.out _ ?_).mono ?_); (focus (exact HX.out.later (by repeat (first | exact Ex.refl _ | refine Ex.alloc ?_ _ | refine Ex.ext ?_ _ _ | refine Ex.drew ?_ | refine Ex.drewN ?_ _)))); rintro e w2 ⟨rfl, hx2⟩; have HX2 := Lib.hid hx2; clear hx2)
              | (go_at_call 45; (with_reducible refine (H2.out _ ?_).mono ?_); (focus (exact HX2.out.later (by repeat (first | exact Ex.refl _ | refine Ex.alloc ?_ _ | refine Ex.ext ?_ _ _ | refine Ex.drew ?_ | refine Ex.drewN ?_ _)))); rintro e w3 ⟨rfl, hx3⟩; have HX3 := Lib.hid hx3; clear hx3)
              | (go_at_call 42; (with_reducible refine (HC.out _ _ ?_ ?_).mono ?_); (focus (exact (HX3.out.later (by repeat (first | exact Ex.refl _ | refine Ex.alloc ?_ _ | refine Ex.ext ?_ _ _ | refine Ex.drew ?_ | refine Ex.drewN ?_ _))).ready HER.out)); (focus (exact hle)); rintro e w4 ⟨rfl, l4, d4, rfl⟩)))
            go_wp2_with fail
            go_roundw
            case measure => simp [intOf]; omega
            case rel => exact ⟨k + 1, P', by omega, by go_num, HX3.out.inv.later (by repeat (first | exact Ex.refl _ | refine Ex.alloc ?_ _ | refine Ex.ext ?_ _ _ | refine Ex.drew ?_ | refine Ex.drewN ?_ _))⟩
          · have hfree' : (a.kind.toList == [102, 114, 101, 101]) = false := by simpa using hfree
            as_aux_lemma =>
            have H1 := Lib.hid (fun W h => ptrade_x (w0 := w) (p := p) (m := m) (bx := bx) (a := a) (P := P) (Q := P) E HER.out a.item a.a a.b a.price a.qty W h)
            have H2 := Lib.hid (fun hQ W h => mtrade_x (w0 := w) (p := p) (m := m) (bx := bx) (a := a) (P := tradeQ P a.item a.a a.b a.price a.qty) (Q := P) a.item a.a a.b a.price a.qty hQ W h)
            have hle : tradeE P a.item a.a a.b a.price a.qty ≤ 12 := tradeE_le _ a.item a.a a.b a.price a.qty
            generalize tradeE P a.item a.a a.b a.price a.qty = c at *
            generalize tradeQ P a.item a.a a.b a.price a.qty = P' at *
            go_upto_region 13 with fail
            go_region_held3 (fun W => W.cell? ⟨bx, 0, none⟩ = some (.string a.kind) ∧ W.cell? ⟨bx, 1, none⟩ = some (.int .i64 a.client) ∧ W.cell? ⟨bx, 2, none⟩ = some (.int .i64 a.cash) ∧ W.cell? ⟨bx, 3, none⟩ = some (.int .i64 a.stock.x) ∧ W.cell? ⟨bx, 4, none⟩ = some (.int .i64 a.stock.y) ∧ W.cell? ⟨bx, 5, none⟩ = some (.int .i64 a.stock.z) ∧ W.cell? ⟨bx, 6, none⟩ = some (.int .i64 a.item) ∧ W.cell? ⟨bx, 7, none⟩ = some (.int .i64 a.a.id) ∧ W.cell? ⟨bx, 8, none⟩ = some (.int .i64 a.a.owner) ∧ W.cell? ⟨bx, 9, none⟩ = some (.int .i64 a.a.side) ∧ W.cell? ⟨bx, 10, none⟩ = some (.int .i64 a.a.price) ∧ W.cell? ⟨bx, 11, none⟩ = some (.int .i64 a.a.qty) ∧ W.cell? ⟨bx, 12, none⟩ = some (.int .i64 a.b.id) ∧ W.cell? ⟨bx, 13, none⟩ = some (.int .i64 a.b.owner) ∧ W.cell? ⟨bx, 14, none⟩ = some (.int .i64 a.b.side) ∧ W.cell? ⟨bx, 15, none⟩ = some (.int .i64 a.b.price) ∧ W.cell? ⟨bx, 16, none⟩ = some (.int .i64 a.b.qty) ∧ W.cell? ⟨bx, 17, none⟩ = some (.int .i64 a.price) ∧ W.cell? ⟨bx, 18, none⟩ = some (.int .i64 a.qty)) ((first | exact (HX3.out.later (by repeat (first | exact Ex.refl _ | refine Ex.alloc ?_ _ | refine Ex.ext ?_ _ _ | refine Ex.drew ?_ | refine Ex.drewN ?_ _))).cells | exact (HX2.out.later (by repeat (first | exact Ex.refl _ | refine Ex.alloc ?_ _ | refine Ex.ext ?_ _ _ | refine Ex.drew ?_ | refine Ex.drewN ?_ _))).cells | exact (HX.out.later (by repeat (first | exact Ex.refl _ | refine Ex.alloc ?_ _ | refine Ex.ext ?_ _ _ | refine Ex.drew ?_ | refine Ex.drewN ?_ _))).cells)) ((first
              | (go_at_call 34; (with_reducible refine (H1.out _ ?_).mono ?_); (focus (exact HX.out.later (by repeat (first | exact Ex.refl _ | refine Ex.alloc ?_ _ | refine Ex.ext ?_ _ _ | refine Ex.drew ?_ | refine Ex.drewN ?_ _)))); rintro e w2 ⟨rfl, hx2⟩; have HX2 := Lib.hid hx2; clear hx2)
              | (go_at_call 46; (with_reducible refine (H2.out ?_ _ ?_).mono ?_); (focus (exact HX2.out.pinv)); (focus (exact HX2.out.later (by repeat (first | exact Ex.refl _ | refine Ex.alloc ?_ _ | refine Ex.ext ?_ _ _ | refine Ex.drew ?_ | refine Ex.drewN ?_ _)))); rintro e w3 ⟨rfl, hx3⟩; have HX3 := Lib.hid hx3; clear hx3)
              | (go_at_call 42; (with_reducible refine (HC.out _ _ ?_ ?_).mono ?_); (focus (exact (HX3.out.later (by repeat (first | exact Ex.refl _ | refine Ex.alloc ?_ _ | refine Ex.ext ?_ _ _ | refine Ex.drew ?_ | refine Ex.drewN ?_ _))).ready HER.out)); (focus (exact hle)); rintro e w4 ⟨rfl, l4, d4, rfl⟩)))
            go_wp2_with fail
            go_roundw
            case measure => simp [intOf]; omega
            case rel => exact ⟨k + 1, P', by omega, by go_num, HX3.out.inv.later (by repeat (first | exact Ex.refl _ | refine Ex.alloc ?_ _ | refine Ex.ext ?_ _ _ | refine Ex.drew ?_ | refine Ex.drewN ?_ _))⟩
    · as_aux_lemma =>
      obtain rfl : k = len := by omega
      obtain ⟨⟨own, hI, hJ, ho⟩, hs, hB⟩ := hS
      have HCP := Lib.hid (pcopy_any hI)
      have HPI := Lib.hid hI.2.1
      have HI := Lib.hid hI
      have HJ := Lib.hid hJ
      have HB := Lib.hid hB
      clear hI hJ hB ho
      go_upto_region 25 with (go_at_call 16; (with_reducible refine HCP.out.mono ?_); rintro e wq ⟨rfl, hxq, hlq, t, hrq⟩)
      have HF0 : Hid (Fin3 w p m wr.heap.size P wq) := Lib.hid ⟨⟨_, HI.out.later hxq⟩, ⟨_, HJ.out.later hxq⟩, ⟨fun _ => 3, rfl, HPI.out, t, hrq⟩, HB.out.trans (hxq.below.mono hs), Nat.le_trans hs hxq.below.size⟩
      clear HI HJ HB HCP hxq hrq hlq
      generalize wr.heap.size = q at *
      go_wp2_with fail
      go_loopw [9, 10] (fun u v wz => ∃ c : Nat, c ≤ 6 ∧ v = .int .i64 c ∧ u = .int .i64 (psum P 0 c) ∧ Fin3 w p m q P wz) (fun _ v _ => 6 - (intOf v).toNat)
      case atStart => exact ⟨0, by omega, rfl, rfl, HF0.out.later (by repeat (first | exact Ex.refl _ | refine Ex.alloc ?_ _ | refine Ex.ext ?_ _ _ | refine Ex.drew ?_ | refine Ex.drewN ?_ _))⟩
      case round =>
        obtain ⟨c, hc, rfl, rfl, hF⟩ := hrel
        have HF := Lib.hid hF
        clear hF HF0
        by_cases hc6 : c < 6
        · as_aux_lemma =>
          have HO1 := Lib.hid (fun W (h : Fin3 w p m q P W) => (of_at h.1.choose_spec c hc6 (c : Int) rfl))
          have HO2 := Lib.hid (fun W (h : Fin3 w p m q P W) => (of_at h.2.2.1.choose_spec c hc6 (c : Int) rfl))
          have HSH := Lib.hid (sameHas_same P c)
          have bd := (psum_bd HPI.out c (by omega)).1
          have b0 := HPI.out c hc6
          have hsw : IntKind.i64.wrap (psum P 0 c + P c 0) = psum P 0 c + P c 0 := IntWalk.i64_in _ (by omega)
          have HPS : Hid (psum P 0 (c + 1) = psum P 0 c + P c 0) := Lib.hid rfl
          have c0 : (0 : Int) ≤ (c : Int) := by omega
          have c6 : (c : Int) < 6 := by omega
          obtain ⟨x0, x1, x2, x3, x4, x5, x6, x7⟩ := HF.out.cells hc6
          have hml : m < wr.heap.size := HF.out.2.1.choose_spec.lt
          generalize psum P 0 c = ps at *
          clear bd b0
          go_upto_region 31 with fail
          go_region_held3 (fun W => W.cell? ⟨m, c * 8, none⟩ = some (.int .i64 (P c 0)) ∧ W.cell? ⟨m, c * 8 + 1, none⟩ = some (.int .i64 (P c 1)) ∧ W.cell? ⟨m, c * 8 + 2, none⟩ = some (.int .i64 (P c 2)) ∧ W.cell? ⟨m, c * 8 + 3, none⟩ = some (.int .i64 (P c 3)) ∧ W.cell? ⟨m, c * 8 + 4, none⟩ = some (.int .i64 (P c 4)) ∧ W.cell? ⟨m, c * 8 + 5, none⟩ = some (.int .i64 (P c 5)) ∧ W.cell? ⟨m, c * 8 + 6, none⟩ = some (.int .i64 (P c 6)) ∧ W.cell? ⟨m, c * 8 + 7, none⟩ = some (.int .i64 (P c 7))) ((first | exact (HF.out.later (by repeat (first | exact Ex.refl _ | refine Ex.alloc ?_ _ | refine Ex.ext ?_ _ _ | refine Ex.drew ?_ | refine Ex.drewN ?_ _))).cells hc6)) ((first
            | (go_at_call 17; (with_reducible refine (HO1.out _ ?_).mono ?_); (focus (exact HF.out.later (by repeat (first | exact Ex.refl _ | refine Ex.alloc ?_ _ | refine Ex.ext ?_ _ _ | refine Ex.drew ?_ | refine Ex.drewN ?_ _)))); rintro e w2 ⟨rfl, l2, d2, rfl⟩)
            | (go_at_call 17; (with_reducible refine (HO2.out _ ?_).mono ?_); (focus (exact HF.out.later (by repeat (first | exact Ex.refl _ | refine Ex.alloc ?_ _ | refine Ex.ext ?_ _ _ | refine Ex.drew ?_ | refine Ex.drewN ?_ _)))); rintro e w3 ⟨rfl, l3, d3, rfl⟩)
            | (go_at_call 47; (with_reducible refine (HSH.out _).mono ?_); rintro e w4 ⟨rfl, l4, d4, rfl⟩)))
          go_wp2_with fail
          go_roundw
          case measure => simp [intOf]; omega
          case rel => exact ⟨c + 1, by omega, by go_num, by rw [HPS.out], HF.out.later (by repeat (first | exact Ex.refl _ | refine Ex.alloc ?_ _ | refine Ex.ext ?_ _ _ | refine Ex.drew ?_ | refine Ex.drewN ?_ _))⟩
        · as_aux_lemma =>
          obtain rfl : c = 6 := by omega
          have HTT := Lib.hid (fun W (h : Fin3 w p m q P W) => total_any h.1.choose_spec)
          have HO1 := Lib.hid (fun W => of_out (w := W) (p := p) (-1) (by decide))
          have HO2 := Lib.hid (fun W => of_out (w := W) (p := p) 6 (by decide))
          have HSH := Lib.hid (sameHas_same (fun _ _ => 0) 0)
          have heq : (sumP P 0 == psum P 0 6) = true := by rw [psum6]; simp
          go_wp2_with (first
            | (go_at_call 35; (with_reducible refine (HTT.out _ ?_).mono ?_); (focus (exact HF.out.later (by repeat (first | exact Ex.refl _ | refine Ex.alloc ?_ _ | refine Ex.ext ?_ _ _ | refine Ex.drew ?_ | refine Ex.drewN ?_ _)))); rintro e w2 ⟨rfl, l2, d2, rfl⟩)
            | (go_at_call 17; (with_reducible refine (HO1.out _).mono ?_); rintro e w3 ⟨rfl, l3, d3, rfl⟩)
            | (go_at_call 17; (with_reducible refine (HO2.out _).mono ?_); rintro e w3 ⟨rfl, l3, d3, rfl⟩)
            | (go_at_call 47; (with_reducible refine (HSH.out _).mono ?_); rintro e w4 ⟨rfl, l4, d4, rfl⟩))
          all_goals go_ret
          all_goals exact ⟨rfl, (HF.out.later (by repeat (first | exact Ex.refl _ | refine Ex.alloc ?_ _ | refine Ex.ext ?_ _ _ | refine Ex.drew ?_ | refine Ex.drewN ?_ _))).2.2.2.1⟩
end Go.Proofs.YtfeeibealokhfaaDoor
