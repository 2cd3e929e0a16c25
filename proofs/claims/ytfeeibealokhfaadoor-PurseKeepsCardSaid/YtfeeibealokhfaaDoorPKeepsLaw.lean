/- The walk of PurseKeeps. -/
import Derived.Test.YtfeeibealokhfaaDoorPTotal
import Derived.Test.YtfeeibealokhfaaDoorBackLaw
import Derived.Deep.CutBlock
set_option linter.unusedSimpArgs false
set_option linter.unusedVariables false
namespace Go.Proofs.YtfeeibealokhfaaDoor
open Go.RowKit

/-- A purse, and three sums beside it. -/
def SumInv (w0 : World) (B p sb : Nat) (P : Pu) (x y z : Int) (wr : World) : Prop :=
  (∃ own, PurseAt own 1 wr p P ∧ own sb = 0 ∧ ∀ b, b < B → own b = 0) ∧ TriAt wr sb x y z ∧ B ≤ wr.heap.size ∧ Below B w0 wr
theorem SumInv.later {w0 : World} {B p sb : Nat} {P : Pu} {x y z : Int} {wr w' : World} (h : SumInv w0 B p sb P x y z wr) (hx : Ex wr w') : SumInv w0 B p sb P x y z w' := by
  obtain ⟨⟨own, h1, h2, h3⟩, h4, h5, h6⟩ := h
  exact ⟨⟨own, h1.later hx, h2, h3⟩, h4.ex hx, Nat.le_trans h5 hx.below.size, h6.trans (hx.below.mono h5)⟩
theorem SumInv.step {w0 : World} {B p sb : Nat} {P' : Pu} {x y z : Int} {own : Nat → Nat} {wr wa w' : World} (hs : own sb = 0) (ho : ∀ b, b < B → own b = 0) (ht : TriAt wr sb x y z) (h5 : B ≤ wr.heap.size) (h6 : Below B w0 wr) (hx : Ex wr wa) (hT : ObjTo own 1 1 wa (fun o w' => PurseAt o 1 w' p P') w') : SumInv w0 B p sb P' x y z w' := by
  have hz := hx.below.size
  have ht' := ht.ex hx
  obtain ⟨o2, hI, hB2, ho2, hs2, hK⟩ := hT.use (B := B) (a := w0) (h6.trans (hx.below.mono h5)) (by omega) (fun b hb => by rw [ho b hb]; decide)
  exact ⟨⟨o2, hI, by rw [ho2 _ ht'.lt]; exact hs, fun b hb => by rw [ho2 b (by omega)]; exact ho b hb⟩, ht'.block (hK.other (k := sb) ht'.lt (by rw [Nat.div_one, hs]; decide)), by omega, hB2⟩
theorem SumInv.set {w0 : World} {B p sb : Nat} {P : Pu} {x y z x' y' z' : Int} {wr : World} (h : SumInv w0 B p sb P x y z wr) (hb : B ≤ sb) (j : Nat) (v : Value) (ht : TriAt (wr.setCell ⟨sb, j, none⟩ v) sb x' y' z') : SumInv w0 B p sb P x' y' z' (wr.setCell ⟨sb, j, none⟩ v) := by
  obtain ⟨⟨own, h1, h2, h3⟩, h4, h5, h6⟩ := h
  have hne : p ≠ sb := fun e => by have := h1.1; rw [e, h2] at this; cases this
  have hp := h1.lt
  refine ⟨⟨own, ?_, h2, h3⟩, ht, by simpa [go_sem] using h5, h6.trans (Below.setCell (Below.refl _ _) hb _)⟩
  obtain ⟨a1, a2, t, a3⟩ := h1
  exact ⟨a1, a2, t, a3.of_block (heap_setCell_other wr ⟨sb, j, none⟩ p v (fun e => hne (by simp [e])))⟩

theorem eqTri (x y z : Int) (w : World) : (binOp .eql 28 (.agg #[.int .i64 x, .int .i64 y, .int .i64 z]) (.agg #[.int .i64 x, .int .i64 y, .int .i64 z])).run Tryd.prog w = .ok (.bool true) w := by
  have h := equalInTri 9998 x y z x y z w
  rw [run_eql_struct, h]
  simp
set_option maxRecDepth 100000 in
set_option maxHeartbeats 4000000 in
theorem purseKeeps_ok (ao : Option Addr) (len cap : Nat) (l : List Pay) (E : Nat → Addr) (w : World) (hE : Errs E [2, 3, 8, 10, 12] w) (hA : PaysAt w ao len l) (hlen : len ≤ 60) :
    Calls Tryd.prog 7 #[.slice ao len cap] w fun e w' => e = .returned (.bool true) ∧ Below w.heap.size w w' := by
  obtain ⟨hL, _, hwf, hz⟩ := hA
  have HZ := Lib.hid hz
  have HL := Lib.hid hL
  have HN := Lib.hid (fun w => purseNew (fun _ => 0) 1 w)
  have HER := Lib.hid hE
  have hb1 : decide ((60 : Int) < (len : Int)) = false := decide_eq_false (by omega)
  have HPU := Lib.hid (fun w h => pursed_any w E h)
  clear hz hL hwf hE
  go_enter Tryd.func7, Tryd.ntmps7
  go_wp2_with (go_at_call 12; refine (HPU.out _ (by exact Errs.sub (HER.out.ex (by repeat (first | exact Ex.refl _ | refine Ex.alloc ?_ _ | refine Ex.ext ?_ _ _ | refine Ex.drew ?_ | refine Ex.drewN ?_ _))) (by decide))).mono ?_; rintro e w1 ⟨rfl, l1, d1, rfl⟩)
  go_wp2_with (go_at_call 13; refine (HN.out _).mono ?_; rintro e wn ⟨rfl, hT⟩)
  have hx1 : Ex w (ext w l1 d1) := (by repeat (first | exact Ex.refl _ | refine Ex.alloc ?_ _ | refine Ex.ext ?_ _ _ | refine Ex.drew ?_ | refine Ex.drewN ?_ _))
  have hz1 := hx1.below.size
  obtain ⟨o0, hI0, hB0, ho0, hs0, hK0⟩ := hT.use (B := w.heap.size) (a := w) hx1.below hz1 (fun b hb => by decide)
  have hz0 : ∀ b, b < w.heap.size → o0 b = 0 := fun b hb => by rw [ho0 b (by omega)]
  have hbw : w.heap.size ≤ wn.heap.size := by omega
  rw [ext_size] at hI0
  generalize w.heap.size + l1.length = p at *
  have hpn := hI0.lt
  have HI0 := Lib.hid hI0
  have HB0 := Lib.hid hB0
  have HZ0 := Lib.hid hz0
  clear hT hx1 hK0 hI0 hB0 hz0 ho0 hs0
  have HS0 : Hid (SumInv w w.heap.size p wn.heap.size (fun _ _ => 0) 0 0 0 (wn.alloc (.cells #[.int .i64 0, .int .i64 0, .int .i64 0] 28))) := Lib.hid ⟨⟨fun b => if b = wn.heap.size then 0 else o0 b, (HI0.out.relabel (fun n hn e => by show (if n = wn.heap.size then 0 else o0 n) = 1; rw [if_neg (by omega)]; exact e)).alloc _, if_pos rfl, fun b hb => by show (if b = wn.heap.size then 0 else o0 b) = 0; rw [if_neg (by omega)]; exact HZ0.out b hb⟩, by show (wn.heap.push _)[wn.heap.size]? = _; simp, by simp [go_sem]; omega, HB0.out.trans (Below.alloc (Below.refl _ _) hbw _)⟩
  go_wp2_with fail
  generalize hsb : wn.heap.size = sb at *
  go_loopw [5, 7] (fun c i wr => ∃ (k : Nat) (P : Pu), k ≤ len ∧ i = .int .i64 k ∧ c = .int .i64 (sumP P 0) ∧ SumInv w w.heap.size p sb P (sumP P 2) (sumP P 3) (sumP P 4) wr) (fun _ i _ => len - (intOf i).toNat)
  case atStart => exact ⟨0, fun _ _ => 0, by omega, rfl, rfl, HS0.out⟩
  case round =>
    obtain ⟨k, P, hk, rfl, rfl, hS⟩ := hrel
    have HSI := Lib.hid hS
    obtain ⟨⟨own, hI, hsl, ho⟩, htri, hs, hB⟩ := hS
    have HPI := Lib.hid hI.2.1
    by_cases hlt : k < len
    · as_aux_lemma =>
      obtain ⟨b, off, rfl, hbs, hzz⟩ := HZ.out (by omega)
      have hzk := hzz k (by rw [HL.out]; exact hlt)
      clear hzz
      have hcx : ∀ j, j < 19 → wr.cell? ⟨b, off + k * 19 + j, none⟩ = (l[k]'(by rw [HL.out]; exact hlt)).cells[j]? := fun j hj => (hB.cell (p := ⟨b, off + k * 19 + j, none⟩) (by show b < _; omega)).trans (hzk j hj)
      clear hzk
      generalize l[k]'(by rw [HL.out]; exact hlt) = a at hcx
      have a0 := hcx 0 (by omega)
      have a1 := hcx 1 (by omega)
      have a2 := hcx 2 (by omega)
      have a3 := hcx 3 (by omega)
      have a4 := hcx 4 (by omega)
      have a5 := hcx 5 (by omega)
      have a6 := hcx 6 (by omega)
      have a7 := hcx 7 (by omega)
      have a8 := hcx 8 (by omega)
      have a9 := hcx 9 (by omega)
      have a10 := hcx 10 (by omega)
      have a11 := hcx 11 (by omega)
      have a12 := hcx 12 (by omega)
      have a13 := hcx 13 (by omega)
      have a14 := hcx 14 (by omega)
      have a15 := hcx 15 (by omega)
      have a16 := hcx 16 (by omega)
      have a17 := hcx 17 (by omega)
      have a18 := hcx 18 (by omega)
      simp only [Pay.cells, Tri.cells, Lot.cells, List.cons_append, List.nil_append, List.getElem?_cons_zero, List.getElem?_cons_succ, Nat.add_zero] at a0 a1 a2 a3 a4 a5 a6 a7 a8 a9 a10 a11 a12 a13 a14 a15 a16 a17 a18
      have hE2 : Errs E [2, 3, 8, 10, 12] wr := HER.out.ex (Ex.of hB)
      have HI := Lib.hid hI
      have HO := Lib.hid ho
      have HB := Lib.hid hB
      have HT := Lib.hid htri
      have hts := htri.lt
      have HE2 := Lib.hid hE2
      clear hI ho hB hE2 htri
      have hrange : wr.rangeAt b (off + k * 19) a.cells := fun j v hj => (hcx j (by have := (List.getElem?_eq_some_iff.1 hj).1; simpa [Pay.cells] using this)).trans hj
      have HRG := Lib.hid hrange
      clear hcx hrange
      go_upto_block 2 with (first
        | (refine wpList_load_mid rfl 30 (.tmp 36) rfl b (off + k * 19) rfl a.cells _ HRG.out Tryd.underlying30 rfl sizePay ?_)
        | (with_reducible refine wpList_alloc_row rfl 30 rfl _ _ zeroPay rfl ?_)
        | (refine wpList_store_fresh rfl 30 (.tmp 8) (.tmp 37) rfl (#[.string ByteArray.empty, .int .i64 0, .int .i64 0, .int .i64 0, .int .i64 0, .int .i64 0, .int .i64 0, .int .i64 0, .int .i64 0, .int .i64 0, .int .i64 0, .int .i64 0, .int .i64 0, .int .i64 0, .int .i64 0, .int .i64 0, .int .i64 0, .int .i64 0, .int .i64 0]) #[.string a.kind, .int .i64 a.client, .int .i64 a.cash, .int .i64 a.stock.x, .int .i64 a.stock.y, .int .i64 a.stock.z, .int .i64 a.item, .int .i64 a.a.id, .int .i64 a.a.owner, .int .i64 a.a.side, .int .i64 a.a.price, .int .i64 a.a.qty, .int .i64 a.b.id, .int .i64 a.b.owner, .int .i64 a.b.side, .int .i64 a.b.price, .int .i64 a.b.qty, .int .i64 a.price, .int .i64 a.qty] 30 rfl rfl sizePay rfl (by simp [Value.oneCell']) ?_))
      have hpl := HI.out.lt
      obtain ⟨o1, ho1⟩ : ∃ o1 : Nat → Nat, ∀ n, o1 n = if n = wr.heap.size then 0 else own n := ⟨_, fun _ => rfl⟩
      have HI1 : Hid (PurseAt o1 1 (wr.alloc (.cells #[.string a.kind, .int .i64 a.client, .int .i64 a.cash, .int .i64 a.stock.x, .int .i64 a.stock.y, .int .i64 a.stock.z, .int .i64 a.item, .int .i64 a.a.id, .int .i64 a.a.owner, .int .i64 a.a.side, .int .i64 a.a.price, .int .i64 a.a.qty, .int .i64 a.b.id, .int .i64 a.b.owner, .int .i64 a.b.side, .int .i64 a.b.price, .int .i64 a.b.qty, .int .i64 a.price, .int .i64 a.qty] 30)) p P) := Lib.hid ((HI.out.relabel (fun n hn e => by rw [ho1, if_neg (by omega)]; exact e)).alloc _)
      have HO1 : Hid (∀ n, n < w.heap.size → o1 n = 0) := Lib.hid (fun n hn => by rw [ho1, if_neg (by omega)]; exact HO.out n hn)
      have HSL : Hid (o1 sb = 0) := Lib.hid (by rw [ho1, if_neg (by omega)]; exact hsl)
      have HX1 : Hid (o1 wr.heap.size = 0) := Lib.hid (by rw [ho1, if_pos rfl])
      have HEA : Hid (Errs E [2, 3, 8, 10, 12] (wr.alloc (.cells #[.string a.kind, .int .i64 a.client, .int .i64 a.cash, .int .i64 a.stock.x, .int .i64 a.stock.y, .int .i64 a.stock.z, .int .i64 a.item, .int .i64 a.a.id, .int .i64 a.a.owner, .int .i64 a.a.side, .int .i64 a.a.price, .int .i64 a.a.qty, .int .i64 a.b.id, .int .i64 a.b.owner, .int .i64 a.b.side, .int .i64 a.b.price, .int .i64 a.b.qty, .int .i64 a.price, .int .i64 a.qty] 30))) := Lib.hid (HE2.out.ex (Ex.alloc (Ex.refl _) _))
      have HT1 : Hid (TriAt (wr.alloc (.cells #[.string a.kind, .int .i64 a.client, .int .i64 a.cash, .int .i64 a.stock.x, .int .i64 a.stock.y, .int .i64 a.stock.z, .int .i64 a.item, .int .i64 a.a.id, .int .i64 a.a.owner, .int .i64 a.a.side, .int .i64 a.a.price, .int .i64 a.a.qty, .int .i64 a.b.id, .int .i64 a.b.owner, .int .i64 a.b.side, .int .i64 a.b.price, .int .i64 a.b.qty, .int .i64 a.price, .int .i64 a.qty] 30)) sb (sumP P 2) (sumP P 3) (sumP P 4)) := Lib.hid (HT.out.ex (Ex.alloc (Ex.refl _) _))
      have HBX : Hid ((wr.alloc (.cells #[.string a.kind, .int .i64 a.client, .int .i64 a.cash, .int .i64 a.stock.x, .int .i64 a.stock.y, .int .i64 a.stock.z, .int .i64 a.item, .int .i64 a.a.id, .int .i64 a.a.owner, .int .i64 a.a.side, .int .i64 a.a.price, .int .i64 a.a.qty, .int .i64 a.b.id, .int .i64 a.b.owner, .int .i64 a.b.side, .int .i64 a.b.price, .int .i64 a.b.qty, .int .i64 a.price, .int .i64 a.qty] 30)).heap[wr.heap.size]? = some (.cells #[.string a.kind, .int .i64 a.client, .int .i64 a.cash, .int .i64 a.stock.x, .int .i64 a.stock.y, .int .i64 a.stock.z, .int .i64 a.item, .int .i64 a.a.id, .int .i64 a.a.owner, .int .i64 a.a.side, .int .i64 a.a.price, .int .i64 a.a.qty, .int .i64 a.b.id, .int .i64 a.b.owner, .int .i64 a.b.side, .int .i64 a.b.price, .int .i64 a.b.qty, .int .i64 a.price, .int .i64 a.qty] 30 (0, 0))) := Lib.hid (by show (wr.heap.push _)[wr.heap.size]? = _; simp)
      have HB1 : Hid (Below w.heap.size w (wr.alloc (.cells #[.string a.kind, .int .i64 a.client, .int .i64 a.cash, .int .i64 a.stock.x, .int .i64 a.stock.y, .int .i64 a.stock.z, .int .i64 a.item, .int .i64 a.a.id, .int .i64 a.a.owner, .int .i64 a.a.side, .int .i64 a.a.price, .int .i64 a.a.qty, .int .i64 a.b.id, .int .i64 a.b.owner, .int .i64 a.b.side, .int .i64 a.b.price, .int .i64 a.b.qty, .int .i64 a.price, .int .i64 a.qty] 30))) := Lib.hid (HB.out.trans (Below.alloc (Below.refl _ _) hs _))
      have hs1 : w.heap.size ≤ (wr.alloc (.cells #[.string a.kind, .int .i64 a.client, .int .i64 a.cash, .int .i64 a.stock.x, .int .i64 a.stock.y, .int .i64 a.stock.z, .int .i64 a.item, .int .i64 a.a.id, .int .i64 a.a.owner, .int .i64 a.a.side, .int .i64 a.a.price, .int .i64 a.a.qty, .int .i64 a.b.id, .int .i64 a.b.owner, .int .i64 a.b.side, .int .i64 a.b.price, .int .i64 a.b.qty, .int .i64 a.price, .int .i64 a.qty] 30)).heap.size := by simp [go_sem]; omega
      have hsz1 : (wr.alloc (.cells #[.string a.kind, .int .i64 a.client, .int .i64 a.cash, .int .i64 a.stock.x, .int .i64 a.stock.y, .int .i64 a.stock.z, .int .i64 a.item, .int .i64 a.a.id, .int .i64 a.a.owner, .int .i64 a.a.side, .int .i64 a.a.price, .int .i64 a.a.qty, .int .i64 a.b.id, .int .i64 a.b.owner, .int .i64 a.b.side, .int .i64 a.b.price, .int .i64 a.b.qty, .int .i64 a.price, .int .i64 a.qty] 30)).heap.size = wr.heap.size + 1 := by simp [go_sem]
      clear HI HO HB HT hsl HE2 HRG a0 a1 a2 a3 a4 a5 a6 a7 a8 a9 a10 a11 a12 a13 a14 a15 a16 a17 a18 ho1
      go_cut [5] (fun c wx => ∃ P', c = .int .i64 (sumP P' 0) ∧ SumInv w w.heap.size p sb P' (sumP P' 2) (sumP P' 3) (sumP P' 4) wx)
      case first =>
        by_cases hgive : (a.kind.toList == [103, 105, 118, 101]) = true
        · as_aux_lemma =>
          by_cases he : giveE P a.client a.cash (fun i => if i = 0 then a.stock.x else if i = 1 then a.stock.y else a.stock.z) = 0
          · have hG := give_any HI1.out a.client a.cash (fun i => if i = 0 then a.stock.x else if i = 1 then a.stock.y else a.stock.z) E (Errs.sub HEA.out (by decide))
            rw [he, errV_zero] at hG
            have HG := Lib.hid hG
            have hgs := give_sum P a.client a.cash (fun i => if i = 0 then a.stock.x else if i = 1 then a.stock.y else a.stock.z) he
            have hgi := give_inv HPI.out a.client a.cash (fun i => if i = 0 then a.stock.x else if i = 1 then a.stock.y else a.stock.z)
            clear hG he
            generalize giveP P a.client a.cash (fun i => if i = 0 then a.stock.x else if i = 1 then a.stock.y else a.stock.z) = P' at *
            have hbd := sumP_bounds HPI.out
            have hbd' := sumP_bounds hgi
            obtain ⟨g0, g2, g3, g4⟩ := hgs
            simp only [if_true, if_false, Nat.one_ne_zero, show ¬ (2 : Nat) = 0 by decide, show ¬ (2 : Nat) = 1 by decide] at g2 g3 g4
            have c2 := hbd'.2.2 0 (by omega)
            have c3 := hbd'.2.2 1 (by omega)
            have c4 := hbd'.2.2 2 (by omega)
            have d2 := hbd.2.2 0 (by omega)
            have d3 := hbd.2.2 1 (by omega)
            have d4 := hbd.2.2 2 (by omega)
            have c0 := hbd'.1
            have c1 := hbd'.2.1
            have d0 := hbd.1
            have d1 := hbd.2.1
            simp only [Nat.reduceAdd] at c2 c3 c4 d2 d3 d4
            have G0 := Lib.hid g0
            have G2 := Lib.hid g2
            have G3 := Lib.hid g3
            have G4 := Lib.hid g4
            rw [g0] at c0 c1
            rw [g2] at c2
            rw [g3] at c3
            rw [g4] at c4
            clear hgi hbd hbd' g0 g2 g3 g4
            go_wp2_with fail
            refine HG.out.mono ?_
            rintro e w2 ⟨rfl, hT⟩
            obtain ⟨o2, hI2, hB2, ho2, hs2, hK2⟩ := hT.use HB1.out hs1 (fun b hb => by rw [HO1.out b hb]; decide)
            have HS2 : Hid (SumInv w w.heap.size p sb P' (sumP P 2) (sumP P 3) (sumP P 4) w2) := Lib.hid (SumInv.step HSL.out HO1.out HT1.out hs1 HB1.out (Ex.refl _) hT)
            have hb2 : w2.heap[wr.heap.size]? = some (.cells #[.string a.kind, .int .i64 a.client, .int .i64 a.cash, .int .i64 a.stock.x, .int .i64 a.stock.y, .int .i64 a.stock.z, .int .i64 a.item, .int .i64 a.a.id, .int .i64 a.a.owner, .int .i64 a.a.side, .int .i64 a.a.price, .int .i64 a.a.qty, .int .i64 a.b.id, .int .i64 a.b.owner, .int .i64 a.b.side, .int .i64 a.b.price, .int .i64 a.b.qty, .int .i64 a.price, .int .i64 a.qty] 30 (0, 0)) := (hK2.other (by omega) (by rw [Nat.div_one, HX1.out]; decide)).trans HBX.out
            have hne : wr.heap.size ≠ sb := by omega
            clear hI2 hB2 ho2 hs2 hK2 hT HBX HT1 HB1 HEA HI1 HX1 HSL HO1 hs1 hsz1 HG HSI
            generalize wr.heap.size = bx at *
            have q2 : w2.cell? ⟨bx, 2, none⟩ = some (.int .i64 a.cash) := by simp [World.cell?, hb2]
            have HB2 := Lib.hid hb2
            clear hb2
            go_wp2_with fail
            go_loopw [9] (fun i wz => ∃ q : Nat, q ≤ 3 ∧ i = .int .i64 q ∧ SumInv w w.heap.size p sb P' (sumP P 2 + sel q 0 a.stock.x) (sumP P 3 + sel q 1 a.stock.y) (sumP P 4 + sel q 2 a.stock.z) wz ∧ wz.heap[bx]? = some (.cells #[.string a.kind, .int .i64 a.client, .int .i64 a.cash, .int .i64 a.stock.x, .int .i64 a.stock.y, .int .i64 a.stock.z, .int .i64 a.item, .int .i64 a.a.id, .int .i64 a.a.owner, .int .i64 a.a.side, .int .i64 a.a.price, .int .i64 a.a.qty, .int .i64 a.b.id, .int .i64 a.b.owner, .int .i64 a.b.side, .int .i64 a.b.price, .int .i64 a.b.qty, .int .i64 a.price, .int .i64 a.qty] 30 (0, 0))) (fun i _ => 3 - (intOf i).toNat)
            case atStart => exact ⟨0, by omega, rfl, by simpa [sel] using HS2.out.later (by repeat (first | exact Ex.refl _ | refine Ex.alloc ?_ _ | refine Ex.ext ?_ _ _ | refine Ex.drew ?_ | refine Ex.drewN ?_ _)), HB2.out⟩
            case round =>
              obtain ⟨q, hq, rfl, hS, hbx⟩ := hrel
              have h4 : q = 0 ∨ q = 1 ∨ q = 2 ∨ q = 3 := by omega
              rcases h4 with rfl | rfl | rfl | rfl
              · replace hS : SumInv w w.heap.size p sb P' (sumP P 2) (sumP P 3) (sumP P 4) wr := by simpa [sel] using hS
                have HSQ := Lib.hid hS
                have t0 := hS.2.1.cell0
                have t1 := hS.2.1.cell1
                have t2 := hS.2.1.cell2
                have f0 := hS.2.1.frozen 0
                have htl := hS.2.1.lt
                have bq : wr.cell? ⟨bx, 3, none⟩ = some (.int .i64 a.stock.x) := by simp [World.cell?, hbx]
                have HBQ := Lib.hid hbx
                clear hS hbx
                go_wp2_with fail
                go_region
                all_goals go_wp2_with fail
                all_goals
                  go_roundw
                  case measure => simp [intOf]
                  case rel => exact ⟨1, by omega, rfl, by simpa [sel] using (HSQ.out.set hbw 0 _ (HSQ.out.2.1.set0 _)).later (by repeat (first | exact Ex.refl _ | refine Ex.alloc ?_ _ | refine Ex.ext ?_ _ _ | refine Ex.drew ?_ | refine Ex.drewN ?_ _)), (heap_setCell_other _ ⟨sb, 0, none⟩ bx _ (fun e => hne (by simpa using e))).trans HBQ.out⟩
              · replace hS : SumInv w w.heap.size p sb P' (sumP P 2 + a.stock.x) (sumP P 3) (sumP P 4) wr := by simpa [sel] using hS
                have HSQ := Lib.hid hS
                have t0 := hS.2.1.cell0
                have t1 := hS.2.1.cell1
                have t2 := hS.2.1.cell2
                have f0 := hS.2.1.frozen 1
                have htl := hS.2.1.lt
                have bq : wr.cell? ⟨bx, 4, none⟩ = some (.int .i64 a.stock.y) := by simp [World.cell?, hbx]
                have HBQ := Lib.hid hbx
                clear hS hbx
                go_wp2_with fail
                go_region
                all_goals go_wp2_with fail
                all_goals
                  go_roundw
                  case measure => simp [intOf]
                  case rel => exact ⟨2, by omega, rfl, by simpa [sel] using (HSQ.out.set hbw 1 _ (HSQ.out.2.1.set1 _)).later (by repeat (first | exact Ex.refl _ | refine Ex.alloc ?_ _ | refine Ex.ext ?_ _ _ | refine Ex.drew ?_ | refine Ex.drewN ?_ _)), (heap_setCell_other _ ⟨sb, 1, none⟩ bx _ (fun e => hne (by simpa using e))).trans HBQ.out⟩
              · replace hS : SumInv w w.heap.size p sb P' (sumP P 2 + a.stock.x) (sumP P 3 + a.stock.y) (sumP P 4) wr := by simpa [sel] using hS
                have HSQ := Lib.hid hS
                have t0 := hS.2.1.cell0
                have t1 := hS.2.1.cell1
                have t2 := hS.2.1.cell2
                have f0 := hS.2.1.frozen 2
                have htl := hS.2.1.lt
                have bq : wr.cell? ⟨bx, 5, none⟩ = some (.int .i64 a.stock.z) := by simp [World.cell?, hbx]
                have HBQ := Lib.hid hbx
                clear hS hbx
                go_wp2_with fail
                go_region
                all_goals go_wp2_with fail
                all_goals
                  go_roundw
                  case measure => simp [intOf]
                  case rel => exact ⟨3, by omega, rfl, by simpa [sel] using (HSQ.out.set hbw 2 _ (HSQ.out.2.1.set2 _)).later (by repeat (first | exact Ex.refl _ | refine Ex.alloc ?_ _ | refine Ex.ext ?_ _ _ | refine Ex.drew ?_ | refine Ex.drewN ?_ _)), (heap_setCell_other _ ⟨sb, 2, none⟩ bx _ (fun e => hne (by simpa using e))).trans HBQ.out⟩
              · replace hS : SumInv w w.heap.size p sb P' (sumP P 2 + a.stock.x) (sumP P 3 + a.stock.y) (sumP P 4 + a.stock.z) wr := by simpa [sel] using hS
                have HSQ := Lib.hid hS
                clear hS hbx
                go_wp2_with fail
                go_meet
                case rel => exact ⟨P', by rw [G0.out], by rw [G2.out, G3.out, G4.out]; exact HSQ.out.later (by repeat (first | exact Ex.refl _ | refine Ex.alloc ?_ _ | refine Ex.ext ?_ _ _ | refine Ex.drew ?_ | refine Ex.drewN ?_ _))⟩
          · have hG := give_any HI1.out a.client a.cash (fun i => if i = 0 then a.stock.x else if i = 1 then a.stock.y else a.stock.z) E (Errs.sub HEA.out (by decide))
            rw [give_keeps _ _ _ _ he, errV_pos _ _ he] at hG
            have HG := Lib.hid hG
            clear hG he
            go_wp2_with fail
            refine HG.out.mono ?_
            rintro e w2 ⟨rfl, hT⟩
            have HS2 : Hid (SumInv w w.heap.size p sb P (sumP P 2) (sumP P 3) (sumP P 4) w2) := Lib.hid (SumInv.step HSL.out HO1.out HT1.out hs1 HB1.out (Ex.refl _) hT)
            clear hT
            go_wp2_with fail
            go_meet
            case rel => exact ⟨P, rfl, HS2.out.later (by repeat (first | exact Ex.refl _ | refine Ex.alloc ?_ _ | refine Ex.ext ?_ _ _ | refine Ex.drew ?_ | refine Ex.drewN ?_ _))⟩
        · have hgive' : (a.kind.toList == [103, 105, 118, 101]) = false := by simpa using hgive
          by_cases hhold : (a.kind.toList == [104, 111, 108, 100]) = true
          · as_aux_lemma =>
            have HG := Lib.hid (hold_any HI1.out a.item a.a E (Errs.sub HEA.out (by decide)))
            have e0 := hold_sum P a.item a.a (k := 0) ⟨by decide, by decide⟩
            have e2 := hold_sum P a.item a.a (k := 2) ⟨by decide, by decide⟩
            have e3 := hold_sum P a.item a.a (k := 3) ⟨by decide, by decide⟩
            have e4 := hold_sum P a.item a.a (k := 4) ⟨by decide, by decide⟩
            generalize holdP P a.item a.a = P' at *
            have K0 := Lib.hid e0
            have K2 := Lib.hid e2
            have K3 := Lib.hid e3
            have K4 := Lib.hid e4
            clear e0 e2 e3 e4
            go_wp2_with fail
            refine HG.out.mono ?_
            rintro e w2 ⟨rfl, hT⟩
            have HS2 : Hid (SumInv w w.heap.size p sb P' (sumP P 2) (sumP P 3) (sumP P 4) w2) := Lib.hid (SumInv.step HSL.out HO1.out HT1.out hs1 HB1.out (Ex.refl _) hT)
            clear hT
            go_wp2_with fail
            go_meet
            case rel => exact ⟨P', by rw [K0.out], by rw [K2.out, K3.out, K4.out]; exact HS2.out.later (by repeat (first | exact Ex.refl _ | refine Ex.alloc ?_ _ | refine Ex.ext ?_ _ _ | refine Ex.drew ?_ | refine Ex.drewN ?_ _))⟩
          · have hhold' : (a.kind.toList == [104, 111, 108, 100]) = false := by simpa using hhold
            by_cases hfree : (a.kind.toList == [102, 114, 101, 101]) = true
            · as_aux_lemma =>
              have HG := Lib.hid (free_any HI1.out a.item a.a E (Errs.sub HEA.out (by decide)))
              have e0 := free_sum P a.item a.a (k := 0) ⟨by decide, by decide⟩
              have e2 := free_sum P a.item a.a (k := 2) ⟨by decide, by decide⟩
              have e3 := free_sum P a.item a.a (k := 3) ⟨by decide, by decide⟩
              have e4 := free_sum P a.item a.a (k := 4) ⟨by decide, by decide⟩
              generalize freeP P a.item a.a = P' at *
              have K0 := Lib.hid e0
              have K2 := Lib.hid e2
              have K3 := Lib.hid e3
              have K4 := Lib.hid e4
              clear e0 e2 e3 e4
              go_wp2_with fail
              refine HG.out.mono ?_
              rintro e w2 ⟨rfl, hT⟩
              have HS2 : Hid (SumInv w w.heap.size p sb P' (sumP P 2) (sumP P 3) (sumP P 4) w2) := Lib.hid (SumInv.step HSL.out HO1.out HT1.out hs1 HB1.out (Ex.refl _) hT)
              clear hT
              go_wp2_with fail
              go_meet
              case rel => exact ⟨P', by rw [K0.out], by rw [K2.out, K3.out, K4.out]; exact HS2.out.later (by repeat (first | exact Ex.refl _ | refine Ex.alloc ?_ _ | refine Ex.ext ?_ _ _ | refine Ex.drew ?_ | refine Ex.drewN ?_ _))⟩
            · as_aux_lemma =>
              have hfree' : (a.kind.toList == [102, 114, 101, 101]) = false := by simpa using hfree
              have HG := Lib.hid (trade_any HI1.out a.item a.a a.b a.price a.qty E HEA.out)
              have e0 := trade_sum P a.item a.a a.b a.price a.qty (k := 0) ⟨by decide, by decide⟩
              have e2 := trade_sum P a.item a.a a.b a.price a.qty (k := 2) ⟨by decide, by decide⟩
              have e3 := trade_sum P a.item a.a a.b a.price a.qty (k := 3) ⟨by decide, by decide⟩
              have e4 := trade_sum P a.item a.a a.b a.price a.qty (k := 4) ⟨by decide, by decide⟩
              generalize (if tradeE P a.item a.a a.b a.price a.qty = 0 then tradeF P a.a.owner.toNat a.b.owner.toNat a.item.toNat (a.a.price * a.qty) (a.price * a.qty) a.qty else P) = P' at *
              have K0 := Lib.hid e0
              have K2 := Lib.hid e2
              have K3 := Lib.hid e3
              have K4 := Lib.hid e4
              clear e0 e2 e3 e4
              go_wp2_with fail
              refine HG.out.mono ?_
              rintro e w2 ⟨rfl, hT⟩
              have HS2 : Hid (SumInv w w.heap.size p sb P' (sumP P 2) (sumP P 3) (sumP P 4) w2) := Lib.hid (SumInv.step HSL.out HO1.out HT1.out hs1 HB1.out (Ex.refl _) hT)
              clear hT
              go_wp2_with fail
              go_meet
              case rel => exact ⟨P', by rw [K0.out], by rw [K2.out, K3.out, K4.out]; exact HS2.out.later (by repeat (first | exact Ex.refl _ | refine Ex.alloc ?_ _ | refine Ex.ext ?_ _ _ | refine Ex.drew ?_ | refine Ex.drewN ?_ _))⟩
      case rest =>
        obtain ⟨P', rfl, hS⟩ := hcut
        obtain ⟨wb, rfl⟩ : ∃ x, x = wc := ⟨_, rfl⟩
        have HS3 := Lib.hid hS
        have HP3 := Lib.hid hS.1.choose_spec.1.2.1
        clear hS HI1 HO1 HSL HX1 HEA HT1 HBX HB1 HSI HPI
        go_wp2_with fail
        go_loopw [10] (fun i wz => ∃ q : Nat, q ≤ 6 ∧ i = .int .i64 q ∧ SumInv w w.heap.size p sb P' (sumP P' 2) (sumP P' 3) (sumP P' 4) wz) (fun i _ => 6 - (intOf i).toNat)
        case atStart => exact ⟨0, by omega, rfl, HS3.out.later (by repeat (first | exact Ex.refl _ | refine Ex.alloc ?_ _ | refine Ex.ext ?_ _ _ | refine Ex.drew ?_ | refine Ex.drewN ?_ _))⟩
        case round =>
          obtain ⟨c, hc, rfl, hS⟩ := hrel
          have HS4 := Lib.hid hS
          clear hS
          by_cases hc6 : c < 6
          · as_aux_lemma =>
            have HOF := Lib.hid (of_in HS4.out.1.choose_spec.1 c hc6)
            obtain ⟨k1, k2, k3, k4⟩ := HP3.out c hc6
            have m0 := k4 0 (by omega)
            have m1 := k4 1 (by omega)
            have m2 := k4 2 (by omega)
            simp only [Nat.reduceAdd] at m0 m1 m2
            clear k4
            go_upto_region 32 with (go_at_call 17; refine HOF.out.mono ?_; rintro e w2 ⟨rfl, l7, d7, rfl⟩)
            refine wp_world (R := fun W => SumInv w w.heap.size p sb P' (sumP P' 2) (sumP P' 3) (sumP P' 4) W ∧ W.heap[wr.heap.size + l7.length]? = some (.cells #[.int .i64 (P' c 0), .int .i64 (P' c 1), .int .i64 (P' c 2), .int .i64 (P' c 3), .int .i64 (P' c 4), .int .i64 (P' c 5), .int .i64 (P' c 6), .int .i64 (P' c 7)] 36 (0, 0))) ⟨HS4.out.later (by repeat (first | exact Ex.refl _ | refine Ex.alloc ?_ _ | refine Ex.ext ?_ _ _ | refine Ex.drew ?_ | refine Ex.drewN ?_ _)), by
              rw [← ext_size wr l7 d7]; show ((Proofs.YtfeeibealokhfaaDoor.ext wr l7 d7).heap.push _)[(Proofs.YtfeeibealokhfaaDoor.ext wr l7 d7).heap.size]? = _; simp⟩ ?_
            generalize wr.heap.size + l7.length = bx at *
            rintro wz ⟨hS5, hb5⟩
            have HS5 := Lib.hid hS5
            have HB5 := Lib.hid hb5
            clear hS5 hb5
            go_wp2_with fail
            go_loopw [12] (fun i wy => ∃ q : Nat, q ≤ 3 ∧ i = .int .i64 q ∧ SumInv w w.heap.size p sb P' (sumP P' 2) (sumP P' 3) (sumP P' 4) wy ∧ wy.heap[bx]? = some (.cells #[.int .i64 (P' c 0), .int .i64 (P' c 1), .int .i64 (P' c 2), .int .i64 (P' c 3), .int .i64 (P' c 4), .int .i64 (P' c 5), .int .i64 (P' c 6), .int .i64 (P' c 7)] 36 (0, 0))) (fun i _ => 3 - (intOf i).toNat)
            case atStart => exact ⟨0, by omega, rfl, HS5.out.later (by repeat (first | exact Ex.refl _ | refine Ex.alloc ?_ _ | refine Ex.ext ?_ _ _ | refine Ex.drew ?_ | refine Ex.drewN ?_ _)), HB5.out⟩
            case round =>
              obtain ⟨q, hq, rfl, hS, hbx2⟩ := hrel
              have h4 : q = 0 ∨ q = 1 ∨ q = 2 ∨ q = 3 := by omega
              rcases h4 with rfl | rfl | rfl | rfl
              · have v2 : wr.cell? ⟨bx, 2, none⟩ = some (.int .i64 (P' c 2)) := by simp [World.cell?, hbx2]
                have v5 : wr.cell? ⟨bx, 5, none⟩ = some (.int .i64 (P' c 5)) := by simp [World.cell?, hbx2]
                have n1 : decide (P' c 5 < 0) = false := decide_eq_false (by omega)
                have n2 : decide (P' c 2 < P' c 5) = false := decide_eq_false (by omega)
                have n3 : decide (1073741824 < P' c 2) = false := decide_eq_false (by omega)
                have HSQ := Lib.hid hS
                have HBQ := Lib.hid hbx2
                clear hS hbx2
                go_wp2_with fail
                go_quiet (fail)
                all_goals go_wp2_with fail
                all_goals
                  go_roundw
                  case measure => simp [intOf]
                  case rel => exact ⟨1, by omega, rfl, HSQ.out.later (by repeat (first | exact Ex.refl _ | refine Ex.alloc ?_ _ | refine Ex.ext ?_ _ _ | refine Ex.drew ?_ | refine Ex.drewN ?_ _)), HBQ.out⟩
              · have v2 : wr.cell? ⟨bx, 3, none⟩ = some (.int .i64 (P' c 3)) := by simp [World.cell?, hbx2]
                have v5 : wr.cell? ⟨bx, 6, none⟩ = some (.int .i64 (P' c 6)) := by simp [World.cell?, hbx2]
                have n1 : decide (P' c 6 < 0) = false := decide_eq_false (by omega)
                have n2 : decide (P' c 3 < P' c 6) = false := decide_eq_false (by omega)
                have n3 : decide (1073741824 < P' c 3) = false := decide_eq_false (by omega)
                have HSQ := Lib.hid hS
                have HBQ := Lib.hid hbx2
                clear hS hbx2
                go_wp2_with fail
                go_quiet (fail)
                all_goals go_wp2_with fail
                all_goals
                  go_roundw
                  case measure => simp [intOf]
                  case rel => exact ⟨2, by omega, rfl, HSQ.out.later (by repeat (first | exact Ex.refl _ | refine Ex.alloc ?_ _ | refine Ex.ext ?_ _ _ | refine Ex.drew ?_ | refine Ex.drewN ?_ _)), HBQ.out⟩
              · have v2 : wr.cell? ⟨bx, 4, none⟩ = some (.int .i64 (P' c 4)) := by simp [World.cell?, hbx2]
                have v5 : wr.cell? ⟨bx, 7, none⟩ = some (.int .i64 (P' c 7)) := by simp [World.cell?, hbx2]
                have n1 : decide (P' c 7 < 0) = false := decide_eq_false (by omega)
                have n2 : decide (P' c 4 < P' c 7) = false := decide_eq_false (by omega)
                have n3 : decide (1073741824 < P' c 4) = false := decide_eq_false (by omega)
                have HSQ := Lib.hid hS
                have HBQ := Lib.hid hbx2
                clear hS hbx2
                go_wp2_with fail
                go_quiet (fail)
                all_goals go_wp2_with fail
                all_goals
                  go_roundw
                  case measure => simp [intOf]
                  case rel => exact ⟨3, by omega, rfl, HSQ.out.later (by repeat (first | exact Ex.refl _ | refine Ex.alloc ?_ _ | refine Ex.ext ?_ _ _ | refine Ex.drew ?_ | refine Ex.drewN ?_ _)), HBQ.out⟩
              · have HSQ := Lib.hid hS
                clear hS hbx2
                go_wp2_with fail
                go_roundw
                case measure => simp [intOf]; omega
                case rel => exact ⟨c + 1, by omega, by go_num, HSQ.out.later (by repeat (first | exact Ex.refl _ | refine Ex.alloc ?_ _ | refine Ex.ext ?_ _ _ | refine Ex.drew ?_ | refine Ex.drewN ?_ _))⟩
          · obtain rfl : c = 6 := by omega
            go_wp2_with fail
            go_roundw
            case measure => simp [intOf]; omega
            case rel => exact ⟨k + 1, P', by omega, by go_num, rfl, HS4.out.later (by repeat (first | exact Ex.refl _ | refine Ex.alloc ?_ _ | refine Ex.ext ?_ _ _ | refine Ex.drew ?_ | refine Ex.drewN ?_ _))⟩
    · as_aux_lemma =>
      obtain rfl : k = len := by omega
      have HTT := Lib.hid (total_any hI)
      have t0 := htri.cell0
      have t1 := htri.cell1
      have t2 := htri.cell2
      have htl := htri.lt
      have heq := fun w => eqTri (sumP P 2) (sumP P 3) (sumP P 4) w
      clear hI htri hB hsl ho
      go_wp2_with (go_at_call 35; refine HTT.out.mono ?_; rintro e w2 ⟨rfl, l7, d7, rfl⟩)
      all_goals go_ret
      all_goals exact ⟨rfl, HSI.out.2.2.2.trans (Ex.below (by repeat (first | exact Ex.refl _ | refine Ex.alloc ?_ _ | refine Ex.ext ?_ _ _ | refine Ex.drew ?_ | refine Ex.drewN ?_ _)) |>.mono hs)⟩
end Go.Proofs.YtfeeibealokhfaaDoor
