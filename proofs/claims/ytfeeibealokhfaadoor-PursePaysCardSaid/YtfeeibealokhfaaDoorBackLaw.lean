/- The walk of PurseBack. -/
import Derived.Test.YtfeeibealokhfaaDoorPursed
import Derived.Test.YtfeeibealokhfaaDoorPCopy
import Derived.Test.YtfeeibealokhfaaDoorPays
import Derived.Deep.MidRow
set_option linter.unusedSimpArgs false
set_option linter.unusedVariables false
namespace Go.Proofs.YtfeeibealokhfaaDoor
open Go.RowKit

theorem zeroPay (w : World) : (zeroValue 30).run Tryd.prog w = .ok (.agg #[.string ByteArray.empty, .int .i64 0, .int .i64 0, .int .i64 0, .int .i64 0, .int .i64 0, .int .i64 0, .int .i64 0, .int .i64 0, .int .i64 0, .int .i64 0, .int .i64 0, .int .i64 0, .int .i64 0, .int .i64 0, .int .i64 0, .int .i64 0, .int .i64 0, .int .i64 0]) w := by kernel_rfl
theorem sizePay : (Tryd.prog.info? 30).map (·.size) = some 19 := by kernel_rfl

theorem of_at {own : Nat → Nat} {i : Nat} {w : World} {p : Nat} {P : Pu} (h : PurseAt own i w p P) (c : Nat) (hc : c < 6) (n : Int) (hn : n = (c : Int)) : Calls Tryd.prog 17 #[.pointer (some ⟨p, 0, none⟩), .int .i64 n] w fun e w' => e = .returned (hasV P c) ∧ Ex w w' := by
  subst hn
  exact of_in h c hc
def FinInv (w : World) (p q : Nat) (P' P : Pu) (wr : World) : Prop := ∃ o, PurseAt o 1 wr p P' ∧ PurseAt o 2 wr q P ∧ w.heap.size ≤ wr.heap.size ∧ Below w.heap.size w wr
theorem FinInv.later {w : World} {p q : Nat} {P' P : Pu} {wr w' : World} (h : FinInv w p q P' P wr) (hx : Ex wr w') : FinInv w p q P' P w' := by
  obtain ⟨o, h1, h2, h3, h4⟩ := h
  exact ⟨o, h1.later hx, h2.later hx, Nat.le_trans h3 hx.below.size, h4.trans (hx.below.mono h3)⟩
theorem FinInv.of_free {w W : World} {o : Nat → Nat} {p q k : Nat} {u : World} {P' P : Pu} (hQ : PurseAt o 2 W q P) (hI : PurseAt (lab o W.heap.size k 1) 1 (ov W o 1 1 k u) p P') (h0 : ∀ b, b < w.heap.size → o b = 0) (hs : w.heap.size ≤ W.heap.size) (hB : Below w.heap.size w W) : FinInv w p q P' P (ov W o 1 1 k u) :=
  ⟨_, hI, hQ.kp (ov_kp _ _ _ _ _ _) (by decide) (fun n hn e => by rw [lab_lt hn]; exact e), by rw [ov_size]; omega, Below.ov hB _ _ _ _ _ (fun n hn => by rw [Nat.div_one, h0 n hn]; decide) hs⟩
def BackInv (w0 : World) (B p : Nat) (wr : World) : Prop :=
  ∃ own P, PurseAt own 1 wr p P ∧ (∀ b, b < B → own b = 0) ∧ B ≤ wr.heap.size ∧ Below B w0 wr
theorem BackInv.step {w0 : World} {B p : Nat} {own : Nat → Nat} {P' : Pu} {wr w' wa : World} (ho : ∀ b, b < B → own b = 0) (hs : B ≤ wr.heap.size) (hB : Below B w0 wr) (hx : Ex wr wa) (hT : ObjTo own 1 1 wa (fun o w' => PurseAt o 1 w' p P') w') : BackInv w0 B p w' := by
  have hz := hx.below.size
  obtain ⟨o2, hI, hB2, ho2, hs2, _⟩ := hT.use (B := B) (a := w0) (hB.trans (hx.below.mono hs)) (by omega) (fun b hb => by rw [ho b hb]; decide)
  exact ⟨o2, P', hI, fun b hb => by rw [ho2 b (by omega)]; exact ho b hb, by omega, hB2⟩
theorem BackInv.later {w0 : World} {B p : Nat} {wr w' : World} (h : BackInv w0 B p wr) (hx : Ex wr w') : BackInv w0 B p w' := by
  obtain ⟨own, P, h1, h2, h3, h4⟩ := h
  exact ⟨own, P, h1.later hx, h2, Nat.le_trans h3 hx.below.size, h4.trans (hx.below.mono h3)⟩

theorem free_hold {P : Pu} (h : PInv P) {item : Int} {x : Lot} (he : holdE P item x = 0) : freeE (holdP P item x) item x = 0 ∧ (∀ c j, freeP (holdP P item x) item x c j = P c j) ∧ sameB (holdP P item x) P x.owner.toNat x.owner.toNat = false := by
  have hp : holdP P item x = (if x.side = 0 then P.set x.owner.toNat 1 (P x.owner.toNat 1 + x.price * x.qty) else P.set x.owner.toNat (5 + item.toNat) (P x.owner.toNat (5 + item.toNat) + x.qty)) := by unfold holdP; rw [if_pos he]
  unfold holdE at he
  split at he
  · rename_i hr
    have hr' := hr
    simp only [rightB, Bool.and_eq_true] at hr'
    obtain ⟨hi0, hi2⟩ := inR_iff.1 hr'.1
    obtain ⟨_, ho, hs, hpr, hq⟩ := Lot.ok_iff hr'.2
    obtain ⟨a1, a2, a3, a4⟩ := h x.owner.toNat (by omega)
    have hm := mul_bd hpr.1 hpr.2 hq.1 hq.2
    have a5 := a4 item.toNat (by omega)
    split at he
    · rename_i hs0
      rw [if_pos hs0] at hp
      rw [hp]
      have e1 : freeE (P.set x.owner.toNat 1 (P x.owner.toNat 1 + x.price * x.qty)) item x = 0 := by
        unfold freeE
        rw [if_pos hr, if_pos hs0, if_neg (by simp only [Pu.set, and_self, if_true]; omega)]
      refine ⟨e1, fun c j => ?_, ?_⟩
      · unfold freeP
        rw [if_pos e1, if_pos hs0]
        unfold Pu.set
        by_cases e : c = x.owner.toNat ∧ j = 1
        · obtain ⟨rfl, rfl⟩ := e; simp
        · simp [e]
      · cases hb : sameB (P.set x.owner.toNat 1 (P x.owner.toNat 1 + x.price * x.qty)) P x.owner.toNat x.owner.toNat
        · rfl
        · have := (sameB_iff _ _ _ _).1 hb 1 (by omega)
          simp only [Pu.set, and_self, if_true] at this
          omega
    · rename_i hs0
      rw [if_neg hs0] at hp
      rw [hp]
      have e1 : freeE (P.set x.owner.toNat (5 + item.toNat) (P x.owner.toNat (5 + item.toNat) + x.qty)) item x = 0 := by
        unfold freeE
        rw [if_pos hr, if_neg hs0, if_neg (by simp only [Pu.set, and_self, if_true]; omega)]
      refine ⟨e1, fun c j => ?_, ?_⟩
      · unfold freeP
        rw [if_pos e1, if_neg hs0]
        unfold Pu.set
        by_cases e : c = x.owner.toNat ∧ j = 5 + item.toNat
        · obtain ⟨rfl, rfl⟩ := e; simp
        · simp [e]
      · cases hb : sameB (P.set x.owner.toNat (5 + item.toNat) (P x.owner.toNat (5 + item.toNat) + x.qty)) P x.owner.toNat x.owner.toNat
        · rfl
        · have := (sameB_iff _ _ _ _).1 hb (5 + item.toNat) (by omega)
          simp only [Pu.set, and_self, if_true] at this
          omega
  · cases he

set_option maxRecDepth 100000 in
set_option maxHeartbeats 4000000 in
theorem purseBack_ok (ao : Option Addr) (len cap : Nat) (l : List Pay) (item : Int) (x : Lot) (E : Nat → Addr) (w : World) (hE : Errs E [2, 8, 10] w) (hA : PaysAt w ao len l) (hlen : len ≤ 60) :
    Calls Tryd.prog 3 #[.slice ao len cap, .int .i64 item, x.val] w fun e w' => e = .returned (.bool true) ∧ Below w.heap.size w w' := by
  obtain ⟨hL, _, hwf, hz⟩ := hA
  have HZ := Lib.hid hz
  have HL := Lib.hid hL
  have HN := Lib.hid (fun w => purseNew (fun _ => 0) 1 w)
  have HER := Lib.hid hE
  have hb1 : decide ((60 : Int) < (len : Int)) = false := decide_eq_false (by omega)
  have HPU := Lib.hid (fun w h => pursed_any w E h)
  clear hz hL hwf hE
  go_enter Tryd.func3, Tryd.ntmps3
  go_wp2_with (go_at_call 12; refine (HPU.out _ (by exact HER.out.ex (by repeat (first | exact Ex.refl _ | refine Ex.alloc ?_ _ | refine Ex.ext ?_ _ _ | refine Ex.drew ?_ | refine Ex.drewN ?_ _)))).mono ?_; rintro e w1 ⟨rfl, l1, d1, rfl⟩)
  go_wp2_with (go_at_call 13; refine (HN.out _).mono ?_; rintro e wn ⟨rfl, hT⟩)
  have hx1 : Ex w (ext (w.alloc (.cells #[.int .i64 x.id, .int .i64 x.owner, .int .i64 x.side, .int .i64 x.price, .int .i64 x.qty] 24)) l1 d1) := (by repeat (first | exact Ex.refl _ | refine Ex.alloc ?_ _ | refine Ex.ext ?_ _ _ | refine Ex.drew ?_ | refine Ex.drewN ?_ _))
  have hP0 : BackInv (w.alloc (.cells #[.int .i64 x.id, .int .i64 x.owner, .int .i64 x.side, .int .i64 x.price, .int .i64 x.qty] 24)) (w.heap.size + 1) (w.heap.size + 1 + l1.length) wn := by
    have h := BackInv.step (own := fun _ => 0) (B := w.heap.size + 1) (fun b hb => rfl) (by simp) (Below.refl _ _) ⟨l1, d1, rfl⟩ hT
    simpa [ext_size] using h
  have HP0 := Lib.hid hP0
  clear hT hP0 hx1
  generalize w.heap.size + 1 + l1.length = p at *
  go_wp2_with fail
  go_loopw [9] (fun i wr => ∃ k : Nat, k ≤ len ∧ i = .int .i64 k ∧ BackInv (w.alloc (.cells #[.int .i64 x.id, .int .i64 x.owner, .int .i64 x.side, .int .i64 x.price, .int .i64 x.qty] 24)) (w.heap.size + 1) p wr) (fun i _ => len - (intOf i).toNat)
  case atStart => exact ⟨0, by omega, rfl, HP0.out⟩
  case round =>
    obtain ⟨k, hk, rfl, hbi⟩ := hrel
    have HBI := Lib.hid hbi
    obtain ⟨own, P, hI, ho, hs, hB⟩ := hbi
    by_cases hlt : k < len
    · obtain ⟨b, off, rfl, hbs, hzz⟩ := HZ.out (by omega)
      have hzk := hzz k (by rw [HL.out]; exact hlt)
      clear hzz
      have hcx : ∀ j, j < 19 → wr.cell? ⟨b, off + k * 19 + j, none⟩ = (l[k]'(by rw [HL.out]; exact hlt)).cells[j]? := fun j hj => (hB.cell (p := ⟨b, off + k * 19 + j, none⟩) (by show b < _; omega)).trans ((World.cell?_alloc_old w _ ⟨b, off + k * 19 + j, none⟩ (by show b ≠ _; omega)).trans (hzk j hj))
      clear hzk
      generalize l[k]'(by rw [HL.out]; exact hlt) = a at hcx
      have a0 := hcx 0 (by omega)
      have a1 := hcx 1 (by omega)
      have a2 := hcx 2 (by omega)
      have a3 := hcx 3 (by omega)
      have a4 := hcx 4 (by omega)
      have a5 := hcx 5 (by omega)
      have a6 := hcx 6 (by omega)
      have a7 := hcx 7 (by omega)
      have a8 := hcx 8 (by omega)
      have a9 := hcx 9 (by omega)
      have a10 := hcx 10 (by omega)
      have a11 := hcx 11 (by omega)
      have a12 := hcx 12 (by omega)
      have a13 := hcx 13 (by omega)
      have a14 := hcx 14 (by omega)
      have a15 := hcx 15 (by omega)
      have a16 := hcx 16 (by omega)
      have a17 := hcx 17 (by omega)
      have a18 := hcx 18 (by omega)
      simp only [Pay.cells, Tri.cells, Lot.cells, List.cons_append, List.nil_append, List.getElem?_cons_zero, List.getElem?_cons_succ, Nat.add_zero] at a0 a1 a2 a3 a4 a5 a6 a7 a8 a9 a10 a11 a12 a13 a14 a15 a16 a17 a18
      have hE2 : Errs E [2, 8, 10] wr := HER.out.ex ((Ex.alloc (Ex.refl _) _).trans (Ex.of (hB.mono (by simp))))
      have HI := Lib.hid hI
      have HO := Lib.hid ho
      have HB := Lib.hid hB
      have HE2 := Lib.hid hE2
      clear hI ho hB hE2
      have hrange : wr.rangeAt b (off + k * 19) a.cells := fun j v hj => (hcx j (by have := (List.getElem?_eq_some_iff.1 hj).1; simpa [Pay.cells] using this)).trans hj
      have HRG := Lib.hid hrange
      clear hcx hrange
      go_upto_region 12 with (first
        | (refine wpList_load_mid rfl 30 (.tmp 34) rfl b (off + k * 19) rfl a.cells _ HRG.out Tryd.underlying30 rfl sizePay ?_)
        | (with_reducible refine wpList_alloc_row rfl 30 rfl _ _ zeroPay rfl ?_)
        | (refine wpList_store_fresh rfl 30 (.tmp 10) (.tmp 35) rfl (#[.string ByteArray.empty, .int .i64 0, .int .i64 0, .int .i64 0, .int .i64 0, .int .i64 0, .int .i64 0, .int .i64 0, .int .i64 0, .int .i64 0, .int .i64 0, .int .i64 0, .int .i64 0, .int .i64 0, .int .i64 0, .int .i64 0, .int .i64 0, .int .i64 0, .int .i64 0]) #[.string a.kind, .int .i64 a.client, .int .i64 a.cash, .int .i64 a.stock.x, .int .i64 a.stock.y, .int .i64 a.stock.z, .int .i64 a.item, .int .i64 a.a.id, .int .i64 a.a.owner, .int .i64 a.a.side, .int .i64 a.a.price, .int .i64 a.a.qty, .int .i64 a.b.id, .int .i64 a.b.owner, .int .i64 a.b.side, .int .i64 a.b.price, .int .i64 a.b.qty, .int .i64 a.price, .int .i64 a.qty] 30 rfl rfl sizePay rfl (by simp [Value.oneCell']) ?_))
      by_cases hgive : (a.kind.toList == [103, 105, 118, 101]) = true
      · as_aux_lemma =>
        have HG := Lib.hid (give_any (HI.out.alloc (.cells #[.string a.kind, .int .i64 a.client, .int .i64 a.cash, .int .i64 a.stock.x, .int .i64 a.stock.y, .int .i64 a.stock.z, .int .i64 a.item, .int .i64 a.a.id, .int .i64 a.a.owner, .int .i64 a.a.side, .int .i64 a.a.price, .int .i64 a.a.qty, .int .i64 a.b.id, .int .i64 a.b.owner, .int .i64 a.b.side, .int .i64 a.b.price, .int .i64 a.b.qty, .int .i64 a.price, .int .i64 a.qty] 30)) a.client a.cash (fun i => if i = 0 then a.stock.x else if i = 1 then a.stock.y else a.stock.z) E (Errs.sub (HE2.out.ex (Ex.alloc (Ex.refl _) _)) (by decide)))
        go_wp2_with fail
        refine HG.out.mono ?_
        rintro e w2 ⟨rfl, hT⟩
        have HK := Lib.hid (BackInv.step HO.out hs HB.out (Ex.alloc (Ex.refl _) _) hT)
        clear hT
        go_wp2_with fail
        all_goals
          go_roundw
          case measure => simp [intOf]; omega
          case rel => exact ⟨k + 1, by omega, by go_num, HK.out⟩
      · have hgive' : (a.kind.toList == [103, 105, 118, 101]) = false := by simpa using hgive
        by_cases hhold : (a.kind.toList == [104, 111, 108, 100]) = true
        · as_aux_lemma =>
          have HG := Lib.hid (hold_any (HI.out.alloc (.cells #[.string a.kind, .int .i64 a.client, .int .i64 a.cash, .int .i64 a.stock.x, .int .i64 a.stock.y, .int .i64 a.stock.z, .int .i64 a.item, .int .i64 a.a.id, .int .i64 a.a.owner, .int .i64 a.a.side, .int .i64 a.a.price, .int .i64 a.a.qty, .int .i64 a.b.id, .int .i64 a.b.owner, .int .i64 a.b.side, .int .i64 a.b.price, .int .i64 a.b.qty, .int .i64 a.price, .int .i64 a.qty] 30)) a.item a.a E (Errs.sub (HE2.out.ex (Ex.alloc (Ex.refl _) _)) (by decide)))
          go_wp2_with fail
          refine HG.out.mono ?_
          rintro e w2 ⟨rfl, hT⟩
          have HK := Lib.hid (BackInv.step HO.out hs HB.out (Ex.alloc (Ex.refl _) _) hT)
          clear hT
          go_wp2_with fail
          all_goals
            go_roundw
            case measure => simp [intOf]; omega
            case rel => exact ⟨k + 1, by omega, by go_num, HK.out⟩
        · as_aux_lemma =>
          have hhold' : (a.kind.toList == [104, 111, 108, 100]) = false := by simpa using hhold
          go_wp2_with fail
          all_goals
            go_roundw
            case measure => simp [intOf]; omega
            case rel => exact ⟨k + 1, by omega, by go_num, HBI.out.later (by repeat (first | exact Ex.refl _ | refine Ex.alloc ?_ _ | refine Ex.ext ?_ _ _ | refine Ex.drew ?_ | refine Ex.drewN ?_ _))⟩
    · have HI := Lib.hid hI
      have HO := Lib.hid ho
      have HB := Lib.hid hB
      have HC := Lib.hid (pcopy_any hI)
      clear hI ho hB
      go_wp2_with fail
      refine HC.out.mono ?_
      rintro e wq ⟨rfl, hxq, hsq, t, hrow⟩
      have hbx := hxq.below
      have P1 : PurseAt (fun b => if b = wr.heap.size then 2 else own b) 1 wq p P := (HI.out.relabel (fun n hn e => by simp [show n ≠ wr.heap.size by omega, e])).later hxq
      have Q1 : PurseAt (fun b => if b = wr.heap.size then 2 else own b) 2 wq wr.heap.size P := ⟨by simp, HI.out.2.1, t, hrow⟩
      have hBq : Below (w.heap.size + 1) (w.alloc (.cells #[.int .i64 x.id, .int .i64 x.owner, .int .i64 x.side, .int .i64 x.price, .int .i64 x.qty] 24)) wq := HB.out.trans (hbx.mono hs)
      have hoz : ∀ b, b < w.heap.size + 1 → (fun b => if b = wr.heap.size then 2 else own b) b = 0 := fun b hb => by
        show (if b = wr.heap.size then 2 else own b) = 0
        rw [if_neg (by omega)]
        exact HO.out b hb
      generalize (fun b => if b = wr.heap.size then 2 else own b) = o2 at *
      have hsq2 : w.heap.size + 1 ≤ wq.heap.size := by omega
      generalize hq : wr.heap.size = q at *
      have hxc : ∀ j, wq.cell? ⟨w.heap.size, j, none⟩ = (#[.int .i64 x.id, .int .i64 x.owner, .int .i64 x.side, .int .i64 x.price, .int .i64 x.qty] : Array Value)[j]? := fun j => (hBq.cell (p := ⟨w.heap.size, j, none⟩) (by show w.heap.size < _; omega)).trans (by simp [go_sem])
      have x0 := hxc 0
      have x1 := hxc 1
      have x2 := hxc 2
      have x3 := hxc 3
      have x4 := hxc 4
      simp only [List.getElem?_toArray, List.getElem?_cons_zero, List.getElem?_cons_succ] at x0 x1 x2 x3 x4
      have HE3 : Hid (Errs E [2, 8, 10] wq) := Lib.hid (HER.out.ex ((Ex.alloc (Ex.refl _) _).trans (Ex.of (hBq.mono (by simp)))))
      have hH := hold_any P1 item x E (Errs.sub HE3.out (by decide))
      have hBw : Below w.heap.size w wq := ((Below.refl _ _).alloc (Nat.le_refl _) _).trans (hBq.mono (by omega))
      by_cases he : holdE P item x = 0
      · rw [he, errV_zero] at hH
        have HH := Lib.hid hH
        have HEQ := Lib.hid he
        have HP1 := Lib.hid P1
        have HQ1 := Lib.hid Q1
        have HBq := Lib.hid hBq
        have HBw := Lib.hid hBw
        have HOZ := Lib.hid hoz
        clear hH he P1 Q1 hBq hBw hoz hxc hbx hxq hrow hq
        go_wp2_with fail
        refine HH.out.mono ?_
        rintro e wh ⟨rfl, hT⟩
        obtain ⟨o3, hP3, hB3, ho3, hs3, hK3⟩ := hT.use HBw.out (by omega) (fun b hb => by rw [HOZ.out b (by omega)]; decide)
        have hz3 : o3 w.heap.size = 0 := by rw [ho3 _ (by omega)]; exact HOZ.out _ (by omega)
        have hQ3 := HQ1.out.kp hK3 (by decide) (own' := o3) (fun n hn e => by rw [ho3 n hn]; exact e)
        have hxk : ∀ j, wh.cell? ⟨w.heap.size, j, none⟩ = wq.cell? ⟨w.heap.size, j, none⟩ := fun j => World.cell?_of_block (a := ⟨w.heap.size, j, none⟩) (hK3.other (k := w.heap.size) (by omega) (by rw [Nat.div_one, HOZ.out _ (by omega)]; decide))
        replace x0 := (hxk 0).trans x0
        replace x1 := (hxk 1).trans x1
        replace x2 := (hxk 2).trans x2
        replace x3 := (hxk 3).trans x3
        replace x4 := (hxk 4).trans x4
        obtain ⟨f1, f2, f3⟩ := free_hold HP1.out.2.1 HEQ.out
        have hr : rightB item x = true := by
          cases h : rightB item x
          · have h2 := HEQ.out; unfold holdE at h2; rw [h] at h2; cases h2
          · rfl
        have hr' := hr
        simp only [rightB, Bool.and_eq_true] at hr'
        obtain ⟨_, hown, _, _, _⟩ := Lot.ok_iff hr'.2
        obtain ⟨oc, hoc⟩ : ∃ oc : Nat, x.owner = (oc : Int) := ⟨x.owner.toNat, by omega⟩
        have hoc6 : oc < 6 := by omega
        rw [show x.owner.toNat = oc by omega] at f3
        have hq1 := fun w => (eqHas (holdP P item x) P oc oc w).trans (by rw [f3] : _ = Result.ok (.bool false) w)
        have HS : Hid (∀ c, c < 6 → sameB (freeP (holdP P item x) item x) P c c = true) := Lib.hid (fun c _ => (sameB_iff _ _ _ _).2 (fun j _ => f2 c j))
        have HOP := Lib.hid (fun w' (hx : Ex wh w') => of_at (hP3.later hx) oc hoc6 x.owner hoc)
        have HOQ := Lib.hid (fun w' (hx : Ex wh w') => of_at (hQ3.later hx) oc hoc6 x.owner hoc)
        have HFR : Hid (∀ w', Ex wh w' → Calls Tryd.prog 18 #[.pointer (some ⟨p, 0, none⟩), .int .i64 item, x.val] w' fun e w'' => e = .returned .nilIface ∧ ObjTo o3 1 1 w' (fun o w' => PurseAt o 1 w' p (freeP (holdP P item x) item x)) w'') := Lib.hid (fun w' hx => by
          have h := free_any (hP3.later hx) item x E (Errs.sub ((HER.out.ex (Ex.of hB3)).ex hx) (by decide))
          rw [f1, errV_zero] at h
          exact h)
        have HQ3 := Lib.hid hQ3
        have HB3 := Lib.hid hB3
        have HZ3 : Hid (∀ b, b < w.heap.size → o3 b = 0) := Lib.hid (fun b hb => by rw [ho3 b (by omega)]; exact HOZ.out b (by omega))
        have hws : w.heap.size < wh.heap.size := by omega
        clear hT hP3 hQ3 hB3 ho3 hK3 hxk f1 f2 f3 hr hr' hoc
        generalize freeP (holdP P item x) item x = P2 at *
        generalize holdP P item x = P' at *
        go_wp2_with fail
        go_region_held3 (fun w' => w'.cell? ⟨w.heap.size, 0, none⟩ = some (.int .i64 x.id) ∧ w'.cell? ⟨w.heap.size, 1, none⟩ = some (.int .i64 x.owner) ∧ w'.cell? ⟨w.heap.size, 2, none⟩ = some (.int .i64 x.side) ∧ w'.cell? ⟨w.heap.size, 3, none⟩ = some (.int .i64 x.price) ∧ w'.cell? ⟨w.heap.size, 4, none⟩ = some (.int .i64 x.qty))
          (first | (refine ⟨?_, ?_, ?_, ?_, ?_⟩ <;> assumption) | (simp [go_sem, ↓IntWalk.iteOmega, *]; done))
          (first
            | (go_at_call 17; ((with_reducible refine (HOP.out _ ?_).mono ?_); (focus exact (by repeat (first | exact Ex.refl _ | refine Ex.alloc ?_ _ | refine Ex.ext ?_ _ _ | refine Ex.drew ?_ | refine Ex.drewN ?_ _)))); rintro e w5 ⟨rfl, l5, d5, rfl⟩)
            | (go_at_call 17; ((with_reducible refine (HOQ.out _ ?_).mono ?_); (focus exact (by repeat (first | exact Ex.refl _ | refine Ex.alloc ?_ _ | refine Ex.ext ?_ _ _ | refine Ex.drew ?_ | refine Ex.drewN ?_ _)))); rintro e w5 ⟨rfl, l6, d6, rfl⟩)
            | (go_at_call 18; ((with_reducible refine (HFR.out _ ?_).mono ?_); (focus exact (by repeat (first | exact Ex.refl _ | refine Ex.alloc ?_ _ | refine Ex.ext ?_ _ _ | refine Ex.drew ?_ | refine Ex.drewN ?_ _)))); rintro e w7 ⟨rfl, k7, u7, rfl, hI7⟩))
        all_goals
          have HF := Lib.hid (FinInv.of_free (w := w) (HQ3.out.later (by repeat (first | exact Ex.refl _ | refine Ex.alloc ?_ _ | refine Ex.ext ?_ _ _ | refine Ex.drew ?_ | refine Ex.drewN ?_ _))) hI7 HZ3.out (by simp [go_sem]; omega) (HB3.out.trans (Ex.below (by repeat (first | exact Ex.refl _ | refine Ex.alloc ?_ _ | refine Ex.ext ?_ _ _ | refine Ex.drew ?_ | refine Ex.drewN ?_ _)) |>.mono (by omega))))
          clear hI7
          go_wp2_with fail
          go_loopw [13] (fun ci w4 => ∃ c : Nat, c ≤ 6 ∧ ci = .int .i64 c ∧ FinInv w p q P2 P w4) (fun ci _ => 6 - (intOf ci).toNat)
          case atStart => exact ⟨0, by omega, rfl, HF.out⟩
          case round =>
            obtain ⟨c, hc, rfl, hf⟩ := hrel
            have HF4 := Lib.hid hf
            obtain ⟨o4, hp4, hq4, hs4, hB4⟩ := hf
            have HB4 := Lib.hid hB4
            by_cases hc6 : c < 6
            · have HO1 := Lib.hid (fun w' (hx : Ex _ w') => of_in (hp4.later hx) c hc6)
              have HO2 := Lib.hid (fun w' (hx : Ex _ w') => of_in (hq4.later hx) c hc6)
              have hne := fun w => (neHas P2 P c c w).trans (by rw [HS.out c hc6]; rfl : _ = Result.ok (.bool false) w)
              clear hp4 hq4 hB4
              go_wp2_with fail
              refine (HO1.out _ (by repeat (first | exact Ex.refl _ | refine Ex.alloc ?_ _ | refine Ex.ext ?_ _ _ | refine Ex.drew ?_ | refine Ex.drewN ?_ _))).mono ?_
              rintro e w5 ⟨rfl, l5, d5, rfl⟩
              go_wp2_with fail
              refine (HO2.out _ (by repeat (first | exact Ex.refl _ | refine Ex.alloc ?_ _ | refine Ex.ext ?_ _ _ | refine Ex.drew ?_ | refine Ex.drewN ?_ _))).mono ?_
              rintro e w6 ⟨rfl, l6, d6, rfl⟩
              go_wp2_with fail
              all_goals
                go_roundw
                case measure => simp [intOf]; omega
                case rel => exact ⟨c + 1, by omega, by go_num, HF4.out.later (by repeat (first | exact Ex.refl _ | refine Ex.alloc ?_ _ | refine Ex.ext ?_ _ _ | refine Ex.drew ?_ | refine Ex.drewN ?_ _))⟩
            · clear hp4 hq4 hB4
              go_wp2_with fail
              all_goals go_ret
              all_goals exact ⟨rfl, HB4.out⟩
      · have hp2 : holdP P item x = P := by unfold holdP; rw [if_neg he]
        rw [hp2, errV_pos _ _ he] at hH
        have HH := Lib.hid hH
        have HP1 := Lib.hid P1
        have HQ1 := Lib.hid Q1
        have HBw := Lib.hid hBw
        have HOZ := Lib.hid hoz
        clear hH he P1 Q1 hBq hBw hoz hxc hbx hxq hrow hq hp2
        go_wp2_with fail
        refine HH.out.mono ?_
        rintro e wh ⟨rfl, hT⟩
        obtain ⟨o3, hP3, hB3, ho3, hs3, hK3⟩ := hT.use HBw.out (by omega) (fun b hb => by rw [HOZ.out b (by omega)]; decide)
        have HF : Hid (FinInv w p q P P wh) := Lib.hid ⟨o3, hP3, HQ1.out.kp hK3 (by decide) (fun n hn e => by rw [ho3 n hn]; exact e), by omega, hB3⟩
        have HS : Hid (∀ c, c < 6 → sameB P P c c = true) := Lib.hid (fun c _ => sameB_refl P c)
        clear hT hP3 hB3 ho3 hK3
        go_wp2_with fail
        go_loopw [13] (fun ci w4 => ∃ c : Nat, c ≤ 6 ∧ ci = .int .i64 c ∧ FinInv w p q P P w4) (fun ci _ => 6 - (intOf ci).toNat)
        case atStart => exact ⟨0, by omega, rfl, HF.out⟩
        case round =>
          obtain ⟨c, hc, rfl, hf⟩ := hrel
          have HF4 := Lib.hid hf
          obtain ⟨o4, hp4, hq4, hs4, hB4⟩ := hf
          have HB4 := Lib.hid hB4
          by_cases hc6 : c < 6
          · have HO1 := Lib.hid (fun w' (hx : Ex _ w') => of_in (hp4.later hx) c hc6)
            have HO2 := Lib.hid (fun w' (hx : Ex _ w') => of_in (hq4.later hx) c hc6)
            have hne := fun w => (neHas P P c c w).trans (by rw [HS.out c hc6]; rfl : _ = Result.ok (.bool false) w)
            clear hp4 hq4 hB4
            go_wp2_with fail
            refine (HO1.out _ (by repeat (first | exact Ex.refl _ | refine Ex.alloc ?_ _ | refine Ex.ext ?_ _ _ | refine Ex.drew ?_ | refine Ex.drewN ?_ _))).mono ?_
            rintro e w5 ⟨rfl, l5, d5, rfl⟩
            go_wp2_with fail
            refine (HO2.out _ (by repeat (first | exact Ex.refl _ | refine Ex.alloc ?_ _ | refine Ex.ext ?_ _ _ | refine Ex.drew ?_ | refine Ex.drewN ?_ _))).mono ?_
            rintro e w6 ⟨rfl, l6, d6, rfl⟩
            go_wp2_with fail
            all_goals
              go_roundw
              case measure => simp [intOf]; omega
              case rel => exact ⟨c + 1, by omega, by go_num, HF4.out.later (by repeat (first | exact Ex.refl _ | refine Ex.alloc ?_ _ | refine Ex.ext ?_ _ _ | refine Ex.drew ?_ | refine Ex.drewN ?_ _))⟩
          · clear hp4 hq4 hB4
            go_wp2_with fail
            all_goals go_ret
            all_goals exact ⟨rfl, HB4.out⟩
end Go.Proofs.YtfeeibealokhfaaDoor
