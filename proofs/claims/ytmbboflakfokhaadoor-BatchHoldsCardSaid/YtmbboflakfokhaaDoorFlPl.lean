import Derived.Test.YtmbboflakfokhaaDoorFl0
import Derived.Test.YtmbboflakfokhaaDoorJ26
import Derived.Deep.RegionHeld3
import Derived.Deep.CutBlock
/- What Place of a floor computes. -/
set_option linter.unusedSimpArgs false
set_option linter.unusedVariables false
namespace Go.Proofs.YtmbboflakfokhaaDoor
open Go.RowKit

/-- The order of a request. -/
def lotOf (a : Ask) : Lot := ⟨a.id, a.client, a.side, a.price, a.qty⟩
theorem lotOf_wf {a : Ask} (h : a.err = 0) : (lotOf a).wf := by
  obtain ⟨b1, b2, b3, b4, b5, b6, b7, _⟩ := Ask.bounds h
  unfold lotOf Lot.wf
  refine ⟨?_, ?_, ?_, ?_, ?_⟩ <;> simp [Lit.wf, IntKind.min, IntKind.max, IntKind.bits, IntKind.signed] <;> omega
/-- Place: an error's number. -/
def fplaceE (st : FSt) (a : Ask) : Nat := if askedE a 111 = 0 then placeE st a.item.toNat (lotOf a) else askedE a 111
def fplaceS (st : FSt) (a : Ask) : FSt := if askedE a 111 = 0 then placeS st a.item.toNat (lotOf a) else st
theorem FSt.setB_self (st : FSt) (k : Nat) (l l' : List Lot) (h : st.b k = l) : (st.setB k l').setB k l = st := by
  unfold FSt.setB
  cases st
  simp only [FSt.mk.injEq, and_true] at *
  funext j
  by_cases e : j = k
  · subst e; rw [if_pos rfl]; exact h.symm
  · rw [if_neg e, if_neg e]
section
variable {own : Nat → Nat} {c : Nat} {w : World} {A : FlA} {st : FSt} {E : Nat → Addr}
set_option maxRecDepth 100000 in
theorem fplace_bad (h : FlAt own c w A st) (hE : Errs E [2, 3, 4, 6, 7, 8, 10] w) (a : Ask) (hk : askedE a 111 ≠ 0) :
    Calls Tryd.prog 9 #[.pointer (some ⟨A.f, 0, none⟩), a.val] w fun e w' => e = .returned (errV E (fplaceE st a)) ∧ FlG own c w A (fplaceS st a) w' := by
  have hs : fplaceS st a = st := if_neg hk
  have he : fplaceE st a = askedE a 111 := if_neg hk
  rw [hs, he]
  have HK := Lib.hid (fun w h => asked_any a 111 E w h)
  rw [errV_pos E _ hk] at HK ⊢
  have HG := Lib.hid (FlG.refl h)
  have HE := Lib.hid hE
  clear h hs he hk hE
  go_enter Tryd.func9, Tryd.ntmps9
  go_wp2_with (go_at_call 29; refine (HK.out _ (by exact Errs.sub (HE.out.ex (by repeat (first | exact Ex.refl _ | refine Ex.alloc ?_ _ | refine Ex.ext ?_ _ _ | refine Ex.drew ?_ | refine Ex.drewN ?_ _))) (by decide))).mono ?_; rintro e w1 ⟨rfl, l1, d1, rfl⟩)
  all_goals go_ret
  all_goals exact ⟨rfl, HG.out.later (by repeat (first | exact Ex.refl _ | refine Ex.alloc ?_ _ | refine Ex.ext ?_ _ _ | refine Ex.drew ?_ | refine Ex.drewN ?_ _))⟩
def lotA (x : Lot) : Array Value := #[.int .i64 x.id, .int .i64 x.owner, .int .i64 x.side, .int .i64 x.price, .int .i64 x.qty]
theorem Blk.lot {W : World} {b : Nat} {x : Lot} {t : TypeId} (h : Blk W b (lotA x) t) : W.cell? ⟨b, 0, none⟩ = some (.int .i64 x.id) ∧ W.cell? ⟨b, 1, none⟩ = some (.int .i64 x.owner) ∧ W.cell? ⟨b, 2, none⟩ = some (.int .i64 x.side) ∧ W.cell? ⟨b, 3, none⟩ = some (.int .i64 x.price) ∧ W.cell? ⟨b, 4, none⟩ = some (.int .i64 x.qty) :=
  ⟨h.cell 0, h.cell 1, h.cell 2, h.cell 3, h.cell 4⟩
def askA (a : Ask) : Array Value := #[.int .u8 a.kind, .int .i64 a.client, .int .i64 a.seq, .int .i64 a.item, .int .i64 a.side, .int .i64 a.price, .int .i64 a.qty, .int .i64 a.id]
def PlC (lx bx : Nat) (x : Lot) (a : Ask) : List Bl := [(lx, lotA x, 56), (bx, askA a, 34)] ++ []
theorem PlC.has {lx bx : Nat} {x : Lot} {a : Ask} {L : List Nat} {T : Nat → Prop} {W : World} (X : FlX own c w A st E L (PlC lx bx x a) T W) : W.cell? ⟨A.f, 1, none⟩ = some (.pointer (some ⟨A.pp, 0, none⟩)) ∧ W.cell? ⟨lx, 0, none⟩ = some (.int .i64 x.id) ∧ W.cell? ⟨lx, 1, none⟩ = some (.int .i64 x.owner) ∧ W.cell? ⟨lx, 2, none⟩ = some (.int .i64 x.side) ∧ W.cell? ⟨lx, 3, none⟩ = some (.int .i64 x.price) ∧ W.cell? ⟨lx, 4, none⟩ = some (.int .i64 x.qty) ∧ W.cell? ⟨bx, 3, none⟩ = some (.int .i64 a.item) := by
  have hh := X.has
  obtain ⟨b0, hh⟩ := hh.cons
  obtain ⟨b1, hh⟩ := hh.cons
  obtain ⟨c0, c1, c2, c3, c4⟩ := b0.lot
  exact ⟨X.cells.2.1, c0, c1, c2, c3, c4, b1.cell 3⟩
theorem setB_cancel {st : FSt} {k : Nat} {x : Lot} (ha : addE (st.b k) x = 0) : (st.setB k (st.b k ++ [x])).setB k (cancelR ((st.setB k (st.b k ++ [x])).b k) x.id).2.2 = st := by
  have e : (st.setB k (st.b k ++ [x])).b k = st.b k ++ [x] := if_pos rfl
  rw [e, cancel_last (addE_new ha).2.1]
  exact FSt.setB_self st k _ _ rfl
set_option maxRecDepth 100000 in
set_option maxHeartbeats 4000000 in
theorem fplace_go (h : FlAt own c w A st) (hE : Errs E [2, 3, 4, 6, 7, 8, 10] w) (hg : ∀ n, GE [2, 3, 4, 6, 7, 8, 10] n → own n / 8 ≠ c) (a : Ask) (k : Nat) (hk3 : k < 3) (hi : a.item = (k : Int)) (hk : askedE a 111 = 0) :
    Calls Tryd.prog 9 #[.pointer (some ⟨A.f, 0, none⟩), a.val] w fun e w' => e = .returned (errV E (placeE st k (lotOf a))) ∧ FlG own c w A (placeS st k (lotOf a)) w' := by
  have hwf := lotOf_wf (asked_zero hk).1
  have HWF := Lib.hid hwf
  have HK := Lib.hid (fun w h => asked_any a 111 E w h)
  rw [hk, errV_zero] at HK
  obtain ⟨c0, c1, _, _, hf⟩ := h.cells
  obtain ⟨i0, _, _⟩ := h.items hk3
  have hrg := h.rowLt
  have k3 : (k : Int) < 3 := by omega
  have HX := Lib.hid (FlX.start (T := NoT) h hE hg (fun n hn => hn.elim))
  have HE := Lib.hid hE
  obtain ⟨x, hx⟩ : ∃ x, x = lotOf a := ⟨_, rfl⟩
  rw [← hx] at HWF ⊢
  obtain ⟨kind, client, seq, item, side, price, qty, id⟩ := a
  simp only at hi
  subst hi
  simp only [lotOf] at hx
  have HXL := Lib.hid hx
  clear h hk hE hg hwf hx
  go_enter Tryd.func9, Tryd.ntmps9
  go_upto_region 5 with (go_at_call 29; refine (HK.out _ (by exact Errs.sub (HE.out.ex (by repeat (first | exact Ex.refl _ | refine Ex.alloc ?_ _ | refine Ex.ext ?_ _ _ | refine Ex.drew ?_ | refine Ex.drewN ?_ _))) (by decide))).mono ?_; rintro e w1 ⟨rfl, l1, d1, rfl⟩)
  go_region
  go_upto_region 6 with fail
  refine wp_world (R := fun W => FlX own c w A st E [2, 3, 4, 6, 7, 8, 10] (PlC (w.heap.size + 1 + l1.length) w.heap.size ⟨id, client, side, price, qty⟩ ⟨kind, client, seq, (k : Int), side, price, qty, id⟩) NoT W) (HX.out.add (by repeat (first | exact Ex.refl _ | refine Ex.alloc ?_ _ | refine Ex.ext ?_ _ _ | refine Ex.drew ?_ | refine Ex.drewN ?_ _)) (fun t ht => ?_) (Has.mk ?_ (Has.mk ?_ (Has.nil _)))) ?_
  focus
    simp only [List.mem_cons, List.not_mem_nil, or_false] at ht
    rcases ht with rfl | rfl <;> simp only <;> omega
  focus exact (by repeat (first | exact Blk.new (by first | omega | (simp [go_sem]; done) | (simp [go_sem]; omega)) | (with_reducible exact Blk.new rfl) | (with_reducible refine Blk.drew ?_) | (with_reducible refine Blk.drewN ?_ _) | (with_reducible refine Blk.ext ?_ _ _) | (with_reducible refine Blk.alloc ?_ _)))
  focus exact (by repeat (first | exact Blk.new (by first | omega | (simp [go_sem]; done) | (simp [go_sem]; omega)) | (with_reducible exact Blk.new rfl) | (with_reducible refine Blk.drew ?_) | (with_reducible refine Blk.drewN ?_ _) | (with_reducible refine Blk.ext ?_ _ _) | (with_reducible refine Blk.alloc ?_ _)))
  clear c0 c1 i0
  have hbl : w.heap.size < w.heap.size + 1 + l1.length := by omega
  generalize w.heap.size + 1 + l1.length = lx at *
  generalize hbx : w.heap.size = bx at *
  rintro W hX
  have HX1 := Lib.hid hX
  obtain ⟨_, b0, b1, b2, b3, b4, _⟩ := PlC.has hX
  clear hX
  by_cases ha : addE (st.b k) x = 0
  · by_cases hh : holdE st.p (k : Int) x = 0
    · have he : placeE st k x = 0 := by unfold placeE; rw [if_pos ha]; exact hh
      have hs : placeS st k x = (st.setB k (st.b k ++ [x])).setP (holdP st.p (k : Int) x) := by unfold placeS; rw [if_pos he]
      have HPE := Lib.hid he; clear he
      have HPS := Lib.hid hs; clear hs
      have HA := Lib.hid (fun o i W hb hE => add_any (own := o) (i := i) (w := W) (p := A.bp k) (l := st.b k) hb x HWF.out E hE)
      have hl : addL (st.b k) x = st.b k ++ [x] := by unfold addL; rw [if_pos ha]
      rw [ha, errV_zero, hl] at HA
      have HH := Lib.hid (fun o i W (hb : PurseAt o i W A.pp (st.setB k (st.b k ++ [x])).p) hE => hold_any (own := o) (i := i) (w := W) (p := A.pp) (P := st.p) hb (k : Int) x E hE)
      rw [hh, errV_zero] at HH
      rw [HXL.out] at HA HH
      clear ha hh hl
      go_wp2_with fail
      refine ((HX1.out.later (by repeat (first | exact Ex.refl _ | refine Ex.alloc ?_ _ | refine Ex.ext ?_ _ _ | refine Ex.drew ?_ | refine Ex.drewN ?_ _))).book hk3 (fun o i hb => HA.out o i _ hb ((HX1.out.later (by repeat (first | exact Ex.refl _ | refine Ex.alloc ?_ _ | refine Ex.ext ?_ _ _ | refine Ex.drew ?_ | refine Ex.drewN ?_ _))).errs.sub (by decide)))).mono ?_
      rintro e w2 ⟨rfl, hX2⟩
      have HX2 := Lib.hid hX2
      clear hX2 b0 b1 b2 b3 b4
      go_upto_region 9 with fail
      go_region_held3 (fun W => W.cell? ⟨A.f, 1, none⟩ = some (.pointer (some ⟨A.pp, 0, none⟩)) ∧ W.cell? ⟨lx, 0, none⟩ = some (.int .i64 id) ∧ W.cell? ⟨lx, 1, none⟩ = some (.int .i64 client) ∧ W.cell? ⟨lx, 2, none⟩ = some (.int .i64 side) ∧ W.cell? ⟨lx, 3, none⟩ = some (.int .i64 price) ∧ W.cell? ⟨lx, 4, none⟩ = some (.int .i64 qty) ∧ W.cell? ⟨bx, 3, none⟩ = some (.int .i64 (k : Int)))
        ((first | exact PlC.has (HX3.out.later (by repeat (first | exact Ex.refl _ | refine Ex.alloc ?_ _ | refine Ex.ext ?_ _ _ | refine Ex.drew ?_ | refine Ex.drewN ?_ _))) | exact PlC.has (HX2.out.later (by repeat (first | exact Ex.refl _ | refine Ex.alloc ?_ _ | refine Ex.ext ?_ _ _ | refine Ex.drew ?_ | refine Ex.drewN ?_ _)))))
        ((go_at_call 31; ((with_reducible refine ((HX2.out.later ?_).purse (fun o i hb => HH.out o i _ hb ?_)).mono ?_)); (focus exact (by repeat (first | exact Ex.refl _ | refine Ex.alloc ?_ _ | refine Ex.ext ?_ _ _ | refine Ex.drew ?_ | refine Ex.drewN ?_ _))); (focus exact (HX2.out.later (by repeat (first | exact Ex.refl _ | refine Ex.alloc ?_ _ | refine Ex.ext ?_ _ _ | refine Ex.drew ?_ | refine Ex.drewN ?_ _))).errs.sub (by decide)); rintro e w3 ⟨rfl, hX3⟩; have HX3 := Lib.hid hX3; clear hX3))
      all_goals go_wp2_with fail
      all_goals go_ret
      all_goals exact ⟨by rw [HPE.out]; rfl, by rw [HPS.out, HXL.out]; exact (HX3.out.later (by repeat (first | exact Ex.refl _ | refine Ex.alloc ?_ _ | refine Ex.ext ?_ _ _ | refine Ex.drew ?_ | refine Ex.drewN ?_ _))).out⟩
    · have he : placeE st k x = holdE st.p (k : Int) x := by unfold placeE; rw [if_pos ha]
      have hs : placeS st k x = st := by unfold placeS; rw [he, if_neg hh]
      have HPE := Lib.hid he; clear he
      have HPS := Lib.hid hs; clear hs
      have HA := Lib.hid (fun o i W hb hE => add_any (own := o) (i := i) (w := W) (p := A.bp k) (l := st.b k) hb x HWF.out E hE)
      have hl : addL (st.b k) x = st.b k ++ [x] := by unfold addL; rw [if_pos ha]
      rw [ha, errV_zero, hl] at HA
      have hp : holdP st.p (k : Int) x = st.p := by unfold holdP; rw [if_neg hh]
      have HH := Lib.hid (fun o i W (hb : PurseAt o i W A.pp (st.setB k (st.b k ++ [x])).p) hE => hold_any (own := o) (i := i) (w := W) (p := A.pp) (P := st.p) hb (k : Int) x E hE)
      rw [errV_pos E _ hh, hp] at HH
      have HC := Lib.hid (fun o i W hb hE => cancel_any (own := o) (i := i) (w := W) (p := A.bp k) (l := ((st.setB k (st.b k ++ [x])).setP st.p).b k) hb x.id E hE)
      have HSB := Lib.hid (setB_cancel (st := st) (k := k) (x := x) ha)
      rw [HXL.out] at HA HH HC HSB
      clear ha hl hp
      go_wp2_with fail
      refine ((HX1.out.later (by repeat (first | exact Ex.refl _ | refine Ex.alloc ?_ _ | refine Ex.ext ?_ _ _ | refine Ex.drew ?_ | refine Ex.drewN ?_ _))).book hk3 (fun o i hb => HA.out o i _ hb ((HX1.out.later (by repeat (first | exact Ex.refl _ | refine Ex.alloc ?_ _ | refine Ex.ext ?_ _ _ | refine Ex.drew ?_ | refine Ex.drewN ?_ _))).errs.sub (by decide)))).mono ?_
      rintro e w2 ⟨rfl, hX2⟩
      have HX2 := Lib.hid hX2
      clear hX2 b0 b1 b2 b3 b4
      go_upto_region 9 with fail
      go_region_held3 (fun W => W.cell? ⟨A.f, 1, none⟩ = some (.pointer (some ⟨A.pp, 0, none⟩)) ∧ W.cell? ⟨lx, 0, none⟩ = some (.int .i64 id) ∧ W.cell? ⟨lx, 1, none⟩ = some (.int .i64 client) ∧ W.cell? ⟨lx, 2, none⟩ = some (.int .i64 side) ∧ W.cell? ⟨lx, 3, none⟩ = some (.int .i64 price) ∧ W.cell? ⟨lx, 4, none⟩ = some (.int .i64 qty) ∧ W.cell? ⟨bx, 3, none⟩ = some (.int .i64 (k : Int)))
        ((first | exact PlC.has (HX3.out.later (by repeat (first | exact Ex.refl _ | refine Ex.alloc ?_ _ | refine Ex.ext ?_ _ _ | refine Ex.drew ?_ | refine Ex.drewN ?_ _))) | exact PlC.has (HX2.out.later (by repeat (first | exact Ex.refl _ | refine Ex.alloc ?_ _ | refine Ex.ext ?_ _ _ | refine Ex.drew ?_ | refine Ex.drewN ?_ _)))))
        ((go_at_call 31; ((with_reducible refine ((HX2.out.later ?_).purse (fun o i hb => HH.out o i _ hb ?_)).mono ?_)); (focus exact (by repeat (first | exact Ex.refl _ | refine Ex.alloc ?_ _ | refine Ex.ext ?_ _ _ | refine Ex.drew ?_ | refine Ex.drewN ?_ _))); (focus exact (HX2.out.later (by repeat (first | exact Ex.refl _ | refine Ex.alloc ?_ _ | refine Ex.ext ?_ _ _ | refine Ex.drew ?_ | refine Ex.drewN ?_ _))).errs.sub (by decide)); rintro e w3 ⟨rfl, hX3⟩; have HX3 := Lib.hid hX3; clear hX3))
      obtain ⟨_, b0, _⟩ := PlC.has HX3.out
      go_wp2_with fail
      refine ((HX3.out.later (by repeat (first | exact Ex.refl _ | refine Ex.alloc ?_ _ | refine Ex.ext ?_ _ _ | refine Ex.drew ?_ | refine Ex.drewN ?_ _))).book hk3 (fun o i hb => HC.out o i _ hb ((HX3.out.later (by repeat (first | exact Ex.refl _ | refine Ex.alloc ?_ _ | refine Ex.ext ?_ _ _ | refine Ex.drew ?_ | refine Ex.drewN ?_ _))).errs.sub (by decide)))).mono ?_
      rintro e w4 ⟨rfl, hX4⟩
      have HX4 := Lib.hid hX4
      clear hX4
      all_goals go_wp2_with fail
      all_goals go_ret
      all_goals exact ⟨by rw [HPE.out, errV_pos E _ hh, HXL.out]; rfl, by rw [HPS.out]; have := (HX4.out.later (by repeat (first | exact Ex.refl _ | refine Ex.alloc ?_ _ | refine Ex.ext ?_ _ _ | refine Ex.drew ?_ | refine Ex.drewN ?_ _))).out; exact HSB.out ▸ this⟩
  · have he : placeE st k x = addE (st.b k) x := by unfold placeE; rw [if_neg ha]
    have hs : placeS st k x = st := by unfold placeS; rw [he, if_neg ha]
    have HPE := Lib.hid he; clear he
    have HPS := Lib.hid hs; clear hs
    have HA := Lib.hid (fun o i W hb hE => add_any (own := o) (i := i) (w := W) (p := A.bp k) (l := st.b k) hb x HWF.out E hE)
    have hl : addL (st.b k) x = st.b k := by unfold addL; rw [if_neg ha]
    rw [errV_pos E _ ha, hl] at HA
    have HSB := Lib.hid (show st.setB k (st.b k) = st by
      unfold FSt.setB
      cases st
      simp only [FSt.mk.injEq, and_true]
      funext j
      by_cases e : j = k
      · subst e; rw [if_pos rfl]
      · rw [if_neg e])
    rw [HXL.out] at HA
    clear hl
    go_wp2_with fail
    refine ((HX1.out.later (by repeat (first | exact Ex.refl _ | refine Ex.alloc ?_ _ | refine Ex.ext ?_ _ _ | refine Ex.drew ?_ | refine Ex.drewN ?_ _))).book hk3 (fun o i hb => HA.out o i _ hb ((HX1.out.later (by repeat (first | exact Ex.refl _ | refine Ex.alloc ?_ _ | refine Ex.ext ?_ _ _ | refine Ex.drew ?_ | refine Ex.drewN ?_ _))).errs.sub (by decide)))).mono ?_
    rintro e w2 ⟨rfl, hX2⟩
    have HX2 := Lib.hid hX2
    clear hX2
    go_wp2_with fail
    all_goals go_ret
    all_goals exact ⟨by rw [HPE.out, errV_pos E _ ha, HXL.out]; rfl, by rw [HPS.out]; have := (HX2.out.later (by repeat (first | exact Ex.refl _ | refine Ex.alloc ?_ _ | refine Ex.ext ?_ _ _ | refine Ex.drew ?_ | refine Ex.drewN ?_ _))).out; exact HSB.out ▸ this⟩
theorem fplace_any (h : FlAt own c w A st) (hE : Errs E [2, 3, 4, 6, 7, 8, 10] w) (hg : ∀ n, GE [2, 3, 4, 6, 7, 8, 10] n → own n / 8 ≠ c) (a : Ask) :
    Calls Tryd.prog 9 #[.pointer (some ⟨A.f, 0, none⟩), a.val] w fun e w' => e = .returned (errV E (fplaceE st a)) ∧ FlG own c w A (fplaceS st a) w' := by
  by_cases hk : askedE a 111 = 0
  · have e1 : fplaceE st a = placeE st a.item.toNat (lotOf a) := if_pos hk
    have e2 : fplaceS st a = placeS st a.item.toNat (lotOf a) := if_pos hk
    rw [e1, e2]
    obtain ⟨_, _, _, b4, _⟩ := Ask.bounds (asked_zero hk).1
    exact fplace_go h hE hg a a.item.toNat (by omega) (by omega) hk
  · exact fplace_bad h hE a hk
end
end Go.Proofs.YtmbboflakfokhaaDoor
