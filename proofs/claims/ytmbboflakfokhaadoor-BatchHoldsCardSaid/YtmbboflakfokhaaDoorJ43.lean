import Derived.Test.YtmbboflakfokhaaDoorFlPl
import Derived.Test.YtmbboflakfokhaaDoorJ37
import Derived.Test.YtmbboflakfokhaaDoorJ28
/- What gone and Cancel of a floor compute. -/
set_option linter.unusedSimpArgs false
set_option linter.unusedVariables false
namespace Go.Proofs.YtmbboflakfokhaaDoor
open Go.RowKit

section
variable {own : Nat → Nat} {c : Nat} {w : World} {A : FlA} {st : FSt} {E : Nat → Addr}
def LotT : TypeId := 56
/-- Two lots in boxes: what goes, and the result. -/
def GoC (lx bx : Nat) (x : Lot) : List Bl := [(lx, lotA x, 56)] ++ ([(bx, lotA zeroLot, 56)] ++ [])
theorem GoC.has {lx bx : Nat} {x : Lot} {L : List Nat} {T : Nat → Prop} {W : World} (X : FlX own c w A st E L (GoC lx bx x) T W) : W.cell? ⟨A.f, 1, none⟩ = some (.pointer (some ⟨A.pp, 0, none⟩)) ∧ W.cell? ⟨lx, 0, none⟩ = some (.int .i64 x.id) ∧ W.cell? ⟨lx, 1, none⟩ = some (.int .i64 x.owner) ∧ W.cell? ⟨lx, 2, none⟩ = some (.int .i64 x.side) ∧ W.cell? ⟨lx, 3, none⟩ = some (.int .i64 x.price) ∧ W.cell? ⟨lx, 4, none⟩ = some (.int .i64 x.qty) := by
  have hh := X.has
  obtain ⟨b0, hh⟩ := hh.cons
  obtain ⟨c0, c1, c2, c3, c4⟩ := b0.lot
  exact ⟨X.cells.2.1, c0, c1, c2, c3, c4⟩
set_option maxRecDepth 100000 in
set_option maxHeartbeats 4000000 in
theorem fgone_any (h : FlAt own c w A st) (hO : FOk st) (hE : Errs E [2, 6, 10] w) (hg : ∀ n, GE [2, 6, 10] n → own n / 8 ≠ c) (k : Nat) (hk3 : k < 3) (id : Int) :
    Calls Tryd.prog 45 #[.pointer (some ⟨A.f, 0, none⟩), .int .i64 (k : Int), .int .i64 id] w fun e w' => e = .returned (.tuple #[(goneR st k id).1.val, errV E (goneR st k id).2.1]) ∧ FlG own c w A (goneR st k id).2.2 w' := by
  obtain ⟨c0, _, _, _, hf⟩ := h.cells
  obtain ⟨i0, _, _⟩ := h.items hk3
  have hrg := h.rowLt
  have k3 : (k : Int) < 3 := by omega
  have HX := Lib.hid (FlX.start (T := NoT) h hE hg (fun n hn => hn.elim))
  have HC := Lib.hid (fun o i W hb hE => cancel_any (own := o) (i := i) (w := W) (p := A.bp k) (l := st.b k) hb id E hE)
  rcases cancelR_cases (hO.book k hk3) id with ⟨x, hx, hi, l', e, hl, _, _⟩ | ⟨hn, e⟩
  · have hz := freeE_zero hO hk3 hx
    have hR : goneR st k id = (x, 0, (st.setB k l').setP (freeP st.p (k : Int) x)) := by
      unfold goneR
      rw [e]
      exact if_pos rfl
    rw [e, errV_zero] at HC
    have HF := Lib.hid (fun o i W (hb : PurseAt o i W A.pp (st.setB k l').p) hE => free_any (own := o) (i := i) (w := W) (p := A.pp) (P := st.p) hb (k : Int) x E hE)
    rw [hz, errV_zero] at HF
    rw [hR, errV_zero]
    obtain ⟨xi, xo, xs, xp, xq⟩ := x
    clear h hO hE hg hx hi hl e hz hR
    go_enter Tryd.func45, Tryd.ntmps45
    go_wp2_with fail
    have HX0 : Hid (FlX own c w A st E [2, 6, 10] ([(w.heap.size, lotA zeroLot, 56)] ++ []) NoT (w.alloc (.cells #[.int .i64 0, .int .i64 0, .int .i64 0, .int .i64 0, .int .i64 0] 56))) := Lib.hid (HX.out.add (by repeat (first | exact Ex.refl _ | refine Ex.alloc ?_ _ | refine Ex.ext ?_ _ _ | refine Ex.drew ?_ | refine Ex.drewN ?_ _)) (fun t ht => by simp only [List.mem_singleton] at ht; subst ht; exact Nat.le_refl _) (Has.mk (Blk.new rfl) (Has.nil _)))
    refine ((HX0.out.later (by repeat (first | exact Ex.refl _ | refine Ex.alloc ?_ _ | refine Ex.ext ?_ _ _ | refine Ex.drew ?_ | refine Ex.drewN ?_ _))).book hk3 (fun o i hb => HC.out o i _ hb ((HX0.out.later (by repeat (first | exact Ex.refl _ | refine Ex.alloc ?_ _ | refine Ex.ext ?_ _ _ | refine Ex.drew ?_ | refine Ex.drewN ?_ _))).errs.sub (by decide)))).mono ?_
    rintro e w2 ⟨rfl, hX2⟩
    have hb2 : w.heap.size < w2.heap.size := hX2.has.cons.1.lt
    have HX2 := Lib.hid hX2
    clear hX2 c0 i0 HX HX0
    generalize hbx : w.heap.size = bx at *
    go_upto_region 4 with fail
    refine wp_world (R := fun W => FlX own c w A (st.setB k l') E [2, 6, 10] (GoC w2.heap.size bx ⟨xi, xo, xs, xp, xq⟩) NoT W) (HX2.out.add (by repeat (first | exact Ex.refl _ | refine Ex.alloc ?_ _ | refine Ex.ext ?_ _ _ | refine Ex.drew ?_ | refine Ex.drewN ?_ _)) (fun t ht => by simp only [List.mem_singleton] at ht; subst ht; exact Nat.le_refl _) (Has.mk ?_ (Has.nil _))) ?_
    focus exact (by repeat (first | exact Blk.new (by first | omega | (simp [go_sem]; done) | (simp [go_sem]; omega)) | (with_reducible exact Blk.new rfl) | (with_reducible refine Blk.drew ?_) | (with_reducible refine Blk.drewN ?_ _) | (with_reducible refine Blk.ext ?_ _ _) | (with_reducible refine Blk.alloc ?_ _)))
    generalize w2.heap.size = lx at *
    rintro W hX
    obtain ⟨c1, b0, b1, b2, b3, b4⟩ := GoC.has hX
    have HX3 := Lib.hid hX
    have hbz := hX.has.cons.2.cons.1.lt
    have hfz := hX.cells.2.2.2.2
    have hlz := hX.has.cons.1.lt
    clear hX
    go_region_with (go_at_call 62; ((with_reducible refine ((HX3.out.later ?_).purse (fun o i hb => HF.out o i _ hb ?_)).mono ?_)); (focus exact (by repeat (first | (with_reducible exact Ex.refl _) | (with_reducible refine Ex.alloc ?_ _) | (with_reducible refine Ex.ext ?_ _ _) | (with_reducible refine Ex.drew ?_) | (with_reducible refine Ex.drewN ?_ _)))); (focus exact (HX3.out.later (by repeat (first | (with_reducible exact Ex.refl _) | (with_reducible refine Ex.alloc ?_ _) | (with_reducible refine Ex.ext ?_ _ _) | (with_reducible refine Ex.drew ?_) | (with_reducible refine Ex.drewN ?_ _)))).errs.sub (by decide)); rintro e w3 ⟨rfl, hX4⟩; obtain ⟨d1, d2, d3, d4, d5, d6⟩ := GoC.has hX4; have z := hX4.has.cons.2.cons.1; have HX4 := Lib.hid hX4; clear hX4; have z0 := z.cell 0; have z1 := z.cell 1; have z2 := z.cell 2; have z3 := z.cell 3; have z4 := z.cell 4; have zf := z.free; have HZ := Lib.hid z; clear z; simp only [lotA, List.getElem?_toArray, List.getElem?_cons_zero, List.getElem?_cons_succ] at z0 z1 z2 z3 z4)
    all_goals
      have hx5 := (HX4.out.turned (cs' := []) (W' := ((((w3.setCell ⟨bx, 0, none⟩ (.int .i64 xi)).setCell ⟨bx, 1, none⟩ (.int .i64 xo)).setCell ⟨bx, 2, none⟩ (.int .i64 xs)).setCell ⟨bx, 3, none⟩ (.int .i64 xp)).setCell ⟨bx, 4, none⟩ (.int .i64 xq)) (b := bx) (grownBy_set (grownBy_set (grownBy_set (grownBy_set (grownBy_set (grownBy_self _ _) _ _) _ _) _ _) _ _) _ _) ⟨_, List.mem_cons_of_mem _ (List.mem_cons_self ..), rfl⟩ (Nat.le_of_eq hbx) (Has.nil _) (fun t ht => by cases ht)).out
      have hb5 := ((((HZ.out.set 0 (.int .i64 xi)).set 1 (.int .i64 xo)).set 2 (.int .i64 xs)).set 3 (.int .i64 xp)).set 4 (.int .i64 xq)
      generalize (((((w3.setCell ⟨bx, 0, none⟩ (.int .i64 xi)).setCell ⟨bx, 1, none⟩ (.int .i64 xo)).setCell ⟨bx, 2, none⟩ (.int .i64 xs)).setCell ⟨bx, 3, none⟩ (.int .i64 xp)).setCell ⟨bx, 4, none⟩ (.int .i64 xq)) = W5 at *
      have g0 := hb5.cell 0
      have g1 := hb5.cell 1
      have g2 := hb5.cell 2
      have g3 := hb5.cell 3
      have g4 := hb5.cell 4
      simp [lotA] at g0 g1 g2 g3 g4
      clear hb5
      go_wp2_with fail
      refine bodyPost_ret (v := .tuple #[.agg #[.int .i64 xi, .int .i64 xo, .int .i64 xs, .int .i64 xp, .int .i64 xq], .nilIface]) ?_ rfl ⟨rfl, hx5⟩
      simp only [results, Tryd.results45]
      simp [go_sem, ↓IntWalk.iteOmega, g0, g1, g2, g3, g4]
  · have hR : goneR st k id = (zeroLot, 6, st) := by
      unfold goneR
      rw [e]
      exact if_neg (by simp)
    have HSET := Lib.hid (show st.setB k (st.b k) = st by
      unfold FSt.setB
      cases st
      simp only [FSt.mk.injEq, and_true]
      funext j
      by_cases e : j = k
      · subst e; rw [if_pos rfl]
      · rw [if_neg e])
    rw [e, errV_pos E 6 (by decide)] at HC
    rw [hR, errV_pos E 6 (by decide)]
    clear h hO hE hg hn e hR
    go_enter Tryd.func45, Tryd.ntmps45
    go_wp2_with fail
    have HX0 : Hid (FlX own c w A st E [2, 6, 10] ([(w.heap.size, lotA zeroLot, 56)] ++ []) NoT (w.alloc (.cells #[.int .i64 0, .int .i64 0, .int .i64 0, .int .i64 0, .int .i64 0] 56))) := Lib.hid (HX.out.add (by repeat (first | exact Ex.refl _ | refine Ex.alloc ?_ _ | refine Ex.ext ?_ _ _ | refine Ex.drew ?_ | refine Ex.drewN ?_ _)) (fun t ht => by simp only [List.mem_singleton] at ht; subst ht; exact Nat.le_refl _) (Has.mk (Blk.new rfl) (Has.nil _)))
    refine ((HX0.out.later (by repeat (first | exact Ex.refl _ | refine Ex.alloc ?_ _ | refine Ex.ext ?_ _ _ | refine Ex.drew ?_ | refine Ex.drewN ?_ _))).book hk3 (fun o i hb => HC.out o i _ hb ((HX0.out.later (by repeat (first | exact Ex.refl _ | refine Ex.alloc ?_ _ | refine Ex.ext ?_ _ _ | refine Ex.drew ?_ | refine Ex.drewN ?_ _))).errs.sub (by decide)))).mono ?_
    rintro e w2 ⟨rfl, hX2⟩
    rw [HSET.out] at hX2
    have hb2 : w.heap.size < w2.heap.size := hX2.has.cons.1.lt
    have HX2 := Lib.hid hX2
    clear hX2 c0 i0 HX HX0
    generalize hbx : w.heap.size = bx at *
    go_upto_region 3 with fail
    refine wp_world (R := fun W => FlX own c w A st E [2, 6, 10] ([(bx, lotA zeroLot, 56)] ++ []) NoT W) (HX2.out.later (by repeat (first | exact Ex.refl _ | refine Ex.alloc ?_ _ | refine Ex.ext ?_ _ _ | refine Ex.drew ?_ | refine Ex.drewN ?_ _))) ?_
    rintro W hX
    have z := hX.has.cons.1
    have hbz := z.lt
    have zf := z.free
    have HZ := Lib.hid z
    have hx5 := (hX.turned (cs' := []) (W' := ((((W.setCell ⟨bx, 0, none⟩ (.int .i64 0)).setCell ⟨bx, 1, none⟩ (.int .i64 0)).setCell ⟨bx, 2, none⟩ (.int .i64 0)).setCell ⟨bx, 3, none⟩ (.int .i64 0)).setCell ⟨bx, 4, none⟩ (.int .i64 0)) (b := bx) (grownBy_set (grownBy_set (grownBy_set (grownBy_set (grownBy_set (grownBy_self _ _) _ _) _ _) _ _) _ _) _ _) ⟨_, List.mem_cons_self .., rfl⟩ (Nat.le_of_eq hbx) (Has.nil _) (fun t ht => by cases ht)).out
    have hb5 := ((((HZ.out.set 0 (.int .i64 0)).set 1 (.int .i64 0)).set 2 (.int .i64 0)).set 3 (.int .i64 0)).set 4 (.int .i64 0)
    have HX5 := Lib.hid hx5
    have HB5 := Lib.hid hb5
    have z0 := z.cell 0
    have z1 := z.cell 1
    have z2 := z.cell 2
    have z3 := z.cell 3
    have z4 := z.cell 4
    simp only [lotA, zeroLot, List.getElem?_toArray, List.getElem?_cons_zero, List.getElem?_cons_succ] at z0 z1 z2 z3 z4
    clear hX z hx5 hb5
    go_wp2_with fail
    have hx5 := HX5.out
    have hb5 := HB5.out
    generalize (((((W.setCell ⟨bx, 0, none⟩ (.int .i64 0)).setCell ⟨bx, 1, none⟩ (.int .i64 0)).setCell ⟨bx, 2, none⟩ (.int .i64 0)).setCell ⟨bx, 3, none⟩ (.int .i64 0)).setCell ⟨bx, 4, none⟩ (.int .i64 0)) = W5 at *
    have g0 := hb5.cell 0
    have g1 := hb5.cell 1
    have g2 := hb5.cell 2
    have g3 := hb5.cell 3
    have g4 := hb5.cell 4
    simp [lotA] at g0 g1 g2 g3 g4
    clear hb5
    (try simp only [Exit.inBlock, Exit.then])
    refine bodyPost_ret (v := .tuple #[.agg #[.int .i64 0, .int .i64 0, .int .i64 0, .int .i64 0, .int .i64 0], .iface 160 (.pointer (some (E 6)))]) ?_ rfl ⟨rfl, hx5⟩
    simp only [results, Tryd.results45]
    simp [go_sem, ↓IntWalk.iteOmega, g0, g1, g2, g3, g4]
end
end Go.Proofs.YtmbboflakfokhaaDoor

/- What Cancel of a floor computes. -/
set_option linter.unusedSimpArgs false
set_option linter.unusedVariables false
namespace Go.Proofs.YtmbboflakfokhaaDoor
open Go.RowKit

/-- Cancel: what goes, an error's number, the floor. -/
def fcancelR (st : FSt) (a : Ask) : Lot × Nat × FSt :=
  if askedE a 99 = 0 then (if (getR (st.b a.item.toNat) a.id).2 = true ∧ (getR (st.b a.item.toNat) a.id).1.owner = a.client then goneR st a.item.toNat a.id else (zeroLot, 6, st)) else (zeroLot, askedE a 99, st)
theorem FOk.fcancel {st : FSt} (h : FOk st) (a : Ask) : FOk (fcancelR st a).2.2 := by
  unfold fcancelR
  split
  · rename_i hk
    obtain ⟨_, _, _, b4, _⟩ := Ask.bounds (asked_zero hk).1
    split
    · exact h.gone (by omega) _
    · exact h
  · exact h
theorem GE.wide {L L' : List Nat} {n : Nat} (h : GE L' n) (hs : ∀ e ∈ L', e ∈ L) : GE L n := by
  obtain ⟨e, he, rfl⟩ := h
  exact ⟨e, hs e he, rfl⟩
section
variable {own : Nat → Nat} {c : Nat} {w : World} {A : FlA} {st : FSt} {E : Nat → Addr}
set_option maxRecDepth 100000 in
set_option maxHeartbeats 4000000 in
theorem fcancel_bad (h : FlAt own c w A st) (hE : Errs E [2, 3, 4, 6, 10] w) (a : Ask) (hk : askedE a 99 ≠ 0) :
    Calls Tryd.prog 22 #[.pointer (some ⟨A.f, 0, none⟩), a.val] w fun e w' => e = .returned (.tuple #[zeroLot.val, errV E (askedE a 99)]) ∧ FlG own c w A st w' := by
  have HK := Lib.hid (fun w h => asked_any a 99 E w h)
  rw [errV_pos E _ hk] at HK ⊢
  have HG := Lib.hid (FlG.refl h)
  have HE := Lib.hid hE
  generalize askedE a 99 = n at *
  clear h hE hk
  go_enter Tryd.func22, Tryd.ntmps22
  go_wp2_with (go_at_call 29; refine (HK.out _ (by exact Errs.sub (HE.out.ex (by repeat (first | exact Ex.refl _ | refine Ex.alloc ?_ _ | refine Ex.ext ?_ _ _ | refine Ex.drew ?_ | refine Ex.drewN ?_ _))) (by decide))).mono ?_; rintro e w1 ⟨rfl, l1, d1, rfl⟩)
  all_goals (try simp only [Exit.inBlock, Exit.then])
  all_goals
    refine bodyPost_ret (v := .tuple #[.agg #[.int .i64 0, .int .i64 0, .int .i64 0, .int .i64 0, .int .i64 0], .iface 160 (.pointer (some (E n)))]) ?_ rfl ⟨rfl, HG.out.later (by repeat (first | exact Ex.refl _ | refine Ex.alloc ?_ _ | refine Ex.ext ?_ _ _ | refine Ex.drew ?_ | refine Ex.drewN ?_ _))⟩
    simp only [results, Tryd.results22]
    simp [go_sem, ↓IntWalk.iteOmega]
theorem Blk.ask {W : World} {b : Nat} {a : Ask} {t : TypeId} (h : Blk W b (askA a) t) : W.cell? ⟨b, 1, none⟩ = some (.int .i64 a.client) ∧ W.cell? ⟨b, 3, none⟩ = some (.int .i64 a.item) ∧ W.cell? ⟨b, 7, none⟩ = some (.int .i64 a.id) := ⟨h.cell 1, h.cell 3, h.cell 7⟩
/-- A lot in a box, the result, the request. -/
def CaB (rx bx : Nat) (a : Ask) : List Bl := [(rx, lotA zeroLot, 56), (bx, askA a, 34)] ++ []
def CaC (lx rx bx : Nat) (x : Lot) (a : Ask) : List Bl := [(lx, lotA x, 56)] ++ CaB rx bx a
theorem CaB.has {rx bx k : Nat} {a : Ask} {L : List Nat} {T : Nat → Prop} {W : World} (X : FlX own c w A st E L (CaB rx bx a) T W) (hk : k < 3) : W.cell? ⟨A.f, 0, none⟩ = some (.slice (some ⟨A.rg, 0, none⟩) 3 A.cap) ∧ W.cell? ⟨A.rg, k * 3, none⟩ = some (.pointer (some ⟨A.bp k, 0, none⟩)) ∧ W.cell? ⟨bx, 1, none⟩ = some (.int .i64 a.client) ∧ W.cell? ⟨bx, 3, none⟩ = some (.int .i64 a.item) ∧ W.cell? ⟨bx, 7, none⟩ = some (.int .i64 a.id) := by
  obtain ⟨a1, a3, a7⟩ := X.has.cons.2.cons.1.ask
  exact ⟨X.cells.1, (X.items hk).1, a1, a3, a7⟩
set_option maxRecDepth 100000 in
set_option maxHeartbeats 4000000 in
theorem fcancel_go (h : FlAt own c w A st) (hO : FOk st) (hE : Errs E [2, 3, 4, 6, 10] w) (hg : ∀ n, GE [2, 3, 4, 6, 10] n → own n / 8 ≠ c) (a : Ask) (k : Nat) (hk3 : k < 3) (hi : a.item = (k : Int)) (hk : askedE a 99 = 0) (r : Lot × Nat × FSt)
    (hr : r = if (getR (st.b k) a.id).2 = true ∧ (getR (st.b k) a.id).1.owner = a.client then goneR st k a.id else (zeroLot, 6, st)) :
    Calls Tryd.prog 22 #[.pointer (some ⟨A.f, 0, none⟩), a.val] w fun e w' => e = .returned (.tuple #[r.1.val, errV E r.2.1]) ∧ FlG own c w A r.2.2 w' := by
  have HK := Lib.hid (fun w h => asked_any a 99 E w h)
  rw [hk, errV_zero] at HK
  obtain ⟨c0, _, _, _, hf⟩ := h.cells
  obtain ⟨i0, _, _⟩ := h.items hk3
  have hrg := h.rowLt
  have k3 : (k : Int) < 3 := by omega
  have HX := Lib.hid (FlX.start (T := NoT) h hE hg (fun n hn => hn.elim))
  have HE := Lib.hid hE
  have HGT := Lib.hid (fun o i W hb => get_any (own := o) (i := i) (w := W) (p := A.bp k) (l := st.b k) hb a.id)
  have HGO := Lib.hid (fun o W h hE hg => fgone_any (own := o) (c := c) (w := W) (A := A) (st := st) (E := E) h hO hE hg k hk3 a.id)
  have hq : ((getR (st.b k) a.id).2 = true ∧ (getR (st.b k) a.id).1.owner = a.client ∧ r = goneR st k a.id) ∨ (r = (zeroLot, 6, st) ∧ ((getR (st.b k) a.id).2 = false ∨ ((getR (st.b k) a.id).2 = true ∧ ((getR (st.b k) a.id).1.owner != a.client) = true))) := by
    rw [hr]
    by_cases h1 : (getR (st.b k) a.id).2 = true
    · by_cases h2 : (getR (st.b k) a.id).1.owner = a.client
      · exact .inl ⟨h1, h2, if_pos ⟨h1, h2⟩⟩
      · exact .inr ⟨if_neg (fun e => h2 e.2), .inr ⟨h1, by simpa using h2⟩⟩
    · exact .inr ⟨if_neg (fun e => h1 e.1), .inl (by simpa using h1)⟩
  have HQ := Lib.hid hq
  generalize getR (st.b k) a.id = g at *
  generalize goneR st k a.id = gr at *
  obtain ⟨kind, client, seq, item, side, price, qty, id⟩ := a
  simp only at hi HQ HGT HGO
  subst hi
  clear h hO hk hE hg hr hq
  go_enter Tryd.func22, Tryd.ntmps22
  go_upto_region 4 with (go_at_call 29; refine (HK.out _ (by exact Errs.sub (HE.out.ex (by repeat (first | exact Ex.refl _ | refine Ex.alloc ?_ _ | refine Ex.ext ?_ _ _ | refine Ex.drew ?_ | refine Ex.drewN ?_ _))) (by decide))).mono ?_; rintro e w1 ⟨rfl, l1, d1, rfl⟩)
  refine wp_world (R := fun W => FlX own c w A st E [2, 3, 4, 6, 10] (CaB (w.heap.size + 1) w.heap.size ⟨kind, client, seq, (k : Int), side, price, qty, id⟩) NoT W) (HX.out.add (by repeat (first | exact Ex.refl _ | refine Ex.alloc ?_ _ | refine Ex.ext ?_ _ _ | refine Ex.drew ?_ | refine Ex.drewN ?_ _)) (fun t ht => ?_) (Has.mk ?_ (Has.mk ?_ (Has.nil _)))) ?_
  focus
    simp only [List.mem_cons, List.not_mem_nil, or_false] at ht
    rcases ht with rfl | rfl <;> simp only <;> omega
  focus exact (by repeat (first | exact Blk.new (by first | omega | (simp [go_sem]; done) | (simp [go_sem]; omega)) | (with_reducible exact Blk.new rfl) | (with_reducible refine Blk.drew ?_) | (with_reducible refine Blk.drewN ?_ _) | (with_reducible refine Blk.ext ?_ _ _) | (with_reducible refine Blk.alloc ?_ _)))
  focus exact (by repeat (first | exact Blk.new (by first | omega | (simp [go_sem]; done) | (simp [go_sem]; omega)) | (with_reducible exact Blk.new rfl) | (with_reducible refine Blk.drew ?_) | (with_reducible refine Blk.drewN ?_ _) | (with_reducible refine Blk.ext ?_ _ _) | (with_reducible refine Blk.alloc ?_ _)))
  clear c0 i0
  have hbl : w.heap.size ≤ w.heap.size + 1 := by omega
  generalize w.heap.size + 1 = rx at *
  generalize hbx : w.heap.size = bx at *
  rintro W hX
  have HX1 := Lib.hid hX
  obtain ⟨c0, i0, a1, a3, a7⟩ := CaB.has hX hk3
  simp only at a1 a3 a7
  have hfz := hX.cells.2.2.2.2
  have hrz := (hX.items hk3).2.2.2
  have hbz := hX.has.cons.2.cons.1.lt
  have hrxz := hX.has.cons.1.lt
  clear hX HX
  go_cut [7, 8] (fun p q wx => ∃ lx, p = .pointer (some ⟨lx, 0, none⟩) ∧ q = .bool g.2 ∧ FlX own c w A st E [2, 3, 4, 6, 10] (CaC lx rx bx g.1 ⟨kind, client, seq, (k : Int), side, price, qty, id⟩) NoT wx)
  case first =>
    go_region_held3 (fun W => W.cell? ⟨A.f, 0, none⟩ = some (.slice (some ⟨A.rg, 0, none⟩) 3 A.cap) ∧ W.cell? ⟨A.rg, k * 3, none⟩ = some (.pointer (some ⟨A.bp k, 0, none⟩)) ∧ W.cell? ⟨bx, 1, none⟩ = some (.int .i64 client) ∧ W.cell? ⟨bx, 3, none⟩ = some (.int .i64 (k : Int)) ∧ W.cell? ⟨bx, 7, none⟩ = some (.int .i64 id))
      ((first | exact ⟨c0, i0, a1, a3, a7⟩ | (simp [go_sem, ↓IntWalk.iteOmega, c0, i0, a1, a3, a7]; done)))
      ((go_at_call 17; ((with_reducible refine ((HX1.out.later ?_).readB hk3 (fun o i hb => HGT.out o i _ hb)).mono ?_)); (focus exact (by repeat (first | (with_reducible exact Ex.refl _) | (with_reducible refine Ex.alloc ?_ _) | (with_reducible refine Ex.ext ?_ _ _) | (with_reducible refine Ex.drew ?_) | (with_reducible refine Ex.drewN ?_ _)))); rintro e w3 ⟨rfl, l3, d3, rfl⟩))
    all_goals go_wp2_with fail
    all_goals
      go_meet
      case rel => exact ⟨_, rfl, rfl, HX1.out.add (cs' := [(_, lotA g.1, 56)]) (by repeat (first | (with_reducible exact Ex.refl _) | (with_reducible refine Ex.alloc ?_ _) | (with_reducible refine Ex.ext ?_ _ _) | (with_reducible refine Ex.drew ?_) | (with_reducible refine Ex.drewN ?_ _))) (fun t ht => by simp only [List.mem_singleton] at ht; subst ht; simp only; omega) (Has.mk (by repeat (first | exact Blk.new (by first | omega | (simp [go_sem]; done) | (simp [go_sem]; omega)) | (with_reducible exact Blk.new rfl) | (with_reducible refine Blk.drew ?_) | (with_reducible refine Blk.drewN ?_ _) | (with_reducible refine Blk.ext ?_ _ _) | (with_reducible refine Blk.alloc ?_ _))) (Has.nil _))⟩
  case rest =>
    obtain ⟨lx, rfl, rfl, hX⟩ := hcut
    have HX2 := Lib.hid hX
    obtain ⟨_, x1, _⟩ := hX.has.cons.1.lot
    obtain ⟨a1', a3', a7'⟩ := hX.has.cons.2.cons.2.cons.1.ask
    simp only at a1' a3' a7'
    have z := hX.has.cons.2.cons.1
    have hbz2 := hX.has.cons.2.cons.2.cons.1.lt
    have hrx2 := z.lt
    have hlx2 := hX.has.cons.1.lt
    have e6 : wc.cell? ⟨1, 0, none⟩ = some (.iface 160 (.pointer (some (E 6)))) := hX.errs 6 (by decide)
    have b6 := lt_of_cell e6
    have hlow : 1 < w.heap.size := HX2.out.low 6 (by decide)
    have hn6 : ¬ (1 = rx) := by omega
    have hn7 : ¬ (rx = 1) := by omega
    clear hlow
    have zf := z.free
    have HZ := Lib.hid z
    have z0 := z.cell 0
    have z1 := z.cell 1
    have z2 := z.cell 2
    have z3 := z.cell 3
    have z4 := z.cell 4
    simp only [lotA, zeroLot, List.getElem?_toArray, List.getElem?_cons_zero, List.getElem?_cons_succ] at z0 z1 z2 z3 z4
    clear hX z c0 i0 a1 a3 a7 HX1 HGT
    rcases HQ.out with ⟨h1, h2, h3⟩ | ⟨h3, h4⟩
    · obtain ⟨x, b⟩ := g
      simp only at h1 h2 x1
      subst h1 h3
      have ht : (x.owner != client) = false := by simp [bne, h2]
      obtain ⟨⟨xi, xo, xs, xp, xq⟩, n, st2⟩ := r
      clear h2 HQ e6 b6
      go_wp2_with fail
      refine ((HX2.out.later (by repeat (first | (with_reducible exact Ex.refl _) | (with_reducible refine Ex.alloc ?_ _) | (with_reducible refine Ex.ext ?_ _ _) | (with_reducible refine Ex.drew ?_) | (with_reducible refine Ex.drewN ?_ _)))).call (fun o h hE hg => HGO.out o _ h (hE.sub (by decide)) (fun n hn => hg n (GE.wide hn (by decide))))).mono ?_
      rintro e w4 ⟨rfl, hX4⟩
      have z := hX4.has.cons.2.cons.1
      have hrx4 := z.lt
      have zf4 := z.free
      have hx5 := (hX4.turned (cs' := []) (W' := ((((w4.setCell ⟨rx, 0, none⟩ (.int .i64 xi)).setCell ⟨rx, 1, none⟩ (.int .i64 xo)).setCell ⟨rx, 2, none⟩ (.int .i64 xs)).setCell ⟨rx, 3, none⟩ (.int .i64 xp)).setCell ⟨rx, 4, none⟩ (.int .i64 xq)) (b := rx) (grownBy_set (grownBy_set (grownBy_set (grownBy_set (grownBy_set (grownBy_self _ _) _ _) _ _) _ _) _ _) _ _) ⟨_, List.mem_cons_of_mem _ (List.mem_cons_self ..), rfl⟩ (by omega) (Has.nil _) (fun t ht => by cases ht)).out
      have hb5 := ((((z.set 0 (.int .i64 xi)).set 1 (.int .i64 xo)).set 2 (.int .i64 xs)).set 3 (.int .i64 xp)).set 4 (.int .i64 xq)
      have HX5 := Lib.hid hx5
      have HB5 := Lib.hid hb5
      have z0 := z.cell 0
      have z1 := z.cell 1
      have z2 := z.cell 2
      have z3 := z.cell 3
      have z4 := z.cell 4
      simp only [lotA, zeroLot, List.getElem?_toArray, List.getElem?_cons_zero, List.getElem?_cons_succ] at z0 z1 z2 z3 z4
      clear hX4 z hx5 hb5
      go_wp2_with fail
      have hx5 := HX5.out
      have hb5 := HB5.out
      generalize (((((w4.setCell ⟨rx, 0, none⟩ (.int .i64 xi)).setCell ⟨rx, 1, none⟩ (.int .i64 xo)).setCell ⟨rx, 2, none⟩ (.int .i64 xs)).setCell ⟨rx, 3, none⟩ (.int .i64 xp)).setCell ⟨rx, 4, none⟩ (.int .i64 xq)) = W5 at *
      have g0 := hb5.cell 0
      have g1 := hb5.cell 1
      have g2 := hb5.cell 2
      have g3 := hb5.cell 3
      have g4 := hb5.cell 4
      simp [lotA] at g0 g1 g2 g3 g4
      clear hb5
      (try simp only [Exit.inBlock, Exit.then])
      refine bodyPost_ret (v := .tuple #[.agg #[.int .i64 xi, .int .i64 xo, .int .i64 xs, .int .i64 xp, .int .i64 xq], errV E n]) ?_ rfl ⟨rfl, hx5⟩
      simp only [results, Tryd.results22]
      simp [go_sem, ↓IntWalk.iteOmega, g0, g1, g2, g3, g4]
    · subst h3
      have hx5 := (HX2.out.turned (cs' := []) (W' := ((((wc.setCell ⟨rx, 0, none⟩ (.int .i64 0)).setCell ⟨rx, 1, none⟩ (.int .i64 0)).setCell ⟨rx, 2, none⟩ (.int .i64 0)).setCell ⟨rx, 3, none⟩ (.int .i64 0)).setCell ⟨rx, 4, none⟩ (.int .i64 0)) (b := rx) (grownBy_set (grownBy_set (grownBy_set (grownBy_set (grownBy_set (grownBy_self _ _) _ _) _ _) _ _) _ _) _ _) ⟨_, List.mem_cons_of_mem _ (List.mem_cons_self ..), rfl⟩ (by omega) (Has.nil _) (fun t ht => by cases ht)).out
      have hb5 := ((((HZ.out.set 0 (.int .i64 0)).set 1 (.int .i64 0)).set 2 (.int .i64 0)).set 3 (.int .i64 0)).set 4 (.int .i64 0)
      have HX5 := Lib.hid hx5
      have HB5 := Lib.hid hb5
      obtain ⟨x, b⟩ := g
      simp only at h4 x1
      clear hx5 hb5 HQ HGO
      rcases h4 with rfl | ⟨rfl, ht⟩
      all_goals
        go_upto_region 6 with fail
        go_region
        all_goals go_wp2_with fail
        all_goals
          have hx5 := HX5.out.later ((Ex.refl _).drew)
          have hb5 := HB5.out.drew
          generalize (((((wc.setCell ⟨rx, 0, none⟩ (.int .i64 0)).setCell ⟨rx, 1, none⟩ (.int .i64 0)).setCell ⟨rx, 2, none⟩ (.int .i64 0)).setCell ⟨rx, 3, none⟩ (.int .i64 0)).setCell ⟨rx, 4, none⟩ (.int .i64 0)).drew = W5 at *
          have g0 := hb5.cell 0
          have g1 := hb5.cell 1
          have g2 := hb5.cell 2
          have g3 := hb5.cell 3
          have g4 := hb5.cell 4
          simp [lotA] at g0 g1 g2 g3 g4
          clear hb5
          refine bodyPost_ret (v := .tuple #[.agg #[.int .i64 0, .int .i64 0, .int .i64 0, .int .i64 0, .int .i64 0], .iface 160 (.pointer (some (E 6)))]) ?_ rfl ⟨(by rw [errV_pos E 6 (by decide)]; rfl), hx5⟩
          simp only [results, Tryd.results22]
          simp [go_sem, ↓IntWalk.iteOmega, g0, g1, g2, g3, g4]
theorem fcancel_any (h : FlAt own c w A st) (hO : FOk st) (hE : Errs E [2, 3, 4, 6, 10] w) (hg : ∀ n, GE [2, 3, 4, 6, 10] n → own n / 8 ≠ c) (a : Ask) :
    Calls Tryd.prog 22 #[.pointer (some ⟨A.f, 0, none⟩), a.val] w fun e w' => e = .returned (.tuple #[(fcancelR st a).1.val, errV E (fcancelR st a).2.1]) ∧ FlG own c w A (fcancelR st a).2.2 w' := by
  by_cases hk : askedE a 99 = 0
  · obtain ⟨_, _, _, b4, _⟩ := Ask.bounds (asked_zero hk).1
    exact fcancel_go h hO hE hg a a.item.toNat (by omega) (by omega) hk (fcancelR st a) (by unfold fcancelR; rw [if_pos hk])
  · have e : fcancelR st a = (zeroLot, askedE a 99, st) := if_neg hk
    rw [e]
    exact fcancel_bad h hE a hk
end
end Go.Proofs.YtmbboflakfokhaaDoor

/- Two floors side by side in a law, and what the law itself holds beside them. -/
set_option linter.unusedSimpArgs false
set_option linter.unusedVariables false
namespace Go.Proofs.YtmbboflakfokhaaDoor
open Go.RowKit

theorem fills_le2 {st : FSt} {k : Nat} {wd hl seed : Int} (h : FOk st) (hk : k < 3) : (runR st k wd hl seed).fills.length ≤ 100000 := by
  by_cases ho : (nextN st k wd hl).2.2 = true ∧ (bestC (st.b k) (st.ref k) 1000).vol ≠ 0
  · have hF : (runR st k wd hl seed).fills = fillsL (st.b k) (bestC (st.b k) (st.ref k) 1000).price (bestC (st.b k) (st.ref k) 1000).vol seed := if_pos ho
    rw [hF]
    exact fills_small (h.book k hk).lots _ _ _
  · have hF : (runR st k wd hl seed).fills = [] := if_neg ho
    rw [hF]
    simp
/-- Run of any item: what comes of it, and the floor. -/
def runAny (st : FSt) (item wd hl seed : Int) : RunR := if inR item 0 2 = true then runR st item.toNat wd hl seed else ⟨0, 0, false, []⟩
def runAnyS (st : FSt) (item wd hl seed : Int) : FSt := if inR item 0 2 = true then runS st item.toNat wd hl seed else st
theorem FOk.runAny {st : FSt} (h : FOk st) (hp : PInv st.p) {wd hl : Int} (h2 : 1 ≤ hl ∧ hl ≤ 1000) (item seed : Int) : FOk (runAnyS st item wd hl seed) := by
  unfold runAnyS
  split
  · rename_i hi
    obtain ⟨a, b⟩ := inR_iff.1 hi
    exact (run_facts (wd := wd) h hp (by omega : item.toNat < 3) h2 seed).1
  · exact h
theorem runAny_le {st : FSt} (h : FOk st) (item wd hl seed : Int) : (Proofs.YtmbboflakfokhaaDoor.runAny st item wd hl seed).fills.length ≤ 100000 := by
  unfold Proofs.YtmbboflakfokhaaDoor.runAny
  split
  · rename_i hi
    obtain ⟨a, b⟩ := inR_iff.1 hi
    exact fills_le2 h (by omega)
  · simp
theorem FillAt.other2 {W W' : World} {ao : Option Addr} {F : List Fil} (h : FillAt W ao F) (hb : ∀ n, TF ao F n → W'.heap[n]? = W.heap[n]?) : FillAt W' ao F := fun h0 => by
  obtain ⟨b, off, e, hlt, hc⟩ := h h0
  have hq := hb b ⟨h0, off, e⟩
  refine ⟨b, off, e, ?_, fun k hk j hj => (World.cell?_of_block hq).trans (hc k hk j hj)⟩
  rw [Array.getElem?_eq_getElem hlt] at hq
  exact (Array.getElem?_eq_some_iff.1 hq).1
def resF (R : RunR) (ao : Option Addr) (cap : Nat) : Array Value := #[.int .i64 R.price, .int .i64 R.vol, .bool R.isOpen, .slice ao R.fills.length cap]
structure Two (i j : Nat) (w0 : World) (A B : FlA) (sa sb : FSt) (E : Nat → Addr) (cs : List Bl) (T : Nat → Prop) (W : World) : Prop where
  ex : Ex w0 W
  lab : ∃ o, FlAt o i W A sa ∧ FlAt o j W B sb ∧ (∀ n, n < w0.heap.size → o n / 8 = 2) ∧ (∀ n, (∃ t ∈ cs, t.1 = n) ∨ T n → n < W.heap.size ∧ o n / 8 = 2)
  has : Has cs W
  errs : Errs E LE w0
  ij : i ≠ j ∧ i < 2 ∧ j < 2
section
variable {i j : Nat} {w0 W W' : World} {A B : FlA} {sa sb sa' : FSt} {E : Nat → Addr} {cs cs' : List Bl} {T T' : Nat → Prop}
theorem Two.swap (X : Two i j w0 A B sa sb E cs T W) : Two j i w0 B A sb sa E cs T W := by
  obtain ⟨h1, ⟨o, h2, h3, h4, h5⟩, h6, h7, h8⟩ := X
  exact ⟨h1, ⟨o, h3, h2, h4, h5⟩, h6, h7, ⟨Ne.symm h8.1, h8.2.2, h8.2.1⟩⟩
theorem Two.pinv (X : Two i j w0 A B sa sb E cs T W) : PInv sa.p := by
  obtain ⟨o, h, _⟩ := X.lab
  exact h.purse.2.1
/-- New blocks come in. -/
theorem Two.more (X : Two i j w0 A B sa sb E cs T W) (hx : Ex W W') (hn : ∀ t ∈ cs', W.heap.size ≤ t.1) (hc : Has cs' W') (hT : ∀ n, T' n → T n ∨ (W.heap.size ≤ n ∧ n < W'.heap.size)) : Two i j w0 A B sa sb E (cs' ++ cs) T' W' := by
  obtain ⟨h1, ⟨o, h2, h3, h4, h5⟩, h6, h7, h8⟩ := X
  have hz := hx.below.size
  have hl : ∀ n, n < W.heap.size → (if n < W.heap.size then o n else 16) = o n := fun n hn => if_pos hn
  have hk : ∀ c A s, FlAt o c W A s → FlAt (fun n => if n < W.heap.size then o n else 16) c W' A s := fun c A s h => h.kp (m := 1) (g := 8 * c + 7) (Kp.of_below hx.below) (fun j h1 h2 => by rw [Nat.div_one]; omega) (fun n hn _ => hl n hn)
  have hold : ∀ n, n < W.heap.size ∧ o n / 8 = 2 → n < W'.heap.size ∧ (if n < W.heap.size then o n else 16) / 8 = 2 := fun n ⟨ha, hb⟩ => ⟨Nat.lt_of_lt_of_le ha hz, by rw [hl n ha]; exact hb⟩
  refine ⟨h1.trans hx, ⟨_, hk _ _ _ h2, hk _ _ _ h3, fun n hn => by rw [hl n (Nat.lt_of_lt_of_le hn h1.below.size)]; exact h4 n hn, fun n hn2 => ?_⟩, fun t ht => ?_, h7, h8⟩
  · have hnew : W.heap.size ≤ n ∧ n < W'.heap.size → n < W'.heap.size ∧ (if n < W.heap.size then o n else 16) / 8 = 2 := fun ⟨ha, hb⟩ => ⟨hb, by rw [if_neg (by omega)]⟩
    rcases hn2 with ⟨t, ht, rfl⟩ | hT2
    · rcases List.mem_append.1 ht with ht | ht
      · exact hnew ⟨hn t ht, (hc t ht).lt⟩
      · exact hold _ (h5 _ (.inl ⟨t, ht, rfl⟩))
    · rcases hT n hT2 with h | h
      · exact hold _ (h5 _ (.inr h))
      · exact hnew h
  · rcases List.mem_append.1 ht with ht | ht
    · exact hc t ht
    · exact h6.ex hx t ht
theorem Two.add (X : Two i j w0 A B sa sb E cs T W) (hx : Ex W W') (hn : ∀ t ∈ cs', W.heap.size ≤ t.1) (hc : Has cs' W') : Two i j w0 A B sa sb E (cs' ++ cs) T W' := X.more hx hn hc fun _ h => .inl h
theorem Two.later (X : Two i j w0 A B sa sb E cs T W) (hx : Ex W W') : Two i j w0 A B sa sb E cs T W' := X.add (cs' := []) hx (fun t ht => by cases ht) (Has.nil _)
theorem Two.less (X : Two i j w0 A B sa sb E cs T W) (hc : ∀ t ∈ cs', t ∈ cs) (hT : ∀ n, T' n → T n) : Two i j w0 A B sa sb E cs' T' W := by
  obtain ⟨h1, ⟨o, h2, h3, h4, h5⟩, h6, h7, h8⟩ := X
  refine ⟨h1, ⟨o, h2, h3, h4, fun n hn => h5 n ?_⟩, fun t ht => h6 t (hc t ht), h7, h8⟩
  rcases hn with ⟨t, ht, e⟩ | hn
  · exact .inl ⟨t, hc t ht, e⟩
  · exact .inr (hT n hn)
section
variable {F : FuncId} {args : Array Value} {P : Ending → Prop} {Q : Ending → World → Prop}
theorem Two.call (X : Two i j w0 A B sa sb E cs T W) (hC : ∀ o, FlAt o i W A sa → Errs E LE W → (∀ n, GE LE n → o n / 8 ≠ i) → Calls Tryd.prog F args W fun e w' => P e ∧ FlG o i W A sa' w') :
    Calls Tryd.prog F args W fun e w' => P e ∧ Two i j w0 A B sa' sb E cs T w' := by
  obtain ⟨o, h2, h3, h4, h5⟩ := X.lab
  have h9 := X.ij
  refine (hC o h2 (X.errs.ex X.ex) fun n ⟨e, he, hn⟩ => by
    rw [hn, h4 _ (lt_of_cell (X.errs e he))]
    omega).mono fun e w' ⟨he, k1, o2, k2, k3⟩ => ⟨he, ?_⟩
  -- the labels of this one floor serve
  have X' : Two i j w0 A B sa' sb E cs (fun n => T n ∨ False) w' := by
    have hz := k1.size
    have h1 := X.ex
    have hl : ∀ n, n < W.heap.size → (if n < W.heap.size ∨ o2 n / 8 = i then o2 n else 16) = o n := fun n hn => by rw [if_pos (.inl hn)]; exact k2 n hn
    have hsame : ∀ n, n < W.heap.size ∧ o n / 8 = 2 → w'.heap[n]? = W.heap[n]? := fun n ⟨ha, hb⟩ => k1.block n ha (by omega)
    refine ⟨Ex.of ⟨k1.os.trans h1.below.os, k1.tape.trans h1.below.tape, k1.output.trans h1.below.output, Nat.le_trans h1.below.size hz, fun n hn => (hsame n ⟨Nat.lt_of_lt_of_le hn h1.below.size, h4 n hn⟩).trans (h1.below.block n hn)⟩, ⟨fun n => if n < W.heap.size ∨ o2 n / 8 = i then o2 n else 16, k3.relabel (fun n hn e => if_pos (.inr e)), h3.kp k1 (fun j' a b => by omega) (fun n hn _ => hl n hn), fun n hn => by show (if n < W.heap.size ∨ o2 n / 8 = i then o2 n else 16) / 8 = 2; rw [hl n (Nat.lt_of_lt_of_le hn h1.below.size)]; exact h4 n hn, fun n hn => ?_⟩, fun t ht => (hsame _ (h5 _ (.inl ⟨t, ht, rfl⟩))).trans (X.has t ht), X.errs, h9⟩
    have hold : ∀ n, n < W.heap.size ∧ o n / 8 = 2 → n < w'.heap.size ∧ (if n < W.heap.size ∨ o2 n / 8 = i then o2 n else 16) / 8 = 2 := fun n ⟨ha, hb⟩ => ⟨Nat.lt_of_lt_of_le ha hz, by rw [hl n ha]; exact hb⟩
    rcases hn with hn | hn | hn
    · exact hold n (h5 n (.inl hn))
    · exact hold n (h5 n (.inr hn))
    · exact hn.elim
  exact X'.less (fun t ht => ht) (fun n hn => .inl hn)
theorem Two.read (X : Two i j w0 A B sa sb E cs T W) (hC : ∀ o, FlAt o i W A sa → Calls Tryd.prog F args W fun e w' => Q e w' ∧ Ex W w') : Calls Tryd.prog F args W fun e w' => Q e w' ∧ Ex W w' := by
  obtain ⟨o, h, _⟩ := X.lab
  exact hC o h
end
theorem Two.place (X : Two i j w0 A B sa sb E cs T W) (a : Ask) :
    Calls Tryd.prog 9 #[.pointer (some ⟨A.f, 0, none⟩), a.val] W fun e w' => e = .returned (errV E (fplaceE sa a)) ∧ Two i j w0 A B (fplaceS sa a) sb E cs T w' :=
  X.call fun o h hE hg => fplace_any h (hE.sub (by decide)) (fun n hn => hg n (hn.sub (by decide))) a
theorem Two.cancel (X : Two i j w0 A B sa sb E cs T W) (hO : FOk sa) (a : Ask) :
    Calls Tryd.prog 22 #[.pointer (some ⟨A.f, 0, none⟩), a.val] W fun e w' => e = .returned (.tuple #[(fcancelR sa a).1.val, errV E (fcancelR sa a).2.1]) ∧ Two i j w0 A B (fcancelR sa a).2.2 sb E cs T w' :=
  X.call fun o h hE hg => fcancel_any h hO (hE.sub (by decide)) (fun n hn => hg n (hn.sub (by decide))) a
/-- What Run of any item leaves. -/
def TwoRun (i j : Nat) (w0 : World) (A B : FlA) (sa sb : FSt) (E : Nat → Addr) (cs : List Bl) (T : Nat → Prop) (W : World) (R : RunR) (er : Value) (e : Ending) (w' : World) : Prop :=
  ∃ ao cap, e = .returned (.tuple #[.agg #[.int .i64 R.price, .int .i64 R.vol, .bool R.isOpen, .slice ao R.fills.length cap], er]) ∧ FillAt w' ao R.fills ∧ Two i j w0 A B sa sb E cs (fun n => T n ∨ TF ao R.fills n) w' ∧ ∀ n, T n → w'.heap[n]? = W.heap[n]?
theorem Two.run (X : Two i j w0 A B sa sb E cs T W) (hO : FOk sa) {wd hl : Int} (hwd : A.wd = wd) (hhl : A.hl = hl) (item seed : Int) (hs : U32 seed) :
    Calls Tryd.prog 16 #[.pointer (some ⟨A.f, 0, none⟩), .int .i64 item, .int .u32 seed] W
      (TwoRun i j w0 A B (runAnyS sa item wd hl seed) sb E cs T W (runAny sa item wd hl seed) (if inR item 0 2 = true then .nilIface else errV E 2)) := by
  subst hwd hhl
  by_cases hi : inR item 0 2 = true
  · obtain ⟨a, b⟩ := inR_iff.1 hi
    obtain ⟨k, rfl⟩ : ∃ k : Nat, item = k := ⟨item.toNat, by omega⟩
    have e1 : runAny sa (k : Int) A.wd A.hl seed = runR sa k A.wd A.hl seed := by unfold runAny; rw [if_pos hi, Int.toNat_natCast]
    have e2 : runAnyS sa (k : Int) A.wd A.hl seed = runS sa k A.wd A.hl seed := by unfold runAnyS; rw [if_pos hi, Int.toNat_natCast]
    rw [e1, e2, if_pos hi]
    have X0 := X
    obtain ⟨o, h2, h3, h4, h5⟩ := X.lab
    have h9 := X.ij
    have hg : ∀ n, GE LE n → o n / 8 ≠ i := fun n ⟨e, he, hn⟩ => by
      rw [hn, h4 _ (lt_of_cell (X.errs e he))]
      omega
    refine (frun_any h2 hO ((X.errs.ex X.ex).sub (by decide)) (fun n hn => hg n (hn.sub (by decide))) k (by omega) seed hs).mono fun e w' hT => ?_
    obtain ⟨ao, cap, rfl, hcap, hF, hnew, k1, o2, k2, k3, k4⟩ := hT
    have h1 := X.ex
    have hz := k1.size
    have hl : ∀ n, n < W.heap.size → (if n < W.heap.size ∨ o2 n / 8 = i then o2 n else 16) = o n := fun n hn => by rw [if_pos (.inl hn)]; exact k2 n hn
    have hsame : ∀ n, n < W.heap.size ∧ o n / 8 = 2 → w'.heap[n]? = W.heap[n]? := fun n ⟨ha, hb⟩ => k1.block n ha (by omega)
    refine ⟨ao, cap, rfl, hF, ⟨Ex.of ⟨k1.os.trans h1.below.os, k1.tape.trans h1.below.tape, k1.output.trans h1.below.output, Nat.le_trans h1.below.size hz, fun n hn => (hsame n ⟨Nat.lt_of_lt_of_le hn h1.below.size, h4 n hn⟩).trans (h1.below.block n hn)⟩, ⟨fun n => if n < W.heap.size ∨ o2 n / 8 = i then o2 n else 16, k3.relabel (fun n hn e => if_pos (.inr e)), h3.kp k1 (fun j' a b => by omega) (fun n hn _ => hl n hn), fun n hn => by show (if n < W.heap.size ∨ o2 n / 8 = i then o2 n else 16) / 8 = 2; rw [hl n (Nat.lt_of_lt_of_le hn h1.below.size)]; exact h4 n hn, fun n hn => ?_⟩, fun t ht => (hsame _ (h5 _ (.inl ⟨t, ht, rfl⟩))).trans (X.has t ht), X.errs, h9⟩, fun n hn => hsame n (h5 n (.inr hn))⟩
    have hold : ∀ n, n < W.heap.size ∧ o n / 8 = 2 → n < w'.heap.size ∧ (if n < W.heap.size ∨ o2 n / 8 = i then o2 n else 16) / 8 = 2 := fun n ⟨ha, hb⟩ => ⟨Nat.lt_of_lt_of_le ha hz, by rw [hl n ha]; exact hb⟩
    rcases hn with hn | hn | ⟨h0, off, e⟩
    · exact hold n (h5 n (.inl hn))
    · exact hold n (h5 n (.inr hn))
    · have q1 := hnew h0 n off e
      have q2 := k4 h0 n off e
      obtain ⟨b', off', e', hb, _⟩ := hF h0
      rw [e] at e'
      cases e'
      exact ⟨hb, by show (if n < W.heap.size ∨ o2 n / 8 = i then o2 n else 16) / 8 = 2; rw [if_neg (by omega)]⟩
  · have hi2 : inR item 0 2 = false := by simpa using hi
    have e1 : runAny sa item A.wd A.hl seed = ⟨0, 0, false, []⟩ := by unfold runAny; rw [if_neg hi]
    have e2 : runAnyS sa item A.wd A.hl seed = sa := by unfold runAnyS; rw [if_neg hi]
    rw [e1, e2, if_neg hi]
    refine (frun_bad _ item seed hi2 E W ((X.errs.ex X.ex).sub (by decide))).mono fun e w' ⟨he, hx⟩ => ⟨none, 0, he, (fun h => by cases h), (X.later hx).less (fun t ht => ht) (fun n hn => ?_), fun n hn => ?_⟩
    · rcases hn with h | ⟨h, _⟩
      · exact h
      · cases h
    · obtain ⟨o, _, _, _, h5⟩ := X.lab
      exact hx.below.block n (h5 n (.inr hn)).1
end
end Go.Proofs.YtmbboflakfokhaaDoor
