/- What stays where a client's eight numbers are stored. -/
import Derived.Test.YtfeeibealokhfaaDoorMTrade
import Derived.Test.YtfeeibealokhfaaDoorMStore
set_option linter.unusedSimpArgs false
set_option linter.unusedVariables false
namespace Go.Proofs.YtfeeibealokhfaaDoor
open Go.RowKit

/-- The world behind the eight stores. -/
abbrev st8 (W : World) (p c : Nat) (z0 z1 z2 z3 z4 z5 z6 z7 : Int) : World := (((((((W.setCell ⟨p, c * 8, none⟩ (.int .i64 z0)).setCell ⟨p, c * 8 + 1, none⟩ (.int .i64 z1)).setCell ⟨p, c * 8 + 2, none⟩ (.int .i64 z2)).setCell ⟨p, c * 8 + 3, none⟩ (.int .i64 z3)).setCell ⟨p, c * 8 + 4, none⟩ (.int .i64 z4)).setCell ⟨p, c * 8 + 5, none⟩ (.int .i64 z5)).setCell ⟨p, c * 8 + 6, none⟩ (.int .i64 z6)).setCell ⟨p, c * 8 + 7, none⟩ (.int .i64 z7)
/-- What is held. -/
abbrev Held8 (own : Nat → Nat) (i : Nat) (w : World) (hs : Nat) (y0 y1 y2 y3 y4 y5 y6 y7 : Int) (nb ns : Nat) (b s : Lot) (p : Nat) (t : TypeId) (P : Pu) (W : World) : Prop := HasBox hs y0 y1 y2 y3 y4 y5 y6 y7 W ∧ BoxTwo nb ns b s W ∧ PRow W p t P ∧ Kp own 1 i w W
theorem st8_all {own : Nat → Nat} {i : Nat} {w W : World} {hs : Nat} {y0 y1 y2 y3 y4 y5 y6 y7 : Int} {nb ns : Nat} {b s : Lot} {p : Nat} {t : TypeId} {P : Pu} (hg : HasBox hs y0 y1 y2 y3 y4 y5 y6 y7 W) (hb : BoxTwo nb ns b s W) (hr : PRow W p t P) (hK : Kp own 1 i w W) (h1 : own p = i) (q1 : hs ≠ p) (q2 : nb ≠ p) (q3 : ns ≠ p) (c : Nat) (z0 z1 z2 z3 z4 z5 z6 z7 : Int) :
    Held8 own i w hs y0 y1 y2 y3 y4 y5 y6 y7 nb ns b s p t (P.put c (vec8 z0 z1 z2 z3 z4 z5 z6 z7)) ((((((((W.setCell ⟨p, c * 8, none⟩ (.int .i64 z0)).setCell ⟨p, c * 8 + 1, none⟩ (.int .i64 z1)).setCell ⟨p, c * 8 + 2, none⟩ (.int .i64 z2)).setCell ⟨p, c * 8 + 3, none⟩ (.int .i64 z3)).setCell ⟨p, c * 8 + 4, none⟩ (.int .i64 z4)).setCell ⟨p, c * 8 + 5, none⟩ (.int .i64 z5)).setCell ⟨p, c * 8 + 6, none⟩ (.int .i64 z6)).setCell ⟨p, c * 8 + 7, none⟩ (.int .i64 z7)) := by
  refine ⟨?_, ?_, PRow.set8 hr c z0 z1 z2 z3 z4 z5 z6 z7, put8_kp hK h1 c (vec8 z0 z1 z2 z3 z4 z5 z6 z7)⟩
  · exact (((((((hg.other q1 _ _).other q1 _ _).other q1 _ _).other q1 _ _).other q1 _ _).other q1 _ _).other q1 _ _).other q1 _ _
  · exact (((((((hb.other q2 q3 _ _).other q2 q3 _ _).other q2 q3 _ _).other q2 q3 _ _).other q2 q3 _ _).other q2 q3 _ _).other q2 q3 _ _).other q2 q3 _ _
theorem Held8.drew {own : Nat → Nat} {i : Nat} {w W : World} {hs : Nat} {y0 y1 y2 y3 y4 y5 y6 y7 : Int} {nb ns : Nat} {b s : Lot} {p : Nat} {t : TypeId} {P : Pu} (h : Held8 own i w hs y0 y1 y2 y3 y4 y5 y6 y7 nb ns b s p t P W) : Held8 own i w hs y0 y1 y2 y3 y4 y5 y6 y7 nb ns b s p t P W.drew := ⟨h.1, h.2.1, h.2.2.1, h.2.2.2.drew⟩
/-- The store in one step, the world behind it a letter. -/
theorem step_store8h {Pr : Program} {ops : Array Oper} {o : Oper} {a : Act} {W : World} {K : Act → World → Prop} {Q : Exit → Act → World → Prop} {E : Prop} (hgd : o.guard = none) (ty : TypeId) (pp x : Operand) (ho : o.op = .store ty pp x)
    {own : Nat → Nat} {i : Nat} {w : World} {hs : Nat} {y0 y1 y2 y3 y4 y5 y6 y7 : Int} {nb ns : Nat} {b s : Lot} {p : Nat} {t : TypeId} {P : Pu} (hH : Held8 own i w hs y0 y1 y2 y3 y4 y5 y6 y7 nb ns b s p t P W) (h1 : own p = i) (q1 : hs ≠ p) (q2 : nb ≠ p) (q3 : ns ≠ p)
    (c : Nat) (hp : a.eval pp = .pointer (some ⟨p, c * 8, none⟩)) (z0 z1 z2 z3 z4 z5 z6 z7 : Int) (hx : a.eval x = .agg #[.int .i64 z0, .int .i64 z1, .int .i64 z2, .int .i64 z3, .int .i64 z4, .int .i64 z5, .int .i64 z6, .int .i64 z7]) (hc : c < 6) (hi : (Pr.info? ty).map (·.size) = some 8)
    (hK : ∀ W5, Held8 own i w hs y0 y1 y2 y3 y4 y5 y6 y7 nb ns b s p t (P.put c (vec8 z0 z1 z2 z3 z4 z5 z6 z7)) W5 → K (a.put o.dst undef) W5) :
    if Region.wanted o (yielded ops a.tmps) = true then Oper.wp Pr o a W K Q else E :=
  step_store8 hgd ty pp x ho p c hp z0 z1 z2 z3 z4 z5 z6 z7 hx t P hH.2.2.1 hc hi (hK _ (st8_all hH.1 hH.2.1 hH.2.2.1 hH.2.2.2 h1 q1 q2 q3 c z0 z1 z2 z3 z4 z5 z6 z7))
theorem run_storeHas8 {Pr : Program} {W : World} {g : Nat} {ty : TypeId} {y0 y1 y2 y3 y4 y5 y6 y7 : Int} (h : HasBox g y0 y1 y2 y3 y4 y5 y6 y7 W) (hi : (Pr.info? ty).map (·.size) = some 8) (z0 z1 z2 z3 z4 z5 z6 z7 : Int) :
    (storeVar ty ⟨g, 0, none⟩ (.agg #[.int .i64 z0, .int .i64 z1, .int .i64 z2, .int .i64 z3, .int .i64 z4, .int .i64 z5, .int .i64 z6, .int .i64 z7])).run Pr W = .ok () (W.setCells g 0 [.int .i64 z0, .int .i64 z1, .int .i64 z2, .int .i64 z3, .int .i64 z4, .int .i64 z5, .int .i64 z6, .int .i64 z7]) := by
  obtain ⟨c0, c1, c2, c3, c4, c5, c6, c7⟩ := h.cells
  have hst := run_storeCells_cells (P := Pr) g 0 [.int .i64 z0, .int .i64 z1, .int .i64 z2, .int .i64 z3, .int .i64 z4, .int .i64 z5, .int .i64 z6, .int .i64 z7] 0 W (fun j hj => by
    have : j = 0 ∨ j = 1 ∨ j = 2 ∨ j = 3 ∨ j = 4 ∨ j = 5 ∨ j = 6 ∨ j = 7 := by simp at hj; omega
    rcases this with rfl | rfl | rfl | rfl | rfl | rfl | rfl | rfl <;> simp [*]) (fun j hj => h.frozen _) (by intro v hv; simp at hv; rcases hv with rfl | rfl | rfl | rfl | rfl | rfl | rfl | rfl <;> rfl)
  obtain ⟨i, hi1, hi2⟩ := Option.map_eq_some_iff.1 hi
  simp [storeVar, Value.cells, sizeOf, typeInfo, hi1, hi2, Sem.run_bind]
  simpa using hst
theorem step_has8 {Pr : Program} {ops : Array Oper} {o : Oper} {a : Act} {W : World} {K : Act → World → Prop} {Q : Exit → Act → World → Prop} {E : Prop} (hgd : o.guard = none) (ty : TypeId) (pp x : Operand) (ho : o.op = .store ty pp x)
    {own : Nat → Nat} {i : Nat} {w : World} {hs : Nat} {y0 y1 y2 y3 y4 y5 y6 y7 : Int} {nb ns : Nat} {b s : Lot} {p : Nat} {t : TypeId} {P : Pu} (hH : Held8 own i w hs y0 y1 y2 y3 y4 y5 y6 y7 nb ns b s p t P W) (q1 : p ≠ hs) (q2 : nb ≠ hs) (q3 : ns ≠ hs) (hsz : w.heap.size ≤ hs)
    (hp : a.eval pp = .pointer (some ⟨hs, 0, none⟩)) (z0 z1 z2 z3 z4 z5 z6 z7 : Int) (hx : a.eval x = .agg #[.int .i64 z0, .int .i64 z1, .int .i64 z2, .int .i64 z3, .int .i64 z4, .int .i64 z5, .int .i64 z6, .int .i64 z7]) (hi : (Pr.info? ty).map (·.size) = some 8)
    (hK : ∀ W5, Held8 own i w hs z0 z1 z2 z3 z4 z5 z6 z7 nb ns b s p t P W5 → K (a.put o.dst undef) W5) :
    if Region.wanted o (yielded ops a.tmps) = true then Oper.wp Pr o a W K Q else E := by
  have hw : Region.wanted o (yielded ops a.tmps) = true := by simp [Region.wanted, hgd]
  rw [if_pos hw]
  obtain ⟨hg, hb, hr, hKp⟩ := hH
  have hl := hg.lt
  have hKs : ∀ (V : World) (j : Nat) (v : Value), Kp own 1 i w V → Kp own 1 i w (V.setCell ⟨hs, j, none⟩ v) := fun V j v h => h.setCell (fun h' => absurd (show hs < w.heap.size from h') (by omega)) v
  have hPs : ∀ (V : World) (j : Nat) (v : Value), PRow V p t P → PRow (V.setCell ⟨hs, j, none⟩ v) p t P := fun V j v h => World.rowIs.of_block h (Below.heap_setCell V ⟨hs, j, none⟩ v p q1)
  have hH2 : Held8 own i w hs z0 z1 z2 z3 z4 z5 z6 z7 nb ns b s p t P (W.setCells hs 0 [.int .i64 z0, .int .i64 z1, .int .i64 z2, .int .i64 z3, .int .i64 z4, .int .i64 z5, .int .i64 z6, .int .i64 z7]) := by
    simp only [World.setCells, Nat.zero_add, Nat.reduceAdd]
    exact ⟨(((((((hg.set0 z0).set1 z1).set2 z2).set3 z3).set4 z4).set5 z5).set6 z6).set7 z7,
      (((((((hb.other q2 q3 _ _).other q2 q3 _ _).other q2 q3 _ _).other q2 q3 _ _).other q2 q3 _ _).other q2 q3 _ _).other q2 q3 _ _).other q2 q3 _ _,
      hPs _ _ _ (hPs _ _ _ (hPs _ _ _ (hPs _ _ _ (hPs _ _ _ (hPs _ _ _ (hPs _ _ _ (hPs _ _ _ hr))))))),
      hKs _ _ _ (hKs _ _ _ (hKs _ _ _ (hKs _ _ _ (hKs _ _ _ (hKs _ _ _ (hKs _ _ _ (hKs _ _ _ hKp)))))))⟩
  unfold Oper.wp execOp
  simp [ho, hp, hx, Instr.storeAt, Instr.sureAddr, Sem.run_bind, run_storeHas8 hg hi z0 z1 z2 z3 z4 z5 z6 z7, Result.andThen_ok]
  exact hK _ hH2
theorem mput_end {own : Nat → Nat} {i : Nat} {w W7 W : World} {p : Nat} {t : TypeId} {R Q : Pu} (hr : PRow W7 p t R) (hK : Kp own 1 i w W7) (h1 : own p = i) (hI : PInv Q) (heq : ∀ d k, k < 8 → R d k = Q d k) (hx : Ex W7 W) : ObjTo own i i w (fun o w' => PurseAt o i w' p Q) W := by
  have hb := hx.below
  exact ObjTo.of (hK.trans hb.os hb.tape hb.output hb.size fun k hk _ => hb.block k (Nat.lt_of_lt_of_le hk hK.size)) (PurseAt.toLab (PurseAt.later ⟨h1, hI, t, PRow.congr hr heq⟩ hx))
end Go.Proofs.YtfeeibealokhfaaDoor
