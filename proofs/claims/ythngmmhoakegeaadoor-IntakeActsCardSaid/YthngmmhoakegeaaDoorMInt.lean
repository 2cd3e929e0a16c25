/- The document's intake: one list, whose turn it is. -/
import Derived.Test.YthngmmhoakegeaaDoorMIntL
import Derived.Test.YthngmmhoakegeaaDoorOne
import Derived.Test.YthngmmhoakegeaaDoorAppK
import Derived.Test.YthngmmhoakegeaaDoorEqAsk
set_option linter.unusedSimpArgs false
set_option linter.unusedVariables false
namespace Go.Proofs.YthngmmhoakegeaaDoor
open Go.RowKit

/-- Requests in a slice. -/
def AskC (w : World) (ao : Option Addr) (L : List Ask) : Prop := 0 < L.length → ∃ b off, ao = some ⟨b, off, none⟩ ∧ b < w.heap.size ∧ ∀ k (h : k < L.length) j, j < 8 → w.cell? ⟨b, off + k * 8 + j, none⟩ = L[k].cells[j]?
theorem AskC.ex {w w' : World} {ao : Option Addr} {L : List Ask} (h : AskC w ao L) (hx : Ex w w') : AskC w' ao L := fun h0 => by
  obtain ⟨b, off, e, hb, hc⟩ := h h0
  exact ⟨b, off, e, Nat.lt_of_lt_of_le hb hx.below.size, fun k hk j hj => (hx.below.cell (p := ⟨b, off + k * 8 + j, none⟩) hb).trans (hc k hk j hj)⟩
theorem ask_len (x : Ask) : x.cells.length = 8 := rfl
theorem ask_one (l : List Ask) : ∀ u ∈ flat Ask.cells l, u.oneCell' = true := flat_one'
theorem askC_row {w : World} {e : TypeId} {ao : Option Addr} {n cap : Nat} {L : List Ask} (hl : L.length = n) (h : RowAt w e 8 (.slice ao n cap) n (flat Ask.cells L)) : AskC w ao L := by
  intro h0
  have h' := h
  obtain ⟨_, ⟨hv, hz⟩ | ⟨g, off, cap', cur, hv, ⟨fr, hg, _⟩, _⟩⟩ := h
  · omega
  · cases hv
    refine ⟨g, off, rfl, (Array.getElem?_eq_some_iff.1 hg).1, fun k hk j hj => ?_⟩
    rw [Nat.add_assoc, h'.cell (j := k * 8 + j) (by omega), flat_get ask_len L k hk j hj]
theorem rowAt_of_owned {w : World} {base : Nat} {e : TypeId} {size : Nat} {v : Value} {n : Nat} {xs : List Value} (h : w.ownsRow base e size v n xs) : RowAt w e size v n xs := by
  obtain ⟨h1, h2 | ⟨g, cap, cur, rfl, hg, hh, hc, hm, hs, ht⟩⟩ := h
  · exact ⟨h1, .inl h2⟩
  · exact ⟨h1, .inr ⟨g, 0, cap, cur, rfl, ⟨(0, 0), hh, Unmarked.plain _⟩, hc, hm, by rw [Nat.zero_add, hs]; exact Nat.le_refl _, by rw [List.drop_zero]; exact ht⟩⟩
theorem row_form {w : World} {e : TypeId} {size : Nat} {v : Value} {n : Nat} {xs : List Value} (h : RowAt w e size v n xs) : ∃ ao cap, v = .slice ao n cap := by
  obtain ⟨_, ⟨rfl, h2⟩ | ⟨g, off, cap, cur, rfl, _⟩⟩ := h
  · exact ⟨none, 0, by rw [h2]⟩
  · exact ⟨_, _, rfl⟩
/-- The document's intake. -/
def MIntAt (own : Nat → Nat) (i : Nat) (w : World) (q : Nat) (L : List Ask) (turn : Nat) : Prop := turn < 6 ∧ L.length ≤ 36 ∧ ∃ v, OneAt own i w q 2 (fun _ => .int .i64 (turn : Int)) 30 8 v L.length (flat Ask.cells L)
section
variable {own own' : Nat → Nat} {i m g : Nat} {w w' : World} {q : Nat} {L : List Ask} {turn : Nat}
theorem MIntAt.lt (h : MIntAt own i w q L turn) : q < w.heap.size := by obtain ⟨_, _, v, h⟩ := h; exact h.lt
theorem MIntAt.free (h : MIntAt own i w q L turn) (j : Nat) : w.frozen? ⟨q, j, none⟩ = false := by obtain ⟨_, _, v, h⟩ := h; exact h.free j
theorem MIntAt.kp (h : MIntAt own i w q L turn) (hk : Kp own m g w w') (hi : i / m ≠ g) (ho : ∀ n, n < w.heap.size → own n = i → own' n = i) : MIntAt own' i w' q L turn := by
  obtain ⟨h1, h2, v, h3⟩ := h
  exact ⟨h1, h2, v, h3.kp hk hi ho⟩
theorem MIntAt.relabel (h : MIntAt own i w q L turn) (ho : ∀ n, n < w.heap.size → own n = i → own' n = i) : MIntAt own' i w q L turn := h.kp (m := 1) (g := i + 1) (Kp.refl _ _ _ _) (by simp) ho
theorem MIntAt.later (h : MIntAt own i w q L turn) (hx : Ex w w') : MIntAt own i w' q L turn := by
  obtain ⟨h1, h2, v, h3⟩ := h
  exact ⟨h1, h2, v, h3.later hx⟩
theorem MIntAt.keep (h : MIntAt own i w q L turn) (hx : Ex w w') : ObjTo own i i w (fun o w' => MIntAt o i w' q L turn) w' := ObjTo.of_ex hx ((h.relabel (fun n hn e => by rw [lab_lt hn]; exact e)).later hx)
theorem MIntAt.slice (h : MIntAt own i w q L turn) : ∃ ao cap, w.cell? ⟨q, 0, none⟩ = some (.slice ao L.length cap) ∧ w.cell? ⟨q, 1, none⟩ = some (.int .i64 (turn : Int)) ∧ L.length ≤ cap ∧ cap ≤ maxLen ∧ (ao = none → cap = 0) ∧ AskC w ao L ∧ RowAt w 30 8 (.slice ao L.length cap) L.length (flat Ask.cells L) ∧ (Value.slice ao L.length cap).ownBlock ≠ some q := by
  obtain ⟨h1, h2, v, h3⟩ := h
  obtain ⟨ao, cap, rfl, hc, hm, h0, _⟩ := h3.2.1.form
  exact ⟨ao, cap, h3.cell0 (by decide), h3.cell (j := 1) (by decide) (by decide), hc, hm, h0, askC_row rfl h3.2.1.1, h3.2.1.1, h3.2.2.2⟩
theorem MIntAt.fresh (own : Nat → Nat) (i : Nat) (w : World) (t : TypeId) (hp : own w.heap.size = i) : MIntAt own i (w.alloc (.cells #[.slice none 0 0, .int .i64 0] t)) w.heap.size [] 0 := by
  refine ⟨by decide, by simp, .slice none 0 0, ⟨t, ?_⟩, OwnRow.nil _ _ _ _ _, hp, fun e => by cases e⟩
  have h := World.rowIs_alloc w #[.slice none 0 0, .int .i64 0] t (fun j => if j = 0 then .slice none 0 0 else .int .i64 ((0 : Nat) : Int)) (fun j hj => by
    have : j = 0 ∨ j = 1 := by simp at hj; omega
    rcases this with rfl | rfl <;> simp)
  simpa using h
/-- The object where its own row, and then its cells, have turned. -/
theorem mi_turn {e : TypeId} {f f' : Nat → Value} {v : Value} {n : Nat} {xs : List Value} (h3 : OneAt own i w q 2 f e 8 v n xs) {w4 : World} {v' : Value} {n' : Nat} {xs' : List Value} (h1 : w4.os = w.os) (h2 : w4.tape = w.tape) (h4 : w4.output = w.output) (h5 : w.heap.size ≤ w4.heap.size)
    (hk : ∀ b, b < w.heap.size → b ≠ q → v.ownBlock ≠ some b → w4.heap[b]? = w.heap[b]?) (hrow : ∃ t, w4.rowIs q t 2 (fun j => if j = 0 then v' else f' j)) (hv : RowAt w4 e 8 v' n' xs') (hb : ∀ g, v'.ownBlock = some g → v.ownBlock = some g ∨ w.heap.size ≤ g) :
    Kp own 1 i w w4 ∧ OneAt (lab own w.heap.size (w4.heap.size - w.heap.size) i) i w4 q 2 f' e 8 v' n' xs' := by
  obtain ⟨o, g1, g2, g3, g4⟩ := h3.pick
  have hK : Kp o 2 1 w w4 := ⟨h1, h2, h4, h5, fun b hb' hlab => hk b hb' (fun e => hlab (by rw [e, g2])) (fun e => hlab (by rw [g1.2 b e]))⟩
  exact h3.turned (n' := n') (xs' := xs') g2 g4 hK hrow hv (fun g hg => by
    rcases hb g hg with h | h
    · exact .inl (g1.2 g h)
    · exact .inr h)
theorem mi_cells {w3 : World} (h : MIntAt own i w q L turn) {v : Value} (hc : w.cell? ⟨q, 0, none⟩ = some v) (hk : w3.heap[q]? = w.heap[q]?) : w3.frozen? ⟨q, 0, none⟩ = false ∧ w3.frozen? ⟨q, 1, none⟩ = false ∧ q < w3.heap.size ∧ w3.cell? ⟨q, 0, none⟩ = some v ∧ w3.cell? ⟨q, 1, none⟩ = some (.int .i64 (turn : Int)) := by
  obtain ⟨ao, cap, _, c1, _⟩ := h.slice
  obtain ⟨_, _, v0, h3⟩ := h
  obtain ⟨t, hrow⟩ := h3.main
  have := hrow.of_block (w' := w3) hk
  exact ⟨this.frozen 0, this.frozen 1, this.lt, (World.cell?_of_block (w := w) (w' := w3) hk).trans hc, (World.cell?_of_block (w := w) (w' := w3) hk).trans c1⟩
/-- The end where a row of the call's own has come, and the turn may be another. -/
theorem mi_end (h : MIntAt own i w q L turn) {w3 : World} {v' : Value} {L' : List Ask} {turn' : Nat} (hx : Ex w w3) (hr : RowAt w3 30 8 v' L'.length (flat Ask.cells L')) (hb : ∀ g, v'.ownBlock = some g → w.heap.size ≤ g) (hl : L'.length ≤ 36) (ht : turn' < 6) :
    ObjTo own i i w (fun o w' => MIntAt o i w' q L' turn') ((w3.setCell ⟨q, 0, none⟩ v').setCell ⟨q, 1, none⟩ (.int .i64 (turn' : Int))) := by
  have hq := h.lt
  obtain ⟨h1, h2, v0, h3⟩ := h
  obtain ⟨t, hrow⟩ := h3.main
  have hne : ∀ g, v'.ownBlock = some g → g ≠ q := fun g hg => by have := hb g hg; omega
  have := mi_turn (w4 := (w3.setCell ⟨q, 0, none⟩ v').setCell ⟨q, 1, none⟩ (.int .i64 (turn' : Int))) (f' := fun _ => .int .i64 (turn' : Int)) h3 hx.below.os hx.below.tape hx.below.output (by simpa [World.setCell] using hx.below.size)
    (fun b hb' e _ => by rw [Below.heap_setCell _ ⟨q, 1, none⟩ _ b (by simpa using e), Below.heap_setCell _ ⟨q, 0, none⟩ _ b (by simpa using e)]; exact hx.below.block b hb')
    ⟨t, (((hrow.of_block (w' := w3) (hx.below.block q hq)).set 0 v').set 1 (.int .i64 (turn' : Int))).congr fun j hj => by
      have : j = 0 ∨ j = 1 := by omega
      rcases this with rfl | rfl <;> simp⟩
    (hr.of_block fun g hg => by rw [Below.heap_setCell _ ⟨q, 1, none⟩ _ g (by simpa using hne g hg), Below.heap_setCell _ ⟨q, 0, none⟩ _ g (by simpa using hne g hg)])
    (fun g hg => .inr (hb g hg))
  exact ObjTo.of this.1 ⟨ht, hl, v', this.2⟩
/-- The end where its own row has grown. -/
theorem mi_grown (h : MIntAt own i w q L turn) {v : Value} (hc : w.cell? ⟨q, 0, none⟩ = some v) (x : Ask) (hf : L.length < 36) {W w3 : World} {v' : Value} (hW : Ex w W) (hr : RowAt w3 30 8 v' (L.length + 1) (flat Ask.cells L ++ x.cells)) (hg : W.grownBy w3 v.ownBlock) (hb : v'.ownBlock = v.ownBlock ∨ v'.ownBlock = some W.heap.size) :
    ObjTo own i i w (fun o w' => MIntAt o i w' q (L ++ [x]) turn) (w3.setCell ⟨q, 0, none⟩ v') := by
  have hq := h.lt
  obtain ⟨h1, h2, v0, h3⟩ := h
  obtain rfl : v0 = v := Option.some.inj ((h3.cell0 (by decide)).symm.trans hc)
  obtain ⟨t, hrow⟩ := h3.main
  have hs := hW.below.size
  have hs3 := hg.size
  have hqb := h3.2.2.2
  have hqk : w3.heap[q]? = w.heap[q]? := (hg.block q (by omega) (fun e => hqb e.symm)).trans (hW.below.block q hq)
  have hb' : ∀ g, v'.ownBlock = some g → v0.ownBlock = some g ∨ w.heap.size ≤ g := fun g hgb => by
    rcases hb with e | e
    · exact .inl (e ▸ hgb)
    · rw [hgb] at e; exact .inr (by have := Option.some.inj e; omega)
  have hne : ∀ g, v'.ownBlock = some g → g ≠ q := fun g hg e => by
    rcases hb' g hg with h | h
    · exact hqb (e ▸ h)
    · omega
  have := mi_turn (w4 := w3.setCell ⟨q, 0, none⟩ v') (f' := fun _ => .int .i64 (turn : Int)) (n' := (L ++ [x]).length) (xs' := flat Ask.cells (L ++ [x])) h3 (hg.os.trans hW.below.os) (hg.tape.trans hW.below.tape) (hg.output.trans hW.below.output) (by simp [World.setCell]; omega)
    (fun b hb1 e hne => by rw [Below.heap_setCell _ ⟨q, 0, none⟩ _ b (by simpa using e)]; exact (hg.block b (by omega) (fun e => hne e.symm)).trans (hW.below.block b hb1))
    ⟨t, ((hrow.of_block (w' := w3) hqk).set 0 v').congr fun j hj => by
      have : j = 0 ∨ j = 1 := by omega
      rcases this with rfl | rfl <;> simp⟩
    (RowAt.of_block (w := w3) (by rw [show (L ++ [x]).length = L.length + 1 by simp, show flat Ask.cells (L ++ [x]) = flat Ask.cells L ++ x.cells by rw [flat_append, flat_one]]; exact hr) (fun g hg => Below.heap_setCell _ _ _ _ (by simpa using hne g hg)))
    hb'
  exact ObjTo.of this.1 ⟨h1, by simp; omega, v', this.2⟩
end
theorem neAsk_self (x : Ask) (w : World) : (binOp .neq 30 (.agg #[.int .u8 x.kind, .int .i64 x.client, .int .i64 x.seq, .int .i64 x.item, .int .i64 x.side, .int .i64 x.price, .int .i64 x.qty, .int .i64 x.id]) (.agg #[.int .u8 x.kind, .int .i64 x.client, .int .i64 x.seq, .int .i64 x.item, .int .i64 x.side, .int .i64 x.price, .int .i64 x.qty, .int .i64 x.id])).run Tryd.prog w = .ok (.bool false) w := by rw [neAsk]; simp
set_option maxRecDepth 100000 in
theorem sameAsksOf (ao bo : Option Addr) (c1 c2 : Nat) (L : List Ask) (w : World) (h1 : AskC w ao L) (h2 : AskC w bo L) (hz : L.length ≤ 1000) :
    Calls Tryd.prog 41 #[.slice ao L.length c1, .slice bo L.length c2] w fun e w' => e = .returned (.bool true) ∧ Ex w w' := by
  have H1 := Lib.hid h1
  have H2 := Lib.hid h2
  clear h1 h2
  go_enter Tryd.func41, Tryd.ntmps41
  go_wp2_with fail
  go_loopw [5] (fun i wr => ∃ (k : Nat), k ≤ L.length ∧ i = .int .i64 (k : Int) ∧ Ex w wr) (fun i _ => L.length - (intOf i).toNat)
  case atStart => exact ⟨0, Nat.zero_le _, rfl, Ex.refl _⟩
  case round =>
    obtain ⟨k, hk, rfl, l1, d1, rfl⟩ := hrel
    by_cases hlt : k < L.length
    · obtain ⟨b1, o1, rfl, hb1, hc1⟩ := H1.out (by omega)
      obtain ⟨b2, o2, rfl, hb2, hc2⟩ := H2.out (by omega)
      have a0 := hc1 k hlt 0 (by omega)
      have a1 := hc1 k hlt 1 (by omega)
      have a2 := hc1 k hlt 2 (by omega)
      have a3 := hc1 k hlt 3 (by omega)
      have a4 := hc1 k hlt 4 (by omega)
      have a5 := hc1 k hlt 5 (by omega)
      have a6 := hc1 k hlt 6 (by omega)
      have a7 := hc1 k hlt 7 (by omega)
      have e0 := hc2 k hlt 0 (by omega)
      have e1 := hc2 k hlt 1 (by omega)
      have e2 := hc2 k hlt 2 (by omega)
      have e3 := hc2 k hlt 3 (by omega)
      have e4 := hc2 k hlt 4 (by omega)
      have e5 := hc2 k hlt 5 (by omega)
      have e6 := hc2 k hlt 6 (by omega)
      have e7 := hc2 k hlt 7 (by omega)
      simp only [Ask.cells, List.getElem?_cons_zero, List.getElem?_cons_succ, Nat.add_zero] at a0 a1 a2 a3 a4 a5 a6 a7 e0 e1 e2 e3 e4 e5 e6 e7
      generalize L[k] = x at *
      have ez := fun w => neAsk_self x w
      clear hc1 hc2
      go_wp2_with fail
      go_quiet (fail)
      all_goals go_wp2
      all_goals
        go_roundw
        case measure => simp [intOf]; omega
        case rel => exact ⟨k + 1, by omega, by go_num, (by repeat (first | exact Ex.refl _ | refine Ex.alloc ?_ _ | refine Ex.ext ?_ _ _ | refine Ex.drew ?_ | refine Ex.drewN ?_ _))⟩
    · obtain rfl : k = L.length := by omega
      go_wp2
      all_goals go_ret
      all_goals exact ⟨rfl, (by repeat (first | exact Ex.refl _ | refine Ex.alloc ?_ _ | refine Ex.ext ?_ _ _ | refine Ex.drew ?_ | refine Ex.drewN ?_ _))⟩
end Go.Proofs.YthngmmhoakegeaaDoor
