/- How the row's arguments read: slices of acts of purses. -/
import Derived.Test.YtfeeibealokhfaaDoorLot
import Derived.Laws.IdiomArrays
set_option linter.unusedSimpArgs false
set_option linter.unusedVariables false
namespace Go.Proofs.YtfeeibealokhfaaDoor
open Go.ChangeShapes Go.WideShapes Go.ChangeAt Go.RowKit Go.Deep


/-- An array of three numbers. -/
structure Tri where
  x : Int
  y : Int
  z : Int
  deriving DecidableEq
def Tri.cells (a : Tri) : List Value := [.int .i64 a.x, .int .i64 a.y, .int .i64 a.z]
abbrev Tri.val (a : Tri) : Value := .agg #[.int .i64 a.x, .int .i64 a.y, .int .i64 a.z]
def Tri.wf (a : Tri) : Prop := (Lit.int .i64 a.x).wf = true ∧ (Lit.int .i64 a.y).wf = true ∧ (Lit.int .i64 a.z).wf = true
set_option maxRecDepth 100000 in
theorem tri_of_trod {H : Type} {enc : TypeId × Value → H} {w : World} {base : Nat} {spare : Nat → Bool} {held : Bool} {n : Nat} {cs : List Value} {y : DataW H × List MemPlace} (h : DataW.trod enc Tryd.prog w base spare held n 28 cs = some y) : ∃ a : Tri, a.wf ∧ cs = a.cells := by
  have hcN : Tryd.prog.cellsOf 28 = 3 := by kernel_rfl
  have hc1 : Tryd.prog.cellsOf 3 = 1 := by kernel_rfl
  obtain ⟨_, _, _, _, hlen, _, _⟩ := DataW.trod_array Tryd.underlying28 h
  rw [hcN] at hlen
  match cs, hlen with
  | [c0, c1, c2], _ =>
    obtain ⟨y0, y1, y2, m, _, g0, g1, g2⟩ := trod_array3 Tryd.underlying28 hc1 h
    obtain ⟨x0, e0, _, w0⟩ := DataW.trod_int Tryd.underlying3 g0
    obtain ⟨x1, e1, _, w1⟩ := DataW.trod_int Tryd.underlying3 g1
    obtain ⟨x2, e2, _, w2⟩ := DataW.trod_int Tryd.underlying3 g2
    simp at e0 e1 e2
    subst e0 e1 e2
    exact ⟨⟨x0, x1, x2⟩, ⟨w0, w1, w2⟩, rfl⟩

structure Pay where
  kind : ByteArray
  client : Int
  cash : Int
  stock : Tri
  item : Int
  a : Lot
  b : Lot
  price : Int
  qty : Int
  deriving DecidableEq
def Pay.cells (a : Pay) : List Value := [.string a.kind, .int .i64 a.client, .int .i64 a.cash, .int .i64 a.stock.x, .int .i64 a.stock.y, .int .i64 a.stock.z, .int .i64 a.item, .int .i64 a.a.id, .int .i64 a.a.owner, .int .i64 a.a.side, .int .i64 a.a.price, .int .i64 a.a.qty, .int .i64 a.b.id, .int .i64 a.b.owner, .int .i64 a.b.side, .int .i64 a.b.price, .int .i64 a.b.qty, .int .i64 a.price, .int .i64 a.qty]
abbrev Pay.val (a : Pay) : Value := .agg #[.string a.kind, .int .i64 a.client, .int .i64 a.cash, .agg #[.int .i64 a.stock.x, .int .i64 a.stock.y, .int .i64 a.stock.z], .int .i64 a.item, .agg #[.int .i64 a.a.id, .int .i64 a.a.owner, .int .i64 a.a.side, .int .i64 a.a.price, .int .i64 a.a.qty], .agg #[.int .i64 a.b.id, .int .i64 a.b.owner, .int .i64 a.b.side, .int .i64 a.b.price, .int .i64 a.b.qty], .int .i64 a.price, .int .i64 a.qty]
def Pay.wf (a : Pay) : Prop := a.kind.size ≤ maxLen ∧ (Lit.int .i64 a.client).wf = true ∧ (Lit.int .i64 a.cash).wf = true ∧ a.stock.wf ∧ (Lit.int .i64 a.item).wf = true ∧ a.a.wf ∧ a.b.wf ∧ (Lit.int .i64 a.price).wf = true ∧ (Lit.int .i64 a.qty).wf = true
set_option maxRecDepth 100000 in
theorem pay_of_trod {H : Type} {enc : TypeId × Value → H} {w : World} {base : Nat} {spare : Nat → Bool} {held : Bool} {n : Nat} {cs : List Value} {y : DataW H × List MemPlace} (h : DataW.trod enc Tryd.prog w base spare held n 30 cs = some y) : ∃ a : Pay, a.wf ∧ cs = a.cells := by
  obtain ⟨ys, n', hn', hy, hlen, hyl, hf⟩ := DataW.trod_struct Tryd.underlying30 h
  have hcN : Tryd.prog.cellsOf 30 = 19 := by kernel_rfl
  rw [hcN] at hlen
  match cs, hlen with
  | [c0, c1, c2, c3, c4, c5, c6, c7, c8, c9, c10, c11, c12, c13, c14, c15, c16, c17, c18], _ =>
    match ys, hyl with
    | [y0, y1, y2, y3, y4, y5, y6, y7, y8], _ =>
      have g0 : DataW.trod enc Tryd.prog w base spare held n' 9 (([c0, c1, c2, c3, c4, c5, c6, c7, c8, c9, c10, c11, c12, c13, c14, c15, c16, c17, c18].drop 0).take (Tryd.prog.cellsOf 9)) = some y0 := hf 0 _ rfl
      rw [show Tryd.prog.cellsOf 9 = 1 by kernel_rfl] at g0
      have g1 : DataW.trod enc Tryd.prog w base spare held n' 3 (([c0, c1, c2, c3, c4, c5, c6, c7, c8, c9, c10, c11, c12, c13, c14, c15, c16, c17, c18].drop 1).take (Tryd.prog.cellsOf 3)) = some y1 := hf 1 _ rfl
      rw [show Tryd.prog.cellsOf 3 = 1 by kernel_rfl] at g1
      have g2 : DataW.trod enc Tryd.prog w base spare held n' 3 (([c0, c1, c2, c3, c4, c5, c6, c7, c8, c9, c10, c11, c12, c13, c14, c15, c16, c17, c18].drop 2).take (Tryd.prog.cellsOf 3)) = some y2 := hf 2 _ rfl
      rw [show Tryd.prog.cellsOf 3 = 1 by kernel_rfl] at g2
      have g3 : DataW.trod enc Tryd.prog w base spare held n' 28 (([c0, c1, c2, c3, c4, c5, c6, c7, c8, c9, c10, c11, c12, c13, c14, c15, c16, c17, c18].drop 3).take (Tryd.prog.cellsOf 28)) = some y3 := hf 3 _ rfl
      rw [show Tryd.prog.cellsOf 28 = 3 by kernel_rfl] at g3
      have g4 : DataW.trod enc Tryd.prog w base spare held n' 3 (([c0, c1, c2, c3, c4, c5, c6, c7, c8, c9, c10, c11, c12, c13, c14, c15, c16, c17, c18].drop 6).take (Tryd.prog.cellsOf 3)) = some y4 := hf 4 _ rfl
      rw [show Tryd.prog.cellsOf 3 = 1 by kernel_rfl] at g4
      have g5 : DataW.trod enc Tryd.prog w base spare held n' 24 (([c0, c1, c2, c3, c4, c5, c6, c7, c8, c9, c10, c11, c12, c13, c14, c15, c16, c17, c18].drop 7).take (Tryd.prog.cellsOf 24)) = some y5 := hf 5 _ rfl
      rw [show Tryd.prog.cellsOf 24 = 5 by kernel_rfl] at g5
      have g6 : DataW.trod enc Tryd.prog w base spare held n' 24 (([c0, c1, c2, c3, c4, c5, c6, c7, c8, c9, c10, c11, c12, c13, c14, c15, c16, c17, c18].drop 12).take (Tryd.prog.cellsOf 24)) = some y6 := hf 6 _ rfl
      rw [show Tryd.prog.cellsOf 24 = 5 by kernel_rfl] at g6
      have g7 : DataW.trod enc Tryd.prog w base spare held n' 3 (([c0, c1, c2, c3, c4, c5, c6, c7, c8, c9, c10, c11, c12, c13, c14, c15, c16, c17, c18].drop 17).take (Tryd.prog.cellsOf 3)) = some y7 := hf 7 _ rfl
      rw [show Tryd.prog.cellsOf 3 = 1 by kernel_rfl] at g7
      have g8 : DataW.trod enc Tryd.prog w base spare held n' 3 (([c0, c1, c2, c3, c4, c5, c6, c7, c8, c9, c10, c11, c12, c13, c14, c15, c16, c17, c18].drop 18).take (Tryd.prog.cellsOf 3)) = some y8 := hf 8 _ rfl
      rw [show Tryd.prog.cellsOf 3 = 1 by kernel_rfl] at g8
      obtain ⟨x0, e0, _, w0⟩ := DataW.trod_string Tryd.underlying9 g0
      simp at e0
      subst e0
      obtain ⟨x1, e1, _, w1⟩ := DataW.trod_int Tryd.underlying3 g1
      simp at e1
      subst e1
      obtain ⟨x2, e2, _, w2⟩ := DataW.trod_int Tryd.underlying3 g2
      simp at e2
      subst e2
      obtain ⟨x3, w3, e3⟩ := tri_of_trod g3
      simp [Tri.cells] at e3
      obtain ⟨rfl, rfl, rfl⟩ := e3
      obtain ⟨x4, e4, _, w4⟩ := DataW.trod_int Tryd.underlying3 g4
      simp at e4
      subst e4
      obtain ⟨x5, w5, e5⟩ := lot_of_trod g5
      simp [Lot.cells] at e5
      obtain ⟨rfl, rfl, rfl, rfl, rfl⟩ := e5
      obtain ⟨x6, w6, e6⟩ := lot_of_trod g6
      simp [Lot.cells] at e6
      obtain ⟨rfl, rfl, rfl, rfl, rfl⟩ := e6
      obtain ⟨x7, e7, _, w7⟩ := DataW.trod_int Tryd.underlying3 g7
      simp at e7
      subst e7
      obtain ⟨x8, e8, _, w8⟩ := DataW.trod_int Tryd.underlying3 g8
      simp at e8
      subst e8
      exact ⟨⟨x0, x1, x2, x3, x4, x5, x6, x7, x8⟩, ⟨w0, w1, w2, w3, w4, w5, w6, w7, w8⟩, rfl⟩
/-- A slice of Pays that can be read. -/
def PaysAt (w : World) (ao : Option Addr) (len : Nat) (l : List Pay) : Prop :=
  l.length = len ∧ len ≤ 9223372036854775807 ∧ (∀ a ∈ l, a.wf) ∧
    (0 < len → ∃ b off, ao = some ⟨b, off, none⟩ ∧ b < w.heap.size ∧ ∀ k (h : k < l.length) j, j < 19 → w.cell? ⟨b, off + k * 19 + j, none⟩ = l[k].cells[j]?)
set_option maxRecDepth 100000 in
theorem pays_open {H : Type} {enc : TypeId × Value → H} {w : World} {b0 : Nat} {v : Value} {d : DataW H} {p : List MemPlace} (hok : Value.okWide Tryd.prog w .any b0 22 v)
    (h : DataW.Trod enc Tryd.prog w 0 (fun _ => true) true 22 v d p) : ∃ ao len cap l, v = .slice ao len cap ∧ (len ≤ cap ∧ cap ≤ 9223372036854775807 ∧ (ao = none → cap = 0)) ∧ PaysAt w ao len l := by
  obtain ⟨a0, len, cap, rfl⟩ := okWide_slice Tryd.underlying22 hok
  obtain ⟨fuel, hf⟩ := h
  have hcN : Tryd.prog.cellsOf 30 = 19 := by kernel_rfl
  rcases open_slice Tryd.underlying22 hf with ⟨hcs, hx⟩ | ⟨a, len', cap', m, n, D, Pl, hcs, _, hl, hm, hmm, hx, hel⟩
  · simp [Value.cells] at hcs
    obtain ⟨rfl, rfl, rfl⟩ := hcs
    exact ⟨none, 0, 0, [], rfl, ⟨by omega, by omega, fun _ => rfl⟩, rfl, by omega, fun _ h => (by cases h), fun h => by omega⟩
  · simp [Value.cells] at hcs
    obtain ⟨rfl, rfl, rfl⟩ := hcs
    unfold maxLen at hm
    simp at hmm
    rw [hcN] at hel
    have hel' : ∀ i, i < len → ∃ x : Pay, x.wf ∧ w.cells? 0 (a.add (i * 19)) 19 = some x.cells := fun i hi => by
      obtain ⟨cs', h1, h2⟩ := hel i (by omega)
      obtain ⟨x, hx1, rfl⟩ := pay_of_trod h2
      exact ⟨x, hx1, h1⟩
    haveI : Inhabited Pay := ⟨⟨ByteArray.empty, 0, 0, ⟨0, 0, 0⟩, 0, ⟨0, 0, 0, 0, 0⟩, ⟨0, 0, 0, 0, 0⟩, 0, 0⟩⟩
    obtain ⟨f, hF⟩ := choose_lt hel'
    refine ⟨some a, len, cap, (List.range len).map f, rfl, ⟨by omega, by omega, fun h => by cases h⟩, by simp, by omega, fun x hx => ?_, fun h0 => ?_⟩
    · obtain ⟨i, hi, rfl⟩ := List.mem_map.1 hx
      exact (hF i (List.mem_range.1 hi)).1
    · have hcell : ∀ k, k < len → ∀ j, j < 19 → w.cell? (a.add (k * 19 + j)) = (f k).cells[j]? := fun k hk j hj => by
        obtain ⟨_, _, hat⟩ := World.cells?_some (hF k hk).2
        rw [← Go.Deep.add_add]
        exact hat j hj
      obtain ⟨b, off, sp⟩ := a
      have h00 := hcell 0 h0 0 (by omega)
      have hsp : sp = none := by
        cases sp with
        | none => rfl
        | some q =>
          exfalso
          rw [show w.cell? (Addr.add ⟨b, off, some q⟩ (0 * 19 + 0)) = none by unfold World.cell? Addr.add; split <;> simp] at h00
          simp [Pay.cells] at h00
      subst hsp
      have hadd : ∀ i, Addr.add ⟨b, off, none⟩ i = ⟨b, off + i, none⟩ := fun i => by
        unfold Addr.add
        by_cases hi : i = 0 <;> simp [hi]
      refine ⟨b, off, rfl, ?_, fun k hk j hj => ?_⟩
      · rw [hadd] at h00
        exact lt_of_cell (v := .string (f 0).kind) (by rw [h00]; rfl)
      · have := hcell k (by simpa using hk) j hj
        rw [hadd] at this
        rw [Nat.add_assoc, this]
        simp
end Go.Proofs.YtfeeibealokhfaaDoor
