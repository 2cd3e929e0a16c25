/- Plain data: a lot; how slices of lots read. -/
import Derived.Test.YtfeeibealokhfaaDoorVals
import Derived.Test.YtfeeibealokhfaaDoorLaw
import Derived.Deep.Slices
set_option linter.unusedSimpArgs false
set_option linter.unusedVariables false
namespace Go.Proofs.YtfeeibealokhfaaDoor
open Go.ChangeShapes Go.WideShapes Go.ChangeAt Go.RowKit Go.Deep

structure Lot where
  id : Int
  owner : Int
  side : Int
  price : Int
  qty : Int
  deriving DecidableEq
def Lot.cells (a : Lot) : List Value := [.int .i64 a.id, .int .i64 a.owner, .int .i64 a.side, .int .i64 a.price, .int .i64 a.qty]
abbrev Lot.val (a : Lot) : Value := .agg #[.int .i64 a.id, .int .i64 a.owner, .int .i64 a.side, .int .i64 a.price, .int .i64 a.qty]

def Lot.wf (a : Lot) : Prop := (Lit.int .i64 a.id).wf = true ∧ (Lit.int .i64 a.owner).wf = true ∧ (Lit.int .i64 a.side).wf = true ∧ (Lit.int .i64 a.price).wf = true ∧ (Lit.int .i64 a.qty).wf = true
set_option maxRecDepth 100000 in
theorem lot_of_trod {H : Type} {enc : TypeId × Value → H} {w : World} {base : Nat} {spare : Nat → Bool} {held : Bool} {n : Nat} {cs : List Value} {y : DataW H × List MemPlace} (h : DataW.trod enc Tryd.prog w base spare held n 24 cs = some y) : ∃ a : Lot, a.wf ∧ cs = a.cells := by
  obtain ⟨ys, n', hn', hy, hlen, hyl, hf⟩ := DataW.trod_struct Tryd.underlying24 h
  have hcN : Tryd.prog.cellsOf 24 = 5 := by kernel_rfl
  rw [hcN] at hlen
  match cs, hlen with
  | [c0, c1, c2, c3, c4], _ =>
    match ys, hyl with
    | [y0, y1, y2, y3, y4], _ =>
      have g0 : DataW.trod enc Tryd.prog w base spare held n' 3 (([c0, c1, c2, c3, c4].drop 0).take (Tryd.prog.cellsOf 3)) = some y0 := hf 0 _ rfl
      rw [show Tryd.prog.cellsOf 3 = 1 by kernel_rfl] at g0
      have g1 : DataW.trod enc Tryd.prog w base spare held n' 3 (([c0, c1, c2, c3, c4].drop 1).take (Tryd.prog.cellsOf 3)) = some y1 := hf 1 _ rfl
      rw [show Tryd.prog.cellsOf 3 = 1 by kernel_rfl] at g1
      have g2 : DataW.trod enc Tryd.prog w base spare held n' 3 (([c0, c1, c2, c3, c4].drop 2).take (Tryd.prog.cellsOf 3)) = some y2 := hf 2 _ rfl
      rw [show Tryd.prog.cellsOf 3 = 1 by kernel_rfl] at g2
      have g3 : DataW.trod enc Tryd.prog w base spare held n' 3 (([c0, c1, c2, c3, c4].drop 3).take (Tryd.prog.cellsOf 3)) = some y3 := hf 3 _ rfl
      rw [show Tryd.prog.cellsOf 3 = 1 by kernel_rfl] at g3
      have g4 : DataW.trod enc Tryd.prog w base spare held n' 3 (([c0, c1, c2, c3, c4].drop 4).take (Tryd.prog.cellsOf 3)) = some y4 := hf 4 _ rfl
      rw [show Tryd.prog.cellsOf 3 = 1 by kernel_rfl] at g4
      obtain ⟨x0, e0, _, w0⟩ := DataW.trod_int Tryd.underlying3 g0
      simp at e0
      subst e0
      obtain ⟨x1, e1, _, w1⟩ := DataW.trod_int Tryd.underlying3 g1
      simp at e1
      subst e1
      obtain ⟨x2, e2, _, w2⟩ := DataW.trod_int Tryd.underlying3 g2
      simp at e2
      subst e2
      obtain ⟨x3, e3, _, w3⟩ := DataW.trod_int Tryd.underlying3 g3
      simp at e3
      subst e3
      obtain ⟨x4, e4, _, w4⟩ := DataW.trod_int Tryd.underlying3 g4
      simp at e4
      subst e4
      exact ⟨⟨x0, x1, x2, x3, x4⟩, ⟨w0, w1, w2, w3, w4⟩, rfl⟩
/-- A slice of Lots that can be read. -/
def LotsAt (w : World) (ao : Option Addr) (len : Nat) (l : List Lot) : Prop :=
  l.length = len ∧ len ≤ 9223372036854775807 ∧ (∀ a ∈ l, a.wf) ∧
    (0 < len → ∃ b off, ao = some ⟨b, off, none⟩ ∧ b < w.heap.size ∧ ∀ k (h : k < l.length) j, j < 5 → w.cell? ⟨b, off + k * 5 + j, none⟩ = l[k].cells[j]?)
set_option maxRecDepth 100000 in
theorem lots_open {H : Type} {enc : TypeId × Value → H} {w : World} {b0 : Nat} {v : Value} {d : DataW H} {p : List MemPlace} (hok : Value.okWide Tryd.prog w .any b0 52 v)
    (h : DataW.Trod enc Tryd.prog w 0 (fun _ => true) true 52 v d p) : ∃ ao len cap l, v = .slice ao len cap ∧ (len ≤ cap ∧ cap ≤ 9223372036854775807 ∧ (ao = none → cap = 0)) ∧ LotsAt w ao len l := by
  obtain ⟨a0, len, cap, rfl⟩ := okWide_slice Tryd.underlying52 hok
  obtain ⟨fuel, hf⟩ := h
  have hcN : Tryd.prog.cellsOf 24 = 5 := by kernel_rfl
  rcases open_slice Tryd.underlying52 hf with ⟨hcs, hx⟩ | ⟨a, len', cap', m, n, D, Pl, hcs, _, hl, hm, hmm, hx, hel⟩
  · simp [Value.cells] at hcs
    obtain ⟨rfl, rfl, rfl⟩ := hcs
    exact ⟨none, 0, 0, [], rfl, ⟨by omega, by omega, fun _ => rfl⟩, rfl, by omega, fun _ h => (by cases h), fun h => by omega⟩
  · simp [Value.cells] at hcs
    obtain ⟨rfl, rfl, rfl⟩ := hcs
    unfold maxLen at hm
    simp at hmm
    rw [hcN] at hel
    have hel' : ∀ i, i < len → ∃ x : Lot, x.wf ∧ w.cells? 0 (a.add (i * 5)) 5 = some x.cells := fun i hi => by
      obtain ⟨cs', h1, h2⟩ := hel i (by omega)
      obtain ⟨x, hx1, rfl⟩ := lot_of_trod h2
      exact ⟨x, hx1, h1⟩
    haveI : Inhabited Lot := ⟨⟨0, 0, 0, 0, 0⟩⟩
    obtain ⟨f, hF⟩ := choose_lt hel'
    refine ⟨some a, len, cap, (List.range len).map f, rfl, ⟨by omega, by omega, fun h => by cases h⟩, by simp, by omega, fun x hx => ?_, fun h0 => ?_⟩
    · obtain ⟨i, hi, rfl⟩ := List.mem_map.1 hx
      exact (hF i (List.mem_range.1 hi)).1
    · have hcell : ∀ k, k < len → ∀ j, j < 5 → w.cell? (a.add (k * 5 + j)) = (f k).cells[j]? := fun k hk j hj => by
        obtain ⟨_, _, hat⟩ := World.cells?_some (hF k hk).2
        rw [← Go.Deep.add_add]
        exact hat j hj
      obtain ⟨b, off, sp⟩ := a
      have h00 := hcell 0 h0 0 (by omega)
      have hsp : sp = none := by
        cases sp with
        | none => rfl
        | some q =>
          exfalso
          rw [show w.cell? (Addr.add ⟨b, off, some q⟩ (0 * 5 + 0)) = none by unfold World.cell? Addr.add; split <;> simp] at h00
          simp [Lot.cells] at h00
      subst hsp
      have hadd : ∀ i, Addr.add ⟨b, off, none⟩ i = ⟨b, off + i, none⟩ := fun i => by
        unfold Addr.add
        by_cases hi : i = 0 <;> simp [hi]
      refine ⟨b, off, rfl, ?_, fun k hk j hj => ?_⟩
      · rw [hadd] at h00
        exact lt_of_cell (v := .int .i64 (f 0).id) (by rw [h00]; rfl)
      · have := hcell k (by simpa using hk) j hj
        rw [hadd] at this
        rw [Nat.add_assoc, this]
        simp
end Go.Proofs.YtfeeibealokhfaaDoor
