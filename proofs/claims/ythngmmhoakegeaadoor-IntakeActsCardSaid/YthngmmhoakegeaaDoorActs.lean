/- How the row's arguments read: slices of acts. -/
import Derived.Test.YthngmmhoakegeaaDoorVals
import Derived.Test.YthngmmhoakegeaaDoorLaw
import Derived.Deep.Slices
set_option linter.unusedSimpArgs false
set_option linter.unusedVariables false
namespace Go.Proofs.YthngmmhoakegeaaDoor
open Go.ChangeShapes Go.WideShapes Go.ChangeAt Go.RowKit Go.Deep

structure Act where
  kind : ByteArray
  a : Ask
  client : Int
  deriving DecidableEq
def Act.cells (a : Act) : List Value := [.string a.kind, .int .u8 a.a.kind, .int .i64 a.a.client, .int .i64 a.a.seq, .int .i64 a.a.item, .int .i64 a.a.side, .int .i64 a.a.price, .int .i64 a.a.qty, .int .i64 a.a.id, .int .i64 a.client]
abbrev Act.val (a : Act) : Value := .agg #[.string a.kind, .agg #[.int .u8 a.a.kind, .int .i64 a.a.client, .int .i64 a.a.seq, .int .i64 a.a.item, .int .i64 a.a.side, .int .i64 a.a.price, .int .i64 a.a.qty, .int .i64 a.a.id], .int .i64 a.client]
def Ask.wf (a : Ask) : Prop := (0 ≤ a.kind ∧ a.kind ≤ 255) ∧ (Lit.int .i64 a.client).wf = true ∧ (Lit.int .i64 a.seq).wf = true ∧ (Lit.int .i64 a.item).wf = true ∧ (Lit.int .i64 a.side).wf = true ∧ (Lit.int .i64 a.price).wf = true ∧ (Lit.int .i64 a.qty).wf = true ∧ (Lit.int .i64 a.id).wf = true
set_option maxRecDepth 100000 in
theorem ask_of_trod {H : Type} {enc : TypeId × Value → H} {w : World} {base : Nat} {spare : Nat → Bool} {held : Bool} {n : Nat} {cs : List Value} {y : DataW H × List MemPlace} (h : DataW.trod enc Tryd.prog w base spare held n 30 cs = some y) : ∃ a : Ask, a.wf ∧ cs = a.cells := by
  obtain ⟨ys, n', hn', hy, hlen, hyl, hf⟩ := DataW.trod_struct Tryd.underlying30 h
  have hcN : Tryd.prog.cellsOf 30 = 8 := by kernel_rfl
  rw [hcN] at hlen
  match cs, hlen with
  | [c0, c1, c2, c3, c4, c5, c6, c7], _ =>
    match ys, hyl with
    | [y0, y1, y2, y3, y4, y5, y6, y7], _ =>
      have g0 : DataW.trod enc Tryd.prog w base spare held n' 5 (([c0, c1, c2, c3, c4, c5, c6, c7].drop 0).take (Tryd.prog.cellsOf 5)) = some y0 := hf 0 _ rfl
      rw [show Tryd.prog.cellsOf 5 = 1 by kernel_rfl] at g0
      have g1 : DataW.trod enc Tryd.prog w base spare held n' 3 (([c0, c1, c2, c3, c4, c5, c6, c7].drop 1).take (Tryd.prog.cellsOf 3)) = some y1 := hf 1 _ rfl
      rw [show Tryd.prog.cellsOf 3 = 1 by kernel_rfl] at g1
      have g2 : DataW.trod enc Tryd.prog w base spare held n' 3 (([c0, c1, c2, c3, c4, c5, c6, c7].drop 2).take (Tryd.prog.cellsOf 3)) = some y2 := hf 2 _ rfl
      rw [show Tryd.prog.cellsOf 3 = 1 by kernel_rfl] at g2
      have g3 : DataW.trod enc Tryd.prog w base spare held n' 3 (([c0, c1, c2, c3, c4, c5, c6, c7].drop 3).take (Tryd.prog.cellsOf 3)) = some y3 := hf 3 _ rfl
      rw [show Tryd.prog.cellsOf 3 = 1 by kernel_rfl] at g3
      have g4 : DataW.trod enc Tryd.prog w base spare held n' 3 (([c0, c1, c2, c3, c4, c5, c6, c7].drop 4).take (Tryd.prog.cellsOf 3)) = some y4 := hf 4 _ rfl
      rw [show Tryd.prog.cellsOf 3 = 1 by kernel_rfl] at g4
      have g5 : DataW.trod enc Tryd.prog w base spare held n' 3 (([c0, c1, c2, c3, c4, c5, c6, c7].drop 5).take (Tryd.prog.cellsOf 3)) = some y5 := hf 5 _ rfl
      rw [show Tryd.prog.cellsOf 3 = 1 by kernel_rfl] at g5
      have g6 : DataW.trod enc Tryd.prog w base spare held n' 3 (([c0, c1, c2, c3, c4, c5, c6, c7].drop 6).take (Tryd.prog.cellsOf 3)) = some y6 := hf 6 _ rfl
      rw [show Tryd.prog.cellsOf 3 = 1 by kernel_rfl] at g6
      have g7 : DataW.trod enc Tryd.prog w base spare held n' 3 (([c0, c1, c2, c3, c4, c5, c6, c7].drop 7).take (Tryd.prog.cellsOf 3)) = some y7 := hf 7 _ rfl
      rw [show Tryd.prog.cellsOf 3 = 1 by kernel_rfl] at g7
      obtain ⟨x0, e0, _, w0⟩ := DataW.trod_int Tryd.underlying5 g0
      simp at e0
      subst e0
      obtain ⟨x1, e1, _, w1⟩ := DataW.trod_int Tryd.underlying3 g1
      simp at e1
      subst e1
      obtain ⟨x2, e2, _, w2⟩ := DataW.trod_int Tryd.underlying3 g2
      simp at e2
      subst e2
      obtain ⟨x3, e3, _, w3⟩ := DataW.trod_int Tryd.underlying3 g3
      simp at e3
      subst e3
      obtain ⟨x4, e4, _, w4⟩ := DataW.trod_int Tryd.underlying3 g4
      simp at e4
      subst e4
      obtain ⟨x5, e5, _, w5⟩ := DataW.trod_int Tryd.underlying3 g5
      simp at e5
      subst e5
      obtain ⟨x6, e6, _, w6⟩ := DataW.trod_int Tryd.underlying3 g6
      simp at e6
      subst e6
      obtain ⟨x7, e7, _, w7⟩ := DataW.trod_int Tryd.underlying3 g7
      simp at e7
      subst e7
      exact ⟨⟨x0, x1, x2, x3, x4, x5, x6, x7⟩, ⟨(by simp [Lit.wf, IntKind.min, IntKind.max, IntKind.signed, IntKind.bits] at w0; omega), w1, w2, w3, w4, w5, w6, w7⟩, rfl⟩
/-- A slice of Asks that can be read. -/
def AsksAt (w : World) (ao : Option Addr) (len : Nat) (l : List Ask) : Prop :=
  l.length = len ∧ len ≤ 9223372036854775807 ∧ (∀ a ∈ l, a.wf) ∧
    (0 < len → ∃ b off, ao = some ⟨b, off, none⟩ ∧ b < w.heap.size ∧ ∀ k (h : k < l.length) j, j < 8 → w.cell? ⟨b, off + k * 8 + j, none⟩ = l[k].cells[j]?)
set_option maxRecDepth 100000 in
theorem asks_open {H : Type} {enc : TypeId × Value → H} {w : World} {b0 : Nat} {v : Value} {d : DataW H} {p : List MemPlace} (hok : Value.okWide Tryd.prog w .any b0 33 v)
    (h : DataW.Trod enc Tryd.prog w 0 (fun _ => true) true 33 v d p) : ∃ ao len cap l, v = .slice ao len cap ∧ AsksAt w ao len l := by
  obtain ⟨a0, len, cap, rfl⟩ := okWide_slice Tryd.underlying33 hok
  obtain ⟨fuel, hf⟩ := h
  have hcN : Tryd.prog.cellsOf 30 = 8 := by kernel_rfl
  rcases open_slice Tryd.underlying33 hf with ⟨hcs, hx⟩ | ⟨a, len', cap', m, n, D, Pl, hcs, _, hl, hm, hmm, hx, hel⟩
  · simp [Value.cells] at hcs
    obtain ⟨rfl, rfl, rfl⟩ := hcs
    exact ⟨none, 0, 0, [], rfl, rfl, by omega, fun _ h => (by cases h), fun h => by omega⟩
  · simp [Value.cells] at hcs
    obtain ⟨rfl, rfl, rfl⟩ := hcs
    unfold maxLen at hm
    simp at hmm
    rw [hcN] at hel
    have hel' : ∀ i, i < len → ∃ x : Ask, x.wf ∧ w.cells? 0 (a.add (i * 8)) 8 = some x.cells := fun i hi => by
      obtain ⟨cs', h1, h2⟩ := hel i (by omega)
      obtain ⟨x, hx1, rfl⟩ := ask_of_trod h2
      exact ⟨x, hx1, h1⟩
    haveI : Inhabited Ask := ⟨⟨0, 0, 0, 0, 0, 0, 0, 0⟩⟩
    obtain ⟨f, hF⟩ := choose_lt hel'
    refine ⟨some a, len, cap, (List.range len).map f, rfl, by simp, by omega, fun x hx => ?_, fun h0 => ?_⟩
    · obtain ⟨i, hi, rfl⟩ := List.mem_map.1 hx
      exact (hF i (List.mem_range.1 hi)).1
    · have hcell : ∀ k, k < len → ∀ j, j < 8 → w.cell? (a.add (k * 8 + j)) = (f k).cells[j]? := fun k hk j hj => by
        obtain ⟨_, _, hat⟩ := World.cells?_some (hF k hk).2
        rw [← Go.Deep.add_add]
        exact hat j hj
      obtain ⟨b, off, sp⟩ := a
      have h00 := hcell 0 h0 0 (by omega)
      have hsp : sp = none := by
        cases sp with
        | none => rfl
        | some q =>
          exfalso
          rw [show w.cell? (Addr.add ⟨b, off, some q⟩ (0 * 8 + 0)) = none by unfold World.cell? Addr.add; split <;> simp] at h00
          simp [Ask.cells] at h00
      subst hsp
      have hadd : ∀ i, Addr.add ⟨b, off, none⟩ i = ⟨b, off + i, none⟩ := fun i => by
        unfold Addr.add
        by_cases hi : i = 0 <;> simp [hi]
      refine ⟨b, off, rfl, ?_, fun k hk j hj => ?_⟩
      · rw [hadd] at h00
        exact lt_of_cell (v := .int .u8 (f 0).kind) (by rw [h00]; rfl)
      · have := hcell k (by simpa using hk) j hj
        rw [hadd] at this
        rw [Nat.add_assoc, this]
        simp
def Act.wf (a : Act) : Prop := a.kind.size ≤ maxLen ∧ a.a.wf ∧ (Lit.int .i64 a.client).wf = true
set_option maxRecDepth 100000 in
theorem act_of_trod {H : Type} {enc : TypeId × Value → H} {w : World} {base : Nat} {spare : Nat → Bool} {held : Bool} {n : Nat} {cs : List Value} {y : DataW H × List MemPlace} (h : DataW.trod enc Tryd.prog w base spare held n 32 cs = some y) : ∃ a : Act, a.wf ∧ cs = a.cells := by
  obtain ⟨ys, n', hn', hy, hlen, hyl, hf⟩ := DataW.trod_struct Tryd.underlying32 h
  have hcN : Tryd.prog.cellsOf 32 = 10 := by kernel_rfl
  rw [hcN] at hlen
  match cs, hlen with
  | [c0, c1, c2, c3, c4, c5, c6, c7, c8, c9], _ =>
    match ys, hyl with
    | [y0, y1, y2], _ =>
      have g0 : DataW.trod enc Tryd.prog w base spare held n' 9 (([c0, c1, c2, c3, c4, c5, c6, c7, c8, c9].drop 0).take (Tryd.prog.cellsOf 9)) = some y0 := hf 0 _ rfl
      rw [show Tryd.prog.cellsOf 9 = 1 by kernel_rfl] at g0
      have g1 : DataW.trod enc Tryd.prog w base spare held n' 30 (([c0, c1, c2, c3, c4, c5, c6, c7, c8, c9].drop 1).take (Tryd.prog.cellsOf 30)) = some y1 := hf 1 _ rfl
      rw [show Tryd.prog.cellsOf 30 = 8 by kernel_rfl] at g1
      have g2 : DataW.trod enc Tryd.prog w base spare held n' 3 (([c0, c1, c2, c3, c4, c5, c6, c7, c8, c9].drop 9).take (Tryd.prog.cellsOf 3)) = some y2 := hf 2 _ rfl
      rw [show Tryd.prog.cellsOf 3 = 1 by kernel_rfl] at g2
      obtain ⟨x0, e0, _, w0⟩ := DataW.trod_string Tryd.underlying9 g0
      simp at e0
      subst e0
      obtain ⟨x1, w1, e1⟩ := ask_of_trod g1
      simp [Ask.cells] at e1
      obtain ⟨rfl, rfl, rfl, rfl, rfl, rfl, rfl, rfl⟩ := e1
      obtain ⟨x2, e2, _, w2⟩ := DataW.trod_int Tryd.underlying3 g2
      simp at e2
      subst e2
      exact ⟨⟨x0, x1, x2⟩, ⟨w0, w1, w2⟩, rfl⟩
/-- A slice of Acts that can be read. -/
def ActsAt (w : World) (ao : Option Addr) (len : Nat) (l : List Act) : Prop :=
  l.length = len ∧ len ≤ 9223372036854775807 ∧ (∀ a ∈ l, a.wf) ∧
    (0 < len → ∃ b off, ao = some ⟨b, off, none⟩ ∧ b < w.heap.size ∧ ∀ k (h : k < l.length) j, j < 10 → w.cell? ⟨b, off + k * 10 + j, none⟩ = l[k].cells[j]?)
set_option maxRecDepth 100000 in
theorem acts_open {H : Type} {enc : TypeId × Value → H} {w : World} {b0 : Nat} {v : Value} {d : DataW H} {p : List MemPlace} (hok : Value.okWide Tryd.prog w .any b0 22 v)
    (h : DataW.Trod enc Tryd.prog w 0 (fun _ => true) true 22 v d p) : ∃ ao len cap l, v = .slice ao len cap ∧ ActsAt w ao len l := by
  obtain ⟨a0, len, cap, rfl⟩ := okWide_slice Tryd.underlying22 hok
  obtain ⟨fuel, hf⟩ := h
  have hcN : Tryd.prog.cellsOf 32 = 10 := by kernel_rfl
  rcases open_slice Tryd.underlying22 hf with ⟨hcs, hx⟩ | ⟨a, len', cap', m, n, D, Pl, hcs, _, hl, hm, hmm, hx, hel⟩
  · simp [Value.cells] at hcs
    obtain ⟨rfl, rfl, rfl⟩ := hcs
    exact ⟨none, 0, 0, [], rfl, rfl, by omega, fun _ h => (by cases h), fun h => by omega⟩
  · simp [Value.cells] at hcs
    obtain ⟨rfl, rfl, rfl⟩ := hcs
    unfold maxLen at hm
    simp at hmm
    rw [hcN] at hel
    have hel' : ∀ i, i < len → ∃ x : Act, x.wf ∧ w.cells? 0 (a.add (i * 10)) 10 = some x.cells := fun i hi => by
      obtain ⟨cs', h1, h2⟩ := hel i (by omega)
      obtain ⟨x, hx1, rfl⟩ := act_of_trod h2
      exact ⟨x, hx1, h1⟩
    haveI : Inhabited Act := ⟨⟨ByteArray.empty, ⟨0, 0, 0, 0, 0, 0, 0, 0⟩, 0⟩⟩
    obtain ⟨f, hF⟩ := choose_lt hel'
    refine ⟨some a, len, cap, (List.range len).map f, rfl, by simp, by omega, fun x hx => ?_, fun h0 => ?_⟩
    · obtain ⟨i, hi, rfl⟩ := List.mem_map.1 hx
      exact (hF i (List.mem_range.1 hi)).1
    · have hcell : ∀ k, k < len → ∀ j, j < 10 → w.cell? (a.add (k * 10 + j)) = (f k).cells[j]? := fun k hk j hj => by
        obtain ⟨_, _, hat⟩ := World.cells?_some (hF k hk).2
        rw [← Go.Deep.add_add]
        exact hat j hj
      obtain ⟨b, off, sp⟩ := a
      have h00 := hcell 0 h0 0 (by omega)
      have hsp : sp = none := by
        cases sp with
        | none => rfl
        | some q =>
          exfalso
          rw [show w.cell? (Addr.add ⟨b, off, some q⟩ (0 * 10 + 0)) = none by unfold World.cell? Addr.add; split <;> simp] at h00
          simp [Act.cells] at h00
      subst hsp
      have hadd : ∀ i, Addr.add ⟨b, off, none⟩ i = ⟨b, off + i, none⟩ := fun i => by
        unfold Addr.add
        by_cases hi : i = 0 <;> simp [hi]
      refine ⟨b, off, rfl, ?_, fun k hk j hj => ?_⟩
      · rw [hadd] at h00
        exact lt_of_cell (v := .string (f 0).kind) (by rw [h00]; rfl)
      · have := hcell k (by simpa using hk) j hj
        rw [hadd] at this
        rw [Nat.add_assoc, this]
        simp
end Go.Proofs.YthngmmhoakegeaaDoor
