/- The program's disk, the document's one, and an act in a block of its own. -/
import Derived.Test.YtfeeibealokhfaaDoorMRead
import Derived.Test.YtfeeibealokhfaaDoorCoded1
import Derived.Test.YtfeeibealokhfaaDoorTActs
set_option linter.unusedSimpArgs false
set_option linter.unusedVariables false
namespace Go.Proofs.YtfeeibealokhfaaDoor
open Go.RowKit

theorem coded1_same (c : Nat) (E : Nat → Addr) (w : World) (hr : CodeReady E w) (h : c ≤ 12) : Calls Tryd.prog 36 #[errV E c, .int .i64 (c : Int)] w fun e w' => e = .returned (.bool true) ∧ Ex w w' := by
  by_cases h0 : c = 0
  · subst h0
    rw [errV_zero]
    exact coded_nil 0 w
  · rw [errV_pos _ _ h0]
    refine (coded_err c (c : Int) E w hr (by omega) h).mono fun e w' ⟨h1, h2⟩ => ⟨?_, h2⟩
    rw [h1]; simp
def actBox (a : TAct) : Array Value := #[.string a.kind, .string a.s, .int .i64 a.n]
def TInv (wB : World) (p m : Nat) (d c : Dk) (wr : World) : Prop := (∃ own, DiskAt own 1 wr p d ∧ MDk own 2 wr m c ∧ ∀ b, b < wB.heap.size → own b = 0) ∧ Below wB.heap.size wB wr ∧ wB.heap.size ≤ wr.heap.size
def TX (wB : World) (p m bx : Nat) (a : TAct) (d c : Dk) (wr : World) : Prop := (∃ own, DiskAt own 1 wr p d ∧ MDk own 2 wr m c ∧ own bx = 0 ∧ ∀ b, b < wB.heap.size → own b = 0) ∧ wr.heap[bx]? = some (.cells (actBox a) 74 (0, 0)) ∧ Below wB.heap.size wB wr ∧ wB.heap.size ≤ wr.heap.size
section
variable {wB : World} {p m bx : Nat} {a : TAct} {d c d' : Dk} {wr w' : World}
theorem TX.inv (h : TX wB p m bx a d c wr) : TInv wB p m d c wr := by
  obtain ⟨⟨own, h1, h2, _, h3⟩, _, h5, h6⟩ := h
  exact ⟨⟨own, h1, h2, h3⟩, h5, h6⟩
theorem TInv.later (h : TInv wB p m d c wr) (hx : Ex wr w') : TInv wB p m d c w' := by
  obtain ⟨⟨own, h1, h2, h3⟩, h5, h6⟩ := h
  exact ⟨⟨own, h1.later hx, h2.later hx, h3⟩, h5.trans (hx.below.mono h6), Nat.le_trans h6 hx.below.size⟩
theorem TX.later (h : TX wB p m bx a d c wr) (hx : Ex wr w') : TX wB p m bx a d c w' := by
  obtain ⟨⟨own, h1, h2, hb, h3⟩, h4, h5, h6⟩ := h
  exact ⟨⟨own, h1.later hx, h2.later hx, hb, h3⟩, (hx.below.block _ (Array.getElem?_eq_some_iff.1 h4).1).trans h4, h5.trans (hx.below.mono h6), Nat.le_trans h6 hx.below.size⟩
theorem TX.lt (h : TX wB p m bx a d c wr) : bx < wr.heap.size := (Array.getElem?_eq_some_iff.1 h.2.1).1
theorem TX.cells (h : TX wB p m bx a d c wr) : wr.cell? ⟨bx, 0, none⟩ = some (.string a.kind) ∧ wr.cell? ⟨bx, 1, none⟩ = some (.string a.s) ∧ wr.cell? ⟨bx, 2, none⟩ = some (.int .i64 a.n) := by
  have h1 : wr.heap[bx]? = some (.cells #[.string a.kind, .string a.s, .int .i64 a.n] 74 (0, 0)) := h.2.1
  refine ⟨?_, ?_, ?_⟩ <;> simp [World.cell?, h1]
theorem TX.cs {S : List UInt8} (h : TX wB p m bx a d c wr) (hS : a.s = ⟨S.toArray⟩) : wr.cell? ⟨bx, 1, none⟩ = some (.string ⟨S.toArray⟩) := hS ▸ h.cells.2.1
theorem TInv.make {w0 : World} (h : TInv wB p m d c w0) : TX wB p m w0.heap.size a d c (w0.alloc (.cells (actBox a) 74)) := by
  have hx : Ex w0 (w0.alloc (.cells (actBox a) 74)) := (Ex.refl w0).alloc _
  obtain ⟨_, h5, h6⟩ := h.later hx
  obtain ⟨⟨own, h1, h2, h3⟩, _, h7⟩ := h
  refine ⟨⟨fun b => if b < w0.heap.size then own b else 0, (h1.relabel fun n hn e => ?_).later hx, (h2.relabel fun n hn e => ?_).later hx, if_neg (by omega), fun b hb => ?_⟩, heap_new rfl, h5, h6⟩
  · show (if n < w0.heap.size then own n else 0) = 1
    rw [if_pos hn]; exact e
  · show (if n < w0.heap.size then own n else 0) = 2
    rw [if_pos hn]; exact e
  · show (if b < w0.heap.size then own b else 0) = 0
    rw [if_pos (by omega)]
    exact h3 b hb
/-- The program's disk turns. -/
theorem TX.one {own : Nat → Nat} {j : Nat} (h1 : MDk own 2 wr m c) (hb : own bx = 0) (h3 : ∀ b, b < wB.heap.size → own b = 0) (h4 : wr.heap[bx]? = some (.cells (actBox a) 74 (0, 0))) (h5 : Below wB.heap.size wB wr) (h6 : wB.heap.size ≤ wr.heap.size)
    (hT : ObjTo own 1 j wr (fun o w' => DiskAt o 1 w' p d') w') : TX wB p m bx a d' c w' := by
  obtain ⟨o2, hI, hB2, ho2, hs2, hK⟩ := hT.use h5 h6 (fun b hb => by rw [h3 b hb]; decide)
  have hl := (Array.getElem?_eq_some_iff.1 h4).1
  exact ⟨⟨o2, hI, h1.kp hK (by decide) (fun n hn e => by rw [ho2 n hn]; exact e), by rw [ho2 _ hl]; exact hb, fun b hb => by rw [ho2 b (by omega)]; exact h3 b hb⟩, (hK.other hl (by rw [Nat.div_one, hb]; decide)).trans h4, hB2, by omega⟩
/-- The document's disk turns. -/
theorem TX.two {own : Nat → Nat} {j : Nat} (h1 : DiskAt own 1 wr p d) (hb : own bx = 0) (h3 : ∀ b, b < wB.heap.size → own b = 0) (h4 : wr.heap[bx]? = some (.cells (actBox a) 74 (0, 0))) (h5 : Below wB.heap.size wB wr) (h6 : wB.heap.size ≤ wr.heap.size)
    (hT : ObjTo own 2 j wr (fun o w' => MDk o 2 w' m d') w') : TX wB p m bx a d d' w' := by
  obtain ⟨o2, hI, hB2, ho2, hs2, hK⟩ := hT.use h5 h6 (fun b hb => by rw [h3 b hb]; decide)
  have hl := (Array.getElem?_eq_some_iff.1 h4).1
  exact ⟨⟨o2, h1.kp hK (by decide) (fun n hn e => by rw [ho2 n hn]; exact e), hI, by rw [ho2 _ hl]; exact hb, fun b hb => by rw [ho2 b (by omega)]; exact h3 b hb⟩, (hK.other hl (by rw [Nat.div_one, hb]; decide)).trans h4, hB2, by omega⟩
theorem pappend_x (h : TX wB p m bx a d c wr) (s : List UInt8) (hm : s.length ≤ maxLen) (E : Nat → Addr) (hE : Errs E [2, 8, 9] wB) :
    Calls Tryd.prog 22 #[.pointer (some ⟨p, 0, none⟩), .string ⟨s.toArray⟩] wr fun e w' => e = .returned (errV E (d.appE s)) ∧ TX wB p m bx a (d.app s) c w' := by
  obtain ⟨⟨own, h1, h2, hb, h3⟩, h4, h5, h6⟩ := h
  exact (append_any h1 s hm E (hE.ex (Ex.of h5)) (by rw [h3 _ (lt_of_cell (hE 9 (by decide)))]; decide)).mono fun e w' ⟨k1, k2⟩ => ⟨k1, TX.one h2 hb h3 h4 h5 h6 k2⟩
theorem mappend_x (h : TX wB p m bx a d c wr) (s : List UInt8) (hm : s.length ≤ maxLen) :
    Calls Tryd.prog 37 #[.pointer (some ⟨m, 0, none⟩), .string ⟨s.toArray⟩] wr fun e w' => e = .returned (.int .i64 ((c.appE s : Nat) : Int)) ∧ TX wB p m bx a d (c.app s) w' := by
  obtain ⟨⟨own, h1, h2, hb, h3⟩, h4, h5, h6⟩ := h
  exact (mappend_any (j := 2) h2 s hm).mono fun e w' ⟨k1, k2⟩ => ⟨k1, TX.two h1 hb h3 h4 h5 h6 k2⟩
theorem pcut_x (h : TX wB p m bx a d c wr) (n : Int) (hn : n ≤ 9223372036854775807) (E : Nat → Addr) (hE : Errs E [2, 8, 9] wB) :
    Calls Tryd.prog 31 #[.pointer (some ⟨p, 0, none⟩), .int .i64 n] wr fun e w' => e = .returned (errV E (d.cutE n)) ∧ TX wB p m bx a (d.cutD n) c w' := by
  obtain ⟨⟨own, h1, h2, hb, h3⟩, h4, h5, h6⟩ := h
  exact (cut_any h1 n hn E (Errs.sub (hE.ex (Ex.of h5)) (by decide))).mono fun e w' ⟨k1, k2⟩ => ⟨k1, TX.one h2 hb h3 h4 h5 h6 k2⟩
theorem mcut_x (h : TX wB p m bx a d c wr) (n : Int) (hn : n ≤ 9223372036854775807) :
    Calls Tryd.prog 38 #[.pointer (some ⟨m, 0, none⟩), .int .i64 n] wr fun e w' => e = .returned (.int .i64 ((c.cutE n : Nat) : Int)) ∧ TX wB p m bx a d (c.cutD n) w' := by
  obtain ⟨⟨own, h1, h2, hb, h3⟩, h4, h5, h6⟩ := h
  exact (msetCut_any (j := 2) h2 n hn).mono fun e w' ⟨k1, k2⟩ => ⟨k1, TX.two h1 hb h3 h4 h5 h6 k2⟩
theorem on_x (h : TX wB p m bx a d c wr) : Calls Tryd.prog 39 #[.pointer (some ⟨p, 0, none⟩)] wr fun e w' => e = .returned (.tuple #[]) ∧ TX wB p m bx a ⟨d.b, false, -1⟩ c w' := by
  obtain ⟨⟨own, h1, h2, hb, h3⟩, h4, h5, h6⟩ := h
  exact (on_any h1).mono fun e w' ⟨k1, k2⟩ => ⟨k1, TX.one h2 hb h3 h4 h5 h6 k2⟩
theorem TX.on2 (h : TX wB p m bx a d c wr) : TX wB p m bx a d ⟨c.b, false, -1⟩ ((wr.setCell ⟨m, 1, none⟩ (.bool false)).setCell ⟨m, 2, none⟩ (.int .i64 (-1))) := by
  obtain ⟨⟨own, h1, h2, hb, h3⟩, h4, h5, h6⟩ := h
  obtain ⟨t, hr⟩ := h2.row
  refine TX.two (j := 2) h1 hb h3 h4 h5 h6 (h2.turned (((Kp.refl _ _ _ _).setCell (fun _ => by rw [Nat.div_one]; exact h2.lab) _).setCell (fun _ => by rw [Nat.div_one]; exact h2.lab) _) h2.1 ⟨(show (-1 : Int) ≤ -1 by decide), (show (-1 : Int) ≤ 9223372036854775807 by decide)⟩ ⟨t, ((hr.set 1 (.bool false)).set 2 (.int .i64 (-1))).congr fun j hj => ?_⟩)
  have : j = 0 ∨ j = 1 ∨ j = 2 := by omega
  rcases this with rfl | rfl | rfl <;> simp [mdF, dkF]
/-- What both Recovers return. -/
def RecX (b : List UInt8) (w : World) (v : Value) (l : List (List UInt8)) (n : Nat) (w' : World) : Prop := Reads b l n ∧ w'.ownsRow w.heap.size 9 1 v l.length (l.map strV)
theorem precover_x (h : TX wB p m bx a d c wr) : Calls Tryd.prog 32 #[.pointer (some ⟨p, 0, none⟩)] wr fun e w' => ∃ v l n, e = .returned (.tuple #[v, .nilIface]) ∧ RecX d.b wr v l n w' ∧ TX wB p m bx a ⟨d.b.take n, false, -1⟩ c w' := by
  obtain ⟨⟨own, h1, h2, hb, h3⟩, h4, h5, h6⟩ := h
  exact (recover_any h1 0).mono fun e w' ⟨v2, l, n, k1, k2, k3, k4⟩ => ⟨v2, l, n, k1, ⟨k2, k3⟩, TX.one h2 hb h3 h4 h5 h6 k4⟩
theorem mrecover_x (h : TX wB p m bx a d c wr) : Calls Tryd.prog 40 #[.pointer (some ⟨m, 0, none⟩)] wr fun e w' => ∃ v l n, e = .returned v ∧ RecX c.b wr v l n w' ∧ TX wB p m bx a d ⟨c.b.take n, false, -1⟩ w' ∧ ∀ g, g < wr.heap.size → g ≠ m → w'.heap[g]? = wr.heap[g]? := by
  obtain ⟨⟨own, h1, h2, hb, h3⟩, h4, h5, h6⟩ := h
  exact (mrecover_any (j := 2) h2).mono fun e w' ⟨v2, l, n, k1, k2, k3, k4, k5⟩ => ⟨v2, l, n, k1, ⟨k2, k3⟩, TX.two h1 hb h3 h4 h5 h6 k4, k5⟩
theorem TX.bytes (h : TX wB p m bx a d c wr) : Calls Tryd.prog 23 #[.pointer (some ⟨p, 0, none⟩)] wr fun e w' => e = .returned (.string ⟨d.b.toArray⟩) ∧ wr = w' := by
  obtain ⟨⟨own, h1, _⟩, _⟩ := h
  exact bytes_any h1
theorem TX.power (h : TX wB p m bx a d c wr) : Calls Tryd.prog 33 #[.pointer (some ⟨p, 0, none⟩)] wr fun e w' => e = .returned (.bool (!d.off)) ∧ wr = w' := by
  obtain ⟨⟨own, h1, _⟩, _⟩ := h
  exact power_any h1
theorem TX.mcells (h : TX wB p m bx a d c wr) : wr.cell? ⟨m, 0, none⟩ = some (.string ⟨c.b.toArray⟩) ∧ wr.cell? ⟨m, 1, none⟩ = some (.bool c.off) := by
  obtain ⟨⟨own, _, h2, _⟩, _⟩ := h
  exact ⟨h2.c0, h2.c1⟩
theorem TX.mcell2 (h : TX wB p m bx a d c wr) : wr.cell? ⟨m, 2, none⟩ = some (.int .i64 c.cut) ∧ ∀ j, wr.frozen? ⟨m, j, none⟩ = false := by
  obtain ⟨⟨own, _, h2, _⟩, _⟩ := h
  exact ⟨h2.c2, h2.free⟩
theorem TX.mlt (h : TX wB p m bx a d c wr) : m < wr.heap.size := by
  obtain ⟨⟨own, _, h2, _⟩, _⟩ := h
  exact h2.lt
theorem TInv.mcell (h : TInv wB p m d c wr) : wr.cell? ⟨m, 0, none⟩ = some (.string ⟨c.b.toArray⟩) ∧ c.b.length ≤ 1048576 ∧ m < wr.heap.size := by
  obtain ⟨⟨own, _, h2, _⟩, _⟩ := h
  exact ⟨h2.c0, h2.1, h2.lt⟩
end
theorem appE_le (d : Dk) (s : List UInt8) : d.appE s ≤ 12 := by unfold Dk.appE; (repeat' split) <;> omega
theorem cutE_le (d : Dk) (n : Int) : d.cutE n ≤ 12 := by unfold Dk.cutE; (repeat' split) <;> omega
end Go.Proofs.YtfeeibealokhfaaDoor
