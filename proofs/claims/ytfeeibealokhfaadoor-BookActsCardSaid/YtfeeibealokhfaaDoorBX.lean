/- A book, the lots that it had, and an act in a block of its own. -/
import Derived.Test.YtfeeibealokhfaaDoorBOrdLaw
import Derived.Test.YtfeeibealokhfaaDoorBActs
set_option linter.unusedSimpArgs false
set_option linter.unusedVariables false
namespace Go.Proofs.YtfeeibealokhfaaDoor
open Go.RowKit

theorem lots_of_owned {w : World} {base : Nat} {e : TypeId} {v : Value} {l : List Lot} (hwf : ∀ a ∈ l, a.wf) (hn : l.length ≤ 1000) (h : w.ownsRow base e 5 v l.length (flat Lot.cells l)) : ∃ ao cap, v = .slice ao l.length cap ∧ l.length ≤ cap ∧ cap ≤ maxLen ∧ LotsAt w ao l.length l := by
  obtain ⟨h1, ⟨rfl, h2⟩ | ⟨g, cap, cur, rfl, hb, hg, hc, hm, hs, ht⟩⟩ := h
  · exact ⟨none, 0, by rw [h2], by omega, Nat.zero_le _, rfl, by omega, hwf, fun h => by omega⟩
  · refine ⟨_, cap, rfl, hc, hm, rfl, by omega, hwf, fun h0 => ⟨g, 0, rfl, (Array.getElem?_eq_some_iff.1 hg).1, fun k hk j hj => ?_⟩⟩
    have e : (flat Lot.cells l)[k * 5 + j]? = l[k].cells[j]? := flat_get lotc_len l k hk j hj
    rw [← e, ← ht, List.getElem?_take_of_lt (by omega), Nat.zero_add]
    simp [World.cell?, hg]

def bactBox (a : BAct) : Array Value := a.cells.toArray
def BInv (wB : World) (p : Nat) (l : List Lot) (wr : World) : Prop := (∃ own, BookAt own 1 wr p l ∧ ∀ b, b < wB.heap.size → own b = 0) ∧ Below wB.heap.size wB wr ∧ wB.heap.size ≤ wr.heap.size
def BW (wB : World) (p : Nat) (v : Value) (was l : List Lot) (wr : World) : Prop := (∃ own, BookAt own 1 wr p l ∧ (∀ g, v.ownBlock = some g → own g = 0 ∧ g < wr.heap.size) ∧ ∀ b, b < wB.heap.size → own b = 0) ∧ (∃ base, LotsRow base was v wr) ∧ Below wB.heap.size wB wr ∧ wB.heap.size ≤ wr.heap.size
def BX (wB : World) (p bx : Nat) (v : Value) (a : BAct) (was l : List Lot) (wr : World) : Prop := (∃ own, BookAt own 1 wr p l ∧ own bx = 0 ∧ (∀ g, v.ownBlock = some g → own g = 0 ∧ g < wr.heap.size) ∧ ∀ b, b < wB.heap.size → own b = 0) ∧ wr.heap[bx]? = some (.cells (bactBox a) 55 (0, 0)) ∧ (∃ base, LotsRow base was v wr) ∧ Below wB.heap.size wB wr ∧ wB.heap.size ≤ wr.heap.size
section
variable {wB : World} {p bx : Nat} {v : Value} {a : BAct} {was l l' : List Lot} {wr w' : World}
theorem BX.inv (h : BX wB p bx v a was l wr) : BInv wB p l wr := by
  obtain ⟨⟨own, h1, _, _, h3⟩, _, _, h5, h6⟩ := h
  exact ⟨⟨own, h1, h3⟩, h5, h6⟩
theorem BInv.later (h : BInv wB p l wr) (hx : Ex wr w') : BInv wB p l w' := by
  obtain ⟨⟨own, h1, h3⟩, h5, h6⟩ := h
  exact ⟨⟨own, h1.later hx, h3⟩, h5.trans (hx.below.mono h6), Nat.le_trans h6 hx.below.size⟩
theorem BW.later (h : BW wB p v was l wr) (hx : Ex wr w') : BW wB p v was l w' := by
  obtain ⟨⟨own, h1, hb, h3⟩, ⟨base, h4⟩, h5, h6⟩ := h
  exact ⟨⟨own, h1.later hx, fun g e => ⟨(hb g e).1, Nat.lt_of_lt_of_le (hb g e).2 hx.below.size⟩, h3⟩, ⟨base, ownsRow_block h4 fun g e => hx.below.block _ (hb g e).2⟩, h5.trans (hx.below.mono h6), Nat.le_trans h6 hx.below.size⟩
theorem BX.later (h : BX wB p bx v a was l wr) (hx : Ex wr w') : BX wB p bx v a was l w' := by
  obtain ⟨⟨own, h1, h2, hb, h3⟩, h0, ⟨base, h4⟩, h5, h6⟩ := h
  exact ⟨⟨own, h1.later hx, h2, fun g e => ⟨(hb g e).1, Nat.lt_of_lt_of_le (hb g e).2 hx.below.size⟩, h3⟩, (hx.below.block _ (Array.getElem?_eq_some_iff.1 h0).1).trans h0, ⟨base, ownsRow_block h4 fun g e => hx.below.block _ (hb g e).2⟩, h5.trans (hx.below.mono h6), Nat.le_trans h6 hx.below.size⟩
theorem BX.lt (h : BX wB p bx v a was l wr) : bx < wr.heap.size := (Array.getElem?_eq_some_iff.1 h.2.1).1
theorem BX.cells (h : BX wB p bx v a was l wr) : ∀ j, j < 8 → wr.cell? ⟨bx, j, none⟩ = a.cells[j]? := by
  intro j hj
  have h1 := h.2.1
  simp [World.cell?, h1, bactBox]
theorem BX.row (h : BX wB p bx v a was l wr) : ∃ base, LotsRow base was v wr := h.2.2.1
/-- The lots, asked for. -/
theorem BInv.lots (h : BInv wB p l wr) : Calls Tryd.prog 27 #[.pointer (some ⟨p, 0, none⟩)] wr fun e w' => ∃ v, e = .returned v ∧ BW wB p v l l w' := by
  obtain ⟨⟨own, h1, h3⟩, h5, h6⟩ := h
  refine (lots_any h1).mono fun e w' ⟨⟨v, e1, hrow⟩, hx⟩ => ⟨v, e1, ⟨fun b => if b < wr.heap.size then own b else 0, (h1.relabel fun n hn e => ?_).later hx, fun g e => ⟨if_neg ?_, (hrow.lt g e).2⟩, fun b hb => ?_⟩, ⟨_, hrow⟩, h5.trans (hx.below.mono h6), Nat.le_trans h6 hx.below.size⟩
  · show (if n < wr.heap.size then own n else 0) = 1
    rw [if_pos hn]; exact e
  · have := (hrow.lt g e).1; omega
  · show (if b < wr.heap.size then own b else 0) = 0
    rw [if_pos (by omega)]
    exact h3 b hb
theorem BW.make (h : BW wB p v was l wr) : BX wB p wr.heap.size v a was l (wr.alloc (.cells (bactBox a) 55)) := by
  have hx : Ex wr (wr.alloc (.cells (bactBox a) 55)) := (Ex.refl wr).alloc _
  obtain ⟨_, h4, h5, h6⟩ := h.later hx
  obtain ⟨⟨own, h1, hb, h3⟩, _, _, h7⟩ := h
  refine ⟨⟨fun b => if b < wr.heap.size then own b else 0, (h1.relabel fun n hn e => ?_).later hx, if_neg (by omega), fun g e => ⟨?_, Nat.lt_of_lt_of_le (hb g e).2 hx.below.size⟩, fun b hb => ?_⟩, heap_new rfl, h4, h5, h6⟩
  · show (if n < wr.heap.size then own n else 0) = 1
    rw [if_pos hn]; exact e
  · show (if g < wr.heap.size then own g else 0) = 0
    rw [if_pos (hb g e).2]; exact (hb g e).1
  · show (if b < wr.heap.size then own b else 0) = 0
    rw [if_pos (by omega)]
    exact h3 b hb
/-- The book turns. -/
theorem BX.one {own : Nat → Nat} {j : Nat} (hb : own bx = 0) (hv : ∀ g, v.ownBlock = some g → own g = 0 ∧ g < wr.heap.size) (h3 : ∀ b, b < wB.heap.size → own b = 0) (h4 : wr.heap[bx]? = some (.cells (bactBox a) 55 (0, 0))) (hr : ∃ base, LotsRow base was v wr) (h5 : Below wB.heap.size wB wr) (h6 : wB.heap.size ≤ wr.heap.size)
    (hT : ObjTo own 1 j wr (fun o w' => BookAt o 1 w' p l') w') : BX wB p bx v a was l' w' := by
  obtain ⟨o2, hI, hB2, ho2, hs2, hK⟩ := hT.use h5 h6 (fun b hb => by rw [h3 b hb]; decide)
  obtain ⟨base, hr⟩ := hr
  have hl := (Array.getElem?_eq_some_iff.1 h4).1
  exact ⟨⟨o2, hI, by rw [ho2 _ hl]; exact hb, fun g e => ⟨by rw [ho2 g (hv g e).2]; exact (hv g e).1, Nat.lt_of_lt_of_le (hv g e).2 hs2⟩, fun b hb => by rw [ho2 b (by omega)]; exact h3 b hb⟩, (hK.other hl (by rw [Nat.div_one, hb]; decide)).trans h4, ⟨base, ownsRow_block hr fun g e => hK.other (hv g e).2 (by rw [Nat.div_one, (hv g e).1]; decide)⟩, hB2, by omega⟩
theorem badd_x (h : BX wB p bx v a was l wr) (hx : a.l.wf) (E : Nat → Addr) (hE : Errs E [2, 6, 7, 8] wB) :
    Calls Tryd.prog 28 #[.pointer (some ⟨p, 0, none⟩), a.l.val] wr fun e w' => (∃ u, e = .returned u) ∧ BX wB p bx v a was (addL l a.l) w' := by
  obtain ⟨⟨own, h1, hb, hv, h3⟩, h4, hr, h5, h6⟩ := h
  exact (add_any h1 a.l hx E (Errs.sub (hE.ex (Ex.of h5)) (by decide))).mono fun e w' ⟨k1, k2⟩ => ⟨⟨_, k1⟩, BX.one hb hv h3 h4 hr h5 h6 k2⟩
theorem bcancel_x (h : BX wB p bx v a was l wr) (E : Nat → Addr) (hE : Errs E [2, 6, 7, 8] wB) :
    Calls Tryd.prog 29 #[.pointer (some ⟨p, 0, none⟩), .int .i64 a.id] wr fun e w' => (∃ u u', e = .returned (.tuple #[u, u'])) ∧ BX wB p bx v a was (cancelR l a.id).2.2 w' := by
  obtain ⟨⟨own, h1, hb, hv, h3⟩, h4, hr, h5, h6⟩ := h
  exact (cancel_any h1 a.id E (Errs.sub (hE.ex (Ex.of h5)) (by decide))).mono fun e w' ⟨k1, k2⟩ => ⟨⟨_, _, k1⟩, BX.one hb hv h3 h4 hr h5 h6 k2⟩
theorem btake_x (h : BX wB p bx v a was l wr) (E : Nat → Addr) (hE : Errs E [2, 6, 7, 8] wB) :
    Calls Tryd.prog 30 #[.pointer (some ⟨p, 0, none⟩), .int .i64 a.id, .int .i64 a.qty] wr fun e w' => (∃ u, e = .returned u) ∧ BX wB p bx v a was (takeR l a.id a.qty).2 w' := by
  obtain ⟨⟨own, h1, hb, hv, h3⟩, h4, hr, h5, h6⟩ := h
  exact (take_any h1 a.id a.qty E (Errs.sub (hE.ex (Ex.of h5)) (by decide))).mono fun e w' ⟨k1, k2⟩ => ⟨⟨_, k1⟩, BX.one hb hv h3 h4 hr h5 h6 k2⟩
theorem bstart {own : Nat → Nat} (hT : ObjTo (fun _ => 0) 1 1 wB (fun o w' => BookAt o 1 w' p []) w') : BInv wB p [] w' := by
  obtain ⟨o1, hI1, hB1, ho1, hs1, _⟩ := hT.use (Below.refl wB.heap.size wB) (Nat.le_refl _) (fun b _ => by simp)
  exact ⟨⟨o1, hI1, fun b hb => ho1 b hb⟩, hB1, hs1⟩
end
end Go.Proofs.YtfeeibealokhfaaDoor
