/- The program's book and the document's one, and an act in a block of its own. -/
import Derived.Test.YtfeeibealokhfaaDoorMLess
import Derived.Test.YtfeeibealokhfaaDoorBX
import Derived.Test.YtfeeibealokhfaaDoorBKeepsL
import Derived.Test.YtfeeibealokhfaaDoorCodedS
set_option linter.unusedSimpArgs false
set_option linter.unusedVariables false
namespace Go.Proofs.YtfeeibealokhfaaDoor
open Go.RowKit

def AllOk (b : List Lot) : Prop := ∀ x ∈ b, x.ok = true
theorem AllOk.add {b : List Lot} (h : AllOk b) (y : Lot) : AllOk (addL b y) := by
  intro x hx
  unfold addL at hx
  split at hx
  · rename_i h0
    rcases List.mem_append.1 hx with hx | hx
    · exact h x hx
    · simp at hx
      subst hx
      unfold addE at h0
      split at h0
      · assumption
      · cases h0
  · exact h x hx
theorem AllOk.cancel {b : List Lot} (h : AllOk b) (id : Int) : AllOk (cancelR b id).2.2 := by
  rcases idIdx_cases b id with ⟨i, hk, hi, _, hf⟩ | ⟨hi, _⟩
  · have e : cancelR b id = (b[i], 0, b.eraseIdx i) := by
      unfold cancelR
      rw [hf]
      simp only [List.getElem?_eq_getElem hk]
    rw [e]
    exact fun y hy => h y (List.mem_of_mem_eraseIdx hy)
  · have e : cancelR b id = (zeroLot, 6, b) := by unfold cancelR; rw [find_none hi]
    rw [e]; exact h
theorem AllOk.take {b : List Lot} (h : AllOk b) (id qty : Int) : AllOk (takeR b id qty).2 := by
  rcases take_parts b id qty with ⟨_, h1⟩ | ⟨_, i, hk, q1, q2, hc⟩
  · rw [h1]; exact h
  · intro y hy
    rcases hc with ⟨e1, e2⟩ | ⟨e1, e2⟩
    · rw [e2] at hy; exact h y (List.mem_of_mem_eraseIdx hy)
    · rw [e2] at hy
      rcases List.mem_or_eq_of_mem_set hy with hy | rfl
      · exact h y hy
      · exact Lot.ok_less (h _ (List.getElem_mem hk)) q1 e1
theorem addE_le (b : List Lot) (x : Lot) : addE b x ≤ 12 := by unfold addE; split; split; omega; split; omega; omega; omega
theorem cancelE_le (b : List Lot) (id : Int) : (cancelR b id).2.1 ≤ 12 := by
  unfold cancelR; split
  · show (6 : Nat) ≤ 12; omega
  · split
    · show (6 : Nat) ≤ 12; omega
    · show (0 : Nat) ≤ 12; omega
theorem takeE_le (b : List Lot) (id qty : Int) : (takeR b id qty).1 ≤ 12 := by
  rcases idIdx_cases b id with ⟨k, hk, hi, _, hf⟩ | ⟨hi, _⟩
  · have e : takeR b id qty = if qty < 1 ∨ b[k].qty < qty then (2, b) else if qty = b[k].qty then (0, b.eraseIdx k) else (0, b.set k (b[k].less qty)) := by
      unfold takeR
      rw [hf]
      simp only [List.getElem?_eq_getElem hk]
    rw [e]
    split
    · show (2 : Nat) ≤ 12; omega
    · split
      · show (0 : Nat) ≤ 12; omega
      · show (0 : Nat) ≤ 12; omega
  · have e : takeR b id qty = (6, b) := by unfold takeR; rw [find_none hi]
    rw [e]; show (6 : Nat) ≤ 12; omega
/-- The two books. -/
def MInv (w0 : World) (p m : Nat) (b c : List Lot) (wr : World) : Prop := (∃ own, BookAt own 1 wr p b ∧ BookAt own 2 wr m c ∧ ∀ n, n < w0.heap.size → own n = 0) ∧ w0.heap.size ≤ wr.heap.size ∧ Below w0.heap.size w0 wr
/-- The two books, and an act. -/
def MX (w0 : World) (p m bx : Nat) (a : BAct) (b c : List Lot) (wr : World) : Prop := (∃ own, BookAt own 1 wr p b ∧ BookAt own 2 wr m c ∧ own bx = 0 ∧ ∀ n, n < w0.heap.size → own n = 0) ∧ wr.heap[bx]? = some (.cells (bactBox a) 55 (0, 0)) ∧ w0.heap.size ≤ wr.heap.size ∧ Below w0.heap.size w0 wr
section
variable {w0 : World} {p m bx : Nat} {a : BAct} {b c b' : List Lot} {wr w' : World}
theorem MInv.later (h : MInv w0 p m b c wr) (hx : Ex wr w') : MInv w0 p m b c w' := by
  obtain ⟨⟨own, h1, h2, h3⟩, h5, h6⟩ := h
  exact ⟨⟨own, h1.later hx, h2.later hx, h3⟩, Nat.le_trans h5 hx.below.size, h6.trans (hx.below.mono h5)⟩
theorem MX.inv (h : MX w0 p m bx a b c wr) : MInv w0 p m b c wr := by
  obtain ⟨⟨own, h1, h2, _, h3⟩, _, h5, h6⟩ := h
  exact ⟨⟨own, h1, h2, h3⟩, h5, h6⟩
theorem MX.later (h : MX w0 p m bx a b c wr) (hx : Ex wr w') : MX w0 p m bx a b c w' := by
  obtain ⟨⟨own, h1, h2, hb, h3⟩, h4, h5, h6⟩ := h
  exact ⟨⟨own, h1.later hx, h2.later hx, hb, h3⟩, (hx.below.block _ (Array.getElem?_eq_some_iff.1 h4).1).trans h4, Nat.le_trans h5 hx.below.size, h6.trans (hx.below.mono h5)⟩
theorem MX.lt (h : MX w0 p m bx a b c wr) : bx < wr.heap.size := (Array.getElem?_eq_some_iff.1 h.2.1).1
theorem MX.ready {E : Nat → Addr} (h : MX w0 p m bx a b c wr) (hR : CodeReady E w0) : CodeReady E wr := hR.ex (Ex.of h.2.2.2)
theorem MX.cells (h : MX w0 p m bx a b c wr) : wr.cell? ⟨bx, 0, none⟩ = some (.string a.kind) ∧ wr.cell? ⟨bx, 1, none⟩ = some (.int .i64 a.l.id) ∧ wr.cell? ⟨bx, 2, none⟩ = some (.int .i64 a.l.owner) ∧ wr.cell? ⟨bx, 3, none⟩ = some (.int .i64 a.l.side) ∧ wr.cell? ⟨bx, 4, none⟩ = some (.int .i64 a.l.price) ∧ wr.cell? ⟨bx, 5, none⟩ = some (.int .i64 a.l.qty) ∧ wr.cell? ⟨bx, 6, none⟩ = some (.int .i64 a.id) ∧ wr.cell? ⟨bx, 7, none⟩ = some (.int .i64 a.qty) := by
  have h1 := h.2.1
  refine ⟨?_, ?_, ?_, ?_, ?_, ?_, ?_, ?_⟩ <;> simp [World.cell?, h1, bactBox, BAct.cells, Lot.cells]
/-- The program's book turns. -/
theorem MX.one {own : Nat → Nat} (h1 : BookAt own 2 wr m c) (hb : own bx = 0) (h3 : ∀ n, n < w0.heap.size → own n = 0) (h4 : wr.heap[bx]? = some (.cells (bactBox a) 55 (0, 0))) (h5 : w0.heap.size ≤ wr.heap.size) (h6 : Below w0.heap.size w0 wr)
    (hT : ObjTo own 1 1 wr (fun o w' => BookAt o 1 w' p b') w') : MX w0 p m bx a b' c w' := by
  obtain ⟨o2, hI, hB2, ho2, hs2, hK⟩ := hT.use (B := w0.heap.size) (a := w0) h6 h5 (fun b hb => by rw [h3 b hb]; decide)
  have hl := (Array.getElem?_eq_some_iff.1 h4).1
  exact ⟨⟨o2, hI, h1.kp hK (by decide) (fun n hn e => by rw [ho2 n hn]; exact e), by rw [ho2 _ hl]; exact hb, fun b hb => by rw [ho2 b (by omega)]; exact h3 b hb⟩, (hK.other hl (by rw [Nat.div_one, hb]; decide)).trans h4, by omega, hB2⟩
/-- The document's book turns. -/
theorem MX.two {own : Nat → Nat} (h1 : BookAt own 1 wr p b) (hb : own bx = 0) (h3 : ∀ n, n < w0.heap.size → own n = 0) (h4 : wr.heap[bx]? = some (.cells (bactBox a) 55 (0, 0))) (h5 : w0.heap.size ≤ wr.heap.size) (h6 : Below w0.heap.size w0 wr)
    (hT : ObjTo own 2 2 wr (fun o w' => BookAt o 2 w' m b') w') : MX w0 p m bx a b b' w' := by
  obtain ⟨o2, hI, hB2, ho2, hs2, hK⟩ := hT.use (B := w0.heap.size) (a := w0) h6 h5 (fun b hb => by rw [h3 b hb]; decide)
  have hl := (Array.getElem?_eq_some_iff.1 h4).1
  exact ⟨⟨o2, h1.kp hK (by decide) (fun n hn e => by rw [ho2 n hn]; exact e), hI, by rw [ho2 _ hl]; exact hb, fun b hb => by rw [ho2 b (by omega)]; exact h3 b hb⟩, (hK.other hl (by rw [Nat.div_one, hb]; decide)).trans h4, by omega, hB2⟩
theorem MInv.make (h : MInv w0 p m b c wr) : MX w0 p m wr.heap.size a b c (wr.alloc (.cells (bactBox a) 55)) := by
  have hx : Ex wr (wr.alloc (.cells (bactBox a) 55)) := (Ex.refl wr).alloc _
  obtain ⟨⟨own, h1, h2, h3⟩, h5, h6⟩ := h
  refine ⟨⟨fun b => if b < wr.heap.size then own b else 0, (h1.relabel fun n hn e => ?_).later hx, (h2.relabel fun n hn e => ?_).later hx, if_neg (by omega), fun b hb => ?_⟩, heap_new rfl, Nat.le_trans h5 hx.below.size, h6.trans (hx.below.mono h5)⟩
  · show (if n < wr.heap.size then own n else 0) = 1
    rw [if_pos hn]; exact e
  · show (if n < wr.heap.size then own n else 0) = 2
    rw [if_pos hn]; exact e
  · show (if b < wr.heap.size then own b else 0) = 0
    rw [if_pos (by omega)]
    exact h3 b hb
theorem minv_start (h : BInv w0 p b wr) (t : TypeId) : MInv w0 p wr.heap.size b [] (wr.alloc (.cells #[.slice none 0 0] t)) := by
  have hx : Ex wr (wr.alloc (.cells #[.slice none 0 0] t)) := (Ex.refl wr).alloc _
  obtain ⟨⟨own, h1, h3⟩, h5, h6⟩ := h
  refine ⟨⟨fun b => if b < wr.heap.size then own b else 2, (h1.relabel fun n hn e => ?_).later hx, BookAt.fresh _ 2 wr t (if_neg (by omega)), fun b hb => ?_⟩, Nat.le_trans h6 hx.below.size, h5.trans (hx.below.mono h6)⟩
  · show (if n < wr.heap.size then own n else 2) = 1
    rw [if_pos hn]; exact e
  · show (if b < wr.heap.size then own b else 2) = 0
    rw [if_pos (by omega)]
    exact h3 b hb
variable {E : Nat → Addr}
theorem xadd (hR : CodeReady E w0) (hx : a.l.wf) (W : World) (h : MX w0 p m bx a b c W) : Calls Tryd.prog 28 #[.pointer (some ⟨p, 0, none⟩), .agg #[.int .i64 a.l.id, .int .i64 a.l.owner, .int .i64 a.l.side, .int .i64 a.l.price, .int .i64 a.l.qty]] W fun e w' => e = .returned (errV E (addE b a.l)) ∧ MX w0 p m bx a (addL b a.l) c w' := by
  have h' := h
  obtain ⟨⟨own, h1, h2, hb, h3⟩, h4, h5, h6⟩ := h'
  exact (add_any h1 a.l hx E (Errs.sub (h.ready hR).1 (by decide))).mono fun e w' ⟨k1, k2⟩ => ⟨k1, MX.one h2 hb h3 h4 h5 h6 k2⟩
theorem ymadd (hx : a.l.wf) (W : World) (h : MX w0 p m bx a b c W) : Calls Tryd.prog 49 #[.pointer (some ⟨m, 0, none⟩), .agg #[.int .i64 a.l.id, .int .i64 a.l.owner, .int .i64 a.l.side, .int .i64 a.l.price, .int .i64 a.l.qty]] W fun e w' => e = .returned (.int .i64 (addE c a.l : Int)) ∧ MX w0 p m bx a b (addL c a.l) w' := by
  obtain ⟨⟨own, h1, h2, hb, h3⟩, h4, h5, h6⟩ := h
  exact (madd_any h2 a.l hx).mono fun e w' ⟨k1, k2⟩ => ⟨k1, MX.two h1 hb h3 h4 h5 h6 k2⟩
theorem xcancel (hR : CodeReady E w0) (W : World) (h : MX w0 p m bx a b c W) : Calls Tryd.prog 29 #[.pointer (some ⟨p, 0, none⟩), .int .i64 a.id] W fun e w' => e = .returned (.tuple #[(cancelR b a.id).1.val, errV E (cancelR b a.id).2.1]) ∧ MX w0 p m bx a (cancelR b a.id).2.2 c w' := by
  have h' := h
  obtain ⟨⟨own, h1, h2, hb, h3⟩, h4, h5, h6⟩ := h'
  exact (cancel_any h1 a.id E (Errs.sub (h.ready hR).1 (by decide))).mono fun e w' ⟨k1, k2⟩ => ⟨k1, MX.one h2 hb h3 h4 h5 h6 k2⟩
theorem ymcancel (W : World) (h : MX w0 p m bx a b c W) : Calls Tryd.prog 50 #[.pointer (some ⟨m, 0, none⟩), .int .i64 a.id] W fun e w' => e = .returned (.tuple #[(cancelR c a.id).1.val, .int .i64 ((cancelR c a.id).2.1 : Int)]) ∧ MX w0 p m bx a b (cancelR c a.id).2.2 w' := by
  obtain ⟨⟨own, h1, h2, hb, h3⟩, h4, h5, h6⟩ := h
  exact (mcancel_any h2 a.id).mono fun e w' ⟨k1, k2⟩ => ⟨k1, MX.two h1 hb h3 h4 h5 h6 k2⟩
theorem ymcancel_box {W : World} (h : MX w0 p m bx a b c W) (cs : Array Value) (t : TypeId) : Calls Tryd.prog 50 #[.pointer (some ⟨m, 0, none⟩), .int .i64 a.id] (W.alloc (.cells cs t)) fun e w' => e = .returned (.tuple #[(cancelR c a.id).1.val, .int .i64 ((cancelR c a.id).2.1 : Int)]) ∧ MX w0 p m bx a b (cancelR c a.id).2.2 w' ∧ w'.heap[W.heap.size]? = some (.cells cs t (0, 0)) ∧ W.heap.size < w'.heap.size := by
  have hx : Ex W (W.alloc (.cells cs t)) := (Ex.refl W).alloc _
  have hlt := h.lt
  obtain ⟨⟨own, h1, h2, hb, h3⟩, h4, h5, h6⟩ := h
  have k1 : BookAt (fun n => if n < W.heap.size then own n else 0) 1 (W.alloc (.cells cs t)) p b := (h1.relabel fun n hn e => by show (if n < W.heap.size then own n else 0) = 1; rw [if_pos hn]; exact e).later hx
  have k2 : BookAt (fun n => if n < W.heap.size then own n else 0) 2 (W.alloc (.cells cs t)) m c := (h2.relabel fun n hn e => by show (if n < W.heap.size then own n else 0) = 2; rw [if_pos hn]; exact e).later hx
  refine (mcancel_any k2 a.id).mono fun e w' ⟨e1, hT⟩ => ?_
  obtain ⟨_, _, _, _, hs2, hK⟩ := hT.use (B := 0) (a := W.alloc (.cells cs t)) (Below.refl 0 _) (Nat.zero_le _) (fun b hb => by omega)
  refine ⟨e1, MX.two k1 (by show (if bx < W.heap.size then own bx else 0) = 0; rw [if_pos hlt]; exact hb) (fun n hn => by show (if n < W.heap.size then own n else 0) = 0; rw [if_pos (by omega)]; exact h3 n hn) ((hx.below.block _ hlt).trans h4) (Nat.le_trans h5 hx.below.size) (h6.trans (hx.below.mono h5)) hT, ?_, by simp at hs2; omega⟩
  rw [hK.other (by simp) (by rw [Nat.div_one, if_neg (by omega)]; decide)]
  exact heap_new rfl
theorem xtake (hR : CodeReady E w0) (W : World) (h : MX w0 p m bx a b c W) : Calls Tryd.prog 30 #[.pointer (some ⟨p, 0, none⟩), .int .i64 a.id, .int .i64 a.qty] W fun e w' => e = .returned (errV E (takeR b a.id a.qty).1) ∧ MX w0 p m bx a (takeR b a.id a.qty).2 c w' := by
  have h' := h
  obtain ⟨⟨own, h1, h2, hb, h3⟩, h4, h5, h6⟩ := h'
  exact (take_any h1 a.id a.qty E (Errs.sub (h.ready hR).1 (by decide))).mono fun e w' ⟨k1, k2⟩ => ⟨k1, MX.one h2 hb h3 h4 h5 h6 k2⟩
theorem ymtake (W : World) (h : MX w0 p m bx a b c W) : Calls Tryd.prog 51 #[.pointer (some ⟨m, 0, none⟩), .int .i64 a.id, .int .i64 a.qty] W fun e w' => e = .returned (.int .i64 ((takeR c a.id a.qty).1 : Int)) ∧ MX w0 p m bx a b (takeR c a.id a.qty).2 w' := by
  obtain ⟨⟨own, h1, h2, hb, h3⟩, h4, h5, h6⟩ := h
  exact (mtake_any h2 a.id a.qty).mono fun e w' ⟨k1, k2⟩ => ⟨k1, MX.two h1 hb h3 h4 h5 h6 k2⟩
theorem MInv.get (h : MInv w0 p m b c wr) (id : Int) : Calls Tryd.prog 52 #[.pointer (some ⟨p, 0, none⟩), .int .i64 id] wr fun e w' => e = .returned (.tuple #[(getR b id).1.val, .bool (getR b id).2]) ∧ Ex wr w' := by
  obtain ⟨⟨own, h1, h2, h3⟩, h5, h6⟩ := h
  exact get_any h1 id
theorem MInv.find (h : MInv w0 p m b c wr) (id : Int) : Calls Tryd.prog 53 #[.pointer (some ⟨m, 0, none⟩), .int .i64 id] wr fun e w' => e = .returned (.int .i64 (idIdx c id)) ∧ Ex wr w' := by
  obtain ⟨⟨own, h1, h2, h3⟩, h5, h6⟩ := h
  exact mfind_any h2 id
theorem MInv.slice (h : MInv w0 p m b c wr) : m < wr.heap.size ∧ c.length ≤ 60 ∧ ∃ ao cap, wr.cell? ⟨m, 0, none⟩ = some (.slice ao c.length cap) ∧ c.length ≤ cap ∧ cap ≤ maxLen ∧ LotsAt wr ao c.length c := by
  obtain ⟨⟨own, h1, h2, h3⟩, h5, h6⟩ := h
  obtain ⟨ao, cap, c0, hc, hm, h0, hl, hr⟩ := h2.slice
  exact ⟨h2.lt, h2.1, ao, cap, c0, hc, hm, hl⟩
end
end Go.Proofs.YtfeeibealokhfaaDoor
