/- The program's intake and the document's one, and an act in a block of its own. -/
import Derived.Test.YthngmmhoakegeaaDoorMIntE
import Derived.Test.YthngmmhoakegeaaDoorWaitAt
import Derived.Test.YthngmmhoakegeaaDoorActs
import Derived.Test.YthngmmhoakegeaaDoorCodedV
set_option linter.unusedSimpArgs false
set_option linter.unusedVariables false
namespace Go.Proofs.YthngmmhoakegeaaDoor
open Go.RowKit

def actBox (a : Act) : Array Value := #[.string a.kind, .int .u8 a.a.kind, .int .i64 a.a.client, .int .i64 a.a.seq, .int .i64 a.a.item, .int .i64 a.a.side, .int .i64 a.a.price, .int .i64 a.a.qty, .int .i64 a.a.id, .int .i64 a.client]
/-- The two intakes. -/
def IInv (w0 : World) (p q : Nat) (l : Nat → List Ask) (t : Nat) (L : List Ask) (t2 : Nat) (wr : World) : Prop := (∃ own, IntakeAt own 1 wr p l t ∧ MIntAt own 2 wr q L t2 ∧ ∀ n, n < w0.heap.size → own n = 0) ∧ w0.heap.size ≤ wr.heap.size ∧ Below w0.heap.size w0 wr
/-- The two intakes, and an act. -/
def IX (w0 : World) (p q bx : Nat) (a : Act) (l : Nat → List Ask) (t : Nat) (L : List Ask) (t2 : Nat) (wr : World) : Prop := (∃ own, IntakeAt own 1 wr p l t ∧ MIntAt own 2 wr q L t2 ∧ own bx = 0 ∧ ∀ n, n < w0.heap.size → own n = 0) ∧ wr.heap[bx]? = some (.cells (actBox a) 32 (0, 0)) ∧ w0.heap.size ≤ wr.heap.size ∧ Below w0.heap.size w0 wr
section
variable {w0 : World} {p q bx : Nat} {a : Act} {l l' : Nat → List Ask} {t t' t2 t2' : Nat} {L L' : List Ask} {wr w' : World}
theorem IInv.later (h : IInv w0 p q l t L t2 wr) (hx : Ex wr w') : IInv w0 p q l t L t2 w' := by
  obtain ⟨⟨own, h1, h2, h3⟩, h5, h6⟩ := h
  exact ⟨⟨own, h1.later hx, h2.later hx, h3⟩, Nat.le_trans h5 hx.below.size, h6.trans (hx.below.mono h5)⟩
theorem IX.inv (h : IX w0 p q bx a l t L t2 wr) : IInv w0 p q l t L t2 wr := by
  obtain ⟨⟨own, h1, h2, _, h3⟩, _, h5, h6⟩ := h
  exact ⟨⟨own, h1, h2, h3⟩, h5, h6⟩
theorem IX.later (h : IX w0 p q bx a l t L t2 wr) (hx : Ex wr w') : IX w0 p q bx a l t L t2 w' := by
  obtain ⟨⟨own, h1, h2, hb, h3⟩, h4, h5, h6⟩ := h
  exact ⟨⟨own, h1.later hx, h2.later hx, hb, h3⟩, (hx.below.block _ (Array.getElem?_eq_some_iff.1 h4).1).trans h4, Nat.le_trans h5 hx.below.size, h6.trans (hx.below.mono h5)⟩
theorem IX.congr (h : IX w0 p q bx a l t L t2 wr) (e : ∀ c, c < 6 → l c = l' c) : IX w0 p q bx a l' t L t2 wr := by
  obtain ⟨⟨own, h1, h2, hb, h3⟩, h4, h5, h6⟩ := h
  exact ⟨⟨own, h1.congr e, h2, hb, h3⟩, h4, h5, h6⟩
theorem IX.lt (h : IX w0 p q bx a l t L t2 wr) : bx < wr.heap.size := (Array.getElem?_eq_some_iff.1 h.2.1).1
theorem IX.ready {E : Nat → Addr} (h : IX w0 p q bx a l t L t2 wr) (hR : CodeReady E w0) : CodeReady E wr := hR.ex (Ex.of h.2.2.2)
theorem IX.cells (h : IX w0 p q bx a l t L t2 wr) : wr.cell? ⟨bx, 0, none⟩ = some (.string a.kind) ∧ wr.cell? ⟨bx, 1, none⟩ = some (.int .u8 a.a.kind) ∧ wr.cell? ⟨bx, 2, none⟩ = some (.int .i64 a.a.client) ∧ wr.cell? ⟨bx, 3, none⟩ = some (.int .i64 a.a.seq) ∧ wr.cell? ⟨bx, 4, none⟩ = some (.int .i64 a.a.item) ∧ wr.cell? ⟨bx, 5, none⟩ = some (.int .i64 a.a.side) ∧ wr.cell? ⟨bx, 6, none⟩ = some (.int .i64 a.a.price) ∧ wr.cell? ⟨bx, 7, none⟩ = some (.int .i64 a.a.qty) ∧ wr.cell? ⟨bx, 8, none⟩ = some (.int .i64 a.a.id) ∧ wr.cell? ⟨bx, 9, none⟩ = some (.int .i64 a.client) := by
  have h1 := h.2.1
  refine ⟨?_, ?_, ?_, ?_, ?_, ?_, ?_, ?_, ?_, ?_⟩ <;> simp [World.cell?, h1, actBox]
theorem IX.one {own : Nat → Nat} (h1 : MIntAt own 2 wr q L t2) (hb : own bx = 0) (h3 : ∀ n, n < w0.heap.size → own n = 0) (h4 : wr.heap[bx]? = some (.cells (actBox a) 32 (0, 0))) (h5 : w0.heap.size ≤ wr.heap.size) (h6 : Below w0.heap.size w0 wr)
    (hT : ObjTo own 1 1 wr (fun o w' => IntakeAt o 1 w' p l' t') w') : IX w0 p q bx a l' t' L t2 w' := by
  obtain ⟨o2, hI, hB2, ho2, hs2, hK⟩ := hT.use (B := w0.heap.size) (a := w0) h6 h5 (fun b hb => by rw [h3 b hb]; decide)
  have hl := (Array.getElem?_eq_some_iff.1 h4).1
  exact ⟨⟨o2, hI, h1.kp hK (by decide) (fun n hn e => by rw [ho2 n hn]; exact e), by rw [ho2 _ hl]; exact hb, fun b hb => by rw [ho2 b (by omega)]; exact h3 b hb⟩, (hK.other hl (by rw [Nat.div_one, hb]; decide)).trans h4, by omega, hB2⟩
theorem IX.two {own : Nat → Nat} (h1 : IntakeAt own 1 wr p l t) (hb : own bx = 0) (h3 : ∀ n, n < w0.heap.size → own n = 0) (h4 : wr.heap[bx]? = some (.cells (actBox a) 32 (0, 0))) (h5 : w0.heap.size ≤ wr.heap.size) (h6 : Below w0.heap.size w0 wr)
    (hT : ObjTo own 2 2 wr (fun o w' => MIntAt o 2 w' q L' t2') w') : IX w0 p q bx a l t L' t2' w' := by
  obtain ⟨o2, hI, hB2, ho2, hs2, hK⟩ := hT.use (B := w0.heap.size) (a := w0) h6 h5 (fun b hb => by rw [h3 b hb]; decide)
  have hl := (Array.getElem?_eq_some_iff.1 h4).1
  exact ⟨⟨o2, h1.kp hK (by decide) (fun n hn e => by rw [ho2 n hn]; exact e), hI, by rw [ho2 _ hl]; exact hb, fun b hb => by rw [ho2 b (by omega)]; exact h3 b hb⟩, (hK.other hl (by rw [Nat.div_one, hb]; decide)).trans h4, by omega, hB2⟩
theorem IInv.make (h : IInv w0 p q l t L t2 wr) : IX w0 p q wr.heap.size a l t L t2 (wr.alloc (.cells (actBox a) 32)) := by
  have hx : Ex wr (wr.alloc (.cells (actBox a) 32)) := (Ex.refl wr).alloc _
  obtain ⟨⟨own, h1, h2, h3⟩, h5, h6⟩ := h
  refine ⟨⟨fun b => if b < wr.heap.size then own b else 0, (h1.relabel fun n hn e => ?_).later hx, (h2.relabel fun n hn e => ?_).later hx, if_neg (by omega), fun b hb => ?_⟩, heap_new rfl, Nat.le_trans h5 hx.below.size, h6.trans (hx.below.mono h5)⟩
  · show (if n < wr.heap.size then own n else 0) = 1
    rw [if_pos hn]; exact e
  · show (if n < wr.heap.size then own n else 0) = 2
    rw [if_pos hn]; exact e
  · show (if b < wr.heap.size then own b else 0) = 0
    rw [if_pos (by omega)]
    exact h3 b hb
theorem iinv_start {o : Nat → Nat} (h1 : IntakeAt o 1 wr p l t) (h3 : ∀ b, b < w0.heap.size → o b = 0) (h5 : w0.heap.size ≤ wr.heap.size) (h6 : Below w0.heap.size w0 wr) (ty : TypeId) : IInv w0 p wr.heap.size l t [] 0 (wr.alloc (.cells #[.slice none 0 0, .int .i64 0] ty)) := by
  have hx : Ex wr (wr.alloc (.cells #[.slice none 0 0, .int .i64 0] ty)) := (Ex.refl wr).alloc _
  refine ⟨⟨fun b => if b < wr.heap.size then o b else 2, (h1.relabel fun n hn e => ?_).later hx, MIntAt.fresh _ 2 wr ty (if_neg (by omega)), fun b hb => ?_⟩, Nat.le_trans h5 hx.below.size, h6.trans (hx.below.mono h5)⟩
  · show (if n < wr.heap.size then o n else 2) = 1
    rw [if_pos hn]; exact e
  · show (if b < wr.heap.size then o b else 2) = 0
    rw [if_pos (by omega)]
    exact h3 b hb
variable {E : Nat → Addr}
theorem xput (hR : CodeReady E w0) (W : World) (h : IX w0 p q bx a l t L t2 W) : Calls Tryd.prog 17 #[.pointer (some ⟨p, 0, none⟩), .agg #[.int .u8 a.a.kind, .int .i64 a.a.client, .int .i64 a.a.seq, .int .i64 a.a.item, .int .i64 a.a.side, .int .i64 a.a.price, .int .i64 a.a.qty, .int .i64 a.a.id]] W fun e w' => e = .returned (errV E (putErr l a.a)) ∧ IX w0 p q bx a (putTo l a.a) t L t2 w' := by
  have h' := h
  obtain ⟨⟨own, h1, h2, hb, h3⟩, h4, h5, h6⟩ := h'
  exact (put_any h1 a.a E (Errs.sub (h.ready hR).1 (by decide))).mono fun e w' ⟨k1, k2⟩ => ⟨k1, IX.one h2 hb h3 h4 h5 h6 k2⟩
theorem yput (W : World) (h : IX w0 p q bx a l t L t2 W) (hin : InC L) (hq : ∀ c, c < 6 → (qsOf L c).length ≤ 6) : Calls Tryd.prog 39 #[.pointer (some ⟨q, 0, none⟩), .agg #[.int .u8 a.a.kind, .int .i64 a.a.client, .int .i64 a.a.seq, .int .i64 a.a.item, .int .i64 a.a.side, .int .i64 a.a.price, .int .i64 a.a.qty, .int .i64 a.a.id]] W fun e w' => e = .returned (.int .i64 (putErr (qsOf L) a.a : Int)) ∧ IX w0 p q bx a l t (putLL L a.a) t2 w' := by
  obtain ⟨⟨own, h1, h2, hb, h3⟩, h4, h5, h6⟩ := h
  exact (mput_any h2 a.a hin hq).mono fun e w' ⟨k1, k2⟩ => ⟨k1, IX.two h1 hb h3 h4 h5 h6 k2⟩
theorem xclear (W : World) (h : IX w0 p q bx a (qsOf L') t L t2 W) (hin : InC L') : Calls Tryd.prog 24 #[.pointer (some ⟨p, 0, none⟩), .int .i64 a.client] W fun e w' => e = .returned (.int .i64 ((ofC L' a.client).length : Nat)) ∧ IX w0 p q bx a (qsOf (clearLL L' a.client)) t L t2 w' := by
  obtain ⟨⟨own, h1, h2, hb, h3⟩, h4, h5, h6⟩ := h
  cases hr : inR a.client 0 5
  · refine (intakeClear_out (p := p) a.client hr).mono fun e w' ⟨k1, k2⟩ => ?_
    have ho : ofC L' a.client = [] := ofC_out hin (by rcases inR_not.1 hr with h | h <;> omega)
    refine ⟨by rw [k1, ho]; rfl, (IX.later (IX.congr (l' := qsOf (clearLL L' a.client)) ⟨⟨own, h1, h2, hb, h3⟩, h4, h5, h6⟩ fun c hc => ?_) k2)⟩
    rw [clearLL_qs, if_neg (by rcases inR_not.1 hr with h | h <;> omega)]
  · obtain ⟨r0, r5⟩ := inR_iff.1 hr
    obtain ⟨c, hcn⟩ : ∃ c : Nat, a.client = (c : Int) := ⟨a.client.toNat, by omega⟩
    refine (intakeClear_at h1 c (by omega) a.client hcn).mono fun e w' ⟨k1, k2⟩ => ?_
    refine ⟨by rw [k1, hcn]; rfl, IX.congr (IX.one h2 hb h3 h4 h5 h6 k2) fun d hd => ?_⟩
    rw [clearLL_qs]
    by_cases e : d = c
    · subst e; rw [if_pos rfl, if_pos hcn.symm]
    · rw [if_neg e, if_neg (by omega)]
theorem yclear (W : World) (h : IX w0 p q bx a l t L t2 W) : Calls Tryd.prog 40 #[.pointer (some ⟨q, 0, none⟩), .int .i64 a.client] W fun e w' => e = .returned (.int .i64 ((ofC L a.client).length : Nat)) ∧ IX w0 p q bx a l t (clearLL L a.client) t2 w' := by
  obtain ⟨⟨own, h1, h2, hb, h3⟩, h4, h5, h6⟩ := h
  exact (mclear_any h2 a.client).mono fun e w' ⟨k1, k2⟩ => ⟨k1, IX.two h1 hb h3 h4 h5 h6 k2⟩
/-- A drain: what comes out, and the two intakes, and an act. -/
def IXD (w0 : World) (p q bx : Nat) (a : Act) (l : Nat → List Ask) (t : Nat) (L : List Ask) (t2 : Nat) (v : Value) (x : List Ask) (wr : World) : Prop := (∃ own, IntakeAt own 1 wr p l t ∧ MIntAt own 2 wr q L t2 ∧ own bx = 0 ∧ (∀ n, n < w0.heap.size → own n = 0) ∧ OwnRow own 3 wr 30 8 v x.length (flat Ask.cells x)) ∧ wr.heap[bx]? = some (.cells (actBox a) 32 (0, 0)) ∧ w0.heap.size ≤ wr.heap.size ∧ Below w0.heap.size w0 wr
theorem IXD.ix {v : Value} {x : List Ask} (h : IXD w0 p q bx a l t L t2 v x wr) : IX w0 p q bx a l t L t2 wr := by
  obtain ⟨⟨own, h1, h2, hb, h3, _⟩, h4⟩ := h
  exact ⟨⟨own, h1, h2, hb, h3⟩, h4⟩
theorem IXD.later {v : Value} {x : List Ask} (h : IXD w0 p q bx a l t L t2 v x wr) (hx : Ex wr w') : IXD w0 p q bx a l t L t2 v x w' := by
  obtain ⟨⟨own, h1, h2, hb, h3, hr⟩, h4, h5, h6⟩ := h
  exact ⟨⟨own, h1.later hx, h2.later hx, hb, h3, by obtain ⟨bs, d, rfl⟩ := hx; exact hr.exts bs d⟩, (hx.below.block _ (Array.getElem?_eq_some_iff.1 h4).1).trans h4, Nat.le_trans h5 hx.below.size, h6.trans (hx.below.mono h5)⟩
theorem IXD.row {v : Value} {x : List Ask} (h : IXD w0 p q bx a l t L t2 v x wr) : ∃ ao cap, v = .slice ao x.length cap ∧ AskC wr ao x := by
  obtain ⟨⟨own, _, _, _, _, hr⟩, _⟩ := h
  obtain ⟨ao, cap, rfl⟩ := row_form hr.1
  exact ⟨ao, cap, rfl, askC_row rfl hr.1⟩
theorem xdrain (W : World) (h : IX w0 p q bx a l t L t2 W) : Calls Tryd.prog 18 #[.pointer (some ⟨p, 0, none⟩)] W fun e w' => ∃ v, e = .returned v ∧ IXD w0 p q bx a (fun d => (l d).drop 2) ((t + 1) % 6) L t2 v (outOf l t 6) w' := by
  obtain ⟨⟨own, h1, h2, hb, h3⟩, h4, h5, h6⟩ := h
  refine (drain_any (j := 3) (by decide) h1).mono fun e w' ⟨v, k1, k2⟩ => ⟨v, k1, ?_⟩
  obtain ⟨o2, ⟨hI, hR⟩, hB2, ho2, hs2, hK⟩ := k2.use (B := w0.heap.size) (a := w0) h6 h5 (fun b hb => by rw [h3 b hb]; decide)
  have hl := (Array.getElem?_eq_some_iff.1 h4).1
  exact ⟨⟨o2, hI, h2.kp hK (by decide) (fun n hn e => by rw [ho2 n hn]; exact e), by rw [ho2 _ hl]; exact hb, fun b hb => by rw [ho2 b (by omega)]; exact h3 b hb, hR⟩, (hK.other hl (by rw [Nat.div_one, hb]; decide)).trans h4, by omega, hB2⟩
theorem ydrain {v : Value} {x : List Ask} (W : World) (h : IXD w0 p q bx a l t L t2 v x W) (hin : InC L) (hq : ∀ c, c < 6 → (qsOf L c).length ≤ 6) : Calls Tryd.prog 42 #[.pointer (some ⟨q, 0, none⟩)] W fun e w' => (∃ ao cap, e = .returned (.slice ao (outOf (qsOf L) t2 6).length cap) ∧ AskC w' ao (outOf (qsOf L) t2 6)) ∧ IXD w0 p q bx a l t (drainLL L) ((t2 + 1) % 6) v x w' := by
  obtain ⟨⟨own, h1, h2, hb, h3, hr⟩, h4, h5, h6⟩ := h
  refine (mdrain_any h2 hin hq).mono fun e w' ⟨k0, k2⟩ => ⟨k0, ?_⟩
  obtain ⟨o2, hI, hB2, ho2, hs2, hK⟩ := k2.use (B := w0.heap.size) (a := w0) h6 h5 (fun b hb => by rw [h3 b hb]; decide)
  have hl := (Array.getElem?_eq_some_iff.1 h4).1
  exact ⟨⟨o2, h1.kp hK (by decide) (fun n hn e => by rw [ho2 n hn]; exact e), hI, by rw [ho2 _ hl]; exact hb, fun b hb => by rw [ho2 b (by omega)]; exact h3 b hb, hr.kp hK (by decide) (fun n hn e => by rw [ho2 n hn]; exact e)⟩, (hK.other hl (by rw [Nat.div_one, hb]; decide)).trans h4, by omega, hB2⟩
theorem iturn (W : World) (h : IX w0 p q bx a l t L t2 W) : Calls Tryd.prog 43 #[.pointer (some ⟨p, 0, none⟩)] W fun e w' => e = .returned (.int .i64 (t : Int)) ∧ Ex W w' := by
  obtain ⟨⟨own, h1, h2, hb, h3⟩, h4, h5, h6⟩ := h
  exact intakeTurn h1
theorem iwait (W : World) (h : IX w0 p q bx a (qsOf L') t L t2 W) (hin : InC L') : Calls Tryd.prog 19 #[.pointer (some ⟨p, 0, none⟩), .int .i64 a.client] W fun e w' => e = .returned (.int .i64 ((ofC L' a.client).length : Nat)) ∧ Ex W w' := by
  obtain ⟨⟨own, h1, h2, hb, h3⟩, h4, h5, h6⟩ := h
  cases hr : inR a.client 0 5
  · have ho : ofC L' a.client = [] := ofC_out hin (by rcases inR_not.1 hr with h | h <;> omega)
    rw [ho]
    exact intakeWait_out a.client hr
  · obtain ⟨r0, r5⟩ := inR_iff.1 hr
    obtain ⟨c, hcn⟩ : ∃ c : Nat, a.client = (c : Int) := ⟨a.client.toNat, by omega⟩
    rw [hcn]
    exact intakeWait_in h1 c (by omega)
theorem ywait (W : World) (h : IX w0 p q bx a l t L t2 W) : Calls Tryd.prog 44 #[.pointer (some ⟨q, 0, none⟩), .int .i64 a.client] W fun e w' => e = .returned (.int .i64 ((ofC L a.client).length : Nat)) ∧ Ex W w' := by
  obtain ⟨⟨own, h1, h2, hb, h3⟩, h4, h5, h6⟩ := h
  exact mwait_any h2 a.client
theorem IX.qlens (h : IX w0 p q bx a l t L t2 wr) : ∀ c, c < 6 → (l c).length ≤ 6 := by
  obtain ⟨⟨own, h1, _⟩, _⟩ := h
  exact h1.2.1
theorem IX.tcell (h : IX w0 p q bx a l t L t2 wr) : wr.cell? ⟨q, 1, none⟩ = some (.int .i64 (t2 : Int)) ∧ q < wr.heap.size := by
  obtain ⟨⟨own, _, h2, _⟩, _⟩ := h
  obtain ⟨_, _, _, c1, _⟩ := h2.slice
  exact ⟨c1, h2.lt⟩
end
end Go.Proofs.YthngmmhoakegeaaDoor
