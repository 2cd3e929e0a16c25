/- An array variable of six queues; what the statement IntakeKeeps holds from round to round. -/
import Derived.Test.YthngmmhoakegeaaDoorOut
set_option linter.unusedSimpArgs false
set_option linter.unusedVariables false
namespace Go.Proofs.YthngmmhoakegeaaDoor
open Go.RowKit

set_option maxRecDepth 100000 in
theorem intakeClear_out {w : World} {p : Nat} (n : Int) (hn : inR n 0 5 = false) : Calls Tryd.prog 24 #[.pointer (some ⟨p, 0, none⟩), .int .i64 n] w fun e w' => e = .returned (.int .i64 0) ∧ Ex w w' := by
  have hW := Lib.hid (intakeWait_out (p := p) (w := w) n hn)
  go_enter Tryd.func24, Tryd.ntmps24
  go_wp2_with (go_at_call 19; refine (hW.out).mono ?_; rintro e w1 ⟨rfl, l1, d1, rfl⟩)
  all_goals go_ret
  all_goals exact ⟨rfl, (by repeat (first | exact Ex.refl _ | refine Ex.alloc ?_ _ | refine Ex.ext ?_ _ _ | refine Ex.drew ?_ | refine Ex.drewN ?_ _))⟩
theorem intakeClear_at {own : Nat → Nat} {i : Nat} {w : World} {p : Nat} {l : Nat → List Ask} {turn : Nat} (h : IntakeAt own i w p l turn) (c : Nat) (hc : c < 6) (n : Int) (hn : n = (c : Int)) : Calls Tryd.prog 24 #[.pointer (some ⟨p, 0, none⟩), .int .i64 n] w fun e w' => e = .returned (.int .i64 ((l c).length : Nat)) ∧ ObjTo own i i w (fun o w' => IntakeAt o i w' p (fun d => if d = c then [] else l d) turn) w' := by
  subst hn
  exact intakeClear_in h c hc
theorem OwnRow.relabel {own own' : Nat → Nat} {j : Nat} {w : World} {e : TypeId} {size : Nat} {v : Value} {n : Nat} {xs : List Value} (h : OwnRow own j w e size v n xs) (ho : ∀ g, g < w.heap.size → own g = j → own' g = j) : OwnRow own' j w e size v n xs := h.ex (fun _ _ _ => rfl) ho
/-- A block of six slices, each a row of its own. -/
def WaitAt (own : Nat → Nat) (i : Nat) (w : World) (p : Nat) (l : Nat → List Ask) : Prop :=
  ∃ vs t, w.rowIs p t 6 vs ∧ Qs own i w p vs l

section
variable {own own' : Nat → Nat} {i m g : Nat} {w w' : World} {p : Nat} {l l' : Nat → List Ask} {turn : Nat}
theorem WaitAt.lt (h : WaitAt own i w p l) : p < w.heap.size := by obtain ⟨vs, t, h3, h4⟩ := h; exact h4.lt
theorem WaitAt.main (h : WaitAt own i w p l) : own p = i := by obtain ⟨vs, t, h3, h4⟩ := h; exact h4.main
theorem WaitAt.free (h : WaitAt own i w p l) (j : Nat) : w.frozen? ⟨p, j, none⟩ = false := by obtain ⟨vs, t, h3, h4⟩ := h; exact h3.frozen j
theorem WaitAt.kp (h : WaitAt own i w p l) (hk : Kp own m g w w') (hi : i / m ≠ g) (ho : ∀ n, n < w.heap.size → own n = i → own' n = i) : WaitAt own' i w' p l := by
  obtain ⟨vs, t, h3, h4⟩ := h
  exact ⟨vs, t, h3.of_block (hk.block p h4.lt (by rw [h4.main]; exact hi)), h4.kp hk hi ho⟩
theorem WaitAt.exts (h : WaitAt own i w p l) (bs : List Obj) (d : Nat) : WaitAt own i (ext w bs d) p l := h.kp (m := 1) (g := i + 1) (Kp.ext (Kp.refl _ _ _ _) bs d) (by simp) (fun _ _ h => h)
theorem WaitAt.alloc (h : WaitAt own i w p l) (o : Obj) : WaitAt own i (w.alloc o) p l := h.kp (m := 1) (g := i + 1) (Kp.alloc (Kp.refl _ _ _ _) o) (by simp) (fun _ _ h => h)
theorem WaitAt.drew (h : WaitAt own i w p l) : WaitAt own i w.drew p l := h.kp (m := 1) (g := i + 1) (Kp.drew (Kp.refl _ _ _ _)) (by simp) (fun _ _ h => h)
theorem WaitAt.congr (h : WaitAt own i w p l) (e : ∀ c, c < 6 → l c = l' c) : WaitAt own i w p l' := by
  obtain ⟨vs, t, h3, h4⟩ := h
  exact ⟨vs, t, h3, h4.congr e⟩
theorem WaitAt.relabel (h : WaitAt own i w p l) (ho : ∀ n, n < w.heap.size → own n = i → own' n = i) : WaitAt own' i w p l := h.kp (m := 1) (g := i + 1) (Kp.refl _ _ _ _) (by simp) ho
theorem WaitAt.setCell (h : WaitAt own i w p l) {q : Addr} (hq : own q.block ≠ i) (v : Value) : WaitAt own i (w.setCell q v) p l :=
  h.kp (m := 1) (g := own q.block) (own' := own) ((Kp.refl _ _ _ _).setCell (fun _ => Nat.div_one _) v) (by rw [Nat.div_one]; exact Ne.symm hq) (fun _ _ h => h)
theorem IntakeAt.setCell (h : IntakeAt own i w p l turn) {q : Addr} (hq : own q.block ≠ i) (v : Value) : IntakeAt own i (w.setCell q v) p l turn :=
  h.kp (m := 1) (g := own q.block) (own' := own) ((Kp.refl _ _ _ _).setCell (fun _ => Nat.div_one _) v) (by rw [Nat.div_one]; exact Ne.symm hq) (fun _ _ h => h)
theorem WaitAt.pick (h : WaitAt own i w p l) (c : Nat) (hc : c < 6) :
    ∃ ao cap o, w.cell? ⟨p, c, none⟩ = some (.slice ao (l c).length cap) ∧ (l c).length ≤ cap ∧ OwnRow o 2 w 30 8 (.slice ao (l c).length cap) (l c).length (flat Ask.cells (l c)) ∧ o p = 3 ∧ (∀ n, w.heap.size ≤ n → o n = 0) ∧ (∀ n, o n / 2 = 1 → own n = i) ∧
      ∀ W' own' v' x, RowAt W' 30 8 v' x.length (flat Ask.cells x) → (∀ g, v'.ownBlock = some g → (o g = 2 ∨ w.heap.size ≤ g) ∧ own' g = i) → (w.heap.size ≤ W'.heap.size ∧ ∀ n, n < w.heap.size → own n = i → o n / 2 ≠ 1 → W'.heap[n]? = w.heap[n]?) →
        (∀ t f, w.rowIs p t 6 f → W'.rowIs p t 6 (fun j => if j = c then v' else f j)) → (∀ n, n < w.heap.size → own n = i → own' n = i) → WaitAt own' i W' p (fun d => if d = c then x else l d) := by
  obtain ⟨vs, t, h3, h4⟩ := h
  obtain ⟨o, g1, g2, g3, g4, g5, g6⟩ := h4.pick c hc
  obtain ⟨ao, cap, hv, hcap, _⟩ := (h4.row c hc).form
  have hcell := h3.cell hc
  rw [hv] at hcell
  exact ⟨ao, cap, o, hcell, hcap, hv ▸ g1, g2, g3, g4, fun W' own' v' x hr hb hk hp ho => ⟨_, t, hp t _ h3, h4.step hc hr (fun g hg => ⟨(hb g hg).1.imp (g5 g) id, (hb g hg).2⟩) (fun n hn hi hp hv => hk.2 n hn hi fun e => (g6 n e).elim hp hv) hk.1 ho⟩⟩
/-- A slice of the row's own is laid into a queue's cell. -/
theorem WaitAt.store (h : WaitAt own i w p l) (c : Nat) (hc : c < 6) {v' : Value} {x : List Ask} (hr : RowAt w 30 8 v' x.length (flat Ask.cells x)) (hb : ∀ g, v'.ownBlock = some g → ∃ n cap ao, w.cell? ⟨p, c, none⟩ = some (.slice ao n cap) ∧ (Value.slice ao n cap).ownBlock = some g) : WaitAt own i (w.setCell ⟨p, c, none⟩ v') p (fun d => if d = c then x else l d) := by
  obtain ⟨ao, cap, o, hcell, hcap, hrow, h3, h0, hi, hend⟩ := h.pick c hc
  have hg : ∀ g, v'.ownBlock = some g → o g = 2 := fun g hg => by
    obtain ⟨n, cap', ao', h1, h2⟩ := hb g hg
    rw [hcell] at h1
    cases h1
    exact hrow.2 g h2
  refine hend _ own v' x (hr.of_block fun g hg' => Below.heap_setCell _ _ _ _ (fun e => ?_)) (fun g hg' => ⟨.inl (hg g hg'), hi g (by rw [hg g hg'])⟩) ⟨by simp [World.setCell], fun n hn h1 h2 => Below.heap_setCell _ _ _ _ (fun e => h2 ?_)⟩ (fun t f hf => hf.set c v') (fun _ _ h => h)
  · have e' : g = p := e
    have := hg g hg'
    rw [e', h3] at this
    omega
  · have e' : n = p := e
    rw [e', h3]
theorem WaitAt.grow (h : WaitAt own i w p l) (c : Nat) (hc : c < 6) (o : Nat → Nat) (h3 : o p = 3) (hi : ∀ n, o n / 2 = 1 → own n = i)
    (hend : ∀ W' own' v' x, RowAt W' 30 8 v' x.length (flat Ask.cells x) → (∀ g, v'.ownBlock = some g → (o g = 2 ∨ w.heap.size ≤ g) ∧ own' g = i) → (w.heap.size ≤ W'.heap.size ∧ ∀ n, n < w.heap.size → own n = i → o n / 2 ≠ 1 → W'.heap[n]? = w.heap[n]?) →
        (∀ t f, w.rowIs p t 6 f → W'.rowIs p t 6 (fun j => if j = c then v' else f j)) → (∀ n, n < w.heap.size → own n = i → own' n = i) → WaitAt own' i W' p (fun d => if d = c then x else l d))
    {Wc : World} (hx : Ex w Wc) {k' : Nat} {u : World} {v' : Value} (a : Ask) (hv' : OwnRow (lab o Wc.heap.size k' 2) 2 (ov Wc o 1 2 k' u) 30 8 v' ((l c).length + 1) (flat Ask.cells (l c) ++ a.cells)) :
    ObjTo own i i w (fun o' W => WaitAt o' i W p (fun d => if d = c then l c ++ [a] else l d)) ((ov Wc o 1 2 k' u).setCell ⟨p, c, none⟩ v') := by
  have hp := h.lt
  have hsz := hx.below.size
  have hK : Kp o 2 1 w ((ov Wc o 1 2 k' u).setCell ⟨p, c, none⟩ v') :=
    ((Kp.of_below hx.below).ov _ _ _ _ _ (fun n _ hn => by rw [Nat.div_one] at hn; simp [hn])).setCell (fun _ => by simp [h3]) _
  have hK2 : Kp own 1 i w ((ov Wc o 1 2 k' u).setCell ⟨p, c, none⟩ v') :=
    ⟨hK.os, hK.tape, hK.output, hK.size, fun n hn hne => hK.block n hn (fun e => hne (by rw [Nat.div_one]; exact hi n e))⟩
  have hsW : ((ov Wc o 1 2 k' u).setCell ⟨p, c, none⟩ v').heap.size = Wc.heap.size + k' := by simp [World.setCell, ov_size]
  have hlab : ∀ g, v'.ownBlock = some g → (o g = 2 ∧ g < w.heap.size) ∨ w.heap.size ≤ g := fun g hg => by
    have h2 := hv'.2 g hg
    by_cases hlt : g < w.heap.size
    · rw [lab_lt (by omega)] at h2
      exact .inl ⟨h2, hlt⟩
    · exact .inr (by omega)
  have hrow : RowAt ((ov Wc o 1 2 k' u).setCell ⟨p, c, none⟩ v') 30 8 v' (l c ++ [a]).length (flat Ask.cells (l c ++ [a])) := by
    rw [List.length_append, List.length_singleton, flat_append, flat_one]
    refine hv'.1.of_block fun g hg => Below.heap_setCell _ _ _ _ ?_
    rcases hlab g hg with h1 | h1
    · intro e; have e' : g = p := e; rw [e', h3] at h1; omega
    · intro e; have e' : g = p := e; omega
  refine ObjTo.of hK2 (hend _ _ v' (l c ++ [a]) hrow (fun g hg => ⟨(hlab g hg).imp And.left id, ?_⟩) hK.far (fun t f hf => ?_) (fun n hn e => by rw [lab_lt hn]; exact e))
  · rcases hlab g hg with h1 | h1
    · rw [lab_lt h1.2]; exact hi g (by rw [h1.1])
    · have := hrow.lt g hg
      unfold lab
      rw [if_neg (by omega), if_pos (by omega)]
  · have h1 : (ov Wc o 1 2 k' u).rowIs p t 6 f := rowIs_ov (hf.of_block (hx.below.block p hp)) _ _ _ _ _ (by rw [h3]; decide)
    exact h1.set c v'
end

/-- What IntakeKeeps holds from round to round: the intake and the array of queues tell the same. -/
def KeepInv (w : World) (p q : Nat) (wr : World) : Prop :=
  ∃ own l turn, IntakeAt own 1 wr p l turn ∧ Cl l ∧ WaitAt own 2 wr q l ∧ (∀ b, b < w.heap.size → own b = 0) ∧ (∀ b, wr.heap.size ≤ b → own b = 0) ∧ w.heap.size ≤ wr.heap.size ∧ Below w.heap.size w wr
theorem KeepInv.exts {w wr : World} {p q : Nat} (h : KeepInv w p q wr) (bs : List Obj) (d : Nat) : KeepInv w p q (ext wr bs d) := by
  obtain ⟨own, l, turn, h1, h2, h3, h4, h5, h6, h7⟩ := h
  exact ⟨own, l, turn, h1.exts bs d, h2, h3.exts bs d, h4, fun b hb => h5 b (by rw [ext_size] at hb; omega), by rw [ext_size]; omega, Below.ext h7 h6 bs d⟩
theorem KeepInv.later {w wr wr' : World} {p q : Nat} (h : KeepInv w p q wr) (hx : Ex wr wr') : KeepInv w p q wr' := by
  obtain ⟨bs, d, rfl⟩ := hx
  exact h.exts bs d
/-- The invariant, where labels from the world's end on are free to be cleared. -/
theorem KeepInv.of {w wr : World} {p q : Nat} {own : Nat → Nat} {l : Nat → List Ask} {turn : Nat} (h1 : IntakeAt own 1 wr p l turn) (h2 : Cl l) (h3 : WaitAt own 2 wr q l) (h4 : ∀ b, b < w.heap.size → own b = 0) (h6 : w.heap.size ≤ wr.heap.size) (h7 : Below w.heap.size w wr) : KeepInv w p q wr :=
  ⟨fun b => if b < wr.heap.size then own b else 0, l, turn, h1.relabel (fun n hn e => by simp [hn, e]), h2, h3.relabel (fun n hn e => by simp [hn, e]), fun b hb => by simp [show b < wr.heap.size by omega, h4 b hb], fun b hb => by simp [show ¬ b < wr.heap.size by omega], h6, h7⟩
theorem KeepInv.start {w wn : World} {p : Nat} {o : Nat → Nat} (hI : IntakeAt o 1 wn p (fun _ => []) 0) (h4 : ∀ b, b < w.heap.size → o b = 0) (h6 : w.heap.size ≤ wn.heap.size) (h7 : Below w.heap.size w wn) (t : TypeId) :
    KeepInv w p wn.heap.size (wn.alloc (.cells #[.slice none 0 0, .slice none 0 0, .slice none 0 0, .slice none 0 0, .slice none 0 0, .slice none 0 0] t)) := by
  refine KeepInv.of (own := fun b => if b < wn.heap.size then o b else 2) ((hI.relabel (fun n hn e => by simp [hn, e])).alloc _) Cl.nil ⟨fun _ => .slice none 0 0, t, World.rowIs_alloc wn _ t _ (fun c hc => ?_), fun c _ => OwnRow.nil _ _ _ _ _, fun c d _ _ _ g hg => (by cases hg), by simp, by simp, fun c _ h => by cases h⟩ (fun b hb => by simp [show b < wn.heap.size by omega, h4 b hb]) (by simp; omega) (Below.alloc h7 h6 _)
  simp at hc
  have : c = 0 ∨ c = 1 ∨ c = 2 ∨ c = 3 ∨ c = 4 ∨ c = 5 := by omega
  rcases this with rfl | rfl | rfl | rfl | rfl | rfl <;> rfl
end Go.Proofs.YthngmmhoakegeaaDoor
