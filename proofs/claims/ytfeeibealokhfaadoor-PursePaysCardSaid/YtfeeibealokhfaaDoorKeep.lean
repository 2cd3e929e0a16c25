/- Worlds behind a method that changes an object: every block bears a label; 'ov' is the world in which only the blocks of one group of labels may have turned. Rows that bear a label; what append makes of them. No condition. -/
import Derived.Test.YtfeeibealokhfaaDoorRow
import Derived.Deep.OwnRows
set_option linter.unusedSimpArgs false
set_option linter.unusedVariables false
namespace Go.Proofs.YtfeeibealokhfaaDoor
open Go.RowKit

/-- w, but blocks of the labels of group i, and k new blocks, are as x has them. -/
def ov (w : World) (own : Nat → Nat) (m i k : Nat) (x : World) : World :=
  { w with heap := Array.ofFn (n := w.heap.size + k) fun n => if h : n.1 < w.heap.size ∧ own n.1 / m ≠ i then w.heap[n.1]'(h.1) else (x.heap[n.1]?).getD (.cells #[] 0),
           drawn := x.drawn }
/-- Labels, where the k blocks from s on get the label j. -/
def lab (own : Nat → Nat) (s k j : Nat) : Nat → Nat := fun n => if n < s then own n else if n < s + k then j else own n
@[go_sem] theorem lab_eq (own : Nat → Nat) (s k j n : Nat) : lab own s k j n = pickLt n s (own n) (pickLt n (s + k) j (own n)) := rfl
theorem lab_lt {own : Nat → Nat} {s k j n : Nat} (h : n < s) : lab own s k j n = own n := if_pos h

section
variable (w : World) (own : Nat → Nat) (m i k : Nat) (x : World) (n j : Nat)
theorem ov_heap (h : n < w.heap.size) (h' : own n / m ≠ i) : (ov w own m i k x).heap[n]? = w.heap[n]? := by
  simp only [ov, Array.getElem?_ofFn]
  rw [dif_pos (by omega), dif_pos ⟨h, h'⟩, Array.getElem?_eq_getElem h]
@[go_sem] theorem ov_size : (ov w own m i k x).heap.size = w.heap.size + k := by simp [ov]
@[go_sem] theorem ov_cell : (ov w own m i k x).cell? ⟨n, j, none⟩ = pickLt n w.heap.size (pickEq (own n / m) i (farCell (ov w own m i k x) ⟨n, j, none⟩) (w.cell? ⟨n, j, none⟩)) (farCell (ov w own m i k x) ⟨n, j, none⟩) := by
  unfold pickLt pickEq
  split
  · split
    · rfl
    · rename_i h h'; exact World.cell?_of_block (w := w) (ov_heap w own m i k x n h h')
  · rfl
@[go_sem] theorem ov_frozen : (ov w own m i k x).frozen? ⟨n, j, none⟩ = pickLt n w.heap.size (pickEq (own n / m) i (farFrozen (ov w own m i k x) ⟨n, j, none⟩) (w.frozen? ⟨n, j, none⟩)) (farFrozen (ov w own m i k x) ⟨n, j, none⟩) := by
  unfold pickLt pickEq
  split
  · split
    · rfl
    · rename_i h h'; exact World.frozen?_of_block (w := w) (ov_heap w own m i k x n h h')
  · rfl
@[go_sem] theorem ov_drew : (ov w own m i k x).drew = ov w own m i k x.drew := rfl
@[go_sem] theorem ov_drewN (d : Nat) : (ov w own m i k x).drewN d = ov w own m i k (x.drewN d) := rfl
@[go_sem] theorem ov_tape : (ov w own m i k x).tape = w.tape := rfl
theorem ov_set_lt (v : Value) (h : n < w.heap.size) (h' : own n / m ≠ i) : (ov w own m i k x).setCell ⟨n, j, none⟩ v = ov (w.setCell ⟨n, j, none⟩ v) own m i k x := by
  have hs : (w.setCell ⟨n, j, none⟩ v).heap.size = w.heap.size := by simp [World.setCell]
  have e : ((ov w own m i k x).setCell ⟨n, j, none⟩ v).heap = (ov (w.setCell ⟨n, j, none⟩ v) own m i k x).heap := by
    apply Array.ext_getElem?
    intro q
    by_cases hq : q < w.heap.size + k
    · by_cases hqn : q = n
      · subst hqn
        rw [ov_heap _ _ _ _ _ _ _ (by rw [hs]; exact h) h']
        simp only [World.setCell, Array.getElem?_modify, if_true]
        rw [ov_heap _ _ _ _ _ _ _ h h']
      · rw [Below.heap_setCell _ _ _ _ hqn]
        simp only [ov, Array.getElem?_ofFn]
        rw [dif_pos hq, dif_pos (show q < (w.setCell ⟨n, j, none⟩ v).heap.size + k by rw [hs]; exact hq)]
        congr 1
        by_cases hc : q < w.heap.size ∧ own q / m ≠ i
        · rw [dif_pos (show q < (w.setCell ⟨n, j, none⟩ v).heap.size ∧ own q / m ≠ i from ⟨by rw [hs]; exact hc.1, hc.2⟩), dif_pos hc]
          have := Below.heap_setCell w ⟨n, j, none⟩ v q hqn
          rw [Array.getElem?_eq_getElem hc.1, Array.getElem?_eq_getElem (by rw [hs]; exact hc.1)] at this
          exact (Option.some.inj this).symm
        · rw [dif_neg (show ¬ (q < (w.setCell ⟨n, j, none⟩ v).heap.size ∧ own q / m ≠ i) by rw [hs]; exact hc), dif_neg hc]
    · rw [Array.getElem?_eq_none (by simp [World.setCell, ov]; omega), Array.getElem?_eq_none (by simp [ov]; omega)]
  have e2 : ∀ a b : World, a.heap = b.heap → a.tape = b.tape → a.drawn = b.drawn → a.os = b.os → a.output = b.output → a = b := by
    intro a b; cases a; cases b; simp_all
  exact e2 _ _ e rfl rfl rfl rfl
@[go_sem] theorem ov_set (v : Value) : (ov w own m i k x).setCell ⟨n, j, none⟩ v = pickLt n w.heap.size (pickEq (own n / m) i (farSet (ov w own m i k x) ⟨n, j, none⟩ v) (ov (w.setCell ⟨n, j, none⟩ v) own m i k x)) (farSet (ov w own m i k x) ⟨n, j, none⟩ v) := by
  unfold pickLt pickEq
  split
  · split
    · rfl
    · rename_i h h'; exact ov_set_lt w own m i k x n j v h h'
  · rfl
end

/-- Only blocks of the labels of group i have turned, and there may be new ones. -/
structure Kp (own : Nat → Nat) (m i : Nat) (a w : World) : Prop where
  os : w.os = a.os
  tape : w.tape = a.tape
  output : w.output = a.output
  size : a.heap.size ≤ w.heap.size
  block : ∀ k, k < a.heap.size → own k / m ≠ i → w.heap[k]? = a.heap[k]?

section
variable {own : Nat → Nat} {m i : Nat} {a w : World}
theorem Kp.refl (own : Nat → Nat) (m i : Nat) (a : World) : Kp own m i a a := ⟨rfl, rfl, rfl, Nat.le_refl _, fun _ _ _ => rfl⟩
theorem Kp.is (h : Kp own m i a w) : w = ov a own m i (w.heap.size - a.heap.size) w := by
  have hs := h.size
  have e2 : ∀ a b : World, a.heap = b.heap → a.tape = b.tape → a.drawn = b.drawn → a.os = b.os → a.output = b.output → a = b := by
    intro a b; cases a; cases b; simp_all
  refine e2 _ _ ?_ h.tape rfl h.os h.output
  apply Array.ext_getElem?
  intro q
  by_cases hq : q < w.heap.size
  · simp only [ov, Array.getElem?_ofFn]
    rw [dif_pos (by omega), Array.getElem?_eq_getElem hq]
    congr 1
    split
    · rename_i hc
      have := h.block q hc.1 hc.2
      rw [Array.getElem?_eq_getElem hq, Array.getElem?_eq_getElem hc.1] at this
      exact Option.some.inj this
    · rfl
  · rw [Array.getElem?_eq_none (by omega), Array.getElem?_eq_none (by simp [ov]; omega)]
theorem Kp.ex (h : Kp own m i a w) : ∃ k x, w = ov a own m i k x ∧ w.heap.size = a.heap.size + k := ⟨_, _, h.is, by have := h.size; omega⟩
theorem Kp.trans {w' : World} (h : Kp own m i a w) (h2 : w'.os = w.os) (h3 : w'.tape = w.tape) (h4 : w'.output = w.output) (h5 : w.heap.size ≤ w'.heap.size) (h6 : ∀ k, k < a.heap.size → own k / m ≠ i → w'.heap[k]? = w.heap[k]?) : Kp own m i a w' :=
  ⟨h2.trans h.os, h3.trans h.tape, h4.trans h.output, Nat.le_trans h.size h5, fun k hk hn => (h6 k hk hn).trans (h.block k hk hn)⟩
theorem Kp.alloc (h : Kp own m i a w) (o : Obj) : Kp own m i a (w.alloc o) := h.trans rfl rfl rfl (by simp) fun k hk _ => Below.heap_alloc _ _ _ (by have := h.size; omega)
theorem Kp.drew (h : Kp own m i a w) : Kp own m i a w.drew := h.trans rfl rfl rfl (Nat.le_refl _) fun _ _ _ => rfl
theorem Kp.drewN (h : Kp own m i a w) (n : Nat) : Kp own m i a (w.drewN n) := h.trans rfl rfl rfl (Nat.le_refl _) fun _ _ _ => rfl
theorem Kp.ext (h : Kp own m i a w) (l : List Obj) (d : Nat) : Kp own m i a (ext w l d) := h.trans rfl rfl rfl (by simp [Proofs.YtfeeibealokhfaaDoor.ext]) fun k hk _ => ext_heap_lt _ _ _ _ (by have := h.size; omega)
theorem Kp.setCell (h : Kp own m i a w) {p : Addr} (hp : p.block < a.heap.size → own p.block / m = i) (v : Value) : Kp own m i a (w.setCell p v) :=
  h.trans rfl rfl rfl (by simp [World.setCell]) fun k hk hn => Below.heap_setCell _ _ _ _ (fun e => hn (by subst e; exact hp hk))
theorem Kp.setRow (h : Kp own m i a w) {g : Nat} (hp : g < a.heap.size → own g / m = i) (cs : Array Value) : Kp own m i a (w.setRow g cs) :=
  h.trans rfl rfl rfl (by simp) fun k hk hn => setRow_other _ _ _ _ (fun e => hn (by subst e; exact hp hk))
theorem Kp.ov (h : Kp own m i a w) (own' : Nat → Nat) (m' i' k : Nat) (x : World) (hp : ∀ n, n < a.heap.size → own' n / m' = i' → own n / m = i) : Kp own m i a (ov w own' m' i' k x) :=
  h.trans rfl rfl rfl (by rw [ov_size]; omega) fun n hn h' => ov_heap _ _ _ _ _ _ _ (by have := h.size; omega) (fun e => h' (hp n hn e))
theorem Kp.of_below (h : Below a.heap.size a w) : Kp own m i a w := ⟨h.os, h.tape, h.output, h.size, fun k hk _ => h.block k hk⟩
theorem Kp.below {B : Nat} (h : Kp own m i a w) (hB : ∀ n, n < B → own n / m ≠ i) (hs : B ≤ a.heap.size) : Below B a w := ⟨h.os, h.tape, h.output, h.size, fun k hk => h.block k (by omega) (hB k hk)⟩
theorem Kp.far {q : Nat → Prop} (h : Kp own m i a w) : a.heap.size ≤ w.heap.size ∧ ∀ n, n < a.heap.size → q n → own n / m ≠ i → w.heap[n]? = a.heap[n]? := ⟨h.size, fun n hn _ h' => h.block n hn h'⟩
theorem Kp.other (h : Kp own m i a w) {k : Nat} (hk : k < a.heap.size) (hn : own k / m ≠ i) : w.heap[k]? = a.heap[k]? := h.block k hk hn
end
theorem ov_kp (w : World) (own : Nat → Nat) (m i k : Nat) (x : World) : Kp own m i w (ov w own m i k x) := (Kp.refl own m i w).ov own m i k x (fun _ _ h => h)
theorem Below.ov {B : Nat} {a w : World} (h : Below B a w) (own : Nat → Nat) (m i k : Nat) (x : World) (hB : ∀ n, n < B → own n / m ≠ i) (hs : B ≤ w.heap.size) : Below B a (ov w own m i k x) :=
  h.trans ((ov_kp w own m i k x).below hB hs)

theorem rowIs_ext {w : World} {b n : Nat} {t : TypeId} {f : Nat → Value} (h : w.rowIs b t n f) (l : List Obj) (d : Nat) : (ext w l d).rowIs b t n f := h.of_block (ext_heap_lt _ _ _ _ h.lt)
theorem rowIs_drewN {w : World} {b n : Nat} {t : TypeId} {f : Nat → Value} (h : w.rowIs b t n f) (d : Nat) : (w.drewN d).rowIs b t n f := h
theorem rowIs_ov {w : World} {b n : Nat} {t : TypeId} {f : Nat → Value} (h : w.rowIs b t n f) (own : Nat → Nat) (m i k : Nat) (x : World) (hb : own b / m ≠ i) : (ov w own m i k x).rowIs b t n f := h.of_block (ov_heap _ _ _ _ _ _ _ h.lt hb)

/-- The cells of a list of things, N cells each. -/
def flat {α : Type} (f : α → List Value) (l : List α) : List Value := l.flatMap f
section
variable {α : Type} {f : α → List Value} {N : Nat}
theorem flat_nil : flat f [] = [] := rfl
theorem flat_cons (a : α) (l : List α) : flat f (a :: l) = f a ++ flat f l := by simp [flat]
theorem flat_append (l m : List α) : flat f (l ++ m) = flat f l ++ flat f m := by simp [flat]
theorem flat_one (a : α) : flat f [a] = f a := by simp [flat]
theorem flat_length (hf : ∀ a, (f a).length = N) (l : List α) : (flat f l).length = l.length * N := by
  induction l with
  | nil => simp [flat]
  | cons a l ih => rw [flat_cons, List.length_append, ih, hf, List.length_cons, Nat.add_mul, Nat.one_mul, Nat.add_comm]
theorem flat_drop (hf : ∀ a, (f a).length = N) (l : List α) : ∀ k, (flat f l).drop (k * N) = flat f (l.drop k) := by
  induction l with
  | nil => intro k; simp [flat]
  | cons a l ih =>
    intro k
    cases k with
    | zero => simp
    | succ k =>
      have e : (k + 1) * N = (f a).length + k * N := by rw [hf, Nat.add_mul, Nat.one_mul, Nat.add_comm]
      rw [e, flat_cons, ← List.drop_drop, List.drop_left]
      exact ih k
theorem flat_take (hf : ∀ a, (f a).length = N) (l : List α) : ∀ k, (flat f l).take (k * N) = flat f (l.take k) := by
  induction l with
  | nil => intro k; simp [flat]
  | cons a l ih =>
    intro k
    cases k with
    | zero => simp [flat]
    | succ k =>
      have e : (k + 1) * N = (f a).length + k * N := by rw [hf, Nat.add_mul, Nat.one_mul, Nat.add_comm]
      rw [e, flat_cons, List.take_length_add_append, ih k, List.take_succ_cons, flat_cons]
theorem flat_get (hf : ∀ a, (f a).length = N) (l : List α) (k : Nat) (h : k < l.length) (j : Nat) (hj : j < N) : (flat f l)[k * N + j]? = (f l[k])[j]? := by
  have e := flat_drop hf l k
  rw [List.drop_eq_getElem_cons h, flat_cons] at e
  have : ((flat f l).drop (k * N))[j]? = (f l[k] ++ flat f (l.drop (k + 1)))[j]? := by rw [e]
  rw [List.getElem?_drop] at this
  rw [this, List.getElem?_append_left (by rw [hf]; exact hj)]
end

/-- A row whose block bears the label j. -/
def OwnRow (own : Nat → Nat) (j : Nat) (w : World) (e : TypeId) (size : Nat) (v : Value) (n : Nat) (xs : List Value) : Prop := RowAt w e size v n xs ∧ ∀ g, v.ownBlock = some g → own g = j
section
variable {own : Nat → Nat} {j : Nat} {w : World} {e : TypeId} {size : Nat} {v : Value} {n : Nat} {xs : List Value}
theorem OwnRow.nil (own : Nat → Nat) (j : Nat) (w : World) (e : TypeId) (size : Nat) : OwnRow own j w e size (.slice none 0 0) 0 [] := ⟨RowAt.nil w e size, fun g h => by cases h⟩
theorem OwnRow.kp {own' : Nat → Nat} {w' : World} {m i : Nat} (h : OwnRow own j w e size v n xs) (hk : Kp own m i w w') (hj : j / m ≠ i) (ho : ∀ g, g < w.heap.size → own g = j → own' g = j) : OwnRow own' j w' e size v n xs :=
  ⟨h.1.of_block fun g hg => hk.block g (h.1.lt g hg) (by rw [h.2 g hg]; exact hj), fun g hg => ho g (h.1.lt g hg) (h.2 g hg)⟩
theorem OwnRow.ex {own' : Nat → Nat} {w' : World} (h : OwnRow own j w e size v n xs) (hk : ∀ g, g < w.heap.size → own g = j → w'.heap[g]? = w.heap[g]?) (ho : ∀ g, g < w.heap.size → own g = j → own' g = j) : OwnRow own' j w' e size v n xs :=
  ⟨h.1.of_block fun g hg => hk g (h.1.lt g hg) (h.2 g hg), fun g hg => ho g (h.1.lt g hg) (h.2 g hg)⟩
theorem OwnRow.ex' {w' : World} (h : OwnRow own j w e size v n xs) (hk : ∀ g, v.ownBlock = some g → w'.heap[g]? = w.heap[g]?) : OwnRow own j w' e size v n xs := ⟨h.1.of_block hk, h.2⟩
theorem OwnRow.alloc (h : OwnRow own j w e size v n xs) (o : Obj) : OwnRow own j (w.alloc o) e size v n xs := h.ex' fun g hg => Below.heap_alloc _ _ _ (h.1.lt g hg)
theorem OwnRow.drew (h : OwnRow own j w e size v n xs) : OwnRow own j w.drew e size v n xs := h
theorem OwnRow.drewN (h : OwnRow own j w e size v n xs) (d : Nat) : OwnRow own j (w.drewN d) e size v n xs := h
theorem OwnRow.exts (h : OwnRow own j w e size v n xs) (l : List Obj) (d : Nat) : OwnRow own j (ext w l d) e size v n xs := h.ex' fun g hg => ext_heap_lt _ _ _ _ (h.1.lt g hg)
theorem OwnRow.setCell (h : OwnRow own j w e size v n xs) {p : Addr} (hp : own p.block ≠ j) (x : Value) : OwnRow own j (w.setCell p x) e size v n xs := h.ex' fun g hg => Below.heap_setCell _ _ _ _ (fun e => hp (by rw [← e]; exact h.2 g hg))
theorem OwnRow.form (h : OwnRow own j w e size v n xs) : ∃ ao cap, v = .slice ao n cap ∧ n ≤ cap ∧ cap ≤ maxLen ∧ (ao = none → cap = 0) ∧ ∀ a, ao = some a → ∃ g off, a = ⟨g, off, none⟩ ∧ own g = j ∧ g < w.heap.size := by
  obtain ⟨⟨h1, ⟨rfl, rfl⟩ | ⟨g, off, cap, cur, rfl, ⟨fr, hg, hf⟩, hr⟩⟩, h2⟩ := h
  · exact ⟨none, 0, rfl, Nat.le_refl _, Nat.zero_le _, fun _ => rfl, fun a h => by cases h⟩
  · exact ⟨_, cap, rfl, hr.1, hr.2.1, (fun h => by cases h), fun a ha => ⟨g, off, (by cases ha; rfl), h2 g rfl, (Array.getElem?_eq_some_iff.1 hg).1⟩⟩
theorem OwnRow.opened (h : OwnRow own j w e size v n xs) (hn : 0 < n) : ∃ g off cap, v = .slice (some ⟨g, off, none⟩) n cap ∧ n ≤ cap ∧ own g = j ∧ g < w.heap.size ∧ ∀ q, q < n * size → w.cell? ⟨g, off + q, none⟩ = xs[q]? := by
  obtain ⟨hr, h2⟩ := h
  have hr' := hr
  obtain ⟨h1, ⟨rfl, rfl⟩ | ⟨g, off, cap, cur, rfl, ⟨fr, hg, hf⟩, hc, _⟩⟩ := hr
  · omega
  · exact ⟨g, off, cap, rfl, hc, h2 g rfl, (Array.getElem?_eq_some_iff.1 hg).1, fun q hq => hr'.cell hq⟩
theorem OwnRow.len (h : OwnRow own j w e size v n xs) : xs.length = n * size := h.1.1

theorem heap_new {w : World} {o : Obj} {n : Nat} (h : n = w.heap.size) : (w.alloc o).heap[n]? = some o := by subst h; exact heap_alloc_new w o
section
variable {P : Program}
theorem addr_add (g off j : Nat) : (⟨g, off, none⟩ : Addr).add j = ⟨g, off + j, none⟩ := by unfold Addr.add; by_cases h0 : j = 0 <;> simp [h0]
/-- What a block that is known whole yields to an append. -/
theorem Src.block {w : World} {size g : Nat} {tx e' t : TypeId} {fr : Nat × Nat} {cs : Array Value} (hk : P.underlying tx = some (.slice e')) (n c : Nat) (hb : w.heap[g]? = some (.cells cs t fr)) (hl : cs.toList.length = n * size) (h1 : ∀ u ∈ cs.toList, u.oneCell' = true) :
    Src P size tx (.slice (some ⟨g, 0, none⟩) n c) n cs.toList w :=
  Src.ofSlice w hk _ n c _ hl (fun j u hu => by
    rw [addr_add, Nat.zero_add]
    rw [Array.getElem?_toList] at hu
    simpa [World.cell?, hb] using hu) h1
/-- What a row yields to an append. -/
theorem Src.row {w : World} {size : Nat} {tx e' e : TypeId} {v : Value} {n : Nat} {xs : List Value} (hk : P.underlying tx = some (.slice e')) (h : RowAt w e size v n xs) (h1 : ∀ u ∈ xs, u.oneCell' = true) : Src P size tx v n xs w := by
  obtain ⟨hl, ⟨rfl, rfl⟩ | ⟨g, off, cap, cur, rfl, ⟨fr, hg, hf⟩, hr⟩⟩ := h
  · obtain rfl : xs = [] := List.eq_nil_of_length_eq_zero (by simpa using hl)
    exact Src.ofNil w hk 0
  · refine Src.ofSlice w hk _ n cap _ hl (fun j u hu => ?_) h1
    rw [addr_add]
    rw [← hr.2.2.2, List.getElem?_take] at hu
    split at hu
    · rw [List.getElem?_drop, Array.getElem?_toList] at hu
      simpa [World.cell?, hg] using hu
    · cases hu
theorem run_append_lab (t tx ty e : TypeId) (i : TypeInfo) (z : Value) (size bytes : Nat) (ht : P.underlying t = some (.slice e)) (hi : P.info? e = some i) (hz : i.zero = some z)
    (hsize : i.size = size) (hby : i.bytes = bytes) (hzs : z.cells.size = size)
    {w : World} {v x : Value} {n m : Nat} {xs news : List Value} (h : OwnRow own j w e size v n xs) (hs : Src P size tx x m news w)
    (h63 : n + m ≤ maxLen) (hbytes : (n + m) * bytes ≤ 140737488355328) :
    ∃ v' k y, (Builtin.append_ #[t, tx] ty #[v, x]).run P w = .ok v' (ov w own 1 j k y) ∧ OwnRow (lab own w.heap.size k j) j (ov w own 1 j k y) e size v' (n + m) (xs ++ news) ∧ (v' = .slice none 0 0 ↔ v = .slice none 0 0 ∧ m = 0) := by
  obtain ⟨v', w', h1, h2, h3, h4, h5⟩ := run_append_row (P := P) t tx ty e i z size bytes ht hi hz hsize hby hzs h.1 hs h63 hbytes
  have hk : Kp own 1 j w w' := ⟨h3.os, h3.tape, h3.output, h3.size, fun k hk hn => h3.block k hk (fun e => hn (by rw [Nat.div_one]; exact h.2 k e.symm))⟩
  refine ⟨v', _, w', hk.is ▸ h1, hk.is ▸ ⟨h2, fun g hg => ?_⟩, h5⟩
  have hlt := h2.lt g hg
  unfold lab
  rcases h4 with h4 | h4
  · rw [hg] at h4
    have := h.2 g h4.symm
    have hl := h.1.lt g h4.symm
    rw [if_pos hl]
    exact this
  · rw [hg] at h4
    obtain rfl := Option.some.inj h4
    rw [if_neg (by omega), if_pos (by omega)]

theorem wpList_append_lab {ops : Array Oper} {rest : List Oper} {o : Oper} {a : Act} {w : World} {Q : Exit → Act → World → Prop} (hgd : o.guard = none) (s x : Operand) (t tx : TypeId)
    (ho : o.op = .call { callee := .builtin .append, args := #[s, x], argTypes := #[t, tx] })
    (e : TypeId) (i : TypeInfo) (z : Value) (size bytes : Nat) (ht : P.underlying t = some (.slice e)) (hi : P.info? e = some i) (hz : i.zero = some z)
    (hsize : i.size = size) (hby : i.bytes = bytes) (hzs : z.cells.size = size)
    (v y : Value) (n m : Nat) (xs news : List Value) (hv : a.eval s = v) (hy : a.eval x = y) (h : OwnRow own j w e size v n xs) (hs : Src P size tx y m news w)
    (h63 : n + m ≤ maxLen) (hbytes : (n + m) * bytes ≤ 140737488355328)
    (hK : ∀ v' k u, OwnRow (lab own w.heap.size k j) j (ov w own 1 j k u) e size v' (n + m) (xs ++ news) → (v' = .slice none 0 0 ↔ v = .slice none 0 0 ∧ m = 0) → wpList P ops Q rest (a.put o.dst v') (ov w own 1 j k u)) :
    wpList P ops Q (o :: rest) a w := by
  obtain ⟨v', k, u, hr, h2, h3⟩ := run_append_lab (P := P) t tx o.type e i z size bytes ht hi hz hsize hby hzs h hs h63 hbytes
  refine wpList_plain hgd fun _ hK' => ?_
  unfold Oper.wp execOp
  simp only [ho, resolve, invoke, builtin, Sem.run_bind, Sem.run_pure, Result.andThen_ok, List.map_toArray, List.map_cons, List.map_nil, hv, hy, hr]
  exact hK' _ _ (hK v' k u h2 h3)
theorem step_append_lab {ops : Array Oper} {o : Oper} {a : Act} {w : World} {K : Act → World → Prop} {Q : Exit → Act → World → Prop} {E : Prop} (hgd : o.guard = none) (s x : Operand) (t tx : TypeId)
    (ho : o.op = .call { callee := .builtin .append, args := #[s, x], argTypes := #[t, tx] })
    (e : TypeId) (i : TypeInfo) (z : Value) (size bytes : Nat) (ht : P.underlying t = some (.slice e)) (hi : P.info? e = some i) (hz : i.zero = some z)
    (hsize : i.size = size) (hby : i.bytes = bytes) (hzs : z.cells.size = size)
    (v y : Value) (n m : Nat) (xs news : List Value) (hv : a.eval s = v) (hy : a.eval x = y) (h : OwnRow own j w e size v n xs) (hs : Src P size tx y m news w)
    (h63 : n + m ≤ maxLen) (hbytes : (n + m) * bytes ≤ 140737488355328)
    (hK : ∀ v' k u, OwnRow (lab own w.heap.size k j) j (ov w own 1 j k u) e size v' (n + m) (xs ++ news) → (v' = .slice none 0 0 ↔ v = .slice none 0 0 ∧ m = 0) → K (a.put o.dst v') (ov w own 1 j k u)) :
    if Region.wanted o (yielded ops a.tmps) = true then Oper.wp P o a w K Q else E := by
  have hw : Region.wanted o (yielded ops a.tmps) = true := by simp [Region.wanted, hgd]
  rw [if_pos hw]
  obtain ⟨v', k, u, hr, h2, h3⟩ := run_append_lab (P := P) t tx o.type e i z size bytes ht hi hz hsize hby hzs h hs h63 hbytes
  unfold Oper.wp execOp
  simp only [ho, resolve, invoke, builtin, Sem.run_bind, Sem.run_pure, Result.andThen_ok, List.map_toArray, List.map_cons, List.map_nil, hv, hy, hr]
  exact hK v' k u h2 h3
end
end
end Go.Proofs.YtfeeibealokhfaaDoor
