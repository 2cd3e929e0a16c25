import Derived.WalkKit
import Derived.Lib.Hide
import Derived.BigQuiet
import Derived.Deep.QuietTactic
import Derived.RegionTactic
import Derived.Handy
import Derived.Deep.AppendSrc
import Derived.Laws.AppendOwn
import Derived.Deep.OwnRows
/- Plain facts on worlds: a world with new blocks laid behind it and some draws made ('ext'), as the walk reads it. No condition. -/
set_option linter.unusedSimpArgs false
set_option linter.unusedVariables false
namespace Go.Proofs.YtmbboflakfokhaaDoor
open Go.RowKit

theorem ret_bool {a b : Bool} (h : a = b) : Ending.returned (.bool a) = .returned (.bool b) := by rw [h]
theorem ret_int {k : IntKind} {a b : Int} (h : a = b) : Ending.returned (.int k a) = .returned (.int k b) := by rw [h]

/-- w with the blocks l laid behind it and the count of draws d. -/
def ext (w : World) (l : List Obj) (d : Nat) : World := { w with heap := w.heap ++ l.toArray, drawn := d }
/-- What is asked of a block that ext laid: not looked into. -/
def farCell (w : World) (a : Addr) : Option Value := w.cell? a
def farFrozen (w : World) (a : Addr) : Bool := w.frozen? a
def farSet (w : World) (a : Addr) (v : Value) : World := w.setCell a v

section
variable (w : World) (l : List Obj) (d n i : Nat)

/-- A choice by block number; simp reckons the size first, and only then looks at a branch. -/
def pickEq {α : Type} (n m : Nat) (a b : α) : α := if n = m then a else b
def pickLt {α : Type} (n m : Nat) (a b : α) : α := if n < m then a else b
@[congr] theorem pickEq_congr {α : Type} {n m m' : Nat} (a b : α) (h : m = m') : pickEq n m a b = pickEq n m' a b := by rw [h]
@[congr] theorem pickLt_congr {α : Type} {n m m' : Nat} (a b : α) (h : m = m') : pickLt n m a b = pickLt n m' a b := by rw [h]
@[go_sem] theorem pickEq_eq {α : Type} (n m : Nat) (a b : α) : pickEq n m a b = if n = m then a else b := rfl
@[go_sem] theorem pickLt_eq {α : Type} (n m : Nat) (a b : α) : pickLt n m a b = if n < m then a else b := rfl

@[go_sem] theorem ext_size : (ext w l d).heap.size = w.heap.size + l.length := by simp [ext]
theorem ext_heap_lt (k : Nat) (h : k < w.heap.size) : (ext w l d).heap[k]? = w.heap[k]? := by
  simp only [ext]
  rw [Array.getElem?_append_left h]
@[go_sem] theorem ext_cell : (ext w l d).cell? ⟨n, i, none⟩ = pickLt n w.heap.size (w.cell? ⟨n, i, none⟩) (farCell (ext w l d) ⟨n, i, none⟩) := by
  unfold pickLt
  split
  · rename_i h; exact World.cell?_of_block (w := w) (ext_heap_lt w l d n h)
  · rfl
@[go_sem] theorem ext_frozen : (ext w l d).frozen? ⟨n, i, none⟩ = pickLt n w.heap.size (w.frozen? ⟨n, i, none⟩) (farFrozen (ext w l d) ⟨n, i, none⟩) := by
  unfold pickLt
  split
  · rename_i h; exact World.frozen?_of_block (w := w) (ext_heap_lt w l d n h)
  · rfl
theorem ext_set_lt (v : Value) (h : n < w.heap.size) : (ext w l d).setCell ⟨n, i, none⟩ v = ext (w.setCell ⟨n, i, none⟩ v) l d := by
  simp only [ext, World.setCell]
  congr 1
  apply Array.ext_getElem?
  intro k
  simp only [Array.getElem?_modify]
  by_cases hk : k < w.heap.size
  · rw [Array.getElem?_append_left hk, Array.getElem?_append_left (by simpa using hk), Array.getElem?_modify]
  · rw [Array.getElem?_append_right (by omega), Array.getElem?_append_right (by simp; omega)]
    rw [if_neg (by omega)]
    simp
@[go_sem] theorem ext_set (v : Value) : (ext w l d).setCell ⟨n, i, none⟩ v = pickLt n w.heap.size (ext (w.setCell ⟨n, i, none⟩ v) l d) (farSet (ext w l d) ⟨n, i, none⟩ v) := by
  unfold pickLt
  split
  · rename_i h; exact ext_set_lt w l d n i v h
  · rfl
@[go_sem] theorem ext_drew : (ext w l d).drew = ext w l (d + 1) := rfl
@[go_sem] theorem ext_drawn : (ext w l d).drawn = d := rfl
@[go_sem] theorem ext_tape : (ext w l d).tape = w.tape := rfl
@[go_sem] theorem ext_ext (l' : List Obj) (d' : Nat) : ext (ext w l d) l' d' = ext w (l ++ l') d' := by
  simp [ext]

@[go_sem high] theorem alloc_cell (c : Array Value) (t : TypeId) : (w.alloc (.cells c t)).cell? ⟨n, i, none⟩ = pickEq n w.heap.size (c[i]?) (w.cell? ⟨n, i, none⟩) := by
  unfold pickEq
  split
  · rename_i h; exact World.cell?_alloc_at c t n i h
  · rename_i h; exact World.cell?_alloc_old w _ ⟨n, i, none⟩ h
@[go_sem high] theorem alloc_frozen (c : Array Value) (t : TypeId) : (w.alloc (.cells c t)).frozen? ⟨n, i, none⟩ = pickEq n w.heap.size false (w.frozen? ⟨n, i, none⟩) := by
  unfold pickEq
  split
  · rename_i h; exact World.frozen?_alloc_at c t n i h
  · rename_i h; exact World.frozen?_alloc_old w _ ⟨n, i, none⟩ h
@[go_sem high] theorem alloc_set (c : Array Value) (t : TypeId) (v : Value) : (w.alloc (.cells c t)).setCell ⟨n, i, none⟩ v =
    pickEq n w.heap.size (w.alloc (.cells (c.setIfInBounds i v) t)) (pickLt n w.heap.size ((w.setCell ⟨n, i, none⟩ v).alloc (.cells c t)) (farSet (w.alloc (.cells c t)) ⟨n, i, none⟩ v)) := by
  unfold pickEq pickLt
  split
  · rename_i h; exact World.setCell_alloc_at c t n i v h
  · split
    · rename_i h; exact World.setCell_alloc_past _ n i v h
    · rfl
end

/-- What a call leaves that only makes new blocks and draws. -/
theorem ext_of_below {w w' : World} (h : Below w.heap.size w w') : ∃ l d, w' = ext w l d := by
  refine ⟨w'.heap.toList.drop w.heap.size, w'.drawn, ?_⟩
  obtain ⟨h1, h2, h3, h4, h5⟩ := h
  cases w'
  simp only [ext] at *
  subst h1 h2 h3
  congr 1
  apply Array.ext_getElem?
  intro k
  by_cases hk : k < w.heap.size
  · rw [Array.getElem?_append_left hk]; exact h5 k hk
  · rw [Array.getElem?_append_right (by omega)]
    simp
    congr 1
    omega

/-- Only new blocks, and draws. -/
def Ex (w w' : World) : Prop := ∃ l d, w' = ext w l d
theorem Ex.of {w w' : World} (h : Below w.heap.size w w') : Ex w w' := ext_of_below h
theorem Ex.below {w w' : World} (h : Ex w w') : Below w.heap.size w w' := by
  obtain ⟨l, d, rfl⟩ := h
  exact ⟨rfl, rfl, rfl, by simp [ext], fun k hk => ext_heap_lt _ _ _ k hk⟩

theorem Ex.refl (w : World) : Ex w w := Ex.of (Below.refl _ _)
theorem Ex.alloc {w w' : World} (h : Ex w w') (o : Obj) : Ex w (w'.alloc o) := Ex.of (Below.alloc h.below h.below.size o)
theorem Ex.drew {w w' : World} (h : Ex w w') : Ex w w'.drew := Ex.of h.below.drew
theorem Ex.trans {w w' w'' : World} (h : Ex w w') (k : Ex w' w'') : Ex w w'' := Ex.of (h.below.trans (k.below.mono h.below.size))
theorem Ex.ext {w w' : World} (h : Ex w w') (l : List Obj) (d : Nat) : Ex w (ext w' l d) := h.trans ⟨l, d, rfl⟩

theorem Below.drewN {B : Nat} {a w : World} (h : Below B a w) (n : Nat) : Below B a (w.drewN n) := h.trans ⟨rfl, rfl, rfl, Nat.le_refl _, fun _ _ => rfl⟩
theorem Ex.drewN {w w' : World} (h : Ex w w') (n : Nat) : Ex w (w'.drewN n) := Ex.of (Below.drewN h.below n)
@[go_sem] theorem ext_drewN (w : World) (l : List Obj) (d n : Nat) : (ext w l d).drewN n = ext w l (d + n) := rfl

theorem Below.ext {B : Nat} {a w : World} (h : Below B a w) (hB : B ≤ w.heap.size) (l : List Obj) (d : Nat) : Below B a (ext w l d) :=
  h.trans ⟨rfl, rfl, rfl, by simp [Proofs.YtmbboflakfokhaaDoor.ext], fun k hk => ext_heap_lt _ _ _ k (by omega)⟩
end Go.Proofs.YtmbboflakfokhaaDoor

/- Slices that an object holds: a stretch of a block of its own. What append makes of them. No condition. -/
set_option linter.unusedSimpArgs false
set_option linter.unusedVariables false
namespace Go.Proofs.YtmbboflakfokhaaDoor
open Go.RowKit

/-- No cell of a block is frozen (a mark may stand behind its last cell). -/
def Unmarked (cur : Array Value) (fr : Nat × Nat) : Prop := fr.2 = 0 ∨ cur.size ≤ fr.1
theorem Unmarked.plain (cur : Array Value) : Unmarked cur (0, 0) := .inl rfl
theorem Unmarked.frozen {w : World} {g o : Nat} {cur : Array Value} {t : TypeId} {fr : Nat × Nat} (h : Unmarked cur fr) (hg : w.heap[g]? = some (.cells cur t fr)) (hi : o < cur.size) : w.frozen? ⟨g, o, none⟩ = false := by
  obtain ⟨lo, hi'⟩ := fr
  simp only [World.frozen?, hg, Bool.and_eq_false_iff, decide_eq_false_iff_not]
  rcases h with h | h <;> simp only at h
  · right; omega
  · left; omega
theorem run_storeCells_fr (P : Program) (g o : Nat) (t : TypeId) (fz : Nat × Nat) : ∀ (vs : List Value) (i : Nat) (cur : Array Value) (w : World), w.heap[g]? = some (.cells cur t fz) → Unmarked cur fz → o + i + vs.length ≤ cur.size → (∀ v ∈ vs, v.oneCell' = true) →
    (storeCells ⟨g, o, none⟩ vs i).run P w = .ok () (w.setRow g (cur.toList.take (o + i) ++ vs ++ cur.toList.drop (o + i + vs.length)).toArray)
  | [], i, cur, w, hg, _, _, _ => by
    simp only [storeCells, List.append_nil, List.length_nil, Nat.add_zero, List.take_append_drop, Array.toArray_toList]
    rw [setRow_self w g cur t fz hg]
    rfl
  | v :: rest, i, cur, w, hg, hfz, hl, h1 => by
    have hi : o + i < cur.size := by simp at hl; omega
    have hadd : (⟨g, o, none⟩ : Addr).add i = ⟨g, o + i, none⟩ := by unfold Addr.add; split <;> simp_all
    have hcell : w.cell? ⟨g, o + i, none⟩ = some cur[o + i] := by simp [World.cell?, hg, hi]
    have hfro : w.frozen? ⟨g, o + i, none⟩ = false := hfz.frozen hg hi
    have hst : (store ((⟨g, o, none⟩ : Addr).add i) v).run P w = .ok () (w.setRow g (cur.setIfInBounds (o + i) v)) := by
      rw [hadd, run_store P w _ v _ (h1 v (by simp)), hcell]
      simp [hfro, setCell_eq_setRow w g (o + i) cur t fz v hg]
    have ih := run_storeCells_fr P g o t fz rest (i + 1) (cur.setIfInBounds (o + i) v) (w.setRow g (cur.setIfInBounds (o + i) v)) (setRow_heap w g cur _ t _ hg) (by unfold Unmarked at *; simpa using hfz) (by simp at hl ⊢; omega) (fun x hx => h1 x (by simp [hx]))
    simp only [storeCells, Sem.run_bind, hst, Result.andThen_ok, ih, setRow_setRow]
    congr 3
    have e := list_seg_step cur.toList (o + i) v rest (by simp at hl ⊢; omega)
    simpa [Array.toList_setIfInBounds, Nat.add_assoc] using e
/-- What a slice of n elements of size cells each holds: xs, in a block that is not frozen, with room up to its capacity. -/
def RowAt (w : World) (e : TypeId) (size : Nat) (v : Value) (n : Nat) (xs : List Value) : Prop :=
  xs.length = n * size ∧
  ((v = .slice none 0 0 ∧ n = 0) ∨
   ∃ g off cap cur, v = .slice (some ⟨g, off, none⟩) n cap ∧ (∃ fr, w.heap[g]? = some (.cells cur e fr) ∧ Unmarked cur fr) ∧ n ≤ cap ∧ cap ≤ maxLen ∧ off + cap * size ≤ cur.size ∧ (cur.toList.drop off).take (n * size) = xs)

theorem RowAt.nil (w : World) (e : TypeId) (size : Nat) : RowAt w e size (.slice none 0 0) 0 [] := ⟨by simp, .inl ⟨rfl, rfl⟩⟩
theorem RowAt.of_block {w w' : World} {e : TypeId} {size : Nat} {v : Value} {n : Nat} {xs : List Value} (h : RowAt w e size v n xs) (hb : ∀ g, v.ownBlock = some g → w'.heap[g]? = w.heap[g]?) : RowAt w' e size v n xs := by
  obtain ⟨h1, h2 | ⟨g, off, cap, cur, rfl, ⟨fr, hg, hf⟩, hr⟩⟩ := h
  · exact ⟨h1, .inl h2⟩
  · exact ⟨h1, .inr ⟨g, off, cap, cur, rfl, ⟨fr, (hb g rfl).trans hg, hf⟩, hr⟩⟩
theorem RowAt.lt {w : World} {e : TypeId} {size : Nat} {v : Value} {n : Nat} {xs : List Value} (h : RowAt w e size v n xs) : ∀ g, v.ownBlock = some g → g < w.heap.size := by
  obtain ⟨h1, ⟨rfl, _⟩ | ⟨g, off, cap, cur, rfl, ⟨fr, hg, hf⟩, hr⟩⟩ := h
  · intro g hg; cases hg
  · intro g' hg'
    cases hg'
    exact (Array.getElem?_eq_some_iff.1 hg).1
/-- Only block row has turned, and there may be new ones. -/
theorem grownBy_refl (w : World) (row : Option Nat) : w.grownBy w row := ⟨rfl, rfl, rfl, Nat.le_refl _, fun _ _ _ => rfl⟩

theorem run_append_row {P : Program} (t tx ty e : TypeId) (i : TypeInfo) (z : Value) (size bytes : Nat) (ht : P.underlying t = some (.slice e)) (hi : P.info? e = some i) (hz : i.zero = some z)
    (hsize : i.size = size) (hby : i.bytes = bytes) (hzs : z.cells.size = size)
    {w : World} {v x : Value} {n m : Nat} {xs news : List Value} (h : RowAt w e size v n xs) (hs : Src P size tx x m news w)
    (h63 : n + m ≤ maxLen) (hbytes : (n + m) * bytes ≤ 140737488355328) :
    ∃ v' w', (Builtin.append_ #[t, tx] ty #[v, x]).run P w = .ok v' w' ∧ RowAt w' e size v' (n + m) (xs ++ news) ∧ w.grownBy w' v.ownBlock ∧
      (v'.ownBlock = v.ownBlock ∨ v'.ownBlock = some w.heap.size) ∧ (v' = .slice none 0 0 ↔ v = .slice none 0 0 ∧ m = 0) := by
  subst hsize
  subst hby
  have hsmall : n + m ≤ 9223372036854775807 := by simp only [maxLen] at h63; omega
  have hlen : (xs ++ news).length = (n + m) * i.size := by rw [List.length_append, h.1, hs.newsLen, Nat.add_mul]
  have grown : ∀ (old : Nat), old < n + m → ∀ (row : Option Nat),
      RowAt (w.drew.alloc (.cells ((xs ++ news).toArray ++ Builtin.zeroCells z.cells (grownCap w (n + m) old e - (n + m))) e)) e i.size
        (.slice (some ⟨w.heap.size, 0, none⟩) (n + m) (grownCap w (n + m) old e)) (n + m) (xs ++ news) ∧
      w.grownBy (w.drew.alloc (.cells ((xs ++ news).toArray ++ Builtin.zeroCells z.cells (grownCap w (n + m) old e - (n + m))) e)) row := by
    intro old ho row
    have hge := grownCap_ge w (n + m) old e
    have hcm : grownCap w (n + m) old e ≤ maxLen := grownCap_le_maxLen w (n + m) old e h63
    refine ⟨⟨hlen, .inr ⟨w.heap.size, 0, _, _, rfl, ⟨_, heap_alloc_new w.drew _, Unmarked.plain _⟩, hge, hcm, ?_, ?_⟩⟩, ⟨rfl, rfl, rfl, by simp, fun k hk _ => heap_alloc_old w.drew _ hk⟩⟩
    · simp only [Array.size_append, List.size_toArray, size_zeroCells, hzs, hlen, ← Nat.add_mul, Nat.zero_add]
      exact Nat.le_of_eq (by congr 1; omega)
    · simp only [Array.toList_append, List.drop_zero]
      rw [← hlen]
      exact List.take_left
  rcases h.2 with ⟨rfl, rfl⟩ | ⟨g, off, cap, cur, rfl, ⟨fr, hg, hfr⟩, hnc, hcm, hcs, htake⟩
  · have hx : xs = [] := List.eq_nil_of_length_eq_zero (by simpa using h.1)
    subst hx
    by_cases hm : m = 0
    · subst hm
      have hn : news = [] := List.eq_nil_of_length_eq_zero (by simpa using hs.newsLen)
      subst hn
      refine ⟨.slice none 0 0, w, ?_, RowAt.nil w e i.size, grownBy_refl w _, .inl rfl, by simp⟩
      rcases hs.kind with ⟨e', hk⟩ | hk <;> simp [Builtin.append_, run_underlying ht, run_underlying hk, sizeOf, typeInfo, hi, hs.len, hs.cells, storeCells]
    · have hr := run_append_grow_src (P := P) w t tx ty e i z ht hi hz none 0 0 [] (run_firstCells_none w.drew i.size 0 0 0) x m news hs (by omega) (by omega) (growslice_fits (by omega) hbytes)
      have hgr := grown 0 (by omega) (Value.ownBlock (.slice none 0 0))
      exact ⟨_, _, hr, hgr.1, hgr.2, .inr rfl, by simp [hm]⟩
  · have hadd : ∀ j, (⟨g, off, none⟩ : Addr).add j = ⟨g, off + j, none⟩ := fun j => by unfold Addr.add; by_cases h0 : j = 0 <;> simp [h0]
    have holds : ∀ j u, xs[j]? = some u → w.cell? ((⟨g, off, none⟩ : Addr).add j) = some u := by
      intro j u hj
      rw [← htake, List.getElem?_take] at hj
      split at hj
      · rw [hadd]
        rw [List.getElem?_drop, Array.getElem?_toList] at hj
        simpa [World.cell?, hg] using hj
      · cases hj
    by_cases hroom : n + m ≤ cap
    · have hfit : off + n * i.size + news.length ≤ cur.size := by
        have := Nat.mul_le_mul_right i.size hroom
        rw [Nat.add_mul] at this
        rw [hs.newsLen]; omega
      have hst := run_storeCells_fr P g (off + n * i.size) e fr news 0 cur w hg hfr (by simpa using hfit) hs.one
      simp only [Nat.add_zero] at hst
      have hr : (Builtin.append_ #[t, tx] ty #[.slice (some ⟨g, off, none⟩) n cap, x]).run P w = .ok (.slice (some ⟨g, off, none⟩) (n + m) cap) (w.setRow g (cur.toList.take (off + n * i.size) ++ news ++ cur.toList.drop (off + n * i.size + news.length)).toArray) := by
        rcases hs.kind with ⟨e', hk⟩ | hk <;> simp [Builtin.append_, run_underlying ht, run_underlying hk, sizeOf, typeInfo, hi, hs.len, hroom, hs.cells, hadd, hst]
      refine ⟨_, _, hr, ⟨hlen, .inr ⟨g, off, cap, _, rfl, ⟨_, setRow_heap w g cur _ e _ hg, hfr.imp id (fun h => Nat.le_trans (by simp only [List.size_toArray, List.length_append, List.length_take, List.length_drop, Array.length_toList]; omega) h)⟩, hroom, hcm, ?_, ?_⟩⟩, ⟨rfl, rfl, rfl, by simp, fun k _ hk => setRow_other w g k _ (fun e => hk (by simp [Value.ownBlock, e]))⟩, .inl rfl, by simp⟩
      · simp only [List.size_toArray, List.length_append, List.length_take, List.length_drop, Array.length_toList]
        omega
      · have e1 : cur.toList.take (off + n * i.size) = cur.toList.take off ++ xs := by
          rw [List.take_add, htake]
        have hoff : (cur.toList.take off).length = off := by rw [List.length_take, Array.length_toList]; omega
        simp only [e1, List.append_assoc]
        rw [List.drop_append_of_le_length (by omega), List.drop_of_length_le (by omega), List.nil_append, ← List.append_assoc, ← hlen]
        exact List.take_left
    · have hr := run_append_grow_src (P := P) w t tx ty e i z ht hi hz (some ⟨g, off, none⟩) n cap xs (run_firstCells_some w.drew i.size n ⟨g, off, none⟩ n cap xs h.1 (by simpa using holds)) x m news hs (by omega) (by omega) (growslice_fits (by omega) hbytes)
      have hgr := grown cap (by omega) (Value.ownBlock (.slice (some ⟨g, off, none⟩) n cap))
      exact ⟨_, _, hr, hgr.1, hgr.2, .inr rfl, by simp⟩

theorem RowAt.cell {w : World} {e : TypeId} {size : Nat} {g off cap n : Nat} {xs : List Value} (h : RowAt w e size (.slice (some ⟨g, off, none⟩) n cap) n xs) {j : Nat} (hj : j < n * size) : w.cell? ⟨g, off + j, none⟩ = xs[j]? := by
  obtain ⟨h1, ⟨h2, _⟩ | ⟨g', off', cap', cur, h2, ⟨fr, hg, hf⟩, hr, _, _, ht⟩⟩ := h
  · cases h2
  · cases h2
    rw [← ht, List.getElem?_take_of_lt hj, List.getElem?_drop, Array.getElem?_toList]
    simp [World.cell?, hg]
/-- A slice of the row: from k on. -/
theorem RowAt.drop {w : World} {e : TypeId} {size : Nat} {g off cap n : Nat} {xs : List Value} (h : RowAt w e size (.slice (some ⟨g, off, none⟩) n cap) n xs) (k : Nat) (hk : k ≤ n) :
    RowAt w e size (.slice (some ⟨g, off + k * size, none⟩) (n - k) (cap - k)) (n - k) (xs.drop (k * size)) := by
  obtain ⟨h1, ⟨h2, _⟩ | ⟨g', off', cap', cur, h2, ⟨fr, hg, hf⟩, hr, hm, hc, ht⟩⟩ := h
  · cases h2
  · cases h2
    have e1 : (n - k) * size = n * size - k * size := Nat.sub_mul _ _ _
    have e2 : (cap - k) * size = cap * size - k * size := Nat.sub_mul _ _ _
    have e3 : k * size ≤ cap * size := Nat.mul_le_mul_right _ (by omega)
    refine ⟨by rw [List.length_drop, h1, e1], .inr ⟨g, off + k * size, cap - k, cur, rfl, ⟨fr, hg, hf⟩, by omega, by omega, by omega, ?_⟩⟩
    rw [← ht, List.drop_take, List.drop_drop, e1]
end Go.Proofs.YtmbboflakfokhaaDoor

/- Worlds behind a method that changes an object: every block bears a label; 'ov' is the world in which only the blocks of one group of labels may have turned. Rows that bear a label; what append makes of them. No condition. -/
set_option linter.unusedSimpArgs false
set_option linter.unusedVariables false
namespace Go.Proofs.YtmbboflakfokhaaDoor
open Go.RowKit

/-- w, but blocks of the labels of group i, and k new blocks, are as x has them. -/
def ov (w : World) (own : Nat → Nat) (m i k : Nat) (x : World) : World :=
  { w with heap := Array.ofFn (n := w.heap.size + k) fun n => if h : n.1 < w.heap.size ∧ own n.1 / m ≠ i then w.heap[n.1]'(h.1) else (x.heap[n.1]?).getD (.cells #[] 0),
           drawn := x.drawn }
/-- Labels, where the k blocks from s on get the label j. -/
def lab (own : Nat → Nat) (s k j : Nat) : Nat → Nat := fun n => if n < s then own n else if n < s + k then j else own n
@[go_sem] theorem lab_eq (own : Nat → Nat) (s k j n : Nat) : lab own s k j n = pickLt n s (own n) (pickLt n (s + k) j (own n)) := rfl
theorem lab_lt {own : Nat → Nat} {s k j n : Nat} (h : n < s) : lab own s k j n = own n := if_pos h

section
variable (w : World) (own : Nat → Nat) (m i k : Nat) (x : World) (n j : Nat)
theorem ov_heap (h : n < w.heap.size) (h' : own n / m ≠ i) : (ov w own m i k x).heap[n]? = w.heap[n]? := by
  simp only [ov, Array.getElem?_ofFn]
  rw [dif_pos (by omega), dif_pos ⟨h, h'⟩, Array.getElem?_eq_getElem h]
@[go_sem] theorem ov_size : (ov w own m i k x).heap.size = w.heap.size + k := by simp [ov]
@[go_sem] theorem ov_cell : (ov w own m i k x).cell? ⟨n, j, none⟩ = pickLt n w.heap.size (pickEq (own n / m) i (farCell (ov w own m i k x) ⟨n, j, none⟩) (w.cell? ⟨n, j, none⟩)) (farCell (ov w own m i k x) ⟨n, j, none⟩) := by
  unfold pickLt pickEq
  split
  · split
    · rfl
    · rename_i h h'; exact World.cell?_of_block (w := w) (ov_heap w own m i k x n h h')
  · rfl
@[go_sem] theorem ov_frozen : (ov w own m i k x).frozen? ⟨n, j, none⟩ = pickLt n w.heap.size (pickEq (own n / m) i (farFrozen (ov w own m i k x) ⟨n, j, none⟩) (w.frozen? ⟨n, j, none⟩)) (farFrozen (ov w own m i k x) ⟨n, j, none⟩) := by
  unfold pickLt pickEq
  split
  · split
    · rfl
    · rename_i h h'; exact World.frozen?_of_block (w := w) (ov_heap w own m i k x n h h')
  · rfl
@[go_sem] theorem ov_drew : (ov w own m i k x).drew = ov w own m i k x.drew := rfl
@[go_sem] theorem ov_drewN (d : Nat) : (ov w own m i k x).drewN d = ov w own m i k (x.drewN d) := rfl
@[go_sem] theorem ov_tape : (ov w own m i k x).tape = w.tape := rfl
theorem ov_set_lt (v : Value) (h : n < w.heap.size) (h' : own n / m ≠ i) : (ov w own m i k x).setCell ⟨n, j, none⟩ v = ov (w.setCell ⟨n, j, none⟩ v) own m i k x := by
  have hs : (w.setCell ⟨n, j, none⟩ v).heap.size = w.heap.size := by simp [World.setCell]
  have e : ((ov w own m i k x).setCell ⟨n, j, none⟩ v).heap = (ov (w.setCell ⟨n, j, none⟩ v) own m i k x).heap := by
    apply Array.ext_getElem?
    intro q
    by_cases hq : q < w.heap.size + k
    · by_cases hqn : q = n
      · subst hqn
        rw [ov_heap _ _ _ _ _ _ _ (by rw [hs]; exact h) h']
        simp only [World.setCell, Array.getElem?_modify, if_true]
        rw [ov_heap _ _ _ _ _ _ _ h h']
      · rw [Below.heap_setCell _ _ _ _ hqn]
        simp only [ov, Array.getElem?_ofFn]
        rw [dif_pos hq, dif_pos (show q < (w.setCell ⟨n, j, none⟩ v).heap.size + k by rw [hs]; exact hq)]
        congr 1
        by_cases hc : q < w.heap.size ∧ own q / m ≠ i
        · rw [dif_pos (show q < (w.setCell ⟨n, j, none⟩ v).heap.size ∧ own q / m ≠ i from ⟨by rw [hs]; exact hc.1, hc.2⟩), dif_pos hc]
          have := Below.heap_setCell w ⟨n, j, none⟩ v q hqn
          rw [Array.getElem?_eq_getElem hc.1, Array.getElem?_eq_getElem (by rw [hs]; exact hc.1)] at this
          exact (Option.some.inj this).symm
        · rw [dif_neg (show ¬ (q < (w.setCell ⟨n, j, none⟩ v).heap.size ∧ own q / m ≠ i) by rw [hs]; exact hc), dif_neg hc]
    · rw [Array.getElem?_eq_none (by simp [World.setCell, ov]; omega), Array.getElem?_eq_none (by simp [ov]; omega)]
  have e2 : ∀ a b : World, a.heap = b.heap → a.tape = b.tape → a.drawn = b.drawn → a.os = b.os → a.output = b.output → a = b := by
    intro a b; cases a; cases b; simp_all
  exact e2 _ _ e rfl rfl rfl rfl
@[go_sem] theorem ov_set (v : Value) : (ov w own m i k x).setCell ⟨n, j, none⟩ v = pickLt n w.heap.size (pickEq (own n / m) i (farSet (ov w own m i k x) ⟨n, j, none⟩ v) (ov (w.setCell ⟨n, j, none⟩ v) own m i k x)) (farSet (ov w own m i k x) ⟨n, j, none⟩ v) := by
  unfold pickLt pickEq
  split
  · split
    · rfl
    · rename_i h h'; exact ov_set_lt w own m i k x n j v h h'
  · rfl
end

/-- Only blocks of the labels of group i have turned, and there may be new ones. -/
structure Kp (own : Nat → Nat) (m i : Nat) (a w : World) : Prop where
  os : w.os = a.os
  tape : w.tape = a.tape
  output : w.output = a.output
  size : a.heap.size ≤ w.heap.size
  block : ∀ k, k < a.heap.size → own k / m ≠ i → w.heap[k]? = a.heap[k]?

section
variable {own : Nat → Nat} {m i : Nat} {a w : World}
theorem Kp.refl (own : Nat → Nat) (m i : Nat) (a : World) : Kp own m i a a := ⟨rfl, rfl, rfl, Nat.le_refl _, fun _ _ _ => rfl⟩
theorem Kp.is (h : Kp own m i a w) : w = ov a own m i (w.heap.size - a.heap.size) w := by
  have hs := h.size
  have e2 : ∀ a b : World, a.heap = b.heap → a.tape = b.tape → a.drawn = b.drawn → a.os = b.os → a.output = b.output → a = b := by
    intro a b; cases a; cases b; simp_all
  refine e2 _ _ ?_ h.tape rfl h.os h.output
  apply Array.ext_getElem?
  intro q
  by_cases hq : q < w.heap.size
  · simp only [ov, Array.getElem?_ofFn]
    rw [dif_pos (by omega), Array.getElem?_eq_getElem hq]
    congr 1
    split
    · rename_i hc
      have := h.block q hc.1 hc.2
      rw [Array.getElem?_eq_getElem hq, Array.getElem?_eq_getElem hc.1] at this
      exact Option.some.inj this
    · rfl
  · rw [Array.getElem?_eq_none (by omega), Array.getElem?_eq_none (by simp [ov]; omega)]
theorem Kp.ex (h : Kp own m i a w) : ∃ k x, w = ov a own m i k x ∧ w.heap.size = a.heap.size + k := ⟨_, _, h.is, by have := h.size; omega⟩
theorem Kp.trans {w' : World} (h : Kp own m i a w) (h2 : w'.os = w.os) (h3 : w'.tape = w.tape) (h4 : w'.output = w.output) (h5 : w.heap.size ≤ w'.heap.size) (h6 : ∀ k, k < a.heap.size → own k / m ≠ i → w'.heap[k]? = w.heap[k]?) : Kp own m i a w' :=
  ⟨h2.trans h.os, h3.trans h.tape, h4.trans h.output, Nat.le_trans h.size h5, fun k hk hn => (h6 k hk hn).trans (h.block k hk hn)⟩
theorem Kp.alloc (h : Kp own m i a w) (o : Obj) : Kp own m i a (w.alloc o) := h.trans rfl rfl rfl (by simp) fun k hk _ => Below.heap_alloc _ _ _ (by have := h.size; omega)
theorem Kp.drew (h : Kp own m i a w) : Kp own m i a w.drew := h.trans rfl rfl rfl (Nat.le_refl _) fun _ _ _ => rfl
theorem Kp.drewN (h : Kp own m i a w) (n : Nat) : Kp own m i a (w.drewN n) := h.trans rfl rfl rfl (Nat.le_refl _) fun _ _ _ => rfl
theorem Kp.ext (h : Kp own m i a w) (l : List Obj) (d : Nat) : Kp own m i a (ext w l d) := h.trans rfl rfl rfl (by simp [Proofs.YtmbboflakfokhaaDoor.ext]) fun k hk _ => ext_heap_lt _ _ _ _ (by have := h.size; omega)
theorem Kp.setCell (h : Kp own m i a w) {p : Addr} (hp : p.block < a.heap.size → own p.block / m = i) (v : Value) : Kp own m i a (w.setCell p v) :=
  h.trans rfl rfl rfl (by simp [World.setCell]) fun k hk hn => Below.heap_setCell _ _ _ _ (fun e => hn (by subst e; exact hp hk))
theorem Kp.setRow (h : Kp own m i a w) {g : Nat} (hp : g < a.heap.size → own g / m = i) (cs : Array Value) : Kp own m i a (w.setRow g cs) :=
  h.trans rfl rfl rfl (by simp) fun k hk hn => setRow_other _ _ _ _ (fun e => hn (by subst e; exact hp hk))
theorem Kp.ov (h : Kp own m i a w) (own' : Nat → Nat) (m' i' k : Nat) (x : World) (hp : ∀ n, n < a.heap.size → own' n / m' = i' → own n / m = i) : Kp own m i a (ov w own' m' i' k x) :=
  h.trans rfl rfl rfl (by rw [ov_size]; omega) fun n hn h' => ov_heap _ _ _ _ _ _ _ (by have := h.size; omega) (fun e => h' (hp n hn e))
theorem Kp.of_below (h : Below a.heap.size a w) : Kp own m i a w := ⟨h.os, h.tape, h.output, h.size, fun k hk _ => h.block k hk⟩
theorem Kp.below {B : Nat} (h : Kp own m i a w) (hB : ∀ n, n < B → own n / m ≠ i) (hs : B ≤ a.heap.size) : Below B a w := ⟨h.os, h.tape, h.output, h.size, fun k hk => h.block k (by omega) (hB k hk)⟩
theorem Kp.far {q : Nat → Prop} (h : Kp own m i a w) : a.heap.size ≤ w.heap.size ∧ ∀ n, n < a.heap.size → q n → own n / m ≠ i → w.heap[n]? = a.heap[n]? := ⟨h.size, fun n hn _ h' => h.block n hn h'⟩
theorem Kp.other (h : Kp own m i a w) {k : Nat} (hk : k < a.heap.size) (hn : own k / m ≠ i) : w.heap[k]? = a.heap[k]? := h.block k hk hn
end
theorem ov_kp (w : World) (own : Nat → Nat) (m i k : Nat) (x : World) : Kp own m i w (ov w own m i k x) := (Kp.refl own m i w).ov own m i k x (fun _ _ h => h)
theorem Below.ov {B : Nat} {a w : World} (h : Below B a w) (own : Nat → Nat) (m i k : Nat) (x : World) (hB : ∀ n, n < B → own n / m ≠ i) (hs : B ≤ w.heap.size) : Below B a (ov w own m i k x) :=
  h.trans ((ov_kp w own m i k x).below hB hs)

theorem rowIs_ext {w : World} {b n : Nat} {t : TypeId} {f : Nat → Value} (h : w.rowIs b t n f) (l : List Obj) (d : Nat) : (ext w l d).rowIs b t n f := h.of_block (ext_heap_lt _ _ _ _ h.lt)
theorem rowIs_drewN {w : World} {b n : Nat} {t : TypeId} {f : Nat → Value} (h : w.rowIs b t n f) (d : Nat) : (w.drewN d).rowIs b t n f := h
theorem rowIs_ov {w : World} {b n : Nat} {t : TypeId} {f : Nat → Value} (h : w.rowIs b t n f) (own : Nat → Nat) (m i k : Nat) (x : World) (hb : own b / m ≠ i) : (ov w own m i k x).rowIs b t n f := h.of_block (ov_heap _ _ _ _ _ _ _ h.lt hb)

/-- The cells of a list of things, N cells each. -/
def flat {α : Type} (f : α → List Value) (l : List α) : List Value := l.flatMap f
section
variable {α : Type} {f : α → List Value} {N : Nat}
theorem flat_nil : flat f [] = [] := rfl
theorem flat_cons (a : α) (l : List α) : flat f (a :: l) = f a ++ flat f l := by simp [flat]
theorem flat_append (l m : List α) : flat f (l ++ m) = flat f l ++ flat f m := by simp [flat]
theorem flat_one (a : α) : flat f [a] = f a := by simp [flat]
theorem flat_length (hf : ∀ a, (f a).length = N) (l : List α) : (flat f l).length = l.length * N := by
  induction l with
  | nil => simp [flat]
  | cons a l ih => rw [flat_cons, List.length_append, ih, hf, List.length_cons, Nat.add_mul, Nat.one_mul, Nat.add_comm]
theorem flat_drop (hf : ∀ a, (f a).length = N) (l : List α) : ∀ k, (flat f l).drop (k * N) = flat f (l.drop k) := by
  induction l with
  | nil => intro k; simp [flat]
  | cons a l ih =>
    intro k
    cases k with
    | zero => simp
    | succ k =>
      have e : (k + 1) * N = (f a).length + k * N := by rw [hf, Nat.add_mul, Nat.one_mul, Nat.add_comm]
      rw [e, flat_cons, ← List.drop_drop, List.drop_left]
      exact ih k
theorem flat_take (hf : ∀ a, (f a).length = N) (l : List α) : ∀ k, (flat f l).take (k * N) = flat f (l.take k) := by
  induction l with
  | nil => intro k; simp [flat]
  | cons a l ih =>
    intro k
    cases k with
    | zero => simp [flat]
    | succ k =>
      have e : (k + 1) * N = (f a).length + k * N := by rw [hf, Nat.add_mul, Nat.one_mul, Nat.add_comm]
      rw [e, flat_cons, List.take_length_add_append, ih k, List.take_succ_cons, flat_cons]
theorem flat_get (hf : ∀ a, (f a).length = N) (l : List α) (k : Nat) (h : k < l.length) (j : Nat) (hj : j < N) : (flat f l)[k * N + j]? = (f l[k])[j]? := by
  have e := flat_drop hf l k
  rw [List.drop_eq_getElem_cons h, flat_cons] at e
  have : ((flat f l).drop (k * N))[j]? = (f l[k] ++ flat f (l.drop (k + 1)))[j]? := by rw [e]
  rw [List.getElem?_drop] at this
  rw [this, List.getElem?_append_left (by rw [hf]; exact hj)]
end

/-- A row whose block bears the label j. -/
def OwnRow (own : Nat → Nat) (j : Nat) (w : World) (e : TypeId) (size : Nat) (v : Value) (n : Nat) (xs : List Value) : Prop := RowAt w e size v n xs ∧ ∀ g, v.ownBlock = some g → own g = j
section
variable {own : Nat → Nat} {j : Nat} {w : World} {e : TypeId} {size : Nat} {v : Value} {n : Nat} {xs : List Value}
theorem OwnRow.nil (own : Nat → Nat) (j : Nat) (w : World) (e : TypeId) (size : Nat) : OwnRow own j w e size (.slice none 0 0) 0 [] := ⟨RowAt.nil w e size, fun g h => by cases h⟩
theorem OwnRow.kp {own' : Nat → Nat} {w' : World} {m i : Nat} (h : OwnRow own j w e size v n xs) (hk : Kp own m i w w') (hj : j / m ≠ i) (ho : ∀ g, g < w.heap.size → own g = j → own' g = j) : OwnRow own' j w' e size v n xs :=
  ⟨h.1.of_block fun g hg => hk.block g (h.1.lt g hg) (by rw [h.2 g hg]; exact hj), fun g hg => ho g (h.1.lt g hg) (h.2 g hg)⟩
theorem OwnRow.ex {own' : Nat → Nat} {w' : World} (h : OwnRow own j w e size v n xs) (hk : ∀ g, g < w.heap.size → own g = j → w'.heap[g]? = w.heap[g]?) (ho : ∀ g, g < w.heap.size → own g = j → own' g = j) : OwnRow own' j w' e size v n xs :=
  ⟨h.1.of_block fun g hg => hk g (h.1.lt g hg) (h.2 g hg), fun g hg => ho g (h.1.lt g hg) (h.2 g hg)⟩
theorem OwnRow.ex' {w' : World} (h : OwnRow own j w e size v n xs) (hk : ∀ g, v.ownBlock = some g → w'.heap[g]? = w.heap[g]?) : OwnRow own j w' e size v n xs := ⟨h.1.of_block hk, h.2⟩
theorem OwnRow.alloc (h : OwnRow own j w e size v n xs) (o : Obj) : OwnRow own j (w.alloc o) e size v n xs := h.ex' fun g hg => Below.heap_alloc _ _ _ (h.1.lt g hg)
theorem OwnRow.drew (h : OwnRow own j w e size v n xs) : OwnRow own j w.drew e size v n xs := h
theorem OwnRow.drewN (h : OwnRow own j w e size v n xs) (d : Nat) : OwnRow own j (w.drewN d) e size v n xs := h
theorem OwnRow.exts (h : OwnRow own j w e size v n xs) (l : List Obj) (d : Nat) : OwnRow own j (ext w l d) e size v n xs := h.ex' fun g hg => ext_heap_lt _ _ _ _ (h.1.lt g hg)
theorem OwnRow.setCell (h : OwnRow own j w e size v n xs) {p : Addr} (hp : own p.block ≠ j) (x : Value) : OwnRow own j (w.setCell p x) e size v n xs := h.ex' fun g hg => Below.heap_setCell _ _ _ _ (fun e => hp (by rw [← e]; exact h.2 g hg))
theorem OwnRow.form (h : OwnRow own j w e size v n xs) : ∃ ao cap, v = .slice ao n cap ∧ n ≤ cap ∧ cap ≤ maxLen ∧ (ao = none → cap = 0) ∧ ∀ a, ao = some a → ∃ g off, a = ⟨g, off, none⟩ ∧ own g = j ∧ g < w.heap.size := by
  obtain ⟨⟨h1, ⟨rfl, rfl⟩ | ⟨g, off, cap, cur, rfl, ⟨fr, hg, hf⟩, hr⟩⟩, h2⟩ := h
  · exact ⟨none, 0, rfl, Nat.le_refl _, Nat.zero_le _, fun _ => rfl, fun a h => by cases h⟩
  · exact ⟨_, cap, rfl, hr.1, hr.2.1, (fun h => by cases h), fun a ha => ⟨g, off, (by cases ha; rfl), h2 g rfl, (Array.getElem?_eq_some_iff.1 hg).1⟩⟩
theorem OwnRow.opened (h : OwnRow own j w e size v n xs) (hn : 0 < n) : ∃ g off cap, v = .slice (some ⟨g, off, none⟩) n cap ∧ n ≤ cap ∧ own g = j ∧ g < w.heap.size ∧ ∀ q, q < n * size → w.cell? ⟨g, off + q, none⟩ = xs[q]? := by
  obtain ⟨hr, h2⟩ := h
  have hr' := hr
  obtain ⟨h1, ⟨rfl, rfl⟩ | ⟨g, off, cap, cur, rfl, ⟨fr, hg, hf⟩, hc, _⟩⟩ := hr
  · omega
  · exact ⟨g, off, cap, rfl, hc, h2 g rfl, (Array.getElem?_eq_some_iff.1 hg).1, fun q hq => hr'.cell hq⟩
theorem OwnRow.len (h : OwnRow own j w e size v n xs) : xs.length = n * size := h.1.1

theorem heap_new {w : World} {o : Obj} {n : Nat} (h : n = w.heap.size) : (w.alloc o).heap[n]? = some o := by subst h; exact heap_alloc_new w o
section
variable {P : Program}
theorem addr_add (g off j : Nat) : (⟨g, off, none⟩ : Addr).add j = ⟨g, off + j, none⟩ := by unfold Addr.add; by_cases h0 : j = 0 <;> simp [h0]
/-- What a block that is known whole yields to an append. -/
theorem Src.block {w : World} {size g : Nat} {tx e' t : TypeId} {fr : Nat × Nat} {cs : Array Value} (hk : P.underlying tx = some (.slice e')) (n c : Nat) (hb : w.heap[g]? = some (.cells cs t fr)) (hl : cs.toList.length = n * size) (h1 : ∀ u ∈ cs.toList, u.oneCell' = true) :
    Src P size tx (.slice (some ⟨g, 0, none⟩) n c) n cs.toList w :=
  Src.ofSlice w hk _ n c _ hl (fun j u hu => by
    rw [addr_add, Nat.zero_add]
    rw [Array.getElem?_toList] at hu
    simpa [World.cell?, hb] using hu) h1
/-- What a row yields to an append. -/
theorem Src.row {w : World} {size : Nat} {tx e' e : TypeId} {v : Value} {n : Nat} {xs : List Value} (hk : P.underlying tx = some (.slice e')) (h : RowAt w e size v n xs) (h1 : ∀ u ∈ xs, u.oneCell' = true) : Src P size tx v n xs w := by
  obtain ⟨hl, ⟨rfl, rfl⟩ | ⟨g, off, cap, cur, rfl, ⟨fr, hg, hf⟩, hr⟩⟩ := h
  · obtain rfl : xs = [] := List.eq_nil_of_length_eq_zero (by simpa using hl)
    exact Src.ofNil w hk 0
  · refine Src.ofSlice w hk _ n cap _ hl (fun j u hu => ?_) h1
    rw [addr_add]
    rw [← hr.2.2.2, List.getElem?_take] at hu
    split at hu
    · rw [List.getElem?_drop, Array.getElem?_toList] at hu
      simpa [World.cell?, hg] using hu
    · cases hu
theorem run_append_lab (t tx ty e : TypeId) (i : TypeInfo) (z : Value) (size bytes : Nat) (ht : P.underlying t = some (.slice e)) (hi : P.info? e = some i) (hz : i.zero = some z)
    (hsize : i.size = size) (hby : i.bytes = bytes) (hzs : z.cells.size = size)
    {w : World} {v x : Value} {n m : Nat} {xs news : List Value} (h : OwnRow own j w e size v n xs) (hs : Src P size tx x m news w)
    (h63 : n + m ≤ maxLen) (hbytes : (n + m) * bytes ≤ 140737488355328) :
    ∃ v' k y, (Builtin.append_ #[t, tx] ty #[v, x]).run P w = .ok v' (ov w own 1 j k y) ∧ OwnRow (lab own w.heap.size k j) j (ov w own 1 j k y) e size v' (n + m) (xs ++ news) ∧ (v' = .slice none 0 0 ↔ v = .slice none 0 0 ∧ m = 0) := by
  obtain ⟨v', w', h1, h2, h3, h4, h5⟩ := run_append_row (P := P) t tx ty e i z size bytes ht hi hz hsize hby hzs h.1 hs h63 hbytes
  have hk : Kp own 1 j w w' := ⟨h3.os, h3.tape, h3.output, h3.size, fun k hk hn => h3.block k hk (fun e => hn (by rw [Nat.div_one]; exact h.2 k e.symm))⟩
  refine ⟨v', _, w', hk.is ▸ h1, hk.is ▸ ⟨h2, fun g hg => ?_⟩, h5⟩
  have hlt := h2.lt g hg
  unfold lab
  rcases h4 with h4 | h4
  · rw [hg] at h4
    have := h.2 g h4.symm
    have hl := h.1.lt g h4.symm
    rw [if_pos hl]
    exact this
  · rw [hg] at h4
    obtain rfl := Option.some.inj h4
    rw [if_neg (by omega), if_pos (by omega)]

theorem wpList_append_lab {ops : Array Oper} {rest : List Oper} {o : Oper} {a : Act} {w : World} {Q : Exit → Act → World → Prop} (hgd : o.guard = none) (s x : Operand) (t tx : TypeId)
    (ho : o.op = .call { callee := .builtin .append, args := #[s, x], argTypes := #[t, tx] })
    (e : TypeId) (i : TypeInfo) (z : Value) (size bytes : Nat) (ht : P.underlying t = some (.slice e)) (hi : P.info? e = some i) (hz : i.zero = some z)
    (hsize : i.size = size) (hby : i.bytes = bytes) (hzs : z.cells.size = size)
    (v y : Value) (n m : Nat) (xs news : List Value) (hv : a.eval s = v) (hy : a.eval x = y) (h : OwnRow own j w e size v n xs) (hs : Src P size tx y m news w)
    (h63 : n + m ≤ maxLen) (hbytes : (n + m) * bytes ≤ 140737488355328)
    (hK : ∀ v' k u, OwnRow (lab own w.heap.size k j) j (ov w own 1 j k u) e size v' (n + m) (xs ++ news) → (v' = .slice none 0 0 ↔ v = .slice none 0 0 ∧ m = 0) → wpList P ops Q rest (a.put o.dst v') (ov w own 1 j k u)) :
    wpList P ops Q (o :: rest) a w := by
  obtain ⟨v', k, u, hr, h2, h3⟩ := run_append_lab (P := P) t tx o.type e i z size bytes ht hi hz hsize hby hzs h hs h63 hbytes
  refine wpList_plain hgd fun _ hK' => ?_
  unfold Oper.wp execOp
  simp only [ho, resolve, invoke, builtin, Sem.run_bind, Sem.run_pure, Result.andThen_ok, List.map_toArray, List.map_cons, List.map_nil, hv, hy, hr]
  exact hK' _ _ (hK v' k u h2 h3)
theorem step_append_lab {ops : Array Oper} {o : Oper} {a : Act} {w : World} {K : Act → World → Prop} {Q : Exit → Act → World → Prop} {E : Prop} (hgd : o.guard = none) (s x : Operand) (t tx : TypeId)
    (ho : o.op = .call { callee := .builtin .append, args := #[s, x], argTypes := #[t, tx] })
    (e : TypeId) (i : TypeInfo) (z : Value) (size bytes : Nat) (ht : P.underlying t = some (.slice e)) (hi : P.info? e = some i) (hz : i.zero = some z)
    (hsize : i.size = size) (hby : i.bytes = bytes) (hzs : z.cells.size = size)
    (v y : Value) (n m : Nat) (xs news : List Value) (hv : a.eval s = v) (hy : a.eval x = y) (h : OwnRow own j w e size v n xs) (hs : Src P size tx y m news w)
    (h63 : n + m ≤ maxLen) (hbytes : (n + m) * bytes ≤ 140737488355328)
    (hK : ∀ v' k u, OwnRow (lab own w.heap.size k j) j (ov w own 1 j k u) e size v' (n + m) (xs ++ news) → (v' = .slice none 0 0 ↔ v = .slice none 0 0 ∧ m = 0) → K (a.put o.dst v') (ov w own 1 j k u)) :
    if Region.wanted o (yielded ops a.tmps) = true then Oper.wp P o a w K Q else E := by
  have hw : Region.wanted o (yielded ops a.tmps) = true := by simp [Region.wanted, hgd]
  rw [if_pos hw]
  obtain ⟨v', k, u, hr, h2, h3⟩ := run_append_lab (P := P) t tx o.type e i z size bytes ht hi hz hsize hby hzs h hs h63 hbytes
  unfold Oper.wp execOp
  simp only [ho, resolve, invoke, builtin, Sem.run_bind, Sem.run_pure, Result.andThen_ok, List.map_toArray, List.map_cons, List.map_nil, hv, hy, hr]
  exact hK v' k u h2 h3
end
end
end Go.Proofs.YtmbboflakfokhaaDoor

/- What a method leaves that turns but one object. No condition. -/
set_option linter.unusedSimpArgs false
set_option linter.unusedVariables false
namespace Go.Proofs.YtmbboflakfokhaaDoor
open Go.RowKit

/-- What a call leaves that turns but the object i and labels all that it makes with j. -/
def ObjTo (own : Nat → Nat) (i j : Nat) (w : World) (I : (Nat → Nat) → World → Prop) (w' : World) : Prop := ∃ k x, w' = ov w own 1 i k x ∧ I (lab own w.heap.size k j) w'
theorem ObjTo.of {own : Nat → Nat} {i j : Nat} {w : World} {I : (Nat → Nat) → World → Prop} {w' : World} (h : Kp own 1 i w w') (hI : I (lab own w.heap.size (w'.heap.size - w.heap.size) j) w') : ObjTo own i j w I w' := ⟨_, w', h.is, hI⟩
theorem ObjTo.of_ex {own : Nat → Nat} {i j : Nat} {w w' : World} {I : (Nat → Nat) → World → Prop} (h : Ex w w') (hI : I (lab own w.heap.size (w'.heap.size - w.heap.size) j) w') : ObjTo own i j w I w' := ObjTo.of (Kp.of_below h.below) hI
theorem ObjTo.use {own : Nat → Nat} {i j B : Nat} {a w : World} {I : (Nat → Nat) → World → Prop} {w' : World} (h : ObjTo own i j w I w') (hB : Below B a w) (hs : B ≤ w.heap.size) (ho : ∀ b, b < B → own b ≠ i) :
    ∃ o, I o w' ∧ Below B a w' ∧ (∀ b, b < w.heap.size → o b = own b) ∧ w.heap.size ≤ w'.heap.size ∧ Kp own 1 i w w' := by
  obtain ⟨k, x, rfl, hI⟩ := h
  exact ⟨_, hI, Below.ov hB own 1 i k x (fun n hn => by rw [Nat.div_one]; exact ho n hn) hs, fun b hb => lab_lt hb, by rw [ov_size]; omega, ov_kp _ _ _ _ _ _⟩
theorem ObjTo.after {own : Nat → Nat} {i : Nat} {w w1 w' : World} {I : (Nat → Nat) → World → Prop} (hx : Ex w w1) (h : ObjTo own i i w1 I w') (hI : ∀ o o' : Nat → Nat, (∀ n, n < w'.heap.size → o n = i → o' n = i) → I o w' → I o' w') : ObjTo own i i w I w' := by
  obtain ⟨k, x, rfl, hI'⟩ := h
  have hs := hx.below.size
  refine ObjTo.of ((Kp.of_below hx.below).ov own 1 i k x (fun n _ h => h)) (hI _ _ (fun n hn e => ?_) hI')
  rw [ov_size] at hn
  unfold lab at e ⊢
  rw [ov_size]
  by_cases h1 : n < w.heap.size
  · rw [if_pos (by omega)] at e
    rw [if_pos h1]; exact e
  · rw [if_neg h1, if_pos (by omega)]
/-- The world as a letter: what is known of it stays. -/
theorem wp_world {Pr : Program} {code : Code} {Q : Exit → Act → World → Prop} {a : Act} {W : World} {R : World → Prop} (h : R W) (k : ∀ W', R W' → code.wp Pr Q a W') : code.wp Pr Q a W := k W h

end Go.Proofs.YtmbboflakfokhaaDoor
