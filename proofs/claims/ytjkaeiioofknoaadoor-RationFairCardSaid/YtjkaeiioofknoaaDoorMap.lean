/- A map from numbers to slices, by what each key holds. -/
import Derived.Test.YtjkaeiioofknoaaDoorRow
import Derived.Deep.AppendSrc
import Derived.Laws.AppendOwn
import Derived.Test.YtjkaeiioofknoaaDoorLot
import Derived.Maps.Own
import Derived.Maps.Views
set_option linter.unusedSimpArgs false
set_option linter.unusedVariables false
namespace Go.Proofs.YtjkaeiioofknoaaDoor
open Go.RowKit Go.Maps

/-- A slice's header as a datum. -/
def encS : Value → Option (DataW Unit × List MemPlace)
  | .slice none 0 0 => some (.nil, [])
  | .slice (some ⟨g, off, none⟩) n cap => some (.slice [.lit (.int .i64 g), .lit (.int .i64 off), .lit (.int .i64 n), .lit (.int .i64 cap)] [], [])
  | _ => none
theorem encS_inj {v v' : Value} {d : DataW Unit} {ps ps' : List MemPlace} (h : encS v = some (d, ps)) (h' : encS v' = some (d, ps')) : v = v' := by
  unfold encS at h h'
  split at h <;> split at h' <;> simp_all
  all_goals first
    | (obtain ⟨rfl, _⟩ := h; simp at h'; done)
    | (obtain ⟨rfl, _⟩ := h; simp at h'; omega)
    | (obtain ⟨rfl, _⟩ := h; simp at h'; obtain ⟨a, b, c, d⟩ := h'; subst_vars; simp_all; omega)
    | skip

/-- The map in block b: at most n entries; key p holds F p. -/
def MapAt (w : World) (b n : Nat) (F : Int → Value) : Prop := ∃ D : DataW Unit, w.ownsMap Tryd.prog 3 encS b n D ∧ IsMap D ∧ ∀ p : Int, ∃ ps, encS (F p) = some (D.atKey (.int .i64 p) .nil, ps)
theorem zeroLots (w : World) : (zeroValue 22).run Tryd.prog w = .ok (.slice none 0 0) w := by kernel_rfl
theorem lit64 {p : Int} (h : -9223372036854775808 ≤ p ∧ p ≤ 9223372036854775807) : (Lit.int .i64 p).wf = true := by simp [Lit.wf, IntKind.min, IntKind.max, IntKind.bits, IntKind.signed]; omega
theorem MapAt.made (w : World) : MapAt (w.alloc (.map #[] 0)) w.heap.size 0 (fun _ => .slice none 0 0) := ⟨.map [], World.ownsMap_made w _ _ _, isMap_empty, fun p => ⟨[], rfl⟩⟩
theorem MapAt.kept {w w' : World} {b n : Nat} {F : Int → Value} {row : Option Nat} (h : MapAt w b n F) (hg : w.grownBy w' row) (hne : some b ≠ row) : MapAt w' b n F := by
  obtain ⟨D, h1, h2, h3⟩ := h
  exact ⟨D, h1.kept hg hne, h2, h3⟩
theorem MapAt.lt {w : World} {b n : Nat} {F : Int → Value} (h : MapAt w b n F) : b < w.heap.size := by obtain ⟨D, h1, _⟩ := h; exact h1.lt
theorem MapAt.isMap {w : World} {b n : Nat} {F : Int → Value} (h : MapAt w b n F) : ∃ es c, w.heap[b]? = some (.map es c) := by
  obtain ⟨D, ⟨es, c, h1, _⟩, _⟩ := h
  exact ⟨es, c, h1⟩
theorem MapAt.mono {w : World} {b n m : Nat} {F : Int → Value} (h : MapAt w b n F) (hnm : n ≤ m) : MapAt w b m F := by
  obtain ⟨D, h1, h2⟩ := h
  exact ⟨D, h1.mono hnm, h2⟩
theorem MapAt.alloc {w : World} {b n : Nat} {F : Int → Value} (h : MapAt w b n F) (o : Obj) : MapAt (w.alloc o) b n F := h.kept (World.grownBy_alloc w o none) (by simp)
theorem MapAt.drew {w : World} {b n : Nat} {F : Int → Value} (h : MapAt w b n F) : MapAt w.drew b n F := h
theorem MapAt.lookup {w : World} {b n : Nat} {F : Int → Value} (h : MapAt w b n F) {p : Int} (hp : -9223372036854775808 ≤ p ∧ p ≤ 9223372036854775807) :
    (Instr.lookup 126 (.map (some b)) (.int .i64 p) false).run Tryd.prog w = .ok (F p) w := by
  obtain ⟨D, h1, h2, h3⟩ := h
  obtain ⟨v, ps, hr, hv⟩ := h1.lookup (int_keyed Tryd.underlying3) Tryd.underlying126 (zeroLots w) (zd := .nil) (zp := []) rfl (keyOf_int_mk Tryd.underlying3 (lit64 hp))
  obtain ⟨ps', hv'⟩ := h3 p
  rw [hr, encS_inj hv hv']
theorem MapAt.update {w : World} {b n : Nat} {F : Int → Value} (h : MapAt w b n F) (hn : n < maxLen) {p : Int} (hp : -9223372036854775808 ≤ p ∧ p ≤ 9223372036854775807) (v : Value) (hv : ∃ d, encS v = some (d, [])) :
    ∃ w', (Instr.mapUpdate 126 (.map (some b)) (.int .i64 p) v).run Tryd.prog w = .ok () w' ∧ MapAt w' b (n + 1) (fun q => if q = p then v else F q) ∧ w.grownBy w' (some b) := by
  obtain ⟨D, h1, h2, h3⟩ := h
  obtain ⟨d, hd⟩ := hv
  obtain ⟨w', hr, hm, hg⟩ := h1.update (int_keyed Tryd.underlying3) Tryd.underlying126 hn (keyOf_int_mk Tryd.underlying3 (lit64 hp)) hd
  refine ⟨w', hr, ⟨_, hm, h2.put _ _, fun q => ?_⟩, hg⟩
  by_cases e : q = p
  · subst e
    show ∃ ps, encS (if q = q then v else F q) = _
    rw [if_pos rfl, atKey_put_same (k := .int .i64 q) h2 trivial]
    exact ⟨[], hd⟩
  · show ∃ ps, encS (if q = p then v else F q) = _
    rw [if_neg e, atKey_put_other (by intro e2; cases e2; exact e rfl)]
    exact h3 q

/-- Append to a row leaves what was the row. -/
theorem run_append_keep {P : Program} (t tx ty e : TypeId) (i : TypeInfo) (z : Value) (size bytes : Nat) (ht : P.underlying t = some (.slice e)) (hi : P.info? e = some i) (hz : i.zero = some z)
    (hsize : i.size = size) (hby : i.bytes = bytes) (hzs : z.cells.size = size)
    {w : World} {v x : Value} {n m : Nat} {xs news : List Value} (h : RowAt w e size v n xs) (hs : Src P size tx x m news w)
    (h63 : n + m ≤ maxLen) (hbytes : (n + m) * bytes ≤ 140737488355328) :
    ∃ v' w', (Builtin.append_ #[t, tx] ty #[v, x]).run P w = .ok v' w' ∧ RowAt w' e size v' (n + m) (xs ++ news) ∧ w.grownBy w' v.ownBlock ∧
      (v'.ownBlock = v.ownBlock ∨ v'.ownBlock = some w.heap.size) ∧ (∃ d, encS v' = some (d, [])) ∧ RowAt w' e size v n xs := by
  subst hsize
  subst hby
  have hsmall : n + m ≤ 9223372036854775807 := by simp only [maxLen] at h63; omega
  have hlen : (xs ++ news).length = (n + m) * i.size := by rw [List.length_append, h.1, hs.newsLen, Nat.add_mul]
  have grown : ∀ (old : Nat), old < n + m → ∀ (row : Option Nat),
      RowAt (w.drew.alloc (.cells ((xs ++ news).toArray ++ Builtin.zeroCells z.cells (grownCap w (n + m) old e - (n + m))) e)) e i.size
        (.slice (some ⟨w.heap.size, 0, none⟩) (n + m) (grownCap w (n + m) old e)) (n + m) (xs ++ news) ∧
      w.grownBy (w.drew.alloc (.cells ((xs ++ news).toArray ++ Builtin.zeroCells z.cells (grownCap w (n + m) old e - (n + m))) e)) row := by
    intro old ho row
    have hge := grownCap_ge w (n + m) old e
    have hcm : grownCap w (n + m) old e ≤ maxLen := grownCap_le_maxLen w (n + m) old e h63
    refine ⟨⟨hlen, .inr ⟨w.heap.size, 0, _, _, rfl, heap_alloc_new w.drew _, hge, hcm, ?_, ?_⟩⟩, ⟨rfl, rfl, rfl, by simp, fun k hk _ => heap_alloc_old w.drew _ hk⟩⟩
    · simp only [Array.size_append, List.size_toArray, size_zeroCells, hzs, hlen, ← Nat.add_mul, Nat.zero_add]
      exact Nat.le_of_eq (by congr 1; omega)
    · simp only [Array.toList_append, List.drop_zero]
      rw [← hlen]
      exact List.take_left
  rcases h.2 with ⟨rfl, rfl⟩ | ⟨g, off, cap, cur, rfl, hg, hnc, hcm, hcs, htake⟩
  · have hx : xs = [] := List.eq_nil_of_length_eq_zero (by simpa using h.1)
    subst hx
    by_cases hm : m = 0
    · subst hm
      have hn : news = [] := List.eq_nil_of_length_eq_zero (by simpa using hs.newsLen)
      subst hn
      refine ⟨.slice none 0 0, w, ?_, RowAt.nil w e i.size, grownBy_refl w _, .inl rfl, ⟨_, rfl⟩, RowAt.nil _ _ _⟩
      rcases hs.kind with ⟨e', hk⟩ | hk <;> simp [Builtin.append_, run_underlying ht, run_underlying hk, sizeOf, typeInfo, hi, hs.len, hs.cells, storeCells]
    · have hr := run_append_grow_src (P := P) w t tx ty e i z ht hi hz none 0 0 [] (run_firstCells_none w.drew i.size 0 0 0) x m news hs (by omega) (by omega) (growslice_fits (by omega) hbytes)
      have hgr := grown 0 (by omega) (Value.ownBlock (.slice none 0 0))
      exact ⟨_, _, hr, hgr.1, hgr.2, .inr rfl, ⟨_, rfl⟩, RowAt.nil _ _ _⟩
  · have hadd : ∀ j, (⟨g, off, none⟩ : Addr).add j = ⟨g, off + j, none⟩ := fun j => by unfold Addr.add; by_cases h0 : j = 0 <;> simp [h0]
    have holds : ∀ j u, xs[j]? = some u → w.cell? ((⟨g, off, none⟩ : Addr).add j) = some u := by
      intro j u hj
      rw [← htake, List.getElem?_take] at hj
      split at hj
      · rw [hadd]
        rw [List.getElem?_drop, Array.getElem?_toList] at hj
        simpa [World.cell?, hg] using hj
      · cases hj
    by_cases hroom : n + m ≤ cap
    · have hfit : off + n * i.size + news.length ≤ cur.size := by
        have := Nat.mul_le_mul_right i.size hroom
        rw [Nat.add_mul] at this
        rw [hs.newsLen]; omega
      have hst := run_storeCells_at P g (off + n * i.size) e news 0 cur w hg (by simpa using hfit) hs.one
      simp only [Nat.add_zero] at hst
      have hr : (Builtin.append_ #[t, tx] ty #[.slice (some ⟨g, off, none⟩) n cap, x]).run P w = .ok (.slice (some ⟨g, off, none⟩) (n + m) cap) (w.setRow g (cur.toList.take (off + n * i.size) ++ news ++ cur.toList.drop (off + n * i.size + news.length)).toArray) := by
        rcases hs.kind with ⟨e', hk⟩ | hk <;> simp [Builtin.append_, run_underlying ht, run_underlying hk, sizeOf, typeInfo, hi, hs.len, hroom, hs.cells, hadd, hst]
      refine ⟨_, _, hr, ⟨hlen, .inr ⟨g, off, cap, _, rfl, setRow_heap w g cur _ e _ hg, hroom, hcm, ?_, ?_⟩⟩, ⟨rfl, rfl, rfl, by simp, fun k _ hk => setRow_other w g k _ (fun e => hk (by simp [Value.ownBlock, e]))⟩, .inl rfl, ⟨_, rfl⟩, h.1, .inr ⟨g, off, cap, _, rfl, setRow_heap w g cur _ e _ hg, hnc, hcm, ?_, ?_⟩⟩
      · simp only [List.size_toArray, List.length_append, List.length_take, List.length_drop, Array.length_toList]
        omega
      · have e1 : cur.toList.take (off + n * i.size) = cur.toList.take off ++ xs := by
          rw [List.take_add, htake]
        have hoff : (cur.toList.take off).length = off := by rw [List.length_take, Array.length_toList]; omega
        simp only [e1, List.append_assoc]
        rw [List.drop_append_of_le_length (by omega), List.drop_of_length_le (by omega), List.nil_append, ← List.append_assoc, ← hlen]
        exact List.take_left
      · simp only [List.size_toArray, List.length_append, List.length_take, List.length_drop, Array.length_toList]
        omega
      · have e1 : cur.toList.take (off + n * i.size) = cur.toList.take off ++ xs := by
          rw [List.take_add, htake]
        have hoff : (cur.toList.take off).length = off := by rw [List.length_take, Array.length_toList]; omega
        simp only [e1, List.append_assoc]
        rw [List.drop_append_of_le_length (by omega), List.drop_of_length_le (by omega), List.nil_append, ← h.1]
        exact List.take_left
    · have hr := run_append_grow_src (P := P) w t tx ty e i z ht hi hz (some ⟨g, off, none⟩) n cap xs (run_firstCells_some w.drew i.size n ⟨g, off, none⟩ n cap xs h.1 (by simpa using holds)) x m news hs (by omega) (by omega) (growslice_fits (by omega) hbytes)
      have hgr := grown cap (by omega) (Value.ownBlock (.slice (some ⟨g, off, none⟩) n cap))
      exact ⟨_, _, hr, hgr.1, hgr.2, .inr rfl, ⟨_, rfl⟩, h.of_block (fun g' hg' => heap_alloc_old w.drew _ (h.lt g' hg'))⟩

theorem step_append_keep {P : Program} {ops : Array Oper} {o : Oper} {a : Act} {w : World} {K : Act → World → Prop} {Q : Exit → Act → World → Prop} {E : Prop} (hgd : o.guard = none) (s x : Operand) (t tx : TypeId)
    (ho : o.op = .call { callee := .builtin .append, args := #[s, x], argTypes := #[t, tx] })
    (e : TypeId) (i : TypeInfo) (z : Value) (size bytes : Nat) (ht : P.underlying t = some (.slice e)) (hi : P.info? e = some i) (hz : i.zero = some z)
    (hsize : i.size = size) (hby : i.bytes = bytes) (hzs : z.cells.size = size)
    (v y : Value) (n m : Nat) (xs news : List Value) (hv : a.eval s = v) (hy : a.eval x = y) (h : RowAt w e size v n xs) (hs : Src P size tx y m news w)
    (h63 : n + m ≤ maxLen) (hbytes : (n + m) * bytes ≤ 140737488355328)
    (hK : ∀ v' w', RowAt w' e size v' (n + m) (xs ++ news) → w.grownBy w' v.ownBlock → (v'.ownBlock = v.ownBlock ∨ v'.ownBlock = some w.heap.size) → (∃ d, encS v' = some (d, [])) → RowAt w' e size v n xs → K (a.put o.dst v') w') :
    if Region.wanted o (yielded ops a.tmps) = true then Oper.wp P o a w K Q else E := by
  have hw : Region.wanted o (yielded ops a.tmps) = true := by simp [Region.wanted, hgd]
  rw [if_pos hw]
  obtain ⟨v', w', hr, h1, h2, h3, h4, h5⟩ := run_append_keep (P := P) t tx o.type e i z size bytes ht hi hz hsize hby hzs h hs h63 hbytes
  unfold Oper.wp execOp
  simp only [ho, resolve, invoke, builtin, Sem.run_bind, Sem.run_pure, Result.andThen_ok, List.map_toArray, List.map_cons, List.map_nil, hv, hy, hr]
  exact hK v' w' h1 h2 h3 h4 h5
end Go.Proofs.YtjkaeiioofknoaaDoor
