import Derived.Test.YtmbboflakfokhaaDoorJ0
import Derived.Deep.AppendSrc
import Derived.Laws.AppendOwn
import Derived.Test.YtmbboflakfokhaaDoorJ1
import Derived.Maps.Own
import Derived.Maps.Views
import Derived.Deep.RegionHeld3
import Derived.Laws.AppendOwnNone
import Derived.Laws.OwnMore
/- A map from numbers to slices, by what each key holds. -/
set_option linter.unusedSimpArgs false
set_option linter.unusedVariables false
namespace Go.Proofs.YtmbboflakfokhaaDoor
open Go.RowKit Go.Maps

/-- A slice's header as a datum. -/
def encS : Value → Option (DataW Unit × List MemPlace)
  | .slice none 0 0 => some (.nil, [])
  | .slice (some ⟨g, off, none⟩) n cap => some (.slice [.lit (.int .i64 g), .lit (.int .i64 off), .lit (.int .i64 n), .lit (.int .i64 cap)] [], [])
  | _ => none
theorem encS_inj {v v' : Value} {d : DataW Unit} {ps ps' : List MemPlace} (h : encS v = some (d, ps)) (h' : encS v' = some (d, ps')) : v = v' := by
  unfold encS at h h'
  split at h <;> split at h' <;> simp_all
  all_goals first
    | (obtain ⟨rfl, _⟩ := h; simp at h'; done)
    | (obtain ⟨rfl, _⟩ := h; simp at h'; omega)
    | (obtain ⟨rfl, _⟩ := h; simp at h'; obtain ⟨a, b, c, d⟩ := h'; subst_vars; simp_all; omega)
    | skip

/-- The map in block b: at most n entries; key p holds F p. -/
def MapAt (w : World) (b n : Nat) (F : Int → Value) : Prop := ∃ D : DataW Unit, w.ownsMap Tryd.prog 3 encS b n D ∧ IsMap D ∧ ∀ p : Int, ∃ ps, encS (F p) = some (D.atKey (.int .i64 p) .nil, ps)
theorem zeroLots (w : World) : (zeroValue 37).run Tryd.prog w = .ok (.slice none 0 0) w := by kernel_rfl
theorem lit64 {p : Int} (h : -9223372036854775808 ≤ p ∧ p ≤ 9223372036854775807) : (Lit.int .i64 p).wf = true := by simp [Lit.wf, IntKind.min, IntKind.max, IntKind.bits, IntKind.signed]; omega
theorem MapAt.made (w : World) : MapAt (w.alloc (.map #[] 0)) w.heap.size 0 (fun _ => .slice none 0 0) := ⟨.map [], World.ownsMap_made w _ _ _, isMap_empty, fun p => ⟨[], rfl⟩⟩
theorem MapAt.kept {w w' : World} {b n : Nat} {F : Int → Value} {row : Option Nat} (h : MapAt w b n F) (hg : w.grownBy w' row) (hne : some b ≠ row) : MapAt w' b n F := by
  obtain ⟨D, h1, h2, h3⟩ := h
  exact ⟨D, h1.kept hg hne, h2, h3⟩
theorem MapAt.lt {w : World} {b n : Nat} {F : Int → Value} (h : MapAt w b n F) : b < w.heap.size := by obtain ⟨D, h1, _⟩ := h; exact h1.lt
theorem MapAt.isMap {w : World} {b n : Nat} {F : Int → Value} (h : MapAt w b n F) : ∃ es c, w.heap[b]? = some (.map es c) := by
  obtain ⟨D, ⟨es, c, h1, _⟩, _⟩ := h
  exact ⟨es, c, h1⟩
theorem MapAt.mono {w : World} {b n m : Nat} {F : Int → Value} (h : MapAt w b n F) (hnm : n ≤ m) : MapAt w b m F := by
  obtain ⟨D, h1, h2⟩ := h
  exact ⟨D, h1.mono hnm, h2⟩
theorem MapAt.alloc {w : World} {b n : Nat} {F : Int → Value} (h : MapAt w b n F) (o : Obj) : MapAt (w.alloc o) b n F := h.kept (World.grownBy_alloc w o none) (by simp)
theorem MapAt.drew {w : World} {b n : Nat} {F : Int → Value} (h : MapAt w b n F) : MapAt w.drew b n F := h
theorem MapAt.lookup {w : World} {b n : Nat} {F : Int → Value} (h : MapAt w b n F) {p : Int} (hp : -9223372036854775808 ≤ p ∧ p ≤ 9223372036854775807) :
    (Instr.lookup 131 (.map (some b)) (.int .i64 p) false).run Tryd.prog w = .ok (F p) w := by
  obtain ⟨D, h1, h2, h3⟩ := h
  obtain ⟨v, ps, hr, hv⟩ := h1.lookup (int_keyed Tryd.underlying3) Tryd.underlying131 (zeroLots w) (zd := .nil) (zp := []) rfl (keyOf_int_mk Tryd.underlying3 (lit64 hp))
  obtain ⟨ps', hv'⟩ := h3 p
  rw [hr, encS_inj hv hv']
theorem MapAt.update {w : World} {b n : Nat} {F : Int → Value} (h : MapAt w b n F) (hn : n < maxLen) {p : Int} (hp : -9223372036854775808 ≤ p ∧ p ≤ 9223372036854775807) (v : Value) (hv : ∃ d, encS v = some (d, [])) :
    ∃ w', (Instr.mapUpdate 131 (.map (some b)) (.int .i64 p) v).run Tryd.prog w = .ok () w' ∧ MapAt w' b (n + 1) (fun q => if q = p then v else F q) ∧ w.grownBy w' (some b) := by
  obtain ⟨D, h1, h2, h3⟩ := h
  obtain ⟨d, hd⟩ := hv
  obtain ⟨w', hr, hm, hg⟩ := h1.update (int_keyed Tryd.underlying3) Tryd.underlying131 hn (keyOf_int_mk Tryd.underlying3 (lit64 hp)) hd
  refine ⟨w', hr, ⟨_, hm, h2.put _ _, fun q => ?_⟩, hg⟩
  by_cases e : q = p
  · subst e
    show ∃ ps, encS (if q = q then v else F q) = _
    rw [if_pos rfl, atKey_put_same (k := .int .i64 q) h2 trivial]
    exact ⟨[], hd⟩
  · show ∃ ps, encS (if q = p then v else F q) = _
    rw [if_neg e, atKey_put_other (by intro e2; cases e2; exact e rfl)]
    exact h3 q

/-- Append to a row leaves what was the row. -/
theorem run_append_keep {P : Program} (t tx ty e : TypeId) (i : TypeInfo) (z : Value) (size bytes : Nat) (ht : P.underlying t = some (.slice e)) (hi : P.info? e = some i) (hz : i.zero = some z)
    (hsize : i.size = size) (hby : i.bytes = bytes) (hzs : z.cells.size = size)
    {w : World} {v x : Value} {n m : Nat} {xs news : List Value} (h : RowAt w e size v n xs) (hs : Src P size tx x m news w)
    (h63 : n + m ≤ maxLen) (hbytes : (n + m) * bytes ≤ 140737488355328) :
    ∃ v' w', (Builtin.append_ #[t, tx] ty #[v, x]).run P w = .ok v' w' ∧ RowAt w' e size v' (n + m) (xs ++ news) ∧ w.grownBy w' v.ownBlock ∧
      (v'.ownBlock = v.ownBlock ∨ v'.ownBlock = some w.heap.size) ∧ (∃ d, encS v' = some (d, [])) ∧ RowAt w' e size v n xs := by
  subst hsize
  subst hby
  have hsmall : n + m ≤ 9223372036854775807 := by simp only [maxLen] at h63; omega
  have hlen : (xs ++ news).length = (n + m) * i.size := by rw [List.length_append, h.1, hs.newsLen, Nat.add_mul]
  have grown : ∀ (old : Nat), old < n + m → ∀ (row : Option Nat),
      RowAt (w.drew.alloc (.cells ((xs ++ news).toArray ++ Builtin.zeroCells z.cells (grownCap w (n + m) old e - (n + m))) e)) e i.size
        (.slice (some ⟨w.heap.size, 0, none⟩) (n + m) (grownCap w (n + m) old e)) (n + m) (xs ++ news) ∧
      w.grownBy (w.drew.alloc (.cells ((xs ++ news).toArray ++ Builtin.zeroCells z.cells (grownCap w (n + m) old e - (n + m))) e)) row := by
    intro old ho row
    have hge := grownCap_ge w (n + m) old e
    have hcm : grownCap w (n + m) old e ≤ maxLen := grownCap_le_maxLen w (n + m) old e h63
    refine ⟨⟨hlen, .inr ⟨w.heap.size, 0, _, _, rfl, ⟨_, heap_alloc_new w.drew _, Unmarked.plain _⟩, hge, hcm, ?_, ?_⟩⟩, ⟨rfl, rfl, rfl, by simp, fun k hk _ => heap_alloc_old w.drew _ hk⟩⟩
    · simp only [Array.size_append, List.size_toArray, size_zeroCells, hzs, hlen, ← Nat.add_mul, Nat.zero_add]
      exact Nat.le_of_eq (by congr 1; omega)
    · simp only [Array.toList_append, List.drop_zero]
      rw [← hlen]
      exact List.take_left
  rcases h.2 with ⟨rfl, rfl⟩ | ⟨g, off, cap, cur, rfl, ⟨fr, hg, hfr⟩, hnc, hcm, hcs, htake⟩
  · have hx : xs = [] := List.eq_nil_of_length_eq_zero (by simpa using h.1)
    subst hx
    by_cases hm : m = 0
    · subst hm
      have hn : news = [] := List.eq_nil_of_length_eq_zero (by simpa using hs.newsLen)
      subst hn
      refine ⟨.slice none 0 0, w, ?_, RowAt.nil w e i.size, grownBy_refl w _, .inl rfl, ⟨_, rfl⟩, RowAt.nil _ _ _⟩
      rcases hs.kind with ⟨e', hk⟩ | hk <;> simp [Builtin.append_, run_underlying ht, run_underlying hk, sizeOf, typeInfo, hi, hs.len, hs.cells, storeCells]
    · have hr := run_append_grow_src (P := P) w t tx ty e i z ht hi hz none 0 0 [] (run_firstCells_none w.drew i.size 0 0 0) x m news hs (by omega) (by omega) (growslice_fits (by omega) hbytes)
      have hgr := grown 0 (by omega) (Value.ownBlock (.slice none 0 0))
      exact ⟨_, _, hr, hgr.1, hgr.2, .inr rfl, ⟨_, rfl⟩, RowAt.nil _ _ _⟩
  · have hadd : ∀ j, (⟨g, off, none⟩ : Addr).add j = ⟨g, off + j, none⟩ := fun j => by unfold Addr.add; by_cases h0 : j = 0 <;> simp [h0]
    have holds : ∀ j u, xs[j]? = some u → w.cell? ((⟨g, off, none⟩ : Addr).add j) = some u := by
      intro j u hj
      rw [← htake, List.getElem?_take] at hj
      split at hj
      · rw [hadd]
        rw [List.getElem?_drop, Array.getElem?_toList] at hj
        simpa [World.cell?, hg] using hj
      · cases hj
    by_cases hroom : n + m ≤ cap
    · have hfit : off + n * i.size + news.length ≤ cur.size := by
        have := Nat.mul_le_mul_right i.size hroom
        rw [Nat.add_mul] at this
        rw [hs.newsLen]; omega
      have hst := run_storeCells_fr P g (off + n * i.size) e fr news 0 cur w hg hfr (by simpa using hfit) hs.one
      simp only [Nat.add_zero] at hst
      have hr : (Builtin.append_ #[t, tx] ty #[.slice (some ⟨g, off, none⟩) n cap, x]).run P w = .ok (.slice (some ⟨g, off, none⟩) (n + m) cap) (w.setRow g (cur.toList.take (off + n * i.size) ++ news ++ cur.toList.drop (off + n * i.size + news.length)).toArray) := by
        rcases hs.kind with ⟨e', hk⟩ | hk <;> simp [Builtin.append_, run_underlying ht, run_underlying hk, sizeOf, typeInfo, hi, hs.len, hroom, hs.cells, hadd, hst]
      refine ⟨_, _, hr, ⟨hlen, .inr ⟨g, off, cap, _, rfl, ⟨_, setRow_heap w g cur _ e _ hg, hfr.imp id (fun h => Nat.le_trans (by simp only [List.size_toArray, List.length_append, List.length_take, List.length_drop, Array.length_toList]; omega) h)⟩, hroom, hcm, ?_, ?_⟩⟩, ⟨rfl, rfl, rfl, by simp, fun k _ hk => setRow_other w g k _ (fun e => hk (by simp [Value.ownBlock, e]))⟩, .inl rfl, ⟨_, rfl⟩, h.1, .inr ⟨g, off, cap, _, rfl, ⟨_, setRow_heap w g cur _ e _ hg, hfr.imp id (fun h => Nat.le_trans (by simp only [List.size_toArray, List.length_append, List.length_take, List.length_drop, Array.length_toList]; omega) h)⟩, hnc, hcm, ?_, ?_⟩⟩
      · simp only [List.size_toArray, List.length_append, List.length_take, List.length_drop, Array.length_toList]
        omega
      · have e1 : cur.toList.take (off + n * i.size) = cur.toList.take off ++ xs := by
          rw [List.take_add, htake]
        have hoff : (cur.toList.take off).length = off := by rw [List.length_take, Array.length_toList]; omega
        simp only [e1, List.append_assoc]
        rw [List.drop_append_of_le_length (by omega), List.drop_of_length_le (by omega), List.nil_append, ← List.append_assoc, ← hlen]
        exact List.take_left
      · simp only [List.size_toArray, List.length_append, List.length_take, List.length_drop, Array.length_toList]
        omega
      · have e1 : cur.toList.take (off + n * i.size) = cur.toList.take off ++ xs := by
          rw [List.take_add, htake]
        have hoff : (cur.toList.take off).length = off := by rw [List.length_take, Array.length_toList]; omega
        simp only [e1, List.append_assoc]
        rw [List.drop_append_of_le_length (by omega), List.drop_of_length_le (by omega), List.nil_append, ← h.1]
        exact List.take_left
    · have hr := run_append_grow_src (P := P) w t tx ty e i z ht hi hz (some ⟨g, off, none⟩) n cap xs (run_firstCells_some w.drew i.size n ⟨g, off, none⟩ n cap xs h.1 (by simpa using holds)) x m news hs (by omega) (by omega) (growslice_fits (by omega) hbytes)
      have hgr := grown cap (by omega) (Value.ownBlock (.slice (some ⟨g, off, none⟩) n cap))
      exact ⟨_, _, hr, hgr.1, hgr.2, .inr rfl, ⟨_, rfl⟩, h.of_block (fun g' hg' => heap_alloc_old w.drew _ (h.lt g' hg'))⟩

theorem step_append_keep {P : Program} {ops : Array Oper} {o : Oper} {a : Act} {w : World} {K : Act → World → Prop} {Q : Exit → Act → World → Prop} {E : Prop} (hgd : o.guard = none) (s x : Operand) (t tx : TypeId)
    (ho : o.op = .call { callee := .builtin .append, args := #[s, x], argTypes := #[t, tx] })
    (e : TypeId) (i : TypeInfo) (z : Value) (size bytes : Nat) (ht : P.underlying t = some (.slice e)) (hi : P.info? e = some i) (hz : i.zero = some z)
    (hsize : i.size = size) (hby : i.bytes = bytes) (hzs : z.cells.size = size)
    (v y : Value) (n m : Nat) (xs news : List Value) (hv : a.eval s = v) (hy : a.eval x = y) (h : RowAt w e size v n xs) (hs : Src P size tx y m news w)
    (h63 : n + m ≤ maxLen) (hbytes : (n + m) * bytes ≤ 140737488355328)
    (hK : ∀ v' w', RowAt w' e size v' (n + m) (xs ++ news) → w.grownBy w' v.ownBlock → (v'.ownBlock = v.ownBlock ∨ v'.ownBlock = some w.heap.size) → (∃ d, encS v' = some (d, [])) → RowAt w' e size v n xs → K (a.put o.dst v') w') :
    if Region.wanted o (yielded ops a.tmps) = true then Oper.wp P o a w K Q else E := by
  have hw : Region.wanted o (yielded ops a.tmps) = true := by simp [Region.wanted, hgd]
  rw [if_pos hw]
  obtain ⟨v', w', hr, h1, h2, h3, h4, h5⟩ := run_append_keep (P := P) t tx o.type e i z size bytes ht hi hz hsize hby hzs h hs h63 hbytes
  unfold Oper.wp execOp
  simp only [ho, resolve, invoke, builtin, Sem.run_bind, Sem.run_pure, Result.andThen_ok, List.map_toArray, List.map_cons, List.map_nil, hv, hy, hr]
  exact hK v' w' h1 h2 h3 h4 h5
end Go.Proofs.YtmbboflakfokhaaDoor

/- What curve's Check computes. -/
set_option linter.unusedSimpArgs false
set_option linter.unusedVariables false
namespace Go.Proofs.YtmbboflakfokhaaDoor
open Go.RowKit

theorem LotsAt.ex {w w' : World} {ao : Option Addr} {len : Nat} {l : List Lot} (h : LotsAt w ao len l) (hx : Ex w w') : LotsAt w' ao len l := by
  obtain ⟨h1, h2, h3, h4⟩ := h
  refine ⟨h1, h2, h3, fun h0 => ?_⟩
  obtain ⟨b, off, e, hb, hc⟩ := h4 h0
  exact ⟨b, off, e, Nat.lt_of_lt_of_le hb hx.below.size, fun k hk j hj => (hx.below.cell (p := ⟨b, off + k * 5 + j, none⟩) hb).trans (hc k hk j hj)⟩
theorem LotsAt.take {w : World} {ao : Option Addr} {len : Nat} {l : List Lot} (h : LotsAt w ao len l) (k : Nat) (hk : k ≤ len) : LotsAt w ao k (l.take k) := by
  obtain ⟨h1, h2, h3, h4⟩ := h
  refine ⟨by simp; omega, by omega, fun a ha => h3 a (List.mem_of_mem_take ha), fun h0 => ?_⟩
  obtain ⟨b, off, e, hb, hc⟩ := h4 (by omega)
  exact ⟨b, off, e, hb, fun j hj i hi => by rw [hc j (by simp at hj; omega) i hi, List.getElem_take]⟩

theorem idIdx_nonneg (l : List Lot) (id : Int) : decide (idIdx l id ≥ 0) = l.any (fun y => y.id == id) := by
  unfold idIdx
  cases h : l.findIdx? (fun y => y.id == id) with
  | none =>
    rw [List.findIdx?_eq_none_iff] at h
    have : l.any (fun y => y.id == id) = false := by
      rw [List.any_eq_false]
      intro y hy
      simpa using h y hy
    rw [this]; rfl
  | some k =>
    rw [List.findIdx?_eq_some_iff_getElem] at h
    obtain ⟨hk, hp, _⟩ := h
    have : l.any (fun y => y.id == id) = true := List.any_eq_true.2 ⟨_, List.getElem_mem hk, hp⟩
    rw [this]; simp

set_option maxRecDepth 100000 in
theorem contains_any (ao : Option Addr) (len cap : Nat) (l : List Lot) (id : Int) (xb : Nat) (w : World) (hl : LotsAt w ao len l) (hx : w.cell? ⟨xb, 0, none⟩ = some (.int .i64 id)) :
    Calls Tryd.prog 51 #[.slice ao len cap, .func (.func 52) #[] #[.pointer (some ⟨xb, 0, none⟩)]] w fun e w' =>
      e = .returned (.bool (l.any fun y => y.id == id)) ∧ Ex w w' := by
  have H := Lib.hid (index_any ao len cap l id xb w hl hx)
  have hi := idIdx_nonneg l id
  clear hl hx
  go_enter Tryd.func51, Tryd.ntmps51
  go_wp2_with (go_at_call 60; refine H.out.mono ?_; rintro e w1 ⟨rfl, l1, d1, rfl⟩)
  all_goals go_ret
  all_goals exact ⟨ret_bool (by first | rfl | exact hi), (by repeat (first | exact Ex.refl _ | refine Ex.alloc ?_ _ | refine Ex.ext ?_ _ _ | refine Ex.drew ?_ | refine Ex.drewN ?_ _))⟩

/-- What is wrong with a lot at its place (0: nothing). -/
def codeAt (l : List Lot) (k : Nat) : Nat := match l[k]? with
  | none => 0
  | some x => if x.ok then (if (l.take k).any (fun y => y.id == x.id) then 7 else 0) else 2
theorem codeAt_at {l : List Lot} {k : Nat} {x : Lot} (h : l[k]? = some x) : codeAt l k = if x.ok then (if (l.take k).any (fun y => y.id == x.id) then 7 else 0) else 2 := by simp [codeAt, h]
/-- Lots are well. -/
def LotsOk (l : List Lot) : Prop := l.length ≤ 120 ∧ ∀ k, k < l.length → codeAt l k = 0
/-- What Check hands back. -/
def CheckV (E : Nat → Addr) (w w' : World) (l : List Lot) (v : Value) : Prop :=
  (120 < l.length ∧ v = errV E 8) ∨ (LotsOk l ∧ v = .nilIface) ∨
  ∃ k b, l.length ≤ 120 ∧ k < l.length ∧ (∀ j, j < k → codeAt l j = 0) ∧ codeAt l k ≠ 0 ∧ v = .iface 115 (.pointer (some ⟨b, 0, none⟩)) ∧ w.heap.size ≤ b ∧
    w'.heap[b]? = some (.cells #[.int .i64 k, errV E (codeAt l k)] 117 (0, 0))
end Go.Proofs.YtmbboflakfokhaaDoor

/- What curve's Check computes: the walk. -/
set_option linter.unusedSimpArgs false
set_option linter.unusedVariables false
namespace Go.Proofs.YtmbboflakfokhaaDoor
open Go.RowKit

theorem alloc_at {w : World} {o : Obj} {n : Nat} (h : n = w.heap.size) : (w.alloc o).heap[n]? = some o := by
  subst h; show (w.heap.push o)[w.heap.size]? = some o; simp

set_option maxRecDepth 100000 in
set_option maxHeartbeats 2000000 in
theorem check_any (ao : Option Addr) (len cap : Nat) (l : List Lot) (E : Nat → Addr) (w : World) (hcap : len ≤ cap) (hE : Errs E [2, 7, 8] w) (hl : LotsAt w ao len l) :
    Calls Tryd.prog 35 #[.slice ao len cap] w fun e w' => (∃ v, e = .returned v ∧ CheckV E w w' l v) ∧ Ex w w' := by
  have hlen := hl.1
  have hmx := hl.2.1
  by_cases h120 : len > 120
  · have e8 : w.cell? ⟨2, 0, none⟩ = some (.iface 160 (.pointer (some (E 8)))) := hE 8 (by decide)
    have b8 : 2 < w.heap.size := lt_of_cell e8
    clear hE
    go_enter Tryd.func35, Tryd.ntmps35
    go_wp2
    go_ret
    exact ⟨⟨_, rfl, Or.inl ⟨by omega, rfl⟩⟩, (by repeat (first | exact Ex.refl _ | refine Ex.alloc ?_ _ | refine Ex.ext ?_ _ _ | refine Ex.drew ?_ | refine Ex.drewN ?_ _))⟩
  have HL := Lib.hid hlen
  have HLA := Lib.hid hl
  have HE := Lib.hid hE
  clear hl hlen hE
  go_enter Tryd.func35, Tryd.ntmps35
  go_wp2
  go_loopw [12] (fun i wr => ∃ (k : Nat), k ≤ len ∧ i = .int .i64 k ∧ (∀ j, j < k → codeAt l j = 0) ∧ Ex w wr) (fun i _ => len - (intOf i).toNat)
  case atStart => exact ⟨0, Nat.zero_le _, rfl, (fun j h => absurd h (Nat.not_lt_zero _)), (by repeat (first | exact Ex.refl _ | refine Ex.alloc ?_ _ | refine Ex.ext ?_ _ _ | refine Ex.drew ?_ | refine Ex.drewN ?_ _))⟩
  case round =>
    obtain ⟨k, hk, rfl, hn, l1, d1, rfl⟩ := hrel
    have HN := Lib.hid hn
    clear hn
    by_cases hlt : k < len
    · have hl := HLA.out
      have hE := HE.out
      obtain ⟨b, off, rfl, hbs, hz⟩ := hl.2.2.2 (by omega)
      have hzk := hz k (by rw [HL.out]; exact hlt)
      clear hz
      have HT := Lib.hid (hl.take k (by omega))
      have hg : ∃ a, l[k]? = some a ∧ a = l[k]'(by rw [HL.out]; exact hlt) := ⟨_, List.getElem?_eq_getElem (by rw [HL.out]; exact hlt), rfl⟩
      obtain ⟨a, ha0, ha⟩ := hg
      rw [← ha] at hzk
      clear ha
      have hcd := codeAt_at ha0
      clear ha0
      have a0 := hzk 0 (by omega)
      have a1 := hzk 1 (by omega)
      have a2 := hzk 2 (by omega)
      have a3 := hzk 3 (by omega)
      have a4 := hzk 4 (by omega)
      simp only [Lot.cells, List.getElem?_cons_zero, List.getElem?_cons_succ, Nat.add_zero] at a0 a1 a2 a3 a4
      clear hzk
      have H1 := one_any a E
      by_cases hok : a.ok = true
      · rw [hok] at H1 hcd
        simp only [if_true, errV_zero] at H1 hcd
        have HO := Lib.hid H1
        clear H1 hok
        have HC := Lib.hid hcd
        clear hcd
        have hkc : k ≤ cap := by omega
        have e7 : w.cell? ⟨4, 0, none⟩ = some (.iface 160 (.pointer (some (E 7)))) := hE 7 (by decide)
        have b7 : 4 < w.heap.size := lt_of_cell e7
        go_wp2_with (first
          | (go_at_call 48; refine (HO.out _ (by exact Errs.sub (hE.ex (by repeat (first | exact Ex.refl _ | refine Ex.alloc ?_ _ | refine Ex.ext ?_ _ _ | refine Ex.drew ?_ | refine Ex.drewN ?_ _))) (by decide))).mono ?_; rintro e w1 ⟨rfl, l2, d2, rfl⟩)
          | (go_at_call 51; refine (contains_any _ k cap (l.take k) a.id _ _ (HT.out.ex (by repeat (first | exact Ex.refl _ | refine Ex.alloc ?_ _ | refine Ex.ext ?_ _ _ | refine Ex.drew ?_ | refine Ex.drewN ?_ _))) (by simp [go_sem, ↓IntWalk.iteOmega])).mono ?_; rintro e w1 ⟨rfl, l3, d3, rfl⟩))
        · go_ret
          have hc7 : codeAt l k = 7 := by first | exact HC.out | (rw [HC.out]; simp [*])
          exact ⟨⟨_, rfl, Or.inr (Or.inr ⟨k, _, by have := HL.out; omega, by have := HL.out; omega, HN.out, by rw [hc7]; decide, rfl, (by first | omega | (simp [go_sem]; done) | (simp [go_sem]; omega)), by rw [hc7]; exact alloc_at (by first | omega | (simp [go_sem]; done) | (simp [go_sem]; omega))⟩)⟩, (by repeat (first | exact Ex.refl _ | refine Ex.alloc ?_ _ | refine Ex.ext ?_ _ _ | refine Ex.drew ?_ | refine Ex.drewN ?_ _))⟩
        · have hc0 : codeAt l k = 0 := by rw [HC.out]; simp [*]
          go_roundw
          case measure => simp [intOf]; omega
          case rel =>
            refine ⟨k + 1, by omega, by go_num, fun j hj => ?_, (by repeat (first | exact Ex.refl _ | refine Ex.alloc ?_ _ | refine Ex.ext ?_ _ _ | refine Ex.drew ?_ | refine Ex.drewN ?_ _))⟩
            by_cases e : j = k
            · rw [e]; exact hc0
            · exact HN.out j (by omega)
      · have hok : a.ok = false := by simpa using hok
        rw [hok] at H1 hcd
        simp only [Bool.false_eq_true, if_false, errV_pos E 2 (by decide)] at H1 hcd
        have HO := Lib.hid H1
        clear H1 hok
        have HC := Lib.hid hcd
        clear hcd
        have e2 : w.cell? ⟨0, 0, none⟩ = some (.iface 160 (.pointer (some (E 2)))) := hE 2 (by decide)
        have b2 : 0 < w.heap.size := lt_of_cell e2
        go_wp2_with (go_at_call 48; refine (HO.out _ (by exact Errs.sub (hE.ex (by repeat (first | exact Ex.refl _ | refine Ex.alloc ?_ _ | refine Ex.ext ?_ _ _ | refine Ex.drew ?_ | refine Ex.drewN ?_ _))) (by decide))).mono ?_; rintro e w1 ⟨rfl, l2, d2, rfl⟩)
        go_ret
        have hc7 : codeAt l k = 2 := by first | exact HC.out | (rw [HC.out]; simp [*])
        exact ⟨⟨_, rfl, Or.inr (Or.inr ⟨k, _, by have := HL.out; omega, by have := HL.out; omega, HN.out, by rw [hc7]; decide, rfl, (by first | omega | (simp [go_sem]; done) | (simp [go_sem]; omega)), by rw [hc7]; exact alloc_at (by first | omega | (simp [go_sem]; done) | (simp [go_sem]; omega))⟩)⟩, (by repeat (first | exact Ex.refl _ | refine Ex.alloc ?_ _ | refine Ex.ext ?_ _ _ | refine Ex.drew ?_ | refine Ex.drewN ?_ _))⟩
    · go_wp2
      go_ret
      exact ⟨⟨_, rfl, Or.inr (Or.inl ⟨⟨by have := HL.out; omega, fun j hj => HN.out j (by have := HL.out; omega)⟩, rfl⟩)⟩, (by repeat (first | exact Ex.refl _ | refine Ex.alloc ?_ _ | refine Ex.ext ?_ _ _ | refine Ex.drew ?_ | refine Ex.drewN ?_ _))⟩
end Go.Proofs.YtmbboflakfokhaaDoor

/- What curve's Demand and Supply compute. -/
set_option linter.unusedSimpArgs false
set_option linter.unusedVariables false
namespace Go.Proofs.YtmbboflakfokhaaDoor
open Go.RowKit

theorem CheckV.ok {E : Nat → Addr} {w w' : World} {l : List Lot} {v : Value} (h : LotsOk l) (hv : CheckV E w w' l v) : v = .nilIface := by
  rcases hv with ⟨h1, _⟩ | ⟨_, h1⟩ | ⟨k, b, _, hk, _, hn, _⟩
  · exact absurd h.1 (by omega)
  · exact h1
  · exact absurd (h.2 k hk) hn
theorem CheckV.bad {E : Nat → Addr} {w w' : World} {l : List Lot} {v : Value} (h : ¬ LotsOk l) (hv : CheckV E w w' l v) : ∃ u x, v = .iface u x := by
  rcases hv with ⟨h1, e⟩ | ⟨h1, _⟩ | ⟨k, b, _, hk, _, hn, e, _⟩
  · exact ⟨_, _, e.trans (errV_pos E 8 (by decide))⟩
  · exact absurd h1 h
  · exact ⟨_, _, e⟩

def isDem (p : Int) (x : Lot) : Bool := x.side == 0 && decide (x.price ≥ p)
def isSup (p : Int) (x : Lot) : Bool := x.side == 1 && decide (x.price ≤ p)
/-- The quantities of those that are so. -/
def sumOf (is : Lot → Bool) : List Lot → Int
  | [] => 0
  | x :: l => (if is x then x.qty else 0) + sumOf is l
theorem sumOf_append (is : Lot → Bool) (a b : List Lot) : sumOf is (a ++ b) = sumOf is a + sumOf is b := by
  induction a with
  | nil => simp [sumOf]
  | cons x a ih => simp only [List.cons_append, sumOf, ih]; omega
theorem sumOf_step (is : Lot → Bool) {l : List Lot} {k : Nat} {x : Lot} (h : l[k]? = some x) : sumOf is (l.take (k + 1)) = sumOf is (l.take k) + if is x then x.qty else 0 := by
  rw [List.take_add_one, h, sumOf_append]; simp [sumOf]
open Classical in
/-- What the sums come to: nothing where the lots are not well. -/
noncomputable def curveSum (is : Lot → Bool) (l : List Lot) : Int := if LotsOk l then sumOf is l else 0
theorem curveSum_ok {is : Lot → Bool} {l : List Lot} (h : LotsOk l) : curveSum is l = sumOf is l := if_pos h
theorem curveSum_not (is : Lot → Bool) {l : List Lot} (h : ¬ LotsOk l) : curveSum is l = 0 := if_neg h
theorem LotsOk.ok {l : List Lot} (h : LotsOk l) {k : Nat} {x : Lot} (hx : l[k]? = some x) : x.ok = true := by
  obtain ⟨hk, _⟩ := List.getElem?_eq_some_iff.1 hx
  have := h.2 k hk
  rw [codeAt_at hx] at this
  cases e : x.ok
  · simp [e] at this
  · rfl
theorem Lot.ok_iff {x : Lot} : x.ok = true ↔ (1 ≤ x.id ∧ x.id ≤ 1073741824) ∧ (0 ≤ x.owner ∧ x.owner ≤ 5) ∧ (0 ≤ x.side ∧ x.side ≤ 1) ∧ (1 ≤ x.price ∧ x.price ≤ 1000) ∧ (1 ≤ x.qty ∧ x.qty ≤ 1000) := by
  simp only [Lot.ok, Bool.and_eq_true, inR_iff, and_assoc]
theorem LotsOk.qty {l : List Lot} (h : LotsOk l) {k : Nat} {x : Lot} (hx : l[k]? = some x) : 1 ≤ x.qty ∧ x.qty ≤ 1000 := (Lot.ok_iff.1 (h.ok hx)).2.2.2.2
theorem sumOf_bounds (is : Lot → Bool) : ∀ (l : List Lot), (∀ x ∈ l, x.ok = true) → 0 ≤ sumOf is l ∧ sumOf is l ≤ 1000 * l.length
  | [], _ => by simp [sumOf]
  | x :: l, h => by
    have hx := (Lot.ok_iff.1 (h x (by simp))).2.2.2.2
    have ih := sumOf_bounds is l fun y hy => h y (by simp [hy])
    simp only [sumOf, List.length_cons]
    split <;> omega
theorem LotsOk.mem {l : List Lot} (h : LotsOk l) : ∀ x ∈ l, x.ok = true := fun x hx => by
  obtain ⟨k, hk, rfl⟩ := List.getElem_of_mem hx
  exact h.ok (List.getElem?_eq_getElem hk)
theorem LotsOk.sum_bounds {l : List Lot} (h : LotsOk l) (is : Lot → Bool) (k : Nat) : 0 ≤ sumOf is (l.take k) ∧ sumOf is (l.take k) ≤ 120000 := by
  have := sumOf_bounds is (l.take k) fun x hx => h.mem x (List.mem_of_mem_take hx)
  have h1 := h.1
  have : (l.take k).length ≤ 120 := by simp; omega
  omega

set_option maxRecDepth 100000 in
theorem dem1_any (y : Lot) (p : Int) (pb : Nat) (w : World) (hx : w.cell? ⟨pb, 0, none⟩ = some (.int .i64 p)) :
    Calls Tryd.prog 72 #[y.val, .pointer (some ⟨pb, 0, none⟩)] w fun e w' => e = .returned (.bool (isDem p y)) ∧ Ex w w' := by
  have hb := lt_of_cell hx
  by_cases h : y.side = 0
  · go_enter Tryd.func72, Tryd.ntmps72
    go_wp2
    all_goals go_ret
    all_goals exact ⟨ret_bool (by simp [isDem, h]), (by repeat (first | exact Ex.refl _ | refine Ex.alloc ?_ _ | refine Ex.ext ?_ _ _ | refine Ex.drew ?_ | refine Ex.drewN ?_ _))⟩
  · go_enter Tryd.func72, Tryd.ntmps72
    go_wp2
    all_goals go_ret
    all_goals exact ⟨ret_bool (by simp [isDem, h]), (by repeat (first | exact Ex.refl _ | refine Ex.alloc ?_ _ | refine Ex.ext ?_ _ _ | refine Ex.drew ?_ | refine Ex.drewN ?_ _))⟩
set_option maxRecDepth 100000 in
theorem sup1_any (y : Lot) (p : Int) (pb : Nat) (w : World) (hx : w.cell? ⟨pb, 0, none⟩ = some (.int .i64 p)) :
    Calls Tryd.prog 73 #[y.val, .pointer (some ⟨pb, 0, none⟩)] w fun e w' => e = .returned (.bool (isSup p y)) ∧ Ex w w' := by
  have hb := lt_of_cell hx
  by_cases h : y.side = 1
  · go_enter Tryd.func73, Tryd.ntmps73
    go_wp2
    all_goals go_ret
    all_goals exact ⟨ret_bool (by simp [isSup, h]), (by repeat (first | exact Ex.refl _ | refine Ex.alloc ?_ _ | refine Ex.ext ?_ _ _ | refine Ex.drew ?_ | refine Ex.drewN ?_ _))⟩
  · go_enter Tryd.func73, Tryd.ntmps73
    go_wp2
    all_goals go_ret
    all_goals exact ⟨ret_bool (by simp [isSup, h]), (by repeat (first | exact Ex.refl _ | refine Ex.alloc ?_ _ | refine Ex.ext ?_ _ _ | refine Ex.drew ?_ | refine Ex.drewN ?_ _))⟩

set_option maxRecDepth 100000 in
set_option maxHeartbeats 2000000 in
theorem sumDem_any (ao : Option Addr) (len cap : Nat) (l : List Lot) (p : Int) (pb : Nat) (E : Nat → Addr) (w : World) (hcap : len ≤ cap) (hE : Errs E [2, 7, 8] w) (hl : LotsAt w ao len l) (hx : w.cell? ⟨pb, 0, none⟩ = some (.int .i64 p)) :
    Calls Tryd.prog 71 #[.slice ao len cap, .func (.func 72) #[] #[.pointer (some ⟨pb, 0, none⟩)]] w fun e w' => e = .returned (.int .i64 (curveSum (isDem p) l)) ∧ Ex w w' := by
  have HC := Lib.hid (check_any ao len cap l E w hcap hE hl)
  by_cases hok : LotsOk l
  · have hlen := hl.1
    have hmx := hl.2.1
    have hpb := lt_of_cell hx
    have h120 := hok.1
    have HL := Lib.hid hlen
    have HLA := Lib.hid hl
    have HOK := Lib.hid hok
    clear hl hlen hE hok
    go_enter Tryd.func71, Tryd.ntmps71
    go_wp2_with (go_at_call 35; refine HC.out.mono ?_; rintro e w1 ⟨⟨v, rfl, hv⟩, l1, d1, rfl⟩; have hvn := CheckV.ok HOK.out hv; clear hv; subst hvn)
    go_loopw [5, 13] (fun n i wr => ∃ (k : Nat), k ≤ len ∧ i = .int .i64 k ∧ n = .int .i64 (sumOf (isDem p) (l.take k)) ∧ Ex w wr) (fun _ i _ => len - (intOf i).toNat)
    case atStart => exact ⟨0, Nat.zero_le _, rfl, (by simp [sumOf]), (by repeat (first | exact Ex.refl _ | refine Ex.alloc ?_ _ | refine Ex.ext ?_ _ _ | refine Ex.drew ?_ | refine Ex.drewN ?_ _))⟩
    case round =>
      obtain ⟨k, hk, rfl, rfl, l2, d2, rfl⟩ := hrel
      by_cases hlt : k < len
      · have hl := HLA.out
        obtain ⟨b, off, rfl, hbs, hz⟩ := hl.2.2.2 (by omega)
        have hzk := hz k (by rw [HL.out]; exact hlt)
        clear hz
        have hg : ∃ a, l[k]? = some a ∧ a = l[k]'(by rw [HL.out]; exact hlt) := ⟨_, List.getElem?_eq_getElem (by rw [HL.out]; exact hlt), rfl⟩
        obtain ⟨a, ha0, ha⟩ := hg
        rw [← ha] at hzk
        clear ha
        have hstep := sumOf_step (isDem p) ha0
        obtain ⟨hb0, hb1⟩ := HOK.out.sum_bounds (isDem p) k
        obtain ⟨hq0, hq1⟩ := HOK.out.qty ha0
        clear ha0
        have a0 := hzk 0 (by omega)
        have a1 := hzk 1 (by omega)
        have a2 := hzk 2 (by omega)
        have a3 := hzk 3 (by omega)
        have a4 := hzk 4 (by omega)
        simp only [Lot.cells, List.getElem?_cons_zero, List.getElem?_cons_succ, Nat.add_zero] at a0 a1 a2 a3 a4
        clear hzk hl
        have HS := Lib.hid hstep
        clear hstep
        generalize sumOf (isDem p) (l.take k) = n at *
        go_wp2_with (go_at_call 72; refine (dem1_any a p pb _ (by simp [go_sem, ↓IntWalk.iteOmega, *])).mono ?_; rintro e w1 ⟨rfl, l3, d3, rfl⟩)
        all_goals
          go_roundw
          case measure => simp [intOf]; omega
          case rel => exact ⟨k + 1, by omega, by go_num, by first | (rw [HS.out, if_pos (by assumption)]; done) | (rw [HS.out, if_neg (by simp [*]), Int.add_zero]; done), (by repeat (first | exact Ex.refl _ | refine Ex.alloc ?_ _ | refine Ex.ext ?_ _ _ | refine Ex.drew ?_ | refine Ex.drewN ?_ _))⟩
      · go_wp2
        go_ret
        exact ⟨ret_int (by rw [curveSum_ok HOK.out, List.take_of_length_le (by have := HL.out; omega)]), (by repeat (first | exact Ex.refl _ | refine Ex.alloc ?_ _ | refine Ex.ext ?_ _ _ | refine Ex.drew ?_ | refine Ex.drewN ?_ _))⟩
  · have h0 := curveSum_not (isDem p) hok
    rw [h0]
    have HOK := Lib.hid hok
    clear hl hE hok h0
    go_enter Tryd.func71, Tryd.ntmps71
    go_wp2_with (go_at_call 35; refine HC.out.mono ?_; rintro e w1 ⟨⟨v, rfl, hv⟩, l1, d1, rfl⟩; obtain ⟨u, x, rfl⟩ := CheckV.bad HOK.out hv; clear hv)
    all_goals go_ret
    all_goals exact ⟨rfl, (by repeat (first | exact Ex.refl _ | refine Ex.alloc ?_ _ | refine Ex.ext ?_ _ _ | refine Ex.drew ?_ | refine Ex.drewN ?_ _))⟩
set_option maxRecDepth 100000 in
set_option maxHeartbeats 2000000 in
theorem sumSup_any (ao : Option Addr) (len cap : Nat) (l : List Lot) (p : Int) (pb : Nat) (E : Nat → Addr) (w : World) (hcap : len ≤ cap) (hE : Errs E [2, 7, 8] w) (hl : LotsAt w ao len l) (hx : w.cell? ⟨pb, 0, none⟩ = some (.int .i64 p)) :
    Calls Tryd.prog 71 #[.slice ao len cap, .func (.func 73) #[] #[.pointer (some ⟨pb, 0, none⟩)]] w fun e w' => e = .returned (.int .i64 (curveSum (isSup p) l)) ∧ Ex w w' := by
  have HC := Lib.hid (check_any ao len cap l E w hcap hE hl)
  by_cases hok : LotsOk l
  · have hlen := hl.1
    have hmx := hl.2.1
    have hpb := lt_of_cell hx
    have h120 := hok.1
    have HL := Lib.hid hlen
    have HLA := Lib.hid hl
    have HOK := Lib.hid hok
    clear hl hlen hE hok
    go_enter Tryd.func71, Tryd.ntmps71
    go_wp2_with (go_at_call 35; refine HC.out.mono ?_; rintro e w1 ⟨⟨v, rfl, hv⟩, l1, d1, rfl⟩; have hvn := CheckV.ok HOK.out hv; clear hv; subst hvn)
    go_loopw [5, 13] (fun n i wr => ∃ (k : Nat), k ≤ len ∧ i = .int .i64 k ∧ n = .int .i64 (sumOf (isSup p) (l.take k)) ∧ Ex w wr) (fun _ i _ => len - (intOf i).toNat)
    case atStart => exact ⟨0, Nat.zero_le _, rfl, (by simp [sumOf]), (by repeat (first | exact Ex.refl _ | refine Ex.alloc ?_ _ | refine Ex.ext ?_ _ _ | refine Ex.drew ?_ | refine Ex.drewN ?_ _))⟩
    case round =>
      obtain ⟨k, hk, rfl, rfl, l2, d2, rfl⟩ := hrel
      by_cases hlt : k < len
      · have hl := HLA.out
        obtain ⟨b, off, rfl, hbs, hz⟩ := hl.2.2.2 (by omega)
        have hzk := hz k (by rw [HL.out]; exact hlt)
        clear hz
        have hg : ∃ a, l[k]? = some a ∧ a = l[k]'(by rw [HL.out]; exact hlt) := ⟨_, List.getElem?_eq_getElem (by rw [HL.out]; exact hlt), rfl⟩
        obtain ⟨a, ha0, ha⟩ := hg
        rw [← ha] at hzk
        clear ha
        have hstep := sumOf_step (isSup p) ha0
        obtain ⟨hb0, hb1⟩ := HOK.out.sum_bounds (isSup p) k
        obtain ⟨hq0, hq1⟩ := HOK.out.qty ha0
        clear ha0
        have a0 := hzk 0 (by omega)
        have a1 := hzk 1 (by omega)
        have a2 := hzk 2 (by omega)
        have a3 := hzk 3 (by omega)
        have a4 := hzk 4 (by omega)
        simp only [Lot.cells, List.getElem?_cons_zero, List.getElem?_cons_succ, Nat.add_zero] at a0 a1 a2 a3 a4
        clear hzk hl
        have HS := Lib.hid hstep
        clear hstep
        generalize sumOf (isSup p) (l.take k) = n at *
        go_wp2_with (go_at_call 73; refine (sup1_any a p pb _ (by simp [go_sem, ↓IntWalk.iteOmega, *])).mono ?_; rintro e w1 ⟨rfl, l3, d3, rfl⟩)
        all_goals
          go_roundw
          case measure => simp [intOf]; omega
          case rel => exact ⟨k + 1, by omega, by go_num, by first | (rw [HS.out, if_pos (by assumption)]; done) | (rw [HS.out, if_neg (by simp [*]), Int.add_zero]; done), (by repeat (first | exact Ex.refl _ | refine Ex.alloc ?_ _ | refine Ex.ext ?_ _ _ | refine Ex.drew ?_ | refine Ex.drewN ?_ _))⟩
      · go_wp2
        go_ret
        exact ⟨ret_int (by rw [curveSum_ok HOK.out, List.take_of_length_le (by have := HL.out; omega)]), (by repeat (first | exact Ex.refl _ | refine Ex.alloc ?_ _ | refine Ex.ext ?_ _ _ | refine Ex.drew ?_ | refine Ex.drewN ?_ _))⟩
  · have h0 := curveSum_not (isSup p) hok
    rw [h0]
    have HOK := Lib.hid hok
    clear hl hE hok h0
    go_enter Tryd.func71, Tryd.ntmps71
    go_wp2_with (go_at_call 35; refine HC.out.mono ?_; rintro e w1 ⟨⟨v, rfl, hv⟩, l1, d1, rfl⟩; obtain ⟨u, x, rfl⟩ := CheckV.bad HOK.out hv; clear hv)
    all_goals go_ret
    all_goals exact ⟨rfl, (by repeat (first | exact Ex.refl _ | refine Ex.alloc ?_ _ | refine Ex.ext ?_ _ _ | refine Ex.drew ?_ | refine Ex.drewN ?_ _))⟩

set_option maxRecDepth 100000 in
theorem demand_any (ao : Option Addr) (len cap : Nat) (l : List Lot) (p : Int) (E : Nat → Addr) (w : World) (hcap : len ≤ cap) (hE : Errs E [2, 7, 8] w) (hl : LotsAt w ao len l) :
    Calls Tryd.prog 65 #[.slice ao len cap, .int .i64 p] w fun e w' => e = .returned (.int .i64 (curveSum (isDem p) l)) ∧ Ex w w' := by
  have HL := Lib.hid hl
  clear hl
  go_enter Tryd.func65, Tryd.ntmps65
  go_wp2_with (go_at_call 71; refine (sumDem_any _ _ _ l p _ E _ hcap (by exact Errs.sub (hE.ex (by repeat (first | exact Ex.refl _ | refine Ex.alloc ?_ _ | refine Ex.ext ?_ _ _ | refine Ex.drew ?_ | refine Ex.drewN ?_ _))) (by decide)) (HL.out.ex (by repeat (first | exact Ex.refl _ | refine Ex.alloc ?_ _ | refine Ex.ext ?_ _ _ | refine Ex.drew ?_ | refine Ex.drewN ?_ _))) (by simp [go_sem, ↓IntWalk.iteOmega])).mono ?_; rintro e w1 ⟨rfl, l3, d3, rfl⟩)
  all_goals go_ret
  all_goals exact ⟨rfl, (by repeat (first | exact Ex.refl _ | refine Ex.alloc ?_ _ | refine Ex.ext ?_ _ _ | refine Ex.drew ?_ | refine Ex.drewN ?_ _))⟩
set_option maxRecDepth 100000 in
theorem supply_any (ao : Option Addr) (len cap : Nat) (l : List Lot) (p : Int) (E : Nat → Addr) (w : World) (hcap : len ≤ cap) (hE : Errs E [2, 7, 8] w) (hl : LotsAt w ao len l) :
    Calls Tryd.prog 66 #[.slice ao len cap, .int .i64 p] w fun e w' => e = .returned (.int .i64 (curveSum (isSup p) l)) ∧ Ex w w' := by
  have HL := Lib.hid hl
  clear hl
  go_enter Tryd.func66, Tryd.ntmps66
  go_wp2_with (go_at_call 71; refine (sumSup_any _ _ _ l p _ E _ hcap (by exact Errs.sub (hE.ex (by repeat (first | exact Ex.refl _ | refine Ex.alloc ?_ _ | refine Ex.ext ?_ _ _ | refine Ex.drew ?_ | refine Ex.drewN ?_ _))) (by decide)) (HL.out.ex (by repeat (first | exact Ex.refl _ | refine Ex.alloc ?_ _ | refine Ex.ext ?_ _ _ | refine Ex.drew ?_ | refine Ex.drewN ?_ _))) (by simp [go_sem, ↓IntWalk.iteOmega])).mono ?_; rintro e w1 ⟨rfl, l3, d3, rfl⟩)
  all_goals go_ret
  all_goals exact ⟨rfl, (by repeat (first | exact Ex.refl _ | refine Ex.alloc ?_ _ | refine Ex.ext ?_ _ _ | refine Ex.drew ?_ | refine Ex.drewN ?_ _))⟩
end Go.Proofs.YtmbboflakfokhaaDoor

/- Plain facts: the levels of a side. -/
set_option linter.unusedSimpArgs false
set_option linter.unusedVariables false
namespace Go.Proofs.YtmbboflakfokhaaDoor
open Go.RowKit

/-- May a lot trade on a side at a price? -/
def mayT (side price : Int) (x : Lot) : Bool := x.side == side && !(side == 0 && decide (x.price < price)) && !(side == 1 && decide (x.price > price))
/-- The lots of a level, in their order. -/
def lotsAtP (side price p : Int) (l : List Lot) : List Lot := l.filter fun x => mayT side price x && x.price == p
theorem lotsAtP_step (side price p : Int) {l : List Lot} {k : Nat} {x : Lot} (h : l[k]? = some x) : lotsAtP side price p (l.take (k + 1)) = lotsAtP side price p (l.take k) ++ (if mayT side price x && x.price == p then [x] else []) := by
  rw [List.take_add_one, h, lotsAtP, List.filter_append]
  congr 1
  simp only [Option.toList_some, List.filter_cons, List.filter_nil]
theorem lotsAtP_skip (side price p : Int) {l : List Lot} {k : Nat} {x : Lot} (h : l[k]? = some x) (hm : mayT side price x = false) : lotsAtP side price p (l.take (k + 1)) = lotsAtP side price p (l.take k) := by
  rw [lotsAtP_step _ _ _ h, hm]; simp
theorem lotsAtP_len (side price p : Int) (l : List Lot) : (lotsAtP side price p l).length ≤ l.length := List.length_filter_le _ _
theorem lotsAtP_mem {side price p : Int} {l : List Lot} {x : Lot} (h : x ∈ lotsAtP side price p l) : x ∈ l ∧ mayT side price x = true ∧ x.price = p := by
  simp only [lotsAtP, List.mem_filter, Bool.and_eq_true, beq_iff_eq] at h
  exact ⟨h.1, h.2.1, h.2.2⟩
end Go.Proofs.YtmbboflakfokhaaDoor

/- What OwnLots makes: a copy in new memory. -/
set_option linter.unusedSimpArgs false
set_option linter.unusedVariables false
namespace Go.Proofs.YtmbboflakfokhaaDoor
open Go.RowKit

theorem Below.grownBy {w w' : World} (h : Below w.heap.size w w') : w.grownBy w' none := by
  obtain ⟨a, b, c, d, e⟩ := h
  exact ⟨a, b, c, d, fun k hk _ => e k hk⟩
theorem flat_len (l : List Lot) : (l.flatMap Lot.cells).length = l.length * 5 := by
  induction l with
  | nil => rfl
  | cons x l ih => rw [List.flatMap_cons, List.length_append, ih, List.length_cons]; simp only [Lot.cells, List.length_cons, List.length_nil]; omega
theorem flat_at : ∀ (l : List Lot) (k i : Nat) (hk : k < l.length), i < 5 → (l.flatMap Lot.cells)[k * 5 + i]? = l[k].cells[i]?
  | x :: l, 0, i, _, hi => by
    rw [List.flatMap_cons, List.getElem?_append_left (by simp only [Lot.cells, List.length_cons, List.length_nil]; omega)]
    simp
  | x :: l, k + 1, i, hk, hi => by
    have e : x.cells.length = 5 := rfl
    rw [List.flatMap_cons, List.getElem?_append_right (by rw [e]; omega), e, show (k + 1) * 5 + i - 5 = k * 5 + i by omega]
    simpa using flat_at l k i (by simpa using hk) hi
theorem flat_oneCell (l : List Lot) : ∀ u ∈ l.flatMap Lot.cells, u.oneCell' = true := by
  intro u hu
  obtain ⟨x, _, hx⟩ := List.mem_flatMap.1 hu
  simp only [Lot.cells, List.mem_cons, List.not_mem_nil, or_false] at hx
  rcases hx with rfl | rfl | rfl | rfl | rfl <;> rfl

/-- A row of the call's own that holds lots, read as a slice. -/
theorem lots_of_owned {w : World} {base : Nat} {e : TypeId} {v : Value} {n : Nat} {l : List Lot} (hwf : ∀ a ∈ l, a.wf) (hn : n ≤ 9223372036854775807) (hl : l.length = n) (h : w.ownsRow base e 5 v n (l.flatMap Lot.cells)) :
    ∃ ao cap, v = .slice ao n cap ∧ (n ≤ cap ∧ cap ≤ 9223372036854775807 ∧ (ao = none → cap = 0)) ∧ LotsAt w ao n l := by
  obtain ⟨h1, ⟨rfl, rfl⟩ | ⟨g, cap, cur, rfl, hb, hg, hc, hm, hs, ht⟩⟩ := h
  · exact ⟨none, 0, rfl, ⟨by omega, by omega, fun _ => rfl⟩, hl, by omega, hwf, fun h => by omega⟩
  · refine ⟨_, cap, rfl, ⟨hc, (by unfold maxLen at hm; omega), fun h => by cases h⟩, hl, hn, hwf, fun h0 => ⟨g, 0, rfl, ?_, fun k hk j hj => ?_⟩⟩
    · rcases Nat.lt_or_ge g w.heap.size with h | h
      · exact h
      · rw [Array.getElem?_eq_none h] at hg; cases hg
    · rw [← flat_at l k j hk hj, ← ht, List.getElem?_take_of_lt (by omega), Nat.zero_add]
      simp [World.cell?, hg]

end Go.Proofs.YtmbboflakfokhaaDoor
