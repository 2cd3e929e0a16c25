import Derived.Test.YtmbboflakfokhaaDoorJ43
import Derived.Test.YtmbboflakfokhaaDoorFlRu
import Derived.Test.YtmbboflakfokhaaDoorJ1
import Derived.Test.YtmbboflakfokhaaDoorJ12
import Derived.Deep.RegionLaw
/- What Drop of a floor computes. -/
set_option linter.unusedSimpArgs false
set_option linter.unusedVariables false
namespace Go.Proofs.YtmbboflakfokhaaDoor
open Go.RowKit

/-- One more of a client's lots goes. -/
def dropStep (k : Nat) (p : List Lot × FSt) (id : Int) : List Lot × FSt := (if (goneR p.2 k id).2.1 = 0 then p.1 ++ [(goneR p.2 k id).1] else p.1, (goneR p.2 k id).2.2)
def dropK (client : Int) (p : List Lot × FSt) (k : Nat) : List Lot × FSt := (ownerL (p.2.b k) client).foldl (dropStep k) p
def fdropR (st : FSt) (client : Int) : List Lot × FSt := (List.range 3).foldl (dropK client) ([], st)
theorem fold_snoc {α β : Type} (f : β → α → β) (b : β) (l : List α) (k : Nat) (hk : k < l.length) : (l.take (k + 1)).foldl f b = f ((l.take k).foldl f b) l[k] := by
  rw [List.take_succ_eq_append_getElem hk, List.foldl_append]
  rfl
theorem dropStep_ok {p : List Lot × FSt} (h : FOk p.2) {k : Nat} (hk : k < 3) (id : Int) : FOk (dropStep k p id).2 ∧ (dropStep k p id).1.length ≤ p.1.length + 1 := by
  unfold dropStep
  refine ⟨h.gone hk id, ?_⟩
  simp only
  split <;> simp
theorem dropIds_ok {p : List Lot × FSt} (h : FOk p.2) {k : Nat} (hk : k < 3) : ∀ (ids : List Int), FOk (ids.foldl (dropStep k) p).2 ∧ (ids.foldl (dropStep k) p).1.length ≤ p.1.length + ids.length := by
  intro ids
  induction ids generalizing p with
  | nil => exact ⟨h, by simp⟩
  | cons id ids ih =>
    obtain ⟨a, b⟩ := dropStep_ok h hk id
    obtain ⟨c, d⟩ := ih a
    exact ⟨c, by simp only [List.foldl_cons, List.length_cons]; omega⟩
theorem dropK_ok {p : List Lot × FSt} (h : FOk p.2) {k : Nat} (hk : k < 3) (client : Int) : FOk (dropK client p k).2 ∧ (dropK client p k).1.length ≤ p.1.length + 60 := by
  obtain ⟨a, b⟩ := dropIds_ok h hk (ownerL (p.2.b k) client)
  have := ownerL_le (p.2.b k) client
  have := (h.book k hk).len
  exact ⟨a, by unfold dropK; omega⟩
theorem dropR_ok {st : FSt} (h : FOk st) (client : Int) : ∀ k, k ≤ 3 → FOk ((List.range k).foldl (dropK client) ([], st)).2 ∧ ((List.range k).foldl (dropK client) ([], st)).1.length ≤ 60 * k := by
  intro k
  induction k with
  | zero => intro _; exact ⟨h, by simp⟩
  | succ k ih =>
    intro hk
    obtain ⟨a, b⟩ := ih (by omega)
    obtain ⟨c, d⟩ := dropK_ok a (by omega : k < 3) client
    rw [List.range_succ, List.foldl_append]
    exact ⟨c, by simp only [List.foldl_cons, List.foldl_nil]; omega⟩
theorem FOk.fdrop {st : FSt} (h : FOk st) (client : Int) : FOk (fdropR st client).2 := (dropR_ok h client 3 (by omega)).1
/-- A row of lots of the method's own. -/
def LRow (base : Nat) (l : List Lot) (v : Value) (W : World) : Prop := RowAt W 56 5 v l.length (flat Lot.cells l) ∧ ∀ g, v.ownBlock = some g → base ≤ g
theorem LRow.nil (base : Nat) (W : World) : LRow base [] (.slice none 0 0) W := ⟨RowAt.nil _ _ _, fun g h => by cases h⟩
theorem LRow.block {base : Nat} {l : List Lot} {v : Value} {W W' : World} (h : LRow base l v W) (hb : ∀ g, v.ownBlock = some g → W'.heap[g]? = W.heap[g]?) : LRow base l v W' := ⟨h.1.of_block hb, h.2⟩
theorem LRow.ex {base : Nat} {l : List Lot} {v : Value} {W W' : World} (h : LRow base l v W) (hx : Ex W W') : LRow base l v W' := h.block fun g hg => hx.below.block g (h.1.lt g hg)
theorem LRow.slice {base : Nat} {l : List Lot} {v : Value} {W : World} (h : LRow base l v W) : ∃ ao cap, v = .slice ao l.length cap ∧ l.length ≤ cap ∧ cap ≤ maxLen := by
  obtain ⟨_, ⟨rfl, h0⟩ | ⟨g, off, cap, cur, rfl, _, hc, hm, _⟩⟩ := h.1
  · exact ⟨none, 0, by rw [h0], by omega, by unfold maxLen; omega⟩
  · exact ⟨_, cap, rfl, hc, hm⟩
/-- The IDs that a call laid. -/
def IdsRow (l : List Int) (u : Value) (W : World) : Prop := ∃ base, W.ownsRow base 3 1 u l.length (l.map (Value.int .i64))
theorem IdsRow.block {l : List Int} {u : Value} {W W' : World} (h : IdsRow l u W) (hb : ∀ g, u.ownBlock = some g → W'.heap[g]? = W.heap[g]?) : IdsRow l u W' := by
  obtain ⟨base, h⟩ := h
  exact ⟨base, ownsRow_block h hb⟩
theorem IdsRow.lt {l : List Int} {u : Value} {W : World} (h : IdsRow l u W) : ∀ g, u.ownBlock = some g → g < W.heap.size := by
  obtain ⟨base, h⟩ := h
  exact fun g hg => (h.lt g hg).2
theorem IdsRow.ex {l : List Int} {u : Value} {W W' : World} (h : IdsRow l u W) (hx : Ex W W') : IdsRow l u W' := h.block fun g hg => hx.below.block g (h.lt g hg)
theorem IdsRow.slice {l : List Int} {u : Value} {W : World} (h : IdsRow l u W) : ∃ ao cap, u = .slice ao l.length cap := by
  obtain ⟨base, _, ⟨rfl, h0⟩ | ⟨g, cap, cur, rfl, _⟩⟩ := h
  · exact ⟨none, 0, by rw [h0]⟩
  · exact ⟨_, cap, rfl⟩
theorem IdsRow.cell {l : List Int} {u : Value} {W : World} (h : IdsRow l u W) {n : Nat} (hn : n < l.length) : ∃ b cap, u = .slice (some ⟨b, 0, none⟩) l.length cap ∧ b < W.heap.size ∧ W.cell? ⟨b, n, none⟩ = some (.int .i64 l[n]) := by
  obtain ⟨base, _, ⟨rfl, h0⟩ | ⟨g, cap, cur, rfl, hb, hg, hc, hm, hs, ht⟩⟩ := h
  · omega
  · refine ⟨g, cap, rfl, (Array.getElem?_eq_some_iff.1 hg).1, ?_⟩
    have e : (l.map (Value.int .i64))[n]? = some (.int .i64 l[n]) := by simp [hn]
    rw [← ht, List.getElem?_take_of_lt (by omega)] at e
    simpa [World.cell?, hg] using e
theorem rows_apart {base : Nat} {l : List Lot} {ids : List Int} {v u : Value} {W : World} (h : LRow base l v W) (k : IdsRow ids u W) : ∀ g, v.ownBlock = some g → u.ownBlock ≠ some g := by
  intro g hv hu
  obtain ⟨_, ⟨rfl, _⟩ | ⟨g1, off, cap, cur, rfl, ⟨fr, hg1, _⟩, _⟩⟩ := h.1
  · cases hv
  · obtain ⟨b2, _, ⟨rfl, h0⟩ | ⟨g2, cap2, cur2, rfl, hb, hg2, _⟩⟩ := k
    · cases hu
    · cases hv
      cases hu
      rw [hg1] at hg2
      cases hg2
section
variable {own : Nat → Nat} {c : Nat} {w : World} {A : FlA} {st : FSt} {E : Nat → Addr}
/-- In the outer loop: the floor and what is out. -/
def DrX (own : Nat → Nat) (c : Nat) (w : World) (A : FlA) (p : List Lot × FSt) (E : Nat → Addr) (v : Value) (W : World) : Prop :=
  FlX own c w A p.2 E [2, 6, 10] [] (TV v) W ∧ LRow w.heap.size p.1 v W
/-- In the inner loop: the IDs too. -/
def DrI (own : Nat → Nat) (c : Nat) (w : World) (A : FlA) (p : List Lot × FSt) (E : Nat → Addr) (ids : List Int) (v u : Value) (W : World) : Prop :=
  FlX own c w A p.2 E [2, 6, 10] [] (fun n => TV v n ∨ TV u n) W ∧ LRow w.heap.size p.1 v W ∧ IdsRow ids u W
theorem DrX.later {p : List Lot × FSt} {v : Value} {W W' : World} (h : DrX own c w A p E v W) (hx : Ex W W') : DrX own c w A p E v W' := ⟨h.1.later hx, h.2.ex hx⟩
theorem DrI.later {p : List Lot × FSt} {ids : List Int} {v u : Value} {W W' : World} (h : DrI own c w A p E ids v u W) (hx : Ex W W') : DrI own c w A p E ids v u W' := ⟨h.1.later hx, h.2.1.ex hx, h.2.2.ex hx⟩
theorem DrI.outer {p : List Lot × FSt} {ids : List Int} {v u : Value} {W : World} (h : DrI own c w A p E ids v u W) : DrX own c w A p E v W := ⟨h.1.less (fun t ht => ht) (fun n hn => .inl hn), h.2.1⟩
theorem DrX.inner {p : List Lot × FSt} {ids : List Int} {v u : Value} {W W' : World} {base : Nat} (h : DrX own c w A p E v W) (hx : Ex W W') (hb : W.heap.size ≤ base) (hu : W'.ownsRow base 3 1 u ids.length (ids.map (Value.int .i64))) : DrI own c w A p E ids v u W' := by
  refine ⟨?_, h.2.ex hx, ⟨base, hu⟩⟩
  have h1 := h.1.fl.more (S' := FS [2, 6, 10] [] (fun n => TV v n ∨ TV u n)) hx fun n hn => by
    rcases hn with h | h | h | h
    · exact .inl (.inl h)
    · exact .inl (.inr (.inl h))
    · exact .inl (.inr (.inr h))
    · exact .inr ⟨Nat.le_trans hb (hu.lt n h).1, (hu.lt n h).2⟩
  exact ⟨h1, h.1.errs.ex hx, h.1.has.ex hx, h.1.low⟩
/-- A lot more is out. -/
theorem DrI.app {p : List Lot × FSt} {ids : List Int} {v u v' : Value} {W W1 W' : World} {x : Lot} {z : Nat} (h : DrI own c w A p E ids v u W) (hx : Ex W W1) (hrow : RowAt W' 56 5 v' (p.1.length + 1) (flat Lot.cells p.1 ++ x.cells)) (hg : W1.grownBy W' v.ownBlock) (ho : v'.ownBlock = v.ownBlock ∨ v'.ownBlock = some z) (hz : z = W1.heap.size) :
    DrI own c w A (p.1 ++ [x], p.2) E ids v' u W' := by
  have h1 := h.later hx
  have hwz := h1.1.size
  have hap := rows_apart h1.2.1 h1.2.2
  subst hz
  have hblk : ∀ g, u.ownBlock = some g → W'.heap[g]? = W1.heap[g]? := fun g hu => hg.block g (h1.2.2.lt g hu) fun e => hap g e.symm hu
  have hv' : ∀ g, v'.ownBlock = some g → (TV v g ∨ (W1.heap.size ≤ g ∧ g < W'.heap.size)) := fun g e => by
    rcases ho with h | h
    · exact .inl (h.symm.trans e)
    · have hlt := hrow.lt g e
      rw [h] at e
      cases e
      exact .inr ⟨Nat.le_refl _, hlt⟩
  refine ⟨h1.1.grown hg (fun b e => ⟨.inl e, h1.2.1.2 b e, fun t ht => by cases ht⟩) (fun n hn => ?_), ⟨by rw [flat_append, flat_one, List.length_append]; exact hrow, fun g e => ?_⟩, h1.2.2.block hblk⟩
  · rcases hn with hn | hn
    · rcases hv' n hn with h | h
      · exact .inl (.inl h)
      · exact .inr h
    · exact .inl (.inr hn)
  · rcases hv' g e with h | h
    · exact h1.2.1.2 g h
    · exact Nat.le_trans hwz h.1
/-- What Drop hands back. -/
def DropTo (own : Nat → Nat) (c : Nat) (w : World) (A : FlA) (r : List Lot × FSt) (e : Ending) (w' : World) : Prop :=
  ∃ v, e = .returned v ∧ LRow w.heap.size r.1 v w' ∧ Kp own 8 c w w' ∧ ∃ o, (∀ n, n < w.heap.size → o n = own n) ∧ FlAt o c w' A r.2 ∧ ∀ g, v.ownBlock = some g → o g / 8 ≠ c
set_option maxRecDepth 100000 in
set_option maxHeartbeats 8000000 in
theorem fdrop_any (h : FlAt own c w A st) (hO : FOk st) (hE : Errs E [2, 6, 10] w) (hg : ∀ n, GE [2, 6, 10] n → own n / 8 ≠ c) (client : Int) :
    Calls Tryd.prog 24 #[.pointer (some ⟨A.f, 0, none⟩), .int .i64 client] w (DropTo own c w A (fdropR st client)) := by
  obtain ⟨c0, _, _, _, hf⟩ := h.cells
  obtain ⟨iL, hL0, hLz, hL1, hL2⟩ := info_parts infoLotB
  have HX := Lib.hid (show DrX own c w A ([], st) E (.slice none 0 0) w from ⟨FlX.start h hE hg (fun n hn => by cases hn), LRow.nil _ _⟩)
  have HDK := Lib.hid (dropR_ok hO client)
  clear h hO hE hg
  go_enter Tryd.func24, Tryd.ntmps24
  go_wp2_with fail
  go_loopw [5, 17] (fun v i wr => ∃ (k : Nat) (v' : Value), v' = v ∧ k ≤ 3 ∧ i = .int .i64 (k : Int) ∧ DrX own c w A ((List.range k).foldl (dropK client) ([], st)) E v' wr) (fun _ i _ => 3 - (intOf i).toNat)
  case atStart => exact ⟨0, _, rfl, by omega, rfl, HX.out.later (by repeat (first | exact Ex.refl _ | refine Ex.alloc ?_ _ | refine Ex.ext ?_ _ _ | refine Ex.drew ?_ | refine Ex.drewN ?_ _))⟩
  case round =>
    obtain ⟨k, v, rfl, hk, rfl, hX⟩ := hrel
    by_cases hlt : k < 3
    · have k3 : (k : Int) < 3 := by omega
      obtain ⟨i0, i1, i2, hrg⟩ := hX.1.items hlt
      have hok := (HDK.out k (by omega)).1
      have hlen := (HDK.out k (by omega)).2
      have HST := Lib.hid (show (List.range (k + 1)).foldl (dropK client) ([], st) = (ownerL (((List.range k).foldl (dropK client) ([], st)).2.b k) client).foldl (dropStep k) ((List.range k).foldl (dropK client) ([], st)) by rw [List.range_succ, List.foldl_append]; rfl)
      have HOK := Lib.hid hok
      have HXK := Lib.hid hX
      have HOW := Lib.hid (fun o i W (hb : BookAt o i W (A.bp k) (((List.range k).foldl (dropK client) ([], st)).2.b k)) => owner_any hb client)
      have hz60 := (hok.book k hlt).len
      have hol := ownerL_le (((List.range k).foldl (dropK client) ([], st)).2.b k) client
      generalize hids : ownerL (((List.range k).foldl (dropK client) ([], st)).2.b k) client = ids at *
      clear hX hok hids HX
      generalize (List.range k).foldl (dropK client) ([], st) = p at *
      go_wp2_with fail
      refine ((HXK.out.1.later (by repeat (first | (with_reducible exact Ex.refl _) | (with_reducible refine Ex.alloc ?_ _) | (with_reducible refine Ex.ext ?_ _ _) | (with_reducible refine Ex.drew ?_) | (with_reducible refine Ex.drewN ?_ _)))).readB hlt (fun o i hb => HOW.out o i _ hb)).mono ?_
      rintro e w1 ⟨⟨u, rfl, hu⟩, hx1⟩
      have HXI := Lib.hid ((HXK.out.later (by repeat (first | (with_reducible exact Ex.refl _) | (with_reducible refine Ex.alloc ?_ _) | (with_reducible refine Ex.ext ?_ _ _) | (with_reducible refine Ex.drew ?_) | (with_reducible refine Ex.drewN ?_ _)))).inner hx1 (Nat.le_refl _) hu)
      obtain ⟨au, cu, rfl⟩ := HXI.out.2.2.slice
      clear hu hx1 HXK i0 i1 i2
      go_wp2_with fail
      go_loopw [5, 27] (fun v i wi => ∃ (n : Nat) (v' : Value), v' = v ∧ n ≤ ids.length ∧ i = .int .i64 (n : Int) ∧ DrI own c w A ((ids.take n).foldl (dropStep k) p) E ids v' (.slice au ids.length cu) wi) (fun _ i _ => ids.length - (intOf i).toNat)
      case atStart => exact ⟨0, _, rfl, Nat.zero_le _, rfl, HXI.out.later (by repeat (first | (with_reducible exact Ex.refl _) | (with_reducible refine Ex.alloc ?_ _) | (with_reducible refine Ex.ext ?_ _ _) | (with_reducible refine Ex.drew ?_) | (with_reducible refine Ex.drewN ?_ _)))⟩
      case round =>
        obtain ⟨n, v2, rfl, hn, rfl, hX2⟩ := hrel
        by_cases hln : n < ids.length
        · obtain ⟨b, cap2, e2, hb, hcell⟩ := hX2.2.2.cell hln
          cases e2
          obtain ⟨hok2, hlen2⟩ := dropIds_ok HOK.out hlt (ids.take n)
          rw [List.length_take] at hlen2
          have HST2 := Lib.hid (show (ids.take (n + 1)).foldl (dropStep k) p = (if (goneR ((ids.take n).foldl (dropStep k) p).2 k ids[n]).2.1 = 0 then ((ids.take n).foldl (dropStep k) p).1 ++ [(goneR ((ids.take n).foldl (dropStep k) p).2 k ids[n]).1] else ((ids.take n).foldl (dropStep k) p).1, (goneR ((ids.take n).foldl (dropStep k) p).2 k ids[n]).2.2) from fold_snoc (dropStep k) p ids n hln)
          have HOK2 := Lib.hid hok2
          have HX2 := Lib.hid hX2
          have HGO := Lib.hid (fun o W h hE hg => fgone_any (own := o) (c := c) (w := W) (A := A) (st := ((ids.take n).foldl (dropStep k) p).2) (E := E) h hok2 hE hg k hlt ids[n])
          obtain ⟨_, _, _, _, hf2⟩ := hX2.1.cells
          clear hX2 hok2
          generalize (ids.take n).foldl (dropStep k) p = p2 at *
          generalize ids[n] = id at *
          generalize hgr : goneR p2.2 k id = gr at *
          clear hgr
          obtain ⟨v3, cv3, rfl, hcv, hmx⟩ := HX2.out.2.1.slice
          obtain ⟨x, en, st3⟩ := gr
          simp only at HST2
          go_wp2_with fail
          refine ((HX2.out.1.later (by repeat (first | (with_reducible exact Ex.refl _) | (with_reducible refine Ex.alloc ?_ _) | (with_reducible refine Ex.ext ?_ _ _) | (with_reducible refine Ex.drew ?_) | (with_reducible refine Ex.drewN ?_ _)))).callT (fun o h hE hg => HGO.out o _ h hE hg)).mono ?_
          rintro e w3 ⟨rfl, hX3, hT3⟩
          have HX3 : Hid (DrI own c w A (p2.1, st3) E ids (.slice v3 p2.1.length cv3) (.slice (some ⟨b, 0, none⟩) ids.length cu) w3) := Lib.hid ⟨hX3, (HX2.out.later (by repeat (first | (with_reducible exact Ex.refl _) | (with_reducible refine Ex.alloc ?_ _) | (with_reducible refine Ex.ext ?_ _ _) | (with_reducible refine Ex.drew ?_) | (with_reducible refine Ex.drewN ?_ _)))).2.1.block fun g hg => hT3 g (.inl hg), (HX2.out.later (by repeat (first | (with_reducible exact Ex.refl _) | (with_reducible refine Ex.alloc ?_ _) | (with_reducible refine Ex.ext ?_ _ _) | (with_reducible refine Ex.drew ?_) | (with_reducible refine Ex.drewN ?_ _)))).2.2.block fun g hg => hT3 g (.inr hg)⟩
          clear hX3 hT3 HX2
          by_cases he : en = 0
          · subst he
            rw [if_pos rfl] at HST2
            rw [errV_zero]
            obtain ⟨xi, xo, xs, xp, xq⟩ := x
            go_upto_region 10 with fail
            have hw1 : Ex w3 (w3.alloc (.cells #[.int .i64 xi, .int .i64 xo, .int .i64 xs, .int .i64 xp, .int .i64 xq] 56)) := (by repeat (first | (with_reducible exact Ex.refl _) | (with_reducible refine Ex.alloc ?_ _) | (with_reducible refine Ex.ext ?_ _ _) | (with_reducible refine Ex.drew ?_) | (with_reducible refine Ex.drewN ?_ _)))
            go_wp2_with (at_builtin; refine wpList_append_two rfl (.tmp 40) (.tmp 42) 37 37 rfl 56 iL _ 5 40 Tryd.underlying37 hL0 hLz hL1 hL2 rfl (.slice v3 p2.1.length cv3) (.slice (some ⟨w3.heap.size + 1, 0, none⟩) 1 1) p2.1.length 1 (flat Lot.cells p2.1) (Lot.cells ⟨xi, xo, xs, xp, xq⟩) rfl rfl ?_ ?_ ?_ ?_ ?_)
            focus exact (HX3.out.2.1.ex (by repeat (first | (with_reducible exact Ex.refl _) | (with_reducible refine Ex.alloc ?_ _) | (with_reducible refine Ex.ext ?_ _ _) | (with_reducible refine Ex.drew ?_) | (with_reducible refine Ex.drewN ?_ _)))).1
            focus exact (Src.block Tryd.underlying37 1 1 (cs := #[.int .i64 xi, .int .i64 xo, .int .i64 xs, .int .i64 xp, .int .i64 xq]) (t := 56) (fr := (0, 0)) (heap_new (by simp [go_sem])) (by simp) (by simp [Value.oneCell']))
            focus (unfold maxLen; omega)
            focus omega
            intro v' w' hrow hgrow hown
            have H2 := Lib.hid (HX3.out.app (by repeat (first | (with_reducible exact Ex.refl _) | (with_reducible refine Ex.alloc ?_ _) | (with_reducible refine Ex.ext ?_ _ _) | (with_reducible refine Ex.drew ?_) | (with_reducible refine Ex.drewN ?_ _))) hrow hgrow hown (by first | omega | (simp [go_sem]; done) | (simp [go_sem]; omega)))
            clear hrow hgrow hown
            go_wp2_with fail
            go_roundw
            case measure => simp [intOf]; omega
            case rel => exact ⟨n + 1, _, rfl, by omega, by go_num, by rw [HST2.out]; exact H2.out⟩
          · rw [if_neg he] at HST2
            rw [errV_pos E _ he]
            go_wp2_with fail
            go_roundw
            case measure => simp [intOf]; omega
            case rel => exact ⟨n + 1, _, rfl, by omega, by go_num, by rw [HST2.out]; exact HX3.out.later (by repeat (first | (with_reducible exact Ex.refl _) | (with_reducible refine Ex.alloc ?_ _) | (with_reducible refine Ex.ext ?_ _ _) | (with_reducible refine Ex.drew ?_) | (with_reducible refine Ex.drewN ?_ _)))⟩
        · obtain rfl : n = ids.length := by omega
          have hX3 := hX2.outer
          rw [List.take_length] at hX3
          have HX3 := Lib.hid hX3
          clear hX2 hX3
          go_wp2_with fail
          go_roundw
          case measure => simp [intOf]; omega
          case rel => exact ⟨k + 1, _, rfl, by omega, by go_num, by rw [HST.out]; exact HX3.out.later (by repeat (first | (with_reducible exact Ex.refl _) | (with_reducible refine Ex.alloc ?_ _) | (with_reducible refine Ex.ext ?_ _ _) | (with_reducible refine Ex.drew ?_) | (with_reducible refine Ex.drewN ?_ _)))⟩
    · obtain rfl : k = 3 := by omega
      have HXK := Lib.hid hX
      clear hX
      go_wp2_with fail
      all_goals go_ret
      all_goals
        obtain ⟨hX4, hL4⟩ := HXK.out.later (by repeat (first | exact Ex.refl _ | refine Ex.alloc ?_ _ | refine Ex.ext ?_ _ _ | refine Ex.drew ?_ | refine Ex.drewN ?_ _))
        obtain ⟨k1, o, k2, _, k3, k4⟩ := hX4.fl
        exact ⟨_, rfl, hL4, k1, o, k4, k2, fun g hg => (k3 g (.inr (.inr hg))).2⟩
end
end Go.Proofs.YtmbboflakfokhaaDoor

/- What the document's in and LotError compute. -/
set_option linter.unusedSimpArgs false
set_option linter.unusedVariables false
namespace Go.Proofs.YtmbboflakfokhaaDoor
open Go.RowKit

end Go.Proofs.YtmbboflakfokhaaDoor

/- The document's purse: its client's eight numbers stored at once. -/
set_option linter.unusedSimpArgs false
set_option linter.unusedVariables false
namespace Go.Proofs.YtmbboflakfokhaaDoor
open Go.RowKit

def Pu.put (P : Pu) (c : Nat) (v : Nat → Int) : Pu := fun d j => if d = c then v j else P d j
/-- The block of a purse's numbers. -/
abbrev PRow (w : World) (p : Nat) (t : TypeId) (P : Pu) : Prop := w.rowIs p t 48 (fun n => .int .i64 (P (n / 8) (n % 8)))
section
variable {own : Nat → Nat} {i : Nat} {w : World} {p : Nat} {P : Pu} {t : TypeId}
theorem PRow.cell (h : PRow w p t P) {c j : Nat} (hc : c < 6) (hj : j < 8) : w.cell? ⟨p, c * 8 + j, none⟩ = some (.int .i64 (P c j)) := by
  have h1 := World.rowIs.cell h (i := c * 8 + j) (by omega)
  rw [h1]
  congr 2
  rw [show (c * 8 + j) / 8 = c by omega, show (c * 8 + j) % 8 = j by omega]
theorem PRow.setAll (h3 : PRow w p t P) (c : Nat) (v : Nat → Int) :
    PRow ((((((((w.setCell ⟨p, c * 8, none⟩ (.int .i64 (v 0))).setCell ⟨p, c * 8 + 1, none⟩ (.int .i64 (v 1))).setCell ⟨p, c * 8 + 2, none⟩ (.int .i64 (v 2))).setCell ⟨p, c * 8 + 3, none⟩ (.int .i64 (v 3))).setCell ⟨p, c * 8 + 4, none⟩ (.int .i64 (v 4))).setCell ⟨p, c * 8 + 5, none⟩ (.int .i64 (v 5))).setCell ⟨p, c * 8 + 6, none⟩ (.int .i64 (v 6))).setCell ⟨p, c * 8 + 7, none⟩ (.int .i64 (v 7))) p t (P.put c v) := by
  refine ((((((((h3.set (c * 8) _).set (c * 8 + 1) _).set (c * 8 + 2) _).set (c * 8 + 3) _).set (c * 8 + 4) _).set (c * 8 + 5) _).set (c * 8 + 6) _).set (c * 8 + 7) _).congr fun k hk => ?_
  by_cases e : k / 8 = c
  · have hk8 : k = c * 8 + k % 8 := by omega
    have : k % 8 = 0 ∨ k % 8 = 1 ∨ k % 8 = 2 ∨ k % 8 = 3 ∨ k % 8 = 4 ∨ k % 8 = 5 ∨ k % 8 = 6 ∨ k % 8 = 7 := by omega
    simp only [Pu.put, e, if_true]
    rcases this with e2 | e2 | e2 | e2 | e2 | e2 | e2 | e2 <;> rw [e2] at hk8 ⊢ <;> subst hk8 <;> simp
  · simp only [Pu.put, e, if_false]
    rw [if_neg (by omega), if_neg (by omega), if_neg (by omega), if_neg (by omega), if_neg (by omega), if_neg (by omega), if_neg (by omega), if_neg (by omega)]
/-- Eight stores turn one client alone. -/
theorem put8_block (w : World) (p c : Nat) (v : Nat → Int) {k : Nat} (hk : k ≠ p) :
    ((((((((w.setCell ⟨p, c * 8, none⟩ (.int .i64 (v 0))).setCell ⟨p, c * 8 + 1, none⟩ (.int .i64 (v 1))).setCell ⟨p, c * 8 + 2, none⟩ (.int .i64 (v 2))).setCell ⟨p, c * 8 + 3, none⟩ (.int .i64 (v 3))).setCell ⟨p, c * 8 + 4, none⟩ (.int .i64 (v 4))).setCell ⟨p, c * 8 + 5, none⟩ (.int .i64 (v 5))).setCell ⟨p, c * 8 + 6, none⟩ (.int .i64 (v 6))).setCell ⟨p, c * 8 + 7, none⟩ (.int .i64 (v 7))).heap[k]? = w.heap[k]? := by
  rw [Below.heap_setCell _ _ _ _ hk, Below.heap_setCell _ _ _ _ hk, Below.heap_setCell _ _ _ _ hk, Below.heap_setCell _ _ _ _ hk, Below.heap_setCell _ _ _ _ hk, Below.heap_setCell _ _ _ _ hk, Below.heap_setCell _ _ _ _ hk, Below.heap_setCell _ _ _ _ hk]
theorem put8_kp {a : World} (h : Kp own 1 i a w) (hp : own p = i) (c : Nat) (v : Nat → Int) :
    Kp own 1 i a ((((((((w.setCell ⟨p, c * 8, none⟩ (.int .i64 (v 0))).setCell ⟨p, c * 8 + 1, none⟩ (.int .i64 (v 1))).setCell ⟨p, c * 8 + 2, none⟩ (.int .i64 (v 2))).setCell ⟨p, c * 8 + 3, none⟩ (.int .i64 (v 3))).setCell ⟨p, c * 8 + 4, none⟩ (.int .i64 (v 4))).setCell ⟨p, c * 8 + 5, none⟩ (.int .i64 (v 5))).setCell ⟨p, c * 8 + 6, none⟩ (.int .i64 (v 6))).setCell ⟨p, c * 8 + 7, none⟩ (.int .i64 (v 7))) := by
  have h7 : ∀ q : Addr, q.block = p → (q.block < a.heap.size → own q.block / 1 = i) := fun q hq _ => by rw [hq, Nat.div_one]; exact hp
  exact ((((((((h.setCell (h7 _ rfl) _).setCell (h7 _ rfl) _).setCell (h7 _ rfl) _).setCell (h7 _ rfl) _).setCell (h7 _ rfl) _).setCell (h7 _ rfl) _).setCell (h7 _ rfl) _).setCell (h7 _ rfl) _)
/-- The end of a method that has stored one client. -/
theorem put_end {W : World} (hp : own p = i) (hr : PRow W p t P) (hI : PInv P) (hK : Kp own 1 i w W) : ObjTo own i i w (fun o w' => PurseAt o i w' p P) W :=
  ObjTo.of hK (PurseAt.toLab ⟨hp, hI, t, hr⟩)
/-- Eight numbers. -/
def vec8 (z0 z1 z2 z3 z4 z5 z6 z7 : Int) : Nat → Int := fun k => if k = 0 then z0 else if k = 1 then z1 else if k = 2 then z2 else if k = 3 then z3 else if k = 4 then z4 else if k = 5 then z5 else if k = 6 then z6 else z7
theorem PRow.set8 (h : PRow w p t P) (c : Nat) (z0 z1 z2 z3 z4 z5 z6 z7 : Int) :
    PRow ((((((((w.setCell ⟨p, c * 8, none⟩ (.int .i64 z0)).setCell ⟨p, c * 8 + 1, none⟩ (.int .i64 z1)).setCell ⟨p, c * 8 + 2, none⟩ (.int .i64 z2)).setCell ⟨p, c * 8 + 3, none⟩ (.int .i64 z3)).setCell ⟨p, c * 8 + 4, none⟩ (.int .i64 z4)).setCell ⟨p, c * 8 + 5, none⟩ (.int .i64 z5)).setCell ⟨p, c * 8 + 6, none⟩ (.int .i64 z6)).setCell ⟨p, c * 8 + 7, none⟩ (.int .i64 z7)) p t (P.put c (vec8 z0 z1 z2 z3 z4 z5 z6 z7)) := h.setAll c (vec8 z0 z1 z2 z3 z4 z5 z6 z7)
theorem PRow.ext (h : PRow w p t P) (l : List Obj) (d : Nat) : PRow (Proofs.YtmbboflakfokhaaDoor.ext w l d) p t P := rowIs_ext h l d
theorem PRow.other (h : PRow w p t P) {q : Nat} (hq : q ≠ p) (j : Nat) (v : Value) : PRow (w.setCell ⟨q, j, none⟩ v) p t P := World.rowIs.of_block h (Below.heap_setCell _ _ _ _ (fun e => hq (by simp [e])))
theorem PurseAt.prow (h : PurseAt own i w p P) : ∃ t, PRow w p t P := by obtain ⟨_, _, t, h⟩ := h; exact ⟨t, h⟩
theorem Pu.put_one {P : Pu} {c j : Nat} (x : Int) (v : Nat → Int) (h : ∀ k, k < 8 → v k = if k = j then x else P c k) (d k : Nat) (hk : k < 8) : P.put c v d k = P.set c j x d k := by
  unfold Pu.put Pu.set
  by_cases e : d = c
  · subst e
    rw [if_pos rfl, h k hk]
    by_cases e2 : k = j
    · simp [e2]
    · simp [e2]
  · simp [e]
theorem PRow.congr {Q : Pu} (h : PRow w p t P) (e : ∀ d k, k < 8 → P d k = Q d k) : PRow w p t Q := by
  refine World.rowIs.congr h fun k hk => ?_
  rw [e _ _ (by omega)]
theorem lt8 {k : Nat} (h : k < 8) : k = 0 ∨ k = 1 ∨ k = 2 ∨ k = 3 ∨ k = 4 ∨ k = 5 ∨ k = 6 ∨ k = 7 := by omega
/-- The end of a method of the document's purse that has stored one client. -/
theorem mput_obj (h : PurseAt own i w p P) {c : Nat} {z0 z1 z2 z3 z4 z5 z6 z7 : Int} {Q : Pu} (hI : PInv Q) (heq : ∀ d k, k < 8 → P.put c (vec8 z0 z1 z2 z3 z4 z5 z6 z7) d k = Q d k) {W : World}
    (hx : Ex ((((((((w.setCell ⟨p, c * 8, none⟩ (.int .i64 z0)).setCell ⟨p, c * 8 + 1, none⟩ (.int .i64 z1)).setCell ⟨p, c * 8 + 2, none⟩ (.int .i64 z2)).setCell ⟨p, c * 8 + 3, none⟩ (.int .i64 z3)).setCell ⟨p, c * 8 + 4, none⟩ (.int .i64 z4)).setCell ⟨p, c * 8 + 5, none⟩ (.int .i64 z5)).setCell ⟨p, c * 8 + 6, none⟩ (.int .i64 z6)).setCell ⟨p, c * 8 + 7, none⟩ (.int .i64 z7)) W) :
    ObjTo own i i w (fun o w' => PurseAt o i w' p Q) W := by
  obtain ⟨h1, h2, t, h3⟩ := h
  have hr := (PRow.set8 h3 c z0 z1 z2 z3 z4 z5 z6 z7).congr heq
  have hK := put8_kp (Kp.refl own 1 i w) h1 c (vec8 z0 z1 z2 z3 z4 z5 z6 z7)
  have hP : PurseAt own i W p Q := PurseAt.later ⟨h1, hI, t, hr⟩ hx
  have hb := hx.below
  refine ObjTo.of ?_ (PurseAt.toLab hP)
  exact hK.trans hb.os hb.tape hb.output hb.size fun k hk _ => hb.block k (Nat.lt_of_lt_of_le hk hK.size)
theorem heq_set {P : Pu} {c j : Nat} {v z0 z1 z2 z3 z4 z5 z6 z7 : Int} (e0 : z0 = if 0 = j then v else P c 0) (e1 : z1 = if 1 = j then v else P c 1) (e2 : z2 = if 2 = j then v else P c 2) (e3 : z3 = if 3 = j then v else P c 3) (e4 : z4 = if 4 = j then v else P c 4) (e5 : z5 = if 5 = j then v else P c 5) (e6 : z6 = if 6 = j then v else P c 6) (e7 : z7 = if 7 = j then v else P c 7) (d k : Nat) (hk : k < 8) :
    P.put c (vec8 z0 z1 z2 z3 z4 z5 z6 z7) d k = P.set c j v d k := by
  subst e0 e1 e2 e3 e4 e5 e6 e7
  by_cases e : d = c
  · subst e; rcases lt8 hk with rfl | rfl | rfl | rfl | rfl | rfl | rfl | rfl <;> simp [Pu.put, Pu.set, vec8]
  · simp [Pu.put, Pu.set, e]
end
end Go.Proofs.YtmbboflakfokhaaDoor

/- Plain facts of BatchHolds: what the orders that rest ask for, summed lot by lot. -/
set_option linter.unusedSimpArgs false
set_option linter.unusedVariables false
namespace Go.Proofs.YtmbboflakfokhaaDoor
open Go.RowKit

/-- What the first books hold of a client's cash. -/
def hS (b : Nat → List Lot) (c : Int) : Nat → Int
  | 0 => 0
  | i + 1 => hS b c i + sumZ (heldF c) (b i)
/-- What is summed up behind i books and k lots of the next. -/
def wantP (b : Nat → List Lot) (i k : Nat) : Pu := fun c j =>
  if j = 1 then hS b c i + sumZ (heldF c) ((b i).take k) else if 5 ≤ j then (if j - 5 < i then sumZ (keptF c) (b (j - 5)) else if j - 5 = i then sumZ (keptF c) ((b i).take k) else 0) else 0
theorem take_sum (f : Lot → Int) (l : List Lot) (k : Nat) (hk : k < l.length) : sumZ f (l.take (k + 1)) = sumZ f (l.take k) + f l[k] := by
  rw [List.take_succ_eq_append_getElem hk, sumZ_append]
  simp [sumZ]
theorem want_zero (b : Nat → List Lot) : wantP b 0 0 = fun _ _ => 0 := by
  funext c j
  unfold wantP
  simp [hS, sumZ]
theorem want_next (b : Nat → List Lot) (i : Nat) : wantP b i (b i).length = wantP b (i + 1) 0 := by
  funext c j
  unfold wantP
  simp only [List.take_length, List.take_zero, sumZ, hS]
  split
  · omega
  · split
    · by_cases h1 : j - 5 < i
      · rw [if_pos h1, if_pos (by omega)]
      · by_cases h2 : j - 5 = i
        · rw [if_neg h1, if_pos h2, if_pos (by omega), h2]
        · rw [if_neg h1, if_neg h2, if_neg (by omega)]
          split <;> rfl
    · rfl
theorem want_step (b : Nat → List Lot) (i k : Nat) (hk : k < (b i).length) (o : Nat) (ho : (b i)[k].owner = (o : Int)) :
    wantP b i (k + 1) = if (b i)[k].side = 0 then (wantP b i k).set o 1 (wantP b i k o 1 + (b i)[k].price * (b i)[k].qty) else (wantP b i k).set o (5 + i) (wantP b i k o (5 + i) + (b i)[k].qty) := by
  funext c j
  by_cases hs : (b i)[k].side = 0
  · rw [if_pos hs]
    unfold Pu.set
    by_cases h : c = o ∧ j = 1
    · obtain ⟨rfl, rfl⟩ := h
      rw [if_pos ⟨rfl, rfl⟩]
      unfold wantP
      simp only [if_true]
      rw [take_sum _ _ _ hk, heldF_yes ho hs]
      omega
    · rw [if_neg h]
      unfold wantP
      by_cases hj : j = 1
      · rw [if_pos hj, if_pos hj, take_sum _ _ _ hk, heldF_no (by intro e; exact h ⟨by have := e.1; omega, hj⟩)]
        omega
      · rw [if_neg hj, if_neg hj, take_sum _ _ _ hk, keptF_no (fun e => e.2 hs)]
        simp
  · rw [if_neg hs]
    unfold Pu.set
    by_cases h : c = o ∧ j = 5 + i
    · obtain ⟨rfl, rfl⟩ := h
      rw [if_pos ⟨rfl, rfl⟩]
      unfold wantP
      rw [if_neg (by omega), if_pos (by omega), if_neg (by omega), if_pos (by omega), if_neg (by omega), if_pos (by omega), if_neg (by omega), if_pos (by omega), take_sum _ _ _ hk, keptF_yes ho hs]
    · rw [if_neg h]
      unfold wantP
      by_cases hj : j = 1
      · rw [if_pos hj, if_pos hj, take_sum _ _ _ hk, heldF_no (fun e => hs e.2)]
        omega
      · rw [if_neg hj, if_neg hj]
        by_cases h5 : 5 ≤ j
        · rw [if_pos h5, if_pos h5]
          by_cases h6 : j - 5 = i
          · rw [if_neg (by omega), if_pos h6, if_neg (by omega), if_pos h6, take_sum _ _ _ hk, keptF_no (by intro e; exact h ⟨by have := e.1; omega, by omega⟩)]
            omega
          · rw [if_neg h6, if_neg h6]
        · rw [if_neg h5, if_neg h5]
theorem sumZ_le {f : Lot → Int} {B : Int} : ∀ {l : List Lot}, (∀ x ∈ l, f x ≤ B) → sumZ f l ≤ l.length * B
  | [], _ => by simp [sumZ]
  | x :: l, h => by
    have h1 := sumZ_le (l := l) fun y hy => h y (by simp [hy])
    have h2 := h x (by simp)
    simp only [sumZ, List.length_cons, Int.natCast_add, Int.add_mul]
    omega
theorem held_le {l : List Lot} (h : ∀ x ∈ l, x.ok = true) (c : Int) : ∀ x ∈ l, heldF c x ≤ 1000000 := fun x hx => by
  obtain ⟨_, _, _, hp, hq⟩ := Lot.okC (h x hx)
  have := mul_bd hp.1 hp.2 hq.1 hq.2
  unfold heldF
  split <;> omega
theorem kept_le {l : List Lot} (h : ∀ x ∈ l, x.ok = true) (c : Int) : ∀ x ∈ l, keptF c x ≤ 1000000 := fun x hx => by
  obtain ⟨_, _, _, hp, hq⟩ := Lot.okC (h x hx)
  unfold keptF
  split <;> omega
theorem held_bd {l : List Lot} (h : BOk l) (c : Int) (k : Nat) : 0 ≤ sumZ (heldF c) (l.take k) ∧ sumZ (heldF c) (l.take k) ≤ 60000000 := by
  have hm : ∀ x ∈ l.take k, x.ok = true := fun x hx => h.ok x (List.mem_of_mem_take hx)
  have h1 := sumZ_nonneg (held_nonneg hm c)
  have h2 := sumZ_le (held_le hm c)
  have h3 : (l.take k).length ≤ 60 := by rw [List.length_take]; have := h.len; omega
  omega
theorem kept_bd {l : List Lot} (h : BOk l) (c : Int) (k : Nat) : 0 ≤ sumZ (keptF c) (l.take k) ∧ sumZ (keptF c) (l.take k) ≤ 60000000 := by
  have hm : ∀ x ∈ l.take k, x.ok = true := fun x hx => h.ok x (List.mem_of_mem_take hx)
  have h1 := sumZ_nonneg (kept_nonneg hm c)
  have h2 := sumZ_le (kept_le hm c)
  have h3 : (l.take k).length ≤ 60 := by rw [List.length_take]; have := h.len; omega
  omega
theorem hS_bd {st : FSt} (h : FOk st) (c : Int) : ∀ i, i ≤ 3 → 0 ≤ hS st.b c i ∧ hS st.b c i ≤ 60000000 * i
  | 0, _ => by simp [hS]
  | i + 1, hi => by
    have h1 := hS_bd h c i (by omega)
    have h2 := held_bd (h.book i (by omega)) c (st.b i).length
    rw [List.take_length] at h2
    simp only [hS]
    omega
theorem want_bd {st : FSt} (h : FOk st) {i k : Nat} (hi : i < 3) (c j : Nat) : 0 ≤ wantP st.b i k c j ∧ wantP st.b i k c j ≤ 1000000000 := by
  have h1 := hS_bd h c i (by omega)
  have h2 := held_bd (h.book i hi) c k
  have h3 := kept_bd (h.book i hi) c k
  unfold wantP
  split
  · omega
  · split
    · split
      · rename_i hj
        have h4 := kept_bd (h.book (j - 5) (by omega)) c (st.b (j - 5)).length
        rw [List.take_length] at h4
        omega
      · split <;> omega
    · omega
/-- At the end it is what the purse holds. -/
theorem want_held {st : FSt} (h : FOk st) {c : Nat} (hc : c < 6) : wantP st.b 3 0 c 1 = st.p c 1 := by
  rw [h.held c hc]
  unfold wantP heldB
  simp [hS, sumZ]
theorem want_kept {st : FSt} (h : FOk st) {c : Nat} (hc : c < 6) {k : Nat} (hk : k < 3) : wantP st.b 3 0 c (5 + k) = st.p c (5 + k) := by
  rw [h.kept c hc k hk]
  unfold wantP
  rw [if_neg (by omega), if_pos (by omega), if_pos (by omega), show 5 + k - 5 = k by omega]
end Go.Proofs.YtmbboflakfokhaaDoor

/- A store of a client's eight numbers, in one step. -/
set_option linter.unusedSimpArgs false
set_option linter.unusedVariables false
namespace Go.Proofs.YtmbboflakfokhaaDoor
open Go.RowKit

/-- A client's eight numbers stored at once. -/
theorem run_storeVar8 {Pr : Program} {w : World} {g : Nat} {t ty : TypeId} {Q : Pu} (h : PRow w g t Q) {c : Nat} (hc : c < 6) (hi : (Pr.info? ty).map (·.size) = some 8) (z0 z1 z2 z3 z4 z5 z6 z7 : Int) :
    (storeVar ty ⟨g, c * 8, none⟩ (.agg #[.int .i64 z0, .int .i64 z1, .int .i64 z2, .int .i64 z3, .int .i64 z4, .int .i64 z5, .int .i64 z6, .int .i64 z7])).run Pr w = .ok () ((((((((w.setCell ⟨g, c * 8, none⟩ (.int .i64 z0)).setCell ⟨g, c * 8 + 1, none⟩ (.int .i64 z1)).setCell ⟨g, c * 8 + 2, none⟩ (.int .i64 z2)).setCell ⟨g, c * 8 + 3, none⟩ (.int .i64 z3)).setCell ⟨g, c * 8 + 4, none⟩ (.int .i64 z4)).setCell ⟨g, c * 8 + 5, none⟩ (.int .i64 z5)).setCell ⟨g, c * 8 + 6, none⟩ (.int .i64 z6)).setCell ⟨g, c * 8 + 7, none⟩ (.int .i64 z7)) := by
  have hst := run_storeCells_cells (P := Pr) g (c * 8) [.int .i64 z0, .int .i64 z1, .int .i64 z2, .int .i64 z3, .int .i64 z4, .int .i64 z5, .int .i64 z6, .int .i64 z7] 0 w (fun j hj => by
    rw [Nat.add_zero, PRow.cell h hc (by simpa using hj)]; rfl) (fun j hj => World.rowIs.frozen h _) (by intro v hv; simp at hv; rcases hv with rfl | rfl | rfl | rfl | rfl | rfl | rfl | rfl <;> rfl)
  obtain ⟨i, hi1, hi2⟩ := Option.map_eq_some_iff.1 hi
  simp [storeVar, Value.cells, sizeOf, typeInfo, hi1, hi2, Sem.run_bind]
  simpa [World.setCells] using hst
theorem step_store8 {Pr : Program} {ops : Array Oper} {o : Oper} {a : Act} {w : World} {K : Act → World → Prop} {Q : Exit → Act → World → Prop} {E : Prop} (hgd : o.guard = none) (ty : TypeId) (p x : Operand) (ho : o.op = .store ty p x)
    (g c : Nat) (hp : a.eval p = .pointer (some ⟨g, c * 8, none⟩)) (z0 z1 z2 z3 z4 z5 z6 z7 : Int) (hx : a.eval x = .agg #[.int .i64 z0, .int .i64 z1, .int .i64 z2, .int .i64 z3, .int .i64 z4, .int .i64 z5, .int .i64 z6, .int .i64 z7]) (t : TypeId) (R : Pu) (h : PRow w g t R) (hc : c < 6) (hi : (Pr.info? ty).map (·.size) = some 8)
    (hK : K (a.put o.dst undef) ((((((((w.setCell ⟨g, c * 8, none⟩ (.int .i64 z0)).setCell ⟨g, c * 8 + 1, none⟩ (.int .i64 z1)).setCell ⟨g, c * 8 + 2, none⟩ (.int .i64 z2)).setCell ⟨g, c * 8 + 3, none⟩ (.int .i64 z3)).setCell ⟨g, c * 8 + 4, none⟩ (.int .i64 z4)).setCell ⟨g, c * 8 + 5, none⟩ (.int .i64 z5)).setCell ⟨g, c * 8 + 6, none⟩ (.int .i64 z6)).setCell ⟨g, c * 8 + 7, none⟩ (.int .i64 z7))) :
    if Region.wanted o (yielded ops a.tmps) = true then Oper.wp Pr o a w K Q else E := by
  have hw : Region.wanted o (yielded ops a.tmps) = true := by simp [Region.wanted, hgd]
  rw [if_pos hw]
  unfold Oper.wp execOp
  simp [ho, hp, hx, Instr.storeAt, Instr.sureAddr, Sem.run_bind, run_storeVar8 h hc hi z0 z1 z2 z3 z4 z5 z6 z7, Result.andThen_ok]
  exact hK
end Go.Proofs.YtmbboflakfokhaaDoor
