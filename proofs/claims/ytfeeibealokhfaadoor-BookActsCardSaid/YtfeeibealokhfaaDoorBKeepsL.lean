/- What came is what left and what rests: plain law. -/
import Derived.Test.YtfeeibealokhfaaDoorBX
import Derived.Test.YtfeeibealokhfaaDoorBLevels
set_option linter.unusedSimpArgs false
set_option linter.unusedVariables false
namespace Go.Proofs.YtfeeibealokhfaaDoor
open Go.RowKit

structure KSum (b : List Lot) (came left : Int) (k : Nat) : Prop where
  eq : came = left + sumQ b
  pos : 0 ≤ left
  top : came ≤ 1000 * (k : Int)
  ok : ∀ x ∈ b, x.ok = true
theorem sumQ_erase : ∀ (l : List Lot) (k : Nat) (hk : k < l.length), sumQ (l.eraseIdx k) = sumQ l - l[k].qty
  | [], k, hk => by simp at hk
  | x :: l, 0, _ => by rw [List.eraseIdx_cons_zero, sumQ_cons]; simp; omega
  | x :: l, k + 1, hk => by
    have := sumQ_erase l k (by simpa using hk)
    rw [List.eraseIdx_cons_succ, sumQ_cons, sumQ_cons, this, List.getElem_cons_succ]; omega
theorem sumQ_set : ∀ (l : List Lot) (k : Nat) (hk : k < l.length) (y : Lot), sumQ (l.set k y) = sumQ l - l[k].qty + y.qty
  | [], k, hk, _ => by simp at hk
  | x :: l, 0, _, y => by rw [List.set_cons_zero, sumQ_cons, sumQ_cons]; simp; omega
  | x :: l, k + 1, hk, y => by
    have := sumQ_set l k (by simpa using hk) y
    rw [List.set_cons_succ, sumQ_cons, sumQ_cons, this, List.getElem_cons_succ]; omega
theorem Lot.ok_less {x : Lot} (h : x.ok = true) {q : Int} (h1 : 1 ≤ q) (h2 : q < x.qty) : (x.less q).ok = true := by
  show Lot.ok ⟨x.id, x.owner, x.side, x.price, x.qty - q⟩ = true
  simp only [Lot.ok, Bool.and_eq_true, inR, decide_eq_true_eq] at h ⊢
  obtain ⟨⟨⟨⟨c1, c2⟩, c3⟩, c4⟩, c5⟩ := h
  exact ⟨⟨⟨⟨c1, c2⟩, c3⟩, c4⟩, by omega⟩
section
variable {b : List Lot} {came left : Int} {k : Nat}
theorem KSum.start : KSum [] 0 0 0 := ⟨rfl, Int.le_refl _, by simp, fun x hx => by cases hx⟩
theorem KSum.more (h : KSum b came left k) : KSum b came left (k + 1) := ⟨h.eq, h.pos, by have := h.top; omega, h.ok⟩
theorem KSum.le (h : KSum b came left k) : left ≤ came ∧ 0 ≤ came := by
  have := h.eq; have := (sumQ_bound h.ok).1; have := h.pos; omega
theorem KSum.add (h : KSum b came left k) (x : Lot) (h0 : addE b x = 0) : KSum (addL b x) (came + x.qty) left (k + 1) ∧ 1 ≤ x.qty ∧ x.qty ≤ 1000 := by
  have hx : x.ok = true := by
    unfold addE at h0
    split at h0
    · assumption
    · cases h0
  have hq := (Lot.ok_parts hx).2.2
  have e : addL b x = b ++ [x] := by unfold addL; rw [if_pos h0]
  rw [e]
  refine ⟨⟨?_, h.pos, by have := h.top; omega, fun y hy => ?_⟩, hq⟩
  · rw [sumQ_append, sumQ_cons, sumQ_nil, h.eq]; omega
  · rcases List.mem_append.1 hy with hy | hy
    · exact h.ok y hy
    · simp at hy; subst hy; exact hx
theorem add_stay {x : Lot} (h0 : addE b x ≠ 0) : addL b x = b := by unfold addL; rw [if_neg h0]
theorem KSum.cancel (h : KSum b came left k) (id : Int) (h0 : (cancelR b id).2.1 = 0) : KSum (cancelR b id).2.2 came (left + (cancelR b id).1.qty) (k + 1) ∧ 1 ≤ (cancelR b id).1.qty ∧ (cancelR b id).1.qty ≤ 1000 := by
  rcases idIdx_cases b id with ⟨i, hk, hi, _, hf⟩ | ⟨hi, _⟩
  · have e : cancelR b id = (b[i], 0, b.eraseIdx i) := by
      unfold cancelR
      rw [hf]
      simp only [List.getElem?_eq_getElem hk]
    rw [e]
    have hx := (Lot.ok_parts (h.ok _ (List.getElem_mem hk))).2.2
    refine ⟨⟨?_, by have := h.pos; show 0 ≤ left + b[i].qty; omega, by have := h.top; omega, fun y hy => h.ok y (List.mem_of_mem_eraseIdx hy)⟩, hx⟩
    show came = left + b[i].qty + sumQ (b.eraseIdx i)
    rw [sumQ_erase b i hk, h.eq]; omega
  · have e : cancelR b id = (zeroLot, 6, b) := by unfold cancelR; rw [find_none hi]
    rw [e] at h0; cases h0
theorem cancel_stay {id : Int} (h0 : (cancelR b id).2.1 ≠ 0) : (cancelR b id).2.2 = b := by
  rcases idIdx_cases b id with ⟨i, hk, hi, _, hf⟩ | ⟨hi, _⟩
  · have e : cancelR b id = (b[i], 0, b.eraseIdx i) := by
      unfold cancelR
      rw [hf]
      simp only [List.getElem?_eq_getElem hk]
    rw [e] at h0; exact absurd rfl h0
  · have e : cancelR b id = (zeroLot, 6, b) := by unfold cancelR; rw [find_none hi]
    rw [e]
theorem take_parts (b : List Lot) (id qty : Int) : ((takeR b id qty).1 ≠ 0 ∧ (takeR b id qty).2 = b) ∨ ((takeR b id qty).1 = 0 ∧ ∃ (i : Nat) (hk : i < b.length), 1 ≤ qty ∧ qty ≤ b[i].qty ∧ ((qty = b[i].qty ∧ (takeR b id qty).2 = b.eraseIdx i) ∨ (qty < b[i].qty ∧ (takeR b id qty).2 = b.set i (b[i].less qty)))) := by
  rcases idIdx_cases b id with ⟨k, hk, hi, _, hf⟩ | ⟨hi, _⟩
  · have e : takeR b id qty = if qty < 1 ∨ b[k].qty < qty then (2, b) else if qty = b[k].qty then (0, b.eraseIdx k) else (0, b.set k (b[k].less qty)) := by
      unfold takeR
      rw [hf]
      simp only [List.getElem?_eq_getElem hk]
    rw [e]
    by_cases h1 : qty < 1 ∨ b[k].qty < qty
    · rw [if_pos h1]; exact .inl ⟨by simp, rfl⟩
    · rw [if_neg h1]
      by_cases h2 : qty = b[k].qty
      · rw [if_pos h2]; exact .inr ⟨rfl, k, hk, by omega, by omega, .inl ⟨h2, rfl⟩⟩
      · rw [if_neg h2]; exact .inr ⟨rfl, k, hk, by omega, by omega, .inr ⟨by omega, rfl⟩⟩
  · have e : takeR b id qty = (6, b) := by unfold takeR; rw [find_none hi]
    rw [e]; exact .inl ⟨by simp, rfl⟩
theorem KSum.take (h : KSum b came left k) (id qty : Int) (h0 : (takeR b id qty).1 = 0) : KSum (takeR b id qty).2 came (left + qty) (k + 1) ∧ 1 ≤ qty ∧ qty ≤ 1000 := by
  rcases take_parts b id qty with ⟨h1, _⟩ | ⟨_, i, hk, q1, q2, hc⟩
  · exact absurd h0 h1
  · have hx := (Lot.ok_parts (h.ok _ (List.getElem_mem hk))).2.2
    refine ⟨⟨?_, by have := h.pos; omega, by have := h.top; omega, fun y hy => ?_⟩, q1, by omega⟩
    · rcases hc with ⟨e1, e2⟩ | ⟨e1, e2⟩
      · rw [e2, sumQ_erase b i hk, h.eq]; omega
      · rw [e2, sumQ_set b i hk, h.eq]
        show left + sumQ b = left + qty + (sumQ b - b[i].qty + (b[i].qty - qty))
        omega
    · rcases hc with ⟨e1, e2⟩ | ⟨e1, e2⟩
      · rw [e2] at hy; exact h.ok y (List.mem_of_mem_eraseIdx hy)
      · rw [e2] at hy
        rcases List.mem_or_eq_of_mem_set hy with hy | rfl
        · exact h.ok y hy
        · exact Lot.ok_less (h.ok _ (List.getElem_mem hk)) q1 e1
theorem take_stay {id qty : Int} (h0 : (takeR b id qty).1 ≠ 0) : (takeR b id qty).2 = b := by
  rcases take_parts b id qty with ⟨_, h1⟩ | ⟨h1, _⟩
  · exact h1
  · exact absurd h1 h0
end
/-- What the first sides hold. -/
def restS (b : List Lot) (s : Nat) : Int := if s = 0 then 0 else if s = 1 then sumQ (b.filter fun x => x.side == 0) else sumQ b
def manyS (b : List Lot) (s : Nat) : Int := if s = 0 then 0 else if s = 1 then ((b.filter fun x => x.side == 0).length : Int) else b.length
theorem restS_step {b : List Lot} (h : ∀ x ∈ b, x.ok = true) {s : Nat} (hs : s < 2) : restS b s + ((levelsB (s : Int) b).map Lvl.qty).sum = restS b (s + 1) ∧ manyS b s + ((levelsB (s : Int) b).map Lvl.many).sum = manyS b (s + 1) := by
  rw [levels_qty h, levels_many h]
  have h1 := sides_qty h
  have h2 := sides_many h
  obtain rfl | rfl : s = 0 ∨ s = 1 := by omega
  · constructor
    · show 0 + _ = sumQ _; rw [Int.zero_add]; rfl
    · show 0 + _ = ((_ : Nat) : Int); rw [Int.zero_add]; rfl
  · constructor
    · show sumQ (b.filter fun x => x.side == 0) + sumQ (b.filter fun x => x.side == 1) = sumQ b; exact h1
    · show ((b.filter fun x => x.side == 0).length : Int) + ((b.filter fun x => x.side == 1).length : Int) = b.length; exact h2
theorem restS_bound {b : List Lot} (h : ∀ x ∈ b, x.ok = true) (hl : b.length ≤ 60) (s : Nat) : 0 ≤ restS b s ∧ restS b s ≤ 60000 ∧ 0 ≤ manyS b s ∧ manyS b s ≤ 60 := by
  have h1 := sumQ_bound h
  have h2 := sumQ_bound (l := b.filter fun x => x.side == 0) (fun x hx => h x (List.mem_filter.1 hx).1)
  have h3 := List.length_filter_le (fun x : Lot => x.side == 0) b
  unfold restS manyS
  split
  · omega
  · split
    · omega
    · omega
/-- What the first ones sum to. -/
def pre (f : Lvl → Int) (v : List Lvl) (j : Nat) : Int := ((v.take j).map f).sum
theorem pre_zero (f : Lvl → Int) (v : List Lvl) : pre f v 0 = 0 := by simp [pre]
theorem pre_succ (f : Lvl → Int) {v : List Lvl} {j : Nat} (hj : j < v.length) : pre f v (j + 1) = pre f v j + f v[j] := by
  unfold pre
  rw [List.take_succ_eq_append_getElem hj, List.map_append, List.sum_append]; simp
theorem sum_pos {f : Lvl → Int} : ∀ {v : List Lvl}, (∀ x ∈ v, 0 ≤ f x) → 0 ≤ (v.map f).sum
  | [], _ => by simp
  | x :: v, h => by
    rw [List.map_cons, List.sum_cons]
    have := h x (by simp)
    have := sum_pos (v := v) (fun y hy => h y (List.mem_cons_of_mem _ hy))
    omega
theorem pre_le {f : Lvl → Int} {v : List Lvl} (h : ∀ x ∈ v, 0 ≤ f x) (j : Nat) : 0 ≤ pre f v j ∧ pre f v j ≤ (v.map f).sum := by
  have h1 := sum_pos (f := f) (v := v.take j) (fun x hx => h x (List.mem_of_mem_take hx))
  have h2 := sum_pos (f := f) (v := v.drop j) (fun x hx => h x (List.mem_of_mem_drop hx))
  have e : (v.map f).sum = ((v.take j).map f).sum + ((v.drop j).map f).sum := by rw [← List.sum_append, ← List.map_append, List.take_append_drop]
  unfold pre
  omega
theorem pre_all (f : Lvl → Int) (v : List Lvl) : pre f v v.length = (v.map f).sum := by unfold pre; rw [List.take_length]
theorem lvl_pos {side : Int} {b : List Lot} (h : ∀ x ∈ b, x.ok = true) : ∀ x ∈ levelsB side b, (0 ≤ x.qty ∧ 0 ≤ x.many) ∧ 1 ≤ x.price ∧ x.price ≤ 1000 := by
  intro x hx
  unfold levelsB at hx
  obtain ⟨p, hp, rfl⟩ := List.mem_map.1 hx
  refine ⟨⟨(qtyP_bound h side p).1, by show (0 : Int) ≤ ((manyP side p b : Nat) : Int); omega⟩, ?_⟩
  unfold psP at hp
  split at hp
  · exact upP_range (List.mem_reverse.1 hp)
  · exact upP_range hp
theorem levels_sorted (b : List Lot) {m : Nat} : (∀ h : m + 1 < (levelsB 0 b).length, (levelsB 0 b)[m + 1].price < (levelsB 0 b)[m].price) ∧ ∀ h : m + 1 < (levelsB 1 b).length, (levelsB 1 b)[m].price < (levelsB 1 b)[m + 1].price := by
  constructor
  · intro h
    have hp : (psP 0 b).Pairwise (fun x y => y < x) := by
      show (upP 0 b).reverse.Pairwise _
      rw [List.pairwise_reverse]
      exact upP_rising 0 b
    unfold levelsB at h ⊢
    rw [List.getElem_map, List.getElem_map]
    rw [List.length_map] at h
    exact List.pairwise_iff_getElem.1 hp m (m + 1) (by omega) h (by omega)
  · intro h
    have hp : (psP 1 b).Pairwise (· < ·) := upP_rising 1 b
    unfold levelsB at h ⊢
    rw [List.getElem_map, List.getElem_map]
    rw [List.length_map] at h
    exact List.pairwise_iff_getElem.1 hp m (m + 1) (by omega) h (by omega)
def LvSorted (n : Nat) (v : List Lvl) : Prop := ∀ m, (n = 0 → ∀ h : m + 1 < v.length, v[m + 1].price < v[m].price) ∧ (n = 1 → ∀ h : m + 1 < v.length, v[m].price < v[m + 1].price)
theorem lv_sorted (n : Nat) (b : List Lot) : LvSorted n (levelsB (n : Int) b) := fun m => ⟨fun e => by subst e; exact (levels_sorted b).1, fun e => by subst e; exact (levels_sorted b).2⟩
/-- How a slice of levels reads. -/
def LvlsAt (w : World) (ao : Option Addr) (v : List Lvl) : Prop := 0 < v.length → ∃ b off, ao = some ⟨b, off, none⟩ ∧ b < w.heap.size ∧ ∀ k (h : k < v.length) j, j < 3 → w.cell? ⟨b, off + k * 3 + j, none⟩ = v[k].cells[j]?
theorem lvls_of_owned {w : World} {base : Nat} {e : TypeId} {v : Value} {l : List Lvl} (h : w.ownsRow base e 3 v l.length (flat Lvl.cells l)) : ∃ ao cap, v = .slice ao l.length cap ∧ l.length ≤ cap ∧ cap ≤ maxLen ∧ LvlsAt w ao l := by
  obtain ⟨h1, ⟨rfl, h2⟩ | ⟨g, cap, cur, rfl, hb, hg, hc, hm, hs, ht⟩⟩ := h
  · exact ⟨none, 0, by rw [h2], by omega, Nat.zero_le _, fun h => by omega⟩
  · refine ⟨_, cap, rfl, hc, hm, fun h0 => ⟨g, 0, rfl, (Array.getElem?_eq_some_iff.1 hg).1, fun k hk j hj => ?_⟩⟩
    have e : (flat Lvl.cells l)[k * 3 + j]? = l[k].cells[j]? := flat_get lvl_len l k hk j hj
    rw [← e, ← ht, List.getElem?_take_of_lt (by omega), Nat.zero_add]
    simp [World.cell?, hg]
theorem LvlsAt.ex {w w' : World} {ao : Option Addr} {v : List Lvl} (h : LvlsAt w ao v) (hx : Ex w w') : LvlsAt w' ao v := fun h0 => by
  obtain ⟨b, off, e, hb, hc⟩ := h h0
  exact ⟨b, off, e, Nat.lt_of_lt_of_le hb hx.below.size, fun k hk j hj => (hx.below.cell (p := ⟨b, off + k * 3 + j, none⟩) hb).trans (hc k hk j hj)⟩
section
variable {wB : World} {p bx : Nat} {v : Value} {a : BAct} {was l : List Lot} {wr w' : World}
theorem badd_r (h : BX wB p bx v a was l wr) (hx : a.l.wf) (E : Nat → Addr) (hE : Errs E [2, 6, 7, 8] wB) :
    Calls Tryd.prog 28 #[.pointer (some ⟨p, 0, none⟩), a.l.val] wr fun e w' => e = .returned (errV E (addE l a.l)) ∧ BX wB p bx v a was (addL l a.l) w' := by
  obtain ⟨⟨own, h1, hb, hv, h3⟩, h4, hr, h5, h6⟩ := h
  exact (add_any h1 a.l hx E (Errs.sub (hE.ex (Ex.of h5)) (by decide))).mono fun e w' ⟨k1, k2⟩ => ⟨k1, BX.one hb hv h3 h4 hr h5 h6 k2⟩
theorem bcancel_r (h : BX wB p bx v a was l wr) (E : Nat → Addr) (hE : Errs E [2, 6, 7, 8] wB) :
    Calls Tryd.prog 29 #[.pointer (some ⟨p, 0, none⟩), .int .i64 a.id] wr fun e w' => e = .returned (.tuple #[(cancelR l a.id).1.val, errV E (cancelR l a.id).2.1]) ∧ BX wB p bx v a was (cancelR l a.id).2.2 w' := by
  obtain ⟨⟨own, h1, hb, hv, h3⟩, h4, hr, h5, h6⟩ := h
  exact (cancel_any h1 a.id E (Errs.sub (hE.ex (Ex.of h5)) (by decide))).mono fun e w' ⟨k1, k2⟩ => ⟨k1, BX.one hb hv h3 h4 hr h5 h6 k2⟩
theorem btake_r (h : BX wB p bx v a was l wr) (E : Nat → Addr) (hE : Errs E [2, 6, 7, 8] wB) :
    Calls Tryd.prog 30 #[.pointer (some ⟨p, 0, none⟩), .int .i64 a.id, .int .i64 a.qty] wr fun e w' => e = .returned (errV E (takeR l a.id a.qty).1) ∧ BX wB p bx v a was (takeR l a.id a.qty).2 w' := by
  obtain ⟨⟨own, h1, hb, hv, h3⟩, h4, hr, h5, h6⟩ := h
  exact (take_any h1 a.id a.qty E (Errs.sub (hE.ex (Ex.of h5)) (by decide))).mono fun e w' ⟨k1, k2⟩ => ⟨k1, BX.one hb hv h3 h4 hr h5 h6 k2⟩
theorem BInv.bw (h : BInv wB p l wr) : BW wB p (.slice none 0 0) [] l wr := by
  obtain ⟨⟨own, h1, h3⟩, h5, h6⟩ := h
  exact ⟨⟨own, h1, (fun g e => nomatch e), h3⟩, ⟨0, World.ownsRow_nil _ _ _ _⟩, h5, h6⟩
theorem BInv.levels (h : BInv wB p l wr) (hok : ∀ x ∈ l, x.ok = true) (side : Int) (hs : side = 0 ∨ side = 1) : Calls Tryd.prog 48 #[.pointer (some ⟨p, 0, none⟩), .int .i64 side] wr fun e w' => (∃ v, e = .returned v ∧ w'.ownsRow wr.heap.size 92 3 v (levelsB side l).length (flat Lvl.cells (levelsB side l))) ∧ BInv wB p l w' := by
  have h' := h
  obtain ⟨⟨own, h1, h3⟩, h5, h6⟩ := h'
  exact (levels_any h1 hok side hs).mono fun e w' ⟨k1, k2⟩ => ⟨k1, h.later k2⟩
theorem BInv.lotsOf (h : BInv wB p l wr) : Calls Tryd.prog 27 #[.pointer (some ⟨p, 0, none⟩)] wr fun e w' => (∃ ao cap, e = .returned (.slice ao l.length cap)) ∧ Ex wr w' := by
  have h' := h
  obtain ⟨⟨own, h1, h3⟩, h5, h6⟩ := h'
  refine (lots_any h1).mono fun e w' ⟨⟨u, e1, hrow⟩, hx⟩ => ⟨?_, hx⟩
  obtain ⟨ao, cap, rfl, _⟩ := lots_of_owned h1.2.1 (by have := h1.1; omega) hrow
  exact ⟨ao, cap, e1⟩
end
end Go.Proofs.YtfeeibealokhfaaDoor
