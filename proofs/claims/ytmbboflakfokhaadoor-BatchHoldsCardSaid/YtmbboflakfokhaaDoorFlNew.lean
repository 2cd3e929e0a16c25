import Derived.Test.YtmbboflakfokhaaDoorFl0
import Derived.Test.YtmbboflakfokhaaDoorJ26
import Derived.Test.YtmbboflakfokhaaDoorGive
import Derived.Test.YtmbboflakfokhaaDoorBand
import Derived.Deep.RegionLaw
import Derived.Deep.RegionHeld3
import Derived.Deep.CutBlock
/- What New of a floor computes. -/
set_option linter.unusedSimpArgs false
set_option linter.unusedVariables false
namespace Go.Proofs.YtmbboflakfokhaaDoor
open Go.RowKit

theorem step_append_own {P : Program} {ops : Array Oper} {o : Oper} {a : Act} {w : World} {K : Act → World → Prop} {Q : Exit → Act → World → Prop} {E : Prop} (hgd : o.guard = none) (s x : Operand) (t : TypeId)
    (ho : o.op = .call { callee := .builtin .append, args := #[s, x], argTypes := #[t, t] })
    (base : Nat) (e : TypeId) (i : TypeInfo) (z : Value) (size bytes : Nat) (ht : P.underlying t = some (.slice e)) (hi : P.info? e = some i) (hz : i.zero = some z)
    (hsize : i.size = size) (hby : i.bytes = bytes) (hzs : z.cells.size = size) (hsz : 0 < size)
    (v : Value) (n : Nat) (xs : List Value) (hv : a.eval s = v) (hown : w.ownsRow base e size v n xs)
    (ad : Addr) (m c : Nat) (news : List Value) (hy : a.eval x = .slice (some ad) m c) (hl : news.length = m * size) (hnews : ∀ j u, news[j]? = some u → w.cell? (ad.add j) = some u) (h1 : ∀ u ∈ news, u.oneCell' = true)
    (h63 : n + m ≤ maxLen) (hbytes : (n + m) * bytes ≤ 140737488355328) (hbase : base ≤ w.heap.size)
    (hK : ∀ v' w', w'.ownsRow base e size v' (n + m) (xs ++ news) → w.grownBy w' v.ownBlock → K (a.put o.dst v') w') :
    if Region.wanted o (yielded ops a.tmps) = true then Oper.wp P o a w K Q else E := by
  have hw : Region.wanted o (yielded ops a.tmps) = true := by simp [Region.wanted, hgd]
  rw [if_pos hw]
  obtain ⟨v', w', hr, h2, h3, _⟩ := run_append_own (P := P) w base t o.type e i z size bytes ht hi hz hsize hby hzs hsz v n xs hown ad m c news hl hnews h1 h63 hbytes hbase
  unfold Oper.wp execOp
  simp only [ho, resolve, invoke, builtin, Sem.run_bind, Sem.run_pure, Result.andThen_ok, List.map_toArray, List.map_cons, List.map_nil, hv, hy, hr]
  exact hK v' w' h2 h3
set_option maxRecDepth 100000 in
theorem bookNew2 (w : World) : Calls Tryd.prog 27 #[] w fun e w' => e = .returned (.pointer (some ⟨w.heap.size, 0, none⟩)) ∧ w' = w.alloc (.cells #[.slice none 0 0] 89) := by
  go_enter Tryd.func27, Tryd.ntmps27
  go_wp2
  all_goals go_ret
  all_goals exact ⟨rfl, rfl⟩
set_option maxRecDepth 100000 in
theorem purseNew2 (w : World) : Calls Tryd.prog 26 #[] w fun e w' => e = .returned (.pointer (some ⟨w.heap.size, 0, none⟩)) ∧ Ex w w' ∧ w.heap.size < w'.heap.size ∧ Blk w' w.heap.size (Array.replicate 48 (.int .i64 0)) 91 := by
  go_enter Tryd.func26, Tryd.ntmps26
  go_wp2
  all_goals go_ret
  all_goals exact ⟨rfl, (by repeat (first | exact Ex.refl _ | refine Ex.alloc ?_ _ | refine Ex.ext ?_ _ _ | refine Ex.drew ?_ | refine Ex.drewN ?_ _)), by simp, Blk.new rfl⟩
/-- The purse when so many clients were given. -/
def newP (cash stock : Int) (n : Nat) : Pu := fun c j => if c < n then (if j = 0 then cash else if 2 ≤ j ∧ j < 5 then stock else 0) else 0
/-- A floor as it is made. -/
def newSt (ref cash stock : Int) : FSt := ⟨fun _ => [], fun _ => ref, fun _ => 0, newP cash stock 6⟩
def triS (stock : Int) (k : Nat) : Nat → Int := fun i => if i < k then stock else 0
theorem newP_give {cash stock : Int} {n : Nat} (hn : n < 6) (h0 : 0 ≤ cash) (h1 : cash ≤ 1073741824) (h2 : 0 ≤ stock) (h3 : stock ≤ 100000) : giveE (newP cash stock n) (n : Int) cash (fun _ => stock) = 0 ∧ giveP (newP cash stock n) (n : Int) cash (fun _ => stock) = newP cash stock (n + 1) := by
  have hz : ∀ j, newP cash stock n n j = 0 := fun j => if_neg (Nat.lt_irrefl n)
  have e : giveE (newP cash stock n) (n : Int) cash (fun _ => stock) = 0 := by
    unfold giveE
    rw [Int.toNat_natCast]
    simp only [hz]
    have h4 : (inR (n : Int) 0 5 && decide (0 ≤ cash)) = true := by rw [Bool.and_eq_true]; exact ⟨inR_iff.2 ⟨by omega, by omega⟩, by simpa using h0⟩
    rw [h4]
    simp only [if_true]
    (repeat' split) <;> first | rfl | (exfalso; omega)
  refine ⟨e, ?_⟩
  unfold giveP
  rw [if_pos e, Int.toNat_natCast]
  funext d j
  unfold Pu.add
  simp only [hz]
  by_cases hd : d = n
  · subst hd
    rw [if_pos rfl]
    unfold newP
    rw [if_pos (Nat.lt_succ_self _)]
    by_cases j0 : j = 0
    · rw [if_pos j0, if_pos j0]; omega
    · rw [if_neg j0, if_neg j0]
      by_cases j2 : j = 2
      · rw [if_pos j2, if_pos (by omega)]; omega
      · rw [if_neg j2]
        by_cases j3 : j = 3
        · rw [if_pos j3, if_pos (by omega)]; omega
        · rw [if_neg j3]
          by_cases j4 : j = 4
          · rw [if_pos j4, if_pos (by omega)]; omega
          · rw [if_neg j4, if_neg (by omega)]
  · rw [if_neg hd]
    unfold newP
    by_cases h : d < n
    · rw [if_pos h, if_pos (show d < n + 1 by omega)]
    · rw [if_neg h, if_neg (show ¬ d < n + 1 by omega)]
/-- The cells of so many items. -/
def itemsC (bp : Nat → Nat) (ref : Int) (k : Nat) : List Value := (List.range k).flatMap fun j => [.pointer (some ⟨bp j, 0, none⟩), .int .i64 ref, .int .i64 0]
theorem itemsC_succ (bp : Nat → Nat) (ref : Int) (k : Nat) : itemsC bp ref (k + 1) = itemsC bp ref k ++ [.pointer (some ⟨bp k, 0, none⟩), .int .i64 ref, .int .i64 0] := by
  unfold itemsC
  rw [List.range_succ, List.flatMap_append]
  simp
theorem itemsC_len (bp : Nat → Nat) (ref : Int) (k : Nat) : (itemsC bp ref k).length = k * 3 := by
  induction k with
  | zero => rfl
  | succ k ih => rw [itemsC_succ, List.length_append, ih]; simp; omega
theorem itemsC_congr {bp bq : Nat → Nat} {ref : Int} {k : Nat} (h : ∀ j, j < k → bp j = bq j) : itemsC bp ref k = itemsC bq ref k := by
  induction k with
  | zero => rfl
  | succ k ih => rw [itemsC_succ, itemsC_succ, ih (fun j hj => h j (by omega)), h k (by omega)]
/-- What holds while items are made. -/
structure NewR (w : World) (fb ab pp : Nat) (ref stock wd hl : Int) (q k : Nat) (bp : Nat → Nat) (v : Value) (wr : World) : Prop where
  ex : Ex w wr
  fl : Blk wr fb #[v, .pointer (some ⟨pp, 0, none⟩), .int .i64 wd, .int .i64 hl] 77
  all : Blk wr ab #[.int .i64 (triS stock q 0), .int .i64 (triS stock q 1), .int .i64 (triS stock q 2)] 41
  pu : Blk wr pp (Array.replicate 48 (.int .i64 0)) 91
  row : wr.ownsRow w.heap.size 80 3 v k (itemsC bp ref k)
  bk : ∀ j, j < k → Blk wr (bp j) #[.slice none 0 0] 89 ∧ w.heap.size ≤ bp j
  bd : ∀ i j, i < j → j < k → bp i ≠ bp j
  low : w.heap.size ≤ fb ∧ w.heap.size ≤ ab ∧ w.heap.size ≤ pp
theorem infoItem : (Tryd.prog.info? 80).map (fun i => (i.zero, i.size, i.bytes)) = some (some (.agg #[.pointer none, .int .i64 0, .int .i64 0]), 3, 24) := by kernel_rfl
theorem owns_ne {W : World} {base : Nat} {e t : TypeId} {size : Nat} {v : Value} {n b : Nat} {xs : List Value} {vs : Array Value} (h : W.ownsRow base e size v n xs) (hb : Blk W b vs t) (hne : e ≠ t) : v.ownBlock ≠ some b := fun e0 => by
  rcases h.2 with ⟨rfl, _⟩ | ⟨g, cap, cur, rfl, _, hh, _⟩
  · cases e0
  · cases e0
    rw [show W.heap[g]? = _ from hb] at hh
    simp at hh
    exact hne hh.2.symm
theorem owns_slice {W : World} {base : Nat} {e : TypeId} {size : Nat} {v : Value} {n : Nat} {xs : List Value} (h : W.ownsRow base e size v n xs) : ∃ ao cap, v = .slice ao n cap ∧ n ≤ cap ∧ cap ≤ maxLen := by
  rcases h.2 with ⟨rfl, h0⟩ | ⟨g, cap, cur, rfl, _, _, hc, hm, _⟩
  · exact ⟨none, 0, by rw [h0], by omega, by unfold maxLen; omega⟩
  · exact ⟨_, cap, rfl, hc, hm⟩
theorem Blk.grown {W W' : World} {b : Nat} {vs : Array Value} {t : TypeId} {row : Option Nat} (h : Blk W b vs t) (hg : W.grownBy W' row) (hne : row ≠ some b) : Blk W' b vs t := (hg.block b h.lt (fun e => hne e.symm)).trans h
theorem triS_step {stock : Int} {k : Nat} (hk : k < 3) : (#[Value.int .i64 (triS stock k 0), .int .i64 (triS stock k 1), .int .i64 (triS stock k 2)] : Array Value).setIfInBounds k (.int .i64 stock) = #[.int .i64 (triS stock (k + 1) 0), .int .i64 (triS stock (k + 1) 1), .int .i64 (triS stock (k + 1) 2)] := by
  have h : k = 0 ∨ k = 1 ∨ k = 2 := by omega
  rcases h with rfl | rfl | rfl <;> simp [triS]
theorem triS_cell {stock : Int} {k : Nat} (hk : k < 3) : (#[Value.int .i64 (triS stock k 0), .int .i64 (triS stock k 1), .int .i64 (triS stock k 2)] : Array Value)[k]? = some (.int .i64 0) := by
  have h : k = 0 ∨ k = 1 ∨ k = 2 := by omega
  rcases h with rfl | rfl | rfl <;> simp [triS]
section
variable {w W W1 w' : World} {fb ab pp q k : Nat} {ref stock wd hl : Int} {bp : Nat → Nat} {v v' : Value}
theorem NewR.set (h : NewR w fb ab pp ref stock wd hl k k bp v W) (hk : k < 3) (hne : ab ≠ fb ∧ ab ≠ pp) : NewR w fb ab pp ref stock wd hl (k + 1) k bp v (W.setCell ⟨ab, k, none⟩ (.int .i64 stock)) where
  ex := Ex.of (Below.setCell h.ex.below h.low.2.1 _)
  fl := h.fl.other _ _ (fun e => hne.1 e.symm)
  all := by rw [← triS_step hk]; exact h.all.set _ _
  pu := h.pu.other _ _ (fun e => hne.2 e.symm)
  row := h.row.kept (row := some ab) ⟨rfl, rfl, rfl, by simp [World.setCell], fun n hn hne => heap_setCell_other _ _ _ _ (fun e => hne (by rw [e]))⟩ (.inr (owns_ne h.row h.all (by decide)))
  bk := fun j hj => ⟨(h.bk j hj).1.other _ _ (fun e => by
    have h1 := (h.bk j hj).1
    have h2 := h.all
    unfold Blk at h1 h2
    simp only at e
    rw [e, h2] at h1
    simp at h1), (h.bk j hj).2⟩
  bd := h.bd
  low := h.low
theorem NewR.step (h : NewR w fb ab pp ref stock wd hl q k bp v W) (hx : Ex W W1) (hbk : Blk W1 W.heap.size #[.slice none 0 0] 89) (hown : w'.ownsRow w.heap.size 80 3 v' (k + 1) (itemsC bp ref k ++ [.pointer (some ⟨W.heap.size, 0, none⟩), .int .i64 ref, .int .i64 0])) (hg : W1.grownBy w' v.ownBlock) :
    Blk w' fb #[v, .pointer (some ⟨pp, 0, none⟩), .int .i64 wd, .int .i64 hl] 77 ∧ NewR w fb ab pp ref stock wd hl q (k + 1) (fun j => if j = k then W.heap.size else bp j) v' (w'.setCell ⟨fb, 0, none⟩ v') := by
  have hz := h.ex.below.size
  have r1 : W1.ownsRow w.heap.size 80 3 v k (itemsC bp ref k) := h.row.kept (row := none) ⟨hx.below.os, hx.below.tape, hx.below.output, hx.below.size, fun n hn _ => hx.below.block n hn⟩ (Classical.em _ |>.imp id (fun h => h))
  have hfl : Blk w' fb #[v, .pointer (some ⟨pp, 0, none⟩), .int .i64 wd, .int .i64 hl] 77 := (h.fl.ex hx).grown hg (owns_ne r1 (h.fl.ex hx) (by decide))
  have dif : ∀ {b : Nat} {vs : Array Value} {t : TypeId}, Blk w' b vs t → t ≠ 77 → b ≠ fb := fun h1 ht e => by
    have h2 := hfl
    unfold Blk at h1 h2
    rw [e, h2] at h1
    simp at h1
    exact ht h1.2.symm
  have k1 : Blk w' ab _ _ := (h.all.ex hx).grown hg (owns_ne r1 (h.all.ex hx) (by decide))
  have k2 : Blk w' pp _ _ := (h.pu.ex hx).grown hg (owns_ne r1 (h.pu.ex hx) (by decide))
  have k3 : Blk w' W.heap.size _ _ := hbk.grown hg (owns_ne r1 hbk (by decide))
  have k4 : ∀ j, j < k → Blk w' (bp j) _ _ := fun j hj => ((h.bk j hj).1.ex hx).grown hg (owns_ne r1 ((h.bk j hj).1.ex hx) (by decide))
  have hfb : Below w.heap.size w w' := Below.grown (h.ex.trans hx).below hg (h.ex.trans hx).below.size (fun b e => (r1.lt b e).1)
  refine ⟨hfl, ⟨Ex.of (Below.setCell hfb h.low.1 _), ?_, k1.other _ _ (dif k1 (by decide)), k2.other _ _ (dif k2 (by decide)), ?_, fun j hj => ?_, fun i j hij hj => ?_, h.low⟩⟩
  · have := hfl.set 0 v'
    simpa using this
  · have e : itemsC (fun j => if j = k then W.heap.size else bp j) ref (k + 1) = itemsC bp ref k ++ [.pointer (some ⟨W.heap.size, 0, none⟩), .int .i64 ref, .int .i64 0] := by
      rw [itemsC_succ, if_pos rfl, itemsC_congr (bq := bp) fun j hj => if_neg (by omega)]
    rw [e]
    exact hown.kept (row := some fb) ⟨rfl, rfl, rfl, by simp [World.setCell], fun n hn hne => heap_setCell_other _ _ _ _ (fun e => hne (by rw [e]))⟩ (.inr (owns_ne hown hfl (by decide)))
  · by_cases e : j = k
    · simp only [e, if_true]
      exact ⟨k3.other _ _ (dif k3 (by decide)), hz⟩
    · simp only [e, if_false]
      have := k4 j (by omega)
      exact ⟨this.other _ _ (dif this (by decide)), (h.bk j (by omega)).2⟩
  · by_cases e : j = k
    · subst e
      rw [if_pos rfl, if_neg (by omega)]
      have := (h.bk i hij).1.lt
      omega
    · rw [if_neg e, if_neg (by omega)]
      exact h.bd i j hij (by omega)
end
theorem Blk.ne {W : World} {b b' : Nat} {vs vs' : Array Value} {t t' : TypeId} (h : Blk W b vs t) (h' : Blk W b' vs' t') (hne : t ≠ t') : b ≠ b' := fun e => by
  unfold Blk at h h'
  rw [e, h'] at h
  simp at h
  exact hne h.2.symm
theorem itemsC_get (bp : Nat → Nat) (ref : Int) : ∀ k j, j < k → (itemsC bp ref k)[j * 3]? = some (.pointer (some ⟨bp j, 0, none⟩)) ∧ (itemsC bp ref k)[j * 3 + 1]? = some (.int .i64 ref) ∧ (itemsC bp ref k)[j * 3 + 2]? = some (.int .i64 0)
  | k + 1, j, hj => by
    rw [itemsC_succ]
    have hl := itemsC_len bp ref k
    by_cases e : j = k
    · subst e
      rw [List.getElem?_append_right (by omega), List.getElem?_append_right (by omega), List.getElem?_append_right (by omega), hl]
      rw [show j * 3 - j * 3 = 0 by omega, show j * 3 + 1 - j * 3 = 1 by omega, show j * 3 + 2 - j * 3 = 2 by omega]
      exact ⟨rfl, rfl, rfl⟩
    · rw [List.getElem?_append_left (by omega), List.getElem?_append_left (by omega), List.getElem?_append_left (by omega)]
      exact itemsC_get bp ref k j (by omega)
theorem newP_zero (cash stock : Int) (d j : Nat) : newP cash stock 0 d j = 0 := if_neg (Nat.not_lt_zero _)
theorem newP_inv (cash stock : Int) : PInv (newP cash stock 0) := fun d hd => by
  refine ⟨by rw [newP_zero]; omega, by rw [newP_zero, newP_zero]; omega, by rw [newP_zero]; omega, fun i hi => ⟨by rw [newP_zero]; omega, by rw [newP_zero, newP_zero]; omega, by rw [newP_zero]; omega⟩⟩
set_option maxHeartbeats 1000000 in
theorem NewR.floor {w W : World} {fb ab pp : Nat} {ref stock wd hl : Int} {bp : Nat → Nat} {v : Value} (h : NewR w fb ab pp ref stock wd hl 3 3 bp v W) (own : Nat → Nat) (c : Nat) (hfree : ∀ n, n < w.heap.size → own n / 8 ≠ c) (a1 : 0 ≤ wd) (a2 : wd ≤ 100) (a3 : 1 ≤ hl) (a4 : hl ≤ 1000) (cash : Int) :
    ∃ (A : FlA) (o : Nat → Nat), A.f = fb ∧ A.pp = pp ∧ A.wd = wd ∧ A.hl = hl ∧ FlAt o c W A ⟨fun _ => [], fun _ => ref, fun _ => 0, newP cash stock 0⟩ ∧ (∀ n, n < w.heap.size → o n = own n) ∧ o ab / 8 ≠ c := by
  obtain ⟨ex, fl, all, pu, row, bk, bd, low⟩ := h
  have hlen := row.1
  obtain ⟨g, cap, cur, rfl, hg, hh, hc, hm, hs, ht⟩ : ∃ g cap cur, v = .slice (some ⟨g, 0, none⟩) 3 cap ∧ w.heap.size ≤ g ∧ W.heap[g]? = some (.cells cur 80 (0, 0)) ∧ 3 ≤ cap ∧ cap ≤ maxLen ∧ cur.size = cap * 3 ∧ cur.toList.take (3 * 3) = itemsC bp ref 3 := by
    rcases row.2 with ⟨_, h0⟩ | h1
    · cases h0
    · exact h1
  have bg : Blk W g cur 80 := hh
  have b0 := (bk 0 (by omega)).1
  have b1 := (bk 1 (by omega)).1
  have b2 := (bk 2 (by omega)).1
  have n1 := fl.ne bg (by decide)
  have n2 := fl.ne pu (by decide)
  have n3 := fl.ne all (by decide)
  have n4 := fl.ne b0 (by decide)
  have n5 := fl.ne b1 (by decide)
  have n6 := fl.ne b2 (by decide)
  have m1 := bg.ne pu (by decide)
  have m2 := bg.ne all (by decide)
  have m3 := bg.ne b0 (by decide)
  have m4 := bg.ne b1 (by decide)
  have m5 := bg.ne b2 (by decide)
  have p1 := pu.ne all (by decide)
  have p2 := pu.ne b0 (by decide)
  have p3 := pu.ne b1 (by decide)
  have p4 := pu.ne b2 (by decide)
  have q1 := all.ne b0 (by decide)
  have q2 := all.ne b1 (by decide)
  have q3 := all.ne b2 (by decide)
  have r1 := bd 0 1 (by omega) (by omega)
  have r2 := bd 0 2 (by omega) (by omega)
  have r3 := bd 1 2 (by omega) (by omega)
  obtain ⟨l1, l2, l3⟩ := low
  have g0 := (bk 0 (by omega)).2
  have g1 := (bk 1 (by omega)).2
  have g2 := (bk 2 (by omega)).2
  obtain ⟨o, ho⟩ : ∃ o : Nat → Nat, ∀ n, o n = if n = fb then 8 * c + 5 else if n = g then 8 * c + 6 else if n = pp then 8 * c + 4 else if n = bp 0 then 8 * c + 1 else if n = bp 1 then 8 * c + 2 else if n = bp 2 then 8 * c + 3 else if n < w.heap.size then own n else 8 * c + 8 := ⟨_, fun _ => rfl⟩
  have hbook : ∀ j, Blk W (bp j) #[.slice none 0 0] 89 → o (bp j) = 8 * c + 1 + j → BookAt o (8 * c + 1 + j) W (bp j) [] := fun j hb e =>
    ⟨by simp, fun x hx => (by cases hx), .slice none 0 0, ⟨89, ⟨_, hb, rfl, fun i hi => by
      obtain rfl : i = 0 := by omega
      rfl⟩⟩, OwnRow.nil _ _ _ _ _, e, fun e => by cases e⟩
  have hz3 : (3 : Nat) ≤ cap := hc
  clear hs
  refine ⟨⟨fb, g, cap, bp, pp, wd, hl⟩, o, rfl, rfl, rfl, rfl, ⟨⟨77, ⟨_, fl, rfl, fun i hi => ?_⟩⟩, by rw [ho, if_pos rfl], ⟨cur, _, hh, fun n hn => ?_⟩, by rw [ho, if_neg (Ne.symm n1), if_pos rfl], ⟨hc, hm⟩, fun j hj => ?_, ⟨by rw [ho, if_neg (Ne.symm n2), if_neg (Ne.symm m1), if_pos rfl], ?_, 91, ⟨_, pu, by simp, fun i hi => ?_⟩⟩, ⟨a1, a2⟩, a3, a4⟩, fun n hn => ?_, ?_⟩
  · clear n1 n2 n3 n4 n5 n6 m1 m2 m3 m4 m5 p1 p2 p3 p4 q1 q2 q3 r1 r2 r3
    have : i = 0 ∨ i = 1 ∨ i = 2 ∨ i = 3 := by omega
    rcases this with rfl | rfl | rfl | rfl <;> rfl
  · clear n1 n2 n3 n4 n5 n6 m1 m2 m3 m4 m5 p1 p2 p3 p4 q1 q2 q3 r1 r2 r3
    have e : cur[n]? = (itemsC bp ref 3)[n]? := by
      rw [← ht, List.getElem?_take_of_lt (by omega), Array.getElem?_toList]
    rw [e]
    have hn3 : n = n / 3 * 3 ∨ n = n / 3 * 3 + 1 ∨ n = n / 3 * 3 + 2 := by omega
    obtain ⟨i1, i2, i3⟩ := itemsC_get bp ref 3 (n / 3) (by omega)
    unfold FlA.item
    rcases hn3 with h | h | h
    · rw [if_pos (by omega), ← i1, ← h]
    · rw [if_neg (by omega), if_pos (by omega), ← i2, ← h]
    · rw [if_neg (by omega), if_neg (by omega), ← i3, ← h]
  · have h3 : j = 0 ∨ j = 1 ∨ j = 2 := by
      clear n1 n2 n3 n4 n5 n6 m1 m2 m3 m4 m5 p1 p2 p3 p4 q1 q2 q3 r1 r2 r3
      omega
    rcases h3 with rfl | rfl | rfl
    · exact hbook 0 b0 (by rw [ho, if_neg (Ne.symm n4), if_neg (Ne.symm m3), if_neg (Ne.symm p2), if_pos rfl])
    · exact hbook 1 b1 (by rw [ho, if_neg (Ne.symm n5), if_neg (Ne.symm m4), if_neg (Ne.symm p3), if_neg (Ne.symm r1), if_pos rfl])
    · exact hbook 2 b2 (by rw [ho, if_neg (Ne.symm n6), if_neg (Ne.symm m5), if_neg (Ne.symm p4), if_neg (Ne.symm r2), if_neg (Ne.symm r3), if_pos rfl])
  · exact newP_inv cash stock
  · have e : (Array.replicate 48 (Value.int .i64 0))[i]? = some (.int .i64 (newP cash stock 0 (i / 8) (i % 8))) := by
      rw [newP_zero]
      simp [hi]
    exact e
  · have lt : ∀ {m}, w.heap.size ≤ m → ¬ n = m := fun h => Nat.ne_of_lt (Nat.lt_of_lt_of_le hn h)
    rw [ho, if_neg (lt l1), if_neg (lt hg), if_neg (lt l3), if_neg (lt g0), if_neg (lt g1), if_neg (lt g2), if_pos hn]
  · rw [ho, if_neg (Ne.symm n3), if_neg (Ne.symm m2), if_neg (Ne.symm p1), if_neg q1, if_neg q2, if_neg q3, if_neg (Nat.not_lt.2 l2)]
    clear n1 n2 n3 n4 n5 n6 m1 m2 m3 m4 m5 p1 p2 p3 p4 q1 q2 q3 r1 r2 r3
    omega
def NewTo (own : Nat → Nat) (c : Nat) (w : World) (wd hl ref cash stock : Int) (e : Ending) (w' : World) : Prop :=
  ∃ (A : FlA) (o : Nat → Nat), e = .returned (.tuple #[.pointer (some ⟨A.f, 0, none⟩), .nilIface]) ∧ FlAt o c w' A (newSt ref cash stock) ∧ A.wd = wd ∧ A.hl = hl ∧ (∀ n, n < w.heap.size → o n = own n) ∧ Ex w w'
section
variable {own : Nat → Nat} {c : Nat} {w : World} {E : Nat → Addr}
set_option maxRecDepth 100000 in
set_option maxHeartbeats 4000000 in
theorem fnew_ok (wd hl ref cash stock : Int) (hE : Errs E [2, 8] w) (hfree : ∀ n, n < w.heap.size → own n / 8 ≠ c) (a1 : 0 ≤ wd) (a2 : wd ≤ 100) (a3 : 1 ≤ hl) (a4 : hl ≤ 1000) (r1 : 1 ≤ ref) (r2 : ref ≤ 1000) (c1 : 0 ≤ cash) (c2 : cash ≤ 1073741824) (s1 : 0 ≤ stock) (s2 : stock ≤ 100000) :
    Calls Tryd.prog 8 #[.agg #[.int .i64 wd, .int .i64 hl], .int .i64 ref, .int .i64 cash, .int .i64 stock] w (NewTo own c w wd hl ref cash stock) := by
  have HC := Lib.hid (fun w => ruleCheck_ok wd hl w a1 a2 a3 a4)
  have HE := Lib.hid hE
  have HFR := Lib.hid hfree
  obtain ⟨i0, hi0, hz0, hz1, hz2⟩ := info_parts infoItem
  have b1 : decide (ref < 1) = false := decide_eq_false (by omega)
  have b2 : decide (1000 < ref) = false := decide_eq_false (by omega)
  have b3 : decide (cash < 0) = false := decide_eq_false (by omega)
  have b4 : decide (1073741824 < cash) = false := decide_eq_false (by omega)
  have b5 : decide (stock < 0) = false := decide_eq_false (by omega)
  have b6 : decide (100000 < stock) = false := decide_eq_false (by omega)
  clear hE hfree
  go_enter Tryd.func8, Tryd.ntmps8
  go_upto_region 6 with (go_at_call 25; refine (HC.out _).mono ?_; rintro e w1 ⟨rfl, l1, d1, rfl⟩)
  go_region_held3 (fun W => W.cell? ⟨w.heap.size, 0, none⟩ = some (.int .i64 wd) ∧ W.cell? ⟨w.heap.size, 1, none⟩ = some (.int .i64 hl))
    ((first | exact ⟨d3, d4⟩ | (simp [go_sem, ↓IntWalk.iteOmega]; done) | (simp [go_sem, ↓IntWalk.iteOmega, d3, d4]; done)))
    ((go_at_call 26; refine (purseNew2 _).mono ?_; rintro e w3 ⟨rfl, hx3, hl3, hb3⟩; have hz3 : w.heap.size < w3.heap.size := (by simp [go_sem] at hl3; omega); have d3 := (hx3.below.cell (p := ⟨w.heap.size, 0, none⟩) (by simp [go_sem]; omega)).trans (show _ = some (Value.int .i64 wd) by simp [go_sem, ↓IntWalk.iteOmega]); have d4 := (hx3.below.cell (p := ⟨w.heap.size, 1, none⟩) (by simp [go_sem]; omega)).trans (show _ = some (Value.int .i64 hl) by simp [go_sem, ↓IntWalk.iteOmega]); have HX3 := Lib.hid hx3; have HB3 := Lib.hid hb3; clear hx3 hb3))
  all_goals go_upto_region 8 with fail
  clear b1 b2 b3 b4 b5 b6 d3 d4
  have hsz : (ext (w.alloc (.cells #[.int .i64 wd, .int .i64 hl] 31)) l1 (d1 + 1)).heap.size = w.heap.size + 1 + l1.length := by simp [go_sem]
  have hx0 : Ex w w3 := Ex.trans (w' := ext (w.alloc (.cells #[.int .i64 wd, .int .i64 hl] 31)) l1 (d1 + 1)) (by repeat (first | exact Ex.refl _ | refine Ex.alloc ?_ _ | refine Ex.ext ?_ _ _ | refine Ex.drew ?_ | refine Ex.drewN ?_ _)) HX3.out
  have HX0 := Lib.hid hx0
  rw [hsz] at HB3 hl3
  clear hsz HX3 hx0
  have hpp : w.heap.size < w.heap.size + 1 + l1.length := by omega
  generalize w.heap.size + 1 + l1.length = pp at *
  refine wp_world (R := fun W => NewR w w3.heap.size (w3.heap.size + 1) pp ref stock wd hl 0 0 (fun _ => 0) (.slice none 0 0) W) ⟨HX0.out.trans (by repeat (first | exact Ex.refl _ | refine Ex.alloc ?_ _ | refine Ex.ext ?_ _ _ | refine Ex.drew ?_ | refine Ex.drewN ?_ _)), (by repeat (first | exact Blk.new (by first | omega | (simp [go_sem]; done) | (simp [go_sem]; omega)) | (with_reducible exact Blk.new rfl) | (with_reducible refine Blk.drew ?_) | (with_reducible refine Blk.drewN ?_ _) | (with_reducible refine Blk.ext ?_ _ _) | (with_reducible refine Blk.alloc ?_ _))), ?_, ?_, World.ownsRow_nil _ _ _ _, fun j hj => by omega, fun i j _ hj => by omega, ?_, ?_, ?_⟩ ?_
  focus exact Blk.new (by simp)
  focus exact (HB3.out.alloc _).alloc _
  focus omega
  focus omega
  focus omega
  generalize w3.heap.size = fb at *
  rintro W hN
  have HN := Lib.hid hN
  clear hN HX0 HB3
  go_wp2_with fail
  go_loopw [48] (fun i wr => ∃ (k : Nat) (bp : Nat → Nat) (v : Value), k ≤ 3 ∧ i = .int .i64 (k : Int) ∧ NewR w fb (fb + 1) pp ref stock wd hl k k bp v wr) (fun i _ => 3 - (intOf i).toNat)
  case atStart => exact ⟨0, _, _, by omega, rfl, HN.out⟩
  case round =>
    obtain ⟨k, bp, v, hk, rfl, hR⟩ := hrel
    obtain ⟨av, cv, rfl, _, _⟩ := owns_slice hR.row
    by_cases hlt : k < 3
    · have ha := hR.all.cell k
      rw [triS_cell hlt] at ha
      have hf := hR.all.free k
      have hab : fb + 1 < wr.heap.size := hR.all.lt
      have HR := Lib.hid hR
      have k3 : (k : Int) < 3 := by omega
      clear hR
      go_upto_region 12 with fail
      refine wp_world (R := fun W => NewR w fb (fb + 1) pp ref stock wd hl (k + 1) k bp (.slice av k cv) W) (HR.out.set hlt ⟨by omega, by omega⟩) ?_
      clear ha hf HR
      rintro W hM
      have c0 := hM.fl.cell 0
      have f0 := hM.fl.free 0
      have hfl := hM.fl.lt
      have hn1 : fb ≠ W.heap.size := by omega
      have hn2 : fb ≠ W.heap.size + 1 := by omega
      have HM := Lib.hid hM
      simp only [List.getElem?_toArray, List.getElem?_cons_zero] at c0
      clear hM
      go_region_law (first
        | (go_simp; go_at_call 27; refine (bookNew2 _).mono ?_; rintro e w5 ⟨rfl, rfl⟩)
        | ((refine step_append_own ?_ (.tmp 58) (.tmp 63) 75 ?_ w.heap.size 80 i0 _ 3 24 Tryd.underlying75 hi0 hz0 hz1 hz2 rfl (by decide) (.slice av k cv) k (itemsC bp ref k) ?_ ?_ ⟨W.heap.size + 1, 0, none⟩ 1 1 [.pointer (some ⟨W.heap.size, 0, none⟩), .int .i64 ref, .int .i64 0] ?_ rfl ?_ ?_ (by unfold maxLen; omega) (by omega) ?_ ?_); (focus rfl); (focus rfl); (focus rfl); (focus exact (HM.out.row.alloc _).alloc _); (focus (simp [go_sem]; done)); (focus (intro j u hj; rcases j with _ | _ | _ | j <;> simp at hj <;> subst hj <;> simp [Addr.add, go_sem, ↓IntWalk.iteOmega])); (focus simp [Value.oneCell']); (focus (have := HM.out.ex.below.size; simp; omega)); intro v' w' hown hgrow; obtain ⟨ao', cap', rfl, _, _⟩ := owns_slice hown; obtain ⟨q1, q2⟩ := HM.out.step (by repeat (first | exact Ex.refl _ | refine Ex.alloc ?_ _ | refine Ex.ext ?_ _ _ | refine Ex.drew ?_ | refine Ex.drewN ?_ _)) (by repeat (first | exact Blk.new (by first | omega | (simp [go_sem]; done) | (simp [go_sem]; omega)) | (with_reducible exact Blk.new rfl) | (with_reducible refine Blk.drew ?_) | (with_reducible refine Blk.drewN ?_ _) | (with_reducible refine Blk.ext ?_ _ _) | (with_reducible refine Blk.alloc ?_ _))) hown hgrow; have c0' := q1.cell 0; have f0' := q1.free 0; have hfl' := q1.lt; have Q2 := Lib.hid q2; simp only [List.getElem?_toArray, List.getElem?_cons_zero] at c0'; clear q1 q2 hown hgrow))
      all_goals go_wp2_with fail
      all_goals
        go_roundw
        case measure => simp [intOf]; omega
        case rel => exact ⟨k + 1, _, _, by omega, by go_num, Q2.out⟩
    · obtain rfl : k = 3 := by omega
      obtain ⟨A, o, rfl, rfl, rfl, rfl, hF, ho, hab⟩ := hR.floor own c HFR.out a1 a2 a3 a4 cash
      have hex := hR.ex
      have hall := hR.all
      have hX : FlX o c wr A ⟨fun _ => [], fun _ => ref, fun _ => 0, newP cash stock 0⟩ E [2, 8] [(A.f + 1, #[.int .i64 stock, .int .i64 stock, .int .i64 stock], 41)] NoT wr := FlX.begin hF (HE.out.ex hex) (fun n ⟨e, he, hn⟩ => by
        have hlt := lt_of_cell (HE.out e he)
        rw [hn, ho _ hlt]
        exact HFR.out _ hlt) (Has.mk hall (Has.nil _)) (fun t ht => by simp only [List.mem_singleton] at ht; subst ht; exact hab) (fun n hn => hn.elim)
      have HX := Lib.hid hX
      have HEX := Lib.hid hex
      have HO := Lib.hid ho
      clear hR hF ho hab hex hall hX HN
      go_wp2_with fail
      obtain ⟨wo, hwo⟩ : ∃ wo : World, wo = wr := ⟨_, rfl⟩
      rw [← hwo] at HX HEX
      subst hwo
      go_loopw [68] (fun i W => ∃ (n : Nat), n ≤ 6 ∧ i = .int .i64 (n : Int) ∧ FlX o c wo A ⟨fun _ => [], fun _ => ref, fun _ => 0, newP cash stock n⟩ E [2, 8] [(A.f + 1, #[.int .i64 stock, .int .i64 stock, .int .i64 stock], 41)] NoT W) (fun i _ => 6 - (intOf i).toNat)
      case atStart => exact ⟨0, by omega, rfl, HX.out⟩
      case round =>
        obtain ⟨n, hn, rfl, hX1⟩ := hrel
        have HX1 := Lib.hid hX1
        obtain ⟨_, p1, _, _, _⟩ := hX1.cells
        have hb := hX1.has.cons.1
        have t0 := hb.cell 0
        have t1 := hb.cell 1
        have t2 := hb.cell 2
        simp only [List.getElem?_toArray, List.getElem?_cons_zero, List.getElem?_cons_succ] at t0 t1 t2
        clear hX1 hb
        by_cases hlt2 : n < 6
        · have n6 : (n : Int) < 6 := by omega
          have HG := Lib.hid (fun o i W hb hE => give_any (own := o) (i := i) (w := W) (p := A.pp) (P := newP cash stock n) hb (n : Int) cash (fun _ => stock) E hE)
          obtain ⟨g1, g2⟩ := newP_give (cash := cash) (stock := stock) hlt2 c1 c2 s1 s2
          rw [g1, g2, errV_zero] at HG
          clear g1 g2
          go_upto_region 17 with fail
          go_region_held3 (fun W => W.cell? ⟨A.f, 1, none⟩ = some (.pointer (some ⟨A.pp, 0, none⟩)) ∧ W.cell? ⟨A.f + 1, 0, none⟩ = some (.int .i64 stock) ∧ W.cell? ⟨A.f + 1, 1, none⟩ = some (.int .i64 stock) ∧ W.cell? ⟨A.f + 1, 2, none⟩ = some (.int .i64 stock))
            ((first | exact ⟨p1, t0, t1, t2⟩ | exact ⟨e1, e2, e3, e4⟩))
            ((go_at_call 28; ((with_reducible refine ((HX1.out.later ?_).purse (fun o i hb => HG.out o i _ hb ?_)).mono ?_)); (focus exact (by repeat (first | (with_reducible exact Ex.refl _) | (with_reducible refine Ex.alloc ?_ _) | (with_reducible refine Ex.ext ?_ _ _) | (with_reducible refine Ex.drew ?_) | (with_reducible refine Ex.drewN ?_ _)))); (focus exact (HX1.out.later (by repeat (first | (with_reducible exact Ex.refl _) | (with_reducible refine Ex.alloc ?_ _) | (with_reducible refine Ex.ext ?_ _ _) | (with_reducible refine Ex.drew ?_) | (with_reducible refine Ex.drewN ?_ _)))).errs); rintro e w5 ⟨rfl, hX5⟩; obtain ⟨_, e1, _, _, _⟩ := hX5.cells; have hb := hX5.has.cons.1; have e2 := hb.cell 0; have e3 := hb.cell 1; have e4 := hb.cell 2; have HX5 := Lib.hid hX5; clear hX5 hb))
          go_wp2_with fail
          all_goals
            go_roundw
            case measure => simp [intOf]; omega
            case rel => (repeat apply Exists.intro); exact ⟨⟨n + 1, by omega, by go_num, HX5.out.later (by repeat (first | exact Ex.refl _ | refine Ex.alloc ?_ _ | refine Ex.ext ?_ _ _ | refine Ex.drew ?_ | refine Ex.drewN ?_ _))⟩, rfl⟩
        · obtain rfl : n = 6 := by omega
          go_wp2_with fail
          all_goals go_ret2
          all_goals
            obtain ⟨k1, o2, k2, k3⟩ := HX1.out.out
            exact ⟨A, o2, rfl, k3, rfl, rfl, fun n hn => by rw [k2 n (Nat.lt_of_lt_of_le hn HEX.out.below.size), HO.out n hn], Ex.of ⟨k1.os.trans HEX.out.below.os, k1.tape.trans HEX.out.below.tape, k1.output.trans HEX.out.below.output, Nat.le_trans HEX.out.below.size k1.size, fun n hn => (k1.block n (Nat.lt_of_lt_of_le hn HEX.out.below.size) (by rw [HO.out n hn]; exact HFR.out n hn)).trans (HEX.out.below.block n hn)⟩⟩
end
end Go.Proofs.YtmbboflakfokhaaDoor
