/- What OwnLots makes: a copy in new memory. -/
import Derived.Test.YtjkaeiioofknoaaDoorCheck2
import Derived.Laws.AppendOwnNone
import Derived.Laws.OwnMore
set_option linter.unusedSimpArgs false
set_option linter.unusedVariables false
namespace Go.Proofs.YtjkaeiioofknoaaDoor
open Go.RowKit

theorem Below.grownBy {w w' : World} (h : Below w.heap.size w w') : w.grownBy w' none := by
  obtain ⟨a, b, c, d, e⟩ := h
  exact ⟨a, b, c, d, fun k hk _ => e k hk⟩
theorem flat_len (l : List Lot) : (l.flatMap Lot.cells).length = l.length * 5 := by
  induction l with
  | nil => rfl
  | cons x l ih => rw [List.flatMap_cons, List.length_append, ih, List.length_cons]; simp only [Lot.cells, List.length_cons, List.length_nil]; omega
theorem flat_at : ∀ (l : List Lot) (k i : Nat) (hk : k < l.length), i < 5 → (l.flatMap Lot.cells)[k * 5 + i]? = l[k].cells[i]?
  | x :: l, 0, i, _, hi => by
    rw [List.flatMap_cons, List.getElem?_append_left (by simp only [Lot.cells, List.length_cons, List.length_nil]; omega)]
    simp
  | x :: l, k + 1, i, hk, hi => by
    have e : x.cells.length = 5 := rfl
    rw [List.flatMap_cons, List.getElem?_append_right (by rw [e]; omega), e, show (k + 1) * 5 + i - 5 = k * 5 + i by omega]
    simpa using flat_at l k i (by simpa using hk) hi
theorem flat_oneCell (l : List Lot) : ∀ u ∈ l.flatMap Lot.cells, u.oneCell' = true := by
  intro u hu
  obtain ⟨x, _, hx⟩ := List.mem_flatMap.1 hu
  simp only [Lot.cells, List.mem_cons, List.not_mem_nil, or_false] at hx
  rcases hx with rfl | rfl | rfl | rfl | rfl <;> rfl

/-- A row of the call's own that holds lots, read as a slice. -/
theorem lots_of_owned {w : World} {base : Nat} {e : TypeId} {v : Value} {n : Nat} {l : List Lot} (hwf : ∀ a ∈ l, a.wf) (hn : n ≤ 9223372036854775807) (hl : l.length = n) (h : w.ownsRow base e 5 v n (l.flatMap Lot.cells)) :
    ∃ ao cap, v = .slice ao n cap ∧ (n ≤ cap ∧ cap ≤ 9223372036854775807 ∧ (ao = none → cap = 0)) ∧ LotsAt w ao n l := by
  obtain ⟨h1, ⟨rfl, rfl⟩ | ⟨g, cap, cur, rfl, hb, hg, hc, hm, hs, ht⟩⟩ := h
  · exact ⟨none, 0, rfl, ⟨by omega, by omega, fun _ => rfl⟩, hl, by omega, hwf, fun h => by omega⟩
  · refine ⟨_, cap, rfl, ⟨hc, (by unfold maxLen at hm; omega), fun h => by cases h⟩, hl, hn, hwf, fun h0 => ⟨g, 0, rfl, ?_, fun k hk j hj => ?_⟩⟩
    · rcases Nat.lt_or_ge g w.heap.size with h | h
      · exact h
      · rw [Array.getElem?_eq_none h] at hg; cases hg
    · rw [← flat_at l k j hk hj, ← ht, List.getElem?_take_of_lt (by omega), Nat.zero_add]
      simp [World.cell?, hg]

set_option maxRecDepth 100000 in
theorem ownLots_any (ao : Option Addr) (len cap : Nat) (l : List Lot) (w : World) (hcap : len ≤ cap ∧ cap ≤ 9223372036854775807 ∧ (ao = none → cap = 0)) (h60 : len ≤ 1000) (hl : LotsAt w ao len l) :
    Calls Tryd.prog 14 #[.slice ao len cap] w fun e w' =>
      (∃ ao' cap', e = .returned (.slice ao' len cap') ∧ (len ≤ cap' ∧ cap' ≤ 9223372036854775807 ∧ (ao' = none → cap' = 0)) ∧ LotsAt w' ao' len l) ∧ Ex w w' := by
  obtain ⟨i0, hi, hz0, hz1, hz2⟩ : ∃ i, Tryd.prog.info? 31 = some i ∧ i.zero = some (.agg #[.int .i64 0, .int .i64 0, .int .i64 0, .int .i64 0, .int .i64 0]) ∧ i.size = 5 ∧ i.bytes = 40 := ⟨_, rfl, by kernel_rfl, by kernel_rfl, by kernel_rfl⟩
  obtain ⟨hlen, hmx, hwf, hz⟩ := hl
  have HZ := Lib.hid hz
  have HW := Lib.hid hwf
  have HL := Lib.hid hlen
  clear hz hwf hlen
  cases ao with
  | none =>
    have h0 : cap = 0 := hcap.2.2 rfl
    obtain rfl : len = 0 := by omega
    subst h0
    clear hcap
    go_enter Tryd.func14, Tryd.ntmps14
    go_wp2_with (at_builtin; refine wpList_append_own_none rfl (.tmp 4) (.tmp 5) 22 rfl w.heap.size 31 i0 5 Tryd.underlying22 hi _ 0 [] rfl (World.ownsRow_nil _ _ _ _) rfl ?_)
    all_goals go_ret
    all_goals exact ⟨⟨none, 0, rfl, ⟨Nat.le_refl _, Nat.zero_le _, fun _ => rfl⟩, HL.out, Nat.zero_le _, HW.out, fun h => by omega⟩, (by repeat (first | exact Ex.refl _ | refine Ex.alloc ?_ _ | refine Ex.ext ?_ _ _ | refine Ex.drew ?_ | refine Ex.drewN ?_ _))⟩
  | some ad =>
    have hnews : ∀ j u, (l.flatMap Lot.cells)[j]? = some u → w.cell? (ad.add j) = some u := by
      intro j u hj
      have hjl : j < l.length * 5 := by rw [← flat_len]; exact (List.getElem?_eq_some_iff.1 hj).1
      have e1 := HL.out
      obtain ⟨b, off, e, hb, hc⟩ := HZ.out (by omega)
      obtain rfl := Option.some.inj e
      have hk : j / 5 < l.length := by omega
      have hh := hc (j / 5) hk (j % 5) (by omega)
      rw [← flat_at l (j / 5) (j % 5) hk (by omega), show j / 5 * 5 + j % 5 = j by omega, hj, show off + j / 5 * 5 + j % 5 = off + j by omega] at hh
      by_cases h0 : j = 0
      · subst h0; exact hh
      · simpa [Addr.add, h0] using hh
    have HN := Lib.hid hnews
    clear hnews
    go_enter Tryd.func14, Tryd.ntmps14
    go_wp2_with (at_builtin; refine wpList_append_own _ rfl (.tmp 4) (.tmp 5) 22 rfl w.heap.size 31 i0 _ 5 40 Tryd.underlying22 hi hz0 hz1 hz2 rfl (by decide) _ 0 [] rfl (World.ownsRow_nil _ _ _ _) ad len cap (l.flatMap Lot.cells) rfl (by rw [flat_len, HL.out]) HN.out (flat_oneCell l) (by unfold maxLen; omega) (by omega) (by omega) ?_; intro v1 w1 hown hgrow hnil)
    all_goals go_ret
    all_goals
      obtain ⟨ao', cap', rfl, h2, h3⟩ := lots_of_owned HW.out hmx HL.out (by simpa using hown)
      exact ⟨⟨ao', cap', rfl, h2, h3⟩, Ex.of (Below.grown (Below.refl _ _) hgrow (Nat.le_refl _) (fun k hk => by cases hk))⟩
end Go.Proofs.YtjkaeiioofknoaaDoor
