/- Slices of what was got: how they read, and are compared; what is left in a reader. -/
import Derived.Test.YthngmmhoakegeaaDoorFeed
set_option linter.unusedSimpArgs false
set_option linter.unusedVariables false
namespace Go.Proofs.YthngmmhoakegeaaDoor
open Go.RowKit

theorem gotc_len (g : Got) : g.cells.length = 9 := rfl
theorem got_len (l : List Got) : (l.flatMap Got.cells).length = l.length * 9 := by
  induction l with
  | nil => rfl
  | cons x l ih => rw [List.flatMap_cons, List.length_append, ih, List.length_cons, gotc_len]; omega
theorem got_at : ∀ (l : List Got) (k i : Nat) (hk : k < l.length), i < 9 → (l.flatMap Got.cells)[k * 9 + i]? = l[k].cells[i]?
  | x :: l, 0, i, _, hi => by
    rw [List.flatMap_cons, List.getElem?_append_left (by rw [gotc_len]; omega)]
    simp
  | x :: l, k + 1, i, hk, hi => by
    rw [List.flatMap_cons, List.getElem?_append_right (by rw [gotc_len]; omega), gotc_len, show (k + 1) * 9 + i - 9 = k * 9 + i by omega]
    simpa using got_at l k i (by simpa using hk) hi
theorem got_one (l : List Got) : ∀ u ∈ l.flatMap Got.cells, u.oneCell' = true := by
  intro u hu
  obtain ⟨x, _, hx⟩ := List.mem_flatMap.1 hu
  simp only [Got.cells, Ask.cells, List.cons_append, List.nil_append, List.mem_cons, List.not_mem_nil, or_false] at hx
  rcases hx with rfl | rfl | rfl | rfl | rfl | rfl | rfl | rfl | rfl <;> rfl
/-- How a slice of what was got reads. -/
def GotAt (w : World) (ao : Option Addr) (l : List Got) : Prop := 0 < l.length → ∃ b off, ao = some ⟨b, off, none⟩ ∧ b < w.heap.size ∧ ∀ k (hk : k < l.length) j, j < 9 → w.cell? ⟨b, off + k * 9 + j, none⟩ = l[k].cells[j]?
theorem GotAt.ex {w w' : World} {ao : Option Addr} {l : List Got} (h : GotAt w ao l) (hx : Ex w w') : GotAt w' ao l := fun h0 => by
  obtain ⟨b, off, e, hb, hc⟩ := h h0
  exact ⟨b, off, e, Nat.lt_of_lt_of_le hb hx.below.size, fun k hk j hj => (hx.below.cell (p := ⟨b, off + k * 9 + j, none⟩) hb).trans (hc k hk j hj)⟩
theorem gots_of_owned {w : World} {base : Nat} {e : TypeId} {v : Value} {n : Nat} {l : List Got} (hl : l.length = n) (h : w.ownsRow base e 9 v n (l.flatMap Got.cells)) : ∃ ao cap, v = .slice ao n cap ∧ n ≤ cap ∧ GotAt w ao l := by
  obtain ⟨h1, ⟨rfl, rfl⟩ | ⟨g, cap, cur, rfl, hb, hg, hc, hm, hs, ht⟩⟩ := h
  · exact ⟨none, 0, rfl, Nat.le_refl _, fun h => by omega⟩
  · refine ⟨_, cap, rfl, hc, fun h0 => ⟨g, 0, rfl, (Array.getElem?_eq_some_iff.1 hg).1, fun k hk j hj => ?_⟩⟩
    rw [← got_at l k j hk hj, ← ht, List.getElem?_take_of_lt (by omega), Nat.zero_add]
    simp [World.cell?, hg]
abbrev Got.val (g : Got) : Value := .agg #[.int .u8 g.ask.kind, .int .i64 g.ask.client, .int .i64 g.ask.seq, .int .i64 g.ask.item, .int .i64 g.ask.side, .int .i64 g.ask.price, .int .i64 g.ask.qty, .int .i64 g.ask.id, .int .i64 (g.code : Int)]
theorem equalInAsk (d : Nat) (a : Ask) (w : World) : (Op.equalIn (d + 2) 30 a.val a.val).run Tryd.prog w = .ok true w := by
  have hS : Tryd.prog.underlying 30 = some (.struct (Tryd.prog.fieldsOf 30)) := by kernel_rfl
  have hp : Tryd.prog.stoodInHeld 30 = false := by kernel_rfl
  rw [show d + 2 = (d + 1) + 1 from rfl, run_equalIn_agg w (d + 1) _ _ _ hS hp]
  simp only [Program.fieldsOf, Tryd.underlying30]
  go_simp
theorem neq_got (g : Got) (w : World) : (binOp .neq 104 g.val g.val).run Tryd.prog w = .ok (.bool false) w := by
  have hS : Tryd.prog.underlying 104 = some (.struct (Tryd.prog.fieldsOf 104)) := by kernel_rfl
  have hp : Tryd.prog.stoodInHeld 104 = false := by kernel_rfl
  have h1 := fun w => equalInAsk 9997 g.ask w
  rw [run_neq_struct, show (10000 : Nat) = 9999 + 1 from rfl, run_equalIn_agg w 9999 _ _ _ hS hp]
  simp only [Program.fieldsOf, Tryd.underlying104]
  go_simp
theorem left_any (rb : Nat) (l : List UInt8) (w : World) (h : ReaderAt w rb l) : Calls Tryd.prog 57 #[.pointer (some ⟨rb, 0, none⟩)] w fun e w' => e = .returned (.int .i64 (l.length : Int)) ∧ w = w' := by
  have c := h.cell
  have z := bytes_size l
  go_enter Tryd.func57, Tryd.ntmps57
  go_wp2_with fail
  all_goals go_ret
  all_goals exact ⟨rfl, rfl⟩
set_option maxRecDepth 100000 in
theorem sameGots_any (ao bo : Option Addr) (c1 c2 : Nat) (l : List Got) (w : World) (h1 : GotAt w ao l) (h2 : GotAt w bo l) (hz : l.length ≤ 100000) :
    Calls Tryd.prog 56 #[.slice ao l.length c1, .slice bo l.length c2] w fun e w' => e = .returned (.bool true) ∧ Ex w w' := by
  have H1 := Lib.hid h1
  have H2 := Lib.hid h2
  clear h1 h2
  go_enter Tryd.func56, Tryd.ntmps56
  go_wp2_with fail
  go_loopw [5] (fun i wr => ∃ (k : Nat), k ≤ l.length ∧ i = .int .i64 k ∧ Ex w wr) (fun i _ => l.length - (intOf i).toNat)
  case atStart => exact ⟨0, Nat.zero_le _, rfl, Ex.refl _⟩
  case round =>
    obtain ⟨k, hk, rfl, l1, d1, rfl⟩ := hrel
    by_cases hlt : k < l.length
    · obtain ⟨b1, o1, rfl, hb1, hc1⟩ := H1.out (by omega)
      obtain ⟨b2, o2, rfl, hb2, hc2⟩ := H2.out (by omega)
      have a0 := hc1 k hlt 0 (by omega)
      have a1 := hc1 k hlt 1 (by omega)
      have a2 := hc1 k hlt 2 (by omega)
      have a3 := hc1 k hlt 3 (by omega)
      have a4 := hc1 k hlt 4 (by omega)
      have a5 := hc1 k hlt 5 (by omega)
      have a6 := hc1 k hlt 6 (by omega)
      have a7 := hc1 k hlt 7 (by omega)
      have a8 := hc1 k hlt 8 (by omega)
      have b0 := hc2 k hlt 0 (by omega)
      have b1 := hc2 k hlt 1 (by omega)
      have b2 := hc2 k hlt 2 (by omega)
      have b3 := hc2 k hlt 3 (by omega)
      have b4 := hc2 k hlt 4 (by omega)
      have b5 := hc2 k hlt 5 (by omega)
      have b6 := hc2 k hlt 6 (by omega)
      have b7 := hc2 k hlt 7 (by omega)
      have b8 := hc2 k hlt 8 (by omega)
      generalize l[k] = z at a0 a1 a2 a3 a4 a5 a6 a7 a8 b0 b1 b2 b3 b4 b5 b6 b7 b8
      simp only [Got.cells, Ask.cells, List.cons_append, List.nil_append, List.getElem?_cons_zero, List.getElem?_cons_succ, Nat.add_zero] at a0 a1 a2 a3 a4 a5 a6 a7 a8 b0 b1 b2 b3 b4 b5 b6 b7 b8
      have hne := fun w => neq_got z w
      clear hc1 hc2
      go_wp2_with fail
      go_quiet (fail)
      all_goals go_wp2_with fail
      all_goals
        go_roundw
        case measure => simp [intOf]; omega
        case rel => exact ⟨k + 1, by omega, by go_num, (by repeat (first | exact Ex.refl _ | refine Ex.alloc ?_ _ | refine Ex.ext ?_ _ _ | refine Ex.drew ?_ | refine Ex.drewN ?_ _))⟩
    · go_wp2_with fail
      all_goals go_ret
      all_goals exact ⟨rfl, (by repeat (first | exact Ex.refl _ | refine Ex.alloc ?_ _ | refine Ex.ext ?_ _ _ | refine Ex.drew ?_ | refine Ex.drewN ?_ _))⟩
end Go.Proofs.YthngmmhoakegeaaDoor
