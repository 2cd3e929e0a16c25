import Derived.Test.YthngmmhoakegeaaDoorBand
set_option linter.unusedSimpArgs false
set_option linter.unusedVariables false
namespace Go.Proofs.YthngmmhoakegeaaDoor
open Go.RowKit

set_option maxHeartbeats 400000 in
theorem banded_any (w : World) : Calls Tryd.prog 20 #[] w fun e w' => e = .returned (.bool true) ∧ Ex w w' := by
  have hb : bnext 100 0 10 2 120 5 = (100, 2, false) := by decide
  have H := next_ok 100 0 10 2 120 5
  rw [hb] at H
  clear hb
  go_enter Tryd.func20, Tryd.ntmps20
  go_wp2_with fail
  refine (H _ (by omega) (by omega) (by omega) (by omega) (by omega) (by omega) (by omega) (by omega) (by omega) (by omega)).mono ?_
  clear H
  rintro e w1 ⟨rfl, l1, d1, rfl⟩
  go_wp2
  all_goals go_ret
  all_goals exact ⟨rfl, by repeat (first | exact Ex.refl _ | refine Ex.alloc ?_ _ | refine Ex.ext ?_ _ _ | refine Ex.drew ?_)⟩

/-- A slice of integers that can be read. -/
def IntsAt (w : World) (ao : Option Addr) (len : Nat) (zs : List Int) : Prop :=
  len ≤ 9223372036854775807 ∧ (0 < len → ∃ b off, ao = some ⟨b, off, none⟩ ∧ b < w.heap.size ∧ ∀ k, k < len → w.cell? ⟨b, off + k, none⟩ = some (.int .i64 (zs.getD k 0)))

/-- The walk's part that is left where the arguments are out of range. -/
theorem bandHalts_out (ref width halt : Int) (ao : Option Addr) (len cap : Nat) (w : World) (hlen : len ≤ 9223372036854775807) (ho : 60 < len ∨ ref < 1 ∨ 1000 < ref) :
    Calls Tryd.prog 4 #[.int .i64 ref, .int .i64 width, .int .i64 halt, .slice ao len cap] w fun e w' => e = .returned (.bool true) ∧ Ex w w' := by
  go_enter Tryd.func4, Tryd.ntmps4
  go_wp2_with (go_at_call 20; refine (banded_any _).mono ?_; rintro e w1 ⟨rfl, l1, d1, rfl⟩)
  all_goals (first | go_ret | (exfalso; omega))
  all_goals exact ⟨rfl, by repeat (first | exact Ex.refl _ | refine Ex.alloc ?_ _ | refine Ex.ext ?_ _ _ | refine Ex.drew ?_)⟩

theorem bandHalts_bad (ref width halt : Int) (ao : Option Addr) (len cap : Nat) (w : World) (t : TypeId) (x : Value) (hE : w.cell? ⟨1, 0, none⟩ = some (.iface t x)) (hb : 1 < w.heap.size)
    (h1 : len ≤ 60) (h2 : 1 ≤ ref) (h3 : ref ≤ 1000) (ho : width < 0 ∨ 100 < width ∨ halt < 1 ∨ 1000 < halt) :
    Calls Tryd.prog 4 #[.int .i64 ref, .int .i64 width, .int .i64 halt, .slice ao len cap] w fun e w' => e = .returned (.bool true) ∧ Ex w w' := by
  go_enter Tryd.func4, Tryd.ntmps4
  go_wp2_with (first
    | (go_at_call 20; refine (banded_any _).mono ?_; rintro e w1 ⟨rfl, l1, d1, rfl⟩)
    | (go_at_call 21; go_loud (refine (ruleCheck_bad _ _ _ t x (by simp [go_sem, hE, hb, ↓IntWalk.iteOmega]) ho).mono ?_); rintro e w1 ⟨rfl, l2, d2, rfl⟩))
  all_goals go_ret
  all_goals exact ⟨rfl, by repeat (first | exact Ex.refl _ | refine Ex.alloc ?_ _ | refine Ex.ext ?_ _ _ | refine Ex.drew ?_)⟩

set_option maxRecDepth 100000 in
set_option maxHeartbeats 1000000 in
theorem bandHalts_ok (ref width halt : Int) (ao : Option Addr) (len cap : Nat) (zs : List Int) (w : World) (hz : IntsAt w ao len zs)
    (h1 : len ≤ 60) (h2 : 1 ≤ ref) (h3 : ref ≤ 1000) (h4 : 0 ≤ width) (h5 : width ≤ 100) (h6 : 1 ≤ halt) (h7 : halt ≤ 1000) :
    Calls Tryd.prog 4 #[.int .i64 ref, .int .i64 width, .int .i64 halt, .slice ao len cap] w fun e w' => e = .returned (.bool true) ∧ Ex w w' := by
  obtain ⟨hlen, hz⟩ := hz
  have HZ := Lib.hid hz
  clear hz
  go_enter Tryd.func4, Tryd.ntmps4
  go_wp2_with (first
    | (go_at_call 20; refine (banded_any _).mono ?_; rintro e w1 ⟨rfl, l1, d1, rfl⟩)
    | (go_at_call 21; refine (ruleCheck_ok _ _ _ h4 h5 h6 h7).mono ?_; rintro e w1 ⟨rfl, l2, d2, rfl⟩))
  go_loopw [12, 13, 14] (fun cl la i wr => ∃ (k : Nat) (c l rf : Int), k ≤ len ∧ i = .int .i64 k ∧ cl = .int .i64 c ∧ la = .int .i64 l ∧ 0 ≤ c ∧ c ≤ 1000 ∧ 1 ≤ rf ∧ rf ≤ 1000 ∧ (l = 0 ∨ l = rf) ∧
      wr.cell? ⟨w.heap.size + l1.length + 1, 0, none⟩ = some (.int .i64 rf) ∧ wr.cell? ⟨w.heap.size + l1.length + 1, 1, none⟩ = some (.int .i64 c) ∧
      wr.frozen? ⟨w.heap.size + l1.length + 1, 0, none⟩ = false ∧ wr.frozen? ⟨w.heap.size + l1.length + 1, 1, none⟩ = false ∧
      wr.cell? ⟨w.heap.size + l1.length, 0, none⟩ = some (.int .i64 width) ∧ wr.cell? ⟨w.heap.size + l1.length, 1, none⟩ = some (.int .i64 halt) ∧
      w.heap.size + l1.length + 1 < wr.heap.size ∧ Below w.heap.size w wr)
    (fun _ _ i _ => len - (intOf i).toNat)
  case atStart => 
    refine ⟨0, 0, 0, ref, Nat.zero_le _, rfl, rfl, rfl, by omega, by omega, h2, h3, .inl rfl, ?_, ?_, ?_, ?_, ?_, ?_, ?_, ?_⟩
    all_goals first
      | (simp [go_sem, ↓IntWalk.iteOmega]; done)
      | (simp [go_sem]; omega)
      | exact Ex.below (by repeat (first | exact Ex.refl _ | refine Ex.alloc ?_ _ | refine Ex.ext ?_ _ _ | refine Ex.drew ?_))
  case round =>
    obtain ⟨k, c, l, rf, hk, rfl, rfl, rfl, hc0, hc1, hr0, hr1, hl, c1, c2, f1, f2, c3, c4, hsz, hbl⟩ := hrel
    by_cases hlt : k < len
    · obtain ⟨b, off, rfl, hbs, hz⟩ := HZ.out (by omega)
      have hz := hz k hlt
      have hcx : wr.cell? ⟨b, off + k, none⟩ = some (.int .i64 (zs.getD k 0)) := (hbl.cell (p := ⟨b, off + k, none⟩) hbs).trans hz
      clear hz
      generalize zs.getD k 0 = p at hcx
      have HL := Lib.hid hl
      clear hl
      by_cases hp : 1 ≤ p ∧ p ≤ 1000
      · obtain ⟨hp1, hp2⟩ := hp
        by_cases hcc : 0 < c
        · by_cases hc1 : c = 1
          · subst hc1
            have e : bnext rf 1 width halt p 1 = (p, 0, false) := by simp [bnext, ]
            have Hn := next_ok rf 1 width halt p 1
            rw [e] at Hn
            clear e
            have HN := Lib.hid Hn
            clear Hn
            go_wp2_with (first
              | (go_at_call 22; refine (HN.out _ h4 h5 h6 h7 hr0 hr1 (by omega) (by omega) (by omega) (by omega)).mono ?_; rintro e w3 ⟨rfl, l3, d3, rfl⟩)
              | (go_at_call 23; refine (within_any _ _ _ _ _ h4 h5 hr0 hr1 (by omega) (by omega)).mono ?_; rintro e w3 ⟨rfl, l4, d4, rfl⟩))
            all_goals
              go_roundw
              case measure => simp [intOf]; omega
              case rel =>
                refine ⟨k + 1, 0, p, p, by omega, by go_num, by go_num, rfl, by omega, by omega, by omega, by omega, .inr rfl, ?_⟩
                refine ⟨?_, ?_, ?_, ?_, ?_, ?_, ?_, ?_⟩
                all_goals first
                  | (simp [go_sem, ↓IntWalk.iteOmega, *]; done)
                  | (simp [go_sem, ↓IntWalk.iteOmega, *]; omega)
                  | (refine Below.trans hbl ?_; repeat (first | exact Below.refl _ _ | (refine Below.ext ?_ (by simp [go_sem]; omega) _ _) | (refine Below.alloc ?_ (by simp [go_sem]; omega) _) | (refine Below.setCell ?_ (by simp; omega) _)))
          · have hne : ¬ c - 1 = 0 := by omega
            have e : bnext rf c width halt p 1 = (rf, c - 1, false) := by simp [bnext, hcc, hne]
            have Hn := next_ok rf c width halt p 1
            rw [e] at Hn
            clear e
            have HN := Lib.hid Hn
            clear Hn
            go_wp2_with (first
              | (go_at_call 22; refine (HN.out _ h4 h5 h6 h7 hr0 hr1 (by omega) (by omega) (by omega) (by omega)).mono ?_; rintro e w3 ⟨rfl, l3, d3, rfl⟩)
              | (go_at_call 23; refine (within_any _ _ _ _ _ h4 h5 hr0 hr1 (by omega) (by omega)).mono ?_; rintro e w3 ⟨rfl, l4, d4, rfl⟩))
            all_goals
              go_roundw
              case measure => simp [intOf]; omega
              case rel =>
                refine ⟨k + 1, c - 1, 0, rf, by omega, by go_num, by go_num, rfl, by omega, by omega, by omega, by omega, .inl rfl, ?_⟩
                refine ⟨?_, ?_, ?_, ?_, ?_, ?_, ?_, ?_⟩
                all_goals first
                  | (simp [go_sem, ↓IntWalk.iteOmega, *]; done)
                  | (simp [go_sem, ↓IntWalk.iteOmega, *]; omega)
                  | (refine Below.trans hbl ?_; repeat (first | exact Below.refl _ _ | (refine Below.ext ?_ (by simp [go_sem]; omega) _ _) | (refine Below.alloc ?_ (by simp [go_sem]; omega) _) | (refine Below.setCell ?_ (by simp; omega) _)))
        · obtain rfl : c = 0 := by omega
          cases hw : within width rf p
          · by_cases hlp : l = p
            · exfalso
              rcases HL.out with h | h
              · omega
              · subst hlp; subst h; have := within_self width l h4 (by omega); rw [this] at hw; cases hw
            · have e : bnext rf 0 width halt p 1 = (rf, halt, false) := by simp [bnext, hw]
              have Hn := next_ok rf 0 width halt p 1
              rw [e] at Hn
              clear e
              have HN := Lib.hid Hn
              clear Hn
              go_wp2_with (first
                | (go_at_call 22; refine (HN.out _ h4 h5 h6 h7 hr0 hr1 (by omega) (by omega) (by omega) (by omega)).mono ?_; rintro e w3 ⟨rfl, l3, d3, rfl⟩)
                | (go_at_call 23; refine (within_any _ _ _ _ _ h4 h5 hr0 hr1 (by omega) (by omega)).mono ?_; rintro e w3 ⟨rfl, l4, d4, rfl⟩))
              all_goals
                go_roundw
                case measure => simp [intOf]; omega
                case rel =>
                  refine ⟨k + 1, halt, l, rf, by omega, by go_num, by go_num, rfl, by omega, by omega, by omega, by omega, HL.out, ?_⟩
                  refine ⟨?_, ?_, ?_, ?_, ?_, ?_, ?_, ?_⟩
                  all_goals first
                    | (simp [go_sem, ↓IntWalk.iteOmega, *]; done)
                    | (simp [go_sem, ↓IntWalk.iteOmega, *]; omega)
                    | (refine Below.trans hbl ?_; repeat (first | exact Below.refl _ _ | (refine Below.ext ?_ (by simp [go_sem]; omega) _ _) | (refine Below.alloc ?_ (by simp [go_sem]; omega) _) | (refine Below.setCell ?_ (by simp; omega) _)))
          · have e : bnext rf 0 width halt p 1 = (p, 0, true) := by simp [bnext, hw]
            have Hn := next_ok rf 0 width halt p 1
            rw [e] at Hn
            clear e
            have HN := Lib.hid Hn
            clear Hn
            go_wp2_with (first
              | (go_at_call 22; refine (HN.out _ h4 h5 h6 h7 hr0 hr1 (by omega) (by omega) (by omega) (by omega)).mono ?_; rintro e w3 ⟨rfl, l3, d3, rfl⟩)
              | (go_at_call 23; refine (within_any _ _ _ _ _ h4 h5 hr0 hr1 (by omega) (by omega)).mono ?_; rintro e w3 ⟨rfl, l4, d4, rfl⟩))
            all_goals
              go_roundw
              case measure => simp [intOf]; omega
              case rel =>
                refine ⟨k + 1, 0, 0, p, by omega, by go_num, by go_num, rfl, by omega, by omega, by omega, by omega, .inl rfl, ?_⟩
                refine ⟨?_, ?_, ?_, ?_, ?_, ?_, ?_, ?_⟩
                all_goals first
                  | (simp [go_sem, ↓IntWalk.iteOmega, *]; done)
                  | (simp [go_sem, ↓IntWalk.iteOmega, *]; omega)
                  | (refine Below.trans hbl ?_; repeat (first | exact Below.refl _ _ | (refine Below.ext ?_ (by simp [go_sem]; omega) _ _) | (refine Below.alloc ?_ (by simp [go_sem]; omega) _) | (refine Below.setCell ?_ (by simp; omega) _)))
      · by_cases hcc : 0 < c
        · by_cases hc1 : c = 1
          · subst hc1
            have e : bnext rf 1 width halt p 0 = (rf, 0, false) := by simp [bnext, ]
            have Hn := next_ok rf 1 width halt p 0
            rw [e] at Hn
            clear e
            have HN := Lib.hid Hn
            clear Hn
            go_wp2_with (first
              | (go_at_call 22; refine (HN.out _ h4 h5 h6 h7 hr0 hr1 (by omega) (by omega) (by omega) (by omega)).mono ?_; rintro e w3 ⟨rfl, l3, d3, rfl⟩)
              | (go_at_call 23; refine (within_any _ _ _ _ _ h4 h5 hr0 hr1 (by omega) (by omega)).mono ?_; rintro e w3 ⟨rfl, l4, d4, rfl⟩))
            all_goals
              go_roundw
              case measure => simp [intOf]; omega
              case rel =>
                refine ⟨k + 1, 0, 0, rf, by omega, by go_num, by go_num, rfl, by omega, by omega, by omega, by omega, .inl rfl, ?_⟩
                refine ⟨?_, ?_, ?_, ?_, ?_, ?_, ?_, ?_⟩
                all_goals first
                  | (simp [go_sem, ↓IntWalk.iteOmega, *]; done)
                  | (simp [go_sem, ↓IntWalk.iteOmega, *]; omega)
                  | (refine Below.trans hbl ?_; repeat (first | exact Below.refl _ _ | (refine Below.ext ?_ (by simp [go_sem]; omega) _ _) | (refine Below.alloc ?_ (by simp [go_sem]; omega) _) | (refine Below.setCell ?_ (by simp; omega) _)))
          · have hne : ¬ c - 1 = 0 := by omega
            have e : bnext rf c width halt p 0 = (rf, c - 1, false) := by simp [bnext, hcc, hne]
            have Hn := next_ok rf c width halt p 0
            rw [e] at Hn
            clear e
            have HN := Lib.hid Hn
            clear Hn
            go_wp2_with (first
              | (go_at_call 22; refine (HN.out _ h4 h5 h6 h7 hr0 hr1 (by omega) (by omega) (by omega) (by omega)).mono ?_; rintro e w3 ⟨rfl, l3, d3, rfl⟩)
              | (go_at_call 23; refine (within_any _ _ _ _ _ h4 h5 hr0 hr1 (by omega) (by omega)).mono ?_; rintro e w3 ⟨rfl, l4, d4, rfl⟩))
            all_goals
              go_roundw
              case measure => simp [intOf]; omega
              case rel =>
                refine ⟨k + 1, c - 1, 0, rf, by omega, by go_num, by go_num, rfl, by omega, by omega, by omega, by omega, .inl rfl, ?_⟩
                refine ⟨?_, ?_, ?_, ?_, ?_, ?_, ?_, ?_⟩
                all_goals first
                  | (simp [go_sem, ↓IntWalk.iteOmega, *]; done)
                  | (simp [go_sem, ↓IntWalk.iteOmega, *]; omega)
                  | (refine Below.trans hbl ?_; repeat (first | exact Below.refl _ _ | (refine Below.ext ?_ (by simp [go_sem]; omega) _ _) | (refine Below.alloc ?_ (by simp [go_sem]; omega) _) | (refine Below.setCell ?_ (by simp; omega) _)))
        · obtain rfl : c = 0 := by omega
          have e : bnext rf 0 width halt p 0 = (rf, 0, true) := by simp [bnext, ]
          have Hn := next_ok rf 0 width halt p 0
          rw [e] at Hn
          clear e
          have HN := Lib.hid Hn
          clear Hn
          go_wp2_with (first
            | (go_at_call 22; refine (HN.out _ h4 h5 h6 h7 hr0 hr1 (by omega) (by omega) (by omega) (by omega)).mono ?_; rintro e w3 ⟨rfl, l3, d3, rfl⟩)
            | (go_at_call 23; refine (within_any _ _ _ _ _ h4 h5 hr0 hr1 (by omega) (by omega)).mono ?_; rintro e w3 ⟨rfl, l4, d4, rfl⟩))
          all_goals
            go_roundw
            case measure => simp [intOf]; omega
            case rel =>
              refine ⟨k + 1, 0, 0, rf, by omega, by go_num, by go_num, rfl, by omega, by omega, by omega, by omega, .inl rfl, ?_⟩
              refine ⟨?_, ?_, ?_, ?_, ?_, ?_, ?_, ?_⟩
              all_goals first
                | (simp [go_sem, ↓IntWalk.iteOmega, *]; done)
                | (simp [go_sem, ↓IntWalk.iteOmega, *]; omega)
                | (refine Below.trans hbl ?_; repeat (first | exact Below.refl _ _ | (refine Below.ext ?_ (by simp [go_sem]; omega) _ _) | (refine Below.alloc ?_ (by simp [go_sem]; omega) _) | (refine Below.setCell ?_ (by simp; omega) _)))
    · go_wp2
      go_ret
      exact ⟨rfl, Ex.of hbl⟩
end Go.Proofs.YthngmmhoakegeaaDoor
