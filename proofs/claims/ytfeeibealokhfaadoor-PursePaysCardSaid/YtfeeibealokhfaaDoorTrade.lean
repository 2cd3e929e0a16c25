/- What Trade of package purse computes. -/
import Derived.Test.YtfeeibealokhfaaDoorFair
import Derived.LaidEqlPtr
import Derived.Lib.Builder
set_option linter.unusedSimpArgs false
set_option linter.unusedVariables false
namespace Go.Proofs.YtfeeibealokhfaaDoor
open Go.RowKit

/-- Why nothing is traded (0: it is). -/
def tradeE (P : Pu) (item : Int) (b s : Lot) (price qty : Int) : Nat :=
  if fairE item b s price qty = 0 then
    (if P b.owner.toNat 1 < b.price * qty ∨ P s.owner.toNat (5 + item.toNat) < qty then 10
     else if b.owner.toNat ≠ s.owner.toNat ∧ (1073741824 - P b.owner.toNat (2 + item.toNat) < qty ∨ 1099511627776 - P s.owner.toNat 0 < price * qty) then 8 else 0)
  else fairE item b s price qty
def trade1 (P : Pu) (bo : Nat) (n : Int) : Pu := P.set bo 1 (P bo 1 - n)
def trade2 (P : Pu) (bo : Nat) (n : Int) : Pu := P.set bo 0 (P bo 0 - n)
def tradeP (P : Pu) (item : Int) (b s : Lot) (price qty : Int) : Pu :=
  if tradeE P item b s price qty = 0 then
    (let bo := b.owner.toNat
     let so := s.owner.toNat
     let it := item.toNat
     let P1 := P.set bo 1 (P bo 1 - b.price * qty)
     let P2 := P1.set bo 0 (P1 bo 0 - price * qty)
     let P3 := P2.set so (5 + it) (P2 so (5 + it) - qty)
     let P4 := P3.set so (2 + it) (P3 so (2 + it) - qty)
     let P5 := P4.set bo (2 + it) (P4 bo (2 + it) + qty)
     P5.set so 0 (P5 so 0 + price * qty))
  else P
theorem PInv.set_cash {P : Pu} (h : PInv P) {c : Nat} (v : Int) (h0 : P c 1 ≤ v) (h1 : v ≤ 1099511627776) : PInv (P.set c 0 v) := fun d hd => by
  obtain ⟨a1, a2, a3, a4⟩ := h d hd
  refine ⟨?_, ?_, ?_, fun i hi => ?_⟩
  · unfold Pu.set; rw [if_neg (by omega)]; exact a1
  · unfold Pu.set
    rw [if_neg (show ¬ (d = c ∧ 1 = 0) by omega)]
    split
    · rename_i e; rw [e.1]; exact h0
    · exact a2
  · unfold Pu.set; split
    · exact h1
    · exact a3
  · unfold Pu.set
    rw [if_neg (by omega), if_neg (by omega)]
    exact a4 i hi
theorem PInv.set_stock {P : Pu} (h : PInv P) {c i : Nat} (hi : i < 3) (v : Int) (h0 : P c (5 + i) ≤ v) (h1 : v ≤ 1073741824) : PInv (P.set c (2 + i) v) := fun d hd => by
  obtain ⟨a1, a2, a3, a4⟩ := h d hd
  refine ⟨?_, ?_, ?_, fun k hk => ?_⟩
  · unfold Pu.set; rw [if_neg (by omega)]; exact a1
  · unfold Pu.set; rw [if_neg (by omega), if_neg (by omega)]; exact a2
  · unfold Pu.set; rw [if_neg (by omega)]; exact a3
  · obtain ⟨b1, b2, b3⟩ := a4 k hk
    unfold Pu.set
    rw [if_neg (show ¬ (d = c ∧ 5 + k = 2 + i) by omega)]
    split
    · rename_i e
      obtain ⟨rfl, e2⟩ := e
      have e3 : k = i := by omega
      subst e3
      exact ⟨b1, h0, h1⟩
    · exact ⟨b1, b2, b3⟩
theorem Pu.set_same (P : Pu) (c j : Nat) (v : Int) : P.set c j v c j = v := if_pos ⟨rfl, rfl⟩
theorem Pu.set_other (P : Pu) {c j d k : Nat} (v : Int) (h : ¬ (d = c ∧ k = j)) : P.set c j v d k = P d k := if_neg h
theorem infoHas : ∃ j, Tryd.prog.info? 36 = some j ∧ j.size = 8 := by
  have h : (Tryd.prog.info? 36).map (fun i => i.size) = some 8 := by kernel_rfl
  obtain ⟨j, h1, h2⟩ := Option.map_eq_some_iff.1 h
  exact ⟨j, h1, h2⟩
theorem neHasPtr_same (w : World) (a : Addr) : (binOp .neq 115 (.pointer (some a)) (.pointer (some a))).run Tryd.prog w = .ok (.bool false) w := by
  obtain ⟨j, hj, _⟩ := infoHas
  exact Lib.run_neq_ptr_same w a Tryd.underlying115 hj
theorem neHasPtr_other (w : World) (p a b : Nat) (hab : a ≠ b) (hw : ∃ cs t, w.heap[p]? = some (.cells cs t (0, 0))) : (binOp .neq 115 (.pointer (some ⟨p, a, none⟩)) (.pointer (some ⟨p, b, none⟩))).run Tryd.prog w = .ok (.bool true) w := by
  obtain ⟨j, hj, hs⟩ := infoHas
  obtain ⟨cs, t, hg⟩ := hw
  have hne : (⟨p, a, none⟩ : Addr) ≠ ⟨p, b, none⟩ := fun e => hab (by cases e; rfl)
  have h : ∀ d : Nat, (Op.equalIn (d + 1) 115 (.pointer (some ⟨p, a, none⟩)) (.pointer (some ⟨p, b, none⟩))).run Tryd.prog w = .ok false w := fun d => by
    simp [Op.equalIn, run_underlying Tryd.underlying115, sizeOf, typeInfo, hj, hs, run_sameAddr_other w hne hg hg]
  simp only [binOp]
  simp [Op.equal, Op.maxDepth, h 9999]
/-- What is known of the world while a trade is written. -/
def TradeR (own : Nat → Nat) (i : Nat) (w : World) (p : Nat) (bp : Int) (P : Pu) (W : World) : Prop := PurseAt own i W p P ∧ Kp own 1 i w W ∧ W.cell? ⟨w.heap.size, 3, none⟩ = some (.int .i64 bp) ∧ p < w.heap.size
theorem PurseAt.block {own : Nat → Nat} {i : Nat} {W : World} {p : Nat} {P : Pu} (h : PurseAt own i W p P) : ∃ cs t, W.heap[p]? = some (.cells cs t (0, 0)) := by
  obtain ⟨_, _, t, cs, hg, _⟩ := h
  exact ⟨cs, t, hg⟩
theorem TradeR.set {own : Nat → Nat} {i : Nat} {w : World} {p : Nat} {bp : Int} {P : Pu} {W : World} (h : TradeR own i w p bp P W) {c j : Nat} (hc : c < 6) (hj : j < 8) (v : Int) (hv : PInv (P.set c j v)) {n : Nat} (hn : n = c * 8 + j) : TradeR own i w p bp (P.set c j v) (W.setCell ⟨p, n, none⟩ (.int .i64 v)) := by
  obtain ⟨h1, h2, h3, h4⟩ := h
  refine ⟨h1.set hc hj v hv rfl hn, h2.setCell (fun _ => by rw [Nat.div_one]; exact h1.1) _, ?_, h4⟩
  rw [← h3]
  exact World.cell?_of_block (Below.heap_setCell _ _ _ _ (show w.heap.size ≠ p by omega))
theorem TradeR.drew {own : Nat → Nat} {i : Nat} {w : World} {p : Nat} {bp : Int} {P : Pu} {W : World} (h : TradeR own i w p bp P W) : TradeR own i w p bp P W.drew := ⟨h.1.later (Ex.drew (Ex.refl _)), h.2.1.drew, h.2.2.1, h.2.2.2⟩
end Go.Proofs.YtfeeibealokhfaaDoor
