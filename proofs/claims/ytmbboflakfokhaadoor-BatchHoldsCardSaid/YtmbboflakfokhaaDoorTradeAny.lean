import Derived.Test.YtmbboflakfokhaaDoorTradeBad
import Derived.Test.YtmbboflakfokhaaDoorTradeSame
/- What Trade of package purse computes, whatever it is given. -/
set_option linter.unusedSimpArgs false
set_option linter.unusedVariables false
namespace Go.Proofs.YtmbboflakfokhaaDoor
open Go.RowKit

section
variable {own : Nat → Nat} {i : Nat} {w : World} {p : Nat} {P : Pu}
theorem trade_any (h : PurseAt own i w p P) (item : Int) (b s : Lot) (price qty : Int) (E : Nat → Addr) (hE : Errs E [2, 3, 8, 10, 12] w) :
    Calls Tryd.prog 58 #[.pointer (some ⟨p, 0, none⟩), .int .i64 item, b.val, s.val, .int .i64 price, .int .i64 qty] w fun e w' => e = .returned (errV E (tradeE P item b s price qty)) ∧ ObjTo own i i w (fun o w' => PurseAt o i w' p (if tradeE P item b s price qty = 0 then tradeF P b.owner.toNat s.owner.toNat item.toNat (b.price * qty) (price * qty) qty else P)) w' := by
  by_cases hf : fairE item b s price qty = 0
  · have hz := fair_zero hf
    have hb := hz.1
    have hs := hz.2.1
    simp only [rightB, Bool.and_eq_true] at hb hs
    obtain ⟨i0, i2⟩ := inR_iff.1 hb.1
    obtain ⟨it, rfl⟩ := Int.eq_ofNat_of_zero_le i0
    obtain ⟨_, hob, _, _, _⟩ := Lot.okC hb.2
    obtain ⟨_, hos, _, _, _⟩ := Lot.okC hs.2
    have e0 : tradeE P (it : Int) b s price qty = (if P b.owner.toNat 1 < b.price * qty ∨ P s.owner.toNat (5 + it) < qty then 10 else if b.owner.toNat ≠ s.owner.toNat ∧ (1073741824 - P b.owner.toNat (2 + it) < qty ∨ 1099511627776 - P s.owner.toNat 0 < price * qty) then 8 else 0) := by
      unfold tradeE; rw [if_pos hf, Int.toNat_natCast]
    have hbo : b.owner = ((b.owner.toNat : Nat) : Int) := by omega
    have hso : s.owner = ((s.owner.toNat : Nat) : Int) := by omega
    rw [Int.toNat_natCast]
    generalize b.owner.toNat = bo at *
    generalize s.owner.toNat = so at *
    by_cases k1 : P bo 1 < b.price * qty
    · have e1 : tradeE P (it : Int) b s price qty = 10 := by rw [e0, if_pos (.inl k1)]
      rw [e1, if_neg (by decide)]
      exact trade_poor1 h bo so it (by omega) (by omega) (by omega) b s hbo hso price qty E hE hf k1
    by_cases k2 : P so (5 + it) < qty
    · have e1 : tradeE P (it : Int) b s price qty = 10 := by rw [e0, if_pos (.inr k2)]
      rw [e1, if_neg (by decide)]
      exact trade_poor2 h bo so it (by omega) (by omega) (by omega) b s hbo hso price qty E hE hf (by omega) k2
    by_cases hne : bo = so
    · subst hne
      have e1 : tradeE P (it : Int) b s price qty = 0 := by rw [e0, if_neg (by omega), if_neg (by omega)]
      rw [e1, if_pos rfl, errV_zero]
      exact trade_same h bo it (by omega) (by omega) b s hbo hso price qty E hE hf (by omega) (by omega)
    by_cases k3 : 1073741824 - P bo (2 + it) < qty
    · have e1 : tradeE P (it : Int) b s price qty = 8 := by rw [e0, if_neg (by omega), if_pos ⟨hne, .inl k3⟩]
      rw [e1, if_neg (by decide)]
      exact trade_full1 h bo so it (by omega) (by omega) (by omega) b s hbo hso price qty E hE hf (by omega) (by omega) hne k3
    by_cases k4 : 1099511627776 - P so 0 < price * qty
    · have e1 : tradeE P (it : Int) b s price qty = 8 := by rw [e0, if_neg (by omega), if_pos ⟨hne, .inr k4⟩]
      rw [e1, if_neg (by decide)]
      exact trade_full2 h bo so it (by omega) (by omega) (by omega) b s hbo hso price qty E hE hf (by omega) (by omega) hne (by omega) k4
    · have e1 : tradeE P (it : Int) b s price qty = 0 := by rw [e0, if_neg (by omega), if_neg (by omega)]
      rw [e1, if_pos rfl, errV_zero]
      exact trade_ok h bo so it (by omega) (by omega) (by omega) b s hbo hso price qty E hE hf (by omega) (by omega) hne (by omega) (by omega)
  · have e1 : tradeE P item b s price qty = fairE item b s price qty := by unfold tradeE; rw [if_neg hf]
    rw [e1, if_neg hf]
    exact trade_unfair h item b s price qty E hE hf
end
end Go.Proofs.YtmbboflakfokhaaDoor
