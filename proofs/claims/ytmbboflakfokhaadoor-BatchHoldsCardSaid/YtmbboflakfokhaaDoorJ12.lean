import Derived.Test.YtmbboflakfokhaaDoorHold
import Derived.Test.YtmbboflakfokhaaDoorTradeAny
import Derived.Test.YtmbboflakfokhaaDoorGive
import Derived.Test.YtmbboflakfokhaaDoorJ5
/- What Hold and Free of package purse compute, whatever they are given. -/
set_option linter.unusedSimpArgs false
set_option linter.unusedVariables false
namespace Go.Proofs.YtmbboflakfokhaaDoor
open Go.RowKit

section
variable {own : Nat → Nat} {i : Nat} {w : World} {p : Nat} {P : Pu}
theorem hold_any (h : PurseAt own i w p P) (item : Int) (x : Lot) (E : Nat → Addr) (hE : Errs E [2, 10] w) :
    Calls Tryd.prog 31 #[.pointer (some ⟨p, 0, none⟩), .int .i64 item, x.val] w fun e w' => e = .returned (errV E (holdE P item x)) ∧ ObjTo own i i w (fun o w' => PurseAt o i w' p (holdP P item x)) w' := by
  cases hr : rightB item x
  · have e1 : holdE P item x = 2 := by simp [holdE, hr]
    have e2 : holdP P item x = P := by unfold holdP; rw [if_neg (by rw [e1]; decide)]
    rw [e1, e2]
    exact hold_bad h item x E hE hr
  · have hr' := hr
    simp only [rightB, Bool.and_eq_true] at hr'
    obtain ⟨i0, i2⟩ := inR_iff.1 hr'.1
    obtain ⟨_, ho, hsd, _, _⟩ := Lot.okC hr'.2
    obtain ⟨it, rfl⟩ := Int.eq_ofNat_of_zero_le i0
    have hoc : x.owner = ((x.owner.toNat : Nat) : Int) := by omega
    by_cases hs : x.side = 0
    · by_cases hok : P x.owner.toNat 0 - P x.owner.toNat 1 < x.price * x.qty
      · have e1 : holdE P (it : Int) x = 10 := by simp [holdE, hr, hs, hok]
        have e2 : holdP P (it : Int) x = P := by unfold holdP; rw [if_neg (by rw [e1]; decide)]
        rw [e1, e2]
        exact hold_buy_poor h x.owner.toNat it (by omega) (by omega) x hoc E hE hr hs hok
      · have e1 : holdE P (it : Int) x = 0 := by simp [holdE, hr, hs, hok]
        have e2 : holdP P (it : Int) x = P.set x.owner.toNat 1 (P x.owner.toNat 1 + x.price * x.qty) := by unfold holdP; rw [if_pos e1, if_pos hs]
        rw [e1, e2, errV_zero]
        exact hold_buy h x.owner.toNat it (by omega) (by omega) x hoc E hE hr hs hok
    · have hs1 : x.side = 1 := by omega
      by_cases hok : P x.owner.toNat (2 + it) - P x.owner.toNat (5 + it) < x.qty
      · have e1 : holdE P (it : Int) x = 10 := by simp [holdE, hr, hs1, hok]
        have e2 : holdP P (it : Int) x = P := by unfold holdP; rw [if_neg (by rw [e1]; decide)]
        rw [e1, e2]
        exact hold_sell_poor h x.owner.toNat it (by omega) (by omega) x hoc E hE hr hs1 hok
      · have e1 : holdE P (it : Int) x = 0 := by simp [holdE, hr, hs1, hok]
        have e2 : holdP P (it : Int) x = P.set x.owner.toNat (5 + it) (P x.owner.toNat (5 + it) + x.qty) := by unfold holdP; rw [if_pos e1, if_neg hs]; rfl
        rw [e1, e2, errV_zero]
        exact hold_sell h x.owner.toNat it (by omega) (by omega) x hoc E hE hr hs1 hok
theorem free_any (h : PurseAt own i w p P) (item : Int) (x : Lot) (E : Nat → Addr) (hE : Errs E [2, 10] w) :
    Calls Tryd.prog 62 #[.pointer (some ⟨p, 0, none⟩), .int .i64 item, x.val] w fun e w' => e = .returned (errV E (freeE P item x)) ∧ ObjTo own i i w (fun o w' => PurseAt o i w' p (freeP P item x)) w' := by
  cases hr : rightB item x
  · have e1 : freeE P item x = 2 := by simp [freeE, hr]
    have e2 : freeP P item x = P := by unfold freeP; rw [if_neg (by rw [e1]; decide)]
    rw [e1, e2]
    exact free_bad h item x E hE hr
  · have hr' := hr
    simp only [rightB, Bool.and_eq_true] at hr'
    obtain ⟨i0, i2⟩ := inR_iff.1 hr'.1
    obtain ⟨_, ho, hsd, _, _⟩ := Lot.okC hr'.2
    obtain ⟨it, rfl⟩ := Int.eq_ofNat_of_zero_le i0
    have hoc : x.owner = ((x.owner.toNat : Nat) : Int) := by omega
    by_cases hs : x.side = 0
    · by_cases hok : P x.owner.toNat 1 < x.price * x.qty
      · have e1 : freeE P (it : Int) x = 10 := by simp [freeE, hr, hs, hok]
        have e2 : freeP P (it : Int) x = P := by unfold freeP; rw [if_neg (by rw [e1]; decide)]
        rw [e1, e2]
        exact free_buy_poor h x.owner.toNat it (by omega) (by omega) x hoc E hE hr hs hok
      · have e1 : freeE P (it : Int) x = 0 := by simp [freeE, hr, hs, hok]
        have e2 : freeP P (it : Int) x = P.set x.owner.toNat 1 (P x.owner.toNat 1 - x.price * x.qty) := by unfold freeP; rw [if_pos e1, if_pos hs]
        rw [e1, e2, errV_zero]
        exact free_buy h x.owner.toNat it (by omega) (by omega) x hoc E hE hr hs hok
    · have hs1 : x.side = 1 := by omega
      by_cases hok : P x.owner.toNat (5 + it) < x.qty
      · have e1 : freeE P (it : Int) x = 10 := by simp [freeE, hr, hs1, hok]
        have e2 : freeP P (it : Int) x = P := by unfold freeP; rw [if_neg (by rw [e1]; decide)]
        rw [e1, e2]
        exact free_sell_poor h x.owner.toNat it (by omega) (by omega) x hoc E hE hr hs1 hok
      · have e1 : freeE P (it : Int) x = 0 := by simp [freeE, hr, hs1, hok]
        have e2 : freeP P (it : Int) x = P.set x.owner.toNat (5 + it) (P x.owner.toNat (5 + it) - x.qty) := by unfold freeP; rw [if_pos e1, if_neg hs]; rfl
        rw [e1, e2, errV_zero]
        exact free_sell h x.owner.toNat it (by omega) (by omega) x hoc E hE hr hs1 hok
end
end Go.Proofs.YtmbboflakfokhaaDoor

/- What trades, and what is held, leave of the sums of all purses. -/
set_option linter.unusedSimpArgs false
set_option linter.unusedVariables false
namespace Go.Proofs.YtmbboflakfokhaaDoor
open Go.RowKit

/-- What all clients have of one thing. -/
def sumP (P : Pu) (j : Nat) : Int := P 0 j + P 1 j + P 2 j + P 3 j + P 4 j + P 5 j
theorem sumP_add (P : Pu) {c : Nat} (hc : c < 6) (j : Nat) (d : Int) (k : Nat) : sumP (P.set c j (P c j + d)) k = sumP P k + if k = j then d else 0 := by
  have h : c = 0 ∨ c = 1 ∨ c = 2 ∨ c = 3 ∨ c = 4 ∨ c = 5 := by omega
  by_cases e : k = j
  · subst e
    rcases h with rfl | rfl | rfl | rfl | rfl | rfl <;> simp [sumP, Pu.set] <;> omega
  · rcases h with rfl | rfl | rfl | rfl | rfl | rfl <;> simp [sumP, Pu.set, e]
theorem sumP_sub (P : Pu) {c : Nat} (hc : c < 6) (j : Nat) (d : Int) (k : Nat) : sumP (P.set c j (P c j - d)) k = sumP P k - if k = j then d else 0 := by
  rw [Int.sub_eq_add_neg, sumP_add P hc j (-d) k]
  split <;> omega
/-- Cash or stock, nothing that is held or kept. -/
def sumJ (k : Nat) : Prop := k ≠ 1 ∧ k < 5
theorem hold_sum (P : Pu) (item : Int) (x : Lot) {k : Nat} (hk : sumJ k) : sumP (holdP P item x) k = sumP P k := by
  unfold holdP
  split
  · rename_i he
    unfold holdE at he
    split at he
    · rename_i hr
      simp only [rightB, Bool.and_eq_true] at hr
      obtain ⟨_, ho, _⟩ := Lot.okC hr.2
      split
      · rw [sumP_add P (by omega), if_neg hk.1, Int.add_zero]
      · rw [sumP_add P (by omega), if_neg (by have := hk.2; omega), Int.add_zero]
    · cases he
  · rfl
theorem free_sum (P : Pu) (item : Int) (x : Lot) {k : Nat} (hk : sumJ k) : sumP (freeP P item x) k = sumP P k := by
  unfold freeP
  split
  · rename_i he
    unfold freeE at he
    split at he
    · rename_i hr
      simp only [rightB, Bool.and_eq_true] at hr
      obtain ⟨_, ho, _⟩ := Lot.okC hr.2
      split
      · rw [sumP_sub P (by omega), if_neg hk.1, Int.sub_zero]
      · rw [sumP_sub P (by omega), if_neg (by have := hk.2; omega), Int.sub_zero]
    · cases he
  · rfl
theorem tradeF_sum (P : Pu) {bo so : Nat} (hb : bo < 6) (hs : so < 6) (it : Nat) (m1 m2 qty : Int) {k : Nat} (hk : sumJ k) : sumP (tradeF P bo so it m1 m2 qty) k = sumP P k := by
  have h1 := hk.1
  have h2 := hk.2
  unfold tradeF
  rw [sumP_add _ hs, sumP_add _ hb, sumP_sub _ hs, sumP_sub _ hs, sumP_sub _ hb, sumP_sub _ hb, if_neg h1, if_neg (show ¬ k = 5 + it by omega)]
  split <;> split <;> omega
theorem trade_sum (P : Pu) (item : Int) (b s : Lot) (price qty : Int) {k : Nat} (hk : sumJ k) : sumP (if tradeE P item b s price qty = 0 then tradeF P b.owner.toNat s.owner.toNat item.toNat (b.price * qty) (price * qty) qty else P) k = sumP P k := by
  split
  · rename_i he
    unfold tradeE at he
    split at he
    · rename_i hf
      have hz := fair_zero hf
      have hb := hz.1
      have hs := hz.2.1
      simp only [rightB, Bool.and_eq_true] at hb hs
      obtain ⟨_, hob, _⟩ := Lot.okC hb.2
      obtain ⟨_, hos, _⟩ := Lot.okC hs.2
      exact tradeF_sum P (by omega) (by omega) _ _ _ _ hk
    · rename_i hf
      exact absurd he hf
  · rfl
theorem add_sum (P : Pu) {c : Nat} (hc : c < 6) (cash : Int) (s : Nat → Int) : sumP (P.add c cash s) 0 = sumP P 0 + cash ∧ sumP (P.add c cash s) 2 = sumP P 2 + s 0 ∧ sumP (P.add c cash s) 3 = sumP P 3 + s 1 ∧ sumP (P.add c cash s) 4 = sumP P 4 + s 2 := by
  have h : c = 0 ∨ c = 1 ∨ c = 2 ∨ c = 3 ∨ c = 4 ∨ c = 5 := by omega
  rcases h with rfl | rfl | rfl | rfl | rfl | rfl <;> (simp [sumP, Pu.add]; omega)
theorem give_sum (P : Pu) (n cash : Int) (s : Nat → Int) (he : giveE P n cash s = 0) : sumP (giveP P n cash s) 0 = sumP P 0 + cash ∧ sumP (giveP P n cash s) 2 = sumP P 2 + s 0 ∧ sumP (giveP P n cash s) 3 = sumP P 3 + s 1 ∧ sumP (giveP P n cash s) 4 = sumP P 4 + s 2 := by
  have hc : n.toNat < 6 := by
    have he' := he
    unfold giveE at he'
    split at he'
    · rename_i h
      rw [Bool.and_eq_true] at h
      obtain ⟨h0, h5⟩ := inR_iff.1 h.1
      omega
    · cases he'
  unfold giveP
  rw [if_pos he]
  exact add_sum P hc cash s
theorem give_keeps (P : Pu) (n cash : Int) (s : Nat → Int) (he : giveE P n cash s ≠ 0) : giveP P n cash s = P := by
  unfold giveP; rw [if_neg he]
theorem sumP_bounds {P : Pu} (h : PInv P) : 0 ≤ sumP P 0 ∧ sumP P 0 ≤ 6597069766656 ∧ ∀ i, i < 3 → 0 ≤ sumP P (2 + i) ∧ sumP P (2 + i) ≤ 6442450944 := by
  have h0 := h 0 (by omega)
  have h1 := h 1 (by omega)
  have h2 := h 2 (by omega)
  have h3 := h 3 (by omega)
  have h4 := h 4 (by omega)
  have h5 := h 5 (by omega)
  refine ⟨by unfold sumP; omega, by unfold sumP; omega, fun i hi => ?_⟩
  have a0 := h0.2.2.2 i hi
  have a1 := h1.2.2.2 i hi
  have a2 := h2.2.2.2 i hi
  have a3 := h3.2.2.2 i hi
  have a4 := h4.2.2.2 i hi
  have a5 := h5.2.2.2 i hi
  unfold sumP
  omega
end Go.Proofs.YtmbboflakfokhaaDoor

/- Plain facts: a floor of three books, three bands and a purse. What is held is what the lots that rest ask for; trades never fail. -/
set_option linter.unusedSimpArgs false
set_option linter.unusedVariables false
namespace Go.Proofs.YtmbboflakfokhaaDoor
open Go.RowKit

/-- A sum over lots. -/
def sumZ (f : Lot → Int) : List Lot → Int
  | [] => 0
  | x :: l => f x + sumZ f l
theorem sumZ_append (f : Lot → Int) : ∀ l m : List Lot, sumZ f (l ++ m) = sumZ f l + sumZ f m
  | [], m => by simp [sumZ]
  | x :: l, m => by simp only [List.cons_append, sumZ, sumZ_append f l m]; omega
theorem sumZ_erase (f : Lot → Int) : ∀ (l : List Lot) (k : Nat) (h : k < l.length), sumZ f (l.eraseIdx k) = sumZ f l - f l[k]
  | x :: l, 0, _ => by simp [sumZ]; omega
  | x :: l, k + 1, h => by
    have := sumZ_erase f l k (by simpa using h)
    simp only [List.eraseIdx_cons_succ, sumZ, List.getElem_cons_succ]
    omega
theorem sumZ_set (f : Lot → Int) : ∀ (l : List Lot) (k : Nat) (h : k < l.length) (y : Lot), sumZ f (l.set k y) = sumZ f l - f l[k] + f y
  | x :: l, 0, _, y => by simp [sumZ]; omega
  | x :: l, k + 1, h, y => by
    have := sumZ_set f l k (by simpa using h) y
    simp only [List.set_cons_succ, sumZ, List.getElem_cons_succ]
    omega
theorem sumZ_nonneg {f : Lot → Int} : ∀ {l : List Lot}, (∀ x ∈ l, 0 ≤ f x) → 0 ≤ sumZ f l
  | [], _ => by simp [sumZ]
  | x :: l, h => by
    have := sumZ_nonneg (l := l) fun y hy => h y (by simp [hy])
    have := h x (by simp)
    simp only [sumZ]; omega
theorem sumZ_ge {f : Lot → Int} : ∀ {l : List Lot}, (∀ x ∈ l, 0 ≤ f x) → ∀ x ∈ l, f x ≤ sumZ f l
  | [], _, x, h => by cases h
  | y :: l, h, x, hx => by
    have h1 := sumZ_nonneg (l := l) fun z hz => h z (by simp [hz])
    have h2 := h y (by simp)
    simp only [sumZ]
    rcases List.mem_cons.1 hx with rfl | hx
    · omega
    · have := sumZ_ge (fun z hz => h z (by simp [hz])) x hx
      omega
/-- What a lot holds of a client's cash, keeps of its stock. -/
def heldF (c : Int) (x : Lot) : Int := if x.owner = c ∧ x.side = 0 then x.price * x.qty else 0
def keptF (c : Int) (x : Lot) : Int := if x.owner = c ∧ x.side ≠ 0 then x.qty else 0
def LApart (l : List Lot) : Prop := l.Pairwise fun x y => x.id ≠ y.id
/-- A book as it should be. -/
structure BOk (l : List Lot) : Prop where
  ok : ∀ x ∈ l, x.ok = true
  apart : LApart l
  len : l.length ≤ 60
theorem BOk.nil : BOk [] := ⟨fun x h => (by cases h), List.Pairwise.nil, by simp⟩
theorem LApart.eq {l : List Lot} (h : LApart l) {x y : Lot} (hx : x ∈ l) (hy : y ∈ l) (e : x.id = y.id) : x = y := by
  induction l with
  | nil => cases hx
  | cons z l ih =>
    obtain ⟨h1, h2⟩ := List.pairwise_cons.1 h
    rcases List.mem_cons.1 hx with hx1 | hx1 <;> rcases List.mem_cons.1 hy with hy1 | hy1
    · rw [hx1, hy1]
    · rw [hx1] at e; exact absurd e (h1 y hy1)
    · rw [hy1] at e; exact absurd e.symm (h1 x hx1)
    · exact ih h2 hx1 hy1
theorem held_nonneg {l : List Lot} (h : ∀ x ∈ l, x.ok = true) (c : Int) : ∀ x ∈ l, 0 ≤ heldF c x := fun x hx => by
  obtain ⟨_, _, _, hp, hq⟩ := Lot.okC (h x hx)
  unfold heldF
  split
  · exact Int.mul_nonneg (by omega) (by omega)
  · omega
theorem kept_nonneg {l : List Lot} (h : ∀ x ∈ l, x.ok = true) (c : Int) : ∀ x ∈ l, 0 ≤ keptF c x := fun x hx => by
  obtain ⟨_, _, _, hp, hq⟩ := Lot.okC (h x hx)
  unfold keptF
  split <;> omega
/-- Where a lot stands. -/
theorem find_of_mem {l : List Lot} (h : LApart l) {x : Lot} (hx : x ∈ l) : ∃ k, ∃ hk : k < l.length, l.findIdx? (fun y => y.id == x.id) = some k ∧ l[k] = x := by
  cases hf : l.findIdx? (fun y => y.id == x.id) with
  | none =>
    rw [List.findIdx?_eq_none_iff] at hf
    have := hf x hx
    simp at this
  | some k =>
    rw [List.findIdx?_eq_some_iff_getElem] at hf
    obtain ⟨hk, h1, _⟩ := hf
    exact ⟨k, hk, rfl, h.eq (List.getElem_mem hk) hx (by simpa using h1)⟩
theorem getR_mem {l : List Lot} (h : LApart l) {x : Lot} (hx : x ∈ l) : getR l x.id = (x, true) := by
  obtain ⟨k, hk, hf, e⟩ := find_of_mem h hx
  unfold getR
  rw [hf]
  simp only [List.getElem?_eq_getElem hk, e]
theorem getR_cases (l : List Lot) (id : Int) : (∃ x ∈ l, x.id = id ∧ getR l id = (x, true)) ∨ ((∀ x ∈ l, x.id ≠ id) ∧ getR l id = (zeroLot, false)) := by
  unfold getR
  cases hf : l.findIdx? (fun y => y.id == id) with
  | none =>
    rw [List.findIdx?_eq_none_iff] at hf
    exact .inr ⟨fun x hx e => by have := hf x hx; simp [e] at this, rfl⟩
  | some k =>
    rw [List.findIdx?_eq_some_iff_getElem] at hf
    obtain ⟨hk, h1, _⟩ := hf
    left
    exact ⟨l[k], List.getElem_mem hk, by simpa using h1, by simp only [List.getElem?_eq_getElem hk]⟩
theorem cancelR_cases {l : List Lot} (h : BOk l) (id : Int) : (∃ x ∈ l, x.id = id ∧ ∃ l', cancelR l id = (x, 0, l') ∧ BOk l' ∧ (∀ f, sumZ f l' = sumZ f l - f x) ∧ (∀ z, z ∈ l' ↔ z ∈ l ∧ z.id ≠ id)) ∨ ((∀ x ∈ l, x.id ≠ id) ∧ cancelR l id = (zeroLot, 6, l)) := by
  unfold cancelR
  cases hf : l.findIdx? (fun y => y.id == id) with
  | none =>
    rw [List.findIdx?_eq_none_iff] at hf
    exact .inr ⟨fun x hx e => by have := hf x hx; simp [e] at this, rfl⟩
  | some k =>
    rw [List.findIdx?_eq_some_iff_getElem] at hf
    obtain ⟨hk, h1, _⟩ := hf
    have h1 : l[k].id = id := by simpa using h1
    left
    have hs : (l.eraseIdx k).Sublist l := List.eraseIdx_sublist _ _
    refine ⟨l[k], List.getElem_mem hk, h1, l.eraseIdx k, by simp only [List.getElem?_eq_getElem hk], ⟨fun x hx => h.ok x (hs.subset hx), h.apart.sublist hs, Nat.le_trans hs.length_le h.len⟩, fun f => sumZ_erase f l k hk, fun z => ?_⟩
    rw [List.mem_eraseIdx_iff_getElem]
    constructor
    · rintro ⟨i, hi, hne, rfl⟩
      refine ⟨List.getElem_mem hi, fun e => hne ?_⟩
      have h2 := List.pairwise_iff_getElem.1 h.apart
      rcases Nat.lt_trichotomy i k with h3 | h3 | h3
      · exact absurd (e.trans h1.symm) (h2 i k hi hk h3)
      · exact h3
      · exact absurd (h1.trans e.symm) (h2 k i hk hi h3)
    · rintro ⟨hz, hne⟩
      obtain ⟨i, hi, rfl⟩ := List.getElem_of_mem hz
      exact ⟨i, hi, fun e => hne (by subst e; exact h1), rfl⟩
theorem takeR_ok {l : List Lot} (h : BOk l) {x : Lot} (hx : x ∈ l) {q : Int} (h1 : 1 ≤ q) (h2 : q ≤ x.qty) : ∃ l', takeR l x.id q = (0, l') ∧ BOk l' ∧ (∀ f, sumZ f l' = sumZ f l - f x + if q = x.qty then 0 else f (x.less q)) ∧ (∀ z, z ∈ l' ↔ (z ∈ l ∧ z.id ≠ x.id) ∨ (q < x.qty ∧ z = x.less q)) := by
  obtain ⟨k, hk, hf, e⟩ := find_of_mem h.apart hx
  have hap := List.pairwise_iff_getElem.1 h.apart
  have hne : ∀ i (hi : i < l.length), i ≠ k → l[i].id ≠ x.id := fun i hi hik e2 => by
    rw [← e] at e2
    rcases Nat.lt_or_gt_of_ne hik with h3 | h3
    · exact hap i k hi hk h3 e2
    · exact hap k i hk hi h3 e2.symm
  unfold takeR
  rw [hf]
  simp only [List.getElem?_eq_getElem hk, e]
  rw [if_neg (by omega)]
  by_cases hq : q = x.qty
  · rw [if_pos hq]
    have hs : (l.eraseIdx k).Sublist l := List.eraseIdx_sublist _ _
    refine ⟨_, rfl, ⟨fun x hx => h.ok x (hs.subset hx), h.apart.sublist hs, Nat.le_trans hs.length_le h.len⟩, fun f => by rw [sumZ_erase f l k hk, e, if_pos hq]; omega, fun z => ?_⟩
    rw [List.mem_eraseIdx_iff_getElem]
    constructor
    · rintro ⟨i, hi, hik, rfl⟩
      exact .inl ⟨List.getElem_mem hi, hne i hi hik⟩
    · rintro (⟨hz, hzn⟩ | ⟨hlt, _⟩)
      · obtain ⟨i, hi, rfl⟩ := List.getElem_of_mem hz
        exact ⟨i, hi, fun e2 => hzn (by subst e2; rw [e]), rfl⟩
      · omega
  · rw [if_neg hq]
    obtain ⟨o1, o2, o3, o4, o5⟩ := Lot.okC (h.ok x hx)
    have hless : (x.less q).ok = true := by
      have : 1 ≤ x.qty - q ∧ x.qty - q ≤ 1000 := by omega
      simp only [Lot.ok, Lot.less, Bool.and_eq_true, inR_iff]
      refine ⟨⟨⟨⟨?_, ?_⟩, ?_⟩, ?_⟩, ?_⟩ <;> first | exact o1 | exact o2 | exact o3 | exact o4 | exact this
    have hmem : ∀ z, z ∈ l.set k (x.less q) ↔ (z ∈ l ∧ z.id ≠ x.id) ∨ (q < x.qty ∧ z = x.less q) := fun z => by
      rw [List.mem_iff_getElem]
      constructor
      · rintro ⟨i, hi, rfl⟩
        have hi' : i < l.length := by simpa using hi
        rw [List.getElem_set]
        split
        · exact .inr ⟨by omega, rfl⟩
        · rename_i hik
          exact .inl ⟨List.getElem_mem hi', hne i hi' (by omega)⟩
      · rintro (⟨hz, hzn⟩ | ⟨_, rfl⟩)
        · obtain ⟨i, hi, rfl⟩ := List.getElem_of_mem hz
          refine ⟨i, by simpa using hi, ?_⟩
          rw [List.getElem_set, if_neg (fun e2 => hzn (by subst e2; rw [e]))]
        · exact ⟨k, by simpa using hk, by simp⟩
    refine ⟨_, rfl, ⟨fun z hz => ?_, ?_, by simpa using h.len⟩, fun f => by rw [sumZ_set f l k hk, e, if_neg hq], hmem⟩
    · rcases (hmem z).1 hz with ⟨hz, _⟩ | ⟨_, rfl⟩
      · exact h.ok z hz
      · exact hless
    · refine List.pairwise_iff_getElem.2 fun i j hi hj hij => ?_
      have hi' : i < l.length := by simpa using hi
      have hj' : j < l.length := by simpa using hj
      rw [List.getElem_set, List.getElem_set]
      split
      · rename_i hk1
        rw [if_neg (by omega)]
        exact fun e2 => hne j hj' (by omega) (e2.symm.trans rfl)
      · split
        · rename_i hk2 hk1
          exact fun e2 => hne i hi' (by omega) (e2.trans rfl)
        · exact hap i j hi' hj' hij
theorem addE_new {l : List Lot} {x : Lot} (h : addE l x = 0) : x.ok = true ∧ (∀ y ∈ l, y.id ≠ x.id) ∧ l.length < 60 := by
  unfold addE at h
  split at h
  · rename_i hk
    split at h
    · cases h
    · rename_i hi
      split at h
      · cases h
      · rename_i hl
        refine ⟨hk, ?_, by omega⟩
        rcases idIdx_cases l x.id with ⟨k, _, e, _⟩ | ⟨_, hn⟩
        · omega
        · exact hn
  · cases h
theorem BOk.add {l : List Lot} (h : BOk l) {x : Lot} (he : addE l x = 0) : BOk (l ++ [x]) := by
  obtain ⟨h1, h2, h3⟩ := addE_new he
  refine ⟨fun y hy => ?_, List.pairwise_append.2 ⟨h.apart, List.pairwise_singleton _ _, fun y hy z hz => ?_⟩, by simp; omega⟩
  · rcases List.mem_append.1 hy with hy | hy
    · exact h.ok y hy
    · simp at hy; subst hy; exact h1
  · simp at hz; subst hz; exact h2 y hy
/-- What is put last goes first. -/
theorem cancel_last {l : List Lot} {x : Lot} (h : ∀ y ∈ l, y.id ≠ x.id) : cancelR (l ++ [x]) x.id = (x, 0, l) := by
  have hf : (l ++ [x]).findIdx? (fun y => y.id == x.id) = some l.length := by
    rw [List.findIdx?_eq_some_iff_getElem]
    refine ⟨by simp, by simp, fun j hj => ?_⟩
    rw [List.getElem_append_left hj]
    simpa using h _ (List.getElem_mem hj)
  unfold cancelR
  rw [hf]
  simp only [List.getElem?_append_right (Nat.le_refl _), Nat.sub_self, List.getElem?_cons_zero]
  rw [List.eraseIdx_append_of_length_le (Nat.le_refl _), Nat.sub_self]
  simp
end Go.Proofs.YtmbboflakfokhaaDoor

/- Plain facts: the state of a floor; what a placed lot, one that goes, and a trade make of it. -/
set_option linter.unusedSimpArgs false
set_option linter.unusedVariables false
namespace Go.Proofs.YtmbboflakfokhaaDoor
open Go.RowKit

/-- Three books, three bands, a purse. -/
structure FSt where
  b : Nat → List Lot
  ref : Nat → Int
  left : Nat → Int
  p : Pu
def FSt.setB (st : FSt) (k : Nat) (l : List Lot) : FSt := { st with b := fun j => if j = k then l else st.b j }
def FSt.setP (st : FSt) (P : Pu) : FSt := { st with p := P }
def FSt.setN (st : FSt) (k : Nat) (r l : Int) : FSt := { st with ref := fun j => if j = k then r else st.ref j, left := fun j => if j = k then l else st.left j }
def heldB (b : Nat → List Lot) (c : Int) : Int := sumZ (heldF c) (b 0) + sumZ (heldF c) (b 1) + sumZ (heldF c) (b 2)
theorem heldF_yes {c : Int} {x : Lot} (h : x.owner = c) (hs : x.side = 0) : heldF c x = x.price * x.qty := if_pos ⟨h, hs⟩
theorem heldF_no {c : Int} {x : Lot} (h : ¬ (x.owner = c ∧ x.side = 0)) : heldF c x = 0 := if_neg h
theorem keptF_yes {c : Int} {x : Lot} (h : x.owner = c) (hs : x.side ≠ 0) : keptF c x = x.qty := if_pos ⟨h, hs⟩
theorem keptF_no {c : Int} {x : Lot} (h : ¬ (x.owner = c ∧ x.side ≠ 0)) : keptF c x = 0 := if_neg h
/-- A floor as it should be. -/
structure FOk (st : FSt) : Prop where
  book : ∀ k, k < 3 → BOk (st.b k)
  held : ∀ c : Nat, c < 6 → st.p c 1 = heldB st.b (c : Int)
  kept : ∀ c : Nat, c < 6 → ∀ k, k < 3 → st.p c (5 + k) = sumZ (keptF (c : Int)) (st.b k)
  band : ∀ k, k < 3 → (1 ≤ st.ref k ∧ st.ref k ≤ 1000) ∧ 0 ≤ st.left k ∧ st.left k ≤ 1000
  cash : sumP st.p 0 ≤ 1099511627776
  stock : ∀ k, k < 3 → sumP st.p (2 + k) ≤ 1073741824
theorem heldB_set (b : Nat → List Lot) (c : Int) {k : Nat} (hk : k < 3) (l : List Lot) : heldB (fun j => if j = k then l else b j) c = heldB b c - sumZ (heldF c) (b k) + sumZ (heldF c) l := by
  have h : k = 0 ∨ k = 1 ∨ k = 2 := by omega
  unfold heldB
  rcases h with rfl | rfl | rfl <;> simp <;> omega
theorem FOk.held_ge {st : FSt} (h : FOk st) {k : Nat} (hk : k < 3) (c : Int) {x : Lot} (hx : x ∈ st.b k) : heldF c x ≤ heldB st.b c := by
  have h0 := sumZ_nonneg (held_nonneg (h.book 0 (by omega)).ok c)
  have h1 := sumZ_nonneg (held_nonneg (h.book 1 (by omega)).ok c)
  have h2 := sumZ_nonneg (held_nonneg (h.book 2 (by omega)).ok c)
  have h3 := sumZ_ge (held_nonneg (h.book k hk).ok c) x hx
  have e : k = 0 ∨ k = 1 ∨ k = 2 := by omega
  unfold heldB
  rcases e with rfl | rfl | rfl <;> omega
/-- A lot is placed. -/
def placeE (st : FSt) (k : Nat) (x : Lot) : Nat := if addE (st.b k) x = 0 then holdE st.p (k : Int) x else addE (st.b k) x
def placeS (st : FSt) (k : Nat) (x : Lot) : FSt := if placeE st k x = 0 then (st.setB k (st.b k ++ [x])).setP (holdP st.p (k : Int) x) else st
theorem FOk.place {st : FSt} (h : FOk st) {k : Nat} (hk : k < 3) (x : Lot) : FOk (placeS st k x) := by
  unfold placeS
  split
  · rename_i he
    unfold placeE at he
    split at he
    · rename_i ha
      obtain ⟨h1, h2, h3⟩ := addE_new ha
      obtain ⟨o1, o2, o3, o4, o5⟩ := Lot.okC h1
      obtain ⟨o, ho⟩ : ∃ o : Nat, x.owner = (o : Int) := ⟨x.owner.toNat, by omega⟩
      have ho2 : x.owner.toNat = o := by omega
      have hP : holdP st.p (k : Int) x = if x.side = 0 then st.p.set o 1 (st.p o 1 + x.price * x.qty) else st.p.set o (5 + k) (st.p o (5 + k) + x.qty) := by
        unfold holdP
        rw [if_pos he, ho2, Int.toNat_natCast]
      have hsm := fun j hj => hold_sum st.p (k : Int) x (k := j) hj
      have c0 := h.cash
      refine ⟨fun j hj => ?_, fun c hc => ?_, fun c hc j hj => ?_, h.band, ?_, fun j hj => ?_⟩
      · show BOk (if j = k then st.b k ++ [x] else st.b j)
        split
        · exact (h.book k hk).add ha
        · exact h.book j hj
      · show holdP st.p (k : Int) x c 1 = heldB (fun j => if j = k then st.b k ++ [x] else st.b j) c
        rw [heldB_set _ _ hk, sumZ_append, hP]
        have := h.held c hc
        by_cases hs : x.side = 0
        · rw [if_pos hs]
          unfold Pu.set
          by_cases e : c = o
          · subst e
            rw [if_pos ⟨rfl, rfl⟩, this]
            simp only [sumZ]
            rw [heldF_yes ho hs]
            omega
          · rw [if_neg (by omega), this]
            simp only [sumZ]
            rw [heldF_no (by omega)]
            omega
        · rw [if_neg hs]
          unfold Pu.set
          rw [if_neg (by omega), this]
          simp only [sumZ]
          rw [heldF_no (fun e => hs e.2)]
          omega
      · show holdP st.p (k : Int) x c (5 + j) = sumZ (keptF c) (if j = k then st.b k ++ [x] else st.b j)
        rw [hP]
        have := h.kept c hc j hj
        by_cases hs : x.side = 0
        · rw [if_pos hs]
          unfold Pu.set
          rw [if_neg (by omega), this]
          split
          · rename_i e
            subst e
            rw [sumZ_append]
            simp only [sumZ]
            rw [keptF_no (fun e => e.2 hs)]
            omega
          · rfl
        · rw [if_neg hs]
          unfold Pu.set
          by_cases e : j = k
          · subst e
            rw [if_pos rfl, sumZ_append]
            by_cases e2 : c = o
            · subst e2
              rw [if_pos ⟨rfl, rfl⟩, this]
              simp only [sumZ]
              rw [keptF_yes ho hs]
              omega
            · rw [if_neg (by omega), this]
              simp only [sumZ]
              rw [keptF_no (by omega)]
              omega
          · rw [if_neg (by omega), if_neg e, this]
      · show sumP (holdP st.p (k : Int) x) 0 ≤ _
        rw [hsm 0 ⟨by decide, by decide⟩]; exact c0
      · show sumP (holdP st.p (k : Int) x) (2 + j) ≤ _
        rw [hsm (2 + j) ⟨by omega, by omega⟩]; exact h.stock j hj
    · rename_i ha
      exact absurd he ha
  · exact h
/-- A lot goes: it, an error's number, the floor. -/
def goneR (st : FSt) (k : Nat) (id : Int) : Lot × Nat × FSt :=
  if (cancelR (st.b k) id).2.1 = 0 then ((cancelR (st.b k) id).1, 0, (st.setB k (cancelR (st.b k) id).2.2).setP (freeP st.p (k : Int) (cancelR (st.b k) id).1)) else (zeroLot, 6, st)
theorem freeE_zero {st : FSt} (h : FOk st) {k : Nat} (hk : k < 3) {x : Lot} (hx : x ∈ st.b k) : freeE st.p (k : Int) x = 0 := by
  have hok := (h.book k hk).ok x hx
  obtain ⟨o1, o2, o3, o4, o5⟩ := Lot.okC hok
  obtain ⟨o, ho⟩ : ∃ o : Nat, x.owner = (o : Int) := ⟨x.owner.toNat, by omega⟩
  have ho2 : x.owner.toNat = o := by omega
  have hr : rightB (k : Int) x = true := by
    simp only [rightB, Bool.and_eq_true]
    exact ⟨inR_iff.2 ⟨by omega, by omega⟩, hok⟩
  unfold freeE
  rw [if_pos hr, ho2, Int.toNat_natCast]
  split
  · rename_i hs
    have h1 := h.held o (by omega)
    have h2 := h.held_ge hk (o : Int) hx
    rw [heldF_yes ho hs] at h2
    rw [if_neg (by omega)]
  · rename_i hs
    have h1 := h.kept o (by omega) k hk
    have h2 := sumZ_ge (kept_nonneg (h.book k hk).ok (o : Int)) x hx
    rw [keptF_yes ho hs] at h2
    rw [if_neg (by omega)]
theorem FOk.gone {st : FSt} (h : FOk st) {k : Nat} (hk : k < 3) (id : Int) : FOk (goneR st k id).2.2 := by
  unfold goneR
  rcases cancelR_cases (h.book k hk) id with ⟨x, hx, hi, l', e, hl, hsum, hmem⟩ | ⟨hn, e⟩
  · rw [e]
    rw [if_pos rfl]
    show FOk ((st.setB k l').setP (freeP st.p (k : Int) x))
    have hz := freeE_zero h hk hx
    have hok := (h.book k hk).ok x hx
    obtain ⟨o1, o2, o3, o4, o5⟩ := Lot.okC hok
    obtain ⟨o, ho⟩ : ∃ o : Nat, x.owner = (o : Int) := ⟨x.owner.toNat, by omega⟩
    have ho2 : x.owner.toNat = o := by omega
    have hP : freeP st.p (k : Int) x = if x.side = 0 then st.p.set o 1 (st.p o 1 - x.price * x.qty) else st.p.set o (5 + k) (st.p o (5 + k) - x.qty) := by
      unfold freeP
      rw [if_pos hz, ho2, Int.toNat_natCast]
    have hsm := fun j hj => free_sum st.p (k : Int) x (k := j) hj
    have c0 := h.cash
    refine ⟨fun j hj => ?_, fun c hc => ?_, fun c hc j hj => ?_, h.band, ?_, fun j hj => ?_⟩
    · show BOk (if j = k then l' else st.b j)
      split
      · exact hl
      · exact h.book j hj
    · show freeP st.p (k : Int) x c 1 = heldB (fun j => if j = k then l' else st.b j) c
      rw [heldB_set _ _ hk, hsum, hP]
      have := h.held c hc
      by_cases hs : x.side = 0
      · rw [if_pos hs]
        unfold Pu.set
        by_cases e : c = o
        · subst e
          rw [if_pos ⟨rfl, rfl⟩, this, heldF_yes ho hs]
          omega
        · rw [if_neg (by omega), this, heldF_no (by omega)]
          omega
      · rw [if_neg hs]
        unfold Pu.set
        rw [if_neg (by omega), this, heldF_no (fun e => hs e.2)]
        omega
    · show freeP st.p (k : Int) x c (5 + j) = sumZ (keptF c) (if j = k then l' else st.b j)
      rw [hP]
      have := h.kept c hc j hj
      by_cases hs : x.side = 0
      · rw [if_pos hs]
        unfold Pu.set
        rw [if_neg (by omega), this]
        split
        · rename_i e
          subst e
          rw [hsum, keptF_no (fun e => e.2 hs)]
          omega
        · rfl
      · rw [if_neg hs]
        unfold Pu.set
        by_cases e : j = k
        · subst e
          rw [if_pos rfl, hsum]
          by_cases e2 : c = o
          · subst e2
            rw [if_pos ⟨rfl, rfl⟩, this, keptF_yes ho hs]
          · rw [if_neg (by omega), this, keptF_no (by omega)]
            omega
        · rw [if_neg (by omega), if_neg e, this]
    · show sumP (freeP st.p (k : Int) x) 0 ≤ _
      rw [hsm 0 ⟨by decide, by decide⟩]; exact c0
    · show sumP (freeP st.p (k : Int) x) (2 + j) ≤ _
      rw [hsm (2 + j) ⟨by omega, by omega⟩]; exact h.stock j hj
  · rw [e]
    rw [if_neg (show ¬ (6 : Nat) = 0 by decide)]
    exact h
theorem tradeF_eq (P : Pu) (bo so it : Nat) (m1 m2 qty : Int) : ∃ P1 P2 P3 P4 P5 : Pu, P1 = P.set bo 1 (P bo 1 - m1) ∧ P2 = P1.set bo 0 (P1 bo 0 - m2) ∧ P3 = P2.set so (5 + it) (P2 so (5 + it) - qty) ∧ P4 = P3.set so (2 + it) (P3 so (2 + it) - qty) ∧ P5 = P4.set bo (2 + it) (P4 bo (2 + it) + qty) ∧ tradeF P bo so it m1 m2 qty = P5.set so 0 (P5 so 0 + m2) :=
  ⟨_, _, _, _, _, rfl, rfl, rfl, rfl, rfl, rfl⟩
/-- What a trade adds to each cell. -/
def tradeD (bo so it : Nat) (m1 m2 qty : Int) (c j : Nat) : Int :=
  (if c = bo ∧ j = 1 then - m1 else 0) + (if c = bo ∧ j = 0 then - m2 else 0) + (if c = so ∧ j = 5 + it then - qty else 0) + (if c = so ∧ j = 2 + it then - qty else 0) + (if c = bo ∧ j = 2 + it then qty else 0) + (if c = so ∧ j = 0 then m2 else 0)
theorem set_add (P : Pu) (d k : Nat) (x : Int) (c j : Nat) : P.set d k (P d k + x) c j = P c j + if c = d ∧ j = k then x else 0 := by
  by_cases h : c = d ∧ j = k
  · obtain ⟨rfl, rfl⟩ := h
    rw [Pu.set_same, if_pos ⟨rfl, rfl⟩]
  · rw [Pu.set_other _ _ h, if_neg h, Int.add_zero]
theorem set_sub (P : Pu) (d k : Nat) (x : Int) (c j : Nat) : P.set d k (P d k - x) c j = P c j + if c = d ∧ j = k then - x else 0 := by
  rw [Int.sub_eq_add_neg, set_add]
theorem tradeF_all (P : Pu) (bo so it : Nat) (m1 m2 qty : Int) (c j : Nat) : tradeF P bo so it m1 m2 qty c j = P c j + tradeD bo so it m1 m2 qty c j := by
  obtain ⟨P1, P2, P3, P4, P5, e1, e2, e3, e4, e5, e6⟩ := tradeF_eq P bo so it m1 m2 qty
  rw [e6, set_add, e5, set_add, e4, set_sub, e3, set_sub, e2, set_sub, e1, set_sub]
  unfold tradeD
  omega
theorem tradeF_held (P : Pu) (bo so it : Nat) (m1 m2 qty : Int) (c : Nat) : tradeF P bo so it m1 m2 qty c 1 = if c = bo then P c 1 - m1 else P c 1 := by
  rw [tradeF_all]
  unfold tradeD
  rw [if_neg (show ¬ (c = bo ∧ 1 = 0) by omega), if_neg (show ¬ (c = so ∧ 1 = 5 + it) by omega), if_neg (show ¬ (c = so ∧ 1 = 2 + it) by omega), if_neg (show ¬ (c = bo ∧ 1 = 2 + it) by omega), if_neg (show ¬ (c = so ∧ 1 = 0) by omega)]
  by_cases e : c = bo
  · rw [if_pos ⟨e, rfl⟩, if_pos e]; omega
  · rw [if_neg (fun h => e h.1), if_neg e]; omega
theorem tradeF_kept (P : Pu) (bo so it : Nat) (m1 m2 qty : Int) (c j : Nat) (hj : j < 3) (hi : it < 3) : tradeF P bo so it m1 m2 qty c (5 + j) = if c = so ∧ j = it then P c (5 + j) - qty else P c (5 + j) := by
  rw [tradeF_all]
  unfold tradeD
  rw [if_neg (show ¬ (c = bo ∧ 5 + j = 1) by omega), if_neg (show ¬ (c = bo ∧ 5 + j = 0) by omega), if_neg (show ¬ (c = so ∧ 5 + j = 2 + it) by omega), if_neg (show ¬ (c = bo ∧ 5 + j = 2 + it) by omega), if_neg (show ¬ (c = so ∧ 5 + j = 0) by omega)]
  by_cases e : c = so ∧ j = it
  · rw [if_pos ⟨e.1, by omega⟩, if_pos e]; omega
  · rw [if_neg (fun h => e ⟨h.1, by omega⟩), if_neg e]; omega
theorem tradeF_cash (P : Pu) (bo so it : Nat) (m1 m2 qty : Int) (c : Nat) : tradeF P bo so it m1 m2 qty c 0 = P c 0 - (if c = bo then m2 else 0) + (if c = so then m2 else 0) := by
  rw [tradeF_all]
  unfold tradeD
  rw [if_neg (show ¬ (c = bo ∧ 0 = 1) by omega), if_neg (show ¬ (c = so ∧ 0 = 5 + it) by omega), if_neg (show ¬ (c = so ∧ 0 = 2 + it) by omega), if_neg (show ¬ (c = bo ∧ 0 = 2 + it) by omega)]
  have a1 : (if c = bo ∧ 0 = 0 then - m2 else 0) = - if c = bo then m2 else 0 := by
    by_cases e : c = bo
    · rw [if_pos ⟨e, rfl⟩, if_pos e]
    · rw [if_neg (fun h => e h.1), if_neg e]; rfl
  have a2 : (if c = so ∧ 0 = 0 then m2 else 0) = if c = so then m2 else 0 := by
    by_cases e : c = so
    · rw [if_pos ⟨e, rfl⟩, if_pos e]
    · rw [if_neg (fun h => e h.1), if_neg e]
  rw [a1, a2]; omega
theorem tradeF_stock (P : Pu) (bo so it : Nat) (m1 m2 qty : Int) (c j : Nat) (hj : j < 3) (hi : it < 3) : tradeF P bo so it m1 m2 qty c (2 + j) = P c (2 + j) + if j = it then (if c = bo then qty else 0) - (if c = so then qty else 0) else 0 := by
  rw [tradeF_all]
  unfold tradeD
  rw [if_neg (show ¬ (c = bo ∧ 2 + j = 1) by omega), if_neg (show ¬ (c = bo ∧ 2 + j = 0) by omega), if_neg (show ¬ (c = so ∧ 2 + j = 5 + it) by omega), if_neg (show ¬ (c = so ∧ 2 + j = 0) by omega)]
  by_cases e : j = it
  · subst e
    rw [if_pos rfl]
    have a1 : (if c = so ∧ 2 + j = 2 + j then - qty else 0) = - if c = so then qty else 0 := by
      by_cases e : c = so
      · rw [if_pos ⟨e, rfl⟩, if_pos e]
      · rw [if_neg (fun h => e h.1), if_neg e]; rfl
    have a2 : (if c = bo ∧ 2 + j = 2 + j then qty else 0) = if c = bo then qty else 0 := by
      by_cases e : c = bo
      · rw [if_pos ⟨e, rfl⟩, if_pos e]
      · rw [if_neg (fun h => e h.1), if_neg e]
    rw [a1, a2]; omega
  · rw [if_neg e, if_neg (show ¬ (c = so ∧ 2 + j = 2 + it) by omega), if_neg (show ¬ (c = bo ∧ 2 + j = 2 + it) by omega)]; omega
/-- A trade of two lots that rest. -/
def tradeS (st : FSt) (k : Nat) (price qty : Int) (x y : Lot) : FSt :=
  (st.setB k (takeR (takeR (st.b k) x.id qty).2 y.id qty).2).setP (tradeF st.p x.owner.toNat y.owner.toNat k (x.price * qty) (price * qty) qty)
theorem pair_le {P : Pu} (h : PInv P) {j : Nat} (h0 : ∀ c, c < 6 → 0 ≤ P c j) {a b : Nat} (ha : a < 6) (hb : b < 6) (hab : a ≠ b) : P a j + P b j ≤ sumP P j := by
  have c0 := h0 0 (by omega)
  have c1 := h0 1 (by omega)
  have c2 := h0 2 (by omega)
  have c3 := h0 3 (by omega)
  have c4 := h0 4 (by omega)
  have c5 := h0 5 (by omega)
  unfold sumP
  have ha' : a = 0 ∨ a = 1 ∨ a = 2 ∨ a = 3 ∨ a = 4 ∨ a = 5 := by omega
  have hb' : b = 0 ∨ b = 1 ∨ b = 2 ∨ b = 3 ∨ b = 4 ∨ b = 5 := by omega
  rcases ha' with rfl | rfl | rfl | rfl | rfl | rfl <;> rcases hb' with rfl | rfl | rfl | rfl | rfl | rfl <;> omega
theorem FOk.trade {st : FSt} (h : FOk st) (hp : PInv st.p) {k : Nat} (hk : k < 3) {x y : Lot} (hx : x ∈ st.b k) (hy : y ∈ st.b k) (sx : x.side = 0) (sy : y.side = 1) {price qty : Int} (q1 : 1 ≤ qty) (q2 : qty ≤ x.qty) (q3 : qty ≤ y.qty) (p1 : price ≤ x.price) (p2 : y.price ≤ price) :
    tradeE st.p (k : Int) x y price qty = 0 ∧ FOk (tradeS st k price qty x y) ∧ ∃ l1 l2, takeR (st.b k) x.id qty = (0, l1) ∧ takeR l1 y.id qty = (0, l2) ∧ (tradeS st k price qty x y).b k = l2 ∧ y ∈ l1 ∧
      (∀ z, z ∈ l2 ↔ (z ∈ st.b k ∧ z.id ≠ x.id ∧ z.id ≠ y.id) ∨ (qty < x.qty ∧ z = x.less qty) ∨ (qty < y.qty ∧ z = y.less qty)) := by
  have hbk := h.book k hk
  have okx := hbk.ok x hx
  have oky := hbk.ok y hy
  obtain ⟨x1, x2, x3, x4, x5⟩ := Lot.okC okx
  obtain ⟨y1, y2, y3, y4, y5⟩ := Lot.okC oky
  obtain ⟨bo, hbo⟩ : ∃ o : Nat, x.owner = (o : Int) := ⟨x.owner.toNat, by omega⟩
  obtain ⟨so, hso⟩ : ∃ o : Nat, y.owner = (o : Int) := ⟨y.owner.toNat, by omega⟩
  have hbo2 : x.owner.toNat = bo := by omega
  have hso2 : y.owner.toNat = so := by omega
  have hids : x.id ≠ y.id := fun e => by
    have := hbk.apart.eq hx hy e
    subst this; omega
  have hmul : x.price * qty ≤ x.price * x.qty := Int.mul_le_mul_of_nonneg_left q2 (by omega)
  have hmul2 : price * qty ≤ x.price * qty := Int.mul_le_mul_of_nonneg_right p1 (by omega)
  have g1 := h.held bo (by omega)
  have g2 := h.held_ge hk (bo : Int) hx
  rw [heldF_yes hbo sx] at g2
  have g3 := h.kept so (by omega) k hk
  have g4 := sumZ_ge (kept_nonneg hbk.ok (so : Int)) y hy
  rw [keptF_yes hso (by omega)] at g4
  obtain ⟨r1, r2, r3, r4⟩ := hp bo (by omega)
  obtain ⟨s1, s2, s3, s4⟩ := hp so (by omega)
  have hE : tradeE st.p (k : Int) x y price qty = 0 := by
    unfold tradeE
    have hr : ∀ z : Lot, z.ok = true → rightB (k : Int) z = true := fun z hz => by
      simp only [rightB, Bool.and_eq_true]
      exact ⟨inR_iff.2 ⟨by omega, by omega⟩, hz⟩
    have hf : fairE (k : Int) x y price qty = 0 := by
      unfold fairE
      rw [hr x okx, hr y oky, if_pos (by rfl), if_pos ⟨sx, sy⟩, if_neg (by omega), if_neg (by omega)]
    rw [if_pos hf, hbo2, hso2, Int.toNat_natCast, if_neg (by omega), if_neg ?_]
    rintro ⟨hne, hful⟩
    rcases hful with hful | hful
    · have a1 := pair_le hp (j := 2 + k) (fun c hc => by have := (hp c hc).2.2.2 k hk; omega) (show bo < 6 by omega) (show so < 6 by omega) hne
      have a2 := h.stock k hk
      have := s4 k hk
      omega
    · have a1 := pair_le hp (j := 0) (fun c hc => by have := hp c hc; omega) (show bo < 6 by omega) (show so < 6 by omega) hne
      have a2 := h.cash
      omega
  obtain ⟨l1, e1, ok1, sum1, mem1⟩ := takeR_ok hbk hx q1 q2
  have hy1 : y ∈ l1 := (mem1 y).2 (.inl ⟨hy, fun e => hids e.symm⟩)
  obtain ⟨l2, e2, ok2, sum2, mem2⟩ := takeR_ok ok1 hy1 q1 q3
  have hB : (takeR (takeR (st.b k) x.id qty).2 y.id qty).2 = l2 := by rw [e1]; show (takeR l1 y.id qty).2 = l2; rw [e2]
  refine ⟨hE, ?_, l1, l2, e1, e2, ?_, hy1, fun z => ?_⟩
  · unfold tradeS
    rw [hB, hbo2, hso2]
    have c0 := h.cash
    refine ⟨fun j hj => ?_, fun c hc => ?_, fun c hc j hj => ?_, h.band, ?_, fun j hj => ?_⟩
    · show BOk (if j = k then l2 else st.b j)
      split
      · exact ok2
      · exact h.book j hj
    · show tradeF st.p bo so k (x.price * qty) (price * qty) qty c 1 = heldB (fun j => if j = k then l2 else st.b j) c
      rw [heldB_set _ _ hk, sum2, sum1, tradeF_held, h.held c hc]
      have ey : heldF c y = 0 := heldF_no (by omega)
      have ey2 : heldF c (y.less qty) = 0 := heldF_no (fun e => by have : y.side = 0 := e.2; omega)
      rw [ey, ey2]
      simp only [ite_self]
      by_cases e : c = bo
      · subst e
        rw [if_pos rfl]
        have hx1 : heldF c x = x.price * x.qty := heldF_yes hbo sx
        have hx2 : heldF c (x.less qty) = x.price * (x.qty - qty) := heldF_yes (x := x.less qty) hbo sx
        rw [hx1, hx2]
        split
        · rename_i e2; rw [e2]; omega
        · rw [Int.mul_sub]; omega
      · rw [if_neg e]
        have hx1 : heldF c x = 0 := heldF_no (by omega)
        have hx2 : heldF c (x.less qty) = 0 := heldF_no (show ¬ (x.owner = (c : Int) ∧ x.side = 0) by omega)
        rw [hx1, hx2]
        split <;> omega
    · show tradeF st.p bo so k (x.price * qty) (price * qty) qty c (5 + j) = sumZ (keptF c) (if j = k then l2 else st.b j)
      rw [tradeF_kept _ _ _ _ _ _ _ _ _ hj hk, h.kept c hc j hj]
      by_cases e : j = k
      · subst e
        rw [if_pos rfl, sum2, sum1]
        have ex : keptF c x = 0 := keptF_no (by omega)
        have ex2 : keptF c (x.less qty) = 0 := keptF_no (show ¬ (x.owner = (c : Int) ∧ x.side ≠ 0) by omega)
        rw [ex, ex2]
        simp only [ite_self]
        by_cases e3 : c = so
        · subst e3
          rw [if_pos ⟨rfl, trivial⟩]
          have hy3 : keptF c y = y.qty := keptF_yes hso (by omega)
          have hy4 : keptF c (y.less qty) = y.qty - qty := keptF_yes (x := y.less qty) hso (show y.side ≠ 0 by omega)
          rw [hy3, hy4]
          split <;> omega
        · rw [if_neg (fun e => e3 e.1)]
          have hy3 : keptF c y = 0 := keptF_no (by omega)
          have hy4 : keptF c (y.less qty) = 0 := keptF_no (show ¬ (y.owner = (c : Int) ∧ y.side ≠ 0) by omega)
          rw [hy3, hy4]
          split <;> omega
      · rw [if_neg (fun e2 => e e2.2), if_neg e]
    · show sumP (tradeF st.p bo so k (x.price * qty) (price * qty) qty) 0 ≤ _
      rw [tradeF_sum _ (by omega) (by omega) _ _ _ _ ⟨by decide, by decide⟩]; exact c0
    · show sumP (tradeF st.p bo so k (x.price * qty) (price * qty) qty) (2 + j) ≤ _
      rw [tradeF_sum _ (by omega) (by omega) _ _ _ _ ⟨by omega, by omega⟩]; exact h.stock j hj
  · unfold tradeS
    rw [hB]
    show (if k = k then l2 else st.b k) = l2
    rw [if_pos rfl]
  · rw [mem2, mem1]
    constructor
    · rintro (⟨⟨hz, hn⟩ | ⟨hq, rfl⟩, hn2⟩ | hq)
      · exact .inl ⟨hz, hn, hn2⟩
      · exact .inr (.inl ⟨hq, rfl⟩)
      · exact .inr (.inr hq)
    · rintro (⟨hz, hn, hn2⟩ | ⟨hq, rfl⟩ | hq)
      · exact .inl ⟨.inl ⟨hz, hn⟩, hn2⟩
      · exact .inl ⟨.inr ⟨hq, rfl⟩, hids⟩
      · exact .inr hq
end Go.Proofs.YtmbboflakfokhaaDoor
