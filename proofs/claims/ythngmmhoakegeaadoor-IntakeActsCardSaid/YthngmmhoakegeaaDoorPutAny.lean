/- What Put of an intake computes, whatever it is given. -/
import Derived.Test.YthngmmhoakegeaaDoorPut
import Derived.Test.YthngmmhoakegeaaDoorPutBad
set_option linter.unusedSimpArgs false
set_option linter.unusedVariables false
namespace Go.Proofs.YthngmmhoakegeaaDoor
open Go.RowKit

/-- The queues behind a Put. -/
def putTo (l : Nat → List Ask) (a : Ask) : Nat → List Ask := if putErr l a = 0 then (fun d => if d = a.client.toNat then l a.client.toNat ++ [a] else l d) else l
theorem put_any {own : Nat → Nat} {i : Nat} {w : World} {p : Nat} {l : Nat → List Ask} {turn : Nat} (h : IntakeAt own i w p l turn) (a : Ask) (E : Nat → Addr) (hE : Errs E [2, 4, 8] w) :
    Calls Tryd.prog 17 #[.pointer (some ⟨p, 0, none⟩), a.val] w fun e w' => e = .returned (errV E (putErr l a)) ∧ ObjTo own i i w (fun o w' => IntakeAt o i w' p (putTo l a) turn) w' := by
  have keep : ∀ w', Ex w w' → ObjTo own i i w (fun o w' => IntakeAt o i w' p l turn) w' := fun w' hx =>
    ObjTo.of_ex hx (h.kp (m := 1) (g := i + 1) (Kp.of_below hx.below) (by simp) (fun n hn e => by rw [lab_lt hn]; exact e))
  by_cases hk : (a.kind != 111 && a.kind != 99) = true
  · have e : putErr l a = 4 := by simp only [putErr, hk, if_true]
    have e2 : putTo l a = l := by unfold putTo; rw [if_neg (by rw [e]; decide)]
    rw [e, e2]
    exact (put_kind a E hE hk).mono fun e w' ⟨h1, h2⟩ => ⟨h1, keep w' h2⟩
  · have hk' : (a.kind == 111) = true ∨ (a.kind == 99) = true := by
      simp at hk
      by_cases h1 : a.kind = 111
      · exact .inl (by simpa using h1)
      · exact .inr (by simpa using hk h1)
    cases hc : inR a.client 0 5
    · have e : putErr l a = 2 := by simp [putErr, hk, hc]
      have e2 : putTo l a = l := by unfold putTo; rw [if_neg (by rw [e]; decide)]
      rw [e, e2]
      exact (put_client a E hE hk' hc).mono fun e w' ⟨h1, h2⟩ => ⟨h1, keep w' h2⟩
    · obtain ⟨h0, h5⟩ := inR_iff.1 hc
      have hcn : a.client = ((a.client.toNat : Nat) : Int) := by omega
      by_cases hq : 6 ≤ (l a.client.toNat).length
      · have e : putErr l a = 8 := by simp [putErr, hk, hc, hq]
        have e2 : putTo l a = l := by unfold putTo; rw [if_neg (by rw [e]; decide)]
        rw [e, e2]
        exact (put_full h a E hE hk' a.client.toNat (by omega) hcn hq).mono fun e w' ⟨h1, h2⟩ => ⟨h1, keep w' h2⟩
      · have e : putErr l a = 0 := by simp [putErr, hk, hc, hq]
        have e2 : putTo l a = (fun d => if d = a.client.toNat then l a.client.toNat ++ [a] else l d) := by unfold putTo; rw [if_pos e]
        rw [e, e2, errV_zero]
        exact put_ok h a E hk' a.client.toNat (by omega) hcn (by omega)
end Go.Proofs.YthngmmhoakegeaaDoor
