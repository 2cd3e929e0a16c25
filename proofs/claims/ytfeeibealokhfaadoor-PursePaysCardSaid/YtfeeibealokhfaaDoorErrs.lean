/- What a row's list of package-level errors gives: each holds a pointer to an error string, no two the same. -/
import Derived.Test.YtfeeibealokhfaaDoorVals
import Derived.Test.YtfeeibealokhfaaDoorCards
import Derived.Test.YtfeeibealokhfaaDoorTie
import Derived.ProofKit
import Derived.OpenShut
import Derived.Stop.LaidErr
import Derived.LaidMore
import Derived.MakeChecks
import Derived.Deep.DeepHandedRow
import Derived.Deep.DeepWitnessRowRef
set_option linter.unusedSimpArgs false
set_option linter.unusedVariables false
namespace Go.Proofs.YtfeeibealokhfaaDoor
open Go.RowKit

theorem own : ownKnob Tryd.prog.godebug = none := by kernel_rfl
theorem rowErrStr : ∀ u, Tryd.prog.typeName? 3 u = some "*errors.errorString" → u = 199 :=
  typeName_ptr_named (nm := "errors.errorString") (by kernel_rfl) (by kernel_rfl) (by decide)
theorem cellsErrStr : Tryd.prog.cellsOf 219 = 1 := by kernel_rfl
theorem cellsStr : Tryd.prog.cellsOf 9 = 1 := by kernel_rfl

def nameOf (c : Nat) : String :=
  match c with
  | 1 => "gavelhouse/api.ErrText" | 2 => "gavelhouse/api.ErrBound" | 3 => "gavelhouse/api.ErrShape" | 4 => "gavelhouse/api.ErrKind" | 5 => "gavelhouse/api.ErrSum" | 6 => "gavelhouse/api.ErrNone"
  | 7 => "gavelhouse/api.ErrExist" | 8 => "gavelhouse/api.ErrFull" | 9 => "gavelhouse/api.ErrOff" | 10 => "gavelhouse/api.ErrPoor" | 11 => "gavelhouse/api.ErrState" | _ => "gavelhouse/api.ErrOrder"
def textOf (c : Nat) : List UInt8 := ([103, 97, 118, 101, 108, 104, 111, 117, 115, 101, 58, 32] : List UInt8) ++
  (match c with
  | 1 => [116, 101, 120, 116] | 2 => [98, 111, 117, 110, 100] | 3 => [115, 104, 97, 112, 101] | 4 => [107, 105, 110, 100] | 5 => [115, 117, 109] | 6 => [110, 111, 110, 101]
  | 7 => [101, 120, 105, 115, 116] | 8 => [102, 117, 108, 108] | 9 => [111, 102, 102] | 10 => [112, 111, 111, 114] | 11 => [115, 116, 97, 116, 101] | _ => [111, 114, 100, 101, 114])
def errEntry (c : Nat) : String × DataW Unit := (nameOf c, .iface "*errors.errorString" (.ptr (.agg [.lit (.string (textOf c))])))

/-- The errors lie apart, each a whole block that is not frozen. -/
def Apart (E : Nat → Addr) (l : List Nat) (w : World) : Prop :=
  (∀ c ∈ l, ∃ cs t, w.heap[(E c).block]? = some (.cells cs t (0, 0))) ∧ ∀ c ∈ l, ∀ c' ∈ l, c ≠ c' → E c ≠ E c'

set_option maxRecDepth 100000 in
theorem errs_of_vars {W : World} : ∀ (L : List Nat) (ps : List MemPlace), (L.all fun c => Tryd.prog.globalNamed (nameOf c) == some (gOf c) && ((Tryd.prog.globals[gOf c]?).map (·.type) == some 32)) = true →
    DataW.LaidVars Tryd.prog W (L.map errEntry) ps → ps.Nodup → (∀ b off, MemPlace.cell b off ∈ ps → (∃ c t, W.heap[b]? = some (.cells c t (0, 0))) ∧ ∀ u v, W.cell? ⟨b, off, none⟩ = some (.iface u v) → Value.okWide Tryd.prog W .any 0 u v) → L.Nodup →
    ∃ E : Nat → Addr, Errs E L W ∧ Apart E L W ∧ ∀ c ∈ L, MemPlace.cell (E c).block (E c).off ∈ ps
  | [], _, _, _, _, _, _ => ⟨fun _ => ⟨0, 0, none⟩, (by intro c h; cases h), ⟨(by intro c h; cases h), (by intro c h; cases h)⟩, (by intro c h; cases h)⟩
  | c :: L, ps, hc, hv, hnd, hrows, hL => by
    simp only [List.all_cons, Bool.and_eq_true, beq_iff_eq] at hc
    obtain ⟨⟨hg, ht⟩, hc'⟩ := hc
    obtain ⟨g0, t0, cs0, f0, p0, q0, hg0, ht0, hv0, hd0, hq, rfl⟩ := hv
    obtain rfl := Option.some.inj (hg.symm.trans hg0)
    obtain rfl := Option.some.inj (ht.symm.trans ht0)
    obtain ⟨l0⟩ := cs0
    have ok0 : ∀ u v, l0 = [.iface u v] → Value.okWide Tryd.prog W .any 0 u v := fun u v e => by
      subst e
      exact (hrows (gOf c) 0 (by simp [MemPlace.row])).2 u v (by simpa using World.var?_cell hg0 hv0 0)
    obtain ⟨a0, s0, rfl, hc0, hs0, hz0, rfl⟩ := errorString_of_trod Tryd.underlying32 rowErrStr Tryd.underlying199 Tryd.underlying219 rfl rfl Tryd.underlying9 cellsErrStr cellsStr hd0 ok0
    have hndq : q0.Nodup := List.Nodup.sublist (List.sublist_append_right _ _) hnd
    obtain ⟨E, h1, ⟨h2, h3⟩, h4⟩ := errs_of_vars L q0 (by simpa using hc') hq hndq (fun b off hm => hrows b off (by simp [hm])) (List.nodup_cons.1 hL).2
    have hnotin : c ∉ L := (List.nodup_cons.1 hL).1
    have hcell := World.var?_cell hg0 hv0 0
    simp at hcell
    have hplace : MemPlace.cell a0.block a0.off ∉ q0 := by
      intro hm
      rw [List.append_assoc] at hnd
      have := (List.nodup_append.1 (List.nodup_append.1 hnd).2.1).2.2
      exact this _ (by simp [MemPlace.row]) _ hm rfl
    have hE : ∀ x, x ∈ L → (if x = c then a0 else E x) = E x := fun x hx => if_neg (by rintro rfl; exact hnotin hx)
    refine ⟨fun x => if x = c then a0 else E x, ?_, ⟨?_, ?_⟩, ?_⟩
    · intro x hx
      rcases List.mem_cons.1 hx with rfl | hx
      · simpa using hcell
      · simp only [hE x hx]
        exact h1 x hx
    · intro x hx
      rcases List.mem_cons.1 hx with rfl | hx
      · simp only [if_true]
        exact (hrows a0.block a0.off (by simp [MemPlace.row])).1
      · simp only [hE x hx]
        exact h2 x hx
    · intro x hx y hy hne
      rcases List.mem_cons.1 hx with ex | hx'
      · rcases List.mem_cons.1 hy with ey | hy'
        · exact absurd (ex.trans ey.symm) hne
        · simp only [if_pos ex, hE y hy']
          intro e
          exact hplace (by rw [e]; exact h4 y hy')
      · rcases List.mem_cons.1 hy with ey | hy'
        · simp only [if_pos ey, hE x hx']
          intro e
          exact hplace (by rw [← e]; exact h4 x hx')
        · simp only [hE x hx', hE y hy']
          exact h3 x hx' y hy' hne
    · intro x hx
      rcases List.mem_cons.1 hx with rfl | hx
      · simp [MemPlace.row]
      · simp only [hE x hx]
        simp [h4 x hx]

/-- A row's list of errors, in its own order. -/
theorem errs_of_laid {W : World} (L : List Nat) (h : laidMet Tryd.prog (L.map errEntry) W) (hL : L.Nodup)
    (hc : (L.all fun c => Tryd.prog.globalNamed (nameOf c) == some (gOf c) && ((Tryd.prog.globals[gOf c]?).map (·.type) == some 32)) = true) :
    ∃ E : Nat → Addr, Errs E L W ∧ Apart E L W := by
  obtain ⟨ps, h1, h2, h3⟩ := h
  obtain ⟨E, a, b, _⟩ := errs_of_vars L ps hc h1 h2 h3 hL
  exact ⟨E, a, b⟩
end Go.Proofs.YtfeeibealokhfaaDoor
