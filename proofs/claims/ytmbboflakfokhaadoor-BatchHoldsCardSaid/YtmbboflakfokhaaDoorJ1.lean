import Derived.Test.YtmbboflakfokhaaDoorJ0
import Derived.Laws.AppendOwn
import Derived.Test.YtmbboflakfokhaaDoorCards
import Derived.Test.YtmbboflakfokhaaDoorTie
import Derived.ProofKit
import Derived.OpenShut
import Derived.Stop.LaidErr
import Derived.LaidMore
import Derived.MakeChecks
import Derived.Deep.DeepHandedRow
import Derived.Deep.DeepWitnessRowRef
import Derived.Deep.Slices
import Derived.Test.YtmbboflakfokhaaDoorChecked
import Derived.Deep.DeepCutAuto
/- An object that holds one slice of its own, at its first cell. No condition. -/
set_option linter.unusedSimpArgs false
set_option linter.unusedVariables false
namespace Go.Proofs.YtmbboflakfokhaaDoor
open Go.RowKit

/-- A block of N cells: at the first one a row of the object's own, behind it f. -/
def OneAt (own : Nat → Nat) (i : Nat) (w : World) (p N : Nat) (f : Nat → Value) (e : TypeId) (size : Nat) (v : Value) (n : Nat) (xs : List Value) : Prop :=
  (∃ t, w.rowIs p t N (fun j => if j = 0 then v else f j)) ∧ OwnRow own i w e size v n xs ∧ own p = i ∧ v.ownBlock ≠ some p
section
variable {own own' : Nat → Nat} {i m g : Nat} {w w' : World} {p N : Nat} {f : Nat → Value} {e : TypeId} {size : Nat} {v : Value} {n : Nat} {xs : List Value}
theorem OneAt.lt (h : OneAt own i w p N f e size v n xs) : p < w.heap.size := by obtain ⟨⟨t, h⟩, _⟩ := h; exact h.lt
theorem OneAt.free (h : OneAt own i w p N f e size v n xs) (j : Nat) : w.frozen? ⟨p, j, none⟩ = false := by obtain ⟨⟨t, h⟩, _⟩ := h; exact h.frozen j
theorem OneAt.cell0 (h : OneAt own i w p N f e size v n xs) (hN : 0 < N) : w.cell? ⟨p, 0, none⟩ = some v := by
  obtain ⟨⟨t, h⟩, _⟩ := h
  exact h.cell (i := 0) hN
theorem OneAt.cell (h : OneAt own i w p N f e size v n xs) {j : Nat} (hj : j < N) (h0 : j ≠ 0) : w.cell? ⟨p, j, none⟩ = some (f j) := by
  obtain ⟨⟨t, h⟩, _⟩ := h
  have := h.cell (i := j) hj
  simpa [h0] using this
theorem OneAt.kp (h : OneAt own i w p N f e size v n xs) (hk : Kp own m g w w') (hi : i / m ≠ g) (ho : ∀ n, n < w.heap.size → own n = i → own' n = i) : OneAt own' i w' p N f e size v n xs := by
  have hl := h.lt
  obtain ⟨⟨t, h1⟩, h2, h3, h4⟩ := h
  exact ⟨⟨t, h1.of_block (hk.block p hl (by rw [h3]; exact hi))⟩, h2.kp hk hi ho, ho p hl h3, h4⟩
theorem OneAt.relabel (h : OneAt own i w p N f e size v n xs) (ho : ∀ n, n < w.heap.size → own n = i → own' n = i) : OneAt own' i w p N f e size v n xs := h.kp (m := 1) (g := i + 1) (Kp.refl _ _ _ _) (by simp) ho
theorem OneAt.exts (h : OneAt own i w p N f e size v n xs) (bs : List Obj) (d : Nat) : OneAt own i (ext w bs d) p N f e size v n xs := h.kp (m := 1) (g := i + 1) (Kp.ext (Kp.refl _ _ _ _) bs d) (by simp) (fun _ _ h => h)
theorem OneAt.later (h : OneAt own i w p N f e size v n xs) (hx : Ex w w') : OneAt own i w' p N f e size v n xs := by obtain ⟨bs, d, rfl⟩ := hx; exact h.exts bs d
/-- A label function in which the row bears 2, the main block 3, all else 0. -/
theorem OneAt.pick (h : OneAt own i w p N f e size v n xs) :
    ∃ o : Nat → Nat, OwnRow o 2 w e size v n xs ∧ o p = 3 ∧ (∀ n, w.heap.size ≤ n → o n = 0) ∧ (∀ n, o n / 2 = 1 → own n = i) := by
  have hl := h.lt
  obtain ⟨_, h2, h3, h4⟩ := h
  refine ⟨fun n => if n = p then 3 else if v.ownBlock = some n then 2 else 0, ⟨h2.1, fun g hg => ?_⟩, if_pos rfl, fun n hn => ?_, fun n hn => ?_⟩
  · have : g ≠ p := by rintro rfl; exact h4 hg
    simp [this, hg]
  · have h5 : n ≠ p := by omega
    have h6 : v.ownBlock ≠ some n := fun e => by have := h2.1.lt n e; omega
    simp [h5, h6]
  · by_cases h5 : n = p
    · subst h5; exact h3
    · simp only [h5, if_false] at hn
      by_cases h6 : v.ownBlock = some n
      · exact h2.2 n h6
      · simp [h6] at hn
/-- The object in a world in which it alone has turned. -/
theorem OneAt.turned {o : Nat → Nat} {f' : Nat → Value} {v' : Value} {n' : Nat} {xs' : List Value} (h : OneAt own i w p N f e size v n xs) (h3 : o p = 3) (hi : ∀ n, o n / 2 = 1 → own n = i) (hK : Kp o 2 1 w w')
    (hrow : ∃ t, w'.rowIs p t N (fun j => if j = 0 then v' else f' j)) (hv : RowAt w' e size v' n' xs') (hb : ∀ g, v'.ownBlock = some g → o g = 2 ∨ w.heap.size ≤ g) :
    Kp own 1 i w w' ∧ OneAt (lab own w.heap.size (w'.heap.size - w.heap.size) i) i w' p N f' e size v' n' xs' := by
  have hl := h.lt
  refine ⟨⟨hK.os, hK.tape, hK.output, hK.size, fun n hn hne => hK.block n hn (fun e => hne (by rw [Nat.div_one]; exact hi n e))⟩, hrow, ⟨hv, fun g hg => ?_⟩, ?_, fun hg => ?_⟩
  · have h1 := hv.lt g hg
    unfold lab
    by_cases hlt : g < w.heap.size
    · rw [if_pos hlt]
      rcases hb g hg with h2 | h2
      · exact hi g (by rw [h2])
      · omega
    · rw [if_neg hlt, if_pos (by omega)]
  · rw [lab_lt hl]; exact h.2.2.1
  · rcases hb p hg with h2 | h2 <;> omega
theorem own_or {o : Nat → Nat} {W : World} {s k : Nat} (h : OwnRow (lab o s k 2) 2 W e size v n xs) (hs : w.heap.size ≤ s) : ∀ g, v.ownBlock = some g → o g = 2 ∨ w.heap.size ≤ g := fun g hg => by
  have h2 := h.2 g hg
  by_cases hlt : g < s
  · rw [lab_lt hlt] at h2; exact .inl h2
  · exact .inr (by omega)
/-- The object where append has made of its row, and its own cells have turned. -/
theorem OneAt.appEnd {o : Nat → Nat} {W1 u : World} {k : Nat} {f' : Nat → Value} {v' : Value} {n' : Nat} {xs' : List Value} (h : OneAt own i w p N f e size v n xs) (h3 : o p = 3) (hi : ∀ n, o n / 2 = 1 → own n = i) (hs : w.heap.size ≤ W1.heap.size) (hK : Kp o 2 1 w w')
    (hp : ∀ g, g ≠ p → w'.heap[g]? = (ov W1 o 1 2 k u).heap[g]?) (hrow : ∃ t, w'.rowIs p t N (fun j => if j = 0 then v' else f' j)) (hv : OwnRow (lab o W1.heap.size k 2) 2 (ov W1 o 1 2 k u) e size v' n' xs') :
    Kp own 1 i w w' ∧ OneAt (lab own w.heap.size (w'.heap.size - w.heap.size) i) i w' p N f' e size v' n' xs' := by
  have hb := own_or hv hs
  refine h.turned h3 hi hK hrow (hv.1.of_block fun g hg => hp g (fun e => ?_)) hb
  have hl := h.lt
  rcases hb g hg with h2 | h2
  · rw [e, h3] at h2; omega
  · omega
/-- What the world is where append has made of a row: the row's block, and new ones, have turned. -/
theorem grown_kp {o : Nat → Nat} {W : World} (k : Nat) (u : World) (hx : Kp o 2 1 w W) : Kp o 2 1 w (ov W o 1 2 k u) := hx.ov _ _ _ _ _ (fun n _ hn => by rw [Nat.div_one] at hn; rw [hn])
theorem OneAt.main (h : OneAt own i w p N f e size v n xs) : ∃ t, w.rowIs p t N (fun j => if j = 0 then v else f j) := h.1
end
end Go.Proofs.YtmbboflakfokhaaDoor

/- Rows of a call's own: plain facts. No condition. -/
set_option linter.unusedSimpArgs false
set_option linter.unusedVariables false
namespace Go.Proofs.YtmbboflakfokhaaDoor
open Go.RowKit

def sliceLen : Value → Nat
  | .slice _ n _ => n
  | _ => 0
theorem owns_len {w : World} {base : Nat} {e : TypeId} {size : Nat} {v : Value} {n : Nat} {xs : List Value} (h : w.ownsRow base e size v n xs) : sliceLen v = n := by
  obtain ⟨_, ⟨rfl, rfl⟩ | ⟨g, cap, cur, rfl, _⟩⟩ := h <;> rfl
theorem owns_bound {w : World} {base : Nat} {e : TypeId} {size : Nat} {v : Value} {n : Nat} {xs : List Value} (h : w.ownsRow base e size v n xs) {b : Nat} (hb : b < base) : v.ownBlock = none ∨ v.ownBlock ≠ some b := by
  obtain ⟨_, ⟨rfl, rfl⟩ | ⟨g, cap, cur, rfl, hg, _⟩⟩ := h
  · exact .inl rfl
  · exact .inr (by simp [Value.ownBlock]; omega)
theorem belowGrownBy {w w' : World} (h : Below w.heap.size w w') : w.grownBy w' none := by
  obtain ⟨a, b, c, d, e⟩ := h
  exact ⟨a, b, c, d, fun k hk _ => e k hk⟩
theorem alloc_top {w : World} {o : Obj} {n : Nat} (h : n = w.heap.size) : (w.alloc o).heap[n]? = some o := by
  subst h; show (w.heap.push o)[w.heap.size]? = _; simp
theorem grown_cell (w : World) (b j : Nat) (v : Value) : w.grownBy (w.setCell ⟨b, j, none⟩ v) (some b) := ⟨rfl, rfl, rfl, by simp [World.setCell], fun k _ hk => Below.heap_setCell w ⟨b, j, none⟩ v k (fun e => hk (by simp [e]))⟩
theorem ownsRow_block {w w' : World} {base : Nat} {e : TypeId} {size : Nat} {v : Value} {n : Nat} {xs : List Value} (h : w.ownsRow base e size v n xs) (hb : ∀ g, v.ownBlock = some g → w'.heap[g]? = w.heap[g]?) : w'.ownsRow base e size v n xs := by
  obtain ⟨h1, h2 | ⟨g, cap, cur, rfl, hg, hh, hr⟩⟩ := h
  · exact ⟨h1, .inl h2⟩
  · exact ⟨h1, .inr ⟨g, cap, cur, rfl, hg, (hb g rfl).trans hh, hr⟩⟩
end Go.Proofs.YtmbboflakfokhaaDoor

/- Plain data: a request, an order, as the walk's values; the package-level errors by their numbers. -/
set_option linter.unusedSimpArgs false
set_option linter.unusedVariables false
namespace Go.Proofs.YtmbboflakfokhaaDoor
open Go.RowKit

structure Ask where
  kind : Int
  client : Int
  seq : Int
  item : Int
  side : Int
  price : Int
  qty : Int
  id : Int
  deriving DecidableEq
def Ask.cells (a : Ask) : List Value := [.int .u8 a.kind, .int .i64 a.client, .int .i64 a.seq, .int .i64 a.item, .int .i64 a.side, .int .i64 a.price, .int .i64 a.qty, .int .i64 a.id]
abbrev Ask.val (a : Ask) : Value := .agg #[.int .u8 a.kind, .int .i64 a.client, .int .i64 a.seq, .int .i64 a.item, .int .i64 a.side, .int .i64 a.price, .int .i64 a.qty, .int .i64 a.id]

/-- The value of an error by its number (0: none). -/
def errV (E : Nat → Addr) (c : Nat) : Value := if c = 0 then .nilIface else .iface 160 (.pointer (some (E c)))
theorem errV_zero (E : Nat → Addr) : errV E 0 = .nilIface := rfl
theorem errV_pos (E : Nat → Addr) (c : Nat) (h : c ≠ 0) : errV E c = .iface 160 (.pointer (some (E c))) := if_neg h

theorem lt_of_cell {w : World} {n i : Nat} {v : Value} (h : w.cell? ⟨n, i, none⟩ = some v) : n < w.heap.size := World.block_lt_of_cell? _ _ h
/-- The package-level variable that holds the error of a number. -/
def gOf (c : Nat) : Nat :=
  match c with
  | 2 => 0
  | 3 => 6
  | 4 => 3
  | 6 => 1
  | 7 => 4
  | 8 => 2
  | 10 => 5
  | 12 => 7
  | _ => 0
/-- The errors of these numbers lie where E says. -/
def Errs (E : Nat → Addr) (l : List Nat) (w : World) : Prop := ∀ c ∈ l, w.cell? ⟨gOf c, 0, none⟩ = some (.iface 160 (.pointer (some (E c))))
theorem Errs.ex {E : Nat → Addr} {l : List Nat} {w w' : World} (h : Errs E l w) (hx : Ex w w') : Errs E l w' := fun c hc => (hx.below.cell (p := ⟨gOf c, 0, none⟩) (lt_of_cell (h c hc))).trans (h c hc)
theorem Errs.sub {E : Nat → Addr} {l l' : List Nat} {w : World} (h : Errs E l w) (hs : ∀ c ∈ l', c ∈ l) : Errs E l' w := fun c hc => h c (hs c hc)

/-- An integer lies within two bounds. -/
def inR (n lo hi : Int) : Bool := decide (lo ≤ n) && decide (n ≤ hi)
theorem inR_iff {n lo hi : Int} : inR n lo hi = true ↔ lo ≤ n ∧ n ≤ hi := by simp [inR]
theorem inR_not {n lo hi : Int} : inR n lo hi = false ↔ n < lo ∨ hi < n := by
  cases h : inR n lo hi
  · simp only [true_iff]; have : ¬ (lo ≤ n ∧ n ≤ hi) := fun h' => by rw [inR_iff.2 h'] at h; cases h
    omega
  · simp only [false_iff, Bool.true_eq_false]; have := inR_iff.1 h; omega

def Ask.common (a : Ask) : Bool := inR a.client 0 5 && inR a.seq 0 1073741824 && inR a.id 0 1073741824
def Ask.place (a : Ask) : Bool := inR a.item 0 2 && inR a.side 0 1 && inR a.price 1 1000 && inR a.qty 1 1000
def Ask.rest5 (a : Ask) : Bool := a.item != 0 || a.side != 0 || a.price != 0 || a.qty != 0 || a.id != 0
def Ask.rest3 (a : Ask) : Bool := a.side != 0 || a.price != 0 || a.qty != 0
/-- What is wrong with a request: an error's number. -/
def Ask.err (a : Ask) : Nat :=
  if a.kind == 108 || a.kind == 104 || a.kind == 113 then (if a.common && a.rest5 then 3 else if a.common then 0 else 2)
  else if a.kind == 111 then (if a.common && a.place then 0 else 2)
  else if a.kind == 99 then (if (a.common && inR a.item 0 2) && a.rest3 then 3 else if a.common && inR a.item 0 2 then 0 else 2)
  else 4

structure Sess where
  on : Bool
  next : Int
  last : Int
  deriving DecidableEq
abbrev Sess.val (s : Sess) : Value := .agg #[.bool s.on, .int .i64 s.next, .int .i64 s.last]
/-- What a session makes of a request: the session, an error's number. -/
def Sess.take (s : Sess) (a : Ask) (now : Int) : Sess × Nat :=
  if a.err = 0 then
    (if a.kind == 108 then (if s.on then (s, 11) else if a.seq != 1 then (s, 12) else (⟨true, 2, now⟩, 0))
     else if !s.on then (s, 11) else if a.seq != s.next then (s, 12) else if a.kind == 113 then (⟨false, 0, 0⟩, 0) else (⟨true, s.next + 1, now⟩, 0))
  else (s, a.err)
theorem Ask.seq_of_err {a : Ask} (h : a.err = 0) : 0 ≤ a.seq ∧ a.seq ≤ 1073741824 := by
  have hc : a.common = true := by
    unfold Ask.err at h
    cases hc : a.common
    · rw [hc] at h
      (repeat' split at h) <;> simp_all
    · rfl
  simp only [Ask.common, Bool.and_eq_true] at hc
  exact inR_iff.1 hc.1.2
theorem Ask.bounds {a : Ask} (h : a.err = 0) : (0 ≤ a.client ∧ a.client ≤ 5) ∧ (0 ≤ a.seq ∧ a.seq ≤ 1073741824) ∧ (0 ≤ a.id ∧ a.id ≤ 1073741824) ∧ (0 ≤ a.item ∧ a.item ≤ 2) ∧ (0 ≤ a.side ∧ a.side ≤ 1) ∧ (0 ≤ a.price ∧ a.price ≤ 1000) ∧ (0 ≤ a.qty ∧ a.qty ≤ 1000) ∧
    (a.kind = 108 ∨ a.kind = 104 ∨ a.kind = 113 ∨ a.kind = 111 ∨ a.kind = 99) := by
  unfold Ask.err at h
  have key : a.common = true → (0 ≤ a.item ∧ a.item ≤ 2) → (0 ≤ a.side ∧ a.side ≤ 1) → (0 ≤ a.price ∧ a.price ≤ 1000) → (0 ≤ a.qty ∧ a.qty ≤ 1000) → (a.kind = 108 ∨ a.kind = 104 ∨ a.kind = 113 ∨ a.kind = 111 ∨ a.kind = 99) →
      (0 ≤ a.client ∧ a.client ≤ 5) ∧ (0 ≤ a.seq ∧ a.seq ≤ 1073741824) ∧ (0 ≤ a.id ∧ a.id ≤ 1073741824) ∧ (0 ≤ a.item ∧ a.item ≤ 2) ∧ (0 ≤ a.side ∧ a.side ≤ 1) ∧ (0 ≤ a.price ∧ a.price ≤ 1000) ∧ (0 ≤ a.qty ∧ a.qty ≤ 1000) ∧
      (a.kind = 108 ∨ a.kind = 104 ∨ a.kind = 113 ∨ a.kind = 111 ∨ a.kind = 99) := by
    intro hc h1 h2 h3 h4 h5
    simp only [Ask.common, Bool.and_eq_true] at hc
    exact ⟨inR_iff.1 hc.1.1, inR_iff.1 hc.1.2, inR_iff.1 hc.2, h1, h2, h3, h4, h5⟩
  split at h
  · rename_i hk
    simp only [Bool.or_eq_true, beq_iff_eq] at hk
    cases hc : a.common <;> cases h5 : a.rest5 <;> simp [hc, h5] at h
    simp only [Ask.rest5, Bool.or_eq_false_iff, bne_eq_false_iff_eq] at h5
    obtain ⟨⟨⟨⟨e1, e2⟩, e3⟩, e4⟩, e5⟩ := h5
    exact key hc (by omega) (by omega) (by omega) (by omega) (by omega)
  · split at h
    · rename_i _ hk
      simp only [beq_iff_eq] at hk
      cases hc : a.common <;> cases hp : a.place <;> simp [hc, hp] at h
      simp only [Ask.place, Bool.and_eq_true] at hp
      have p1 := inR_iff.1 hp.1.1.1
      have p2 := inR_iff.1 hp.1.1.2
      have p3 := inR_iff.1 hp.1.2
      have p4 := inR_iff.1 hp.2
      exact key hc (by omega) (by omega) (by omega) (by omega) (by omega)
    · split at h
      · rename_i _ _ hk
        simp only [beq_iff_eq] at hk
        cases hc : a.common <;> cases hi : inR a.item 0 2 <;> cases h3 : a.rest3 <;> simp [hc, hi, h3] at h
        simp only [Ask.rest3, Bool.or_eq_false_iff, bne_eq_false_iff_eq] at h3
        have p1 := inR_iff.1 hi
        exact key hc (by omega) (by omega) (by omega) (by omega) (by omega)
      · cases h
def Sess.late (s : Sess) (now : Int) : Bool := s.on && decide (s.last + 5 < now)
end Go.Proofs.YtmbboflakfokhaaDoor

/- What a row's list of package-level errors gives: each holds a pointer to an error string, no two the same. -/
set_option linter.unusedSimpArgs false
set_option linter.unusedVariables false
namespace Go.Proofs.YtmbboflakfokhaaDoor
open Go.RowKit

theorem own : ownKnob Tryd.prog.godebug = none := by kernel_rfl
theorem rowErrStr : ∀ u, Tryd.prog.typeName? 3 u = some "*errors.errorString" → u = 160 :=
  typeName_ptr_named (nm := "errors.errorString") (by kernel_rfl) (by kernel_rfl) (by decide)
theorem cellsErrStr : Tryd.prog.cellsOf 178 = 1 := by kernel_rfl
theorem cellsStr : Tryd.prog.cellsOf 9 = 1 := by kernel_rfl

def nameOf (c : Nat) : String :=
  match c with
  | 1 => "gavelhouse/api.ErrText" | 2 => "gavelhouse/api.ErrBound" | 3 => "gavelhouse/api.ErrShape" | 4 => "gavelhouse/api.ErrKind" | 5 => "gavelhouse/api.ErrSum" | 6 => "gavelhouse/api.ErrNone"
  | 7 => "gavelhouse/api.ErrExist" | 8 => "gavelhouse/api.ErrFull" | 9 => "gavelhouse/api.ErrOff" | 10 => "gavelhouse/api.ErrPoor" | 11 => "gavelhouse/api.ErrState" | _ => "gavelhouse/api.ErrOrder"
def textOf (c : Nat) : List UInt8 := ([103, 97, 118, 101, 108, 104, 111, 117, 115, 101, 58, 32] : List UInt8) ++
  (match c with
  | 1 => [116, 101, 120, 116] | 2 => [98, 111, 117, 110, 100] | 3 => [115, 104, 97, 112, 101] | 4 => [107, 105, 110, 100] | 5 => [115, 117, 109] | 6 => [110, 111, 110, 101]
  | 7 => [101, 120, 105, 115, 116] | 8 => [102, 117, 108, 108] | 9 => [111, 102, 102] | 10 => [112, 111, 111, 114] | 11 => [115, 116, 97, 116, 101] | _ => [111, 114, 100, 101, 114])
def errEntry (c : Nat) : String × DataW Unit := (nameOf c, .iface "*errors.errorString" (.ptr (.agg [.lit (.string (textOf c))])))

/-- The errors lie apart, each a whole block that is not frozen. -/
def Apart (E : Nat → Addr) (l : List Nat) (w : World) : Prop :=
  (∀ c ∈ l, ∃ cs t, w.heap[(E c).block]? = some (.cells cs t (0, 0))) ∧ ∀ c ∈ l, ∀ c' ∈ l, c ≠ c' → E c ≠ E c'

set_option maxRecDepth 100000 in
theorem errs_of_vars {W : World} : ∀ (L : List Nat) (ps : List MemPlace), (L.all fun c => Tryd.prog.globalNamed (nameOf c) == some (gOf c) && ((Tryd.prog.globals[gOf c]?).map (·.type) == some 27)) = true →
    DataW.LaidVars Tryd.prog W (L.map errEntry) ps → ps.Nodup → (∀ b off, MemPlace.cell b off ∈ ps → (∃ c t, W.heap[b]? = some (.cells c t (0, 0))) ∧ ∀ u v, W.cell? ⟨b, off, none⟩ = some (.iface u v) → Value.okWide Tryd.prog W .any 0 u v) → L.Nodup →
    ∃ E : Nat → Addr, Errs E L W ∧ Apart E L W ∧ ∀ c ∈ L, MemPlace.cell (E c).block (E c).off ∈ ps
  | [], _, _, _, _, _, _ => ⟨fun _ => ⟨0, 0, none⟩, (by intro c h; cases h), ⟨(by intro c h; cases h), (by intro c h; cases h)⟩, (by intro c h; cases h)⟩
  | c :: L, ps, hc, hv, hnd, hrows, hL => by
    simp only [List.all_cons, Bool.and_eq_true, beq_iff_eq] at hc
    obtain ⟨⟨hg, ht⟩, hc'⟩ := hc
    obtain ⟨g0, t0, cs0, f0, p0, q0, hg0, ht0, hv0, hd0, hq, rfl⟩ := hv
    obtain rfl := Option.some.inj (hg.symm.trans hg0)
    obtain rfl := Option.some.inj (ht.symm.trans ht0)
    obtain ⟨l0⟩ := cs0
    have ok0 : ∀ u v, l0 = [.iface u v] → Value.okWide Tryd.prog W .any 0 u v := fun u v e => by
      subst e
      exact (hrows (gOf c) 0 (by simp [MemPlace.row])).2 u v (by simpa using World.var?_cell hg0 hv0 0)
    obtain ⟨a0, s0, rfl, hc0, hs0, hz0, rfl⟩ := errorString_of_trod Tryd.underlying27 rowErrStr Tryd.underlying160 Tryd.underlying178 rfl rfl Tryd.underlying9 cellsErrStr cellsStr hd0 ok0
    have hndq : q0.Nodup := List.Nodup.sublist (List.sublist_append_right _ _) hnd
    obtain ⟨E, h1, ⟨h2, h3⟩, h4⟩ := errs_of_vars L q0 (by simpa using hc') hq hndq (fun b off hm => hrows b off (by simp [hm])) (List.nodup_cons.1 hL).2
    have hnotin : c ∉ L := (List.nodup_cons.1 hL).1
    have hcell := World.var?_cell hg0 hv0 0
    simp at hcell
    have hplace : MemPlace.cell a0.block a0.off ∉ q0 := by
      intro hm
      rw [List.append_assoc] at hnd
      have := (List.nodup_append.1 (List.nodup_append.1 hnd).2.1).2.2
      exact this _ (by simp [MemPlace.row]) _ hm rfl
    have hE : ∀ x, x ∈ L → (if x = c then a0 else E x) = E x := fun x hx => if_neg (by rintro rfl; exact hnotin hx)
    refine ⟨fun x => if x = c then a0 else E x, ?_, ⟨?_, ?_⟩, ?_⟩
    · intro x hx
      rcases List.mem_cons.1 hx with rfl | hx
      · simpa using hcell
      · simp only [hE x hx]
        exact h1 x hx
    · intro x hx
      rcases List.mem_cons.1 hx with rfl | hx
      · simp only [if_true]
        exact (hrows a0.block a0.off (by simp [MemPlace.row])).1
      · simp only [hE x hx]
        exact h2 x hx
    · intro x hx y hy hne
      rcases List.mem_cons.1 hx with ex | hx'
      · rcases List.mem_cons.1 hy with ey | hy'
        · exact absurd (ex.trans ey.symm) hne
        · simp only [if_pos ex, hE y hy']
          intro e
          exact hplace (by rw [e]; exact h4 y hy')
      · rcases List.mem_cons.1 hy with ey | hy'
        · simp only [if_pos ey, hE x hx']
          intro e
          exact hplace (by rw [← e]; exact h4 x hx')
        · simp only [hE x hx', hE y hy']
          exact h3 x hx' y hy' hne
    · intro x hx
      rcases List.mem_cons.1 hx with rfl | hx
      · simp [MemPlace.row]
      · simp only [hE x hx]
        simp [h4 x hx]

/-- A row's list of errors, in its own order. -/
theorem errs_of_laid {W : World} (L : List Nat) (h : laidMet Tryd.prog (L.map errEntry) W) (hL : L.Nodup)
    (hc : (L.all fun c => Tryd.prog.globalNamed (nameOf c) == some (gOf c) && ((Tryd.prog.globals[gOf c]?).map (·.type) == some 27)) = true) :
    ∃ E : Nat → Addr, Errs E L W ∧ Apart E L W := by
  obtain ⟨ps, h1, h2, h3⟩ := h
  obtain ⟨E, a, b, _⟩ := errs_of_vars L ps hc h1 h2 h3 hL
  exact ⟨E, a, b⟩
end Go.Proofs.YtmbboflakfokhaaDoor

/- The world in which the package-level errors lie as the program's text lays them: the witness of every row; and the closed facts that every claim shares. -/
set_option linter.unusedSimpArgs false
set_option linter.unusedVariables false
namespace Go.Proofs.YtmbboflakfokhaaDoor
open Go.RowKit

def putG (h : Array Obj) (g : Nat) (v : Value) : Array Obj := h.modify g fun
  | .cells _ t fr => .cells #[v] t fr
  | o => o
noncomputable def heap0 (os : Os) : Array Obj := (World.holding Tryd.prog os ⟨#[], #[], []⟩).heap
noncomputable def doorErr (os : Os) (i : Nat) : Value := .iface 160 (.pointer (some ⟨(heap0 os).size + i, 0, none⟩))
def errB (text : List UInt8) : Obj := .cells #[.string ⟨text.toArray⟩] 178
noncomputable def laidW (os : Os) : World :=
  let h := heap0 os
  let h := putG h 0 (doorErr os 1)
  let h := putG h 6 (doorErr os 2)
  let h := putG h 3 (doorErr os 3)
  let h := putG h 1 (doorErr os 5)
  let h := putG h 4 (doorErr os 6)
  let h := putG h 2 (doorErr os 7)
  let h := putG h 5 (doorErr os 9)
  let h := putG h 7 (doorErr os 11)
  { World.holding Tryd.prog os ⟨#[], #[], []⟩ with heap := h ++ #[errB [103, 97, 118, 101, 108, 104, 111, 117, 115, 101, 58, 32, 116, 101, 120, 116],
      errB [103, 97, 118, 101, 108, 104, 111, 117, 115, 101, 58, 32, 98, 111, 117, 110, 100],
      errB [103, 97, 118, 101, 108, 104, 111, 117, 115, 101, 58, 32, 115, 104, 97, 112, 101],
      errB [103, 97, 118, 101, 108, 104, 111, 117, 115, 101, 58, 32, 107, 105, 110, 100],
      errB [103, 97, 118, 101, 108, 104, 111, 117, 115, 101, 58, 32, 115, 117, 109],
      errB [103, 97, 118, 101, 108, 104, 111, 117, 115, 101, 58, 32, 110, 111, 110, 101],
      errB [103, 97, 118, 101, 108, 104, 111, 117, 115, 101, 58, 32, 101, 120, 105, 115, 116],
      errB [103, 97, 118, 101, 108, 104, 111, 117, 115, 101, 58, 32, 102, 117, 108, 108],
      errB [103, 97, 118, 101, 108, 104, 111, 117, 115, 101, 58, 32, 111, 102, 102],
      errB [103, 97, 118, 101, 108, 104, 111, 117, 115, 101, 58, 32, 112, 111, 111, 114],
      errB [103, 97, 118, 101, 108, 104, 111, 117, 115, 101, 58, 32, 115, 116, 97, 116, 101],
      errB [103, 97, 118, 101, 108, 104, 111, 117, 115, 101, 58, 32, 111, 114, 100, 101, 114]] }

theorem looks0 : false = Tryd.prog.looks [] := by kernel_rfl
theorem mainIs0 : Tryd.prog.mainIs = some (((true, "519ae52acb9ed4b774df9016f55a62ac44400c5b5839651330901e0b210822ce") : Bool × String).1, ((true, "519ae52acb9ed4b774df9016f55a62ac44400c5b5839651330901e0b210822ce") : Bool × String).2.toList) := by kernel_rfl
end Go.Proofs.YtmbboflakfokhaaDoor

/- What every law's claim shares: behind a call that only makes new blocks the arguments read as before. -/
set_option linter.unusedSimpArgs false
set_option linter.unusedVariables false
namespace Go.Proofs.YtmbboflakfokhaaDoor
open Go.ChangeShapes Go.WideShapes Go.ChangeAt Go.RowKit

theorem lawLaid : laidOutB Tryd.prog = true := by kernel_rfl

section
variable {H : Type} {enc : TypeId × Value → H} {P : Program} {W W' : World}

theorem trodAll_length {base : Nat} {sp : Nat → Bool} {held : Bool} : ∀ {ts : List TypeId} {vs : List Value} {ds : List (DataW H)} {ps : List MemPlace}, DataW.TrodAll enc P W base sp held ts vs ds ps → ds.length = ts.length ∧ vs.length = ts.length
  | [], _, _, _, h => by obtain ⟨rfl, rfl, _⟩ := trodAll_nil h; exact ⟨rfl, rfl⟩
  | t :: ts, _, _, _, h => by
    obtain ⟨v, vs, d, ds, p, q, rfl, rfl, rfl, _, h2⟩ := trodAll_cons h
    have := trodAll_length h2
    simp [this.1, this.2]

theorem trodAll_below (hl : laidOutB P = true) (hb : Below W.heap.size W W') : ∀ {ts : List TypeId} {vs : List Value} {ds : List (DataW H)} {ps : List MemPlace},
    (ts.all fun t => P.readableRec t && decide (t < P.types.size)) = true → DataW.TrodAll enc P W 0 (fun _ => true) true ts vs ds ps → (∀ x ∈ ps, x.block < W.heap.size) →
    ∀ (sp : Nat → Bool), (∀ x ∈ ps, sp x.block = true) → DataW.TrodAll enc P W' 0 sp true ts vs ds ps
  | [], vs, ds, ps, _, h, _, sp, _ => by obtain ⟨rfl, rfl, rfl⟩ := trodAll_nil h; exact trodAll_mk0
  | t :: ts, _, _, _, hr, h, hlt, sp, hsp => by
    obtain ⟨v, vs, d, ds, p, q, rfl, rfl, rfl, h1, h2⟩ := trodAll_cons h
    simp only [List.all_cons, Bool.and_eq_true, decide_eq_true_eq] at hr
    refine trodAll_cons_mk (WideElems.Trod_stays hl hr.1.1 hr.1.2 h1 (fun x hx => hb.same (hlt x (by simp [hx]))) (fun x hx => hsp x (by simp [hx]))) ?_
    exact trodAll_below hl hb hr.2 h2 (fun x hx => hlt x (by simp [hx])) sp (fun x hx => hsp x (by simp [hx]))

theorem law_post {f : Func} {s : ChangeSpec} {args : Array Value} {ds : List (DataW H)} {p : List MemPlace} {rs : List TypeId} {tb : TypeId}
    (hW : DataW.Whole enc P f.params.toList s.vars false W args.toList ds [] (p ++ [])) (hA : DataW.TrodAll enc P W 0 (fun _ => true) true f.params.toList args.toList ds p) (hv : s.vars = [])
    (hb : Below W.heap.size W W') (hl : laidOutB P = true) (hr : (f.params.toList.all fun t => P.readableRec t && decide (t < P.types.size)) = true)
    (hfn : s.fn H ds = { results := [.lit (.bool true)], args := ds }) (hres : f.resultTypes.toList = rs) (hrs : rs = [tb]) (ht : P.underlying tb = some .bool) :
    s.post enc P f false true false false W args (.bool true) W' := by
  have hlt : ∀ x ∈ p, x.block < W.heap.size := fun x hx => hW.lt x (by simp [hx])
  have hfn' : s.fn H (ds ++ []) = { results := [.lit (.bool true)], args := ds } := by rw [List.append_nil]; exact hfn
  have hsz : f.resultTypes.size = 1 := by
    have : f.resultTypes.toList.length = 1 := by rw [hres, hrs]; rfl
    simpa using this
  refine ⟨ds, [], p ++ [], [], p, [], hW, ?_, ?_, ?_, hb.frame _, fun h => by cases h⟩
  · rw [hfn', hres, hrs, hsz]
    exact trodAll_mk1 (shut_bool ht true)
  · rw [hfn']
    exact trodAll_below hl hb hr hA hlt _ (fun x hx => by simpa using hlt x hx)
  · rw [hfn', hv]
    exact rfl
end
end Go.Proofs.YtmbboflakfokhaaDoor

/- Plain data: a lot; how slices of lots read. -/
set_option linter.unusedSimpArgs false
set_option linter.unusedVariables false
namespace Go.Proofs.YtmbboflakfokhaaDoor
open Go.ChangeShapes Go.WideShapes Go.ChangeAt Go.RowKit Go.Deep

structure Lot where
  id : Int
  owner : Int
  side : Int
  price : Int
  qty : Int
  deriving DecidableEq
def Lot.cells (a : Lot) : List Value := [.int .i64 a.id, .int .i64 a.owner, .int .i64 a.side, .int .i64 a.price, .int .i64 a.qty]
abbrev Lot.val (a : Lot) : Value := .agg #[.int .i64 a.id, .int .i64 a.owner, .int .i64 a.side, .int .i64 a.price, .int .i64 a.qty]

def Lot.wf (a : Lot) : Prop := (Lit.int .i64 a.id).wf = true ∧ (Lit.int .i64 a.owner).wf = true ∧ (Lit.int .i64 a.side).wf = true ∧ (Lit.int .i64 a.price).wf = true ∧ (Lit.int .i64 a.qty).wf = true
set_option maxRecDepth 100000 in
theorem lot_of_trod {H : Type} {enc : TypeId × Value → H} {w : World} {base : Nat} {spare : Nat → Bool} {held : Bool} {n : Nat} {cs : List Value} {y : DataW H × List MemPlace} (h : DataW.trod enc Tryd.prog w base spare held n 56 cs = some y) : ∃ a : Lot, a.wf ∧ cs = a.cells := by
  obtain ⟨ys, n', hn', hy, hlen, hyl, hf⟩ := DataW.trod_struct Tryd.underlying56 h
  have hcN : Tryd.prog.cellsOf 56 = 5 := by kernel_rfl
  rw [hcN] at hlen
  match cs, hlen with
  | [c0, c1, c2, c3, c4], _ =>
    match ys, hyl with
    | [y0, y1, y2, y3, y4], _ =>
      have g0 : DataW.trod enc Tryd.prog w base spare held n' 3 (([c0, c1, c2, c3, c4].drop 0).take (Tryd.prog.cellsOf 3)) = some y0 := hf 0 _ rfl
      rw [show Tryd.prog.cellsOf 3 = 1 by kernel_rfl] at g0
      have g1 : DataW.trod enc Tryd.prog w base spare held n' 3 (([c0, c1, c2, c3, c4].drop 1).take (Tryd.prog.cellsOf 3)) = some y1 := hf 1 _ rfl
      rw [show Tryd.prog.cellsOf 3 = 1 by kernel_rfl] at g1
      have g2 : DataW.trod enc Tryd.prog w base spare held n' 3 (([c0, c1, c2, c3, c4].drop 2).take (Tryd.prog.cellsOf 3)) = some y2 := hf 2 _ rfl
      rw [show Tryd.prog.cellsOf 3 = 1 by kernel_rfl] at g2
      have g3 : DataW.trod enc Tryd.prog w base spare held n' 3 (([c0, c1, c2, c3, c4].drop 3).take (Tryd.prog.cellsOf 3)) = some y3 := hf 3 _ rfl
      rw [show Tryd.prog.cellsOf 3 = 1 by kernel_rfl] at g3
      have g4 : DataW.trod enc Tryd.prog w base spare held n' 3 (([c0, c1, c2, c3, c4].drop 4).take (Tryd.prog.cellsOf 3)) = some y4 := hf 4 _ rfl
      rw [show Tryd.prog.cellsOf 3 = 1 by kernel_rfl] at g4
      obtain ⟨x0, e0, _, w0⟩ := DataW.trod_int Tryd.underlying3 g0
      simp at e0
      subst e0
      obtain ⟨x1, e1, _, w1⟩ := DataW.trod_int Tryd.underlying3 g1
      simp at e1
      subst e1
      obtain ⟨x2, e2, _, w2⟩ := DataW.trod_int Tryd.underlying3 g2
      simp at e2
      subst e2
      obtain ⟨x3, e3, _, w3⟩ := DataW.trod_int Tryd.underlying3 g3
      simp at e3
      subst e3
      obtain ⟨x4, e4, _, w4⟩ := DataW.trod_int Tryd.underlying3 g4
      simp at e4
      subst e4
      exact ⟨⟨x0, x1, x2, x3, x4⟩, ⟨w0, w1, w2, w3, w4⟩, rfl⟩
/-- A slice of Lots that can be read. -/
def LotsAt (w : World) (ao : Option Addr) (len : Nat) (l : List Lot) : Prop :=
  l.length = len ∧ len ≤ 9223372036854775807 ∧ (∀ a ∈ l, a.wf) ∧
    (0 < len → ∃ b off, ao = some ⟨b, off, none⟩ ∧ b < w.heap.size ∧ ∀ k (h : k < l.length) j, j < 5 → w.cell? ⟨b, off + k * 5 + j, none⟩ = l[k].cells[j]?)
set_option maxRecDepth 100000 in
theorem lots_open {H : Type} {enc : TypeId × Value → H} {w : World} {b0 : Nat} {v : Value} {d : DataW H} {p : List MemPlace} (hok : Value.okWide Tryd.prog w .any b0 37 v)
    (h : DataW.Trod enc Tryd.prog w 0 (fun _ => true) true 37 v d p) : ∃ ao len cap l, v = .slice ao len cap ∧ (len ≤ cap ∧ cap ≤ 9223372036854775807 ∧ (ao = none → cap = 0)) ∧ LotsAt w ao len l := by
  obtain ⟨a0, len, cap, rfl⟩ := okWide_slice Tryd.underlying37 hok
  obtain ⟨fuel, hf⟩ := h
  have hcN : Tryd.prog.cellsOf 56 = 5 := by kernel_rfl
  rcases open_slice Tryd.underlying37 hf with ⟨hcs, hx⟩ | ⟨a, len', cap', m, n, D, Pl, hcs, _, hl, hm, hmm, hx, hel⟩
  · simp [Value.cells] at hcs
    obtain ⟨rfl, rfl, rfl⟩ := hcs
    exact ⟨none, 0, 0, [], rfl, ⟨by omega, by omega, fun _ => rfl⟩, rfl, by omega, fun _ h => (by cases h), fun h => by omega⟩
  · simp [Value.cells] at hcs
    obtain ⟨rfl, rfl, rfl⟩ := hcs
    unfold maxLen at hm
    simp at hmm
    rw [hcN] at hel
    have hel' : ∀ i, i < len → ∃ x : Lot, x.wf ∧ w.cells? 0 (a.add (i * 5)) 5 = some x.cells := fun i hi => by
      obtain ⟨cs', h1, h2⟩ := hel i (by omega)
      obtain ⟨x, hx1, rfl⟩ := lot_of_trod h2
      exact ⟨x, hx1, h1⟩
    haveI : Inhabited Lot := ⟨⟨0, 0, 0, 0, 0⟩⟩
    obtain ⟨f, hF⟩ := choose_lt hel'
    refine ⟨some a, len, cap, (List.range len).map f, rfl, ⟨by omega, by omega, fun h => by cases h⟩, by simp, by omega, fun x hx => ?_, fun h0 => ?_⟩
    · obtain ⟨i, hi, rfl⟩ := List.mem_map.1 hx
      exact (hF i (List.mem_range.1 hi)).1
    · have hcell : ∀ k, k < len → ∀ j, j < 5 → w.cell? (a.add (k * 5 + j)) = (f k).cells[j]? := fun k hk j hj => by
        obtain ⟨_, _, hat⟩ := World.cells?_some (hF k hk).2
        rw [← Go.Deep.add_add]
        exact hat j hj
      obtain ⟨b, off, sp⟩ := a
      have h00 := hcell 0 h0 0 (by omega)
      have hsp : sp = none := by
        cases sp with
        | none => rfl
        | some q =>
          exfalso
          rw [show w.cell? (Addr.add ⟨b, off, some q⟩ (0 * 5 + 0)) = none by unfold World.cell? Addr.add; split <;> simp] at h00
          simp [Lot.cells] at h00
      subst hsp
      have hadd : ∀ i, Addr.add ⟨b, off, none⟩ i = ⟨b, off + i, none⟩ := fun i => by
        unfold Addr.add
        by_cases hi : i = 0 <;> simp [hi]
      refine ⟨b, off, rfl, ?_, fun k hk j hj => ?_⟩
      · rw [hadd] at h00
        exact lt_of_cell (v := .int .i64 (f 0).id) (by rw [h00]; rfl)
      · have := hcell k (by simpa using hk) j hj
        rw [hadd] at this
        rw [Nat.add_assoc, this]
        simp
end Go.Proofs.YtmbboflakfokhaaDoor

/- What curve's One and Check compute. -/
set_option linter.unusedSimpArgs false
set_option linter.unusedVariables false
namespace Go.Proofs.YtmbboflakfokhaaDoor
open Go.RowKit

/-- A lot is well. -/
def Lot.ok (l : Lot) : Bool := inR l.id 1 1073741824 && inR l.owner 0 5 && inR l.side 0 1 && inR l.price 1 1000 && inR l.qty 1 1000

set_option maxRecDepth 100000 in
set_option maxHeartbeats 2000000 in
theorem one_any (l : Lot) (E : Nat → Addr) (w : World) (hE : Errs E [2] w) :
    Calls Tryd.prog 48 #[l.val] w fun e w' => e = .returned (errV E (if l.ok then 0 else 2)) ∧ Ex w w' := by
  have e2 : w.cell? ⟨0, 0, none⟩ = some (.iface 160 (.pointer (some (E 2)))) := hE 2 (by decide)
  have b2 : 0 < w.heap.size := lt_of_cell e2
  clear hE
  by_cases h1 : l.id < 1
  · have hk : l.ok = false := by simp only [Lot.ok, inR, Bool.and_eq_true, Bool.and_eq_false_iff, decide_eq_true_eq, decide_eq_false_iff_not]; omega
    rw [hk]
    clear hk
    go_enter Tryd.func48, Tryd.ntmps48
    go_wp2
    all_goals go_ret
    all_goals exact ⟨congrArg Ending.returned (by simp [errV, *]), (by repeat (first | exact Ex.refl _ | refine Ex.alloc ?_ _ | refine Ex.ext ?_ _ _ | refine Ex.drew ?_ | refine Ex.drewN ?_ _))⟩
  by_cases h2 : l.id > 1073741824
  · have hk : l.ok = false := by simp only [Lot.ok, inR, Bool.and_eq_true, Bool.and_eq_false_iff, decide_eq_true_eq, decide_eq_false_iff_not]; omega
    rw [hk]
    clear hk
    go_enter Tryd.func48, Tryd.ntmps48
    go_wp2
    all_goals go_ret
    all_goals exact ⟨congrArg Ending.returned (by simp [errV, *]), (by repeat (first | exact Ex.refl _ | refine Ex.alloc ?_ _ | refine Ex.ext ?_ _ _ | refine Ex.drew ?_ | refine Ex.drewN ?_ _))⟩
  by_cases h3 : l.owner < 0
  · have hk : l.ok = false := by simp only [Lot.ok, inR, Bool.and_eq_true, Bool.and_eq_false_iff, decide_eq_true_eq, decide_eq_false_iff_not]; omega
    rw [hk]
    clear hk
    go_enter Tryd.func48, Tryd.ntmps48
    go_wp2
    all_goals go_ret
    all_goals exact ⟨congrArg Ending.returned (by simp [errV, *]), (by repeat (first | exact Ex.refl _ | refine Ex.alloc ?_ _ | refine Ex.ext ?_ _ _ | refine Ex.drew ?_ | refine Ex.drewN ?_ _))⟩
  by_cases h4 : l.owner ≥ 6
  · have hk : l.ok = false := by simp only [Lot.ok, inR, Bool.and_eq_true, Bool.and_eq_false_iff, decide_eq_true_eq, decide_eq_false_iff_not]; omega
    rw [hk]
    clear hk
    go_enter Tryd.func48, Tryd.ntmps48
    go_wp2
    all_goals go_ret
    all_goals exact ⟨congrArg Ending.returned (by simp [errV, *]), (by repeat (first | exact Ex.refl _ | refine Ex.alloc ?_ _ | refine Ex.ext ?_ _ _ | refine Ex.drew ?_ | refine Ex.drewN ?_ _))⟩
  by_cases h5 : l.side = 0
  · by_cases h6 : l.price < 1
    · have hk : l.ok = false := by simp only [Lot.ok, inR, Bool.and_eq_true, Bool.and_eq_false_iff, decide_eq_true_eq, decide_eq_false_iff_not]; omega
      rw [hk]
      clear hk
      go_enter Tryd.func48, Tryd.ntmps48
      go_wp2
      all_goals go_ret
      all_goals exact ⟨congrArg Ending.returned (by simp [errV, *]), (by repeat (first | exact Ex.refl _ | refine Ex.alloc ?_ _ | refine Ex.ext ?_ _ _ | refine Ex.drew ?_ | refine Ex.drewN ?_ _))⟩
    by_cases h7 : l.price > 1000
    · have hk : l.ok = false := by simp only [Lot.ok, inR, Bool.and_eq_true, Bool.and_eq_false_iff, decide_eq_true_eq, decide_eq_false_iff_not]; omega
      rw [hk]
      clear hk
      go_enter Tryd.func48, Tryd.ntmps48
      go_wp2
      all_goals go_ret
      all_goals exact ⟨congrArg Ending.returned (by simp [errV, *]), (by repeat (first | exact Ex.refl _ | refine Ex.alloc ?_ _ | refine Ex.ext ?_ _ _ | refine Ex.drew ?_ | refine Ex.drewN ?_ _))⟩
    by_cases h8 : l.qty < 1
    · have hk : l.ok = false := by simp only [Lot.ok, inR, Bool.and_eq_true, Bool.and_eq_false_iff, decide_eq_true_eq, decide_eq_false_iff_not]; omega
      rw [hk]
      clear hk
      go_enter Tryd.func48, Tryd.ntmps48
      go_wp2
      all_goals go_ret
      all_goals exact ⟨congrArg Ending.returned (by simp [errV, *]), (by repeat (first | exact Ex.refl _ | refine Ex.alloc ?_ _ | refine Ex.ext ?_ _ _ | refine Ex.drew ?_ | refine Ex.drewN ?_ _))⟩
    by_cases h9 : l.qty > 1000
    · have hk : l.ok = false := by simp only [Lot.ok, inR, Bool.and_eq_true, Bool.and_eq_false_iff, decide_eq_true_eq, decide_eq_false_iff_not]; omega
      rw [hk]
      clear hk
      go_enter Tryd.func48, Tryd.ntmps48
      go_wp2
      all_goals go_ret
      all_goals exact ⟨congrArg Ending.returned (by simp [errV, *]), (by repeat (first | exact Ex.refl _ | refine Ex.alloc ?_ _ | refine Ex.ext ?_ _ _ | refine Ex.drew ?_ | refine Ex.drewN ?_ _))⟩
    · have hk : l.ok = true := by simp only [Lot.ok, inR, Bool.and_eq_true, Bool.and_eq_false_iff, decide_eq_true_eq, decide_eq_false_iff_not]; omega
      rw [hk]
      clear hk
      go_enter Tryd.func48, Tryd.ntmps48
      go_wp2
      all_goals go_ret
      all_goals exact ⟨congrArg Ending.returned (by simp [errV, *]), (by repeat (first | exact Ex.refl _ | refine Ex.alloc ?_ _ | refine Ex.ext ?_ _ _ | refine Ex.drew ?_ | refine Ex.drewN ?_ _))⟩
  by_cases h6 : l.side = 1
  · by_cases h6' : l.price < 1
    · have hk : l.ok = false := by simp only [Lot.ok, inR, Bool.and_eq_true, Bool.and_eq_false_iff, decide_eq_true_eq, decide_eq_false_iff_not]; omega
      rw [hk]
      clear hk
      go_enter Tryd.func48, Tryd.ntmps48
      go_wp2
      all_goals go_ret
      all_goals exact ⟨congrArg Ending.returned (by simp [errV, *]), (by repeat (first | exact Ex.refl _ | refine Ex.alloc ?_ _ | refine Ex.ext ?_ _ _ | refine Ex.drew ?_ | refine Ex.drewN ?_ _))⟩
    by_cases h7 : l.price > 1000
    · have hk : l.ok = false := by simp only [Lot.ok, inR, Bool.and_eq_true, Bool.and_eq_false_iff, decide_eq_true_eq, decide_eq_false_iff_not]; omega
      rw [hk]
      clear hk
      go_enter Tryd.func48, Tryd.ntmps48
      go_wp2
      all_goals go_ret
      all_goals exact ⟨congrArg Ending.returned (by simp [errV, *]), (by repeat (first | exact Ex.refl _ | refine Ex.alloc ?_ _ | refine Ex.ext ?_ _ _ | refine Ex.drew ?_ | refine Ex.drewN ?_ _))⟩
    by_cases h8 : l.qty < 1
    · have hk : l.ok = false := by simp only [Lot.ok, inR, Bool.and_eq_true, Bool.and_eq_false_iff, decide_eq_true_eq, decide_eq_false_iff_not]; omega
      rw [hk]
      clear hk
      go_enter Tryd.func48, Tryd.ntmps48
      go_wp2
      all_goals go_ret
      all_goals exact ⟨congrArg Ending.returned (by simp [errV, *]), (by repeat (first | exact Ex.refl _ | refine Ex.alloc ?_ _ | refine Ex.ext ?_ _ _ | refine Ex.drew ?_ | refine Ex.drewN ?_ _))⟩
    by_cases h9 : l.qty > 1000
    · have hk : l.ok = false := by simp only [Lot.ok, inR, Bool.and_eq_true, Bool.and_eq_false_iff, decide_eq_true_eq, decide_eq_false_iff_not]; omega
      rw [hk]
      clear hk
      go_enter Tryd.func48, Tryd.ntmps48
      go_wp2
      all_goals go_ret
      all_goals exact ⟨congrArg Ending.returned (by simp [errV, *]), (by repeat (first | exact Ex.refl _ | refine Ex.alloc ?_ _ | refine Ex.ext ?_ _ _ | refine Ex.drew ?_ | refine Ex.drewN ?_ _))⟩
    · have hk : l.ok = true := by simp only [Lot.ok, inR, Bool.and_eq_true, Bool.and_eq_false_iff, decide_eq_true_eq, decide_eq_false_iff_not]; omega
      rw [hk]
      clear hk
      go_enter Tryd.func48, Tryd.ntmps48
      go_wp2
      all_goals go_ret
      all_goals exact ⟨congrArg Ending.returned (by simp [errV, *]), (by repeat (first | exact Ex.refl _ | refine Ex.alloc ?_ _ | refine Ex.ext ?_ _ _ | refine Ex.drew ?_ | refine Ex.drewN ?_ _))⟩
  · have hk : l.ok = false := by simp only [Lot.ok, inR, Bool.and_eq_true, Bool.and_eq_false_iff, decide_eq_true_eq, decide_eq_false_iff_not]; omega
    rw [hk]
    clear hk
    go_enter Tryd.func48, Tryd.ntmps48
    go_wp2
    all_goals go_ret
    all_goals exact ⟨congrArg Ending.returned (by simp [errV, *]), (by repeat (first | exact Ex.refl _ | refine Ex.alloc ?_ _ | refine Ex.ext ?_ _ _ | refine Ex.drew ?_ | refine Ex.drewN ?_ _))⟩
end Go.Proofs.YtmbboflakfokhaaDoor

/- What Check's search for an ID computes. -/
set_option linter.unusedSimpArgs false
set_option linter.unusedVariables false
namespace Go.Proofs.YtmbboflakfokhaaDoor
open Go.RowKit

/-- Where a lot of an ID stands (-1: nowhere). -/
def idIdx (l : List Lot) (id : Int) : Int := match l.findIdx? (fun y => y.id == id) with | some k => (k : Int) | none => -1

theorem idIdx_some {l : List Lot} {id : Int} {k : Nat} (hk : k < l.length) (h : l[k].id = id) (hn : ∀ j, (hj : j < k) → l[j].id ≠ id) : idIdx l id = k := by
  have : l.findIdx? (fun y => y.id == id) = some k := by
    rw [List.findIdx?_eq_some_iff_getElem]
    exact ⟨hk, by simpa using h, fun j hj => by simpa using hn j hj⟩
  simp [idIdx, this]
theorem idIdx_none {l : List Lot} {id : Int} (hn : ∀ j, (hj : j < l.length) → l[j].id ≠ id) : idIdx l id = -1 := by
  have : l.findIdx? (fun y => y.id == id) = none := by
    rw [List.findIdx?_eq_none_iff]
    intro y hy
    obtain ⟨j, hj, rfl⟩ := List.getElem_of_mem hy
    simpa using hn j hj
  simp [idIdx, this]

set_option maxRecDepth 100000 in
theorem sameId_any (y : Lot) (id : Int) (xb : Nat) (w : World) (hx : w.cell? ⟨xb, 0, none⟩ = some (.int .i64 id)) :
    Calls Tryd.prog 52 #[y.val, .pointer (some ⟨xb, 0, none⟩)] w fun e w' => e = .returned (.bool (y.id == id)) ∧ Ex w w' := by
  have hb := lt_of_cell hx
  go_enter Tryd.func52, Tryd.ntmps52
  go_wp2
  all_goals go_ret
  all_goals exact ⟨ret_bool (by simp), (by repeat (first | exact Ex.refl _ | refine Ex.alloc ?_ _ | refine Ex.ext ?_ _ _ | refine Ex.drew ?_ | refine Ex.drewN ?_ _))⟩

set_option maxRecDepth 100000 in
set_option maxHeartbeats 1000000 in
theorem index_any (ao : Option Addr) (len cap : Nat) (l : List Lot) (id : Int) (xb : Nat) (w : World) (hl : LotsAt w ao len l) (hx : w.cell? ⟨xb, 0, none⟩ = some (.int .i64 id)) :
    Calls Tryd.prog 60 #[.slice ao len cap, .func (.func 52) #[] #[.pointer (some ⟨xb, 0, none⟩)]] w fun e w' =>
      e = .returned (.int .i64 (idIdx l id)) ∧ Ex w w' := by
  obtain ⟨hlen, hmx, hwf, hz⟩ := hl
  have hb := lt_of_cell hx
  have HZ := Lib.hid hz
  have HL := Lib.hid hlen
  clear hz hlen hwf
  go_enter Tryd.func60, Tryd.ntmps60
  go_wp2
  go_loopw [8] (fun i wr => ∃ (k : Nat), k ≤ len ∧ i = .int .i64 k ∧ (∀ j, (hj : j < l.length) → j < k → l[j].id ≠ id) ∧ Ex w wr) (fun i _ => len - (intOf i).toNat)
  case atStart => exact ⟨0, Nat.zero_le _, rfl, (fun j hj h => absurd h (Nat.not_lt_zero _)), (by repeat (first | exact Ex.refl _ | refine Ex.alloc ?_ _ | refine Ex.ext ?_ _ _ | refine Ex.drew ?_ | refine Ex.drewN ?_ _))⟩
  case round =>
    obtain ⟨k, hk, rfl, hn, l1, d1, rfl⟩ := hrel
    have HN := Lib.hid hn
    clear hn
    by_cases hlt : k < len
    · obtain ⟨b, off, rfl, hbs, hz⟩ := HZ.out (by omega)
      have hzk := hz k (by rw [HL.out]; exact hlt)
      clear hz
      have hg : ∃ a, a = l[k]'(by rw [HL.out]; exact hlt) := ⟨_, rfl⟩
      obtain ⟨a, ha⟩ := hg
      rw [← ha] at hzk
      have HA := Lib.hid ha
      clear ha
      have a0 := hzk 0 (by omega)
      have a1 := hzk 1 (by omega)
      have a2 := hzk 2 (by omega)
      have a3 := hzk 3 (by omega)
      have a4 := hzk 4 (by omega)
      simp only [Lot.cells, List.getElem?_cons_zero, List.getElem?_cons_succ, Nat.add_zero] at a0 a1 a2 a3 a4
      clear hzk
      go_wp2_with (go_at_call 52; refine (sameId_any a id xb _ (by simp [go_sem, ↓IntWalk.iteOmega, *])).mono ?_; rintro e w1 ⟨rfl, l2, d2, rfl⟩)
      · go_ret
        rename_i hid
        exact ⟨ret_int (idIdx_some (k := k) (by rw [HL.out]; exact hlt) (by rw [← HA.out]; simpa using hid) (fun j hj => HN.out j (by have := HL.out; omega) hj)).symm, (by repeat (first | exact Ex.refl _ | refine Ex.alloc ?_ _ | refine Ex.ext ?_ _ _ | refine Ex.drew ?_ | refine Ex.drewN ?_ _))⟩
      · rename_i hid
        go_roundw
        case measure => simp [intOf]; omega
        case rel =>
          refine ⟨k + 1, by omega, by go_num, fun j hj hjk => ?_, (by repeat (first | exact Ex.refl _ | refine Ex.alloc ?_ _ | refine Ex.ext ?_ _ _ | refine Ex.drew ?_ | refine Ex.drewN ?_ _))⟩
          by_cases e : j = k
          · subst e
            rw [← HA.out]; simpa using hid
          · exact HN.out j hj (by omega)
    · go_wp2
      go_ret
      exact ⟨ret_int (idIdx_none fun j hj => HN.out j hj (by have := HL.out; omega)).symm, (by repeat (first | exact Ex.refl _ | refine Ex.alloc ?_ _ | refine Ex.ext ?_ _ _ | refine Ex.drew ?_ | refine Ex.drewN ?_ _))⟩
end Go.Proofs.YtmbboflakfokhaaDoor
