/- Plain data: a request, an order, as the walk's values; the package-level errors by their numbers. -/
import Derived.Test.YthngmmhoakegeaaDoorWorld
set_option linter.unusedSimpArgs false
set_option linter.unusedVariables false
namespace Go.Proofs.YthngmmhoakegeaaDoor
open Go.RowKit

structure Ask where
  kind : Int
  client : Int
  seq : Int
  item : Int
  side : Int
  price : Int
  qty : Int
  id : Int
  deriving DecidableEq
def Ask.cells (a : Ask) : List Value := [.int .u8 a.kind, .int .i64 a.client, .int .i64 a.seq, .int .i64 a.item, .int .i64 a.side, .int .i64 a.price, .int .i64 a.qty, .int .i64 a.id]
abbrev Ask.val (a : Ask) : Value := .agg #[.int .u8 a.kind, .int .i64 a.client, .int .i64 a.seq, .int .i64 a.item, .int .i64 a.side, .int .i64 a.price, .int .i64 a.qty, .int .i64 a.id]

/-- The value of an error by its number (0: none). -/
def errV (E : Nat → Addr) (c : Nat) : Value := if c = 0 then .nilIface else .iface 114 (.pointer (some (E c)))
theorem errV_zero (E : Nat → Addr) : errV E 0 = .nilIface := rfl
theorem errV_pos (E : Nat → Addr) (c : Nat) (h : c ≠ 0) : errV E c = .iface 114 (.pointer (some (E c))) := if_neg h

theorem lt_of_cell {w : World} {n i : Nat} {v : Value} (h : w.cell? ⟨n, i, none⟩ = some v) : n < w.heap.size := World.block_lt_of_cell? _ _ h
/-- The package-level variable that holds the error of a number. -/
def gOf (c : Nat) : Nat :=
  match c with
  | 1 => 0
  | 2 => 1
  | 3 => 2
  | 4 => 3
  | 5 => 4
  | 6 => 5
  | 7 => 6
  | 8 => 7
  | 9 => 8
  | 10 => 9
  | 11 => 10
  | 12 => 11
  | _ => 0
/-- The errors of these numbers lie where E says. -/
def Errs (E : Nat → Addr) (l : List Nat) (w : World) : Prop := ∀ c ∈ l, w.cell? ⟨gOf c, 0, none⟩ = some (.iface 114 (.pointer (some (E c))))
theorem Errs.ex {E : Nat → Addr} {l : List Nat} {w w' : World} (h : Errs E l w) (hx : Ex w w') : Errs E l w' := fun c hc => (hx.below.cell (p := ⟨gOf c, 0, none⟩) (lt_of_cell (h c hc))).trans (h c hc)
theorem Errs.sub {E : Nat → Addr} {l l' : List Nat} {w : World} (h : Errs E l w) (hs : ∀ c ∈ l', c ∈ l) : Errs E l' w := fun c hc => h c (hs c hc)

/-- An integer lies within two bounds. -/
def inR (n lo hi : Int) : Bool := decide (lo ≤ n) && decide (n ≤ hi)
theorem inR_iff {n lo hi : Int} : inR n lo hi = true ↔ lo ≤ n ∧ n ≤ hi := by simp [inR]
theorem inR_not {n lo hi : Int} : inR n lo hi = false ↔ n < lo ∨ hi < n := by
  cases h : inR n lo hi
  · simp only [true_iff]; have : ¬ (lo ≤ n ∧ n ≤ hi) := fun h' => by rw [inR_iff.2 h'] at h; cases h
    omega
  · simp only [false_iff, Bool.true_eq_false]; have := inR_iff.1 h; omega

def Ask.common (a : Ask) : Bool := inR a.client 0 5 && inR a.seq 0 1073741824 && inR a.id 0 1073741824
def Ask.place (a : Ask) : Bool := inR a.item 0 2 && inR a.side 0 1 && inR a.price 1 1000 && inR a.qty 1 1000
def Ask.rest5 (a : Ask) : Bool := a.item != 0 || a.side != 0 || a.price != 0 || a.qty != 0 || a.id != 0
def Ask.rest3 (a : Ask) : Bool := a.side != 0 || a.price != 0 || a.qty != 0
/-- What is wrong with a request: an error's number. -/
def Ask.err (a : Ask) : Nat :=
  if a.kind == 108 || a.kind == 104 || a.kind == 113 then (if a.common && a.rest5 then 3 else if a.common then 0 else 2)
  else if a.kind == 111 then (if a.common && a.place then 0 else 2)
  else if a.kind == 99 then (if (a.common && inR a.item 0 2) && a.rest3 then 3 else if a.common && inR a.item 0 2 then 0 else 2)
  else 4

structure Sess where
  on : Bool
  next : Int
  last : Int
  deriving DecidableEq
abbrev Sess.val (s : Sess) : Value := .agg #[.bool s.on, .int .i64 s.next, .int .i64 s.last]
/-- What a session makes of a request: the session, an error's number. -/
def Sess.take (s : Sess) (a : Ask) (now : Int) : Sess × Nat :=
  if a.err = 0 then
    (if a.kind == 108 then (if s.on then (s, 11) else if a.seq != 1 then (s, 12) else (⟨true, 2, now⟩, 0))
     else if !s.on then (s, 11) else if a.seq != s.next then (s, 12) else if a.kind == 113 then (⟨false, 0, 0⟩, 0) else (⟨true, s.next + 1, now⟩, 0))
  else (s, a.err)
theorem Ask.seq_of_err {a : Ask} (h : a.err = 0) : 0 ≤ a.seq ∧ a.seq ≤ 1073741824 := by
  have hc : a.common = true := by
    unfold Ask.err at h
    cases hc : a.common
    · rw [hc] at h
      (repeat' split at h) <;> simp_all
    · rfl
  simp only [Ask.common, Bool.and_eq_true] at hc
  exact inR_iff.1 hc.1.2
theorem Ask.bounds {a : Ask} (h : a.err = 0) : (0 ≤ a.client ∧ a.client ≤ 5) ∧ (0 ≤ a.seq ∧ a.seq ≤ 1073741824) ∧ (0 ≤ a.id ∧ a.id ≤ 1073741824) ∧ (0 ≤ a.item ∧ a.item ≤ 2) ∧ (0 ≤ a.side ∧ a.side ≤ 1) ∧ (0 ≤ a.price ∧ a.price ≤ 1000) ∧ (0 ≤ a.qty ∧ a.qty ≤ 1000) ∧
    (a.kind = 108 ∨ a.kind = 104 ∨ a.kind = 113 ∨ a.kind = 111 ∨ a.kind = 99) := by
  unfold Ask.err at h
  have key : a.common = true → (0 ≤ a.item ∧ a.item ≤ 2) → (0 ≤ a.side ∧ a.side ≤ 1) → (0 ≤ a.price ∧ a.price ≤ 1000) → (0 ≤ a.qty ∧ a.qty ≤ 1000) → (a.kind = 108 ∨ a.kind = 104 ∨ a.kind = 113 ∨ a.kind = 111 ∨ a.kind = 99) →
      (0 ≤ a.client ∧ a.client ≤ 5) ∧ (0 ≤ a.seq ∧ a.seq ≤ 1073741824) ∧ (0 ≤ a.id ∧ a.id ≤ 1073741824) ∧ (0 ≤ a.item ∧ a.item ≤ 2) ∧ (0 ≤ a.side ∧ a.side ≤ 1) ∧ (0 ≤ a.price ∧ a.price ≤ 1000) ∧ (0 ≤ a.qty ∧ a.qty ≤ 1000) ∧
      (a.kind = 108 ∨ a.kind = 104 ∨ a.kind = 113 ∨ a.kind = 111 ∨ a.kind = 99) := by
    intro hc h1 h2 h3 h4 h5
    simp only [Ask.common, Bool.and_eq_true] at hc
    exact ⟨inR_iff.1 hc.1.1, inR_iff.1 hc.1.2, inR_iff.1 hc.2, h1, h2, h3, h4, h5⟩
  split at h
  · rename_i hk
    simp only [Bool.or_eq_true, beq_iff_eq] at hk
    cases hc : a.common <;> cases h5 : a.rest5 <;> simp [hc, h5] at h
    simp only [Ask.rest5, Bool.or_eq_false_iff, bne_eq_false_iff_eq] at h5
    obtain ⟨⟨⟨⟨e1, e2⟩, e3⟩, e4⟩, e5⟩ := h5
    exact key hc (by omega) (by omega) (by omega) (by omega) (by omega)
  · split at h
    · rename_i _ hk
      simp only [beq_iff_eq] at hk
      cases hc : a.common <;> cases hp : a.place <;> simp [hc, hp] at h
      simp only [Ask.place, Bool.and_eq_true] at hp
      have p1 := inR_iff.1 hp.1.1.1
      have p2 := inR_iff.1 hp.1.1.2
      have p3 := inR_iff.1 hp.1.2
      have p4 := inR_iff.1 hp.2
      exact key hc (by omega) (by omega) (by omega) (by omega) (by omega)
    · split at h
      · rename_i _ _ hk
        simp only [beq_iff_eq] at hk
        cases hc : a.common <;> cases hi : inR a.item 0 2 <;> cases h3 : a.rest3 <;> simp [hc, hi, h3] at h
        simp only [Ask.rest3, Bool.or_eq_false_iff, bne_eq_false_iff_eq] at h3
        have p1 := inR_iff.1 hi
        exact key hc (by omega) (by omega) (by omega) (by omega) (by omega)
      · cases h
def Sess.late (s : Sess) (now : Int) : Bool := s.on && decide (s.last + 5 < now)
end Go.Proofs.YthngmmhoakegeaaDoor
