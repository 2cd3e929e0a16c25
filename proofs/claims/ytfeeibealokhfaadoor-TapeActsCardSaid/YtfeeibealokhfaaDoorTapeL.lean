/- Records of a tape as lists of bytes: a record is read back, a part of one is none, what is read is read in one way. No program, no condition. -/
import Derived.Test.YtfeeibealokhfaaDoorSum
set_option linter.unusedSimpArgs false
set_option linter.unusedVariables false
namespace Go.Proofs.YtfeeibealokhfaaDoor

/-- Four bytes of a number, the highest first. -/
def be4 (n : Nat) : List UInt8 := [UInt8.ofNat (n / 16777216), UInt8.ofNat (n / 65536 % 256), UInt8.ofNat (n / 256 % 256), UInt8.ofNat (n % 256)]
def le4 (n : Nat) : List UInt8 := [UInt8.ofNat (n % 256), UInt8.ofNat (n / 256 % 256), UInt8.ofNat (n / 65536 % 256), UInt8.ofNat (n / 16777216)]
def numB (l : List UInt8) : Nat := l.foldl (fun n b => 256 * n + b.toNat) 0
theorem be4_len (n : Nat) : (be4 n).length = 4 := rfl
theorem le4_len (n : Nat) : (le4 n).length = 4 := rfl
theorem ofNat_lt {n : Nat} (h : n < 256) : (UInt8.ofNat n).toNat = n := by simp; omega
theorem numB_be4 (n : Nat) (h : n < 4294967296) : numB (be4 n) = n := by
  simp only [numB, be4, List.foldl_cons, List.foldl_nil]
  rw [ofNat_lt (by omega), ofNat_lt (by omega), ofNat_lt (by omega), ofNat_lt (by omega)]
  omega
/-- A text's record. -/
def recL (s : List UInt8) : List UInt8 := be4 s.length ++ be4 (4294967295 - s.length) ++ s ++ le4 (crc s)
theorem recL_len (s : List UInt8) : (recL s).length = s.length + 12 := by simp [recL, be4_len, le4_len]; omega
/-- The record that bytes begin with. -/
def oneL (b : List UInt8) : Option (List UInt8) :=
  if b.length < 12 then none
  else if 10000 < numB (b.take 4) ∨ b.length < numB (b.take 4) + 12 then none
  else if recL ((b.drop 8).take (numB (b.take 4))) = b.take (numB (b.take 4) + 12) then some ((b.drop 8).take (numB (b.take 4))) else none
theorem recL_take4 (s t : List UInt8) : (recL s ++ t).take 4 = be4 s.length := by
  unfold recL
  rw [List.append_assoc, List.append_assoc, List.append_assoc, List.take_append_of_le_length (by simp [be4_len])]
  exact List.take_of_length_le (by simp [be4_len])
theorem recL_body (s t : List UInt8) : ((recL s ++ t).drop 8).take s.length = s := by
  have e : recL s ++ t = (be4 s.length ++ be4 (4294967295 - s.length)) ++ (s ++ (le4 (crc s) ++ t)) := by simp [recL]
  rw [e, List.drop_left' (by simp [be4_len]), List.take_left' rfl]
theorem oneL_rec (s t : List UInt8) (h : s.length ≤ 10000) : oneL (recL s ++ t) = some s := by
  have hl : (recL s ++ t).length = s.length + 12 + t.length := by rw [List.length_append, recL_len]
  unfold oneL
  rw [recL_take4, numB_be4 _ (by omega), if_neg (by omega), if_neg (by omega), recL_body, List.take_left' (recL_len s), if_pos rfl]
theorem oneL_some {b s : List UInt8} (h : oneL b = some s) : s.length ≤ 10000 ∧ s.length + 12 ≤ b.length ∧ b = recL s ++ b.drop (s.length + 12) := by
  unfold oneL at h
  split at h
  · cases h
  · split at h
    · cases h
    · split at h
      · rename_i h1 h2 h3
        obtain rfl := Option.some.inj h
        have hl : ((b.drop 8).take (numB (b.take 4))).length = numB (b.take 4) := by rw [List.length_take, List.length_drop]; omega
        refine ⟨by omega, by omega, ?_⟩
        rw [hl, h3, List.take_append_drop]
      · cases h
theorem oneL_part (s : List UInt8) (h : s.length ≤ 10000) (m : Nat) (hm : m < s.length + 12) : oneL ((recL s).take m) = none := by
  have hl : ((recL s).take m).length = m := by rw [List.length_take, recL_len]; omega
  unfold oneL
  split
  · rfl
  · rw [List.take_take, Nat.min_eq_left (by omega)]
    have e := recL_take4 s []
    rw [List.append_nil] at e
    rw [e, numB_be4 _ (by omega), if_pos (.inr (by omega))]
/-- Records of texts, one behind another. -/
def recs (l : List (List UInt8)) : List UInt8 := l.flatMap recL
theorem recs_nil : recs [] = [] := rfl
theorem recs_cons (s : List UInt8) (l : List (List UInt8)) : recs (s :: l) = recL s ++ recs l := by simp [recs]
theorem recs_append (l m : List (List UInt8)) : recs (l ++ m) = recs l ++ recs m := by simp [recs]
theorem recs_one (s : List UInt8) : recs [s] = recL s := by simp [recs]
def Fits (l : List (List UInt8)) : Prop := ∀ s ∈ l, s.length ≤ 10000
/-- What is read of bytes: these texts, of so many bytes. -/
def Reads (b : List UInt8) (l : List (List UInt8)) (n : Nat) : Prop := Fits l ∧ n = (recs l).length ∧ ∃ t, b = recs l ++ t ∧ oneL t = none
theorem Reads.le {b : List UInt8} {l : List (List UInt8)} {n : Nat} (h : Reads b l n) : n ≤ b.length := by
  obtain ⟨_, h2, t, rfl, _⟩ := h
  rw [h2, List.length_append]; omega
theorem Reads.take {b : List UInt8} {l : List (List UInt8)} {n : Nat} (h : Reads b l n) : b.take n = recs l ∧ oneL (b.drop n) = none := by
  obtain ⟨_, h2, t, rfl, h3⟩ := h
  rw [h2, List.take_left, List.drop_left]
  exact ⟨rfl, h3⟩
theorem reads_behind : ∀ (l y : List (List UInt8)) (t : List UInt8) (k : Nat), Fits l → Reads (recs l ++ t) y k → ∃ y', y = l ++ y' ∧ Reads t y' (k - (recs l).length) ∧ (recs l).length ≤ k
  | [], y, t, k, _, h => ⟨y, rfl, by simpa [recs_nil] using h, by simp [recs_nil]⟩
  | s :: l, y, t, k, hf, h => by
    obtain ⟨h1, h2, u, h3, h4⟩ := h
    rw [recs_cons, List.append_assoc] at h3
    have ho := oneL_rec s (recs l ++ t) (hf s (by simp))
    cases y with
    | nil =>
      rw [recs_nil, List.nil_append] at h3
      rw [h3, h4] at ho
      cases ho
    | cons x y =>
      rw [recs_cons, List.append_assoc] at h3
      have hx := oneL_rec x (recs y ++ u) (h1 x (by simp))
      rw [h3, hx] at ho
      obtain rfl := Option.some.inj ho
      have h5 := List.append_cancel_left h3
      obtain ⟨y', hy, hr, hk⟩ := reads_behind l y t (k - (recL x).length) (fun z hz => hf z (by simp [hz])) ⟨fun z hz => h1 z (by simp [hz]), by rw [h2, recs_cons, List.length_append]; omega, u, h5, h4⟩
      have h6 : (recs (x :: l)).length = (recL x).length + (recs l).length := by rw [recs_cons, List.length_append]
      have h7 : k = (recL x).length + (recs y).length := by rw [h2, recs_cons, List.length_append]
      refine ⟨y', by rw [hy]; rfl, ?_, by omega⟩
      rw [h6, ← Nat.sub_sub]
      exact hr
theorem reads_none {t : List UInt8} {y : List (List UInt8)} {k : Nat} (h : Reads t y k) (ho : oneL t = none) : y = [] ∧ k = 0 := by
  obtain ⟨h1, h2, u, h3, h4⟩ := h
  cases y with
  | nil => exact ⟨rfl, h2⟩
  | cons x y =>
    rw [recs_cons, List.append_assoc] at h3
    rw [h3, oneL_rec x _ (h1 x (by simp))] at ho
    cases ho
theorem reads_same {b : List UInt8} {l l' : List (List UInt8)} {n n' : Nat} (h : Reads b l n) (h' : Reads b l' n') : l' = l ∧ n' = n := by
  obtain ⟨h1, h2, t, rfl, h4⟩ := h
  obtain ⟨y', rfl, hr, hk⟩ := reads_behind l l' t n' h1 h'
  obtain ⟨rfl, hz⟩ := reads_none hr h4
  exact ⟨List.append_nil l, by omega⟩
theorem recs_len_snoc (l : List (List UInt8)) (s : List UInt8) : (recs (l ++ [s])).length = (recs l).length + (s.length + 12) := by rw [recs_append, recs_one, List.length_append, recL_len]

/-- A disk: its bytes, is power off, how many bytes until it fails. -/
structure Dk where
  b : List UInt8
  off : Bool
  cut : Int
def Dk.appE (d : Dk) (s : List UInt8) : Nat :=
  if 10000 < s.length then 2
  else if 1048576 < d.b.length + (s.length + 12) then 8
  else if d.off then 9
  else if 0 ≤ d.cut ∧ d.cut < (s.length : Int) + 12 then 9 else 0
def Dk.app (d : Dk) (s : List UInt8) : Dk :=
  if 10000 < s.length then d
  else if 1048576 < d.b.length + (s.length + 12) then d
  else if d.off then d
  else if 0 ≤ d.cut ∧ d.cut < (s.length : Int) + 12 then ⟨d.b ++ (recL s).take d.cut.toNat, true, d.cut⟩
  else ⟨d.b ++ recL s, false, if 0 ≤ d.cut then d.cut - ((s.length : Int) + 12) else d.cut⟩
def Dk.cutE (d : Dk) (n : Int) : Nat := if n < 0 then 2 else if d.off then 9 else 0
def Dk.cutD (d : Dk) (n : Int) : Dk := if n < 0 then d else if d.off then d else ⟨d.b, d.off, n⟩
/-- What a disk holds of what was appended with no error, while power may fail. -/
def Kept (d : Dk) (l : List (List UInt8)) : Prop := Fits l ∧ ∃ t, d.b = recs l ++ t ∧ oneL t = none ∧ (d.off = false → t = [])
theorem oneL_nil : oneL [] = none := rfl
theorem Kept.app {d : Dk} {l : List (List UInt8)} (h : Kept d l) (s : List UInt8) : Kept (d.app s) (if d.appE s = 0 then l ++ [s] else l) := by
  obtain ⟨h1, t, h2, h3, h4⟩ := h
  by_cases a1 : 10000 < s.length
  · have e1 : d.app s = d := by unfold Dk.app; rw [if_pos a1]
    have e2 : d.appE s = 2 := by unfold Dk.appE; rw [if_pos a1]
    rw [e1, e2]
    exact ⟨h1, t, h2, h3, h4⟩
  by_cases a2 : 1048576 < d.b.length + (s.length + 12)
  · have e1 : d.app s = d := by unfold Dk.app; rw [if_neg a1, if_pos a2]
    have e2 : d.appE s = 8 := by unfold Dk.appE; rw [if_neg a1, if_pos a2]
    rw [e1, e2]
    exact ⟨h1, t, h2, h3, h4⟩
  by_cases a3 : d.off = true
  · have e1 : d.app s = d := by unfold Dk.app; rw [if_neg a1, if_neg a2, if_pos a3]
    have e2 : d.appE s = 9 := by unfold Dk.appE; rw [if_neg a1, if_neg a2, if_pos a3]
    rw [e1, e2]
    exact ⟨h1, t, h2, h3, h4⟩
  have ht := h4 (by simpa using a3)
  subst ht
  by_cases a4 : 0 ≤ d.cut ∧ d.cut < (s.length : Int) + 12
  · have e1 : d.app s = ⟨d.b ++ (recL s).take d.cut.toNat, true, d.cut⟩ := by unfold Dk.app; rw [if_neg a1, if_neg a2, if_neg a3, if_pos a4]
    have e2 : d.appE s = 9 := by unfold Dk.appE; rw [if_neg a1, if_neg a2, if_neg a3, if_pos a4]
    rw [e1, e2]
    exact ⟨h1, (recL s).take d.cut.toNat, (by show d.b ++ _ = _; rw [h2, List.append_nil]; rfl), oneL_part s (by omega) _ (by omega), fun e => by cases e⟩
  · have e1 : d.app s = ⟨d.b ++ recL s, false, if 0 ≤ d.cut then d.cut - ((s.length : Int) + 12) else d.cut⟩ := by unfold Dk.app; rw [if_neg a1, if_neg a2, if_neg a3, if_neg a4]
    have e2 : d.appE s = 0 := by unfold Dk.appE; rw [if_neg a1, if_neg a2, if_neg a3, if_neg a4]
    rw [e1, e2, if_pos rfl]
    refine ⟨fun z hz => ?_, [], (by rw [recs_append, recs_one, List.append_nil]; show d.b ++ recL s = recs l ++ recL s; rw [h2, List.append_nil]), rfl, fun _ => rfl⟩
    rw [List.mem_append] at hz
    rcases hz with hz | hz
    · exact h1 z hz
    · rw [List.mem_singleton] at hz; subst hz; omega
theorem Kept.reads {d : Dk} {l : List (List UInt8)} (h : Kept d l) : Reads d.b l (recs l).length := by
  obtain ⟨h1, t, h2, h3, _⟩ := h
  exact ⟨h1, rfl, t, h2, h3⟩
theorem Dk.app_len (d : Dk) (s : List UInt8) : (d.app s).b.length ≤ d.b.length + (s.length + 12) := by
  unfold Dk.app
  split
  · omega
  · split
    · omega
    · split
      · omega
      · split
        · simp only [List.length_append, List.length_take, recL_len]; omega
        · simp only [List.length_append, recL_len]; omega
end Go.Proofs.YtfeeibealokhfaaDoor
