/- Plain law: an intake as one list. -/
import Derived.Test.YthngmmhoakegeaaDoorOut
import Derived.Test.YthngmmhoakegeaaDoorPutAny
set_option linter.unusedSimpArgs false
set_option linter.unusedVariables false
namespace Go.Proofs.YthngmmhoakegeaaDoor
open Go.RowKit

/-- A client's requests. -/
def ofC (L : List Ask) (n : Int) : List Ask := L.filter (fun a => a.client == n)
/-- The queues of a list. -/
def qsOf (L : List Ask) : Nat → List Ask := fun d => ofC L (d : Int)
/-- Of clients only. -/
def InC (L : List Ask) : Prop := ∀ a ∈ L, 0 ≤ a.client ∧ a.client < 6
theorem ofC_append (L M : List Ask) (n : Int) : ofC (L ++ M) n = ofC L n ++ ofC M n := List.filter_append ..
theorem ofC_one (a : Ask) (n : Int) : ofC [a] n = if a.client = n then [a] else [] := by
  unfold ofC
  by_cases h : a.client = n
  · rw [if_pos h, List.filter_cons_of_pos (by simpa using h)]; rfl
  · rw [if_neg h, List.filter_cons_of_neg (by simpa using h)]; rfl
theorem ofC_mem {L : List Ask} {n : Int} {a : Ask} (h : a ∈ ofC L n) : a ∈ L ∧ a.client = n := by
  unfold ofC at h
  simpa [List.mem_filter] using h
theorem ofC_succ {L : List Ask} {j : Nat} (hj : j < L.length) (n : Int) : ofC (L.take (j + 1)) n = ofC (L.take j) n ++ (if L[j].client = n then [L[j]] else []) := by
  rw [List.take_succ_eq_append_getElem hj, ofC_append, ofC_one]
theorem ofC_le (L : List Ask) (n : Int) : (ofC L n).length ≤ L.length := List.length_filter_le _ _
theorem ofC_out {L : List Ask} (h : InC L) {n : Int} (hn : n < 0 ∨ 6 ≤ n) : ofC L n = [] := by
  unfold ofC
  rw [List.filter_eq_nil_iff]
  intro a ha
  have := h a ha
  simp
  omega
def putLL (L : List Ask) (a : Ask) : List Ask := if putErr (qsOf L) a = 0 then L ++ [a] else L
theorem putErr_in {l : Nat → List Ask} {a : Ask} (h : putErr l a = 0) : 0 ≤ a.client ∧ a.client < 6 := by
  unfold putErr at h
  split at h
  · cases h
  · split at h
    · rename_i h1
      have := inR_iff.1 h1
      omega
    · cases h
theorem putLL_qs (L : List Ask) (a : Ask) (d : Nat) : putTo (qsOf L) a d = qsOf (putLL L a) d := by
  unfold putTo putLL
  by_cases h : putErr (qsOf L) a = 0
  · rw [if_pos h, if_pos h]
    have hc := putErr_in h
    show (if d = a.client.toNat then qsOf L a.client.toNat ++ [a] else qsOf L d) = ofC (L ++ [a]) d
    rw [ofC_append, ofC_one]
    by_cases e : d = a.client.toNat
    · subst e
      rw [if_pos rfl, if_pos (by omega)]
      rfl
    · rw [if_neg e, if_neg (by omega), List.append_nil]
      rfl
  · rw [if_neg h, if_neg h]
theorem putLL_in {L : List Ask} (h : InC L) (a : Ask) : InC (putLL L a) := by
  unfold putLL
  split
  · rename_i h0
    intro x hx
    rcases List.mem_append.1 hx with hx | hx
    · exact h x hx
    · simp at hx; subst hx; exact putErr_in h0
  · exact h
theorem putErr_le (l : Nat → List Ask) (a : Ask) : putErr l a ≤ 12 := by
  unfold putErr
  split
  · omega
  · split
    · split <;> omega
    · omega
def clearLL (L : List Ask) (n : Int) : List Ask := L.filter (fun a => a.client != n)
theorem clearLL_qs (L : List Ask) (n : Int) (d : Nat) : qsOf (clearLL L n) d = if (d : Int) = n then [] else qsOf L d := by
  show ((L.filter (fun a => a.client != n)).filter (fun a => a.client == (d : Int))) = _
  rw [List.filter_filter]
  by_cases e : (d : Int) = n
  · rw [if_pos e, List.filter_eq_nil_iff]
    intro a _
    simp; intro h1; omega
  · rw [if_neg e]
    refine List.filter_congr fun a _ => ?_
    by_cases h : a.client = (d : Int)
    · simp [h]; omega
    · have : (a.client == (d : Int)) = false := by simpa using h
      rw [this]; rfl
theorem clearLL_in {L : List Ask} (h : InC L) (n : Int) : InC (clearLL L n) := fun a ha => h a (List.mem_filter.1 ha).1
theorem clearLL_len (L : List Ask) (n : Int) : (clearLL L n).length + (ofC L n).length = L.length := by
  unfold clearLL ofC
  induction L with
  | nil => rfl
  | cons a L ih =>
    by_cases h : a.client = n
    · rw [List.filter_cons_of_neg (by simpa using h), List.filter_cons_of_pos (by simpa using h), List.length_cons, List.length_cons]; omega
    · rw [List.filter_cons_of_pos (by simpa using h), List.filter_cons_of_neg (by simpa using h), List.length_cons, List.length_cons]; omega
theorem clearTo_succ {L : List Ask} {j : Nat} (hj : j < L.length) (n : Int) : clearLL (L.take (j + 1)) n = clearLL (L.take j) n ++ (if L[j].client = n then [] else [L[j]]) := by
  rw [List.take_succ_eq_append_getElem hj]
  unfold clearLL
  rw [List.filter_append]
  congr 1
  by_cases h : L[j].client = n
  · rw [if_pos h, List.filter_cons_of_neg (by simpa using h)]; rfl
  · rw [if_neg h, List.filter_cons_of_pos (by simpa using h)]; rfl
/-- What a drain leaves of the first j. -/
def restTo (L : List Ask) : Nat → List Ask
  | 0 => []
  | j + 1 => restTo L j ++ (match L[j]? with
    | some a => if (ofC (L.take j) a.client).length < 2 then [] else [a]
    | none => [])
theorem restTo_succ {L : List Ask} {j : Nat} (hj : j < L.length) : restTo L (j + 1) = restTo L j ++ (if (ofC (L.take j) L[j].client).length < 2 then [] else [L[j]]) := by
  show restTo L j ++ _ = _
  rw [List.getElem?_eq_getElem hj]
theorem restTo_ofC (L : List Ask) (n : Int) : ∀ j, j ≤ L.length → ofC (restTo L j) n = (ofC (L.take j) n).drop 2
  | 0, _ => rfl
  | j + 1, h => by
    have hj : j < L.length := by omega
    have ih := restTo_ofC L n j (by omega)
    rw [restTo_succ hj, ofC_append, ih, ofC_succ hj n]
    by_cases e : L[j].client = n
    · rw [if_pos e, e]
      by_cases h2 : (ofC (L.take j) n).length < 2
      · rw [if_pos h2, List.drop_of_length_le (by omega), List.drop_of_length_le (by simp; omega)]; rfl
      · rw [if_neg h2, ofC_one, if_pos e, List.drop_append_of_le_length (by omega)]
    · rw [if_neg e, List.append_nil]
      split
      · exact List.append_nil _
      · rw [ofC_one, if_neg e, List.append_nil]
theorem restTo_mem {L : List Ask} : ∀ j {a : Ask}, a ∈ restTo L j → a ∈ L
  | 0, a, h => by cases h
  | j + 1, a, h => by
    by_cases hj : j < L.length
    · rw [restTo_succ hj] at h
      rcases List.mem_append.1 h with h | h
      · exact restTo_mem j h
      · split at h
        · cases h
        · simp at h; subst h; exact List.getElem_mem hj
    · have e : restTo L (j + 1) = restTo L j := by
        show restTo L j ++ _ = _
        rw [List.getElem?_eq_none (by omega)]; exact List.append_nil _
      rw [e] at h
      exact restTo_mem j h
theorem restTo_len (L : List Ask) : ∀ j, (restTo L j).length ≤ j
  | 0 => Nat.le_refl _
  | j + 1 => by
    have := restTo_len L j
    by_cases hj : j < L.length
    · rw [restTo_succ hj, List.length_append]
      split <;> simp <;> omega
    · have e : restTo L (j + 1) = restTo L j := by
        show restTo L j ++ _ = _
        rw [List.getElem?_eq_none (by omega)]; exact List.append_nil _
      rw [e]; omega
def drainLL (L : List Ask) : List Ask := restTo L L.length
theorem drainLL_qs (L : List Ask) (d : Nat) : qsOf (drainLL L) d = (qsOf L d).drop 2 := by
  show ofC (restTo L L.length) d = _
  rw [restTo_ofC L d L.length (Nat.le_refl _), List.take_length]
  rfl
theorem drainLL_in {L : List Ask} (h : InC L) : InC (drainLL L) := fun a ha => h a (restTo_mem _ ha)
theorem take2_succ {L : List Ask} {j : Nat} (hj : j < L.length) (n : Int) : (ofC (L.take (j + 1)) n).take 2 = (ofC (L.take j) n).take 2 ++ (if L[j].client = n ∧ (ofC (L.take j) n).length < 2 then [L[j]] else []) := by
  rw [ofC_succ hj n]
  generalize ofC (L.take j) n = F
  by_cases e : L[j].client = n
  · rw [if_pos e]
    by_cases h2 : F.length < 2
    · rw [if_pos ⟨e, h2⟩, List.take_of_length_le (by simp; omega), List.take_of_length_le (by omega)]
    · rw [if_neg (by omega), List.append_nil, List.take_append_of_le_length (by omega)]
  · rw [if_neg e, if_neg (fun h => e h.1)]
    simp
/-- Whose turn has been, behind k rounds. -/
def doneC (turn k : Nat) (n : Int) : Bool := (List.range k).any fun q => (((turn + q) % 6 : Nat) : Int) == n
theorem doneC_succ (turn k : Nat) (n : Int) : doneC turn (k + 1) n = (doneC turn k n || ((((turn + k) % 6 : Nat) : Int) == n)) := by
  unfold doneC
  rw [List.range_succ, List.any_append]
  simp
theorem doneC_all (turn : Nat) {n : Int} (h : 0 ≤ n ∧ n < 6) : doneC turn 6 n = true := by
  unfold doneC
  rw [List.any_eq_true]
  obtain ⟨d, rfl⟩ : ∃ d : Nat, n = (d : Int) := ⟨n.toNat, by omega⟩
  refine ⟨(d + 6 - turn % 6) % 6, by simp; omega, ?_⟩
  simp
  omega
theorem doneC_not {turn k : Nat} (hk : k < 6) : doneC turn k (((turn + k) % 6 : Nat) : Int) = false := by
  unfold doneC
  rw [List.any_eq_false]
  intro q hq
  simp at hq
  simp
  omega
/-- Is the request at i gone, while j of round k have been read? -/
def goneP (L : List Ask) (turn k j i : Nat) : Bool := match L[i]? with
  | some a => (doneC turn k a.client || (((((turn + k) % 6 : Nat) : Int) == a.client) && decide (i < j))) && decide ((ofC (L.take i) a.client).length < 2)
  | none => false
def goneL (L : List Ask) (turn k j : Nat) : List Bool := (List.range L.length).map (goneP L turn k j)
theorem goneL_len (L : List Ask) (turn k j : Nat) : (goneL L turn k j).length = L.length := by simp [goneL]
theorem goneL_start (L : List Ask) (turn : Nat) : goneL L turn 0 0 = List.replicate L.length false := by
  unfold goneL
  apply List.ext_getElem
  · simp
  · intro i h1 h2
    have hi : i < L.length := by simpa using h1
    simp only [List.getElem_map, List.getElem_range, List.getElem_replicate, goneP]
    rw [List.getElem?_eq_getElem hi]
    simp [doneC]
theorem goneL_next (L : List Ask) (turn k : Nat) : goneL L turn k L.length = goneL L turn (k + 1) 0 := by
  unfold goneL
  refine List.map_congr_left fun i hi => ?_
  have hi : i < L.length := by simpa using hi
  unfold goneP
  rw [List.getElem?_eq_getElem hi]
  simp only [doneC_succ, Nat.not_lt_zero, decide_false, Bool.and_false, Bool.or_false, hi, decide_true, Bool.and_true]
theorem goneL_take {L : List Ask} {turn k j : Nat} (hj : j < L.length) (e : L[j].client = (((turn + k) % 6 : Nat) : Int)) (h2 : (ofC (L.take j) L[j].client).length < 2) : (goneL L turn k j).set j true = goneL L turn k (j + 1) := by
  apply List.ext_getElem
  · simp [goneL]
  · intro i h1 h3
    have hi : i < L.length := by simpa [goneL] using h1
    rw [List.getElem_set]
    simp only [goneL, List.getElem_map, List.getElem_range, goneP]
    rw [List.getElem?_eq_getElem hi]
    by_cases hij : j = i
    · subst hij
      rw [if_pos rfl]
      have e1 : ((((turn + k) % 6 : Nat) : Int) == L[j].client) = true := by rw [e]; exact beq_self_eq_true _
      show true = ((doneC turn k L[j].client || ((((turn + k) % 6 : Nat) : Int) == L[j].client && decide (j < j + 1))) && decide ((ofC (L.take j) L[j].client).length < 2))
      rw [e1, decide_eq_true (Nat.lt_succ_self j), decide_eq_true h2, Bool.true_and, Bool.or_true, Bool.true_and]
    · rw [if_neg hij]
      have : (decide (i < j + 1)) = decide (i < j) := by
        by_cases h : i < j
        · rw [decide_eq_true h, decide_eq_true (by omega)]
        · rw [decide_eq_false h, decide_eq_false (by omega)]
      rw [this]
theorem goneL_skip {L : List Ask} {turn k j : Nat} (hj : j < L.length) (e : ¬ (L[j].client = (((turn + k) % 6 : Nat) : Int) ∧ (ofC (L.take j) L[j].client).length < 2)) : goneL L turn k j = goneL L turn k (j + 1) := by
  unfold goneL
  refine List.map_congr_left fun i hi => ?_
  have hi : i < L.length := by simpa using hi
  unfold goneP
  rw [List.getElem?_eq_getElem hi]
  by_cases hij : i = j
  · subst hij
    by_cases h1 : L[i].client = (((turn + k) % 6 : Nat) : Int)
    · have h2 : ¬ (ofC (L.take i) L[i].client).length < 2 := fun h => e ⟨h1, h⟩
      simp [h2]
    · have h3 : ((((turn + k) % 6 : Nat) : Int) == L[i].client) = false := by simp; exact fun h => h1 h.symm
      simp only [h3, Bool.false_and]
  · have : (decide (i < j + 1)) = decide (i < j) := by
      by_cases h : i < j
      · rw [decide_eq_true h, decide_eq_true (by omega)]
      · rw [decide_eq_false h, decide_eq_false (by omega)]
    rw [this]
theorem goneL_end {L : List Ask} (hin : InC L) (turn : Nat) {j : Nat} (hj : j < L.length) : (goneL L turn 6 0)[j]'(by rw [goneL_len]; exact hj) = decide ((ofC (L.take j) L[j].client).length < 2) := by
  simp only [goneL, List.getElem_map, List.getElem_range, goneP]
  rw [List.getElem?_eq_getElem hj]
  simp only [doneC_all turn (hin _ (List.getElem_mem hj)), Bool.true_or, Bool.true_and]
theorem lens_le {L : List Ask} (hin : InC L) (h : ∀ c, c < 6 → (qsOf L c).length ≤ 6) : L.length ≤ 36 := by
  have e : ∀ (M : List Ask), InC M → M.length = (ofC M 0).length + (ofC M 1).length + (ofC M 2).length + (ofC M 3).length + (ofC M 4).length + (ofC M 5).length := by
    intro M
    induction M with
    | nil => intro _; rfl
    | cons a M ih =>
      intro hM
      have ih := ih (fun x hx => hM x (List.mem_cons_of_mem _ hx))
      have ha := hM a (by simp)
      have st : ∀ n : Int, (ofC (a :: M) n).length = (if a.client = n then 1 else 0) + (ofC M n).length := fun n => by
        unfold ofC
        by_cases h : a.client = n
        · rw [if_pos h, List.filter_cons_of_pos (by simpa using h), List.length_cons]; omega
        · rw [if_neg h, List.filter_cons_of_neg (by simpa using h)]; omega
      rw [st, st, st, st, st, st, List.length_cons]
      have : a.client = 0 ∨ a.client = 1 ∨ a.client = 2 ∨ a.client = 3 ∨ a.client = 4 ∨ a.client = 5 := by omega
      rcases this with h | h | h | h | h | h <;> simp [h] <;> omega
  have := e L hin
  have h0 : (ofC L 0).length ≤ 6 := h 0 (by omega)
  have h1 : (ofC L 1).length ≤ 6 := h 1 (by omega)
  have h2 : (ofC L 2).length ≤ 6 := h 2 (by omega)
  have h3 : (ofC L 3).length ≤ 6 := h 3 (by omega)
  have h4 : (ofC L 4).length ≤ 6 := h 4 (by omega)
  have h5 : (ofC L 5).length ≤ 6 := h 5 (by omega)
  omega
end Go.Proofs.YthngmmhoakegeaaDoor
