/- What the streams of package ration, and of the document, compute. -/
import Derived.Test.YtjkaeiioofknoaaDoorPrices
import Derived.Laws.Closers25b
import Derived.Laws.OwnMore
set_option linter.unusedSimpArgs false
set_option linter.unusedVariables false
namespace Go.Proofs.YtjkaeiioofknoaaDoor
open Go.RowKit

/-- The next number of a stream, in three steps. -/
def nx1 (x : Int) : Int := bits .xor .u32 x (x * 8192 % 4294967296)
def nx2 (x : Int) : Int := bits .xor .u32 x (x / 131072)
def nx3 (x : Int) : Int := bits .xor .u32 x (x * 32 % 4294967296)
def nxt (x : Int) : Int := nx3 (nx2 (nx1 x))
def seedOf (x : Int) : Int := if x = 0 then 2463534242 else x
def U32 (x : Int) : Prop := 0 ≤ x ∧ x < 4294967296
theorem bits_u32 (a b : Int) : U32 (bits .xor .u32 a b) := by
  have h := bits_within .xor .u32 a b
  simp [IntKind.min, IntKind.max, IntKind.bits, IntKind.signed] at h
  exact ⟨h.1, by omega⟩
theorem nxt_u32 (x : Int) : U32 (nxt x) := bits_u32 _ _
theorem seedOf_u32 {x : Int} (h : U32 x) : U32 (seedOf x) := by unfold seedOf U32 at *; split <;> omega

theorem nxt_eq (x : Int) : nxt x = bits .xor .u32 (bits .xor .u32 (bits .xor .u32 x (x * 8192 % 4294967296)) (bits .xor .u32 x (x * 8192 % 4294967296) / 131072)) (bits .xor .u32 (bits .xor .u32 x (x * 8192 % 4294967296)) (bits .xor .u32 x (x * 8192 % 4294967296) / 131072) * 32 % 4294967296) := rfl
theorem ret_u32 {a b : Int} (h : a = b) : Ending.returned (.int .u32 a) = .returned (.int .u32 b) := by rw [h]
theorem refNext_any (x : Int) (w : World) (h : U32 x) : Calls Tryd.prog 42 #[.int .u32 x] w fun e w' => e = .returned (.int .u32 (nxt x)) ∧ w = w' := by
  obtain ⟨h0, h1⟩ := h
  go_enter Tryd.func42, Tryd.ntmps42
  go_wp2
  all_goals go_ret
  exact ⟨ret_u32 (nxt_eq x).symm, rfl⟩
theorem refSeed_any (x : Int) (w : World) : Calls Tryd.prog 41 #[.int .u32 x] w fun e w' => e = .returned (.int .u32 (seedOf x)) ∧ w = w' := by
  cases h : (x == 0)
  · have hs : seedOf x = x := by unfold seedOf; rw [if_neg (by simpa using h)]
    have HS := Lib.hid hs
    clear hs
    go_enter Tryd.func41, Tryd.ntmps41
    go_wp2
    all_goals go_ret
    exact ⟨ret_u32 HS.out.symm, rfl⟩
  · have hs : seedOf x = 2463534242 := by unfold seedOf; rw [if_pos (by simpa using h)]
    have HS := Lib.hid hs
    clear hs
    go_enter Tryd.func41, Tryd.ntmps41
    go_wp2
    all_goals go_ret
    exact ⟨ret_u32 HS.out.symm, rfl⟩
theorem begin_any (x : Int) (w : World) : Calls Tryd.prog 63 #[.int .u32 x] w fun e w' => e = .returned (.int .u32 (seedOf x)) ∧ w = w' := by
  cases h : (x == 0)
  · have hs : seedOf x = x := by unfold seedOf; rw [if_neg (by simpa using h)]
    have HS := Lib.hid hs
    clear hs
    go_enter Tryd.func63, Tryd.ntmps63
    go_wp2
    all_goals go_ret
    exact ⟨ret_u32 HS.out.symm, rfl⟩
  · have hs : seedOf x = 2463534242 := by unfold seedOf; rw [if_pos (by simpa using h)]
    have HS := Lib.hid hs
    clear hs
    go_enter Tryd.func63, Tryd.ntmps63
    go_wp2
    all_goals go_ret
    exact ⟨ret_u32 HS.out.symm, rfl⟩
set_option maxRecDepth 100000 in
theorem next_any (p : Nat) (x : Int) (w : World) (h : U32 x) (hc : w.cell? ⟨p, 0, none⟩ = some (.int .u32 x)) (hf : w.frozen? ⟨p, 0, none⟩ = false) :
    Calls Tryd.prog 64 #[.pointer (some ⟨p, 0, none⟩)] w fun e w' => e = .returned (.int .u32 (nxt x)) ∧ w' = w.setCell ⟨p, 0, none⟩ (.int .u32 (nxt x)) := by
  obtain ⟨h0, h1⟩ := h
  go_enter Tryd.func64, Tryd.ntmps64
  go_wp2
  all_goals go_ret
  exact ⟨ret_u32 (nxt_eq x).symm, by rw [nxt_eq x]⟩

/-- The order of n things. -/
def swp (L : List Int) (i k : Nat) : List Int := (L.set i (L.getD k 0)).set k (L.getD i 0)
def shufF : Nat → List Int → Int → List Int
  | 0, L, _ => L
  | i + 1, L, x => shufF i (swp L (i + 1) ((nxt x % ((i : Int) + 2)).toNat)) (nxt x)
def rangeI (n : Nat) : List Int := (List.range n).map (fun i : Nat => (i : Int))
def shufL (n : Nat) (seed : Int) : List Int := shufF (n - 1) (rangeI n) (seedOf seed)
theorem swp_len (L : List Int) (i k : Nat) : (swp L i k).length = L.length := by simp [swp]
theorem rangeI_len (n : Nat) : (rangeI n).length = n := by simp [rangeI]
theorem rangeI_succ (n : Nat) : rangeI (n + 1) = rangeI n ++ [(n : Int)] := by simp [rangeI, List.range_succ]
theorem shufF_len : ∀ (i : Nat) (L : List Int) (x : Int), (shufF i L x).length = L.length
  | 0, _, _ => rfl
  | i + 1, L, x => by simp only [shufF]; rw [shufF_len i, swp_len]
theorem shufL_len (n : Nat) (seed : Int) : (shufL n seed).length = n := by rw [shufL, shufF_len, rangeI_len]
end Go.Proofs.YtjkaeiioofknoaaDoor
