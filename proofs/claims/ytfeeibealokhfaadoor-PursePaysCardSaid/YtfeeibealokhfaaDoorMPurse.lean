/- The document's purse: its client's eight numbers stored at once. -/
import Derived.Test.YtfeeibealokhfaaDoorPKeepsL
import Derived.Test.YtfeeibealokhfaaDoorLotErr
set_option linter.unusedSimpArgs false
set_option linter.unusedVariables false
namespace Go.Proofs.YtfeeibealokhfaaDoor
open Go.RowKit

def Pu.put (P : Pu) (c : Nat) (v : Nat → Int) : Pu := fun d j => if d = c then v j else P d j
/-- The block of a purse's numbers. -/
abbrev PRow (w : World) (p : Nat) (t : TypeId) (P : Pu) : Prop := w.rowIs p t 48 (fun n => .int .i64 (P (n / 8) (n % 8)))
section
variable {own : Nat → Nat} {i : Nat} {w : World} {p : Nat} {P : Pu} {t : TypeId}
theorem PRow.cell (h : PRow w p t P) {c j : Nat} (hc : c < 6) (hj : j < 8) : w.cell? ⟨p, c * 8 + j, none⟩ = some (.int .i64 (P c j)) := by
  have h1 := World.rowIs.cell h (i := c * 8 + j) (by omega)
  rw [h1]
  congr 2
  rw [show (c * 8 + j) / 8 = c by omega, show (c * 8 + j) % 8 = j by omega]
theorem PRow.setAll (h3 : PRow w p t P) (c : Nat) (v : Nat → Int) :
    PRow ((((((((w.setCell ⟨p, c * 8, none⟩ (.int .i64 (v 0))).setCell ⟨p, c * 8 + 1, none⟩ (.int .i64 (v 1))).setCell ⟨p, c * 8 + 2, none⟩ (.int .i64 (v 2))).setCell ⟨p, c * 8 + 3, none⟩ (.int .i64 (v 3))).setCell ⟨p, c * 8 + 4, none⟩ (.int .i64 (v 4))).setCell ⟨p, c * 8 + 5, none⟩ (.int .i64 (v 5))).setCell ⟨p, c * 8 + 6, none⟩ (.int .i64 (v 6))).setCell ⟨p, c * 8 + 7, none⟩ (.int .i64 (v 7))) p t (P.put c v) := by
  refine ((((((((h3.set (c * 8) _).set (c * 8 + 1) _).set (c * 8 + 2) _).set (c * 8 + 3) _).set (c * 8 + 4) _).set (c * 8 + 5) _).set (c * 8 + 6) _).set (c * 8 + 7) _).congr fun k hk => ?_
  by_cases e : k / 8 = c
  · have hk8 : k = c * 8 + k % 8 := by omega
    have : k % 8 = 0 ∨ k % 8 = 1 ∨ k % 8 = 2 ∨ k % 8 = 3 ∨ k % 8 = 4 ∨ k % 8 = 5 ∨ k % 8 = 6 ∨ k % 8 = 7 := by omega
    simp only [Pu.put, e, if_true]
    rcases this with e2 | e2 | e2 | e2 | e2 | e2 | e2 | e2 <;> rw [e2] at hk8 ⊢ <;> subst hk8 <;> simp
  · simp only [Pu.put, e, if_false]
    rw [if_neg (by omega), if_neg (by omega), if_neg (by omega), if_neg (by omega), if_neg (by omega), if_neg (by omega), if_neg (by omega), if_neg (by omega)]
/-- Eight stores turn one client alone. -/
theorem put8_block (w : World) (p c : Nat) (v : Nat → Int) {k : Nat} (hk : k ≠ p) :
    ((((((((w.setCell ⟨p, c * 8, none⟩ (.int .i64 (v 0))).setCell ⟨p, c * 8 + 1, none⟩ (.int .i64 (v 1))).setCell ⟨p, c * 8 + 2, none⟩ (.int .i64 (v 2))).setCell ⟨p, c * 8 + 3, none⟩ (.int .i64 (v 3))).setCell ⟨p, c * 8 + 4, none⟩ (.int .i64 (v 4))).setCell ⟨p, c * 8 + 5, none⟩ (.int .i64 (v 5))).setCell ⟨p, c * 8 + 6, none⟩ (.int .i64 (v 6))).setCell ⟨p, c * 8 + 7, none⟩ (.int .i64 (v 7))).heap[k]? = w.heap[k]? := by
  rw [Below.heap_setCell _ _ _ _ hk, Below.heap_setCell _ _ _ _ hk, Below.heap_setCell _ _ _ _ hk, Below.heap_setCell _ _ _ _ hk, Below.heap_setCell _ _ _ _ hk, Below.heap_setCell _ _ _ _ hk, Below.heap_setCell _ _ _ _ hk, Below.heap_setCell _ _ _ _ hk]
theorem put8_kp {a : World} (h : Kp own 1 i a w) (hp : own p = i) (c : Nat) (v : Nat → Int) :
    Kp own 1 i a ((((((((w.setCell ⟨p, c * 8, none⟩ (.int .i64 (v 0))).setCell ⟨p, c * 8 + 1, none⟩ (.int .i64 (v 1))).setCell ⟨p, c * 8 + 2, none⟩ (.int .i64 (v 2))).setCell ⟨p, c * 8 + 3, none⟩ (.int .i64 (v 3))).setCell ⟨p, c * 8 + 4, none⟩ (.int .i64 (v 4))).setCell ⟨p, c * 8 + 5, none⟩ (.int .i64 (v 5))).setCell ⟨p, c * 8 + 6, none⟩ (.int .i64 (v 6))).setCell ⟨p, c * 8 + 7, none⟩ (.int .i64 (v 7))) := by
  have h7 : ∀ q : Addr, q.block = p → (q.block < a.heap.size → own q.block / 1 = i) := fun q hq _ => by rw [hq, Nat.div_one]; exact hp
  exact ((((((((h.setCell (h7 _ rfl) _).setCell (h7 _ rfl) _).setCell (h7 _ rfl) _).setCell (h7 _ rfl) _).setCell (h7 _ rfl) _).setCell (h7 _ rfl) _).setCell (h7 _ rfl) _).setCell (h7 _ rfl) _)
/-- The end of a method that has stored one client. -/
theorem put_end {W : World} (hp : own p = i) (hr : PRow W p t P) (hI : PInv P) (hK : Kp own 1 i w W) : ObjTo own i i w (fun o w' => PurseAt o i w' p P) W :=
  ObjTo.of hK (PurseAt.toLab ⟨hp, hI, t, hr⟩)
/-- Eight numbers. -/
def vec8 (z0 z1 z2 z3 z4 z5 z6 z7 : Int) : Nat → Int := fun k => if k = 0 then z0 else if k = 1 then z1 else if k = 2 then z2 else if k = 3 then z3 else if k = 4 then z4 else if k = 5 then z5 else if k = 6 then z6 else z7
theorem PRow.set8 (h : PRow w p t P) (c : Nat) (z0 z1 z2 z3 z4 z5 z6 z7 : Int) :
    PRow ((((((((w.setCell ⟨p, c * 8, none⟩ (.int .i64 z0)).setCell ⟨p, c * 8 + 1, none⟩ (.int .i64 z1)).setCell ⟨p, c * 8 + 2, none⟩ (.int .i64 z2)).setCell ⟨p, c * 8 + 3, none⟩ (.int .i64 z3)).setCell ⟨p, c * 8 + 4, none⟩ (.int .i64 z4)).setCell ⟨p, c * 8 + 5, none⟩ (.int .i64 z5)).setCell ⟨p, c * 8 + 6, none⟩ (.int .i64 z6)).setCell ⟨p, c * 8 + 7, none⟩ (.int .i64 z7)) p t (P.put c (vec8 z0 z1 z2 z3 z4 z5 z6 z7)) := h.setAll c (vec8 z0 z1 z2 z3 z4 z5 z6 z7)
theorem PRow.ext (h : PRow w p t P) (l : List Obj) (d : Nat) : PRow (Proofs.YtfeeibealokhfaaDoor.ext w l d) p t P := rowIs_ext h l d
theorem PRow.other (h : PRow w p t P) {q : Nat} (hq : q ≠ p) (j : Nat) (v : Value) : PRow (w.setCell ⟨q, j, none⟩ v) p t P := World.rowIs.of_block h (Below.heap_setCell _ _ _ _ (fun e => hq (by simp [e])))
theorem PurseAt.prow (h : PurseAt own i w p P) : ∃ t, PRow w p t P := by obtain ⟨_, _, t, h⟩ := h; exact ⟨t, h⟩
theorem Pu.put_one {P : Pu} {c j : Nat} (x : Int) (v : Nat → Int) (h : ∀ k, k < 8 → v k = if k = j then x else P c k) (d k : Nat) (hk : k < 8) : P.put c v d k = P.set c j x d k := by
  unfold Pu.put Pu.set
  by_cases e : d = c
  · subst e
    rw [if_pos rfl, h k hk]
    by_cases e2 : k = j
    · simp [e2]
    · simp [e2]
  · simp [e]
theorem PRow.congr {Q : Pu} (h : PRow w p t P) (e : ∀ d k, k < 8 → P d k = Q d k) : PRow w p t Q := by
  refine World.rowIs.congr h fun k hk => ?_
  rw [e _ _ (by omega)]
theorem lt8 {k : Nat} (h : k < 8) : k = 0 ∨ k = 1 ∨ k = 2 ∨ k = 3 ∨ k = 4 ∨ k = 5 ∨ k = 6 ∨ k = 7 := by omega
/-- The end of a method of the document's purse that has stored one client. -/
theorem mput_obj (h : PurseAt own i w p P) {c : Nat} {z0 z1 z2 z3 z4 z5 z6 z7 : Int} {Q : Pu} (hI : PInv Q) (heq : ∀ d k, k < 8 → P.put c (vec8 z0 z1 z2 z3 z4 z5 z6 z7) d k = Q d k) {W : World}
    (hx : Ex ((((((((w.setCell ⟨p, c * 8, none⟩ (.int .i64 z0)).setCell ⟨p, c * 8 + 1, none⟩ (.int .i64 z1)).setCell ⟨p, c * 8 + 2, none⟩ (.int .i64 z2)).setCell ⟨p, c * 8 + 3, none⟩ (.int .i64 z3)).setCell ⟨p, c * 8 + 4, none⟩ (.int .i64 z4)).setCell ⟨p, c * 8 + 5, none⟩ (.int .i64 z5)).setCell ⟨p, c * 8 + 6, none⟩ (.int .i64 z6)).setCell ⟨p, c * 8 + 7, none⟩ (.int .i64 z7)) W) :
    ObjTo own i i w (fun o w' => PurseAt o i w' p Q) W := by
  obtain ⟨h1, h2, t, h3⟩ := h
  have hr := (PRow.set8 h3 c z0 z1 z2 z3 z4 z5 z6 z7).congr heq
  have hK := put8_kp (Kp.refl own 1 i w) h1 c (vec8 z0 z1 z2 z3 z4 z5 z6 z7)
  have hP : PurseAt own i W p Q := PurseAt.later ⟨h1, hI, t, hr⟩ hx
  have hb := hx.below
  refine ObjTo.of ?_ (PurseAt.toLab hP)
  exact hK.trans hb.os hb.tape hb.output hb.size fun k hk _ => hb.block k (Nat.lt_of_lt_of_le hk hK.size)
theorem heq_set {P : Pu} {c j : Nat} {v z0 z1 z2 z3 z4 z5 z6 z7 : Int} (e0 : z0 = if 0 = j then v else P c 0) (e1 : z1 = if 1 = j then v else P c 1) (e2 : z2 = if 2 = j then v else P c 2) (e3 : z3 = if 3 = j then v else P c 3) (e4 : z4 = if 4 = j then v else P c 4) (e5 : z5 = if 5 = j then v else P c 5) (e6 : z6 = if 6 = j then v else P c 6) (e7 : z7 = if 7 = j then v else P c 7) (d k : Nat) (hk : k < 8) :
    P.put c (vec8 z0 z1 z2 z3 z4 z5 z6 z7) d k = P.set c j v d k := by
  subst e0 e1 e2 e3 e4 e5 e6 e7
  by_cases e : d = c
  · subst e; rcases lt8 hk with rfl | rfl | rfl | rfl | rfl | rfl | rfl | rfl <;> simp [Pu.put, Pu.set, vec8]
  · simp [Pu.put, Pu.set, e]
theorem isItem_any (n : Int) (w : World) : Calls Tryd.prog 75 #[.int .i64 n] w fun e w' => e = .returned (.bool (inR n 0 2)) ∧ Ex w w' := by
  by_cases h : 0 ≤ n
  · by_cases h' : n < 3
    · rw [show inR n 0 2 = true from inR_iff.2 (by omega)]
      go_enter Tryd.func75, Tryd.ntmps75
      go_wp2
      all_goals go_ret
      all_goals exact ⟨rfl, (by repeat (first | exact Ex.refl _ | refine Ex.alloc ?_ _ | refine Ex.ext ?_ _ _ | refine Ex.drew ?_ | refine Ex.drewN ?_ _))⟩
    · rw [show inR n 0 2 = false from inR_not.2 (by omega)]
      go_enter Tryd.func75, Tryd.ntmps75
      go_wp2
      all_goals go_ret
      all_goals exact ⟨rfl, (by repeat (first | exact Ex.refl _ | refine Ex.alloc ?_ _ | refine Ex.ext ?_ _ _ | refine Ex.drew ?_ | refine Ex.drewN ?_ _))⟩
  · rw [show inR n 0 2 = false from inR_not.2 (by omega)]
    go_enter Tryd.func75, Tryd.ntmps75
    go_wp2
    all_goals go_ret
    all_goals exact ⟨rfl, (by repeat (first | exact Ex.refl _ | refine Ex.alloc ?_ _ | refine Ex.ext ?_ _ _ | refine Ex.drew ?_ | refine Ex.drewN ?_ _))⟩
theorem isItem_yes (n : Int) (w : World) (h : inR n 0 2 = true) : Calls Tryd.prog 75 #[.int .i64 n] w fun e w' => e = .returned (.bool true) ∧ Ex w w' := h ▸ isItem_any n w
theorem isClient_any (n : Int) (w : World) : Calls Tryd.prog 74 #[.int .i64 n] w fun e w' => e = .returned (.bool (inR n 0 5)) ∧ Ex w w' := by
  by_cases h : 0 ≤ n
  · by_cases h' : n < 6
    · rw [show inR n 0 5 = true from inR_iff.2 (by omega)]
      go_enter Tryd.func74, Tryd.ntmps74
      go_wp2
      all_goals go_ret
      all_goals exact ⟨rfl, (by repeat (first | exact Ex.refl _ | refine Ex.alloc ?_ _ | refine Ex.ext ?_ _ _ | refine Ex.drew ?_ | refine Ex.drewN ?_ _))⟩
    · rw [show inR n 0 5 = false from inR_not.2 (by omega)]
      go_enter Tryd.func74, Tryd.ntmps74
      go_wp2
      all_goals go_ret
      all_goals exact ⟨rfl, (by repeat (first | exact Ex.refl _ | refine Ex.alloc ?_ _ | refine Ex.ext ?_ _ _ | refine Ex.drew ?_ | refine Ex.drewN ?_ _))⟩
  · rw [show inR n 0 5 = false from inR_not.2 (by omega)]
    go_enter Tryd.func74, Tryd.ntmps74
    go_wp2
    all_goals go_ret
    all_goals exact ⟨rfl, (by repeat (first | exact Ex.refl _ | refine Ex.alloc ?_ _ | refine Ex.ext ?_ _ _ | refine Ex.drew ?_ | refine Ex.drewN ?_ _))⟩
end
end Go.Proofs.YtfeeibealokhfaaDoor
