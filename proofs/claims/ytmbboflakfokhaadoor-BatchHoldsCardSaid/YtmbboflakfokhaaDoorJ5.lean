import Derived.Test.YtmbboflakfokhaaDoorJ4
import Derived.Test.YtmbboflakfokhaaDoorJ0
import Derived.Test.YtmbboflakfokhaaDoorJ1
import Derived.Deep.OwnRows
import Derived.Deep.RegionHeld3
import Derived.LaidEqlPtr
import Derived.Lib.Builder
/- What Cancel, Take and Get of a book compute, whatever they are given. -/
set_option linter.unusedSimpArgs false
set_option linter.unusedVariables false
namespace Go.Proofs.YtmbboflakfokhaaDoor
open Go.RowKit

/-- Take: the error's number, the lots. -/
def takeR (l : List Lot) (id qty : Int) : Nat × List Lot :=
  match l.findIdx? (fun y => y.id == id) with
  | none => (6, l)
  | some k => match l[k]? with
    | none => (6, l)
    | some x => if qty < 1 ∨ x.qty < qty then (2, l) else if qty = x.qty then (0, l.eraseIdx k) else (0, l.set k (x.less qty))
/-- Cancel: the lot, the error's number, the lots. -/
def cancelR (l : List Lot) (id : Int) : Lot × Nat × List Lot :=
  match l.findIdx? (fun y => y.id == id) with
  | none => (zeroLot, 6, l)
  | some k => match l[k]? with
    | none => (zeroLot, 6, l)
    | some x => (x, 0, l.eraseIdx k)
/-- Get: the lot, is it one. -/
def getR (l : List Lot) (id : Int) : Lot × Bool :=
  match l.findIdx? (fun y => y.id == id) with
  | none => (zeroLot, false)
  | some k => match l[k]? with
    | none => (zeroLot, false)
    | some x => (x, true)
theorem find_none {l : List Lot} {id : Int} (h : idIdx l id = -1) : l.findIdx? (fun y => y.id == id) = none := by
  unfold idIdx at h
  cases hf : l.findIdx? (fun y => y.id == id) with
  | none => rfl
  | some k => rw [hf] at h; exact absurd (show (k : Int) = -1 from h) (by omega)
section
variable {own : Nat → Nat} {i : Nat} {w : World} {p : Nat} {l : List Lot}
theorem take_any (h : BookAt own i w p l) (id qty : Int) (E : Nat → Addr) (hE : Errs E [2, 6] w) :
    Calls Tryd.prog 59 #[.pointer (some ⟨p, 0, none⟩), .int .i64 id, .int .i64 qty] w fun e w' => e = .returned (errV E (takeR l id qty).1) ∧ ObjTo own i i w (fun o w' => BookAt o i w' p (takeR l id qty).2) w' := by
  rcases idIdx_cases l id with ⟨k, hk, hi, _, hf⟩ | ⟨hi, _⟩
  · have e : takeR l id qty = if qty < 1 ∨ l[k].qty < qty then (2, l) else if qty = l[k].qty then (0, l.eraseIdx k) else (0, l.set k (l[k].less qty)) := by
      unfold takeR
      rw [hf]
      simp only [List.getElem?_eq_getElem hk]
    rw [e]
    by_cases h1 : qty < 1 ∨ l[k].qty < qty
    · rw [if_pos h1]; exact take_bound h id qty E hE k hk hi h1
    · rw [if_neg h1]
      by_cases h2 : qty = l[k].qty
      · rw [if_pos h2]; exact take_all h id qty k hk hi (by omega) h2
      · rw [if_neg h2]; exact take_less h id qty k hk hi (by omega) (by omega)
  · have e : takeR l id qty = (6, l) := by unfold takeR; rw [find_none hi]
    rw [e]
    exact take_none h id qty E hE hi
theorem cancel_any (h : BookAt own i w p l) (id : Int) (E : Nat → Addr) (hE : Errs E [6] w) :
    Calls Tryd.prog 32 #[.pointer (some ⟨p, 0, none⟩), .int .i64 id] w fun e w' => e = .returned (.tuple #[(cancelR l id).1.val, errV E (cancelR l id).2.1]) ∧ ObjTo own i i w (fun o w' => BookAt o i w' p (cancelR l id).2.2) w' := by
  rcases idIdx_cases l id with ⟨k, hk, hi, _, hf⟩ | ⟨hi, _⟩
  · have e : cancelR l id = (l[k], 0, l.eraseIdx k) := by
      unfold cancelR
      rw [hf]
      simp only [List.getElem?_eq_getElem hk]
    rw [e]
    exact cancel_in h id k hk hi
  · have e : cancelR l id = (zeroLot, 6, l) := by unfold cancelR; rw [find_none hi]
    rw [e]
    exact cancel_none h id E hE hi
theorem get_any (h : BookAt own i w p l) (id : Int) :
    Calls Tryd.prog 17 #[.pointer (some ⟨p, 0, none⟩), .int .i64 id] w fun e w' => e = .returned (.tuple #[(getR l id).1.val, .bool (getR l id).2]) ∧ Ex w w' := by
  rcases idIdx_cases l id with ⟨k, hk, hi, _, hf⟩ | ⟨hi, _⟩
  · have e : getR l id = (l[k], true) := by
      unfold getR
      rw [hf]
      simp only [List.getElem?_eq_getElem hk]
    rw [e]
    exact get_in h id k hk hi
  · have e : getR l id = (zeroLot, false) := by unfold getR; rw [find_none hi]
    rw [e]
    exact get_out h id hi
end
/-- The IDs of an owner's lots. -/
def ownerL (l : List Lot) (n : Int) : List Int := (l.filter (fun x => x.owner == n)).map (·.id)
theorem infoIntB : (Tryd.prog.info? 3).map (fun i => (i.zero, i.size, i.bytes)) = some (some (.int .i64 0), 1, 8) := by kernel_rfl
section
variable {own : Nat → Nat} {i : Nat} {w : World} {p : Nat} {l : List Lot}
theorem ownerL_snoc (l : List Lot) (k : Nat) (hk : k < l.length) (n : Int) : ownerL (l.take (k + 1)) n = ownerL (l.take k) n ++ (if l[k].owner == n then [l[k].id] else []) := by
  rw [List.take_succ_eq_append_getElem hk]
  unfold ownerL
  rw [List.filter_append, List.map_append]
  congr 1
  by_cases h : (l[k].owner == n) = true
  · simp [h]
  · simp [h]
theorem ownerL_le (l : List Lot) (n : Int) : (ownerL l n).length ≤ l.length := by
  unfold ownerL
  rw [List.length_map]
  exact List.length_filter_le _ _
set_option maxRecDepth 100000 in
set_option maxHeartbeats 2000000 in
theorem owner_any (h : BookAt own i w p l) (n : Int) :
    Calls Tryd.prog 46 #[.pointer (some ⟨p, 0, none⟩), .int .i64 n] w fun e w' => (∃ v, e = .returned v ∧ w'.ownsRow w.heap.size 3 1 v (ownerL l n).length ((ownerL l n).map (Value.int .i64))) ∧ Ex w w' := by
  obtain ⟨i0, hi0, hz0, hz1, hz2⟩ := info_parts infoIntB
  obtain ⟨ao, cap, c0, hc, hm, h0, hl, hr⟩ := h.slice
  have hp := h.lt
  have hb := h.1
  obtain ⟨_, _, _, hz⟩ := hl
  have HZ := Lib.hid hz
  clear h hr h0 hz
  go_enter Tryd.func46, Tryd.ntmps46
  go_wp2_with fail
  go_loopw [5, 13] (fun v i wr => ∃ (k : Nat) (u : Value), u = v ∧ k ≤ l.length ∧ i = .int .i64 (k : Int) ∧ wr.ownsRow w.heap.size 3 1 u (ownerL (l.take k) n).length ((ownerL (l.take k) n).map (Value.int .i64)) ∧ Ex w wr) (fun _ i _ => l.length - (intOf i).toNat)
  case atStart => exact ⟨0, _, rfl, Nat.zero_le _, rfl, World.ownsRow_nil _ _ _ _, (by repeat (first | exact Ex.refl _ | refine Ex.alloc ?_ _ | refine Ex.ext ?_ _ _ | refine Ex.drew ?_ | refine Ex.drewN ?_ _))⟩
  case round =>
    obtain ⟨k, v, rfl, hk, rfl, hrow, hex⟩ := hrel
    have hsz := hex.below.size
    have HROW := Lib.hid hrow
    have HEX := Lib.hid hex
    by_cases hlt : k < l.length
    · obtain ⟨g, off, rfl, hg, hcc⟩ := HZ.out (by omega)
      have hcx : ∀ j, j < 5 → wr.cell? ⟨g, off + k * 5 + j, none⟩ = l[k].cells[j]? := fun j hj => (hex.below.cell (p := ⟨g, off + k * 5 + j, none⟩) hg).trans (hcc k hlt j hj)
      have hgr : g < wr.heap.size := by omega
      have a0 := hcx 0 (by omega)
      have a1 := hcx 1 (by omega)
      have a2 := hcx 2 (by omega)
      have a3 := hcx 3 (by omega)
      have a4 := hcx 4 (by omega)
      simp only [Lot.cells, List.getElem?_cons_zero, List.getElem?_cons_succ, Nat.add_zero] at a0 a1 a2 a3 a4
      have hsn := ownerL_snoc l k hlt n
      have hle := ownerL_le (l.take k) n
      have hle2 : (l.take k).length ≤ 60 := by rw [List.length_take]; omega
      have HSN := Lib.hid hsn
      obtain ⟨aov, capv, hv⟩ : ∃ ao cap, v = .slice ao (ownerL (l.take k) n).length cap := by
        obtain ⟨_, ⟨rfl, h2⟩ | ⟨g, cap, cur, rfl, _⟩⟩ := hrow
        · exact ⟨none, 0, by rw [h2]⟩
        · exact ⟨_, _, rfl⟩
      subst hv
      clear hcc hcx hsn hrow hex
      generalize l[k] = x at *
      by_cases ho : (x.owner == n) = true
      · rw [if_pos ho] at HSN
        generalize ownerL (l.take k) n = D at *
        go_wp2_with (at_builtin; refine wpList_append_own _ rfl (.tmp 21) (.tmp 24) 108 rfl w.heap.size 3 i0 _ 1 8 Tryd.underlying108 hi0 hz0 hz1 hz2 rfl (by decide) (.slice aov D.length capv) D.length (D.map (Value.int .i64)) rfl ?_ _ 1 1 [.int .i64 x.id] rfl rfl ?_ ?_ (by unfold maxLen; omega) (by omega) ?_ ?_; (focus (refine HROW.out.kept (belowGrownBy ?_) (Classical.em _); ((refine Below.trans (Below.refl _ _) ?_; repeat (first | exact Below.refl _ _ | (refine Below.drew ?_) | (refine Below.drewN ?_ _) | (refine Below.ext ?_ (by first | omega | (simp [go_sem]; done) | (simp [go_sem]; omega)) _ _) | (refine Below.alloc ?_ (by first | omega | (simp [go_sem]; done) | (simp [go_sem]; omega)) _) | (refine Below.setCell ?_ (by first | omega | (simp [go_sem]; done) | (simp [go_sem]; omega)) _)))))); (focus exact World.news_of_block (alloc_top (by first | rfl | (simp [ext_size]; done) | (simp [ext_size]; omega)))); (focus simp [Value.oneCell']); (focus (simp [go_sem, ext_size]; omega)); intro v1 w3 hown hgrow hnil; have HOW := Lib.hid hown; have HGR := Lib.hid hgrow; clear hown hgrow hnil)
        go_roundw
        case measure => simp [intOf]; omega
        case rel => exact ⟨k + 1, _, rfl, by omega, by go_num, by rw [HSN.out, List.length_append, List.map_append]; exact HOW.out, Ex.of (Below.grown (HEX.out.trans (show Ex wr ((wr.alloc (.cells #[.int .i64 x.id, .int .i64 x.owner, .int .i64 x.side, .int .i64 x.price, .int .i64 x.qty] 56)).alloc (.cells #[.int .i64 x.id] 3)) from (by repeat (first | exact Ex.refl _ | refine Ex.alloc ?_ _ | refine Ex.ext ?_ _ _ | refine Ex.drew ?_ | refine Ex.drewN ?_ _)))).below HGR.out (by simp [go_sem, ext_size]; omega) (fun j hj => (HROW.out.lt j hj).1))⟩
      · rw [if_neg ho, List.append_nil] at HSN
        have ho2 : (x.owner == n) = false := by simpa using ho
        go_wp2_with fail
        go_roundw
        case measure => simp [intOf]; omega
        case rel => exact ⟨k + 1, _, rfl, by omega, by go_num, by rw [HSN.out]; exact HROW.out.kept (belowGrownBy (by (refine Below.trans (Below.refl _ _) ?_; repeat (first | exact Below.refl _ _ | (refine Below.drew ?_) | (refine Below.drewN ?_ _) | (refine Below.ext ?_ (by first | omega | (simp [go_sem]; done) | (simp [go_sem]; omega)) _ _) | (refine Below.alloc ?_ (by first | omega | (simp [go_sem]; done) | (simp [go_sem]; omega)) _) | (refine Below.setCell ?_ (by first | omega | (simp [go_sem]; done) | (simp [go_sem]; omega)) _))))) (Classical.em _), HEX.out.trans (by repeat (first | exact Ex.refl _ | refine Ex.alloc ?_ _ | refine Ex.ext ?_ _ _ | refine Ex.drew ?_ | refine Ex.drewN ?_ _))⟩
    · obtain rfl : k = l.length := by omega
      rw [List.take_length] at HROW
      go_wp2_with fail
      all_goals go_ret
      all_goals exact ⟨⟨v, rfl, HROW.out⟩, HEX.out.trans (by repeat (first | exact Ex.refl _ | refine Ex.alloc ?_ _ | refine Ex.ext ?_ _ _ | refine Ex.drew ?_ | refine Ex.drewN ?_ _))⟩
end
end Go.Proofs.YtmbboflakfokhaaDoor

/- A purse of all clients: one block of 48 numbers. -/
set_option linter.unusedSimpArgs false
set_option linter.unusedVariables false
namespace Go.Proofs.YtmbboflakfokhaaDoor
open Go.RowKit

/-- What each client has: cash, held, stock (three), kept (three). -/
def Pu := Nat → Nat → Int
def Pu.set (P : Pu) (c j : Nat) (v : Int) : Pu := fun d k => if d = c ∧ k = j then v else P d k
def PInv (P : Pu) : Prop := ∀ c, c < 6 → 0 ≤ P c 1 ∧ P c 1 ≤ P c 0 ∧ P c 0 ≤ 1099511627776 ∧ ∀ i, i < 3 → 0 ≤ P c (5 + i) ∧ P c (5 + i) ≤ P c (2 + i) ∧ P c (2 + i) ≤ 1073741824

def PurseAt (own : Nat → Nat) (i : Nat) (w : World) (p : Nat) (P : Pu) : Prop :=
  own p = i ∧ PInv P ∧ ∃ t, w.rowIs p t 48 (fun n => .int .i64 (P (n / 8) (n % 8)))

section
variable {own own' : Nat → Nat} {i m g : Nat} {w w' : World} {p : Nat} {P : Pu}
theorem PurseAt.lt (h : PurseAt own i w p P) : p < w.heap.size := by obtain ⟨_, _, t, h⟩ := h; exact h.lt
theorem PurseAt.free (h : PurseAt own i w p P) (j : Nat) : w.frozen? ⟨p, j, none⟩ = false := by obtain ⟨_, _, t, h⟩ := h; exact h.frozen j
theorem PurseAt.cell (h : PurseAt own i w p P) {c j : Nat} (hc : c < 6) (hj : j < 8) : w.cell? ⟨p, c * 8 + j, none⟩ = some (.int .i64 (P c j)) := by
  obtain ⟨_, _, t, h⟩ := h
  have h1 := h.cell (i := c * 8 + j) (by omega)
  rw [h1]
  congr 2
  rw [show (c * 8 + j) / 8 = c by omega, show (c * 8 + j) % 8 = j by omega]
theorem PurseAt.kp (h : PurseAt own i w p P) (hk : Kp own m g w w') (hi : i / m ≠ g) (ho : ∀ n, n < w.heap.size → own n = i → own' n = i) : PurseAt own' i w' p P := by
  have hl := h.lt
  obtain ⟨h1, h2, t, h3⟩ := h
  exact ⟨ho p hl h1, h2, t, h3.of_block (hk.block p hl (by rw [h1]; exact hi))⟩
theorem PurseAt.exts (h : PurseAt own i w p P) (bs : List Obj) (d : Nat) : PurseAt own i (ext w bs d) p P := h.kp (m := 1) (g := i + 1) (Kp.ext (Kp.refl _ _ _ _) bs d) (by simp) (fun _ _ h => h)
theorem PurseAt.alloc (h : PurseAt own i w p P) (o : Obj) : PurseAt own i (w.alloc o) p P := h.kp (m := 1) (g := i + 1) (Kp.alloc (Kp.refl _ _ _ _) o) (by simp) (fun _ _ h => h)
theorem PurseAt.later (h : PurseAt own i w p P) (hx : Ex w w') : PurseAt own i w' p P := by obtain ⟨bs, d, rfl⟩ := hx; exact h.exts bs d
theorem PurseAt.relabel (h : PurseAt own i w p P) (ho : ∀ n, n < w.heap.size → own n = i → own' n = i) : PurseAt own' i w p P := h.kp (m := 1) (g := i + 1) (Kp.refl _ _ _ _) (by simp) ho
theorem PurseAt.set (h : PurseAt own i w p P) {c j : Nat} (hc : c < 6) (hj : j < 8) (v : Int) (hv : PInv (P.set c j v)) {b : Value} (hb : b = .int .i64 v) {n : Nat} (hn : n = c * 8 + j) : PurseAt own i (w.setCell ⟨p, n, none⟩ b) p (P.set c j v) := by
  subst hb hn
  obtain ⟨h1, h2, t, h3⟩ := h
  refine ⟨h1, hv, t, (h3.set (c * 8 + j) _).congr fun k hk => ?_⟩
  by_cases e : k = c * 8 + j
  · subst e
    rw [if_pos rfl]
    congr 1
    unfold Pu.set
    rw [if_pos ⟨by omega, by omega⟩]
  · rw [if_neg e]
    congr 1
    unfold Pu.set
    rw [if_neg (by omega)]
end

/-- Is an item one, and a lot well? -/
def rightB (item : Int) (x : Lot) : Bool := inR item 0 2 && x.ok
/-- Why a lot is not held (0: it is). -/
def holdE (P : Pu) (item : Int) (x : Lot) : Nat :=
  if rightB item x then
    (if x.side = 0 then (if P x.owner.toNat 0 - P x.owner.toNat 1 < x.price * x.qty then 10 else 0)
     else (if P x.owner.toNat (2 + item.toNat) - P x.owner.toNat (5 + item.toNat) < x.qty then 10 else 0))
  else 2
def holdP (P : Pu) (item : Int) (x : Lot) : Pu :=
  if holdE P item x = 0 then
    (if x.side = 0 then P.set x.owner.toNat 1 (P x.owner.toNat 1 + x.price * x.qty) else P.set x.owner.toNat (5 + item.toNat) (P x.owner.toNat (5 + item.toNat) + x.qty))
  else P
/-- Why nothing is freed for a lot (0: it is). -/
def freeE (P : Pu) (item : Int) (x : Lot) : Nat :=
  if rightB item x then
    (if x.side = 0 then (if P x.owner.toNat 1 < x.price * x.qty then 10 else 0)
     else (if P x.owner.toNat (5 + item.toNat) < x.qty then 10 else 0))
  else 2
def freeP (P : Pu) (item : Int) (x : Lot) : Pu :=
  if freeE P item x = 0 then
    (if x.side = 0 then P.set x.owner.toNat 1 (P x.owner.toNat 1 - x.price * x.qty) else P.set x.owner.toNat (5 + item.toNat) (P x.owner.toNat (5 + item.toNat) - x.qty))
  else P

theorem PInv.set_held {P : Pu} (h : PInv P) {c : Nat} (v : Int) (h0 : 0 ≤ v) (h1 : v ≤ P c 0) : PInv (P.set c 1 v) := fun d hd => by
  obtain ⟨a1, a2, a3, a4⟩ := h d hd
  refine ⟨?_, ?_, ?_, fun i hi => ?_⟩
  · unfold Pu.set; split
    · exact h0
    · exact a1
  · unfold Pu.set
    rw [if_neg (show ¬ (d = c ∧ 0 = 1) by omega)]
    split
    · rename_i e; rw [e.1]; exact h1
    · exact a2
  · unfold Pu.set; rw [if_neg (by omega)]; exact a3
  · unfold Pu.set
    rw [if_neg (by omega), if_neg (by omega)]
    exact a4 i hi
theorem PInv.set_kept {P : Pu} (h : PInv P) {c i : Nat} (hi : i < 3) (v : Int) (h0 : 0 ≤ v) (h1 : v ≤ P c (2 + i)) : PInv (P.set c (5 + i) v) := fun d hd => by
  obtain ⟨a1, a2, a3, a4⟩ := h d hd
  refine ⟨?_, ?_, ?_, fun k hk => ?_⟩
  · unfold Pu.set; rw [if_neg (by omega)]; exact a1
  · unfold Pu.set; rw [if_neg (by omega), if_neg (by omega)]; exact a2
  · unfold Pu.set; rw [if_neg (by omega)]; exact a3
  · obtain ⟨b1, b2, b3⟩ := a4 k hk
    unfold Pu.set
    rw [if_neg (show ¬ (d = c ∧ 2 + k = 5 + i) by omega)]
    split
    · rename_i e
      obtain ⟨rfl, e2⟩ := e
      have e3 : k = i := by omega
      subst e3
      exact ⟨h0, h1, b3⟩
    · exact ⟨b1, b2, b3⟩
theorem Lot.okC {x : Lot} (h : x.ok = true) : (1 ≤ x.id ∧ x.id ≤ 1073741824) ∧ (0 ≤ x.owner ∧ x.owner ≤ 5) ∧ (0 ≤ x.side ∧ x.side ≤ 1) ∧ (1 ≤ x.price ∧ x.price ≤ 1000) ∧ (1 ≤ x.qty ∧ x.qty ≤ 1000) := by
  simp only [Lot.ok, Bool.and_eq_true] at h
  exact ⟨inR_iff.1 h.1.1.1.1, inR_iff.1 h.1.1.1.2, inR_iff.1 h.1.1.2, inR_iff.1 h.1.2, inR_iff.1 h.2⟩
theorem mul_bd {a b : Int} (h1 : 1 ≤ a) (h2 : a ≤ 1000) (h3 : 1 ≤ b) (h4 : b ≤ 1000) : 1 ≤ a * b ∧ a * b ≤ 1000000 := by
  constructor
  · have := Int.mul_le_mul h1 h3 (by omega) (by omega); omega
  · have := Int.mul_le_mul h2 h4 (by omega) (by omega); omega
theorem hold_inv {P : Pu} (h : PInv P) (item : Int) (x : Lot) : PInv (holdP P item x) := by
  unfold holdP
  split
  · rename_i he
    unfold holdE at he
    split at he
    · rename_i hr
      simp only [rightB, Bool.and_eq_true] at hr
      obtain ⟨hi0, hi2⟩ := inR_iff.1 hr.1
      obtain ⟨_, ho, _, hp, hq⟩ := Lot.okC hr.2
      obtain ⟨a1, a2, a3, a4⟩ := h x.owner.toNat (by omega)
      have hm := mul_bd hp.1 hp.2 hq.1 hq.2
      split at he
      · rename_i hs
        rw [if_pos hs]
        split at he
        · cases he
        · exact h.set_held _ (by omega) (by omega)
      · rename_i hs
        rw [if_neg hs]
        split at he
        · cases he
        · have := a4 item.toNat (by omega)
          exact h.set_kept (by omega) _ (by omega) (by omega)
    · cases he
  · exact h
theorem free_inv {P : Pu} (h : PInv P) (item : Int) (x : Lot) : PInv (freeP P item x) := by
  unfold freeP
  split
  · rename_i he
    unfold freeE at he
    split at he
    · rename_i hr
      simp only [rightB, Bool.and_eq_true] at hr
      obtain ⟨hi0, hi2⟩ := inR_iff.1 hr.1
      obtain ⟨_, ho, _, hp, hq⟩ := Lot.okC hr.2
      obtain ⟨a1, a2, a3, a4⟩ := h x.owner.toNat (by omega)
      have hm := mul_bd hp.1 hp.2 hq.1 hq.2
      split at he
      · rename_i hs
        rw [if_pos hs]
        split at he
        · cases he
        · exact h.set_held _ (by omega) (by omega)
      · rename_i hs
        rw [if_neg hs]
        split at he
        · cases he
        · have := a4 item.toNat (by omega)
          exact h.set_kept (by omega) _ (by omega) (by omega)
    · cases he
  · exact h
end Go.Proofs.YtmbboflakfokhaaDoor

/- What client, right, New and Of of package purse compute. -/
set_option linter.unusedSimpArgs false
set_option linter.unusedVariables false
namespace Go.Proofs.YtmbboflakfokhaaDoor
open Go.RowKit

theorem pclient_any (n : Int) (w : World) : Calls Tryd.prog 43 #[.int .i64 n] w fun e w' => e = .returned (.bool (inR n 0 5)) ∧ Ex w w' := by
  by_cases h : 0 ≤ n
  · by_cases h' : n < 6
    · rw [show inR n 0 5 = true from inR_iff.2 (by omega)]
      go_enter Tryd.func43, Tryd.ntmps43
      go_wp2
      all_goals go_ret
      all_goals exact ⟨rfl, (by repeat (first | exact Ex.refl _ | refine Ex.alloc ?_ _ | refine Ex.ext ?_ _ _ | refine Ex.drew ?_ | refine Ex.drewN ?_ _))⟩
    · rw [show inR n 0 5 = false from inR_not.2 (by omega)]
      go_enter Tryd.func43, Tryd.ntmps43
      go_wp2
      all_goals go_ret
      all_goals exact ⟨rfl, (by repeat (first | exact Ex.refl _ | refine Ex.alloc ?_ _ | refine Ex.ext ?_ _ _ | refine Ex.drew ?_ | refine Ex.drewN ?_ _))⟩
  · rw [show inR n 0 5 = false from inR_not.2 (by omega)]
    go_enter Tryd.func43, Tryd.ntmps43
    go_wp2
    all_goals go_ret
    all_goals exact ⟨rfl, (by repeat (first | exact Ex.refl _ | refine Ex.alloc ?_ _ | refine Ex.ext ?_ _ _ | refine Ex.drew ?_ | refine Ex.drewN ?_ _))⟩

set_option maxRecDepth 100000 in
theorem right_any (item : Int) (x : Lot) (E : Nat → Addr) (w : World) (hE : Errs E [2] w) : Calls Tryd.prog 49 #[.int .i64 item, x.val] w fun e w' => e = .returned (.bool (rightB item x)) ∧ Ex w w' := by
  have HO := Lib.hid (fun w (h : Errs E [2] w) => one_any x E w h)
  have HE := Lib.hid hE
  clear hE
  by_cases h0 : 0 ≤ item
  · by_cases h1 : item < 3
    · cases hk : x.ok
      · rw [show rightB item x = false by simp [rightB, hk]]
        rw [hk] at HO
        simp only [Bool.false_eq_true, if_false, errV_pos E 2 (by decide)] at HO
        clear hk
        go_enter Tryd.func49, Tryd.ntmps49
        go_wp2_with (go_at_call 48; refine (HO.out _ (by exact HE.out.ex (by repeat (first | exact Ex.refl _ | refine Ex.alloc ?_ _ | refine Ex.ext ?_ _ _ | refine Ex.drew ?_ | refine Ex.drewN ?_ _)))).mono ?_; rintro e w1 ⟨rfl, l1, d1, rfl⟩)
        all_goals go_ret
        all_goals exact ⟨rfl, (by repeat (first | exact Ex.refl _ | refine Ex.alloc ?_ _ | refine Ex.ext ?_ _ _ | refine Ex.drew ?_ | refine Ex.drewN ?_ _))⟩
      · rw [show rightB item x = true by simp [rightB, hk, inR_iff]; omega]
        rw [hk] at HO
        simp only [if_true, errV_zero] at HO
        clear hk
        go_enter Tryd.func49, Tryd.ntmps49
        go_wp2_with (go_at_call 48; refine (HO.out _ (by exact HE.out.ex (by repeat (first | exact Ex.refl _ | refine Ex.alloc ?_ _ | refine Ex.ext ?_ _ _ | refine Ex.drew ?_ | refine Ex.drewN ?_ _)))).mono ?_; rintro e w1 ⟨rfl, l1, d1, rfl⟩)
        all_goals go_ret
        all_goals exact ⟨rfl, (by repeat (first | exact Ex.refl _ | refine Ex.alloc ?_ _ | refine Ex.ext ?_ _ _ | refine Ex.drew ?_ | refine Ex.drewN ?_ _))⟩
    · rw [show rightB item x = false by rw [rightB, show inR item 0 2 = false from inR_not.2 (by omega)]; rfl]
      go_enter Tryd.func49, Tryd.ntmps49
      go_wp2
      all_goals go_ret
      all_goals exact ⟨rfl, (by repeat (first | exact Ex.refl _ | refine Ex.alloc ?_ _ | refine Ex.ext ?_ _ _ | refine Ex.drew ?_ | refine Ex.drewN ?_ _))⟩
  · rw [show rightB item x = false by rw [rightB, show inR item 0 2 = false from inR_not.2 (by omega)]; rfl]
    go_enter Tryd.func49, Tryd.ntmps49
    go_wp2
    all_goals go_ret
    all_goals exact ⟨rfl, (by repeat (first | exact Ex.refl _ | refine Ex.alloc ?_ _ | refine Ex.ext ?_ _ _ | refine Ex.drew ?_ | refine Ex.drewN ?_ _))⟩

section
variable {own : Nat → Nat} {i : Nat} {w : World} {p : Nat} {P : Pu}
/-- What a client has, as a value. -/
abbrev hasV (P : Pu) (c : Nat) : Value := .agg #[.int .i64 (P c 0), .int .i64 (P c 1), .int .i64 (P c 2), .int .i64 (P c 3), .int .i64 (P c 4), .int .i64 (P c 5), .int .i64 (P c 6), .int .i64 (P c 7)]
set_option maxRecDepth 100000 in
theorem of_in (h : PurseAt own i w p P) (c : Nat) (hc : c < 6) : Calls Tryd.prog 18 #[.pointer (some ⟨p, 0, none⟩), .int .i64 (c : Int)] w fun e w' => e = .returned (hasV P c) ∧ Ex w w' := by
  have q0 := h.cell hc (j := 0) (by omega)
  have q1 := h.cell hc (j := 1) (by omega)
  have q2 := h.cell hc (j := 2) (by omega)
  have q3 := h.cell hc (j := 3) (by omega)
  have q4 := h.cell hc (j := 4) (by omega)
  have q5 := h.cell hc (j := 5) (by omega)
  have q6 := h.cell hc (j := 6) (by omega)
  have q7 := h.cell hc (j := 7) (by omega)
  have hp := h.lt
  have HC := Lib.hid (pclient_any (c : Int))
  rw [show inR (c : Int) 0 5 = true from inR_iff.2 (by omega)] at HC
  clear h
  have c0 : (0 : Int) ≤ (c : Int) := by omega
  have c6 : (c : Int) < 6 := by omega
  simp only [Nat.add_zero] at q0
  go_enter Tryd.func18, Tryd.ntmps18
  go_wp2_with (go_at_call 43; refine (HC.out _).mono ?_; rintro e w1 ⟨rfl, l1, d1, rfl⟩)
  all_goals (try simp only [Exit.inBlock, Exit.then])
  all_goals (refine bodyPost_ret (v := hasV P c) ?_ rfl ⟨rfl, (by repeat (first | exact Ex.refl _ | refine Ex.alloc ?_ _ | refine Ex.ext ?_ _ _ | refine Ex.drew ?_ | refine Ex.drewN ?_ _))⟩)
  all_goals simp only [results, Tryd.results18]
  all_goals simp [go_sem, ↓IntWalk.iteOmega]
set_option maxRecDepth 100000 in
theorem of_out (n : Int) (hn : inR n 0 5 = false) : Calls Tryd.prog 18 #[.pointer (some ⟨p, 0, none⟩), .int .i64 n] w fun e w' => e = .returned (hasV (fun _ _ => 0) 0) ∧ Ex w w' := by
  have HC := Lib.hid (pclient_any n)
  rw [hn] at HC
  clear hn
  go_enter Tryd.func18, Tryd.ntmps18
  go_wp2_with (go_at_call 43; refine (HC.out _).mono ?_; rintro e w1 ⟨rfl, l1, d1, rfl⟩)
  all_goals (try simp only [Exit.inBlock, Exit.then])
  all_goals (refine bodyPost_ret (v := hasV (fun _ _ => 0) 0) ?_ rfl ⟨rfl, (by repeat (first | exact Ex.refl _ | refine Ex.alloc ?_ _ | refine Ex.ext ?_ _ _ | refine Ex.drew ?_ | refine Ex.drewN ?_ _))⟩)
  all_goals simp only [results, Tryd.results18]
  all_goals simp [go_sem, ↓IntWalk.iteOmega]

theorem PurseAt.fresh (own : Nat → Nat) (i : Nat) (w : World) (t : TypeId) (hp : own w.heap.size = i) (cs : Array Value) (hc : cs = Array.replicate 48 (.int .i64 0)) : PurseAt own i (w.alloc (.cells cs t)) w.heap.size (fun _ _ => 0) :=
  by
  subst hc
  refine ⟨hp, fun c _ => by simp, t, ?_⟩
  have h := World.rowIs_alloc w (Array.replicate 48 (Value.int .i64 0)) t (fun n => .int .i64 0) (fun j hj => by simp at hj; simp [hj])
  simpa using h
set_option maxRecDepth 100000 in
theorem purseNew (own : Nat → Nat) (i : Nat) (w : World) : Calls Tryd.prog 26 #[] w fun e w' => e = .returned (.pointer (some ⟨w.heap.size, 0, none⟩)) ∧ ObjTo own i i w (fun o w' => PurseAt o i w' w.heap.size (fun _ _ => 0)) w' := by
  go_enter Tryd.func26, Tryd.ntmps26
  go_wp2
  all_goals go_ret
  all_goals exact ⟨rfl, ObjTo.of (by repeat (first | exact Kp.refl _ _ _ _ | (refine Kp.alloc ?_ _) | (refine Kp.drew ?_) | (refine Kp.drewN ?_ _) | (refine Kp.ext ?_ _ _))) (PurseAt.fresh _ _ _ _ (by simp [lab]) _ rfl)⟩

set_option maxRecDepth 100000 in
set_option maxHeartbeats 1000000 in
theorem hold_bad (h : PurseAt own i w p P) (item : Int) (x : Lot) (E : Nat → Addr) (hE : Errs E [2, 10] w) (hr : rightB item x = false) :
    Calls Tryd.prog 31 #[.pointer (some ⟨p, 0, none⟩), .int .i64 item, x.val] w fun e w' => e = .returned (errV E 2) ∧ ObjTo own i i w (fun o w' => PurseAt o i w' p P) w' := by
  have HR := Lib.hid (fun w (h : Errs E [2] w) => right_any item x E w h)
  rw [hr] at HR
  have e2 : w.cell? ⟨0, 0, none⟩ = some (.iface 160 (.pointer (some (E 2)))) := hE 2 (by decide)
  have b2 : 0 < w.heap.size := lt_of_cell e2
  have HE := Lib.hid hE
  have H := Lib.hid h
  clear hE hr h
  rw [errV_pos E 2 (by decide)]
  go_enter Tryd.func31, Tryd.ntmps31
  go_wp2_with (go_at_call 49; refine (HR.out _ (by exact Errs.sub (HE.out.ex (by repeat (first | exact Ex.refl _ | refine Ex.alloc ?_ _ | refine Ex.ext ?_ _ _ | refine Ex.drew ?_ | refine Ex.drewN ?_ _))) (by decide))).mono ?_; rintro e w1 ⟨rfl, l1, d1, rfl⟩)
  all_goals go_ret
  all_goals exact ⟨rfl, ObjTo.of_ex (by repeat (first | exact Ex.refl _ | refine Ex.alloc ?_ _ | refine Ex.ext ?_ _ _ | refine Ex.drew ?_ | refine Ex.drewN ?_ _)) ((H.out.relabel (fun n hn e => by rw [lab_lt hn]; exact e)).later (by repeat (first | exact Ex.refl _ | refine Ex.alloc ?_ _ | refine Ex.ext ?_ _ _ | refine Ex.drew ?_ | refine Ex.drewN ?_ _)))⟩
set_option maxRecDepth 100000 in
set_option maxHeartbeats 1000000 in
theorem free_bad (h : PurseAt own i w p P) (item : Int) (x : Lot) (E : Nat → Addr) (hE : Errs E [2, 10] w) (hr : rightB item x = false) :
    Calls Tryd.prog 62 #[.pointer (some ⟨p, 0, none⟩), .int .i64 item, x.val] w fun e w' => e = .returned (errV E 2) ∧ ObjTo own i i w (fun o w' => PurseAt o i w' p P) w' := by
  have HR := Lib.hid (fun w (h : Errs E [2] w) => right_any item x E w h)
  rw [hr] at HR
  have e2 : w.cell? ⟨0, 0, none⟩ = some (.iface 160 (.pointer (some (E 2)))) := hE 2 (by decide)
  have b2 : 0 < w.heap.size := lt_of_cell e2
  have HE := Lib.hid hE
  have H := Lib.hid h
  clear hE hr h
  rw [errV_pos E 2 (by decide)]
  go_enter Tryd.func62, Tryd.ntmps62
  go_wp2_with (go_at_call 49; refine (HR.out _ (by exact Errs.sub (HE.out.ex (by repeat (first | exact Ex.refl _ | refine Ex.alloc ?_ _ | refine Ex.ext ?_ _ _ | refine Ex.drew ?_ | refine Ex.drewN ?_ _))) (by decide))).mono ?_; rintro e w1 ⟨rfl, l1, d1, rfl⟩)
  all_goals go_ret
  all_goals exact ⟨rfl, ObjTo.of_ex (by repeat (first | exact Ex.refl _ | refine Ex.alloc ?_ _ | refine Ex.ext ?_ _ _ | refine Ex.drew ?_ | refine Ex.drewN ?_ _)) ((H.out.relabel (fun n hn e => by rw [lab_lt hn]; exact e)).later (by repeat (first | exact Ex.refl _ | refine Ex.alloc ?_ _ | refine Ex.ext ?_ _ _ | refine Ex.drew ?_ | refine Ex.drewN ?_ _)))⟩
end
end Go.Proofs.YtmbboflakfokhaaDoor

/- What fair of package purse computes. -/
set_option linter.unusedSimpArgs false
set_option linter.unusedVariables false
namespace Go.Proofs.YtmbboflakfokhaaDoor
open Go.RowKit

/-- Why two lots may not trade so much at a price (0: they may). -/
def fairE (item : Int) (b s : Lot) (price qty : Int) : Nat :=
  if rightB item b && rightB item s then
    (if b.side = 0 ∧ s.side = 1 then
      (if price < 1 ∨ 1000 < price ∨ qty < 1 ∨ b.qty < qty ∨ s.qty < qty then 2
       else if b.price < price ∨ price < s.price then 12 else 0)
     else 3)
  else 2
set_option maxRecDepth 100000 in
set_option maxHeartbeats 2000000 in
theorem fair_any (item : Int) (b s : Lot) (price qty : Int) (E : Nat → Addr) (w : World) (hE : Errs E [2, 3, 12] w) :
    Calls Tryd.prog 70 #[.int .i64 item, b.val, s.val, .int .i64 price, .int .i64 qty] w fun e w' => e = .returned (errV E (fairE item b s price qty)) ∧ Ex w w' := by
  have e2 : w.cell? ⟨0, 0, none⟩ = some (.iface 160 (.pointer (some (E 2)))) := hE 2 (by decide)
  have b2 : 0 < w.heap.size := lt_of_cell e2
  have e3 : w.cell? ⟨6, 0, none⟩ = some (.iface 160 (.pointer (some (E 3)))) := hE 3 (by decide)
  have b3 : 6 < w.heap.size := lt_of_cell e3
  have e12 : w.cell? ⟨7, 0, none⟩ = some (.iface 160 (.pointer (some (E 12)))) := hE 12 (by decide)
  have b12 : 7 < w.heap.size := lt_of_cell e12
  have HB := Lib.hid (fun w (h : Errs E [2] w) => right_any item b E w h)
  have HS := Lib.hid (fun w (h : Errs E [2] w) => right_any item s E w h)
  have HE := Lib.hid hE
  clear hE
  cases hb : rightB item b
  · rw [hb] at HB
    rw [show fairE item b s price qty = 2 by simp [fairE, hb], errV_pos _ _ (by decide)]
    clear hb
    go_enter Tryd.func70, Tryd.ntmps70
    go_wp2_with fail
    refine (HB.out _ (by exact Errs.sub (HE.out.ex (by repeat (first | exact Ex.refl _ | refine Ex.alloc ?_ _ | refine Ex.ext ?_ _ _ | refine Ex.drew ?_ | refine Ex.drewN ?_ _))) (by decide))).mono ?_
    rintro e w1 ⟨rfl, l1, d1, rfl⟩
    go_wp2_with fail
    all_goals go_ret
    all_goals exact ⟨rfl, (by repeat (first | exact Ex.refl _ | refine Ex.alloc ?_ _ | refine Ex.ext ?_ _ _ | refine Ex.drew ?_ | refine Ex.drewN ?_ _))⟩
  · cases hs : rightB item s
    · rw [hb] at HB
      rw [hs] at HS
      rw [show fairE item b s price qty = 2 by simp [fairE, hs], errV_pos _ _ (by decide)]
      clear hb hs
      go_enter Tryd.func70, Tryd.ntmps70
      go_wp2_with fail
      refine (HB.out _ (by exact Errs.sub (HE.out.ex (by repeat (first | exact Ex.refl _ | refine Ex.alloc ?_ _ | refine Ex.ext ?_ _ _ | refine Ex.drew ?_ | refine Ex.drewN ?_ _))) (by decide))).mono ?_
      rintro e w1 ⟨rfl, l1, d1, rfl⟩
      go_wp2_with fail
      refine (HS.out _ (by exact Errs.sub (HE.out.ex (by repeat (first | exact Ex.refl _ | refine Ex.alloc ?_ _ | refine Ex.ext ?_ _ _ | refine Ex.drew ?_ | refine Ex.drewN ?_ _))) (by decide))).mono ?_
      rintro e w2 ⟨rfl, l2, d2, rfl⟩
      go_wp2_with fail
      all_goals go_ret
      all_goals exact ⟨rfl, (by repeat (first | exact Ex.refl _ | refine Ex.alloc ?_ _ | refine Ex.ext ?_ _ _ | refine Ex.drew ?_ | refine Ex.drewN ?_ _))⟩
    · rw [hb] at HB
      rw [hs] at HS
      have HX : Hid (fairE item b s price qty = (if b.side = 0 ∧ s.side = 1 then (if price < 1 ∨ 1000 < price ∨ qty < 1 ∨ b.qty < qty ∨ s.qty < qty then 2 else if b.price < price ∨ price < s.price then 12 else 0) else 3)) := by
        show fairE item b s price qty = _
        simp [fairE, hb, hs]
      clear hb hs
      go_enter Tryd.func70, Tryd.ntmps70
      go_wp2_with fail
      refine (HB.out _ (by exact Errs.sub (HE.out.ex (by repeat (first | exact Ex.refl _ | refine Ex.alloc ?_ _ | refine Ex.ext ?_ _ _ | refine Ex.drew ?_ | refine Ex.drewN ?_ _))) (by decide))).mono ?_
      rintro e w1 ⟨rfl, l1, d1, rfl⟩
      go_wp2_with fail
      refine (HS.out _ (by exact Errs.sub (HE.out.ex (by repeat (first | exact Ex.refl _ | refine Ex.alloc ?_ _ | refine Ex.ext ?_ _ _ | refine Ex.drew ?_ | refine Ex.drewN ?_ _))) (by decide))).mono ?_
      rintro e w2 ⟨rfl, l2, d2, rfl⟩
      go_wp2_with fail
      all_goals go_ret
      all_goals have hx := HX.out
      all_goals clear HX HB HS HE e2 e3 e12
      all_goals (try simp only [bne_iff_ne, ne_eq, bne_eq_false_iff_eq] at *)
      all_goals refine ⟨?_, (by repeat (first | exact Ex.refl _ | refine Ex.alloc ?_ _ | refine Ex.ext ?_ _ _ | refine Ex.drew ?_ | refine Ex.drewN ?_ _))⟩
      all_goals first
        | (rw [hx, if_neg (by omega), errV_pos _ _ (by decide)]; rfl)
        | (rw [hx, if_pos (by omega), if_pos (by omega), errV_pos _ _ (by decide)]; rfl)
        | (rw [hx, if_pos (by omega), if_neg (by omega), if_pos (by omega), errV_pos _ _ (by decide)]; rfl)
        | (rw [hx, if_pos (by omega), if_neg (by omega), if_neg (by omega), errV_zero]; rfl)
end Go.Proofs.YtmbboflakfokhaaDoor

/- What Trade of package purse computes. -/
set_option linter.unusedSimpArgs false
set_option linter.unusedVariables false
namespace Go.Proofs.YtmbboflakfokhaaDoor
open Go.RowKit

/-- Why nothing is traded (0: it is). -/
def tradeE (P : Pu) (item : Int) (b s : Lot) (price qty : Int) : Nat :=
  if fairE item b s price qty = 0 then
    (if P b.owner.toNat 1 < b.price * qty ∨ P s.owner.toNat (5 + item.toNat) < qty then 10
     else if b.owner.toNat ≠ s.owner.toNat ∧ (1073741824 - P b.owner.toNat (2 + item.toNat) < qty ∨ 1099511627776 - P s.owner.toNat 0 < price * qty) then 8 else 0)
  else fairE item b s price qty
def trade1 (P : Pu) (bo : Nat) (n : Int) : Pu := P.set bo 1 (P bo 1 - n)
def trade2 (P : Pu) (bo : Nat) (n : Int) : Pu := P.set bo 0 (P bo 0 - n)
def tradeP (P : Pu) (item : Int) (b s : Lot) (price qty : Int) : Pu :=
  if tradeE P item b s price qty = 0 then
    (let bo := b.owner.toNat
     let so := s.owner.toNat
     let it := item.toNat
     let P1 := P.set bo 1 (P bo 1 - b.price * qty)
     let P2 := P1.set bo 0 (P1 bo 0 - price * qty)
     let P3 := P2.set so (5 + it) (P2 so (5 + it) - qty)
     let P4 := P3.set so (2 + it) (P3 so (2 + it) - qty)
     let P5 := P4.set bo (2 + it) (P4 bo (2 + it) + qty)
     P5.set so 0 (P5 so 0 + price * qty))
  else P
theorem PInv.set_cash {P : Pu} (h : PInv P) {c : Nat} (v : Int) (h0 : P c 1 ≤ v) (h1 : v ≤ 1099511627776) : PInv (P.set c 0 v) := fun d hd => by
  obtain ⟨a1, a2, a3, a4⟩ := h d hd
  refine ⟨?_, ?_, ?_, fun i hi => ?_⟩
  · unfold Pu.set; rw [if_neg (by omega)]; exact a1
  · unfold Pu.set
    rw [if_neg (show ¬ (d = c ∧ 1 = 0) by omega)]
    split
    · rename_i e; rw [e.1]; exact h0
    · exact a2
  · unfold Pu.set; split
    · exact h1
    · exact a3
  · unfold Pu.set
    rw [if_neg (by omega), if_neg (by omega)]
    exact a4 i hi
theorem PInv.set_stock {P : Pu} (h : PInv P) {c i : Nat} (hi : i < 3) (v : Int) (h0 : P c (5 + i) ≤ v) (h1 : v ≤ 1073741824) : PInv (P.set c (2 + i) v) := fun d hd => by
  obtain ⟨a1, a2, a3, a4⟩ := h d hd
  refine ⟨?_, ?_, ?_, fun k hk => ?_⟩
  · unfold Pu.set; rw [if_neg (by omega)]; exact a1
  · unfold Pu.set; rw [if_neg (by omega), if_neg (by omega)]; exact a2
  · unfold Pu.set; rw [if_neg (by omega)]; exact a3
  · obtain ⟨b1, b2, b3⟩ := a4 k hk
    unfold Pu.set
    rw [if_neg (show ¬ (d = c ∧ 5 + k = 2 + i) by omega)]
    split
    · rename_i e
      obtain ⟨rfl, e2⟩ := e
      have e3 : k = i := by omega
      subst e3
      exact ⟨b1, h0, h1⟩
    · exact ⟨b1, b2, b3⟩
theorem Pu.set_same (P : Pu) (c j : Nat) (v : Int) : P.set c j v c j = v := if_pos ⟨rfl, rfl⟩
theorem Pu.set_other (P : Pu) {c j d k : Nat} (v : Int) (h : ¬ (d = c ∧ k = j)) : P.set c j v d k = P d k := if_neg h
theorem infoHas : ∃ j, Tryd.prog.info? 60 = some j ∧ j.size = 8 := by
  have h : (Tryd.prog.info? 60).map (fun i => i.size) = some 8 := by kernel_rfl
  obtain ⟨j, h1, h2⟩ := Option.map_eq_some_iff.1 h
  exact ⟨j, h1, h2⟩
theorem neHasPtr_same (w : World) (a : Addr) : (binOp .neq 111 (.pointer (some a)) (.pointer (some a))).run Tryd.prog w = .ok (.bool false) w := by
  obtain ⟨j, hj, _⟩ := infoHas
  exact Lib.run_neq_ptr_same w a Tryd.underlying111 hj
theorem neHasPtr_other (w : World) (p a b : Nat) (hab : a ≠ b) (hw : ∃ cs t, w.heap[p]? = some (.cells cs t (0, 0))) : (binOp .neq 111 (.pointer (some ⟨p, a, none⟩)) (.pointer (some ⟨p, b, none⟩))).run Tryd.prog w = .ok (.bool true) w := by
  obtain ⟨j, hj, hs⟩ := infoHas
  obtain ⟨cs, t, hg⟩ := hw
  have hne : (⟨p, a, none⟩ : Addr) ≠ ⟨p, b, none⟩ := fun e => hab (by cases e; rfl)
  have h : ∀ d : Nat, (Op.equalIn (d + 1) 111 (.pointer (some ⟨p, a, none⟩)) (.pointer (some ⟨p, b, none⟩))).run Tryd.prog w = .ok false w := fun d => by
    simp [Op.equalIn, run_underlying Tryd.underlying111, sizeOf, typeInfo, hj, hs, run_sameAddr_other w hne hg hg]
  simp only [binOp]
  simp [Op.equal, Op.maxDepth, h 9999]
/-- What is known of the world while a trade is written. -/
def TradeR (own : Nat → Nat) (i : Nat) (w : World) (p : Nat) (bp : Int) (P : Pu) (W : World) : Prop := PurseAt own i W p P ∧ Kp own 1 i w W ∧ W.cell? ⟨w.heap.size, 3, none⟩ = some (.int .i64 bp) ∧ p < w.heap.size
theorem PurseAt.block {own : Nat → Nat} {i : Nat} {W : World} {p : Nat} {P : Pu} (h : PurseAt own i W p P) : ∃ cs t, W.heap[p]? = some (.cells cs t (0, 0)) := by
  obtain ⟨_, _, t, cs, hg, _⟩ := h
  exact ⟨cs, t, hg⟩
theorem TradeR.set {own : Nat → Nat} {i : Nat} {w : World} {p : Nat} {bp : Int} {P : Pu} {W : World} (h : TradeR own i w p bp P W) {c j : Nat} (hc : c < 6) (hj : j < 8) (v : Int) (hv : PInv (P.set c j v)) {n : Nat} (hn : n = c * 8 + j) : TradeR own i w p bp (P.set c j v) (W.setCell ⟨p, n, none⟩ (.int .i64 v)) := by
  obtain ⟨h1, h2, h3, h4⟩ := h
  refine ⟨h1.set hc hj v hv rfl hn, h2.setCell (fun _ => by rw [Nat.div_one]; exact h1.1) _, ?_, h4⟩
  rw [← h3]
  exact World.cell?_of_block (Below.heap_setCell _ _ _ _ (show w.heap.size ≠ p by omega))
theorem TradeR.drew {own : Nat → Nat} {i : Nat} {w : World} {p : Nat} {bp : Int} {P : Pu} {W : World} (h : TradeR own i w p bp P W) : TradeR own i w p bp P W.drew := ⟨h.1.later (Ex.drew (Ex.refl _)), h.2.1.drew, h.2.2.1, h.2.2.2⟩
end Go.Proofs.YtmbboflakfokhaaDoor
