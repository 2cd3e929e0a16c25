/- What Cancel, Take and Get of a book compute, whatever they are given. -/
import Derived.Test.YtfeeibealokhfaaDoorBTake
set_option linter.unusedSimpArgs false
set_option linter.unusedVariables false
namespace Go.Proofs.YtfeeibealokhfaaDoor
open Go.RowKit

/-- Take: the error's number, the lots. -/
def takeR (l : List Lot) (id qty : Int) : Nat × List Lot :=
  match l.findIdx? (fun y => y.id == id) with
  | none => (6, l)
  | some k => match l[k]? with
    | none => (6, l)
    | some x => if qty < 1 ∨ x.qty < qty then (2, l) else if qty = x.qty then (0, l.eraseIdx k) else (0, l.set k (x.less qty))
/-- Cancel: the lot, the error's number, the lots. -/
def cancelR (l : List Lot) (id : Int) : Lot × Nat × List Lot :=
  match l.findIdx? (fun y => y.id == id) with
  | none => (zeroLot, 6, l)
  | some k => match l[k]? with
    | none => (zeroLot, 6, l)
    | some x => (x, 0, l.eraseIdx k)
/-- Get: the lot, is it one. -/
def getR (l : List Lot) (id : Int) : Lot × Bool :=
  match l.findIdx? (fun y => y.id == id) with
  | none => (zeroLot, false)
  | some k => match l[k]? with
    | none => (zeroLot, false)
    | some x => (x, true)
theorem find_none {l : List Lot} {id : Int} (h : idIdx l id = -1) : l.findIdx? (fun y => y.id == id) = none := by
  unfold idIdx at h
  cases hf : l.findIdx? (fun y => y.id == id) with
  | none => rfl
  | some k => rw [hf] at h; exact absurd (show (k : Int) = -1 from h) (by omega)
section
variable {own : Nat → Nat} {i : Nat} {w : World} {p : Nat} {l : List Lot}
theorem take_any (h : BookAt own i w p l) (id qty : Int) (E : Nat → Addr) (hE : Errs E [2, 6] w) :
    Calls Tryd.prog 30 #[.pointer (some ⟨p, 0, none⟩), .int .i64 id, .int .i64 qty] w fun e w' => e = .returned (errV E (takeR l id qty).1) ∧ ObjTo own i i w (fun o w' => BookAt o i w' p (takeR l id qty).2) w' := by
  rcases idIdx_cases l id with ⟨k, hk, hi, _, hf⟩ | ⟨hi, _⟩
  · have e : takeR l id qty = if qty < 1 ∨ l[k].qty < qty then (2, l) else if qty = l[k].qty then (0, l.eraseIdx k) else (0, l.set k (l[k].less qty)) := by
      unfold takeR
      rw [hf]
      simp only [List.getElem?_eq_getElem hk]
    rw [e]
    by_cases h1 : qty < 1 ∨ l[k].qty < qty
    · rw [if_pos h1]; exact take_bound h id qty E hE k hk hi h1
    · rw [if_neg h1]
      by_cases h2 : qty = l[k].qty
      · rw [if_pos h2]; exact take_all h id qty k hk hi (by omega) h2
      · rw [if_neg h2]; exact take_less h id qty k hk hi (by omega) (by omega)
  · have e : takeR l id qty = (6, l) := by unfold takeR; rw [find_none hi]
    rw [e]
    exact take_none h id qty E hE hi
theorem cancel_any (h : BookAt own i w p l) (id : Int) (E : Nat → Addr) (hE : Errs E [6] w) :
    Calls Tryd.prog 29 #[.pointer (some ⟨p, 0, none⟩), .int .i64 id] w fun e w' => e = .returned (.tuple #[(cancelR l id).1.val, errV E (cancelR l id).2.1]) ∧ ObjTo own i i w (fun o w' => BookAt o i w' p (cancelR l id).2.2) w' := by
  rcases idIdx_cases l id with ⟨k, hk, hi, _, hf⟩ | ⟨hi, _⟩
  · have e : cancelR l id = (l[k], 0, l.eraseIdx k) := by
      unfold cancelR
      rw [hf]
      simp only [List.getElem?_eq_getElem hk]
    rw [e]
    exact cancel_in h id k hk hi
  · have e : cancelR l id = (zeroLot, 6, l) := by unfold cancelR; rw [find_none hi]
    rw [e]
    exact cancel_none h id E hE hi
theorem get_any (h : BookAt own i w p l) (id : Int) :
    Calls Tryd.prog 52 #[.pointer (some ⟨p, 0, none⟩), .int .i64 id] w fun e w' => e = .returned (.tuple #[(getR l id).1.val, .bool (getR l id).2]) ∧ Ex w w' := by
  rcases idIdx_cases l id with ⟨k, hk, hi, _, hf⟩ | ⟨hi, _⟩
  · have e : getR l id = (l[k], true) := by
      unfold getR
      rw [hf]
      simp only [List.getElem?_eq_getElem hk]
    rw [e]
    exact get_in h id k hk hi
  · have e : getR l id = (zeroLot, false) := by unfold getR; rw [find_none hi]
    rw [e]
    exact get_out h id hi
end
/-- The IDs of an owner's lots. -/
def ownerL (l : List Lot) (n : Int) : List Int := (l.filter (fun x => x.owner == n)).map (·.id)
theorem infoInt : (Tryd.prog.info? 3).map (fun i => (i.zero, i.size, i.bytes)) = some (some (.int .i64 0), 1, 8) := by kernel_rfl
section
variable {own : Nat → Nat} {i : Nat} {w : World} {p : Nat} {l : List Lot}
theorem ownerL_snoc (l : List Lot) (k : Nat) (hk : k < l.length) (n : Int) : ownerL (l.take (k + 1)) n = ownerL (l.take k) n ++ (if l[k].owner == n then [l[k].id] else []) := by
  rw [List.take_succ_eq_append_getElem hk]
  unfold ownerL
  rw [List.filter_append, List.map_append]
  congr 1
  by_cases h : (l[k].owner == n) = true
  · simp [h]
  · simp [h]
theorem ownerL_le (l : List Lot) (n : Int) : (ownerL l n).length ≤ l.length := by
  unfold ownerL
  rw [List.length_map]
  exact List.length_filter_le _ _
set_option maxRecDepth 100000 in
set_option maxHeartbeats 2000000 in
theorem owner_any (h : BookAt own i w p l) (n : Int) :
    Calls Tryd.prog 57 #[.pointer (some ⟨p, 0, none⟩), .int .i64 n] w fun e w' => (∃ v, e = .returned v ∧ w'.ownsRow w.heap.size 3 1 v (ownerL l n).length ((ownerL l n).map (Value.int .i64))) ∧ Ex w w' := by
  obtain ⟨i0, hi0, hz0, hz1, hz2⟩ := info_parts infoInt
  obtain ⟨ao, cap, c0, hc, hm, h0, hl, hr⟩ := h.slice
  have hp := h.lt
  have hb := h.1
  obtain ⟨_, _, _, hz⟩ := hl
  have HZ := Lib.hid hz
  clear h hr h0 hz
  go_enter Tryd.func57, Tryd.ntmps57
  go_wp2_with fail
  go_loopw [5, 13] (fun v i wr => ∃ (k : Nat) (u : Value), u = v ∧ k ≤ l.length ∧ i = .int .i64 (k : Int) ∧ wr.ownsRow w.heap.size 3 1 u (ownerL (l.take k) n).length ((ownerL (l.take k) n).map (Value.int .i64)) ∧ Ex w wr) (fun _ i _ => l.length - (intOf i).toNat)
  case atStart => exact ⟨0, _, rfl, Nat.zero_le _, rfl, World.ownsRow_nil _ _ _ _, (by repeat (first | exact Ex.refl _ | refine Ex.alloc ?_ _ | refine Ex.ext ?_ _ _ | refine Ex.drew ?_ | refine Ex.drewN ?_ _))⟩
  case round =>
    obtain ⟨k, v, rfl, hk, rfl, hrow, hex⟩ := hrel
    have hsz := hex.below.size
    have HROW := Lib.hid hrow
    have HEX := Lib.hid hex
    by_cases hlt : k < l.length
    · obtain ⟨g, off, rfl, hg, hcc⟩ := HZ.out (by omega)
      have hcx : ∀ j, j < 5 → wr.cell? ⟨g, off + k * 5 + j, none⟩ = l[k].cells[j]? := fun j hj => (hex.below.cell (p := ⟨g, off + k * 5 + j, none⟩) hg).trans (hcc k hlt j hj)
      have hgr : g < wr.heap.size := by omega
      have a0 := hcx 0 (by omega)
      have a1 := hcx 1 (by omega)
      have a2 := hcx 2 (by omega)
      have a3 := hcx 3 (by omega)
      have a4 := hcx 4 (by omega)
      simp only [Lot.cells, List.getElem?_cons_zero, List.getElem?_cons_succ, Nat.add_zero] at a0 a1 a2 a3 a4
      have hsn := ownerL_snoc l k hlt n
      have hle := ownerL_le (l.take k) n
      have hle2 : (l.take k).length ≤ 60 := by rw [List.length_take]; omega
      have HSN := Lib.hid hsn
      obtain ⟨aov, capv, hv⟩ : ∃ ao cap, v = .slice ao (ownerL (l.take k) n).length cap := by
        obtain ⟨_, ⟨rfl, h2⟩ | ⟨g, cap, cur, rfl, _⟩⟩ := hrow
        · exact ⟨none, 0, by rw [h2]⟩
        · exact ⟨_, _, rfl⟩
      subst hv
      clear hcc hcx hsn hrow hex
      generalize l[k] = x at *
      by_cases ho : (x.owner == n) = true
      · rw [if_pos ho] at HSN
        generalize ownerL (l.take k) n = D at *
        go_wp2_with (at_builtin; refine wpList_append_own _ rfl (.tmp 21) (.tmp 24) 104 rfl w.heap.size 3 i0 _ 1 8 Tryd.underlying104 hi0 hz0 hz1 hz2 rfl (by decide) (.slice aov D.length capv) D.length (D.map (Value.int .i64)) rfl ?_ _ 1 1 [.int .i64 x.id] rfl rfl ?_ ?_ (by unfold maxLen; omega) (by omega) ?_ ?_; (focus (refine HROW.out.kept (belowGrownBy ?_) (Classical.em _); ((refine Below.trans (Below.refl _ _) ?_; repeat (first | exact Below.refl _ _ | (refine Below.drew ?_) | (refine Below.drewN ?_ _) | (refine Below.ext ?_ (by first | omega | (simp [go_sem]; done) | (simp [go_sem]; omega)) _ _) | (refine Below.alloc ?_ (by first | omega | (simp [go_sem]; done) | (simp [go_sem]; omega)) _) | (refine Below.setCell ?_ (by first | omega | (simp [go_sem]; done) | (simp [go_sem]; omega)) _)))))); (focus exact World.news_of_block (alloc_top (by first | rfl | (simp [ext_size]; done) | (simp [ext_size]; omega)))); (focus simp [Value.oneCell']); (focus (simp [go_sem, ext_size]; omega)); intro v1 w3 hown hgrow hnil; have HOW := Lib.hid hown; have HGR := Lib.hid hgrow; clear hown hgrow hnil)
        go_roundw
        case measure => simp [intOf]; omega
        case rel => exact ⟨k + 1, _, rfl, by omega, by go_num, by rw [HSN.out, List.length_append, List.map_append]; exact HOW.out, Ex.of (Below.grown (HEX.out.trans (show Ex wr ((wr.alloc (.cells #[.int .i64 x.id, .int .i64 x.owner, .int .i64 x.side, .int .i64 x.price, .int .i64 x.qty] 24)).alloc (.cells #[.int .i64 x.id] 3)) from (by repeat (first | exact Ex.refl _ | refine Ex.alloc ?_ _ | refine Ex.ext ?_ _ _ | refine Ex.drew ?_ | refine Ex.drewN ?_ _)))).below HGR.out (by simp [go_sem, ext_size]; omega) (fun j hj => (HROW.out.lt j hj).1))⟩
      · rw [if_neg ho, List.append_nil] at HSN
        have ho2 : (x.owner == n) = false := by simpa using ho
        go_wp2_with fail
        go_roundw
        case measure => simp [intOf]; omega
        case rel => exact ⟨k + 1, _, rfl, by omega, by go_num, by rw [HSN.out]; exact HROW.out.kept (belowGrownBy (by (refine Below.trans (Below.refl _ _) ?_; repeat (first | exact Below.refl _ _ | (refine Below.drew ?_) | (refine Below.drewN ?_ _) | (refine Below.ext ?_ (by first | omega | (simp [go_sem]; done) | (simp [go_sem]; omega)) _ _) | (refine Below.alloc ?_ (by first | omega | (simp [go_sem]; done) | (simp [go_sem]; omega)) _) | (refine Below.setCell ?_ (by first | omega | (simp [go_sem]; done) | (simp [go_sem]; omega)) _))))) (Classical.em _), HEX.out.trans (by repeat (first | exact Ex.refl _ | refine Ex.alloc ?_ _ | refine Ex.ext ?_ _ _ | refine Ex.drew ?_ | refine Ex.drewN ?_ _))⟩
    · obtain rfl : k = l.length := by omega
      rw [List.take_length] at HROW
      go_wp2_with fail
      all_goals go_ret
      all_goals exact ⟨⟨v, rfl, HROW.out⟩, HEX.out.trans (by repeat (first | exact Ex.refl _ | refine Ex.alloc ?_ _ | refine Ex.ext ?_ _ _ | refine Ex.drew ?_ | refine Ex.drewN ?_ _))⟩
end
end Go.Proofs.YtfeeibealokhfaaDoor
