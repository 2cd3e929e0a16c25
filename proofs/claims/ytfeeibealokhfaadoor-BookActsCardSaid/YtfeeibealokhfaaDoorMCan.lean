/- The document's book: what Cancel computes. -/
import Derived.Test.YtfeeibealokhfaaDoorMOff
set_option linter.unusedSimpArgs false
set_option linter.unusedVariables false
namespace Go.Proofs.YtfeeibealokhfaaDoor
open Go.RowKit

section
variable {own : Nat → Nat} {i : Nat} {w : World} {p : Nat} {l : List Lot}
/-- Labels in which what is new bears another one. -/
def labN (own : Nat → Nat) (i : Nat) (w : World) (n : Nat) : Nat := if n < w.heap.size then own n else i + 1
theorem obj_mid (h : BookAt own i w p l) {W : World} (hx : Ex w W) : BookAt (labN own i w) i W p l := (h.relabel fun n hn e => by unfold labN; rw [if_pos hn]; exact e).later hx
theorem obj_out {W w' w'' : World} {l' : List Lot} (hx : Ex w W) (hT : ObjTo (labN own i w) i i W (fun o w' => BookAt o i w' p l') w') :
    (∀ b, w.heap.size ≤ b → b < W.heap.size → w'.heap[b]? = W.heap[b]?) ∧ W.heap.size ≤ w'.heap.size ∧ ∀ g, w.heap.size ≤ g → g < W.heap.size → OnlyAt g w' w'' → ObjTo own i i w (fun o w' => BookAt o i w' p l') w'' := by
  obtain ⟨o2, hI, _, ho2, hs2, hK⟩ := hT.use (B := 0) (a := W) (Below.refl 0 W) (Nat.zero_le _) (fun b hb => by omega)
  have hs := hx.below.size
  have hlab : ∀ b, w.heap.size ≤ b → labN own i w b = i + 1 := fun b hb => by unfold labN; rw [if_neg (by omega)]
  refine ⟨fun b h1 h2 => hK.other h2 (by rw [Nat.div_one, hlab b h1]; omega), hs2, fun g h1 h2 ho => ?_⟩
  have hg : o2 g = i + 1 := by rw [ho2 g h2, hlab g h1]
  have hB : BookAt o2 i w'' p l' := hI.kp (own' := o2) (ho.kp (own := o2) (m := 1) (i := i + 1) (by rw [Nat.div_one]; exact hg)) (by rw [Nat.div_one]; omega) (fun _ _ e => e)
  have hK2 : Kp own 1 i w w'' := ⟨ho.os.trans (hK.os.trans hx.below.os), ho.tape.trans (hK.tape.trans hx.below.tape), ho.output.trans (hK.output.trans hx.below.output), by rw [ho.size]; omega, fun b hb hne => by
    rw [ho.block b (by omega), hK.other (by omega) (by unfold labN; rw [if_pos hb]; exact hne)]
    exact hx.below.block b hb⟩
  refine ObjTo.of hK2 (hB.relabel fun n hn e => ?_)
  by_cases hlt : n < w.heap.size
  · rw [lab_lt hlt]
    rw [ho2 n (by omega)] at e
    unfold labN at e
    rw [if_pos hlt] at e
    exact e
  · unfold lab
    rw [if_neg hlt, if_pos (by omega)]
theorem OnlyAt.refl (g : Nat) (w : World) : OnlyAt g w w := ⟨rfl, rfl, rfl, rfl, fun _ _ => rfl⟩
theorem OnlyAt.setCell {g : Nat} {w w' : World} (h : OnlyAt g w w') (j : Nat) (v : Value) : OnlyAt g w (w'.setCell ⟨g, j, none⟩ v) := ⟨h.os, h.tape, h.output, by rw [← h.size]; simp [World.setCell], fun b hb => (Below.heap_setCell w' ⟨g, j, none⟩ v b (by simpa using hb)).trans (h.block b hb)⟩
set_option maxRecDepth 100000 in
theorem mcancel_none (h : BookAt own i w p l) (id : Int) (hi : idIdx l id = -1) :
    Calls Tryd.prog 50 #[.pointer (some ⟨p, 0, none⟩), .int .i64 id] w fun e w' => e = .returned (.tuple #[zeroLot.val, .int .i64 6]) ∧ ObjTo own i i w (fun o w' => BookAt o i w' p l) w' := by
  have HF := Lib.hid (fun W (hx : Ex w W) => mfind_any (h.later hx) id)
  rw [hi] at HF
  have H := Lib.hid h
  clear hi h
  go_enter Tryd.func50, Tryd.ntmps50
  go_wp2_with (go_at_call 53; refine (HF.out _ (by repeat (first | exact Ex.refl _ | refine Ex.alloc ?_ _ | refine Ex.ext ?_ _ _ | refine Ex.drew ?_ | refine Ex.drewN ?_ _))).mono ?_; rintro e w1 ⟨rfl, l1, d1, rfl⟩)
  all_goals ((try simp only [Exit.inBlock, Exit.then]); (refine bodyPost_ret (v := .tuple #[zeroLot.val, .int .i64 6]) ?_ rfl ⟨rfl, H.out.keep (by repeat (first | exact Ex.refl _ | refine Ex.alloc ?_ _ | refine Ex.ext ?_ _ _ | refine Ex.drew ?_ | refine Ex.drewN ?_ _))⟩); simp only [results, Tryd.results50]; simp [go_sem, ↓IntWalk.iteOmega, zeroLot])
set_option maxRecDepth 100000 in
set_option maxHeartbeats 2000000 in
theorem mcancel_in (h : BookAt own i w p l) (id : Int) (k : Nat) (hk : k < l.length) (hi : idIdx l id = (k : Int)) :
    Calls Tryd.prog 50 #[.pointer (some ⟨p, 0, none⟩), .int .i64 id] w fun e w' => e = .returned (.tuple #[l[k].val, .int .i64 0]) ∧ ObjTo own i i w (fun o w' => BookAt o i w' p (l.eraseIdx k)) w' := by
  have HF := Lib.hid (fun W (hx : Ex w W) => mfind_any (h.later hx) id)
  rw [hi] at HF
  obtain ⟨ao, cap, c0, hc, hm, h0, hl, hr⟩ := h.slice
  have hp := h.lt
  have hb := h.1
  obtain ⟨_, _, _, hz⟩ := hl
  obtain ⟨g, off, rfl, hg, hcc⟩ := hz (by omega)
  have HO := Lib.hid (fun W (hx : Ex w W) => moff_any (obj_mid h hx) k hk)
  have HOUT := Lib.hid (fun (W w' w'' : World) (hx : Ex w W) (hT : ObjTo (labN own i w) i i W (fun o w' => BookAt o i w' p (l.eraseIdx k)) w') => obj_out (w'' := w'') hx hT)
  have hzk := hcc k hk
  have a0 := hzk 0 (by omega)
  have a1 := hzk 1 (by omega)
  have a2 := hzk 2 (by omega)
  have a3 := hzk 3 (by omega)
  have a4 := hzk 4 (by omega)
  simp only [Lot.cells, List.getElem?_cons_zero, List.getElem?_cons_succ, Nat.add_zero] at a0 a1 a2 a3 a4
  generalize l[k] = x at *
  clear hz hcc hzk hi h hr h0
  go_enter Tryd.func50, Tryd.ntmps50
  go_upto_region 5 with (go_at_call 53; refine (HF.out _ (by repeat (first | exact Ex.refl _ | refine Ex.alloc ?_ _ | refine Ex.ext ?_ _ _ | refine Ex.drew ?_ | refine Ex.drewN ?_ _))).mono ?_; rintro e w1 ⟨rfl, l1, d1, rfl⟩)
  go_wp2_with fail
  refine (HO.out _ (by exact (by repeat (first | exact Ex.refl _ | refine Ex.alloc ?_ _ | refine Ex.ext ?_ _ _ | refine Ex.drew ?_ | refine Ex.drewN ?_ _)))).mono ?_
  rintro e w3 ⟨rfl, hT⟩
  have hex : Ex w ((ext (w.alloc (.cells #[.int .i64 0, .int .i64 0, .int .i64 0, .int .i64 0, .int .i64 0] 24)) l1 d1).alloc (.cells #[.int .i64 x.id, .int .i64 x.owner, .int .i64 x.side, .int .i64 x.price, .int .i64 x.qty] 24)) := (by repeat (first | exact Ex.refl _ | refine Ex.alloc ?_ _ | refine Ex.ext ?_ _ _ | refine Ex.drew ?_ | refine Ex.drewN ?_ _))
  have hsz : ((ext (w.alloc (.cells #[.int .i64 0, .int .i64 0, .int .i64 0, .int .i64 0, .int .i64 0] 24)) l1 d1).alloc (.cells #[.int .i64 x.id, .int .i64 x.owner, .int .i64 x.side, .int .i64 x.price, .int .i64 x.qty] 24)).heap.size = w.heap.size + 1 + l1.length + 1 := by simp [go_sem]
  obtain ⟨hk3, hs3, hfin⟩ := HOUT.out _ w3 (((((w3.setCell ⟨w.heap.size, 0, none⟩ (.int .i64 x.id)).setCell ⟨w.heap.size, 1, none⟩ (.int .i64 x.owner)).setCell ⟨w.heap.size, 2, none⟩ (.int .i64 x.side)).setCell ⟨w.heap.size, 3, none⟩ (.int .i64 x.price)).setCell ⟨w.heap.size, 4, none⟩ (.int .i64 x.qty)) hex hT
  rw [hsz] at hs3
  have HFIN := Lib.hid (hfin w.heap.size (Nat.le_refl _) (by rw [hsz]; omega) (((((OnlyAt.refl _ _).setCell _ _).setCell _ _).setCell _ _).setCell _ _ |>.setCell _ _))
  have hr3 : w3.heap[w.heap.size]? = some (.cells #[.int .i64 0, .int .i64 0, .int .i64 0, .int .i64 0, .int .i64 0] 24) := (hk3 _ (Nat.le_refl _) (by rw [hsz]; omega)).trans (((show Ex (w.alloc (.cells #[.int .i64 0, .int .i64 0, .int .i64 0, .int .i64 0, .int .i64 0] 24)) _ from (by repeat (first | exact Ex.refl _ | refine Ex.alloc ?_ _ | refine Ex.ext ?_ _ _ | refine Ex.drew ?_ | refine Ex.drewN ?_ _))).below.block _ (by simp)).trans (alloc_top rfl))
  have hx3 : w3.heap[w.heap.size + 1 + l1.length]? = some (.cells #[.int .i64 x.id, .int .i64 x.owner, .int .i64 x.side, .int .i64 x.price, .int .i64 x.qty] 24) := (hk3 _ (by omega) (by rw [hsz]; omega)).trans (alloc_top (by simp [go_sem]))
  clear hfin hk3 hT hex hsz
  have r0 : w3.cell? ⟨w.heap.size, 0, none⟩ = some (.int .i64 0) := by simp [World.cell?, hr3]
  have rf0 : w3.frozen? ⟨w.heap.size, 0, none⟩ = false := by simp [World.frozen?, hr3]
  have x0 : w3.cell? ⟨w.heap.size + 1 + l1.length, 0, none⟩ = some (.int .i64 x.id) := by simp [World.cell?, hx3]
  have r1 : w3.cell? ⟨w.heap.size, 1, none⟩ = some (.int .i64 0) := by simp [World.cell?, hr3]
  have rf1 : w3.frozen? ⟨w.heap.size, 1, none⟩ = false := by simp [World.frozen?, hr3]
  have x1 : w3.cell? ⟨w.heap.size + 1 + l1.length, 1, none⟩ = some (.int .i64 x.owner) := by simp [World.cell?, hx3]
  have r2 : w3.cell? ⟨w.heap.size, 2, none⟩ = some (.int .i64 0) := by simp [World.cell?, hr3]
  have rf2 : w3.frozen? ⟨w.heap.size, 2, none⟩ = false := by simp [World.frozen?, hr3]
  have x2 : w3.cell? ⟨w.heap.size + 1 + l1.length, 2, none⟩ = some (.int .i64 x.side) := by simp [World.cell?, hx3]
  have r3 : w3.cell? ⟨w.heap.size, 3, none⟩ = some (.int .i64 0) := by simp [World.cell?, hr3]
  have rf3 : w3.frozen? ⟨w.heap.size, 3, none⟩ = false := by simp [World.frozen?, hr3]
  have x3 : w3.cell? ⟨w.heap.size + 1 + l1.length, 3, none⟩ = some (.int .i64 x.price) := by simp [World.cell?, hx3]
  have r4 : w3.cell? ⟨w.heap.size, 4, none⟩ = some (.int .i64 0) := by simp [World.cell?, hr3]
  have rf4 : w3.frozen? ⟨w.heap.size, 4, none⟩ = false := by simp [World.frozen?, hr3]
  have x4 : w3.cell? ⟨w.heap.size + 1 + l1.length, 4, none⟩ = some (.int .i64 x.qty) := by simp [World.cell?, hx3]
  have hxr : w.heap.size + 1 + l1.length ≠ w.heap.size := by omega
  clear hr3 hx3
  go_wp2_with fail
  all_goals ((try simp only [Exit.inBlock, Exit.then]); (refine bodyPost_ret (v := .tuple #[x.val, .int .i64 0]) ?_ rfl ⟨rfl, HFIN.out⟩); simp only [results, Tryd.results50]; simp [go_sem, ↓IntWalk.iteOmega, *])
theorem mcancel_any (h : BookAt own i w p l) (id : Int) :
    Calls Tryd.prog 50 #[.pointer (some ⟨p, 0, none⟩), .int .i64 id] w fun e w' => e = .returned (.tuple #[(cancelR l id).1.val, .int .i64 ((cancelR l id).2.1 : Int)]) ∧ ObjTo own i i w (fun o w' => BookAt o i w' p (cancelR l id).2.2) w' := by
  rcases idIdx_cases l id with ⟨k, hk, hi, _, hf⟩ | ⟨hi, _⟩
  · have e : cancelR l id = (l[k], 0, l.eraseIdx k) := by
      unfold cancelR
      rw [hf]
      simp only [List.getElem?_eq_getElem hk]
    rw [e]
    exact mcancel_in h id k hk hi
  · have e : cancelR l id = (zeroLot, 6, l) := by unfold cancelR; rw [find_none hi]
    rw [e]
    exact mcancel_none h id hi
end
end Go.Proofs.YtfeeibealokhfaaDoor
