import Derived.Test.YtmbboflakfokhaaDoorJ5
import Derived.Deep.DeepCutAuto
import Derived.Test.YtmbboflakfokhaaDoorFlRu
import Derived.Test.YtmbboflakfokhaaDoorFlNew
import Derived.Test.YtmbboflakfokhaaDoorJ1
import Derived.Deep.Slices
import Derived.Test.YtmbboflakfokhaaDoorSide
import Derived.Test.YtmbboflakfokhaaDoorJ33
/- What two clients have, compared. -/
set_option linter.unusedSimpArgs false
set_option linter.unusedVariables false
namespace Go.Proofs.YtmbboflakfokhaaDoor
open Go.RowKit

theorem equalInTri (d : Nat) (a0 a1 a2 b0 b1 b2 : Int) (w : World) : (Op.equalIn (d + 2) 41 (.agg #[.int .i64 a0, .int .i64 a1, .int .i64 a2]) (.agg #[.int .i64 b0, .int .i64 b1, .int .i64 b2])).run Tryd.prog w = .ok (a0 == b0 && a1 == b1 && a2 == b2) w := by
  have hS := Tryd.underlying41
  have hI := Tryd.underlying3
  have hsz : ∀ w, (isAgg 3).run Tryd.prog w = .ok false w := fun w => by kernel_rfl
  have hs1 : ∀ w, (sizeOf 3).run Tryd.prog w = .ok 1 w := fun w => by kernel_rfl
  have e0 : ∀ w, (Op.equalIn (d + 1) 3 (.int .i64 a0) (.int .i64 b0)).run Tryd.prog w = .ok (a0 == b0) w := fun w => run_equalIn_int w d _ _ _ _ _ hI
  have e1 : ∀ w, (Op.equalIn (d + 1) 3 (.int .i64 a1) (.int .i64 b1)).run Tryd.prog w = .ok (a1 == b1) w := fun w => run_equalIn_int w d _ _ _ _ _ hI
  have e2 : ∀ w, (Op.equalIn (d + 1) 3 (.int .i64 a2) (.int .i64 b2)).run Tryd.prog w = .ok (a2 == b2) w := fun w => run_equalIn_int w d _ _ _ _ _ hI
  unfold Op.equalIn
  simp only [Sem.run_bind, run_underlying hS, Result.andThen_ok, run_program, hs1]
  have r3 : List.range' 0 3 = [0, 1, 2] := rfl
  simp [Std.Legacy.Range.forIn_eq_forIn_range', Std.Legacy.Range.size, r3, part, hsz, Sem.run_bind, e0, e1, e2]
  by_cases h0 : a0 = b0 <;> by_cases h1 : a1 = b1 <;> by_cases h2 : a2 = b2 <;> simp [h0, h1, h2]
/-- Do two clients have the same? -/
def sameB (P Q : Pu) (c d : Nat) : Bool := P c 0 == Q d 0 && (P c 1 == Q d 1 && ((P c 2 == Q d 2 && P c 3 == Q d 3 && P c 4 == Q d 4) && (P c 5 == Q d 5 && P c 6 == Q d 6 && P c 7 == Q d 7)))
theorem sameB_refl (P : Pu) (c : Nat) : sameB P P c c = true := by simp [sameB]
theorem sameB_iff (P Q : Pu) (c d : Nat) : sameB P Q c d = true ↔ ∀ j, j < 8 → P c j = Q d j := by
  simp only [sameB, Bool.and_eq_true, beq_iff_eq]
  constructor
  · rintro ⟨h0, h1, ⟨⟨h2, h3⟩, h4⟩, ⟨h5, h6⟩, h7⟩ j hj
    have : j = 0 ∨ j = 1 ∨ j = 2 ∨ j = 3 ∨ j = 4 ∨ j = 5 ∨ j = 6 ∨ j = 7 := by omega
    rcases this with rfl | rfl | rfl | rfl | rfl | rfl | rfl | rfl <;> assumption
  · intro h
    exact ⟨h 0 (by omega), h 1 (by omega), ⟨⟨h 2 (by omega), h 3 (by omega)⟩, h 4 (by omega)⟩, ⟨h 5 (by omega), h 6 (by omega)⟩, h 7 (by omega)⟩
theorem equalInHas (P Q : Pu) (c d : Nat) (w : World) : (Op.equalIn 10000 60 (hasV P c) (hasV Q d)).run Tryd.prog w = .ok (sameB P Q c d) w := by
  have hS : Tryd.prog.underlying 60 = some (.struct (Tryd.prog.fieldsOf 60)) := by kernel_rfl
  have hp : Tryd.prog.stoodInHeld 60 = false := by kernel_rfl
  have t1 := fun w => equalInTri 9997 (P c 2) (P c 3) (P c 4) (Q d 2) (Q d 3) (Q d 4) w
  have t2 := fun w => equalInTri 9997 (P c 5) (P c 6) (P c 7) (Q d 5) (Q d 6) (Q d 7) w
  simp only [Nat.reduceAdd] at t1 t2
  rw [show (10000 : Nat) = 9999 + 1 from rfl, run_equalIn_agg w 9999 _ _ _ hS hp]
  simp only [Program.fieldsOf, Tryd.underlying60]
  go_simp
  unfold sameB
  (repeat' split) <;> simp_all
theorem eqHas (P Q : Pu) (c d : Nat) (w : World) : (binOp .eql 60 (hasV P c) (hasV Q d)).run Tryd.prog w = .ok (.bool (sameB P Q c d)) w := by
  rw [run_eql_struct, equalInHas]; rfl
theorem neHas (P Q : Pu) (c d : Nat) (w : World) : (binOp .neq 60 (hasV P c) (hasV Q d)).run Tryd.prog w = .ok (.bool (!sameB P Q c d)) w := by
  rw [run_neq_struct, equalInHas]; rfl
theorem fieldHas0 (P : Pu) (c : Nat) (w : World) : (Instr.field 60 (hasV P c) 0).run Tryd.prog w = .ok (.int .i64 (P c 0)) w := by kernel_rfl
theorem fieldHas1 (P : Pu) (c : Nat) (w : World) : (Instr.field 60 (hasV P c) 1).run Tryd.prog w = .ok (.int .i64 (P c 1)) w := by kernel_rfl
end Go.Proofs.YtmbboflakfokhaaDoor

/- A floor in a law: New, Place, Run as steps of what is known; the closed fact 'floored'. -/
set_option linter.unusedSimpArgs false
set_option linter.unusedVariables false
namespace Go.Proofs.YtmbboflakfokhaaDoor
open Go.RowKit

def LE : List Nat := [2, 3, 4, 6, 7, 8, 10, 12]
theorem FOk.new {ref cash stock : Int} (r1 : 1 ≤ ref) (r2 : ref ≤ 1000) (c1 : 0 ≤ cash) (c2 : cash ≤ 1073741824) (s1 : 0 ≤ stock) (s2 : stock ≤ 100000) : FOk (newSt ref cash stock) := by
  have hp : ∀ c j, c < 6 → (newSt ref cash stock).p c j = if j = 0 then cash else if 2 ≤ j ∧ j < 5 then stock else 0 := fun c j hc => if_pos hc
  refine ⟨fun k _ => BOk.nil, fun c hc => ?_, fun c hc k hk => ?_, fun k _ => ⟨⟨r1, r2⟩, Int.le_refl _, by show (0 : Int) ≤ 1000; decide⟩, ?_, fun k hk => ?_⟩
  · rw [hp c 1 hc]; simp [newSt, heldB, sumZ]
  · rw [hp c (5 + k) hc, if_neg (by omega), if_neg (by omega)]; simp [newSt, sumZ]
  · unfold sumP
    rw [hp 0 0 (by omega), hp 1 0 (by omega), hp 2 0 (by omega), hp 3 0 (by omega), hp 4 0 (by omega), hp 5 0 (by omega)]
    simp only [if_true]
    omega
  · unfold sumP
    rw [hp 0 _ (by omega), hp 1 _ (by omega), hp 2 _ (by omega), hp 3 _ (by omega), hp 4 _ (by omega), hp 5 _ (by omega), if_neg (by omega), if_pos (by omega)]
    omega
theorem FOk.fplace {st : FSt} (h : FOk st) (a : Ask) : FOk (fplaceS st a) := by
  unfold fplaceS
  split
  · rename_i hk
    obtain ⟨_, _, _, b4, _⟩ := Ask.bounds (asked_zero hk).1
    exact h.place (by omega) _
  · exact h
section
variable {own : Nat → Nat} {c k : Nat} {w w0 W : World} {A : FlA} {st : FSt} {E : Nat → Addr} {cs : List Bl} {T : Nat → Prop}
/-- Since w0 only new blocks. -/
theorem FlX.ex0 (X : FlX own c w A st E LE cs T W) (hx : Ex w0 w) (hf : ∀ n, n < w0.heap.size → own n / 8 ≠ c) : Ex w0 W := by
  have k1 := X.kp
  exact Ex.of ⟨k1.os.trans hx.below.os, k1.tape.trans hx.below.tape, k1.output.trans hx.below.output, Nat.le_trans hx.below.size k1.size, fun n hn => (k1.block n (Nat.lt_of_lt_of_le hn hx.below.size) (hf n hn)).trans (hx.below.block n hn)⟩
theorem FlX.place (X : FlX own c w A st E LE cs T W) (a : Ask) :
    Calls Tryd.prog 9 #[.pointer (some ⟨A.f, 0, none⟩), a.val] W fun e w' => e = .returned (errV E (fplaceE st a)) ∧ FlX own c w A (fplaceS st a) E LE cs T w' ∧ ∀ n, T n → w'.heap[n]? = W.heap[n]? :=
  X.callT fun o h hE hg => fplace_any h (hE.sub (by decide)) (fun n hn => hg n (hn.sub (by decide))) a
theorem FlX.run (X : FlX own c w A st E LE cs T W) (hO : FOk st) (hk : k < 3) (seed : Int) (hs : U32 seed) :
    Calls Tryd.prog 16 #[.pointer (some ⟨A.f, 0, none⟩), .int .i64 (k : Int), .int .u32 seed] W fun e w' =>
      ∃ ao cap, e = .returned (.tuple #[.agg #[.int .i64 (runR st k A.wd A.hl seed).price, .int .i64 (runR st k A.wd A.hl seed).vol, .bool (runR st k A.wd A.hl seed).isOpen, .slice ao (runR st k A.wd A.hl seed).fills.length cap], .nilIface]) ∧ (runR st k A.wd A.hl seed).fills.length ≤ cap ∧ FillAt w' ao (runR st k A.wd A.hl seed).fills ∧
        FlX own c w A (runS st k A.wd A.hl seed) E LE cs (fun n => T n ∨ TF ao (runR st k A.wd A.hl seed).fills n) w' ∧ ∀ n, T n → w'.heap[n]? = W.heap[n]? := by
  obtain ⟨hB, hE, hc, hlow⟩ := X
  obtain ⟨h1, o, h2, h3, h4, h5⟩ := hB
  refine (frun_any h2 hO (hE.sub (by decide)) (fun n hn => (h4 n (.inl (hn.sub (by decide)))).2) k hk seed hs).mono fun e w' hT => ?_
  obtain ⟨ao, cap, rfl, hcap, hF, _, k1, o2, k2, k3, k4⟩ := hT
  have hsame : Same (FS LE cs T) W w' := ⟨fun n hn => k1.block n (h4 n hn).1 (h4 n hn).2, k1.size⟩
  refine ⟨ao, cap, rfl, hcap, hF, ⟨⟨h1.chain k1 h5, tight o2 c w'.heap.size, k3.relabel (fun n hn _ => tight_lt hn), fun n hn => tight_ge hn, fun n hn => ?_, fun n hn => ?_⟩, hE.same hsame (fun n hn => .inl hn), hc.same hsame (fun t ht => .inr (.inl ⟨t, ht, rfl⟩)), hlow⟩, fun n hn => hsame.1 n (.inr (.inr hn))⟩
  · have key : FS LE cs T n → n < w'.heap.size ∧ tight o2 c w'.heap.size n / 8 ≠ c := fun hn => by
      have hlt := Nat.lt_of_lt_of_le (h4 n hn).1 k1.size
      refine ⟨hlt, ?_⟩
      rw [tight_lt hlt, k2 n (h4 n hn).1]
      exact (h4 n hn).2
    rcases hn with h | h | h | h
    · exact key (.inl h)
    · exact key (.inr (.inl h))
    · exact key (.inr (.inr h))
    · obtain ⟨h0, off, e⟩ := h
      obtain ⟨b, off', e', hb, _⟩ := hF h0
      rw [e] at e'
      cases e'
      refine ⟨hb, ?_⟩
      rw [tight_lt hb]
      exact k4 h0 n off e
  · have hlt := Nat.lt_of_lt_of_le hn h1.size
    rw [tight_lt (Nat.lt_of_lt_of_le hlt k1.size), k2 n hlt]
    exact h5 n hn
end
/-- The two orders of the closed fact. -/
def fa1 : Ask := ⟨111, 0, 0, 0, 0, 101, 4, 1⟩
def fa2 : Ask := ⟨111, 1, 0, 0, 1, 99, 4, 2⟩
def fs2 : FSt := fplaceS (fplaceS (newSt 100 1000 10) fa1) fa2
theorem fl_e1 : fplaceE (newSt 100 1000 10) fa1 = 0 := by decide +kernel
theorem fl_e2 : fplaceE (fplaceS (newSt 100 1000 10) fa1) fa2 = 0 := by decide +kernel
theorem fl_p : (runR fs2 0 10 2 5).price = 100 := by decide +kernel
theorem fl_v : (runR fs2 0 10 2 5).vol = 4 := by decide +kernel
theorem fl_o : (runR fs2 0 10 2 5).isOpen = true := by decide +kernel
theorem fl_c : (runS fs2 0 10 2 5).p 0 0 = 600 := by decide +kernel
theorem fl_b : ((runS fs2 0 10 2 5).b 0).length = 0 := by decide +kernel
end Go.Proofs.YtmbboflakfokhaaDoor

/- The closed fact of chapter 9: two orders trade. -/
set_option linter.unusedSimpArgs false
set_option linter.unusedVariables false
namespace Go.Proofs.YtmbboflakfokhaaDoor
open Go.RowKit

set_option maxRecDepth 100000 in
set_option maxHeartbeats 4000000 in
theorem floored_any (E : Nat → Addr) (w : World) (hE : Errs E LE w) : Calls Tryd.prog 7 #[] w fun e w' => e = .returned (.bool true) ∧ Ex w w' := by
  have HN := Lib.hid (fnew_ok (own := fun _ => 8) (c := 0) (w := w) 10 2 100 1000 10 (hE.sub (by decide)) (fun n _ => by decide) (by decide) (by decide) (by decide) (by decide) (by decide) (by decide) (by decide) (by decide) (by decide) (by decide))
  have HE := Lib.hid hE
  have hu : U32 5 := by unfold U32; omega
  have HO : Hid (FOk fs2) := Lib.hid (((FOk.new (ref := 100) (cash := 1000) (stock := 10) (by decide) (by decide) (by decide) (by decide) (by decide) (by decide)).fplace fa1).fplace fa2)
  clear hE
  go_enter Tryd.func7, Tryd.ntmps7
  go_wp2_with fail
  refine HN.out.mono ?_
  rintro e w1 ⟨A, o, rfl, hF, hwd, hhl, ho, hx1⟩
  have hX : FlX o 0 w1 A (newSt 100 1000 10) E LE [] NoT w1 := FlX.start hF (HE.out.ex hx1) (fun n ⟨e, he, hn⟩ => by
    have hlt := lt_of_cell (HE.out e he)
    rw [hn, ho _ hlt]
    show 8 / 8 ≠ 0
    decide) (fun n hn => hn.elim)
  have HX := Lib.hid hX
  have HX1 := Lib.hid hx1
  have HLO := Lib.hid (show ∀ n, n < w.heap.size → o n / 8 ≠ 0 from fun n hn => by rw [ho n hn]; show 8 / 8 ≠ 0; decide)
  have HWD := Lib.hid hwd
  have HHL := Lib.hid hhl
  clear hF hX hx1 ho hwd hhl
  go_wp2_with fail
  refine (HX.out.place fa1).mono ?_
  rintro e w2 ⟨rfl, hX2, _⟩
  rw [fl_e1, errV_zero]
  have HX2 := Lib.hid hX2
  clear hX2
  go_wp2_with fail
  refine (HX2.out.place fa2).mono ?_
  rintro e w3 ⟨rfl, hX3, _⟩
  rw [fl_e2, errV_zero]
  have HX3 := Lib.hid (show FlX o 0 w1 A fs2 E LE [] NoT w3 from hX3)
  clear hX3
  go_wp2_with fail
  refine (HX3.out.run HO.out (by decide : 0 < 3) 5 hu).mono ?_
  rintro e w4 ⟨ao, cap, rfl, _, hFA, hX4, _⟩
  rw [HWD.out, HHL.out] at *
  have HX4 := Lib.hid hX4
  clear hX4 hFA
  rw [fl_p, fl_v, fl_o]
  have HBK := Lib.hid (fun o W (h : FlAt o 0 W A (runS fs2 0 10 2 5)) => (fbook_in h 0 (by decide) : Calls Tryd.prog 10 #[.pointer (some ⟨A.f, 0, none⟩), .int .i64 0] W _))
  have HPU := Lib.hid (fun o W (h : FlAt o 0 W A (runS fs2 0 10 2 5)) => fpurse_any h)
  have HOF := Lib.hid (fun o i W (h : PurseAt o i W A.pp (runS fs2 0 10 2 5).p) => (of_in h 0 (by decide) : Calls Tryd.prog 18 #[.pointer (some ⟨A.pp, 0, none⟩), .int .i64 0] W _))
  have HLT := Lib.hid (fun o i W (h : BookAt o i W (A.bp 0) ((runS fs2 0 10 2 5).b 0)) => lots_any h)
  have hb0 := fl_b
  have HC0 := Lib.hid fl_c
  have hfh := fieldHas0 (runS fs2 0 10 2 5).p 0
  rw [fl_c] at hfh
  generalize (runR fs2 0 10 2 5).fills = F at *
  generalize hst : runS fs2 0 10 2 5 = st at *
  clear hst
  go_wp2_with (first
    | (go_at_call 10; (refine ((HX4.out.later ?_).read (fun o h => HBK.out o _ h)).mono ?_); (focus exact (by repeat (first | (with_reducible exact Ex.refl _) | (with_reducible refine Ex.alloc ?_ _) | (with_reducible refine Ex.ext ?_ _ _) | (with_reducible refine Ex.drew ?_) | (with_reducible refine Ex.drewN ?_ _)))); rintro e w5 ⟨rfl, l5, d5, rfl⟩)
    | (go_at_call 12; ((with_reducible refine ((HX4.out.later ?_).read (fun o h => HPU.out o _ h)).mono ?_)); (focus exact (by repeat (first | (with_reducible exact Ex.refl _) | (with_reducible refine Ex.alloc ?_ _) | (with_reducible refine Ex.ext ?_ _ _) | (with_reducible refine Ex.drew ?_) | (with_reducible refine Ex.drewN ?_ _)))); rintro e w5 ⟨rfl, l6, d6, rfl⟩)
    | (go_at_call 18; (refine ((HX4.out.later ?_).readP (fun o i h => HOF.out o i _ h)).mono ?_); (focus exact (by repeat (first | (with_reducible exact Ex.refl _) | (with_reducible refine Ex.alloc ?_ _) | (with_reducible refine Ex.ext ?_ _ _) | (with_reducible refine Ex.drew ?_) | (with_reducible refine Ex.drewN ?_ _)))); rintro e w5 ⟨rfl, l7, d7, rfl⟩))
  refine ((HX4.out.later (by repeat (first | (with_reducible exact Ex.refl _) | (with_reducible refine Ex.alloc ?_ _) | (with_reducible refine Ex.ext ?_ _ _) | (with_reducible refine Ex.drew ?_) | (with_reducible refine Ex.drewN ?_ _)))).readB (by decide) (fun o i h => HLT.out o i _ h)).mono ?_
  rintro e w9 ⟨⟨v, rfl, hv⟩, hx9⟩
  have h4 : Ex w w4 := HX4.out.ex0 HX1.out HLO.out
  have H9 := Lib.hid (show Ex w w9 from (h4.trans (by repeat (first | (with_reducible exact Ex.refl _) | (with_reducible refine Ex.alloc ?_ _) | (with_reducible refine Ex.ext ?_ _ _) | (with_reducible refine Ex.drew ?_) | (with_reducible refine Ex.drewN ?_ _)))).trans hx9)
  obtain ⟨a9, c9, rfl, _, _⟩ := owns_slice hv
  rw [hb0] at *
  clear hv hx9 h4
  go_wp2_with fail
  all_goals go_ret
  all_goals exact ⟨rfl, H9.out.trans (by repeat (first | (with_reducible exact Ex.refl _) | (with_reducible refine Ex.alloc ?_ _) | (with_reducible refine Ex.ext ?_ _ _) | (with_reducible refine Ex.drew ?_) | (with_reducible refine Ex.drewN ?_ _)))⟩
end Go.Proofs.YtmbboflakfokhaaDoor

/- Run of an item that is none. -/
set_option linter.unusedSimpArgs false
set_option linter.unusedVariables false
namespace Go.Proofs.YtmbboflakfokhaaDoor
open Go.RowKit

set_option maxRecDepth 100000 in
theorem frun_bad (p : Value) (n seed : Int) (hn : inR n 0 2 = false) (E : Nat → Addr) (w : World) (hE : Errs E [2] w) :
    Calls Tryd.prog 16 #[p, .int .i64 n, .int .u32 seed] w fun e w' => e = .returned (.tuple #[.agg #[.int .i64 0, .int .i64 0, .bool false, .slice none 0 0], errV E 2]) ∧ Ex w w' := by
  have HR := Lib.hid (fun w => fright_any n w)
  rw [hn] at HR
  have e2 : w.cell? ⟨0, 0, none⟩ = some (.iface 160 (.pointer (some (E 2)))) := hE 2 (by decide)
  have b2 : 0 < w.heap.size := lt_of_cell e2
  clear hE hn
  rw [errV_pos E 2 (by decide)]
  go_enter Tryd.func16, Tryd.ntmps16
  go_wp2_with (go_at_call 33; refine (HR.out _).mono ?_; rintro e w1 ⟨rfl, l1, d1, rfl⟩)
  go_region
  all_goals go_wp2_with fail
  all_goals
    refine bodyPost_ret (v := .tuple #[.agg #[.int .i64 0, .int .i64 0, .bool false, .slice none 0 0], .iface 160 (.pointer (some (E 2)))]) ?_ rfl ⟨rfl, (by repeat (first | exact Ex.refl _ | refine Ex.alloc ?_ _ | refine Ex.ext ?_ _ _ | refine Ex.drew ?_ | refine Ex.drewN ?_ _))⟩
    simp only [results, Tryd.results16]
    simp [go_sem, ↓IntWalk.iteOmega]
end Go.Proofs.YtmbboflakfokhaaDoor

/- The acts on a floor that a batch law's input names. -/
set_option linter.unusedSimpArgs false
set_option linter.unusedVariables false
namespace Go.Proofs.YtmbboflakfokhaaDoor
open Go.ChangeShapes Go.WideShapes Go.ChangeAt Go.RowKit Go.Deep

def Ask.wf (a : Ask) : Prop := (0 ≤ a.kind ∧ a.kind ≤ 255) ∧ (Lit.int .i64 a.client).wf = true ∧ (Lit.int .i64 a.seq).wf = true ∧ (Lit.int .i64 a.item).wf = true ∧ (Lit.int .i64 a.side).wf = true ∧ (Lit.int .i64 a.price).wf = true ∧ (Lit.int .i64 a.qty).wf = true ∧ (Lit.int .i64 a.id).wf = true
set_option maxRecDepth 100000 in
theorem ask_of_trod {H : Type} {enc : TypeId × Value → H} {w : World} {base : Nat} {spare : Nat → Bool} {held : Bool} {n : Nat} {cs : List Value} {y : DataW H × List MemPlace} (h : DataW.trod enc Tryd.prog w base spare held n 34 cs = some y) : ∃ a : Ask, a.wf ∧ cs = a.cells := by
  obtain ⟨ys, n', hn', hy, hlen, hyl, hf⟩ := DataW.trod_struct Tryd.underlying34 h
  have hcN : Tryd.prog.cellsOf 34 = 8 := by kernel_rfl
  rw [hcN] at hlen
  match cs, hlen with
  | [c0, c1, c2, c3, c4, c5, c6, c7], _ =>
    match ys, hyl with
    | [y0, y1, y2, y3, y4, y5, y6, y7], _ =>
      have g0 : DataW.trod enc Tryd.prog w base spare held n' 5 (([c0, c1, c2, c3, c4, c5, c6, c7].drop 0).take (Tryd.prog.cellsOf 5)) = some y0 := hf 0 _ rfl
      rw [show Tryd.prog.cellsOf 5 = 1 by kernel_rfl] at g0
      have g1 : DataW.trod enc Tryd.prog w base spare held n' 3 (([c0, c1, c2, c3, c4, c5, c6, c7].drop 1).take (Tryd.prog.cellsOf 3)) = some y1 := hf 1 _ rfl
      rw [show Tryd.prog.cellsOf 3 = 1 by kernel_rfl] at g1
      have g2 : DataW.trod enc Tryd.prog w base spare held n' 3 (([c0, c1, c2, c3, c4, c5, c6, c7].drop 2).take (Tryd.prog.cellsOf 3)) = some y2 := hf 2 _ rfl
      rw [show Tryd.prog.cellsOf 3 = 1 by kernel_rfl] at g2
      have g3 : DataW.trod enc Tryd.prog w base spare held n' 3 (([c0, c1, c2, c3, c4, c5, c6, c7].drop 3).take (Tryd.prog.cellsOf 3)) = some y3 := hf 3 _ rfl
      rw [show Tryd.prog.cellsOf 3 = 1 by kernel_rfl] at g3
      have g4 : DataW.trod enc Tryd.prog w base spare held n' 3 (([c0, c1, c2, c3, c4, c5, c6, c7].drop 4).take (Tryd.prog.cellsOf 3)) = some y4 := hf 4 _ rfl
      rw [show Tryd.prog.cellsOf 3 = 1 by kernel_rfl] at g4
      have g5 : DataW.trod enc Tryd.prog w base spare held n' 3 (([c0, c1, c2, c3, c4, c5, c6, c7].drop 5).take (Tryd.prog.cellsOf 3)) = some y5 := hf 5 _ rfl
      rw [show Tryd.prog.cellsOf 3 = 1 by kernel_rfl] at g5
      have g6 : DataW.trod enc Tryd.prog w base spare held n' 3 (([c0, c1, c2, c3, c4, c5, c6, c7].drop 6).take (Tryd.prog.cellsOf 3)) = some y6 := hf 6 _ rfl
      rw [show Tryd.prog.cellsOf 3 = 1 by kernel_rfl] at g6
      have g7 : DataW.trod enc Tryd.prog w base spare held n' 3 (([c0, c1, c2, c3, c4, c5, c6, c7].drop 7).take (Tryd.prog.cellsOf 3)) = some y7 := hf 7 _ rfl
      rw [show Tryd.prog.cellsOf 3 = 1 by kernel_rfl] at g7
      obtain ⟨x0, e0, _, w0⟩ := DataW.trod_int Tryd.underlying5 g0
      simp at e0
      subst e0
      obtain ⟨x1, e1, _, w1⟩ := DataW.trod_int Tryd.underlying3 g1
      simp at e1
      subst e1
      obtain ⟨x2, e2, _, w2⟩ := DataW.trod_int Tryd.underlying3 g2
      simp at e2
      subst e2
      obtain ⟨x3, e3, _, w3⟩ := DataW.trod_int Tryd.underlying3 g3
      simp at e3
      subst e3
      obtain ⟨x4, e4, _, w4⟩ := DataW.trod_int Tryd.underlying3 g4
      simp at e4
      subst e4
      obtain ⟨x5, e5, _, w5⟩ := DataW.trod_int Tryd.underlying3 g5
      simp at e5
      subst e5
      obtain ⟨x6, e6, _, w6⟩ := DataW.trod_int Tryd.underlying3 g6
      simp at e6
      subst e6
      obtain ⟨x7, e7, _, w7⟩ := DataW.trod_int Tryd.underlying3 g7
      simp at e7
      subst e7
      exact ⟨⟨x0, x1, x2, x3, x4, x5, x6, x7⟩, ⟨(by simp [Lit.wf, IntKind.min, IntKind.max, IntKind.signed, IntKind.bits] at w0; omega), w1, w2, w3, w4, w5, w6, w7⟩, rfl⟩
/-- A slice of Asks that can be read. -/
def AsksAt (w : World) (ao : Option Addr) (len : Nat) (l : List Ask) : Prop :=
  l.length = len ∧ len ≤ 9223372036854775807 ∧ (∀ a ∈ l, a.wf) ∧
    (0 < len → ∃ b off, ao = some ⟨b, off, none⟩ ∧ b < w.heap.size ∧ ∀ k (h : k < l.length) j, j < 8 → w.cell? ⟨b, off + k * 8 + j, none⟩ = l[k].cells[j]?)
structure Do where
  kind : ByteArray
  a : Ask
  client : Int
  item : Int
  seed : Int
  deriving DecidableEq
def Do.cells (a : Do) : List Value := [.string a.kind, .int .u8 a.a.kind, .int .i64 a.a.client, .int .i64 a.a.seq, .int .i64 a.a.item, .int .i64 a.a.side, .int .i64 a.a.price, .int .i64 a.a.qty, .int .i64 a.a.id, .int .i64 a.client, .int .i64 a.item, .int .u32 a.seed]
abbrev Do.val (a : Do) : Value := .agg #[.string a.kind, .agg #[.int .u8 a.a.kind, .int .i64 a.a.client, .int .i64 a.a.seq, .int .i64 a.a.item, .int .i64 a.a.side, .int .i64 a.a.price, .int .i64 a.a.qty, .int .i64 a.a.id], .int .i64 a.client, .int .i64 a.item, .int .u32 a.seed]
def Do.wf (a : Do) : Prop := a.kind.size ≤ maxLen ∧ a.a.wf ∧ (Lit.int .i64 a.client).wf = true ∧ (Lit.int .i64 a.item).wf = true ∧ (0 ≤ a.seed ∧ a.seed ≤ 4294967295)
set_option maxRecDepth 100000 in
theorem do_of_trod {H : Type} {enc : TypeId × Value → H} {w : World} {base : Nat} {spare : Nat → Bool} {held : Bool} {n : Nat} {cs : List Value} {y : DataW H × List MemPlace} (h : DataW.trod enc Tryd.prog w base spare held n 36 cs = some y) : ∃ a : Do, a.wf ∧ cs = a.cells := by
  obtain ⟨ys, n', hn', hy, hlen, hyl, hf⟩ := DataW.trod_struct Tryd.underlying36 h
  have hcN : Tryd.prog.cellsOf 36 = 12 := by kernel_rfl
  rw [hcN] at hlen
  match cs, hlen with
  | [c0, c1, c2, c3, c4, c5, c6, c7, c8, c9, c10, c11], _ =>
    match ys, hyl with
    | [y0, y1, y2, y3, y4], _ =>
      have g0 : DataW.trod enc Tryd.prog w base spare held n' 9 (([c0, c1, c2, c3, c4, c5, c6, c7, c8, c9, c10, c11].drop 0).take (Tryd.prog.cellsOf 9)) = some y0 := hf 0 _ rfl
      rw [show Tryd.prog.cellsOf 9 = 1 by kernel_rfl] at g0
      have g1 : DataW.trod enc Tryd.prog w base spare held n' 34 (([c0, c1, c2, c3, c4, c5, c6, c7, c8, c9, c10, c11].drop 1).take (Tryd.prog.cellsOf 34)) = some y1 := hf 1 _ rfl
      rw [show Tryd.prog.cellsOf 34 = 8 by kernel_rfl] at g1
      have g2 : DataW.trod enc Tryd.prog w base spare held n' 3 (([c0, c1, c2, c3, c4, c5, c6, c7, c8, c9, c10, c11].drop 9).take (Tryd.prog.cellsOf 3)) = some y2 := hf 2 _ rfl
      rw [show Tryd.prog.cellsOf 3 = 1 by kernel_rfl] at g2
      have g3 : DataW.trod enc Tryd.prog w base spare held n' 3 (([c0, c1, c2, c3, c4, c5, c6, c7, c8, c9, c10, c11].drop 10).take (Tryd.prog.cellsOf 3)) = some y3 := hf 3 _ rfl
      rw [show Tryd.prog.cellsOf 3 = 1 by kernel_rfl] at g3
      have g4 : DataW.trod enc Tryd.prog w base spare held n' 23 (([c0, c1, c2, c3, c4, c5, c6, c7, c8, c9, c10, c11].drop 11).take (Tryd.prog.cellsOf 23)) = some y4 := hf 4 _ rfl
      rw [show Tryd.prog.cellsOf 23 = 1 by kernel_rfl] at g4
      obtain ⟨x0, e0, _, w0⟩ := DataW.trod_string Tryd.underlying9 g0
      simp at e0
      subst e0
      obtain ⟨x1, w1, e1⟩ := ask_of_trod g1
      simp [Ask.cells] at e1
      obtain ⟨rfl, rfl, rfl, rfl, rfl, rfl, rfl, rfl⟩ := e1
      obtain ⟨x2, e2, _, w2⟩ := DataW.trod_int Tryd.underlying3 g2
      simp at e2
      subst e2
      obtain ⟨x3, e3, _, w3⟩ := DataW.trod_int Tryd.underlying3 g3
      simp at e3
      subst e3
      obtain ⟨x4, e4, _, w4⟩ := DataW.trod_int Tryd.underlying23 g4
      simp at e4
      subst e4
      exact ⟨⟨x0, x1, x2, x3, x4⟩, ⟨w0, w1, w2, w3, (by simp [Lit.wf, IntKind.min, IntKind.max, IntKind.signed, IntKind.bits] at w4; omega)⟩, rfl⟩
/-- A slice of Dos that can be read. -/
def DosAt (w : World) (ao : Option Addr) (len : Nat) (l : List Do) : Prop :=
  l.length = len ∧ len ≤ 9223372036854775807 ∧ (∀ a ∈ l, a.wf) ∧
    (0 < len → ∃ b off, ao = some ⟨b, off, none⟩ ∧ b < w.heap.size ∧ ∀ k (h : k < l.length) j, j < 12 → w.cell? ⟨b, off + k * 12 + j, none⟩ = l[k].cells[j]?)
set_option maxRecDepth 100000 in
theorem dos_open {H : Type} {enc : TypeId × Value → H} {w : World} {b0 : Nat} {v : Value} {d : DataW H} {p : List MemPlace} (hok : Value.okWide Tryd.prog w .any b0 22 v)
    (h : DataW.Trod enc Tryd.prog w 0 (fun _ => true) true 22 v d p) : ∃ ao len cap l, v = .slice ao len cap ∧ (len ≤ cap ∧ cap ≤ 9223372036854775807 ∧ (ao = none → cap = 0)) ∧ DosAt w ao len l := by
  obtain ⟨a0, len, cap, rfl⟩ := okWide_slice Tryd.underlying22 hok
  obtain ⟨fuel, hf⟩ := h
  have hcN : Tryd.prog.cellsOf 36 = 12 := by kernel_rfl
  rcases open_slice Tryd.underlying22 hf with ⟨hcs, hx⟩ | ⟨a, len', cap', m, n, D, Pl, hcs, _, hl, hm, hmm, hx, hel⟩
  · simp [Value.cells] at hcs
    obtain ⟨rfl, rfl, rfl⟩ := hcs
    exact ⟨none, 0, 0, [], rfl, ⟨by omega, by omega, fun _ => rfl⟩, rfl, by omega, fun _ h => (by cases h), fun h => by omega⟩
  · simp [Value.cells] at hcs
    obtain ⟨rfl, rfl, rfl⟩ := hcs
    unfold maxLen at hm
    simp at hmm
    rw [hcN] at hel
    have hel' : ∀ i, i < len → ∃ x : Do, x.wf ∧ w.cells? 0 (a.add (i * 12)) 12 = some x.cells := fun i hi => by
      obtain ⟨cs', h1, h2⟩ := hel i (by omega)
      obtain ⟨x, hx1, rfl⟩ := do_of_trod h2
      exact ⟨x, hx1, h1⟩
    haveI : Inhabited Do := ⟨⟨ByteArray.empty, ⟨0, 0, 0, 0, 0, 0, 0, 0⟩, 0, 0, 0⟩⟩
    obtain ⟨f, hF⟩ := choose_lt hel'
    refine ⟨some a, len, cap, (List.range len).map f, rfl, ⟨by omega, by omega, fun h => by cases h⟩, by simp, by omega, fun x hx => ?_, fun h0 => ?_⟩
    · obtain ⟨i, hi, rfl⟩ := List.mem_map.1 hx
      exact (hF i (List.mem_range.1 hi)).1
    · have hcell : ∀ k, k < len → ∀ j, j < 12 → w.cell? (a.add (k * 12 + j)) = (f k).cells[j]? := fun k hk j hj => by
        obtain ⟨_, _, hat⟩ := World.cells?_some (hF k hk).2
        rw [← Go.Deep.add_add]
        exact hat j hj
      obtain ⟨b, off, sp⟩ := a
      have h00 := hcell 0 h0 0 (by omega)
      have hsp : sp = none := by
        cases sp with
        | none => rfl
        | some q =>
          exfalso
          rw [show w.cell? (Addr.add ⟨b, off, some q⟩ (0 * 12 + 0)) = none by unfold World.cell? Addr.add; split <;> simp] at h00
          simp [Do.cells] at h00
      subst hsp
      have hadd : ∀ i, Addr.add ⟨b, off, none⟩ i = ⟨b, off + i, none⟩ := fun i => by
        unfold Addr.add
        by_cases hi : i = 0 <;> simp [hi]
      refine ⟨b, off, rfl, ?_, fun k hk j hj => ?_⟩
      · rw [hadd] at h00
        exact lt_of_cell (v := .string (f 0).kind) (by rw [h00]; rfl)
      · have := hcell k (by simpa using hk) j hj
        rw [hadd] at this
        rw [Nat.add_assoc, this]
        simp
end Go.Proofs.YtmbboflakfokhaaDoor

/- Slices of lots compared. -/
set_option linter.unusedSimpArgs false
set_option linter.unusedVariables false
namespace Go.Proofs.YtmbboflakfokhaaDoor
open Go.RowKit

theorem neLot_self (x : Lot) (w : World) : (binOp .neq 56 (.agg #[.int .i64 x.id, .int .i64 x.owner, .int .i64 x.side, .int .i64 x.price, .int .i64 x.qty]) (.agg #[.int .i64 x.id, .int .i64 x.owner, .int .i64 x.side, .int .i64 x.price, .int .i64 x.qty])).run Tryd.prog w = .ok (.bool false) w := by
  have hS : Tryd.prog.underlying 56 = some (.struct (Tryd.prog.fieldsOf 56)) := by kernel_rfl
  have hp : Tryd.prog.stoodInHeld 56 = false := by kernel_rfl
  rw [run_neq_struct, show (10000 : Nat) = 9999 + 1 from rfl, run_equalIn_agg w 9999 _ _ _ hS hp]
  simp only [Program.fieldsOf, Tryd.underlying56]
  go_simp
set_option maxRecDepth 100000 in
theorem sameLotsOf (ao bo : Option Addr) (c1 c2 : Nat) (l : List Lot) (w : World) (h1 : LotsAt w ao l.length l) (h2 : LotsAt w bo l.length l) (hz : l.length ≤ 1000) :
    Calls Tryd.prog 21 #[.slice ao l.length c1, .slice bo l.length c2] w fun e w' => e = .returned (.bool true) ∧ Ex w w' := by
  have H1 := Lib.hid h1.2.2.2
  have H2 := Lib.hid h2.2.2.2
  clear h1 h2
  go_enter Tryd.func21, Tryd.ntmps21
  go_wp2_with fail
  go_loopw [5] (fun i wr => ∃ (k : Nat), k ≤ l.length ∧ i = .int .i64 (k : Int) ∧ Ex w wr) (fun i _ => l.length - (intOf i).toNat)
  case atStart => exact ⟨0, Nat.zero_le _, rfl, Ex.refl _⟩
  case round =>
    obtain ⟨k, hk, rfl, l1, d1, rfl⟩ := hrel
    by_cases hlt : k < l.length
    · obtain ⟨b1, o1, rfl, hb1, hc1⟩ := H1.out (by omega)
      obtain ⟨b2, o2, rfl, hb2, hc2⟩ := H2.out (by omega)
      have a0 := hc1 k hlt 0 (by omega)
      have a1 := hc1 k hlt 1 (by omega)
      have a2 := hc1 k hlt 2 (by omega)
      have a3 := hc1 k hlt 3 (by omega)
      have a4 := hc1 k hlt 4 (by omega)
      have e0 := hc2 k hlt 0 (by omega)
      have e1 := hc2 k hlt 1 (by omega)
      have e2 := hc2 k hlt 2 (by omega)
      have e3 := hc2 k hlt 3 (by omega)
      have e4 := hc2 k hlt 4 (by omega)
      simp only [Lot.cells, List.getElem?_cons_zero, List.getElem?_cons_succ, Nat.add_zero] at a0 a1 a2 a3 a4 e0 e1 e2 e3 e4
      generalize l[k] = x at *
      have ez := fun w => neLot_self x w
      clear hc1 hc2
      go_wp2_with fail
      go_quiet (fail)
      all_goals go_wp2
      all_goals
        go_roundw
        case measure => simp [intOf]; omega
        case rel => exact ⟨k + 1, by omega, by go_num, (by repeat (first | exact Ex.refl _ | refine Ex.alloc ?_ _ | refine Ex.ext ?_ _ _ | refine Ex.drew ?_ | refine Ex.drewN ?_ _))⟩
    · obtain rfl : k = l.length := by omega
      go_wp2
      all_goals go_ret
      all_goals exact ⟨rfl, (by repeat (first | exact Ex.refl _ | refine Ex.alloc ?_ _ | refine Ex.ext ?_ _ _ | refine Ex.drew ?_ | refine Ex.drewN ?_ _))⟩
end Go.Proofs.YtmbboflakfokhaaDoor

/- What Copy of package purse computes. -/
set_option linter.unusedSimpArgs false
set_option linter.unusedVariables false
namespace Go.Proofs.YtmbboflakfokhaaDoor
open Go.RowKit

theorem zeroPu (w : World) : (zeroValue 91).run Tryd.prog w = .ok (.agg (Array.replicate 48 (.int .i64 0))) w := by kernel_rfl
theorem sizePu : (Tryd.prog.info? 91).map (·.size) = some 48 := by kernel_rfl
section
variable {own : Nat → Nat} {i : Nat} {w : World} {p : Nat} {P : Pu}
/-- A new block that holds the same. -/
def CopyTo (w : World) (P : Pu) (e : Ending) (w' : World) : Prop := e = .returned (.pointer (some ⟨w.heap.size, 0, none⟩)) ∧ Ex w w' ∧ w.heap.size < w'.heap.size ∧ ∃ t, w'.rowIs w.heap.size t 48 (fun n => .int .i64 (P (n / 8) (n % 8)))
set_option maxRecDepth 100000 in
theorem pcopy_any (h : PurseAt own i w p P) : Calls Tryd.prog 14 #[.pointer (some ⟨p, 0, none⟩)] w (CopyTo w P) := by
  have hp := h.lt
  obtain ⟨_, _, t, cs, hg, hn, hc⟩ := h
  have hs : (Tryd.prog.info? 91).map (·.size) = some cs.size := by rw [hn]; exact sizePu
  have h1 : ∀ v ∈ cs.toList, v.oneCell' = true := fun v hv => by
    obtain ⟨k, hk, rfl⟩ := List.getElem_of_mem hv
    have h2 := hc k (by simpa [hn] using hk)
    simp only [Array.getElem_toList]
    rw [Array.getElem?_eq_getElem (by simpa using hk)] at h2
    rw [Option.some.inj h2]
    rfl
  have HG := Lib.hid hg
  have HN := Lib.hid hn
  have HS := Lib.hid hs
  have H1 := Lib.hid h1
  have HC := Lib.hid hc
  clear hg hn hs h1 hc
  go_enter Tryd.func14, Tryd.ntmps14
  go_wp2_with (first
    | (refine wpList_load_row rfl 91 (.tmp 5) rfl p rfl t cs (0, 0) _ HG.out Tryd.underlying91 rfl HS.out ?_)
    | (with_reducible refine wpList_alloc_row rfl 91 rfl _ _ zeroPu rfl ?_)
    | (refine wpList_store_row rfl 91 (.tmp 3) (.tmp 6) rfl w.heap.size rfl cs rfl (Array.replicate 48 (.int .i64 0)) 91 (heap_new rfl) HS.out (by rw [HN.out]; rfl) H1.out ?_))
  all_goals go_ret
  have hrow : (((w.alloc (.cells (Array.replicate 48 (.int .i64 0)) 91)).setRow w.heap.size cs)).heap[w.heap.size]? = some (.cells cs 91 (0, 0)) := setRow_heap _ _ _ _ _ _ (heap_new rfl)
  refine ⟨rfl, Ex.of ?_, by simp, 91, cs, hrow, HN.out, HC.out⟩
  have h2 := (Below.refl w.heap.size w).alloc (Nat.le_refl _) (.cells (Array.replicate 48 (.int .i64 0)) 91)
  exact h2.trans ⟨rfl, rfl, rfl, by simp, fun k hk => setRow_other _ _ _ _ (by omega)⟩
end
end Go.Proofs.YtmbboflakfokhaaDoor
