/- WireApart: the walk through the law, and that two requests have one frame only if they are one. -/
import Derived.Test.YthngmmhoakegeaaDoorEncode
import Derived.Test.YthngmmhoakegeaaDoorRead
import Derived.Lib.SmallJoins
import Derived.Deep.DeepCutAuto
set_option linter.unusedSimpArgs false
set_option linter.unusedVariables false
namespace Go.Proofs.YthngmmhoakegeaaDoor
open Go.RowKit

/-- A login's frame, at the front. -/
theorem framed_facts : let s := Ask.frame ⟨108, 2, 1, 0, 0, 0, 0, 0⟩
    s.size = 30 ∧ (s.extract 0 6).toList = [108, 2, 0, 0, 0, 1] ∧ crc [49, 50, 51, 52, 53, 54, 55, 56, 57] = 3421780262 := by
  refine ⟨?_, ?_, ?_⟩ <;> decide +kernel

set_option maxRecDepth 100000 in
theorem framed_any (E : Nat → Addr) (w : World) (hE : Errs E [2, 3, 4] w) :
    Calls Tryd.prog 25 #[] w fun e w' => e = .returned (.bool true) ∧ Ex w w' := by
  obtain ⟨h1, h2, h3⟩ := framed_facts
  have H := encode_ok ⟨108, 2, 1, 0, 0, 0, 0, 0⟩ E
  have HS := sum_any ⟨#[49, 50, 51, 52, 53, 54, 55, 56, 57]⟩
  rw [show (⟨#[49, 50, 51, 52, 53, 54, 55, 56, 57]⟩ : ByteArray).data.toList = [49, 50, 51, 52, 53, 54, 55, 56, 57] from rfl, h3] at HS
  generalize Ask.frame ⟨108, 2, 1, 0, 0, 0, 0, 0⟩ = s at *
  have HH := Lib.hid H
  have HHS := Lib.hid HS
  clear H HS
  go_enter Tryd.func25, Tryd.ntmps25
  go_wp2_with (first
    | (go_at_call 26; refine (HH.out _ (by exact Errs.sub (hE.ex (by repeat (first | exact Ex.refl _ | refine Ex.alloc ?_ _ | refine Ex.ext ?_ _ _ | refine Ex.drew ?_ | refine Ex.drewN ?_ _))) (by decide)) (by decide)).mono ?_; rintro e w1 ⟨rfl, l1, d1, rfl⟩)
    | (go_at_call 53; refine (HHS.out _ (by decide)).mono ?_; rintro e w1 ⟨rfl, rfl⟩))
  all_goals go_ret
  all_goals exact ⟨rfl, (by repeat (first | exact Ex.refl _ | refine Ex.alloc ?_ _ | refine Ex.ext ?_ _ _ | refine Ex.drew ?_ | refine Ex.drewN ?_ _))⟩

theorem strOfNums_inj {xs ys : List Int} (h : strOfNums xs = strOfNums ys) (hx : ∀ x ∈ xs, 0 ≤ x ∧ x < 256) (hy : ∀ y ∈ ys, 0 ≤ y ∧ y < 256) : xs = ys := by
  have h' := congrArg (fun s : ByteArray => s.data.toList) h
  simp only [strOfNums_data] at h'
  clear h
  induction xs generalizing ys with
  | nil => cases ys with
    | nil => rfl
    | cons y ys => simp at h'
  | cons x xs ih => cases ys with
    | nil => simp at h'
    | cons y ys =>
      simp only [List.map_cons, List.cons.injEq] at h'
      have e := congrArg UInt8.toNat h'.1
      have bx := hx x (by simp)
      have by' := hy y (by simp)
      simp only [UInt8.toNat_ofNat'] at e
      rw [Nat.mod_eq_of_lt (by omega), Nat.mod_eq_of_lt (by omega)] at e
      rw [ih (fun z hz => hx z (by simp [hz])) (fun z hz => hy z (by simp [hz])) h'.2, show x = y by omega]

theorem Ask.nums_byte {a : Ask} (hk : 0 ≤ a.kind ∧ a.kind ≤ 255) (h : a.err = 0) : ∀ x ∈ a.nums, 0 ≤ x ∧ x < 256 := by
  obtain ⟨⟨c0, c1⟩, ⟨s0, s1⟩, ⟨d0, d1⟩, ⟨t0, t1⟩, ⟨u0, u1⟩, ⟨p0, p1⟩, ⟨q0, q1⟩, _⟩ := Ask.bounds h
  intro x hx
  simp [Ask.nums, highB] at hx
  rcases hx with rfl | rfl | rfl | rfl | rfl | rfl | rfl | rfl | rfl | rfl | rfl | rfl | rfl | rfl | rfl | rfl | rfl | rfl | rfl | rfl | rfl <;> omega

theorem Ask.body_size (a : Ask) : a.body.size = 26 := by rw [Ask.body, strOfNums_size]; rfl
theorem Ask.frame_size (a : Ask) : a.frame.size = 30 := by
  rw [Ask.frame, ByteArray.size_append, Ask.body_size, strOfNums_size]; rfl
theorem append_inj_size {a b c d : ByteArray} (h : a ++ b = c ++ d) (hs : a.size = c.size) : a = c := by
  have h' := congrArg (fun s : ByteArray => s.data.toList) h
  simp only [ByteArray.data_append, Array.toList_append] at h'
  have := (List.append_inj h' (by rw [Array.length_toList, Array.length_toList]; exact hs)).1
  exact ByteArray.ext (Array.toList_inj.1 this)

/-- Two requests have one frame only if they are one. -/
theorem Ask.frame_inj {a b : Ask} (ha : a.err = 0) (hb : b.err = 0) (ka : 0 ≤ a.kind ∧ a.kind ≤ 255) (kb : 0 ≤ b.kind ∧ b.kind ≤ 255) (h : a.frame = b.frame) : a = b := by
  have h1 : a.body = b.body := append_inj_size h (by rw [Ask.body_size, Ask.body_size])
  have h2 := strOfNums_inj h1 (Ask.nums_byte ka ha) (Ask.nums_byte kb hb)
  obtain ⟨⟨c0, c1⟩, ⟨s0, s1⟩, ⟨d0, d1⟩, ⟨t0, t1⟩, ⟨u0, u1⟩, ⟨p0, p1⟩, ⟨q0, q1⟩, _⟩ := Ask.bounds ha
  obtain ⟨⟨c2, c3⟩, ⟨s2, s3⟩, ⟨d2, d3⟩, ⟨t2, t3⟩, ⟨u2, u3⟩, ⟨p2, p3⟩, ⟨q2, q3⟩, _⟩ := Ask.bounds hb
  simp only [Ask.nums, highB, List.cons_append, List.nil_append, List.cons.injEq, and_true] at h2
  obtain ⟨e1, e2, e3, e4, e5, e6, e7, e8, e9, e10, e11, e12, e13, e14, e15, e16, e17, e18, e19, e20⟩ := h2
  cases a; cases b
  simp only [Ask.mk.injEq] at *
  refine ⟨e1, e2, by omega, e7, e8, by omega, by omega, by omega⟩

set_option maxRecDepth 100000 in
theorem wireApart_bad (a b : Ask) (E : Nat → Addr) (w : World) (hE : Errs E [2, 3, 4] w) (h : a.err ≠ 0) :
    Calls Tryd.prog 6 #[a.val, b.val] w fun e w' => e = .returned (.bool true) ∧ Ex w w' := by
  have HA := Lib.hid (encode_bad a E)
  have H := Lib.hid h
  clear h
  by_cases hb : b.err = 0
  · have HB := Lib.hid (encode_ok b E)
    have H2 := Lib.hid hb
    clear hb
    go_enter Tryd.func6, Tryd.ntmps6
    go_wp2_with (go_at_call 25; refine (framed_any E _ (by exact Errs.sub (hE.ex (by repeat (first | exact Ex.refl _ | refine Ex.alloc ?_ _ | refine Ex.ext ?_ _ _ | refine Ex.drew ?_ | refine Ex.drewN ?_ _))) (by decide))).mono ?_; rintro e w1 ⟨rfl, l1, d1, rfl⟩)
    refine (HA.out _ (by exact Errs.sub (hE.ex (by repeat (first | exact Ex.refl _ | refine Ex.alloc ?_ _ | refine Ex.ext ?_ _ _ | refine Ex.drew ?_ | refine Ex.drewN ?_ _))) (by decide)) H.out).mono ?_
    rintro e w1 ⟨rfl, l2, d2, rfl⟩
    go_wp2_with fail
    refine (HB.out _ (by exact Errs.sub (hE.ex (by repeat (first | exact Ex.refl _ | refine Ex.alloc ?_ _ | refine Ex.ext ?_ _ _ | refine Ex.drew ?_ | refine Ex.drewN ?_ _))) (by decide)) H2.out).mono ?_
    rintro e w1 ⟨rfl, l3, d3, rfl⟩
    go_wp2
    all_goals go_ret
    all_goals exact ⟨rfl, (by repeat (first | exact Ex.refl _ | refine Ex.alloc ?_ _ | refine Ex.ext ?_ _ _ | refine Ex.drew ?_ | refine Ex.drewN ?_ _))⟩
  · have HB := Lib.hid (encode_bad b E)
    have H2 := Lib.hid hb
    clear hb
    go_enter Tryd.func6, Tryd.ntmps6
    go_wp2_with (go_at_call 25; refine (framed_any E _ (by exact Errs.sub (hE.ex (by repeat (first | exact Ex.refl _ | refine Ex.alloc ?_ _ | refine Ex.ext ?_ _ _ | refine Ex.drew ?_ | refine Ex.drewN ?_ _))) (by decide))).mono ?_; rintro e w1 ⟨rfl, l1, d1, rfl⟩)
    refine (HA.out _ (by exact Errs.sub (hE.ex (by repeat (first | exact Ex.refl _ | refine Ex.alloc ?_ _ | refine Ex.ext ?_ _ _ | refine Ex.drew ?_ | refine Ex.drewN ?_ _))) (by decide)) H.out).mono ?_
    rintro e w1 ⟨rfl, l2, d2, rfl⟩
    go_wp2_with fail
    refine (HB.out _ (by exact Errs.sub (hE.ex (by repeat (first | exact Ex.refl _ | refine Ex.alloc ?_ _ | refine Ex.ext ?_ _ _ | refine Ex.drew ?_ | refine Ex.drewN ?_ _))) (by decide)) H2.out).mono ?_
    rintro e w1 ⟨rfl, l3, d3, rfl⟩
    go_wp2
    all_goals go_ret
    all_goals exact ⟨rfl, (by repeat (first | exact Ex.refl _ | refine Ex.alloc ?_ _ | refine Ex.ext ?_ _ _ | refine Ex.drew ?_ | refine Ex.drewN ?_ _))⟩

set_option maxRecDepth 100000 in
theorem wireApart_half (a b : Ask) (E : Nat → Addr) (w : World) (hE : Errs E [2, 3, 4] w) (h : a.err = 0) (hb : b.err ≠ 0) :
    Calls Tryd.prog 6 #[a.val, b.val] w fun e w' => e = .returned (.bool true) ∧ Ex w w' := by
  have HA := Lib.hid (encode_ok a E)
  have H := Lib.hid h
  have HB := Lib.hid (encode_bad b E)
  have H2 := Lib.hid hb
  clear hb h
  go_enter Tryd.func6, Tryd.ntmps6
  go_wp2_with (go_at_call 25; refine (framed_any E _ (by exact Errs.sub (hE.ex (by repeat (first | exact Ex.refl _ | refine Ex.alloc ?_ _ | refine Ex.ext ?_ _ _ | refine Ex.drew ?_ | refine Ex.drewN ?_ _))) (by decide))).mono ?_; rintro e w1 ⟨rfl, l1, d1, rfl⟩)
  refine (HA.out _ (by exact Errs.sub (hE.ex (by repeat (first | exact Ex.refl _ | refine Ex.alloc ?_ _ | refine Ex.ext ?_ _ _ | refine Ex.drew ?_ | refine Ex.drewN ?_ _))) (by decide)) H.out).mono ?_
  rintro e w1 ⟨rfl, l2, d2, rfl⟩
  go_wp2_with fail
  refine (HB.out _ (by exact Errs.sub (hE.ex (by repeat (first | exact Ex.refl _ | refine Ex.alloc ?_ _ | refine Ex.ext ?_ _ _ | refine Ex.drew ?_ | refine Ex.drewN ?_ _))) (by decide)) H2.out).mono ?_
  rintro e w1 ⟨rfl, l3, d3, rfl⟩
  go_wp2
  all_goals go_ret
  all_goals exact ⟨rfl, (by repeat (first | exact Ex.refl _ | refine Ex.alloc ?_ _ | refine Ex.ext ?_ _ _ | refine Ex.drew ?_ | refine Ex.drewN ?_ _))⟩

set_option maxRecDepth 100000 in
theorem wireApart_same (a : Ask) (E : Nat → Addr) (w : World) (hE : Errs E [2, 3, 4] w) (h : a.err = 0) :
    Calls Tryd.prog 6 #[a.val, a.val] w fun e w' => e = .returned (.bool true) ∧ Ex w w' := by
  have HA := Lib.hid (encode_ok a E)
  have H := Lib.hid h
  have z := Ask.frame_size a
  generalize a.frame = s at *
  clear h
  go_enter Tryd.func6, Tryd.ntmps6
  go_wp2_with (go_at_call 25; refine (framed_any E _ (by exact Errs.sub (hE.ex (by repeat (first | exact Ex.refl _ | refine Ex.alloc ?_ _ | refine Ex.ext ?_ _ _ | refine Ex.drew ?_ | refine Ex.drewN ?_ _))) (by decide))).mono ?_; rintro e w1 ⟨rfl, l1, d1, rfl⟩)
  refine (HA.out _ (by exact Errs.sub (hE.ex (by repeat (first | exact Ex.refl _ | refine Ex.alloc ?_ _ | refine Ex.ext ?_ _ _ | refine Ex.drew ?_ | refine Ex.drewN ?_ _))) (by decide)) H.out).mono ?_
  rintro e w1 ⟨rfl, l2, d2, rfl⟩
  go_wp2_with fail
  refine (HA.out _ (by exact Errs.sub (hE.ex (by repeat (first | exact Ex.refl _ | refine Ex.alloc ?_ _ | refine Ex.ext ?_ _ _ | refine Ex.drew ?_ | refine Ex.drewN ?_ _))) (by decide)) H.out).mono ?_
  rintro e w1 ⟨rfl, l3, d3, rfl⟩
  go_wp2
  all_goals go_ret
  all_goals exact ⟨rfl, (by repeat (first | exact Ex.refl _ | refine Ex.alloc ?_ _ | refine Ex.ext ?_ _ _ | refine Ex.drew ?_ | refine Ex.drewN ?_ _))⟩

theorem toList_ne {s t : ByteArray} (h : s ≠ t) : (s.toList == t.toList) = false := by
  rw [ByteArray.toList_eq, ByteArray.toList_eq]
  exact beq_eq_false_iff_ne.2 fun e => h (ByteArray.ext (Array.toList_inj.1 e))

theorem eql_ask (a b : Ask) (w : World) (hne : a ≠ b) : (binOp .eql 30 (.agg #[.int .u8 a.kind, .int .i64 a.client, .int .i64 a.seq, .int .i64 a.item, .int .i64 a.side, .int .i64 a.price, .int .i64 a.qty, .int .i64 a.id]) (.agg #[.int .u8 b.kind, .int .i64 b.client, .int .i64 b.seq, .int .i64 b.item, .int .i64 b.side, .int .i64 b.price, .int .i64 b.qty, .int .i64 b.id])).run Tryd.prog w = .ok (.bool false) w := by
  have hS : Tryd.prog.underlying 30 = some (.struct (Tryd.prog.fieldsOf 30)) := by kernel_rfl
  have hp : Tryd.prog.stoodInHeld 30 = false := by kernel_rfl
  rw [run_eql_struct, show (10000 : Nat) = 9999 + 1 from rfl, run_equalIn_agg w 9999 _ _ _ hS hp]
  simp only [Program.fieldsOf, Tryd.underlying30]
  go_simp
  obtain ⟨a1, a2, a3, a4, a5, a6, a7, a8⟩ := a
  obtain ⟨b1, b2, b3, b4, b5, b6, b7, b8⟩ := b
  simp only [ne_eq, Ask.mk.injEq, not_and] at hne
  exact hne

set_option maxRecDepth 100000 in
theorem wireApart_other (a b : Ask) (E : Nat → Addr) (w : World) (hE : Errs E [2, 3, 4] w) (h : a.err = 0) (hb : b.err = 0) (hne : a ≠ b) (hf : a.frame ≠ b.frame) :
    Calls Tryd.prog 6 #[a.val, b.val] w fun e w' => e = .returned (.bool true) ∧ Ex w w' := by
  have HA := Lib.hid (encode_ok a E)
  have H := Lib.hid h
  have HB := Lib.hid (encode_ok b E)
  have H2 := Lib.hid hb
  have z := Ask.frame_size a
  have z2 := Ask.frame_size b
  generalize a.frame = s at *
  generalize b.frame = t at *
  have hst := toList_ne hf
  clear h hb
  go_enter Tryd.func6, Tryd.ntmps6
  go_wp2_with (go_at_call 25; refine (framed_any E _ (by exact Errs.sub (hE.ex (by repeat (first | exact Ex.refl _ | refine Ex.alloc ?_ _ | refine Ex.ext ?_ _ _ | refine Ex.drew ?_ | refine Ex.drewN ?_ _))) (by decide))).mono ?_; rintro e w1 ⟨rfl, l1, d1, rfl⟩)
  refine (HA.out _ (by exact Errs.sub (hE.ex (by repeat (first | exact Ex.refl _ | refine Ex.alloc ?_ _ | refine Ex.ext ?_ _ _ | refine Ex.drew ?_ | refine Ex.drewN ?_ _))) (by decide)) H.out).mono ?_
  rintro e w1 ⟨rfl, l2, d2, rfl⟩
  go_wp2_with fail
  refine (HB.out _ (by exact Errs.sub (hE.ex (by repeat (first | exact Ex.refl _ | refine Ex.alloc ?_ _ | refine Ex.ext ?_ _ _ | refine Ex.drew ?_ | refine Ex.drewN ?_ _))) (by decide)) H2.out).mono ?_
  rintro e w1 ⟨rfl, l3, d3, rfl⟩
  clear HA HB H H2 hE
  have HE := fun w => eql_ask a b w hne
  go_upto_region 8 with (fail)
  go_wp2
  all_goals go_ret
  all_goals exact ⟨rfl, (by repeat (first | exact Ex.refl _ | refine Ex.alloc ?_ _ | refine Ex.ext ?_ _ _ | refine Ex.drew ?_ | refine Ex.drewN ?_ _))⟩

theorem wireApart_any (a b : Ask) (ka : 0 ≤ a.kind ∧ a.kind ≤ 255) (kb : 0 ≤ b.kind ∧ b.kind ≤ 255) (E : Nat → Addr) (w : World) (hE : Errs E [2, 3, 4] w) :
    Calls Tryd.prog 6 #[a.val, b.val] w fun e w' => e = .returned (.bool true) ∧ Ex w w' := by
  by_cases h : a.err = 0
  · by_cases hb : b.err = 0
    · by_cases hab : a = b
      · subst hab; exact wireApart_same a E w hE h
      · exact wireApart_other a b E w hE h hb hab fun e => hab (Ask.frame_inj h hb ka kb e)
    · exact wireApart_half a b E w hE h hb
  · exact wireApart_bad a b E w hE h
end Go.Proofs.YthngmmhoakegeaaDoor
