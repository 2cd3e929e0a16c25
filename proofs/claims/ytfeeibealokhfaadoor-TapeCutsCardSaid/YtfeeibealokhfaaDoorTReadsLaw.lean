/- The walk of TapeReads. -/
import Derived.Test.YtfeeibealokhfaaDoorTaped
set_option linter.unusedSimpArgs false
set_option linter.unusedVariables false
namespace Go.Proofs.YtfeeibealokhfaaDoor
open Go.RowKit

theorem app_next {l : List (List UInt8)} (hf : Fits l) (hl : (recs l).length ≤ 3000) (k : Nat) (hk : k < l.length) : (⟨recs (l.take k), false, -1⟩ : Dk).appE l[k] = 0 ∧ (⟨recs (l.take k), false, -1⟩ : Dk).app l[k] = ⟨recs (l.take (k + 1)), false, -1⟩ := by
  have e : l.take (k + 1) = l.take k ++ [l[k]] := by rw [List.take_succ_eq_append_getElem hk]
  have h1 := hf l[k] (List.getElem_mem hk)
  have h2 : (recs (l.take (k + 1))).length ≤ (recs l).length := by
    have : recs l = recs (l.take (k + 1)) ++ recs (l.drop (k + 1)) := by rw [← recs_append, List.take_append_drop]
    rw [this, List.length_append]; omega
  have h3 := recs_len_snoc (l.take k) l[k]
  rw [← e] at h3
  constructor
  · unfold Dk.appE
    rw [if_neg (by omega), if_neg (by show ¬ 1048576 < (recs (l.take k)).length + _; omega), if_neg (by show ¬ (false = true); decide), if_neg (by show ¬ ((0 : Int) ≤ -1 ∧ _); omega)]
  · unfold Dk.app
    rw [if_neg (by omega), if_neg (by show ¬ 1048576 < (recs (l.take k)).length + _; omega), if_neg (by show ¬ (false = true); decide), if_neg (by show ¬ ((0 : Int) ≤ -1 ∧ _); omega), if_neg (by show ¬ ((0 : Int) ≤ -1); omega), e, recs_append, recs_one]
/-- A disk beside what was there. -/
def DiskIn (wB : World) (p : Nat) (d : Dk) (wr : World) : Prop := (∃ own, DiskAt own 1 wr p d ∧ ∀ b, b < wB.heap.size → own b = 0) ∧ Below wB.heap.size wB wr ∧ wB.heap.size ≤ wr.heap.size
theorem DiskIn.later {wB : World} {p : Nat} {d : Dk} {wr w' : World} (h : DiskIn wB p d wr) (hx : Ex wr w') : DiskIn wB p d w' := by
  obtain ⟨⟨own, h1, h2⟩, h3, h4⟩ := h
  exact ⟨⟨own, h1.later hx, h2⟩, h3.trans (hx.below.mono h4), Nat.le_trans h4 hx.below.size⟩
theorem DiskIn.turned {wB : World} {p : Nat} {d' : Dk} {wr w' : World} {own : Nat → Nat} {j : Nat} (h2 : ∀ b, b < wB.heap.size → own b = 0) (h3 : Below wB.heap.size wB wr) (h4 : wB.heap.size ≤ wr.heap.size) (hT : ObjTo own 1 j wr (fun o w' => DiskAt o 1 w' p d') w') : DiskIn wB p d' w' := by
  obtain ⟨o2, hI, hB2, ho2, hs2, _⟩ := hT.use h3 h4 (fun b hb => by rw [h2 b hb]; decide)
  exact ⟨⟨o2, hI, fun b hb => by rw [ho2 b (by omega)]; exact h2 b hb⟩, hB2, by omega⟩
theorem newDisk_in (s : List UInt8) (w : World) (hs : s.length ≤ 1048576) : Calls Tryd.prog 21 #[.string ⟨s.toArray⟩] w fun e w' => e = .returned (.tuple #[.pointer (some ⟨w.heap.size + 1, 0, none⟩), .nilIface]) ∧ DiskIn w (w.heap.size + 1) ⟨s, false, -1⟩ w' :=
  (newDisk_any (fun _ => 0) 1 s w hs).mono fun e w' ⟨h1, h2⟩ => ⟨h1, DiskIn.turned (fun _ _ => rfl) (Below.refl _ _) (Nat.le_refl _) h2⟩
theorem append_in {wB : World} {p : Nat} {d : Dk} {w : World} (h : DiskIn wB p d w) (s : List UInt8) (hm : s.length ≤ maxLen) (E : Nat → Addr) (hE : Errs E [2, 8, 9] wB) :
    Calls Tryd.prog 22 #[.pointer (some ⟨p, 0, none⟩), .string ⟨s.toArray⟩] w fun e w' => e = .returned (errV E (d.appE s)) ∧ DiskIn wB p (d.app s) w' := by
  obtain ⟨⟨own, h1, h2⟩, h3, h4⟩ := h
  exact (append_any h1 s hm E (hE.ex (Ex.of h3)) (by rw [h2 _ (lt_of_cell (hE 9 (by decide)))]; decide)).mono fun e w' ⟨k1, k2⟩ => ⟨k1, DiskIn.turned h2 h3 h4 k2⟩
theorem bytes_in {wB : World} {p : Nat} {d : Dk} {w : World} (h : DiskIn wB p d w) : Calls Tryd.prog 23 #[.pointer (some ⟨p, 0, none⟩)] w fun e w' => e = .returned (.string ⟨d.b.toArray⟩) ∧ w = w' := by
  obtain ⟨⟨own, h1, h2⟩, h3, h4⟩ := h
  exact bytes_any h1
set_option maxRecDepth 100000 in
set_option maxHeartbeats 4000000 in
theorem tapeReads_in (b more : List UInt8) (E : Nat → Addr) (w : World) (hE : Errs E [2, 8, 9] w) (h1 : b.length ≤ 3000) (h2 : more.length ≤ 300) :
    Calls Tryd.prog 4 #[.string ⟨b.toArray⟩, .string ⟨more.toArray⟩] w fun e w' => e = .returned (.bool true) ∧ Below w.heap.size w w' := by
  have zb := bytes_size b
  have zm := bytes_size more
  have HE := Lib.hid hE
  have HTP := Lib.hid (fun w h => taped_any w E h)
  have HRD := Lib.hid (fun w => read_any b w (by omega))
  clear hE
  go_enter Tryd.func4, Tryd.ntmps4
  go_upto_region 5 with (first
    | (go_at_call 19; refine (HTP.out _ HE.out).mono ?_; rintro e w1 ⟨rfl, l1, d1, rfl⟩)
    | (go_at_call 20; refine (HRD.out _).mono ?_; rintro e wB ⟨⟨v, l, n, rfl, hrd, hrow⟩, hx⟩))
  obtain ⟨ao, cap, rfl, hcap, hcm, hst⟩ := strs_of_owned rfl hrow
  have hnb := hrd.le
  have htk := hrd.take
  have HX := Lib.hid ((show Ex w (ext w l1 d1) from ⟨l1, d1, rfl⟩).trans hx)
  have hsw := HX.out.below.size
  have HEB := Lib.hid (HE.out.ex HX.out)
  have HRS := Lib.hid hrd
  have HST := Lib.hid hst
  have hll : l.length ≤ 3000 := by have := recs_ge l; have := hrd.2.1; omega
  have hbl : (recs l).length = n := hrd.2.1.symm
  have HTK := Lib.hid htk
  clear hrow hrd hst htk hx
  have a1 : (0 : Int) ≤ (n : Int) := by omega
  have a2 : (n : Int) ≤ (b.length : Int) := by omega
  have eh : (⟨b.toArray⟩ : ByteArray).extract 0 n = ⟨(recs l).toArray⟩ := by rw [bytes_head, HTK.out.1]
  have et : (⟨b.toArray⟩ : ByteArray).extract n b.length = ⟨(b.drop n).toArray⟩ := bytes_tail b n _ (Nat.le_refl _)
  have HND := Lib.hid (newDisk_in [] wB (by decide))
  go_upto_region 10 with (go_at_call 21; refine (HND.out).mono ?_; rintro e wd ⟨rfl, hd0⟩)
  generalize wB.heap.size + 1 = p at *
  have HD0 := Lib.hid hd0
  clear hd0 HND
  go_wp2_with fail
  go_loopw [10] (fun i wr => ∃ (k : Nat), k ≤ l.length ∧ i = .int .i64 k ∧ DiskIn wB p ⟨recs (l.take k), false, -1⟩ wr) (fun i _ => l.length - (intOf i).toNat)
  case atStart => exact ⟨0, Nat.zero_le _, rfl, HD0.out⟩
  case round =>
    obtain ⟨k, hk, rfl, hd⟩ := hrel
    by_cases hlt : k < l.length
    · obtain ⟨sb, so, rfl, hb1, hc1⟩ := HST.out (by omega)
      have a0 := (hd.2.1.cell (p := ⟨sb, so + k, none⟩) hb1).trans (hc1 k hlt)
      have hbr : sb < wr.heap.size := Nat.lt_of_lt_of_le hb1 hd.2.2
      obtain ⟨x1, x2⟩ := app_next HRS.out.1 (by omega) k hlt
      have hA := append_in hd l[k] (by have := HRS.out.1 l[k] (List.getElem_mem hlt); unfold maxLen; omega) E HEB.out
      rw [x1, x2, errV_zero] at hA
      have HA := Lib.hid hA
      clear hc1 hA x1 x2 hd
      generalize l[k] = z at *
      unfold strV at a0
      go_wp2_with (go_at_call 22; refine (HA.out).mono ?_; rintro e w2 ⟨rfl, hd2⟩)
      go_roundw
      case measure => simp [intOf]; omega
      case rel => exact ⟨k + 1, by omega, by go_num, hd2⟩
    · obtain rfl : k = l.length := by omega
      rw [List.take_length] at hd
      have HD := Lib.hid hd
      have HBY := Lib.hid (fun w' (hx : Ex wr w') => bytes_in (hd.later hx))
      clear hd HD0
      have hsl : ∀ w, (Instr.slice 9 (.string ⟨b.toArray⟩) none (some (.int .i64 (n : Int))) none).run Tryd.prog w = .ok (.string ⟨(recs l).toArray⟩) w := fun w => by
        have hu := Tryd.underlying9
        go_simp
      go_wp2_with fail
      refine wp_region_any (by kernel_rfl) ?_
      (try (change wpAny _ _ _ _ _ _ _ (World.drew _)))
      refine wpAny_take (i := 0) (v := ?_) rfl (by kernel_rfl) (by kernel_rfl) (by kernel_rfl) (fun _ _ _ h => h) (Or.inl ⟨by rfl, ?_⟩) ?_
      rotate_left
      focus (intro w; go_simp; (try with_reducible rfl))
      (try simp only [Act.put, List.setIfInBounds_toArray, List.set_cons_zero, List.set_cons_succ])
      refine wpAny_take (i := 2) (v := ?_) rfl (by kernel_rfl) (by kernel_rfl) (by kernel_rfl) (fun _ _ _ h => h) (Or.inl ⟨by rfl, ?_⟩) ?_
      rotate_left
      focus (intro w; go_simp; (try with_reducible rfl))
      (try simp only [Act.put, List.setIfInBounds_toArray, List.set_cons_zero, List.set_cons_succ])
      refine wpAny_take (i := 3) (v := ?_) rfl (by kernel_rfl) (by kernel_rfl) (by kernel_rfl) (fun _ _ _ h => h) (Or.inl ⟨by rfl, ?_⟩) ?_
      rotate_left
      focus (intro w; go_simp; (try with_reducible rfl))
      (try simp only [Act.put, List.setIfInBounds_toArray, List.set_cons_zero, List.set_cons_succ])
      refine wpAny_take (i := 4) (v := ?_) rfl (by kernel_rfl) (by kernel_rfl) (by kernel_rfl) (fun _ _ _ h => h) (Or.inl ⟨by rfl, ?_⟩) ?_
      rotate_left
      focus (intro w; go_simp; (try with_reducible rfl))
      (try simp only [Act.put, List.setIfInBounds_toArray, List.set_cons_zero, List.set_cons_succ])
      refine wpAny_ready (rs := [1]) (by kernel_rfl) (by simp) (AllReady.cons rfl (fun K hK => ?_) AllReady.nil)
      go_simp
      refine (HBY.out _ (by repeat (first | exact Ex.refl _ | refine Ex.alloc ?_ _ | refine Ex.ext ?_ _ _ | refine Ex.drew ?_ | refine Ex.drewN ?_ _))).mono ?_
      rintro e w3 ⟨rfl, rfl⟩
      (try (refine hK _ _ ?_; clear hK K))
      refine wpAny_ready (rs := [5]) (by kernel_rfl) (by simp) (AllReady.cons rfl (fun K hK => ?_) AllReady.nil)
      go_simp
      refine hK _ _ ?_
      clear hK K
      refine wpAny_done (by kernel_rfl) ?_ _
      have hr2 : ∀ w, Calls Tryd.prog 20 #[.string ⟨(b.drop n).toArray⟩] w fun e w' => ReadRet (b.drop n) w.heap.size e w' ∧ Ex w w' := fun w => read_any _ w (by rw [List.length_drop]; omega)
      have hr3 : ∀ w, Calls Tryd.prog 20 #[.string ⟨(recs l ++ more).toArray⟩] w fun e w' => ReadRet (recs l ++ more) w.heap.size e w' ∧ Ex w w' := fun w => read_any _ w (by rw [List.length_append]; omega)
      have HR2 := Lib.hid hr2
      have HR3 := Lib.hid hr3
      clear hr2 hr3
      have ha := bytes_add (recs l) more
      have zl := bytes_size (recs l)
      go_upto_region 18 with (go_at_call 20; refine (HR2.out _).mono ?_; rintro e w5 ⟨⟨v5, x, m, rfl, hrd5, hrow5⟩, hx5⟩)
      obtain ⟨rfl, rfl⟩ := reads_none hrd5 HTK.out.2
      obtain ⟨ao5, cap5, rfl, hcap5, _, _⟩ := strs_of_owned (l := []) rfl hrow5
      have HX5 := Lib.hid hx5
      clear hrd5 hrow5 hx5
      go_upto_region 19 with (go_at_call 20; refine (HR3.out _).mono ?_; rintro e w6 ⟨⟨v6, y, k, rfl, hrd6, hrow6⟩, hx6⟩)
      obtain ⟨y', rfl, _, hk⟩ := reads_behind l y more k HRS.out.1 hrd6
      obtain ⟨ao6, cap6, rfl, hcap6, hcm6, hst6⟩ := strs_of_owned rfl hrow6
      have HX6 := Lib.hid hx6
      have HS6 := Lib.hid hst6.head
      have hxw : Ex wr w6 := (show Ex wr wr.drew from (by repeat (first | exact Ex.refl _ | refine Ex.alloc ?_ _ | refine Ex.ext ?_ _ _ | refine Ex.drew ?_ | refine Ex.drewN ?_ _))).trans (HX5.out.trans HX6.out)
      have HXW := Lib.hid hxw
      have hyl : (l ++ y').length = l.length + y'.length := List.length_append
      have HST6 := Lib.hid ((HST.out.ex (Ex.of HD.out.2.1)).ex hxw)
      have HSM := Lib.hid (fun W c2 (h1 : StrsAt W ao6 l) (h2 : StrsAt W ao l) => sameTexts_same ao6 ao c2 cap l W h1 h2 (by omega))
      rw [hyl] at hcap6
      clear hrd6 hrow6 hst6 hx6 hxw
      generalize (l ++ y').length = ny at *
      have b1 : (0 : Int) ≤ (l.length : Int) := by omega
      have b2 : (l.length : Int) ≤ (cap6 : Int) := by omega
      have b3 : decide ((n : Int) ≤ (k : Int)) = true := decide_eq_true (by omega)
      have b4 : decide ((l.length : Int) ≤ (ny : Int)) = true := decide_eq_true (by omega)
      go_wp2_with (go_at_call 24; refine (HSM.out _ _ (HS6.out.ex (by repeat (first | exact Ex.refl _ | refine Ex.alloc ?_ _ | refine Ex.ext ?_ _ _ | refine Ex.drew ?_ | refine Ex.drewN ?_ _))) (HST6.out.ex (by repeat (first | exact Ex.refl _ | refine Ex.alloc ?_ _ | refine Ex.ext ?_ _ _ | refine Ex.drew ?_ | refine Ex.drewN ?_ _)))).mono ?_; rintro e w7 ⟨rfl, l7, d7, rfl⟩)
      all_goals go_ret
      all_goals exact ⟨rfl, (((HX.out.trans (Ex.of HD.out.2.1)).trans HXW.out).trans (by repeat (first | exact Ex.refl _ | refine Ex.alloc ?_ _ | refine Ex.ext ?_ _ _ | refine Ex.drew ?_ | refine Ex.drewN ?_ _))).below⟩
end Go.Proofs.YtfeeibealokhfaaDoor
