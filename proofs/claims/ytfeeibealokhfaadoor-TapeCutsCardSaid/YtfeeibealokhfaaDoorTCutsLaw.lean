/- The walk of TapeCuts. -/
import Derived.Test.YtfeeibealokhfaaDoorTReadsLaw
set_option linter.unusedSimpArgs false
set_option linter.unusedVariables false
namespace Go.Proofs.YtfeeibealokhfaaDoor
open Go.RowKit

theorem ownsRow_block {w w' : World} {base : Nat} {e : TypeId} {size : Nat} {v : Value} {n : Nat} {xs : List Value} (h : w.ownsRow base e size v n xs) (hb : ∀ g, v.ownBlock = some g → w'.heap[g]? = w.heap[g]?) : w'.ownsRow base e size v n xs := by
  obtain ⟨h1, h2 | ⟨g, cap, cur, rfl, hg, hh, hr⟩⟩ := h
  · exact ⟨h1, .inl h2⟩
  · exact ⟨h1, .inr ⟨g, cap, cur, rfl, hg, (hb g rfl).trans hh, hr⟩⟩
/-- A disk, and a row of strings apart from it. -/
def DiskDone (wB : World) (p : Nat) (d : Dk) (v : Value) (D : List (List UInt8)) (wr : World) : Prop :=
  (∃ own, DiskAt own 1 wr p d ∧ OwnRow own 3 wr 9 1 v D.length (D.map strV) ∧ ∀ b, b < wB.heap.size → own b = 0) ∧ Below wB.heap.size wB wr ∧ wB.heap.size ≤ wr.heap.size
section
variable {wB : World} {p : Nat} {d d' : Dk} {v : Value} {D : List (List UInt8)} {wr w' : World}
theorem DiskDone.disk (h : DiskDone wB p d v D wr) : DiskIn wB p d wr := by
  obtain ⟨⟨own, h1, _, h2⟩, h4, h5⟩ := h
  exact ⟨⟨own, h1, h2⟩, h4, h5⟩
theorem DiskDone.later (h : DiskDone wB p d v D wr) (hx : Ex wr w') : DiskDone wB p d v D w' := by
  obtain ⟨⟨own, h1, h3, h2⟩, h5, h6⟩ := h
  exact ⟨⟨own, h1.later hx, h3.ex' (fun g hg => hx.below.block g (h3.1.lt g hg)), h2⟩, h5.trans (hx.below.mono h6), Nat.le_trans h6 hx.below.size⟩
theorem DiskDone.turned {own : Nat → Nat} (h3 : OwnRow own 3 wr 9 1 v D.length (D.map strV)) (h2 : ∀ b, b < wB.heap.size → own b = 0) (h5 : Below wB.heap.size wB wr) (h6 : wB.heap.size ≤ wr.heap.size)
    {j : Nat} (hT : ObjTo own 1 j wr (fun o w' => DiskAt o 1 w' p d') w') : DiskDone wB p d' v D w' := by
  obtain ⟨o2, hI, hB2, ho2, hs2, hK⟩ := hT.use h5 h6 (fun b hb => by rw [h2 b hb]; decide)
  exact ⟨⟨o2, hI, h3.kp hK (by decide) (fun g hg e => by rw [ho2 g hg]; exact e), fun b hb => by rw [ho2 b (by omega)]; exact h2 b hb⟩, hB2, by omega⟩
/-- The row grows. -/
theorem DiskDone.grown {own : Nat → Nat} {v' : Value} {n' : Nat} {D' : List (List UInt8)} {W u : World} {k : Nat} (h1 : DiskAt own 1 wr p d) (h2 : ∀ b, b < wB.heap.size → own b = 0) (h5 : Below wB.heap.size wB wr) (h6 : wB.heap.size ≤ wr.heap.size) (hx : Ex wr W)
    (hv : OwnRow (lab own W.heap.size k 3) 3 (ov W own 1 3 k u) 9 1 v' n' (D'.map strV)) (hn : D'.length = n') : DiskDone wB p d v' D' (ov W own 1 3 k u) := by
  subst hn
  have hs := hx.below.size
  refine ⟨⟨_, (h1.later hx).kp (ov_kp W own 1 3 k u) (by decide) (fun n hn e => by rw [lab_lt hn]; exact e), hv, fun b hb => by rw [lab_lt (by omega)]; exact h2 b hb⟩, Below.ov (h5.trans (hx.below.mono h6)) own 1 3 k u (fun n hn => by rw [Nat.div_one, h2 n hn]; decide) (by omega), by rw [ov_size]; omega⟩
theorem strs_of_row {w : World} {e : TypeId} {v : Value} {n : Nat} {l : List (List UInt8)} (hl : l.length = n) (h : RowAt w e 1 v n (l.map strV)) : ∃ ao cap, v = .slice ao n cap ∧ n ≤ cap ∧ cap ≤ maxLen ∧ StrsAt w ao l := by
  have h' := h
  obtain ⟨h1, ⟨rfl, rfl⟩ | ⟨g, off, cap, cur, rfl, ⟨fr, hg, _⟩, hc, hm, _⟩⟩ := h
  · exact ⟨none, 0, rfl, Nat.le_refl _, Nat.zero_le _, fun h => by omega⟩
  · refine ⟨_, cap, rfl, hc, hm, fun h0 => ⟨g, off, rfl, (Array.getElem?_eq_some_iff.1 hg).1, fun k hk => ?_⟩⟩
    rw [h'.cell (j := k) (by omega), List.getElem?_map, List.getElem?_eq_getElem hk]; rfl
theorem append_done (h : DiskDone wB p d v D wr) (s : List UInt8) (hm : s.length ≤ maxLen) (E : Nat → Addr) (hE : Errs E [2, 8, 9] wB) :
    Calls Tryd.prog 22 #[.pointer (some ⟨p, 0, none⟩), .string ⟨s.toArray⟩] wr fun e w' => e = .returned (errV E (d.appE s)) ∧ DiskDone wB p (d.app s) v D w' := by
  obtain ⟨⟨own, h1, h3, h2⟩, h5, h6⟩ := h
  exact (append_any h1 s hm E (hE.ex (Ex.of h5)) (by rw [h2 _ (lt_of_cell (hE 9 (by decide)))]; decide)).mono fun e w' ⟨k1, k2⟩ => ⟨k1, DiskDone.turned h3 h2 h5 h6 k2⟩
theorem cut_done (h : DiskDone wB p d v D wr) (n : Int) (hn : n ≤ 9223372036854775807) (E : Nat → Addr) (hE : Errs E [2, 8, 9] wB) :
    Calls Tryd.prog 31 #[.pointer (some ⟨p, 0, none⟩), .int .i64 n] wr fun e w' => e = .returned (errV E (d.cutE n)) ∧ DiskDone wB p (d.cutD n) v D w' := by
  obtain ⟨⟨own, h1, h3, h2⟩, h5, h6⟩ := h
  exact (cut_any h1 n hn E (Errs.sub (hE.ex (Ex.of h5)) (by decide))).mono fun e w' ⟨k1, k2⟩ => ⟨k1, DiskDone.turned h3 h2 h5 h6 k2⟩
theorem recover_done (h : DiskDone wB p d v D wr) : Calls Tryd.prog 32 #[.pointer (some ⟨p, 0, none⟩)] wr fun e w' => ∃ v2 l n, e = .returned (.tuple #[v2, .nilIface]) ∧ Reads d.b l n ∧ w'.ownsRow wr.heap.size 9 1 v2 l.length (l.map strV) ∧ DiskDone wB p ⟨d.b.take n, false, -1⟩ v D w' := by
  obtain ⟨⟨own, h1, h3, h2⟩, h5, h6⟩ := h
  exact (recover_any h1 0).mono fun e w' ⟨v2, l, n, k1, k2, k3, k4⟩ => ⟨v2, l, n, k1, k2, k3, DiskDone.turned h3 h2 h5 h6 k4⟩
theorem power_in (h : DiskIn wB p d wr) : Calls Tryd.prog 33 #[.pointer (some ⟨p, 0, none⟩)] wr fun e w' => e = .returned (.bool (!d.off)) ∧ wr = w' := by
  obtain ⟨⟨own, h1, h2⟩, h3, h4⟩ := h
  exact power_any h1
end
theorem app_fits {l : List (List UInt8)} {s : List UInt8} (hs : s.length ≤ 10000) (hl : (recs l).length ≤ 1000000) : (⟨recs l, false, -1⟩ : Dk).appE s = 0 ∧ (⟨recs l, false, -1⟩ : Dk).app s = ⟨recs (l ++ [s]), false, -1⟩ := by
  constructor
  · unfold Dk.appE
    rw [if_neg (by omega), if_neg (by show ¬ 1048576 < (recs l).length + _; omega), if_neg (by show ¬ (false = true); decide), if_neg (by show ¬ ((0 : Int) ≤ -1 ∧ _); omega)]
  · unfold Dk.app
    rw [if_neg (by omega), if_neg (by show ¬ 1048576 < (recs l).length + _; omega), if_neg (by show ¬ (false = true); decide), if_neg (by show ¬ ((0 : Int) ≤ -1 ∧ _); omega), if_neg (by show ¬ ((0 : Int) ≤ -1); omega), recs_append, recs_one]
theorem reads_recs {l y : List (List UInt8)} {k : Nat} (hf : Fits l) (h : Reads (recs l) y k) : y = l ∧ k = (recs l).length :=
  reads_same ⟨hf, rfl, [], (List.append_nil _).symm, rfl⟩ h
def oneMore : List UInt8 := [111, 110, 101, 32, 109, 111, 114, 101]
theorem Kept.start (c : Int) : Kept ⟨[], false, c⟩ [] := ⟨fun _ h => by simp at h, [], rfl, rfl, fun _ => rfl⟩
theorem recs_le {l : List (List UInt8)} {m : Nat} (h : ∀ s ∈ l, s.length ≤ m) : (recs l).length ≤ l.length * (m + 12) := by
  induction l with
  | nil => simp [recs]
  | cons x l ih =>
    rw [recs_cons, List.length_append, recL_len, List.length_cons, Nat.add_mul, Nat.one_mul]
    have h1 := h x (by simp)
    have h2 := ih (fun s hs => h s (by simp [hs]))
    omega
set_option maxRecDepth 100000 in
set_option maxHeartbeats 8000000 in
theorem tapeCuts_in (ao : Option Addr) (cap : Nat) (l : List (List UInt8)) (cut : Int) (E : Nat → Addr) (w : World) (hE : Errs E [2, 8, 9] w) (hl : l.length ≤ 40) (hA : StrsAt w ao l) (hwf : ∀ s ∈ l, s.length ≤ maxLen) (hc0 : 0 ≤ cut) (hc1 : cut ≤ 9223372036854775807) :
    Calls Tryd.prog 6 #[.slice ao l.length cap, .int .i64 cut] w fun e w' => e = .returned (.bool true) ∧ Below w.heap.size w w' := by
  obtain ⟨i0, hi0, hz0, hz1, hz2⟩ := info_parts infoStr
  have HE := Lib.hid hE
  have HST := Lib.hid hA
  have HWF := Lib.hid hwf
  have HTP := Lib.hid (fun w h => taped_any w E h)
  have HND := Lib.hid (fun w => newDisk_in [] w (by decide))
  have d1 : decide ((40 : Int) < (l.length : Int)) = false := decide_eq_false (by omega)
  have d2 : decide (cut < 0) = false := decide_eq_false (by omega)
  clear hE hA hwf
  go_enter Tryd.func6, Tryd.ntmps6
  go_upto_region 5 with (first
    | (go_at_call 19; refine (HTP.out _ HE.out).mono ?_; rintro e wB ⟨rfl, hxB⟩)
    | (go_at_call 21; refine (HND.out _).mono ?_; rintro e wd ⟨rfl, hd0⟩))
  have HX := Lib.hid hxB
  clear hxB
  have hsw := HX.out.below.size
  have HEB := Lib.hid (HE.out.ex HX.out)
  have HSB := Lib.hid (HST.out.ex HX.out)
  generalize wB.heap.size + 1 = p at *
  have hdd : DiskDone wB p ⟨[], false, -1⟩ (.slice none 0 0) [] wd := by
    obtain ⟨⟨own, h1, h2⟩, h3, h4⟩ := hd0
    exact ⟨⟨own, h1, OwnRow.nil _ _ _ _ _, h2⟩, h3, h4⟩
  have hCU := cut_done hdd cut hc1 E HEB.out
  rw [show (⟨[], false, -1⟩ : Dk).cutE cut = 0 by unfold Dk.cutE; rw [if_neg (by omega), if_neg (by show ¬ (false = true); decide)], show (⟨[], false, -1⟩ : Dk).cutD cut = ⟨[], false, cut⟩ by unfold Dk.cutD; rw [if_neg (by omega), if_neg (by show ¬ (false = true); decide)], errV_zero] at hCU
  have HCU := Lib.hid hCU
  clear hCU hdd hd0 HND HTP
  go_upto_region 7 with (go_at_call 31; refine (HCU.out).mono ?_; rintro e wc ⟨rfl, hd1⟩)
  have HD1 := Lib.hid hd1
  clear hd1 HCU
  go_wp2_with fail
  go_loopw [8, 9] (fun v i wr => ∃ (k : Nat) (u : Value) (d : Dk) (D : List (List UInt8)), u = v ∧ i = .int .i64 (k : Int) ∧ k ≤ l.length ∧ Kept d D ∧ D.length ≤ k ∧ (∀ s ∈ D, s.length ≤ 300) ∧ DiskDone wB p d u D wr) (fun _ i _ => l.length - (intOf i).toNat)
  case atStart => exact ⟨0, _, _, [], rfl, rfl, Nat.zero_le _, Kept.start cut, Nat.le_refl _, fun _ h => by simp at h, HD1.out⟩
  case round =>
    obtain ⟨k, v, d, D, rfl, rfl, hk, hkept, hDk, hD3, hdd⟩ := hrel
    clear HD1
    obtain ⟨aod, capd, hv⟩ : ∃ ao cap, v = .slice ao D.length cap := by
      obtain ⟨⟨own, _, h3, _⟩, _⟩ := hdd
      obtain ⟨ao, cap, h, _⟩ := h3.form
      exact ⟨ao, cap, h⟩
    subst hv
    by_cases hlt : k < l.length
    · obtain ⟨sb, so, rfl, hb1, hc1⟩ := HSB.out (by omega)
      have ab := hc1 k hlt
      have a0 := (hdd.2.1.cell (p := ⟨sb, so + k, none⟩) hb1).trans ab
      have hbr : sb < wr.heap.size := Nat.lt_of_lt_of_le hb1 hdd.2.2
      have hsm := HWF.out l[k] (List.getElem_mem hlt)
      clear hc1
      generalize l[k] = s at *
      have zs := bytes_size s
      have hAP := append_done hdd s hsm E HEB.out
      have hka := hkept.app s
      have HKA := Lib.hid hka
      have HD3 := Lib.hid hD3
      clear hkept hka hD3
      unfold strV at a0 ab
      have HAB := Lib.hid ab
      clear ab
      unfold maxLen at hsm
      by_cases hbig : 300 < s.length
      · have t1 : decide ((300 : Int) < (s.length : Int)) = true := decide_eq_true (by omega)
        go_wp2_with fail
        all_goals go_ret
        all_goals exact ⟨rfl, ((HX.out.trans (Ex.of hdd.2.1)).trans (by repeat (first | exact Ex.refl _ | refine Ex.alloc ?_ _ | refine Ex.ext ?_ _ _ | refine Ex.drew ?_ | refine Ex.drewN ?_ _))).below⟩
      · have t1 : decide ((300 : Int) < (s.length : Int)) = false := decide_eq_false (by omega)
        by_cases hap : d.appE s = 0
        · rw [hap, errV_zero] at hAP
          rw [if_pos hap] at HKA
          have HAP := Lib.hid hAP
          clear hap hdd hAP
          go_upto_region 14 with (go_at_call 22; refine (HAP.out).mono ?_; rintro e w2 ⟨rfl, hd2⟩)
          have a2 := (hd2.2.1.cell (p := ⟨sb, so + k, none⟩) hb1).trans HAB.out
          have hb2 : sb < w2.heap.size := Nat.lt_of_lt_of_le hb1 hd2.2.2
          obtain ⟨⟨own, e1, e2, e3⟩, e4, e5⟩ := hd2
          have G1 := Lib.hid e1
          have G2 := Lib.hid e2
          have G3 := Lib.hid e3
          have G4 := Lib.hid e4
          have G5 := Lib.hid e5
          clear a0 e1 e2 e3 e4 e5 HAP
          go_wp2_with (at_builtin; refine wpList_append_lab (own := own) (j := 3) rfl (.tmp 60) (.tmp 65) 39 39 rfl 9 i0 _ 1 16 Tryd.underlying39 hi0 hz0 hz1 hz2 rfl (.slice aod D.length capd) (.slice (some ⟨w2.heap.size, 0, none⟩) 1 1) D.length 1 (D.map strV) [strV s] rfl rfl (by repeat (first | exact G2.out | (refine OwnRow.alloc ?_ _) | (refine OwnRow.drew ?_) | (refine OwnRow.drewN ?_ _) | (refine OwnRow.exts ?_ _ _))) (Src.block Tryd.underlying39 1 1 (cs := #[.string ⟨s.toArray⟩]) (t := 9) (fr := (0, 0)) (heap_new rfl) (by simp) (by simp [Value.oneCell'])) (by unfold maxLen; omega) (by omega) ?_; intro v' k' u hv' hnil; obtain ⟨ao', cap', rfl, hcap', _⟩ := hv'.form)
          go_roundw
          case measure => simp [intOf]; omega
          case rel =>
            refine ⟨k + 1, _, d.app s, D ++ [s], rfl, by go_num, by omega, HKA.out, by simp; omega, fun z hz => ?_, DiskDone.grown G1.out G3.out G4.out G5.out (by repeat (first | exact Ex.refl _ | refine Ex.alloc ?_ _ | refine Ex.ext ?_ _ _ | refine Ex.drew ?_ | refine Ex.drewN ?_ _)) (by rw [List.map_append]; exact hv') (by simp)⟩
            rw [List.mem_append, List.mem_singleton] at hz
            rcases hz with hz | rfl
            · exact HD3.out z hz
            · omega
        · rw [errV_pos _ _ hap] at hAP
          rw [if_neg hap] at HKA
          have HAP := Lib.hid hAP
          clear hap hdd hAP
          go_wp2_with (go_at_call 22; refine (HAP.out).mono ?_; rintro e w2 ⟨rfl, hd2⟩)
          go_roundw
          case measure => simp [intOf]; omega
          case rel => exact ⟨k + 1, _, d.app s, D, rfl, by go_num, by omega, HKA.out, by omega, HD3.out, hd2⟩
    · clear HSB HST HWF
      have hrl := recs_le hD3
      have hr4 : (recs D).length ≤ 12480 := by
        have : D.length * (300 + 12) ≤ 40 * 312 := Nat.mul_le_mul (by omega) (by omega)
        omega
      have HKR := Lib.hid hkept.reads
      have HFT := Lib.hid hkept.1
      have HRC := Lib.hid (recover_done hdd)
      clear hrl hkept hD3 hdd
      go_wp2_with fail
      refine HRC.out.mono ?_
      rintro e w2 ⟨v2, x, n, rfl, hrd, hrow, hd2⟩
      obtain ⟨rfl, rfl⟩ := reads_same HKR.out hrd
      rw [hrd.take.1] at hd2
      obtain ⟨ao2, cap2, rfl, _, _, hst2⟩ := strs_of_owned rfl hrow
      have hstd : StrsAt w2 aod x := by
        obtain ⟨⟨own, _, e2, _⟩, _⟩ := hd2
        obtain ⟨ao', cap', hv, _, _, h⟩ := strs_of_row rfl e2.1
        cases hv
        exact h
      have hx2 : Ex w w2 := HX.out.trans (Ex.of hd2.2.1)
      have hom : oneMore.length ≤ 10000 := by decide
      obtain ⟨q1, q2⟩ := app_fits (l := x) (s := oneMore) hom (by omega)
      have hap2 : ∀ W, Ex w2 W → Calls Tryd.prog 22 #[.pointer (some ⟨p, 0, none⟩), .string ⟨oneMore.toArray⟩] W fun e w' => e = .returned .nilIface ∧ DiskDone wB p ⟨recs (x ++ [oneMore]), false, -1⟩ (.slice aod x.length capd) x w' := fun W hW => by
        have := append_done (hd2.later hW) oneMore (by decide) E HEB.out
        rwa [q1, q2, errV_zero] at this
      have hpw2 : ∀ W, Ex w2 W → Calls Tryd.prog 33 #[.pointer (some ⟨p, 0, none⟩)] W fun e w' => e = .returned (.bool true) ∧ W = w' := fun W hW => power_in (hd2.later hW).disk
      have HSM := Lib.hid (fun W (h1 : StrsAt W ao2 x) (h2 : StrsAt W aod x) => sameTexts_same ao2 aod cap2 capd x W h1 h2 (by omega))
      have HAP2 := Lib.hid hap2
      have HPW2 := Lib.hid hpw2
      have HT2 := Lib.hid hst2
      have HTD := Lib.hid hstd
      have HX2 := Lib.hid hx2
      clear hap2 hpw2 hst2 hstd hx2 q1 q2 hrd hrow hd2 HRC HKR
      go_upto_region 18 with (first
        | (go_at_call 24; refine (HSM.out _ (HT2.out.ex (by repeat (first | exact Ex.refl _ | refine Ex.alloc ?_ _ | refine Ex.ext ?_ _ _ | refine Ex.drew ?_ | refine Ex.drewN ?_ _))) (HTD.out.ex (by repeat (first | exact Ex.refl _ | refine Ex.alloc ?_ _ | refine Ex.ext ?_ _ _ | refine Ex.drew ?_ | refine Ex.drewN ?_ _)))).mono ?_; rintro e w3 ⟨rfl, l3, d3, rfl⟩)
        | (go_at_call 33; refine (HPW2.out _ (by repeat (first | exact Ex.refl _ | refine Ex.alloc ?_ _ | refine Ex.ext ?_ _ _ | refine Ex.drew ?_ | refine Ex.drewN ?_ _))).mono ?_; rintro e w3 ⟨rfl, rfl⟩)
        | (go_at_call 22; refine (HAP2.out _ (by repeat (first | exact Ex.refl _ | refine Ex.alloc ?_ _ | refine Ex.ext ?_ _ _ | refine Ex.drew ?_ | refine Ex.drewN ?_ _))).mono ?_; rintro e w5 ⟨rfl, hd5⟩))
      have HBY := Lib.hid (fun W (hW : Ex w5 W) => bytes_in (hd5.later hW).disk)
      have hrl5 := recs_len_snoc x oneMore
      have ho8 : oneMore.length = 8 := rfl
      have HRD := Lib.hid (fun W => read_any (recs (x ++ [oneMore])) W (by omega))
      have hf5 : Fits (x ++ [oneMore]) := fun s hs => by
        rw [List.mem_append, List.mem_singleton] at hs
        rcases hs with hs | rfl
        · exact HFT.out s hs
        · exact hom
      have HF5 := Lib.hid hf5
      have HX5 := Lib.hid (Ex.of hd5.2.1)
      have zR := bytes_size (recs (x ++ [oneMore]))
      clear hd5 HAP2 HPW2 HSM hf5
      go_upto_region 19 with (first
        | (go_at_call 23; refine (HBY.out _ (by repeat (first | exact Ex.refl _ | refine Ex.alloc ?_ _ | refine Ex.ext ?_ _ _ | refine Ex.drew ?_ | refine Ex.drewN ?_ _))).mono ?_; rintro e w6 ⟨rfl, rfl⟩)
        | (go_at_call 20; refine (HRD.out _).mono ?_; rintro e w6 ⟨⟨v6, y, n6, rfl, hrd6, hrow6⟩, hx6⟩))
      obtain ⟨rfl, rfl⟩ := reads_recs HF5.out hrd6
      obtain ⟨ao6, cap6, rfl, hc6, hm6, hst6⟩ := strs_of_owned rfl hrow6
      obtain ⟨b6, o6, rfl, hb6, hz6⟩ := hst6 (by simp)
      have a6 := hz6 x.length (by simp)
      rw [List.getElem_append_right (Nat.le_refl _)] at a6
      simp only [Nat.sub_self, List.getElem_cons_zero] at a6
      replace a6 : w6.cell? ⟨b6, o6 + x.length, none⟩ = some (.string ⟨#[111, 110, 101, 32, 109, 111, 114, 101]⟩) := a6
      have hyl : (x ++ [oneMore]).length = x.length + 1 := by simp
      have HX6 := Lib.hid hx6
      clear hrd6 hrow6 hst6 hz6 hx6 HF5 HRD
      rw [hyl] at hc6
      go_wp2_with (go_at_call 23; refine (HBY.out _ HX6.out).mono ?_; rintro e w7 ⟨rfl, rfl⟩)
      all_goals go_ret
      all_goals exact ⟨by first | rfl | simp, (((HX.out.trans HX5.out).trans HX6.out).trans (by repeat (first | exact Ex.refl _ | refine Ex.alloc ?_ _ | refine Ex.ext ?_ _ _ | refine Ex.drew ?_ | refine Ex.drewN ?_ _))).below⟩
end Go.Proofs.YtfeeibealokhfaaDoor
