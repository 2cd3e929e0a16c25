import Derived.Test.YtmbboflakfokhaaDoorJ37
import Derived.Test.YtmbboflakfokhaaDoorJ28
import Derived.Test.YtmbboflakfokhaaDoorJ15
/- The walk of BatchStill. -/
set_option linter.unusedSimpArgs false
set_option linter.unusedVariables false
namespace Go.Proofs.YtmbboflakfokhaaDoor
open Go.RowKit

theorem LotsAt.other2 {W W' : World} {ao : Option Addr} {n : Nat} {l : List Lot} (h : LotsAt W ao n l) (hb : ∀ g off, ao = some ⟨g, off, none⟩ → W'.heap[g]? = W.heap[g]?) : LotsAt W' ao n l := by
  obtain ⟨h1, h2, h3, h4⟩ := h
  refine ⟨h1, h2, h3, fun h0 => ?_⟩
  obtain ⟨g, off, e, hg, hc⟩ := h4 h0
  have hq := hb g off e
  refine ⟨g, off, e, ?_, fun k hk j hj => (World.cell?_of_block hq).trans (hc k hk j hj)⟩
  rw [Array.getElem?_eq_getElem hg] at hq
  exact (Array.getElem?_eq_some_iff.1 hq).1
theorem fieldBand1 (r l : Int) (w : World) : (Instr.field 64 (.agg #[.int .i64 r, .int .i64 l]) 1).run Tryd.prog w = .ok (.int .i64 l) w := by kernel_rfl
set_option maxRecDepth 100000 in
set_option maxHeartbeats 8000000 in
theorem batchStill_in (ao : Option Addr) (len cap : Nat) (l : List Do) (k : Nat) (seed : Int) (E : Nat → Addr) (w : World) (hE : Errs E LE w) (hA : DosAt w ao len l) (hlen : len ≤ 60) (hk : k < 3) (hs : U32 seed) :
    Calls Tryd.prog 4 #[.slice ao len cap, .int .i64 (k : Int), .int .u32 seed] w fun e w' => e = .returned (.bool true) ∧ Ex w w' := by
  obtain ⟨hL, _, hwf, hz⟩ := hA
  have HZ := Lib.hid hz
  have HL := Lib.hid hL
  have HWF := Lib.hid hwf
  have HE := Lib.hid hE
  have HFL := Lib.hid (fun w hE => floored_any E w hE)
  have hb1 : decide ((60 : Int) < (len : Int)) = false := decide_eq_false (by omega)
  have hb2 : decide ((k : Int) < 0) = false := decide_eq_false (by omega)
  have hb3 : decide ((3 : Int) ≤ (k : Int)) = false := decide_eq_false (by omega)
  clear hz hL hwf hE
  go_enter Tryd.func4, Tryd.ntmps4
  go_wp2_with (go_at_call 7; refine (HFL.out _ (by exact HE.out.ex (by repeat (first | exact Ex.refl _ | refine Ex.alloc ?_ _ | refine Ex.ext ?_ _ _ | refine Ex.drew ?_ | refine Ex.drewN ?_ _)))).mono ?_; rintro e wf ⟨rfl, lf, df, rfl⟩)
  have hxf : Ex w (ext w lf df) := (by repeat (first | exact Ex.refl _ | refine Ex.alloc ?_ _ | refine Ex.ext ?_ _ _ | refine Ex.drew ?_ | refine Ex.drewN ?_ _))
  refine (fnew_ok (own := fun _ => 8) (c := 0) 5 3 100 20000 100 ((HE.out.ex (by repeat (first | exact Ex.refl _ | refine Ex.alloc ?_ _ | refine Ex.ext ?_ _ _ | refine Ex.drew ?_ | refine Ex.drewN ?_ _))).sub (by decide)) (fun n _ => by decide) (by decide) (by decide) (by decide) (by decide) (by decide) (by decide) (by decide) (by decide) (by decide) (by decide)).mono ?_
  rintro e w1 ⟨A, o, rfl, hF, hwd, hhl, ho, hx1⟩
  have hX : FlX o 0 w1 A (newSt 100 20000 100) E LE [] NoT w1 := FlX.start hF ((HE.out.ex hxf).ex hx1) (fun n ⟨e, he, hn⟩ => by
    have hlt := lt_of_cell ((HE.out.ex hxf) e he)
    rw [hn, ho _ hlt]
    show 8 / 8 ≠ 0
    decide) (fun n hn => hn.elim)
  have HX := Lib.hid hX
  have HX1 := Lib.hid (hxf.trans hx1)
  have HLO := Lib.hid (show ∀ n, n < w.heap.size → o n / 8 ≠ 0 from fun n hn => by rw [ho n (Nat.lt_of_lt_of_le hn hxf.below.size)]; show 8 / 8 ≠ 0; decide)
  have hhl2 : 1 ≤ A.hl ∧ A.hl ≤ 1000 := by rw [hhl]; decide
  have HO : Hid (FOk (newSt 100 20000 100)) := Lib.hid (FOk.new (by decide) (by decide) (by decide) (by decide) (by decide) (by decide))
  have HHL := Lib.hid hhl2
  clear hF hX hx1 ho hwd hhl hxf hhl2
  go_wp2_with fail
  go_loopw [10, 11] (fun r i wr => ∃ (n q : Nat) (st : FSt), n ≤ len ∧ q ≤ n ∧ i = .int .i64 n ∧ r = .int .i64 q ∧ FOk st ∧ FlX o 0 w1 A st E LE [] NoT wr) (fun _ i _ => len - (intOf i).toNat)
  case atStart => exact ⟨0, 0, _, by omega, by omega, rfl, rfl, HO.out, HX.out⟩
  case round =>
    obtain ⟨n, q, st, hn, hq, rfl, rfl, hO, hX⟩ := hrel
    have hxw : Ex w wr := hX.ex0 HX1.out HLO.out
    have HXW := Lib.hid hxw
    have HO2 := Lib.hid hO
    have HX2 := Lib.hid hX
    clear hO hX hxw HX HO
    by_cases hlt : n < len
    · obtain ⟨b, off, rfl, hbs, hzz⟩ := HZ.out (by omega)
      have hzk := hzz n (by rw [HL.out]; exact hlt)
      have hwa := HWF.out _ (List.getElem_mem (by rw [HL.out]; exact hlt : n < l.length))
      clear hzz
      have h10 := hzk 10 (by omega)
      have h11 := hzk 11 (by omega)
      have hcx : ∀ j, j < 12 → wr.cell? ⟨b, off + n * 12 + j, none⟩ = (l[n]'(by rw [HL.out]; exact hlt)).cells[j]? := fun j hj => (HXW.out.below.cell (p := ⟨b, off + n * 12 + j, none⟩) hbs).trans (hzk j hj)
      clear hzk
      generalize l[n]'(by rw [HL.out]; exact hlt) = a at hcx hwa h10 h11
      have a0 := hcx 0 (by omega)
      have a1 := hcx 1 (by omega)
      have a2 := hcx 2 (by omega)
      have a3 := hcx 3 (by omega)
      have a4 := hcx 4 (by omega)
      have a5 := hcx 5 (by omega)
      have a6 := hcx 6 (by omega)
      have a7 := hcx 7 (by omega)
      have a8 := hcx 8 (by omega)
      have a10 := hcx 10 (by omega)
      have a11 := hcx 11 (by omega)
      simp only [Do.cells, List.getElem?_cons_zero, List.getElem?_cons_succ, Nat.add_zero] at a0 a1 a2 a3 a4 a5 a6 a7 a8 a10 a11 h10 h11
      have c10 := h10
      have c11 := h11
      clear h10 h11
      have hbr : b < wr.heap.size := lt_of_cell a0
      have hu : U32 a.seed := by have := hwa.2.2.2.2; unfold U32; omega
      clear hcx hwa
      have HPL := Lib.hid (HX2.out.place a.a)
      by_cases hp : (a.kind.toList == [112, 108, 97, 99, 101]) = true
      · as_aux_lemma =>
        go_wp2_with (go_at_call 9; refine HPL.out.mono ?_; rintro e w2 ⟨rfl, hX3, _⟩)
        all_goals
          go_roundw
          case measure => simp [intOf]; omega
          case rel => exact ⟨n + 1, q, _, by omega, by omega, by go_num, rfl, HO2.out.fplace a.a, hX3⟩
      · as_aux_lemma =>
        by_cases hr : (a.kind.toList == [114, 117, 110]) = true
        · by_cases hq9 : q + 1 < 10
          · by_cases hin : inR a.item 0 2 = true
            · obtain ⟨h0, h2⟩ := inR_iff.1 hin
              obtain ⟨m, hm⟩ : ∃ m : Nat, a.item = m := ⟨a.item.toNat, by omega⟩
              rw [hm] at a10 c10
              have HRN := Lib.hid (fun W (hx : Ex wr W) => (HX2.out.later hx).run HO2.out (by omega : m < 3) a.seed hu)
              have HRF := Lib.hid (run_facts (wd := A.wd) HO2.out HX2.out.fl.pinv (by omega : m < 3) HHL.out a.seed).1
              go_wp2_with fail
              go_region_held3 (fun W => W.cell? ⟨b, off + n * 12 + 10, none⟩ = some (.int .i64 m) ∧ W.cell? ⟨b, off + n * 12 + 11, none⟩ = some (.int .u32 a.seed)) ((first | exact ⟨a10, a11⟩ | exact ⟨b10, b11⟩)) ((go_at_call 16; ((with_reducible refine (HRN.out _ ?_).mono ?_)); (focus exact (by repeat (first | (with_reducible exact Ex.refl _) | (with_reducible refine Ex.alloc ?_ _) | (with_reducible refine Ex.ext ?_ _ _) | (with_reducible refine Ex.drew ?_) | (with_reducible refine Ex.drewN ?_ _)))); rintro e w2 ⟨ro, rc, rfl, _, _, hX3, _⟩; have hx2 := hX3.ex0 HX1.out HLO.out; have b10 := (hx2.below.cell (p := ⟨b, off + n * 12 + 10, none⟩) hbs).trans c10; have b11 := (hx2.below.cell (p := ⟨b, off + n * 12 + 11, none⟩) hbs).trans c11; clear hx2))
              all_goals go_wp2_with fail
              all_goals
                go_roundw
                case measure => simp [intOf]; omega
                case rel => exact ⟨n + 1, q + 1, _, by omega, by omega, by go_num, by go_num, HRF.out, hX3.less (fun t ht => ht) (fun n hn => hn.elim)⟩
            · have hin2 : inR a.item 0 2 = false := by simpa using hin
              have HRN := Lib.hid (fun W (hx : Ex wr W) => frun_bad (.pointer (some ⟨A.f, 0, none⟩)) a.item a.seed hin2 E W ((HX2.out.later hx).errs.sub (by decide)))
              clear hin hin2
              go_wp2_with fail
              go_region_held3 (fun W => W.cell? ⟨b, off + n * 12 + 10, none⟩ = some (.int .i64 a.item) ∧ W.cell? ⟨b, off + n * 12 + 11, none⟩ = some (.int .u32 a.seed)) ((first | exact ⟨a10, a11⟩ | exact ⟨((show Ex wr _ from (by repeat (first | (with_reducible exact Ex.refl _) | (with_reducible refine Ex.alloc ?_ _) | (with_reducible refine Ex.ext ?_ _ _) | (with_reducible refine Ex.drew ?_) | (with_reducible refine Ex.drewN ?_ _)))).below.cell (p := ⟨b, off + n * 12 + 10, none⟩) hbr).trans a10, ((show Ex wr _ from (by repeat (first | (with_reducible exact Ex.refl _) | (with_reducible refine Ex.alloc ?_ _) | (with_reducible refine Ex.ext ?_ _ _) | (with_reducible refine Ex.drew ?_) | (with_reducible refine Ex.drewN ?_ _)))).below.cell (p := ⟨b, off + n * 12 + 11, none⟩) hbr).trans a11⟩)) ((go_at_call 16; ((with_reducible refine (HRN.out _ ?_).mono ?_)); (focus exact (by repeat (first | (with_reducible exact Ex.refl _) | (with_reducible refine Ex.alloc ?_ _) | (with_reducible refine Ex.ext ?_ _ _) | (with_reducible refine Ex.drew ?_) | (with_reducible refine Ex.drewN ?_ _)))); rintro e w2 ⟨rfl, l2, d2, rfl⟩))
              all_goals go_wp2_with fail
              all_goals
                go_roundw
                case measure => simp [intOf]; omega
                case rel => exact ⟨n + 1, q + 1, _, by omega, by omega, by go_num, by go_num, HO2.out, HX2.out.later (by repeat (first | exact Ex.refl _ | refine Ex.alloc ?_ _ | refine Ex.ext ?_ _ _ | refine Ex.drew ?_ | refine Ex.drewN ?_ _))⟩
          · go_wp2_with fail
            all_goals
              go_roundw
              case measure => simp [intOf]; omega
              case rel => exact ⟨n + 1, q + 1, _, by omega, by omega, by go_num, by go_num, HO2.out, HX2.out.later (by repeat (first | exact Ex.refl _ | refine Ex.alloc ?_ _ | refine Ex.ext ?_ _ _ | refine Ex.drew ?_ | refine Ex.drewN ?_ _))⟩
        · go_wp2_with fail
          all_goals
            go_roundw
            case measure => simp [intOf]; omega
            case rel => exact ⟨n + 1, q, _, by omega, by omega, by go_num, rfl, HO2.out, HX2.out.later (by repeat (first | exact Ex.refl _ | refine Ex.alloc ?_ _ | refine Ex.ext ?_ _ _ | refine Ex.drew ?_ | refine Ex.drewN ?_ _))⟩
    · obtain rfl : n = len := by omega
      have hlen6 : (st.b k).length ≤ 60 := (HO2.out.book k hk).len
      have HWFL : Hid (∀ a ∈ st.b k, a.wf) := Lib.hid (by obtain ⟨o', h'⟩ := HX2.out.fl.at; exact (h'.book k hk).2.1)
      have HPV := Lib.hid HX2.out.fl.pinv
      go_wp2_with fail
      refine ((HX2.out.later (by repeat (first | (with_reducible exact Ex.refl _) | (with_reducible refine Ex.alloc ?_ _) | (with_reducible refine Ex.ext ?_ _ _) | (with_reducible refine Ex.drew ?_) | (with_reducible refine Ex.drewN ?_ _)))).read (fun o h => fbook_in h k hk)).mono ?_
      rintro e w5 ⟨rfl, l5, d5, rfl⟩
      go_wp2_with fail
      refine ((HX2.out.later (by repeat (first | (with_reducible exact Ex.refl _) | (with_reducible refine Ex.alloc ?_ _) | (with_reducible refine Ex.ext ?_ _ _) | (with_reducible refine Ex.drew ?_) | (with_reducible refine Ex.drewN ?_ _)))).readB hk (fun o i h => lots_any h)).mono ?_
      rintro e w6 ⟨⟨v, rfl, hv⟩, hx6⟩
      obtain ⟨wo, wc, rfl, ⟨hc1, hc2, hc3⟩, hLA⟩ := lots_of_owned HWFL.out (by omega) rfl hv
      have hx6' : Ex wr w6 := Ex.trans (by repeat (first | (with_reducible exact Ex.refl _) | (with_reducible refine Ex.alloc ?_ _) | (with_reducible refine Ex.ext ?_ _ _) | (with_reducible refine Ex.drew ?_) | (with_reducible refine Ex.drewN ?_ _))) hx6
      have HX6 := Lib.hid (HX2.out.later hx6')
      have HV := Lib.hid (show ∀ n, TV (.slice wo (st.b k).length wc) n → wr.heap.size ≤ n ∧ n < w6.heap.size from fun n hn => ⟨Nat.le_trans (show Ex wr _ from (by repeat (first | (with_reducible exact Ex.refl _) | (with_reducible refine Ex.alloc ?_ _) | (with_reducible refine Ex.ext ?_ _ _) | (with_reducible refine Ex.drew ?_) | (with_reducible refine Ex.drewN ?_ _)))).below.size (hv.lt n hn).1, (hv.lt n hn).2⟩)
      have HLA := Lib.hid hLA
      have HX6E := Lib.hid hx6'
      clear hv hx6 hLA hx6'
      go_wp2_with fail
      refine ((HX6.out.later (by repeat (first | (with_reducible exact Ex.refl _) | (with_reducible refine Ex.alloc ?_ _) | (with_reducible refine Ex.ext ?_ _ _) | (with_reducible refine Ex.drew ?_) | (with_reducible refine Ex.drewN ?_ _)))).read (fun o h => fband_in h k hk)).mono ?_
      rintro e w7 ⟨rfl, l7, d7, rfl⟩
      have hfb := fieldBand1 (st.ref k) (st.left k)
      go_wp2_with fail
      refine ((HX6.out.later (by repeat (first | (with_reducible exact Ex.refl _) | (with_reducible refine Ex.alloc ?_ _) | (with_reducible refine Ex.ext ?_ _ _) | (with_reducible refine Ex.drew ?_) | (with_reducible refine Ex.drewN ?_ _)))).read (fun o h => fpurse_any h)).mono ?_
      rintro e w7 ⟨rfl, l8, d8, rfl⟩
      go_wp2_with fail
      refine ((HX6.out.later (by repeat (first | (with_reducible exact Ex.refl _) | (with_reducible refine Ex.alloc ?_ _) | (with_reducible refine Ex.ext ?_ _ _) | (with_reducible refine Ex.drew ?_) | (with_reducible refine Ex.drewN ?_ _)))).readP (fun o i h => (pcopy_any h).mono fun e w' ⟨h1, h2, h3, h4⟩ => (⟨⟨h1, h3, h4⟩, h2⟩ : (_ ∧ _ ∧ _) ∧ _))).mono ?_
      rintro e w8 ⟨⟨rfl, hz8, t8, hrow⟩, hx8⟩
      have h68 : Ex w6 w8 := Ex.trans (by repeat (first | (with_reducible exact Ex.refl _) | (with_reducible refine Ex.alloc ?_ _) | (with_reducible refine Ex.ext ?_ _ _) | (with_reducible refine Ex.drew ?_) | (with_reducible refine Ex.drewN ?_ _))) hx8
      have h6c := (show Ex w6 (ext w6 (l7 ++ l8) d8) from (by repeat (first | (with_reducible exact Ex.refl _) | (with_reducible refine Ex.alloc ?_ _) | (with_reducible refine Ex.ext ?_ _ _) | (with_reducible refine Ex.drew ?_) | (with_reducible refine Ex.drewN ?_ _)))).below.size
      generalize (ext w6 (l7 ++ l8) d8).heap.size = cb at *
      have hX8 : FlX o 0 w1 A st E LE [] (fun n => TV (.slice wo (st.b k).length wc) n ∨ n = cb) w8 := HX2.out.addT (HX6E.out.trans h68) (fun n hn => by
        rcases hn with hn | rfl
        · exact ⟨(HV.out n hn).1, Nat.lt_of_lt_of_le (HV.out n hn).2 h68.below.size⟩
        · exact ⟨Nat.le_trans HX6E.out.below.size h6c, hz8⟩)
      have HX8 := Lib.hid hX8
      have HLA8 := Lib.hid (HLA.out.ex h68)
      have HROW := Lib.hid hrow
      clear hX8 HX6 HX6E h68 h6c hx8 HLA hrow HV
      have HST := Lib.hid (show (curveCross (st.b k) = false ∨ decide (0 < st.left k) = true) → (runR st k A.wd A.hl seed).fills.length = 0 ∧ (runS st k A.wd A.hl seed).b k = st.b k ∧ (runS st k A.wd A.hl seed).p = st.p ∧ (runR st k A.wd A.hl seed).isOpen = !decide (0 < st.left k) from fun h => by
        obtain ⟨r1, r2, r3⟩ := run_still (wd := A.wd) HO2.out hk HHL.out seed (h.imp id of_decide_eq_true)
        exact ⟨by rw [r1]; rfl, by rw [r2]; rfl, by rw [r2]; rfl, r3⟩)
      go_wp2_with fail
      refine ((HX8.out.later (by repeat (first | (with_reducible exact Ex.refl _) | (with_reducible refine Ex.alloc ?_ _) | (with_reducible refine Ex.ext ?_ _ _) | (with_reducible refine Ex.drew ?_) | (with_reducible refine Ex.drewN ?_ _)))).run HO2.out hk seed hs).mono ?_
      rintro e w9 ⟨fo, fc, rfl, _, _, hX9, hT9⟩
      have h9 : Ex w w9 := hX9.ex0 HX1.out HLO.out
      have hla9 : LotsAt w9 wo (st.b k).length (st.b k) := HLA8.out.other2 (fun g off e => hT9 g (.inl (by rw [e]; rfl)))
      have hrow9 : w9.rowIs cb t8 48 (fun n => .int .i64 (st.p (n / 8) (n % 8))) := HROW.out.of_block (hT9 cb (.inr rfl))
      have hcp : PurseAt (fun _ => 1) 1 w9 cb st.p := ⟨rfl, HPV.out, t8, hrow9⟩
      have HX9 := Lib.hid (hX9.less (cs' := []) (T' := NoT) (fun t ht => ht) (fun n hn => hn.elim))
      have H9 := Lib.hid h9
      have HLA9 := Lib.hid hla9
      have HCP := Lib.hid hcp
      have HER := Lib.hid (hX9.errs)
      clear hX9 h9 hT9 hla9 hrow9 hcp HROW HLA8 HX8
      generalize (runR st k A.wd A.hl seed).price = rp at *
      generalize (runR st k A.wd A.hl seed).vol = rv at *
      generalize (runR st k A.wd A.hl seed).fills.length = fl at *
      generalize (runR st k A.wd A.hl seed).isOpen = ro at *
      generalize runS st k A.wd A.hl seed = rs at *
      generalize decide (0 < st.left k) = D at *
      have HCR := Lib.hid (fun W (h : Ex w9 W) => cross_any wo (st.b k).length wc (st.b k) E W hc1 ((HER.out.ex h).sub (by decide)) (HLA9.out.ex h))
      generalize curveCross (st.b k) = cx at *
      have h3 : (cx = true ∧ D = false) ∨ (cx = false ∧ D = false) ∨ (cx = false ∧ D = true) ∨ (cx = true ∧ D = true) := by cases cx <;> cases D <;> simp
      rcases h3 with ⟨rfl, rfl⟩ | h3
      · as_aux_lemma =>
        go_wp2_with (go_at_call 20; ((with_reducible refine (HCR.out _ ?_).mono ?_)); (focus exact (by repeat (first | exact Ex.refl _ | refine Ex.alloc ?_ _ | refine Ex.ext ?_ _ _ | refine Ex.drew ?_ | refine Ex.drewN ?_ _))); rintro e wx ⟨rfl, lx, dx, rfl⟩)
        all_goals go_ret
        all_goals exact ⟨rfl, H9.out.trans (by repeat (first | exact Ex.refl _ | refine Ex.alloc ?_ _ | refine Ex.ext ?_ _ _ | refine Ex.drew ?_ | refine Ex.drewN ?_ _))⟩
      · obtain ⟨rfl, hbk, hpp, rfl⟩ := HST.out (by rcases h3 with ⟨h, _⟩ | ⟨h, _⟩ | ⟨_, h⟩ <;> simp [h])
        have HBK := Lib.hid hbk
        have HPP := Lib.hid hpp
        clear hbk hpp HST
        rcases h3 with ⟨rfl, rfl⟩ | ⟨rfl, rfl⟩ | ⟨rfl, rfl⟩
        all_goals
          simp only [Bool.not_false, Bool.not_true]
          go_wp2_with (first
            | (go_at_call 20; ((with_reducible refine (HCR.out _ ?_).mono ?_)); (focus exact (by repeat (first | exact Ex.refl _ | refine Ex.alloc ?_ _ | refine Ex.ext ?_ _ _ | refine Ex.drew ?_ | refine Ex.drewN ?_ _))); rintro e wx ⟨rfl, lx, dx, rfl⟩)
            | (go_at_call 10; (refine ((HX9.out.later ?_).read (fun o h => fbook_in h k hk)).mono ?_); (focus exact (by repeat (first | (with_reducible exact Ex.refl _) | (with_reducible refine Ex.alloc ?_ _) | (with_reducible refine Ex.ext ?_ _ _) | (with_reducible refine Ex.drew ?_) | (with_reducible refine Ex.drewN ?_ _)))); rintro e wy ⟨rfl, ly, dy, rfl⟩))
          refine ((HX9.out.later (by repeat (first | (with_reducible exact Ex.refl _) | (with_reducible refine Ex.alloc ?_ _) | (with_reducible refine Ex.ext ?_ _ _) | (with_reducible refine Ex.drew ?_) | (with_reducible refine Ex.drewN ?_ _)))).readB hk (fun o i h => lots_any h)).mono ?_
          rintro e w10 ⟨⟨v2, rfl, hv2⟩, hx10⟩
          have h10 : Ex w9 w10 := Ex.trans (by repeat (first | (with_reducible exact Ex.refl _) | (with_reducible refine Ex.alloc ?_ _) | (with_reducible refine Ex.ext ?_ _ _) | (with_reducible refine Ex.drew ?_) | (with_reducible refine Ex.drewN ?_ _))) hx10
          rw [HBK.out] at hv2
          obtain ⟨bo, bc, rfl, _, hLB⟩ := lots_of_owned HWFL.out (by omega) rfl hv2
          have HSL := Lib.hid (fun W (h : Ex w10 W) => sameLotsOf wo bo wc bc (st.b k) W (HLA9.out.ex (h10.trans h)) (hLB.ex h) (by omega))
          have H10 := Lib.hid h10
          have HSZ := Lib.hid HBK.out
          clear hv2 hx10 hLB h10
          go_wp2_with (go_at_call 21; ((with_reducible refine (HSL.out _ ?_).mono ?_)); (focus exact (by repeat (first | (with_reducible exact Ex.refl _) | (with_reducible refine Ex.alloc ?_ _) | (with_reducible refine Ex.ext ?_ _ _) | (with_reducible refine Ex.drew ?_) | (with_reducible refine Ex.drewN ?_ _)))); rintro e wz ⟨rfl, lz, dz, rfl⟩)
          go_loopw [17] (fun i wz => ∃ (c : Nat), c ≤ 6 ∧ i = .int .i64 (c : Int) ∧ Ex w10 wz) (fun i _ => 6 - (intOf i).toNat)
          case atStart => exact ⟨0, by omega, rfl, (by repeat (first | exact Ex.refl _ | refine Ex.alloc ?_ _ | refine Ex.ext ?_ _ _ | refine Ex.drew ?_ | refine Ex.drewN ?_ _))⟩
          case round =>
            obtain ⟨c, hc, rfl, lq, dq, rfl⟩ := hrel
            by_cases hlt : c < 6
            · have HOF := Lib.hid (fun W (h : Ex w9 W) => (HX9.out.later h).readP (fun o i hp => by rw [HPP.out] at hp; exact of_in hp c hlt))
              have HOC := Lib.hid (fun W (h : Ex w9 W) => of_in (HCP.out.later h) c hlt)
              have hne := neHas st.p st.p c c
              rw [sameB_refl] at hne
              go_wp2_with (first
                | (go_at_call 12; (refine ((HX9.out.later (H10.out.trans ?_)).read (fun o h => fpurse_any h)).mono ?_); (focus exact (by repeat (first | (with_reducible exact Ex.refl _) | (with_reducible refine Ex.alloc ?_ _) | (with_reducible refine Ex.ext ?_ _ _) | (with_reducible refine Ex.drew ?_) | (with_reducible refine Ex.drewN ?_ _)))); rintro e wy ⟨rfl, ly, dy, rfl⟩)
                | (go_at_call 18; ((with_reducible refine (HOF.out _ (H10.out.trans ?_)).mono ?_)); (focus exact (by repeat (first | (with_reducible exact Ex.refl _) | (with_reducible refine Ex.alloc ?_ _) | (with_reducible refine Ex.ext ?_ _ _) | (with_reducible refine Ex.drew ?_) | (with_reducible refine Ex.drewN ?_ _)))); rintro e wy ⟨rfl, lo, do1, rfl⟩)
                | (go_at_call 18; ((with_reducible refine (HOC.out _ (H10.out.trans ?_)).mono ?_)); (focus exact (by repeat (first | (with_reducible exact Ex.refl _) | (with_reducible refine Ex.alloc ?_ _) | (with_reducible refine Ex.ext ?_ _ _) | (with_reducible refine Ex.drew ?_) | (with_reducible refine Ex.drewN ?_ _)))); rintro e wy ⟨rfl, lo2, do2, rfl⟩))
              all_goals
                go_roundw
                case measure => simp [intOf]; omega
                case rel => exact ⟨c + 1, by omega, by go_num, (by repeat (first | exact Ex.refl _ | refine Ex.alloc ?_ _ | refine Ex.ext ?_ _ _ | refine Ex.drew ?_ | refine Ex.drewN ?_ _))⟩
            · obtain rfl : c = 6 := by omega
              go_wp2_with fail
              all_goals go_ret
              all_goals exact ⟨rfl, (H9.out.trans H10.out).trans (by repeat (first | exact Ex.refl _ | refine Ex.alloc ?_ _ | refine Ex.ext ?_ _ _ | refine Ex.drew ?_ | refine Ex.drewN ?_ _))⟩
end Go.Proofs.YtmbboflakfokhaaDoor
