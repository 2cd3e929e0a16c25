import Derived.Test.YtmbboflakfokhaaDoorJ37
import Derived.Test.YtmbboflakfokhaaDoorJ40
import Derived.Test.YtmbboflakfokhaaDoorStillLaw
import Derived.Test.YtmbboflakfokhaaDoorPrice
/- The walk of BatchFair. -/
set_option linter.unusedSimpArgs false
set_option linter.unusedVariables false
namespace Go.Proofs.YtmbboflakfokhaaDoor
open Go.RowKit

theorem eqTri2 (x y z : Int) (w : World) : (binOp .neq 41 (.agg #[.int .i64 x, .int .i64 y, .int .i64 z]) (.agg #[.int .i64 x, .int .i64 y, .int .i64 z])).run Tryd.prog w = .ok (.bool false) w := by
  have h := equalInTri 9998 x y z x y z w
  rw [run_neq_struct, h]
  simp
theorem fills_le {st : FSt} {k : Nat} {wd hl seed : Int} (h : FOk st) (hk : k < 3) : (runR st k wd hl seed).fills.length ≤ 100000 := by
  by_cases ho : (nextN st k wd hl).2.2 = true ∧ (bestC (st.b k) (st.ref k) 1000).vol ≠ 0
  · have hF : (runR st k wd hl seed).fills = fillsL (st.b k) (bestC (st.b k) (st.ref k) 1000).price (bestC (st.b k) (st.ref k) 1000).vol seed := if_pos ho
    rw [hF]
    exact fills_small (h.book k hk).lots _ _ _
  · have hF : (runR st k wd hl seed).fills = [] := if_neg ho
    rw [hF]
    simp
theorem mul_bd2 {p t B : Int} (p1 : 1 ≤ p) (p2 : p ≤ 1000) (b0 : 0 ≤ B) (h1 : -B ≤ t) (h2 : t ≤ B) : -(1000 * B) ≤ p * t ∧ p * t ≤ 1000 * B := by
  have e1 := Int.mul_le_mul_of_nonneg_left h2 (by omega : 0 ≤ p)
  have e2 := Int.mul_le_mul_of_nonneg_left h1 (by omega : 0 ≤ p)
  have e3 := Int.mul_le_mul_of_nonneg_right p2 b0
  rw [Int.mul_neg] at e2
  omega
theorem fplace_ref (st : FSt) (a : Ask) : (fplaceS st a).ref = st.ref := by
  unfold fplaceS
  split
  · unfold placeS
    split <;> rfl
  · rfl

set_option maxRecDepth 100000 in
set_option maxHeartbeats 8000000 in
theorem batchFair_in (ao : Option Addr) (len cap : Nat) (l : List Do) (k : Nat) (seed : Int) (E : Nat → Addr) (w : World) (hE : Errs E LE w) (hA : DosAt w ao len l) (hlen : len ≤ 60) (hk : k < 3) (hs : U32 seed) :
    Calls Tryd.prog 3 #[.slice ao len cap, .int .i64 (k : Int), .int .u32 seed] w fun e w' => e = .returned (.bool true) ∧ Ex w w' := by
  obtain ⟨hL, _, hwf, hz⟩ := hA
  have HZ := Lib.hid hz
  have HL := Lib.hid hL
  have HE := Lib.hid hE
  have HFL := Lib.hid (fun w hE => floored_any E w hE)
  have hb1 : decide ((60 : Int) < (len : Int)) = false := decide_eq_false (by omega)
  have hb2 : decide ((k : Int) < 0) = false := decide_eq_false (by omega)
  have hb3 : decide ((3 : Int) ≤ (k : Int)) = false := decide_eq_false (by omega)
  clear hz hL hwf hE
  go_enter Tryd.func3, Tryd.ntmps3
  go_wp2_with (go_at_call 7; refine (HFL.out _ (by exact HE.out.ex (by repeat (first | exact Ex.refl _ | refine Ex.alloc ?_ _ | refine Ex.ext ?_ _ _ | refine Ex.drew ?_ | refine Ex.drewN ?_ _)))).mono ?_; rintro e wf ⟨rfl, lf, df, rfl⟩)
  have hxf : Ex w (ext w lf df) := (by repeat (first | exact Ex.refl _ | refine Ex.alloc ?_ _ | refine Ex.ext ?_ _ _ | refine Ex.drew ?_ | refine Ex.drewN ?_ _))
  refine (fnew_ok (own := fun _ => 8) (c := 0) 100 1 100 20000 100 ((HE.out.ex (by repeat (first | exact Ex.refl _ | refine Ex.alloc ?_ _ | refine Ex.ext ?_ _ _ | refine Ex.drew ?_ | refine Ex.drewN ?_ _))).sub (by decide)) (fun n _ => by decide) (by decide) (by decide) (by decide) (by decide) (by decide) (by decide) (by decide) (by decide) (by decide) (by decide)).mono ?_
  rintro e w1 ⟨A, o, rfl, hF, hwd, hhl, ho, hx1⟩
  have hX : FlX o 0 w1 A (newSt 100 20000 100) E LE [] NoT w1 := FlX.start hF ((HE.out.ex hxf).ex hx1) (fun n ⟨e, he, hn⟩ => by
    have hlt := lt_of_cell ((HE.out.ex hxf) e he)
    rw [hn, ho _ hlt]
    show 8 / 8 ≠ 0
    decide) (fun n hn => hn.elim)
  have HX := Lib.hid hX
  have HX1 := Lib.hid (hxf.trans hx1)
  have HLO := Lib.hid (show ∀ n, n < w.heap.size → o n / 8 ≠ 0 from fun n hn => by rw [ho n (Nat.lt_of_lt_of_le hn hxf.below.size)]; show 8 / 8 ≠ 0; decide)
  have hhl2 : 1 ≤ A.hl ∧ A.hl ≤ 1000 := by rw [hhl]; decide
  have HO : Hid (FOk (newSt 100 20000 100)) := Lib.hid (FOk.new (by decide) (by decide) (by decide) (by decide) (by decide) (by decide))
  have HHL := Lib.hid hhl2
  clear hF hX hx1 ho hwd hhl hxf hhl2
  go_wp2_with fail
  go_loopw [10] (fun i wr => ∃ (n : Nat) (st : FSt), n ≤ len ∧ i = .int .i64 n ∧ FOk st ∧ st.ref k = 100 ∧ FlX o 0 w1 A st E LE [] NoT wr) (fun i _ => len - (intOf i).toNat)
  case atStart => exact ⟨0, _, by omega, rfl, HO.out, rfl, HX.out⟩
  case round =>
    obtain ⟨n, st, hn, rfl, hO, hrf, hX⟩ := hrel
    have hxw : Ex w wr := hX.ex0 HX1.out HLO.out
    have HXW := Lib.hid hxw
    have HO2 := Lib.hid hO
    have HX2 := Lib.hid hX
    have HRF := Lib.hid hrf
    clear hO hX hxw HX HO hrf
    by_cases hlt : n < len
    · as_aux_lemma =>
      obtain ⟨b, off, rfl, hbs, hzz⟩ := HZ.out (by omega)
      have hzk := hzz n (by rw [HL.out]; exact hlt)
      clear hzz
      have hcx : ∀ j, j < 12 → wr.cell? ⟨b, off + n * 12 + j, none⟩ = (l[n]'(by rw [HL.out]; exact hlt)).cells[j]? := fun j hj => (HXW.out.below.cell (p := ⟨b, off + n * 12 + j, none⟩) hbs).trans (hzk j hj)
      clear hzk
      generalize l[n]'(by rw [HL.out]; exact hlt) = a at hcx
      have a1 := hcx 1 (by omega)
      have a2 := hcx 2 (by omega)
      have a3 := hcx 3 (by omega)
      have a4 := hcx 4 (by omega)
      have a5 := hcx 5 (by omega)
      have a6 := hcx 6 (by omega)
      have a7 := hcx 7 (by omega)
      have a8 := hcx 8 (by omega)
      simp only [Do.cells, List.getElem?_cons_zero, List.getElem?_cons_succ, Nat.add_zero] at a1 a2 a3 a4 a5 a6 a7 a8
      have hbr : b < wr.heap.size := lt_of_cell a1
      clear hcx
      have HPL := Lib.hid (HX2.out.place a.a)
      go_wp2_with (go_at_call 9; refine HPL.out.mono ?_; rintro e w2 ⟨rfl, hX3, _⟩)
      all_goals
        go_roundw
        case measure => simp [intOf]; omega
        case rel => exact ⟨n + 1, _, by omega, by go_num, HO2.out.fplace a.a, by rw [fplace_ref]; exact HRF.out, hX3⟩
    · obtain rfl : n = len := by omega
      have hlen6 : (st.b k).length ≤ 60 := (HO2.out.book k hk).len
      have HLOK := Lib.hid (HO2.out.book k hk).lots
      have HWFL : Hid (∀ a ∈ st.b k, a.wf) := Lib.hid (by obtain ⟨o', h'⟩ := HX2.out.fl.at; exact (h'.book k hk).2.1)
      have HPV := Lib.hid HX2.out.fl.pinv
      go_wp2_with fail
      refine ((HX2.out.later (by repeat (first | (with_reducible exact Ex.refl _) | (with_reducible refine Ex.alloc ?_ _) | (with_reducible refine Ex.ext ?_ _ _) | (with_reducible refine Ex.drew ?_) | (with_reducible refine Ex.drewN ?_ _)))).read (fun o h => fbook_in h k hk)).mono ?_
      rintro e w5 ⟨rfl, l5, d5, rfl⟩
      go_wp2_with fail
      refine ((HX2.out.later (by repeat (first | (with_reducible exact Ex.refl _) | (with_reducible refine Ex.alloc ?_ _) | (with_reducible refine Ex.ext ?_ _ _) | (with_reducible refine Ex.drew ?_) | (with_reducible refine Ex.drewN ?_ _)))).readB hk (fun o i h => lots_any h)).mono ?_
      rintro e w6 ⟨⟨v, rfl, hv⟩, hx6⟩
      obtain ⟨wo, wcp, rfl, ⟨hc1, hc2, hc3⟩, hLA⟩ := lots_of_owned HWFL.out (by omega) rfl hv
      have hx6' : Ex wr w6 := Ex.trans (by repeat (first | (with_reducible exact Ex.refl _) | (with_reducible refine Ex.alloc ?_ _) | (with_reducible refine Ex.ext ?_ _ _) | (with_reducible refine Ex.drew ?_) | (with_reducible refine Ex.drewN ?_ _))) hx6
      have HX6 := Lib.hid (HX2.out.later hx6')
      have HV := Lib.hid (show ∀ n, TV (.slice wo (st.b k).length wcp) n → wr.heap.size ≤ n ∧ n < w6.heap.size from fun n hn => ⟨Nat.le_trans (show Ex wr _ from (by repeat (first | (with_reducible exact Ex.refl _) | (with_reducible refine Ex.alloc ?_ _) | (with_reducible refine Ex.ext ?_ _ _) | (with_reducible refine Ex.drew ?_) | (with_reducible refine Ex.drewN ?_ _)))).below.size (hv.lt n hn).1, (hv.lt n hn).2⟩)
      have HLA := Lib.hid hLA
      have HX6E := Lib.hid hx6'
      clear hv hx6 hLA hx6'
      go_wp2_with fail
      refine ((HX6.out.later (by repeat (first | (with_reducible exact Ex.refl _) | (with_reducible refine Ex.alloc ?_ _) | (with_reducible refine Ex.ext ?_ _ _) | (with_reducible refine Ex.drew ?_) | (with_reducible refine Ex.drewN ?_ _)))).read (fun o h => fpurse_any h)).mono ?_
      rintro e w7 ⟨rfl, l7, d7, rfl⟩
      go_wp2_with fail
      refine ((HX6.out.later (by repeat (first | (with_reducible exact Ex.refl _) | (with_reducible refine Ex.alloc ?_ _) | (with_reducible refine Ex.ext ?_ _ _) | (with_reducible refine Ex.drew ?_) | (with_reducible refine Ex.drewN ?_ _)))).readP (fun o i h => ptotal_any h)).mono ?_
      rintro e w7 ⟨rfl, l8, d8, rfl⟩
      go_wp2_with fail
      refine ((HX6.out.later (by repeat (first | (with_reducible exact Ex.refl _) | (with_reducible refine Ex.alloc ?_ _) | (with_reducible refine Ex.ext ?_ _ _) | (with_reducible refine Ex.drew ?_) | (with_reducible refine Ex.drewN ?_ _)))).read (fun o h => fpurse_any h)).mono ?_
      rintro e w7 ⟨rfl, l9, d9, rfl⟩
      go_wp2_with fail
      refine ((HX6.out.later (by repeat (first | (with_reducible exact Ex.refl _) | (with_reducible refine Ex.alloc ?_ _) | (with_reducible refine Ex.ext ?_ _ _) | (with_reducible refine Ex.drew ?_) | (with_reducible refine Ex.drewN ?_ _)))).readP (fun o i h => (pcopy_any h).mono fun e w' ⟨h1, h2, h3, h4⟩ => (⟨⟨h1, h3, h4⟩, h2⟩ : (_ ∧ _ ∧ _) ∧ _))).mono ?_
      rintro e w8 ⟨⟨rfl, hz8, t8, hrow⟩, hx8⟩
      have h68 : Ex w6 w8 := Ex.trans (by repeat (first | (with_reducible exact Ex.refl _) | (with_reducible refine Ex.alloc ?_ _) | (with_reducible refine Ex.ext ?_ _ _) | (with_reducible refine Ex.drew ?_) | (with_reducible refine Ex.drewN ?_ _))) hx8
      have h6c := (show Ex w6 (ext ((ext w6 (l7 ++ l8) d8).alloc (.cells #[.int .i64 (sumP st.p 2), .int .i64 (sumP st.p 3), .int .i64 (sumP st.p 4)] 41)) l9 d9) from (by repeat (first | (with_reducible exact Ex.refl _) | (with_reducible refine Ex.alloc ?_ _) | (with_reducible refine Ex.ext ?_ _ _) | (with_reducible refine Ex.drew ?_) | (with_reducible refine Ex.drewN ?_ _)))).below.size
      have h6t : w6.heap.size ≤ w6.heap.size + (l7.length + l8.length) := Nat.le_add_right _ _
      have htri : TriAt w8 (w6.heap.size + (l7.length + l8.length)) (sumP st.p 2) (sumP st.p 3) (sumP st.p 4) := Blk.ex (by repeat (first | exact Blk.new (by first | omega | (simp [go_sem]; done) | (simp [go_sem]; omega)) | (with_reducible exact Blk.new rfl) | (with_reducible refine Blk.drew ?_) | (with_reducible refine Blk.drewN ?_ _) | (with_reducible refine Blk.ext ?_ _ _) | (with_reducible refine Blk.alloc ?_ _))) hx8
      generalize (ext ((ext w6 (l7 ++ l8) d8).alloc (.cells #[.int .i64 (sumP st.p 2), .int .i64 (sumP st.p 3), .int .i64 (sumP st.p 4)] 41)) l9 d9).heap.size = cb at *
      generalize w6.heap.size + (l7.length + l8.length) = tb at *
      have hX8 : FlX o 0 w1 A st E LE [] (fun n => TV (.slice wo (st.b k).length wcp) n ∨ n = cb ∨ n = tb) w8 := HX2.out.addT (HX6E.out.trans h68) (fun n hn => by
        rcases hn with hn | rfl | rfl
        · exact ⟨(HV.out n hn).1, Nat.lt_of_lt_of_le (HV.out n hn).2 h68.below.size⟩
        · exact ⟨Nat.le_trans HX6E.out.below.size h6c, hz8⟩
        · exact ⟨Nat.le_trans HX6E.out.below.size h6t, htri.lt⟩)
      have HX8 := Lib.hid hX8
      have HLA8 := Lib.hid (HLA.out.ex h68)
      have HROW := Lib.hid hrow
      have HTRI := Lib.hid htri
      clear hX8 HX6 HX6E h68 h6c h6t hx8 HLA hrow HV htri
      have HPR := Lib.hid (fun W (h : Ex w8 W) => price_ok wo (st.b k).length wcp (st.b k) 100 E W hc1 ((HX8.out.later h).errs.sub (by decide)) (HLA8.out.ex h) HLOK.out (by decide) (by decide))
      have HP1 := Lib.hid (show (runR st k A.wd A.hl seed).price = (bestC (st.b k) 100 1000).price by show (bestC (st.b k) (st.ref k) 1000).price = _; rw [HRF.out])
      have HP2 := Lib.hid (show (runR st k A.wd A.hl seed).vol = (bestC (st.b k) 100 1000).vol by show (bestC (st.b k) (st.ref k) 1000).vol = _; rw [HRF.out])
      have HFR := Lib.hid (run_fairR (wd := A.wd) HO2.out HPV.out hk HHL.out seed)
      go_wp2_with fail
      refine (HPR.out _ (by repeat (first | (with_reducible exact Ex.refl _) | (with_reducible refine Ex.alloc ?_ _) | (with_reducible refine Ex.ext ?_ _ _) | (with_reducible refine Ex.drew ?_) | (with_reducible refine Ex.drewN ?_ _)))).mono ?_
      rintro e w8' ⟨rfl, lp, dp, rfl⟩
      go_wp2_with fail
      refine ((HX8.out.later (by repeat (first | (with_reducible exact Ex.refl _) | (with_reducible refine Ex.alloc ?_ _) | (with_reducible refine Ex.ext ?_ _ _) | (with_reducible refine Ex.drew ?_) | (with_reducible refine Ex.drewN ?_ _)))).run HO2.out hk seed hs).mono ?_
      rintro e w9 ⟨fo, fc, rfl, hfc, hFA, hX9, hT9⟩
      have h9 : Ex w w9 := hX9.ex0 HX1.out HLO.out
      have hla9 : LotsAt w9 wo (st.b k).length (st.b k) := (HLA8.out.ex (show Ex w8 _ from (by repeat (first | (with_reducible exact Ex.refl _) | (with_reducible refine Ex.alloc ?_ _) | (with_reducible refine Ex.ext ?_ _ _) | (with_reducible refine Ex.drew ?_) | (with_reducible refine Ex.drewN ?_ _))))).other2 (fun g off e => hT9 g (.inl (by rw [e]; rfl)))
      have hrow9 : w9.rowIs cb t8 48 (fun n => .int .i64 (st.p (n / 8) (n % 8))) := (HROW.out.of_block ((show Ex w8 _ from (by repeat (first | (with_reducible exact Ex.refl _) | (with_reducible refine Ex.alloc ?_ _) | (with_reducible refine Ex.ext ?_ _ _) | (with_reducible refine Ex.drew ?_) | (with_reducible refine Ex.drewN ?_ _)))).below.block cb HROW.out.lt)).of_block (hT9 cb (.inr (.inl rfl)))
      have hcp : PurseAt (fun _ => 1) 1 w9 cb st.p := ⟨rfl, HPV.out, t8, hrow9⟩
      have htri9 : TriAt w9 tb (sumP st.p 2) (sumP st.p 3) (sumP st.p 4) := (HTRI.out.ex (show Ex w8 _ from (by repeat (first | (with_reducible exact Ex.refl _) | (with_reducible refine Ex.alloc ?_ _) | (with_reducible refine Ex.ext ?_ _ _) | (with_reducible refine Ex.drew ?_) | (with_reducible refine Ex.drewN ?_ _))))).block (hT9 tb (.inr (.inr rfl)))
      have HX9 := Lib.hid (hX9.less (cs' := []) (T' := NoT) (fun t ht => ht) (fun n hn => hn.elim))
      have H9 := Lib.hid h9
      have HLA9 := Lib.hid hla9
      have HCP := Lib.hid hcp
      have HFA := Lib.hid hFA
      have HT9 := Lib.hid htri9
      have HPV2 := Lib.hid hX9.fl.pinv
      have HFS := Lib.hid (show (runR st k A.wd A.hl seed).fills.length ≤ 100000 from fills_le HO2.out hk)
      clear hX9 h9 hT9 hla9 hrow9 hcp HROW HLA8 HX8 htri9 HTRI hFA HPR
      rw [HP1.out] at HFR
      rw [HP1.out, HP2.out]
      clear HP1 HP2
      generalize (bestC (st.b k) 100 1000).price = rp at *
      generalize (bestC (st.b k) 100 1000).vol = rv at *
      generalize (runR st k A.wd A.hl seed).fills = F at *
      generalize (runR st k A.wd A.hl seed).isOpen = ro at *
      generalize runS st k A.wd A.hl seed = rs at *
      have HTOT := Lib.hid (fun W (h : Ex w9 W) => (HX9.out.later h).readP (fun o i hp => by
        have ht := ptotal_any hp
        rw [HFR.out.total 0 (by simp), HFR.out.total 2 (by simp), HFR.out.total 3 (by simp), HFR.out.total 4 (by simp)] at ht
        exact ht))
      have t0 := HT9.out.cell0
      have t1 := HT9.out.cell1
      have t2 := HT9.out.cell2
      have tl := HT9.out.lt
      have heq := eqTri2 (sumP st.p 2) (sumP st.p 3) (sumP st.p 4)
      go_wp2_with (first
        | (go_at_call 12; (refine ((HX9.out.later ?_).read (fun o h => fpurse_any h)).mono ?_); (focus exact (by repeat (first | (with_reducible exact Ex.refl _) | (with_reducible refine Ex.alloc ?_ _) | (with_reducible refine Ex.ext ?_ _ _) | (with_reducible refine Ex.drew ?_) | (with_reducible refine Ex.drewN ?_ _)))); rintro e wy ⟨rfl, ly, dy, rfl⟩)
        | (go_at_call 13; ((with_reducible refine (HTOT.out _ ?_).mono ?_)); (focus exact (by repeat (first | (with_reducible exact Ex.refl _) | (with_reducible refine Ex.alloc ?_ _) | (with_reducible refine Ex.ext ?_ _ _) | (with_reducible refine Ex.drew ?_) | (with_reducible refine Ex.drewN ?_ _)))); rintro e wy ⟨rfl, lo, do1, rfl⟩))
      have HB0 := Lib.hid (show Blk (w9.alloc (.cells #[.int .i64 rp, .int .i64 rv, .bool ro, .slice fo F.length fc] 50)) w9.heap.size #[.int .i64 rp, .int .i64 rv, .bool ro, .slice fo F.length fc] 50 from Blk.new rfl)
      have hrb : w9.heap.size = w9.heap.size := rfl
      go_loopw [21] (fun i wr => ∃ (m : Nat), m ≤ (st.b k).length ∧ i = .int .i64 (m : Int) ∧ Ex w9 wr ∧ Blk wr w9.heap.size #[.int .i64 rp, .int .i64 rv, .bool ro, .slice fo F.length fc] 50) (fun i _ => (st.b k).length - (intOf i).toNat)
      case atStart => exact ⟨0, by omega, rfl, (by repeat (first | exact Ex.refl _ | refine Ex.alloc ?_ _ | refine Ex.ext ?_ _ _ | refine Ex.drew ?_ | refine Ex.drewN ?_ _)), (by repeat (first | exact Blk.new (by first | omega | (simp [go_sem]; done) | (simp [go_sem]; omega)) | (with_reducible exact Blk.new rfl) | (with_reducible refine Blk.drew ?_) | (with_reducible refine Blk.drewN ?_ _) | (with_reducible refine Blk.ext ?_ _ _) | (with_reducible refine Blk.alloc ?_ _)))⟩
      case round =>
        obtain ⟨m, hm, rfl, hwx, hbl⟩ := hrel
        have HWX := Lib.hid hwx
        have HBL := Lib.hid hbl
        have c0 := hbl.cell 0
        have c1 := hbl.cell 1
        have c3 := hbl.cell 3
        have crl := hbl.lt
        simp only [List.getElem?_toArray, List.getElem?_cons_zero, List.getElem?_cons_succ] at c0 c1 c3
        clear hwx hbl
        generalize w9.heap.size = rb at *
        by_cases hmlt : m < (st.b k).length
        · obtain ⟨xb, xo, rfl, hxb, hxc⟩ := HLA9.out.2.2.2 (by omega)
          have hxw : ∀ j, j < 5 → wr.cell? ⟨xb, xo + m * 5 + j, none⟩ = ((st.b k)[m]'hmlt).cells[j]? := fun j hj => (HWX.out.below.cell (p := ⟨xb, xo + m * 5 + j, none⟩) hxb).trans (hxc m hmlt j hj)
          have hxl : xb < wr.heap.size := Nat.lt_of_lt_of_le hxb HWX.out.below.size
          have hmem : (st.b k)[m]'hmlt ∈ st.b k := List.getElem_mem hmlt
          generalize (st.b k)[m]'hmlt = x at hxw hmem
          have a0 := hxw 0 (by omega)
          have a2 := hxw 2 (by omega)
          have a3 := hxw 3 (by omega)
          have a4 := hxw 4 (by omega)
          simp only [Lot.cells, List.getElem?_cons_zero, List.getElem?_cons_succ, Nat.add_zero] at a0 a2 a3 a4
          clear hxw hxc
          go_wp2_with fail
          go_loopw [22, 23] (fun n j w3 => ∃ (q : Nat), q ≤ F.length ∧ j = .int .i64 (q : Int) ∧ n = .int .i64 (gotF (F.take q) x.id) ∧ Ex wr w3) (fun _ j _ => F.length - (intOf j).toNat)
          case atStart => exact ⟨0, by omega, rfl, rfl, (by repeat (first | exact Ex.refl _ | refine Ex.alloc ?_ _ | refine Ex.ext ?_ _ _ | refine Ex.drew ?_ | refine Ex.drewN ?_ _))⟩
          case round =>
            obtain ⟨q, hq, rfl, rfl, lq, dq, rfl⟩ := hrel
            by_cases hqlt : q < F.length
            · as_aux_lemma =>
              obtain ⟨b1, o1, rfl, hb1, hc1⟩ := HFA.out (by omega)
              have f0 := (HWX.out.below.cell (p := ⟨b1, o1 + q * 2 + 0, none⟩) hb1).trans (hc1 q hqlt 0 (by omega))
              have f1 := (HWX.out.below.cell (p := ⟨b1, o1 + q * 2 + 1, none⟩) hb1).trans (hc1 q hqlt 1 (by omega))
              have hbl1 := Nat.lt_of_lt_of_le hb1 HWX.out.below.size
              have hst := gotF_step (List.getElem?_eq_getElem hqlt) x.id
              have hb := gotF_bounds (F.take q) x.id (fun f h => HFR.out.qty f (List.mem_of_mem_take h))
              have hq1 := HFR.out.qty F[q] (List.getElem_mem hqlt)
              have hl : (F.take q).length ≤ q := by simp; omega
              have hfs := HFS.out
              generalize F[q] = z at *
              generalize gotF (F.take q) x.id = n at *
              simp only [Fil.cells, List.getElem?_cons_zero, List.getElem?_cons_succ, Nat.add_zero] at f0 f1
              clear hc1
              by_cases he : z.id = x.id
              · rw [if_pos he] at hst
                rw [he] at f0
                have HS := Lib.hid hst
                clear hst he
                go_wp2_with fail
                go_quiet (fail)
                all_goals go_wp2_with fail
                all_goals
                  go_roundw
                  case measure => simp [intOf]; omega
                  case rel => exact ⟨q + 1, by omega, by go_num, by rw [HS.out], (by repeat (first | exact Ex.refl _ | refine Ex.alloc ?_ _ | refine Ex.ext ?_ _ _ | refine Ex.drew ?_ | refine Ex.drewN ?_ _))⟩
              · rw [if_neg he] at hst
                have HS := Lib.hid hst
                clear hst
                go_wp2_with fail
                go_quiet (fail)
                all_goals go_wp2_with fail
                all_goals
                  go_roundw
                  case measure => simp [intOf]; omega
                  case rel => exact ⟨q + 1, by omega, by go_num, by rw [HS.out, Int.add_zero], (by repeat (first | exact Ex.refl _ | refine Ex.alloc ?_ _ | refine Ex.ext ?_ _ _ | refine Ex.drew ?_ | refine Ex.drewN ?_ _))⟩
            · obtain rfl : q = F.length := by omega
              rw [List.take_length]
              obtain ⟨r1, r2⟩ := HFR.out.rest x hmem
              obtain ⟨g0, g1⟩ := HFR.out.bd x hmem
              have hbuy := HFR.out.buy x hmem
              have hsell := HFR.out.sell x hmem
              have hside := lot_side ((HO2.out.book k hk).ok x hmem)
              have hxq := (Lot.ok_iff.1 ((HO2.out.book k hk).ok x hmem)).2.2.2.2
              have HGT := Lib.hid (fun W (h : Ex w9 W) => (HX9.out.later h).readB hk (fun o i hp => get_any hp x.id))
              rw [r2] at HGT
              clear r2
              generalize gotF F x.id = g at *
              generalize (getR (rs.b k) x.id).1 = z at *
              obtain ⟨zi, zo, zs, zp, zq⟩ := z
              obtain rfl : zq = x.qty - g := by simp only at r1; omega
              clear r1
              go_wp2_with fail
              go_cut [24, 25] (fun p is wx => ∃ zb : Nat, p = .pointer (some ⟨zb, 0, none⟩) ∧ is = .bool (decide (g < x.qty)) ∧ Ex wr wx ∧ Blk wx zb #[.int .i64 zi, .int .i64 zo, .int .i64 zs, .int .i64 zp, .int .i64 (x.qty - g)] 56)
              case first =>
                go_region_held3 (fun W => W.cell? ⟨xb, xo + m * 5, none⟩ = some (.int .i64 x.id)) ((first | exact a0 | exact ((show Ex wr _ from (by repeat (first | (with_reducible exact Ex.refl _) | (with_reducible refine Ex.alloc ?_ _) | (with_reducible refine Ex.ext ?_ _ _) | (with_reducible refine Ex.drew ?_) | (with_reducible refine Ex.drewN ?_ _)))).below.cell (p := ⟨xb, xo + m * 5, none⟩) hxl).trans a0)) ((first
                  | (go_at_call 10; ((refine ((HX9.out.later (HWX.out.trans ?_)).read (fun o h => fbook_in h k hk)).mono ?_)); (focus exact (by repeat (first | (with_reducible exact Ex.refl _) | (with_reducible refine Ex.alloc ?_ _) | (with_reducible refine Ex.ext ?_ _ _) | (with_reducible refine Ex.drew ?_) | (with_reducible refine Ex.drewN ?_ _)))); rintro e wy ⟨rfl, ly, dy, rfl⟩)
                  | (go_at_call 17; ((with_reducible refine (HGT.out _ (HWX.out.trans ?_)).mono ?_)); (focus exact (by repeat (first | (with_reducible exact Ex.refl _) | (with_reducible refine Ex.alloc ?_ _) | (with_reducible refine Ex.ext ?_ _ _) | (with_reducible refine Ex.drew ?_) | (with_reducible refine Ex.drewN ?_ _)))); rintro e wy ⟨rfl, lg, dg, rfl⟩)))
                all_goals go_wp2_with fail
                all_goals
                  go_meet
                  case rel => exact ⟨_, rfl, rfl, (by repeat (first | exact Ex.refl _ | refine Ex.alloc ?_ _ | refine Ex.ext ?_ _ _ | refine Ex.drew ?_ | refine Ex.drewN ?_ _)), (by repeat (first | exact Blk.new (by first | omega | (simp [go_sem]; done) | (simp [go_sem]; omega)) | (with_reducible exact Blk.new rfl) | (with_reducible refine Blk.drew ?_) | (with_reducible refine Blk.drewN ?_ _) | (with_reducible refine Blk.ext ?_ _ _) | (with_reducible refine Blk.alloc ?_ _)))⟩
              case rest =>
                obtain ⟨zb, rfl, rfl, hxz, hzb⟩ := hcut
                have z4 := hzb.cell 4
                have zl := hzb.lt
                simp only [List.getElem?_toArray, List.getElem?_cons_zero, List.getElem?_cons_succ] at z4
                have b0 := (hxz.below.cell (p := ⟨xb, xo + m * 5, none⟩) hxl).trans a0
                have b2 := (hxz.below.cell (p := ⟨xb, xo + m * 5 + 2, none⟩) hxl).trans a2
                have b3 := (hxz.below.cell (p := ⟨xb, xo + m * 5 + 3, none⟩) hxl).trans a3
                have b4 := (hxz.below.cell (p := ⟨xb, xo + m * 5 + 4, none⟩) hxl).trans a4
                have HXZ := Lib.hid hxz
                have hcase : g = 0 ∨ (0 < g ∧ x.side = 0 ∧ rp ≤ x.price) ∨ (0 < g ∧ x.side = 1 ∧ x.price ≤ rp) := by
                  by_cases h0 : 0 < g
                  · rcases hside with h1 | h1
                    · exact .inr (.inl ⟨h0, h1, hbuy h0 h1⟩)
                    · exact .inr (.inr ⟨h0, h1, hsell h0 h1⟩)
                  · exact .inl (by omega)
                clear a0 a2 a3 a4 hbuy hsell hxz hzb hside
                rcases hcase with h0 | ⟨h0, h1, h2⟩ | ⟨h0, h1, h2⟩
                · as_aux_lemma =>
                  have d0 : decide (0 < g) = false := decide_eq_false (by omega)
                  go_wp2_with fail
                  go_quiet (fail)
                  all_goals go_wp2_with fail
                  all_goals
                    go_roundw
                    case measure => simp [intOf]; omega
                    case rel => exact ⟨m + 1, by omega, by go_num, (HWX.out.trans HXZ.out).trans (by repeat (first | exact Ex.refl _ | refine Ex.alloc ?_ _ | refine Ex.ext ?_ _ _ | refine Ex.drew ?_ | refine Ex.drewN ?_ _)), (HBL.out.ex HXZ.out).ex (by repeat (first | exact Ex.refl _ | refine Ex.alloc ?_ _ | refine Ex.ext ?_ _ _ | refine Ex.drew ?_ | refine Ex.drewN ?_ _))⟩
                · as_aux_lemma =>
                  have d0 : decide (0 < g) = true := decide_eq_true h0
                  have d1 : decide (x.price < rp) = false := decide_eq_false (by omega)
                  rw [h1] at b2
                  go_wp2_with fail
                  go_quiet (fail)
                  all_goals go_wp2_with fail
                  all_goals
                    go_roundw
                    case measure => simp [intOf]; omega
                    case rel => exact ⟨m + 1, by omega, by go_num, (HWX.out.trans HXZ.out).trans (by repeat (first | exact Ex.refl _ | refine Ex.alloc ?_ _ | refine Ex.ext ?_ _ _ | refine Ex.drew ?_ | refine Ex.drewN ?_ _)), (HBL.out.ex HXZ.out).ex (by repeat (first | exact Ex.refl _ | refine Ex.alloc ?_ _ | refine Ex.ext ?_ _ _ | refine Ex.drew ?_ | refine Ex.drewN ?_ _))⟩
                · as_aux_lemma =>
                  have d0 : decide (0 < g) = true := decide_eq_true h0
                  have d1 : decide (rp < x.price) = false := decide_eq_false (by omega)
                  rw [h1] at b2
                  go_wp2_with fail
                  go_quiet (fail)
                  all_goals go_wp2_with fail
                  all_goals
                    go_roundw
                    case measure => simp [intOf]; omega
                    case rel => exact ⟨m + 1, by omega, by go_num, (HWX.out.trans HXZ.out).trans (by repeat (first | exact Ex.refl _ | refine Ex.alloc ?_ _ | refine Ex.ext ?_ _ _ | refine Ex.drew ?_ | refine Ex.drewN ?_ _)), (HBL.out.ex HXZ.out).ex (by repeat (first | exact Ex.refl _ | refine Ex.alloc ?_ _ | refine Ex.ext ?_ _ _ | refine Ex.drew ?_ | refine Ex.drewN ?_ _))⟩
        · obtain rfl : m = (st.b k).length := by omega
          go_wp2_with fail
          go_loopw [26] (fun i w4 => ∃ (c : Nat), c ≤ 6 ∧ i = .int .i64 (c : Int) ∧ Ex wr w4) (fun i _ => 6 - (intOf i).toNat)
          case atStart => exact ⟨0, by omega, rfl, (by repeat (first | exact Ex.refl _ | refine Ex.alloc ?_ _ | refine Ex.ext ?_ _ _ | refine Ex.drew ?_ | refine Ex.drewN ?_ _))⟩
          case round =>
            obtain ⟨c, hc, rfl, hwc⟩ := hrel
            have HW4 := Lib.hid (HWX.out.trans hwc)
            have HBL4 := Lib.hid (HBL.out.ex hwc)
            have HWC := Lib.hid hwc
            have c3 := HBL4.out.cell 3
            have crl := HBL4.out.lt
            simp only [List.getElem?_toArray, List.getElem?_cons_zero, List.getElem?_cons_succ] at c3
            clear hwc
            by_cases hclt : c < 6
            · go_wp2_with fail
              go_loopw [27, 28, 29] (fun paid got i w5 => ∃ (m : Nat), m ≤ (st.b k).length ∧ i = .int .i64 (m : Int) ∧ paid = .int .i64 (rp * netZ (gotF F) c ((st.b k).take m)) ∧ got = .int .i64 (netZ (gotF F) c ((st.b k).take m)) ∧ Ex wr w5) (fun _ _ i _ => (st.b k).length - (intOf i).toNat)
              case atStart => exact ⟨0, by omega, rfl, by simp [netZ, sumZ], by simp [netZ, sumZ], (by repeat (first | exact Ex.refl _ | refine Ex.alloc ?_ _ | refine Ex.ext ?_ _ _ | refine Ex.drew ?_ | refine Ex.drewN ?_ _))⟩
              case round =>
                obtain ⟨m, hm, rfl, rfl, rfl, l5x, d5x, rfl⟩ := hrel
                by_cases hmlt : m < (st.b k).length
                · as_aux_lemma =>
                  obtain ⟨xb, xo, rfl, hxb, hxc⟩ := HLA9.out.2.2.2 (by omega)
                  have hxw : ∀ j, j < 5 → wr.cell? ⟨xb, xo + m * 5 + j, none⟩ = ((st.b k)[m]'hmlt).cells[j]? := fun j hj => (HW4.out.below.cell (p := ⟨xb, xo + m * 5 + j, none⟩) hxb).trans (hxc m hmlt j hj)
                  have hxl : xb < wr.heap.size := Nat.lt_of_lt_of_le hxb HW4.out.below.size
                  have hmem : (st.b k)[m]'hmlt ∈ st.b k := List.getElem_mem hmlt
                  have hnt := netZ_take (gotF F) (c : Int) (List.getElem?_eq_getElem hmlt)
                  have hnb := netZ_bounds (g := gotF F) (c := (c : Int)) ((st.b k).take m) (fun y hy => by
                    have hy' := List.mem_of_mem_take hy
                    have h1 := HFR.out.bd y hy'
                    have h2 := (Lot.ok_iff.1 ((HO2.out.book k hk).ok y hy')).2.2.2.2
                    omega)
                  have hnl : ((st.b k).take m).length ≤ 60 := by simp; omega
                  generalize (st.b k)[m]'hmlt = x at hxw hmem hnt
                  have a0 := hxw 0 (by omega)
                  have a1 := hxw 1 (by omega)
                  have a2 := hxw 2 (by omega)
                  simp only [Lot.cells, List.getElem?_cons_zero, List.getElem?_cons_succ, Nat.add_zero] at a0 a1 a2
                  have hside := lot_side ((HO2.out.book k hk).ok x hmem)
                  clear hxw hxc
                  have hN : -60000 ≤ netZ (gotF F) c ((st.b k).take m) ∧ netZ (gotF F) c ((st.b k).take m) ≤ 60000 := by omega
                  have HNT := Lib.hid hnt
                  clear hnb hnl hnt
                  generalize netZ (gotF F) c ((st.b k).take m) = N at *
                  by_cases hoc : x.owner = (c : Int)
                  · rw [hoc] at a1
                    go_wp2_with fail
                    go_loopw [27, 28, 30] (fun paid got j w6 => ∃ (q : Nat) (t : Int), q ≤ F.length ∧ t = N + (if x.side = 0 then gotF (F.take q) x.id else - gotF (F.take q) x.id) ∧ j = .int .i64 (q : Int) ∧ paid = .int .i64 (rp * t) ∧ got = .int .i64 t ∧ Ex wr w6) (fun _ _ j _ => F.length - (intOf j).toNat)
                    case atStart => exact ⟨0, N, by omega, by simp [gotF], rfl, rfl, rfl, (by repeat (first | exact Ex.refl _ | refine Ex.alloc ?_ _ | refine Ex.ext ?_ _ _ | refine Ex.drew ?_ | refine Ex.drewN ?_ _))⟩
                    case round =>
                      obtain ⟨q, t, hq, ht, rfl, rfl, rfl, lq, dq, rfl⟩ := hrel
                      by_cases hqlt : q < F.length
                      · obtain ⟨b1, o1, rfl, hb1, hc1⟩ := HFA.out (by omega)
                        have f0 := (HW4.out.below.cell (p := ⟨b1, o1 + q * 2 + 0, none⟩) hb1).trans (hc1 q hqlt 0 (by omega))
                        have f1 := (HW4.out.below.cell (p := ⟨b1, o1 + q * 2 + 1, none⟩) hb1).trans (hc1 q hqlt 1 (by omega))
                        have hbl1 := Nat.lt_of_lt_of_le hb1 HW4.out.below.size
                        have hst := gotF_step (List.getElem?_eq_getElem hqlt) x.id
                        have hb := gotF_bounds (F.take q) x.id (fun f h => HFR.out.qty f (List.mem_of_mem_take h))
                        have hq1 := HFR.out.qty F[q] (List.getElem_mem hqlt)
                        have hl : (F.take q).length ≤ q := by simp; omega
                        have hfs := HFS.out
                        obtain ⟨p1, p2⟩ := HFR.out.pr (by omega)
                        generalize F[q] = z at *
                        generalize gotF (F.take q) x.id = n at *
                        simp only [Fil.cells, List.getElem?_cons_zero, List.getElem?_cons_succ, Nat.add_zero] at f0 f1
                        clear hc1
                        have htb : -200000000 ≤ t ∧ t ≤ 200000000 := by
                          rw [ht]
                          split <;> omega
                        have hm1 := mul_bd2 p1 p2 (by decide : (0 : Int) ≤ 200000000) htb.1 htb.2
                        have hm2 := mul_bd2 (t := z.qty) p1 p2 (by decide : (0 : Int) ≤ 1000) (by omega) (by omega)
                        have HT := Lib.hid ht
                        clear ht
                        by_cases he : z.id = x.id
                        · rw [if_pos he] at hst
                          rw [he] at f0
                          have HS := Lib.hid hst
                          clear hst he
                          rcases hside with h0 | h0
                          · rw [h0] at a2
                            have HT2 := Lib.hid (show t = N + n by rw [HT.out, if_pos h0])
                            go_wp2_with fail
                            go_quiet (fail)
                            all_goals go_wp2_with fail
                            all_goals
                              go_roundw
                              case measure => simp [intOf]; omega
                              case rel => exact ⟨q + 1, t + z.qty, by omega, by rw [if_pos h0, HS.out, HT2.out]; omega, by go_num, by rw [Int.mul_add], rfl, (by repeat (first | exact Ex.refl _ | refine Ex.alloc ?_ _ | refine Ex.ext ?_ _ _ | refine Ex.drew ?_ | refine Ex.drewN ?_ _))⟩
                          · have h0' : ¬ x.side = 0 := by omega
                            rw [h0] at a2
                            have HT2 := Lib.hid (show t = N + - n by rw [HT.out, if_neg h0'])
                            go_wp2_with fail
                            go_quiet (fail)
                            all_goals go_wp2_with fail
                            all_goals
                              go_roundw
                              case measure => simp [intOf]; omega
                              case rel => exact ⟨q + 1, t - z.qty, by omega, by rw [if_neg h0', HS.out, HT2.out]; omega, by go_num, by rw [Int.mul_sub], rfl, (by repeat (first | exact Ex.refl _ | refine Ex.alloc ?_ _ | refine Ex.ext ?_ _ _ | refine Ex.drew ?_ | refine Ex.drewN ?_ _))⟩
                        · rw [if_neg he, Int.add_zero] at hst
                          have HS := Lib.hid hst
                          clear hst
                          go_wp2_with fail
                          go_quiet (fail)
                          all_goals go_wp2_with fail
                          all_goals
                            go_roundw
                            case measure => simp [intOf]; omega
                            case rel => exact ⟨q + 1, t, by omega, by rw [HS.out]; exact HT.out, by go_num, rfl, rfl, (by repeat (first | exact Ex.refl _ | refine Ex.alloc ?_ _ | refine Ex.ext ?_ _ _ | refine Ex.drew ?_ | refine Ex.drewN ?_ _))⟩
                      · obtain rfl : q = F.length := by omega
                        rw [List.take_length] at ht
                        have HT3 : Hid (netZ (gotF F) c ((st.b k).take (m + 1)) = t) := Lib.hid (by rw [HNT.out, ht]; unfold netF; rw [if_pos hoc])
                        clear ht
                        go_wp2_with fail
                        all_goals
                          go_roundw
                          case measure => simp [intOf]; omega
                          case rel => exact ⟨m + 1, by omega, by go_num, by rw [HT3.out], by rw [HT3.out], (by repeat (first | exact Ex.refl _ | refine Ex.alloc ?_ _ | refine Ex.ext ?_ _ _ | refine Ex.drew ?_ | refine Ex.drewN ?_ _))⟩
                  · have HT3 : Hid (netZ (gotF F) c ((st.b k).take (m + 1)) = N) := Lib.hid (by rw [HNT.out]; unfold netF; rw [if_neg hoc, Int.add_zero])
                    go_wp2_with fail
                    all_goals
                      go_roundw
                      case measure => simp [intOf]; omega
                      case rel => exact ⟨m + 1, by omega, by go_num, by rw [HT3.out], by rw [HT3.out], (by repeat (first | exact Ex.refl _ | refine Ex.alloc ?_ _ | refine Ex.ext ?_ _ _ | refine Ex.drew ?_ | refine Ex.drewN ?_ _))⟩
                · obtain rfl : m = (st.b k).length := by omega
                  rw [List.take_length]
                  have e0 := HFR.out.cash c hclt
                  have e1 := HFR.out.stock c hclt
                  obtain ⟨v1, v2, v3, v4⟩ := HPV2.out c hclt
                  obtain ⟨_, u2, u3, u4⟩ := HPV.out c hclt
                  have v5 := v4 k hk
                  have u5 := u4 k hk
                  have HOF := Lib.hid (fun W (h : Ex wr W) => (HX9.out.later (HW4.out.trans h)).readP (fun o i hp => of_in hp c hclt))
                  have HOC := Lib.hid (fun W (h : Ex wr W) => of_in (HCP.out.later (HW4.out.trans h)) c hclt)
                  generalize netZ (gotF F) c (st.b k) = N at *
                  clear v4 u4
                  have d1 : decide (rs.p c 1 < 0) = false := decide_eq_false (by omega)
                  have d2 : decide (st.p c 0 - rp * N < rs.p c 1) = false := decide_eq_false (by omega)
                  go_wp2_with (first
                    | (go_at_call 12; (refine ((HX9.out.later (HW4.out.trans ?_)).read (fun o h => fpurse_any h)).mono ?_); (focus exact (by repeat (first | (with_reducible exact Ex.refl _) | (with_reducible refine Ex.alloc ?_ _) | (with_reducible refine Ex.ext ?_ _ _) | (with_reducible refine Ex.drew ?_) | (with_reducible refine Ex.drewN ?_ _)))); rintro e wy ⟨rfl, ly, dy, rfl⟩)
                    | (go_at_call 18; ((with_reducible refine (HOC.out _ ?_).mono ?_)); (focus exact (by repeat (first | (with_reducible exact Ex.refl _) | (with_reducible refine Ex.alloc ?_ _) | (with_reducible refine Ex.ext ?_ _ _) | (with_reducible refine Ex.drew ?_) | (with_reducible refine Ex.drewN ?_ _)))); rintro e wy ⟨rfl, lo2, do2, rfl⟩)
                    | (go_at_call 18; ((with_reducible refine (HOF.out _ ?_).mono ?_)); (focus exact (by repeat (first | (with_reducible exact Ex.refl _) | (with_reducible refine Ex.alloc ?_ _) | (with_reducible refine Ex.ext ?_ _ _) | (with_reducible refine Ex.drew ?_) | (with_reducible refine Ex.drewN ?_ _)))); rintro e wy ⟨rfl, lo, do1, rfl⟩))
                  have hk3 : k = 0 ∨ k = 1 ∨ k = 2 := by omega
                  rcases hk3 with rfl | rfl | rfl
                  all_goals
                    simp only [Nat.add_zero, Nat.reduceAdd] at e1 u5 v5
                    go_quiet (fail)
                    all_goals go_wp2_with fail
                    all_goals
                      go_roundw
                      case measure => simp [intOf]; omega
                      case rel => exact ⟨c + 1, by omega, by go_num, HWC.out.trans (by repeat (first | exact Ex.refl _ | refine Ex.alloc ?_ _ | refine Ex.ext ?_ _ _ | refine Ex.drew ?_ | refine Ex.drewN ?_ _))⟩
            · obtain rfl : c = 6 := by omega
              go_wp2_with fail
              all_goals go_ret
              all_goals exact ⟨rfl, (H9.out.trans HW4.out).trans (by repeat (first | exact Ex.refl _ | refine Ex.alloc ?_ _ | refine Ex.ext ?_ _ _ | refine Ex.drew ?_ | refine Ex.drewN ?_ _))⟩
end Go.Proofs.YtmbboflakfokhaaDoor
