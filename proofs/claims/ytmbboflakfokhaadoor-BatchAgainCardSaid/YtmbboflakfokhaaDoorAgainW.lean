import Derived.Test.YtmbboflakfokhaaDoorJ43
import Derived.Test.YtmbboflakfokhaaDoorJ37
import Derived.Test.YtmbboflakfokhaaDoorJ15
import Derived.Test.YtmbboflakfokhaaDoorStillLaw
import Derived.Deep.MidRow
/- The walk of BatchAgain. -/
set_option linter.unusedSimpArgs false
set_option linter.unusedVariables false
namespace Go.Proofs.YtmbboflakfokhaaDoor
open Go.RowKit

theorem zeroDo (w : World) : (zeroValue 36).run Tryd.prog w = .ok (.agg #[.string ByteArray.empty, .int .u8 0, .int .i64 0, .int .i64 0, .int .i64 0, .int .i64 0, .int .i64 0, .int .i64 0, .int .i64 0, .int .i64 0, .int .i64 0, .int .u32 0]) w := by kernel_rfl
theorem sizeDo : (Tryd.prog.info? 36).map (·.size) = some 12 := by kernel_rfl
def doA (a : Do) : Array Value := #[.string a.kind, .int .u8 a.a.kind, .int .i64 a.a.client, .int .i64 a.a.seq, .int .i64 a.a.item, .int .i64 a.a.side, .int .i64 a.a.price, .int .i64 a.a.qty, .int .i64 a.a.id, .int .i64 a.client, .int .i64 a.item, .int .u32 a.seed]
theorem doA_cells (a : Do) : a.cells = (doA a).toList := rfl
set_option maxRecDepth 100000 in
set_option maxHeartbeats 16000000 in
theorem batchAgain_in (ao : Option Addr) (len cap : Nat) (l : List Do) (k : Nat) (seed : Int) (E : Nat → Addr) (w : World) (hE : Errs E LE w) (hA : DosAt w ao len l) (hlen : len ≤ 60) (hk : k < 3) (hs : U32 seed) :
    Calls Tryd.prog 5 #[.slice ao len cap, .int .i64 (k : Int), .int .u32 seed] w fun e w' => e = .returned (.bool true) ∧ Ex w w' := by
  obtain ⟨hL, _, hwf, hz⟩ := hA
  have HZ := Lib.hid hz
  have HL := Lib.hid hL
  have HWF := Lib.hid hwf
  have HE := Lib.hid hE
  have HFL := Lib.hid (fun w hE => floored_any E w hE)
  have hb1 : decide ((60 : Int) < (len : Int)) = false := decide_eq_false (by omega)
  have hb2 : decide ((k : Int) < 0) = false := decide_eq_false (by omega)
  have hb3 : decide ((3 : Int) ≤ (k : Int)) = false := decide_eq_false (by omega)
  clear hz hL hwf hE
  go_enter Tryd.func5, Tryd.ntmps5
  go_wp2_with (go_at_call 7; refine (HFL.out _ (by exact HE.out.ex (by repeat (first | exact Ex.refl _ | refine Ex.alloc ?_ _ | refine Ex.ext ?_ _ _ | refine Ex.drew ?_ | refine Ex.drewN ?_ _)))).mono ?_; rintro e wf ⟨rfl, lf, df, rfl⟩)
  have hxf : Ex w ((ext w lf df).alloc (.cells #[.int .i64 50, .int .i64 1] 31)) := (by repeat (first | exact Ex.refl _ | refine Ex.alloc ?_ _ | refine Ex.ext ?_ _ _ | refine Ex.drew ?_ | refine Ex.drewN ?_ _))
  have hblk : Blk ((ext w lf df).alloc (.cells #[.int .i64 50, .int .i64 1] 31)) (w.heap.size + lf.length) #[.int .i64 50, .int .i64 1] 31 := Blk.new (by simp [go_sem])
  generalize (ext w lf df).alloc (.cells #[.int .i64 50, .int .i64 1] 31) = w1 at *
  generalize w.heap.size + lf.length = rb at *
  refine (fnew_ok (own := fun _ => 16) (c := 0) 50 1 100 20000 100 ((HE.out.ex hxf).sub (by decide)) (fun n _ => by decide) (by decide) (by decide) (by decide) (by decide) (by decide) (by decide) (by decide) (by decide) (by decide) (by decide)).mono ?_
  rintro e w2 ⟨A, o, rfl, hFA, hwa, hla, ho, hx2⟩
  have hblk2 := hblk.ex hx2
  have r0 := hblk2.cell 0
  have r1 := hblk2.cell 1
  have hr2 := hblk2.lt
  simp only [List.getElem?_toArray, List.getElem?_cons_zero, List.getElem?_cons_succ] at r0 r1
  have HXF := Lib.hid (hxf.trans hx2)
  have HFA := Lib.hid hFA
  have HO1 := Lib.hid ho
  have HWA := Lib.hid hwa
  have HLA := Lib.hid hla
  have HX2 := Lib.hid hx2
  have HXW1 := Lib.hid hxf
  clear hFA hwa hla ho hx2 hxf hblk hblk2
  go_wp2_with fail
  refine (fnew_ok (own := fun n => if n < w2.heap.size ∧ o n / 8 = 0 then o n else 16) (c := 1) 50 1 100 20000 100 ((HE.out.ex HXF.out).sub (by decide)) (fun n _ => by
    show (if n < w2.heap.size ∧ o n / 8 = 0 then o n else 16) / 8 ≠ 1
    split <;> omega) (by decide) (by decide) (by decide) (by decide) (by decide) (by decide) (by decide) (by decide) (by decide) (by decide)).mono ?_
  rintro e w3 ⟨B, o2, rfl, hFB, hwb, hlb, ho2, hx3⟩
  have hT : Two 0 1 w A B (newSt 100 20000 100) (newSt 100 20000 100) E [] NoT w3 := by
    refine ⟨HXF.out.trans hx3, ⟨o2, HFA.out.kp (m := 1) (g := 7) (Kp.of_below hx3.below) (fun j a b => by rw [Nat.div_one]; omega) (fun n hn e => (ho2 n hn).trans (if_pos ⟨hn, e⟩)), hFB, fun n hn => ?_, fun n hn => ?_⟩, Has.nil _, HE.out, by decide, by decide, by decide⟩
    · have h1 := Nat.lt_of_lt_of_le hn HXW1.out.below.size
      rw [ho2 n (Nat.lt_of_lt_of_le h1 HX2.out.below.size)]
      show (if n < w2.heap.size ∧ o n / 8 = 0 then o n else 16) / 8 = 2
      rw [HO1.out n h1, if_neg (fun e => by have := e.2; omega)]
    · rcases hn with ⟨t, ht, _⟩ | hn
      · cases ht
      · exact hn.elim
  have HT := Lib.hid hT
  have HO : Hid (FOk (newSt 100 20000 100)) := Lib.hid (FOk.new (by decide) (by decide) (by decide) (by decide) (by decide) (by decide))
  have HWB := Lib.hid hwb
  have HLB := Lib.hid hlb
  clear hFB hwb hlb ho2 hx3 hT r0 r1 hr2 HO1 HX2 HXW1 HFA
  go_wp2_with fail
  go_loopw [13, 14] (fun r i wr => ∃ (n q : Nat) (st : FSt), n ≤ len ∧ q ≤ n ∧ i = .int .i64 n ∧ r = .int .i64 q ∧ FOk st ∧ Two 0 1 w A B st st E [] NoT wr) (fun _ i _ => len - (intOf i).toNat)
  case atStart => exact ⟨0, 0, _, by omega, by omega, rfl, rfl, HO.out, HT.out⟩
  case round =>
    obtain ⟨n, q, st, hn, hq, rfl, rfl, hO, hX⟩ := hrel
    have hxw : Ex w wr := hX.ex
    have HO2 := Lib.hid hO
    have HX2 := Lib.hid hX
    clear hO hX HT HO
    by_cases hlt : n < len
    · obtain ⟨b, off, rfl, hbs, hzz⟩ := HZ.out (by omega)
      have hzk := hzz n (by rw [HL.out]; exact hlt)
      have hwa := HWF.out _ (List.getElem_mem (by rw [HL.out]; exact hlt : n < l.length))
      clear hzz
      have hcx : ∀ j, j < 12 → wr.cell? ⟨b, off + n * 12 + j, none⟩ = (l[n]'(by rw [HL.out]; exact hlt)).cells[j]? := fun j hj => (hxw.below.cell (p := ⟨b, off + n * 12 + j, none⟩) hbs).trans (hzk j hj)
      clear hzk
      generalize l[n]'(by rw [HL.out]; exact hlt) = a at hcx hwa
      have a0 := hcx 0 (by omega)
      simp only [Do.cells, List.getElem?_cons_zero, Nat.add_zero] at a0
      have hrange : wr.rangeAt b (off + n * 12) a.cells := fun j v hj => (hcx j (by have := (List.getElem?_eq_some_iff.1 hj).1; simpa [Do.cells] using this)).trans hj
      have HRG := Lib.hid hrange
      have hu : U32 a.seed := by have := hwa.2.2.2.2; unfold U32; omega
      have hbr : b < wr.heap.size := lt_of_cell a0
      clear hcx hrange hwa hxw
      go_upto_region 14 with (first
        | (refine wpList_load_mid rfl 36 (.tmp 80) rfl b (off + n * 12) rfl a.cells _ HRG.out Tryd.underlying36 rfl sizeDo ?_)
        | (with_reducible refine wpList_alloc_row rfl 36 rfl _ _ zeroDo rfl ?_)
        | (refine wpList_store_fresh rfl 36 (.tmp 15) (.tmp 81) rfl (#[.string ByteArray.empty, .int .u8 0, .int .i64 0, .int .i64 0, .int .i64 0, .int .i64 0, .int .i64 0, .int .i64 0, .int .i64 0, .int .i64 0, .int .i64 0, .int .u32 0]) (doA a) 36 rfl rfl sizeDo rfl (by simp [doA, Value.oneCell']) ?_))
      refine wp_world (R := fun W => Two 0 1 w A B st st E ([(wr.heap.size, doA a, 36)] ++ []) NoT W) (HX2.out.add ((Ex.refl _).alloc _) (fun t ht => by simp only [List.mem_singleton] at ht; subst ht; exact Nat.le_refl _) (Has.mk (Blk.new rfl) (Has.nil _))) ?_
      generalize wr.heap.size = db at *
      rintro W hX
      have HXD := Lib.hid hX
      have bk := hX.has.cons.1
      have hdz := bk.lt
      have d0 := bk.cell 0
      have d1 := bk.cell 1
      have d2 := bk.cell 2
      have d3 := bk.cell 3
      have d4 := bk.cell 4
      have d5 := bk.cell 5
      have d6 := bk.cell 6
      have d7 := bk.cell 7
      have d8 := bk.cell 8
      have d10 := bk.cell 10
      have d11 := bk.cell 11
      simp only [doA, List.getElem?_toArray, List.getElem?_cons_zero, List.getElem?_cons_succ] at d0 d1 d2 d3 d4 d5 d6 d7 d8 d10 d11
      clear hX bk HX2 HRG
      by_cases hp : (a.kind.toList == [112, 108, 97, 99, 101]) = true
      · as_aux_lemma =>
        go_upto_region 16 with fail
        go_wp2_with fail
        refine (HXD.out.place a.a).mono ?_
        rintro e w4 ⟨rfl, hX4⟩
        have HX4 := Lib.hid hX4
        have bk := hX4.has.cons.1
        have hdz4 := bk.lt
        have d1 := bk.cell 1
        have d2 := bk.cell 2
        have d3 := bk.cell 3
        have d4 := bk.cell 4
        have d5 := bk.cell 5
        have d6 := bk.cell 6
        have d7 := bk.cell 7
        have d8 := bk.cell 8
        simp only [doA, List.getElem?_toArray, List.getElem?_cons_zero, List.getElem?_cons_succ] at d1 d2 d3 d4 d5 d6 d7 d8
        clear hX4 bk
        go_wp2_with fail
        refine (HX4.out.swap.place a.a).mono ?_
        rintro e w5 ⟨rfl, hX5⟩
        have HX5 := Lib.hid hX5.swap
        have HOP := Lib.hid (HO2.out.fplace a.a)
        clear hX5 d1 d2 d3 d4 d5 d6 d7 d8
        by_cases he : fplaceE st a.a = 0
        · rw [he, errV_zero]
          clear he
          go_wp2_with fail
          go_quiet (fail)
          all_goals go_wp2_with fail
          all_goals
            go_roundw
            case measure => simp [intOf]; omega
            case rel => exact ⟨n + 1, q, _, by omega, by omega, by go_num, rfl, HOP.out, (HX5.out.later (by repeat (first | (with_reducible exact Ex.refl _) | (with_reducible refine Ex.alloc ?_ _) | (with_reducible refine Ex.ext ?_ _ _) | (with_reducible refine Ex.drew ?_) | (with_reducible refine Ex.drewN ?_ _)))).less (fun t ht => by cases ht) (fun n hn => hn)⟩
        · rw [errV_pos E _ he]
          go_wp2_with fail
          go_quiet (fail)
          all_goals go_wp2_with fail
          all_goals
            go_roundw
            case measure => simp [intOf]; omega
            case rel => exact ⟨n + 1, q, _, by omega, by omega, by go_num, rfl, HOP.out, (HX5.out.later (by repeat (first | (with_reducible exact Ex.refl _) | (with_reducible refine Ex.alloc ?_ _) | (with_reducible refine Ex.ext ?_ _ _) | (with_reducible refine Ex.drew ?_) | (with_reducible refine Ex.drewN ?_ _)))).less (fun t ht => by cases ht) (fun n hn => hn)⟩
      · by_cases hc : (a.kind.toList == [99, 97, 110, 99, 101, 108]) = true
        · as_aux_lemma =>
          go_upto_region 21 with fail
          go_wp2_with fail
          refine (HXD.out.cancel HO2.out a.a).mono ?_
          rintro e w4 ⟨rfl, hX4⟩
          have hX5 : Two 0 1 w A B (fcancelR st a.a).2.2 st E ([(w4.heap.size, lotA (fcancelR st a.a).1, 56)] ++ ([(db, doA a, 36)] ++ [])) NoT (w4.alloc (.cells (lotA (fcancelR st a.a).1) 56)) := hX4.add ((Ex.refl _).alloc _) (fun t ht => by simp only [List.mem_singleton] at ht; subst ht; exact Nat.le_refl _) (Has.mk (Blk.new rfl) (Has.nil _))
          have HC := Lib.hid (fun W (X : Two 1 0 w B A st (fcancelR st a.a).2.2 E ([(w4.heap.size, lotA (fcancelR st a.a).1, 56)] ++ ([(db, doA a, 36)] ++ [])) NoT W) => X.cancel HO2.out a.a)
          have HOP := Lib.hid (HO2.out.fcancel a.a)
          clear hX4
          generalize fcancelR st a.a = r at *
          obtain ⟨⟨xi, xo, xs, xp, xq⟩, en, st2⟩ := r
          simp only at hX5 HOP HC
          go_upto_region 22 with fail
          refine wp_world (R := fun W => Two 0 1 w A B st2 st E ([(w4.heap.size, lotA ⟨xi, xo, xs, xp, xq⟩, 56)] ++ ([(db, doA a, 36)] ++ [])) NoT W) hX5 ?_
          clear hX5
          generalize w4.heap.size = lb at *
          rintro W5 hX5
          have HX5 := Lib.hid hX5
          have bk := hX5.has.cons.2.cons.1
          have hdz5 := bk.lt
          have hlz5 := hX5.has.cons.1.lt
          have d1 := bk.cell 1
          have d2 := bk.cell 2
          have d3 := bk.cell 3
          have d4 := bk.cell 4
          have d5 := bk.cell 5
          have d6 := bk.cell 6
          have d7 := bk.cell 7
          have d8 := bk.cell 8
          simp only [doA, List.getElem?_toArray, List.getElem?_cons_zero, List.getElem?_cons_succ] at d1 d2 d3 d4 d5 d6 d7 d8
          clear hX5 bk
          go_wp2_with fail
          refine (HC.out _ HX5.out.swap).mono ?_
          rintro e w6 ⟨rfl, hX6⟩
          have HX6 := Lib.hid hX6.swap
          obtain ⟨x0, x1, x2, x3, x4⟩ := hX6.has.cons.1.lot
          have hlz6 := hX6.has.cons.1.lt
          have ez := fun w => neLot_self ⟨xi, xo, xs, xp, xq⟩ w
          simp only at ez x0 x1 x2 x3 x4
          clear hX6 d1 d2 d3 d4 d5 d6 d7 d8
          go_wp2_with fail
          all_goals
            go_roundw
            case measure => simp [intOf]; omega
            case rel => exact ⟨n + 1, q, _, by omega, by omega, by go_num, rfl, HOP.out, (HX6.out.later (by repeat (first | (with_reducible exact Ex.refl _) | (with_reducible refine Ex.alloc ?_ _) | (with_reducible refine Ex.ext ?_ _ _) | (with_reducible refine Ex.drew ?_) | (with_reducible refine Ex.drewN ?_ _)))).less (fun t ht => by cases ht) (fun n hn => hn)⟩
        · by_cases hr : (a.kind.toList == [114, 117, 110]) = true
          · as_aux_lemma =>
            by_cases hq8 : q + 1 < 8
            · have HRN := Lib.hid (HXD.out.run HO2.out HWA.out HLA.out a.item a.seed hu)
              have HRN2 := Lib.hid (fun st2 cs T W (X : Two 1 0 w B A st st2 E cs T W) => X.run HO2.out HWB.out HLB.out a.item a.seed hu)
              have HOP := Lib.hid (HO2.out.runAny HXD.out.pinv (wd := 50) (hl := 1) (by decide) a.item a.seed)
              have HLE := Lib.hid (runAny_le HO2.out a.item 50 1 a.seed)
              generalize runAny st a.item 50 1 a.seed = R at *
              generalize runAnyS st a.item 50 1 a.seed = st2 at *
              generalize (if inR a.item 0 2 = true then Value.nilIface else errV E 2) = er at *
              go_upto_region 28 with fail
              go_wp2_with fail
              refine HRN.out.mono ?_
              rintro e w4 ⟨fo, fc, rfl, hF4, hX4, _⟩
              have hX5 := hX4.add (cs' := [(w4.heap.size, resF R fo fc, 50)]) (W' := w4.alloc (.cells (resF R fo fc) 50)) ((Ex.refl _).alloc _) (fun t ht => by simp only [List.mem_singleton] at ht; subst ht; exact Nat.le_refl _) (Has.mk (Blk.new rfl) (Has.nil _))
              have hF5 : FillAt (w4.alloc (.cells (resF R fo fc) 50)) fo R.fills := hF4.ex ((Ex.refl _).alloc _)
              clear hX4 hF4 HRN
              go_upto_region 29 with fail
              refine wp_world (R := fun W => Two 0 1 w A B st2 st E ([(w4.heap.size, resF R fo fc, 50)] ++ ([(db, doA a, 36)] ++ [])) (fun n => NoT n ∨ TF fo R.fills n) W ∧ FillAt W fo R.fills) ⟨hX5, hF5⟩ ?_
              clear hX5 hF5
              generalize w4.heap.size = lb at *
              rintro W5 ⟨hX5, hF5⟩
              have HX5 := Lib.hid hX5
              have HF5 := Lib.hid hF5
              have bk := hX5.has.cons.2.cons.1
              have hdz5 := bk.lt
              have hlz5 := hX5.has.cons.1.lt
              have d10 := bk.cell 10
              have d11 := bk.cell 11
              simp only [doA, List.getElem?_toArray, List.getElem?_cons_zero, List.getElem?_cons_succ] at d10 d11
              clear hX5 hF5 bk
              go_wp2_with fail
              refine (HRN2.out _ _ _ _ HX5.out.swap).mono ?_
              rintro e w6 ⟨go, gc, rfl, hF6, hX6, hT6⟩
              have hX7 := hX6.swap
              have HX6 := Lib.hid hX7
              have HF6 := Lib.hid hF6
              have HF4 := Lib.hid (HF5.out.other2 (W' := w6) (fun n hn => hT6 n (.inr hn)))
              have bk := hX7.has.cons.1
              have hlz6 := bk.lt
              have x0 := bk.cell 0
              have x1 := bk.cell 1
              have x3 := bk.cell 3
              simp only [resF, List.getElem?_toArray, List.getElem?_cons_zero, List.getElem?_cons_succ] at x0 x1 x3
              have HSF := Lib.hid (fun W (hx : Ex w6 W) => sameFills_any fo go fc gc R.fills W (HF4.out.ex hx) (HF6.out.ex hx) HLE.out)
              clear hX6 hX7 hT6 hF6 bk d10 d11 HF5
              go_wp2_with (go_at_call 23; ((with_reducible refine (HSF.out _ ?_).mono ?_)); (focus exact (by repeat (first | (with_reducible exact Ex.refl _) | (with_reducible refine Ex.alloc ?_ _) | (with_reducible refine Ex.ext ?_ _ _) | (with_reducible refine Ex.drew ?_) | (with_reducible refine Ex.drewN ?_ _)))); rintro e w7 ⟨rfl, l7, d7, rfl⟩)
              all_goals
                go_roundw
                case measure => simp [intOf]; omega
                case rel => exact ⟨n + 1, q + 1, _, by omega, by omega, by go_num, by go_num, HOP.out, (HX6.out.later (by repeat (first | (with_reducible exact Ex.refl _) | (with_reducible refine Ex.alloc ?_ _) | (with_reducible refine Ex.ext ?_ _ _) | (with_reducible refine Ex.drew ?_) | (with_reducible refine Ex.drewN ?_ _)))).less (fun t ht => by cases ht) (fun n hn => hn.elim)⟩
            · go_wp2_with fail
              all_goals
                go_roundw
                case measure => simp [intOf]; omega
                case rel => exact ⟨n + 1, q + 1, _, by omega, by omega, by go_num, by go_num, HO2.out, (HXD.out.later (by repeat (first | (with_reducible exact Ex.refl _) | (with_reducible refine Ex.alloc ?_ _) | (with_reducible refine Ex.ext ?_ _ _) | (with_reducible refine Ex.drew ?_) | (with_reducible refine Ex.drewN ?_ _)))).less (fun t ht => by cases ht) (fun n hn => hn)⟩
          · as_aux_lemma =>
            go_wp2_with fail
            all_goals
              go_roundw
              case measure => simp [intOf]; omega
              case rel => exact ⟨n + 1, q, _, by omega, by omega, by go_num, rfl, HO2.out, (HXD.out.later (by repeat (first | (with_reducible exact Ex.refl _) | (with_reducible refine Ex.alloc ?_ _) | (with_reducible refine Ex.ext ?_ _ _) | (with_reducible refine Ex.drew ?_) | (with_reducible refine Ex.drewN ?_ _)))).less (fun t ht => by cases ht) (fun n hn => hn)⟩
    · obtain rfl : n = len := by omega
      have HRN := Lib.hid (fun W (hx : Ex wr W) => (HX2.out.later hx).run HO2.out HWA.out HLA.out (k : Int) seed hs)
      have hin : inR (k : Int) 0 2 = true := inR_iff.2 (by omega)
      have e1 : runAny st (k : Int) 50 1 seed = runR st k 50 1 seed := by unfold runAny; rw [if_pos hin, Int.toNat_natCast]
      have e2 : runAnyS st (k : Int) 50 1 seed = runS st k 50 1 seed := by unfold runAnyS; rw [if_pos hin, Int.toNat_natCast]
      rw [e1, e2, if_pos hin] at HRN
      obtain ⟨hO3, hP3, _⟩ := run_facts (wd := 50) (hl := 1) HO2.out HX2.out.pinv hk (by decide) seed
      have HCR := Lib.hid (run_cross (wd := 50) (hl := 1) HO2.out HX2.out.pinv hk (by decide) seed)
      have hlen6 := (hO3.book k hk).len
      generalize runR st k 50 1 seed = R at *
      generalize runS st k 50 1 seed = st2 at *
      clear hin e1 e2 hO3 hP3
      go_wp2_with fail
      refine (HRN.out _ (by repeat (first | (with_reducible exact Ex.refl _) | (with_reducible refine Ex.alloc ?_ _) | (with_reducible refine Ex.ext ?_ _ _) | (with_reducible refine Ex.drew ?_) | (with_reducible refine Ex.drewN ?_ _)))).mono ?_
      rintro e w4 ⟨fo, fc, rfl, _, hX4, _⟩
      have HX4 := Lib.hid (hX4.add (cs' := [(w4.heap.size, resF R fo fc, 50)]) (W' := w4.alloc (.cells (resF R fo fc) 50)) ((Ex.refl _).alloc _) (fun t ht => by simp only [List.mem_singleton] at ht; subst ht; exact Nat.le_refl _) (Has.mk (Blk.new rfl) (Has.nil _)))
      have HWFL : Hid (∀ a ∈ st2.b k, a.wf) := Lib.hid (by obtain ⟨o', h', _⟩ := hX4.lab; exact (h'.book k hk).2.1)
      clear hX4 HRN HX2
      go_upto_region 33 with fail
      refine wp_world (R := fun W => Two 0 1 w A B st2 st E ([(w4.heap.size, resF R fo fc, 50)] ++ []) (fun n => NoT n ∨ TF fo R.fills n) W) HX4.out ?_
      clear HX4
      generalize w4.heap.size = rb at *
      rintro W4 hX4
      have HX4 := Lib.hid hX4
      have hrz4 := hX4.has.cons.1.lt
      clear hX4
      go_wp2_with fail
      refine ((HX4.out.later (by repeat (first | (with_reducible exact Ex.refl _) | (with_reducible refine Ex.alloc ?_ _) | (with_reducible refine Ex.ext ?_ _ _) | (with_reducible refine Ex.drew ?_) | (with_reducible refine Ex.drewN ?_ _)))).read (fun o h => fbook_in h k hk)).mono ?_
      rintro e w5 ⟨rfl, l5, d5, rfl⟩
      go_wp2_with fail
      refine ((HX4.out.later (by repeat (first | (with_reducible exact Ex.refl _) | (with_reducible refine Ex.alloc ?_ _) | (with_reducible refine Ex.ext ?_ _ _) | (with_reducible refine Ex.drew ?_) | (with_reducible refine Ex.drewN ?_ _)))).read (fun o h => lots_any (h.book k hk))).mono ?_
      rintro e w6 ⟨⟨v, rfl, hv⟩, hx6⟩
      obtain ⟨wo, wc, rfl, ⟨hc1, hc2, hc3⟩, hLA⟩ := lots_of_owned HWFL.out (by omega) rfl hv
      have hX6 := HX4.out.later (Ex.trans (by repeat (first | (with_reducible exact Ex.refl _) | (with_reducible refine Ex.alloc ?_ _) | (with_reducible refine Ex.ext ?_ _ _) | (with_reducible refine Ex.drew ?_) | (with_reducible refine Ex.drewN ?_ _))) hx6)
      have HX6 := Lib.hid hX6
      have x2 := hX6.has.cons.1.cell 2
      have hlz6 := hX6.has.cons.1.lt
      simp only [resF, List.getElem?_toArray, List.getElem?_cons_zero, List.getElem?_cons_succ] at x2
      have HCX := Lib.hid (cross_any wo (st2.b k).length wc (st2.b k) E w6 hc1 ((HE.out.ex hX6.ex).sub (by decide)) hLA)
      clear hX6 hv hLA hx6
      cases hro : R.isOpen with
      | true =>
        rw [HCR.out hro] at HCX
        rw [hro] at x2
        clear HCR hro
        go_wp2_with (go_at_call 20; ((with_reducible refine HCX.out.mono ?_)); rintro e wx ⟨rfl, lx, dx, rfl⟩)
        all_goals go_ret
        all_goals exact ⟨rfl, HX6.out.ex.trans (by repeat (first | exact Ex.refl _ | refine Ex.alloc ?_ _ | refine Ex.ext ?_ _ _ | refine Ex.drew ?_ | refine Ex.drewN ?_ _))⟩
      | false =>
        rw [hro] at x2
        generalize curveCross (st2.b k) = cx at *
        clear HCR hro
        go_wp2_with (go_at_call 20; ((with_reducible refine HCX.out.mono ?_)); rintro e wx ⟨rfl, lx, dx, rfl⟩)
        all_goals go_ret
        all_goals exact ⟨rfl, HX6.out.ex.trans (by repeat (first | exact Ex.refl _ | refine Ex.alloc ?_ _ | refine Ex.ext ?_ _ _ | refine Ex.drew ?_ | refine Ex.drewN ?_ _))⟩
end Go.Proofs.YtmbboflakfokhaaDoor
