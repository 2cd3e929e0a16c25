/- The walk of WireStreams. -/
import Derived.Test.YthngmmhoakegeaaDoorStreamsP
import Derived.Laws.AppendOwnNone
set_option linter.unusedSimpArgs false
set_option linter.unusedVariables false
namespace Go.Proofs.YthngmmhoakegeaaDoor
open Go.RowKit

theorem bytes_mid (l : List UInt8) (i j : Nat) : (⟨l.toArray⟩ : ByteArray).extract i j = ⟨((l.drop i).take (j - i)).toArray⟩ := by
  apply ByteArray.ext; apply Array.toList_inj.1; rw [extract_list]
theorem addr_zero (g j : Nat) : (⟨g, 0, none⟩ : Addr).add j = ⟨g, j, none⟩ := by
  unfold Addr.add
  split
  · rename_i h0; simp_all
  · simp
set_option maxRecDepth 100000 in
set_option maxHeartbeats 4000000 in
theorem streams_in (S : List UInt8) (ao : Option Addr) (len cap : Nat) (E : Nat → Addr) (w : World) (hR : CodeReady E w) (hc : CutsAt w ao len) (h1 : S.length ≤ 400) (h2 : len ≤ 30) :
    Calls Tryd.prog 14 #[.string ⟨S.toArray⟩, .slice ao len cap] w fun e w' => e = .returned (.bool true) ∧ Below w.heap.size w w' := by
  have hE : Errs E [2, 3, 4] w := Errs.sub hR.1 (by decide)
  have HR := Lib.hid hR
  have HC := Lib.hid hc
  have zS := bytes_size S
  have hb1 : decide ((400 : Int) < (S.length : Int)) = false := decide_eq_false (by omega)
  have hb2 : decide ((30 : Int) < (len : Int)) = false := decide_eq_false (by omega)
  clear hR hc
  go_enter Tryd.func14, Tryd.ntmps14
  go_wp2_with (go_at_call 25; refine (framed_any E _ (by exact Errs.sub (hE.ex (by repeat (first | exact Ex.refl _ | refine Ex.alloc ?_ _ | refine Ex.ext ?_ _ _ | refine Ex.drew ?_ | refine Ex.drewN ?_ _))) (by decide))).mono ?_; rintro e w1 ⟨rfl, l1, d1, rfl⟩)
  have hx0 : Ex w ((Proofs.YthngmmhoakegeaaDoor.ext w l1 d1).alloc (.cells #[.string ⟨#[]⟩] 99)) := (by repeat (first | exact Ex.refl _ | refine Ex.alloc ?_ _ | refine Ex.ext ?_ _ _ | refine Ex.drew ?_ | refine Ex.drewN ?_ _))
  have hrd0 : ReaderAt ((Proofs.YthngmmhoakegeaaDoor.ext w l1 d1).alloc (.cells #[.string ⟨#[]⟩] 99)) (w.heap.size + l1.length) [] := by
    have h := reader_fresh (Proofs.YthngmmhoakegeaaDoor.ext w l1 d1)
    rw [ext_size] at h
    exact h
  have HFE := Lib.hid (feed_any (w.heap.size + l1.length) [] S E w _ HR.out hx0.below (by omega) hrd0 (by simp; omega))
  refine HFE.out.mono ?_
  rintro e w1 ⟨⟨v1, rfl, hrow1⟩, hfd1⟩
  rw [List.nil_append] at hrow1 hfd1
  obtain ⟨ao1, cap1, rfl, hc1, hga⟩ := gots_of_owned rfl hrow1
  have hrd1 := hfd1.reader hrd0
  have hB1 := hfd1.below (w0 := w) hx0.below (by omega)
  have hlt1 := hrd1.lt
  have hws := hB1.size
  have HGA := Lib.hid hga
  have HRD1 := Lib.hid hrd1
  have HB1 := Lib.hid hB1
  have HC1 := Lib.hid (HC.out.below hB1)
  clear hga hrd1 hB1 hrow1 hfd1 hrd0 hx0 HFE
  go_wp2_with fail
  obtain ⟨i0, hi0, hz0, hz1, hz2⟩ := info_parts infoGot
  have hwx : w.heap.size ≤ w1.heap.size := hws
  go_loopw [9, 10, 11] (fun p a i wr => ∃ (k m : Nat) (u : Value), u = p ∧ k ≤ len ∧ i = .int .i64 k ∧ a = .int .i64 m ∧ m ≤ S.length ∧ wr.ownsRow (w1.heap.size + 1) 104 9 u (gotsL (S.take m)).length ((gotsL (S.take m)).flatMap Got.cells) ∧ ReaderAt wr w1.heap.size (leftL (S.take m)) ∧ Below w1.heap.size w1 wr) (fun _ _ i => fun _ => len - (intOf i).toNat)
  case atStart => exact ⟨0, 0, _, rfl, Nat.zero_le _, rfl, rfl, Nat.zero_le _, by rw [show gotsL (S.take 0) = [] by rw [List.take_zero]; rfl]; exact World.ownsRow_nil _ _ _ _, by rw [show leftL (S.take 0) = [] by rw [List.take_zero]; rfl]; exact reader_fresh w1, Ex.below (by repeat (first | exact Ex.refl _ | refine Ex.alloc ?_ _ | refine Ex.ext ?_ _ _ | refine Ex.drew ?_ | refine Ex.drewN ?_ _))⟩
  case round =>
    obtain ⟨k, m, v, rfl, hk, rfl, rfl, hm, hrow, hrd, hbl⟩ := hrel
    have HROW := Lib.hid hrow
    have HRD := Lib.hid hrd
    have HB := Lib.hid hbl
    have hsz := hbl.size
    clear hrow hrd hbl
    by_cases hkk : k < len
    · obtain ⟨b, off, rfl, hbs, hz⟩ := HC1.out (by omega)
      obtain ⟨cv, hcv⟩ := hz k hkk
      have hcw : wr.cell? ⟨b, off + k, none⟩ = some (.int .i64 cv) := (HB.out.cell (p := ⟨b, off + k, none⟩) (by show b < _; omega)).trans hcv
      clear hz hcv
      by_cases hn : cv < 0 ∨ (S.length : Int) - (m : Int) < cv
      · by_cases hn0 : cv < 0
        · go_wp2_with fail
          all_goals
            go_roundw
            case measure => simp [intOf]; omega
            case rel => exact ⟨k + 1, m, v, rfl, by omega, by go_num, rfl, hm, HROW.out.kept (belowGrownBy (Ex.below (by repeat (first | exact Ex.refl _ | refine Ex.alloc ?_ _ | refine Ex.ext ?_ _ _ | refine Ex.drew ?_ | refine Ex.drewN ?_ _)))) (Classical.em _), HRD.out.ex (by repeat (first | exact Ex.refl _ | refine Ex.alloc ?_ _ | refine Ex.ext ?_ _ _ | refine Ex.drew ?_ | refine Ex.drewN ?_ _)), HB.out.trans (Ex.below (by repeat (first | exact Ex.refl _ | refine Ex.alloc ?_ _ | refine Ex.ext ?_ _ _ | refine Ex.drew ?_ | refine Ex.drewN ?_ _)) |>.mono (by omega))⟩
        · have hn1 : (S.length : Int) - (m : Int) < cv := by omega
          go_wp2_with fail
          all_goals
            go_roundw
            case measure => simp [intOf]; omega
            case rel => exact ⟨k + 1, m, v, rfl, by omega, by go_num, rfl, hm, HROW.out.kept (belowGrownBy (Ex.below (by repeat (first | exact Ex.refl _ | refine Ex.alloc ?_ _ | refine Ex.ext ?_ _ _ | refine Ex.drew ?_ | refine Ex.drewN ?_ _)))) (Classical.em _), HRD.out.ex (by repeat (first | exact Ex.refl _ | refine Ex.alloc ?_ _ | refine Ex.ext ?_ _ _ | refine Ex.drew ?_ | refine Ex.drewN ?_ _)), HB.out.trans (Ex.below (by repeat (first | exact Ex.refl _ | refine Ex.alloc ?_ _ | refine Ex.ext ?_ _ _ | refine Ex.drew ?_ | refine Ex.drewN ?_ _)) |>.mono (by omega))⟩
      · obtain ⟨n, rfl⟩ := Int.eq_ofNat_of_zero_le (show 0 ≤ cv by omega)
        have hnm : m + n ≤ S.length := by omega
        have hI1 : (m : Int) + (n : Int) ≤ (S.length : Int) := by omega
        have hI2 : (m : Int) ≤ (m : Int) + (n : Int) := by omega
        have hI3 : (0 : Int) ≤ (m : Int) := by omega
        have hT : ((m : Int) + (n : Int)).toNat = m + n := by omega
        have hn1 : ¬ (S.length : Int) - (m : Int) < (n : Int) := by omega
        have em : (⟨S.toArray⟩ : ByteArray).extract m (m + n) = ⟨((S.drop m).take n).toArray⟩ := by rw [bytes_mid, Nat.add_sub_cancel_left]
        have HFE := Lib.hid (feed_any w1.heap.size (leftL (S.take m)) ((S.drop m).take n) E w wr HR.out (HB1.out.trans (HB.out.mono hwx)) hwx HRD.out (part_len S m h1 n))
        go_wp2_with fail
        refine HFE.out.mono ?_
        rintro e w3 ⟨⟨v3, rfl, hrow3⟩, hfd3⟩
        have HG := Lib.hid (gots_part S m n)
        have hrd3 := hfd3.reader HRD.out
        have hp3 := row_fed HROW.out hfd3 (Nat.lt_succ_self _)
        have hB3 := hfd3.below HB.out (Nat.le_refl _)
        have hz3 := hfd3.size
        have hpl : (gotsL (S.take m)).length ≤ 13 := by rw [gotsL_len, List.length_take]; omega
        have hyl : (gotsL (leftL (S.take m) ++ (S.drop m).take n)).length ≤ 40 := by
          have := part_len S m h1 n
          rw [gotsL_len, List.length_append]; omega
        have HRD3 := Lib.hid hrd3
        have HP3 := Lib.hid hp3
        have HB3 := Lib.hid hB3
        have hlr := hrd3.lt
        clear hrd3 hp3 hB3 hfd3 HFE em
        generalize leftL (S.take m) ++ (S.drop m).take n = Y at *
        obtain ⟨hl3, ⟨rfl, hn0⟩ | ⟨g, cp, cur, rfl, hgb, hgg, hcc, hmm, hss, htt⟩⟩ := hrow3
        · have hY0 : gotsL Y = [] := List.length_eq_zero_iff.1 hn0
          have HY := Lib.hid hY0
          clear hl3 hn0 hY0
          go_wp2_with (at_builtin; refine wpList_append_own_none rfl (.tmp 57) (.tmp 65) 100 rfl (w1.heap.size + 1) 104 i0 9 Tryd.underlying100 hi0 v _ _ rfl HP3.out rfl ?_)
          all_goals
            go_roundw
            case measure => simp [intOf]; omega
            case rel =>
              refine ⟨k + 1, m + n, _, rfl, by omega, by go_num, by go_num, hnm, ?_, ?_, HB3.out.trans (Ex.below (by repeat (first | exact Ex.refl _ | refine Ex.alloc ?_ _ | refine Ex.ext ?_ _ _ | refine Ex.drew ?_ | refine Ex.drewN ?_ _)) |>.mono (by omega))⟩
              · rw [HG.out.1, HY.out, List.append_nil]
                exact HP3.out.kept (belowGrownBy (Ex.below (by repeat (first | exact Ex.refl _ | refine Ex.alloc ?_ _ | refine Ex.ext ?_ _ _ | refine Ex.drew ?_ | refine Ex.drewN ?_ _)))) (Classical.em _)
              · rw [HG.out.2]; exact HRD3.out.ex (by repeat (first | exact Ex.refl _ | refine Ex.alloc ?_ _ | refine Ex.ext ?_ _ _ | refine Ex.drew ?_ | refine Ex.drewN ?_ _))
        · have HCUR : Hid (∀ j u, ((gotsL Y).flatMap Got.cells)[j]? = some u → w3.cell? ((⟨g, 0, none⟩ : Addr).add j) = some u) := Lib.hid (fun j u hj => by
            have hj9 : j < (gotsL Y).length * 9 := by rw [← got_len]; exact (List.getElem?_eq_some_iff.1 hj).1
            rw [← htt, List.getElem?_take_of_lt hj9] at hj
            rw [addr_zero]
            simpa [World.cell?, hgg] using hj)
          have HON := Lib.hid (got_one (gotsL Y))
          have hgl := got_len (gotsL Y)
          clear htt hss hgg hl3
          go_wp2_with (at_builtin; refine wpList_append_own _ rfl (.tmp 57) (.tmp 65) 100 rfl (w1.heap.size + 1) 104 i0 _ 9 72 Tryd.underlying100 hi0 hz0 hz1 hz2 rfl (by decide) v _ _ rfl HP3.out _ (gotsL Y).length cp ((gotsL Y).flatMap Got.cells) rfl hgl HCUR.out HON.out (by unfold maxLen; omega) (by omega) (by omega) ?_; intro v5 w5 hown hgrow hnil; have HOW := Lib.hid hown; have HGR := Lib.hid hgrow; clear hown hgrow hnil)
          all_goals
            go_roundw
            case measure => simp [intOf]; omega
            case rel =>
              refine ⟨k + 1, m + n, _, rfl, by omega, by go_num, by go_num, hnm, ?_, ?_, ?_⟩
              · rw [HG.out.1, List.length_append, List.flatMap_append]
                exact HOW.out
              · rw [HG.out.2]
                exact HRD3.out.grown HGR.out ((owns_bound HP3.out (Nat.lt_succ_self _)).elim (fun h => by rw [h]; simp) (fun h => Ne.symm h))
              · exact Below.grown HB3.out HGR.out (by omega) (fun j hj => by have := (HP3.out.lt j hj).1; omega)
    · obtain rfl : k = len := by omega
      have em : (⟨S.toArray⟩ : ByteArray).extract m S.length = ⟨(S.drop m).toArray⟩ := bytes_tail S m _ (Nat.le_refl _)
      have hI1 : (m : Int) ≤ (S.length : Int) := by omega
      have hpl0 : (leftL (S.take m)).length + (S.drop m).length ≤ 1000 := by rw [leftL_len, List.length_take, List.length_drop]; omega
      have HFE := Lib.hid (feed_any w1.heap.size (leftL (S.take m)) (S.drop m) E w wr HR.out (HB1.out.trans (HB.out.mono hwx)) hwx HRD.out hpl0)
      go_upto_region 16 with fail
      go_cut [9] (fun v wx => ∃ ao5 cap5, v = .slice ao5 (gotsL S).length cap5 ∧ GotAt wx ao5 (gotsL S) ∧ ReaderAt wx w1.heap.size (leftL S) ∧ Below w1.heap.size w1 wx)
      case first =>
        go_wp2_with fail
        refine HFE.out.mono ?_
        rintro e w3 ⟨⟨v3, rfl, hrow3⟩, hfd3⟩
        have HG := Lib.hid (gots_all S m)
        have hrd3 := hfd3.reader HRD.out
        have hp3 := row_fed HROW.out hfd3 (Nat.lt_succ_self _)
        have hB3 := hfd3.below HB.out (Nat.le_refl _)
        have hz3 := hfd3.size
        have hpl : (gotsL (S.take m)).length ≤ 13 := by rw [gotsL_len, List.length_take]; omega
        have hyl : (gotsL (leftL (S.take m) ++ S.drop m)).length ≤ 40 := by
          rw [gotsL_len, List.length_append]; omega
        have HRD3 := Lib.hid hrd3
        have HP3 := Lib.hid hp3
        have HB3 := Lib.hid hB3
        have hlr := hrd3.lt
        clear hrd3 hp3 hB3 hfd3 HFE em
        generalize leftL (S.take m) ++ S.drop m = Y at *
        obtain ⟨hl3, ⟨rfl, hn0⟩ | ⟨g, cp, cur, rfl, hgb, hgg, hcc, hmm, hss, htt⟩⟩ := hrow3
        · have hY0 : gotsL Y = [] := List.length_eq_zero_iff.1 hn0
          have hp5 := HP3.out
          rw [show gotsL (S.take m) = gotsL S by rw [HG.out.1, hY0, List.append_nil]] at hp5
          obtain ⟨ao5, cap5, rfl, hc5, hg5⟩ := gots_of_owned rfl hp5
          have HG5 := Lib.hid hg5
          have HP5 := Lib.hid hp5
          clear hl3 hn0 hY0 hg5 hp5
          go_wp2_with (at_builtin; refine wpList_append_own_none rfl (.tmp 70) (.tmp 75) 100 rfl (w1.heap.size + 1) 104 i0 9 Tryd.underlying100 hi0 _ _ _ rfl HP5.out rfl ?_)
          all_goals go_meet
          all_goals (case rel => exact ⟨ao5, cap5, rfl, HG5.out.ex (by repeat (first | exact Ex.refl _ | refine Ex.alloc ?_ _ | refine Ex.ext ?_ _ _ | refine Ex.drew ?_ | refine Ex.drewN ?_ _)), by rw [HG.out.2]; exact HRD3.out.ex (by repeat (first | exact Ex.refl _ | refine Ex.alloc ?_ _ | refine Ex.ext ?_ _ _ | refine Ex.drew ?_ | refine Ex.drewN ?_ _)), HB3.out.trans (Ex.below (by repeat (first | exact Ex.refl _ | refine Ex.alloc ?_ _ | refine Ex.ext ?_ _ _ | refine Ex.drew ?_ | refine Ex.drewN ?_ _)) |>.mono (by omega))⟩)
        · have HCUR : Hid (∀ j u, ((gotsL Y).flatMap Got.cells)[j]? = some u → w3.cell? ((⟨g, 0, none⟩ : Addr).add j) = some u) := Lib.hid (fun j u hj => by
            have hj9 : j < (gotsL Y).length * 9 := by rw [← got_len]; exact (List.getElem?_eq_some_iff.1 hj).1
            rw [← htt, List.getElem?_take_of_lt hj9] at hj
            rw [addr_zero]
            simpa [World.cell?, hgg] using hj)
          have HON := Lib.hid (got_one (gotsL Y))
          have hgl := got_len (gotsL Y)
          clear htt hss hgg hl3
          go_wp2_with (at_builtin; refine wpList_append_own _ rfl (.tmp 70) (.tmp 75) 100 rfl (w1.heap.size + 1) 104 i0 _ 9 72 Tryd.underlying100 hi0 hz0 hz1 hz2 rfl (by decide) v _ _ rfl HP3.out _ (gotsL Y).length cp ((gotsL Y).flatMap Got.cells) rfl hgl HCUR.out HON.out (by unfold maxLen; omega) (by omega) (by omega) ?_; intro v5 w5 hown hgrow hnil; have HOW := Lib.hid hown; have HGR := Lib.hid hgrow; clear hown hgrow hnil)
          all_goals go_meet
          all_goals
            case rel =>
              have hp5 := HOW.out
              rw [← List.flatMap_append, ← List.length_append, ← HG.out.1] at hp5
              obtain ⟨ao5, cap5, rfl, hc5, hg5⟩ := gots_of_owned rfl hp5
              exact ⟨ao5, cap5, rfl, hg5, by rw [HG.out.2]; exact HRD3.out.grown HGR.out ((owns_bound HP3.out (Nat.lt_succ_self _)).elim (fun h => by rw [h]; simp) (fun h => Ne.symm h)), Below.grown HB3.out HGR.out (by omega) (fun j hj => by have := (HP3.out.lt j hj).1; omega)⟩
      case rest =>
        obtain ⟨ao5, cap5, rfl, hg5, hrd5, hb5⟩ := hcut
        obtain ⟨wd, rfl⟩ : ∃ x, x = wc := ⟨_, rfl⟩
        have hx5 : Ex w1 wd := Ex.of hb5
        have hga5 := HGA.out.ex hx5
        have HGA5 := Lib.hid hga5
        have HSG := Lib.hid (fun W (hx : Ex wd W) => sameGots_any ao1 ao5 cap1 cap5 (gotsL S) W (hga5.ex hx) (hg5.ex hx) (by rw [gotsL_len]; omega))
        have HL1 := Lib.hid (fun W (hx : Ex wd W) => left_any _ _ W ((HRD1.out.ex hx5).ex hx))
        have HL2 := Lib.hid (fun W (hx : Ex wd W) => left_any _ _ W (hrd5.ex hx))
        have HEND := Lib.hid (HB1.out.trans (hb5.mono hwx))
        have hlm : ((S.length : Int)).tmod 30 = ((leftL S).length : Int) := by rw [Int.tmod_eq_emod_of_nonneg (by omega), leftL_len]; omega
        have hld : ((S.length : Int)).tdiv 30 = ((gotsL S).length : Int) := by rw [Int.tdiv_eq_ediv_of_nonneg (by omega), gotsL_len]; omega
        have hws5 : w.heap.size ≤ wd.heap.size := by have := hb5.size; omega
        have HGN := Lib.hid (gotsL_len S)
        have hgb : (gotsL S).length ≤ 13 := by rw [gotsL_len]; omega
        clear hga5 hg5 hrd5 hb5 hx5 HRD HROW HB HFE em
        go_wp2_with (first
          | (go_at_call 56; (with_reducible refine (HSG.out _ ?_).mono ?_); (focus exact (by repeat (first | exact Ex.refl _ | refine Ex.alloc ?_ _ | refine Ex.ext ?_ _ _ | refine Ex.drew ?_ | refine Ex.drewN ?_ _))); rintro e w6 ⟨rfl, l6, d6, rfl⟩)
          | (go_at_call 57; (with_reducible refine (HL1.out _ ?_).mono ?_); (focus exact (by repeat (first | exact Ex.refl _ | refine Ex.alloc ?_ _ | refine Ex.ext ?_ _ _ | refine Ex.drew ?_ | refine Ex.drewN ?_ _))); rintro e w6 ⟨rfl, rfl⟩)
          | (go_at_call 57; (with_reducible refine (HL2.out _ ?_).mono ?_); (focus exact (by repeat (first | exact Ex.refl _ | refine Ex.alloc ?_ _ | refine Ex.ext ?_ _ _ | refine Ex.drew ?_ | refine Ex.drewN ?_ _))); rintro e w6 ⟨rfl, rfl⟩))
        go_loopw [13] (fun i wr => ∃ k : Nat, k ≤ (gotsL S).length ∧ i = .int .i64 k ∧ Ex wd wr) (fun i _ => (gotsL S).length - (intOf i).toNat)
        case atStart => exact ⟨0, Nat.zero_le _, rfl, (by repeat (first | exact Ex.refl _ | refine Ex.alloc ?_ _ | refine Ex.ext ?_ _ _ | refine Ex.drew ?_ | refine Ex.drewN ?_ _))⟩
        case round =>
          obtain ⟨k, hk, rfl, hxr⟩ := hrel
          by_cases hkk : k < (gotsL S).length
          · obtain ⟨b9, o9, rfl, hb9, hc9⟩ := HGA5.out (by omega)
            have hk30 : k < S.length / 30 := by have := HGN.out; omega
            have hge : (gotsL S)[k]'hkk = gotOf ((S.drop (30 * k)).take 30) := by
              have e := gots_at hk30
              rw [List.getElem?_eq_getElem hkk] at e
              exact Option.some.inj e
            have hcx : ∀ j, j < 9 → wr.cell? ⟨b9, o9 + k * 9 + j, none⟩ = (gotOf ((S.drop (30 * k)).take 30)).cells[j]? := fun j hj => (hxr.below.cell (p := ⟨b9, o9 + k * 9 + j, none⟩) hb9).trans (by rw [← hge]; exact hc9 k hkk j hj)
            have a0 := hcx 0 (by omega)
            have a1 := hcx 1 (by omega)
            have a2 := hcx 2 (by omega)
            have a3 := hcx 3 (by omega)
            have a4 := hcx 4 (by omega)
            have a5 := hcx 5 (by omega)
            have a6 := hcx 6 (by omega)
            have a7 := hcx 7 (by omega)
            have a8 := hcx 8 (by omega)
            have HAO := Lib.hid (fun w => askOf_any ⟨((S.drop (30 * k)).take 30).toArray⟩ w)
            simp only [gotOf, Got.cells, Ask.cells, List.cons_append, List.nil_append, List.getElem?_cons_zero, List.getElem?_cons_succ, Nat.add_zero] at a0 a1 a2 a3 a4 a5 a6 a7 a8
            have em : (⟨S.toArray⟩ : ByteArray).extract (30 * k) (30 * k + 30) = ⟨((S.drop (30 * k)).take 30).toArray⟩ := by rw [bytes_mid, Nat.add_sub_cancel_left]
            have hk2 : 30 * k + 30 ≤ S.length := by omega
            have hI1 : (30 : Int) * (k : Int) + 30 ≤ (S.length : Int) := by omega
            have hJ1 : (0 : Int) ≤ (30 : Int) * (k : Int) := by omega
            have hJ2 : (30 : Int) * (k : Int) ≤ (30 : Int) * (k : Int) + 30 := by omega
            have hT1 : ((30 : Int) * (k : Int)).toNat = 30 * k := by omega
            have hT2 : ((30 : Int) * (k : Int) + 30).toNat = 30 * k + 30 := by omega
            have hb9r : b9 < wr.heap.size := Nat.lt_of_lt_of_le hb9 hxr.below.size
            have HXR := Lib.hid hxr
            clear hcx hc9 hge hxr HSG HL1 HL2
            generalize decA ⟨((S.drop (30 * k)).take 30).toArray⟩ = X at *
            generalize decE ⟨((S.drop (30 * k)).take 30).toArray⟩ = cd at *
            have hnx := fun w => ask_ne_self X w
            go_wp2_with (go_at_call 52; refine (HAO.out _).mono ?_; rintro e w7 ⟨rfl, l7, d7, rfl⟩)
            all_goals go_quiet (fail)
            all_goals go_wp2_with fail
            all_goals
              go_roundw
              case measure => simp [intOf]; omega
              case rel => exact ⟨k + 1, by omega, by go_num, HXR.out.trans (by repeat (first | exact Ex.refl _ | refine Ex.alloc ?_ _ | refine Ex.ext ?_ _ _ | refine Ex.drew ?_ | refine Ex.drewN ?_ _))⟩
          · have HXR := Lib.hid hxr
            clear hxr
            obtain rfl : k = (gotsL S).length := by omega
            go_wp2_with fail
            all_goals go_ret
            all_goals exact ⟨rfl, HEND.out.trans ((HXR.out.trans (by repeat (first | exact Ex.refl _ | refine Ex.alloc ?_ _ | refine Ex.ext ?_ _ _ | refine Ex.drew ?_ | refine Ex.drewN ?_ _))).below.mono hws5)⟩
end Go.Proofs.YthngmmhoakegeaaDoor
