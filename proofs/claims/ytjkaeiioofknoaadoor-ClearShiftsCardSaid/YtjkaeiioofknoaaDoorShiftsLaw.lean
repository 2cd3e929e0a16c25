/- The walk of ClearShifts. -/
import Derived.Test.YtjkaeiioofknoaaDoorClearBestLaw
import Derived.Test.YtjkaeiioofknoaaDoorShift
import Derived.Deep.AppendSrc
import Derived.Deep.AppendLies
set_option linter.unusedSimpArgs false
set_option linter.unusedVariables false
namespace Go.Proofs.YtjkaeiioofknoaaDoor
open Go.RowKit

theorem infoLot : (Tryd.prog.info? 31).map (fun i => (i.zero, i.size, i.bytes)) = some (some (.agg #[.int .i64 0, .int .i64 0, .int .i64 0, .int .i64 0, .int .i64 0]), 5, 40) := by kernel_rfl
theorem drop_pred (l : List Lot) (k : Nat) (hk : k < l.length) : l.drop k = l[k] :: l.drop (k + 1) := List.drop_eq_getElem_cons hk
theorem ups_cons (d : Int) (x : Lot) (l : List Lot) : ups d (x :: l) = ups d l ++ [x.up d] := by simp [ups]
theorem ups_len (d : Int) (l : List Lot) : (ups d l).length = l.length := by simp [ups]
theorem ups_wf {d : Int} {l : List Lot} (h : LotsOk l) (hd : 0 ≤ d) (hp : ∀ x ∈ l, x.price ≤ 1000 - d) : ∀ a ∈ ups d l, a.wf := by
  intro a ha
  have := Lot.ok_iff.1 ((ups_ok h hd hp).mem a ha)
  refine ⟨?_, ?_, ?_, ?_, ?_⟩ <;> simp [Lit.wf, IntKind.min, IntKind.max, IntKind.bits, IntKind.signed] <;> omega
theorem bestC_bound (l : List Lot) (ref : Int) : 0 ≤ (bestC l ref 1000).price ∧ (bestC l ref 1000).price ≤ 1000 := by
  rcases bestC_spec l ref 1000 with ⟨_, h⟩ | ⟨p, h1, h2, h, _⟩ <;> rw [h]
  · simp
  · simp only [candAt]; omega

set_option maxRecDepth 100000 in
set_option maxHeartbeats 2000000 in
theorem shifts_out (ao : Option Addr) (len cap : Nat) (ref d : Int) (E : Nat → Addr) (w : World) (hE : Errs E [2, 7, 8] w) (hm : len ≤ 9223372036854775807) (h : 60 < len ∨ d < 0 ∨ 900 < d ∨ ref < 1 ∨ 1000 - d < ref) :
    Calls Tryd.prog 4 #[.slice ao len cap, .int .i64 ref, .int .i64 d] w fun e w' => e = .returned (.bool true) ∧ Ex w w' := by
  by_cases h1 : len > 60
  · go_enter Tryd.func4, Tryd.ntmps4
    go_wp2_with (go_at_call 20; refine (cleared_any E _ (by exact Errs.sub (hE.ex (by repeat (first | exact Ex.refl _ | refine Ex.alloc ?_ _ | refine Ex.ext ?_ _ _ | refine Ex.drew ?_ | refine Ex.drewN ?_ _))) (by decide))).mono ?_; rintro e w1 ⟨rfl, l1, d1, rfl⟩)
    all_goals go_ret
    all_goals exact ⟨rfl, (by repeat (first | exact Ex.refl _ | refine Ex.alloc ?_ _ | refine Ex.ext ?_ _ _ | refine Ex.drew ?_ | refine Ex.drewN ?_ _))⟩
  by_cases h2 : d < 0
  · go_enter Tryd.func4, Tryd.ntmps4
    go_wp2_with (go_at_call 20; refine (cleared_any E _ (by exact Errs.sub (hE.ex (by repeat (first | exact Ex.refl _ | refine Ex.alloc ?_ _ | refine Ex.ext ?_ _ _ | refine Ex.drew ?_ | refine Ex.drewN ?_ _))) (by decide))).mono ?_; rintro e w1 ⟨rfl, l1, d1, rfl⟩)
    all_goals go_ret
    all_goals exact ⟨rfl, (by repeat (first | exact Ex.refl _ | refine Ex.alloc ?_ _ | refine Ex.ext ?_ _ _ | refine Ex.drew ?_ | refine Ex.drewN ?_ _))⟩
  by_cases h3 : d > 900
  · go_enter Tryd.func4, Tryd.ntmps4
    go_wp2_with (go_at_call 20; refine (cleared_any E _ (by exact Errs.sub (hE.ex (by repeat (first | exact Ex.refl _ | refine Ex.alloc ?_ _ | refine Ex.ext ?_ _ _ | refine Ex.drew ?_ | refine Ex.drewN ?_ _))) (by decide))).mono ?_; rintro e w1 ⟨rfl, l1, d1, rfl⟩)
    all_goals go_ret
    all_goals exact ⟨rfl, (by repeat (first | exact Ex.refl _ | refine Ex.alloc ?_ _ | refine Ex.ext ?_ _ _ | refine Ex.drew ?_ | refine Ex.drewN ?_ _))⟩
  by_cases h4 : ref < 1
  · go_enter Tryd.func4, Tryd.ntmps4
    go_wp2_with (go_at_call 20; refine (cleared_any E _ (by exact Errs.sub (hE.ex (by repeat (first | exact Ex.refl _ | refine Ex.alloc ?_ _ | refine Ex.ext ?_ _ _ | refine Ex.drew ?_ | refine Ex.drewN ?_ _))) (by decide))).mono ?_; rintro e w1 ⟨rfl, l1, d1, rfl⟩)
    all_goals go_ret
    all_goals exact ⟨rfl, (by repeat (first | exact Ex.refl _ | refine Ex.alloc ?_ _ | refine Ex.ext ?_ _ _ | refine Ex.drew ?_ | refine Ex.drewN ?_ _))⟩
  · have h5 : ref > 1000 - d := by omega
    go_enter Tryd.func4, Tryd.ntmps4
    go_wp2_with (go_at_call 20; refine (cleared_any E _ (by exact Errs.sub (hE.ex (by repeat (first | exact Ex.refl _ | refine Ex.alloc ?_ _ | refine Ex.ext ?_ _ _ | refine Ex.drew ?_ | refine Ex.drewN ?_ _))) (by decide))).mono ?_; rintro e w1 ⟨rfl, l1, d1, rfl⟩)
    all_goals go_ret
    all_goals exact ⟨rfl, (by repeat (first | exact Ex.refl _ | refine Ex.alloc ?_ _ | refine Ex.ext ?_ _ _ | refine Ex.drew ?_ | refine Ex.drewN ?_ _))⟩

set_option maxRecDepth 100000 in
set_option maxHeartbeats 4000000 in
theorem shifts_in (ao : Option Addr) (len cap : Nat) (l : List Lot) (ref d : Int) (E : Nat → Addr) (w : World) (hcap : len ≤ cap ∧ cap ≤ 9223372036854775807 ∧ (ao = none → cap = 0)) (hE : Errs E [2, 7, 8] w) (hl : LotsAt w ao len l) (h1 : len ≤ 60) (d0 : 0 ≤ d) (d9 : d ≤ 900) (r1 : 1 ≤ ref) (r2 : ref ≤ 1000 - d) :
    Calls Tryd.prog 4 #[.slice ao len cap, .int .i64 ref, .int .i64 d] w fun e w' => e = .returned (.bool true) ∧ Ex w w' := by
  have HL := Lib.hid hl
  by_cases hok : LotsOk l
  · have HOK := Lib.hid hok
    obtain ⟨i0, hi0, hi⟩ := Option.map_eq_some_iff.1 infoLot
    simp only [Prod.mk.injEq] at hi
    obtain ⟨hz0, hz1, hz2⟩ := hi
    have hlen := hl.1
    have HLEN := Lib.hid hlen
    clear hl hok hlen
    go_enter Tryd.func4, Tryd.ntmps4
    go_wp2_with (go_at_call 20; refine (cleared_any E _ (by exact Errs.sub (hE.ex (by repeat (first | exact Ex.refl _ | refine Ex.alloc ?_ _ | refine Ex.ext ?_ _ _ | refine Ex.drew ?_ | refine Ex.drewN ?_ _))) (by decide))).mono ?_; rintro e w1 ⟨rfl, l1, d1, rfl⟩)
    refine (ownLots_any ao len cap l _ hcap (by omega) (HL.out.ex (by repeat (first | exact Ex.refl _ | refine Ex.alloc ?_ _ | refine Ex.ext ?_ _ _ | refine Ex.drew ?_ | refine Ex.drewN ?_ _)))).mono ?_
    rintro e wo ⟨⟨ao', cap', rfl, hc', hl'⟩, hx1'⟩
    have HX : Hid (Ex w wo) := Lib.hid (Ex.trans (by repeat (first | exact Ex.refl _ | refine Ex.alloc ?_ _ | refine Ex.ext ?_ _ _ | refine Ex.drew ?_ | refine Ex.drewN ?_ _)) hx1')
    have hE' := hE.ex HX.out
    clear hx1'
    have HL' := Lib.hid hl'
    clear hl'
    have hcl := hc'.1
    go_wp2_with fail
    refine (check_any _ len _ l E _ hc'.1 hE' HL'.out).mono ?_
    rintro e wx ⟨⟨v, rfl, hv⟩, hx2⟩
    obtain rfl := CheckV.ok HOK.out hv
    have HX2 : Hid (Ex w wx) := Lib.hid (HX.out.trans hx2)
    have HL2 := Lib.hid (HL'.out.ex hx2)
    have HE2 := Lib.hid (hE'.ex hx2)
    clear hv hx2 HX HL' hE' hE HL
    go_wp2_with fail
    go_loopw [9, 10] (fun v i wr => ∃ (k : Nat) (u : Value), u = v ∧ k ≤ len ∧ i = .int .i64 ((k : Int) - 1) ∧ (∀ x ∈ l.drop k, x.price ≤ 1000 - d) ∧ wr.ownsRow wx.heap.size 31 5 v (len - k) ((ups d (l.drop k)).flatMap Lot.cells) ∧ Below wx.heap.size wx wr) (fun _ i _ => (intOf i + 1).toNat)
    case atStart => exact ⟨len, _, rfl, Nat.le_refl _, rfl, by rw [List.drop_of_length_le (by rw [HLEN.out]; exact Nat.le_refl _)]; (intro x hx; cases hx), by rw [List.drop_of_length_le (by rw [HLEN.out]; exact Nat.le_refl _), Nat.sub_self]; exact World.ownsRow_nil _ _ _ _, Below.refl _ _⟩
    case round =>
      obtain ⟨k, v, rfl, hk, rfl, hp, hrow, hB⟩ := hrel
      have HP := Lib.hid hp
      have HR := Lib.hid hrow
      have HB := Lib.hid hB
      clear hp hrow hB
      cases k with
      | zero =>
        rw [List.drop_zero, Nat.sub_zero] at HR
        rw [List.drop_zero] at HP
        obtain ⟨ao2, cap2, rfl, hc2, hl2⟩ := lots_of_owned (ups_wf HOK.out d0 HP.out) (by omega) (by rw [ups_len, HLEN.out]) HR.out
        have hbu := bestC_ups (ref := ref) HOK.out d0 HP.out
        have P0 := fun ao cap w hc hE hl => price_ok ao len cap l ref E w hc hE hl HOK.out r1 (by omega)
        have P1 := fun ao cap w hc hE hl => price_ok ao len cap (ups d l) (ref + d) E w hc hE hl (ups_ok HOK.out d0 HP.out) (by omega) (by omega)
        have pb := bestC_bound l ref
        have HL3 := Lib.hid (HL2.out.ex (Ex.of HB.out))
        have HLU := Lib.hid hl2
        have HE3 := Lib.hid (HE2.out.ex (Ex.of HB.out))
        have hcu := hc2.1
        generalize (bestC l ref 1000).price = p at *
        generalize (bestC l ref 1000).vol = v at *
        generalize (bestC (ups d l) (ref + d) 1000).price = q at *
        obtain ⟨e1, e2⟩ := hbu
        rw [e1] at P1
        have v1 : (v != v) = false := by simp
        rcases e2 with ⟨rfl, rfl, rfl⟩ | ⟨g1, rfl⟩
        · have HP0 := Lib.hid P0
          have HP1 := Lib.hid P1
          clear P0 P1 e1 hl2
          go_wp2_with (first
            | (go_at_call 21; ((with_reducible refine (HP0.out ao' cap' _ ?_ ?_ ?_).mono ?_); (focus exact hcl); (focus exact Errs.ex HE3.out (by repeat (first | exact Ex.refl _ | refine Ex.alloc ?_ _ | refine Ex.ext ?_ _ _ | refine Ex.drew ?_ | refine Ex.drewN ?_ _))); (focus exact LotsAt.ex HL3.out (by repeat (first | exact Ex.refl _ | refine Ex.alloc ?_ _ | refine Ex.ext ?_ _ _ | refine Ex.drew ?_ | refine Ex.drewN ?_ _)))); rintro e w1 ⟨rfl, l4, d4, rfl⟩)
            | (go_at_call 21; ((with_reducible refine (HP1.out ao2 cap2 _ ?_ ?_ ?_).mono ?_); (focus exact hcu); (focus exact Errs.ex HE3.out (by repeat (first | exact Ex.refl _ | refine Ex.alloc ?_ _ | refine Ex.ext ?_ _ _ | refine Ex.drew ?_ | refine Ex.drewN ?_ _))); (focus exact LotsAt.ex HLU.out (by repeat (first | exact Ex.refl _ | refine Ex.alloc ?_ _ | refine Ex.ext ?_ _ _ | refine Ex.drew ?_ | refine Ex.drewN ?_ _)))); rintro e w1 ⟨rfl, l4, d4, rfl⟩))
          all_goals go_ret
          all_goals exact ⟨rfl, HX2.out.trans ((Ex.of HB.out).trans (by repeat (first | exact Ex.refl _ | refine Ex.alloc ?_ _ | refine Ex.ext ?_ _ _ | refine Ex.drew ?_ | refine Ex.drewN ?_ _)))⟩
        · have HP0 := Lib.hid P0
          have HP1 := Lib.hid P1
          have v2 : (v == 0) = false := by simp; omega
          have v3 : (p + d == p + d) = true := by simp
          clear P0 P1 e1 hl2
          go_wp2_with (first
            | (go_at_call 21; ((with_reducible refine (HP0.out ao' cap' _ ?_ ?_ ?_).mono ?_); (focus exact hcl); (focus exact Errs.ex HE3.out (by repeat (first | exact Ex.refl _ | refine Ex.alloc ?_ _ | refine Ex.ext ?_ _ _ | refine Ex.drew ?_ | refine Ex.drewN ?_ _))); (focus exact LotsAt.ex HL3.out (by repeat (first | exact Ex.refl _ | refine Ex.alloc ?_ _ | refine Ex.ext ?_ _ _ | refine Ex.drew ?_ | refine Ex.drewN ?_ _)))); rintro e w1 ⟨rfl, l4, d4, rfl⟩)
            | (go_at_call 21; ((with_reducible refine (HP1.out ao2 cap2 _ ?_ ?_ ?_).mono ?_); (focus exact hcu); (focus exact Errs.ex HE3.out (by repeat (first | exact Ex.refl _ | refine Ex.alloc ?_ _ | refine Ex.ext ?_ _ _ | refine Ex.drew ?_ | refine Ex.drewN ?_ _))); (focus exact LotsAt.ex HLU.out (by repeat (first | exact Ex.refl _ | refine Ex.alloc ?_ _ | refine Ex.ext ?_ _ _ | refine Ex.drew ?_ | refine Ex.drewN ?_ _)))); rintro e w1 ⟨rfl, l4, d4, rfl⟩))
          all_goals go_ret
          all_goals exact ⟨rfl, HX2.out.trans ((Ex.of HB.out).trans (by repeat (first | exact Ex.refl _ | refine Ex.alloc ?_ _ | refine Ex.ext ?_ _ _ | refine Ex.drew ?_ | refine Ex.drewN ?_ _)))⟩
      | succ k =>
        rw [show ((k + 1 : Nat) : Int) - 1 = (k : Int) by omega]
        have hkl : k < l.length := by rw [HLEN.out]; omega
        obtain ⟨b, off, rfl, hbs, hz⟩ := HL2.out.2.2.2 (by omega)
        have hzk := hz k hkl
        clear hz
        have hcx : ∀ j, j < 5 → wr.cell? ⟨b, off + k * 5 + j, none⟩ = (l[k]'hkl).cells[j]? := fun j hj => (HB.out.cell (p := ⟨b, off + k * 5 + j, none⟩) hbs).trans (hzk j hj)
        clear hzk
        have hd := drop_pred l k hkl
        have hokx := HOK.out.ok (List.getElem?_eq_getElem hkl)
        generalize l[k]'hkl = a at hcx hd hokx
        have hpx := Lot.ok_iff.1 hokx
        have HD := Lib.hid hd
        clear hd hokx
        have a0 := hcx 0 (by omega)
        have a1 := hcx 1 (by omega)
        have a2 := hcx 2 (by omega)
        have a3 := hcx 3 (by omega)
        have a4 := hcx 4 (by omega)
        simp only [Lot.cells, List.getElem?_cons_zero, List.getElem?_cons_succ, Nat.add_zero] at a0 a1 a2 a3 a4
        clear hcx
        have hbw : b < wr.heap.size := by have := HB.out.size; omega
        by_cases hpr : a.price > 1000 - d
        · go_wp2
          all_goals go_ret
          all_goals exact ⟨rfl, HX2.out.trans ((Ex.of HB.out).trans (by repeat (first | exact Ex.refl _ | refine Ex.alloc ?_ _ | refine Ex.ext ?_ _ _ | refine Ex.drew ?_ | refine Ex.drewN ?_ _)))⟩
        · go_wp2_with (at_builtin; refine wpList_append_own _ rfl (.tmp 71) (.tmp 73) 22 rfl wx.heap.size 31 i0 _ 5 40 Tryd.underlying22 hi0 hz0 hz1 hz2 rfl (by decide) v (len - (k + 1)) ((ups d (l.drop (k + 1))).flatMap Lot.cells) rfl ?_ _ 1 1 [.int .i64 a.id, .int .i64 a.owner, .int .i64 a.side, .int .i64 (a.price + d), .int .i64 a.qty] rfl rfl ?_ ?_ (by unfold maxLen; omega) (by omega) ?_ ?_; (focus (refine HR.out.kept (Below.grownBy ?_) (Classical.em _); ((refine Below.trans (Below.refl _ _) ?_; repeat (first | exact Below.refl _ _ | (refine Below.drew ?_) | (refine Below.drewN ?_ _) | (refine Below.ext ?_ (by first | omega | (simp [go_sem]; done) | (simp [go_sem]; omega)) _ _) | (refine Below.alloc ?_ (by first | omega | (simp [go_sem]; done) | (simp [go_sem]; omega)) _) | (refine Below.setCell ?_ (by first | omega | (simp [go_sem]; done) | (simp [go_sem]; omega)) _)))))); (focus exact World.news_of_block (alloc_at (by simp))); (focus simp [Value.oneCell']); (focus simp [go_sem]; have := HB.out.size; omega); intro v1 w1 hown hgrow hnil)
          all_goals
            go_roundw
            case measure => first | (simp [intOf]; done) | (simp [intOf]; omega)
            case rel =>
              refine ⟨k, _, rfl, by omega, by go_num, ?_, ?_, ?_⟩
              · rw [HD.out]
                intro x hx
                rcases List.mem_cons.1 hx with rfl | hx
                · omega
                · exact HP.out x hx
              · rw [HD.out, ups_cons, List.flatMap_append, show len - k = len - (k + 1) + 1 by omega]
                simpa [Lot.up, Lot.cells] using hown
              · have hsz := HB.out.size
                refine Below.grown (a := _) ?_ hgrow ?_ (fun b hb => (HR.out.lt b hb).1)
                · (refine Below.trans HB.out ?_; repeat (first | exact Below.refl _ _ | (refine Below.drew ?_) | (refine Below.drewN ?_ _) | (refine Below.ext ?_ (by first | omega | (simp [go_sem]; done) | (simp [go_sem]; omega)) _ _) | (refine Below.alloc ?_ (by first | omega | (simp [go_sem]; done) | (simp [go_sem]; omega)) _) | (refine Below.setCell ?_ (by first | omega | (simp [go_sem]; done) | (simp [go_sem]; omega)) _)))
                · exact (by first | omega | (simp [go_sem]; done) | (simp [go_sem]; omega))
  · have HOK := Lib.hid hok
    clear hl hok
    go_enter Tryd.func4, Tryd.ntmps4
    go_wp2_with (go_at_call 20; refine (cleared_any E _ (by exact Errs.sub (hE.ex (by repeat (first | exact Ex.refl _ | refine Ex.alloc ?_ _ | refine Ex.ext ?_ _ _ | refine Ex.drew ?_ | refine Ex.drewN ?_ _))) (by decide))).mono ?_; rintro e w1 ⟨rfl, l1, d1, rfl⟩)
    refine (ownLots_any ao len cap l _ hcap (by omega) (HL.out.ex (by repeat (first | exact Ex.refl _ | refine Ex.alloc ?_ _ | refine Ex.ext ?_ _ _ | refine Ex.drew ?_ | refine Ex.drewN ?_ _)))).mono ?_
    rintro e wo ⟨⟨ao', cap', rfl, hc', hl'⟩, hx1'⟩
    have HX : Hid (Ex w wo) := Lib.hid (Ex.trans (by repeat (first | exact Ex.refl _ | refine Ex.alloc ?_ _ | refine Ex.ext ?_ _ _ | refine Ex.drew ?_ | refine Ex.drewN ?_ _)) hx1')
    have hE' := hE.ex HX.out
    clear hx1'
    have HL' := Lib.hid hl'
    clear hl'
    have hcl := hc'.1
    go_wp2_with fail
    refine (check_any _ len _ l E _ hc'.1 hE' HL'.out).mono ?_
    rintro e w1 ⟨⟨v, rfl, hv⟩, l3, d3, rfl⟩
    obtain ⟨u, x, rfl⟩ := CheckV.bad HOK.out hv
    clear hv
    go_wp2
    all_goals go_ret
    all_goals exact ⟨rfl, HX.out.trans (by repeat (first | exact Ex.refl _ | refine Ex.alloc ?_ _ | refine Ex.ext ?_ _ _ | refine Ex.drew ?_ | refine Ex.drewN ?_ _))⟩
end Go.Proofs.YtjkaeiioofknoaaDoor
