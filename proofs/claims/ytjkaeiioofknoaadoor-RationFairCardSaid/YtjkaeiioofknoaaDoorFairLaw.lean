/- The walk of RationFair. -/
import Derived.Test.YtjkaeiioofknoaaDoorFilledOf
import Derived.Test.YtjkaeiioofknoaaDoorRationed
import Derived.Test.YtjkaeiioofknoaaDoorOwn
set_option linter.unusedSimpArgs false
set_option linter.unusedVariables false
namespace Go.Proofs.YtjkaeiioofknoaaDoor
open Go.RowKit

set_option maxRecDepth 100000 in
theorem fair_out (ao : Option Addr) (len cap : Nat) (price volume seed : Int) (E : Nat → Addr) (w : World) (hE : Errs E [2, 3, 7, 8] w) (hm : len ≤ 9223372036854775807) (h1 : len > 60) :
    Calls Tryd.prog 8 #[.slice ao len cap, .int .i64 price, .int .i64 volume, .int .u32 seed] w fun e w' => e = .returned (.bool true) ∧ Ex w w' := by
  go_enter Tryd.func8, Tryd.ntmps8
  go_wp2_with (go_at_call 33; refine (rationed_any E _ (by exact Errs.sub (hE.ex (by repeat (first | exact Ex.refl _ | refine Ex.alloc ?_ _ | refine Ex.ext ?_ _ _ | refine Ex.drew ?_ | refine Ex.drewN ?_ _))) (by decide))).mono ?_; rintro e w1 ⟨rfl, l1, d1, rfl⟩)
  all_goals go_ret
  all_goals exact ⟨rfl, (by repeat (first | exact Ex.refl _ | refine Ex.alloc ?_ _ | refine Ex.ext ?_ _ _ | refine Ex.drew ?_ | refine Ex.drewN ?_ _))⟩
set_option maxRecDepth 100000 in
set_option maxHeartbeats 4000000 in
theorem fair_bad (ao : Option Addr) (len cap : Nat) (l : List Lot) (price volume seed : Int) (E : Nat → Addr) (w : World) (hcap : len ≤ cap ∧ cap ≤ 9223372036854775807 ∧ (ao = none → cap = 0)) (hE : Errs E [2, 3, 7, 8] w) (hl : LotsAt w ao len l) (h1 : len ≤ 60) (hok : ¬ LotsOk l) :
    Calls Tryd.prog 8 #[.slice ao len cap, .int .i64 price, .int .i64 volume, .int .u32 seed] w fun e w' => e = .returned (.bool true) ∧ Ex w w' := by
  have HL := Lib.hid hl
  have HOK := Lib.hid hok
  clear hl hok
  go_enter Tryd.func8, Tryd.ntmps8
  go_wp2_with (go_at_call 33; refine (rationed_any E _ (by exact Errs.sub (hE.ex (by repeat (first | exact Ex.refl _ | refine Ex.alloc ?_ _ | refine Ex.ext ?_ _ _ | refine Ex.drew ?_ | refine Ex.drewN ?_ _))) (by decide))).mono ?_; rintro e w1 ⟨rfl, l1, d1, rfl⟩)
  refine (ownLots_any ao len cap l _ hcap (by omega) (HL.out.ex (by repeat (first | exact Ex.refl _ | refine Ex.alloc ?_ _ | refine Ex.ext ?_ _ _ | refine Ex.drew ?_ | refine Ex.drewN ?_ _)))).mono ?_
  rintro e wo ⟨⟨ao', cap', rfl, hc', hl'⟩, hx1'⟩
  have HX : Hid (Ex w wo) := Lib.hid (Ex.trans (by repeat (first | exact Ex.refl _ | refine Ex.alloc ?_ _ | refine Ex.ext ?_ _ _ | refine Ex.drew ?_ | refine Ex.drewN ?_ _)) hx1')
  have hE' := hE.ex HX.out
  clear hx1'
  have HL' := Lib.hid hl'
  clear hl'
  have hcl := hc'.1
  go_wp2_with fail
  refine (fills_bad _ len _ l price volume seed E _ hc'.1 hE' HL'.out HOK.out).mono ?_
  rintro e wp ⟨⟨t, x, rfl, hV⟩, hxp⟩
  have HXP : Hid (Ex w wp) := Lib.hid (HX.out.trans hxp)
  clear hV hxp
  go_wp2_with fail
  all_goals go_ret
  all_goals exact ⟨rfl, HXP.out.trans (by repeat (first | exact Ex.refl _ | refine Ex.alloc ?_ _ | refine Ex.ext ?_ _ _ | refine Ex.drew ?_ | refine Ex.drewN ?_ _))⟩
set_option maxRecDepth 100000 in
set_option maxHeartbeats 4000000 in
theorem fair_bound (ao : Option Addr) (len cap : Nat) (l : List Lot) (price volume seed : Int) (E : Nat → Addr) (w : World) (hcap : len ≤ cap ∧ cap ≤ 9223372036854775807 ∧ (ao = none → cap = 0)) (hE : Errs E [2, 3, 7, 8] w) (hl : LotsAt w ao len l) (h1 : len ≤ 60) (hok : LotsOk l) (hb : price < 1 ∨ 1000 < price ∨ volume < 0) :
    Calls Tryd.prog 8 #[.slice ao len cap, .int .i64 price, .int .i64 volume, .int .u32 seed] w fun e w' => e = .returned (.bool true) ∧ Ex w w' := by
  have HL := Lib.hid hl
  have HOK := Lib.hid hok
  have HBB := Lib.hid hb
  clear hl hok hb
  go_enter Tryd.func8, Tryd.ntmps8
  go_wp2_with (go_at_call 33; refine (rationed_any E _ (by exact Errs.sub (hE.ex (by repeat (first | exact Ex.refl _ | refine Ex.alloc ?_ _ | refine Ex.ext ?_ _ _ | refine Ex.drew ?_ | refine Ex.drewN ?_ _))) (by decide))).mono ?_; rintro e w1 ⟨rfl, l1, d1, rfl⟩)
  refine (ownLots_any ao len cap l _ hcap (by omega) (HL.out.ex (by repeat (first | exact Ex.refl _ | refine Ex.alloc ?_ _ | refine Ex.ext ?_ _ _ | refine Ex.drew ?_ | refine Ex.drewN ?_ _)))).mono ?_
  rintro e wo ⟨⟨ao', cap', rfl, hc', hl'⟩, hx1'⟩
  have HX : Hid (Ex w wo) := Lib.hid (Ex.trans (by repeat (first | exact Ex.refl _ | refine Ex.alloc ?_ _ | refine Ex.ext ?_ _ _ | refine Ex.drew ?_ | refine Ex.drewN ?_ _)) hx1')
  have hE' := hE.ex HX.out
  clear hx1'
  have HL' := Lib.hid hl'
  clear hl'
  have hcl := hc'.1
  go_wp2_with fail
  refine (fills_bound _ len _ l price volume seed E _ hc'.1 hE' HL'.out HOK.out HBB.out).mono ?_
  rintro e wp ⟨rfl, hxp⟩
  have HXP : Hid (Ex w wp) := Lib.hid (HX.out.trans hxp)
  clear hxp
  rw [errV_pos _ _ (by decide)]
  go_wp2_with fail
  all_goals go_ret
  all_goals exact ⟨rfl, HXP.out.trans (by repeat (first | exact Ex.refl _ | refine Ex.alloc ?_ _ | refine Ex.ext ?_ _ _ | refine Ex.drew ?_ | refine Ex.drewN ?_ _))⟩
set_option maxRecDepth 100000 in
set_option maxHeartbeats 4000000 in
theorem fair_shape (ao : Option Addr) (len cap : Nat) (l : List Lot) (price volume seed : Int) (E : Nat → Addr) (w : World) (hcap : len ≤ cap ∧ cap ≤ 9223372036854775807 ∧ (ao = none → cap = 0)) (hE : Errs E [2, 3, 7, 8] w) (hl : LotsAt w ao len l) (h1 : len ≤ 60) (hok : LotsOk l) (p1 : 1 ≤ price) (p2 : price ≤ 1000) (v0 : 0 ≤ volume) (hv : min (dem l price) (sup l price) < volume) :
    Calls Tryd.prog 8 #[.slice ao len cap, .int .i64 price, .int .i64 volume, .int .u32 seed] w fun e w' => e = .returned (.bool true) ∧ Ex w w' := by
  have HL := Lib.hid hl
  have HOK := Lib.hid hok
  have HV := Lib.hid hv
  clear hl hok hv
  go_enter Tryd.func8, Tryd.ntmps8
  go_wp2_with (go_at_call 33; refine (rationed_any E _ (by exact Errs.sub (hE.ex (by repeat (first | exact Ex.refl _ | refine Ex.alloc ?_ _ | refine Ex.ext ?_ _ _ | refine Ex.drew ?_ | refine Ex.drewN ?_ _))) (by decide))).mono ?_; rintro e w1 ⟨rfl, l1, d1, rfl⟩)
  refine (ownLots_any ao len cap l _ hcap (by omega) (HL.out.ex (by repeat (first | exact Ex.refl _ | refine Ex.alloc ?_ _ | refine Ex.ext ?_ _ _ | refine Ex.drew ?_ | refine Ex.drewN ?_ _)))).mono ?_
  rintro e wo ⟨⟨ao', cap', rfl, hc', hl'⟩, hx1'⟩
  have HX : Hid (Ex w wo) := Lib.hid (Ex.trans (by repeat (first | exact Ex.refl _ | refine Ex.alloc ?_ _ | refine Ex.ext ?_ _ _ | refine Ex.drew ?_ | refine Ex.drewN ?_ _)) hx1')
  have hE' := hE.ex HX.out
  clear hx1'
  have HL' := Lib.hid hl'
  clear hl'
  have hcl := hc'.1
  go_wp2_with fail
  refine (fills_shape _ len _ l price volume seed E _ hc'.1 hE' HL'.out HOK.out p1 p2 v0 HV.out).mono ?_
  rintro e wp ⟨rfl, hxp⟩
  have HXP : Hid (Ex w wp) := Lib.hid (HX.out.trans hxp)
  clear hxp
  rw [errV_pos _ _ (by decide)]
  go_wp2_with fail
  all_goals go_ret
  all_goals exact ⟨rfl, HXP.out.trans (by repeat (first | exact Ex.refl _ | refine Ex.alloc ?_ _ | refine Ex.ext ?_ _ _ | refine Ex.drew ?_ | refine Ex.drewN ?_ _))⟩
theorem fills_small {l : List Lot} (hok : LotsOk l) (price volume seed : Int) : (fillsL l price volume seed).length ≤ 100000 := by
  have n1 := sideF_len (levelsL 0 price l) volume seed
  have n2 := sideF_len (levelsL 1 price l) volume ((seed + 1) % 4294967296)
  have m1 := levels_small (side := 0) (price := price) hok
  have m2 := levels_small (side := 1) (price := price) hok
  rw [fillsL, List.length_append]
  omega
set_option maxRecDepth 100000 in
set_option maxHeartbeats 16000000 in
theorem fair_ok (ao : Option Addr) (len cap : Nat) (l : List Lot) (price volume seed : Int) (E : Nat → Addr) (w : World) (hcap : len ≤ cap ∧ cap ≤ 9223372036854775807 ∧ (ao = none → cap = 0)) (hE : Errs E [2, 3, 7, 8] w) (hl : LotsAt w ao len l) (h1 : len ≤ 60) (hok : LotsOk l) (p1 : 1 ≤ price) (p2 : price ≤ 1000) (v0 : 0 ≤ volume) (hv : volume ≤ min (dem l price) (sup l price)) (hsd : U32 seed) :
    Calls Tryd.prog 8 #[.slice ao len cap, .int .i64 price, .int .i64 volume, .int .u32 seed] w fun e w' => e = .returned (.bool true) ∧ Ex w w' := by
  have FR := Lib.hid (fills_fair (price := price) (volume := volume) (seed := seed) hok v0 hv)
  have hfl := fills_small hok price volume seed
  have FO := fun ao len cap w hc hE hl => fills_ok ao len cap l price volume seed E w hc hE hl hok p1 p2 v0 hv hsd
  have HL := Lib.hid hl
  have HLEN := Lib.hid hl.1
  have HOK := Lib.hid hok
  clear hl hok hv hsd
  generalize fillsL l price volume seed = T at *
  have HFO := Lib.hid FO
  clear FO
  go_enter Tryd.func8, Tryd.ntmps8
  go_wp2_with (go_at_call 33; refine (rationed_any E _ (by exact Errs.sub (hE.ex (by repeat (first | exact Ex.refl _ | refine Ex.alloc ?_ _ | refine Ex.ext ?_ _ _ | refine Ex.drew ?_ | refine Ex.drewN ?_ _))) (by decide))).mono ?_; rintro e w1 ⟨rfl, l1, d1, rfl⟩)
  refine (ownLots_any ao len cap l _ hcap (by omega) (HL.out.ex (by repeat (first | exact Ex.refl _ | refine Ex.alloc ?_ _ | refine Ex.ext ?_ _ _ | refine Ex.drew ?_ | refine Ex.drewN ?_ _)))).mono ?_
  rintro e wo ⟨⟨ao', cap', rfl, hc', hl'⟩, hx1'⟩
  have HX : Hid (Ex w wo) := Lib.hid (Ex.trans (by repeat (first | exact Ex.refl _ | refine Ex.alloc ?_ _ | refine Ex.ext ?_ _ _ | refine Ex.drew ?_ | refine Ex.drewN ?_ _)) hx1')
  have hE' := hE.ex HX.out
  clear hx1'
  have HL' := Lib.hid hl'
  clear hl'
  have hcl := hc'.1
  go_wp2_with fail
  refine (HFO.out _ len _ _ hc'.1 hE' HL'.out).mono ?_
  rintro e wp ⟨⟨ao3, cap3, rfl, hc3, hf3⟩, hxp⟩
  have HF3 := Lib.hid hf3
  have HXP : Hid (Ex w wp) := Lib.hid (HX.out.trans hxp)
  have HL2 := Lib.hid (HL.out.ex HXP.out)
  have HGO := Lib.hid (fun w2 (hx : Ex wp w2) id => filledOf_any ao3 cap3 T id w2 (HF3.out.ex hx) FR.out.qty hfl)
  clear hf3 hxp HX HL' hE' hE HL HFO
  go_wp2_with fail
  go_loopw [13] (fun i wr => ∃ (k : Nat), k ≤ len ∧ i = .int .i64 k ∧ TwoAt wr wp.heap.size (sumG (fun x => gotF T x.id) 0 (l.take k)) (sumG (fun x => gotF T x.id) 1 (l.take k)) ∧ Below wp.heap.size wp wr) (fun i _ => len - (intOf i).toNat)
  case atStart => exact ⟨0, Nat.zero_le _, rfl, (show (wp.alloc _).heap[wp.heap.size]? = _ from alloc_at rfl), Ex.below (by repeat (first | exact Ex.refl _ | refine Ex.alloc ?_ _ | refine Ex.ext ?_ _ _ | refine Ex.drew ?_ | refine Ex.drewN ?_ _))⟩
  case round =>
    obtain ⟨k, hk, rfl, htwo, hbl⟩ := hrel
    have HB := Lib.hid hbl
    have hbz := hbl.size
    have HLA := Lib.hid (HL2.out.ex (Ex.of hbl))
    by_cases hlt : k < len
    · have hkl : k < l.length := by rw [HLEN.out]; omega
      obtain ⟨b, off, rfl, hbs, hz⟩ := HLA.out.2.2.2 (by omega)
      have hzk := hz k hkl
      have ha0 : l[k]? = some (l[k]'hkl) := List.getElem?_eq_getElem hkl
      clear hz
      generalize l[k]'hkl = a at hzk ha0
      have a0 := hzk 0 (by omega)
      have a1 := hzk 1 (by omega)
      have a2 := hzk 2 (by omega)
      have a3 := hzk 3 (by omega)
      have a4 := hzk 4 (by omega)
      simp only [Lot.cells, List.getElem?_cons_zero, List.getElem?_cons_succ, Nat.add_zero] at a0 a1 a2 a3 a4
      clear hzk
      have HKA : Hid (l[k]'hkl = a) := Lib.hid (by have e := List.getElem?_eq_getElem hkl; rw [ha0] at e; exact (Option.some.inj e).symm)
      have hmem : a ∈ l := List.mem_of_getElem? ha0
      have hao := Lot.ok_iff.1 (HOK.out.ok ha0)
      have hg0 := FR.out.bd a hmem
      have hq9 := hao.2.2.2.2.2
      have HW := Lib.hid (FR.out.worse a hmem)
      have HBE := Lib.hid (FR.out.best a hmem)
      have st0 := sumG_step (fun x => gotF T x.id) 0 ha0
      have st1 := sumG_step (fun x => gotF T x.id) 1 ha0
      have sb0 := fun s => sumG_bounds (g := fun x => gotF T x.id) (s := s) (l.take k) (fun x hx => by
        have := FR.out.bd x (List.mem_of_mem_take hx)
        have := (Lot.ok_iff.1 (HOK.out.mem x (List.mem_of_mem_take hx))).2.2.2.2
        omega)
      have hlk : (l.take k).length ≤ k := by simp; omega
      have s0 := sb0 0
      have s1 := sb0 1
      have HGA := Lib.hid (fun w2 hx => HGO.out w2 hx a.id)
      obtain ⟨U0, hV0⟩ : ∃ U, sumG (fun x => gotF T x.id) 0 (l.take (k + 1)) = U := ⟨_, rfl⟩
      obtain ⟨U1, hV1⟩ : ∃ U, sumG (fun x => gotF T x.id) 1 (l.take (k + 1)) = U := ⟨_, rfl⟩
      rw [hV0] at st0
      rw [hV1] at st1
      have HV0 := Lib.hid hV0
      have HV1 := Lib.hid hV1
      clear hV0 hV1
      generalize gotF T a.id = n at *
      have HT := Lib.hid htwo
      generalize sumG (fun x => gotF T x.id) 0 (l.take k) = S0 at *
      generalize sumG (fun x => gotF T x.id) 1 (l.take k) = S1 at *
      have c0 := htwo.cell0
      have c1 := htwo.cell1
      have f0 := htwo.frozen 0
      have f1 := htwo.frozen 1
      have htl := htwo.lt
      have hs2 := lot_side (HOK.out.mem a hmem)
      have HU0 := Lib.hid st0
      have HU1 := Lib.hid st1
      obtain ⟨wz, hwz⟩ : ∃ wz : Bool, wz = ((decide (a.side = 0) && decide (a.price < price)) || (decide (a.side = 1) && decide (price < a.price))) := ⟨_, rfl⟩
      have hwn : wz = true → ¬ 0 < n := fun h hn => by
        have h0 := HW.out (by
          rw [hwz] at h
          rcases hs2 with hs | hs <;> simp [hs] at h <;> simp [mayT, hs] <;> omega)
        omega
      have HWZ := Lib.hid hwz
      have HWN := Lib.hid hwn
      clear hwz hwn st0 st1 sb0 htwo hbl ha0 hao HW
      go_upto_region 14 with (go_at_call 35; refine (HGA.out _ ((Ex.of HB.out).trans (by repeat (first | exact Ex.refl _ | refine Ex.alloc ?_ _ | refine Ex.ext ?_ _ _ | refine Ex.drew ?_ | refine Ex.drewN ?_ _)))).mono ?_; rintro e w1 ⟨rfl, rfl⟩)
      go_cut [15] (fun v wx => v = .bool wz ∧ wr = wx)
      case first =>
        as_aux_lemma =>
        have hwz := HWZ.out
        clear HWZ HWN HBE HGO HU0 HU1 HV0 HV1 HT HF3 HL2
        rcases hs2 with hs | hs
        · rw [hs] at a2 hwz
          by_cases hwr : a.price < price
          · rw [decide_eq_true hwr] at hwz
            obtain rfl : wz = true := by simpa using hwz
            clear hwz
            go_wp2_with fail
            go_meet
            case rel => exact ⟨rfl, rfl⟩
          · rw [decide_eq_false hwr] at hwz
            obtain rfl : wz = false := by simpa using hwz
            clear hwz
            go_wp2_with fail
            go_meet
            case rel => exact ⟨rfl, rfl⟩
        · rw [hs] at a2 hwz
          by_cases hwr : price < a.price
          · rw [decide_eq_true hwr] at hwz
            obtain rfl : wz = true := by simpa using hwz
            clear hwz
            go_wp2_with fail
            go_meet
            case rel => exact ⟨rfl, rfl⟩
          · rw [decide_eq_false hwr] at hwz
            obtain rfl : wz = false := by simpa using hwz
            clear hwz
            go_wp2_with fail
            go_meet
            case rel => exact ⟨rfl, rfl⟩
      case rest =>
        obtain ⟨rfl, rfl⟩ := hcut
        clear HWZ
        go_upto_region 15 with fail
        go_cut [103] (fun v wx => v = .bool false ∧ wr = wx)
        case first =>
          as_aux_lemma =>
          have hwn := HWN.out
          clear HWN HBE HGO HU0 HU1 HV0 HV1 HT HF3 HL2
          cases wz
          · clear hwn
            go_wp2_with fail
            go_meet
            case rel => exact ⟨rfl, rfl⟩
          · have hn1 := hwn rfl
            clear hwn
            go_wp2_with fail
            go_meet
            case rel => exact ⟨by rw [decide_eq_false (by omega)], rfl⟩
        case rest =>
          obtain ⟨rfl, rfl⟩ := hcut
          clear HWN
          go_upto_region 17 with fail
          go_cut [] (fun wx => TwoAt wx wp.heap.size U0 U1 ∧ Below wp.heap.size wp wx)
          case first =>
            as_aux_lemma =>
            clear HBE HGO HF3 HL2
            rcases hs2 with hs | hs
            · rw [hs] at a2
              have HE0 : Hid (U0 = S0 + n) := Lib.hid (by rw [HU0.out, if_pos hs])
              have HE1 : Hid (U1 = S1) := Lib.hid (by rw [HU1.out, if_neg (by omega), Int.add_zero])
              clear HU0 HU1
              go_region
              all_goals go_wp2_with fail
              all_goals go_meet
              all_goals (case rel => exact ⟨by rw [HE0.out, HE1.out]; exact TwoAt.ex (TwoAt.set0 (w := wr) HT.out _) (by repeat (first | exact Ex.refl _ | refine Ex.alloc ?_ _ | refine Ex.ext ?_ _ _ | refine Ex.drew ?_ | refine Ex.drewN ?_ _)), (by (refine Below.trans HB.out ?_; repeat (first | exact Below.refl _ _ | (refine Below.drew ?_) | (refine Below.drewN ?_ _) | (refine Below.ext ?_ (by first | omega | (simp [go_sem]; done) | (simp [go_sem]; omega)) _ _) | (refine Below.alloc ?_ (by first | omega | (simp [go_sem]; done) | (simp [go_sem]; omega)) _) | (refine Below.setCell ?_ (by first | omega | (simp [go_sem]; done) | (simp [go_sem]; omega)) _))))⟩)
            · rw [hs] at a2
              have HE0 : Hid (U0 = S0) := Lib.hid (by rw [HU0.out, if_neg (by omega), Int.add_zero])
              have HE1 : Hid (U1 = S1 + n) := Lib.hid (by rw [HU1.out, if_pos hs])
              clear HU0 HU1
              go_region
              all_goals go_wp2_with fail
              all_goals go_meet
              all_goals (case rel => exact ⟨by rw [HE0.out, HE1.out]; exact TwoAt.ex (TwoAt.set1 (w := wr) HT.out _) (by repeat (first | exact Ex.refl _ | refine Ex.alloc ?_ _ | refine Ex.ext ?_ _ _ | refine Ex.drew ?_ | refine Ex.drewN ?_ _)), (by (refine Below.trans HB.out ?_; repeat (first | exact Below.refl _ _ | (refine Below.drew ?_) | (refine Below.drewN ?_ _) | (refine Below.ext ?_ (by first | omega | (simp [go_sem]; done) | (simp [go_sem]; omega)) _ _) | (refine Below.alloc ?_ (by first | omega | (simp [go_sem]; done) | (simp [go_sem]; omega)) _) | (refine Below.setCell ?_ (by first | omega | (simp [go_sem]; done) | (simp [go_sem]; omega)) _))))⟩)
          case rest =>
            obtain ⟨htc, hbc⟩ := hcut
            obtain ⟨wd, rfl⟩ : ∃ x, x = wc := ⟨_, rfl⟩
            have HTC := Lib.hid htc
            have HBC := Lib.hid hbc
            clear htc hbc HU0 HU1 HT a0 a1 a2 a3 a4 c0 c1 f0 f1
            go_wp2_with fail
            go_loopw [16] (fun j wr => ∃ (q : Nat), q ≤ len ∧ j = .int .i64 q ∧ TwoAt wr wp.heap.size U0 U1 ∧ Below wp.heap.size wp wr) (fun j _ => len - (intOf j).toNat)
            case atStart => exact ⟨0, Nat.zero_le _, rfl, HTC.out.ex (by repeat (first | exact Ex.refl _ | refine Ex.alloc ?_ _ | refine Ex.ext ?_ _ _ | refine Ex.drew ?_ | refine Ex.drewN ?_ _)), (by (refine Below.trans HBC.out ?_; repeat (first | exact Below.refl _ _ | (refine Below.drew ?_) | (refine Below.drewN ?_ _) | (refine Below.ext ?_ (by first | omega | (simp [go_sem]; done) | (simp [go_sem]; omega)) _ _) | (refine Below.alloc ?_ (by first | omega | (simp [go_sem]; done) | (simp [go_sem]; omega)) _) | (refine Below.setCell ?_ (by first | omega | (simp [go_sem]; done) | (simp [go_sem]; omega)) _))))⟩
            case round =>
              obtain ⟨q, hq, rfl, ht2, hb2⟩ := hrel
              have HT2 := Lib.hid ht2
              have HB2 := Lib.hid hb2
              have hbz2 := hb2.size
              have hl2 := HL2.out.ex (Ex.of hb2)
              by_cases hql : q < len
              · obtain ⟨b', off', he, hbs2, hz2⟩ := hl2.2.2.2 (by omega)
                obtain ⟨rfl, rfl⟩ : b = b' ∧ off = off' := by simpa using he
                have hqll : q < l.length := by rw [HLEN.out]; omega
                have hzk := hz2 k hkl
                rw [HKA.out] at hzk
                have hzq := hz2 q hqll
                have hy := List.getElem_mem hqll
                have hby := HBE.out (l[q]'hqll) hy
                have HGY := Lib.hid (fun w2 hx => HGO.out w2 hx (l[q]'hqll).id)
                generalize l[q]'hqll = y at *
                have b2 := hzk 2 (by omega)
                have b3 := hzk 3 (by omega)
                have y0 := hzq 0 (by omega)
                have y2 := hzq 2 (by omega)
                have y3 := hzq 3 (by omega)
                have y4 := hzq 4 (by omega)
                simp only [Lot.cells, List.getElem?_cons_zero, List.getElem?_cons_succ, Nat.add_zero] at b2 b3 y0 y2 y3 y4
                obtain ⟨bb, hbb⟩ : ∃ bb : Bool, bb = (decide (y.side = a.side) && ((decide (a.side = 0) && decide (a.price < y.price)) || (decide (a.side = 1) && decide (y.price < a.price)))) := ⟨_, rfl⟩
                have hbc : bb = true → 0 < n → gotF T y.id = y.qty := fun h hn => by
                  rw [hbb, Bool.and_eq_true] at h
                  have h1 := of_decide_eq_true h.1
                  have h2 := h.2
                  refine hby h1 ?_ hn
                  unfold betterL
                  rcases hs2 with hs | hs <;> simp [hs] at h2 <;> rw [hs] <;> omega
                have HBD := Lib.hid hbc
                have HBB := Lib.hid hbb
                clear hby hbb hbc hzk hzq hz2 ht2 hb2 hl2 he hy
                go_upto_region 21 with fail
                go_cut [17] (fun v wx => v = .bool bb ∧ ∃ nd, wx = wr.drewN nd)
                case first =>
                  as_aux_lemma =>
                  have hbb := HBB.out
                  clear HBB HBD HGY y0 y4 HBE HGO HF3 HL2 HT2 HB2 HTC HBC
                  rcases hs2 with hs | hs
                  · rw [hs] at b2 hbb
                    by_cases hys : y.side = 0
                    · rw [hys] at y2 hbb
                      by_cases hbt : a.price < y.price
                      · have hbd := decide_eq_true hbt
                        rw [hbd] at hbb
                        obtain rfl : bb = true := by simpa using hbb
                        clear hbb
                        go_quiet (fail)
                        all_goals go_wp2_with fail
                        all_goals go_meet
                        all_goals (case rel => exact ⟨rfl, _, rfl⟩)
                      · have hbd := decide_eq_false hbt
                        rw [hbd] at hbb
                        obtain rfl : bb = false := by simpa using hbb
                        clear hbb
                        go_quiet (fail)
                        all_goals go_wp2_with fail
                        all_goals go_meet
                        all_goals (case rel => exact ⟨rfl, _, rfl⟩)
                    · have hyd : (y.side == 0) = false := by simp [hys]
                      rw [decide_eq_false hys] at hbb
                      obtain rfl : bb = false := by simpa using hbb
                      clear hbb
                      go_quiet (fail)
                      all_goals go_wp2_with fail
                      all_goals go_meet
                      all_goals (case rel => exact ⟨rfl, _, rfl⟩)
                  · rw [hs] at b2 hbb
                    by_cases hys : y.side = 1
                    · rw [hys] at y2 hbb
                      by_cases hbt : y.price < a.price
                      · have hbd := decide_eq_true hbt
                        rw [hbd] at hbb
                        obtain rfl : bb = true := by simpa using hbb
                        clear hbb
                        go_quiet (fail)
                        all_goals go_wp2_with fail
                        all_goals go_meet
                        all_goals (case rel => exact ⟨rfl, _, rfl⟩)
                      · have hbd := decide_eq_false hbt
                        rw [hbd] at hbb
                        obtain rfl : bb = false := by simpa using hbb
                        clear hbb
                        go_quiet (fail)
                        all_goals go_wp2_with fail
                        all_goals go_meet
                        all_goals (case rel => exact ⟨rfl, _, rfl⟩)
                    · have hyd : (y.side == 1) = false := by simp [hys]
                      rw [decide_eq_false hys] at hbb
                      obtain rfl : bb = false := by simpa using hbb
                      clear hbb
                      go_quiet (fail)
                      all_goals go_wp2_with fail
                      all_goals go_meet
                      all_goals (case rel => exact ⟨rfl, _, rfl⟩)
                case rest =>
                  obtain ⟨rfl, nd, hwc⟩ := hcut
                  have hxc : Ex wr wc := by rw [hwc]; exact Ex.drewN (Ex.refl _) nd
                  have hbc2 := HB2.out.trans (hxc.below.mono hbz2)
                  have htc2 := HT2.out.ex hxc
                  replace y0 := (show wc.cell? _ = wr.cell? _ by rw [hwc]; rfl).trans y0
                  replace y4 := (show wc.cell? _ = wr.cell? _ by rw [hwc]; rfl).trans y4
                  clear HBB b2 b3 y2 y3 HTC HBC HT2 HB2 hxc hwc
                  have HT2 := Lib.hid htc2
                  have HB2 := Lib.hid hbc2
                  obtain ⟨we, rfl⟩ : ∃ x, x = wc := ⟨_, rfl⟩
                  clear htc2 hbc2
                  go_upto_region 22 with fail
                  go_cut [199] (fun v wx => v = .bool false ∧ ∃ nd, wx = we.drewN nd)
                  case first =>
                    as_aux_lemma =>
                    by_cases hnp : 0 < n
                    · have hnd := decide_eq_true hnp
                      cases bb
                      · clear HBD HT2
                        go_quiet (fail)
                        all_goals go_wp2_with fail
                        all_goals go_meet
                        all_goals (case rel => exact ⟨rfl, _, rfl⟩)
                      · have hgy := HBD.out rfl hnp
                        rw [hgy] at HGY
                        clear HBD hgy HT2
                        go_quiet ((go_at_call 35; (with_reducible refine Calls.quiet_of_same ((HGY.out _ ?_).mono fun e w' ⟨k1, k2⟩ => ⟨k1, k2.symm⟩)); exact (Ex.of HB2.out).trans (by repeat (first | exact Ex.refl _ | refine Ex.alloc ?_ _ | refine Ex.ext ?_ _ _ | refine Ex.drew ?_ | refine Ex.drewN ?_ _))))
                        all_goals go_wp2_with fail
                        all_goals go_meet
                        all_goals (case rel => exact ⟨rfl, _, rfl⟩)
                    · have hnd := decide_eq_false hnp
                      clear HBD HT2
                      cases bb
                      · go_quiet (fail)
                        all_goals go_wp2_with fail
                        all_goals go_meet
                        all_goals (case rel => exact ⟨rfl, _, rfl⟩)
                      · go_quiet (fail)
                        all_goals go_wp2_with fail
                        all_goals go_meet
                        all_goals (case rel => exact ⟨rfl, _, rfl⟩)
                  case rest =>
                    obtain ⟨rfl, nd2, rfl⟩ := hcut
                    go_wp2_with fail
                    all_goals
                      go_roundw
                      case measure => simp [intOf]; omega
                      case rel => exact ⟨q + 1, by omega, by go_num, HT2.out.ex (by repeat (first | exact Ex.refl _ | refine Ex.alloc ?_ _ | refine Ex.ext ?_ _ _ | refine Ex.drew ?_ | refine Ex.drewN ?_ _)), (by (refine Below.trans HB2.out ?_; repeat (first | exact Below.refl _ _ | (refine Below.drew ?_) | (refine Below.drewN ?_ _) | (refine Below.ext ?_ (by first | omega | (simp [go_sem]; done) | (simp [go_sem]; omega)) _ _) | (refine Below.alloc ?_ (by first | omega | (simp [go_sem]; done) | (simp [go_sem]; omega)) _) | (refine Below.setCell ?_ (by first | omega | (simp [go_sem]; done) | (simp [go_sem]; omega)) _))))⟩
              · obtain rfl : q = len := by omega
                clear ht2 hb2 hl2
                go_wp2_with fail
                go_roundw
                case measure => simp [intOf]; omega
                case rel => exact ⟨k + 1, by omega, by go_num, (by rw [HV0.out, HV1.out]; exact HT2.out.ex (by repeat (first | exact Ex.refl _ | refine Ex.alloc ?_ _ | refine Ex.ext ?_ _ _ | refine Ex.drew ?_ | refine Ex.drewN ?_ _))), (by (refine Below.trans HB2.out ?_; repeat (first | exact Below.refl _ _ | (refine Below.drew ?_) | (refine Below.drewN ?_ _) | (refine Below.ext ?_ (by first | omega | (simp [go_sem]; done) | (simp [go_sem]; omega)) _ _) | (refine Below.alloc ?_ (by first | omega | (simp [go_sem]; done) | (simp [go_sem]; omega)) _) | (refine Below.setCell ?_ (by first | omega | (simp [go_sem]; done) | (simp [go_sem]; omega)) _))))⟩
    · obtain rfl : k = len := by omega
      rw [List.take_of_length_le (by rw [HLEN.out]; exact Nat.le_refl _), FR.out.sum0, FR.out.sum1] at htwo
      have c0 := htwo.cell0
      have c1 := htwo.cell1
      have HF4 := Lib.hid (HF3.out.ex (Ex.of hbl))
      clear htwo hbl
      go_wp2_with fail
      go_loop [18] (fun i => ∃ (j : Nat), j ≤ T.length ∧ i = .int .i64 j) (fun i => T.length - (intOf i).toNat)
      case atStart => exact ⟨0, Nat.zero_le _, rfl⟩
      case round =>
        obtain ⟨j, hj, rfl⟩ := hrel
        by_cases hjt : j < T.length
        · obtain ⟨b3, o3, rfl, hb3, hc4⟩ := HF4.out (by omega)
          have z1 := hc4 j hjt 1 (by omega)
          have hzq := FR.out.qty T[j] (List.getElem_mem hjt)
          generalize T[j] = z at *
          simp only [Fil.cells, List.getElem?_cons_zero, List.getElem?_cons_succ, Nat.add_zero] at z1
          clear hc4
          go_wp2
          all_goals
            go_round
            case measure => simp [intOf]; omega
            case rel => exact ⟨j + 1, by omega, by go_num⟩
        · go_wp2
          all_goals go_ret
          all_goals exact ⟨rfl, HXP.out.trans ((Ex.of HB.out).trans (by repeat (first | exact Ex.refl _ | refine Ex.alloc ?_ _ | refine Ex.ext ?_ _ _ | refine Ex.drew ?_ | refine Ex.drewN ?_ _)))⟩
end Go.Proofs.YtjkaeiioofknoaaDoor
