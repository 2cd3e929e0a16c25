import Derived.Test.YtmbboflakfokhaaDoorJ19
/- What total and side of package ration compute. -/
set_option linter.unusedSimpArgs false
set_option linter.unusedVariables false
namespace Go.Proofs.YtmbboflakfokhaaDoor
open Go.RowKit

theorem sumT_bounds {l : List Lot} (h : ∀ x ∈ l, x.ok = true) : 0 ≤ totL l ∧ totL l ≤ 1000 * l.length := sumOf_bounds _ l h
theorem totL_step {l : List Lot} {k : Nat} {x : Lot} (h : l[k]? = some x) : totL (l.take (k + 1)) = totL (l.take k) + x.qty := by
  have := sumOf_step (fun _ => true) h
  simpa [totL] using this
set_option maxRecDepth 100000 in
set_option maxHeartbeats 1000000 in
theorem total_any (ao : Option Addr) (len cap : Nat) (l : List Lot) (w : World) (hl : LotsAt w ao len l) (hok : ∀ x ∈ l, x.ok = true) (h120 : len ≤ 120) :
    Calls Tryd.prog 68 #[.slice ao len cap] w fun e w' => e = .returned (.int .i64 (totL l)) ∧ Ex w w' := by
  have HLA := Lib.hid hl
  have HOK := Lib.hid hok
  have HLEN := Lib.hid hl.1
  clear hl hok
  go_enter Tryd.func68, Tryd.ntmps68
  go_wp2_with fail
  go_loopw [3, 8] (fun n i wr => ∃ (k : Nat), k ≤ len ∧ i = .int .i64 k ∧ n = .int .i64 (totL (l.take k)) ∧ Ex w wr) (fun _ i _ => len - (intOf i).toNat)
  case atStart => exact ⟨0, Nat.zero_le _, rfl, (by simp [totL, sumOf]), (by repeat (first | exact Ex.refl _ | refine Ex.alloc ?_ _ | refine Ex.ext ?_ _ _ | refine Ex.drew ?_ | refine Ex.drewN ?_ _))⟩
  case round =>
    obtain ⟨k, hk, rfl, rfl, l2, d2, rfl⟩ := hrel
    by_cases hlt : k < len
    · have hkl : k < l.length := by rw [HLEN.out]; omega
      obtain ⟨b, off, rfl, hbs, hz⟩ := HLA.out.2.2.2 (by omega)
      have hzk := hz k hkl
      have ha0 : l[k]? = some (l[k]'hkl) := List.getElem?_eq_getElem hkl
      clear hz
      generalize l[k]'hkl = a at hzk ha0
      have a0 := hzk 0 (by omega)
      have a1 := hzk 1 (by omega)
      have a2 := hzk 2 (by omega)
      have a3 := hzk 3 (by omega)
      have a4 := hzk 4 (by omega)
      simp only [Lot.cells, List.getElem?_cons_zero, List.getElem?_cons_succ, Nat.add_zero] at a0 a1 a2 a3 a4
      clear hzk
      have hstep := totL_step ha0
      have hb := sumT_bounds (l := l.take k) (fun x hx => HOK.out x (List.mem_of_mem_take hx))
      have hq := (Lot.ok_iff.1 (HOK.out a (List.mem_of_getElem? ha0))).2.2.2.2
      have hle : (l.take k).length ≤ 120 := by simp; omega
      have HS := Lib.hid hstep
      clear hstep ha0
      generalize totL (l.take k) = n at *
      go_wp2_with fail
      all_goals
        go_roundw
        case measure => simp [intOf]; omega
        case rel => exact ⟨k + 1, by omega, by go_num, by rw [HS.out], (by repeat (first | exact Ex.refl _ | refine Ex.alloc ?_ _ | refine Ex.ext ?_ _ _ | refine Ex.drew ?_ | refine Ex.drewN ?_ _))⟩
    · go_wp2
      go_ret
      exact ⟨ret_int (by rw [List.take_of_length_le (by have := HLEN.out; omega)]), (by repeat (first | exact Ex.refl _ | refine Ex.alloc ?_ _ | refine Ex.ext ?_ _ _ | refine Ex.drew ?_ | refine Ex.drewN ?_ _))⟩

theorem infoFill : (Tryd.prog.info? 54).map (fun i => (i.zero, i.size, i.bytes)) = some (some (.agg #[.int .i64 0, .int .i64 0]), 2, 16) := by kernel_rfl
/-- The lots of a level in the order in which they are served. -/
def SideCut (w1 wr : World) (sv : List Lot) (n : Nat) (v : Value) (wx : World) : Prop := ∃ ao cap, v = .slice ao n cap ∧ LotsAt wx ao n sv ∧ LotsObj wx ao ∧ Below wr.heap.size wr wx
theorem LotsAt.grown {W w' : World} {ao : Option Addr} {n : Nat} {l : List Lot} {row : Option Nat} (h : LotsAt W ao n l) (ho : LotsObj W ao) (hg : W.grownBy w' row) (hne : ∀ a, ao = some a → some a.block ≠ row) : LotsAt w' ao n l ∧ LotsObj w' ao := by
  obtain ⟨h1, h2, h3, h4⟩ := h
  refine ⟨⟨h1, h2, h3, fun h0 => ?_⟩, fun a e => ?_⟩
  · obtain ⟨b, off, e, hb, hc⟩ := h4 h0
    have hbk := hg.block b hb (hne _ e)
    exact ⟨b, off, e, Nat.lt_of_lt_of_le hb hg.size, fun k hk j hj => (World.cell?_of_block (w := W) (w' := w') hbk).trans (hc k hk j hj)⟩
  · obtain ⟨cs, fr, hc⟩ := ho a e
    exact ⟨cs, fr, (hg.block _ (Array.getElem?_eq_some_iff.1 hc).1 (hne a e)).trans hc⟩
theorem lots_apart {W : World} {ao : Option Addr} {base : Nat} {e : TypeId} {size : Nat} {v : Value} {n : Nat} {xs : List Value} (ho : LotsObj W ao) (h : W.ownsRow base e size v n xs) (he : e ≠ 56) : ∀ a, ao = some a → some a.block ≠ v.ownBlock := fun a ea e0 => by
  obtain ⟨cs, fr, hc⟩ := ho a ea
  obtain ⟨cs', hc'⟩ := owns_obj h e0.symm
  rw [hc] at hc'
  simp at hc'
  exact he hc'.2.1.symm
theorem lots_owned {w : World} {base : Nat} {v : Value} {n : Nat} {l : List Lot} (hwf : ∀ a ∈ l, a.wf) (hn : n ≤ 9223372036854775807) (hl : l.length = n) (h : w.ownsRow base 56 5 v n (l.flatMap Lot.cells)) :
    ∃ ao cap, v = .slice ao n cap ∧ LotsAt w ao n l ∧ LotsObj w ao := by
  obtain ⟨ao, cap, rfl, _, h2⟩ := lots_of_owned hwf hn hl h
  refine ⟨ao, cap, rfl, h2, fun a e => ?_⟩
  subst e
  obtain ⟨cs, hc⟩ := owns_obj h rfl
  exact ⟨cs, _, hc⟩

set_option maxRecDepth 100000 in
set_option maxHeartbeats 8000000 in
theorem side_any (ao : Option Addr) (len cap : Nat) (l : List Lot) (side price left seed : Int) (w : World) (hl : LotsAt w ao len l) (hok : LotsOk l) (hs : side = 0 ∨ side = 1) (hu : U32 seed) (h0 : 0 ≤ left) (h1 : left ≤ 1000000) :
    Calls Tryd.prog 56 #[.slice ao len cap, .int .i64 side, .int .i64 price, .int .i64 left, .int .u32 seed] w fun e w' => (∃ v, e = .returned v ∧ w'.ownsRow w.heap.size 54 2 v (sideF (levelsL side price l) left seed).length ((sideF (levelsL side price l) left seed).flatMap Fil.cells)) ∧ Ex w w' := by
  have HLV := Lib.hid (levels_any ao len cap l side price w hl hok hs)
  have hmem : ∀ lv ∈ levelsL side price l, (∀ x ∈ lv, x.ok = true) ∧ lv.length ≤ 120 := fun lv h => by
    obtain ⟨p, rfl⟩ := levelsL_mem lv h
    exact ⟨fun x hx => hok.mem x (lotsAtP_mem hx).1, by have := lotsAtP_len side price p l; have := hok.1; omega⟩
  have HMEM := Lib.hid hmem
  have hLn : (levelsL side price l).length ≤ 120 := by have := levelsL_len side price l; have := hok.1; omega
  have hlm := hl.2.1
  have HU := Lib.hid hu
  obtain ⟨hu0, hu1⟩ := hu
  obtain ⟨iL, hL0, hi⟩ := Option.map_eq_some_iff.1 infoLot
  simp only [Prod.mk.injEq] at hi
  obtain ⟨hLz, hL1, hL2⟩ := hi
  obtain ⟨iF, hF0, hi⟩ := Option.map_eq_some_iff.1 infoFill
  simp only [Prod.mk.injEq] at hi
  obtain ⟨hFz, hF1, hF2⟩ := hi
  clear hl hok hmem
  generalize levelsL side price l = L at *
  go_enter Tryd.func56, Tryd.ntmps56
  go_wp2_with fail
  refine HLV.out.mono ?_
  rintro e w1 ⟨⟨ao1, cap1, rfl, hlev⟩, hx1⟩
  have HLEV := Lib.hid hlev
  have HX1 := Lib.hid hx1
  clear hlev hx1
  go_wp2_with fail
  go_loopw [3, 11, 25] (fun m v i wr => ∃ (j : Nat) (u : Value) (lf : Int) (pre : List Fil), u = v ∧ j ≤ L.length ∧ i = .int .i64 j ∧ m = .int .i64 lf ∧ 0 ≤ lf ∧ lf ≤ left ∧ pre ++ sideF (L.drop j) lf seed = sideF L left seed ∧ pre.length ≤ 120 * j ∧ wr.ownsRow w1.heap.size 54 2 u pre.length (pre.flatMap Fil.cells) ∧ Below w1.heap.size w1 wr) (fun _ _ i _ => L.length - (intOf i).toNat)
  case atStart => exact ⟨0, _, left, [], rfl, Nat.zero_le _, rfl, rfl, h0, Int.le_refl _, rfl, Nat.zero_le _, World.ownsRow_nil _ _ _ _, Below.refl _ _⟩
  case round =>
    obtain ⟨j, u, lf, pre, rfl, hj, rfl, rfl, hf0, hf1, hsd, hpl, hrow, hB⟩ := hrel
    have HSD := Lib.hid hsd
    have HROW := Lib.hid hrow
    have HB := Lib.hid hB
    have hbz := hB.size
    clear hsd hrow
    by_cases hlt : j < L.length
    · obtain ⟨b1, o1, rfl, hb1, hc1⟩ := HLEV.out (by omega)
      obtain ⟨ao2, cap2, hcell, hcap2, hlots, hobj⟩ := hc1 j hlt
      have hcell' := (hB.cell (p := ⟨b1, o1 + j, none⟩) hb1).trans hcell
      have HLO := Lib.hid (hlots.ex (Ex.of hB))
      have HOB := Lib.hid (hobj.ex (Ex.of hB))
      have hmj := HMEM.out L[j] (List.getElem_mem hlt)
      have HDR := Lib.hid (sideF_drop hlt lf seed)
      have hb1' : b1 < wr.heap.size := by omega
      generalize L[j] = lv at *
      have HOKV := Lib.hid hmj.1
      have hlv120 := hmj.2
      have hcl := hcap2.1
      have hcl2 := hcap2.2.1
      have HTO := Lib.hid (fun w hl => total_any ao2 lv.length cap2 lv w hl HOKV.out hlv120)
      have htb := sumT_bounds HOKV.out
      clear hc1 hcell hlots hobj hmj hB hcap2
      go_upto_if 32 with (go_at_call 68; refine (HTO.out _ (by exact HLO.out.ex (by repeat (first | exact Ex.refl _ | refine Ex.alloc ?_ _ | refine Ex.ext ?_ _ _ | refine Ex.drew ?_ | refine Ex.drewN ?_ _)))).mono ?_; rintro e w2 ⟨rfl, l2, d2, rfl⟩)
      go_cut [13] (fun v wx => SideCut w1 wr (servL lv lf seed) lv.length v wx)
      case first =>
        by_cases ht : totL lv > lf
        · have hsv : servL lv lf seed = turnL lv seed := by unfold servL; rw [if_pos ht]
          have HSV := Lib.hid hsv
          clear hsv
          go_wp2_with fail
          refine (shuffle_any (lv.length : Int) lv.length seed _ (by omega) HU.out).mono ?_
          rintro e w3 ⟨⟨ao4, cap4, rfl, hc4, hz4⟩, hx4⟩
          have HX4 : Hid (Ex wr w3) := Lib.hid (Ex.trans (by repeat (first | exact Ex.refl _ | refine Ex.alloc ?_ _ | refine Ex.ext ?_ _ _ | refine Ex.drew ?_ | refine Ex.drewN ?_ _)) hx4)
          have HZ4 := Lib.hid hz4
          have HL4 := Lib.hid (HLO.out.ex HX4.out)
          have hsl := shufL_len lv.length seed
          have HRG := Lib.hid (fun x (hx : x ∈ shufL lv.length seed) => shufL_range x hx)
          have HTU := Lib.hid (show turnL lv seed = (shufL lv.length seed).map (fun k => lv.getD k.toNat lot0) from rfl)
          clear hx4 hz4
          generalize shufL lv.length seed = Z at *
          go_wp2_with fail
          go_loopw [14, 38] (fun v i wr => ∃ (q : Nat) (u3 : Value), u3 = v ∧ q ≤ lv.length ∧ i = .int .i64 q ∧ wr.ownsRow w3.heap.size 56 5 u3 q (((turnL lv seed).take q).flatMap Lot.cells) ∧ Below w3.heap.size w3 wr) (fun _ i _ => lv.length - (intOf i).toNat)
          case atStart => exact ⟨0, _, rfl, Nat.zero_le _, rfl, World.ownsRow_nil _ _ _ _, Below.refl _ _⟩
          case round =>
            obtain ⟨q, u3, rfl, hq, rfl, hr3, hb3⟩ := hrel
            have HR3 := Lib.hid hr3
            have HB3 := Lib.hid hb3
            have hz3 := hb3.size
            by_cases hql : q < lv.length
            · have hqz : q < Z.length := by omega
              obtain ⟨bz, oz, rfl, hbz2, hcz⟩ := HZ4.out (by omega)
              have hzc := (hb3.cell (p := ⟨bz, oz + q, none⟩) hbz2).trans (hcz q hqz)
              have hrg := HRG.out _ (List.getElem_mem hqz)
              have htk : (turnL lv seed).take (q + 1) = (turnL lv seed).take q ++ [lv.getD (Z[q]).toNat lot0] := by
                rw [List.take_add_one, HTU.out, List.getElem?_map, List.getElem?_eq_getElem hqz]; rfl
              generalize Z[q] = z at *
              obtain ⟨kk, rfl⟩ := Int.eq_ofNat_of_zero_le hrg.1
              have hkk : kk < lv.length := by omega
              rw [Int.toNat_natCast, List.getD_eq_getElem?_getD, List.getElem?_eq_getElem hkk, Option.getD_some] at htk
              obtain ⟨bl, ol, rfl, hbl, hcl4⟩ := HL4.out.2.2.2 (by omega)
              have hcx : ∀ i, i < 5 → wr.cell? ⟨bl, ol + kk * 5 + i, none⟩ = (lv[kk]'hkk).cells[i]? := fun i hi => (hb3.cell (p := ⟨bl, ol + kk * 5 + i, none⟩) hbl).trans (hcl4 kk hkk i hi)
              generalize lv[kk]'hkk = x at *
              have HTK := Lib.hid htk
              have x0 := hcx 0 (by omega)
              have x1 := hcx 1 (by omega)
              have x2 := hcx 2 (by omega)
              have x3 := hcx 3 (by omega)
              have x4 := hcx 4 (by omega)
              simp only [Lot.cells, List.getElem?_cons_zero, List.getElem?_cons_succ, Nat.add_zero] at x0 x1 x2 x3 x4
              clear hr3 hb3 hcz hcl4 hcx htk
              go_wp2_with (at_builtin; refine wpList_append_own _ rfl (.tmp 42) (.tmp 47) 37 rfl w3.heap.size 56 iL _ 5 40 Tryd.underlying37 hL0 hLz hL1 hL2 rfl (by decide) u3 q (((turnL lv seed).take q).flatMap Lot.cells) rfl ?_ _ 1 1 [.int .i64 x.id, .int .i64 x.owner, .int .i64 x.side, .int .i64 x.price, .int .i64 x.qty] rfl rfl ?_ ?_ (by unfold maxLen; omega) (by omega) ?_ ?_; (focus (refine HR3.out.kept (Below.grownBy ?_) (Classical.em _); ((refine Below.trans (Below.refl _ _) ?_; repeat (first | exact Below.refl _ _ | (refine Below.drew ?_) | (refine Below.drewN ?_ _) | (refine Below.ext ?_ (by first | omega | (simp [go_sem]; done) | (simp [go_sem]; omega)) _ _) | (refine Below.alloc ?_ (by first | omega | (simp [go_sem]; done) | (simp [go_sem]; omega)) _) | (refine Below.setCell ?_ (by first | omega | (simp [go_sem]; done) | (simp [go_sem]; omega)) _)))))); (focus exact World.news_of_block (alloc_at rfl)); (focus simp [Value.oneCell']); (focus exact (by first | omega | (simp [go_sem]; done) | (simp [go_sem]; omega))); intro v5 w5 hown5 hgr5 _)
              all_goals
                go_roundw
                case measure => simp [intOf]; omega
                case rel =>
                  refine ⟨q + 1, _, rfl, by omega, by go_num, ?_, ?_⟩
                  · rw [HTK.out, List.flatMap_append]
                    simpa [Lot.cells] using hown5
                  · refine Below.grown (a := _) ?_ hgr5 ?_ (fun b hb => (HR3.out.lt b hb).1)
                    · (refine Below.trans HB3.out ?_; repeat (first | exact Below.refl _ _ | (refine Below.drew ?_) | (refine Below.drewN ?_ _) | (refine Below.ext ?_ (by first | omega | (simp [go_sem]; done) | (simp [go_sem]; omega)) _ _) | (refine Below.alloc ?_ (by first | omega | (simp [go_sem]; done) | (simp [go_sem]; omega)) _) | (refine Below.setCell ?_ (by first | omega | (simp [go_sem]; done) | (simp [go_sem]; omega)) _)))
                    · exact (by first | omega | (simp [go_sem]; done) | (simp [go_sem]; omega))
            · obtain rfl : q = lv.length := by omega
              rw [List.take_of_length_le (by rw [turnL_len]; exact Nat.le_refl _)] at hr3
              obtain ⟨ao5, cap5, rfl, hl5, ho5⟩ := lots_owned (fun a ha => lot_wf (HOKV.out a (turnL_mem a ha))) (by omega) (turnL_len lv seed) hr3
              have HL5 := Lib.hid hl5
              have HO5 := Lib.hid ho5
              clear hr3 hb3 hl5 ho5
              go_wp2_with fail
              go_meet
              case rel => exact ⟨ao5, cap5, rfl, by rw [HSV.out]; exact HL5.out, HO5.out, HX4.out.below.trans (HB3.out.mono HX4.out.below.size)⟩
        · have hsv : servL lv lf seed = lv := by unfold servL; rw [if_neg ht]
          have HSV := Lib.hid hsv
          clear hsv
          go_wp2_with fail
          go_meet
          case rel => exact ⟨ao2, cap2, rfl, by rw [HSV.out]; exact HLO.out.ex (by repeat (first | exact Ex.refl _ | refine Ex.alloc ?_ _ | refine Ex.ext ?_ _ _ | refine Ex.drew ?_ | refine Ex.drewN ?_ _)), HOB.out.ex (by repeat (first | exact Ex.refl _ | refine Ex.alloc ?_ _ | refine Ex.ext ?_ _ _ | refine Ex.drew ?_ | refine Ex.drewN ?_ _)), Ex.below (by repeat (first | exact Ex.refl _ | refine Ex.alloc ?_ _ | refine Ex.ext ?_ _ _ | refine Ex.drew ?_ | refine Ex.drewN ?_ _))⟩
      case rest =>
        obtain ⟨ao3, cap3, rfl, hl3, ho3, hb3⟩ := hcut
        have hrow := HROW.out.kept (Below.grownBy hb3) (Classical.em _)
        have hBc := HB.out.trans (hb3.mono hbz)
        have hcz := hBc.size
        have HSVO := Lib.hid (fun x (hx : x ∈ servL lv lf seed) => HOKV.out x (servL_mem x hx))
        have hsvl := servL_len lv lf seed
        clear HTO htb HLO HOB hb3
        generalize servL lv lf seed = sv at *
        generalize lv.length = n at *
        go_wp2_with fail
        go_loopw [3, 11, 53] (fun m v i wr => ∃ (q : Nat) (u4 : Value), u4 = v ∧ q ≤ n ∧ i = .int .i64 q ∧ m = .int .i64 (takeF (sv.take q) lf).2 ∧ LotsAt wr ao3 n sv ∧ LotsObj wr ao3 ∧ wr.ownsRow w1.heap.size 54 2 u4 (pre.length + (takeF (sv.take q) lf).1.length) ((pre ++ (takeF (sv.take q) lf).1).flatMap Fil.cells) ∧ Below w1.heap.size w1 wr) (fun _ _ i _ => n - (intOf i).toNat)
        case atStart => exact ⟨0, _, rfl, Nat.zero_le _, rfl, rfl, hl3, ho3, by simpa [takeF] using hrow, hBc⟩
        case round =>
          obtain ⟨q, u4, rfl, hq, rfl, rfl, hl4, ho4, hr4, hb4⟩ := hrel
          have HL4 := Lib.hid hl4
          have HO4 := Lib.hid ho4
          have HR4 := Lib.hid hr4
          have HB4 := Lib.hid hb4
          have hb4z := hb4.size
          have htl := takeF_left (sv.take q) lf hf0
          have htn := takeF_len (sv.take q) lf
          have htn2 : (takeF (sv.take q) lf).1.length ≤ 120 := by simp at htn; omega
          by_cases hqn : q < n
          · have hqs : q < sv.length := by omega
            obtain ⟨bl, ol, rfl, hbl, hcl4⟩ := hl4.2.2.2 (by omega)
            have hcx := hcl4 q hqs
            have hxo := Lot.ok_iff.1 (HSVO.out _ (List.getElem_mem hqs))
            have htk : sv.take (q + 1) = sv.take q ++ [sv[q]] := by rw [List.take_add_one, List.getElem?_eq_getElem hqs]; rfl
            have hsn := takeF_snoc sv[q] (sv.take q) lf
            rw [← htk] at hsn
            generalize sv[q] = x at *
            have x0 := hcx 0 (by omega)
            have x1 := hcx 1 (by omega)
            have x2 := hcx 2 (by omega)
            have x3 := hcx 3 (by omega)
            have x4 := hcx 4 (by omega)
            simp only [Lot.cells, List.getElem?_cons_zero, List.getElem?_cons_succ, Nat.add_zero] at x0 x1 x2 x3 x4
            have HSN := Lib.hid hsn
            clear hsn htk hcl4 hcx hl4 ho4 hr4 hb4
            generalize takeF (sv.take q) lf = T at *
            generalize hmn : min x.qty T.2 = mn at *
            have hmn1 : mn ≤ T.2 := by omega
            by_cases hpos : 0 < mn
            · have HS2 : Hid (takeF (sv.take (q + 1)) lf = (T.1 ++ [⟨x.id, mn⟩], T.2 - mn)) := Lib.hid (by rw [HSN.out, if_pos hpos])
              go_wp2_with (at_builtin; refine wpList_append_own _ rfl (.tmp 63) (.tmp 68) 48 rfl w1.heap.size 54 iF _ 2 16 Tryd.underlying48 hF0 hFz hF1 hF2 rfl (by decide) u4 (pre.length + T.1.length) ((pre ++ T.1).flatMap Fil.cells) rfl ?_ _ 1 1 [.int .i64 x.id, .int .i64 mn] rfl rfl ?_ ?_ (by unfold maxLen; omega) (by omega) ?_ ?_; (focus (refine HR4.out.kept (Below.grownBy ?_) (Classical.em _); ((refine Below.trans (Below.refl _ _) ?_; repeat (first | exact Below.refl _ _ | (refine Below.drew ?_) | (refine Below.drewN ?_ _) | (refine Below.ext ?_ (by first | omega | (simp [go_sem]; done) | (simp [go_sem]; omega)) _ _) | (refine Below.alloc ?_ (by first | omega | (simp [go_sem]; done) | (simp [go_sem]; omega)) _) | (refine Below.setCell ?_ (by first | omega | (simp [go_sem]; done) | (simp [go_sem]; omega)) _)))))); (focus exact World.news_of_block (alloc_at (by first | rfl | (simp; done)))); (focus simp [Value.oneCell']); (focus exact (by first | omega | (simp [go_sem]; done) | (simp [go_sem]; omega))); intro v5 w5 hown5 hgr5 _)
              all_goals
                go_roundw
                case measure => simp [intOf]; omega
                case rel =>
                  have hlo := LotsAt.grown (W := (wr.alloc _).alloc _) (HL4.out.ex (by repeat (first | exact Ex.refl _ | refine Ex.alloc ?_ _ | refine Ex.ext ?_ _ _ | refine Ex.drew ?_ | refine Ex.drewN ?_ _))) (HO4.out.ex (by repeat (first | exact Ex.refl _ | refine Ex.alloc ?_ _ | refine Ex.ext ?_ _ _ | refine Ex.drew ?_ | refine Ex.drewN ?_ _))) hgr5 (lots_apart HO4.out HR4.out (by decide))
                  refine ⟨q + 1, _, rfl, by omega, by go_num, by rw [HS2.out], hlo.1, hlo.2, ?_, ?_⟩
                  · rw [HS2.out]
                    simpa [Fil.cells, Nat.add_assoc] using hown5
                  · refine Below.grown (a := _) ?_ hgr5 ?_ (fun b hb => (HR4.out.lt b hb).1)
                    · (refine Below.trans HB4.out ?_; repeat (first | exact Below.refl _ _ | (refine Below.drew ?_) | (refine Below.drewN ?_ _) | (refine Below.ext ?_ (by first | omega | (simp [go_sem]; done) | (simp [go_sem]; omega)) _ _) | (refine Below.alloc ?_ (by first | omega | (simp [go_sem]; done) | (simp [go_sem]; omega)) _) | (refine Below.setCell ?_ (by first | omega | (simp [go_sem]; done) | (simp [go_sem]; omega)) _)))
                    · exact (by first | omega | (simp [go_sem]; done) | (simp [go_sem]; omega))
            · have HS2 : Hid (takeF (sv.take (q + 1)) lf = T) := Lib.hid (by rw [HSN.out, if_neg hpos])
              go_wp2_with fail
              all_goals
                go_roundw
                case measure => simp [intOf]; omega
                case rel =>
                  refine ⟨q + 1, _, rfl, by omega, by go_num, by rw [HS2.out], HL4.out.ex (by repeat (first | exact Ex.refl _ | refine Ex.alloc ?_ _ | refine Ex.ext ?_ _ _ | refine Ex.drew ?_ | refine Ex.drewN ?_ _)), HO4.out.ex (by repeat (first | exact Ex.refl _ | refine Ex.alloc ?_ _ | refine Ex.ext ?_ _ _ | refine Ex.drew ?_ | refine Ex.drewN ?_ _)), ?_, ?_⟩
                  · rw [HS2.out]
                    refine HR4.out.kept (Below.grownBy ?_) (Classical.em _)
                    (refine Below.trans (Below.refl _ _) ?_; repeat (first | exact Below.refl _ _ | (refine Below.drew ?_) | (refine Below.drewN ?_ _) | (refine Below.ext ?_ (by first | omega | (simp [go_sem]; done) | (simp [go_sem]; omega)) _ _) | (refine Below.alloc ?_ (by first | omega | (simp [go_sem]; done) | (simp [go_sem]; omega)) _) | (refine Below.setCell ?_ (by first | omega | (simp [go_sem]; done) | (simp [go_sem]; omega)) _)))
                  · (refine Below.trans HB4.out ?_; repeat (first | exact Below.refl _ _ | (refine Below.drew ?_) | (refine Below.drewN ?_ _) | (refine Below.ext ?_ (by first | omega | (simp [go_sem]; done) | (simp [go_sem]; omega)) _ _) | (refine Below.alloc ?_ (by first | omega | (simp [go_sem]; done) | (simp [go_sem]; omega)) _) | (refine Below.setCell ?_ (by first | omega | (simp [go_sem]; done) | (simp [go_sem]; omega)) _)))
          · obtain rfl : q = n := by omega
            rw [List.take_of_length_le (by omega)] at HR4 htl htn2
            rw [List.take_of_length_le (by omega)]
            have HDR2 := HDR
            clear hl4 ho4 hr4 hb4 htn
            generalize takeF sv lf = T at *
            cases ht : (T.2 == 0)
            · have ht0 : T.2 ≠ 0 := by simpa using ht
              have hnext : (pre ++ T.1) ++ sideF (L.drop (j + 1)) T.2 seed = sideF L left seed := by
                rw [← HSD.out, HDR2.out, if_neg ht0, List.append_assoc]
              have HNX := Lib.hid hnext
              clear hnext
              go_wp2_with fail
              all_goals
                go_roundw
                case measure => simp [intOf]; omega
                case rel => exact ⟨j + 1, _, T.2, pre ++ T.1, rfl, by omega, by go_num, rfl, htl.1, by omega, HNX.out, by simp; omega, by rw [List.length_append]; exact HR4.out, HB4.out⟩
            · have ht0 : T.2 = 0 := by simpa using ht
              have hnext : pre ++ T.1 = sideF L left seed := by
                rw [← HSD.out, HDR2.out, if_pos ht0]
              have HNX := Lib.hid hnext
              have hx1z := HX1.out.below.size
              clear hnext
              go_wp2_with fail
              go_ret
              exact ⟨⟨_, rfl, by rw [← HNX.out, List.length_append]; exact owns_mono HR4.out hx1z⟩, HX1.out.trans (Ex.of HB4.out)⟩
    · obtain rfl : j = L.length := by omega
      have hnext : pre = sideF L left seed := by
        rw [← HSD.out, List.drop_length]; simp [sideF]
      have HNX := Lib.hid hnext
      have hx1z := HX1.out.below.size
      clear hnext
      go_wp2_with fail
      go_ret
      exact ⟨⟨_, rfl, by rw [← HNX.out]; exact owns_mono HROW.out hx1z⟩, HX1.out.trans (Ex.of HB.out)⟩
end Go.Proofs.YtmbboflakfokhaaDoor
