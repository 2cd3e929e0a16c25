/- The document's book: what Levels computes. -/
import Derived.Test.YtfeeibealokhfaaDoorMLevP
import Derived.Test.YtfeeibealokhfaaDoorMBook
set_option linter.unusedSimpArgs false
set_option linter.unusedVariables false
namespace Go.Proofs.YtfeeibealokhfaaDoor
open Go.RowKit

theorem infoMLvl : (Tryd.prog.info? 133).map (fun i => (i.zero, i.size, i.bytes)) = some (some (.agg #[.int .i64 0, .int .i64 0, .int .i64 0]), 3, 24) := by kernel_rfl
section
variable {own : Nat → Nat} {i : Nat} {w : World} {p : Nat} {l : List Lot}
set_option maxRecDepth 100000 in
set_option maxHeartbeats 4000000 in
theorem mlevels_any (h : BookAt own i w p l) (hok : ∀ x ∈ l, x.ok = true) (side : Int) (hs : side = 0 ∨ side = 1) :
    Calls Tryd.prog 60 #[.pointer (some ⟨p, 0, none⟩), .int .i64 side] w fun e w' => (∃ v, e = .returned v ∧ w'.ownsRow w.heap.size 133 3 v (levelsB side l).length (flat Lvl.cells (levelsB side l))) ∧ Ex w w' := by
  obtain ⟨i0, hi0, hz0, hz1, hz2⟩ := info_parts infoMLvl
  obtain ⟨ao, cap, c0, hc, hm, h0, hl, hr⟩ := h.slice
  have hp := h.lt
  have hb := h.1
  obtain ⟨_, _, _, hz⟩ := hl
  have HZ := Lib.hid hz
  have HOK := Lib.hid hok
  have HS := Lib.hid hs
  have HALL := Lib.hid (lvsTo_all side l)
  clear h hr h0 hz hok hs
  go_enter Tryd.func60, Tryd.ntmps60
  go_wp2_with fail
  go_loopw [5, 6] (fun v i wr => ∃ (n : Nat) (u : Value), u = v ∧ n ≤ 1000 ∧ i = .int .i64 ((n : Int) + 1) ∧ wr.ownsRow w.heap.size 133 3 u (lvsTo side l n).length (flat Lvl.cells (lvsTo side l n)) ∧ Ex w wr) (fun _ i _ => 1001 - (intOf i).toNat)
  case atStart => exact ⟨0, _, rfl, Nat.zero_le _, rfl, World.ownsRow_nil _ _ _ _, (by repeat (first | exact Ex.refl _ | refine Ex.alloc ?_ _ | refine Ex.ext ?_ _ _ | refine Ex.drew ?_ | refine Ex.drewN ?_ _))⟩
  case round =>
    obtain ⟨n, v, rfl, hn, rfl, hrow, hex⟩ := hrel
    have hsz := hex.below.size
    have HROW := Lib.hid hrow
    have HEX := Lib.hid hex
    have cp : wr.cell? ⟨p, 0, none⟩ = some (.slice ao l.length cap) := (hex.below.cell (p := ⟨p, 0, none⟩) hp).trans c0
    have hpr : p < wr.heap.size := by omega
    by_cases hlt : n < 1000
    · have HSC := Lib.hid (lvsTo_succ side l n)
      have hll := lvsTo_len side l n
      have hpq : 1 ≤ seqP side n ∧ seqP side n ≤ 1000 := by unfold seqP; split <;> omega
      have HPQ : Hid (seqP side n = if side = 0 then 1000 - (n : Int) else (n : Int) + 1) := Lib.hid rfl
      obtain ⟨aov, capv, hv⟩ : ∃ ao cap, v = .slice ao (lvsTo side l n).length cap := row_form (rowAt_of_owned hrow)
      subst hv
      clear hrow hex
      generalize lvsTo side l n = D at *
      generalize seqP side n = q at *
      go_upto_region 6 with fail
      go_upto_if 16 with fail
      go_cut [7] (fun v wx => v = .int .i64 q ∧ wx = wr)
      case first =>
        rcases HS.out with rfl | rfl
        · go_wp2_with fail
          all_goals
            go_meet
            case rel => exact ⟨by have := HPQ.out; simp at this; rw [this]; congr 1; omega, rfl⟩
        · go_wp2_with fail
          all_goals
            go_meet
            case rel => exact ⟨by have := HPQ.out; simp at this; rw [this], rfl⟩
      case rest =>
        obtain ⟨rfl, rfl⟩ := hcut
        go_wp2_with fail
        go_loopw [9] (fun i wz => ∃ j : Nat, j ≤ l.length ∧ i = .int .i64 (j : Int) ∧ LBox side q l j wc 133 wz) (fun i _ => l.length - (intOf i).toNat)
        case atStart => exact ⟨0, Nat.zero_le _, rfl, LBox.start _ _ _ _ _⟩
        case round =>
          obtain ⟨j, hj, rfl, hbox⟩ := hrel
          have hbz := hbox.below.size
          have hbx := (Array.getElem?_eq_some_iff.1 hbox.box).1
          have HB := Lib.hid hbox
          have cz : wr.cell? ⟨p, 0, none⟩ = some (.slice ao l.length cap) := (hbox.below.cell (p := ⟨p, 0, none⟩) hpr).trans cp
          have hpz : p < wr.heap.size := by omega
          have x0 : wr.cell? ⟨wc.heap.size, 0, none⟩ = some (.int .i64 q) := by simp [World.cell?, hbox.box]
          have x1 : wr.cell? ⟨wc.heap.size, 1, none⟩ = some (.int .i64 (qtyP side q (l.take j))) := by simp [World.cell?, hbox.box]
          have x2 : wr.cell? ⟨wc.heap.size, 2, none⟩ = some (.int .i64 (manyP side q (l.take j) : Int)) := by simp [World.cell?, hbox.box]
          have y1 : wr.frozen? ⟨wc.heap.size, 1, none⟩ = false := by simp [World.frozen?, hbox.box]
          have y2 : wr.frozen? ⟨wc.heap.size, 2, none⟩ = false := by simp [World.frozen?, hbox.box]
          have hqb := qtyP_bound (l := l.take j) (fun x hx => HOK.out x (List.mem_of_mem_take hx)) side q
          have hmb := manyP_le side q (l.take j)
          have htk : (l.take j).length = j := by rw [List.length_take]; omega
          rw [htk] at hqb hmb
          by_cases hjl : j < l.length
          · obtain ⟨g, off, rfl, hg, hcc⟩ := HZ.out (by omega)
            have hgz : g < wc.heap.size := by omega
            have hcx : ∀ m, m < 5 → wr.cell? ⟨g, off + j * 5 + m, none⟩ = l[j].cells[m]? := fun m hm => (hbox.below.cell (p := ⟨g, off + j * 5 + m, none⟩) hgz).trans ((HEX.out.below.cell (p := ⟨g, off + j * 5 + m, none⟩) hg).trans (hcc j hjl m hm))
            have a2 := hcx 2 (by omega)
            have a3 := hcx 3 (by omega)
            have a4 := hcx 4 (by omega)
            simp only [Lot.cells, List.getElem?_cons_zero, List.getElem?_cons_succ, Nat.add_zero] at a2 a3 a4
            have hxo := Lot.ok_parts (HOK.out l[j] (List.getElem_mem hjl))
            have HSK := Lib.hid (fun (hn : atP side q l[j] = false) (w' : World) => HB.out.skip (w' := w') hjl hn)
            have HST := Lib.hid (fun (hn : atP side q l[j] = true) => HB.out.step hjl hn)
            have HAT : Hid (atP side q l[j] = (l[j].side == side && l[j].price == q)) := Lib.hid rfl
            have hpg : p ≠ wc.heap.size := by omega
            have hgg : g ≠ wc.heap.size := by omega
            clear hcc hcx hbox
            generalize qtyP side q (l.take j) = Q at *
            generalize manyP side q (l.take j) = M at *
            generalize l[j] = x at *
            by_cases hs1 : (x.side == side) = true
            · by_cases hs2 : (x.price == q) = true
              · have HYES : Hid (atP side q x = true) := Lib.hid (by rw [HAT.out, hs1, hs2]; rfl)
                go_wp2_with fail
                go_region
                all_goals go_wp2_with fail
                all_goals exact ⟨⟨j + 1, by omega, by go_num, (HST.out HYES.out).ex (by repeat (first | exact Ex.refl _ | refine Ex.alloc ?_ _ | refine Ex.ext ?_ _ _ | refine Ex.drew ?_ | refine Ex.drewN ?_ _))⟩, by simp [intOf]; omega⟩
              · have hs2' : (x.price == q) = false := by simpa using hs2
                have HNO : Hid (atP side q x = false) := Lib.hid (by rw [HAT.out, hs1, hs2']; rfl)
                go_wp2_with fail
                all_goals
                  go_roundw
                  case measure => simp [intOf]; omega
                  case rel => exact ⟨j + 1, by omega, by go_num, HSK.out HNO.out _ (by repeat (first | exact Ex.refl _ | refine Ex.alloc ?_ _ | refine Ex.ext ?_ _ _ | refine Ex.drew ?_ | refine Ex.drewN ?_ _))⟩
            · have hs1' : (x.side == side) = false := by simpa using hs1
              have HNO : Hid (atP side q x = false) := Lib.hid (by rw [HAT.out, hs1']; rfl)
              go_wp2_with fail
              all_goals
                go_roundw
                case measure => simp [intOf]; omega
                case rel => exact ⟨j + 1, by omega, by go_num, HSK.out HNO.out _ (by repeat (first | exact Ex.refl _ | refine Ex.alloc ?_ _ | refine Ex.ext ?_ _ _ | refine Ex.drew ?_ | refine Ex.drewN ?_ _))⟩
          · obtain rfl : j = l.length := by omega
            rw [List.take_length] at x1 x2 hqb hmb
            have HLV : Hid (lvlP side l q = ⟨q, qtyP side q l, (manyP side q l : Int)⟩) := Lib.hid rfl
            have HRO := Lib.hid (show wr.ownsRow w.heap.size 133 3 (.slice aov D.length capv) D.length (flat Lvl.cells D) from ownsRow_block HROW.out (fun g hg => hbox.below.block g (HROW.out.lt g hg).2))
            have HEZ : Hid (Ex w wr) := Lib.hid (HEX.out.trans (Ex.of hbox.below))
            clear hbox
            generalize qtyP side q l = Q at *
            by_cases hm0 : 0 < manyP side q l
            · rw [if_pos hm0, HLV.out] at HSC
              generalize manyP side q l = M at *
              go_wp2_with (at_builtin; refine wpList_append_own _ rfl (.tmp 71) (.tmp 73) 107 rfl w.heap.size 133 i0 _ 3 24 Tryd.underlying107 hi0 hz0 hz1 hz2 rfl (by decide) (.slice aov D.length capv) D.length (flat Lvl.cells D) rfl ?_ _ 1 1 [.int .i64 q, .int .i64 Q, .int .i64 (M : Int)] rfl rfl ?_ ?_ (by unfold maxLen; omega) (by omega) ?_ ?_; (focus exact HRO.out.alloc _); (focus exact World.news_of_block (alloc_top (by first | rfl | (simp [ext_size]; done) | (simp [ext_size]; omega)))); (focus simp [Value.oneCell']); (focus (simp [go_sem, ext_size]; omega)); intro v1 w3 hown hgrow hnil; have HOW := Lib.hid hown; have HGR := Lib.hid hgrow; clear hown hgrow hnil)
              have e9 : flat Lvl.cells (D ++ [⟨q, Q, (M : Int)⟩]) = flat Lvl.cells D ++ [.int .i64 q, .int .i64 Q, .int .i64 (M : Int)] := by rw [flat_append]; rfl
              exact ⟨⟨n + 1, _, rfl, by omega, by go_num, by rw [HSC.out, List.length_append, e9]; exact HOW.out, Ex.of (Below.grown (HEZ.out.trans (show Ex wr (wr.alloc (.cells #[.int .i64 q, .int .i64 Q, .int .i64 (M : Int)] 133)) from (by repeat (first | exact Ex.refl _ | refine Ex.alloc ?_ _ | refine Ex.ext ?_ _ _ | refine Ex.drew ?_ | refine Ex.drewN ?_ _)))).below HGR.out (by simp [go_sem, ext_size]; omega) (fun b hb => (HRO.out.lt b hb).1))⟩, by simp [intOf]; omega⟩
            · rw [if_neg hm0, List.append_nil] at HSC
              have hm1 : manyP side q l = 0 := by omega
              have x3 : wr.cell? ⟨wc.heap.size, 2, none⟩ = some (.int .i64 0) := by rw [x2, hm1]; rfl
              clear x2 hm0 hm1 hmb
              go_wp2_with fail
              exact ⟨⟨n + 1, _, rfl, by omega, by go_num, by rw [HSC.out]; exact HRO.out, HEZ.out⟩, by simp [intOf]; omega⟩
    · obtain rfl : n = 1000 := by omega
      rw [HALL.out] at HROW
      go_wp2_with fail
      all_goals go_ret
      all_goals exact ⟨⟨v, rfl, HROW.out⟩, HEX.out.trans (by repeat (first | exact Ex.refl _ | refine Ex.alloc ?_ _ | refine Ex.ext ?_ _ _ | refine Ex.drew ?_ | refine Ex.drewN ?_ _))⟩
end
end Go.Proofs.YtfeeibealokhfaaDoor
