/- The walk of Levels of package book. -/
import Derived.Test.YtfeeibealokhfaaDoorBLev
set_option linter.unusedSimpArgs false
set_option linter.unusedVariables false
namespace Go.Proofs.YtfeeibealokhfaaDoor
open Go.RowKit

section
variable {own : Nat → Nat} {i : Nat} {w : World} {p : Nat} {l : List Lot}
set_option maxRecDepth 100000 in
set_option maxHeartbeats 4000000 in
theorem levels_any (h : BookAt own i w p l) (hok : ∀ x ∈ l, x.ok = true) (side : Int) (hs : side = 0 ∨ side = 1) :
    Calls Tryd.prog 48 #[.pointer (some ⟨p, 0, none⟩), .int .i64 side] w fun e w' => (∃ v, e = .returned v ∧ w'.ownsRow w.heap.size 92 3 v (levelsB side l).length (flat Lvl.cells (levelsB side l))) ∧ Ex w w' := by
  obtain ⟨i0, hi0, hz0, hz1, hz2⟩ := info_parts infoLvl
  obtain ⟨ao, cap, c0, hc, hm, h0, hl, hr⟩ := h.slice
  have hp := h.lt
  have hb := h.1
  obtain ⟨_, _, _, hz⟩ := hl
  have HZ := Lib.hid hz
  have HOK := Lib.hid hok
  have HS := Lib.hid hs
  have hmm := @run_makeMap Tryd.prog
  clear h hr h0 hz hok hs
  go_enter Tryd.func48, Tryd.ntmps48
  go_wp2_with fail
  clear hmm
  go_loopw [18] (fun i wr => ∃ k : Nat, k ≤ l.length ∧ i = .int .i64 (k : Int) ∧ LInv side l w k wr) (fun i _ => l.length - (intOf i).toNat)
  case atStart => exact ⟨0, Nat.zero_le _, rfl, LInv.start _ _ _⟩
  case round =>
    obtain ⟨k, hk, rfl, hinv⟩ := hrel
    have HI := Lib.hid hinv
    have cs := hinv.cell
    have hsz := hinv.lt
    by_cases hlt : k < l.length
    · obtain ⟨g, off, rfl, hg, hcc⟩ := HZ.out (by omega)
      have hcx : ∀ j, j < 5 → wr.cell? ⟨g, off + k * 5 + j, none⟩ = l[k].cells[j]? := fun j hj => (hinv.below.cell (p := ⟨g, off + k * 5 + j, none⟩) hg).trans (hcc k hlt j hj)
      have hgr : g < wr.heap.size := by omega
      have a0 := hcx 0 (by omega)
      have a1 := hcx 1 (by omega)
      have a2 := hcx 2 (by omega)
      have a3 := hcx 3 (by omega)
      have a4 := hcx 4 (by omega)
      simp only [Lot.cells, List.getElem?_cons_zero, List.getElem?_cons_succ, Nat.add_zero] at a0 a1 a2 a3 a4
      have hxo := Lot.ok_parts (HOK.out l[k] (List.getElem_mem hlt))
      by_cases ho : (l[k].side == side) = true
      · have HST := Lib.hid (fun (w' : World) (o1 o2 : Obj) => HI.out.step (w' := w') (o1 := o1) (o2 := o2) hlt (by simpa using ho))
        have hq := qtyP_bound (l := l.take k) (fun x hx => HOK.out x (List.mem_of_mem_take hx)) side l[k].price
        have hm2 := manyP_le side l[k].price (l.take k)
        have htk : (l.take k).length = k := by rw [List.length_take]; omega
        rw [htk] at hq hm2
        obtain ⟨pr, hget⟩ := lvF_get side (l.take k) l[k].price
        have hlk : ∀ ob : Obj, (Instr.lookup 129 (.map (some (w.heap.size + 1))) (.int .i64 l[k].price) false).run Tryd.prog (wr.alloc ob) = .ok (.agg #[.int .i64 pr, .int .i64 (qtyP side l[k].price (l.take k)), .int .i64 (manyP side l[k].price (l.take k) : Int)]) (wr.alloc ob) := fun ob => ((HI.out.map.alloc ob).lookup (p := l[k].price) (by omega)).trans (by rw [hget]; rfl)
        have HMP := Lib.hid (fun o1 o2 => (HI.out.map.alloc o1).alloc o2)
        clear hcc hcx hinv hget htk
        generalize qtyP side l[k].price (l.take k) = q at *
        generalize manyP side l[k].price (l.take k) = m at *
        generalize lvF side (l.take k) = F at *
        generalize l[k] = x at *
        go_wp2_with (at_mapUpdate; refine wpList_update_lvl rfl (.tmp 30) (.tmp 32) (.tmp 43) rfl (HMP.out _ _) (by unfold maxLen; omega) x.price (by omega) ⟨x.price, q + x.qty, (m : Int) + 1⟩ rfl rfl rfl ?_; intro w4 hm4 hg4; have HM4 := Lib.hid hm4; have HG4 := Lib.hid hg4; clear hm4 hg4)
        all_goals
          go_roundw
          case measure => simp [intOf]; omega
          case rel => exact ⟨k + 1, by omega, by go_num, HST.out _ _ _ HM4.out HG4.out⟩
      · have HSK := Lib.hid (fun (w' : World) => HI.out.skip (w' := w') hlt (by simpa using ho))
        have ho2 : (l[k].side == side) = false := by simpa using ho
        clear hcc hcx hinv
        generalize l[k] = x at *
        go_wp2_with fail
        all_goals
          go_roundw
          case measure => simp [intOf]; omega
          case rel => exact ⟨k + 1, by omega, by go_num, HSK.out _ (by repeat (first | exact Ex.refl _ | refine Ex.alloc ?_ _ | refine Ex.ext ?_ _ _ | refine Ex.drew ?_ | refine Ex.drewN ?_ _))⟩
    · obtain rfl : k = l.length := by omega
      have HMAP := Lib.hid (show LMapAt wr (w.heap.size + 1) l.length (lvF side l) by have := hinv.map; rwa [List.take_length] at this)
      clear hinv
      go_wp2_with (at_range; refine wpList_range_lvl rfl (.tmp 45) rfl rfl HMAP.out ?_; intro w1 cnt hrg hg1 hs1)
      have HO := Lib.hid (LOut.start HI.out hrg hg1)
      generalize wr.heap.size = r at *
      clear hrg hg1 hs1
      go_frame
      go_loopw [9] (fun v wx => ∃ (qs : List Int) (cnt : Nat) (u : Value), u = v ∧ LOut side l w r qs cnt u wx) (fun _ wx => wx.rangeLeft (w.heap.size + 1) r)
      case atStart => exact ⟨_, _, _, rfl, HO.out⟩
      case round =>
        obtain ⟨qs, cnt1, u, rfl, ho⟩ := hrel
        have HO2 := Lib.hid ho
        have hrl := ho.rlt
        have hrs := ho.rng.lt
        have hql := ho.len HOK.out
        obtain ⟨aov, capv, hv⟩ : ∃ ao cap, u = .slice ao qs.length cap := by
          obtain ⟨_, ⟨rfl, h2⟩ | ⟨g, cap, cur, rfl, _⟩⟩ := ho.row
          · exact ⟨none, 0, by rw [h2]⟩
          · exact ⟨_, _, rfl⟩
        subst hv
        have HLE := Lib.hid ho.rng.left_eq
        clear ho
        go_wp2_with (first
          | (at_next; refine wpList_next_lvl rfl (.tmp 46) rfl rfl HO2.out.rng (fun HALL => ?_) (fun pk c w1 cnt2 HF HR1 hlt2 HG1 hs1 hen => ?_))
          | (at_builtin; refine wpList_append_own _ rfl (.tmp 51) (.tmp 53) 89 rfl (r + 1) 92 i0 _ 3 24 Tryd.underlying89 hi0 hz0 hz1 hz2 rfl (by decide) (.slice aov qs.length capv) qs.length (flat Lvl.cells (qs.map (lvlP side l))) rfl ?_ _ 1 1 [.int .i64 c.price, .int .i64 c.qty, .int .i64 c.many] rfl rfl ?_ ?_ (by unfold maxLen; omega) (by omega) ?_ ?_; (focus exact (((HO2.out.next HG1.out).2.1.alloc _).alloc _)); (focus exact World.news_of_block (alloc_top (by first | rfl | (simp [ext_size]; done) | (simp [ext_size]; omega)))); (focus simp [Value.oneCell']); (focus (simp [go_sem, ext_size]; omega)); intro v1 w3 hown hgrow hnil; have HOW := Lib.hid hown; have HGR := Lib.hid hgrow; clear hown hgrow hnil)
          | (go_at_call 77; refine (sort_lvls side HS.out l qs ?_ (by omega) w.heap.size HO2.out.cell (by omega) HO2.out.row).mono ?_; (focus (intro p hp; exact upP_range ((mem_upP HOK.out).2 (lvF_some.1 ((HALL.out p).1 hp))))); rintro e w2 ⟨rfl, hown2, hgr2⟩))
        · go_ret
          obtain ⟨k1, k2⟩ := HO2.out.fin HOK.out HALL.out hown2 hgr2
          exact ⟨⟨_, rfl, k1⟩, k2⟩
        · have hst := HO2.out.step HG1.out HF.out HR1.out HOW.out HGR.out
          exact ⟨⟨_, _, _, rfl, hst⟩, by rw [HLE.out, hst.rng.left_eq]; exact hlt2⟩
end
end Go.Proofs.YtfeeibealokhfaaDoor
