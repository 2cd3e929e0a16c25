/- The walk of Drain of the document's intake. -/
import Derived.Test.YthngmmhoakegeaaDoorMIntD
import Derived.Laws.OwnMore
set_option linter.unusedSimpArgs false
set_option linter.unusedVariables false
namespace Go.Proofs.YthngmmhoakegeaaDoor
open Go.RowKit

theorem flag_cell {w : World} {base : Nat} {e : TypeId} {g n cap : Nat} {bs : List Bool} (h : w.ownsRow base e 1 (.slice (some ⟨g, 0, none⟩) n cap) n (bs.map Value.bool)) {j : Nat} (hj : j < bs.length) : w.cell? ⟨g, j, none⟩ = some (.bool bs[j]) ∧ w.frozen? ⟨g, j, none⟩ = false := by
  rcases h.2 with ⟨e0, _⟩ | ⟨g', cap', cur, e0, hb, hg, hn, hm, hs, ht⟩
  · cases e0
  · obtain ⟨rfl, rfl⟩ : g = g' ∧ cap = cap' := by cases e0; exact ⟨rfl, rfl⟩
    have hl : bs.length = n := by simpa using h.1
    have e1 : (bs.map Value.bool)[j]? = some (.bool bs[j]) := by rw [List.getElem?_map, List.getElem?_eq_getElem hj]; rfl
    refine ⟨?_, by simp [World.frozen?, hg]⟩
    rw [← e1, ← ht, List.getElem?_take_of_lt (by omega)]
    simp [World.cell?, hg]
theorem own_base {w : World} {b1 b2 : Nat} {e : TypeId} {size : Nat} {v : Value} {n : Nat} {xs : List Value} (hb : b2 ≤ b1) (h : w.ownsRow b1 e size v n xs) : w.ownsRow b2 e size v n xs := by
  obtain ⟨h1, h2 | ⟨g, cap, cur, rfl, hg, hr⟩⟩ := h
  · exact ⟨h1, .inl h2⟩
  · exact ⟨h1, .inr ⟨g, cap, cur, rfl, Nat.le_trans hb hg, hr⟩⟩
section
variable {own : Nat → Nat} {i : Nat} {w : World} {q : Nat} {L : List Ask} {turn : Nat}
set_option maxRecDepth 100000 in
set_option maxHeartbeats 8000000 in
theorem mdrain_any (h : MIntAt own i w q L turn) (hin : InC L) (hq : ∀ c, c < 6 → (qsOf L c).length ≤ 6) : Calls Tryd.prog 42 #[.pointer (some ⟨q, 0, none⟩)] w fun e w' => (∃ ao cap, e = .returned (.slice ao (outOf (qsOf L) turn 6).length cap) ∧ AskC w' ao (outOf (qsOf L) turn 6)) ∧ ObjTo own i i w (fun o w' => MIntAt o i w' q (drainLL L) ((turn + 1) % 6)) w' := by
  obtain ⟨i0, hi0, hz0, hz1, hz2⟩ := info_parts infoAsk'
  obtain ⟨ib, hib, hb0, hb1, hb2⟩ := info_parts infoBool
  obtain ⟨ao, cap, c0, c1, hc, hm, h0, hz, hr, _⟩ := h.slice
  have hp := h.lt
  have hb := h.2.1
  have ht6 := h.1
  have HZ := Lib.hid hz
  have HIN := Lib.hid hin
  have HEND := Lib.hid (fun (w3 : World) (v : Value) (hx : Ex w w3) (hr : w3.ownsRow w.heap.size 30 8 v (drainLL L).length (flat Ask.cells (drainLL L))) => mi_end (turn' := (turn + 1) % 6) h hx (rowAt_of_owned hr) (fun g hg => (hr.lt g hg).1) (by have := restTo_len L L.length; show (restTo L L.length).length ≤ 36; omega) (by omega))
  have HFR := Lib.hid (fun (w3 : World) (hx : Ex w w3) => mi_cells (w3 := w3) h c0 (hx.below.block q hp))
  have HMK := Lib.hid (show (madeCells (Value.bool false).cells (L.length * 1)).toList = (goneL L turn 0 0).map Value.bool by rw [goneL_start, Nat.mul_one]; simp [Value.cells, toList_madeCells_one])
  have hq2 : q ≠ w.heap.size := by omega
  clear h hr h0 hz hin hq
  go_enter Tryd.func42, Tryd.ntmps42
  go_wp2_with (at_make; refine wpList_make_full _ rfl (.tmp 15) (.tmp 15) 117 rfl w.heap.size 4 ib _ 1 Tryd.underlying117 hib hb0 hb1 .i64 .i64 (L.length : Int) (L.length : Int) L.length rfl rfl rfl rfl (by rw [hb2]; omega) (by unfold maxLen; omega) (Nat.le_refl _) ?_; intro w1 how hg1; rw [HMK.out] at how)
  have HD0 : Hid (DrI w L (.slice (some ⟨w.heap.size, 0, none⟩) L.length L.length) (.slice none 0 0) (outOf (qsOf L) turn 0) (goneL L turn 0 0) w1) := Lib.hid ⟨World.ownsRow_nil _ _ _ _, how, Ex.of (Below.grown (Below.refl _ _) hg1 (Nat.le_refl _) (fun b hb => by cases hb))⟩
  clear how hg1 HMK
  go_wp2_with fail
  go_loopw [3, 5] (fun v ik wr => ∃ (k : Nat) (u : Value), u = v ∧ k ≤ 6 ∧ ik = .int .i64 (k : Int) ∧ DrI w L (.slice (some ⟨w.heap.size, 0, none⟩) L.length L.length) u (outOf (qsOf L) turn k) (goneL L turn k 0) wr) (fun _ ik _ => 6 - (intOf ik).toNat)
  case atStart => exact ⟨0, _, rfl, Nat.zero_le _, rfl, HD0.out⟩
  case round =>
    obtain ⟨k, u, rfl, hk, rfl, hd⟩ := hrel
    clear HD0
    obtain ⟨w2, rfl⟩ : ∃ w2, w2 = wr := ⟨wr, rfl⟩
    have HD := Lib.hid hd
    have hsz := hd.ex.below.size
    obtain ⟨f0, f1, f2, cq, ct⟩ := HFR.out _ hd.ex
    have hol := outOf_length (qsOf L) turn k
    by_cases hk6 : k < 6
    · obtain ⟨c, hcc⟩ : ∃ c, c = (turn + k) % 6 := ⟨_, rfl⟩
      have HT2 := Lib.hid (fun (j : Nat) (hj : j < L.length) => take2_succ hj (c : Int))
      have HLN := Lib.hid (fun (j : Nat) (hj : j < L.length) => ofC_succ hj (c : Int))
      have HGT := Lib.hid (fun (j : Nat) (hj : j < L.length) => goneL_take (turn := turn) (k := k) hj)
      have HGS := Lib.hid (fun (j : Nat) (hj : j < L.length) => goneL_skip (turn := turn) (k := k) hj)
      have HNX := Lib.hid (goneL_next L turn k)
      have HOS : Hid (outOf (qsOf L) turn (k + 1) = outOf (qsOf L) turn k ++ (ofC L (c : Int)).take 2) := Lib.hid (by rw [hcc]; rfl)
      rw [← hcc] at HGT HGS
      have hcm : ((turn : Int) + (k : Int)) % 6 = (c : Int) := by omega
      have HCC := Lib.hid hcc
      clear hd hcc
      generalize outOf (qsOf L) turn k = OS at *
      go_wp2_with fail
      go_loopw [3, 7, 8] (fun v cn i wz => ∃ (j : Nat) (u : Value), u = v ∧ j ≤ L.length ∧ cn = .int .i64 ((min 2 (ofC (L.take j) (c : Int)).length : Nat) : Int) ∧ i = .int .i64 (j : Int) ∧ DrI w L (.slice (some ⟨w.heap.size, 0, none⟩) L.length L.length) u (OS ++ (ofC (L.take j) (c : Int)).take 2) (goneL L turn k j) wz) (fun _ _ i _ => L.length - (intOf i).toNat)
      case atStart => exact ⟨0, _, rfl, Nat.zero_le _, rfl, rfl, by rw [List.take_zero]; show DrI _ _ _ _ (OS ++ []) _ _; rw [List.append_nil]; exact HD.out⟩
      case round =>
        obtain ⟨j, v, rfl, hj, rfl, rfl, hd⟩ := hrel
        have HD2 := Lib.hid hd
        have hsz2 := hd.ex.below.size
        obtain ⟨f0', f1', f2', cq', ct'⟩ := HFR.out _ hd.ex
        by_cases hjl : j < L.length
        · obtain ⟨g, off, rfl, hg, hcl⟩ := HZ.out (by omega)
          have hcx : ∀ m, m < 8 → wr.cell? ⟨g, off + j * 8 + m, none⟩ = L[j].cells[m]? := fun m hm => (hd.ex.below.cell (p := ⟨g, off + j * 8 + m, none⟩) hg).trans (hcl j hjl m hm)
          have hgr : g < wr.heap.size := by omega
          have a0 := hcx 0 (by omega)
          have a1 := hcx 1 (by omega)
          have a2 := hcx 2 (by omega)
          have a3 := hcx 3 (by omega)
          have a4 := hcx 4 (by omega)
          have a5 := hcx 5 (by omega)
          have a6 := hcx 6 (by omega)
          have a7 := hcx 7 (by omega)
          simp only [Ask.cells, List.getElem?_cons_zero, List.getElem?_cons_succ, Nat.add_zero] at a0 a1 a2 a3 a4 a5 a6 a7
          have HT2' := Lib.hid (HT2.out j hjl)
          have HLN' := Lib.hid (HLN.out j hjl)
          have HGT' := Lib.hid (HGT.out j hjl)
          have HGS' := Lib.hid (HGS.out j hjl)
          have hgl : (goneL L turn k j).length = L.length := goneL_len _ _ _ _
          obtain ⟨aov, capv, hv⟩ := row_form (rowAt_of_owned hd.out)
          have htl : ((ofC (L.take j) (c : Int)).take 2).length ≤ 2 := by rw [List.length_take]; omega
          subst hv
          have hosl : (OS ++ (ofC (L.take j) (c : Int)).take 2).length ≤ 40 := by rw [List.length_append]; omega
          clear hcx hcl hd
          generalize L[j] = x at *
          by_cases he : (x.client == (c : Int)) = true
          · have hex : x.client = (c : Int) := by simpa using he
            rw [hex] at HGT' HGS'
            have HX := Lib.hid hex
            clear hex
            by_cases h2 : (ofC (L.take j) (c : Int)).length < 2
            · have hmn : min 2 (ofC (L.take j) (c : Int)).length = (ofC (L.take j) (c : Int)).length := by omega
              have HMN : Hid ((min 2 (ofC (L.take (j + 1)) (c : Int)).length : Nat) = (ofC (L.take j) (c : Int)).length + 1) := Lib.hid (by rw [HLN'.out, if_pos HX.out, List.length_append]; simp; omega)
              have HGN := Lib.hid (HGT'.out rfl h2)
              rw [if_pos ⟨HX.out, h2⟩] at HT2'
              rw [hmn]
              have t1 : ((ofC (L.take j) (c : Int)).length : Int) < 2 := by omega
              generalize hos : OS ++ (ofC (L.take j) (c : Int)).take 2 = O2 at *
              have HOSE := Lib.hid hos
              clear hos hmn
              generalize (ofC (L.take j) (c : Int)).length = m at *
              go_wp2_with (at_builtin; refine wpList_append_own _ rfl (.tmp 51) (.tmp 59) 33 rfl w.heap.size 30 i0 _ 8 64 Tryd.underlying33 hi0 hz0 hz1 hz2 rfl (by decide) (.slice aov O2.length capv) O2.length (flat Ask.cells O2) rfl ?_ _ 1 1 x.cells rfl rfl ?_ ?_ (by unfold maxLen; omega) (by omega) ?_ ?_; (focus exact HD2.out.out.alloc _); (focus exact World.news_of_block (alloc_top (by first | rfl | (simp [ext_size]; done) | (simp [ext_size]; omega)))); (focus simp [Ask.cells, Value.oneCell']); (focus (simp [go_sem, ext_size]; omega)); intro v1 w3 hown hgrow hnil; have HD3 := Lib.hid (HD2.out.more hown hgrow); obtain ⟨y0, y1⟩ := flag_cell HD3.out.gone (j := j) (by rw [hgl]; exact hjl); have hg3 := (HD3.out.gone.lt _ rfl).2; clear hown hgrow hnil)
              all_goals
                go_roundw
                case measure => simp [intOf]; omega
                case rel =>
                  refine ⟨_, _, _, ⟨j + 1, by omega, ?_, ?_, ?_⟩, rfl, rfl, rfl⟩
                  · rw [HMN.out]; go_num
                  · go_num
                  · rw [HT2'.out, ← List.append_assoc, HOSE.out, ← HGN.out]; exact HD3.out.flag
            · have hmn : min 2 (ofC (L.take j) (c : Int)).length = 2 := by omega
              have HMN : Hid ((min 2 (ofC (L.take (j + 1)) (c : Int)).length : Nat) = 2) := Lib.hid (by rw [HLN'.out, if_pos HX.out, List.length_append]; simp; omega)
              have HGN := Lib.hid (HGS'.out (fun hh => h2 hh.2))
              rw [if_neg (fun hh => h2 hh.2), List.append_nil] at HT2'
              rw [hmn]
              generalize hos : OS ++ (ofC (L.take j) (c : Int)).take 2 = O2 at *
              have HOSE := Lib.hid hos
              clear hos hmn
              go_wp2_with fail
              all_goals
                go_roundw
                case measure => simp [intOf]; omega
                case rel => exact ⟨j + 1, _, rfl, by omega, by rw [HMN.out], by go_num, by rw [HT2'.out, HOSE.out, ← HGN.out]; exact HD2.out⟩
          · have he2 : (x.client == (c : Int)) = false := by simpa using he
            have hnx : ¬ x.client = (c : Int) := by simpa using he
            have HMN : Hid ((min 2 (ofC (L.take (j + 1)) (c : Int)).length : Nat) = min 2 (ofC (L.take j) (c : Int)).length) := Lib.hid (by rw [HLN'.out, if_neg hnx, List.append_nil])
            have HGN := Lib.hid (HGS'.out (fun hh => hnx hh.1))
            rw [if_neg (fun hh => hnx hh.1), List.append_nil] at HT2'
            generalize hos : OS ++ (ofC (L.take j) (c : Int)).take 2 = O2 at *
            have HOSE := Lib.hid hos
            clear hos hnx
            generalize min 2 (ofC (L.take j) (c : Int)).length = m at *
            go_wp2_with fail
            all_goals
              go_roundw
              case measure => simp [intOf]; omega
              case rel => exact ⟨j + 1, _, rfl, by omega, by rw [HMN.out], by go_num, by rw [HT2'.out, HOSE.out, ← HGN.out]; exact HD2.out⟩
        · obtain rfl : j = L.length := by omega
          have HTL : Hid (L.take L.length = L) := Lib.hid List.take_length
          rw [List.take_length] at HD2
          generalize min 2 (ofC (L.take L.length) (c : Int)).length = m at *
          clear hd
          go_wp2_with fail
          all_goals
            go_roundw
            case measure => simp [intOf]; omega
            case rel => exact ⟨k + 1, _, rfl, by omega, by go_num, by rw [HOS.out, ← HNX.out]; exact HD2.out⟩
    · obtain rfl : k = 6 := by omega
      have HRS := Lib.hid (fun (j : Nat) (hj : j < L.length) => restTo_succ hj)
      obtain ⟨GL, HD, hgl, HGE⟩ : ∃ GL : List Bool, Hid (DrI w L (.slice (some ⟨w.heap.size, 0, none⟩) L.length L.length) u (outOf (qsOf L) turn 6) GL w2) ∧ GL.length = L.length ∧ Hid (∀ (j : Nat) (hj : j < L.length) (h2 : j < GL.length), GL[j] = decide ((ofC (L.take j) L[j].client).length < 2)) := ⟨goneL L turn 6 0, HD, goneL_len _ _ _ _, Lib.hid (fun j hj h2 => goneL_end HIN.out turn hj)⟩
      clear hd
      go_wp2_with fail
      go_loopw [9, 10] (fun v i wz => ∃ (j : Nat) (u2 : Value), u2 = v ∧ j ≤ L.length ∧ i = .int .i64 (j : Int) ∧ wz.ownsRow w2.heap.size 30 8 u2 (restTo L j).length (flat Ask.cells (restTo L j)) ∧ Ex w2 wz) (fun _ i _ => L.length - (intOf i).toNat)
      case atStart => exact ⟨0, _, rfl, Nat.zero_le _, rfl, World.ownsRow_nil _ _ _ _, (by repeat (first | exact Ex.refl _ | refine Ex.alloc ?_ _ | refine Ex.ext ?_ _ _ | refine Ex.drew ?_ | refine Ex.drewN ?_ _))⟩
      case round =>
        obtain ⟨j, v, rfl, hj, rfl, hrow, hex⟩ := hrel
        have HROW := Lib.hid hrow
        have HEX := Lib.hid hex
        have hsz2 := hex.below.size
        have HD3 := Lib.hid (HD.out.later hex)
        obtain ⟨f0', f1', f2', cq', ct'⟩ := HFR.out _ (HD.out.ex.trans hex)
        clear cq ct f0 f1 f2
        by_cases hjl : j < L.length
        · obtain ⟨g, off, rfl, hg, hcl⟩ := HZ.out (by omega)
          have hcx : ∀ m, m < 8 → wr.cell? ⟨g, off + j * 8 + m, none⟩ = L[j].cells[m]? := fun m hm => ((HD.out.ex.trans hex).below.cell (p := ⟨g, off + j * 8 + m, none⟩) hg).trans (hcl j hjl m hm)
          have hgr : g < wr.heap.size := by omega
          have a0 := hcx 0 (by omega)
          have a1 := hcx 1 (by omega)
          have a2 := hcx 2 (by omega)
          have a3 := hcx 3 (by omega)
          have a4 := hcx 4 (by omega)
          have a5 := hcx 5 (by omega)
          have a6 := hcx 6 (by omega)
          have a7 := hcx 7 (by omega)
          simp only [Ask.cells, List.getElem?_cons_zero, List.getElem?_cons_succ, Nat.add_zero] at a0 a1 a2 a3 a4 a5 a6 a7
          obtain ⟨y0, y1⟩ := flag_cell HD3.out.gone (j := j) (by rw [hgl]; exact hjl)
          have hge := HGE.out j hjl (by rw [hgl]; exact hjl)
          have hg3 := (HD3.out.gone.lt _ rfl).2
          have HRS' := Lib.hid (HRS.out j hjl)
          have hle := restTo_len L j
          obtain ⟨aov, capv, hv⟩ := row_form (rowAt_of_owned hrow)
          subst hv
          clear hcx hcl hrow hex
          generalize L[j] = x at *
          generalize restTo L j = R at *
          by_cases h2 : (ofC (L.take j) x.client).length < 2
          · rw [if_pos h2, List.append_nil] at HRS'
            rw [hge, decide_eq_true h2] at y0
            clear hge
            go_wp2_with fail
            all_goals
              go_roundw
              case measure => simp [intOf]; omega
              case rel => exact ⟨j + 1, _, rfl, by omega, by go_num, by rw [HRS'.out]; exact HROW.out, HEX.out.trans (by repeat (first | exact Ex.refl _ | refine Ex.alloc ?_ _ | refine Ex.ext ?_ _ _ | refine Ex.drew ?_ | refine Ex.drewN ?_ _))⟩
          · rw [if_neg h2] at HRS'
            rw [hge, decide_eq_false h2] at y0
            clear hge
            go_wp2_with (at_builtin; refine wpList_append_own _ rfl (.tmp 80) (.tmp 88) 33 rfl w2.heap.size 30 i0 _ 8 64 Tryd.underlying33 hi0 hz0 hz1 hz2 rfl (by decide) (.slice aov R.length capv) R.length (flat Ask.cells R) rfl ?_ _ 1 1 x.cells rfl rfl ?_ ?_ (by unfold maxLen; omega) (by omega) ?_ ?_; (focus exact HROW.out.alloc _); (focus exact World.news_of_block (alloc_top (by first | rfl | (simp [ext_size]; done) | (simp [ext_size]; omega)))); (focus simp [Ask.cells, Value.oneCell']); (focus (simp [go_sem, ext_size]; omega)); intro v1 w3 hown hgrow hnil; have HOW := Lib.hid hown; have HGR := Lib.hid hgrow; clear hown hgrow hnil)
            all_goals
              go_roundw
              case measure => simp [intOf]; omega
              case rel => exact ⟨j + 1, by omega, by go_num, by rw [HRS'.out, List.length_append, flat_append, flat_one]; exact HOW.out, Ex.of (Below.grown (HEX.out.trans (show Ex wr (wr.alloc (.cells #[.int .u8 x.kind, .int .i64 x.client, .int .i64 x.seq, .int .i64 x.item, .int .i64 x.side, .int .i64 x.price, .int .i64 x.qty, .int .i64 x.id] 30)) from (by repeat (first | exact Ex.refl _ | refine Ex.alloc ?_ _ | refine Ex.ext ?_ _ _ | refine Ex.drew ?_ | refine Ex.drewN ?_ _)))).below HGR.out (by simp [go_sem, ext_size]; omega) (fun j hj => (HROW.out.lt j hj).1))⟩
        · obtain rfl : j = L.length := by omega
          have HFIN := Lib.hid (HEND.out _ _ (HD.out.ex.trans hex) (own_base hsz (show wr.ownsRow w2.heap.size 30 8 v (drainLL L).length (flat Ask.cells (drainLL L)) from hrow)))
          obtain ⟨aov, capv, hv⟩ := row_form (rowAt_of_owned HD3.out.out)
          subst hv
          have HAC := Lib.hid (((askC_row rfl (rowAt_of_owned HD3.out.out)).set (q := q) (fun a ha => by have := (HD3.out.out.lt a.block (by rw [ha]; rfl)).1; omega) 0 v).set (q := q) (fun a ha => by have := (HD3.out.out.lt a.block (by rw [ha]; rfl)).1; omega) 1 (.int .i64 (((turn + 1) % 6 : Nat) : Int)))
          have htm : ((turn : Int) + 1) % 6 = (((turn + 1) % 6 : Nat) : Int) := by omega
          obtain ⟨vao, vcap, hv⟩ := row_form (rowAt_of_owned hrow)
          subst hv
          clear hrow hex
          generalize (restTo L L.length).length = m2 at *
          generalize ht2 : (turn + 1) % 6 = t2 at *
          have HT6 := Lib.hid ht2
          clear ht2
          go_wp2_with fail
          all_goals go_ret
          all_goals exact ⟨⟨_, _, rfl, HAC.out⟩, by rw [HT6.out]; exact HFIN.out⟩
end
end Go.Proofs.YthngmmhoakegeaaDoor
