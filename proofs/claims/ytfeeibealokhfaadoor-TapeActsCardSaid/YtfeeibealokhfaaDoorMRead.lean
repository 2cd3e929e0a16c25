/- What the document's ReadTape and Recover compute. -/
import Derived.Test.YtfeeibealokhfaaDoorMTape
set_option linter.unusedSimpArgs false
set_option linter.unusedVariables false
namespace Go.Proofs.YtfeeibealokhfaaDoor
open Go.RowKit

theorem numB_numL (l : List UInt8) : numL l = numB l := rfl
set_option maxRecDepth 100000 in
set_option maxHeartbeats 4000000 in
theorem readTape_any (b : List UInt8) (w : World) (hb : b.length ≤ 2000000) :
    Calls Tryd.prog 41 #[.string ⟨b.toArray⟩] w fun e w' => ReadRet b w.heap.size e w' ∧ Ex w w' := by
  obtain ⟨i0, hi0, hz0, hz1, hz2⟩ := info_parts infoStr
  have hz := bytes_size b
  go_enter Tryd.func41, Tryd.ntmps41
  go_wp2_with fail
  go_loopw [4, 5] (fun v u wr => ∃ (l : List (List UInt8)) (t : List UInt8) (v' : Value) (at' : Nat), v' = v ∧ u = .int .i64 (at' : Int) ∧ at' = (recs l).length ∧ Fits l ∧ b = recs l ++ t ∧ wr.ownsRow w.heap.size 9 1 v' l.length (l.map strV) ∧ Ex w wr) (fun _ u _ => b.length - (intOf u).toNat)
  case atStart => exact ⟨[], b, _, 0, rfl, rfl, rfl, (show Fits [] from fun _ h => by simp at h), rfl, World.ownsRow_nil _ _ _ _, Ex.refl _⟩
  case round =>
    obtain ⟨l, t, v, at', rfl, rfl, hat, hf, hbt, hrow, hex⟩ := hrel
    have hle : at' + t.length = b.length := by rw [hbt, List.length_append, hat]
    have hdt : b.drop at' = t := by rw [hbt, hat, List.drop_left]
    have hll : l.length ≤ at' := by rw [hat]; exact recs_ge l
    have HAT := Lib.hid hat
    have HF := Lib.hid hf
    have HBT := Lib.hid hbt
    have HROW := Lib.hid hrow
    have HEX := Lib.hid hex
    have hsz := hex.below.size
    have hcz := strRow_len hrow
    clear hat hf hbt hrow hex
    have hend : oneL t = none → ∀ w', Ex wr w' → ReadRet b w.heap.size (.returned (.tuple #[v, .int .i64 (at' : Int)])) w' ∧ Ex w w' := fun ho w' hx =>
      ⟨⟨v, l, at', rfl, ⟨HF.out, HAT.out, t, HBT.out, ho⟩, HROW.out.kept (belowGrownBy hx.below) (Classical.em _)⟩, HEX.out.trans hx⟩
    have HEND := Lib.hid hend
    clear hend
    by_cases h12 : t.length < 12
    · have k1 : ((b.length : Int) - (at' : Int) < 12) := by omega
      have HO : Hid (oneL t = none) := Lib.hid (by unfold oneL; rw [if_pos h12])
      go_wp2_with fail
      all_goals go_ret2
      all_goals exact HEND.out HO.out _ (by repeat (first | exact Ex.refl _ | refine Ex.alloc ?_ _ | refine Ex.ext ?_ _ _ | refine Ex.drew ?_ | refine Ex.drewN ?_ _))
    · have k1 : ¬ ((b.length : Int) - (at' : Int) < 12) := by omega
      have e4 : (⟨b.toArray⟩ : ByteArray).extract at' (at' + 4) = ⟨(t.take 4).toArray⟩ := by rw [bytes_mid, hdt]; congr 4; omega
      have hO1 : oneL t = if 10000 < numB (t.take 4) ∨ t.length < numB (t.take 4) + 12 then none else if recL ((t.drop 8).take (numB (t.take 4))) = t.take (numB (t.take 4) + 12) then some ((t.drop 8).take (numB (t.take 4))) else none := by
        unfold oneL
        rw [if_neg h12]
      have HNB := Lib.hid (fun w => number_any ⟨(t.take 4).toArray⟩ w (by rw [bytes_size, List.length_take]; omega))
      have hnl : numL ((⟨(t.take 4).toArray⟩ : ByteArray).data.toList) = numB (t.take 4) := rfl
      rw [hnl] at HNB
      clear hnl
      have n4 : ((at' : Int) + 4).toNat = at' + 4 := by omega
      have a1 : (0 : Int) ≤ (at' : Int) := by omega
      have a2 : (at' : Int) ≤ (at' : Int) + 4 := by omega
      have a3 : (at' : Int) + 4 ≤ (b.length : Int) := by omega
      have HO1 := Lib.hid hO1
      clear hO1
      generalize numB (t.take 4) = n at *
      by_cases hn : 10000 < n
      · have h1 : ((10000 : Int) < (n : Int)) := by omega
        go_wp2_with (go_at_call 73; refine (HNB.out _).mono ?_; rintro e w1 ⟨rfl, rfl⟩)
        all_goals go_ret2
        all_goals exact HEND.out (by rw [HO1.out, if_pos (.inl hn)]) _ (by repeat (first | exact Ex.refl _ | refine Ex.alloc ?_ _ | refine Ex.ext ?_ _ _ | refine Ex.drew ?_ | refine Ex.drewN ?_ _))
      by_cases hm : t.length < n + 12
      · have h1 : ¬ ((10000 : Int) < (n : Int)) := by omega
        have h2 : decide ((b.length : Int) - (at' : Int) - 12 < (n : Int)) = true := decide_eq_true (by omega)
        go_wp2_with (go_at_call 73; refine (HNB.out _).mono ?_; rintro e w1 ⟨rfl, rfl⟩)
        all_goals go_ret2
        all_goals exact HEND.out (by rw [HO1.out, if_pos (.inr hm)]) _ (by repeat (first | exact Ex.refl _ | refine Ex.alloc ?_ _ | refine Ex.ext ?_ _ _ | refine Ex.drew ?_ | refine Ex.drewN ?_ _))
      have h1 : ¬ ((10000 : Int) < (n : Int)) := by omega
      have h2 : decide ((b.length : Int) - (at' : Int) - 12 < (n : Int)) = false := decide_eq_false (by omega)
      have e8 : (⟨b.toArray⟩ : ByteArray).extract (at' + 8) (at' + 8 + n) = ⟨((t.drop 8).take n).toArray⟩ := by rw [bytes_mid, ← List.drop_drop, hdt]; congr 4; omega
      have e12 : (⟨b.toArray⟩ : ByteArray).extract at' (at' + 12 + n) = ⟨(t.take (n + 12)).toArray⟩ := by rw [bytes_mid, hdt]; congr 4; omega
      have HR := Lib.hid (fun w => recRef_any ((t.drop 8).take n) w (by rw [List.length_take]; omega))
      have hsl : ((t.drop 8).take n).length = n := by rw [List.length_take, List.length_drop]; omega
      have n8 : ((at' : Int) + 8).toNat = at' + 8 := by omega
      have n9 : ((at' : Int) + 8 + (n : Int)).toNat = at' + 8 + n := by omega
      have n12 : ((at' : Int) + 12 + (n : Int)).toNat = at' + 12 + n := by omega
      have w12 : IntKind.i64.wrap ((at' : Int) + 12) = (at' : Int) + 12 := IntWalk.i64_in _ (by omega)
      have w13 : IntKind.i64.wrap ((at' : Int) + 12 + (n : Int)) = (at' : Int) + 12 + (n : Int) := IntWalk.i64_in _ (by omega)
      have b1 : (0 : Int) ≤ (at' : Int) + 8 := by omega
      have b2 : (at' : Int) + 8 ≤ (at' : Int) + 8 + (n : Int) := by omega
      have b3 : (at' : Int) + 8 + (n : Int) ≤ (b.length : Int) := by omega
      have b4 : (at' : Int) ≤ (at' : Int) + 12 + (n : Int) := by omega
      have b5 : (at' : Int) + 12 + (n : Int) ≤ (b.length : Int) := by omega
      have HO2 : Hid (oneL t = if recL ((t.drop 8).take n) = t.take (n + 12) then some ((t.drop 8).take n) else none) := Lib.hid (by rw [HO1.out, if_neg (by omega)])
      have zS := bytes_size ((t.drop 8).take n)
      clear HO1
      generalize (t.drop 8).take n = S at *
      go_wp2_with (go_at_call 73; refine (HNB.out _).mono ?_; rintro e w1 ⟨rfl, rfl⟩)
      refine wp_region_any (by kernel_rfl) ?_
      (try (change wpAny _ _ _ _ _ _ _ (World.drew _)))
      refine wpAny_take (i := 0) (v := ?_) rfl (by kernel_rfl) (by kernel_rfl) (by kernel_rfl) (fun _ _ _ h => h) (Or.inl ⟨by rfl, ?_⟩) ?_
      rotate_left
      focus (intro w; go_simp; (try with_reducible rfl))
      (try simp only [Act.put, List.setIfInBounds_toArray, List.set_cons_zero, List.set_cons_succ])
      refine wpAny_take (i := 2) (v := ?_) rfl (by kernel_rfl) (by kernel_rfl) (by kernel_rfl) (fun _ _ _ h => h) (Or.inl ⟨by rfl, ?_⟩) ?_
      rotate_left
      focus (intro w; go_simp; (try with_reducible rfl))
      (try simp only [Act.put, List.setIfInBounds_toArray, List.set_cons_zero, List.set_cons_succ])
      refine wpAny_take (i := 3) (v := ?_) rfl (by kernel_rfl) (by kernel_rfl) (by kernel_rfl) (fun _ _ _ h => h) (Or.inl ⟨by rfl, ?_⟩) ?_
      rotate_left
      focus (intro w; go_simp; (try with_reducible rfl))
      (try simp only [Act.put, List.setIfInBounds_toArray, List.set_cons_zero, List.set_cons_succ])
      refine wpAny_take (i := 4) (v := ?_) rfl (by kernel_rfl) (by kernel_rfl) (by kernel_rfl) (fun _ _ _ h => h) (Or.inl ⟨by rfl, ?_⟩) ?_
      rotate_left
      focus (intro w; go_simp; (try with_reducible rfl))
      (try simp only [Act.put, List.setIfInBounds_toArray, List.set_cons_zero, List.set_cons_succ])
      refine wpAny_take (i := 5) (v := ?_) rfl (by kernel_rfl) (by kernel_rfl) (by kernel_rfl) (fun _ _ _ h => h) (Or.inl ⟨by rfl, ?_⟩) ?_
      rotate_left
      focus (intro w; go_simp; (try with_reducible rfl))
      (try simp only [Act.put, List.setIfInBounds_toArray, List.set_cons_zero, List.set_cons_succ])
      refine wpAny_take (i := 6) (v := ?_) rfl (by kernel_rfl) (by kernel_rfl) (by kernel_rfl) (fun _ _ _ h => h) (Or.inl ⟨by rfl, ?_⟩) ?_
      rotate_left
      focus (intro w; go_simp; (try with_reducible rfl))
      (try simp only [Act.put, List.setIfInBounds_toArray, List.set_cons_zero, List.set_cons_succ])
      refine wpAny_take (i := 7) (v := ?_) rfl (by kernel_rfl) (by kernel_rfl) (by kernel_rfl) (fun _ _ _ h => h) (Or.inl ⟨by rfl, ?_⟩) ?_
      rotate_left
      focus (intro w; go_simp; (try with_reducible rfl))
      (try simp only [Act.put, List.setIfInBounds_toArray, List.set_cons_zero, List.set_cons_succ])
      refine wpAny_take (i := 8) (v := ?_) rfl (by kernel_rfl) (by kernel_rfl) (by kernel_rfl) (fun _ _ _ h => h) (Or.inl ⟨by rfl, ?_⟩) ?_
      rotate_left
      focus (intro w; go_simp; (try with_reducible rfl))
      (try simp only [Act.put, List.setIfInBounds_toArray, List.set_cons_zero, List.set_cons_succ])
      refine wpAny_ready (rs := [1]) (by kernel_rfl) (by simp) (AllReady.cons rfl (fun K hK => ?_) AllReady.nil)
      go_simp
      refine (HR.out _).mono ?_
      rintro e w1 ⟨rfl, l1, d1, rfl⟩
      (try (refine hK _ _ ?_; clear hK K))
      refine wpAny_ready (rs := [9]) (by kernel_rfl) (by simp) (AllReady.cons rfl (fun K hK => ?_) AllReady.nil)
      go_simp
      refine hK _ _ ?_
      clear hK K
      refine wpAny_done (by kernel_rfl) ?_ _
      generalize hB : (recL S == t.take (n + 12)) = B
      have HB := Lib.hid hB
      clear hB
      cases B with
      | false =>
        go_wp2_with fail
        all_goals go_ret2
        all_goals exact HEND.out (by rw [HO2.out, if_neg (by simpa using HB.out)]) _ (by repeat (first | exact Ex.refl _ | refine Ex.alloc ?_ _ | refine Ex.ext ?_ _ _ | refine Ex.drew ?_ | refine Ex.drewN ?_ _))
      | true =>
        have hO3 : oneL t = some S := by rw [HO2.out, if_pos (by simpa using HB.out)]
        obtain ⟨hs1, hs2, hs3⟩ := oneL_some hO3
        have HS3 := Lib.hid hs3
        have hw : IntKind.i64.wrap ((at' : Int) + 12 + (n : Int)) = (at' : Int) + 12 + (n : Int) := IntWalk.i64_in _ (by omega)
        clear hs3 hO3 e8 e12 HR HO2 HB HEND HNB
        obtain ⟨ao, cap, rfl⟩ := hcz
        go_wp2_with (at_builtin; refine wpList_append_own _ rfl (.tmp 54) (.tmp 56) 39 rfl w.heap.size 9 i0 _ 1 16 Tryd.underlying39 hi0 hz0 hz1 hz2 rfl (by decide) (.slice ao l.length cap) l.length (l.map strV) rfl ?_ _ 1 1 [strV S] rfl rfl ?_ ?_ (by unfold maxLen; omega) (by omega) ?_ ?_; (focus (refine HROW.out.kept (belowGrownBy ?_) (Classical.em _); ((refine Below.trans (Below.refl _ _) ?_; repeat (first | exact Below.refl _ _ | (refine Below.drew ?_) | (refine Below.drewN ?_ _) | (refine Below.ext ?_ (by first | omega | (simp [go_sem]; done) | (simp [go_sem]; omega)) _ _) | (refine Below.alloc ?_ (by first | omega | (simp [go_sem]; done) | (simp [go_sem]; omega)) _) | (refine Below.setCell ?_ (by first | omega | (simp [go_sem]; done) | (simp [go_sem]; omega)) _)))))); (focus exact World.news_of_block (alloc_top (by first | rfl | (simp [ext_size]; done) | (simp [ext_size]; omega)))); (focus simp [Value.oneCell', strV]); (focus (simp [go_sem, ext_size]; omega)); intro v1 w3 hown hgrow hnil; have HOW := Lib.hid hown; have HGR := Lib.hid hgrow; clear hown hgrow hnil)
        go_roundw
        case measure => simp [intOf]; omega
        case rel =>
          refine ⟨l ++ [S], t.drop (S.length + 12), v1, at' + (S.length + 12), rfl, by rw [hsl]; go_num, by rw [recs_len_snoc, ← HAT.out], fun z hz => ?_, ?_, ?_, ?_⟩
          · rw [List.mem_append, List.mem_singleton] at hz
            rcases hz with hz | rfl
            · exact HF.out z hz
            · exact hs1
          · rw [recs_append, recs_one, List.append_assoc, ← HS3.out]; exact HBT.out
          · rw [List.length_append, List.map_append]; exact HOW.out
          · exact Ex.of (Below.grown (HEX.out.trans (show Ex wr (((ext wr.drew l1 d1)).alloc (.cells #[.string ⟨S.toArray⟩] 9)) from (by repeat (first | exact Ex.refl _ | refine Ex.alloc ?_ _ | refine Ex.ext ?_ _ _ | refine Ex.drew ?_ | refine Ex.drewN ?_ _)))).below HGR.out (by simp [go_sem, ext_size]; omega) (fun j hj => (HROW.out.lt j hj).1))
/-- What the document's Recover returns and leaves. -/
def RecRetM (own : Nat → Nat) (i j : Nat) (w : World) (m : Nat) (d : Dk) (e : Ending) (w' : World) : Prop := ∃ v l n, e = .returned v ∧ Reads d.b l n ∧ w'.ownsRow w.heap.size 9 1 v l.length (l.map strV) ∧ ObjTo own i j w (fun o w' => MDk o i w' m ⟨d.b.take n, false, -1⟩) w' ∧ ∀ g, g < w.heap.size → g ≠ m → w'.heap[g]? = w.heap[g]?
set_option maxRecDepth 100000 in
set_option maxHeartbeats 1000000 in
theorem mrecover_any {own : Nat → Nat} {i j : Nat} {w : World} {m : Nat} {d : Dk} (h : MDk own i w m d) : Calls Tryd.prog 40 #[.pointer (some ⟨m, 0, none⟩)] w (RecRetM own i j w m d) := by
  have c0 := h.c0
  have c1 := h.c1
  have c2 := h.c2
  have f0 := h.free 0
  have f1 := h.free 1
  have f2 := h.free 2
  have hp := h.lt
  have hb := h.1
  have zb := bytes_size d.b
  have H := Lib.hid h
  have hRd := Lib.hid (fun w => readTape_any d.b w (by omega))
  clear h
  go_enter Tryd.func40, Tryd.ntmps40
  go_upto_region 2 with (go_at_call 41; refine (hRd.out _).mono ?_; rintro e w1 ⟨⟨v, l, n, rfl, hrd, hrow⟩, l1, d1, rfl⟩)
  have hn := hrd.le
  have HRD := Lib.hid hrd
  have HROW := Lib.hid hrow
  clear hrd hrow
  have a1 : (0 : Int) ≤ (n : Int) := by omega
  have a2 : (n : Int) ≤ (d.b.length : Int) := by omega
  have eh := bytes_head d.b n
  have key : RecRetM own i j w m d (.returned v) (ext (((w.setCell ⟨m, 0, none⟩ (.string ⟨(d.b.take n).toArray⟩)).setCell ⟨m, 1, none⟩ (.bool false)).setCell ⟨m, 2, none⟩ (.int .i64 (-1))) l1 d1) := by
    obtain ⟨t, hr⟩ := H.out.row
    have hl := H.out.lab
    refine ⟨v, l, n, rfl, HRD.out, ?_, H.out.turned (((((Kp.refl _ _ _ _).setCell (fun _ => by rw [Nat.div_one]; exact hl) _).setCell (fun _ => by rw [Nat.div_one]; exact hl) _).setCell (fun _ => by rw [Nat.div_one]; exact hl) _).ext _ _) (by show (d.b.take n).length ≤ _; rw [List.length_take]; omega) ⟨(show (-1 : Int) ≤ -1 by decide), (show (-1 : Int) ≤ 9223372036854775807 by decide)⟩ ⟨t, rowIs_ext ((((hr.set 0 (.string ⟨(d.b.take n).toArray⟩)).set 1 (.bool false)).set 2 (.int .i64 (-1))).congr fun j hj => ?_) _ _⟩, fun g hg hne => by rw [ext_heap_lt _ _ _ _ (by simpa [go_sem] using hg), Below.heap_setCell _ _ _ _ hne, Below.heap_setCell _ _ _ _ hne, Below.heap_setCell _ _ _ _ hne]⟩
    · have e0 := ext_set_lt w l1 d1 m 0 (.string ⟨(d.b.take n).toArray⟩) hp
      have e1 := ext_set_lt (w.setCell ⟨m, 0, none⟩ (.string ⟨(d.b.take n).toArray⟩)) l1 d1 m 1 (.bool false) (by simpa [go_sem] using hp)
      have e2 := ext_set_lt ((w.setCell ⟨m, 0, none⟩ (.string ⟨(d.b.take n).toArray⟩)).setCell ⟨m, 1, none⟩ (.bool false)) l1 d1 m 2 (.int .i64 (-1)) (by simpa [go_sem] using hp)
      rw [← e2, ← e1, ← e0]
      have hbd := owns_bound HROW.out hp
      exact (((HROW.out.kept (grown_cell _ m 0 _) hbd).kept (grown_cell _ m 1 _) hbd).kept (grown_cell _ m 2 _) hbd)
    · have : j = 0 ∨ j = 1 ∨ j = 2 := by omega
      rcases this with rfl | rfl | rfl <;> simp [mdF, dkF, strV]
  have KEY := Lib.hid key
  clear key
  go_wp2_with fail
  all_goals go_ret
  all_goals exact KEY.out
end Go.Proofs.YtfeeibealokhfaaDoor
