import Derived.Test.YtmbboflakfokhaaDoorSide
import Derived.Test.YtmbboflakfokhaaDoorJ17
/- What Fills of package ration, and the document's SameFills, compute. -/
set_option linter.unusedSimpArgs false
set_option linter.unusedVariables false
namespace Go.Proofs.YtmbboflakfokhaaDoor
open Go.RowKit

/-- What lots get at a price. -/
def fillsL (l : List Lot) (price volume seed : Int) : List Fil := sideF (levelsL 0 price l) volume seed ++ sideF (levelsL 1 price l) volume ((seed + 1) % 4294967296)
theorem sideF_len : ∀ (L : List (List Lot)) (m s : Int), (sideF L m s).length ≤ (L.map List.length).sum
  | [], _, _ => Nat.le_refl _
  | lv :: L, m, s => by
    have h1 := takeF_len (servL lv m s) m
    rw [servL_len] at h1
    have h2 := sideF_len L (takeF (servL lv m s) m).2 s
    simp only [sideF, List.map_cons, List.sum_cons]
    split
    · omega
    · rw [List.length_append]; omega
theorem levels_small {side price : Int} {l : List Lot} (h : LotsOk l) : ((levelsL side price l).map List.length).sum ≤ 14400 := by
  have h1 := levelsL_len side price l
  have h2 : ∀ L : List (List Lot), (∀ lv ∈ L, lv.length ≤ 120) → (L.map List.length).sum ≤ 120 * L.length := by
    intro L
    induction L with
    | nil => intro _; simp
    | cons x L ih =>
      intro hm
      have := ih (fun y hy => hm y (by simp [hy]))
      have := hm x (by simp)
      simp only [List.map_cons, List.sum_cons, List.length_cons]
      omega
  have h3 := h2 (levelsL side price l) fun lv hlv => by
    obtain ⟨p, rfl⟩ := levelsL_mem lv hlv
    have := lotsAtP_len side price p l
    have := h.1
    omega
  have := h.1
  omega
theorem fil_len (l : List Fil) : (l.flatMap Fil.cells).length = l.length * 2 := by
  induction l with
  | nil => rfl
  | cons x l ih => rw [List.flatMap_cons, List.length_append, ih, List.length_cons]; simp only [Fil.cells, List.length_cons, List.length_nil]; omega
theorem fil_at : ∀ (l : List Fil) (k i : Nat) (hk : k < l.length), i < 2 → (l.flatMap Fil.cells)[k * 2 + i]? = l[k].cells[i]?
  | x :: l, 0, i, _, hi => by
    rw [List.flatMap_cons, List.getElem?_append_left (by simp only [Fil.cells, List.length_cons, List.length_nil]; omega)]
    simp
  | x :: l, k + 1, i, hk, hi => by
    have e : x.cells.length = 2 := rfl
    rw [List.flatMap_cons, List.getElem?_append_right (by rw [e]; omega), e, show (k + 1) * 2 + i - 2 = k * 2 + i by omega]
    simpa using fil_at l k i (by simpa using hk) hi
theorem fil_one (l : List Fil) : ∀ u ∈ l.flatMap Fil.cells, u.oneCell' = true := by
  intro u hu
  obtain ⟨x, _, hx⟩ := List.mem_flatMap.1 hu
  simp only [Fil.cells, List.mem_cons, List.not_mem_nil, or_false] at hx
  rcases hx with rfl | rfl <;> rfl
/-- How a slice of fills reads. -/
def FillAt (w : World) (ao : Option Addr) (l : List Fil) : Prop := 0 < l.length → ∃ b off, ao = some ⟨b, off, none⟩ ∧ b < w.heap.size ∧ ∀ k (hk : k < l.length) j, j < 2 → w.cell? ⟨b, off + k * 2 + j, none⟩ = l[k].cells[j]?
theorem FillAt.ex {w w' : World} {ao : Option Addr} {l : List Fil} (h : FillAt w ao l) (hx : Ex w w') : FillAt w' ao l := fun h0 => by
  obtain ⟨b, off, e, hb, hc⟩ := h h0
  exact ⟨b, off, e, Nat.lt_of_lt_of_le hb hx.below.size, fun k hk j hj => (hx.below.cell (p := ⟨b, off + k * 2 + j, none⟩) hb).trans (hc k hk j hj)⟩
theorem fills_of_owned {w : World} {base : Nat} {e : TypeId} {v : Value} {n : Nat} {l : List Fil} (hl : l.length = n) (h : w.ownsRow base e 2 v n (l.flatMap Fil.cells)) : ∃ ao cap, v = .slice ao n cap ∧ n ≤ cap ∧ FillAt w ao l := by
  obtain ⟨h1, ⟨rfl, rfl⟩ | ⟨g, cap, cur, rfl, hb, hg, hc, hm, hs, ht⟩⟩ := h
  · exact ⟨none, 0, rfl, Nat.le_refl _, fun h => by omega⟩
  · refine ⟨_, cap, rfl, hc, fun h0 => ⟨g, 0, rfl, (Array.getElem?_eq_some_iff.1 hg).1, fun k hk j hj => ?_⟩⟩
    rw [← fil_at l k j hk hj, ← ht, List.getElem?_take_of_lt (by omega), Nat.zero_add]
    simp [World.cell?, hg]

theorem neq_fil (a b : Int) (w : World) : (binOp .neq 54 (.agg #[.int .i64 a, .int .i64 b]) (.agg #[.int .i64 a, .int .i64 b])).run Tryd.prog w = .ok (.bool false) w := by
  have hS : Tryd.prog.underlying 54 = some (.struct (Tryd.prog.fieldsOf 54)) := by kernel_rfl
  have hp : Tryd.prog.stoodInHeld 54 = false := by kernel_rfl
  rw [run_neq_struct, show (10000 : Nat) = 9999 + 1 from rfl, run_equalIn_agg w 9999 _ _ _ hS hp]
  simp only [Program.fieldsOf, Tryd.underlying54]
  go_simp
set_option maxRecDepth 100000 in
theorem sameFills_any (ao bo : Option Addr) (c1 c2 : Nat) (l : List Fil) (w : World) (h1 : FillAt w ao l) (h2 : FillAt w bo l) (hz : l.length ≤ 100000) :
    Calls Tryd.prog 23 #[.slice ao l.length c1, .slice bo l.length c2] w fun e w' => e = .returned (.bool true) ∧ Ex w w' := by
  have H1 := Lib.hid h1
  have H2 := Lib.hid h2
  clear h1 h2
  go_enter Tryd.func23, Tryd.ntmps23
  go_wp2_with fail
  go_loopw [5] (fun i wr => ∃ (k : Nat), k ≤ l.length ∧ i = .int .i64 k ∧ Ex w wr) (fun i _ => l.length - (intOf i).toNat)
  case atStart => exact ⟨0, Nat.zero_le _, rfl, Ex.refl _⟩
  case round =>
    obtain ⟨k, hk, rfl, l1, d1, rfl⟩ := hrel
    by_cases hlt : k < l.length
    · obtain ⟨b1, o1, rfl, hb1, hc1⟩ := H1.out (by omega)
      obtain ⟨b2, o2, rfl, hb2, hc2⟩ := H2.out (by omega)
      have a1 := hc1 k hlt 0 (by omega)
      have a2 := hc2 k hlt 0 (by omega)
      have a3 := hc1 k hlt 1 (by omega)
      have a4 := hc2 k hlt 1 (by omega)
      generalize l[k] = z at a1 a2 a3 a4
      simp only [Fil.cells, List.getElem?_cons_zero, List.getElem?_cons_succ, Nat.add_zero] at a1 a2 a3 a4
      have hne := fun w => neq_fil z.id z.qty w
      clear hc1 hc2
      go_wp2_with fail
      go_quiet (fail)
      all_goals go_wp2
      all_goals
        go_roundw
        case measure => simp [intOf]; omega
        case rel => exact ⟨k + 1, by omega, by go_num, (by repeat (first | exact Ex.refl _ | refine Ex.alloc ?_ _ | refine Ex.ext ?_ _ _ | refine Ex.drew ?_ | refine Ex.drewN ?_ _))⟩
    · go_wp2
      go_ret
      exact ⟨rfl, (by repeat (first | exact Ex.refl _ | refine Ex.alloc ?_ _ | refine Ex.ext ?_ _ _ | refine Ex.drew ?_ | refine Ex.drewN ?_ _))⟩

set_option maxRecDepth 100000 in
set_option maxHeartbeats 1000000 in
theorem fills_bad (ao : Option Addr) (len cap : Nat) (l : List Lot) (price volume seed : Int) (E : Nat → Addr) (w : World) (hcap : len ≤ cap) (hE : Errs E [2, 3, 7, 8] w) (hl : LotsAt w ao len l) (hok : ¬ LotsOk l) :
    Calls Tryd.prog 40 #[.slice ao len cap, .int .i64 price, .int .i64 volume, .int .u32 seed] w fun e w' => (∃ t x, e = .returned (.tuple #[.slice none 0 0, .iface t x]) ∧ CheckV E w w' l (.iface t x)) ∧ Ex w w' := by
  have HC := Lib.hid (check_any ao len cap l E w hcap (Errs.sub hE (by decide)) hl)
  have HOK := Lib.hid hok
  clear hl hok hE
  go_enter Tryd.func40, Tryd.ntmps40
  go_wp2_with (go_at_call 35; refine HC.out.mono ?_; rintro e w1 ⟨⟨v, rfl, hv⟩, l1, d1, rfl⟩; obtain ⟨u, x, rfl⟩ := CheckV.bad HOK.out hv; have HV := Lib.hid hv; clear hv)
  all_goals go_ret2
  all_goals exact ⟨⟨_, _, rfl, HV.out⟩, (by repeat (first | exact Ex.refl _ | refine Ex.alloc ?_ _ | refine Ex.ext ?_ _ _ | refine Ex.drew ?_ | refine Ex.drewN ?_ _))⟩
set_option maxRecDepth 100000 in
set_option maxHeartbeats 2000000 in
theorem fills_bound (ao : Option Addr) (len cap : Nat) (l : List Lot) (price volume seed : Int) (E : Nat → Addr) (w : World) (hcap : len ≤ cap) (hE : Errs E [2, 3, 7, 8] w) (hl : LotsAt w ao len l) (hok : LotsOk l) (hb : price < 1 ∨ 1000 < price ∨ volume < 0) :
    Calls Tryd.prog 40 #[.slice ao len cap, .int .i64 price, .int .i64 volume, .int .u32 seed] w fun e w' => e = .returned (.tuple #[.slice none 0 0, errV E 2]) ∧ Ex w w' := by
  have e2 : w.cell? ⟨0, 0, none⟩ = some (.iface 160 (.pointer (some (E 2)))) := hE 2 (by decide)
  have b2 : 0 < w.heap.size := lt_of_cell e2
  have HC := Lib.hid (check_any ao len cap l E w hcap (Errs.sub hE (by decide)) hl)
  have HOK := Lib.hid hok
  rw [errV_pos _ _ (by decide)]
  clear hl hok hE
  by_cases h1 : price < 1
  · go_enter Tryd.func40, Tryd.ntmps40
    go_wp2_with (go_at_call 35; refine HC.out.mono ?_; rintro e w1 ⟨⟨v, rfl, hv⟩, l1, d1, rfl⟩; have hvn := CheckV.ok HOK.out hv; clear hv; subst hvn)
    go_quiet (fail)
    go_wp2
    all_goals go_ret2
    all_goals exact ⟨rfl, (by repeat (first | exact Ex.refl _ | refine Ex.alloc ?_ _ | refine Ex.ext ?_ _ _ | refine Ex.drew ?_ | refine Ex.drewN ?_ _))⟩
  by_cases h2 : price > 1000
  · go_enter Tryd.func40, Tryd.ntmps40
    go_wp2_with (go_at_call 35; refine HC.out.mono ?_; rintro e w1 ⟨⟨v, rfl, hv⟩, l1, d1, rfl⟩; have hvn := CheckV.ok HOK.out hv; clear hv; subst hvn)
    go_quiet (fail)
    go_wp2
    all_goals go_ret2
    all_goals exact ⟨rfl, (by repeat (first | exact Ex.refl _ | refine Ex.alloc ?_ _ | refine Ex.ext ?_ _ _ | refine Ex.drew ?_ | refine Ex.drewN ?_ _))⟩
  · have h3 : volume < 0 := by omega
    go_enter Tryd.func40, Tryd.ntmps40
    go_wp2_with (go_at_call 35; refine HC.out.mono ?_; rintro e w1 ⟨⟨v, rfl, hv⟩, l1, d1, rfl⟩; have hvn := CheckV.ok HOK.out hv; clear hv; subst hvn)
    go_quiet (fail)
    go_wp2
    all_goals go_ret2
    all_goals exact ⟨rfl, (by repeat (first | exact Ex.refl _ | refine Ex.alloc ?_ _ | refine Ex.ext ?_ _ _ | refine Ex.drew ?_ | refine Ex.drewN ?_ _))⟩
set_option maxRecDepth 100000 in
set_option maxHeartbeats 2000000 in
theorem fills_shape (ao : Option Addr) (len cap : Nat) (l : List Lot) (price volume seed : Int) (E : Nat → Addr) (w : World) (hcap : len ≤ cap) (hE : Errs E [2, 3, 7, 8] w) (hl : LotsAt w ao len l) (hok : LotsOk l) (p1 : 1 ≤ price) (p2 : price ≤ 1000) (v0 : 0 ≤ volume) (hv : min (dem l price) (sup l price) < volume) :
    Calls Tryd.prog 40 #[.slice ao len cap, .int .i64 price, .int .i64 volume, .int .u32 seed] w fun e w' => e = .returned (.tuple #[.slice none 0 0, errV E 3]) ∧ Ex w w' := by
  have e3 : w.cell? ⟨6, 0, none⟩ = some (.iface 160 (.pointer (some (E 3)))) := hE 3 (by decide)
  have b3 : 6 < w.heap.size := lt_of_cell e3
  have HC := Lib.hid (check_any ao len cap l E w hcap (Errs.sub hE (by decide)) hl)
  have HOK := Lib.hid hok
  have V0 := fun w hE hl => volume_any ao len cap l price E w hcap hE hl
  rw [curveSum_ok hok, curveSum_ok hok] at V0
  change min (sumOf (isDem price) l) (sumOf (isSup price) l) < volume at hv
  generalize min (sumOf (isDem price) l) (sumOf (isSup price) l) = vm at *
  have HV0 := Lib.hid V0
  have HE := Lib.hid (Errs.sub hE (l' := [2, 7, 8]) (by decide))
  have HL := Lib.hid hl
  rw [errV_pos _ _ (by decide)]
  clear hl hok hE V0
  go_enter Tryd.func40, Tryd.ntmps40
  go_wp2_with (first
    | (go_at_call 35; refine HC.out.mono ?_; rintro e w1 ⟨⟨v, rfl, hv⟩, l1, d1, rfl⟩; have hvn := CheckV.ok HOK.out hv; clear hv; subst hvn)
    | (go_at_call 55; refine (HV0.out _ (by exact HE.out.ex (by repeat (first | exact Ex.refl _ | refine Ex.alloc ?_ _ | refine Ex.ext ?_ _ _ | refine Ex.drew ?_ | refine Ex.drewN ?_ _))) (by exact HL.out.ex (by repeat (first | exact Ex.refl _ | refine Ex.alloc ?_ _ | refine Ex.ext ?_ _ _ | refine Ex.drew ?_ | refine Ex.drewN ?_ _)))).mono ?_; rintro e w1 ⟨rfl, l2, d2, rfl⟩))
  go_quiet (fail)
  go_wp2
  all_goals go_ret2
  all_goals exact ⟨rfl, (by repeat (first | exact Ex.refl _ | refine Ex.alloc ?_ _ | refine Ex.ext ?_ _ _ | refine Ex.drew ?_ | refine Ex.drewN ?_ _))⟩
set_option maxRecDepth 100000 in
set_option maxHeartbeats 4000000 in
theorem fills_new (ao : Option Addr) (len cap : Nat) (l : List Lot) (price volume seed : Int) (E : Nat → Addr) (w : World) (hcap : len ≤ cap) (hE : Errs E [2, 3, 7, 8] w) (hl : LotsAt w ao len l) (hok : LotsOk l) (p1 : 1 ≤ price) (p2 : price ≤ 1000) (v0 : 0 ≤ volume) (hv : volume ≤ min (dem l price) (sup l price)) (hs : U32 seed) :
    Calls Tryd.prog 40 #[.slice ao len cap, .int .i64 price, .int .i64 volume, .int .u32 seed] w fun e w' => (∃ ao' cap', e = .returned (.tuple #[.slice ao' (fillsL l price volume seed).length cap', .nilIface]) ∧ (fillsL l price volume seed).length ≤ cap' ∧ FillAt w' ao' (fillsL l price volume seed) ∧ ∀ b off, ao' = some ⟨b, off, none⟩ → w.heap.size ≤ b) ∧ Ex w w' := by
  have HC := Lib.hid (check_any ao len cap l E w hcap (Errs.sub hE (by decide)) hl)
  have HOK := Lib.hid hok
  have V0 := fun w hE hl => volume_any ao len cap l price E w hcap hE hl
  rw [curveSum_ok hok, curveSum_ok hok] at V0
  have hbd := sumOf_bounds (isDem price) l hok.mem
  have h120 := hok.1
  change volume ≤ min (sumOf (isDem price) l) (sumOf (isSup price) l) at hv
  generalize hvm : min (sumOf (isDem price) l) (sumOf (isSup price) l) = vm at *
  have hv6 : volume ≤ 1000000 := by omega
  have HV0 := Lib.hid V0
  have HE := Lib.hid (Errs.sub hE (l' := [2, 7, 8]) (by decide))
  have HL := Lib.hid hl
  have HU := Lib.hid hs
  obtain ⟨hs0, hs1⟩ := hs
  have HU2 : Hid (U32 ((seed + 1) % 4294967296)) := Lib.hid (by unfold U32; omega)
  obtain ⟨iF, hF0, hi⟩ := Option.map_eq_some_iff.1 infoFill
  simp only [Prod.mk.injEq] at hi
  obtain ⟨hFz, hF1, hF2⟩ := hi
  have HFL := Lib.hid (show sideF (levelsL 0 price l) volume seed ++ sideF (levelsL 1 price l) volume ((seed + 1) % 4294967296) = fillsL l price volume seed from rfl)
  have n1 := sideF_len (levelsL 0 price l) volume seed
  have n2 := sideF_len (levelsL 1 price l) volume ((seed + 1) % 4294967296)
  have m1 := levels_small (side := 0) (price := price) hok
  have m2 := levels_small (side := 1) (price := price) hok
  have S1 := fun w hl => side_any ao len cap l 0 price volume seed w hl HOK.out (.inl rfl) HU.out v0 hv6
  have S2 := fun w hl => side_any ao len cap l 1 price volume ((seed + 1) % 4294967296) w hl HOK.out (.inr rfl) HU2.out v0 hv6
  clear hl hok hE V0 hbd hvm
  generalize sideF (levelsL 0 price l) volume seed = A at *
  generalize sideF (levelsL 1 price l) volume ((seed + 1) % 4294967296) = B at *
  generalize fillsL l price volume seed = T at *
  have HS1 := Lib.hid S1
  have HS2 := Lib.hid S2
  clear S1 S2
  go_enter Tryd.func40, Tryd.ntmps40
  go_wp2_with (first
    | (go_at_call 35; refine HC.out.mono ?_; rintro e w1 ⟨⟨v, rfl, hv⟩, l1, d1, rfl⟩; have hvn := CheckV.ok HOK.out hv; clear hv; subst hvn)
    | (go_at_call 55; refine (HV0.out _ (by exact HE.out.ex (by repeat (first | exact Ex.refl _ | refine Ex.alloc ?_ _ | refine Ex.ext ?_ _ _ | refine Ex.drew ?_ | refine Ex.drewN ?_ _))) (by exact HL.out.ex (by repeat (first | exact Ex.refl _ | refine Ex.alloc ?_ _ | refine Ex.ext ?_ _ _ | refine Ex.drew ?_ | refine Ex.drewN ?_ _)))).mono ?_; rintro e w1 ⟨rfl, l2, d2, rfl⟩))
  refine (HS1.out _ (HL.out.ex (by repeat (first | exact Ex.refl _ | refine Ex.alloc ?_ _ | refine Ex.ext ?_ _ _ | refine Ex.drew ?_ | refine Ex.drewN ?_ _)))).mono ?_
  rintro e w2 ⟨⟨va, rfl, ha⟩, hx2⟩
  have HX2 : Hid (Ex w w2) := Lib.hid (Ex.trans (by repeat (first | exact Ex.refl _ | refine Ex.alloc ?_ _ | refine Ex.ext ?_ _ _ | refine Ex.drew ?_ | refine Ex.drewN ?_ _)) hx2)
  have hwz := HX2.out.below.size
  have ha' := owns_mono (base' := w.heap.size) ha (by first | omega | (simp [go_sem]; done) | (simp [go_sem]; omega))
  have HA := Lib.hid ha'
  clear hx2 ha ha'
  go_wp2_with fail
  refine (HS2.out _ (HL.out.ex (HX2.out.trans (by repeat (first | exact Ex.refl _ | refine Ex.alloc ?_ _ | refine Ex.ext ?_ _ _ | refine Ex.drew ?_ | refine Ex.drewN ?_ _))))).mono ?_
  rintro e w3 ⟨⟨vb, rfl, hb⟩, hx3⟩
  have HX3 : Hid (Ex w2 w3) := Lib.hid (Ex.trans (by repeat (first | exact Ex.refl _ | refine Ex.alloc ?_ _ | refine Ex.ext ?_ _ _ | refine Ex.drew ?_ | refine Ex.drewN ?_ _)) hx3)
  have HA3 := Lib.hid (HA.out.kept (Below.grownBy HX3.out.below) (Classical.em _))
  have hwz3 := HX3.out.below.size
  clear hx3
  rcases hb.2 with ⟨rfl, h0⟩ | ⟨g, capb, cur, rfl, hrest⟩
  · have hB0 : B = [] := List.length_eq_zero_iff.1 h0
    subst hB0
    rw [List.append_nil] at HFL
    go_wp2_with (at_builtin; refine wpList_append_own_none rfl (.tmp 39) (.tmp 45) 48 rfl w.heap.size 54 iF 2 Tryd.underlying48 hF0 va _ _ rfl HA3.out rfl ?_)
    all_goals go_ret2
    all_goals
      obtain ⟨ao5, cap5, rfl, hc5, hf5⟩ := fills_of_owned rfl HA3.out
      rw [← HFL.out]
      exact ⟨⟨ao5, cap5, rfl, hc5, hf5, fun b off e => by subst e; exact (HA3.out.lt b rfl).1⟩, HX2.out.trans HX3.out⟩
  · have hcells := hb.cells (g := g) rfl
    have HCL := Lib.hid hcells
    clear hrest hcells hb
    go_wp2_with (at_builtin; refine wpList_append_own _ rfl (.tmp 39) (.tmp 45) 48 rfl w.heap.size 54 iF _ 2 16 Tryd.underlying48 hF0 hFz hF1 hF2 rfl (by decide) va A.length (A.flatMap Fil.cells) rfl HA3.out ⟨g, 0, none⟩ B.length capb (B.flatMap Fil.cells) rfl ?_ HCL.out (fil_one B) (by unfold maxLen; omega) (by omega) ?_ ?_; (focus exact fil_len B); (focus omega); intro v4 w4 hown4 hgr4 _)
    all_goals go_ret2
    all_goals
      have hown5 : w4.ownsRow w.heap.size 54 2 v4 (A ++ B).length ((A ++ B).flatMap Fil.cells) := by rw [List.length_append, List.flatMap_append]; exact hown4
      obtain ⟨ao5, cap5, rfl, hc5, hf5⟩ := fills_of_owned rfl hown5
      rw [← HFL.out]
      exact ⟨⟨ao5, cap5, rfl, hc5, hf5, fun b off e => by subst e; exact (hown5.lt b rfl).1⟩, Ex.of (Below.grown (HX2.out.trans HX3.out).below hgr4 (by omega) (fun b hb => (HA3.out.lt b hb).1))⟩
theorem fills_ok (ao : Option Addr) (len cap : Nat) (l : List Lot) (price volume seed : Int) (E : Nat → Addr) (w : World) (hcap : len ≤ cap) (hE : Errs E [2, 3, 7, 8] w) (hl : LotsAt w ao len l) (hok : LotsOk l) (p1 : 1 ≤ price) (p2 : price ≤ 1000) (v0 : 0 ≤ volume) (hv : volume ≤ min (dem l price) (sup l price)) (hs : U32 seed) :
    Calls Tryd.prog 40 #[.slice ao len cap, .int .i64 price, .int .i64 volume, .int .u32 seed] w fun e w' => (∃ ao' cap', e = .returned (.tuple #[.slice ao' (fillsL l price volume seed).length cap', .nilIface]) ∧ (fillsL l price volume seed).length ≤ cap' ∧ FillAt w' ao' (fillsL l price volume seed)) ∧ Ex w w' :=
  (fills_new ao len cap l price volume seed E w hcap hE hl hok p1 p2 v0 hv hs).mono fun e w' ⟨⟨ao', cap', h1, h2, h3, _⟩, hx⟩ => ⟨⟨ao', cap', h1, h2, h3⟩, hx⟩
theorem fills_small {l : List Lot} (hok : LotsOk l) (price volume seed : Int) : (fillsL l price volume seed).length ≤ 100000 := by
  have n1 := sideF_len (levelsL 0 price l) volume seed
  have n2 := sideF_len (levelsL 1 price l) volume ((seed + 1) % 4294967296)
  have m1 := levels_small (side := 0) (price := price) hok
  have m2 := levels_small (side := 1) (price := price) hok
  rw [fillsL, List.length_append]
  omega
end Go.Proofs.YtmbboflakfokhaaDoor
