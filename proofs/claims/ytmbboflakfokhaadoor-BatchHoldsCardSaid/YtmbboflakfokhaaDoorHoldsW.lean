import Derived.Test.YtmbboflakfokhaaDoorJ43
import Derived.Test.YtmbboflakfokhaaDoorJ46
import Derived.Test.YtmbboflakfokhaaDoorJ37
import Derived.Test.YtmbboflakfokhaaDoorStillLaw
/- The walk of BatchHolds. -/
set_option linter.unusedSimpArgs false
set_option linter.unusedVariables false
namespace Go.Proofs.YtmbboflakfokhaaDoor
open Go.RowKit

theorem neTri (x y z : Int) (w : World) : (binOp .neq 41 (.agg #[.int .i64 x, .int .i64 y, .int .i64 z]) (.agg #[.int .i64 x, .int .i64 y, .int .i64 z])).run Tryd.prog w = .ok (.bool false) w := by
  have h := equalInTri 9998 x y z x y z w
  rw [run_neq_struct, h]
  simp
theorem zeroWant (w : World) : (zeroValue 72).run Tryd.prog w = .ok (.agg (Array.replicate 48 (.int .i64 0))) w := by kernel_rfl
section
variable {own : Nat → Nat} {c k : Nat} {w w0 W W' : World} {A : FlA} {st : FSt} {E : Nat → Addr} {cs : List Bl} {T : Nat → Prop}
theorem FlX.cancel (X : FlX own c w A st E LE cs T W) (hO : FOk st) (a : Ask) :
    Calls Tryd.prog 22 #[.pointer (some ⟨A.f, 0, none⟩), a.val] W fun e w' => e = .returned (.tuple #[(fcancelR st a).1.val, errV E (fcancelR st a).2.1]) ∧ FlX own c w A (fcancelR st a).2.2 E LE cs T w' :=
  X.call fun o h hE hg => fcancel_any h hO (hE.sub (by decide)) (fun n hn => hg n (hn.sub (by decide))) a
theorem FlX.drop (X : FlX own c w A st E LE cs T W) (hO : FOk st) (client : Int) :
    Calls Tryd.prog 24 #[.pointer (some ⟨A.f, 0, none⟩), .int .i64 client] W fun e w' => (∃ v, e = .returned v) ∧ FlX own c w A (fdropR st client).2 E LE cs T w' :=
  X.call fun o h hE hg => (fdrop_any h hO (hE.sub (by decide)) (fun n hn => hg n (hn.sub (by decide))) client).mono fun e w' ⟨v, he, _, k1, o2, k2, k3, _⟩ => ⟨⟨v, he⟩, k1, o2, k2, k3⟩
/-- Run of any item. -/
theorem FlX.runAny (X : FlX own c w A st E LE cs NoT W) (hO : FOk st) (item seed : Int) (hs : U32 seed) :
    Calls Tryd.prog 16 #[.pointer (some ⟨A.f, 0, none⟩), .int .i64 item, .int .u32 seed] W fun e w' => (∃ r er, e = .returned (.tuple #[r, er])) ∧ FlX own c w A (runAnyS st item A.wd A.hl seed) E LE cs NoT w' := by
  by_cases hi : inR item 0 2 = true
  · obtain ⟨a, b⟩ := inR_iff.1 hi
    obtain ⟨k, rfl⟩ : ∃ k : Nat, item = k := ⟨item.toNat, by omega⟩
    have e2 : runAnyS st (k : Int) A.wd A.hl seed = runS st k A.wd A.hl seed := by unfold runAnyS; rw [if_pos hi, Int.toNat_natCast]
    rw [e2]
    refine (X.run hO (by omega : k < 3) seed hs).mono fun e w' ⟨ao, cap, he, _, _, hX, _⟩ => ⟨⟨_, _, he⟩, hX.less (fun t ht => ht) (fun n hn => hn.elim)⟩
  · have hi2 : inR item 0 2 = false := by simpa using hi
    have e2 : runAnyS st item A.wd A.hl seed = st := by unfold runAnyS; rw [if_neg hi]
    rw [e2]
    exact (frun_bad _ item seed hi2 E W (X.errs.sub (by decide))).mono fun e w' ⟨he, hx⟩ => ⟨⟨_, _, he⟩, X.later hx⟩
/-- The floor beside an array of the law's own. -/
structure HArr (own : Nat → Nat) (c : Nat) (w : World) (A : FlA) (st : FSt) (E : Nat → Addr) (q : Nat) (P : Pu) (W : World) : Prop where
  fl : FlX own c w A st E LE [] (fun n => n = q) W
  row : PRow W q 72 P
  low : w.heap.size ≤ q
theorem HArr.later {q : Nat} {P : Pu} (h : HArr own c w A st E q P W) (hx : Ex W W') : HArr own c w A st E q P W' := ⟨h.fl.later hx, h.row.of_block (hx.below.block q h.row.lt), h.low⟩
theorem HArr.set8 {q : Nat} {P Q : Pu} (h : HArr own c w A st E q P W) (o : Nat) (z0 z1 z2 z3 z4 z5 z6 z7 : Int) (e : ∀ d k, k < 8 → P.put o (vec8 z0 z1 z2 z3 z4 z5 z6 z7) d k = Q d k) :
    HArr own c w A st E q Q ((((((((W.setCell ⟨q, o * 8, none⟩ (.int .i64 z0)).setCell ⟨q, o * 8 + 1, none⟩ (.int .i64 z1)).setCell ⟨q, o * 8 + 2, none⟩ (.int .i64 z2)).setCell ⟨q, o * 8 + 3, none⟩ (.int .i64 z3)).setCell ⟨q, o * 8 + 4, none⟩ (.int .i64 z4)).setCell ⟨q, o * 8 + 5, none⟩ (.int .i64 z5)).setCell ⟨q, o * 8 + 6, none⟩ (.int .i64 z6)).setCell ⟨q, o * 8 + 7, none⟩ (.int .i64 z7)) :=
  ⟨h.fl.grown (row := some q) (grownBy_set (grownBy_set (grownBy_set (grownBy_set (grownBy_set (grownBy_set (grownBy_set (grownBy_set (grownBy_self _ _) _ _) _ _) _ _) _ _) _ _) _ _) _ _) _ _) (fun b hb => by cases hb; exact ⟨rfl, h.low, fun t ht => by cases ht⟩) (fun n hn => .inl hn), (PRow.set8 h.row o z0 z1 z2 z3 z4 z5 z6 z7).congr e, h.low⟩
theorem HArr.cell {q : Nat} {P : Pu} (h : HArr own c w A st E q P W) {d j : Nat} (hd : d < 6) (hj : j < 8) : W.cell? ⟨q, d * 8 + j, none⟩ = some (.int .i64 (P d j)) := PRow.cell h.row hd hj
theorem set8_block (w : World) (p c : Nat) (z0 z1 z2 z3 z4 z5 z6 z7 : Int) {k : Nat} (hk : k ≠ p) :
    ((((((((w.setCell ⟨p, c * 8, none⟩ (.int .i64 z0)).setCell ⟨p, c * 8 + 1, none⟩ (.int .i64 z1)).setCell ⟨p, c * 8 + 2, none⟩ (.int .i64 z2)).setCell ⟨p, c * 8 + 3, none⟩ (.int .i64 z3)).setCell ⟨p, c * 8 + 4, none⟩ (.int .i64 z4)).setCell ⟨p, c * 8 + 5, none⟩ (.int .i64 z5)).setCell ⟨p, c * 8 + 6, none⟩ (.int .i64 z6)).setCell ⟨p, c * 8 + 7, none⟩ (.int .i64 z7)).heap[k]? = w.heap[k]? :=
  put8_block w p c (vec8 z0 z1 z2 z3 z4 z5 z6 z7) hk
theorem put_vec {P R : Pu} {c : Nat} (h : ∀ e, e ≠ c → ∀ j, R e j = P e j) (e j : Nat) (hj : j < 8) : P.put c (vec8 (R c 0) (R c 1) (R c 2) (R c 3) (R c 4) (R c 5) (R c 6) (R c 7)) e j = R e j := by
  by_cases he : e = c
  · subst he
    rcases lt8 hj with rfl | rfl | rfl | rfl | rfl | rfl | rfl | rfl <;> simp [Pu.put, vec8]
  · rw [h e he]
    simp [Pu.put, he]
set_option maxRecDepth 100000 in
set_option maxHeartbeats 16000000 in
theorem batchHolds_in (ao : Option Addr) (len cap : Nat) (l : List Do) (E : Nat → Addr) (w : World) (hE : Errs E LE w) (hA : DosAt w ao len l) (hlen : len ≤ 60) :
    Calls Tryd.prog 6 #[.slice ao len cap] w fun e w' => e = .returned (.bool true) ∧ Ex w w' := by
  obtain ⟨hL, _, hwf, hz⟩ := hA
  have HZ := Lib.hid hz
  have HL := Lib.hid hL
  have HWF := Lib.hid hwf
  have HE := Lib.hid hE
  have HFL := Lib.hid (fun w hE => floored_any E w hE)
  have hb1 : decide ((60 : Int) < (len : Int)) = false := decide_eq_false (by omega)
  clear hz hL hwf hE
  go_enter Tryd.func6, Tryd.ntmps6
  go_wp2_with (go_at_call 7; refine (HFL.out _ (by exact HE.out.ex (by repeat (first | exact Ex.refl _ | refine Ex.alloc ?_ _ | refine Ex.ext ?_ _ _ | refine Ex.drew ?_ | refine Ex.drewN ?_ _)))).mono ?_; rintro e wf ⟨rfl, lf, df, rfl⟩)
  have hxf : Ex w (ext w lf df) := (by repeat (first | exact Ex.refl _ | refine Ex.alloc ?_ _ | refine Ex.ext ?_ _ _ | refine Ex.drew ?_ | refine Ex.drewN ?_ _))
  refine (fnew_ok (own := fun _ => 8) (c := 0) 20 2 100 20000 100 ((HE.out.ex (by repeat (first | exact Ex.refl _ | refine Ex.alloc ?_ _ | refine Ex.ext ?_ _ _ | refine Ex.drew ?_ | refine Ex.drewN ?_ _))).sub (by decide)) (fun n _ => by decide) (by decide) (by decide) (by decide) (by decide) (by decide) (by decide) (by decide) (by decide) (by decide) (by decide)).mono ?_
  rintro e w1 ⟨A, o, rfl, hF, hwd, hhl, ho, hx1⟩
  have hX : FlX o 0 w1 A (newSt 100 20000 100) E LE [] NoT w1 := FlX.start hF ((HE.out.ex hxf).ex hx1) (fun n ⟨e, he, hn⟩ => by
    have hlt := lt_of_cell ((HE.out.ex hxf) e he)
    rw [hn, ho _ hlt]
    show 8 / 8 ≠ 0
    decide) (fun n hn => hn.elim)
  have HX := Lib.hid hX
  have HX1 := Lib.hid (hxf.trans hx1)
  have HLO := Lib.hid (show ∀ n, n < w.heap.size → o n / 8 ≠ 0 from fun n hn => by rw [ho n (Nat.lt_of_lt_of_le hn hxf.below.size)]; show 8 / 8 ≠ 0; decide)
  have hhl2 : 1 ≤ A.hl ∧ A.hl ≤ 1000 := by rw [hhl]; decide
  have HO : Hid (FOk (newSt 100 20000 100)) := Lib.hid (FOk.new (by decide) (by decide) (by decide) (by decide) (by decide) (by decide))
  have HHL := Lib.hid hhl2
  clear hF hX hx1 ho hwd hhl hxf hhl2
  go_wp2_with fail
  go_loopw [6, 7] (fun r i wr => ∃ (n q : Nat) (st : FSt), n ≤ len ∧ q ≤ n ∧ i = .int .i64 n ∧ r = .int .i64 q ∧ FOk st ∧ FlX o 0 w1 A st E LE [] NoT wr) (fun _ i _ => len - (intOf i).toNat)
  case atStart => exact ⟨0, 0, _, by omega, by omega, rfl, rfl, HO.out, HX.out⟩
  case round =>
    obtain ⟨n, q, st, hn, hq, rfl, rfl, hO, hX⟩ := hrel
    have hxw : Ex w wr := hX.ex0 HX1.out HLO.out
    have HXW := Lib.hid hxw
    have HO2 := Lib.hid hO
    have HX2 := Lib.hid hX
    clear hO hX hxw HX HO
    by_cases hlt : n < len
    · obtain ⟨b, off, rfl, hbs, hzz⟩ := HZ.out (by omega)
      have hzk := hzz n (by rw [HL.out]; exact hlt)
      have hwa := HWF.out _ (List.getElem_mem (by rw [HL.out]; exact hlt : n < l.length))
      clear hzz
      have h10 := hzk 10 (by omega)
      have h11 := hzk 11 (by omega)
      have hcx : ∀ j, j < 12 → wr.cell? ⟨b, off + n * 12 + j, none⟩ = (l[n]'(by rw [HL.out]; exact hlt)).cells[j]? := fun j hj => (HXW.out.below.cell (p := ⟨b, off + n * 12 + j, none⟩) hbs).trans (hzk j hj)
      clear hzk
      generalize l[n]'(by rw [HL.out]; exact hlt) = a at hcx hwa h10 h11
      have a0 := hcx 0 (by omega)
      have a1 := hcx 1 (by omega)
      have a2 := hcx 2 (by omega)
      have a3 := hcx 3 (by omega)
      have a4 := hcx 4 (by omega)
      have a5 := hcx 5 (by omega)
      have a6 := hcx 6 (by omega)
      have a7 := hcx 7 (by omega)
      have a8 := hcx 8 (by omega)
      have a9 := hcx 9 (by omega)
      have a10 := hcx 10 (by omega)
      have a11 := hcx 11 (by omega)
      simp only [Do.cells, List.getElem?_cons_zero, List.getElem?_cons_succ, Nat.add_zero] at a0 a1 a2 a3 a4 a5 a6 a7 a8 a9 a10 a11 h10 h11
      have c10 := h10
      have c11 := h11
      clear h10 h11
      have hbr : b < wr.heap.size := lt_of_cell a0
      have hu : U32 a.seed := by have := hwa.2.2.2.2; unfold U32; omega
      clear hcx hwa
      by_cases hp : (a.kind.toList == [112, 108, 97, 99, 101]) = true
      · as_aux_lemma =>
        have HPL := Lib.hid (HX2.out.place a.a)
        go_wp2_with (go_at_call 9; refine HPL.out.mono ?_; rintro e w2 ⟨rfl, hX3, _⟩)
        all_goals
          go_roundw
          case measure => simp [intOf]; omega
          case rel => exact ⟨n + 1, q, _, by omega, by omega, by go_num, rfl, HO2.out.fplace a.a, hX3⟩
      · by_cases hc : (a.kind.toList == [99, 97, 110, 99, 101, 108]) = true
        · as_aux_lemma =>
          have HPL := Lib.hid (HX2.out.cancel HO2.out a.a)
          go_wp2_with (go_at_call 22; refine HPL.out.mono ?_; rintro e w2 ⟨rfl, hX3⟩)
          all_goals
            go_roundw
            case measure => simp [intOf]; omega
            case rel => exact ⟨n + 1, q, _, by omega, by omega, by go_num, rfl, HO2.out.fcancel a.a, hX3⟩
        · by_cases hd : (a.kind.toList == [100, 114, 111, 112]) = true
          · as_aux_lemma =>
            have HPL := Lib.hid (HX2.out.drop HO2.out a.client)
            go_wp2_with (go_at_call 24; refine HPL.out.mono ?_; rintro e w2 ⟨⟨v, rfl⟩, hX3⟩)
            all_goals
              go_roundw
              case measure => simp [intOf]; omega
              case rel => exact ⟨n + 1, q, _, by omega, by omega, by go_num, rfl, HO2.out.fdrop a.client, hX3⟩
          · as_aux_lemma =>
            by_cases hq9 : 15 < q + 1
            · go_wp2_with fail
              all_goals go_ret
              all_goals exact ⟨rfl, HXW.out.trans (by repeat (first | (with_reducible exact Ex.refl _) | (with_reducible refine Ex.alloc ?_ _) | (with_reducible refine Ex.ext ?_ _ _) | (with_reducible refine Ex.drew ?_) | (with_reducible refine Ex.drewN ?_ _)))⟩
            · have HRN := Lib.hid (fun W (hx : Ex wr W) => (HX2.out.later hx).runAny HO2.out a.item a.seed hu)
              have HRF := Lib.hid (HO2.out.runAny HX2.out.fl.pinv (wd := A.wd) HHL.out a.item a.seed)
              go_wp2_with fail
              go_region_held3 (fun W => W.cell? ⟨b, off + n * 12 + 10, none⟩ = some (.int .i64 a.item) ∧ W.cell? ⟨b, off + n * 12 + 11, none⟩ = some (.int .u32 a.seed)) ((first | exact ⟨a10, a11⟩ | exact ⟨b10, b11⟩)) ((go_at_call 16; ((with_reducible refine (HRN.out _ ?_).mono ?_)); (focus exact (by repeat (first | (with_reducible exact Ex.refl _) | (with_reducible refine Ex.alloc ?_ _) | (with_reducible refine Ex.ext ?_ _ _) | (with_reducible refine Ex.drew ?_) | (with_reducible refine Ex.drewN ?_ _)))); rintro e w2 ⟨⟨r, er, rfl⟩, hX3⟩; have hx2 := hX3.ex0 HX1.out HLO.out; have b10 := (hx2.below.cell (p := ⟨b, off + n * 12 + 10, none⟩) hbs).trans c10; have b11 := (hx2.below.cell (p := ⟨b, off + n * 12 + 11, none⟩) hbs).trans c11; clear hx2))
              all_goals go_wp2_with fail
              all_goals
                go_roundw
                case measure => simp [intOf]; omega
                case rel => exact ⟨n + 1, q + 1, _, by omega, by omega, by go_num, by go_num, HRF.out, hX3⟩
    · obtain rfl : n = len := by omega
      have HWFB : Hid (∀ i, i < 3 → ∀ a ∈ st.b i, a.wf) := Lib.hid (fun i hi => by obtain ⟨o', h'⟩ := HX2.out.fl.at; exact (h'.book i hi).2.1)
      go_upto_region 23 with (with_reducible refine wpList_alloc_row rfl 72 rfl _ (Array.replicate 48 (.int .i64 0)) zeroWant (by kernel_rfl) ?_)
      have hrow0 := World.rowIs_alloc wr (Array.replicate 48 (Value.int .i64 0)) 72 (fun n => .int .i64 0) (fun j hj => by simp at hj; simp [hj])
      refine wp_world (R := fun W => HArr o 0 w1 A st E wr.heap.size (wantP st.b 0 0) W) ⟨HX2.out.addT ((Ex.refl _).alloc _) (fun n hn => by subst hn; exact ⟨Nat.le_refl _, by simp⟩), (by rw [want_zero]; simpa using hrow0), HX2.out.size⟩ ?_
      have HEX0 := Lib.hid HXW.out
      clear hrow0 HX2
      generalize wr.heap.size = q at *
      rintro W hH
      have HH := Lib.hid hH
      clear hH
      go_wp2_with fail
      go_loopw [9] (fun i wr => ∃ d : Nat, d ≤ 3 ∧ i = .int .i64 (d : Int) ∧ HArr o 0 w1 A st E q (wantP st.b d 0) wr) (fun i _ => 3 - (intOf i).toNat)
      case atStart => exact ⟨0, by omega, rfl, HH.out.later (by repeat (first | (with_reducible exact Ex.refl _) | (with_reducible refine Ex.alloc ?_ _) | (with_reducible refine Ex.ext ?_ _ _) | (with_reducible refine Ex.drew ?_) | (with_reducible refine Ex.drewN ?_ _)))⟩
      case round =>
        obtain ⟨d, hd, rfl, hH⟩ := hrel
        have HH2 := Lib.hid hH
        clear hH HH
        by_cases hd3 : d < 3
        · have hlen6 : (st.b d).length ≤ 60 := (HO2.out.book d hd3).len
          go_wp2_with fail
          refine ((HH2.out.fl.later (by repeat (first | (with_reducible exact Ex.refl _) | (with_reducible refine Ex.alloc ?_ _) | (with_reducible refine Ex.ext ?_ _ _) | (with_reducible refine Ex.drew ?_) | (with_reducible refine Ex.drewN ?_ _)))).read (fun o h => fbook_in h d hd3)).mono ?_
          rintro e w5 ⟨rfl, l5, d5, rfl⟩
          go_wp2_with fail
          refine ((HH2.out.fl.later (by repeat (first | (with_reducible exact Ex.refl _) | (with_reducible refine Ex.alloc ?_ _) | (with_reducible refine Ex.ext ?_ _ _) | (with_reducible refine Ex.drew ?_) | (with_reducible refine Ex.drewN ?_ _)))).readB hd3 (fun o i h => lots_any h)).mono ?_
          rintro e w6 ⟨⟨v, rfl, hv⟩, hx6⟩
          obtain ⟨wo, wc, rfl, ⟨hc1, hc2, hc3⟩, hLA⟩ := lots_of_owned (HWFB.out d hd3) (by omega) rfl hv
          have hqs := HH2.out.row.lt
          have HNE := Lib.hid (show ∀ g off, wo = some ⟨g, off, none⟩ → g ≠ q from fun g off e => by
            have h1 := (hv.lt g (by rw [e]; rfl)).1
            have h2 := (show Ex wr (ext wr l5 d5) from (by repeat (first | (with_reducible exact Ex.refl _) | (with_reducible refine Ex.alloc ?_ _) | (with_reducible refine Ex.ext ?_ _ _) | (with_reducible refine Ex.drew ?_) | (with_reducible refine Ex.drewN ?_ _)))).below.size
            omega)
          have HH6 := Lib.hid (HH2.out.later (Ex.trans (by repeat (first | (with_reducible exact Ex.refl _) | (with_reducible refine Ex.alloc ?_ _) | (with_reducible refine Ex.ext ?_ _ _) | (with_reducible refine Ex.drew ?_) | (with_reducible refine Ex.drewN ?_ _))) hx6))
          have HLA := Lib.hid hLA
          clear hv hx6 hLA hqs HH2
          go_wp2_with fail
          go_loopw [11] (fun i wi => ∃ k : Nat, k ≤ (st.b d).length ∧ i = .int .i64 (k : Int) ∧ HArr o 0 w1 A st E q (wantP st.b d k) wi ∧ LotsAt wi wo (st.b d).length (st.b d)) (fun i _ => (st.b d).length - (intOf i).toNat)
          case atStart => exact ⟨0, Nat.zero_le _, rfl, HH6.out.later (by repeat (first | (with_reducible exact Ex.refl _) | (with_reducible refine Ex.alloc ?_ _) | (with_reducible refine Ex.ext ?_ _ _) | (with_reducible refine Ex.drew ?_) | (with_reducible refine Ex.drewN ?_ _))), HLA.out.ex (by repeat (first | (with_reducible exact Ex.refl _) | (with_reducible refine Ex.alloc ?_ _) | (with_reducible refine Ex.ext ?_ _ _) | (with_reducible refine Ex.drew ?_) | (with_reducible refine Ex.drewN ?_ _)))⟩
          case round =>
            obtain ⟨k, hk, rfl, hH, hLA⟩ := hrel
            have HH7 := Lib.hid hH
            have HLA7 := Lib.hid hLA
            clear HH6 HLA
            by_cases hlk : k < (st.b d).length
            · obtain ⟨g, off, rfl, hg, hcc⟩ := hLA.2.2.2 (by omega)
              have hne := HNE.out g off rfl
              have a1 := hcc k hlk 1 (by omega)
              have a2 := hcc k hlk 2 (by omega)
              have a3 := hcc k hlk 3 (by omega)
              have a4 := hcc k hlk 4 (by omega)
              simp only [Lot.cells, List.getElem?_cons_zero, List.getElem?_cons_succ, Nat.add_zero] at a1 a2 a3 a4
              obtain ⟨o1, o2, o3, o4, o5⟩ := Lot.okC ((HO2.out.book d hd3).ok _ (List.getElem_mem hlk))
              obtain ⟨c, hc⟩ : ∃ c : Nat, (st.b d)[k].owner = (c : Int) := ⟨(st.b d)[k].owner.toNat, by omega⟩
              have HST := Lib.hid (want_step st.b d k hlk c hc)
              have hw1 := want_bd HO2.out (k := k) hd3 c 1
              have hw2 := want_bd HO2.out (k := k) hd3 c (5 + d)
              rw [hc] at a1 o2
              have hc6 : c < 6 := by omega
              have hqz := hH.row.lt
              have v0 := hH.cell hc6 (j := 0) (by omega)
              have v1 := hH.cell hc6 (j := 1) (by omega)
              have v2 := hH.cell hc6 (j := 2) (by omega)
              have v3 := hH.cell hc6 (j := 3) (by omega)
              have v4 := hH.cell hc6 (j := 4) (by omega)
              have v5 := hH.cell hc6 (j := 5) (by omega)
              have v6 := hH.cell hc6 (j := 6) (by omega)
              have v7 := hH.cell hc6 (j := 7) (by omega)
              have vf := fun n => World.rowIs.frozen hH.row n
              simp only [Nat.add_zero] at v0
              have hm := mul_bd o4.1 o4.2 o5.1 o5.2
              clear hcc hc hH hLA
              generalize wantP st.b d k = P at *
              generalize (st.b d)[k].side = side at *
              generalize (st.b d)[k].price = price at *
              generalize (st.b d)[k].qty = qty at *
              have c60 : (c : Int) < 6 := by omega
              have k1 : IntKind.i64.wrap (price * qty) = price * qty := IntWalk.i64_in _ (by omega)
              have k2 : IntKind.i64.wrap (P c 1 + price * qty) = P c 1 + price * qty := IntWalk.i64_in _ (by omega)
              have k3 : IntKind.i64.wrap (P c (5 + d) + qty) = P c (5 + d) + qty := IntWalk.i64_in _ (by omega)
              by_cases hs : side = 0
              · subst hs
                rw [if_pos rfl] at HST
                go_upto_region 32 with fail
                go_region
                go_upto_region 34 with fail
                go_region
                all_goals go_wp2_with fail
                all_goals
                  go_roundw
                  case measure => simp [intOf]; omega
                  case rel => exact ⟨k + 1, by omega, by go_num, by rw [HST.out]; exact HArr.later (HH7.out.set8 (Q := P.set c 1 (P c 1 + price * qty)) c (P c 0) (P c 1 + price * qty) (P c 2) (P c 3) (P c 4) (P c 5) (P c 6) (P c 7) (heq_set rfl rfl rfl rfl rfl rfl rfl rfl)) (by repeat (first | (with_reducible exact Ex.refl _) | (with_reducible refine Ex.alloc ?_ _) | (with_reducible refine Ex.ext ?_ _ _) | (with_reducible refine Ex.drew ?_) | (with_reducible refine Ex.drewN ?_ _))), LotsAt.ex (HLA7.out.other2 (fun g' off' e => by cases e; exact set8_block wr q c (P c 0) (P c 1 + price * qty) (P c 2) (P c 3) (P c 4) (P c 5) (P c 6) (P c 7) hne)) (by repeat (first | (with_reducible exact Ex.refl _) | (with_reducible refine Ex.alloc ?_ _) | (with_reducible refine Ex.ext ?_ _ _) | (with_reducible refine Ex.drew ?_) | (with_reducible refine Ex.drewN ?_ _)))⟩
              · rw [if_neg hs] at HST
                have hs' : (side == 0) = false := by simpa using hs
                have hbx : (#[Value.int .i64 (P c 0), Value.int .i64 (P c 1), Value.int .i64 (P c 2), Value.int .i64 (P c 3), Value.int .i64 (P c 4), Value.int .i64 (P c 5), Value.int .i64 (P c 6), Value.int .i64 (P c 7)] : Array Value)[5 + d]? = some (Value.int .i64 (P c (5 + d))) := by
                  have : d = 0 ∨ d = 1 ∨ d = 2 := by omega
                  rcases this with rfl | rfl | rfl <;> rfl
                go_upto_region 33 with fail
                go_region
                go_upto_region 34 with fail
                have hset : [Value.int .i64 (P c 0), Value.int .i64 (P c 1), Value.int .i64 (P c 2), Value.int .i64 (P c 3), Value.int .i64 (P c 4), Value.int .i64 (P c 5), Value.int .i64 (P c 6), Value.int .i64 (P c 7)].set (5 + d) (Value.int .i64 (P c (5 + d) + qty)) = [Value.int .i64 (P.set c (5 + d) (P c (5 + d) + qty) c 0), Value.int .i64 (P.set c (5 + d) (P c (5 + d) + qty) c 1), Value.int .i64 (P.set c (5 + d) (P c (5 + d) + qty) c 2), Value.int .i64 (P.set c (5 + d) (P c (5 + d) + qty) c 3), Value.int .i64 (P.set c (5 + d) (P c (5 + d) + qty) c 4), Value.int .i64 (P.set c (5 + d) (P c (5 + d) + qty) c 5), Value.int .i64 (P.set c (5 + d) (P c (5 + d) + qty) c 6), Value.int .i64 (P.set c (5 + d) (P c (5 + d) + qty) c 7)] := by
                  have : d = 0 ∨ d = 1 ∨ d = 2 := by omega
                  rcases this with rfl | rfl | rfl <;> simp [Pu.set]
                rw [hset]
                have HPU := Lib.hid (fun e j hj => put_vec (P := P) (R := P.set c (5 + d) (P c (5 + d) + qty)) (c := c) (fun e he j => if_neg (fun h => he h.1)) e j hj)
                clear hset hbx
                generalize P.set c (5 + d) (P c (5 + d) + qty) = R at *
                go_region
                all_goals go_wp2_with fail
                all_goals
                  go_roundw
                  case measure => simp [intOf]; omega
                  case rel => exact ⟨k + 1, by omega, by go_num, by rw [HST.out]; exact HArr.later (HH7.out.set8 (Q := R) c (R c 0) (R c 1) (R c 2) (R c 3) (R c 4) (R c 5) (R c 6) (R c 7) HPU.out) (by repeat (first | (with_reducible exact Ex.refl _) | (with_reducible refine Ex.alloc ?_ _) | (with_reducible refine Ex.ext ?_ _ _) | (with_reducible refine Ex.drew ?_) | (with_reducible refine Ex.drewN ?_ _))), LotsAt.ex (HLA7.out.other2 (fun g' off' e => by cases e; exact set8_block wr q c (R c 0) (R c 1) (R c 2) (R c 3) (R c 4) (R c 5) (R c 6) (R c 7) hne)) (by repeat (first | (with_reducible exact Ex.refl _) | (with_reducible refine Ex.alloc ?_ _) | (with_reducible refine Ex.ext ?_ _ _) | (with_reducible refine Ex.drew ?_) | (with_reducible refine Ex.drewN ?_ _)))⟩
            · obtain rfl : k = (st.b d).length := by omega
              have HH8 := Lib.hid (want_next st.b d ▸ HH7.out)
              clear hH hLA HH7 HLA7
              go_wp2_with fail
              go_roundw
              case measure => simp [intOf]; omega
              case rel => exact ⟨d + 1, by omega, by go_num, HH8.out.later (by repeat (first | (with_reducible exact Ex.refl _) | (with_reducible refine Ex.alloc ?_ _) | (with_reducible refine Ex.ext ?_ _ _) | (with_reducible refine Ex.drew ?_) | (with_reducible refine Ex.drewN ?_ _)))⟩
        · have hde : d = 3 := by omega
          have HH2 : Hid (HArr o 0 w1 A st E q (wantP st.b 3 0) wr) := Lib.hid (hde ▸ HH2.out)
          clear hde
          have hq1 := fun c (hc : c < 6) => want_held HO2.out hc
          have hq2 := fun c (hc : c < 6) k (hk : k < 3) => want_kept HO2.out hc hk
          have HQ1 := Lib.hid hq1
          have HQ2 := Lib.hid hq2
          clear hq1 hq2
          go_wp2_with fail
          go_loopw [13] (fun i wi => ∃ c : Nat, c ≤ 6 ∧ i = .int .i64 (c : Int) ∧ HArr o 0 w1 A st E q (wantP st.b 3 0) wi) (fun i _ => 6 - (intOf i).toNat)
          case atStart => exact ⟨0, by omega, rfl, HH2.out.later (by repeat (first | (with_reducible exact Ex.refl _) | (with_reducible refine Ex.alloc ?_ _) | (with_reducible refine Ex.ext ?_ _ _) | (with_reducible refine Ex.drew ?_) | (with_reducible refine Ex.drewN ?_ _)))⟩
          case round =>
            obtain ⟨c, hc, rfl, hH⟩ := hrel
            have HH7 := Lib.hid hH
            clear HH2
            by_cases hc6 : c < 6
            · have v1 := hH.cell hc6 (j := 1) (by omega)
              have v5 := hH.cell hc6 (j := 5 + 0) (by omega)
              have v6 := hH.cell hc6 (j := 5 + 1) (by omega)
              have v7 := hH.cell hc6 (j := 5 + 2) (by omega)
              have hqz := hH.row.lt
              rw [HQ1.out c hc6] at v1
              rw [HQ2.out c hc6 0 (by omega)] at v5
              rw [HQ2.out c hc6 1 (by omega)] at v6
              rw [HQ2.out c hc6 2 (by omega)] at v7
              simp only [Nat.add_zero, Nat.reduceAdd] at v5 v6 v7
              have HOF := Lib.hid (fun W (h : Ex wr W) => (HH7.out.fl.later h).readP (fun o i hp => of_in hp c hc6))
              have c60 : (c : Int) < 6 := by omega
              have hnt := fun w => neTri (st.p c 5) (st.p c 6) (st.p c 7) w
              clear hH
              go_wp2_with fail
              refine ((HH7.out.fl.later (by repeat (first | (with_reducible exact Ex.refl _) | (with_reducible refine Ex.alloc ?_ _) | (with_reducible refine Ex.ext ?_ _ _) | (with_reducible refine Ex.drew ?_) | (with_reducible refine Ex.drewN ?_ _)))).read (fun o h => fpurse_any h)).mono ?_
              rintro e w8 ⟨rfl, l8, d8, rfl⟩
              go_wp2_with fail
              refine (HOF.out _ (by repeat (first | (with_reducible exact Ex.refl _) | (with_reducible refine Ex.alloc ?_ _) | (with_reducible refine Ex.ext ?_ _ _) | (with_reducible refine Ex.drew ?_) | (with_reducible refine Ex.drewN ?_ _)))).mono ?_
              rintro e w9 ⟨rfl, l9, d9, rfl⟩
              go_wp2_with fail
              go_quiet (fail)
              all_goals go_wp2_with fail
              all_goals
                go_roundw
                case measure => simp [intOf]; omega
                case rel => exact ⟨c + 1, by omega, by go_num, HH7.out.later (by repeat (first | (with_reducible exact Ex.refl _) | (with_reducible refine Ex.alloc ?_ _) | (with_reducible refine Ex.ext ?_ _ _) | (with_reducible refine Ex.drew ?_) | (with_reducible refine Ex.drewN ?_ _)))⟩
            · obtain rfl : c = 6 := by omega
              go_wp2_with fail
              all_goals go_ret
              all_goals exact ⟨rfl, (HH7.out.fl.ex0 HX1.out HLO.out).trans (by repeat (first | (with_reducible exact Ex.refl _) | (with_reducible refine Ex.alloc ?_ _) | (with_reducible refine Ex.ext ?_ _ _) | (with_reducible refine Ex.drew ?_) | (with_reducible refine Ex.drewN ?_ _)))⟩
end
end Go.Proofs.YtmbboflakfokhaaDoor
