/- What curve's Best and Cross compute. -/
import Derived.Test.YtjkaeiioofknoaaDoorVolume
set_option linter.unusedSimpArgs false
set_option linter.unusedVariables false
namespace Go.Proofs.YtjkaeiioofknoaaDoor
open Go.RowKit

def takes (side best : Int) (x : Lot) : Bool := x.side == side && (best == 0 || (side == 0 && decide (x.price > best)) || (side == 1 && decide (x.price < best)))
def bestOf (side : Int) (l : List Lot) : Int := l.foldl (fun b x => if takes side b x then x.price else b) 0
theorem bestOf_step (side : Int) {l : List Lot} {k : Nat} {x : Lot} (h : l[k]? = some x) : bestOf side (l.take (k + 1)) = if takes side (bestOf side (l.take k)) x then x.price else bestOf side (l.take k) := by
  rw [List.take_add_one, h]; simp only [bestOf, List.foldl_append, Option.toList_some, List.foldl_cons, List.foldl_nil]
  rfl
open Classical in
noncomputable def curveBest (side : Int) (l : List Lot) : Int := if LotsOk l then bestOf side l else 0

set_option maxRecDepth 100000 in
set_option maxHeartbeats 2000000 in
theorem best_any (ao : Option Addr) (len cap : Nat) (l : List Lot) (side : Int) (E : Nat → Addr) (w : World) (hcap : len ≤ cap) (hE : Errs E [2, 7, 8] w) (hl : LotsAt w ao len l) :
    Calls Tryd.prog 32 #[.slice ao len cap, .int .i64 side] w fun e w' => e = .returned (.int .i64 (curveBest side l)) ∧ Ex w w' := by
  have HC := Lib.hid (check_any ao len cap l E w hcap hE hl)
  by_cases hok : LotsOk l
  · have hlen := hl.1
    have hmx := hl.2.1
    have h120 := hok.1
    have HL := Lib.hid hlen
    have HLA := Lib.hid hl
    have HOK := Lib.hid hok
    clear hl hlen hE hok
    go_enter Tryd.func32, Tryd.ntmps32
    go_wp2_with (go_at_call 15; refine HC.out.mono ?_; rintro e w1 ⟨⟨v, rfl, hv⟩, l1, d1, rfl⟩; have hvn := CheckV.ok HOK.out hv; clear hv; subst hvn)
    go_loopw [5, 13] (fun n i wr => ∃ (k : Nat), k ≤ len ∧ i = .int .i64 k ∧ n = .int .i64 (bestOf side (l.take k)) ∧ Ex w wr) (fun _ i _ => len - (intOf i).toNat)
    case atStart => exact ⟨0, Nat.zero_le _, rfl, (by simp [bestOf]), (by repeat (first | exact Ex.refl _ | refine Ex.alloc ?_ _ | refine Ex.ext ?_ _ _ | refine Ex.drew ?_ | refine Ex.drewN ?_ _))⟩
    case round =>
      obtain ⟨k, hk, rfl, rfl, l2, d2, rfl⟩ := hrel
      by_cases hlt : k < len
      · have hl := HLA.out
        obtain ⟨b, off, rfl, hbs, hz⟩ := hl.2.2.2 (by omega)
        have hzk := hz k (by rw [HL.out]; exact hlt)
        clear hz
        have hg : ∃ a, l[k]? = some a ∧ a = l[k]'(by rw [HL.out]; exact hlt) := ⟨_, List.getElem?_eq_getElem (by rw [HL.out]; exact hlt), rfl⟩
        obtain ⟨a, ha0, ha⟩ := hg
        rw [← ha] at hzk
        clear ha
        have hstep := bestOf_step side ha0
        have hao := (Lot.ok_iff.1 (HOK.out.ok ha0)).2.2.1
        clear ha0
        have a0 := hzk 0 (by omega)
        have a1 := hzk 1 (by omega)
        have a2 := hzk 2 (by omega)
        have a3 := hzk 3 (by omega)
        have a4 := hzk 4 (by omega)
        simp only [Lot.cells, List.getElem?_cons_zero, List.getElem?_cons_succ, Nat.add_zero] at a0 a1 a2 a3 a4
        clear hzk hl
        have HS := Lib.hid hstep
        clear hstep
        generalize bestOf side (l.take k) = n at *
        cases h1 : (a.side == side)
        · have htk : takes side n a = false := by simp only [takes, *, Bool.false_and, Bool.true_and, Bool.and_true, Bool.and_false, Bool.or_true, Bool.true_or, Bool.false_or, Bool.or_false] <;> (first | done | rfl | (simp; done) | (simp; omega))
          have HTK := Lib.hid htk
          clear htk
          go_wp2
          all_goals
            go_roundw
            case measure => simp [intOf]; omega
            case rel => exact ⟨k + 1, by omega, by go_num, by rw [HS.out, HTK.out]; rfl, (by repeat (first | exact Ex.refl _ | refine Ex.alloc ?_ _ | refine Ex.ext ?_ _ _ | refine Ex.drew ?_ | refine Ex.drewN ?_ _))⟩
        cases h2 : (n == 0)
        · cases h3 : (side == 0)
          · have h5 : (side == 1) = true := by simp at h1 h3 ⊢; omega
            by_cases h4 : a.price < n
            · have htk : takes side n a = true := by simp only [takes, *, Bool.false_and, Bool.true_and, Bool.and_true, Bool.and_false, Bool.or_true, Bool.true_or, Bool.false_or, Bool.or_false] <;> (first | done | rfl | (simp; done) | (simp; omega))
              have HTK := Lib.hid htk
              clear htk
              go_wp2
              all_goals
                go_roundw
                case measure => simp [intOf]; omega
                case rel => exact ⟨k + 1, by omega, by go_num, by rw [HS.out, HTK.out]; rfl, (by repeat (first | exact Ex.refl _ | refine Ex.alloc ?_ _ | refine Ex.ext ?_ _ _ | refine Ex.drew ?_ | refine Ex.drewN ?_ _))⟩
            · have htk : takes side n a = false := by simp only [takes, *, Bool.false_and, Bool.true_and, Bool.and_true, Bool.and_false, Bool.or_true, Bool.true_or, Bool.false_or, Bool.or_false] <;> (first | done | rfl | (simp; done) | (simp; omega))
              have HTK := Lib.hid htk
              clear htk
              go_wp2
              all_goals
                go_roundw
                case measure => simp [intOf]; omega
                case rel => exact ⟨k + 1, by omega, by go_num, by rw [HS.out, HTK.out]; rfl, (by repeat (first | exact Ex.refl _ | refine Ex.alloc ?_ _ | refine Ex.ext ?_ _ _ | refine Ex.drew ?_ | refine Ex.drewN ?_ _))⟩
          · have h5 : (side == 1) = false := by simp at h3 ⊢; omega
            by_cases h4 : a.price > n
            · have htk : takes side n a = true := by simp only [takes, *, Bool.false_and, Bool.true_and, Bool.and_true, Bool.and_false, Bool.or_true, Bool.true_or, Bool.false_or, Bool.or_false] <;> (first | done | rfl | (simp; done) | (simp; omega))
              have HTK := Lib.hid htk
              clear htk
              go_wp2
              all_goals
                go_roundw
                case measure => simp [intOf]; omega
                case rel => exact ⟨k + 1, by omega, by go_num, by rw [HS.out, HTK.out]; rfl, (by repeat (first | exact Ex.refl _ | refine Ex.alloc ?_ _ | refine Ex.ext ?_ _ _ | refine Ex.drew ?_ | refine Ex.drewN ?_ _))⟩
            · have htk : takes side n a = false := by simp only [takes, *, Bool.false_and, Bool.true_and, Bool.and_true, Bool.and_false, Bool.or_true, Bool.true_or, Bool.false_or, Bool.or_false] <;> (first | done | rfl | (simp; done) | (simp; omega))
              have HTK := Lib.hid htk
              clear htk
              go_wp2
              all_goals
                go_roundw
                case measure => simp [intOf]; omega
                case rel => exact ⟨k + 1, by omega, by go_num, by rw [HS.out, HTK.out]; rfl, (by repeat (first | exact Ex.refl _ | refine Ex.alloc ?_ _ | refine Ex.ext ?_ _ _ | refine Ex.drew ?_ | refine Ex.drewN ?_ _))⟩
        · have htk : takes side n a = true := by simp only [takes, *, Bool.false_and, Bool.true_and, Bool.and_true, Bool.and_false, Bool.or_true, Bool.true_or, Bool.false_or, Bool.or_false] <;> (first | done | rfl | (simp; done) | (simp; omega))
          have HTK := Lib.hid htk
          clear htk
          go_wp2
          all_goals
            go_roundw
            case measure => simp [intOf]; omega
            case rel => exact ⟨k + 1, by omega, by go_num, by rw [HS.out, HTK.out]; rfl, (by repeat (first | exact Ex.refl _ | refine Ex.alloc ?_ _ | refine Ex.ext ?_ _ _ | refine Ex.drew ?_ | refine Ex.drewN ?_ _))⟩
      · go_wp2
        go_ret
        exact ⟨ret_int (by rw [curveBest, if_pos HOK.out, List.take_of_length_le (by have := HL.out; omega)]), (by repeat (first | exact Ex.refl _ | refine Ex.alloc ?_ _ | refine Ex.ext ?_ _ _ | refine Ex.drew ?_ | refine Ex.drewN ?_ _))⟩
  · have h0 : curveBest side l = 0 := if_neg hok
    rw [h0]
    have HOK := Lib.hid hok
    clear hl hE hok h0
    go_enter Tryd.func32, Tryd.ntmps32
    go_wp2_with (go_at_call 15; refine HC.out.mono ?_; rintro e w1 ⟨⟨v, rfl, hv⟩, l1, d1, rfl⟩; obtain ⟨u, x, rfl⟩ := CheckV.bad HOK.out hv; clear hv)
    all_goals go_ret
    all_goals exact ⟨rfl, (by repeat (first | exact Ex.refl _ | refine Ex.alloc ?_ _ | refine Ex.ext ?_ _ _ | refine Ex.drew ?_ | refine Ex.drewN ?_ _))⟩

/-- Is there a buy at a sell's price? -/
noncomputable def curveCross (l : List Lot) : Bool := decide (curveBest 0 l > 0) && decide (curveBest 1 l > 0) && decide (curveBest 0 l ≥ curveBest 1 l)
set_option maxRecDepth 100000 in
theorem cross_any (ao : Option Addr) (len cap : Nat) (l : List Lot) (E : Nat → Addr) (w : World) (hcap : len ≤ cap) (hE : Errs E [2, 7, 8] w) (hl : LotsAt w ao len l) :
    Calls Tryd.prog 22 #[.slice ao len cap] w fun e w' => e = .returned (.bool (curveCross l)) ∧ Ex w w' := by
  have H1 := best_any ao len cap l 0 E
  have H2 := best_any ao len cap l 1 E
  have hc : curveCross l = (decide (curveBest 0 l > 0) && decide (curveBest 1 l > 0) && decide (curveBest 0 l ≥ curveBest 1 l)) := rfl
  generalize curveBest 0 l = b0 at *
  generalize curveBest 1 l = b1 at *
  rw [hc]
  have HB := Lib.hid H1
  have HS := Lib.hid H2
  have HL := Lib.hid hl
  clear hl H1 H2 hc
  by_cases h1 : b0 > 0 <;> by_cases h2 : b1 > 0
  all_goals
    go_enter Tryd.func22, Tryd.ntmps22
    go_wp2_with fail
    refine (HB.out _ hcap (by exact Errs.sub (hE.ex (by repeat (first | exact Ex.refl _ | refine Ex.alloc ?_ _ | refine Ex.ext ?_ _ _ | refine Ex.drew ?_ | refine Ex.drewN ?_ _))) (by decide)) (HL.out.ex (by repeat (first | exact Ex.refl _ | refine Ex.alloc ?_ _ | refine Ex.ext ?_ _ _ | refine Ex.drew ?_ | refine Ex.drewN ?_ _)))).mono ?_
    rintro e w1 ⟨rfl, l3, d3, rfl⟩
    go_wp2_with fail
    refine (HS.out _ hcap (by exact Errs.sub (hE.ex (by repeat (first | exact Ex.refl _ | refine Ex.alloc ?_ _ | refine Ex.ext ?_ _ _ | refine Ex.drew ?_ | refine Ex.drewN ?_ _))) (by decide)) (HL.out.ex (by repeat (first | exact Ex.refl _ | refine Ex.alloc ?_ _ | refine Ex.ext ?_ _ _ | refine Ex.drew ?_ | refine Ex.drewN ?_ _)))).mono ?_
    rintro e w1 ⟨rfl, l4, d4, rfl⟩
    go_wp2
    all_goals go_ret
    all_goals exact ⟨ret_bool (by first | (simp [*]; done) | (simp [*]; omega)), (by repeat (first | exact Ex.refl _ | refine Ex.alloc ?_ _ | refine Ex.ext ?_ _ _ | refine Ex.drew ?_ | refine Ex.drewN ?_ _))⟩
end Go.Proofs.YtjkaeiioofknoaaDoor
