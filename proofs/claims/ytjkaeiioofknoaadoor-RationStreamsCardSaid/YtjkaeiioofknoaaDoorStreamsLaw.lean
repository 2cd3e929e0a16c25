/- The walk of RationStreams. -/
import Derived.Test.YtjkaeiioofknoaaDoorRationed
import Derived.Test.YtjkaeiioofknoaaDoorRefPrices
import Derived.Test.YtjkaeiioofknoaaDoorMake
set_option linter.unusedSimpArgs false
set_option linter.unusedVariables false
namespace Go.Proofs.YtjkaeiioofknoaaDoor
open Go.RowKit

theorem nodup_inj {L : List Int} (h : L.Nodup) {x y : Nat} (hx : x < L.length) (hy : y < L.length) (e : L[x] = L[y]) : x = y := by
  rw [List.Nodup, List.pairwise_iff_getElem] at h
  rcases Nat.lt_trichotomy x y with k | k | k
  · exact absurd e (h x y hx hy k)
  · exact k
  · exact absurd e.symm (h y x hy hx k)
def sig (i k j : Nat) : Nat := if j = k then i else if j = i then k else j
theorem sig_lt {n i k j : Nat} (hi : i < n) (hk : k < n) (hj : j < n) : sig i k j < n := by unfold sig; split; exact hi; split; exact hk; exact hj
theorem sig_inj {i k a b : Nat} (h : sig i k a = sig i k b) : a = b := by
  unfold sig at h
  by_cases h1 : a = k <;> by_cases h2 : a = i <;> by_cases h3 : b = k <;> by_cases h4 : b = i <;> simp only [h1, h2, h3, h4, if_true, if_false] at h <;> (try split at h) <;> (try split at h) <;> omega
theorem swp_get {L : List Int} {i k j : Nat} (hi : i < L.length) (hk : k < L.length) (hj : j < L.length) : (swp L i k)[j]'(by rw [swp_len]; exact hj) = L[sig i k j]'(sig_lt hi hk hj) := by
  have e : ∀ x (hx : x < L.length), L[x] = L.getD x 0 := fun x hx => by rw [List.getD_eq_getElem?_getD, List.getElem?_eq_getElem hx]; rfl
  rw [e (sig i k j) (sig_lt hi hk hj)]
  simp only [swp, List.getElem_set]
  unfold sig
  by_cases e1 : j = k
  · rw [if_pos e1.symm, if_pos e1]
  · rw [if_neg (fun e => e1 e.symm), if_neg e1]
    by_cases e2 : j = i
    · rw [if_pos e2.symm, if_pos e2]
    · rw [if_neg (fun e => e2 e.symm), if_neg e2, e j hj]
theorem swp_nodup {L : List Int} {i k : Nat} (h : L.Nodup) (hi : i < L.length) (hk : k < L.length) : (swp L i k).Nodup := by
  rw [List.Nodup, List.pairwise_iff_getElem]
  intro a b ha hb hab
  rw [swp_len] at ha hb
  rw [swp_get hi hk ha, swp_get hi hk hb]
  intro e
  have := sig_inj (nodup_inj h _ _ e)
  omega
theorem shufF_nodup : ∀ (i : Nat) (L : List Int) (s : Int), i < L.length → L.Nodup → (shufF i L s).Nodup
  | 0, _, _, _, h => h
  | i + 1, L, s, hi, h => by
    have e := Int.emod_nonneg (nxt s) (show (i : Int) + 2 ≠ 0 by omega)
    have e' := Int.emod_lt_of_pos (nxt s) (show 0 < (i : Int) + 2 by omega)
    simp only [shufF]
    exact shufF_nodup i _ _ (by rw [swp_len]; omega) (swp_nodup h hi (by omega))
theorem rangeI_nodup (n : Nat) : (rangeI n).Nodup := by
  rw [rangeI, List.Nodup, List.pairwise_map]
  exact List.pairwise_lt_range.imp fun h => by omega
theorem shufL_nodup (n : Nat) (s : Int) : (shufL n s).Nodup := by
  by_cases h0 : n = 0
  · have := shufL_len n s
    rw [h0] at this
    rw [h0, List.eq_nil_of_length_eq_zero this]
    exact List.nodup_nil
  · exact shufF_nodup (n - 1) (rangeI n) (seedOf s) (by rw [rangeI_len]; omega) (rangeI_nodup n)
theorem infoBool : (Tryd.prog.info? 4).map (fun i => (i.zero, i.size, i.bytes)) = some (some (.bool false), 1, 1) := by kernel_rfl

set_option maxRecDepth 100000 in
theorem streams_out (seed n : Int) (E : Nat → Addr) (w : World) (hE : Errs E [2, 3, 7, 8] w) (h : n > 1010) :
    Calls Tryd.prog 10 #[.int .u32 seed, .int .i64 n] w fun e w' => e = .returned (.bool true) ∧ Ex w w' := by
  go_enter Tryd.func10, Tryd.ntmps10
  go_wp2_with (go_at_call 33; refine (rationed_any E _ (hE.ex (by repeat (first | exact Ex.refl _ | refine Ex.alloc ?_ _ | refine Ex.ext ?_ _ _ | refine Ex.drew ?_ | refine Ex.drewN ?_ _)))).mono ?_; rintro e w1 ⟨rfl, l1, d1, rfl⟩)
  all_goals go_ret
  all_goals exact ⟨rfl, (by repeat (first | exact Ex.refl _ | refine Ex.alloc ?_ _ | refine Ex.ext ?_ _ _ | refine Ex.drew ?_ | refine Ex.drewN ?_ _))⟩
set_option maxRecDepth 100000 in
set_option maxHeartbeats 8000000 in
theorem streams_in (seed n : Int) (N : Nat) (E : Nat → Addr) (w : World) (hE : Errs E [2, 3, 7, 8] w) (hs : U32 seed) (h : n ≤ 1010) (hN : min (max n 0) 1000 = (N : Int)) :
    Calls Tryd.prog 10 #[.int .u32 seed, .int .i64 n] w fun e w' => e = .returned (.bool true) ∧ Ex w w' := by
  have hN1 : N ≤ 1000 := by omega
  have HN := Lib.hid hN
  have HU := Lib.hid hs
  have HU0 := Lib.hid (seedOf_u32 hs)
  have HS1 := Lib.hid (fun w => stream_any n N seed w hN hs)
  have HS2 := Lib.hid (fun w => shuffle_any n N seed w hN hs)
  have HS3 := Lib.hid (fun w => shuffleOf_any n N seed w hN hs)
  have HS4 := Lib.hid (refSeed_any seed)
  have hyl := shufL_len N seed
  have HYN := Lib.hid (shufL_nodup N seed)
  have HYR := Lib.hid (fun x (hx : x ∈ shufL N seed) => shufL_range x hx)
  clear hs hN
  generalize shufL N seed = Y at *
  generalize seedOf seed = x0 at *
  obtain ⟨cs, hcs, hcn, hcf⟩ : ∃ cs : Array Value, cs = madeCells #[.bool false] N ∧ cs.size = N ∧ ∀ i, i < N → cs[i]? = some (.bool false) := ⟨_, rfl, size_madeCells _ _, fun i hi => by simp [madeCells, hi, Nat.mod_one]⟩
  have hmk := fun w : World => run_make_row' (P := Tryd.prog) 61 4 (.bool false) 1 Tryd.underlying61 infoBool rfl .i64 .i64 N (by omega) (by omega) w
  rw [← hcs] at hmk
  have HMK := Lib.hid hmk
  have HCF := Lib.hid hcf
  clear hmk hcf hcs
  go_enter Tryd.func10, Tryd.ntmps10
  go_wp2_with (go_at_call 33; refine (rationed_any E _ (hE.ex (by repeat (first | exact Ex.refl _ | refine Ex.alloc ?_ _ | refine Ex.ext ?_ _ _ | refine Ex.drew ?_ | refine Ex.drewN ?_ _)))).mono ?_; rintro e w1 ⟨rfl, l1, d1, rfl⟩)
  refine (HS1.out _).mono ?_
  rintro e w2 ⟨⟨ao1, cap1, rfl, hc1, hwd⟩, hx2⟩
  have HX2 : Hid (Ex w w2) := Lib.hid (Ex.trans (by repeat (first | exact Ex.refl _ | refine Ex.alloc ?_ _ | refine Ex.ext ?_ _ _ | refine Ex.drew ?_ | refine Ex.drewN ?_ _)) hx2)
  have HWD := Lib.hid hwd
  clear hx2 hwd
  go_wp2_with fail
  refine (HS2.out _).mono ?_
  rintro e w3 ⟨⟨ao2, cap2, rfl, hc2, hia⟩, hx3⟩
  have HX3 : Hid (Ex w2 w3) := Lib.hid (Ex.trans (by repeat (first | exact Ex.refl _ | refine Ex.alloc ?_ _ | refine Ex.ext ?_ _ _ | refine Ex.drew ?_ | refine Ex.drewN ?_ _)) hx3)
  have HIA := Lib.hid hia
  clear hx3 hia
  go_upto_if 29 with fail
  go_cut [8] (fun v wx => v = .int .i64 (max n 0) ∧ w3 = wx)
  case first =>
    by_cases hn : n < 0
    · go_wp2_with fail
      go_meet
      case rel => exact ⟨by congr 1; omega, rfl⟩
    · go_wp2_with fail
      go_meet
      case rel => exact ⟨by congr 1; omega, rfl⟩
  case rest =>
    obtain ⟨rfl, rfl⟩ := hcut
    go_upto_if 31 with fail
    go_cut [8] (fun v wx => v = .int .i64 (N : Int) ∧ w3 = wx)
    case first =>
      have hN := HN.out
      by_cases hn : max n 0 > 1000
      · go_wp2_with fail
        go_meet
        case rel => exact ⟨by congr 1; omega, rfl⟩
      · go_wp2_with fail
        go_meet
        case rel => exact ⟨by congr 1; omega, rfl⟩
    case rest =>
      obtain ⟨rfl, rfl⟩ := hcut
      go_wp2_with fail
      refine (HS3.out _).mono ?_
      rintro e w4 ⟨⟨ao3, cap3, rfl, hc3, hib⟩, hx4⟩
      have HX4 : Hid (Ex w3 w4) := Lib.hid (Ex.trans (by repeat (first | exact Ex.refl _ | refine Ex.alloc ?_ _ | refine Ex.ext ?_ _ _ | refine Ex.drew ?_ | refine Ex.drewN ?_ _)) hx4)
      have HIB := Lib.hid hib
      clear hx4 hib
      go_wp2_with fail
      have HSI := sameInts_any ao2 ao3 cap2 cap3 Y w4 (HIA.out.ex HX4.out) HIB.out (by omega)
      rw [hyl] at HSI
      refine HSI.mono ?_
      rintro e w5 ⟨rfl, hx5⟩
      have HX5 := Lib.hid (HX4.out.trans hx5)
      clear hx5 HSI
      go_wp2_with (go_at_call 41; refine (HS4.out _).mono ?_; rintro e w1 ⟨rfl, rfl⟩)
      have HW5 := Lib.hid (HWD.out.ex (HX3.out.trans HX5.out))
      have HI5 := Lib.hid (HIA.out.ex HX5.out)
      go_loop [9, 10] (fun v i => ∃ (k : Nat), k ≤ N ∧ i = .int .i64 k ∧ v = .int .u32 (strm x0 k)) (fun _ i => N - (intOf i).toNat)
      case atStart => exact ⟨0, Nat.zero_le _, rfl, rfl⟩
      case round =>
        obtain ⟨k, hk, rfl, rfl⟩ := hrel
        by_cases hlt : k < N
        · obtain ⟨b, off, rfl, hb, hc⟩ := HW5.out (by rw [strmL_len]; omega)
          have hck := hc k (by rw [strmL_len]; exact hlt)
          rw [show (strmL x0 N)[k]'(by rw [strmL_len]; exact hlt) = strm x0 (k + 1) by simp [strmL]] at hck
          have HNX := Lib.hid (fun w => refNext_any (strm x0 k) w (strm_u32 HU0.out k))
          rw [show nxt (strm x0 k) = strm x0 (k + 1) from rfl] at HNX
          clear hc
          generalize hy : strm x0 (k + 1) = y at *
          have HY := Lib.hid hy
          have hne : (y != y) = false := by simp
          clear hy
          go_wp2_with (go_at_call 42; refine (HNX.out _).mono ?_; rintro e w1 ⟨rfl, rfl⟩)
          all_goals
            go_round
            case measure => simp [intOf]; omega
            case rel => exact ⟨k + 1, by omega, by go_num, by rw [HY.out]⟩
        · obtain rfl : k = N := by omega
          go_wp2_with (with_reducible refine wpList_make_row rfl 61 _ _ rfl k cs 4 .i64 .i64 rfl rfl HMK.out ?_)
          go_loopw [12] (fun i wr => ∃ (q : Nat), q ≤ k ∧ i = .int .i64 q ∧ wr.rowIs w5.heap.size 4 k (fun j => .bool (decide ((j : Int) ∈ Y.take q))) ∧ Below w5.heap.size w5 wr) (fun i _ => k - (intOf i).toNat)
          case atStart => exact ⟨0, Nat.zero_le _, rfl, rowIs_of (cs := cs) (alloc_at rfl) hcn (fun i hi => by rw [HCF.out i hi]; simp), Ex.below (by repeat (first | exact Ex.refl _ | refine Ex.alloc ?_ _ | refine Ex.ext ?_ _ _ | refine Ex.drew ?_ | refine Ex.drewN ?_ _))⟩
          case round =>
            obtain ⟨q, hq, rfl, hrow, hB⟩ := hrel
            have HR := Lib.hid hrow
            have HB := Lib.hid hB
            by_cases hqk : q < k
            · obtain ⟨b, off, rfl, hb, hc⟩ := HI5.out (by omega)
              have hqy : q < Y.length := by omega
              have hcq := (hB.cell (p := ⟨b, off + q, none⟩) hb).trans (hc q hqy)
              have hrg := HYR.out _ (List.getElem_mem hqy)
              have hnot : Y[q] ∉ Y.take q := fun hm => by
                rw [List.mem_take_iff_getElem] at hm
                obtain ⟨i, hi, e⟩ := hm
                have := nodup_inj HYN.out (by omega) hqy e
                omega
              have htk : Y.take (q + 1) = Y.take q ++ [Y[q]] := by rw [List.take_add_one, List.getElem?_eq_getElem hqy]; rfl
              generalize Y[q] = z at *
              obtain ⟨p, rfl⟩ := Int.eq_ofNat_of_zero_le hrg.1
              have hpk : p < k := by omega
              have hsc := hrow.cell (i := p) hpk
              rw [decide_eq_false hnot] at hsc
              have hsf := hrow.frozen p
              have hlw := hrow.lt
              have hend := (hrow.set p (.bool true)).congr (g := fun j => .bool (decide ((j : Int) ∈ Y.take (q + 1)))) (fun j _ => by
                rw [htk]
                by_cases e : j = p
                · rw [if_pos e, e]; simp
                · rw [if_neg e]; congr 1; simp; omega)
              have HEND := Lib.hid hend
              have j1 : (p : Int) < (k : Int) := by omega
              clear hrow hB hc hnot htk hend hrg
              go_wp2_with fail
              all_goals
                go_roundw
                case measure => simp [intOf]; omega
                case rel => exact ⟨q + 1, by omega, by go_num, HEND.out, by (refine Below.trans HB.out ?_; repeat (first | exact Below.refl _ _ | (refine Below.drew ?_) | (refine Below.drewN ?_ _) | (refine Below.ext ?_ (by first | omega | (simp [go_sem]; done) | (simp [go_sem]; omega)) _ _) | (refine Below.alloc ?_ (by first | omega | (simp [go_sem]; done) | (simp [go_sem]; omega)) _) | (refine Below.setCell ?_ (by first | omega | (simp [go_sem]; done) | (simp [go_sem]; omega)) _)))⟩
            · clear hrow hB
              go_wp2_with fail
              go_ret
              exact ⟨rfl, ((HX2.out.trans HX3.out).trans HX5.out).trans ((Ex.of HB.out).trans (by repeat (first | exact Ex.refl _ | refine Ex.alloc ?_ _ | refine Ex.ext ?_ _ _ | refine Ex.drew ?_ | refine Ex.drewN ?_ _)))⟩
end Go.Proofs.YtjkaeiioofknoaaDoor
