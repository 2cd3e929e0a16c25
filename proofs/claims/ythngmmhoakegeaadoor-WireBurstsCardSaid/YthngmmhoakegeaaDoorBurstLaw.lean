/- The walk of WireBursts. -/
import Derived.Test.YthngmmhoakegeaaDoorBurstP
import Derived.Test.YthngmmhoakegeaaDoorCoded1
import Derived.Laws.IdiomStrings
set_option linter.unusedSimpArgs false
set_option linter.unusedVariables false
namespace Go.Proofs.YthngmmhoakegeaaDoor
open Go.RowKit

theorem wp_world {Pr : Program} {code : Code} {Q : Exit → Act → World → Prop} {a : Act} {W : World} {R : World → Prop} (h : R W) (k : ∀ W', R W' → code.wp Pr Q a W') : code.wp Pr Q a W := k W h
theorem bits_xor_u8 (a b : Nat) (ha : a < 256) (hb : b < 256) : bits .xor .u8 (a : Int) (b : Int) = ((a ^^^ b : Nat) : Int) := by
  have hx : a ^^^ b < 2 ^ 8 := Nat.xor_lt_two_pow (by omega) (by omega)
  have h1 : (BitVec.ofInt 8 (a : Int)).toNat = a := by rw [BitVec.ofInt_natCast, BitVec.toNat_ofNat]; exact Nat.mod_eq_of_lt (by omega)
  have h2 : (BitVec.ofInt 8 (b : Int)).toNat = b := by rw [BitVec.ofInt_natCast, BitVec.toNat_ofNat]; exact Nat.mod_eq_of_lt (by omega)
  show IntKind.u8.wrap ((BitVec.ofInt 8 (a : Int) ^^^ BitVec.ofInt 8 (b : Int)).toNat : Int) = _
  rw [BitVec.toNat_xor, h1, h2, IntWalk.u8_in _ (by omega)]
/-- Bytes in a block that may be written. -/
def BytesAt (w : World) (b : Nat) (l : List UInt8) : Prop := b < w.heap.size ∧ ∀ j (hj : j < l.length), w.cell? ⟨b, j, none⟩ = some (.int .u8 (l[j].toNat : Int)) ∧ w.frozen? ⟨b, j, none⟩ = false
theorem BytesAt.ex {w w' : World} {b : Nat} {l : List UInt8} (h : BytesAt w b l) (hx : Ex w w') : BytesAt w' b l := by
  have hb := hx.below
  refine ⟨Nat.lt_of_lt_of_le h.1 hb.size, fun j hj => ⟨(hb.cell (p := ⟨b, j, none⟩) h.1).trans (h.2 j hj).1, ?_⟩⟩
  have e : w'.heap[b]? = w.heap[b]? := hb.block b h.1
  have h2 := (h.2 j hj).2
  unfold World.frozen? at h2 ⊢
  rw [e]
  exact h2
theorem BytesAt.set {w : World} {b : Nat} {l : List UInt8} (h : BytesAt w b l) {j : Nat} (hj : j < l.length) (v : UInt8) : BytesAt (w.setCell ⟨b, j, none⟩ (.int .u8 (v.toNat : Int))) b (l.set j v) := by
  refine ⟨by simpa [go_sem] using h.1, fun k hk => ⟨?_, by rw [World.frozen?_setCell]; exact (h.2 k (by simpa using hk)).2⟩⟩
  by_cases e : j = k
  · subst e
    rw [World.cell?_setCell_same _ _ _ (h.2 j hj).1]
    simp
  · rw [World.cell?_setCell_other _ _ _ _ (fun h => e (by simp at h)), (h.2 k (by simpa using hk)).1]
    simp [e]

theorem BytesAt.fresh (w : World) (f : ByteArray) (cap : Nat) (t : TypeId) : BytesAt (w.alloc (.cells (bytesRow f cap) t ((bytesRow f cap).size, (bytesRow f cap).size + 1))) w.heap.size f.data.toList := by
  have hsz : f.data.size ≤ (bytesRow f cap).size := by
    unfold bytesRow; simp
  refine ⟨by simp [go_sem], fun j hj => ?_⟩
  have hj' : j < f.data.size := by simpa using hj
  refine ⟨by rw [World.cell?_alloc_mark, bytesRow_at _ _ _ hj']; simp, ?_⟩
  rw [World.frozen?_alloc_mark, decide_eq_false (by omega)]
  rfl
theorem xor_pow (x : UInt8) {r : Nat} (hr : r < 8) : bits .xor .u8 (x.toNat : Int) (2 ^ r % 256) = ((x ^^^ UInt8.ofNat (2 ^ r)).toNat : Int) := by
  have hp : 2 ^ r < 256 := Nat.lt_of_lt_of_le (Nat.pow_lt_pow_right (by decide) hr) (by decide)
  have e : ((2 : Int) ^ r % 256) = ((2 ^ r : Nat) : Int) := by
    have : r = 0 ∨ r = 1 ∨ r = 2 ∨ r = 3 ∨ r = 4 ∨ r = 5 ∨ r = 6 ∨ r = 7 := by omega
    rcases this with rfl | rfl | rfl | rfl | rfl | rfl | rfl | rfl <;> rfl
  rw [e, bits_xor_u8 _ _ x.toNat_lt hp, UInt8.toNat_xor, UInt8.toNat_ofNat_of_lt' hp]
theorem zeroAskEq (w : World) : (binOp .eql 30 (.agg #[.int .u8 0, .int .i64 0, .int .i64 0, .int .i64 0, .int .i64 0, .int .i64 0, .int .i64 0, .int .i64 0]) (.agg #[.int .u8 0, .int .i64 0, .int .i64 0, .int .i64 0, .int .i64 0, .int .i64 0, .int .i64 0, .int .i64 0])).run Tryd.prog w = .ok (.bool true) w := by kernel_rfl
set_option maxRecDepth 100000 in
theorem bursts_out (a : Ask) (at' burst : Int) (E : Nat → Addr) (w : World) (hE : Errs E [2, 3, 4] w) (h : burst = 0 ∨ at' < 0 ∨ 240 ≤ at') :
    Calls Tryd.prog 13 #[a.val, .int .i64 at', .int .u32 burst] w fun e w' => e = .returned (.bool true) ∧ Ex w w' := by
  go_enter Tryd.func13, Tryd.ntmps13
  by_cases hb : burst = 0
  · subst hb
    go_wp2_with (go_at_call 25; refine (framed_any E _ (by exact Errs.sub (hE.ex (by repeat (first | exact Ex.refl _ | refine Ex.alloc ?_ _ | refine Ex.ext ?_ _ _ | refine Ex.drew ?_ | refine Ex.drewN ?_ _))) (by decide))).mono ?_; rintro e w1 ⟨rfl, l1, d1, rfl⟩)
    all_goals go_ret
    all_goals exact ⟨rfl, (by repeat (first | exact Ex.refl _ | refine Ex.alloc ?_ _ | refine Ex.ext ?_ _ _ | refine Ex.drew ?_ | refine Ex.drewN ?_ _))⟩
  · by_cases ha : at' < 0
    · go_wp2_with (go_at_call 25; refine (framed_any E _ (by exact Errs.sub (hE.ex (by repeat (first | exact Ex.refl _ | refine Ex.alloc ?_ _ | refine Ex.ext ?_ _ _ | refine Ex.drew ?_ | refine Ex.drewN ?_ _))) (by decide))).mono ?_; rintro e w1 ⟨rfl, l1, d1, rfl⟩)
      all_goals go_ret
      all_goals exact ⟨rfl, (by repeat (first | exact Ex.refl _ | refine Ex.alloc ?_ _ | refine Ex.ext ?_ _ _ | refine Ex.drew ?_ | refine Ex.drewN ?_ _))⟩
    · have ha2 : 240 ≤ at' := by omega
      go_wp2_with (go_at_call 25; refine (framed_any E _ (by exact Errs.sub (hE.ex (by repeat (first | exact Ex.refl _ | refine Ex.alloc ?_ _ | refine Ex.ext ?_ _ _ | refine Ex.drew ?_ | refine Ex.drewN ?_ _))) (by decide))).mono ?_; rintro e w1 ⟨rfl, l1, d1, rfl⟩)
      all_goals go_ret
      all_goals exact ⟨rfl, (by repeat (first | exact Ex.refl _ | refine Ex.alloc ?_ _ | refine Ex.ext ?_ _ _ | refine Ex.drew ?_ | refine Ex.drewN ?_ _))⟩
set_option maxRecDepth 100000 in
theorem bursts_bad (a : Ask) (at' burst : Int) (E : Nat → Addr) (w : World) (hE : Errs E [2, 3, 4] w) (hb : burst ≠ 0) (h0 : 0 ≤ at') (h1 : at' < 240) (he : a.err ≠ 0) :
    Calls Tryd.prog 13 #[a.val, .int .i64 at', .int .u32 burst] w fun e w' => e = .returned (.bool true) ∧ Ex w w' := by
  have HB := Lib.hid (fun w hE => encode_bad a E w hE he)
  clear he
  go_enter Tryd.func13, Tryd.ntmps13
  go_wp2_with (first
    | (go_at_call 25; refine (framed_any E _ (by exact Errs.sub (hE.ex (by repeat (first | exact Ex.refl _ | refine Ex.alloc ?_ _ | refine Ex.ext ?_ _ _ | refine Ex.drew ?_ | refine Ex.drewN ?_ _))) (by decide))).mono ?_; rintro e w1 ⟨rfl, l1, d1, rfl⟩)
    | (go_at_call 26; refine (HB.out _ (by exact Errs.sub (hE.ex (by repeat (first | exact Ex.refl _ | refine Ex.alloc ?_ _ | refine Ex.ext ?_ _ _ | refine Ex.drew ?_ | refine Ex.drewN ?_ _))) (by decide))).mono ?_; rintro e w1 ⟨rfl, l2, d2, rfl⟩))
  all_goals go_ret
  all_goals exact ⟨rfl, (by repeat (first | exact Ex.refl _ | refine Ex.alloc ?_ _ | refine Ex.ext ?_ _ _ | refine Ex.drew ?_ | refine Ex.drewN ?_ _))⟩
set_option maxRecDepth 100000 in
set_option maxHeartbeats 2000000 in
theorem bursts_ok (a : Ask) (at' : Nat) (burst : Nat) (E : Nat → Addr) (w : World) (hR : CodeReady E w) (hb : burst ≠ 0) (hB : burst < 4294967296) (h1 : at' < 240) (he : a.err = 0) :
    Calls Tryd.prog 13 #[a.val, .int .i64 (at' : Int), .int .u32 (burst : Int)] w fun e w' => e = .returned (.bool true) ∧ Below w.heap.size w w' := by
  have hE : Errs E [2, 3, 4] w := Errs.sub hR.1 (by decide)
  have HE5 : Hid (Errs E [5] w) := Lib.hid (Errs.sub hR.1 (by decide))
  have HR := Lib.hid hR
  have HB := Lib.hid (fun w hE => encode_ok a E w hE he)
  have HT := Lib.hid (fun hne => burst_text a hB h1 hne)
  have hfs := a.frame_size
  have hl : a.frame.data.toList.length = 30 := by rw [Array.length_toList]; exact a.frame_size
  have hbz : ((burst : Int) == 0) = false := by simpa using hb
  have ha0 : (0 : Int) ≤ (at' : Int) := by omega
  have ha1 : (at' : Int) < 240 := by omega
  clear hR he
  generalize a.frame = f at *
  have hconv := fun w => run_bytes_of_string (P := Tryd.prog) w 9 94 5 f Tryd.underlying9 Tryd.underlying94 Tryd.underlying5
  rw [hfs] at hconv
  go_enter Tryd.func13, Tryd.ntmps13
  go_upto_region 8 with (first
    | (go_at_call 25; refine (framed_any E _ (by exact Errs.sub (hE.ex (by repeat (first | exact Ex.refl _ | refine Ex.alloc ?_ _ | refine Ex.ext ?_ _ _ | refine Ex.drew ?_ | refine Ex.drewN ?_ _))) (by decide))).mono ?_; rintro e w1 ⟨rfl, l1, d1, rfl⟩)
    | (go_at_call 26; refine (HB.out _ (by exact Errs.sub (hE.ex (by repeat (first | exact Ex.refl _ | refine Ex.alloc ?_ _ | refine Ex.ext ?_ _ _ | refine Ex.drew ?_ | refine Ex.drewN ?_ _))) (by decide))).mono ?_; rintro e w1 ⟨rfl, l2, d2, rfl⟩))
  generalize hcap : grownCap _ 30 0 _ = cap at *
  refine wp_world (R := fun W => BytesAt W (w.heap.size + 1 + (l1.length + l2.length)) f.data.toList ∧ Below w.heap.size w W) ⟨by
    have h := BytesAt.fresh (ext (w.alloc (.cells #[.int .u8 a.kind, .int .i64 a.client, .int .i64 a.seq, .int .i64 a.item, .int .i64 a.side, .int .i64 a.price, .int .i64 a.qty, .int .i64 a.id] 30)) (l1 ++ l2) (d2 + 1)) f cap 5
    simpa [ext_size] using h, Ex.below (by repeat (first | exact Ex.refl _ | refine Ex.alloc ?_ _ | refine Ex.ext ?_ _ _ | refine Ex.drew ?_ | refine Ex.drewN ?_ _))⟩ ?_
  have hbb : w.heap.size ≤ w.heap.size + 1 + (l1.length + l2.length) := by omega
  generalize w.heap.size + 1 + (l1.length + l2.length) = bb at *
  rintro W ⟨hBY, hBW⟩
  have HBY := Lib.hid hBY
  have HBW := Lib.hid hBW
  clear hBY hBW hcap hconv
  go_wp2_with fail
  go_loopw [11] (fun i wr => ∃ k : Nat, k ≤ 32 ∧ i = .int .i64 k ∧ BytesAt wr bb (burstL burst at' f.data.toList k) ∧ Below w.heap.size w wr) (fun i _ => 32 - (intOf i).toNat)
  case atStart => exact ⟨0, by omega, rfl, HBY.out, HBW.out⟩
  case round =>
    obtain ⟨k, hk, rfl, hby, hbl⟩ := hrel
    have HY := Lib.hid hby
    have HL := Lib.hid hbl
    clear hby hbl
    by_cases hlt : k < 32
    · have hmin : min k 32 = k := by omega
      have hbit : ((burst : Int) / 2 ^ k).tmod 2 = ((burst / 2 ^ k % 2 : Nat) : Int) := by
        have e : (burst : Int) / 2 ^ k = ((burst / 2 ^ k : Nat) : Int) := by
          rw [Int.natCast_ediv, Int.natCast_pow]; rfl
        rw [e, Int.tmod_eq_emod_of_nonneg (Int.natCast_nonneg _)]
        generalize burst / 2 ^ k = x
        omega
      by_cases hc : burst / 2 ^ k % 2 = 1
      · rw [hc] at hbit
        by_cases hk2 : at' + k < 240
        · have hstep : burstL burst at' f.data.toList (k + 1) = flipAt (burstL burst at' f.data.toList k) (at' + k) := by
            show (if burst / 2 ^ k % 2 = 1 ∧ at' + k < 240 then _ else _) = _
            rw [if_pos ⟨hc, hk2⟩]
          have HST := Lib.hid hstep
          have hlen : (burstL burst at' f.data.toList k).length = 30 := by rw [burstL_len, hl]
          clear hstep hc
          generalize burstL burst at' f.data.toList k = T at *
          have hq : ((at' : Int) + (k : Int)).tdiv 8 = (((at' + k) / 8 : Nat) : Int) := by
            rw [Int.tdiv_eq_ediv_of_nonneg (by omega)]; omega
          have hr : ((at' : Int) + (k : Int)).tmod 8 = (((at' + k) % 8 : Nat) : Int) := by
            rw [Int.tmod_eq_emod_of_nonneg (by omega)]; omega
          have hqj : (at' + k) / 8 < T.length := by omega
          obtain ⟨c1, f1⟩ := HY.out.2 ((at' + k) / 8) hqj
          have HF : Hid (flipAt T (at' + k) = T.set ((at' + k) / 8) (T[(at' + k) / 8] ^^^ UInt8.ofNat (2 ^ ((at' + k) % 8)))) := Lib.hid (by unfold flipAt; rw [dif_pos hqj])
          have hr8 : (at' + k) % 8 < 8 := by omega
          have hq30 : (at' + k) / 8 < 30 := by omega
          have hlb := HY.out.1
          generalize T[(at' + k) / 8] = x at *
          generalize (at' + k) / 8 = q at *
          generalize (at' + k) % 8 = r at *
          go_wp2_with fail
          go_roundw
          case measure => simp [intOf]; omega
          case rel => exact ⟨k + 1, by omega, by go_num, by rw [HST.out, HF.out, xor_pow x hr8]; exact HY.out.set hqj _, HL.out.trans (Below.setCell (Below.refl _ _) hbb _)⟩
        · have HST : Hid (burstL burst at' f.data.toList (k + 1) = burstL burst at' f.data.toList k) := Lib.hid (by
            show (if burst / 2 ^ k % 2 = 1 ∧ at' + k < 240 then _ else _) = _
            rw [if_neg (fun h => hk2 h.2)])
          have hk3 : decide ((at' : Int) + (k : Int) < 240) = false := decide_eq_false (by omega)
          clear hc
          go_wp2_with fail
          go_roundw
          case measure => simp [intOf]; omega
          case rel => exact ⟨k + 1, by omega, by go_num, by rw [HST.out]; exact HY.out.ex (by repeat (first | exact Ex.refl _ | refine Ex.alloc ?_ _ | refine Ex.ext ?_ _ _ | refine Ex.drew ?_ | refine Ex.drewN ?_ _)), HL.out.trans (Ex.below (by repeat (first | exact Ex.refl _ | refine Ex.alloc ?_ _ | refine Ex.ext ?_ _ _ | refine Ex.drew ?_ | refine Ex.drewN ?_ _)) |>.mono HL.out.size)⟩
      · have HST : Hid (burstL burst at' f.data.toList (k + 1) = burstL burst at' f.data.toList k) := Lib.hid (by
          show (if burst / 2 ^ k % 2 = 1 ∧ at' + k < 240 then _ else _) = _
          rw [if_neg (fun h => hc h.1)])
        have hbit2 : ¬ ((burst : Int) / 2 ^ k).tmod 2 = 1 := by rw [hbit]; omega
        have hbit3 : (((burst : Int) / 2 ^ k).tmod 2 == 1) = false := by simpa using hbit2
        clear hc hbit
        go_wp2_with fail
        go_roundw
        case measure => simp [intOf]; omega
        case rel => exact ⟨k + 1, by omega, by go_num, by rw [HST.out]; exact HY.out.ex (by repeat (first | exact Ex.refl _ | refine Ex.alloc ?_ _ | refine Ex.ext ?_ _ _ | refine Ex.drew ?_ | refine Ex.drewN ?_ _)), HL.out.trans (Ex.below (by repeat (first | exact Ex.refl _ | refine Ex.alloc ?_ _ | refine Ex.ext ?_ _ _ | refine Ex.drew ?_ | refine Ex.drewN ?_ _)) |>.mono HL.out.size)⟩
    · obtain rfl : k = 32 := by omega
      have hlen : (burstL burst at' f.data.toList 32).length = 30 := by rw [burstL_len, hl]
      have hback := run_convert_bytes_back (P := Tryd.prog) wr 94 9 5 ⟨bb, 0, none⟩ cap (burstL burst at' f.data.toList 32) Tryd.underlying94 Tryd.underlying5 Tryd.underlying9 (fun j hj => by
        have h := (HY.out.2 j hj).1
        have e : (⟨bb, 0, none⟩ : Addr).add j = ⟨bb, j, none⟩ := by
          unfold Addr.add
          split
          · rename_i h0; simp_all
          · simp
        rw [e]; exact h)
      rw [hlen] at hback
      have hwz := HL.out.size
      by_cases hT : burstL burst at' f.data.toList 32 = f.data.toList
      · have ht : (⟨(burstL burst at' f.data.toList 32).toArray⟩ : ByteArray) = f := by rw [hT]
        rw [ht] at hback
        clear HT hT ht hlen HY
        go_wp2_with fail
        all_goals go_ret
        all_goals exact ⟨rfl, HL.out.trans (Ex.below (by repeat (first | exact Ex.refl _ | refine Ex.alloc ?_ _ | refine Ex.ext ?_ _ _ | refine Ex.drew ?_ | refine Ex.drewN ?_ _)) |>.mono HL.out.size)⟩
      · obtain ⟨t1, t2, t3⟩ := HT.out hT
        generalize (⟨(burstL burst at' f.data.toList 32).toArray⟩ : ByteArray) = t at *
        have hts := toList_ne t3
        have HD := Lib.hid (fun w hE => decode_sum t E w t1 hE t2)
        have hx : Ex w wr := Ex.of HL.out
        have HC := Lib.hid (fun w hr => coded_err 5 5 E w hr (by decide) (by decide))
        have HE6 := Lib.hid (HE5.out.ex hx)
        have HR6 := Lib.hid (HR.out.ex hx)
        have hqq := zeroAskEq
        clear HT hT hlen HY t2 t3 hx
        go_wp2_with (first
          | (go_at_call 50; refine (HD.out _ (HE6.out.ex (by repeat (first | exact Ex.refl _ | refine Ex.alloc ?_ _ | refine Ex.ext ?_ _ _ | refine Ex.drew ?_ | refine Ex.drewN ?_ _)))).mono ?_; rintro e w1 ⟨rfl, l3, d3, rfl⟩)
          | (go_at_call 31; refine (HC.out _ (HR6.out.ex (by repeat (first | exact Ex.refl _ | refine Ex.alloc ?_ _ | refine Ex.ext ?_ _ _ | refine Ex.drew ?_ | refine Ex.drewN ?_ _)))).mono ?_; rintro e w1 ⟨rfl, l4, d4, rfl⟩))
        all_goals go_ret
        all_goals exact ⟨rfl, HL.out.trans (Ex.below (by repeat (first | exact Ex.refl _ | refine Ex.alloc ?_ _ | refine Ex.ext ?_ _ _ | refine Ex.drew ?_ | refine Ex.drewN ?_ _)) |>.mono hwz)⟩
end Go.Proofs.YthngmmhoakegeaaDoor
