/- What wire's Encode computes. -/
import Derived.Test.YthngmmhoakegeaaDoorWire
import Derived.Test.YthngmmhoakegeaaDoorSum
import Derived.Deep.RegionLawGrows
import Derived.Deep.RegionWith
set_option linter.unusedSimpArgs false
set_option linter.unusedVariables false
namespace Go.Proofs.YthngmmhoakegeaaDoor
open Go.RowKit

/-- Four bytes of a number, the highest first; as numbers. -/
def highB (n : Int) : List Int := [n / 16777216, n / 65536 % 256, n / 256 % 256, n % 256]
def lowB (v : Nat) : List Int := [(v : Int) % 256, (v : Int) / 256 % 256, (v : Int) / 65536 % 256, (v : Int) / 16777216]

theorem wireHigh_any (n : Int) (w : World) (h0 : 0 ≤ n) (h1 : n ≤ 1073741824) :
    Calls Tryd.prog 60 #[.int .i64 n] w fun e w' => e = .returned (.slice (some ⟨w.heap.size, 0, none⟩) 4 4) ∧
      w' = w.alloc (.cells #[.int .u8 (n / 16777216), .int .u8 (n / 65536 % 256), .int .u8 (n / 256 % 256), .int .u8 (n % 256)] 5) := by
  go_enter Tryd.func60, Tryd.ntmps60
  go_wp2
  go_ret
  exact ⟨rfl, rfl⟩

set_option maxRecDepth 100000 in
theorem wireLow_any (v : Nat) (w : World) (h1 : v < 4294967296) :
    Calls Tryd.prog 61 #[.int .u32 v] w fun e w' => e = .returned (.string (strOfNums (lowB v))) ∧ Ex w w' := by
  have hconv := run_convert_bytes_arg (P := Tryd.prog) (w.alloc (.cells #[.int .u8 ((v : Int) % 256), .int .u8 ((v : Int) / 256 % 256), .int .u8 ((v : Int) / 65536 % 256), .int .u8 ((v : Int) / 16777216)] 5))
    94 5 Tryd.underlying94 Tryd.underlying5 w.heap.size 0 4 4 (lowB v) rfl
    (fun i hi => by
      match i, hi with
      | 0, _ => simp [lowB]
      | 1, _ => simp [lowB]
      | 2, _ => simp [lowB]
      | 3, _ => simp [lowB]) 9 Tryd.underlying9
  go_enter Tryd.func61, Tryd.ntmps61
  go_wp2
  go_ret
  exact ⟨rfl, (by repeat (first | exact Ex.refl _ | refine Ex.alloc ?_ _ | refine Ex.ext ?_ _ _ | refine Ex.drew ?_ | refine Ex.drewN ?_ _))⟩

theorem infoU8 : (Tryd.prog.info? 5).map (fun i => (i.zero, i.size, i.bytes)) = some (some (.int .u8 0), 1, 1) := by kernel_rfl

/-- A frame's bytes ahead of the sum, as numbers. -/
def Ask.nums (a : Ask) : List Int := [a.kind, a.client] ++ highB a.seq ++ [a.item, a.side] ++ highB a.price ++ highB a.qty ++ highB a.id ++ [0, 0, 0, 0, 0, 0]
def Ask.body (a : Ask) : ByteArray := strOfNums a.nums
/-- A request's frame. -/
def Ask.frame (a : Ask) : ByteArray := a.body ++ strOfNums (lowB (crc a.body.data.toList))

/-- What holds while the frame is made: the bytes so far are the call's own, the request's copy is as it was. -/
def EncInv (w : World) (a : Ask) (wx : World) (v : Value) (n : Nat) (xs : List Int) : Prop :=
  wx.ownsRow (w.heap.size + 1) 5 1 v n (xs.map (Value.int .u8)) ∧ w.heap.size + 1 ≤ wx.heap.size ∧ (∀ k, k < w.heap.size → wx.heap[k]? = w.heap[k]?) ∧ wx.heap[w.heap.size]? = some (.cells a.cells.toArray 30 (0, 0)) ∧
    wx.os = w.os ∧ wx.tape = w.tape ∧ wx.output = w.output

theorem EncInv.cell {w : World} {a : Ask} {wx : World} {v : Value} {n : Nat} {xs : List Int} (h : EncInv w a wx v n xs) : ∀ j, wx.cell? ⟨w.heap.size, j, none⟩ = a.cells[j]? := by
  intro j
  simp [World.cell?, h.2.2.2.1]
theorem EncInv.alloc {w : World} {a : Ask} {wx : World} {v : Value} {n : Nat} {xs : List Int} (h : EncInv w a wx v n xs) (o : Obj) : EncInv w a (wx.alloc o) v n xs := by
  obtain ⟨h1, h2, h3, h4, h5, h6, h7⟩ := h
  refine ⟨h1.alloc _, by simp; omega, fun k hk => ?_, ?_, h5, h6, h7⟩
  · rw [Below.heap_alloc _ _ _ (by omega)]; exact h3 k hk
  · rw [Below.heap_alloc _ _ _ (by omega)]; exact h4
theorem EncInv.drew {w : World} {a : Ask} {wx : World} {v : Value} {n : Nat} {xs : List Int} (h : EncInv w a wx v n xs) : EncInv w a wx.drew v n xs := by
  obtain ⟨h1, h2, h3, h4, h5, h6, h7⟩ := h
  exact ⟨h1.drew, h2, h3, h4, h5, h6, h7⟩
theorem ownsRow_base {w : World} {b b' : Nat} {e : TypeId} {size : Nat} {v : Value} {n : Nat} {xs : List Value} (h : w.ownsRow b e size v n xs) (hb : b' ≤ b) : w.ownsRow b' e size v n xs := by
  obtain ⟨h1, h2⟩ := h
  refine ⟨h1, h2.imp id ?_⟩
  rintro ⟨g, cap, cur, hv, hg, r⟩
  exact ⟨g, cap, cur, hv, by omega, r⟩
theorem EncInv.step {w : World} {a : Ask} {wx wy : World} {v v' : Value} {n m : Nat} {xs ys : List Int} (h : EncInv w a wx v n xs)
    (hown : wy.ownsRow (w.heap.size + 1) 5 1 v' (n + m) (xs.map (Value.int .u8) ++ ys.map (Value.int .u8))) (hg : wx.grownBy wy v.ownBlock) : EncInv w a wy v' (n + m) (xs ++ ys) := by
  obtain ⟨h1, h2, h3, h4, h5, h6, h7⟩ := h
  have hb : ∀ k, k < w.heap.size + 1 → wy.heap[k]? = wx.heap[k]? := fun k hk => hg.block k (by omega) (by
    intro e
    obtain ⟨_, r | ⟨g, cap, cur, hv, hbase, _⟩⟩ := h1
    · rw [r.1] at e; cases e
    · rw [hv] at e; simp [Value.ownBlock] at e; omega)
  refine ⟨by rw [List.map_append]; exact hown, Nat.le_trans h2 hg.size, fun k hk => (hb k (by omega)).trans (h3 k hk), (hb _ (by omega)).trans h4, hg.os.trans h5, hg.tape.trans h6, hg.output.trans h7⟩
theorem EncInv.start (w : World) (a : Ask) (l : List Obj) (d : Nat) : EncInv w a (ext (w.alloc (.cells a.cells.toArray 30)) l d) (.slice none 0 0) 0 [] := by
  refine ⟨World.ownsRow_nil _ _ _ _, by simp [ext_size], fun k hk => ?_, ?_, rfl, rfl, rfl⟩
  · rw [ext_heap_lt _ _ _ _ (by simp; omega)]
    exact Below.heap_alloc _ _ _ hk
  · rw [ext_heap_lt _ _ _ _ (by simp)]
    exact (MapKept.heap_alloc w _).1
theorem EncInv.slice {w : World} {a : Ask} {wx : World} {v : Value} {n : Nat} {xs : List Int} (h : EncInv w a wx v n xs) (hn : 0 < n) (hx : xs.length = n) :
    ∃ g cap, v = .slice (some ⟨g, 0, none⟩) n cap ∧ ∀ i, i < n → wx.cell? ⟨g, 0 + i, none⟩ = some (.int .u8 (xs.getD i 0)) := by
  obtain ⟨_, r | ⟨g, cap, cur, hv, _, hh, hnc, _, hcur, ht⟩⟩ := h.1
  · omega
  · refine ⟨g, cap, hv, fun i hi => ?_⟩
    have h1 : (cur.toList.take (n * 1))[i]? = (xs.map (Value.int .u8))[i]? := by rw [ht]
    rw [List.getElem?_take, if_pos (by omega)] at h1
    simp only [World.cell?, hh, Nat.zero_add]
    rw [List.getElem?_map, List.getElem?_eq_getElem (show i < xs.length by omega)] at h1
    simp only [Option.isSome_none, Bool.false_eq_true, if_false]
    rw [← Array.getElem?_toList, h1]
    simp [List.getD, List.getElem?_eq_getElem (show i < xs.length by omega)]
theorem EncInv.ex {w : World} {a : Ask} {wx : World} {v : Value} {n : Nat} {xs : List Int} (h : EncInv w a wx v n xs) : Ex w wx :=
  Ex.of ⟨h.2.2.2.2.1, h.2.2.2.2.2.1, h.2.2.2.2.2.2, by have := h.2.1; omega, h.2.2.1⟩

set_option maxRecDepth 100000 in
set_option maxHeartbeats 2000000 in
theorem encode_ok (a : Ask) (E : Nat → Addr) (w : World) (hE : Errs E [2, 3, 4] w) (he : a.err = 0) :
    Calls Tryd.prog 26 #[a.val] w fun e w' => e = .returned (.tuple #[.string a.frame, .nilIface]) ∧ Ex w w' := by
  obtain ⟨⟨c0, c1⟩, ⟨s0, s1⟩, ⟨d0, d1⟩, ⟨t0, t1⟩, ⟨u0, u1⟩, ⟨p0, p1⟩, ⟨q0, q1⟩, _⟩ := Ask.bounds he
  obtain ⟨i0, hi, hz0, hz1, hz2⟩ := info_parts infoU8
  have hc := wireCheck_any a E
  rw [he, errV_zero] at hc
  have HC := Lib.hid hc
  clear he hc
  go_enter Tryd.func26, Tryd.ntmps26
  go_wp2_with (go_at_call 49; refine (HC.out _ (by exact Errs.sub (hE.ex (by repeat (first | exact Ex.refl _ | refine Ex.alloc ?_ _ | refine Ex.ext ?_ _ _ | refine Ex.drew ?_ | refine Ex.drewN ?_ _))) (by decide))).mono ?_; rintro e w1 ⟨rfl, l1, d1, rfl⟩)
  have I0 := EncInv.start w a l1 d1
  obtain ⟨wc, hwc⟩ : ∃ x, x = ext (w.alloc (.cells a.cells.toArray 30)) l1 d1 := ⟨_, rfl⟩
  rw [← hwc] at I0
  change Code.wp _ _ _ _ (ext (w.alloc (.cells a.cells.toArray 30)) l1 d1)
  rw [← hwc]
  clear hwc
  go_cut [5] (fun v wx => EncInv w a wx v 6 ([a.kind, a.client] ++ highB a.seq))
  case first =>
    have f0 := I0.cell 0
    have f1 := I0.cell 1
    have f2 := I0.cell 2
    simp only [Ask.cells, List.getElem?_cons_zero, List.getElem?_cons_succ] at f0 f1 f2
    have hsz := I0.2.1
    have n0 : ¬ w.heap.size = wc.heap.size := by omega
    have n1 : ¬ w.heap.size = wc.heap.size + 1 := by omega
    have hcl : IntKind.u8.wrap a.client = a.client := IntWalk.u8_in _ (by omega)
    go_region_law (first
      | (go_simp; go_at_call 60; refine (wireHigh_any a.seq _ s0 s1).mono ?_; rintro e w1 ⟨rfl, rfl⟩)
      | (go_loud (refine step_append_grows rfl (.tmp 17) (.tmp 20) 94 rfl 5 i0 (.int .u8 0) 1 1 Tryd.underlying94 hi hz0 hz1 hz2 rfl (by decide) (some ⟨_, 0, none⟩) 2 2 [.int .u8 a.kind, .int .u8 a.client] rfl (fun h => by cases h) rfl (by intro b hb j u hj; cases hb; rcases j with _ | _ | _ | _ | _ | _ | j <;> simp [highB] at hj <;> subst hj <;> simp [Addr.add, go_sem, ↓IntWalk.iteOmega]) ⟨_, 0, none⟩ 4 4 ((highB a.seq).map (Value.int .u8)) rfl rfl (by intro j u hj; rcases j with _ | _ | _ | _ | _ | _ | j <;> simp [highB] at hj <;> subst hj <;> simp [Addr.add, go_sem, ↓IntWalk.iteOmega]) (by intro u hu; simp [highB] at hu; rcases hu with rfl | hu <;> first | rfl | (rcases hu with rfl | hu <;> first | rfl | (rcases hu with rfl | rfl <;> rfl))) (by decide) (by decide) (by decide) ?_); intro v1 w1 hown1 hgrow1))
    all_goals
      go_wp2_with fail
      go_meet
      case rel =>
        refine EncInv.step (n := 0) (m := 6) (xs := []) (ys := [a.kind, a.client] ++ highB a.seq) (v := .slice none 0 0) (by first | exact ((I0.alloc _).alloc _).drew | exact (I0.drew.alloc _).alloc _) (ownsRow_base hown1 (by simp; omega)) hgrow1
  case rest =>
    have I1 := hcut
    clear hcut I0
    generalize u5 = v1 at *
    obtain ⟨w0, rfl⟩ : ∃ x, x = wc := ⟨_, rfl⟩
    have f3 := I1.cell 3; simp only [Ask.cells, List.getElem?_cons_zero, List.getElem?_cons_succ] at f3
    have f4 := I1.cell 4; simp only [Ask.cells, List.getElem?_cons_zero, List.getElem?_cons_succ] at f4
    have hsz := I1.2.1
    have z1 : (strOfNums a.nums).size = 26 := by simp [strOfNums_size, Ask.nums, highB]
    have z2 : ∀ v, (strOfNums (lowB v)).size = 4 := fun v => by simp [strOfNums_size, lowB]
    go_wp2_with (first
      | (go_at_call 60; refine (wireHigh_any _ _ (by omega) (by omega)).mono ?_; rintro e w1 ⟨rfl, rfl⟩)
      | (go_at_call 53; refine (sum_any _ _ (by rw [z1]; decide)).mono ?_; rintro e w1 ⟨rfl, rfl⟩)
      | (go_at_call 61; refine (wireLow_any _ _ (crc_lt _)).mono ?_; rintro e w1 ⟨rfl, l5, d5, rfl⟩)
      | (at_builtin; refine wpList_append_own _ rfl (.tmp 22) (.tmp 29) 94 rfl (w.heap.size + 1) 5 i0 (.int .u8 0) 1 1 Tryd.underlying94 hi hz0 hz1 hz2 rfl (by decide) _ 6 _ rfl (I1.1.alloc _) ⟨_, 0, none⟩ 2 2 ([a.item, a.side].map (Value.int .u8)) rfl rfl (by intro j u hj; rcases j with _ | _ | _ | _ | _ | _ | j <;> simp [highB] at hj <;> subst hj <;> simp [Addr.add, go_sem, ↓IntWalk.iteOmega]) (by intro u hu; simp [highB] at hu; rcases hu with rfl | hu <;> first | rfl | (rcases hu with rfl | hu <;> first | rfl | (rcases hu with rfl | rfl <;> rfl))) (by decide) (by decide) (by have := I1.2.1; simp; omega) ?_; intro v2 w2 hown2 hgrow2 _; have I2 := EncInv.step (I1.alloc _) hown2 hgrow2; clear hown2 hgrow2; have hsz2 := I2.2.1; have f5 := I2.cell 5; simp only [Ask.cells, List.getElem?_cons_zero, List.getElem?_cons_succ] at f5)
      | (at_builtin; refine wpList_append_own _ rfl (.tmp 31) (.tmp 34) 94 rfl (w.heap.size + 1) 5 i0 (.int .u8 0) 1 1 Tryd.underlying94 hi hz0 hz1 hz2 rfl (by decide) _ 8 _ rfl (I2.1.alloc _) ⟨_, 0, none⟩ 4 4 ((highB a.price).map (Value.int .u8)) rfl rfl (by intro j u hj; rcases j with _ | _ | _ | _ | _ | _ | j <;> simp [highB] at hj <;> subst hj <;> simp [Addr.add, go_sem, ↓IntWalk.iteOmega]) (by intro u hu; simp [highB] at hu; rcases hu with rfl | hu <;> first | rfl | (rcases hu with rfl | hu <;> first | rfl | (rcases hu with rfl | rfl <;> rfl))) (by decide) (by decide) (by have := I2.2.1; simp; omega) ?_; intro v3 w3 hown3 hgrow3 _; have I3 := EncInv.step (I2.alloc _) hown3 hgrow3; clear hown3 hgrow3; have hsz3 := I3.2.1; have f6 := I3.cell 6; simp only [Ask.cells, List.getElem?_cons_zero, List.getElem?_cons_succ] at f6)
      | (at_builtin; refine wpList_append_own _ rfl (.tmp 36) (.tmp 39) 94 rfl (w.heap.size + 1) 5 i0 (.int .u8 0) 1 1 Tryd.underlying94 hi hz0 hz1 hz2 rfl (by decide) _ 12 _ rfl (I3.1.alloc _) ⟨_, 0, none⟩ 4 4 ((highB a.qty).map (Value.int .u8)) rfl rfl (by intro j u hj; rcases j with _ | _ | _ | _ | _ | _ | j <;> simp [highB] at hj <;> subst hj <;> simp [Addr.add, go_sem, ↓IntWalk.iteOmega]) (by intro u hu; simp [highB] at hu; rcases hu with rfl | hu <;> first | rfl | (rcases hu with rfl | hu <;> first | rfl | (rcases hu with rfl | rfl <;> rfl))) (by decide) (by decide) (by have := I3.2.1; simp; omega) ?_; intro v4 w4 hown4 hgrow4 _; have I4 := EncInv.step (I3.alloc _) hown4 hgrow4; clear hown4 hgrow4; have hsz4 := I4.2.1; have f7 := I4.cell 7; simp only [Ask.cells, List.getElem?_cons_zero, List.getElem?_cons_succ] at f7)
      | (at_builtin; refine wpList_append_own _ rfl (.tmp 41) (.tmp 44) 94 rfl (w.heap.size + 1) 5 i0 (.int .u8 0) 1 1 Tryd.underlying94 hi hz0 hz1 hz2 rfl (by decide) _ 16 _ rfl (I4.1.alloc _) ⟨_, 0, none⟩ 4 4 ((highB a.id).map (Value.int .u8)) rfl rfl (by intro j u hj; rcases j with _ | _ | _ | _ | _ | _ | j <;> simp [highB] at hj <;> subst hj <;> simp [Addr.add, go_sem, ↓IntWalk.iteOmega]) (by intro u hu; simp [highB] at hu; rcases hu with rfl | hu <;> first | rfl | (rcases hu with rfl | hu <;> first | rfl | (rcases hu with rfl | rfl <;> rfl))) (by decide) (by decide) (by have := I4.2.1; simp; omega) ?_; intro v5 w5 hown5 hgrow5 _; have I5 := EncInv.step (I4.alloc _) hown5 hgrow5; clear hown5 hgrow5; have hsz5 := I5.2.1; have f0 := I5.cell 0; simp only [Ask.cells, List.getElem?_cons_zero, List.getElem?_cons_succ] at f0)
      | ((at_builtin; refine wpList_append_own _ rfl (.tmp 46) (.tmp 47) 94 rfl (w.heap.size + 1) 5 i0 (.int .u8 0) 1 1 Tryd.underlying94 hi hz0 hz1 hz2 rfl (by decide) _ 20 _ rfl (I5.1.alloc _) ⟨_, 0, none⟩ 6 6 ([0, 0, 0, 0, 0, 0].map (Value.int .u8)) rfl rfl (by intro j u hj; rcases j with _ | _ | _ | _ | _ | _ | j <;> simp [highB] at hj <;> subst hj <;> simp [Addr.add, go_sem, ↓IntWalk.iteOmega]) (by intro u hu; simp [highB] at hu; rcases hu with rfl | hu <;> first | rfl | (rcases hu with rfl | hu <;> first | rfl | (rcases hu with rfl | rfl <;> rfl))) (by decide) (by decide) (by have := I5.2.1; simp; omega) ?_; intro v6 w6 hown6 hgrow6 _; have I6 := EncInv.step (I5.alloc _) hown6 hgrow6; clear hown6 hgrow6; have hsz6 := I6.2.1; have f1 := I6.cell 1; simp only [Ask.cells, List.getElem?_cons_zero, List.getElem?_cons_succ] at f1); have I7 : EncInv w a w6 v6 26 a.nums := I6; clear I6; obtain ⟨g6, cap6, rfl, hc6⟩ := I7.slice (by decide) rfl; have hconv := run_convert_bytes_arg (P := Tryd.prog) w6 94 5 Tryd.underlying94 Tryd.underlying5 g6 0 26 cap6 a.nums rfl hc6 9 Tryd.underlying9; clear hc6))
    all_goals go_ret2
    all_goals exact ⟨rfl, by
      have := I7.ex
      repeat (first | exact this | refine Ex.alloc ?_ _ | refine Ex.ext ?_ _ _ | refine Ex.drew ?_)⟩

set_option maxRecDepth 100000 in
theorem encode_bad (a : Ask) (E : Nat → Addr) (w : World) (hE : Errs E [2, 3, 4] w) (he : a.err ≠ 0) :
    Calls Tryd.prog 26 #[a.val] w fun e w' => e = .returned (.tuple #[.string ⟨#[]⟩, .iface 114 (.pointer (some (E a.err)))]) ∧ Ex w w' := by
  have hc := wireCheck_any a E
  rw [errV_pos E _ he] at hc
  have HC := Lib.hid hc
  clear he hc
  go_enter Tryd.func26, Tryd.ntmps26
  go_wp2_with (go_at_call 49; refine (HC.out _ (by exact Errs.sub (hE.ex (by repeat (first | exact Ex.refl _ | refine Ex.alloc ?_ _ | refine Ex.ext ?_ _ _ | refine Ex.drew ?_ | refine Ex.drewN ?_ _))) (by decide))).mono ?_; rintro e w1 ⟨rfl, l1, d1, rfl⟩)
  all_goals go_ret2
  all_goals exact ⟨rfl, (by repeat (first | exact Ex.refl _ | refine Ex.alloc ?_ _ | refine Ex.ext ?_ _ _ | refine Ex.drew ?_ | refine Ex.drewN ?_ _))⟩
end Go.Proofs.YthngmmhoakegeaaDoor
