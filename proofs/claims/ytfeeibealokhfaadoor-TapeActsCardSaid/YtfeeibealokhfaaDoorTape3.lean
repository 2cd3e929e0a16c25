/- What NewDisk and Read of package tape compute. -/
import Derived.Test.YtfeeibealokhfaaDoorTape2
import Derived.Test.YtfeeibealokhfaaDoorStrs
import Derived.Deep.AppendLies
import Derived.Laws.AppendOwn
set_option linter.unusedSimpArgs false
set_option linter.unusedVariables false
namespace Go.Proofs.YtfeeibealokhfaaDoor
open Go.RowKit

theorem DiskAt.fresh (own : Nat → Nat) (i : Nat) (w : World) (s : List UInt8) (hs : s.length ≤ 1048576) (c : Nat) (h1 : s.length ≤ c) (h2 : c ≤ maxLen) (t : TypeId) (hp : own (w.heap.size + 1) = i) (hq : own w.heap.size = i) :
    DiskAt own i ((w.alloc (.cells (bytesRow ⟨s.toArray⟩ c) 5 ((bytesRow ⟨s.toArray⟩ c).size, (bytesRow ⟨s.toArray⟩ c).size + 1))).alloc (.cells #[.slice (some ⟨w.heap.size, 0, none⟩) s.length c, .bool false, .int .i64 (-1)] t)) (w.heap.size + 1) ⟨s, false, -1⟩ := by
  have hz := bytes_size s
  refine ⟨hs, ⟨(show (-1 : Int) ≤ -1 by decide), (show (-1 : Int) ≤ 9223372036854775807 by decide)⟩, .slice (some ⟨w.heap.size, 0, none⟩) s.length c, ⟨t, ?_⟩, ⟨⟨by simp [byteC], .inr ⟨w.heap.size, 0, c, _, rfl, ⟨_, (Below.heap_alloc _ _ _ (by simp)).trans (heap_new rfl), .inr (Nat.le_refl _)⟩, h1, h2, ?_, ?_⟩⟩, fun g hg => ?_⟩, hp, fun e => ?_⟩
  · have h := World.rowIs_alloc (w.alloc (.cells (bytesRow ⟨s.toArray⟩ c) 5 ((bytesRow ⟨s.toArray⟩ c).size, (bytesRow ⟨s.toArray⟩ c).size + 1))) #[.slice (some ⟨w.heap.size, 0, none⟩) s.length c, .bool false, .int .i64 (-1)] t (fun j => if j = 0 then .slice (some ⟨w.heap.size, 0, none⟩) s.length c else dkF ⟨s, false, -1⟩ j) (fun j hj => by
      have : j = 0 ∨ j = 1 ∨ j = 2 := by simp at hj; omega
      rcases this with rfl | rfl | rfl <;> simp [dkF])
    simpa using h
  · simp [bytesRow]; omega
  · simp [bytesRow, byteC]
  · cases hg; exact hq
  · have e' := Option.some.inj (show some w.heap.size = some (w.heap.size + 1) from e)
    omega
set_option maxRecDepth 100000 in
theorem newDisk_any (own : Nat → Nat) (i : Nat) (s : List UInt8) (w : World) (hs : s.length ≤ 1048576) :
    Calls Tryd.prog 21 #[.string ⟨s.toArray⟩] w fun e w' => e = .returned (.tuple #[.pointer (some ⟨w.heap.size + 1, 0, none⟩), .nilIface]) ∧ ObjTo own i i w (fun o w' => DiskAt o i w' (w.heap.size + 1) ⟨s, false, -1⟩) w' := by
  have hz := bytes_size s
  have hv := run_bytes_of_string w 9 119 5 ⟨s.toArray⟩ Tryd.underlying9 Tryd.underlying119 Tryd.underlying5
  have hg1 := grownCap_ge w s.length 0 5
  have hg2 := grownCap_le_maxLen w s.length 0 5 (by unfold maxLen; omega)
  rw [hz] at hv
  generalize grownCap w s.length 0 5 = c at *
  go_enter Tryd.func21, Tryd.ntmps21
  go_wp2_with fail
  all_goals go_ret2
  all_goals exact ⟨rfl, ObjTo.of (by exact (((Kp.refl _ _ _ _).alloc _).alloc _).drew) (DiskAt.fresh _ _ _ s hs c hg1 hg2 _ (by unfold lab; rw [if_neg (by omega), if_pos (by simp [go_sem]; omega)]) (by unfold lab; rw [if_neg (by omega), if_pos (by simp [go_sem]; omega)]))⟩
theorem infoStr : (Tryd.prog.info? 9).map (fun i => (i.zero, i.size, i.bytes)) = some (some (.string ⟨#[]⟩), 1, 16) := by kernel_rfl
theorem strRow_len {w : World} {base : Nat} {e : TypeId} {size : Nat} {v : Value} {n : Nat} {xs : List Value} (h : w.ownsRow base e size v n xs) : ∃ ao cap, v = .slice ao n cap := by
  obtain ⟨_, ⟨rfl, rfl⟩ | ⟨g, cap, cur, rfl, _⟩⟩ := h
  · exact ⟨_, _, rfl⟩
  · exact ⟨_, _, rfl⟩
theorem recs_ge (l : List (List UInt8)) : l.length ≤ (recs l).length := by
  induction l with
  | nil => simp [recs]
  | cons x l ih => rw [recs_cons, List.length_append, recL_len, List.length_cons]; omega
/-- What Read returns. -/
def ReadRet (b : List UInt8) (base : Nat) (e : Ending) (w' : World) : Prop := ∃ v l n, e = .returned (.tuple #[v, .int .i64 ((n : Nat) : Int)]) ∧ Reads b l n ∧ w'.ownsRow base 9 1 v l.length (l.map strV)
set_option maxRecDepth 100000 in
set_option maxHeartbeats 2000000 in
theorem read_any (b : List UInt8) (w : World) (hb : b.length ≤ 2000000) :
    Calls Tryd.prog 20 #[.string ⟨b.toArray⟩] w fun e w' => ReadRet b w.heap.size e w' ∧ Ex w w' := by
  obtain ⟨i0, hi0, hz0, hz1, hz2⟩ := info_parts infoStr
  have hz := bytes_size b
  have HB := Lib.hid (show b.length ≤ 2000000 from hb)
  go_enter Tryd.func20, Tryd.ntmps20
  go_wp2_with fail
  go_loopw [4, 5] (fun v u wr => ∃ (l : List (List UInt8)) (t : List UInt8) (v' : Value) (at' : Nat), v' = v ∧ u = .int .i64 (at' : Int) ∧ at' = (recs l).length ∧ Fits l ∧ b = recs l ++ t ∧ wr.ownsRow w.heap.size 9 1 v' l.length (l.map strV) ∧ Ex w wr) (fun _ u _ => b.length - (intOf u).toNat)
  case atStart => exact ⟨[], b, _, 0, rfl, rfl, rfl, (show Fits [] from fun _ h => by simp at h), rfl, World.ownsRow_nil _ _ _ _, Ex.refl _⟩
  case round =>
    obtain ⟨l, t, v, at', rfl, rfl, hat, hf, hbt, hrow, hex⟩ := hrel
    have hle : at' + t.length = b.length := by rw [hbt, List.length_append, hat]
    have hts : (⟨b.toArray⟩ : ByteArray).extract at' b.length = ⟨t.toArray⟩ := by rw [bytes_tail _ _ _ (Nat.le_refl _)]; congr 2; rw [hbt, hat, List.drop_left]
    have hll : l.length ≤ at' := by rw [hat]; exact recs_ge l
    have HO := Lib.hid (fun w => tone_any t w (by omega))
    have HAT := Lib.hid hat
    have HF := Lib.hid hf
    have HBT := Lib.hid hbt
    have HROW := Lib.hid hrow
    have HEX := Lib.hid hex
    have hsz := hex.below.size
    have hcz := strRow_len hrow
    clear hat hf hbt hrow hex
    have a1 : (0 : Int) ≤ (at' : Int) := by omega
    have a2 : (at' : Int) ≤ (b.length : Int) := by omega
    go_upto_region 4 with (go_at_call 64; refine (HO.out _).mono ?_; rintro e w1 ⟨⟨s, r, rfl, hone⟩, l1, d1, rfl⟩)
    have HON := Lib.hid hone
    clear hone
    cases r with
    | false =>
      go_wp2_with fail
      all_goals go_ret2
      all_goals exact ⟨⟨v, l, at', rfl, ⟨HF.out, HAT.out, t, HBT.out, HON.out⟩, HROW.out.kept (belowGrownBy (by (refine Below.trans (Below.refl _ _) ?_; repeat (first | exact Below.refl _ _ | (refine Below.drew ?_) | (refine Below.drewN ?_ _) | (refine Below.ext ?_ (by first | omega | (simp [go_sem]; done) | (simp [go_sem]; omega)) _ _) | (refine Below.alloc ?_ (by first | omega | (simp [go_sem]; done) | (simp [go_sem]; omega)) _) | (refine Below.setCell ?_ (by first | omega | (simp [go_sem]; done) | (simp [go_sem]; omega)) _))))) (Classical.em _)⟩, HEX.out.trans (by repeat (first | exact Ex.refl _ | refine Ex.alloc ?_ _ | refine Ex.ext ?_ _ _ | refine Ex.drew ?_ | refine Ex.drewN ?_ _))⟩
    | true =>
      obtain ⟨hs1, hs2, hs3⟩ := oneL_some (show oneL t = some s from HON.out)
      have HS3 := Lib.hid hs3
      have zs := bytes_size s
      have hw : IntKind.i64.wrap ((at' : Int) + ((s.length : Int) + 12)) = (at' : Int) + ((s.length : Int) + 12) := IntWalk.i64_in _ (by omega)
      clear hs3
      obtain ⟨ao, cap, rfl⟩ := hcz
      go_wp2_with (at_builtin; refine wpList_append_own _ rfl (.tmp 19) (.tmp 21) 39 rfl w.heap.size 9 i0 _ 1 16 Tryd.underlying39 hi0 hz0 hz1 hz2 rfl (by decide) (.slice ao l.length cap) l.length (l.map strV) rfl ?_ _ 1 1 [strV s] rfl rfl ?_ ?_ (by unfold maxLen; omega) (by omega) ?_ ?_; (focus (refine HROW.out.kept (belowGrownBy ?_) (Classical.em _); ((refine Below.trans (Below.refl _ _) ?_; repeat (first | exact Below.refl _ _ | (refine Below.drew ?_) | (refine Below.drewN ?_ _) | (refine Below.ext ?_ (by first | omega | (simp [go_sem]; done) | (simp [go_sem]; omega)) _ _) | (refine Below.alloc ?_ (by first | omega | (simp [go_sem]; done) | (simp [go_sem]; omega)) _) | (refine Below.setCell ?_ (by first | omega | (simp [go_sem]; done) | (simp [go_sem]; omega)) _)))))); (focus exact World.news_of_block (alloc_top (by first | rfl | (simp [ext_size]; done) | (simp [ext_size]; omega)))); (focus simp [Value.oneCell', strV]); (focus (simp [go_sem, ext_size]; omega)); intro v1 w3 hown hgrow hnil; have HOW := Lib.hid hown; have HGR := Lib.hid hgrow; clear hown hgrow hnil)
      go_roundw
      case measure => simp [intOf]; omega
      case rel =>
        refine ⟨l ++ [s], t.drop (s.length + 12), v1, at' + (s.length + 12), rfl, by go_num, by rw [recs_len_snoc, ← HAT.out], fun z hz => ?_, ?_, ?_, ?_⟩
        · rw [List.mem_append, List.mem_singleton] at hz
          rcases hz with hz | rfl
          · exact HF.out z hz
          · exact hs1
        · rw [recs_append, recs_one, List.append_assoc, ← HS3.out]; exact HBT.out
        · rw [List.length_append, List.map_append]; exact HOW.out
        · exact Ex.of (Below.grown (HEX.out.trans (show Ex wr ((ext wr l1 d1).alloc (.cells #[.string ⟨s.toArray⟩] 9)) from (by repeat (first | exact Ex.refl _ | refine Ex.alloc ?_ _ | refine Ex.ext ?_ _ _ | refine Ex.drew ?_ | refine Ex.drewN ?_ _)))).below HGR.out (by simp [go_sem, ext_size]; omega) (fun j hj => (HROW.out.lt j hj).1))
end Go.Proofs.YtfeeibealokhfaaDoor
