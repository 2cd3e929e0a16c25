/- What Feed of package wire computes. -/
import Derived.Test.YthngmmhoakegeaaDoorFeedP
import Derived.Deep.AppendLies
set_option linter.unusedSimpArgs false
set_option linter.unusedVariables false
namespace Go.Proofs.YthngmmhoakegeaaDoor
open Go.RowKit

theorem infoGot : (Tryd.prog.info? 104).map (fun i => (i.zero, i.size, i.bytes)) = some (some (.agg #[.int .u8 0, .int .i64 0, .int .i64 0, .int .i64 0, .int .i64 0, .int .i64 0, .int .i64 0, .int .i64 0, .int .i64 0]), 9, 72) := by kernel_rfl
def sliceLen : Value → Nat
  | .slice _ n _ => n
  | _ => 0
theorem owns_len {w : World} {base : Nat} {e : TypeId} {size : Nat} {v : Value} {n : Nat} {xs : List Value} (h : w.ownsRow base e size v n xs) : sliceLen v = n := by
  obtain ⟨_, ⟨rfl, rfl⟩ | ⟨g, cap, cur, rfl, _⟩⟩ := h <;> rfl
theorem owns_bound {w : World} {base : Nat} {e : TypeId} {size : Nat} {v : Value} {n : Nat} {xs : List Value} (h : w.ownsRow base e size v n xs) {b : Nat} (hb : b < base) : v.ownBlock = none ∨ v.ownBlock ≠ some b := by
  obtain ⟨_, ⟨rfl, rfl⟩ | ⟨g, cap, cur, rfl, hg, _⟩⟩ := h
  · exact .inl rfl
  · exact .inr (by simp [Value.ownBlock]; omega)
theorem belowGrownBy {w w' : World} (h : Below w.heap.size w w') : w.grownBy w' none := by
  obtain ⟨a, b, c, d, e⟩ := h
  exact ⟨a, b, c, d, fun k hk _ => e k hk⟩
theorem alloc_top {w : World} {o : Obj} {n : Nat} (h : n = w.heap.size) : (w.alloc o).heap[n]? = some o := by
  subst h; show (w.heap.push o)[w.heap.size]? = _; simp
theorem ReaderAt.grown {w w' : World} {rb : Nat} {l : List UInt8} {row : Option Nat} (h : ReaderAt w rb l) (hg : w.grownBy w' row) (hne : some rb ≠ row) : ReaderAt w' rb l := (hg.block rb h.lt hne).trans h
theorem Fed.grown {w W w3 : World} {rb : Nat} {l : List UInt8} {row : Option Nat} (h : Fed w rb l W) (hg : W.grownBy w3 row) (hr : ∀ k, row = some k → w.heap.size ≤ k) : Fed w rb l w3 :=
  Ex.of (Below.grown (show Ex _ W from h).below hg (by simpa [go_sem] using h.size) (by simpa [go_sem] using hr))
theorem grown_cell (w : World) (b j : Nat) (v : Value) : w.grownBy (w.setCell ⟨b, j, none⟩ v) (some b) := ⟨rfl, rfl, rfl, by simp, fun k _ hk => heap_setCell_other w ⟨b, j, none⟩ k _ (fun e => hk (by simp [e]))⟩
set_option maxRecDepth 100000 in
set_option maxHeartbeats 4000000 in
theorem feed_any (rb : Nat) (r s : List UInt8) (E : Nat → Addr) (w0 w : World) (hR : CodeReady E w0) (h0 : Below w0.heap.size w0 w) (hrb : w0.heap.size ≤ rb) (hr : ReaderAt w rb r) (hlen : r.length + s.length ≤ 1000) :
    Calls Tryd.prog 55 #[.pointer (some ⟨rb, 0, none⟩), .string ⟨s.toArray⟩] w fun e w' => (∃ v, e = .returned v ∧ w'.ownsRow w.heap.size 104 9 v (gotsL (r ++ s)).length ((gotsL (r ++ s)).flatMap Got.cells)) ∧ Fed w rb (leftL (r ++ s)) w' := by
  obtain ⟨i0, hi0, hz0, hz1, hz2⟩ := info_parts infoGot
  have c0 := hr.cell
  have f0 := hr.frozen
  have hlt := hr.lt
  have HRD := Lib.hid hr
  have HB0 := Lib.hid h0
  have HR := Lib.hid hR
  have ha := bytes_add r s
  have z1 := bytes_size r
  have z2 := bytes_size s
  have HL : Hid ((r ++ s).length ≤ 1000) := Lib.hid (by rw [List.length_append]; exact hlen)
  clear hR h0 hr
  go_enter Tryd.func55, Tryd.ntmps55
  go_wp2_with fail
  have hA : (r ++ s).length ≤ 1000 := HL.out
  have HW : Hid (Fed w rb (r ++ s) (w.setCell ⟨rb, 0, none⟩ (.string ⟨(r ++ s).toArray⟩))) := Lib.hid (Ex.refl _)
  clear c0 f0 HL ha z1 z2 hlen
  generalize hAA : r ++ s = A at *
  have HAE := Lib.hid hAA
  clear hAA
  go_loopw [5] (fun v wr => ∃ (k : Nat) (u : Value), u = v ∧ k ≤ A.length / 30 ∧ wr.ownsRow w.heap.size 104 9 u k (((gotsL A).take k).flatMap Got.cells) ∧ Fed w rb (A.drop (30 * k)) wr) (fun v _ => A.length / 30 - sliceLen v)
  case atStart => exact ⟨0, _, rfl, Nat.zero_le _, World.ownsRow_nil _ _ _ _, by rw [Nat.mul_zero, List.drop_zero]; exact HW.out⟩
  case round =>
    obtain ⟨k, v, rfl, hk, hrow, hfd⟩ := hrel
    have hrd := hfd.reader HRD.out
    have c1 := hrd.cell
    have f1 := hrd.frozen
    have hl1 := hrd.lt
    have hsz := hfd.size
    have hvl := owns_len hrow
    have hob := owns_bound hrow hlt
    have hTl : (A.drop (30 * k)).length = A.length - 30 * k := List.length_drop
    have HRW := Lib.hid (HR.out.ex (Ex.of (hfd.below HB0.out hrb)))
    by_cases hkk : k < A.length / 30
    · have hg : (gotsL A).take (k + 1) = (gotsL A).take k ++ [gotOf ((A.drop (30 * k)).take 30)] := by
        have e : (gotsL A)[k]? = some (gotOf ((A.drop (30 * k)).take 30)) := by
          simp only [gotsL]
          rw [List.getElem?_map, List.getElem?_range hkk]; rfl
        rw [List.take_add_one, e]; rfl
      have hd : A.drop (30 * (k + 1)) = (A.drop (30 * k)).drop 30 := by rw [List.drop_drop]; congr 1
      have HG := Lib.hid hg
      have HD := Lib.hid hd
      have HFD := Lib.hid hfd
      have HROW := Lib.hid hrow
      clear hg hd hfd hrow hrd
      generalize A.drop (30 * k) = T at *
      have zT := bytes_size T
      have e1 := bytes_head T 30
      have e2 : (⟨T.toArray⟩ : ByteArray).extract 30 (A.length - 30 * k) = ⟨(T.drop 30).toArray⟩ := bytes_tail T 30 _ (by omega)
      have hT30 : 30 ≤ T.length := by omega
      have hcE := decE_le ⟨(T.take 30).toArray⟩
      have HDE := Lib.hid (fun w hE => decode_any ⟨(T.take 30).toArray⟩ E w hE)
      have HGO : Hid (gotOf (T.take 30) = ⟨decA ⟨(T.take 30).toArray⟩, decE ⟨(T.take 30).toArray⟩⟩) := Lib.hid rfl
      generalize decA ⟨(T.take 30).toArray⟩ = X at *
      generalize decE ⟨(T.take 30).toArray⟩ = cd at *
      have HCO := Lib.hid (fun w hr => code_same cd E w hr (by omega))
      go_wp2_with (first
        | (go_at_call 50; refine (HDE.out _ (Errs.sub (HRW.out.1.ex (by repeat (first | exact Ex.refl _ | refine Ex.alloc ?_ _ | refine Ex.ext ?_ _ _ | refine Ex.drew ?_ | refine Ex.drewN ?_ _))) (by decide))).mono ?_; rintro e w1 ⟨rfl, l1, d1, rfl⟩)
        | (go_at_call 30; refine (HCO.out _ (HRW.out.ex (by repeat (first | exact Ex.refl _ | refine Ex.alloc ?_ _ | refine Ex.ext ?_ _ _ | refine Ex.drew ?_ | refine Ex.drewN ?_ _)))).mono ?_; rintro e w1 ⟨rfl, l2, d2, rfl⟩)
        | (at_builtin; refine wpList_append_own _ rfl (.tmp 38) (.tmp 42) 100 rfl w.heap.size 104 i0 _ 9 72 Tryd.underlying100 hi0 hz0 hz1 hz2 rfl (by decide) v k (((gotsL A).take k).flatMap Got.cells) rfl ?_ _ 1 1 [.int .u8 X.kind, .int .i64 X.client, .int .i64 X.seq, .int .i64 X.item, .int .i64 X.side, .int .i64 X.price, .int .i64 X.qty, .int .i64 X.id, .int .i64 (cd : Int)] rfl rfl ?_ ?_ (by unfold maxLen; omega) (by omega) ?_ ?_; (focus (refine HROW.out.kept (belowGrownBy ?_) (Classical.em _); ((refine Below.trans (Below.refl _ _) ?_; repeat (first | exact Below.refl _ _ | (refine Below.drew ?_) | (refine Below.drewN ?_ _) | (refine Below.ext ?_ (by first | omega | (simp [go_sem]; done) | (simp [go_sem]; omega)) _ _) | (refine Below.alloc ?_ (by first | omega | (simp [go_sem]; done) | (simp [go_sem]; omega)) _) | (refine Below.setCell ?_ (by first | omega | (simp [go_sem]; done) | (simp [go_sem]; omega)) _)))))); (focus exact World.news_of_block (alloc_top (by first | rfl | (simp [ext_size]; done) | (simp [ext_size]; omega)))); (focus simp [Value.oneCell']); (focus (simp [go_sem, ext_size]; omega)); intro v1 w3 hown hgrow hnil; have hrd3 := ((HFD.out.reader HRD.out).ex (by repeat (first | exact Ex.refl _ | refine Ex.alloc ?_ _ | refine Ex.ext ?_ _ _ | refine Ex.drew ?_ | refine Ex.drewN ?_ _))).grown hgrow (hob.elim (fun h => by rw [h]; simp) (fun h => Ne.symm h)); have c3 := hrd3.cell; have f3 := hrd3.frozen; have l3 := hrd3.lt; have HR3 := Lib.hid hrd3; have HOW := Lib.hid hown; have HGR := Lib.hid hgrow; clear hrd3 hown hgrow hnil))
      go_roundw
      case measure => rw [owns_len HOW.out, hvl]; omega
      case rel =>
        refine ⟨k + 1, _, rfl, by omega, ?_, ?_⟩
        · have h := HOW.out.kept (grown_cell w3 rb 0 (.string ⟨(T.drop 30).toArray⟩)) (owns_bound HOW.out hlt)
          rw [HG.out, List.flatMap_append, HGO.out]
          exact h
        · rw [HD.out]
          exact Fed.set ((HFD.out.step (by repeat (first | exact Ex.refl _ | refine Ex.alloc ?_ _ | refine Ex.ext ?_ _ _ | refine Ex.drew ?_ | refine Ex.drewN ?_ _))).grown HGR.out (fun j hj => (HROW.out.lt j hj).1)) HRD.out _
    · obtain rfl : k = A.length / 30 := by omega
      have hT2 : (A.drop (30 * (A.length / 30))).length < 30 := by omega
      have HFD := Lib.hid hfd
      have HROW := Lib.hid hrow
      have HTK : Hid ((gotsL A).take (A.length / 30) = gotsL A) := Lib.hid (List.take_of_length_le (by rw [gotsL_len]; exact Nat.le_refl _))
      clear hfd hrow hrd
      have zT := bytes_size (A.drop (30 * (A.length / 30)))
      go_wp2_with fail
      all_goals go_ret
      all_goals exact ⟨⟨_, rfl, by rw [HAE.out, gotsL_len]; have h := HROW.out; rw [HTK.out] at h; exact h⟩, by rw [HAE.out]; exact HFD.out.step (by repeat (first | exact Ex.refl _ | refine Ex.alloc ?_ _ | refine Ex.ext ?_ _ _ | refine Ex.drew ?_ | refine Ex.drewN ?_ _))⟩
end Go.Proofs.YthngmmhoakegeaaDoor
