/- What the document's BestOf, PricesOf and SameInts compute. -/
import Derived.Test.YtjkaeiioofknoaaDoorRefLots
import Derived.Test.YtjkaeiioofknoaaDoorClearP
import Derived.Test.YtjkaeiioofknoaaDoorPrices
set_option linter.unusedSimpArgs false
set_option linter.unusedVariables false
namespace Go.Proofs.YtjkaeiioofknoaaDoor
open Go.RowKit

set_option maxRecDepth 100000 in
set_option maxHeartbeats 2000000 in
theorem refBest_any (ao : Option Addr) (len cap : Nat) (l : List Lot) (side : Int) (w : World) (hl : LotsAt w ao len l) (hok : LotsOk l) :
    Calls Tryd.prog 44 #[.slice ao len cap, .int .i64 side] w fun e w' => e = .returned (.int .i64 (bestOf side l)) ∧ w = w' := by
  have HLA := Lib.hid hl
  have HOK := Lib.hid hok
  have HLEN := Lib.hid hl.1
  have hmx := hl.2.1
  clear hl hok
  go_enter Tryd.func44, Tryd.ntmps44
  go_wp2_with fail
  go_loop [5, 6, 7] (fun n i q => ∃ (k : Nat), k ≤ len ∧ i = .int .i64 k ∧ n = .int .i64 (bestOf side (l.take k))) (fun _ i _ => len - (intOf i).toNat)
  case atStart => exact ⟨0, Nat.zero_le _, rfl, (by simp [bestOf])⟩
  case round =>
    obtain ⟨k, hk, rfl, rfl⟩ := hrel
    by_cases hlt : k < len
    · have hkl : k < l.length := by rw [HLEN.out]; omega
      obtain ⟨b, off, rfl, hbs, hz⟩ := HLA.out.2.2.2 (by omega)
      have hzk := hz k hkl
      have ha0 : l[k]? = some (l[k]'hkl) := List.getElem?_eq_getElem hkl
      clear hz
      generalize l[k]'hkl = a at hzk ha0
      have a0 := hzk 0 (by omega)
      have a1 := hzk 1 (by omega)
      have a2 := hzk 2 (by omega)
      have a3 := hzk 3 (by omega)
      have a4 := hzk 4 (by omega)
      simp only [Lot.cells, List.getElem?_cons_zero, List.getElem?_cons_succ, Nat.add_zero] at a0 a1 a2 a3 a4
      clear hzk
      have hstep := bestOf_step side ha0
      have hao := (Lot.ok_iff.1 (HOK.out.ok ha0)).2.2.1
      have HS := Lib.hid hstep
      clear hstep ha0
      generalize bestOf side (l.take k) = n at *
      cases h1 : (a.side == side)
      · have h1' : (a.side != side) = true := by simp at h1 ⊢; exact h1
        have htk : takes side n a = false := by simp only [takes, *, Bool.false_and, Bool.true_and, Bool.and_true, Bool.and_false, Bool.or_true, Bool.true_or, Bool.false_or, Bool.or_false] <;> (first | done | rfl | (simp; done) | (simp; omega))
        have HTK := Lib.hid htk
        clear htk
        go_wp2_with fail
        all_goals
          go_round
          case measure => simp [intOf]; omega
          case rel => exact ⟨k + 1, by omega, by go_num, by rw [HS.out, HTK.out]; rfl⟩
      have h1' : (a.side != side) = false := by simp at h1 ⊢; exact h1
      cases h2 : (n == 0)
      · cases h3 : (side == 0)
        · have h5 : (side == 1) = true := by simp at h1 h3 ⊢; omega
          by_cases h4 : a.price < n
          · have htk : takes side n a = true := by simp only [takes, *, Bool.false_and, Bool.true_and, Bool.and_true, Bool.and_false, Bool.or_true, Bool.true_or, Bool.false_or, Bool.or_false] <;> (first | done | rfl | (simp; done) | (simp; omega))
            have HTK := Lib.hid htk
            clear htk
            go_wp2_with fail
            all_goals
              go_round
              case measure => simp [intOf]; omega
              case rel => exact ⟨k + 1, by omega, by go_num, by rw [HS.out, HTK.out]; rfl⟩
          · have htk : takes side n a = false := by simp only [takes, *, Bool.false_and, Bool.true_and, Bool.and_true, Bool.and_false, Bool.or_true, Bool.true_or, Bool.false_or, Bool.or_false] <;> (first | done | rfl | (simp; done) | (simp; omega))
            have HTK := Lib.hid htk
            clear htk
            go_wp2_with fail
            all_goals
              go_round
              case measure => simp [intOf]; omega
              case rel => exact ⟨k + 1, by omega, by go_num, by rw [HS.out, HTK.out]; rfl⟩
        · have h5 : (side == 1) = false := by simp at h3 ⊢; omega
          by_cases h4 : a.price > n
          · have htk : takes side n a = true := by simp only [takes, *, Bool.false_and, Bool.true_and, Bool.and_true, Bool.and_false, Bool.or_true, Bool.true_or, Bool.false_or, Bool.or_false] <;> (first | done | rfl | (simp; done) | (simp; omega))
            have HTK := Lib.hid htk
            clear htk
            go_wp2_with fail
            all_goals
              go_round
              case measure => simp [intOf]; omega
              case rel => exact ⟨k + 1, by omega, by go_num, by rw [HS.out, HTK.out]; rfl⟩
          · have htk : takes side n a = false := by simp only [takes, *, Bool.false_and, Bool.true_and, Bool.and_true, Bool.and_false, Bool.or_true, Bool.true_or, Bool.false_or, Bool.or_false] <;> (first | done | rfl | (simp; done) | (simp; omega))
            have HTK := Lib.hid htk
            clear htk
            go_wp2_with fail
            all_goals
              go_round
              case measure => simp [intOf]; omega
              case rel => exact ⟨k + 1, by omega, by go_num, by rw [HS.out, HTK.out]; rfl⟩
      · have htk : takes side n a = true := by simp only [takes, *, Bool.false_and, Bool.true_and, Bool.and_true, Bool.and_false, Bool.or_true, Bool.true_or, Bool.false_or, Bool.or_false] <;> (first | done | rfl | (simp; done) | (simp; omega))
        have HTK := Lib.hid htk
        clear htk
        go_wp2_with fail
        all_goals
          go_round
          case measure => simp [intOf]; omega
          case rel => exact ⟨k + 1, by omega, by go_num, by rw [HS.out, HTK.out]; rfl⟩
    · go_wp2
      go_ret
      exact ⟨ret_int (by rw [List.take_of_length_le (by have := HLEN.out; omega)]), rfl⟩

set_option maxRecDepth 100000 in
theorem sameInts_any (ao bo : Option Addr) (c1 c2 : Nat) (zs : List Int) (w : World) (h1 : IntsAt w ao zs) (h2 : IntsAt w bo zs) (hz : zs.length ≤ 1000) :
    Calls Tryd.prog 39 #[.slice ao zs.length c1, .slice bo zs.length c2] w fun e w' => e = .returned (.bool true) ∧ Ex w w' := by
  have H1 := Lib.hid h1
  have H2 := Lib.hid h2
  clear h1 h2
  go_enter Tryd.func39, Tryd.ntmps39
  go_wp2_with fail
  go_loopw [5] (fun i wr => ∃ (k : Nat), k ≤ zs.length ∧ i = .int .i64 k ∧ Ex w wr) (fun i _ => zs.length - (intOf i).toNat)
  case atStart => exact ⟨0, Nat.zero_le _, rfl, Ex.refl _⟩
  case round =>
    obtain ⟨k, hk, rfl, l1, d1, rfl⟩ := hrel
    by_cases hlt : k < zs.length
    · obtain ⟨b1, o1, rfl, hb1, hc1⟩ := H1.out (by omega)
      obtain ⟨b2, o2, rfl, hb2, hc2⟩ := H2.out (by omega)
      have a1 := hc1 k hlt
      have a2 := hc2 k hlt
      generalize zs[k] = z at a1 a2
      have ez : (z != z) = false := by simp
      clear hc1 hc2
      go_wp2_with fail
      go_quiet (fail)
      all_goals go_wp2
      all_goals
        go_roundw
        case measure => simp [intOf]; omega
        case rel => exact ⟨k + 1, by omega, by go_num, (by repeat (first | exact Ex.refl _ | refine Ex.alloc ?_ _ | refine Ex.ext ?_ _ _ | refine Ex.drew ?_ | refine Ex.drewN ?_ _))⟩
    · go_wp2
      go_ret
      exact ⟨rfl, (by repeat (first | exact Ex.refl _ | refine Ex.alloc ?_ _ | refine Ex.ext ?_ _ _ | refine Ex.drew ?_ | refine Ex.drewN ?_ _))⟩

theorem ins_spec {xs : List Int} {p : Int} {m : Nat} (hs : xs.Pairwise (· < ·)) (hm : m ≤ xs.length) (h1 : ∀ j (h : j < xs.length), j < m → xs[j] < p) (h2 : ∀ (h : m < xs.length), p < xs[m]) :
    (xs.take m ++ [p] ++ xs.drop m).Pairwise (· < ·) ∧ ∀ q, q ∈ (xs.take m ++ [p] ++ xs.drop m) ↔ q ∈ xs ∨ q = p := by
  have hg := List.pairwise_iff_getElem.1 hs
  have hd : ∀ y ∈ xs.drop m, p < y := by
    intro y hy
    obtain ⟨i, hi, rfl⟩ := List.getElem_of_mem hy
    rw [List.getElem_drop]
    simp at hi
    have a := h2 (by omega)
    by_cases e : i = 0
    · subst e; simpa using a
    · have := hg m (m + i) (by omega) (by omega) (by omega); omega
  have ht : ∀ y ∈ xs.take m, y < p := by
    intro y hy
    rw [List.mem_take_iff_getElem] at hy
    obtain ⟨i, hi, rfl⟩ := hy
    exact h1 i (by omega) (by omega)
  refine ⟨?_, fun q => ?_⟩
  · rw [List.pairwise_append, List.pairwise_append]
    refine ⟨⟨hs.sublist (List.take_sublist _ _), by simp, fun a ha b hb => by simp at hb; rw [hb]; exact ht a ha⟩, hs.sublist (List.drop_sublist _ _), fun a ha b hb => ?_⟩
    have := hd b hb
    rcases List.mem_append.1 ha with ha | ha
    · have := ht a ha; omega
    · simp at ha; omega
  · conv => rhs; rw [← List.take_append_drop m xs]
    simp only [List.mem_append, List.mem_singleton]
    constructor
    · rintro ((h | h) | h)
      · exact .inl (.inl h)
      · exact .inr h
      · exact .inl (.inr h)
    · rintro ((h | h) | h)
      · exact .inl (.inl h)
      · exact .inr h
      · exact .inl (.inr h)
theorem sorted_unique : ∀ {xs ys : List Int}, xs.Pairwise (· < ·) → ys.Pairwise (· < ·) → (∀ p, p ∈ xs ↔ p ∈ ys) → xs = ys
  | [], [], _, _, _ => rfl
  | [], y :: ys, _, _, h => by have := (h y).2 (by simp); cases this
  | x :: xs, [], _, _, h => by have := (h x).1 (by simp); cases this
  | x :: xs, y :: ys, hx, hy, h => by
    rw [List.pairwise_cons] at hx hy
    have e : x = y := by
      have a := (h x).1 (by simp)
      have b := (h y).2 (by simp)
      rcases List.mem_cons.1 a with a | a
      · exact a
      · rcases List.mem_cons.1 b with b | b
        · exact b.symm
        · have := hy.1 x a; have := hx.1 y b; omega
    subst e
    congr 1
    refine sorted_unique hx.2 hy.2 fun p => ⟨fun hp => ?_, fun hp => ?_⟩
    · have := hx.1 p hp
      rcases List.mem_cons.1 ((h p).1 (by simp [hp])) with e | e
      · omega
      · exact e
    · have := hy.1 p hp
      rcases List.mem_cons.1 ((h p).2 (by simp [hp])) with e | e
      · omega
      · exact e

/-- What k rounds of PricesOf leave. -/
def PrInv (l : List Lot) (w : World) (k : Nat) (u : Value) (xs : List Int) (wr : World) : Prop := wr.ownsRow w.heap.size 3 1 u xs.length (xs.map (Value.int .i64)) ∧ xs.Pairwise (· < ·) ∧ (∀ p, p ∈ xs ↔ ∃ x ∈ l.take k, x.price = p) ∧ xs.length ≤ k ∧ Below w.heap.size w wr
theorem PrInv.same {l : List Lot} {w wr w' : World} {k : Nat} {u : Value} {xs : List Int} {a : Lot} (h : PrInv l w k u xs wr) (ha : l[k]? = some a) (hp : a.price ∈ xs) (hx : Ex wr w') : PrInv l w (k + 1) u xs w' := by
  obtain ⟨h1, h2, h3, h4, h5⟩ := h
  refine ⟨h1.kept (Below.grownBy hx.below) (Classical.em _), h2, fun p => ?_, by omega, h5.trans (hx.below.mono h5.size)⟩
  rw [List.take_add_one, ha, h3]
  simp only [Option.toList_some, List.mem_append, List.mem_singleton]
  constructor
  · rintro ⟨x, hx, e⟩; exact ⟨x, .inl hx, e⟩
  · rintro ⟨x, hx | rfl, e⟩
    · exact ⟨x, hx, e⟩
    · rw [e] at hp; exact (h3 p).1 hp
theorem PrInv.ins {l : List Lot} {w wr w' : World} {k m : Nat} {u v : Value} {xs : List Int} {a : Lot} (h : PrInv l w k u xs wr) (ha : l[k]? = some a) (hm : m ≤ xs.length) (h1 : ∀ j (h : j < xs.length), j < m → xs[j] < a.price) (h2 : ∀ (h : m < xs.length), a.price < xs[m])
    (hv : w'.ownsRow w.heap.size 3 1 v (xs.length + 1) ((xs.take m ++ [a.price] ++ xs.drop m).map (Value.int .i64))) (hB : Below wr.heap.size wr w') : PrInv l w (k + 1) v (xs.take m ++ [a.price] ++ xs.drop m) w' := by
  obtain ⟨k1, k2, k3, k4, k5⟩ := h
  obtain ⟨i1, i2⟩ := ins_spec k2 hm h1 h2
  have el : (xs.take m ++ [a.price] ++ xs.drop m).length = xs.length + 1 := by simp; omega
  refine ⟨by rw [el]; exact hv, i1, fun p => ?_, by rw [el]; omega, k5.trans (hB.mono k5.size)⟩
  rw [i2, List.take_add_one, ha, k3]
  simp only [Option.toList_some, List.mem_append, List.mem_singleton]
  constructor
  · rintro (⟨x, hx, e⟩ | rfl)
    · exact ⟨x, .inl hx, e⟩
    · exact ⟨a, .inr rfl, rfl⟩
  · rintro ⟨x, hx | rfl, e⟩
    · exact .inl ⟨x, hx, e⟩
    · exact .inr e.symm

theorem owns_mono {w : World} {base base' : Nat} {e : TypeId} {size : Nat} {v : Value} {n : Nat} {xs : List Value} (h : w.ownsRow base e size v n xs) (hb : base' ≤ base) : w.ownsRow base' e size v n xs :=
  ⟨h.1, h.2.imp id fun ⟨g, cap, cur, h1, h2, h3⟩ => ⟨g, cap, cur, h1, Nat.le_trans hb h2, h3⟩⟩
theorem int_one {l : List Int} : ∀ u ∈ l.map (Value.int .i64), u.oneCell' = true := fun u hu => by
  obtain ⟨x, _, rfl⟩ := List.mem_map.1 hu; rfl
theorem add_none (g o j : Nat) : (⟨g, o, none⟩ : Addr).add j = ⟨g, o + j, none⟩ := by unfold Addr.add; split <;> simp_all
theorem row_take {wr W : World} {g : Nat} {xs : List Int} (hc : ∀ j (h : j < xs.length), wr.cell? ⟨g, j, none⟩ = some (.int .i64 xs[j])) (hB : Below wr.heap.size wr W) (hg : g < wr.heap.size) (m : Nat) : ∀ j u, ((xs.take m).map (Value.int .i64))[j]? = some u → W.cell? ((⟨g, 0, none⟩ : Addr).add j) = some u := fun j u hj => by
  rw [add_none, Nat.zero_add, hB.cell (p := ⟨g, j, none⟩) hg]
  rw [List.getElem?_map, Option.map_eq_some_iff] at hj
  obtain ⟨x, hx, rfl⟩ := hj
  obtain ⟨h1, h2⟩ := List.getElem?_eq_some_iff.1 hx
  rw [List.getElem_take] at h2
  simp at h1
  rw [hc j (by omega), h2]
theorem row_drop {wr W : World} {g : Nat} {xs : List Int} (hc : ∀ j (h : j < xs.length), wr.cell? ⟨g, j, none⟩ = some (.int .i64 xs[j])) (hB : Below wr.heap.size wr W) (hg : g < wr.heap.size) (m : Nat) : ∀ j u, ((xs.drop m).map (Value.int .i64))[j]? = some u → W.cell? ((⟨g, m, none⟩ : Addr).add j) = some u := fun j u hj => by
  rw [add_none, hB.cell (p := ⟨g, m + j, none⟩) hg]
  rw [List.getElem?_map, Option.map_eq_some_iff] at hj
  obtain ⟨x, hx, rfl⟩ := hj
  obtain ⟨h1, h2⟩ := List.getElem?_eq_some_iff.1 hx
  rw [List.getElem_drop] at h2
  simp at h1
  rw [hc (m + j) (by omega), h2]
theorem row_none {W : World} {ad : Addr} {xs : List Int} {m : Nat} (h : xs.length ≤ m) : ∀ j u, ((xs.drop m).map (Value.int .i64))[j]? = some u → W.cell? (ad.add j) = some u := fun j u hj => by
  rw [List.drop_of_length_le h] at hj; simp at hj
set_option maxRecDepth 100000 in
set_option maxHeartbeats 8000000 in
theorem pricesOf_any (ao : Option Addr) (len cap : Nat) (l : List Lot) (w : World) (hl : LotsAt w ao len l) (h120 : len ≤ 120) :
    Calls Tryd.prog 45 #[.slice ao len cap] w fun e w' => (∃ ao' cap', e = .returned (.slice ao' (pricesL l).length cap') ∧ IntsAt w' ao' (pricesL l)) ∧ Ex w w' := by
  have HLA := Lib.hid hl
  have HLEN := Lib.hid hl.1
  obtain ⟨i0, hi0, hi⟩ := Option.map_eq_some_iff.1 infoInt
  simp only [Prod.mk.injEq] at hi
  obtain ⟨hz0, hz1, hz2⟩ := hi
  clear hl
  go_enter Tryd.func45, Tryd.ntmps45
  go_wp2_with fail
  go_loopw [3, 4, 5, 6] (fun v i _ _ wr => ∃ (k : Nat) (u : Value) (xs : List Int), u = v ∧ k ≤ len ∧ i = .int .i64 k ∧ PrInv l w k u xs wr) (fun _ i _ _ _ => len - (intOf i).toNat)
  case atStart => exact ⟨0, _, [], rfl, Nat.zero_le _, rfl, World.ownsRow_nil _ _ _ _, List.Pairwise.nil, fun p => by simp, Nat.le_refl _, Below.refl _ _⟩
  case round =>
    obtain ⟨k, v, xs, rfl, hk, rfl, hinv⟩ := hrel
    have hB := hinv.2.2.2.2
    have hwz := hB.size
    have hxk := hinv.2.2.2.1
    have HINV := Lib.hid hinv
    have HLW := Lib.hid (HLA.out.ex (Ex.of hB))
    have HB := Lib.hid hB
    clear hB
    by_cases hlt : k < len
    · have hkl : k < l.length := by rw [HLEN.out]; omega
      obtain ⟨b, off, rfl, hbs, hz⟩ := HLW.out.2.2.2 (by omega)
      have hzk := hz k hkl
      have ha0 : l[k]? = some (l[k]'hkl) := List.getElem?_eq_getElem hkl
      clear hz
      generalize l[k]'hkl = a at hzk ha0
      have a3 := hzk 3 (by omega)
      simp only [Lot.cells, List.getElem?_cons_zero, List.getElem?_cons_succ] at a3
      have HA0 := Lib.hid ha0
      clear hzk ha0
      by_cases hv : v = .slice none 0 0
      · subst hv
        have hx0 : xs = [] := by
          rcases hinv.1.2 with ⟨_, h⟩ | ⟨g, cap, cur, e, _⟩
          · exact List.length_eq_zero_iff.1 h
          · cases e
        subst hx0
        clear hinv
        go_wp2_with fail
        go_loopw [5] (fun c wq => c = .int .i64 0 ∧ Ex wr wq) (fun _ _ => 0)
        case atStart => exact ⟨rfl, Ex.refl _⟩
        case round =>
          obtain ⟨rfl, l1, d1, rfl⟩ := hrel
          go_wp2_with fail
          go_quiet (fail)
          go_wp2_with fail
          go_quiet (fail)
          go_upto_region 12 with (first
            | (at_builtin; refine wpList_append_own_none rfl (.tmp 47) (.tmp 50) 44 rfl wr.heap.size 3 i0 1 Tryd.underlying44 hi0 _ 0 [] rfl (World.ownsRow_nil _ _ _ _) rfl ?_)
            | (at_builtin; refine wpList_append_own _ rfl (.tmp 52) (.tmp 58) 44 rfl wr.heap.size 3 i0 _ 1 8 Tryd.underlying44 hi0 hz0 hz1 hz2 rfl (by decide) (.slice none 0 0) 0 [] rfl (World.ownsRow_nil _ _ _ _) _ 1 1 [.int .i64 a.price] rfl rfl ?_ ?_ (by unfold maxLen; omega) (by omega) ?_ ?_; (focus exact World.news_of_block (alloc_at (by simp [ext_size]))); (focus simp [Value.oneCell']); (focus exact (by first | omega | (simp [go_sem]; done) | (simp [go_sem]; omega))); intro v1 w1 hown hgrow hnil))
          have hb1 : Below wr.heap.size wr w1 := by
            refine Below.grown (a := _) ?_ hgrow ?_ (fun b hb => by cases hb)
            · (refine Below.trans (Below.refl _ _) ?_; repeat (first | exact Below.refl _ _ | (refine Below.drew ?_) | (refine Below.drewN ?_ _) | (refine Below.ext ?_ (by first | omega | (simp [go_sem]; done) | (simp [go_sem]; omega)) _ _) | (refine Below.alloc ?_ (by first | omega | (simp [go_sem]; done) | (simp [go_sem]; omega)) _) | (refine Below.setCell ?_ (by first | omega | (simp [go_sem]; done) | (simp [go_sem]; omega)) _)))
            · exact (by first | omega | (simp [go_sem]; done) | (simp [go_sem]; omega))
          go_wp2_with (at_builtin; refine wpList_append_own_none rfl (.tmp 60) (.tmp 63) 44 rfl wr.heap.size 3 i0 1 Tryd.underlying44 hi0 v1 _ _ rfl hown rfl ?_)
          all_goals
            go_roundw
            case measure => simp [intOf]; omega
            case rel => exact ⟨k + 1, v1, [a.price], rfl, by omega, by go_num, by simpa using HINV.out.ins (m := 0) HA0.out (Nat.zero_le _) (fun j h hj => by omega) (fun h => by simp at h) (by simpa using owns_mono hown hwz) hb1⟩
      · obtain ⟨g, cap2, rfl, hbg, hlg, hn, hm, hlz, hH⟩ := Lib.holds_of_ownsRow hinv.1 hv
        have HCELL : Hid (∀ j (h : j < xs.length), wr.cell? ⟨g, j, none⟩ = some (.int .i64 xs[j])) := Lib.hid (fun j h => by
          have := (hH j (by simpa using h)).1
          simpa [getElem!_pos, h] using this)
        clear hinv hv hH
        go_wp2_with fail
        go_loopw [5] (fun c wq => ∃ m : Nat, m ≤ xs.length ∧ c = .int .i64 m ∧ (∀ j (h : j < xs.length), j < m → xs[j] < a.price) ∧ Ex wr wq) (fun c _ => xs.length - (intOf c).toNat)
        case atStart => exact ⟨0, Nat.zero_le _, rfl, (fun j h hj => by omega), Ex.refl _⟩
        case round =>
          obtain ⟨m, hmle, rfl, h1, l1, d1, rfl⟩ := hrel
          have H1 := Lib.hid h1
          clear h1
          by_cases hml : m < xs.length
          · have hy := HCELL.out m hml
            have hmem : xs[m] ∈ xs := List.getElem_mem hml
            have H3 : Hid (∀ j (h : j < xs.length), j < m + 1 → xs[m] < a.price → xs[j] < a.price) := Lib.hid (fun j h hj hlt => by
              by_cases e : j = m
              · subst e; exact hlt
              · exact H1.out j h (by omega))
            have H2 : Hid (a.price < xs[m] → ∀ (h : m < xs.length), a.price < xs[m]) := Lib.hid (fun h _ => h)
            generalize xs[m] = y at *
            have HMEM := Lib.hid hmem
            clear hmem
            by_cases hyp : y < a.price
            · go_wp2_with fail
              go_quiet (fail)
              all_goals go_wp2_with fail
              all_goals
                go_roundw
                case measure => simp [intOf]; omega
                case rel => exact ⟨m + 1, by omega, by go_num, fun j h hj => H3.out j h hj hyp, (by repeat (first | exact Ex.refl _ | refine Ex.alloc ?_ _ | refine Ex.ext ?_ _ _ | refine Ex.drew ?_ | refine Ex.drewN ?_ _))⟩
            · by_cases hye : y = a.price
              · have hyb : (y == a.price) = true := by simpa using hye
                have HYE := Lib.hid hye
                clear hye
                go_wp2_with fail
                go_quiet (fail)
                go_wp2_with fail
                go_quiet (fail)
                go_wp2_with fail
                all_goals
                  go_roundw
                  case measure => simp [intOf]; omega
                  case rel => exact ⟨k + 1, _, xs, rfl, by omega, by go_num, HINV.out.same HA0.out (by rw [← HYE.out]; exact HMEM.out) (by repeat (first | exact Ex.refl _ | refine Ex.alloc ?_ _ | refine Ex.ext ?_ _ _ | refine Ex.drew ?_ | refine Ex.drewN ?_ _))⟩
              · have hyb : (y == a.price) = false := by simpa using hye
                have hyl : a.price < y := by omega
                have H2' := Lib.hid (H2.out hyl)
                clear H2
                have H2 := H2'
                go_wp2_with fail
                go_quiet (fail)
                go_wp2_with fail
                go_quiet (fail)
                go_upto_region 11 with (at_builtin; refine wpList_append_own _ rfl (.tmp 47) (.tmp 50) 44 rfl wr.heap.size 3 i0 _ 1 8 Tryd.underlying44 hi0 hz0 hz1 hz2 rfl (by decide) (.slice none 0 0) 0 [] rfl (World.ownsRow_nil _ _ _ _) ⟨g, 0, none⟩ m cap2 ((xs.take m).map (Value.int .i64)) rfl ?_ ?_ ?_ (by unfold maxLen; omega) (by omega) ?_ ?_; (focus (simp; omega)); (focus (refine row_take HCELL.out ?_ hlg m; ((refine Below.trans (Below.refl _ _) ?_; repeat (first | exact Below.refl _ _ | (refine Below.drew ?_) | (refine Below.drewN ?_ _) | (refine Below.ext ?_ (by first | omega | (simp [go_sem]; done) | (simp [go_sem]; omega)) _ _) | (refine Below.alloc ?_ (by first | omega | (simp [go_sem]; done) | (simp [go_sem]; omega)) _) | (refine Below.setCell ?_ (by first | omega | (simp [go_sem]; done) | (simp [go_sem]; omega)) _)))))); (focus exact int_one); (focus exact (by first | omega | (simp [go_sem]; done) | (simp [go_sem]; omega))); intro v1 w1 hown1 hgrow1 _)
                have hb1 : Below wr.heap.size wr w1 := by
                  refine Below.grown (a := _) ?_ hgrow1 ?_ (fun b hb => by cases hb)
                  · (refine Below.trans (Below.refl _ _) ?_; repeat (first | exact Below.refl _ _ | (refine Below.drew ?_) | (refine Below.drewN ?_ _) | (refine Below.ext ?_ (by first | omega | (simp [go_sem]; done) | (simp [go_sem]; omega)) _ _) | (refine Below.alloc ?_ (by first | omega | (simp [go_sem]; done) | (simp [go_sem]; omega)) _) | (refine Below.setCell ?_ (by first | omega | (simp [go_sem]; done) | (simp [go_sem]; omega)) _)))
                  · exact (by first | omega | (simp [go_sem]; done) | (simp [go_sem]; omega))
                have hs1 := hb1.size
                have a3' := (hb1.cell (p := ⟨b, off + k * 5 + 3, none⟩) hbs).trans a3
                have HB1 := Lib.hid hb1
                have HO1 := Lib.hid hown1
                clear hb1 hown1 hgrow1
                go_upto_region 12 with (at_builtin; refine wpList_append_own _ rfl (.tmp 52) (.tmp 58) 44 rfl wr.heap.size 3 i0 _ 1 8 Tryd.underlying44 hi0 hz0 hz1 hz2 rfl (by decide) v1 (0 + m) ([] ++ (xs.take m).map (Value.int .i64)) rfl ?_ _ 1 1 [.int .i64 a.price] rfl rfl ?_ ?_ (by unfold maxLen; omega) (by omega) ?_ ?_; (focus (refine HO1.out.kept (Below.grownBy ?_) (Classical.em _); ((refine Below.trans (Below.refl _ _) ?_; repeat (first | exact Below.refl _ _ | (refine Below.drew ?_) | (refine Below.drewN ?_ _) | (refine Below.ext ?_ (by first | omega | (simp [go_sem]; done) | (simp [go_sem]; omega)) _ _) | (refine Below.alloc ?_ (by first | omega | (simp [go_sem]; done) | (simp [go_sem]; omega)) _) | (refine Below.setCell ?_ (by first | omega | (simp [go_sem]; done) | (simp [go_sem]; omega)) _)))))); (focus exact World.news_of_block (alloc_at (by first | rfl | (simp [ext_size]; done)))); (focus simp [Value.oneCell']); (focus exact (by first | omega | (simp [go_sem]; done) | (simp [go_sem]; omega))); intro v2 w2 hown2 hgrow2 _)
                have hb2 : Below wr.heap.size wr w2 := by
                  refine Below.grown (a := _) ?_ hgrow2 ?_ (fun b hb => (HO1.out.lt b hb).1)
                  · (refine Below.trans HB1.out ?_; repeat (first | exact Below.refl _ _ | (refine Below.drew ?_) | (refine Below.drewN ?_ _) | (refine Below.ext ?_ (by first | omega | (simp [go_sem]; done) | (simp [go_sem]; omega)) _ _) | (refine Below.alloc ?_ (by first | omega | (simp [go_sem]; done) | (simp [go_sem]; omega)) _) | (refine Below.setCell ?_ (by first | omega | (simp [go_sem]; done) | (simp [go_sem]; omega)) _)))
                  · exact (by first | omega | (simp [go_sem]; done) | (simp [go_sem]; omega))
                have hs2 := hb2.size
                have HB2 := Lib.hid hb2
                have HO2 := Lib.hid hown2
                clear hb2 hown2 hgrow2 a3'
                by_cases hcm : cap2 = m
                all_goals
                  go_wp2_with (at_builtin; refine wpList_append_own _ rfl (.tmp 60) (.tmp 63) 44 rfl wr.heap.size 3 i0 _ 1 8 Tryd.underlying44 hi0 hz0 hz1 hz2 rfl (by decide) v2 (0 + m + 1) ([] ++ (xs.take m).map (Value.int .i64) ++ [.int .i64 a.price]) rfl HO2.out _ (xs.length - m) _ ((xs.drop m).map (Value.int .i64)) rfl ?_ ?_ ?_ (by unfold maxLen; omega) (by omega) ?_ ?_; (focus (simp; done)); (focus (first | exact row_drop HCELL.out HB2.out hlg m | exact row_none (by omega))); (focus exact int_one); (focus exact (by first | omega | (simp [go_sem]; done) | (simp [go_sem]; omega))); intro v3 w3 hown3 hgrow3 _)
                  all_goals
                    go_roundw
                    case measure => simp [intOf]; omega
                    case rel =>
                      refine ⟨k + 1, v3, _, rfl, by omega, by go_num, HINV.out.ins HA0.out hmle H1.out H2.out ?_ ?_⟩
                      · have h := owns_mono hown3 hwz
                        rw [show 0 + m + 1 + (xs.length - m) = xs.length + 1 by omega] at h
                        simpa using h
                      · exact Below.grown HB2.out hgrow3 hs2 (fun b hb => (HO2.out.lt b hb).1)
          · have H2 : Hid (∀ (h : m < xs.length), a.price < xs[m]) := Lib.hid (fun h => absurd h hml)
            go_wp2_with fail
            go_quiet (fail)
            go_wp2_with fail
            go_quiet (fail)
            go_upto_region 11 with (at_builtin; refine wpList_append_own _ rfl (.tmp 47) (.tmp 50) 44 rfl wr.heap.size 3 i0 _ 1 8 Tryd.underlying44 hi0 hz0 hz1 hz2 rfl (by decide) (.slice none 0 0) 0 [] rfl (World.ownsRow_nil _ _ _ _) ⟨g, 0, none⟩ m cap2 ((xs.take m).map (Value.int .i64)) rfl ?_ ?_ ?_ (by unfold maxLen; omega) (by omega) ?_ ?_; (focus (simp; omega)); (focus (refine row_take HCELL.out ?_ hlg m; ((refine Below.trans (Below.refl _ _) ?_; repeat (first | exact Below.refl _ _ | (refine Below.drew ?_) | (refine Below.drewN ?_ _) | (refine Below.ext ?_ (by first | omega | (simp [go_sem]; done) | (simp [go_sem]; omega)) _ _) | (refine Below.alloc ?_ (by first | omega | (simp [go_sem]; done) | (simp [go_sem]; omega)) _) | (refine Below.setCell ?_ (by first | omega | (simp [go_sem]; done) | (simp [go_sem]; omega)) _)))))); (focus exact int_one); (focus exact (by first | omega | (simp [go_sem]; done) | (simp [go_sem]; omega))); intro v1 w1 hown1 hgrow1 _)
            have hb1 : Below wr.heap.size wr w1 := by
              refine Below.grown (a := _) ?_ hgrow1 ?_ (fun b hb => by cases hb)
              · (refine Below.trans (Below.refl _ _) ?_; repeat (first | exact Below.refl _ _ | (refine Below.drew ?_) | (refine Below.drewN ?_ _) | (refine Below.ext ?_ (by first | omega | (simp [go_sem]; done) | (simp [go_sem]; omega)) _ _) | (refine Below.alloc ?_ (by first | omega | (simp [go_sem]; done) | (simp [go_sem]; omega)) _) | (refine Below.setCell ?_ (by first | omega | (simp [go_sem]; done) | (simp [go_sem]; omega)) _)))
              · exact (by first | omega | (simp [go_sem]; done) | (simp [go_sem]; omega))
            have hs1 := hb1.size
            have a3' := (hb1.cell (p := ⟨b, off + k * 5 + 3, none⟩) hbs).trans a3
            have HB1 := Lib.hid hb1
            have HO1 := Lib.hid hown1
            clear hb1 hown1 hgrow1
            go_upto_region 12 with (at_builtin; refine wpList_append_own _ rfl (.tmp 52) (.tmp 58) 44 rfl wr.heap.size 3 i0 _ 1 8 Tryd.underlying44 hi0 hz0 hz1 hz2 rfl (by decide) v1 (0 + m) ([] ++ (xs.take m).map (Value.int .i64)) rfl ?_ _ 1 1 [.int .i64 a.price] rfl rfl ?_ ?_ (by unfold maxLen; omega) (by omega) ?_ ?_; (focus (refine HO1.out.kept (Below.grownBy ?_) (Classical.em _); ((refine Below.trans (Below.refl _ _) ?_; repeat (first | exact Below.refl _ _ | (refine Below.drew ?_) | (refine Below.drewN ?_ _) | (refine Below.ext ?_ (by first | omega | (simp [go_sem]; done) | (simp [go_sem]; omega)) _ _) | (refine Below.alloc ?_ (by first | omega | (simp [go_sem]; done) | (simp [go_sem]; omega)) _) | (refine Below.setCell ?_ (by first | omega | (simp [go_sem]; done) | (simp [go_sem]; omega)) _)))))); (focus exact World.news_of_block (alloc_at (by first | rfl | (simp [ext_size]; done)))); (focus simp [Value.oneCell']); (focus exact (by first | omega | (simp [go_sem]; done) | (simp [go_sem]; omega))); intro v2 w2 hown2 hgrow2 _)
            have hb2 : Below wr.heap.size wr w2 := by
              refine Below.grown (a := _) ?_ hgrow2 ?_ (fun b hb => (HO1.out.lt b hb).1)
              · (refine Below.trans HB1.out ?_; repeat (first | exact Below.refl _ _ | (refine Below.drew ?_) | (refine Below.drewN ?_ _) | (refine Below.ext ?_ (by first | omega | (simp [go_sem]; done) | (simp [go_sem]; omega)) _ _) | (refine Below.alloc ?_ (by first | omega | (simp [go_sem]; done) | (simp [go_sem]; omega)) _) | (refine Below.setCell ?_ (by first | omega | (simp [go_sem]; done) | (simp [go_sem]; omega)) _)))
              · exact (by first | omega | (simp [go_sem]; done) | (simp [go_sem]; omega))
            have hs2 := hb2.size
            have HB2 := Lib.hid hb2
            have HO2 := Lib.hid hown2
            clear hb2 hown2 hgrow2 a3'
            by_cases hcm : cap2 = m
            all_goals
              go_wp2_with (at_builtin; refine wpList_append_own _ rfl (.tmp 60) (.tmp 63) 44 rfl wr.heap.size 3 i0 _ 1 8 Tryd.underlying44 hi0 hz0 hz1 hz2 rfl (by decide) v2 (0 + m + 1) ([] ++ (xs.take m).map (Value.int .i64) ++ [.int .i64 a.price]) rfl HO2.out _ (xs.length - m) _ ((xs.drop m).map (Value.int .i64)) rfl ?_ ?_ ?_ (by unfold maxLen; omega) (by omega) ?_ ?_; (focus (simp; done)); (focus (first | exact row_drop HCELL.out HB2.out hlg m | exact row_none (by omega))); (focus exact int_one); (focus exact (by first | omega | (simp [go_sem]; done) | (simp [go_sem]; omega))); intro v3 w3 hown3 hgrow3 _)
              all_goals
                go_roundw
                case measure => simp [intOf]; omega
                case rel =>
                  refine ⟨k + 1, v3, _, rfl, by omega, by go_num, HINV.out.ins HA0.out hmle H1.out H2.out ?_ ?_⟩
                  · have h := owns_mono hown3 hwz
                    rw [show 0 + m + 1 + (xs.length - m) = xs.length + 1 by omega] at h
                    simpa using h
                  · exact Below.grown HB2.out hgrow3 hs2 (fun b hb => (HO2.out.lt b hb).1)
    · obtain rfl : k = len := by omega
      have hxs : xs = pricesL l := by
        obtain ⟨h1, h2⟩ := pricesL_spec l
        refine sorted_unique hinv.2.1 h2 fun p => ?_
        rw [hinv.2.2.1, h1, List.take_of_length_le (by rw [HLEN.out]; exact Nat.le_refl _)]
      have hend : ∃ ao' cap', v = .slice ao' xs.length cap' ∧ IntsAt wr ao' xs := by
        by_cases hv : v = .slice none 0 0
        · have hx0 : xs = [] := by
            rcases hinv.1.2 with ⟨_, h⟩ | ⟨g, cap, cur, e, _⟩
            · exact List.length_eq_zero_iff.1 h
            · rw [hv] at e; cases e
          exact ⟨none, 0, by rw [hx0, hv]; rfl, fun h => by rw [hx0] at h; cases h⟩
        · obtain ⟨g, cap2, rfl, _⟩ := Lib.holds_of_ownsRow hinv.1 hv
          exact ⟨_, _, rfl, ints_of_owned hinv.1⟩
      obtain ⟨ao2, cap2, rfl, hia⟩ := hend
      subst hxs
      have HIA := Lib.hid hia
      clear hia hinv
      go_wp2_with fail
      go_ret
      exact ⟨⟨ao2, cap2, rfl, HIA.out.ex (by repeat (first | exact Ex.refl _ | refine Ex.alloc ?_ _ | refine Ex.ext ?_ _ _ | refine Ex.drew ?_ | refine Ex.drewN ?_ _))⟩, (Ex.of HB.out).trans (by repeat (first | exact Ex.refl _ | refine Ex.alloc ?_ _ | refine Ex.ext ?_ _ _ | refine Ex.drew ?_ | refine Ex.drewN ?_ _))⟩
end Go.Proofs.YtjkaeiioofknoaaDoor
