/- What the document's answer's AskOf computes. -/
import Derived.Test.YthngmmhoakegeaaDoorDecP
import Derived.Deep.RegionHeld3
set_option linter.unusedSimpArgs false
set_option linter.unusedVariables false
namespace Go.Proofs.YthngmmhoakegeaaDoor
open Go.RowKit

abbrev zeroV : Value := .agg #[.int .u8 0, .int .i64 0, .int .i64 0, .int .i64 0, .int .i64 0, .int .i64 0, .int .i64 0, .int .i64 0]
set_option maxRecDepth 100000 in
theorem askOf_len (s : ByteArray) (w : World) (hs : s.size ≠ 30) :
    Calls Tryd.prog 52 #[.string s] w fun e w' => e = .returned (.tuple #[zeroV, .int .i64 1]) ∧ Ex w w' := by
  have h1 : ((s.size : Int) == 30) = false := by simp; omega
  go_enter Tryd.func52, Tryd.ntmps52
  go_wp2_with fail
  all_goals ((try simp only [Exit.inBlock, Exit.then]); (refine bodyPost_ret (v := .tuple #[zeroV, .int .i64 1]) ?_ rfl ⟨rfl, Ex.of (by (refine Below.trans (Below.refl _ _) ?_; repeat (first | exact Below.refl _ _ | (refine Below.drew ?_) | (refine Below.drewN ?_ _) | (refine Below.ext ?_ (by first | omega | (simp [go_sem]; done) | (simp [go_sem]; omega)) _ _) | (refine Below.alloc ?_ (by first | omega | (simp [go_sem]; done) | (simp [go_sem]; omega)) _) | (refine Below.setCell ?_ (by first | omega | (simp [go_sem]; done) | (simp [go_sem]; omega)) _))))⟩); simp only [results, Tryd.results52]; simp [go_sem, ↓IntWalk.iteOmega])
set_option maxRecDepth 100000 in
set_option maxHeartbeats 1000000 in
theorem askOf_sum (s : ByteArray) (w : World) (hs : s.size = 30) (hne : strOfNums (lowB (crc (s.extract 0 26).data.toList)) ≠ s.extract 26 30) :
    Calls Tryd.prog 52 #[.string s] w fun e w' => e = .returned (.tuple #[zeroV, .int .i64 5]) ∧ Ex w w' := by
  have hn1 := neq_str hne
  have hn2 := toList_ne hne
  have hsz : (s.extract 0 26).size ≤ maxLen := by rw [ByteArray.size_extract, hs]; decide
  have HSM := Lib.hid (fun w => crcRef_any (s.extract 0 26) w hsz)
  have hcl := crc_lt (s.extract 0 26).data.toList
  generalize crc (s.extract 0 26).data.toList = c at *
  clear hne hsz
  go_enter Tryd.func52, Tryd.ntmps52
  go_wp2_with fail
  go_region_law (first
    | (go_simp; go_at_call 54; refine (HSM.out _).mono ?_; rintro e w1 ⟨rfl, rfl⟩)
    | (go_simp; go_at_call 70; refine (lowRef_any c _ hcl).mono ?_; rintro e w1 ⟨rfl, l5, d5, rfl⟩))
  all_goals go_wp2_with fail
  all_goals ((try simp only [Exit.inBlock, Exit.then]); (refine bodyPost_ret (v := .tuple #[zeroV, .int .i64 5]) ?_ rfl ⟨rfl, Ex.of (by (refine Below.trans (Below.refl _ _) ?_; repeat (first | exact Below.refl _ _ | (refine Below.drew ?_) | (refine Below.drewN ?_ _) | (refine Below.ext ?_ (by first | omega | (simp [go_sem]; done) | (simp [go_sem]; omega)) _ _) | (refine Below.alloc ?_ (by first | omega | (simp [go_sem]; done) | (simp [go_sem]; omega)) _) | (refine Below.setCell ?_ (by first | omega | (simp [go_sem]; done) | (simp [go_sem]; omega)) _))))⟩); simp only [results, Tryd.results52]; simp [go_sem, ↓IntWalk.iteOmega])
set_option maxRecDepth 100000 in
set_option maxHeartbeats 1000000 in
theorem askOf_shape (s : ByteArray) (w : World) (hs : s.size = 30) (hsum : strOfNums (lowB (crc (s.extract 0 26).data.toList)) = s.extract 26 30) (hz : ¬ (numL (s.extract 20 23).data.toList = 0 ∧ numL (s.extract 23 26).data.toList = 0)) :
    Calls Tryd.prog 52 #[.string s] w fun e w' => e = .returned (.tuple #[zeroV, .int .i64 3]) ∧ Ex w w' := by
  have hn1 : ((strOfNums (lowB (crc (s.extract 0 26).data.toList))).toList != (s.extract 26 30).toList) = false := by rw [hsum]; simp
  have hn2 : ((strOfNums (lowB (crc (s.extract 0 26).data.toList))).toList == (s.extract 26 30).toList) = true := by rw [hsum]; simp
  have hsz : (s.extract 0 26).size ≤ maxLen := by rw [ByteArray.size_extract, hs]; decide
  have HSM := Lib.hid (fun w => crcRef_any (s.extract 0 26) w hsz)
  have hcl := crc_lt (s.extract 0 26).data.toList
  have HZ1 := Lib.hid (fun w => number_any (s.extract 20 23) w (by rw [ByteArray.size_extract, hs]; decide))
  have HZ2 := Lib.hid (fun w => number_any (s.extract 23 26) w (by rw [ByteArray.size_extract, hs]; decide))
  generalize crc (s.extract 0 26).data.toList = c at *
  clear hsum hsz
  generalize numL (s.extract 20 23).data.toList = z1 at *
  generalize numL (s.extract 23 26).data.toList = z2 at *
  by_cases h1 : z1 = 0
  · have h2 : (0 : Int) < (z2 : Int) := by omega
    subst h1
    clear hz
    go_enter Tryd.func52, Tryd.ntmps52
    go_wp2_with fail
    go_region_law (first
      | (go_simp; go_at_call 54; refine (HSM.out _).mono ?_; rintro e w1 ⟨rfl, rfl⟩)
      | (go_simp; go_at_call 70; refine (lowRef_any c _ hcl).mono ?_; rintro e w1 ⟨rfl, l5, d5, rfl⟩))
    all_goals go_wp2_with (first
    | (go_at_call 71; with_reducible refine (HZ1.out _).mono ?_; rintro e w1 ⟨rfl, rfl⟩)
    | (go_at_call 71; with_reducible refine (HZ2.out _).mono ?_; rintro e w1 ⟨rfl, rfl⟩))
    all_goals ((try simp only [Exit.inBlock, Exit.then]); (refine bodyPost_ret (v := .tuple #[zeroV, .int .i64 3]) ?_ rfl ⟨rfl, Ex.of (by (refine Below.trans (Below.refl _ _) ?_; repeat (first | exact Below.refl _ _ | (refine Below.drew ?_) | (refine Below.drewN ?_ _) | (refine Below.ext ?_ (by first | omega | (simp [go_sem]; done) | (simp [go_sem]; omega)) _ _) | (refine Below.alloc ?_ (by first | omega | (simp [go_sem]; done) | (simp [go_sem]; omega)) _) | (refine Below.setCell ?_ (by first | omega | (simp [go_sem]; done) | (simp [go_sem]; omega)) _))))⟩); simp only [results, Tryd.results52]; simp [go_sem, ↓IntWalk.iteOmega])
  · have h2 : (0 : Int) < (z1 : Int) := by omega
    clear hz
    go_enter Tryd.func52, Tryd.ntmps52
    go_wp2_with fail
    go_region_law (first
      | (go_simp; go_at_call 54; refine (HSM.out _).mono ?_; rintro e w1 ⟨rfl, rfl⟩)
      | (go_simp; go_at_call 70; refine (lowRef_any c _ hcl).mono ?_; rintro e w1 ⟨rfl, l5, d5, rfl⟩))
    all_goals go_wp2_with (first
    | (go_at_call 71; with_reducible refine (HZ1.out _).mono ?_; rintro e w1 ⟨rfl, rfl⟩)
    | (go_at_call 71; with_reducible refine (HZ2.out _).mono ?_; rintro e w1 ⟨rfl, rfl⟩))
    all_goals ((try simp only [Exit.inBlock, Exit.then]); (refine bodyPost_ret (v := .tuple #[zeroV, .int .i64 3]) ?_ rfl ⟨rfl, Ex.of (by (refine Below.trans (Below.refl _ _) ?_; repeat (first | exact Below.refl _ _ | (refine Below.drew ?_) | (refine Below.drewN ?_ _) | (refine Below.ext ?_ (by first | omega | (simp [go_sem]; done) | (simp [go_sem]; omega)) _ _) | (refine Below.alloc ?_ (by first | omega | (simp [go_sem]; done) | (simp [go_sem]; omega)) _) | (refine Below.setCell ?_ (by first | omega | (simp [go_sem]; done) | (simp [go_sem]; omega)) _))))⟩); simp only [results, Tryd.results52]; simp [go_sem, ↓IntWalk.iteOmega])
set_option maxRecDepth 100000 in
set_option maxHeartbeats 4000000 in
theorem askOf_in (s : ByteArray) (w : World) (hs : s.size = 30) (hsum : strOfNums (lowB (crc (s.extract 0 26).data.toList)) = s.extract 26 30) (hz : numL (s.extract 20 23).data.toList = 0 ∧ numL (s.extract 23 26).data.toList = 0) :
    Calls Tryd.prog 52 #[.string s] w fun e w' => e = .returned (.tuple #[(if (askAt s).err = 0 then (askAt s).val else zeroV), .int .i64 (askAt s).err]) ∧ Ex w w' := by
  have hn1 : ((strOfNums (lowB (crc (s.extract 0 26).data.toList))).toList != (s.extract 26 30).toList) = false := by rw [hsum]; simp
  have hn2 : ((strOfNums (lowB (crc (s.extract 0 26).data.toList))).toList == (s.extract 26 30).toList) = true := by rw [hsum]; simp
  have hsz : (s.extract 0 26).size ≤ maxLen := by rw [ByteArray.size_extract, hs]; decide
  have HSM := Lib.hid (fun w => crcRef_any (s.extract 0 26) w hsz)
  have hcl := crc_lt (s.extract 0 26).data.toList
  have HZ1 := Lib.hid (fun w => number_any (s.extract 20 23) w (by rw [ByteArray.size_extract, hs]; decide))
  have HZ2 := Lib.hid (fun w => number_any (s.extract 23 26) w (by rw [ByteArray.size_extract, hs]; decide))
  generalize crc (s.extract 0 26).data.toList = c at *
  clear hsum hsz
  rw [hz.1] at HZ1
  rw [hz.2] at HZ2
  have H2 := Lib.hid (fun w => number_any (s.extract 2 6) w (by rw [ByteArray.size_extract, hs]; decide))
  have H8 := Lib.hid (fun w => number_any (s.extract 8 12) w (by rw [ByteArray.size_extract, hs]; decide))
  have H12 := Lib.hid (fun w => number_any (s.extract 12 16) w (by rw [ByteArray.size_extract, hs]; decide))
  have H16 := Lib.hid (fun w => number_any (s.extract 16 20) w (by rw [ByteArray.size_extract, hs]; decide))
  have hA : askAt s = ⟨((s[0]'(by omega)).toNat : Int), ((s[1]'(by omega)).toNat : Int), (numL (s.extract 2 6).data.toList : Int), ((s[6]'(by omega)).toNat : Int), ((s[7]'(by omega)).toNat : Int), (numL (s.extract 8 12).data.toList : Int), (numL (s.extract 12 16).data.toList : Int), (numL (s.extract 16 20).data.toList : Int)⟩ := by
    unfold askAt
    rw [at8_eq (show 0 < s.size by omega), at8_eq (show 1 < s.size by omega), at8_eq (show 6 < s.size by omega), at8_eq (show 7 < s.size by omega)]
    rfl
  have HAE := Lib.hid (fun w => askError_any (askAt s) w)
  have i0 : ∀ w, (Instr.index 9 (.string s) (.int .i64 0)).run Tryd.prog w = .ok (.int .u8 ((s[0]'(by omega)).toNat : Int)) w := fun w => index_str s 0 (by omega) w
  have i1 : ∀ w, (Instr.index 9 (.string s) (.int .i64 1)).run Tryd.prog w = .ok (.int .u8 ((s[1]'(by omega)).toNat : Int)) w := fun w => index_str s 1 (by omega) w
  have i6 : ∀ w, (Instr.index 9 (.string s) (.int .i64 6)).run Tryd.prog w = .ok (.int .u8 ((s[6]'(by omega)).toNat : Int)) w := fun w => index_str s 6 (by omega) w
  have i7 : ∀ w, (Instr.index 9 (.string s) (.int .i64 7)).run Tryd.prog w = .ok (.int .u8 ((s[7]'(by omega)).toNat : Int)) w := fun w => index_str s 7 (by omega) w
  have HEA : Hid (∃ a : Ask, a = askAt s) := Lib.hid ⟨_, rfl⟩
  have hb1 : 0 ≤ ((s[1]'(by omega)).toNat : Int) ∧ ((s[1]'(by omega)).toNat : Int) ≤ 255 := by have := (s[1]'(by omega)).toNat_lt; omega
  have hb6 : 0 ≤ ((s[6]'(by omega)).toNat : Int) ∧ ((s[6]'(by omega)).toNat : Int) ≤ 255 := by have := (s[6]'(by omega)).toNat_lt; omega
  have hb7 : 0 ≤ ((s[7]'(by omega)).toNat : Int) ∧ ((s[7]'(by omega)).toNat : Int) ≤ 255 := by have := (s[7]'(by omega)).toNat_lt; omega
  generalize numL (s.extract 2 6).data.toList = n2 at *
  generalize numL (s.extract 8 12).data.toList = n8 at *
  generalize numL (s.extract 12 16).data.toList = n12 at *
  generalize numL (s.extract 16 20).data.toList = n16 at *
  clear hz HEA
  rw [hA] at HAE ⊢
  clear hA
  generalize ((s[0]'(by omega)).toNat : Int) = b0 at *
  generalize ((s[1]'(by omega)).toNat : Int) = b1 at *
  generalize ((s[6]'(by omega)).toNat : Int) = b6 at *
  generalize ((s[7]'(by omega)).toNat : Int) = b7 at *
  generalize her : (⟨b0, b1, (n2 : Int), b6, b7, (n8 : Int), (n12 : Int), (n16 : Int)⟩ : Ask).err = er at *
  clear her
  by_cases he : er = 0
  · subst he
    rw [if_pos rfl]
    go_enter Tryd.func52, Tryd.ntmps52
    go_wp2_with fail
    go_region_law (first
      | (go_simp; go_at_call 54; refine (HSM.out _).mono ?_; rintro e w1 ⟨rfl, rfl⟩)
      | (go_simp; go_at_call 70; refine (lowRef_any c _ hcl).mono ?_; rintro e w1 ⟨rfl, l5, d5, rfl⟩))
    all_goals go_wp2_with (first
      | (go_at_call 71; with_reducible refine (HZ1.out _).mono ?_; rintro e w1 ⟨rfl, rfl⟩)
      | (go_at_call 71; with_reducible refine (HZ2.out _).mono ?_; rintro e w1 ⟨rfl, rfl⟩))
    refine wp_region_any (by kernel_rfl) ?_
    (try (change wpAny _ _ _ _ _ _ _ (World.drew _)))
    refine wpAny_take (i := 0) (v := ?_) rfl (by kernel_rfl) (by kernel_rfl) (by kernel_rfl) (fun _ _ _ h => h) (Or.inl ⟨by rfl, ?_⟩) ?_
    rotate_left
    focus (intro w; go_simp; (try with_reducible rfl))
    (try simp only [Act.put, List.setIfInBounds_toArray, List.set_cons_zero, List.set_cons_succ])
    refine wpAny_take (i := 2) (v := ?_) rfl (by kernel_rfl) (by kernel_rfl) (by kernel_rfl) (fun _ _ _ h => h) (Or.inl ⟨by rfl, ?_⟩) ?_
    rotate_left
    focus (intro w; go_simp; (try with_reducible rfl))
    (try simp only [Act.put, List.setIfInBounds_toArray, List.set_cons_zero, List.set_cons_succ])
    refine wpAny_take (i := 5) (v := ?_) rfl (by kernel_rfl) (by kernel_rfl) (by kernel_rfl) (fun _ _ _ h => h) (Or.inl ⟨by rfl, ?_⟩) ?_
    rotate_left
    focus (intro w; go_simp; (try with_reducible rfl))
    (try simp only [Act.put, List.setIfInBounds_toArray, List.set_cons_zero, List.set_cons_succ])
    refine wpAny_take (i := 6) (v := ?_) rfl (by kernel_rfl) (by kernel_rfl) (by kernel_rfl) (fun _ _ _ h => h) (Or.inl ⟨by rfl, ?_⟩) ?_
    rotate_left
    focus (intro w; go_simp; (try with_reducible rfl))
    (try simp only [Act.put, List.setIfInBounds_toArray, List.set_cons_zero, List.set_cons_succ])
    refine wpAny_take (i := 8) (v := ?_) rfl (by kernel_rfl) (by kernel_rfl) (by kernel_rfl) (fun _ _ _ h => h) (Or.inl ⟨by rfl, ?_⟩) ?_
    rotate_left
    focus (intro w; go_simp; (try with_reducible rfl))
    (try simp only [Act.put, List.setIfInBounds_toArray, List.set_cons_zero, List.set_cons_succ])
    refine wpAny_take (i := 11) (v := ?_) rfl (by kernel_rfl) (by kernel_rfl) (by kernel_rfl) (fun _ _ _ h => h) (Or.inl ⟨by rfl, ?_⟩) ?_
    rotate_left
    focus (intro w; go_simp; (try with_reducible rfl))
    (try simp only [Act.put, List.setIfInBounds_toArray, List.set_cons_zero, List.set_cons_succ])
    refine wpAny_take (i := 1) (v := ?_) rfl (by kernel_rfl) (by kernel_rfl) (by kernel_rfl) (fun _ _ _ h => h) (Or.inl ⟨by rfl, ?_⟩) ?_
    rotate_left
    focus (intro w; go_simp; (try with_reducible rfl))
    (try simp only [Act.put, List.setIfInBounds_toArray, List.set_cons_zero, List.set_cons_succ])
    refine wpAny_take (i := 3) (v := ?_) rfl (by kernel_rfl) (by kernel_rfl) (by kernel_rfl) (fun _ _ _ h => h) (Or.inl ⟨by rfl, ?_⟩) ?_
    rotate_left
    focus (intro w; go_simp; (try with_reducible rfl))
    (try simp only [Act.put, List.setIfInBounds_toArray, List.set_cons_zero, List.set_cons_succ])
    refine wpAny_take (i := 4) (v := ?_) rfl (by kernel_rfl) (by kernel_rfl) (by kernel_rfl) (fun _ _ _ h => h) (Or.inl ⟨by rfl, ?_⟩) ?_
    rotate_left
    focus (intro w; go_simp; (try with_reducible rfl))
    (try simp only [Act.put, List.setIfInBounds_toArray, List.set_cons_zero, List.set_cons_succ])
    refine wpAny_take (i := 9) (v := ?_) rfl (by kernel_rfl) (by kernel_rfl) (by kernel_rfl) (fun _ _ _ h => h) (Or.inl ⟨by rfl, ?_⟩) ?_
    rotate_left
    focus (intro w; go_simp; (try with_reducible rfl))
    (try simp only [Act.put, List.setIfInBounds_toArray, List.set_cons_zero, List.set_cons_succ])
    refine wpAny_take (i := 10) (v := ?_) rfl (by kernel_rfl) (by kernel_rfl) (by kernel_rfl) (fun _ _ _ h => h) (Or.inl ⟨by rfl, ?_⟩) ?_
    rotate_left
    focus (intro w; go_simp; (try with_reducible rfl))
    (try simp only [Act.put, List.setIfInBounds_toArray, List.set_cons_zero, List.set_cons_succ])
    refine wpAny_take (i := 12) (v := ?_) rfl (by kernel_rfl) (by kernel_rfl) (by kernel_rfl) (fun _ _ _ h => h) (Or.inl ⟨by rfl, ?_⟩) ?_
    rotate_left
    focus (intro w; go_simp; (try with_reducible rfl))
    (try simp only [Act.put, List.setIfInBounds_toArray, List.set_cons_zero, List.set_cons_succ])
    refine wpAny_take (i := 13) (v := ?_) rfl (by kernel_rfl) (by kernel_rfl) (by kernel_rfl) (fun _ _ _ h => h) (Or.inl ⟨by rfl, ?_⟩) ?_
    rotate_left
    focus (intro w; go_simp; (try with_reducible rfl))
    (try simp only [Act.put, List.setIfInBounds_toArray, List.set_cons_zero, List.set_cons_succ])
    refine wpAny_ready (rs := [7, 15]) (by kernel_rfl) (by simp) ?_
    refine AllReady.cons rfl (fun K hK => ?_) ?_
    · go_simp
      go_wp2_with (go_at_call 71; refine (H2.out _).mono ?_; rintro e w1 ⟨rfl, rfl⟩)
      (try (refine hK _ _ ?_; clear hK K))
      refine wpAny_take (i := 14) (v := ?_) rfl (by kernel_rfl) (by kernel_rfl) (by kernel_rfl) (fun _ _ _ h => h) (Or.inl ⟨by rfl, ?_⟩) ?_
      rotate_left
      focus (intro w; go_simp; (try with_reducible rfl))
      (try simp only [Act.put, List.setIfInBounds_toArray, List.set_cons_zero, List.set_cons_succ])
      refine wpAny_ready (rs := [15]) (by kernel_rfl) (by simp) (AllReady.cons rfl (fun K hK => ?_) AllReady.nil)
      go_simp
      refine hK _ _ ?_
      clear hK K
      refine wpAny_ready (rs := [16]) (by kernel_rfl) (by simp) (AllReady.cons rfl (fun K hK => ?_) AllReady.nil)
      go_simp
      refine hK _ _ ?_
      clear hK K
      refine wpAny_done (by kernel_rfl) ?_ _
      go_wp2_with (first
        | (go_at_call 71; with_reducible refine (H8.out _).mono ?_; rintro e w1 ⟨rfl, rfl⟩)
        | (go_at_call 71; with_reducible refine (H12.out _).mono ?_; rintro e w1 ⟨rfl, rfl⟩)
        | (go_at_call 71; with_reducible refine (H16.out _).mono ?_; rintro e w1 ⟨rfl, rfl⟩)
        | (go_at_call 48; refine (HAE.out _).mono ?_; rintro e w1 ⟨rfl, l6, d6, rfl⟩))
      all_goals ((try simp only [Exit.inBlock, Exit.then]); (refine bodyPost_ret (v := .tuple #[.agg #[.int .u8 b0, .int .i64 b1, .int .i64 (n2 : Int), .int .i64 b6, .int .i64 b7, .int .i64 (n8 : Int), .int .i64 (n12 : Int), .int .i64 (n16 : Int)], .int .i64 0]) ?_ rfl ⟨rfl, Ex.of (by (refine Below.trans (Below.refl _ _) ?_; repeat (first | exact Below.refl _ _ | (refine Below.drew ?_) | (refine Below.drewN ?_ _) | (refine Below.ext ?_ (by first | omega | (simp [go_sem]; done) | (simp [go_sem]; omega)) _ _) | (refine Below.alloc ?_ (by first | omega | (simp [go_sem]; done) | (simp [go_sem]; omega)) _) | (refine Below.setCell ?_ (by first | omega | (simp [go_sem]; done) | (simp [go_sem]; omega)) _))))⟩); simp only [results, Tryd.results52]; simp [go_sem, ↓IntWalk.iteOmega])
    · refine AllReady.cons rfl (fun K hK => ?_) AllReady.nil
      go_simp
      refine hK _ _ ?_
      clear hK K
      refine wpAny_ready (rs := [7]) (by kernel_rfl) (by simp) (AllReady.cons rfl (fun K hK => ?_) AllReady.nil)
      go_simp
      go_wp2_with (go_at_call 71; refine (H2.out _).mono ?_; rintro e w1 ⟨rfl, rfl⟩)
      (try (refine hK _ _ ?_; clear hK K))
      refine wpAny_take (i := 14) (v := ?_) rfl (by kernel_rfl) (by kernel_rfl) (by kernel_rfl) (fun _ _ _ h => h) (Or.inl ⟨by rfl, ?_⟩) ?_
      rotate_left
      focus (intro w; go_simp; (try with_reducible rfl))
      (try simp only [Act.put, List.setIfInBounds_toArray, List.set_cons_zero, List.set_cons_succ])
      refine wpAny_ready (rs := [16]) (by kernel_rfl) (by simp) (AllReady.cons rfl (fun K hK => ?_) AllReady.nil)
      go_simp
      refine hK _ _ ?_
      clear hK K
      refine wpAny_done (by kernel_rfl) ?_ _
      go_wp2_with (first
        | (go_at_call 71; with_reducible refine (H8.out _).mono ?_; rintro e w1 ⟨rfl, rfl⟩)
        | (go_at_call 71; with_reducible refine (H12.out _).mono ?_; rintro e w1 ⟨rfl, rfl⟩)
        | (go_at_call 71; with_reducible refine (H16.out _).mono ?_; rintro e w1 ⟨rfl, rfl⟩)
        | (go_at_call 48; refine (HAE.out _).mono ?_; rintro e w1 ⟨rfl, l6, d6, rfl⟩))
      all_goals ((try simp only [Exit.inBlock, Exit.then]); (refine bodyPost_ret (v := .tuple #[.agg #[.int .u8 b0, .int .i64 b1, .int .i64 (n2 : Int), .int .i64 b6, .int .i64 b7, .int .i64 (n8 : Int), .int .i64 (n12 : Int), .int .i64 (n16 : Int)], .int .i64 0]) ?_ rfl ⟨rfl, Ex.of (by (refine Below.trans (Below.refl _ _) ?_; repeat (first | exact Below.refl _ _ | (refine Below.drew ?_) | (refine Below.drewN ?_ _) | (refine Below.ext ?_ (by first | omega | (simp [go_sem]; done) | (simp [go_sem]; omega)) _ _) | (refine Below.alloc ?_ (by first | omega | (simp [go_sem]; done) | (simp [go_sem]; omega)) _) | (refine Below.setCell ?_ (by first | omega | (simp [go_sem]; done) | (simp [go_sem]; omega)) _))))⟩); simp only [results, Tryd.results52]; simp [go_sem, ↓IntWalk.iteOmega])
  · rw [if_neg he]
    have he2 : (0 : Int) < (er : Int) := by omega
    go_enter Tryd.func52, Tryd.ntmps52
    go_wp2_with fail
    go_region_law (first
      | (go_simp; go_at_call 54; refine (HSM.out _).mono ?_; rintro e w1 ⟨rfl, rfl⟩)
      | (go_simp; go_at_call 70; refine (lowRef_any c _ hcl).mono ?_; rintro e w1 ⟨rfl, l5, d5, rfl⟩))
    all_goals go_wp2_with (first
      | (go_at_call 71; with_reducible refine (HZ1.out _).mono ?_; rintro e w1 ⟨rfl, rfl⟩)
      | (go_at_call 71; with_reducible refine (HZ2.out _).mono ?_; rintro e w1 ⟨rfl, rfl⟩))
    refine wp_region_any (by kernel_rfl) ?_
    (try (change wpAny _ _ _ _ _ _ _ (World.drew _)))
    refine wpAny_take (i := 0) (v := ?_) rfl (by kernel_rfl) (by kernel_rfl) (by kernel_rfl) (fun _ _ _ h => h) (Or.inl ⟨by rfl, ?_⟩) ?_
    rotate_left
    focus (intro w; go_simp; (try with_reducible rfl))
    (try simp only [Act.put, List.setIfInBounds_toArray, List.set_cons_zero, List.set_cons_succ])
    refine wpAny_take (i := 2) (v := ?_) rfl (by kernel_rfl) (by kernel_rfl) (by kernel_rfl) (fun _ _ _ h => h) (Or.inl ⟨by rfl, ?_⟩) ?_
    rotate_left
    focus (intro w; go_simp; (try with_reducible rfl))
    (try simp only [Act.put, List.setIfInBounds_toArray, List.set_cons_zero, List.set_cons_succ])
    refine wpAny_take (i := 5) (v := ?_) rfl (by kernel_rfl) (by kernel_rfl) (by kernel_rfl) (fun _ _ _ h => h) (Or.inl ⟨by rfl, ?_⟩) ?_
    rotate_left
    focus (intro w; go_simp; (try with_reducible rfl))
    (try simp only [Act.put, List.setIfInBounds_toArray, List.set_cons_zero, List.set_cons_succ])
    refine wpAny_take (i := 6) (v := ?_) rfl (by kernel_rfl) (by kernel_rfl) (by kernel_rfl) (fun _ _ _ h => h) (Or.inl ⟨by rfl, ?_⟩) ?_
    rotate_left
    focus (intro w; go_simp; (try with_reducible rfl))
    (try simp only [Act.put, List.setIfInBounds_toArray, List.set_cons_zero, List.set_cons_succ])
    refine wpAny_take (i := 8) (v := ?_) rfl (by kernel_rfl) (by kernel_rfl) (by kernel_rfl) (fun _ _ _ h => h) (Or.inl ⟨by rfl, ?_⟩) ?_
    rotate_left
    focus (intro w; go_simp; (try with_reducible rfl))
    (try simp only [Act.put, List.setIfInBounds_toArray, List.set_cons_zero, List.set_cons_succ])
    refine wpAny_take (i := 11) (v := ?_) rfl (by kernel_rfl) (by kernel_rfl) (by kernel_rfl) (fun _ _ _ h => h) (Or.inl ⟨by rfl, ?_⟩) ?_
    rotate_left
    focus (intro w; go_simp; (try with_reducible rfl))
    (try simp only [Act.put, List.setIfInBounds_toArray, List.set_cons_zero, List.set_cons_succ])
    refine wpAny_take (i := 1) (v := ?_) rfl (by kernel_rfl) (by kernel_rfl) (by kernel_rfl) (fun _ _ _ h => h) (Or.inl ⟨by rfl, ?_⟩) ?_
    rotate_left
    focus (intro w; go_simp; (try with_reducible rfl))
    (try simp only [Act.put, List.setIfInBounds_toArray, List.set_cons_zero, List.set_cons_succ])
    refine wpAny_take (i := 3) (v := ?_) rfl (by kernel_rfl) (by kernel_rfl) (by kernel_rfl) (fun _ _ _ h => h) (Or.inl ⟨by rfl, ?_⟩) ?_
    rotate_left
    focus (intro w; go_simp; (try with_reducible rfl))
    (try simp only [Act.put, List.setIfInBounds_toArray, List.set_cons_zero, List.set_cons_succ])
    refine wpAny_take (i := 4) (v := ?_) rfl (by kernel_rfl) (by kernel_rfl) (by kernel_rfl) (fun _ _ _ h => h) (Or.inl ⟨by rfl, ?_⟩) ?_
    rotate_left
    focus (intro w; go_simp; (try with_reducible rfl))
    (try simp only [Act.put, List.setIfInBounds_toArray, List.set_cons_zero, List.set_cons_succ])
    refine wpAny_take (i := 9) (v := ?_) rfl (by kernel_rfl) (by kernel_rfl) (by kernel_rfl) (fun _ _ _ h => h) (Or.inl ⟨by rfl, ?_⟩) ?_
    rotate_left
    focus (intro w; go_simp; (try with_reducible rfl))
    (try simp only [Act.put, List.setIfInBounds_toArray, List.set_cons_zero, List.set_cons_succ])
    refine wpAny_take (i := 10) (v := ?_) rfl (by kernel_rfl) (by kernel_rfl) (by kernel_rfl) (fun _ _ _ h => h) (Or.inl ⟨by rfl, ?_⟩) ?_
    rotate_left
    focus (intro w; go_simp; (try with_reducible rfl))
    (try simp only [Act.put, List.setIfInBounds_toArray, List.set_cons_zero, List.set_cons_succ])
    refine wpAny_take (i := 12) (v := ?_) rfl (by kernel_rfl) (by kernel_rfl) (by kernel_rfl) (fun _ _ _ h => h) (Or.inl ⟨by rfl, ?_⟩) ?_
    rotate_left
    focus (intro w; go_simp; (try with_reducible rfl))
    (try simp only [Act.put, List.setIfInBounds_toArray, List.set_cons_zero, List.set_cons_succ])
    refine wpAny_take (i := 13) (v := ?_) rfl (by kernel_rfl) (by kernel_rfl) (by kernel_rfl) (fun _ _ _ h => h) (Or.inl ⟨by rfl, ?_⟩) ?_
    rotate_left
    focus (intro w; go_simp; (try with_reducible rfl))
    (try simp only [Act.put, List.setIfInBounds_toArray, List.set_cons_zero, List.set_cons_succ])
    refine wpAny_ready (rs := [7, 15]) (by kernel_rfl) (by simp) ?_
    refine AllReady.cons rfl (fun K hK => ?_) ?_
    · go_simp
      go_wp2_with (go_at_call 71; refine (H2.out _).mono ?_; rintro e w1 ⟨rfl, rfl⟩)
      (try (refine hK _ _ ?_; clear hK K))
      refine wpAny_take (i := 14) (v := ?_) rfl (by kernel_rfl) (by kernel_rfl) (by kernel_rfl) (fun _ _ _ h => h) (Or.inl ⟨by rfl, ?_⟩) ?_
      rotate_left
      focus (intro w; go_simp; (try with_reducible rfl))
      (try simp only [Act.put, List.setIfInBounds_toArray, List.set_cons_zero, List.set_cons_succ])
      refine wpAny_ready (rs := [15]) (by kernel_rfl) (by simp) (AllReady.cons rfl (fun K hK => ?_) AllReady.nil)
      go_simp
      refine hK _ _ ?_
      clear hK K
      refine wpAny_ready (rs := [16]) (by kernel_rfl) (by simp) (AllReady.cons rfl (fun K hK => ?_) AllReady.nil)
      go_simp
      refine hK _ _ ?_
      clear hK K
      refine wpAny_done (by kernel_rfl) ?_ _
      go_wp2_with (first
        | (go_at_call 71; with_reducible refine (H8.out _).mono ?_; rintro e w1 ⟨rfl, rfl⟩)
        | (go_at_call 71; with_reducible refine (H12.out _).mono ?_; rintro e w1 ⟨rfl, rfl⟩)
        | (go_at_call 71; with_reducible refine (H16.out _).mono ?_; rintro e w1 ⟨rfl, rfl⟩)
        | (go_at_call 48; refine (HAE.out _).mono ?_; rintro e w1 ⟨rfl, l6, d6, rfl⟩))
      all_goals ((try simp only [Exit.inBlock, Exit.then]); (refine bodyPost_ret (v := .tuple #[zeroV, .int .i64 (er : Int)]) ?_ rfl ⟨rfl, Ex.of (by (refine Below.trans (Below.refl _ _) ?_; repeat (first | exact Below.refl _ _ | (refine Below.drew ?_) | (refine Below.drewN ?_ _) | (refine Below.ext ?_ (by first | omega | (simp [go_sem]; done) | (simp [go_sem]; omega)) _ _) | (refine Below.alloc ?_ (by first | omega | (simp [go_sem]; done) | (simp [go_sem]; omega)) _) | (refine Below.setCell ?_ (by first | omega | (simp [go_sem]; done) | (simp [go_sem]; omega)) _))))⟩); simp only [results, Tryd.results52]; simp [go_sem, ↓IntWalk.iteOmega])
    · refine AllReady.cons rfl (fun K hK => ?_) AllReady.nil
      go_simp
      refine hK _ _ ?_
      clear hK K
      refine wpAny_ready (rs := [7]) (by kernel_rfl) (by simp) (AllReady.cons rfl (fun K hK => ?_) AllReady.nil)
      go_simp
      go_wp2_with (go_at_call 71; refine (H2.out _).mono ?_; rintro e w1 ⟨rfl, rfl⟩)
      (try (refine hK _ _ ?_; clear hK K))
      refine wpAny_take (i := 14) (v := ?_) rfl (by kernel_rfl) (by kernel_rfl) (by kernel_rfl) (fun _ _ _ h => h) (Or.inl ⟨by rfl, ?_⟩) ?_
      rotate_left
      focus (intro w; go_simp; (try with_reducible rfl))
      (try simp only [Act.put, List.setIfInBounds_toArray, List.set_cons_zero, List.set_cons_succ])
      refine wpAny_ready (rs := [16]) (by kernel_rfl) (by simp) (AllReady.cons rfl (fun K hK => ?_) AllReady.nil)
      go_simp
      refine hK _ _ ?_
      clear hK K
      refine wpAny_done (by kernel_rfl) ?_ _
      go_wp2_with (first
        | (go_at_call 71; with_reducible refine (H8.out _).mono ?_; rintro e w1 ⟨rfl, rfl⟩)
        | (go_at_call 71; with_reducible refine (H12.out _).mono ?_; rintro e w1 ⟨rfl, rfl⟩)
        | (go_at_call 71; with_reducible refine (H16.out _).mono ?_; rintro e w1 ⟨rfl, rfl⟩)
        | (go_at_call 48; refine (HAE.out _).mono ?_; rintro e w1 ⟨rfl, l6, d6, rfl⟩))
      all_goals ((try simp only [Exit.inBlock, Exit.then]); (refine bodyPost_ret (v := .tuple #[zeroV, .int .i64 (er : Int)]) ?_ rfl ⟨rfl, Ex.of (by (refine Below.trans (Below.refl _ _) ?_; repeat (first | exact Below.refl _ _ | (refine Below.drew ?_) | (refine Below.drewN ?_ _) | (refine Below.ext ?_ (by first | omega | (simp [go_sem]; done) | (simp [go_sem]; omega)) _ _) | (refine Below.alloc ?_ (by first | omega | (simp [go_sem]; done) | (simp [go_sem]; omega)) _) | (refine Below.setCell ?_ (by first | omega | (simp [go_sem]; done) | (simp [go_sem]; omega)) _))))⟩); simp only [results, Tryd.results52]; simp [go_sem, ↓IntWalk.iteOmega])
end Go.Proofs.YthngmmhoakegeaaDoor
