/- A map from prices to levels, by what each key holds. -/
import Derived.Test.YtfeeibealokhfaaDoorBLevP
import Derived.Maps.Own
import Derived.Maps.Views
import Derived.Maps.RangeWalk
set_option linter.unusedSimpArgs false
set_option linter.unusedVariables false
namespace Go.Proofs.YtfeeibealokhfaaDoor
open Go.RowKit Go.Maps

/-- A level's value. -/
def lvV (c : Lvl) : Value := .agg #[.int .i64 c.price, .int .i64 c.qty, .int .i64 c.many]
/-- A level as a datum. -/
def lvD (c : Lvl) : DataW Unit := .slice [.lit (.int .i64 c.price), .lit (.int .i64 c.qty), .lit (.int .i64 c.many)] []
def encV (v : Value) : Option (DataW Unit × List MemPlace) :=
  match v with
  | .agg cs => match cs.toList with
    | [.int .i64 a, .int .i64 b, .int .i64 c] => some (lvD ⟨a, b, c⟩, [])
    | _ => none
  | _ => none
theorem encV_lv (c : Lvl) : encV (lvV c) = some (lvD c, []) := rfl
theorem encV_inv {v : Value} {y : DataW Unit × List MemPlace} (h : encV v = some y) : ∃ c, v = lvV c ∧ y = (lvD c, []) := by
  unfold encV at h
  split at h
  · split at h
    · rename_i cs lst a b c e
      refine ⟨⟨a, b, c⟩, ?_, (Option.some.inj h).symm⟩
      have : cs = #[Value.int .i64 a, Value.int .i64 b, Value.int .i64 c] := by rw [← Array.toArray_toList (xs := cs), e]
      rw [this]; rfl
    · cases h
  · cases h
theorem lvD_inj {a b : Lvl} (h : lvD a = lvD b) : a = b := by
  obtain ⟨a1, a2, a3⟩ := a
  obtain ⟨b1, b2, b3⟩ := b
  simp only [lvD] at h
  injection h with h1 h2
  simp only [List.cons.injEq, DataW.lit.injEq, Lit.int.injEq, true_and, and_true] at h1
  obtain ⟨rfl, rfl, rfl⟩ := h1
  rfl
/-- What a datum holds. -/
def LData (D : DataW Unit) (F : Int → Option Lvl) : Prop := IsMap D ∧ (∀ p c, F p = some c → ∀ z, D.atKey (.int .i64 p) z = lvD c) ∧ ∀ p, F p = none → has D (.int .i64 p) = false
theorem LData.has {D : DataW Unit} {F : Int → Option Lvl} (h : LData D F) (p : Int) : has D (.int .i64 p) = (F p).isSome := by
  cases hF : F p with
  | none => exact h.2.2 p hF
  | some c => exact has_true_of_atKey (h.2.1 p c hF)
theorem LData.put {D : DataW Unit} {F : Int → Option Lvl} (h : LData D F) (p : Int) (c : Lvl) : LData (D.put (.int .i64 p) (lvD c)) (fun q => if q = p then some c else F q) := by
  refine ⟨h.1.put _ _, fun q c' hq z => ?_, fun q hq => ?_⟩
  · by_cases e : q = p
    · subst e
      have hq' : (if q = q then some c else F q) = some c' := hq
      rw [if_pos rfl] at hq'
      cases hq'
      exact atKey_put_same (k := .int .i64 q) h.1 trivial _ _
    · have hq' : (if q = p then some c else F q) = some c' := hq
      rw [if_neg e] at hq'
      rw [atKey_put_other (by intro e2; cases e2; exact e rfl)]
      exact h.2.1 q c' hq' z
  · by_cases e : q = p
    · have hq' : (if q = p then some c else F q) = none := hq
      rw [if_pos e] at hq'; cases hq'
    · have hq' : (if q = p then some c else F q) = none := hq
      rw [if_neg e] at hq'
      rw [has_put_other (by intro e2; cases e2; exact e rfl)]
      exact h.2.2 q hq'
/-- The map in block b: at most n keys; key p holds F p. -/
def LMapAt (w : World) (b n : Nat) (F : Int → Option Lvl) : Prop := ∃ D : DataW Unit, w.ownsMap Tryd.prog 3 encV b n D ∧ LData D F
theorem wf64 {p : Int} (h : -9223372036854775808 ≤ p ∧ p ≤ 9223372036854775807) : (Lit.int .i64 p).wf = true := by simp [Lit.wf, IntKind.min, IntKind.max, IntKind.bits, IntKind.signed]; omega
section
variable {w w' : World} {b n : Nat} {F : Int → Option Lvl}
theorem zeroLvl (w : World) : (zeroValue 92).run Tryd.prog w = .ok (lvV ⟨0, 0, 0⟩) w := by kernel_rfl
theorem LMapAt.made (w : World) : LMapAt (w.alloc (.map #[] 0)) w.heap.size 0 (fun _ => none) := ⟨.map [], World.ownsMap_made w _ _ _, isMap_empty, (fun p c h => nomatch h), fun p _ => rfl⟩
theorem LMapAt.kept {row : Option Nat} (h : LMapAt w b n F) (hg : w.grownBy w' row) (hne : some b ≠ row) : LMapAt w' b n F := by
  obtain ⟨D, h1, h2⟩ := h
  exact ⟨D, h1.kept hg hne, h2⟩
theorem LMapAt.lt (h : LMapAt w b n F) : b < w.heap.size := by obtain ⟨D, h1, _⟩ := h; exact h1.lt
theorem LMapAt.mono {m : Nat} (h : LMapAt w b n F) (hnm : n ≤ m) : LMapAt w b m F := by
  obtain ⟨D, h1, h2⟩ := h
  exact ⟨D, h1.mono hnm, h2⟩
theorem LMapAt.alloc (h : LMapAt w b n F) (o : Obj) : LMapAt (w.alloc o) b n F := h.kept (World.grownBy_alloc w o none) (by simp)
theorem LMapAt.lookup (h : LMapAt w b n F) {p : Int} (hp : -9223372036854775808 ≤ p ∧ p ≤ 9223372036854775807) :
    (Instr.lookup 129 (.map (some b)) (.int .i64 p) false).run Tryd.prog w = .ok (lvV ((F p).getD ⟨0, 0, 0⟩)) w := by
  obtain ⟨D, h1, h2⟩ := h
  obtain ⟨v, ps, hr, hv⟩ := h1.lookup (int_keyed Tryd.underlying3) Tryd.underlying129 (zeroLvl w) (zd := lvD ⟨0, 0, 0⟩) (zp := []) rfl (keyOf_int_mk Tryd.underlying3 (wf64 hp))
  obtain ⟨c, rfl, hc⟩ := encV_inv hv
  simp only [Prod.mk.injEq] at hc
  have e : c = (F p).getD ⟨0, 0, 0⟩ := lvD_inj (hc.1.symm.trans ?_)
  · rw [hr, e]
  cases hF : F p with
  | none => exact atKey_of_not_has (h2.2.2 p hF) _
  | some c' => exact h2.2.1 p c' hF _
theorem wpList_update_lvl {ops : Array Oper} {rest : List Oper} {o : Oper} {a : Act} {Q : Exit → Act → World → Prop} (hg : o.guard = none) (m x v : Operand) (hop : o.op = Op.mapUpdate 129 m x v)
    (h : LMapAt w b n F) (hn : n < maxLen) (p : Int) (hp : -9223372036854775808 ≤ p ∧ p ≤ 9223372036854775807) (c : Lvl) (hm : a.eval m = .map (some b)) (hx : a.eval x = .int .i64 p) (hv : a.eval v = lvV c)
    (hK : ∀ w', LMapAt w' b (n + 1) (fun q => if q = p then some c else F q) → w.grownBy w' (some b) → wpList Tryd.prog ops Q rest (a.put o.dst undef) w') :
    wpList Tryd.prog ops Q (o :: rest) a w := by
  obtain ⟨D, h1, h2⟩ := h
  exact wpList_mapUpdate_own w hg m x v 129 hop 3 92 (int_keyed Tryd.underlying3) Tryd.underlying129 encV b n D hm h1 hn (.int .i64 p) (lvV c) (.int .i64 p) hx hv (keyOf_int_mk Tryd.underlying3 (wf64 hp)) (lvD c) [] (encV_lv c)
    (fun w' k1 k2 => hK w' ⟨_, k1, h2.put p c⟩ k2)
/-- A loop over the map: which keys are to come. -/
def LRange (w : World) (b r n : Nat) (F : Int → Option Lvl) (qs : List Int) (cnt : Nat) : Prop := ∃ (D : DataW Unit) (left : Lit → Bool), w.ranges Tryd.prog 3 encV b r n D left cnt ∧ LData D F ∧ (∀ p, left (.int .i64 p) = true ↔ (F p).isSome = true ∧ p ∉ qs) ∧ qs.Nodup ∧ ∀ p ∈ qs, (F p).isSome = true
section
variable {r cnt : Nat} {qs : List Int}
theorem LRange.left_eq (h : LRange w b r n F qs cnt) : w.rangeLeft b r = cnt := by obtain ⟨D, l, h1, _⟩ := h; exact h1.left_eq
theorem LRange.kept {row : Option Nat} (h : LRange w b r n F qs cnt) (hg : w.grownBy w' row) (hb : some b ≠ row) (hr : some r ≠ row) : LRange w' b r n F qs cnt := by
  obtain ⟨D, l, h1, h2⟩ := h
  exact ⟨D, l, h1.kept hg hb hr, h2⟩
theorem LRange.alloc (h : LRange w b r n F qs cnt) (o : Obj) : LRange (w.alloc o) b r n F qs cnt := h.kept (World.grownBy_alloc w o none) (by simp) (by simp)
theorem LRange.lt (h : LRange w b r n F qs cnt) : r < w.heap.size := by obtain ⟨D, l, h1, _⟩ := h; exact h1.lt
theorem LRange.done (h : LRange w b r n F qs 0) (hl : ∀ p, (F p).isSome = true → p ∈ qs) : ∀ p, p ∈ qs ↔ (F p).isSome = true := by
  obtain ⟨D, l, _, _, _, _, h5⟩ := h
  exact fun p => ⟨h5 p, hl p⟩
theorem wpList_range_lvl {ops : Array Oper} {rest : List Oper} {o : Oper} {a : Act} {Q : Exit → Act → World → Prop} (hg : o.guard = none) (m : Operand) (hop : o.op = Op.range 129 m)
    (hm : a.eval m = .map (some b)) (h : LMapAt w b n F)
    (hK : ∀ w' cnt, LRange w' b w.heap.size n F [] cnt → w.grownBy w' none → w'.heap.size = w.heap.size + 1 → wpList Tryd.prog ops Q rest (a.put o.dst (.pointer (some ⟨w.heap.size, 0, none⟩))) w') :
    wpList Tryd.prog ops Q (o :: rest) a w := by
  obtain ⟨D, h1, h2⟩ := h
  refine wpList_range_own w hg m 129 hop 3 92 (int_keyed Tryd.underlying3) Tryd.underlying129 encV b n D hm h1 fun w' k1 k2 k3 => ?_
  exact hK w' _ ⟨D, _, k1, h2, fun p => by rw [h2.has p]; simp, List.nodup_nil, fun p hp => by cases hp⟩ k2 k3
theorem wpList_next_lvl {ops : Array Oper} {rest : List Oper} {o : Oper} {a : Act} {Q : Exit → Act → World → Prop} (hg : o.guard = none) (it : Operand) (hop : o.op = Op.next it false)
    (hit : a.eval it = .pointer (some ⟨r, 0, none⟩)) (h : LRange w b r n F qs cnt)
    (hDone : Hid (∀ p, p ∈ qs ↔ (F p).isSome = true) → wpList Tryd.prog ops Q rest (a.put o.dst (.tuple #[.bool false])) w)
    (hMore : ∀ (p : Int) (c : Lvl) (w' : World) (cnt' : Nat), Hid (F p = some c) → Hid (LRange w' b r n F (qs ++ [p]) cnt') → cnt' < cnt → Hid (w.grownBy w' (some r)) → w'.heap.size = w.heap.size →
      (Instr.entry (.pointer (some ⟨r, 0, none⟩))).run Tryd.prog w' = .ok (.tuple #[.int .i64 p, .agg #[.int .i64 c.price, .int .i64 c.qty, .int .i64 c.many]]) w' → wpList Tryd.prog ops Q rest (a.put o.dst (.tuple #[.bool true, .int .i64 p, .agg #[.int .i64 c.price, .int .i64 c.qty, .int .i64 c.many]])) w') :
    wpList Tryd.prog ops Q (o :: rest) a w := by
  obtain ⟨D, left, h1, h2, h3, h4, h5⟩ := h
  refine wpList_next_ranges w hg it hop 3 (int_keyed Tryd.underlying3) encV (Value.int .i64) lvV (fun key kl hk => by obtain ⟨x, e, _⟩ := keyOf_int_inv Tryd.underlying3 hk; exact ⟨x, e⟩) (fun v y hv => by obtain ⟨c, e, _⟩ := encV_inv hv; exact ⟨c, e⟩) b r n D left cnt hit h1 (fun _ hl => hDone (Lib.hid fun p => ⟨h5 p, fun hp => ?_⟩)) ?_
  · by_cases e : p ∈ qs
    · exact e
    · have := (h3 p).2 ⟨hp, e⟩
      rw [hl] at this; cases this
  · intro p c kl y w' cnt' hkey hlk hv hat hrg hlt hgr hsz hen
    obtain ⟨x, e, rfl, _⟩ := keyOf_int_inv Tryd.underlying3 hkey
    cases e
    obtain ⟨hs, hq⟩ := (h3 p).1 hlk
    obtain ⟨c', hc'⟩ := Option.isSome_iff_exists.1 hs
    have e : c' = c := lvD_inj (by rw [← h2.2.1 p c' hc' .nil, hat]; rw [encV_lv] at hv; exact (congrArg Prod.fst (Option.some.inj hv)).symm)
    subst e
    refine hMore p c' w' cnt' (Lib.hid hc') (Lib.hid ⟨D, _, hrg, h2, fun q => ?_, ?_, fun q hq2 => ?_⟩) hlt (Lib.hid hgr) hsz hen
    · simp only [Bool.and_eq_true, h3 q, Bool.not_eq_true', List.mem_append, List.mem_singleton, not_or]
      constructor
      · rintro ⟨⟨a1, a2⟩, a3⟩
        exact ⟨a1, a2, fun e => by subst e; rw [WideAt.sameKey_self (a := .int .i64 q) trivial] at a3; cases a3⟩
      · rintro ⟨a1, a2, a3⟩
        exact ⟨⟨a1, a2⟩, sameKey_ne (by intro e; cases e; exact a3 rfl)⟩
    · rw [List.nodup_append]
      exact ⟨h4, by simp, fun x hx y hy => by simp at hy; subst hy; exact fun e => hq (e ▸ hx)⟩
    · rcases List.mem_append.1 hq2 with e | e
      · exact h5 q e
      · simp at e; subst e; exact hs
end
end
/-- What the keys hold behind the lots t. -/
def lvF (side : Int) (t : List Lot) (p : Int) : Option Lvl := if 0 < manyP side p t then some (lvlP side t p) else none
theorem lvF_some {side p : Int} {t : List Lot} : (lvF side t p).isSome = true ↔ 0 < manyP side p t := by
  unfold lvF; split
  · simp [*]
  · simp; omega
theorem lvF_get (side : Int) (t : List Lot) (p : Int) : ∃ a, (lvF side t p).getD ⟨0, 0, 0⟩ = ⟨a, qtyP side p t, manyP side p t⟩ := by
  unfold lvF
  by_cases h : 0 < manyP side p t
  · rw [if_pos h]; exact ⟨p, rfl⟩
  · rw [if_neg h]
    have h0 : manyP side p t = 0 := by omega
    have hn : t.filter (atP side p) = [] := List.eq_nil_of_length_eq_zero h0
    refine ⟨0, ?_⟩
    show (⟨0, 0, 0⟩ : Lvl) = ⟨0, qtyP side p t, manyP side p t⟩
    rw [h0]; unfold qtyP; rw [hn]; rfl
theorem lvF_skip {side : Int} {l : List Lot} {k : Nat} (hk : k < l.length) (h : ¬ l[k].side = side) : lvF side (l.take (k + 1)) = lvF side (l.take k) := by
  funext p
  have e : atP side p l[k] = false := by simp [atP, h]
  unfold lvF lvlP
  rw [manyP_snoc hk, qtyP_snoc hk, e]
  simp
theorem lvF_step {side : Int} {l : List Lot} {k : Nat} (hk : k < l.length) (h : l[k].side = side) : lvF side (l.take (k + 1)) = fun p => if p = l[k].price then some ⟨l[k].price, qtyP side l[k].price (l.take k) + l[k].qty, manyP side l[k].price (l.take k) + 1⟩ else lvF side (l.take k) p := by
  funext p
  unfold lvF lvlP
  rw [manyP_snoc hk, qtyP_snoc hk]
  by_cases e : p = l[k].price
  · have ea : atP side p l[k] = true := by simp [atP, h, e]
    rw [ea]
    rw [if_pos (show (true = true) from rfl), if_pos (show (true = true) from rfl), if_pos (by omega), if_pos e, e]
    congr 1
  · have ea : atP side p l[k] = false := by simp [atP]; intro _ e2; exact e e2.symm
    rw [ea]
    simp [e]
end Go.Proofs.YtfeeibealokhfaaDoor
