import Derived.Test.YtmbboflakfokhaaDoorJ25
/- Plain facts: what a batch leaves of a floor: each lot without what it got, each client's cash and stock by what it traded. -/
set_option linter.unusedSimpArgs false
set_option linter.unusedVariables false
namespace Go.Proofs.YtmbboflakfokhaaDoor
open Go.RowKit

theorem tradeF_inv {P : Pu} (h : PInv P) {bo so it : Nat} {m1 m2 qty : Int} (hi : it < 3) (hb : bo < 6) (hs : so < 6) (a0 : 0 ≤ m2) (a1 : m2 ≤ m1) (a2 : m1 ≤ P bo 1) (q0 : 0 ≤ qty) (q1 : qty ≤ P so (5 + it)) (hf : bo ≠ so → qty ≤ 1073741824 - P bo (2 + it) ∧ m2 ≤ 1099511627776 - P so 0) : PInv (tradeF P bo so it m1 m2 qty) := fun c hc => by
  obtain ⟨v1, v2, v3, v4⟩ := h c hc
  rw [tradeF_held, tradeF_cash]
  obtain ⟨b1, b2, b3, b4⟩ := h bo hb
  obtain ⟨s1, s2, s3, s4⟩ := h so hs
  refine ⟨?_, ?_, ?_, fun i hi2 => ?_⟩
  · split
    · rename_i e; subst e; omega
    · exact v1
  · by_cases e1 : c = bo
    · subst e1; rw [if_pos rfl, if_pos rfl]; split <;> omega
    · rw [if_neg e1, if_neg e1]; split <;> omega
  · by_cases e1 : c = bo
    · subst e1
      by_cases e2 : c = so
      · subst e2; rw [if_pos rfl]; omega
      · rw [if_pos rfl, if_neg e2]; omega
    · by_cases e2 : c = so
      · subst e2
        have := (hf (fun e => e1 e.symm)).2
        rw [if_neg e1, if_pos rfl]; omega
      · rw [if_neg e1, if_neg e2]; omega
  · obtain ⟨u1, u2, u3⟩ := v4 i hi2
    rw [tradeF_kept _ _ _ _ _ _ _ _ _ hi2 hi, tradeF_stock _ _ _ _ _ _ _ _ _ hi2 hi]
    by_cases e : i = it
    · subst e
      rw [if_pos rfl]
      by_cases e1 : c = bo
      · subst e1
        by_cases e2 : c = so
        · subst e2; rw [if_pos ⟨rfl, rfl⟩, if_pos rfl]; omega
        · have := (hf e2).1
          rw [if_neg (fun e => e2 e.1), if_pos rfl, if_neg e2]; omega
      · by_cases e2 : c = so
        · subst e2
          rw [if_pos ⟨rfl, rfl⟩, if_neg e1, if_pos rfl]; omega
        · rw [if_neg (fun e => e2 e.1), if_neg e1, if_neg e2]; omega
    · rw [if_neg (fun e2 => e e2.2), if_neg e]; omega
theorem tradeE_inv {P : Pu} (h : PInv P) {k : Nat} (hk : k < 3) {x y : Lot} {price qty : Int} (he : tradeE P (k : Int) x y price qty = 0) (hx : x.ok = true) (hy : y.ok = true) (p0 : 0 ≤ price) (p1 : price ≤ x.price) (q0 : 0 ≤ qty) : PInv (tradeF P x.owner.toNat y.owner.toNat k (x.price * qty) (price * qty) qty) := by
  obtain ⟨x1, x2, x3, x4, x5⟩ := Lot.okC hx
  obtain ⟨y1, y2, y3, y4, y5⟩ := Lot.okC hy
  unfold tradeE at he
  split at he
  · rw [Int.toNat_natCast] at he
    split at he
    · cases he
    · rename_i h1
      split at he
      · cases he
      · rename_i h2
        refine tradeF_inv h hk (by omega) (by omega) (Int.mul_nonneg p0 q0) (Int.mul_le_mul_of_nonneg_right p1 q0) (by omega) q0 (by omega) (fun hne => ?_)
        have : ¬ (1073741824 - P x.owner.toNat (2 + k) < qty ∨ 1099511627776 - P y.owner.toNat 0 < price * qty) := fun h3 => h2 ⟨hne, h3⟩
        omega
  · rename_i h1; exact absurd he h1

/-- What a client bought, less what it sold. -/
def netF (g : Int → Int) (c : Int) (x : Lot) : Int := if x.owner = c then (if x.side = 0 then g x.id else - g x.id) else 0
def netZ (g : Int → Int) (c : Int) (l : List Lot) : Int := sumZ (netF g c) l
theorem netZ_congr {g h : Int → Int} {c : Int} : ∀ {l : List Lot}, (∀ x ∈ l, g x.id = h x.id) → netZ g c l = netZ h c l
  | [], _ => rfl
  | x :: l, e => by
    have ih := netZ_congr (g := g) (h := h) (c := c) (l := l) fun y hy => e y (by simp [hy])
    unfold netZ at ih ⊢
    simp only [sumZ, ih]
    unfold netF
    rw [e x (by simp)]
theorem netZ_add {g : Int → Int} {c : Int} {q : Int} {x : Lot} : ∀ {l : List Lot}, LApart l → x ∈ l → netZ (fun i => g i + if i = x.id then q else 0) c l = netZ g c l + netF (fun _ => q) c x
  | y :: l, ha, hx => by
    obtain ⟨h1, h2⟩ := List.pairwise_cons.1 ha
    rcases List.mem_cons.1 hx with rfl | hx
    · have e := netZ_congr (g := fun i => g i + if i = x.id then q else 0) (h := g) (c := c) (l := l) fun z hz => by
        rw [if_neg (fun e => h1 z hz e.symm)]; omega
      unfold netZ at e ⊢
      simp only [sumZ]
      rw [e]
      unfold netF
      simp only [if_true]
      split
      · split <;> omega
      · omega
    · have ih := netZ_add (g := g) (c := c) (q := q) h2 hx
      unfold netZ at ih ⊢
      simp only [sumZ]
      rw [ih]
      have : netF (fun i => g i + if i = x.id then q else 0) c y = netF g c y := by
        unfold netF
        simp only
        rw [if_neg (h1 x hx)]
        simp only [Int.add_zero]
      rw [this]; omega
/-- What is done of a batch: of each lot so much. -/
structure TDone (k : Nat) (price : Int) (s0 st : FSt) (g : Int → Int) : Prop where
  mem : ∀ z, z ∈ st.b k ↔ ∃ x ∈ s0.b k, g x.id < x.qty ∧ z = x.less (g x.id)
  other : ∀ j, j ≠ k → st.b j = s0.b j
  ref : st.ref = s0.ref
  left : st.left = s0.left
  cash : ∀ c : Nat, c < 6 → st.p c 0 = s0.p c 0 - price * netZ g c (s0.b k)
  stock : ∀ c : Nat, c < 6 → ∀ j, j < 3 → st.p c (2 + j) = s0.p c (2 + j) + if j = k then netZ g c (s0.b k) else 0
theorem netZ_zero (c : Int) : ∀ l : List Lot, netZ (fun _ => 0) c l = 0
  | [] => rfl
  | x :: l => by
    have := netZ_zero c l
    unfold netZ at this ⊢
    simp only [sumZ, this]
    unfold netF
    split
    · split <;> rfl
    · rfl
theorem TDone.start {k : Nat} {price : Int} {st : FSt} (h : BOk (st.b k)) : TDone k price st st (fun _ => 0) := by
  refine ⟨fun z => ⟨fun hz => ⟨z, hz, ?_, ?_⟩, ?_⟩, fun _ _ => rfl, rfl, rfl, fun c _ => ?_, fun c _ j _ => ?_⟩
  · have := (Lot.okC (h.ok z hz)).2.2.2.2; show (0 : Int) < z.qty; omega
  · cases z; simp [Lot.less]
  · rintro ⟨x, hx, _, rfl⟩
    have : x.less 0 = x := by cases x; simp [Lot.less]
    rw [this]; exact hx
  · rw [netZ_zero, Int.mul_zero, Int.sub_zero]
  · rw [netZ_zero, ite_self, Int.add_zero]
theorem less_less (x : Lot) (a b : Int) : (x.less a).less b = x.less (a + b) := by
  simp only [Lot.less, Lot.mk.injEq, true_and]; omega
theorem TDone.step {k : Nat} {price : Int} {s0 st : FSt} {g : Int → Int} (hd : TDone k price s0 st g) (h0 : BOk (s0.b k)) (h : FOk st) (hp : PInv st.p) (hk : k < 3) {x y : Lot} (hx : x ∈ st.b k) (hy : y ∈ st.b k) (sx : x.side = 0) (sy : y.side = 1) {q : Int} (q1 : 1 ≤ q) (q2 : q ≤ x.qty) (q3 : q ≤ y.qty) (p1 : price ≤ x.price) (p2 : y.price ≤ price) :
    TDone k price s0 (tradeS st k price q x y) (fun i => (g i + if i = x.id then q else 0) + if i = y.id then q else 0) := by
  obtain ⟨hE, hF, l1, l2, e1, e2, hb, hy1, hmem⟩ := h.trade hp hk hx hy sx sy q1 q2 q3 p1 p2
  obtain ⟨x0, hx0, gx, ex⟩ := (hd.mem x).1 hx
  obtain ⟨y0, hy0, gy, ey⟩ := (hd.mem y).1 hy
  have okx := h0.ok x0 hx0
  have oky := h0.ok y0 hy0
  obtain ⟨x1, x2, x3, x4, x5⟩ := Lot.okC okx
  obtain ⟨y1, y2, y3, y4, y5⟩ := Lot.okC oky
  have ix : x.id = x0.id := by rw [ex]; rfl
  have iy : y.id = y0.id := by rw [ey]; rfl
  have six : x0.side = 0 := by rw [ex] at sx; exact sx
  have siy : y0.side = 1 := by rw [ey] at sy; exact sy
  have ox : x.owner = x0.owner := by rw [ex]; rfl
  have oy : y.owner = y0.owner := by rw [ey]; rfl
  have qx : x.qty = x0.qty - g x0.id := by rw [ex]; rfl
  have qy : y.qty = y0.qty - g y0.id := by rw [ey]; rfl
  have hne : x0.id ≠ y0.id := fun e => by
    have := h0.apart.eq hx0 hy0 e
    subst this; omega
  have net : ∀ c : Int, netZ (fun i => (g i + if i = x.id then q else 0) + if i = y.id then q else 0) c (s0.b k) = netZ g c (s0.b k) + (if x0.owner = c then q else 0) - (if y0.owner = c then q else 0) := fun c => by
    rw [ix, iy, netZ_add (g := fun i => g i + if i = x0.id then q else 0) h0.apart hy0, netZ_add h0.apart hx0]
    have f1 : netF (fun _ => q) c x0 = if x0.owner = c then q else 0 := by unfold netF; rw [if_pos six]
    have f2 : netF (fun _ => q) c y0 = if y0.owner = c then - q else 0 := by unfold netF; rw [if_neg (show ¬ y0.side = 0 by omega)]
    rw [f1, f2]
    split <;> split <;> omega
  refine ⟨fun z => ?_, fun j hj => ?_, ?_, ?_, fun c hc => ?_, fun c hc j hj => ?_⟩
  · rw [hb, hmem]
    constructor
    · rintro (⟨hz, n1, n2⟩ | ⟨hq, rfl⟩ | ⟨hq, rfl⟩)
      · obtain ⟨z0, hz0, gz, ez⟩ := (hd.mem z).1 hz
        have iz : z.id = z0.id := by rw [ez]; rfl
        refine ⟨z0, hz0, ?_, ?_⟩
        · rw [if_neg (by rw [← iz]; exact n1), if_neg (by rw [← iz]; exact n2)]; omega
        · rw [if_neg (by rw [← iz]; exact n1), if_neg (by rw [← iz]; exact n2), Int.add_zero, Int.add_zero]; exact ez
      · refine ⟨x0, hx0, ?_, ?_⟩
        · rw [if_pos ix.symm, if_neg (by rw [iy]; exact hne)]; omega
        · rw [if_pos ix.symm, if_neg (by rw [iy]; exact hne), ex, less_less, Int.add_zero]
      · refine ⟨y0, hy0, ?_, ?_⟩
        · rw [if_neg (by rw [ix]; exact fun e => hne e.symm), if_pos iy.symm]; omega
        · rw [if_neg (by rw [ix]; exact fun e => hne e.symm), if_pos iy.symm, ey, less_less, Int.add_zero]
    · rintro ⟨z0, hz0, gz, rfl⟩
      by_cases e1 : z0.id = x.id
      · have : z0 = x0 := h0.apart.eq hz0 hx0 (by rw [e1, ix])
        subst this
        rw [if_pos e1, if_neg (by rw [iy]; exact hne)] at gz ⊢
        refine .inr (.inl ⟨by omega, ?_⟩)
        rw [ex, less_less, Int.add_zero]
      · by_cases e2 : z0.id = y.id
        · have : z0 = y0 := h0.apart.eq hz0 hy0 (by rw [e2, iy])
          subst this
          rw [if_neg e1, if_pos e2] at gz ⊢
          refine .inr (.inr ⟨by omega, ?_⟩)
          rw [ey, less_less, Int.add_zero]
        · rw [if_neg e1, if_neg e2, Int.add_zero, Int.add_zero] at gz ⊢
          exact .inl ⟨(hd.mem _).2 ⟨z0, hz0, gz, rfl⟩, e1, e2⟩
  · show (if j = k then _ else st.b j) = _
    rw [if_neg hj]; exact hd.other j hj
  · exact hd.ref
  · exact hd.left
  · show tradeF st.p x.owner.toNat y.owner.toNat k (x.price * q) (price * q) q c 0 = _
    rw [tradeF_cash, hd.cash c hc, net, ox, oy, Int.mul_sub, Int.mul_add]
    have a1 : price * (if x0.owner = (c : Int) then q else 0) = if c = x0.owner.toNat then price * q else 0 := by
      by_cases e : x0.owner = (c : Int)
      · rw [if_pos e, if_pos (by omega)]
      · rw [if_neg e, if_neg (by omega), Int.mul_zero]
    have a2 : price * (if y0.owner = (c : Int) then q else 0) = if c = y0.owner.toNat then price * q else 0 := by
      by_cases e : y0.owner = (c : Int)
      · rw [if_pos e, if_pos (by omega)]
      · rw [if_neg e, if_neg (by omega), Int.mul_zero]
    rw [a1, a2]
    omega
  · show tradeF st.p x.owner.toNat y.owner.toNat k (x.price * q) (price * q) q c (2 + j) = _
    rw [tradeF_stock _ _ _ _ _ _ _ _ _ hj hk, hd.stock c hc j hj, net, ox, oy]
    have a1 : (if c = x0.owner.toNat then q else 0) = if x0.owner = (c : Int) then q else 0 := by
      by_cases e : x0.owner = (c : Int)
      · rw [if_pos e, if_pos (by omega)]
      · rw [if_neg e, if_neg (by omega)]
    have a2 : (if c = y0.owner.toNat then q else 0) = if y0.owner = (c : Int) then q else 0 := by
      by_cases e : y0.owner = (c : Int)
      · rw [if_pos e, if_pos (by omega)]
      · rw [if_neg e, if_neg (by omega)]
    by_cases e : j = k
    · rw [if_pos e, if_pos e, if_pos e, a1, a2]
      omega
    · rw [if_neg e, if_neg e, if_neg e]; omega
theorem TDone.congr {k : Nat} {price : Int} {s0 st : FSt} {g h : Int → Int} (hd : TDone k price s0 st g) (e : ∀ i, g i = h i) : TDone k price s0 st h := by
  obtain rfl : g = h := funext e
  exact hd
theorem qty_less (f : Fil) (q : Int) (l : List Fil) : qtyF (lessF f q l) = f.qty + qtyF l - q := by
  unfold lessF
  split
  · omega
  · simp only [qtyF]; omega
theorem qty_none {l : List Fil} (h : ∀ f ∈ l, 1 ≤ f.qty) (h0 : qtyF l = 0) : l = [] := by
  cases l with
  | nil => rfl
  | cons f l =>
    exfalso
    have key : ∀ l : List Fil, (∀ f ∈ l, 1 ≤ f.qty) → 0 ≤ qtyF l := fun l => by
      induction l with
      | nil => intro _; simp [qtyF]
      | cons f l ih =>
        intro h
        have := ih fun g hg => h g (by simp [hg])
        have := h f (by simp)
        simp only [qtyF]; omega
    have := key l fun g hg => h g (by simp [hg])
    have := h f (by simp)
    simp only [qtyF] at h0; omega
/-- All fills are traded. -/
theorem tradeAll_done {k : Nat} (hk : k < 3) {price : Int} (p0 : 0 ≤ price) {s0 : FSt} (h0 : BOk (s0.b k)) : ∀ (n : Nat) (st : FSt) (bs ss : List Fil) (g : Int → Int), TInv k price st bs ss → PInv st.p → TDone k price s0 st g → bs.length + ss.length ≤ n → qtyF bs = qtyF ss →
    FOk (tradeAll k price n st bs ss) ∧ PInv (tradeAll k price n st bs ss).p ∧ TDone k price s0 (tradeAll k price n st bs ss) (fun i => g i + gotF bs i + gotF ss i) := by
  intro n
  induction n with
  | zero =>
    intro st bs ss g h hp hd hn hq
    obtain rfl : bs = [] := List.eq_nil_of_length_eq_zero (by omega)
    obtain rfl : ss = [] := List.eq_nil_of_length_eq_zero (by omega)
    exact ⟨h.ok, hp, hd.congr fun i => by simp [gotF]⟩
  | succ n ih =>
    intro st bs ss g h hp hd hn hq
    cases bs with
    | nil =>
      obtain rfl : ss = [] := qty_none (fun f hf => (h.sells f hf).1) (by rw [← hq]; rfl)
      exact ⟨h.ok, hp, hd.congr fun i => by simp [gotF]⟩
    | cons b bs =>
      cases ss with
      | nil =>
        have := qty_none (fun f hf => (h.buys f hf).1) (l := b :: bs) (by rw [hq]; rfl)
        cases this
      | cons s ss =>
        obtain ⟨x, y, hx, hy, gx, gy, ix, iy, sx, sy, p1, p2, q1, q2, q3, hE, hT⟩ := h.step hp hk
        show FOk (tradeAll k price n (tradeS st k price (min b.qty s.qty) (getR (st.b k) b.id).1 (getR (st.b k) s.id).1) _ _) ∧ PInv (tradeAll k price n (tradeS st k price (min b.qty s.qty) (getR (st.b k) b.id).1 (getR (st.b k) s.id).1) _ _).p ∧
          TDone k price s0 (tradeAll k price n (tradeS st k price (min b.qty s.qty) (getR (st.b k) b.id).1 (getR (st.b k) s.id).1) (lessF b (min b.qty s.qty) bs) (lessF s (min b.qty s.qty) ss)) _
        rw [gx, gy]
        have hbk := h.ok.book k hk
        have hp' : PInv (tradeS st k price (min b.qty s.qty) x y).p := tradeE_inv hp hk hE (hbk.ok x hx) (hbk.ok y hy) p0 p1 (by omega)
        have hl1 := less_len b (min b.qty s.qty) bs
        have hl2 := less_len s (min b.qty s.qty) ss
        have hmin : min b.qty s.qty = b.qty ∨ min b.qty s.qty = s.qty := by omega
        have hd' := hd.step h0 h.ok hp hk hx hy sx sy q1 q2 q3 p1 p2
        have hlen : (lessF b (min b.qty s.qty) bs).length + (lessF s (min b.qty s.qty) ss).length ≤ n := by
          rw [hl1, hl2]
          simp only [List.length_cons] at hn
          rcases hmin with e | e
          · rw [e, if_pos (by omega)]; split <;> omega
          · rw [e]; rw [if_pos (show s.qty - s.qty = 0 by omega)]; split <;> omega
        obtain ⟨r1, r2, r3⟩ := ih _ _ _ _ hT hp' hd' hlen (by rw [qty_less, qty_less]; simp only [qtyF] at hq; omega)
        refine ⟨r1, r2, r3.congr fun i => ?_⟩
        rw [got_less, got_less, ix, iy]
        have c1 : (b.id = i) ↔ (i = b.id) := eq_comm
        have c2 : (s.id = i) ↔ (i = s.id) := eq_comm
        simp only [c1, c2]
        omega
end Go.Proofs.YtmbboflakfokhaaDoor
