import Derived.Test.YtmbboflakfokhaaDoorJ12
import Derived.Test.YtmbboflakfokhaaDoorFairL
import Derived.Test.YtmbboflakfokhaaDoorBand
import Derived.Test.YtmbboflakfokhaaDoorJ17
import Derived.Laws.Rows
/- Plain facts: what a batch makes of a floor. Its trades never fail. -/
set_option linter.unusedSimpArgs false
set_option linter.unusedVariables false
namespace Go.Proofs.YtmbboflakfokhaaDoor
open Go.RowKit

theorem BOk.lots {l : List Lot} (h : BOk l) : LotsOk l := by
  refine ⟨by have := h.len; omega, fun k hk => ?_⟩
  rw [codeAt_at (List.getElem?_eq_getElem hk), if_pos (h.ok _ (List.getElem_mem hk)), if_neg ?_]
  rw [List.any_eq_true]
  rintro ⟨y, hy, e⟩
  obtain ⟨j, hj, rfl⟩ := List.getElem_of_mem hy
  have hj' : j < k := by simp at hj; omega
  rw [List.getElem_take] at e
  exact List.pairwise_iff_getElem.1 h.apart j k (by omega) hk hj' (by simpa using e)
/-- So much less of a fill; none, where nothing is left. -/
def lessF (f : Fil) (q : Int) (l : List Fil) : List Fil := if f.qty - q = 0 then l else ⟨f.id, f.qty - q⟩ :: l
theorem got_less (f : Fil) (q : Int) (l : List Fil) (id : Int) : gotF (lessF f q l) id = gotF (f :: l) id - if f.id = id then q else 0 := by
  unfold lessF
  simp only [gotF]
  split
  · split <;> omega
  · simp only [gotF]; split <;> omega
theorem less_len (f : Fil) (q : Int) (l : List Fil) : (lessF f q l).length = if f.qty - q = 0 then l.length else l.length + 1 := by
  unfold lessF; split <;> rfl
theorem less_mem {f : Fil} {q : Int} {l : List Fil} {g : Fil} (hq : q ≤ f.qty) (h : g ∈ lessF f q l) : g ∈ l ∨ (g.id = f.id ∧ g.qty = f.qty - q ∧ 1 ≤ g.qty) := by
  unfold lessF at h
  split at h
  · exact .inl h
  · rcases List.mem_cons.1 h with rfl | h
    · exact .inr ⟨rfl, rfl, show 1 ≤ f.qty - q by omega⟩
    · exact .inl h
theorem got_nonneg {l : List Fil} (h : ∀ f ∈ l, 1 ≤ f.qty) (id : Int) : 0 ≤ gotF l id := by
  induction l with
  | nil => simp [gotF]
  | cons f l ih =>
    have := ih fun g hg => h g (by simp [hg])
    have := h f (by simp)
    simp only [gotF]; split <;> omega
theorem got_ge {l : List Fil} (h : ∀ f ∈ l, 1 ≤ f.qty) {f : Fil} (hf : f ∈ l) : f.qty ≤ gotF l f.id := by
  induction l with
  | nil => cases hf
  | cons g l ih =>
    have h1 := got_nonneg (l := l) (fun x hx => h x (by simp [hx])) f.id
    have h2 := h g (by simp)
    simp only [gotF]
    rcases List.mem_cons.1 hf with rfl | hf
    · rw [if_pos rfl]; omega
    · have := ih (fun x hx => h x (by simp [hx])) hf
      split <;> omega
/-- What holds while fills are traded against each other. -/
structure TInv (k : Nat) (price : Int) (st : FSt) (bs ss : List Fil) : Prop where
  ok : FOk st
  buys : ∀ f ∈ bs, 1 ≤ f.qty ∧ ∃ x ∈ st.b k, x.id = f.id ∧ x.side = 0 ∧ price ≤ x.price
  sells : ∀ f ∈ ss, 1 ≤ f.qty ∧ ∃ x ∈ st.b k, x.id = f.id ∧ x.side = 1 ∧ x.price ≤ price
  bd : ∀ x ∈ st.b k, gotF bs x.id + gotF ss x.id ≤ x.qty
theorem TInv.step {k : Nat} {price : Int} {st : FSt} {b s : Fil} {bs ss : List Fil} (h : TInv k price st (b :: bs) (s :: ss)) (hp : PInv st.p) (hk : k < 3) :
    ∃ x y, x ∈ st.b k ∧ y ∈ st.b k ∧ getR (st.b k) b.id = (x, true) ∧ getR (st.b k) s.id = (y, true) ∧ x.id = b.id ∧ y.id = s.id ∧ x.side = 0 ∧ y.side = 1 ∧ price ≤ x.price ∧ y.price ≤ price ∧
      1 ≤ min b.qty s.qty ∧ min b.qty s.qty ≤ x.qty ∧ min b.qty s.qty ≤ y.qty ∧ tradeE st.p (k : Int) x y price (min b.qty s.qty) = 0 ∧
      TInv k price (tradeS st k price (min b.qty s.qty) x y) (lessF b (min b.qty s.qty) bs) (lessF s (min b.qty s.qty) ss) := by
  obtain ⟨b1, x, hx, hxi, hxs, hxp⟩ := h.buys b (by simp)
  obtain ⟨s1, y, hy, hyi, hys, hyp⟩ := h.sells s (by simp)
  have hbk := h.ok.book k hk
  have n1 := got_nonneg (l := b :: bs) (fun f hf => (h.buys f hf).1)
  have n2 := got_nonneg (l := s :: ss) (fun f hf => (h.sells f hf).1)
  have g1 := got_ge (l := b :: bs) (fun f hf => (h.buys f hf).1) (f := b) (by simp)
  have g2 := got_ge (l := s :: ss) (fun f hf => (h.sells f hf).1) (f := s) (by simp)
  have bx := h.bd x hx
  have by' := h.bd y hy
  rw [hxi] at bx
  rw [hyi] at by'
  have m1 := n2 b.id
  have m2 := n1 s.id
  obtain ⟨q, hq⟩ : ∃ q, q = min b.qty s.qty := ⟨_, rfl⟩
  have q1 : 1 ≤ q := by omega
  have q2 : q ≤ x.qty := by omega
  have q3 : q ≤ y.qty := by omega
  obtain ⟨hE, hF, l1, l2, e1, e2, hbk2, hy1, hmem⟩ := h.ok.trade hp hk hx hy hxs hys q1 q2 q3 hxp hyp
  have hne : x.id ≠ y.id := fun e => by
    have := hbk.apart.eq hx hy e
    subst this; omega
  rw [← hq]
  refine ⟨x, y, hx, hy, by rw [← hxi]; exact getR_mem hbk.apart hx, by rw [← hyi]; exact getR_mem hbk.apart hy, hxi, hyi, hxs, hys, hxp, hyp, q1, q2, q3, hE, hF, fun f hf => ?_, fun f hf => ?_, fun z hz => ?_⟩
  · rw [hbk2]
    have hf1 : 1 ≤ f.qty ∧ ∃ z ∈ st.b k, z.id = f.id ∧ z.side = 0 ∧ price ≤ z.price := by
      rcases less_mem (by omega) hf with hf | ⟨e, _, h1⟩
      · exact h.buys f (by simp [hf])
      · exact ⟨h1, x, hx, by rw [e, hxi], hxs, hxp⟩
    obtain ⟨f1, z, hz, hzi, hzs, hzp⟩ := hf1
    refine ⟨f1, ?_⟩
    by_cases e : z.id = x.id
    · have : z = x := hbk.apart.eq hz hx e
      subst this
      refine ⟨z.less q, (hmem _).2 (.inr (.inl ⟨?_, rfl⟩)), hzi, hzs, hzp⟩
      -- something of it is left
      have k1 := got_ge (l := lessF b q bs) (fun g hg => by
        rcases less_mem (by omega) hg with hg | ⟨_, _, h1⟩
        · exact (h.buys g (by simp [hg])).1
        · exact h1) hf
      rw [got_less, ← hzi, hxi, if_pos rfl] at k1
      omega
    · exact ⟨z, (hmem z).2 (.inl ⟨hz, e, fun e2 => by have := hbk.apart.eq hz hy e2; subst this; omega⟩), hzi, hzs, hzp⟩
  · rw [hbk2]
    have hf1 : 1 ≤ f.qty ∧ ∃ z ∈ st.b k, z.id = f.id ∧ z.side = 1 ∧ z.price ≤ price := by
      rcases less_mem (by omega) hf with hf | ⟨e, _, h1⟩
      · exact h.sells f (by simp [hf])
      · exact ⟨h1, y, hy, by rw [e, hyi], hys, hyp⟩
    obtain ⟨f1, z, hz, hzi, hzs, hzp⟩ := hf1
    refine ⟨f1, ?_⟩
    by_cases e : z.id = y.id
    · have : z = y := hbk.apart.eq hz hy e
      subst this
      refine ⟨z.less q, (hmem _).2 (.inr (.inr ⟨?_, rfl⟩)), hzi, hzs, hzp⟩
      have k1 := got_ge (l := lessF s q ss) (fun g hg => by
        rcases less_mem (by omega) hg with hg | ⟨_, _, h1⟩
        · exact (h.sells g (by simp [hg])).1
        · exact h1) hf
      rw [got_less, ← hzi, hyi, if_pos rfl] at k1
      omega
    · exact ⟨z, (hmem z).2 (.inl ⟨hz, fun e2 => by have := hbk.apart.eq hz hx e2; subst this; omega, e⟩), hzi, hzs, hzp⟩
  · rw [hbk2] at hz
    rw [got_less, got_less]
    rcases (hmem z).1 hz with ⟨hz, h1, h2⟩ | ⟨_, rfl⟩ | ⟨_, rfl⟩
    · have := h.bd z hz
      rw [if_neg (by omega), if_neg (by omega)]
      omega
    · show gotF (b :: bs) x.id - (if b.id = x.id then q else 0) + (gotF (s :: ss) x.id - if s.id = x.id then q else 0) ≤ x.qty - q
      have := h.bd x hx
      rw [if_pos hxi.symm, if_neg (by omega)]
      omega
    · show gotF (b :: bs) y.id - (if b.id = y.id then q else 0) + (gotF (s :: ss) y.id - if s.id = y.id then q else 0) ≤ y.qty - q
      have := h.bd y hy
      rw [if_neg (by omega), if_pos hyi.symm]
      omega
/-- Fills traded against each other. -/
def tradeAll (k : Nat) (price : Int) : Nat → FSt → List Fil → List Fil → FSt
  | n + 1, st, b :: bs, s :: ss => tradeAll k price n (tradeS st k price (min b.qty s.qty) (getR (st.b k) b.id).1 (getR (st.b k) s.id).1) (lessF b (min b.qty s.qty) bs) (lessF s (min b.qty s.qty) ss)
  | _, st, _, _ => st
def buysOf (l : List Lot) (F : List Fil) : List Fil := F.filter fun f => (getR l f.id).1.side == 0
def sellsOf (l : List Lot) (F : List Fil) : List Fil := F.filter fun f => !((getR l f.id).1.side == 0)
theorem got_split (l : List Lot) : ∀ (F : List Fil) (id : Int), gotF (buysOf l F) id + gotF (sellsOf l F) id = gotF F id
  | [], _ => rfl
  | f :: F, id => by
    have ih := got_split l F id
    unfold buysOf sellsOf at ih ⊢
    simp only [List.filter_cons]
    cases h : ((getR l f.id).1.side == 0)
    · simp only [Bool.not_false, if_true, Bool.false_eq_true, if_false, gotF]; omega
    · simp only [Bool.not_true, if_true, Bool.false_eq_true, if_false, gotF]; omega
theorem FOk.setN {st : FSt} (h : FOk st) (k : Nat) (r l : Int) (h1 : 1 ≤ r ∧ r ≤ 1000) (h2 : 0 ≤ l ∧ l ≤ 1000) : FOk (st.setN k r l) :=
  ⟨h.book, h.held, h.kept, fun j hj => by
    show (1 ≤ (if j = k then r else st.ref j) ∧ (if j = k then r else st.ref j) ≤ 1000) ∧ 0 ≤ (if j = k then l else st.left j) ∧ (if j = k then l else st.left j) ≤ 1000
    by_cases e : j = k
    · rw [if_pos e, if_pos e]; exact ⟨h1, h2⟩
    · rw [if_neg e, if_neg e]; exact h.band j hj, h.cash, h.stock⟩
/-- The price, and the volume, of a book. -/
theorem best_facts {l : List Lot} (h : LotsOk l) (ref : Int) : 0 ≤ (bestC l ref 1000).vol ∧ (0 < (bestC l ref 1000).vol → (1 ≤ (bestC l ref 1000).price ∧ (bestC l ref 1000).price ≤ 1000) ∧ (bestC l ref 1000).vol = min (dem l (bestC l ref 1000).price) (sup l (bestC l ref 1000).price)) ∧
    ∀ q : Int, 1 ≤ q → q ≤ 1000 → min (dem l q) (sup l q) ≤ (bestC l ref 1000).vol := by
  rcases bestC_spec l ref 1000 with ⟨h1, h2⟩ | ⟨p, p1, p2, h2, h3, h4⟩
  · rw [h2]
    exact ⟨Int.le_refl _, fun h => absurd h (by decide), fun q q1 q2 => h1 q q1 q2⟩
  · rw [h2]
    refine ⟨by omega, fun _ => ⟨⟨p1, p2⟩, rfl⟩, fun q q1 q2 => ?_⟩
    by_cases e : q = p
    · subst e; exact Int.le_refl _
    · rcases h4 q q1 q2 e with h5 | h5
      · have : min (dem l q) (sup l q) = (candAt l ref q).vol := rfl
        omega
      · have a : min (dem l q) (sup l q) = (candAt l ref q).vol := rfl
        unfold Cand.better at h5
        omega
theorem bnext_range {ref left wd hl p v : Int} (hr : 1 ≤ ref ∧ ref ≤ 1000) (h1 : 0 ≤ left ∧ left ≤ 1000) (h2 : 1 ≤ hl ∧ hl ≤ 1000) (hp : 0 < v → 1 ≤ p ∧ p ≤ 1000) : (1 ≤ (bnext ref left wd hl p v).1 ∧ (bnext ref left wd hl p v).1 ≤ 1000) ∧ 0 ≤ (bnext ref left wd hl p v).2.1 ∧ (bnext ref left wd hl p v).2.1 ≤ 1000 := by
  unfold bnext
  (repeat' split) <;> simp only <;> omega
/-- What a batch computes: its price, its volume, is it open, the fills. -/
structure RunR where
  price : Int
  vol : Int
  isOpen : Bool
  fills : List Fil
def runR (st : FSt) (k : Nat) (wd hl seed : Int) : RunR :=
  let c := bestC (st.b k) (st.ref k) 1000
  let n := bnext (st.ref k) (st.left k) wd hl c.price c.vol
  ⟨c.price, c.vol, n.2.2, if n.2.2 = true ∧ c.vol ≠ 0 then fillsL (st.b k) c.price c.vol seed else []⟩
def runS (st : FSt) (k : Nat) (wd hl seed : Int) : FSt :=
  let c := bestC (st.b k) (st.ref k) 1000
  let n := bnext (st.ref k) (st.left k) wd hl c.price c.vol
  let F := (runR st k wd hl seed).fills
  tradeAll k c.price (F.length + F.length) (st.setN k n.1 n.2.1) (buysOf (st.b k) F) (sellsOf (st.b k) F)
theorem TInv.start {st : FSt} (h : FOk st) {k : Nat} (hk : k < 3) {price volume seed : Int} (v0 : 0 ≤ volume) (hv : volume ≤ min (dem (st.b k) price) (sup (st.b k) price)) : TInv k price st (buysOf (st.b k) (fillsL (st.b k) price volume seed)) (sellsOf (st.b k) (fillsL (st.b k) price volume seed)) := by
  have hbk := h.book k hk
  have hF := fills_fair (seed := seed) hbk.lots v0 hv
  have hmem : ∀ f ∈ fillsL (st.b k) price volume seed, ∃ x ∈ st.b k, x.id = f.id ∧ mayT x.side price x = true := fun f hf => by
    unfold fillsL at hf
    rcases List.mem_append.1 hf with hf | hf
    · obtain ⟨_, x, hx, hi, _⟩ := sideF_ids _ _ _ f hf
      have := levels_mem.1 hx
      exact ⟨x, this.1, hi, by rw [may_side this.2]; exact this.2⟩
    · obtain ⟨_, x, hx, hi, _⟩ := sideF_ids _ _ _ f hf
      have := levels_mem.1 hx
      exact ⟨x, this.1, hi, by rw [may_side this.2]; exact this.2⟩
  refine ⟨h, fun f hf => ?_, fun f hf => ?_, fun x hx => ?_⟩
  · have hf' := List.mem_filter.1 hf
    obtain ⟨x, hx, hi, hm⟩ := hmem f hf'.1
    have hg := getR_mem hbk.apart hx
    rw [hi] at hg
    have hs : x.side = 0 := by have := hf'.2; rw [hg] at this; simpa using this
    refine ⟨(hF.qty f hf'.1).1, x, hx, hi, hs, ?_⟩
    unfold mayT at hm
    rw [hs] at hm
    simp [hs] at hm
    omega
  · have hf' := List.mem_filter.1 hf
    obtain ⟨x, hx, hi, hm⟩ := hmem f hf'.1
    have hg := getR_mem hbk.apart hx
    rw [hi] at hg
    have hs : x.side ≠ 0 := by have := hf'.2; rw [hg] at this; simpa using this
    have hs1 : x.side = 1 := by rcases lot_side (hbk.ok x hx) with h | h <;> omega
    refine ⟨(hF.qty f hf'.1).1, x, hx, hi, hs1, ?_⟩
    unfold mayT at hm
    rw [hs1] at hm
    simp [hs1] at hm
    omega
  · rw [got_split]
    exact (hF.bd x hx).2
end Go.Proofs.YtmbboflakfokhaaDoor

/- A floor: its block, its row of items, its books and its purse; each part bears a label of its own within a group of eight labels. -/
set_option linter.unusedSimpArgs false
set_option linter.unusedVariables false
namespace Go.Proofs.YtmbboflakfokhaaDoor
open Go.RowKit

/-- Where a floor lies, and its rule. -/
structure FlA where
  f : Nat
  rg : Nat
  cap : Nat
  bp : Nat → Nat
  pp : Nat
  wd : Int
  hl : Int
def FlA.head (A : FlA) (j : Nat) : Value := if j = 0 then .slice (some ⟨A.rg, 0, none⟩) 3 A.cap else if j = 1 then .pointer (some ⟨A.pp, 0, none⟩) else if j = 2 then .int .i64 A.wd else .int .i64 A.hl
def FlA.item (A : FlA) (st : FSt) (n : Nat) : Value := if n % 3 = 0 then .pointer (some ⟨A.bp (n / 3), 0, none⟩) else if n % 3 = 1 then .int .i64 (st.ref (n / 3)) else .int .i64 (st.left (n / 3))
structure FlAt (own : Nat → Nat) (c : Nat) (w : World) (A : FlA) (st : FSt) : Prop where
  head : ∃ t, w.rowIs A.f t 4 A.head
  headL : own A.f = 8 * c + 5
  rows : ∃ cs t, w.heap[A.rg]? = some (.cells cs t (0, 0)) ∧ ∀ n, n < 9 → cs[n]? = some (A.item st n)
  rowL : own A.rg = 8 * c + 6
  cap : 3 ≤ A.cap ∧ A.cap ≤ maxLen
  book : ∀ k, k < 3 → BookAt own (8 * c + 1 + k) w (A.bp k) (st.b k)
  purse : PurseAt own (8 * c + 4) w A.pp st.p
  rule : (0 ≤ A.wd ∧ A.wd ≤ 100) ∧ 1 ≤ A.hl ∧ A.hl ≤ 1000
section
variable {own own' o : Nat → Nat} {c m g k : Nat} {w w1 w' : World} {A : FlA} {st : FSt}
theorem FlAt.row (h : FlAt own c w A st) (n : Nat) (hn : n < 9) : w.cell? ⟨A.rg, n, none⟩ = some (A.item st n) := by
  obtain ⟨cs, t, h1, h2⟩ := h.rows
  simp [World.cell?, h1, h2 n hn]
theorem FlAt.rowF (h : FlAt own c w A st) (n : Nat) : w.frozen? ⟨A.rg, n, none⟩ = false := by
  obtain ⟨cs, t, h1, h2⟩ := h.rows
  simp [World.frozen?, h1]
theorem FlAt.rowLt (h : FlAt own c w A st) : A.rg < w.heap.size := by
  obtain ⟨cs, t, h1, h2⟩ := h.rows
  exact (Array.getElem?_eq_some_iff.1 h1).1
theorem FlAt.rowsOf (h : FlAt own c w A st) (hb : w'.heap[A.rg]? = w.heap[A.rg]?) : ∃ cs t, w'.heap[A.rg]? = some (.cells cs t (0, 0)) ∧ ∀ n, n < 9 → cs[n]? = some (A.item st n) := by
  obtain ⟨cs, t, h1, h2⟩ := h.rows
  exact ⟨cs, t, hb.trans h1, h2⟩
theorem FlAt.cells (h : FlAt own c w A st) : w.cell? ⟨A.f, 0, none⟩ = some (.slice (some ⟨A.rg, 0, none⟩) 3 A.cap) ∧ w.cell? ⟨A.f, 1, none⟩ = some (.pointer (some ⟨A.pp, 0, none⟩)) ∧ w.cell? ⟨A.f, 2, none⟩ = some (.int .i64 A.wd) ∧ w.cell? ⟨A.f, 3, none⟩ = some (.int .i64 A.hl) ∧ A.f < w.heap.size := by
  obtain ⟨t, hr⟩ := h.head
  exact ⟨hr.cell (i := 0) (by decide), hr.cell (i := 1) (by decide), hr.cell (i := 2) (by decide), hr.cell (i := 3) (by decide), hr.lt⟩
theorem FlAt.items (h : FlAt own c w A st) (hk : k < 3) : w.cell? ⟨A.rg, k * 3, none⟩ = some (.pointer (some ⟨A.bp k, 0, none⟩)) ∧ w.cell? ⟨A.rg, k * 3 + 1, none⟩ = some (.int .i64 (st.ref k)) ∧ w.cell? ⟨A.rg, k * 3 + 2, none⟩ = some (.int .i64 (st.left k)) := by
  have h0 := h.row (k * 3) (by omega)
  have h1 := h.row (k * 3 + 1) (by omega)
  have h2 := h.row (k * 3 + 2) (by omega)
  unfold FlA.item at h0 h1 h2
  rw [if_pos (by omega), show k * 3 / 3 = k by omega] at h0
  rw [if_neg (by omega), if_pos (by omega), show (k * 3 + 1) / 3 = k by omega] at h1
  rw [if_neg (by omega), if_neg (by omega), show (k * 3 + 2) / 3 = k by omega] at h2
  exact ⟨h0, h1, h2⟩
theorem FlAt.kp (h : FlAt own c w A st) (hk : Kp own m g w w') (hi : ∀ j, 1 ≤ j → j ≤ 6 → (8 * c + j) / m ≠ g) (ho : ∀ n, n < w.heap.size → own n / 8 = c → own' n = own n) : FlAt own' c w' A st := by
  obtain ⟨t, hr⟩ := h.head
  have hf := hk.block A.f hr.lt (by rw [h.headL]; exact hi 5 (by omega) (by omega))
  have hg := hk.block A.rg h.rowLt (by rw [h.rowL]; exact hi 6 (by omega) (by omega))
  have key : ∀ j, 1 ≤ j → j ≤ 6 → ∀ n, n < w.heap.size → own n = 8 * c + j → own' n = 8 * c + j := fun j h1 h2 n hn e => by rw [ho n hn (by omega)]; exact e
  refine ⟨⟨t, hr.of_block hf⟩, key 5 (by omega) (by omega) _ hr.lt h.headL, h.rowsOf hg, key 6 (by omega) (by omega) _ h.rowLt h.rowL, h.cap, fun j hj => ?_, ?_, h.rule⟩
  · exact (h.book j hj).kp hk (by rw [Nat.add_assoc]; exact hi (1 + j) (by omega) (by omega)) (by rw [Nat.add_assoc]; exact key (1 + j) (by omega) (by omega))
  · exact h.purse.kp hk (hi 4 (by omega) (by omega)) (key 4 (by omega) (by omega))
theorem FlAt.later (h : FlAt own c w A st) (hx : Ex w w') : FlAt own c w' A st := h.kp (m := 1) (g := 8 * c + 7) (Kp.of_below hx.below) (fun j h1 h2 => by rw [Nat.div_one]; omega) (fun n _ _ => rfl)
theorem FlAt.relabel (h : FlAt own c w A st) (ho : ∀ n, n < w.heap.size → own n / 8 = c → own' n = own n) : FlAt own' c w A st := h.kp (m := 1) (g := 8 * c + 7) (Kp.refl _ _ _ _) (fun j h1 h2 => by rw [Nat.div_one]; omega) ho
/-- A cell of a block that is none of the floor's. -/
theorem FlAt.setCell (h : FlAt own c w A st) {p : Addr} (hp : own p.block / 8 ≠ c) (v : Value) : FlAt own c (w.setCell p v) A st :=
  h.kp (m := 1) (g := own p.block) ((Kp.refl own 1 (own p.block) w).setCell (fun _ => Nat.div_one _) v) (fun j h1 h2 => by rw [Nat.div_one]; omega) (fun n _ _ => rfl)
theorem Kp.group {i : Nat} (h : Kp own 1 i w w') (hi : i / 8 = c) : Kp own 8 c w w' := ⟨h.os, h.tape, h.output, h.size, fun n hn hne => h.block n hn (fun e => hne (by rw [Nat.div_one] at e; rw [e]; exact hi))⟩
theorem Kp.chain (h : Kp own 8 c w w1) (h2 : Kp o 8 c w1 w') (ho : ∀ n, n < w.heap.size → o n = own n) : Kp own 8 c w w' :=
  h.trans h2.os h2.tape h2.output h2.size fun n hn hne => h2.block n (Nat.lt_of_lt_of_le hn h.size) (by rw [ho n hn]; exact hne)
/-- One book has turned. -/
theorem FlAt.setBook (h : FlAt o c w1 A st) (hk : k < 3) {l' : List Lot} (hT : ObjTo o (8 * c + 1 + k) (8 * c + 1 + k) w1 (fun o' w' => BookAt o' (8 * c + 1 + k) w' (A.bp k) l') w') : Kp o 8 c w1 w' ∧ ∃ o2, (∀ n, n < w1.heap.size → o2 n = o n) ∧ FlAt o2 c w' A (st.setB k l') := by
  obtain ⟨q, x, rfl, hI⟩ := hT
  have hK := ov_kp w1 o 1 (8 * c + 1 + k) q x
  have hl : ∀ n, n < w1.heap.size → lab o w1.heap.size q (8 * c + 1 + k) n = o n := fun n hn => lab_lt hn
  obtain ⟨t, hr⟩ := h.head
  have hf := hK.block A.f hr.lt (by rw [h.headL, Nat.div_one]; omega)
  have hg := hK.block A.rg h.rowLt (by rw [h.rowL, Nat.div_one]; omega)
  refine ⟨hK.group (by omega), _, hl, ⟨t, hr.of_block hf⟩, by rw [hl _ hr.lt]; exact h.headL, h.rowsOf (w := w1) hg, by rw [hl _ h.rowLt]; exact h.rowL, h.cap, fun j hj => ?_, ?_, h.rule⟩
  · show BookAt _ _ _ _ (if j = k then l' else st.b j)
    by_cases e : j = k
    · subst e; rw [if_pos rfl]; exact hI
    · rw [if_neg e]
      exact (h.book j hj).kp hK (by rw [Nat.div_one]; omega) (fun n hn e => by rw [hl n hn]; exact e)
  · exact h.purse.kp hK (by rw [Nat.div_one]; omega) (fun n hn e => by rw [hl n hn]; exact e)
/-- The purse has turned. -/
theorem FlAt.setPurse (h : FlAt o c w1 A st) {P' : Pu} (hT : ObjTo o (8 * c + 4) (8 * c + 4) w1 (fun o' w' => PurseAt o' (8 * c + 4) w' A.pp P') w') : Kp o 8 c w1 w' ∧ ∃ o2, (∀ n, n < w1.heap.size → o2 n = o n) ∧ FlAt o2 c w' A (st.setP P') := by
  obtain ⟨q, x, rfl, hI⟩ := hT
  have hK := ov_kp w1 o 1 (8 * c + 4) q x
  have hl : ∀ n, n < w1.heap.size → lab o w1.heap.size q (8 * c + 4) n = o n := fun n hn => lab_lt hn
  obtain ⟨t, hr⟩ := h.head
  have hf := hK.block A.f hr.lt (by rw [h.headL, Nat.div_one]; omega)
  have hg := hK.block A.rg h.rowLt (by rw [h.rowL, Nat.div_one]; omega)
  refine ⟨hK.group (by omega), _, hl, ⟨t, hr.of_block hf⟩, by rw [hl _ hr.lt]; exact h.headL, h.rowsOf (w := w1) hg, by rw [hl _ h.rowLt]; exact h.rowL, h.cap, fun j hj => ?_, hI, h.rule⟩
  exact (h.book j hj).kp hK (by rw [Nat.div_one]; omega) (fun n hn e => by rw [hl n hn]; exact e)
/-- A band has turned. -/
theorem FlAt.setBand (h : FlAt o c w1 A st) (hk : k < 3) (r l : Int) : Kp o 8 c w1 ((w1.setCell ⟨A.rg, k * 3 + 1, none⟩ (.int .i64 r)).setCell ⟨A.rg, k * 3 + 2, none⟩ (.int .i64 l)) ∧ FlAt o c ((w1.setCell ⟨A.rg, k * 3 + 1, none⟩ (.int .i64 r)).setCell ⟨A.rg, k * 3 + 2, none⟩ (.int .i64 l)) A (st.setN k r l) := by
  have hK : Kp o 1 (8 * c + 6) w1 ((w1.setCell ⟨A.rg, k * 3 + 1, none⟩ (.int .i64 r)).setCell ⟨A.rg, k * 3 + 2, none⟩ (.int .i64 l)) :=
    ((Kp.refl o 1 (8 * c + 6) w1).setCell (fun _ => by rw [Nat.div_one]; exact h.rowL) _).setCell (fun _ => by rw [Nat.div_one]; exact h.rowL) _
  obtain ⟨t, hr⟩ := h.head
  have hf := hK.block A.f hr.lt (by rw [h.headL, Nat.div_one]; omega)
  refine ⟨hK.group (by omega), ⟨t, hr.of_block hf⟩, h.headL, ?_, h.rowL, h.cap, fun j hj => ?_, ?_, h.rule⟩
  · obtain ⟨cs, t, h1, h2⟩ := h.rows
    have e1 := heap_setCell_same w1 A.rg (k * 3 + 1) cs t (.int .i64 r) h1
    have e2 := heap_setCell_same _ A.rg (k * 3 + 2) _ t (.int .i64 l) e1
    refine ⟨_, t, e2, fun n hn => ?_⟩
    have hc := h2 n hn
    have hlt := (Array.getElem?_eq_some_iff.1 hc).1
    rw [Array.getElem?_setIfInBounds, Array.getElem?_setIfInBounds]
    by_cases e2 : k * 3 + 2 = n
    · subst e2
      rw [if_pos rfl, if_pos (by simpa using hlt)]
      unfold FlA.item
      rw [if_neg (by omega), if_neg (by omega), show (k * 3 + 2) / 3 = k by omega]
      simp [FSt.setN]
    · rw [if_neg e2]
      by_cases e1 : k * 3 + 1 = n
      · subst e1
        rw [if_pos rfl, if_pos hlt]
        unfold FlA.item
        rw [if_neg (by omega), if_pos (by omega), show (k * 3 + 1) / 3 = k by omega]
        simp [FSt.setN]
      · rw [if_neg e1, hc]
        unfold FlA.item FSt.setN
        by_cases h3 : n % 3 = 0
        · rw [if_pos h3, if_pos h3]
        · rw [if_neg h3, if_neg h3]
          by_cases h4 : n % 3 = 1
          · rw [if_pos h4, if_pos h4]
            simp only
            rw [if_neg (by omega)]
          · rw [if_neg h4, if_neg h4]
            simp only
            rw [if_neg (by omega)]
  · exact (h.book j hj).kp hK (by rw [Nat.div_one]; omega) (fun n hn e => e)
  · exact h.purse.kp hK (by rw [Nat.div_one]; omega) (fun n hn e => e)
/-- What is left of a call that turns one floor. -/
def FlG (own : Nat → Nat) (c : Nat) (w : World) (A : FlA) (st : FSt) (w' : World) : Prop := Kp own 8 c w w' ∧ ∃ o, (∀ n, n < w.heap.size → o n = own n) ∧ FlAt o c w' A st
theorem FlG.refl (h : FlAt own c w A st) : FlG own c w A st w := ⟨Kp.refl _ _ _ _, own, fun _ _ => rfl, h⟩
theorem FlG.later (h : FlG own c w A st w1) (hx : Ex w1 w') : FlG own c w A st w' := by
  obtain ⟨h1, o, h2, h3⟩ := h
  exact ⟨h1.trans hx.below.os hx.below.tape hx.below.output hx.below.size fun n hn _ => hx.below.block n (Nat.lt_of_lt_of_le hn h1.size), o, h2, h3.later hx⟩
theorem FlG.then {st' : FSt} (h : FlG own c w A st w1) (k : ∀ o, FlAt o c w1 A st → FlG o c w1 A st' w') : FlG own c w A st' w' := by
  obtain ⟨h1, o, h2, h3⟩ := h
  obtain ⟨k1, o2, k2, k3⟩ := k o h3
  exact ⟨h1.chain k1 h2, o2, fun n hn => (k2 n (Nat.lt_of_lt_of_le hn h1.size)).trans (h2 n hn), k3⟩
theorem FlG.ex {w0 : World} (hx : Ex w0 w) (h : FlG own c w A st w') : FlG own c w0 A st w' := by
  obtain ⟨h1, o, h2, h3⟩ := h
  exact ⟨(Kp.of_below hx.below).trans h1.os h1.tape h1.output h1.size fun n hn hne => h1.block n (Nat.lt_of_lt_of_le hn hx.below.size) hne, o, fun n hn => h2 n (Nat.lt_of_lt_of_le hn hx.below.size), h3⟩
theorem FlG.cells (h : FlG own c w A st w1) : w1.cell? ⟨A.f, 0, none⟩ = some (.slice (some ⟨A.rg, 0, none⟩) 3 A.cap) ∧ w1.cell? ⟨A.f, 1, none⟩ = some (.pointer (some ⟨A.pp, 0, none⟩)) ∧ w1.cell? ⟨A.f, 2, none⟩ = some (.int .i64 A.wd) ∧ w1.cell? ⟨A.f, 3, none⟩ = some (.int .i64 A.hl) ∧ A.f < w1.heap.size := by
  obtain ⟨_, _, _, h⟩ := h
  exact h.cells
theorem FlG.items (h : FlG own c w A st w1) (hk : k < 3) : w1.cell? ⟨A.rg, k * 3, none⟩ = some (.pointer (some ⟨A.bp k, 0, none⟩)) ∧ w1.cell? ⟨A.rg, k * 3 + 1, none⟩ = some (.int .i64 (st.ref k)) ∧ w1.cell? ⟨A.rg, k * 3 + 2, none⟩ = some (.int .i64 (st.left k)) ∧ A.rg < w1.heap.size := by
  obtain ⟨_, _, _, h⟩ := h
  exact ⟨(h.items hk).1, (h.items hk).2.1, (h.items hk).2.2, h.rowLt⟩
theorem FlG.pinv (h : FlG own c w A st w1) : PInv st.p := by
  obtain ⟨_, _, _, h⟩ := h
  exact h.purse.2.1
theorem FlG.size (h : FlG own c w A st w1) : w.heap.size ≤ w1.heap.size := h.1.size
variable {F : FuncId} {args : Array Value} {P : Ending → Prop} {Q : Ending → World → Prop}
theorem FlG.book (G : FlG own c w A st w1) (hk : k < 3) {l' : List Lot} (hC : ∀ o i, BookAt o i w1 (A.bp k) (st.b k) → Calls Tryd.prog F args w1 fun e w' => P e ∧ ObjTo o i i w1 (fun o' w' => BookAt o' i w' (A.bp k) l') w') :
    Calls Tryd.prog F args w1 fun e w' => P e ∧ FlG own c w A (st.setB k l') w' := by
  obtain ⟨h1, o, h2, h3⟩ := G
  refine (hC o _ (h3.book k hk)).mono fun e w' ⟨he, hT⟩ => ⟨he, ?_⟩
  obtain ⟨k1, o2, k2, k3⟩ := h3.setBook hk hT
  exact ⟨h1.chain k1 h2, o2, fun n hn => (k2 n (Nat.lt_of_lt_of_le hn h1.size)).trans (h2 n hn), k3⟩
theorem FlG.purse (G : FlG own c w A st w1) {P' : Pu} (hC : ∀ o i, PurseAt o i w1 A.pp st.p → Calls Tryd.prog F args w1 fun e w' => P e ∧ ObjTo o i i w1 (fun o' w' => PurseAt o' i w' A.pp P') w') :
    Calls Tryd.prog F args w1 fun e w' => P e ∧ FlG own c w A (st.setP P') w' := by
  obtain ⟨h1, o, h2, h3⟩ := G
  refine (hC o _ h3.purse).mono fun e w' ⟨he, hT⟩ => ⟨he, ?_⟩
  obtain ⟨k1, o2, k2, k3⟩ := h3.setPurse hT
  exact ⟨h1.chain k1 h2, o2, fun n hn => (k2 n (Nat.lt_of_lt_of_le hn h1.size)).trans (h2 n hn), k3⟩
theorem FlG.readB (G : FlG own c w A st w1) (hk : k < 3) (hC : ∀ o i, BookAt o i w1 (A.bp k) (st.b k) → Calls Tryd.prog F args w1 fun e w' => Q e w' ∧ Ex w1 w') :
    Calls Tryd.prog F args w1 fun e w' => Q e w' ∧ Ex w1 w' := by
  obtain ⟨h1, o, h2, h3⟩ := G
  exact hC o _ (h3.book k hk)
theorem FlG.readP (G : FlG own c w A st w1) (hC : ∀ o i, PurseAt o i w1 A.pp st.p → Calls Tryd.prog F args w1 fun e w' => Q e w' ∧ Ex w1 w') :
    Calls Tryd.prog F args w1 fun e w' => Q e w' ∧ Ex w1 w' := by
  obtain ⟨h1, o, h2, h3⟩ := G
  exact hC o _ h3.purse
end
end Go.Proofs.YtmbboflakfokhaaDoor

/- A floor inside a method: what has turned of it since w, and blocks (S) that are none of its own. -/
set_option linter.unusedSimpArgs false
set_option linter.unusedVariables false
namespace Go.Proofs.YtmbboflakfokhaaDoor
open Go.RowKit

/-- The blocks of S are as they were. -/
def Same (S : Nat → Prop) (W W' : World) : Prop := (∀ n, S n → W'.heap[n]? = W.heap[n]?) ∧ W.heap.size ≤ W'.heap.size
theorem Same.cell {S : Nat → Prop} {W W' : World} (h : Same S W W') {n j : Nat} (hn : S n) : W'.cell? ⟨n, j, none⟩ = W.cell? ⟨n, j, none⟩ := World.cell?_of_block (h.1 n hn)
theorem Same.refl (S : Nat → Prop) (W : World) : Same S W W := ⟨fun _ _ => rfl, Nat.le_refl _⟩
theorem Same.trans {S : Nat → Prop} {W W1 W2 : World} (h : Same S W W1) (k : Same S W1 W2) : Same S W W2 := ⟨fun n hn => (k.1 n hn).trans (h.1 n hn), Nat.le_trans h.2 k.2⟩
theorem Same.ex {S : Nat → Prop} {W W1 W2 : World} (h : Same S W W1) (hx : Ex W1 W2) (hS : ∀ n, S n → n < W1.heap.size) : Same S W W2 := ⟨fun n hn => (hx.below.block n (hS n hn)).trans (h.1 n hn), Nat.le_trans h.2 hx.below.size⟩
structure FlB (own : Nat → Nat) (c : Nat) (w : World) (A : FlA) (st : FSt) (S : Nat → Prop) (W : World) : Prop where
  kp : Kp own 8 c w W
  lab : ∃ o, FlAt o c W A st ∧ (∀ n, W.heap.size ≤ n → o n / 8 ≠ c) ∧ (∀ n, S n → n < W.heap.size ∧ o n / 8 ≠ c) ∧ ∀ n, n < w.heap.size → o n = own n
section
variable {own : Nat → Nat} {c k : Nat} {w W W' : World} {A : FlA} {st : FSt} {S S' : Nat → Prop}
/-- Labels that are the floor's only where blocks are. -/
def tight (o : Nat → Nat) (c z : Nat) : Nat → Nat := fun n => if n < z then o n else 8 * c + 8
theorem tight_lt {o : Nat → Nat} {c z n : Nat} (h : n < z) : tight o c z n = o n := if_pos h
theorem tight_ge {o : Nat → Nat} {c z n : Nat} (h : z ≤ n) : tight o c z n / 8 ≠ c := by unfold tight; rw [if_neg (by omega)]; omega
theorem FlB.start (h : FlAt own c w A st) (hS : ∀ n, S n → n < w.heap.size ∧ own n / 8 ≠ c) : FlB own c w A st S w :=
  ⟨Kp.refl _ _ _ _, tight own c w.heap.size, h.relabel (fun n hn _ => tight_lt hn), fun n hn => tight_ge hn, fun n hn => ⟨(hS n hn).1, by rw [tight_lt (hS n hn).1]; exact (hS n hn).2⟩, fun n hn => tight_lt hn⟩
theorem FlB.more (G : FlB own c w A st S W) (hx : Ex W W') (hS : ∀ n, S' n → S n ∨ (W.heap.size ≤ n ∧ n < W'.heap.size)) : FlB own c w A st S' W' := by
  obtain ⟨h1, o, h2, h3, h4, h5⟩ := G
  have hz := hx.below.size
  refine ⟨h1.trans hx.below.os hx.below.tape hx.below.output hz fun n hn _ => hx.below.block n (Nat.lt_of_lt_of_le hn h1.size), o, h2.later hx, fun n hn => h3 n (Nat.le_trans hz hn), fun n hn => ?_, h5⟩
  rcases hS n hn with h | ⟨h, h'⟩
  · exact ⟨Nat.lt_of_lt_of_le (h4 n h).1 hz, (h4 n h).2⟩
  · exact ⟨h', h3 n h⟩
theorem FlB.later (G : FlB own c w A st S W) (hx : Ex W W') : FlB own c w A st S W' := G.more hx fun _ h => .inl h
theorem FlB.less (G : FlB own c w A st S W) (hS : ∀ n, S' n → S n) : FlB own c w A st S' W := G.more (Ex.refl _) fun n h => .inl (hS n h)
theorem FlB.out (G : FlB own c w A st S W) : FlG own c w A st W := by
  obtain ⟨h1, o, h2, _, _, h5⟩ := G
  exact ⟨h1, o, h5, h2⟩
theorem FlB.at (G : FlB own c w A st S W) : ∃ o, FlAt o c W A st := by
  obtain ⟨h1, o, h2, _⟩ := G
  exact ⟨o, h2⟩
theorem FlB.lt (G : FlB own c w A st S W) {n : Nat} (hn : S n) : n < W.heap.size := by
  obtain ⟨h1, o, h2, _, h4, _⟩ := G
  exact (h4 n hn).1
theorem FlB.size (G : FlB own c w A st S W) : w.heap.size ≤ W.heap.size := G.kp.size
theorem FlB.cells (G : FlB own c w A st S W) : W.cell? ⟨A.f, 0, none⟩ = some (.slice (some ⟨A.rg, 0, none⟩) 3 A.cap) ∧ W.cell? ⟨A.f, 1, none⟩ = some (.pointer (some ⟨A.pp, 0, none⟩)) ∧ W.cell? ⟨A.f, 2, none⟩ = some (.int .i64 A.wd) ∧ W.cell? ⟨A.f, 3, none⟩ = some (.int .i64 A.hl) ∧ A.f < W.heap.size := G.out.cells
theorem FlB.items (G : FlB own c w A st S W) (hk : k < 3) : W.cell? ⟨A.rg, k * 3, none⟩ = some (.pointer (some ⟨A.bp k, 0, none⟩)) ∧ W.cell? ⟨A.rg, k * 3 + 1, none⟩ = some (.int .i64 (st.ref k)) ∧ W.cell? ⟨A.rg, k * 3 + 2, none⟩ = some (.int .i64 (st.left k)) ∧ A.rg < W.heap.size := G.out.items hk
theorem FlB.pinv (G : FlB own c w A st S W) : PInv st.p := G.out.pinv
theorem FlB.turn {st' : FSt} (G : FlB own c w A st S W) (k : ∀ o, FlAt o c W A st → Kp o 8 c W W' ∧ ∃ o2, (∀ n, n < W.heap.size → o2 n = o n) ∧ FlAt o2 c W' A st') : FlB own c w A st' S W' ∧ Same S W W' := by
  obtain ⟨h1, o, h2, h3, h4, h5⟩ := G
  obtain ⟨k1, o2, k2, k3⟩ := k o h2
  refine ⟨⟨h1.chain k1 h5, tight o2 c W'.heap.size, k3.relabel (fun n hn _ => tight_lt hn), fun n hn => tight_ge hn, fun n hn => ?_, fun n hn => ?_⟩, fun n hn => k1.block n (h4 n hn).1 (h4 n hn).2, k1.size⟩
  · have hlt := Nat.lt_of_lt_of_le (h4 n hn).1 k1.size
    refine ⟨hlt, ?_⟩
    rw [tight_lt hlt, k2 n (h4 n hn).1]
    exact (h4 n hn).2
  · have hlt := Nat.lt_of_lt_of_le hn h1.size
    rw [tight_lt (Nat.lt_of_lt_of_le hlt k1.size), k2 n hlt]
    exact h5 n hn
/-- A call that turned the floor. -/
theorem FlB.call {st' : FSt} {F : FuncId} {args : Array Value} {P : Ending → Prop} (G : FlB own c w A st S W) (hC : ∀ o, FlAt o c W A st → Calls Tryd.prog F args W fun e w' => P e ∧ FlG o c W A st' w') :
    Calls Tryd.prog F args W fun e w' => P e ∧ FlB own c w A st' S w' ∧ Same S W w' := by
  obtain ⟨h1, o, h2, h3, h4, h5⟩ := G
  refine (hC o h2).mono fun e w' ⟨he, hT⟩ => ⟨he, ?_⟩
  obtain ⟨k1, o2, k2, k3⟩ := hT
  refine ⟨⟨h1.chain k1 h5, tight o2 c w'.heap.size, k3.relabel (fun n hn _ => tight_lt hn), fun n hn => tight_ge hn, fun n hn => ?_, fun n hn => ?_⟩, fun n hn => k1.block n (h4 n hn).1 (h4 n hn).2, k1.size⟩
  · have hlt := Nat.lt_of_lt_of_le (h4 n hn).1 k1.size
    refine ⟨hlt, ?_⟩
    rw [tight_lt hlt, k2 n (h4 n hn).1]
    exact (h4 n hn).2
  · have hlt := Nat.lt_of_lt_of_le hn h1.size
    rw [tight_lt (Nat.lt_of_lt_of_le hlt k1.size), k2 n hlt]
    exact h5 n hn
theorem FlB.book {l' : List Lot} {F : FuncId} {args : Array Value} {P : Ending → Prop} (G : FlB own c w A st S W) (hk : k < 3) (hC : ∀ o i, BookAt o i W (A.bp k) (st.b k) → Calls Tryd.prog F args W fun e w' => P e ∧ ObjTo o i i W (fun o' w' => BookAt o' i w' (A.bp k) l') w') :
    Calls Tryd.prog F args W fun e w' => P e ∧ FlB own c w A (st.setB k l') S w' ∧ Same S W w' :=
  G.call fun o h => (hC o _ (h.book k hk)).mono fun e w' ⟨he, hT⟩ => ⟨he, h.setBook hk hT⟩
theorem FlB.purse {P' : Pu} {F : FuncId} {args : Array Value} {P : Ending → Prop} (G : FlB own c w A st S W) (hC : ∀ o i, PurseAt o i W A.pp st.p → Calls Tryd.prog F args W fun e w' => P e ∧ ObjTo o i i W (fun o' w' => PurseAt o' i w' A.pp P') w') :
    Calls Tryd.prog F args W fun e w' => P e ∧ FlB own c w A (st.setP P') S w' ∧ Same S W w' :=
  G.call fun o h => (hC o _ h.purse).mono fun e w' ⟨he, hT⟩ => ⟨he, h.setPurse hT⟩
theorem FlB.readB {F : FuncId} {args : Array Value} {Q : Ending → World → Prop} (G : FlB own c w A st S W) (hk : k < 3) (hC : ∀ o i, BookAt o i W (A.bp k) (st.b k) → Calls Tryd.prog F args W fun e w' => Q e w' ∧ Ex W w') :
    Calls Tryd.prog F args W fun e w' => Q e w' ∧ Ex W w' := G.out.readB hk hC
theorem FlB.readP {F : FuncId} {args : Array Value} {Q : Ending → World → Prop} (G : FlB own c w A st S W) (hC : ∀ o i, PurseAt o i W A.pp st.p → Calls Tryd.prog F args W fun e w' => Q e w' ∧ Ex W w') :
    Calls Tryd.prog F args W fun e w' => Q e w' ∧ Ex W w' := G.out.readP hC
theorem FlB.band (G : FlB own c w A st S W) (hk : k < 3) (r l : Int) :
    FlB own c w A (st.setN k r l) S ((W.setCell ⟨A.rg, k * 3 + 1, none⟩ (.int .i64 r)).setCell ⟨A.rg, k * 3 + 2, none⟩ (.int .i64 l)) ∧ Same S W ((W.setCell ⟨A.rg, k * 3 + 1, none⟩ (.int .i64 r)).setCell ⟨A.rg, k * 3 + 2, none⟩ (.int .i64 l)) :=
  G.turn fun o h => ⟨(h.setBand hk r l).1, o, fun _ _ => rfl, (h.setBand hk r l).2⟩
/-- A block of S has turned, and there may be new ones. -/
theorem FlB.grown {row : Option Nat} (G : FlB own c w A st S W) (hg : W.grownBy W' row) (hr : ∀ b, row = some b → S b ∧ w.heap.size ≤ b) (hS : ∀ n, S' n → S n ∨ (W.heap.size ≤ n ∧ n < W'.heap.size)) : FlB own c w A st S' W' := by
  obtain ⟨h1, o, h2, h3, h4, h5⟩ := G
  have hz := hg.size
  obtain ⟨g, hgc, hgr⟩ : ∃ g, g ≠ c ∧ ∀ n, row = some n → o n / 8 = g := by
    cases row with
    | none => exact ⟨c + 1, by omega, fun n hn => by cases hn⟩
    | some b => exact ⟨o b / 8, (h4 b (hr b rfl).1).2, fun n hn => by cases hn; rfl⟩
  refine ⟨h1.trans hg.os hg.tape hg.output hz fun n hn hne => hg.block n (Nat.lt_of_lt_of_le hn h1.size) fun e => by have := (hr n e.symm).2; omega, o, ?_, fun n hn => h3 n (Nat.le_trans hz hn), fun n hn => ?_, h5⟩
  · exact h2.kp (m := 8) (g := g) (own' := o) ⟨hg.os, hg.tape, hg.output, hz, fun n hn e => hg.block n hn fun e2 => e (hgr n e2.symm)⟩ (fun j a b => by omega) (fun _ _ _ => rfl)
  · rcases hS n hn with h | ⟨h, h'⟩
    · exact ⟨Nat.lt_of_lt_of_le (h4 n h).1 hz, (h4 n h).2⟩
    · exact ⟨h', h3 n h⟩
end
end Go.Proofs.YtmbboflakfokhaaDoor
