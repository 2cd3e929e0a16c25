import Derived.Test.YtmbboflakfokhaaDoorJ28
import Derived.Test.YtmbboflakfokhaaDoorJ37
import Derived.Test.YtmbboflakfokhaaDoorJ1
import Derived.Laws.IdiomArrays
import Derived.Test.YtmbboflakfokhaaDoorJ12
/- What a batch leaves, as the law BatchFair asks for it. -/
set_option linter.unusedSimpArgs false
set_option linter.unusedVariables false
namespace Go.Proofs.YtmbboflakfokhaaDoor
open Go.RowKit

theorem net_sum (g : Int → Int) : ∀ l : List Lot, (∀ x ∈ l, x.ok = true) → netZ g 0 l + netZ g 1 l + netZ g 2 l + netZ g 3 l + netZ g 4 l + netZ g 5 l = sumG (fun x => g x.id) 0 l - sumG (fun x => g x.id) 1 l
  | [], _ => rfl
  | x :: l, h => by
    have ih := net_sum g l fun y hy => h y (by simp [hy])
    obtain ⟨_, ho, hs, _⟩ := Lot.ok_iff.1 (h x (by simp))
    have e : ∀ c, netZ g c (x :: l) = netF g c x + netZ g c l := fun c => rfl
    have f : ∀ s, sumG (fun x => g x.id) s (x :: l) = (if x.side = s then g x.id else 0) + sumG (fun x => g x.id) s l := fun s => rfl
    have d : netF g 0 x + netF g 1 x + netF g 2 x + netF g 3 x + netF g 4 x + netF g 5 x = (if x.side = 0 then g x.id else 0) - (if x.side = 1 then g x.id else 0) := by
      have h1 : x.owner = 0 ∨ x.owner = 1 ∨ x.owner = 2 ∨ x.owner = 3 ∨ x.owner = 4 ∨ x.owner = 5 := by omega
      have h2 : x.side = 0 ∨ x.side = 1 := by omega
      unfold netF
      rcases h1 with e1 | e1 | e1 | e1 | e1 | e1 <;> rcases h2 with e2 | e2 <;> rw [e1, e2] <;> simp
    rw [e, e, e, e, e, e, f, f]
    omega
theorem netZ_take (g : Int → Int) (c : Int) {l : List Lot} {k : Nat} {x : Lot} (h : l[k]? = some x) : netZ g c (l.take (k + 1)) = netZ g c (l.take k) + netF g c x := by
  unfold netZ
  rw [List.take_add_one, h, sumZ_append]
  simp [sumZ]
theorem netZ_bounds {g : Int → Int} {c : Int} : ∀ (l : List Lot), (∀ x ∈ l, 0 ≤ g x.id ∧ g x.id ≤ 1000) → -(1000 * (l.length : Int)) ≤ netZ g c l ∧ netZ g c l ≤ 1000 * l.length
  | [], _ => by simp [netZ, sumZ]
  | x :: l, h => by
    have ih := netZ_bounds (g := g) (c := c) l fun y hy => h y (by simp [hy])
    have hx := h x (by simp)
    have e : netZ g c (x :: l) = netF g c x + netZ g c l := rfl
    have d : - 1000 ≤ netF g c x ∧ netF g c x ≤ 1000 := by
      unfold netF
      (repeat' split) <;> omega
    rw [e]
    simp only [List.length_cons]
    omega
/-- What Run's fills are: fair at its price. -/
theorem run_fair {st : FSt} {k : Nat} {wd hl : Int} (h : FOk st) (hk : k < 3) (seed : Int) : ∃ v, Fair (st.b k) (runR st k wd hl seed).price v (runR st k wd hl seed).fills := by
  obtain ⟨b0, b1, b2⟩ := best_facts (h.book k hk).lots (st.ref k)
  by_cases ho : (nextN st k wd hl).2.2 = true ∧ (bestC (st.b k) (st.ref k) 1000).vol ≠ 0
  · have hF : (runR st k wd hl seed).fills = fillsL (st.b k) (bestC (st.b k) (st.ref k) 1000).price (bestC (st.b k) (st.ref k) 1000).vol seed := if_pos ho
    obtain ⟨c1, c2⟩ := b1 (by omega)
    rw [hF]
    exact ⟨_, fills_fair (seed := seed) (h.book k hk).lots b0 (Int.le_of_eq c2)⟩
  · have hF : (runR st k wd hl seed).fills = [] := if_neg ho
    rw [hF]
    refine ⟨0, ⟨fun f hf => (by cases hf), fun x hx => ?_, fun x hx _ => rfl, fun x hx y hy _ _ h0 => ?_, sumG_zero 0 _, sumG_zero 1 _⟩⟩
    · have := (Lot.ok_iff.1 ((h.book k hk).ok x hx)).2.2.2.2
      show 0 ≤ (0 : Int) ∧ (0 : Int) ≤ x.qty
      omega
    · exact absurd h0 (by show ¬ (0 : Int) < 0; omega)
/-- What the law reads of the floor behind the batch. -/
structure FairR (k : Nat) (price : Int) (st st' : FSt) (F : List Fil) : Prop where
  qty : ∀ f ∈ F, 1 ≤ f.qty ∧ f.qty ≤ 1000
  pr : 0 < F.length → 1 ≤ price ∧ price ≤ 1000
  bd : ∀ x ∈ st.b k, 0 ≤ gotF F x.id ∧ gotF F x.id ≤ x.qty
  rest : ∀ x ∈ st.b k, (getR (st'.b k) x.id).1.qty + gotF F x.id = x.qty ∧ (getR (st'.b k) x.id).2 = decide (gotF F x.id < x.qty)
  buy : ∀ x ∈ st.b k, 0 < gotF F x.id → x.side = 0 → price ≤ x.price
  sell : ∀ x ∈ st.b k, 0 < gotF F x.id → x.side = 1 → x.price ≤ price
  total : ∀ j, j = 0 ∨ j = 2 ∨ j = 3 ∨ j = 4 → sumP st'.p j = sumP st.p j
  cash : ∀ c : Nat, c < 6 → st'.p c 0 = st.p c 0 - price * netZ (gotF F) c (st.b k)
  stock : ∀ c : Nat, c < 6 → st'.p c (2 + k) = st.p c (2 + k) + netZ (gotF F) c (st.b k)
theorem run_fairR {st : FSt} {k : Nat} {wd hl : Int} (h : FOk st) (hp : PInv st.p) (hk : k < 3) (h2 : 1 ≤ hl ∧ hl ≤ 1000) (seed : Int) : FairR k (runR st k wd hl seed).price st (runS st k wd hl seed) (runR st k wd hl seed).fills := by
  obtain ⟨f1, f2, f3⟩ := run_facts (wd := wd) h hp hk h2 seed
  obtain ⟨v, hF⟩ := run_fair (wd := wd) (hl := hl) h hk seed
  have hpr : 0 < (runR st k wd hl seed).fills.length → 1 ≤ (runR st k wd hl seed).price ∧ (runR st k wd hl seed).price ≤ 1000 := fun h0 => by
    obtain ⟨b0, b1, b2⟩ := best_facts (h.book k hk).lots (st.ref k)
    by_cases ho : (nextN st k wd hl).2.2 = true ∧ (bestC (st.b k) (st.ref k) 1000).vol ≠ 0
    · exact (b1 (by omega)).1
    · have hF : (runR st k wd hl seed).fills = [] := if_neg ho
      rw [hF] at h0
      exact absurd h0 (by simp)
  generalize (runR st k wd hl seed).price = price at *
  generalize (runR st k wd hl seed).fills = F at *
  generalize runS st k wd hl seed = st' at *
  have hb := h.book k hk
  have hb' := f1.book k hk
  have hnet := net_sum (gotF F) (st.b k) hb.ok
  rw [hF.sum0, hF.sum1] at hnet
  have s0 : (st.setN k (nextN st k wd hl).1 (nextN st k wd hl).2.1).b k = st.b k := rfl
  have hcash : ∀ c : Nat, c < 6 → st'.p c 0 = st.p c 0 - price * netZ (gotF F) c (st.b k) := fun c hc => f3.cash c hc
  have hstock : ∀ c : Nat, c < 6 → ∀ j, j < 3 → st'.p c (2 + j) = st.p c (2 + j) + if j = k then netZ (gotF F) c (st.b k) else 0 := fun c hc j hj => f3.stock c hc j hj
  refine ⟨hF.qty, hpr, hF.bd, fun x hx => ?_, fun x hx h0 hs => ?_, fun x hx h0 hs => ?_, fun j hj => ?_, hcash, fun c hc => ?_⟩
  · by_cases hlt : gotF F x.id < x.qty
    · have hm : x.less (gotF F x.id) ∈ st'.b k := (f3.mem _).2 ⟨x, hx, hlt, rfl⟩
      have hg := getR_mem hb'.apart hm
      rw [show (x.less (gotF F x.id)).id = x.id from rfl] at hg
      rw [hg]
      exact ⟨by show x.qty - gotF F x.id + gotF F x.id = x.qty; omega, by simp [hlt]⟩
    · have hbd := hF.bd x hx
      rcases getR_cases (st'.b k) x.id with ⟨z, hz, hid, _⟩ | ⟨_, hg⟩
      · obtain ⟨y, hy, hy2, rfl⟩ := (f3.mem z).1 hz
        have e : y = x := hb.apart.eq hy hx hid
        subst e
        exact absurd hy2 hlt
      · rw [hg]
        exact ⟨by show 0 + gotF F x.id = x.qty; omega, by simp [hlt]⟩
  · by_cases hm : mayT x.side price x = false
    · have := hF.worse x hx hm; omega
    · rw [hs] at hm
      unfold mayT at hm
      simp [hs] at hm
      omega
  · by_cases hm : mayT x.side price x = false
    · have := hF.worse x hx hm; omega
    · rw [hs] at hm
      unfold mayT at hm
      simp [hs] at hm
      omega
  · have n0 : price * netZ (gotF F) 0 (st.b k) + price * netZ (gotF F) 1 (st.b k) + price * netZ (gotF F) 2 (st.b k) + price * netZ (gotF F) 3 (st.b k) + price * netZ (gotF F) 4 (st.b k) + price * netZ (gotF F) 5 (st.b k) = 0 := by
      rw [← Int.mul_add, ← Int.mul_add, ← Int.mul_add, ← Int.mul_add, ← Int.mul_add, hnet]
      simp
    have hst : ∀ j, j < 3 → sumP st'.p (2 + j) = sumP st.p (2 + j) := fun j hj => by
      have t0 : st'.p 0 (2 + j) = st.p 0 (2 + j) + if j = k then netZ (gotF F) 0 (st.b k) else 0 := hstock 0 (by omega) j hj
      have t1 : st'.p 1 (2 + j) = st.p 1 (2 + j) + if j = k then netZ (gotF F) 1 (st.b k) else 0 := hstock 1 (by omega) j hj
      have t2 : st'.p 2 (2 + j) = st.p 2 (2 + j) + if j = k then netZ (gotF F) 2 (st.b k) else 0 := hstock 2 (by omega) j hj
      have t3 : st'.p 3 (2 + j) = st.p 3 (2 + j) + if j = k then netZ (gotF F) 3 (st.b k) else 0 := hstock 3 (by omega) j hj
      have t4 : st'.p 4 (2 + j) = st.p 4 (2 + j) + if j = k then netZ (gotF F) 4 (st.b k) else 0 := hstock 4 (by omega) j hj
      have t5 : st'.p 5 (2 + j) = st.p 5 (2 + j) + if j = k then netZ (gotF F) 5 (st.b k) else 0 := hstock 5 (by omega) j hj
      unfold sumP
      by_cases e : j = k
      · simp only [if_pos e] at t0 t1 t2 t3 t4 t5
        omega
      · simp only [if_neg e] at t0 t1 t2 t3 t4 t5
        omega
    rcases hj with rfl | rfl | rfl | rfl
    · have q0 : st'.p 0 0 = st.p 0 0 - price * netZ (gotF F) 0 (st.b k) := hcash 0 (by omega)
      have q1 : st'.p 1 0 = st.p 1 0 - price * netZ (gotF F) 1 (st.b k) := hcash 1 (by omega)
      have q2 : st'.p 2 0 = st.p 2 0 - price * netZ (gotF F) 2 (st.b k) := hcash 2 (by omega)
      have q3 : st'.p 3 0 = st.p 3 0 - price * netZ (gotF F) 3 (st.b k) := hcash 3 (by omega)
      have q4 : st'.p 4 0 = st.p 4 0 - price * netZ (gotF F) 4 (st.b k) := hcash 4 (by omega)
      have q5 : st'.p 5 0 = st.p 5 0 - price * netZ (gotF F) 5 (st.b k) := hcash 5 (by omega)
      unfold sumP
      omega
    · exact hst 0 (by omega)
    · exact hst 1 (by omega)
    · exact hst 2 (by omega)
  · have := hstock c hc k hk
    rw [if_pos rfl] at this
    exact this
end Go.Proofs.YtmbboflakfokhaaDoor

/- How the row's arguments read: slices of acts of purses. -/
set_option linter.unusedSimpArgs false
set_option linter.unusedVariables false
namespace Go.Proofs.YtmbboflakfokhaaDoor
open Go.ChangeShapes Go.WideShapes Go.ChangeAt Go.RowKit Go.Deep


/-- An array of three numbers. -/
structure Tri where
  x : Int
  y : Int
  z : Int
  deriving DecidableEq
def Tri.cells (a : Tri) : List Value := [.int .i64 a.x, .int .i64 a.y, .int .i64 a.z]
abbrev Tri.val (a : Tri) : Value := .agg #[.int .i64 a.x, .int .i64 a.y, .int .i64 a.z]
def Tri.wf (a : Tri) : Prop := (Lit.int .i64 a.x).wf = true ∧ (Lit.int .i64 a.y).wf = true ∧ (Lit.int .i64 a.z).wf = true
set_option maxRecDepth 100000 in
theorem tri_of_trod {H : Type} {enc : TypeId × Value → H} {w : World} {base : Nat} {spare : Nat → Bool} {held : Bool} {n : Nat} {cs : List Value} {y : DataW H × List MemPlace} (h : DataW.trod enc Tryd.prog w base spare held n 41 cs = some y) : ∃ a : Tri, a.wf ∧ cs = a.cells := by
  have hcN : Tryd.prog.cellsOf 41 = 3 := by kernel_rfl
  have hc1 : Tryd.prog.cellsOf 3 = 1 := by kernel_rfl
  obtain ⟨_, _, _, _, hlen, _, _⟩ := DataW.trod_array Tryd.underlying41 h
  rw [hcN] at hlen
  match cs, hlen with
  | [c0, c1, c2], _ =>
    obtain ⟨y0, y1, y2, m, _, g0, g1, g2⟩ := trod_array3 Tryd.underlying41 hc1 h
    obtain ⟨x0, e0, _, w0⟩ := DataW.trod_int Tryd.underlying3 g0
    obtain ⟨x1, e1, _, w1⟩ := DataW.trod_int Tryd.underlying3 g1
    obtain ⟨x2, e2, _, w2⟩ := DataW.trod_int Tryd.underlying3 g2
    simp at e0 e1 e2
    subst e0 e1 e2
    exact ⟨⟨x0, x1, x2⟩, ⟨w0, w1, w2⟩, rfl⟩

structure Pay where
  kind : ByteArray
  client : Int
  cash : Int
  stock : Tri
  item : Int
  a : Lot
  b : Lot
  price : Int
  qty : Int
  deriving DecidableEq
def Pay.cells (a : Pay) : List Value := [.string a.kind, .int .i64 a.client, .int .i64 a.cash, .int .i64 a.stock.x, .int .i64 a.stock.y, .int .i64 a.stock.z, .int .i64 a.item, .int .i64 a.a.id, .int .i64 a.a.owner, .int .i64 a.a.side, .int .i64 a.a.price, .int .i64 a.a.qty, .int .i64 a.b.id, .int .i64 a.b.owner, .int .i64 a.b.side, .int .i64 a.b.price, .int .i64 a.b.qty, .int .i64 a.price, .int .i64 a.qty]
abbrev Pay.val (a : Pay) : Value := .agg #[.string a.kind, .int .i64 a.client, .int .i64 a.cash, .agg #[.int .i64 a.stock.x, .int .i64 a.stock.y, .int .i64 a.stock.z], .int .i64 a.item, .agg #[.int .i64 a.a.id, .int .i64 a.a.owner, .int .i64 a.a.side, .int .i64 a.a.price, .int .i64 a.a.qty], .agg #[.int .i64 a.b.id, .int .i64 a.b.owner, .int .i64 a.b.side, .int .i64 a.b.price, .int .i64 a.b.qty], .int .i64 a.price, .int .i64 a.qty]
def Pay.wf (a : Pay) : Prop := a.kind.size ≤ maxLen ∧ (Lit.int .i64 a.client).wf = true ∧ (Lit.int .i64 a.cash).wf = true ∧ a.stock.wf ∧ (Lit.int .i64 a.item).wf = true ∧ a.a.wf ∧ a.b.wf ∧ (Lit.int .i64 a.price).wf = true ∧ (Lit.int .i64 a.qty).wf = true
/-- A slice of Pays that can be read. -/
def PaysAt (w : World) (ao : Option Addr) (len : Nat) (l : List Pay) : Prop :=
  l.length = len ∧ len ≤ 9223372036854775807 ∧ (∀ a ∈ l, a.wf) ∧
    (0 < len → ∃ b off, ao = some ⟨b, off, none⟩ ∧ b < w.heap.size ∧ ∀ k (h : k < l.length) j, j < 19 → w.cell? ⟨b, off + k * 19 + j, none⟩ = l[k].cells[j]?)
end Go.Proofs.YtmbboflakfokhaaDoor

/- What Total of package purse computes. -/
set_option linter.unusedSimpArgs false
set_option linter.unusedVariables false
namespace Go.Proofs.YtmbboflakfokhaaDoor
open Go.RowKit

/-- Three numbers in one block. -/
def TriAt (w : World) (b : Nat) (x y z : Int) : Prop := w.heap[b]? = some (.cells #[.int .i64 x, .int .i64 y, .int .i64 z] 41 (0, 0))
theorem TriAt.lt {w : World} {b : Nat} {x y z : Int} (h : TriAt w b x y z) : b < w.heap.size := (Array.getElem?_eq_some_iff.1 h).1
theorem TriAt.cell0 {w : World} {b : Nat} {x y z : Int} (h : TriAt w b x y z) : w.cell? ⟨b, 0, none⟩ = some (.int .i64 x) := by simp [World.cell?, show w.heap[b]? = _ from h]
theorem TriAt.cell1 {w : World} {b : Nat} {x y z : Int} (h : TriAt w b x y z) : w.cell? ⟨b, 1, none⟩ = some (.int .i64 y) := by simp [World.cell?, show w.heap[b]? = _ from h]
theorem TriAt.cell2 {w : World} {b : Nat} {x y z : Int} (h : TriAt w b x y z) : w.cell? ⟨b, 2, none⟩ = some (.int .i64 z) := by simp [World.cell?, show w.heap[b]? = _ from h]
theorem TriAt.frozen {w : World} {b : Nat} {x y z : Int} (h : TriAt w b x y z) (i : Nat) : w.frozen? ⟨b, i, none⟩ = false := by simp [World.frozen?, show w.heap[b]? = _ from h]
theorem TriAt.block {w w' : World} {b : Nat} {x y z : Int} (h : TriAt w b x y z) (hb : w'.heap[b]? = w.heap[b]?) : TriAt w' b x y z := hb.trans h
theorem TriAt.ex {w w' : World} {b : Nat} {x y z : Int} (h : TriAt w b x y z) (hx : Ex w w') : TriAt w' b x y z := by
  obtain ⟨l, d, rfl⟩ := hx
  exact h.block (by show (w.heap ++ l.toArray)[b]? = _; rw [Array.getElem?_append_left h.lt])
theorem TriAt.set0 {w : World} {b : Nat} {x y z : Int} (h : TriAt w b x y z) (v : Int) : TriAt (w.setCell ⟨b, 0, none⟩ (.int .i64 v)) b v y z := by
  have := heap_setCell_same w b 0 _ _ (.int .i64 v) h
  simpa [TriAt] using this
theorem TriAt.set1 {w : World} {b : Nat} {x y z : Int} (h : TriAt w b x y z) (v : Int) : TriAt (w.setCell ⟨b, 1, none⟩ (.int .i64 v)) b x v z := by
  have := heap_setCell_same w b 1 _ _ (.int .i64 v) h
  simpa [TriAt] using this
theorem TriAt.set2 {w : World} {b : Nat} {x y z : Int} (h : TriAt w b x y z) (v : Int) : TriAt (w.setCell ⟨b, 2, none⟩ (.int .i64 v)) b x y v := by
  have := heap_setCell_same w b 2 _ _ (.int .i64 v) h
  simpa [TriAt] using this

/-- What the first clients have of one thing. -/
def psum (P : Pu) (j : Nat) : Nat → Int
  | 0 => 0
  | k + 1 => psum P j k + P k j
theorem psum6 (P : Pu) (j : Nat) : psum P j 6 = sumP P j := by simp [psum, sumP]
theorem psum_bd {P : Pu} (h : PInv P) : ∀ k, k ≤ 6 → (0 ≤ psum P 0 k ∧ psum P 0 k ≤ 1099511627776 * (k : Int)) ∧ (0 ≤ psum P 2 k ∧ psum P 2 k ≤ 1073741824 * (k : Int)) ∧ (0 ≤ psum P 3 k ∧ psum P 3 k ≤ 1073741824 * (k : Int)) ∧ (0 ≤ psum P 4 k ∧ psum P 4 k ≤ 1073741824 * (k : Int))
  | 0, _ => by simp [psum]
  | k + 1, hk => by
    have ih := psum_bd h k (by omega)
    obtain ⟨a1, a2, a3, a4⟩ := h k (by omega)
    have b0 := a4 0 (by omega)
    have b1 := a4 1 (by omega)
    have b2 := a4 2 (by omega)
    simp only [Nat.reduceAdd] at b0 b1 b2
    simp only [psum]
    omega

def sel (q i : Nat) (d : Int) : Int := if i < q then d else 0
theorem sizeHas6 : (Tryd.prog.info? 72).map (·.size) = some 48 := by kernel_rfl
/-- All that all clients have, as cells. -/
def puCells (P : Pu) : Array Value := ((List.range 48).map fun n => Value.int .i64 (P (n / 8) (n % 8))).toArray
set_option maxRecDepth 100000 in
theorem puIndex (P : Pu) (w : World) : ∀ k : Nat, k < 6 → (Instr.index 72 (.agg (puCells P)) (.int .i64 (k : Int))).run Tryd.prog w = .ok (hasV P k) w
  | 0, _ => by kernel_rfl
  | 1, _ => by kernel_rfl
  | 2, _ => by kernel_rfl
  | 3, _ => by kernel_rfl
  | 4, _ => by kernel_rfl
  | 5, _ => by kernel_rfl
theorem triIndex (x y z : Int) (w : World) : (Instr.index 41 (.agg #[.int .i64 x, .int .i64 y, .int .i64 z]) (.int .i64 0)).run Tryd.prog w = .ok (.int .i64 x) w ∧ (Instr.index 41 (.agg #[.int .i64 x, .int .i64 y, .int .i64 z]) (.int .i64 1)).run Tryd.prog w = .ok (.int .i64 y) w ∧ (Instr.index 41 (.agg #[.int .i64 x, .int .i64 y, .int .i64 z]) (.int .i64 2)).run Tryd.prog w = .ok (.int .i64 z) w := ⟨by kernel_rfl, by kernel_rfl, by kernel_rfl⟩
section
variable {own : Nat → Nat} {i : Nat} {w : World} {p : Nat} {P : Pu}
theorem PurseAt.row (h : PurseAt own i w p P) : ∃ t, w.heap[p]? = some (.cells (puCells P) t (0, 0)) := by
  obtain ⟨_, _, t, cs, hg, hn, hc⟩ := h
  refine ⟨t, ?_⟩
  rw [hg]
  congr 2
  apply Array.ext_getElem?
  intro k
  by_cases hk : k < 48
  · rw [hc k hk]
    simp [puCells, hk]
  · rw [Array.getElem?_eq_none (by omega), Array.getElem?_eq_none (by simp [puCells]; omega)]
set_option maxRecDepth 100000 in
set_option maxHeartbeats 4000000 in
theorem ptotal_any (h : PurseAt own i w p P) : Calls Tryd.prog 13 #[.pointer (some ⟨p, 0, none⟩)] w fun e w' => e = .returned (.tuple #[.int .i64 (sumP P 0), .agg #[.int .i64 (sumP P 2), .int .i64 (sumP P 3), .int .i64 (sumP P 4)]]) ∧ Ex w w' := by
  have hp := h.lt
  have HI := Lib.hid h.2.1
  obtain ⟨t, hg⟩ := h.row
  have hs : (Tryd.prog.info? 72).map (·.size) = some (puCells P).size := by rw [sizeHas6]; simp [puCells]
  have HX := Lib.hid (puIndex P)
  have HG := Lib.hid hg
  have HS := Lib.hid hs
  have h6 := fun j => Lib.hid (psum6 P j)
  clear h hg hs
  generalize puCells P = cs at *
  go_enter Tryd.func13, Tryd.ntmps13
  go_wp2_with (refine wpList_load_row rfl 72 (.tmp 10) rfl p rfl t cs (0, 0) _ (by first | exact HG.out | (rw [Below.heap_alloc _ _ _ hp]; exact HG.out)) Tryd.underlying72 rfl HS.out ?_)
  go_loopw [2, 12] (fun c n wr => ∃ k : Nat, k ≤ 6 ∧ n = .int .i64 k ∧ c = .int .i64 (psum P 0 k) ∧ TriAt wr w.heap.size (psum P 2 k) (psum P 3 k) (psum P 4 k) ∧ Below w.heap.size w wr) (fun _ n _ => 6 - (intOf n).toNat)
  case atStart => exact ⟨0, by omega, rfl, rfl, (by show (w.heap.push _)[w.heap.size]? = _; simp [psum]), Ex.below (by repeat (first | exact Ex.refl _ | refine Ex.alloc ?_ _ | refine Ex.ext ?_ _ _ | refine Ex.drew ?_ | refine Ex.drewN ?_ _))⟩
  case round =>
    obtain ⟨k, hk, rfl, rfl, htri, hbl⟩ := hrel
    have hbz := hbl.size
    have hbd := psum_bd HI.out k hk
    have HT := Lib.hid htri
    have HB := Lib.hid hbl
    by_cases hlt : k < 6
    · have hix := fun w => HX.out w k hlt
      have hb2 := psum_bd HI.out (k + 1) hlt
      simp only [psum] at hb2
      have t0 := fun w => (triIndex (P k 2) (P k 3) (P k 4) w).1
      have t1 := fun w => (triIndex (P k 2) (P k 3) (P k 4) w).2.1
      have t2 := fun w => (triIndex (P k 2) (P k 3) (P k 4) w).2.2
      have HE0 : Hid (psum P 0 (k + 1) = psum P 0 k + P k 0) := Lib.hid rfl
      have HE2 : Hid (psum P 2 (k + 1) = psum P 2 k + P k 2) := Lib.hid rfl
      have HE3 : Hid (psum P 3 (k + 1) = psum P 3 k + P k 3) := Lib.hid rfl
      have HE4 : Hid (psum P 4 (k + 1) = psum P 4 k + P k 4) := Lib.hid rfl
      generalize psum P 0 k = x0 at *
      generalize psum P 2 k = x2 at *
      generalize psum P 3 k = x3 at *
      generalize psum P 4 k = x4 at *
      clear htri hbl HX
      go_wp2_with fail
      go_loopw [21] (fun j wr2 => ∃ q : Nat, q ≤ 3 ∧ j = .int .i64 q ∧ TriAt wr2 w.heap.size (x2 + sel q 0 (P k 2)) (x3 + sel q 1 (P k 3)) (x4 + sel q 2 (P k 4)) ∧ Below w.heap.size w wr2) (fun j _ => 3 - (intOf j).toNat)
      case atStart => exact ⟨0, by omega, rfl, by simpa [sel] using HT.out.ex (by repeat (first | exact Ex.refl _ | refine Ex.alloc ?_ _ | refine Ex.ext ?_ _ _ | refine Ex.drew ?_ | refine Ex.drewN ?_ _)), (by (refine Below.trans HB.out ?_; repeat (first | exact Below.refl _ _ | (refine Below.drew ?_) | (refine Below.drewN ?_ _) | (refine Below.ext ?_ (by first | omega | (simp [go_sem]; done) | (simp [go_sem]; omega)) _ _) | (refine Below.alloc ?_ (by first | omega | (simp [go_sem]; done) | (simp [go_sem]; omega)) _) | (refine Below.setCell ?_ (by first | omega | (simp [go_sem]; done) | (simp [go_sem]; omega)) _))))⟩
      case round =>
        obtain ⟨q, hq, rfl, ht2, htb⟩ := hrel
        have HB2 := Lib.hid htb
        have hbz2 := htb.size
        have h4 : q = 0 ∨ q = 1 ∨ q = 2 ∨ q = 3 := by omega
        rcases h4 with rfl | rfl | rfl | rfl
        · replace ht2 : TriAt wr w.heap.size (x2) (x3) (x4) := by simpa [sel] using ht2
          have HT2 := Lib.hid ht2
          have c0 := ht2.cell0
          have c1 := ht2.cell1
          have c2 := ht2.cell2
          have f0 := ht2.frozen 0
          have htl := ht2.lt
          clear ht2 htb
          go_wp2_with fail
          go_roundw
          case measure => simp [intOf]
          case rel => exact ⟨1, by omega, rfl, by simpa [sel] using (HT2.out.set0 _).ex (by repeat (first | exact Ex.refl _ | refine Ex.alloc ?_ _ | refine Ex.ext ?_ _ _ | refine Ex.drew ?_ | refine Ex.drewN ?_ _)), (by (refine Below.trans HB2.out ?_; repeat (first | exact Below.refl _ _ | (refine Below.drew ?_) | (refine Below.drewN ?_ _) | (refine Below.ext ?_ (by first | omega | (simp [go_sem]; done) | (simp [go_sem]; omega)) _ _) | (refine Below.alloc ?_ (by first | omega | (simp [go_sem]; done) | (simp [go_sem]; omega)) _) | (refine Below.setCell ?_ (by first | omega | (simp [go_sem]; done) | (simp [go_sem]; omega)) _))))⟩
        · replace ht2 : TriAt wr w.heap.size (x2 + P k 2) (x3) (x4) := by simpa [sel] using ht2
          have HT2 := Lib.hid ht2
          have c0 := ht2.cell0
          have c1 := ht2.cell1
          have c2 := ht2.cell2
          have f0 := ht2.frozen 1
          have htl := ht2.lt
          clear ht2 htb
          go_wp2_with fail
          go_roundw
          case measure => simp [intOf]
          case rel => exact ⟨2, by omega, rfl, by simpa [sel] using (HT2.out.set1 _).ex (by repeat (first | exact Ex.refl _ | refine Ex.alloc ?_ _ | refine Ex.ext ?_ _ _ | refine Ex.drew ?_ | refine Ex.drewN ?_ _)), (by (refine Below.trans HB2.out ?_; repeat (first | exact Below.refl _ _ | (refine Below.drew ?_) | (refine Below.drewN ?_ _) | (refine Below.ext ?_ (by first | omega | (simp [go_sem]; done) | (simp [go_sem]; omega)) _ _) | (refine Below.alloc ?_ (by first | omega | (simp [go_sem]; done) | (simp [go_sem]; omega)) _) | (refine Below.setCell ?_ (by first | omega | (simp [go_sem]; done) | (simp [go_sem]; omega)) _))))⟩
        · replace ht2 : TriAt wr w.heap.size (x2 + P k 2) (x3 + P k 3) (x4) := by simpa [sel] using ht2
          have HT2 := Lib.hid ht2
          have c0 := ht2.cell0
          have c1 := ht2.cell1
          have c2 := ht2.cell2
          have f0 := ht2.frozen 2
          have htl := ht2.lt
          clear ht2 htb
          go_wp2_with fail
          go_roundw
          case measure => simp [intOf]
          case rel => exact ⟨3, by omega, rfl, by simpa [sel] using (HT2.out.set2 _).ex (by repeat (first | exact Ex.refl _ | refine Ex.alloc ?_ _ | refine Ex.ext ?_ _ _ | refine Ex.drew ?_ | refine Ex.drewN ?_ _)), (by (refine Below.trans HB2.out ?_; repeat (first | exact Below.refl _ _ | (refine Below.drew ?_) | (refine Below.drewN ?_ _) | (refine Below.ext ?_ (by first | omega | (simp [go_sem]; done) | (simp [go_sem]; omega)) _ _) | (refine Below.alloc ?_ (by first | omega | (simp [go_sem]; done) | (simp [go_sem]; omega)) _) | (refine Below.setCell ?_ (by first | omega | (simp [go_sem]; done) | (simp [go_sem]; omega)) _))))⟩
        · replace ht2 : TriAt wr w.heap.size (x2 + P k 2) (x3 + P k 3) (x4 + P k 4) := by simpa [sel] using ht2
          have HT2 := Lib.hid ht2
          clear ht2 htb
          go_wp2_with fail
          go_roundw
          case measure => simp [intOf]; omega
          case rel => exact ⟨k + 1, by omega, by go_num, by rw [HE0.out], by rw [HE2.out, HE3.out, HE4.out]; exact HT2.out.ex (by repeat (first | exact Ex.refl _ | refine Ex.alloc ?_ _ | refine Ex.ext ?_ _ _ | refine Ex.drew ?_ | refine Ex.drewN ?_ _)), (by (refine Below.trans HB2.out ?_; repeat (first | exact Below.refl _ _ | (refine Below.drew ?_) | (refine Below.drewN ?_ _) | (refine Below.ext ?_ (by first | omega | (simp [go_sem]; done) | (simp [go_sem]; omega)) _ _) | (refine Below.alloc ?_ (by first | omega | (simp [go_sem]; done) | (simp [go_sem]; omega)) _) | (refine Below.setCell ?_ (by first | omega | (simp [go_sem]; done) | (simp [go_sem]; omega)) _))))⟩
    · obtain rfl : k = 6 := by omega
      have e0 := (h6 0).out
      have e2 := (h6 2).out
      have e3 := (h6 3).out
      have e4 := (h6 4).out
      rw [e2, e3, e4] at HT
      have ht6 := HT.out
      have c0 := ht6.cell0
      have c1 := ht6.cell1
      have c2 := ht6.cell2
      have f0 := ht6.frozen 0
      have f1 := ht6.frozen 1
      have f2 := ht6.frozen 2
      have htl := ht6.lt
      clear ht6 htri hbl
      go_wp2_with fail
      go_region
      all_goals go_wp2_with fail
      all_goals (try simp only [Exit.inBlock, Exit.then])
      all_goals (refine bodyPost_ret (v := .tuple #[.int .i64 (psum P 0 6), .agg #[.int .i64 (sumP P 2), .int .i64 (sumP P 3), .int .i64 (sumP P 4)]]) ?_ rfl ⟨by rw [e0], Ex.of (by (refine Below.trans HB.out ?_; repeat (first | exact Below.refl _ _ | (refine Below.drew ?_) | (refine Below.drewN ?_ _) | (refine Below.ext ?_ (by first | omega | (simp [go_sem]; done) | (simp [go_sem]; omega)) _ _) | (refine Below.alloc ?_ (by first | omega | (simp [go_sem]; done) | (simp [go_sem]; omega)) _) | (refine Below.setCell ?_ (by first | omega | (simp [go_sem]; done) | (simp [go_sem]; omega)) _))))⟩)
      have h7 : TriAt (((wr.setCell ⟨w.heap.size, 0, none⟩ (.int .i64 (sumP P 2))).setCell ⟨w.heap.size, 1, none⟩ (.int .i64 (sumP P 3))).setCell ⟨w.heap.size, 2, none⟩ (.int .i64 (sumP P 4))).drew w.heap.size (sumP P 2) (sumP P 3) (sumP P 4) := ((HT.out.set0 (sumP P 2)).set1 (sumP P 3)).set2 (sumP P 4)
      generalize (((wr.setCell ⟨w.heap.size, 0, none⟩ (.int .i64 (sumP P 2))).setCell ⟨w.heap.size, 1, none⟩ (.int .i64 (sumP P 3))).setCell ⟨w.heap.size, 2, none⟩ (.int .i64 (sumP P 4))).drew = W7 at *
      have d0 := h7.cell0
      have d1 := h7.cell1
      have d2 := h7.cell2
      simp only [results, Tryd.results13]
      simp [go_sem, ↓IntWalk.iteOmega, d0, d1, d2]
end
end Go.Proofs.YtmbboflakfokhaaDoor
