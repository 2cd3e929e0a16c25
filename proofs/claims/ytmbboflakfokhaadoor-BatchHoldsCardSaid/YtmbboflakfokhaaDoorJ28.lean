import Derived.Test.YtmbboflakfokhaaDoorFlR
import Derived.Test.YtmbboflakfokhaaDoorJ26
import Derived.Test.YtmbboflakfokhaaDoorTradeAny
import Derived.Test.YtmbboflakfokhaaDoorJ4
import Derived.Deep.RegionHeld3
import Derived.Deep.CutBlock
import Derived.BigQuiet
import Derived.Deep.QuietTactic
/- Plain facts: behind an open batch no buy is at a sell's price; a batch as a whole. -/
set_option linter.unusedSimpArgs false
set_option linter.unusedVariables false
namespace Go.Proofs.YtmbboflakfokhaaDoor
open Go.RowKit

theorem got_buys {l : List Lot} (ha : LApart l) {F : List Fil} {x : Lot} (hx : x ∈ l) (hs : x.side = 0) : gotF (buysOf l F) x.id = gotF F x.id := by
  have h1 := got_split l F x.id
  have h2 : gotF (sellsOf l F) x.id = 0 := gotF_none fun f hf e => by
    have := (List.mem_filter.1 hf).2
    rw [e, getR_mem ha hx] at this
    simp [hs] at this
  omega
theorem got_sells {l : List Lot} (ha : LApart l) {F : List Fil} {x : Lot} (hx : x ∈ l) (hs : x.side = 1) : gotF (sellsOf l F) x.id = gotF F x.id := by
  have h1 := got_split l F x.id
  have h2 : gotF (buysOf l F) x.id = 0 := gotF_none fun f hf e => by
    have := (List.mem_filter.1 hf).2
    rw [e, getR_mem ha hx] at this
    simp [hs] at this
  omega
/-- What is bought is what is sold. -/
theorem qty_same {l : List Lot} (ha : IdsApart l) {price volume : Int} {F : List Fil} (h : Fair l price volume F) (hb : ∀ f ∈ buysOf l F, ∃ x ∈ l, x.id = f.id ∧ x.side = 0) (hs : ∀ f ∈ sellsOf l F, ∃ x ∈ l, x.id = f.id ∧ x.side = 1) : qtyF (buysOf l F) = qtyF (sellsOf l F) := by
  rw [← sumG_got ha _ hb, ← sumG_got ha _ hs, sumG_congr (h := fun x => gotF F x.id) l (fun x hx e => got_buys ha hx e), sumG_congr (h := fun x => gotF F x.id) (s := 1) l (fun x hx e => got_sells ha hx e), h.sum0, h.sum1]
section
variable {st : FSt} {k : Nat} {wd hl : Int}
/-- The band behind a batch. -/
def nextN (st : FSt) (k : Nat) (wd hl : Int) : Int × Int × Bool := bnext (st.ref k) (st.left k) wd hl (bestC (st.b k) (st.ref k) 1000).price (bestC (st.b k) (st.ref k) 1000).vol
theorem next_range (h : FOk st) (hk : k < 3) (h2 : 1 ≤ hl ∧ hl ≤ 1000) : (1 ≤ (nextN st k wd hl).1 ∧ (nextN st k wd hl).1 ≤ 1000) ∧ 0 ≤ (nextN st k wd hl).2.1 ∧ (nextN st k wd hl).2.1 ≤ 1000 :=
  bnext_range (h.band k hk).1 (h.band k hk).2 h2 fun hv => ((best_facts (h.book k hk).lots (st.ref k)).2.1 hv).1
theorem run_facts (h : FOk st) (hp : PInv st.p) (hk : k < 3) (h2 : 1 ≤ hl ∧ hl ≤ 1000) (seed : Int) :
    FOk (runS st k wd hl seed) ∧ PInv (runS st k wd hl seed).p ∧ TDone k (runR st k wd hl seed).price (st.setN k (nextN st k wd hl).1 (nextN st k wd hl).2.1) (runS st k wd hl seed) (gotF (runR st k wd hl seed).fills) := by
  have hN := h.setN k (nextN st k wd hl).1 (nextN st k wd hl).2.1 (next_range h hk h2).1 (next_range h hk h2).2
  obtain ⟨b0, b1, b2⟩ := best_facts (h.book k hk).lots (st.ref k)
  have hS : runS st k wd hl seed = tradeAll k (bestC (st.b k) (st.ref k) 1000).price ((runR st k wd hl seed).fills.length + (runR st k wd hl seed).fills.length) (st.setN k (nextN st k wd hl).1 (nextN st k wd hl).2.1) (buysOf (st.b k) (runR st k wd hl seed).fills) (sellsOf (st.b k) (runR st k wd hl seed).fills) := rfl
  have hP : (runR st k wd hl seed).price = (bestC (st.b k) (st.ref k) 1000).price := rfl
  by_cases ho : (nextN st k wd hl).2.2 = true ∧ (bestC (st.b k) (st.ref k) 1000).vol ≠ 0
  · have hF : (runR st k wd hl seed).fills = fillsL (st.b k) (bestC (st.b k) (st.ref k) 1000).price (bestC (st.b k) (st.ref k) 1000).vol seed := if_pos ho
    obtain ⟨c1, c2⟩ := b1 (by omega)
    have hT : TInv k (bestC (st.b k) (st.ref k) 1000).price (st.setN k (nextN st k wd hl).1 (nextN st k wd hl).2.1) (buysOf (st.b k) (fillsL (st.b k) (bestC (st.b k) (st.ref k) 1000).price (bestC (st.b k) (st.ref k) 1000).vol seed)) (sellsOf (st.b k) (fillsL (st.b k) (bestC (st.b k) (st.ref k) 1000).price (bestC (st.b k) (st.ref k) 1000).vol seed)) := TInv.start hN hk b0 (Int.le_of_eq c2)
    have hFair := fills_fair (seed := seed) (h.book k hk).lots b0 (Int.le_of_eq c2)
    rw [hP, hS, hF]
    obtain ⟨r1, r2, r3⟩ := tradeAll_done hk (by omega) (s0 := st.setN k (nextN st k wd hl).1 (nextN st k wd hl).2.1) (h.book k hk) _ _ _ _ (fun _ => 0) hT hp (TDone.start (h.book k hk))
      (show _ ≤ (fillsL (st.b k) (bestC (st.b k) (st.ref k) 1000).price (bestC (st.b k) (st.ref k) 1000).vol seed).length + (fillsL (st.b k) (bestC (st.b k) (st.ref k) 1000).price (bestC (st.b k) (st.ref k) 1000).vol seed).length by
        have a1 : (buysOf (st.b k) (fillsL (st.b k) (bestC (st.b k) (st.ref k) 1000).price (bestC (st.b k) (st.ref k) 1000).vol seed)).length ≤ _ := List.length_filter_le _ _
        have a2 : (sellsOf (st.b k) (fillsL (st.b k) (bestC (st.b k) (st.ref k) 1000).price (bestC (st.b k) (st.ref k) 1000).vol seed)).length ≤ _ := List.length_filter_le _ _
        exact Nat.add_le_add a1 a2)
      (qty_same (h.book k hk).apart hFair (fun f hf => by obtain ⟨_, x, hx, hi, hs, _⟩ := hT.buys f hf; exact ⟨x, hx, hi, hs⟩) (fun f hf => by obtain ⟨_, x, hx, hi, hs, _⟩ := hT.sells f hf; exact ⟨x, hx, hi, hs⟩))
    refine ⟨r1, r2, r3.congr fun i => ?_⟩
    have := got_split (st.b k) (fillsL (st.b k) (bestC (st.b k) (st.ref k) 1000).price (bestC (st.b k) (st.ref k) 1000).vol seed) i
    omega
  · have hF : (runR st k wd hl seed).fills = [] := if_neg ho
    rw [hS, hF]
    exact ⟨hN, hp, TDone.start (h.book k hk)⟩
/-- A lot that is not filled whole leaves more asked for, at its price, than was traded. -/
theorem sum_more {g : Lot → Int} {is : Lot → Bool} {s : Int} : ∀ {l : List Lot}, (∀ z ∈ l, z.ok = true) → (∀ z ∈ l, z.side = s → (0 ≤ g z ∧ g z ≤ z.qty) ∧ (0 < g z → is z = true)) → (∀ z ∈ l, is z = true → z.side = s) →
    sumG g s l ≤ sumOf is l ∧ ((∃ x ∈ l, is x = true ∧ g x < x.qty) → sumG g s l + 1 ≤ sumOf is l)
  | [], _, _, _ => ⟨by simp [sumG, sumOf], fun ⟨x, hx, _⟩ => by cases hx⟩
  | z :: l, hok, h, hi => by
    obtain ⟨i1, i2⟩ := sum_more (g := g) (is := is) (s := s) (l := l) (fun y hy => hok y (by simp [hy])) (fun y hy => h y (by simp [hy])) (fun y hy => hi y (by simp [hy]))
    have hq := (Lot.okC (hok z (by simp))).2.2.2.2
    have hz := h z (by simp)
    have hzi := hi z (by simp)
    simp only [sumG, sumOf]
    by_cases e1 : z.side = s
    · obtain ⟨⟨a1, a2⟩, a3⟩ := hz e1
      rw [if_pos e1]
      by_cases e2 : is z = true
      · rw [if_pos e2]
        refine ⟨by omega, ?_⟩
        rintro ⟨x, hx, x1, x2⟩
        rcases List.mem_cons.1 hx with rfl | hx
        · omega
        · have := i2 ⟨x, hx, x1, x2⟩; omega
      · rw [if_neg e2]
        have : ¬ 0 < g z := fun h0 => e2 (a3 h0)
        refine ⟨by omega, ?_⟩
        rintro ⟨x, hx, x1, x2⟩
        rcases List.mem_cons.1 hx with rfl | hx
        · exact absurd x1 e2
        · have := i2 ⟨x, hx, x1, x2⟩; omega
    · rw [if_neg e1, if_neg (fun e2 => e1 (hzi e2))]
      refine ⟨by omega, ?_⟩
      rintro ⟨x, hx, x1, x2⟩
      rcases List.mem_cons.1 hx with rfl | hx
      · exact absurd (hzi x1) e1
      · have := i2 ⟨x, hx, x1, x2⟩; omega
theorem run_cross (h : FOk st) (hp : PInv st.p) (hk : k < 3) (h2 : 1 ≤ hl ∧ hl ≤ 1000) (seed : Int) (ho : (runR st k wd hl seed).isOpen = true) : curveCross ((runS st k wd hl seed).b k) = false := by
  obtain ⟨f1, f2, f3⟩ := run_facts (wd := wd) h hp hk h2 seed
  obtain ⟨b0, b1, b2⟩ := best_facts (h.book k hk).lots (st.ref k)
  have hbk := h.book k hk
  have ho2 : (nextN st k wd hl).2.2 = true := ho
  rw [Bool.eq_false_iff]
  intro hc
  rw [curveCross_iff (f1.book k hk).lots] at hc
  obtain ⟨p, p1, p2, hv⟩ := hc
  obtain ⟨z1, hz1, hd⟩ := (sumOf_pos _ (f1.book k hk).ok).1 (show 0 < dem ((runS st k wd hl seed).b k) p by omega)
  obtain ⟨z2, hz2, hs⟩ := (sumOf_pos _ (f1.book k hk).ok).1 (show 0 < sup ((runS st k wd hl seed).b k) p by omega)
  obtain ⟨x, hx, gx, rfl⟩ := (f3.mem z1).1 hz1
  obtain ⟨y, hy, gy, rfl⟩ := (f3.mem z2).1 hz2
  have hx' : x ∈ st.b k := hx
  have hy' : y ∈ st.b k := hy
  have d1 : x.side = 0 ∧ p ≤ x.price := by
    simp only [isDem, Bool.and_eq_true, beq_iff_eq] at hd
    exact ⟨hd.1, of_decide_eq_true hd.2⟩
  have s1 : y.side = 1 ∧ y.price ≤ p := by
    simp only [isSup, Bool.and_eq_true, beq_iff_eq] at hs
    exact ⟨hs.1, of_decide_eq_true hs.2⟩
  obtain ⟨_, _, _, y4, _⟩ := Lot.okC (hbk.ok y hy')
  obtain ⟨_, _, _, x4, _⟩ := Lot.okC (hbk.ok x hx')
  have key : (bestC (st.b k) (st.ref k) 1000).vol + 1 ≤ dem (st.b k) x.price ∧ (bestC (st.b k) (st.ref k) 1000).vol + 1 ≤ sup (st.b k) y.price := by
    by_cases hvol : (bestC (st.b k) (st.ref k) 1000).vol = 0
    · have a1 := (sumOf_pos _ hbk.ok).2 ⟨x, hx', show isDem x.price x = true by simp [isDem, d1.1]⟩
      have a2 := (sumOf_pos _ hbk.ok).2 ⟨y, hy', show isSup y.price y = true by simp [isSup, s1.1]⟩
      have a1' : 0 < dem (st.b k) x.price := a1
      have a2' : 0 < sup (st.b k) y.price := a2
      omega
    · have hF : (runR st k wd hl seed).fills = fillsL (st.b k) (bestC (st.b k) (st.ref k) 1000).price (bestC (st.b k) (st.ref k) 1000).vol seed := if_pos ⟨ho2, hvol⟩
      rw [hF] at gx gy
      have hFair := fills_fair (seed := seed) hbk.lots b0 (Int.le_of_eq (b1 (by omega)).2)
      constructor
      · have := (sum_more (g := fun z => gotF (fillsL (st.b k) (bestC (st.b k) (st.ref k) 1000).price (bestC (st.b k) (st.ref k) 1000).vol seed) z.id) (is := isDem x.price) (s := 0) hbk.ok (fun z hz hzs => ⟨hFair.bd z hz, fun h0 => ?_⟩) (fun z hz hi => by simp [isDem] at hi; exact hi.1)).2 ⟨x, hx', by simp [isDem, d1.1], gx⟩
        · rw [hFair.sum0] at this; exact this
        · by_cases e : x.price ≤ z.price
          · simp [isDem, hzs]; omega
          · have := hFair.best z hz x hx' (by rw [d1.1, hzs]) (by unfold betterL; left; exact ⟨hzs, by omega⟩) h0
            omega
      · have := (sum_more (g := fun z => gotF (fillsL (st.b k) (bestC (st.b k) (st.ref k) 1000).price (bestC (st.b k) (st.ref k) 1000).vol seed) z.id) (is := isSup y.price) (s := 1) hbk.ok (fun z hz hzs => ⟨hFair.bd z hz, fun h0 => ?_⟩) (fun z hz hi => by simp [isSup] at hi; exact hi.1)).2 ⟨y, hy', by simp [isSup, s1.1], gy⟩
        · rw [hFair.sum1] at this; exact this
        · by_cases e : z.price ≤ y.price
          · simp [isSup, hzs]; omega
          · have := hFair.best z hz y hy' (by rw [s1.1, hzs]) (by unfold betterL; right; exact ⟨by omega, by omega⟩) h0
            omega
  have hmono : dem (st.b k) x.price ≤ dem (st.b k) y.price := sumOf_mono _ hbk.ok fun z _ hz => by
    simp only [isDem, Bool.and_eq_true, beq_iff_eq, decide_eq_true_eq] at hz ⊢
    omega
  have := b2 y.price (by omega) (by omega)
  omega
/-- Where nothing crosses, or a halt goes on, a batch turns nothing but the band. -/
theorem run_still (h : FOk st) (hk : k < 3) (h2 : 1 ≤ hl ∧ hl ≤ 1000) (seed : Int) (hc : curveCross (st.b k) = false ∨ 0 < st.left k) : (runR st k wd hl seed).fills = [] ∧ runS st k wd hl seed = st.setN k (nextN st k wd hl).1 (nextN st k wd hl).2.1 ∧ ((runR st k wd hl seed).isOpen = !decide (0 < st.left k)) := by
  obtain ⟨b0, b1, b2⟩ := best_facts (h.book k hk).lots (st.ref k)
  have hO : (runR st k wd hl seed).isOpen = (nextN st k wd hl).2.2 := rfl
  have hS : runS st k wd hl seed = tradeAll k (bestC (st.b k) (st.ref k) 1000).price ((runR st k wd hl seed).fills.length + (runR st k wd hl seed).fills.length) (st.setN k (nextN st k wd hl).1 (nextN st k wd hl).2.1) (buysOf (st.b k) (runR st k wd hl seed).fills) (sellsOf (st.b k) (runR st k wd hl seed).fills) := rfl
  have hhalt : 0 < st.left k → (nextN st k wd hl).2.2 = false := fun hh => by
    unfold nextN bnext
    (repeat' split) <;> first | rfl | omega
  have hcv : ¬ 0 < st.left k → (bestC (st.b k) (st.ref k) 1000).vol = 0 := fun hn => by
    rcases hc with hc | hc
    · by_cases e : (bestC (st.b k) (st.ref k) 1000).vol = 0
      · exact e
      · exfalso
        obtain ⟨c1, c2⟩ := b1 (by omega)
        have := (curveCross_iff (h.book k hk).lots).2 ⟨_, c1.1, c1.2, by omega⟩
        rw [hc] at this; cases this
    · exact absurd hc hn
  have hopen : ¬ 0 < st.left k → (nextN st k wd hl).2.2 = true := fun hn => by
    have hv := hcv hn
    unfold nextN bnext
    (repeat' split) <;> first | rfl | omega
  have hF : (runR st k wd hl seed).fills = [] := by
    by_cases e : 0 < st.left k
    · exact if_neg (fun hh => by have h1 : (nextN st k wd hl).2.2 = true := hh.1; rw [hhalt e] at h1; cases h1)
    · exact if_neg (fun hh => hh.2 (hcv e))
  refine ⟨hF, ?_, ?_⟩
  · rw [hS, hF]; rfl
  · rw [hO]
    by_cases e : 0 < st.left k
    · rw [hhalt e]; simp [e]
    · rw [hopen e]; simp [e]
end
end Go.Proofs.YtmbboflakfokhaaDoor

/- What trade of a batch computes: the fills traded against each other. -/
set_option linter.unusedSimpArgs false
set_option linter.unusedVariables false
namespace Go.Proofs.YtmbboflakfokhaaDoor
open Go.RowKit

/-- The blocks of two slices. -/
def TT (v u : Value) (n : Nat) : Prop := v.ownBlock = some n ∨ u.ownBlock = some n
theorem FilRow.keep {base : Nat} {l : List Fil} {v : Value} {W W' : World} (h : FilRow base l v W) (hb : ∀ g, v.ownBlock = some g → W'.heap[g]? = W.heap[g]?) : FilRow base l v W' := ⟨h.1.of_block hb, h.2⟩
/-- A floor inside trade, and the fills that are left. -/
structure TrX (own : Nat → Nat) (c : Nat) (w : World) (A : FlA) (st : FSt) (E : Nat → Addr) (L : List Nat) (cs : List Bl) (v u : Value) (bs ss : List Fil) (W : World) : Prop where
  x : FlX own c w A st E L cs (TT v u) W
  rv : FilRow (w.heap.size + 1) bs v W
  ru : FilRow (w.heap.size + 1) ss u W
  two : TwoV v u
section
variable {own : Nat → Nat} {c k : Nat} {w W W' : World} {A : FlA} {st st' : FSt} {E : Nat → Addr} {L : List Nat} {cs cs' : List Bl} {v u : Value} {bs ss : List Fil}
theorem TrX.later (X : TrX own c w A st E L cs v u bs ss W) (hx : Ex W W') : TrX own c w A st E L cs v u bs ss W' := ⟨X.x.later hx, X.rv.ex hx, X.ru.ex hx, X.two⟩
theorem TrX.add (X : TrX own c w A st E L cs v u bs ss W) (hx : Ex W W') (hn : ∀ t ∈ cs', W.heap.size ≤ t.1) (hc : Has cs' W') : TrX own c w A st E L (cs' ++ cs) v u bs ss W' := ⟨X.x.add hx hn hc, X.rv.ex hx, X.ru.ex hx, X.two⟩
theorem TrX.less (X : TrX own c w A st E L cs v u bs ss W) (hc : ∀ t ∈ cs', t ∈ cs) : TrX own c w A st E L cs' v u bs ss W := ⟨X.x.less hc (fun _ h => h), X.rv, X.ru, X.two⟩
section
variable {F : FuncId} {args : Array Value} {P : Ending → Prop} {Q : Ending → World → Prop}
theorem TrX.call (X : TrX own c w A st E L cs v u bs ss W) (hC : ∀ o, FlAt o c W A st → Calls Tryd.prog F args W fun e w' => P e ∧ FlG o c W A st' w') :
    Calls Tryd.prog F args W fun e w' => P e ∧ TrX own c w A st' E L cs v u bs ss w' := by
  obtain ⟨hX, hv, hu, htw⟩ := X
  obtain ⟨hB, hE, hc, hlow⟩ := hX
  obtain ⟨h1, o, h2, h3, h4, h5⟩ := hB
  refine (hC o h2).mono fun e w' ⟨he, hT⟩ => ⟨he, ?_⟩
  obtain ⟨k1, o2, k2, k3⟩ := hT
  have hs : Same (FS L cs (TT v u)) W w' := ⟨fun n hn => k1.block n (h4 n hn).1 (h4 n hn).2, k1.size⟩
  refine ⟨FlX.same ⟨⟨h1, o, h2, h3, h4, h5⟩, hE, hc, hlow⟩ ⟨h1.chain k1 h5, tight o2 c w'.heap.size, k3.relabel (fun n hn _ => tight_lt hn), fun n hn => tight_ge hn, fun n hn => ?_, fun n hn => ?_⟩ hs, hv.keep fun g hg => hs.1 g (.inr (.inr (.inl hg))), hu.keep fun g hg => hs.1 g (.inr (.inr (.inr hg))), htw⟩
  · have hlt := Nat.lt_of_lt_of_le (h4 n hn).1 k1.size
    refine ⟨hlt, ?_⟩
    rw [tight_lt hlt, k2 n (h4 n hn).1]
    exact (h4 n hn).2
  · have hlt := Nat.lt_of_lt_of_le hn h1.size
    rw [tight_lt (Nat.lt_of_lt_of_le hlt k1.size), k2 n hlt]
    exact h5 n hn
theorem TrX.book {l' : List Lot} (X : TrX own c w A st E L cs v u bs ss W) (hk : k < 3) (hC : ∀ o i, BookAt o i W (A.bp k) (st.b k) → Calls Tryd.prog F args W fun e w' => P e ∧ ObjTo o i i W (fun o' w' => BookAt o' i w' (A.bp k) l') w') :
    Calls Tryd.prog F args W fun e w' => P e ∧ TrX own c w A (st.setB k l') E L cs v u bs ss w' :=
  X.call fun o h => (hC o _ (h.book k hk)).mono fun e w' ⟨he, hT⟩ => ⟨he, h.setBook hk hT⟩
theorem TrX.purse {P' : Pu} (X : TrX own c w A st E L cs v u bs ss W) (hC : ∀ o i, PurseAt o i W A.pp st.p → Calls Tryd.prog F args W fun e w' => P e ∧ ObjTo o i i W (fun o' w' => PurseAt o' i w' A.pp P') w') :
    Calls Tryd.prog F args W fun e w' => P e ∧ TrX own c w A (st.setP P') E L cs v u bs ss w' :=
  X.call fun o h => (hC o _ h.purse).mono fun e w' ⟨he, hT⟩ => ⟨he, h.setPurse hT⟩
theorem TrX.readB (X : TrX own c w A st E L cs v u bs ss W) (hk : k < 3) (hC : ∀ o i, BookAt o i W (A.bp k) (st.b k) → Calls Tryd.prog F args W fun e w' => Q e w' ∧ Ex W w') :
    Calls Tryd.prog F args W fun e w' => Q e w' ∧ Ex W w' := X.x.readB hk hC
end
/-- A row of one fill and more. -/
theorem FilRow.cons {base : Nat} {b : Fil} {l : List Fil} (h : FilRow base (b :: l) v W) : ∃ g off cap, v = .slice (some ⟨g, off, none⟩) (l.length + 1) cap ∧ l.length + 1 ≤ cap ∧ cap ≤ maxLen ∧ W.cell? ⟨g, off, none⟩ = some (.int .i64 b.id) ∧ W.cell? ⟨g, off + 1, none⟩ = some (.int .i64 b.qty) ∧ W.frozen? ⟨g, off + 1, none⟩ = false ∧ base ≤ g ∧ g < W.heap.size := by
  have h' := h
  obtain ⟨⟨h1, ⟨_, h0⟩ | ⟨g, off, cap, cur, rfl, ⟨fr, hg, hf⟩, hc, hm, hs, ht⟩⟩, h2⟩ := h
  · simp at h0
  · have hc' : l.length + 1 ≤ cap := by simpa using hc
    refine ⟨g, off, cap, rfl, hc', hm, ?_, ?_, hf.frozen hg (by omega), h2 g rfl, (Array.getElem?_eq_some_iff.1 hg).1⟩
    · have := h'.1.cell (j := 0) (by simp)
      simpa [flat_cons, Fil.cells] using this
    · have := h'.1.cell (j := 1) (by simp; omega)
      simpa [flat_cons, Fil.cells] using this
theorem fil_set {base g off n cap : Nat} {b : Fil} {l : List Fil} (q : Int) (h : FilRow base (b :: l) (.slice (some ⟨g, off, none⟩) n cap) W) : FilRow base (⟨b.id, q⟩ :: l) (.slice (some ⟨g, off, none⟩) n cap) (W.setCell ⟨g, off + 1, none⟩ (.int .i64 q)) := by
  obtain ⟨⟨h1, ⟨h0, _⟩ | ⟨g', off', cap', cur, hv, ⟨fr, hg, hf⟩, hc, hm, hs, ht⟩⟩, h2⟩ := h
  · cases h0
  · cases hv
    refine ⟨⟨?_, .inr ⟨g, off, cap, cur.setIfInBounds (off + 1) (.int .i64 q), rfl, ⟨fr, ?_, by unfold Unmarked at *; simpa using hf⟩, hc, hm, by simpa using hs, ?_⟩⟩, h2⟩
    · simp only [flat_cons, List.length_append, Fil.cells, List.length_cons, List.length_nil] at h1 ⊢
      exact h1
    · rw [setCell_eq_setRow W g (off + 1) cur _ fr _ hg]
      exact setRow_heap W g cur _ _ fr hg
    · simp only [List.length_cons] at ht ⊢
      rw [Array.toList_setIfInBounds, List.drop_set, if_neg (by omega), List.take_set, ht, show off + 1 - off = 1 by omega]
      simp [flat_cons, Fil.cells]
theorem fil_drop {base g off cap : Nat} {b : Fil} {l : List Fil} (h : FilRow base (b :: l) (.slice (some ⟨g, off, none⟩) (l.length + 1) cap) W) : FilRow base l (.slice (if cap = 1 then some ⟨g, off, none⟩ else some ⟨g, off + 2, none⟩) l.length (cap - 1)) W := by
  obtain ⟨⟨h1, ⟨h0, _⟩ | ⟨g', off', cap', cur, hv, ⟨fr, hg, hf⟩, hc, hm, hs, ht⟩⟩, h2⟩ := h
  · cases h0
  · cases hv
    simp only [List.length_cons] at hc
    have e2 : flat Fil.cells l = (flat Fil.cells (b :: l)).drop 2 := by rw [flat_cons]; rfl
    have hl := flat_length filc_len l
    by_cases e : cap = 1
    · rw [if_pos e]
      have e0 : l = [] := List.eq_nil_of_length_eq_zero (by omega)
      subst e0
      exact ⟨⟨rfl, .inr ⟨g, off, cap - 1, cur, rfl, ⟨fr, hg, hf⟩, by simp, by omega, by omega, by simp [flat]⟩⟩, h2⟩
    · rw [if_neg e]
      refine ⟨⟨hl, .inr ⟨g, off + 2, cap - 1, cur, rfl, ⟨fr, hg, hf⟩, by omega, by omega, by omega, ?_⟩⟩, fun g' e => h2 g' (by simpa [Value.ownBlock] using e)⟩
      rw [e2, ← ht, List.drop_take, List.drop_drop]
      simp only [List.length_cons]
      congr 1
      omega
theorem TrX.setV {g off n cap : Nat} {b : Fil} (X : TrX own c w A st E L cs (.slice (some ⟨g, off, none⟩) n cap) u (b :: bs) ss W) (q : Int) (hcs : ∀ t ∈ cs, t.1 ≠ g) : TrX own c w A st E L cs (.slice (some ⟨g, off, none⟩) n cap) u (⟨b.id, q⟩ :: bs) ss (W.setCell ⟨g, off + 1, none⟩ (.int .i64 q)) := by
  have hb : w.heap.size + 1 ≤ g := X.rv.2 g rfl
  have hG := grownBy_set (grownBy_self W (some g)) (off + 1) (.int .i64 q)
  exact ⟨X.x.grown hG (fun b' e => by cases e; exact ⟨.inl rfl, by omega, hcs⟩) (fun n hn => .inl hn), fil_set q X.rv, X.ru.kept hG (fun g' e e2 => by cases e2; exact X.two g rfl e), X.two⟩
theorem TrX.swap (X : TrX own c w A st E L cs v u bs ss W) : TrX own c w A st E L cs u v ss bs W := ⟨X.x.less (fun _ h => h) (fun n h => h.symm), X.ru, X.rv, X.two.symm⟩
theorem TrX.dropV {g off cap : Nat} {b : Fil} (X : TrX own c w A st E L cs (.slice (some ⟨g, off, none⟩) (bs.length + 1) cap) u (b :: bs) ss W) : TrX own c w A st E L cs (.slice (if cap = 1 then some ⟨g, off, none⟩ else some ⟨g, off + 2, none⟩) bs.length (cap - 1)) u bs ss W := by
  have e : (Value.slice (if cap = 1 then some ⟨g, off, none⟩ else some ⟨g, off + 2, none⟩) bs.length (cap - 1)).ownBlock = some g := by
    by_cases h : cap = 1
    · rw [if_pos h]; rfl
    · rw [if_neg h]; rfl
  refine ⟨X.x.less (fun _ h => h) fun n hn => ?_, fil_drop X.rv, X.ru, fun g' hg => ?_⟩
  · rcases hn with h | h
    · rw [e] at h; exact .inl h
    · exact .inr h
  · rw [e] at hg
    exact X.two g' hg
end
theorem tradeAll_nil {k : Nat} {price : Int} (st : FSt) (n : Nat) (ss : List Fil) : tradeAll k price n st [] ss = st := by cases n <;> rfl
theorem tradeAll_nil2 {k : Nat} {price : Int} (st : FSt) (n : Nat) (bs : List Fil) : tradeAll k price n st bs [] = st := by
  cases n
  · rfl
  · cases bs <;> rfl
/-- How long a slice is. -/
def lenV : Value → Nat
  | .slice _ n _ => n
  | _ => 0
theorem setBBP (st : FSt) (k : Nat) (P : Pu) (l1 l2 : List Lot) : ((st.setP P).setB k l1).setB k l2 = (st.setB k l2).setP P := by
  unfold FSt.setB FSt.setP
  simp only [FSt.mk.injEq, and_true]
  funext j
  by_cases e : j = k
  · rw [if_pos e, if_pos e]
  · rw [if_neg e, if_neg e, if_neg e]
end Go.Proofs.YtmbboflakfokhaaDoor
