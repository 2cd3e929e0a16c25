import Derived.Test.YtmbboflakfokhaaDoorJ25
import Derived.Laws.Rows
/- A floor inside a method, beside what the method itself holds: the errors, cells of its own, rows of its own. -/
set_option linter.unusedSimpArgs false
set_option linter.unusedVariables false
namespace Go.Proofs.YtmbboflakfokhaaDoor
open Go.RowKit

/-- Where the errors of these numbers lie. -/
def GE (L : List Nat) (n : Nat) : Prop := ∃ e ∈ L, n = gOf e
/-- A block known whole. -/
def Blk (W : World) (b : Nat) (vs : Array Value) (t : TypeId) : Prop := W.heap[b]? = some (.cells vs t (0, 0))
theorem Blk.lt {W : World} {b : Nat} {vs : Array Value} {t : TypeId} (h : Blk W b vs t) : b < W.heap.size := (Array.getElem?_eq_some_iff.1 h).1
theorem Blk.cell {W : World} {b : Nat} {vs : Array Value} {t : TypeId} (h : Blk W b vs t) (j : Nat) : W.cell? ⟨b, j, none⟩ = vs[j]? := by simp [World.cell?, show W.heap[b]? = _ from h]
theorem Blk.free {W : World} {b : Nat} {vs : Array Value} {t : TypeId} (h : Blk W b vs t) (j : Nat) : W.frozen? ⟨b, j, none⟩ = false := by simp [World.frozen?, show W.heap[b]? = _ from h]
theorem Blk.new {W : World} {b : Nat} {vs : Array Value} {t : TypeId} (h : b = W.heap.size) : Blk (W.alloc (.cells vs t)) b vs t := by subst h; exact heap_alloc_new W _
theorem Blk.ex {W W' : World} {b : Nat} {vs : Array Value} {t : TypeId} (h : Blk W b vs t) (hx : Ex W W') : Blk W' b vs t := (hx.below.block b h.lt).trans h
theorem Blk.alloc {W : World} {b : Nat} {vs : Array Value} {t : TypeId} (h : Blk W b vs t) (o : Obj) : Blk (W.alloc o) b vs t := h.ex ((Ex.refl W).alloc o)
theorem Blk.ext {W : World} {b : Nat} {vs : Array Value} {t : TypeId} (h : Blk W b vs t) (l : List Obj) (d : Nat) : Blk (ext W l d) b vs t := h.ex ((Ex.refl W).ext l d)
theorem Blk.drew {W : World} {b : Nat} {vs : Array Value} {t : TypeId} (h : Blk W b vs t) : Blk W.drew b vs t := h
theorem Blk.drewN {W : World} {b : Nat} {vs : Array Value} {t : TypeId} (h : Blk W b vs t) (n : Nat) : Blk (W.drewN n) b vs t := h
theorem Blk.set {W : World} {b : Nat} {vs : Array Value} {t : TypeId} (h : Blk W b vs t) (j : Nat) (v : Value) : Blk (W.setCell ⟨b, j, none⟩ v) b (vs.setIfInBounds j v) t := heap_setCell_same W b j vs t v h
theorem Blk.other {W : World} {b : Nat} {vs : Array Value} {t : TypeId} (h : Blk W b vs t) (a : Addr) (v : Value) (hne : b ≠ a.block) : Blk (W.setCell a v) b vs t := (heap_setCell_other W a b v hne).trans h
abbrev Bl := Nat × Array Value × TypeId
/-- What is known of blocks. -/
def Has (cs : List Bl) (W : World) : Prop := ∀ t ∈ cs, Blk W t.1 t.2.1 t.2.2
theorem Has.cons {b : Nat} {vs : Array Value} {t : TypeId} {cs : List Bl} {W : World} (h : Has ((b, vs, t) :: cs) W) : Blk W b vs t ∧ Has cs W := ⟨h (b, vs, t) (by simp), fun u hu => h u (by simp [hu])⟩
theorem Has.mk {b : Nat} {vs : Array Value} {t : TypeId} {cs : List Bl} {W : World} (h : Blk W b vs t) (k : Has cs W) : Has ((b, vs, t) :: cs) W := fun u hu => by
  rcases List.mem_cons.1 hu with rfl | hu
  · exact h
  · exact k u hu
theorem Has.nil (W : World) : Has [] W := fun u hu => by cases hu
def FS (L : List Nat) (cs : List Bl) (T : Nat → Prop) (n : Nat) : Prop := GE L n ∨ (∃ t ∈ cs, t.1 = n) ∨ T n
def NoT (_ : Nat) : Prop := False
structure FlX (own : Nat → Nat) (c : Nat) (w : World) (A : FlA) (st : FSt) (E : Nat → Addr) (L : List Nat) (cs : List Bl) (T : Nat → Prop) (W : World) : Prop where
  fl : FlB own c w A st (FS L cs T) W
  errs : Errs E L W
  has : Has cs W
  low : ∀ e ∈ L, gOf e < w.heap.size
theorem Errs.same {E : Nat → Addr} {L : List Nat} {S : Nat → Prop} {W W' : World} (h : Errs E L W) (hs : Same S W W') (hS : ∀ n, GE L n → S n) : Errs E L W' := fun e he => (hs.cell (hS _ ⟨e, he, rfl⟩)).trans (h e he)
theorem Has.same {cs : List Bl} {S : Nat → Prop} {W W' : World} (h : Has cs W) (hs : Same S W W') (hS : ∀ t ∈ cs, S t.1) : Has cs W' := fun t ht => (hs.1 t.1 (hS t ht)).trans (h t ht)
theorem Has.ex {cs : List Bl} {W W' : World} (h : Has cs W) (hx : Ex W W') : Has cs W' := fun t ht => (h t ht).ex hx
section
variable {own : Nat → Nat} {c k : Nat} {w W W' : World} {A : FlA} {st st' : FSt} {E : Nat → Addr} {L : List Nat} {cs cs' : List Bl} {T T' : Nat → Prop}
theorem FlX.start (h : FlAt own c w A st) (hE : Errs E L w) (hg : ∀ n, GE L n → own n / 8 ≠ c) (hT : ∀ n, T n → n < w.heap.size ∧ own n / 8 ≠ c) : FlX own c w A st E L [] T w :=
  ⟨FlB.start h fun n hn => by
    rcases hn with ⟨e, he, rfl⟩ | ⟨t, ht, _⟩ | hn
    · exact ⟨lt_of_cell (hE e he), hg _ ⟨e, he, rfl⟩⟩
    · cases ht
    · exact hT n hn, hE, Has.nil _, fun e he => lt_of_cell (hE e he)⟩
theorem FlX.begin (h : FlAt own c w A st) (hE : Errs E L w) (hg : ∀ n, GE L n → own n / 8 ≠ c) (hc : Has cs w) (hcs : ∀ t ∈ cs, own t.1 / 8 ≠ c) (hT : ∀ n, T n → n < w.heap.size ∧ own n / 8 ≠ c) : FlX own c w A st E L cs T w :=
  ⟨FlB.start h fun n hn => by
    rcases hn with ⟨e, he, rfl⟩ | ⟨t, ht, rfl⟩ | hn
    · exact ⟨lt_of_cell (hE e he), hg _ ⟨e, he, rfl⟩⟩
    · exact ⟨(hc t ht).lt, hcs t ht⟩
    · exact hT n hn, hE, hc, fun e he => lt_of_cell (hE e he)⟩
theorem FlX.later (X : FlX own c w A st E L cs T W) (hx : Ex W W') : FlX own c w A st E L cs T W' := ⟨X.fl.later hx, X.errs.ex hx, X.has.ex hx, X.low⟩
/-- Cells of new blocks come in. -/
theorem FlX.add (X : FlX own c w A st E L cs T W) (hx : Ex W W') (hn : ∀ t ∈ cs', W.heap.size ≤ t.1) (hc : Has cs' W') : FlX own c w A st E L (cs' ++ cs) T W' :=
  ⟨X.fl.more hx fun n hn' => by
    rcases hn' with h | ⟨t, ht, rfl⟩ | h
    · exact .inl (.inl h)
    · rcases List.mem_append.1 ht with ht | ht
      · exact .inr ⟨hn t ht, (hc t ht).lt⟩
      · exact .inl (.inr (.inl ⟨t, ht, rfl⟩))
    · exact .inl (.inr (.inr h)), X.errs.ex hx, fun t ht => by
    rcases List.mem_append.1 ht with ht | ht
    · exact hc t ht
    · exact X.has.ex hx t ht, X.low⟩
theorem FlX.addT (X : FlX own c w A st E L cs NoT W) (hx : Ex W W') (hT : ∀ n, T n → W.heap.size ≤ n ∧ n < W'.heap.size) : FlX own c w A st E L cs T W' :=
  ⟨X.fl.more hx fun n hn => by
    rcases hn with h | h | h
    · exact .inl (.inl h)
    · exact .inl (.inr (.inl h))
    · exact .inr (hT n h), X.errs.ex hx, X.has.ex hx, X.low⟩
theorem FlX.less (X : FlX own c w A st E L cs T W) (hc : ∀ t ∈ cs', t ∈ cs) (hT : ∀ n, T' n → T n) : FlX own c w A st E L cs' T' W :=
  ⟨X.fl.less fun n hn => by
    rcases hn with h | ⟨t, ht, rfl⟩ | h
    · exact .inl h
    · exact .inr (.inl ⟨t, hc t ht, rfl⟩)
    · exact .inr (.inr (hT n h)), X.errs, fun t ht => X.has t (hc t ht), X.low⟩
theorem FlX.same (X : FlX own c w A st E L cs T W) (hB : FlB own c w A st' (FS L cs T) W') (hs : Same (FS L cs T) W W') : FlX own c w A st' E L cs T W' :=
  ⟨hB, X.errs.same hs fun n hn => .inl hn, X.has.same hs fun t ht => .inr (.inl ⟨t, ht, rfl⟩), X.low⟩
theorem FlX.out (X : FlX own c w A st E L cs T W) : FlG own c w A st W := X.fl.out
theorem FlX.size (X : FlX own c w A st E L cs T W) : w.heap.size ≤ W.heap.size := X.fl.size
theorem FlX.cells (X : FlX own c w A st E L cs T W) : W.cell? ⟨A.f, 0, none⟩ = some (.slice (some ⟨A.rg, 0, none⟩) 3 A.cap) ∧ W.cell? ⟨A.f, 1, none⟩ = some (.pointer (some ⟨A.pp, 0, none⟩)) ∧ W.cell? ⟨A.f, 2, none⟩ = some (.int .i64 A.wd) ∧ W.cell? ⟨A.f, 3, none⟩ = some (.int .i64 A.hl) ∧ A.f < W.heap.size := X.fl.cells
theorem FlX.items (X : FlX own c w A st E L cs T W) (hk : k < 3) : W.cell? ⟨A.rg, k * 3, none⟩ = some (.pointer (some ⟨A.bp k, 0, none⟩)) ∧ W.cell? ⟨A.rg, k * 3 + 1, none⟩ = some (.int .i64 (st.ref k)) ∧ W.cell? ⟨A.rg, k * 3 + 2, none⟩ = some (.int .i64 (st.left k)) ∧ A.rg < W.heap.size := X.fl.items hk
theorem FlX.rowF (X : FlX own c w A st E L cs T W) (n : Nat) : W.frozen? ⟨A.rg, n, none⟩ = false := by
  obtain ⟨o, h⟩ := X.fl.at
  exact h.rowF n
theorem FlX.kp (X : FlX own c w A st E L cs T W) : Kp own 8 c w W := X.fl.kp
section
variable {F : FuncId} {args : Array Value} {P : Ending → Prop} {Q : Ending → World → Prop}
theorem FlX.call (X : FlX own c w A st E L cs T W) (hC : ∀ o, FlAt o c W A st → Errs E L W → (∀ n, GE L n → o n / 8 ≠ c) → Calls Tryd.prog F args W fun e w' => P e ∧ FlG o c W A st' w') :
    Calls Tryd.prog F args W fun e w' => P e ∧ FlX own c w A st' E L cs T w' := by
  obtain ⟨hB, hE, hc, hlow⟩ := X
  obtain ⟨h1, o, h2, h3, h4, h5⟩ := hB
  have hB' : FlB o c W A st (FS L cs T) W := FlB.start h2 h4
  refine (hC o h2 hE fun n hn => (h4 n (.inl hn)).2).mono fun e w' ⟨he, hT⟩ => ⟨he, ?_⟩
  obtain ⟨k1, o2, k2, k3⟩ := hT
  have hs : Same (FS L cs T) W w' := ⟨fun n hn => k1.block n (h4 n hn).1 (h4 n hn).2, k1.size⟩
  refine FlX.same ⟨⟨h1, o, h2, h3, h4, h5⟩, hE, hc, hlow⟩ ⟨h1.chain k1 h5, tight o2 c w'.heap.size, k3.relabel (fun n hn _ => tight_lt hn), fun n hn => tight_ge hn, fun n hn => ?_, fun n hn => ?_⟩ hs
  · have hlt := Nat.lt_of_lt_of_le (h4 n hn).1 k1.size
    refine ⟨hlt, ?_⟩
    rw [tight_lt hlt, k2 n (h4 n hn).1]
    exact (h4 n hn).2
  · have hlt := Nat.lt_of_lt_of_le hn h1.size
    rw [tight_lt (Nat.lt_of_lt_of_le hlt k1.size), k2 n hlt]
    exact h5 n hn
theorem FlX.callT (X : FlX own c w A st E L cs T W) (hC : ∀ o, FlAt o c W A st → Errs E L W → (∀ n, GE L n → o n / 8 ≠ c) → Calls Tryd.prog F args W fun e w' => P e ∧ FlG o c W A st' w') :
    Calls Tryd.prog F args W fun e w' => P e ∧ FlX own c w A st' E L cs T w' ∧ ∀ n, T n → w'.heap[n]? = W.heap[n]? := by
  obtain ⟨hB, hE, hc, hlow⟩ := X
  obtain ⟨h1, o, h2, h3, h4, h5⟩ := hB
  refine (hC o h2 hE fun n hn => (h4 n (.inl hn)).2).mono fun e w' ⟨he, hT⟩ => ⟨he, ?_⟩
  obtain ⟨k1, o2, k2, k3⟩ := hT
  have hs : Same (FS L cs T) W w' := ⟨fun n hn => k1.block n (h4 n hn).1 (h4 n hn).2, k1.size⟩
  refine ⟨FlX.same ⟨⟨h1, o, h2, h3, h4, h5⟩, hE, hc, hlow⟩ ⟨h1.chain k1 h5, tight o2 c w'.heap.size, k3.relabel (fun n hn _ => tight_lt hn), fun n hn => tight_ge hn, fun n hn => ?_, fun n hn => ?_⟩ hs, fun n hn => hs.1 n (.inr (.inr hn))⟩
  · have hlt := Nat.lt_of_lt_of_le (h4 n hn).1 k1.size
    refine ⟨hlt, ?_⟩
    rw [tight_lt hlt, k2 n (h4 n hn).1]
    exact (h4 n hn).2
  · have hlt := Nat.lt_of_lt_of_le hn h1.size
    rw [tight_lt (Nat.lt_of_lt_of_le hlt k1.size), k2 n hlt]
    exact h5 n hn
theorem FlX.book {l' : List Lot} (X : FlX own c w A st E L cs T W) (hk : k < 3) (hC : ∀ o i, BookAt o i W (A.bp k) (st.b k) → Calls Tryd.prog F args W fun e w' => P e ∧ ObjTo o i i W (fun o' w' => BookAt o' i w' (A.bp k) l') w') :
    Calls Tryd.prog F args W fun e w' => P e ∧ FlX own c w A (st.setB k l') E L cs T w' :=
  X.call fun o h _ _ => (hC o _ (h.book k hk)).mono fun e w' ⟨he, hT⟩ => ⟨he, h.setBook hk hT⟩
theorem FlX.purse {P' : Pu} (X : FlX own c w A st E L cs T W) (hC : ∀ o i, PurseAt o i W A.pp st.p → Calls Tryd.prog F args W fun e w' => P e ∧ ObjTo o i i W (fun o' w' => PurseAt o' i w' A.pp P') w') :
    Calls Tryd.prog F args W fun e w' => P e ∧ FlX own c w A (st.setP P') E L cs T w' :=
  X.call fun o h _ _ => (hC o _ h.purse).mono fun e w' ⟨he, hT⟩ => ⟨he, h.setPurse hT⟩
theorem FlX.readB (X : FlX own c w A st E L cs T W) (hk : k < 3) (hC : ∀ o i, BookAt o i W (A.bp k) (st.b k) → Calls Tryd.prog F args W fun e w' => Q e w' ∧ Ex W w') :
    Calls Tryd.prog F args W fun e w' => Q e w' ∧ Ex W w' := X.fl.readB hk hC
theorem FlX.readP (X : FlX own c w A st E L cs T W) (hC : ∀ o i, PurseAt o i W A.pp st.p → Calls Tryd.prog F args W fun e w' => Q e w' ∧ Ex W w') :
    Calls Tryd.prog F args W fun e w' => Q e w' ∧ Ex W w' := X.fl.readP hC
theorem FlX.read (X : FlX own c w A st E L cs T W) (hC : ∀ o, FlAt o c W A st → Calls Tryd.prog F args W fun e w' => Q e w' ∧ Ex W w') :
    Calls Tryd.prog F args W fun e w' => Q e w' ∧ Ex W w' := by
  obtain ⟨o, h⟩ := X.fl.at
  exact hC o h
end
theorem FlX.band (X : FlX own c w A st E L cs T W) (hk : k < 3) (r l : Int) : FlX own c w A (st.setN k r l) E L cs T ((W.setCell ⟨A.rg, k * 3 + 1, none⟩ (.int .i64 r)).setCell ⟨A.rg, k * 3 + 2, none⟩ (.int .i64 l)) :=
  X.same (X.fl.band hk r l).1 (X.fl.band hk r l).2
/-- A row of the method's own has turned, and there may be new blocks. -/
theorem FlX.grown {row : Option Nat} (X : FlX own c w A st E L cs T W) (hg : W.grownBy W' row) (hr : ∀ b, row = some b → T b ∧ w.heap.size ≤ b ∧ (∀ t ∈ cs, t.1 ≠ b)) (hT : ∀ n, T' n → T n ∨ (W.heap.size ≤ n ∧ n < W'.heap.size)) : FlX own c w A st E L cs T' W' := by
  have hlt : ∀ n, FS L cs T n → n < W.heap.size := fun n hn => X.fl.lt hn
  refine ⟨X.fl.grown hg (fun b hb => ⟨.inr (.inr (hr b hb).1), (hr b hb).2.1⟩) (fun n hn => ?_), fun e he => ?_, fun t ht => (hg.block _ (hlt _ (.inr (.inl ⟨t, ht, rfl⟩))) fun e2 => (hr _ e2.symm).2.2 t ht rfl).trans (X.has t ht), X.low⟩
  · rcases hn with h | h | h
    · exact .inl (.inl h)
    · exact .inl (.inr (.inl h))
    · rcases hT n h with h | h
      · exact .inl (.inr (.inr h))
      · exact .inr h
  · exact (World.cell?_of_block (hg.block _ (hlt _ (.inl ⟨e, he, rfl⟩)) fun e2 => by have h1 := (hr _ e2.symm).2.1; have h2 := X.low e he; simp only at h1; omega)).trans (X.errs e he)
/-- A block of the method's own has turned, and there may be new ones. -/
theorem FlX.turned {b : Nat} (X : FlX own c w A st E L cs T W) (hg : W.grownBy W' (some b)) (hb : ∃ t ∈ cs, t.1 = b) (hw : w.heap.size ≤ b) (hc : Has cs' W') (hs : ∀ t ∈ cs', ∃ u ∈ cs, u.1 = t.1) : FlX own c w A st E L cs' T W' := by
  have hlt : ∀ n, FS L cs T n → n < W.heap.size := fun n hn => X.fl.lt hn
  have hS : ∀ n, FS L cs' T n → FS L cs T n := fun n hn => by
    rcases hn with h | ⟨t, ht, rfl⟩ | h
    · exact .inl h
    · exact .inr (.inl (hs t ht))
    · exact .inr (.inr h)
  refine ⟨X.fl.grown hg (fun b' e => ?_) (fun n hn => .inl (hS n hn)), fun e he => ?_, hc, X.low⟩
  · cases e
    exact ⟨.inr (.inl hb), hw⟩
  · exact (World.cell?_of_block (hg.block _ (hlt _ (.inl ⟨e, he, rfl⟩)) fun e2 => by
      have h1 : gOf e = b := by injection e2
      have h2 := X.low e he
      omega)).trans (X.errs e he)
end
section
variable {W W1 : World} {row : Option Nat} {b : Nat}
theorem grownBy_self (W : World) (row : Option Nat) : W.grownBy W row := ⟨rfl, rfl, rfl, Nat.le_refl _, fun _ _ _ => rfl⟩
theorem grownBy_set (h : W.grownBy W1 (some b)) (j : Nat) (v : Value) : W.grownBy (W1.setCell ⟨b, j, none⟩ v) (some b) :=
  ⟨h.os, h.tape, h.output, by simpa [World.setCell] using h.size, fun k hk hne => (heap_setCell_other W1 ⟨b, j, none⟩ k v (fun e => hne (by rw [e]))).trans (h.block k hk hne)⟩
theorem grownBy_ex {W2 : World} (h : W.grownBy W1 row) (hx : Ex W1 W2) : W.grownBy W2 row :=
  ⟨hx.below.os.trans h.os, hx.below.tape.trans h.tape, hx.below.output.trans h.output, Nat.le_trans h.size hx.below.size, fun k hk hne => (hx.below.block k (Nat.lt_of_lt_of_le hk h.size)).trans (h.block k hk hne)⟩
end
end Go.Proofs.YtmbboflakfokhaaDoor

/- What split of a batch computes: the fills of buys, the fills of sells. -/
set_option linter.unusedSimpArgs false
set_option linter.unusedVariables false
namespace Go.Proofs.YtmbboflakfokhaaDoor
open Go.RowKit

theorem wpList_append_two {P : Program} {ops : Array Oper} {rest : List Oper} {o : Oper} {a : Act} {w : World} {Q : Exit → Act → World → Prop} (hgd : o.guard = none) (s x : Operand) (t tx : TypeId)
    (ho : o.op = .call { callee := .builtin .append, args := #[s, x], argTypes := #[t, tx] })
    (e : TypeId) (i : TypeInfo) (z : Value) (size bytes : Nat) (ht : P.underlying t = some (.slice e)) (hi : P.info? e = some i) (hz : i.zero = some z)
    (hsize : i.size = size) (hby : i.bytes = bytes) (hzs : z.cells.size = size)
    (v y : Value) (n m : Nat) (xs news : List Value) (hv : a.eval s = v) (hy : a.eval x = y) (h : RowAt w e size v n xs) (hs : Src P size tx y m news w)
    (h63 : n + m ≤ maxLen) (hbytes : (n + m) * bytes ≤ 140737488355328)
    (hK : ∀ v' w', RowAt w' e size v' (n + m) (xs ++ news) → w.grownBy w' v.ownBlock → (v'.ownBlock = v.ownBlock ∨ v'.ownBlock = some w.heap.size) → wpList P ops Q rest (a.put o.dst v') w') :
    wpList P ops Q (o :: rest) a w := by
  obtain ⟨v', w', hr, h1, h2, h3, _, _⟩ := run_append_keep (P := P) t tx o.type e i z size bytes ht hi hz hsize hby hzs h hs h63 hbytes
  refine wpList_plain hgd fun _ hK' => ?_
  unfold Oper.wp execOp
  simp only [ho, resolve, invoke, builtin, Sem.run_bind, Sem.run_pure, Result.andThen_ok, List.map_toArray, List.map_cons, List.map_nil, hv, hy, hr]
  exact hK' _ _ (hK v' w' h1 h2 h3)
theorem filc_len (f : Fil) : f.cells.length = 2 := rfl
theorem fil_one' (l : List Fil) : ∀ u ∈ flat Fil.cells l, u.oneCell' = true := by
  intro u hu
  obtain ⟨x, _, hx⟩ := List.mem_flatMap.1 hu
  simp only [Fil.cells, List.mem_cons, List.not_mem_nil, or_false] at hx
  rcases hx with rfl | rfl <;> rfl
/-- A row of fills of the method's own. -/
def FilRow (base : Nat) (l : List Fil) (v : Value) (W : World) : Prop := RowAt W 54 2 v l.length (flat Fil.cells l) ∧ ∀ g, v.ownBlock = some g → base ≤ g
theorem FilRow.ex {base : Nat} {l : List Fil} {v : Value} {W W' : World} (h : FilRow base l v W) (hx : Ex W W') : FilRow base l v W' := ⟨h.1.of_block fun g hg => hx.below.block g (h.1.lt g hg), h.2⟩
theorem FilRow.kept {base : Nat} {l : List Fil} {v : Value} {W W' : World} {row : Option Nat} (h : FilRow base l v W) (hg : W.grownBy W' row) (hne : ∀ g, v.ownBlock = some g → row ≠ some g) : FilRow base l v W' := ⟨h.1.of_block fun g e => hg.block g (h.1.lt g e) (fun e2 => hne g e e2.symm), h.2⟩
theorem FilRow.nil (base : Nat) (W : World) : FilRow base [] (.slice none 0 0) W := ⟨RowAt.nil _ _ _, fun g h => by cases h⟩
/-- Two slices that share no block. -/
def TwoV (v u : Value) : Prop := ∀ g, v.ownBlock = some g → u.ownBlock ≠ some g
theorem TwoV.symm {v u : Value} (h : TwoV v u) : TwoV u v := fun g hu hv => h g hv hu
theorem FilRow.slice {base : Nat} {l : List Fil} {v : Value} {W : World} (h : FilRow base l v W) : ∃ ao cap, v = .slice ao l.length cap ∧ l.length ≤ cap ∧ cap ≤ maxLen := by
  obtain ⟨_, ⟨rfl, h0⟩ | ⟨g, off, cap, cur, rfl, _, hc, hm, _⟩⟩ := h.1
  · exact ⟨none, 0, by rw [h0], by omega, by unfold maxLen; omega⟩
  · exact ⟨_, cap, rfl, hc, hm⟩
theorem buys_snoc (L : List Lot) (F : List Fil) (k : Nat) (hk : k < F.length) : buysOf L (F.take (k + 1)) = buysOf L (F.take k) ++ (if (getR L F[k].id).1.side == 0 then [F[k]] else []) := by
  rw [List.take_succ_eq_append_getElem hk]
  unfold buysOf
  rw [List.filter_append]
  congr 1
  by_cases h : ((getR L F[k].id).1.side == 0) = true
  · simp [h]
  · simp [h]
theorem sells_snoc (L : List Lot) (F : List Fil) (k : Nat) (hk : k < F.length) : sellsOf L (F.take (k + 1)) = sellsOf L (F.take k) ++ (if (getR L F[k].id).1.side == 0 then [] else [F[k]]) := by
  rw [List.take_succ_eq_append_getElem hk]
  unfold sellsOf
  rw [List.filter_append]
  congr 1
  by_cases h : ((getR L F[k].id).1.side == 0) = true
  · simp [h]
  · simp [h]
section
variable {own : Nat → Nat} {i : Nat} {w : World} {p : Nat} {L : List Lot}
/-- What holds in the loop of split. -/
def SplitR (w : World) (L : List Lot) (F : List Fil) (k : Nat) (v u : Value) (wr : World) : Prop :=
  FilRow (w.heap.size + 1) (buysOf L (F.take k)) v wr ∧ FilRow (w.heap.size + 1) (sellsOf L (F.take k)) u wr ∧ TwoV v u ∧ Ex w wr
/-- What split hands back. -/
def SplitTo (w : World) (L : List Lot) (F : List Fil) (e : Ending) (w' : World) : Prop := ∃ v u, e = .returned (.tuple #[v, u]) ∧ FilRow (w.heap.size + 1) (buysOf L F) v w' ∧ FilRow (w.heap.size + 1) (sellsOf L F) u w' ∧ TwoV v u ∧ Ex w w'
theorem two_step {w wr W w' : World} {base : Nat} {B S : List Fil} {f : Fil} {v u v' : Value} (hx : Ex wr W) (hv : FilRow base B v wr) (hu : FilRow base S u wr) (hb0 : w.heap.size ≤ base) (hb1 : base ≤ wr.heap.size) (htw : TwoV v u) (hex : Ex w wr) (hrow : RowAt w' 54 2 v' (B.length + 1) (flat Fil.cells B ++ f.cells)) (hg : W.grownBy w' v.ownBlock) {z : Nat} (ho : v'.ownBlock = v.ownBlock ∨ v'.ownBlock = some z) (hW : z = W.heap.size) :
    FilRow base (B ++ [f]) v' w' ∧ FilRow base S u w' ∧ TwoV v' u ∧ Ex w w' := by
  have h1 := hex.below.size
  have h2 := hx.below.size
  subst hW
  refine ⟨⟨by rw [flat_append, flat_one, List.length_append]; exact hrow, fun g e => ?_⟩, (hu.ex hx).kept hg (fun g e e2 => htw g e2 e), fun g e e2 => ?_, Ex.of (Below.grown (hex.trans hx).below hg (hex.trans hx).below.size (fun b e => Nat.le_trans hb0 (hv.2 b e)))⟩
  · rcases ho with h | h
    · rw [h] at e; exact hv.2 g e
    · rw [h] at e; cases e; omega
  · rcases ho with h | h
    · rw [h] at e; exact htw g e e2
    · rw [h] at e
      cases e
      have := hu.1.lt _ e2
      omega
set_option maxRecDepth 100000 in
set_option maxHeartbeats 4000000 in
theorem split_any (h : BookAt own i w p L) (r l : Int) (ao : Option Addr) (cap : Nat) (F : List Fil) (hF : FillAt w ao F) (hz : F.length ≤ 100000) :
    Calls Tryd.prog 57 #[.agg #[.pointer (some ⟨p, 0, none⟩), .int .i64 r, .int .i64 l], .slice ao F.length cap] w (SplitTo w L F) := by
  obtain ⟨i0, hi0, hz0, hz1, hz2⟩ := info_parts infoFill
  have HG := Lib.hid (fun W id (hx : Ex w W) => get_any (h.later hx) id)
  have HF := Lib.hid hF
  clear h hF
  go_enter Tryd.func57, Tryd.ntmps57
  go_wp2_with fail
  go_loopw [4, 5, 12] (fun v u i wr => ∃ (k : Nat) (v' u' : Value), v' = v ∧ u' = u ∧ k ≤ F.length ∧ i = .int .i64 (k : Int) ∧ SplitR w L F k v' u' wr ∧ wr.cell? ⟨w.heap.size, 0, none⟩ = some (.pointer (some ⟨p, 0, none⟩))) (fun _ _ i _ => F.length - (intOf i).toNat)
  case atStart => exact ⟨0, _, _, rfl, rfl, Nat.zero_le _, rfl, ⟨FilRow.nil _ _, FilRow.nil _ _, fun g h => (by cases h), (by repeat (first | exact Ex.refl _ | refine Ex.alloc ?_ _ | refine Ex.ext ?_ _ _ | refine Ex.drew ?_ | refine Ex.drewN ?_ _))⟩, by simp [go_sem]⟩
  case round =>
    obtain ⟨k, v, u, rfl, rfl, hk, rfl, hS, hc0⟩ := hrel
    obtain ⟨hv, hu, htw, hex⟩ := hS
    have hsz := hex.below.size
    have hlt0 := lt_of_cell hc0
    obtain ⟨av, cv, rfl, hcv, _⟩ := hv.slice
    obtain ⟨au, cu, rfl, hcu, _⟩ := hu.slice
    have HV := Lib.hid hv
    have HU := Lib.hid hu
    have HTW := Lib.hid htw
    have HEX := Lib.hid hex
    clear hv hu htw
    by_cases hlt : k < F.length
    · obtain ⟨b, off, rfl, hb, hcc⟩ := HF.out (by omega)
      have f0 := (hex.below.cell (p := ⟨b, off + k * 2 + 0, none⟩) hb).trans (hcc k hlt 0 (by omega))
      have f1 := (hex.below.cell (p := ⟨b, off + k * 2 + 1, none⟩) hb).trans (hcc k hlt 1 (by omega))
      simp only [Fil.cells, List.getElem?_cons_zero, List.getElem?_cons_succ, Nat.add_zero] at f0 f1
      have hbz : b < wr.heap.size := by omega
      have hsb := buys_snoc L F k hlt
      have hss := sells_snoc L F k hlt
      have HSB := Lib.hid hsb
      have HSS := Lib.hid hss
      have hlb : (buysOf L (F.take k)).length ≤ (F.take k).length := List.length_filter_le _ _
      have hls : (sellsOf L (F.take k)).length ≤ (F.take k).length := List.length_filter_le _ _
      rw [List.length_take] at hlb hls
      clear hcc hsb hss hex
      generalize buysOf L (F.take k) = B at *
      generalize sellsOf L (F.take k) = S at *
      generalize F[k] = f at *
      have HGX := Lib.hid (fun W hx => HG.out W f.id hx)
      generalize getR L f.id = gr at *
      obtain ⟨⟨xi, xo, xs, xp, xq⟩, xb⟩ := gr
      simp only at HSB HSS
      by_cases hs : (xs == 0) = true
      · rw [hs, if_pos rfl] at HSB HSS
        rw [List.append_nil] at HSS
        go_upto_region 6 with (go_at_call 17; ((with_reducible refine (HGX.out _ ?_).mono ?_)); (focus exact HEX.out.trans (by repeat (first | (with_reducible exact Ex.refl _) | (with_reducible refine Ex.alloc ?_ _) | (with_reducible refine Ex.ext ?_ _ _) | (with_reducible refine Ex.drew ?_) | (with_reducible refine Ex.drewN ?_ _)))); rintro e w1 ⟨rfl, l1, d1, rfl⟩)
        go_wp2_with (at_builtin; refine wpList_append_two rfl (.tmp 27) (.tmp 29) 48 48 rfl 54 i0 _ 2 16 Tryd.underlying48 hi0 hz0 hz1 hz2 rfl (.slice av B.length cv) (.slice (some ⟨wr.heap.size + 1 + l1.length + 1, 0, none⟩) 1 1) B.length 1 (flat Fil.cells B) (Fil.cells f) rfl rfl ?_ ?_ ?_ ?_ ?_)
        focus exact (HV.out.ex (by repeat (first | (with_reducible exact Ex.refl _) | (with_reducible refine Ex.alloc ?_ _) | (with_reducible refine Ex.ext ?_ _ _) | (with_reducible refine Ex.drew ?_) | (with_reducible refine Ex.drewN ?_ _)))).1
        focus exact (Src.block Tryd.underlying48 1 1 (cs := #[.int .i64 f.id, .int .i64 f.qty]) (t := 54) (fr := (0, 0)) (heap_new (by simp [go_sem])) (by simp) (by simp [Value.oneCell']))
        focus (unfold maxLen; omega)
        focus omega
        intro v' w' hrow hgrow hown
        have H2 := Lib.hid (two_step (by repeat (first | (with_reducible exact Ex.refl _) | (with_reducible refine Ex.alloc ?_ _) | (with_reducible refine Ex.ext ?_ _ _) | (with_reducible refine Ex.drew ?_) | (with_reducible refine Ex.drewN ?_ _))) HV.out HU.out (Nat.le_succ _) hlt0 HTW.out HEX.out hrow hgrow hown (by first | omega | (simp [go_sem]; done) | (simp [go_sem]; omega)))
        have HC0 := Lib.hid (hgrow.cell (a := ⟨w.heap.size, 0, none⟩) (v := .pointer (some ⟨p, 0, none⟩)) (by simp [go_sem, ↓IntWalk.iteOmega, hc0]) (fun e => by have h : w.heap.size + 1 ≤ w.heap.size := HV.out.2 _ e.symm; omega))
        clear hrow hgrow hown
        go_wp2_with fail
        go_roundw
        case measure => simp [intOf]; omega
        case rel => exact ⟨k + 1, _, _, rfl, rfl, by omega, by go_num, ⟨HSB.out ▸ H2.out.1, HSS.out ▸ H2.out.2.1, H2.out.2.2.1, H2.out.2.2.2⟩, HC0.out⟩
      · have hs0 : (xs == 0) = false := by simpa using hs
        rw [hs0, if_neg (by decide)] at HSB HSS
        rw [List.append_nil] at HSB
        clear hs
        go_upto_region 7 with (go_at_call 17; ((with_reducible refine (HGX.out _ ?_).mono ?_)); (focus exact HEX.out.trans (by repeat (first | (with_reducible exact Ex.refl _) | (with_reducible refine Ex.alloc ?_ _) | (with_reducible refine Ex.ext ?_ _ _) | (with_reducible refine Ex.drew ?_) | (with_reducible refine Ex.drewN ?_ _)))); rintro e w1 ⟨rfl, l1, d1, rfl⟩)
        go_wp2_with (at_builtin; refine wpList_append_two rfl (.tmp 31) (.tmp 33) 48 48 rfl 54 i0 _ 2 16 Tryd.underlying48 hi0 hz0 hz1 hz2 rfl (.slice au S.length cu) (.slice (some ⟨wr.heap.size + 1 + l1.length + 1, 0, none⟩) 1 1) S.length 1 (flat Fil.cells S) (Fil.cells f) rfl rfl ?_ ?_ ?_ ?_ ?_)
        focus exact (HU.out.ex (by repeat (first | (with_reducible exact Ex.refl _) | (with_reducible refine Ex.alloc ?_ _) | (with_reducible refine Ex.ext ?_ _ _) | (with_reducible refine Ex.drew ?_) | (with_reducible refine Ex.drewN ?_ _)))).1
        focus exact (Src.block Tryd.underlying48 1 1 (cs := #[.int .i64 f.id, .int .i64 f.qty]) (t := 54) (fr := (0, 0)) (heap_new (by simp [go_sem])) (by simp) (by simp [Value.oneCell']))
        focus (unfold maxLen; omega)
        focus omega
        intro v' w' hrow hgrow hown
        have H2 := Lib.hid (two_step (by repeat (first | (with_reducible exact Ex.refl _) | (with_reducible refine Ex.alloc ?_ _) | (with_reducible refine Ex.ext ?_ _ _) | (with_reducible refine Ex.drew ?_) | (with_reducible refine Ex.drewN ?_ _))) HU.out HV.out (Nat.le_succ _) hlt0 HTW.out.symm HEX.out hrow hgrow hown (by first | omega | (simp [go_sem]; done) | (simp [go_sem]; omega)))
        have HC0 := Lib.hid (hgrow.cell (a := ⟨w.heap.size, 0, none⟩) (v := .pointer (some ⟨p, 0, none⟩)) (by simp [go_sem, ↓IntWalk.iteOmega, hc0]) (fun e => by have h : w.heap.size + 1 ≤ w.heap.size := HU.out.2 _ e.symm; omega))
        clear hrow hgrow hown
        go_wp2_with fail
        go_roundw
        case measure => simp [intOf]; omega
        case rel => exact ⟨k + 1, _, _, rfl, rfl, by omega, by go_num, ⟨HSB.out ▸ H2.out.2.1, HSS.out ▸ H2.out.1, H2.out.2.2.1.symm, H2.out.2.2.2⟩, HC0.out⟩
    · have e : F.take k = F := List.take_of_length_le (by omega)
      go_wp2_with fail
      all_goals go_ret2
      all_goals exact ⟨_, _, rfl, by rw [show buysOf L F = buysOf L (F.take k) by rw [e]]; exact HV.out, by rw [show sellsOf L F = sellsOf L (F.take k) by rw [e]]; exact HU.out, HTW.out, HEX.out⟩
end
end Go.Proofs.YtmbboflakfokhaaDoor
