import Derived.Test.YtabbgpjofkaomaaGreatDoorJ7
import Derived.Test.YtabbgpjofkaomaaGreatDoorWire
import Derived.BigQuiet
import Derived.Deep.QuietTactic
import Derived.Laws.Rows
import Derived.Deep.RegionHeld3
import Derived.Deep.CutBlock
import Derived.Test.YtabbgpjofkaomaaGreatDoorJ0
import Derived.Deep.AppendSrc
import Derived.Laws.AppendOwn
import Derived.Maps.Own
import Derived.Maps.Views
import Derived.Test.YtabbgpjofkaomaaGreatDoorJ1
set_option linter.unusedSimpArgs false
set_option linter.unusedVariables false
/- What the small methods of a floor compute: right, asked, Book, Purse, Band. -/
namespace Go.Proofs.YtabbgpjofkaomaaGreatDoor
open Go.RowKit
theorem fright_any (n:Int) (w:World):Calls Tryz.prog 60 #[.int .i64 n] w fun e w'=>e=.returned (.bool (inR n 0 2))∧Ex w w':=by
 by_cases h:0≤n
 ·by_cases h':n<3
  ·rw [show inR n 0 2=true from inR_iff.2 (by omega)]
   go_enter Tryz.func60,Tryz.ntmps60
   go_wp2
   all_goals go_ret
   all_goals exact ⟨rfl,(by repeat (first|exact Ex.refl _|refine Ex.alloc ?_ _|refine Ex.ext ?_ _ _|refine Ex.drew ?_|refine Ex.drewN ?_ _))⟩
  ·rw [show inR n 0 2=false from inR_not.2 (by omega)]
   go_enter Tryz.func60,Tryz.ntmps60
   go_wp2
   all_goals go_ret
   all_goals exact ⟨rfl,(by repeat (first|exact Ex.refl _|refine Ex.alloc ?_ _|refine Ex.ext ?_ _ _|refine Ex.drew ?_|refine Ex.drewN ?_ _))⟩
 ·rw [show inR n 0 2=false from inR_not.2 (by omega)]
  go_enter Tryz.func60,Tryz.ntmps60
  go_wp2
  all_goals go_ret
  all_goals exact ⟨rfl,(by repeat (first|exact Ex.refl _|refine Ex.alloc ?_ _|refine Ex.ext ?_ _ _|refine Ex.drew ?_|refine Ex.drewN ?_ _))⟩
def askedE (a:Ask) (kind:Int):Nat:=if a.err=0 then (if a.kind==kind then 0 else 4) else a.err
theorem asked_any (a:Ask) (kind:Int) (E:Nat→Addr) (w:World) (hE:Errs E [2,3,4] w):Calls Tryz.prog 148 #[a.val,.int .u8 kind] w fun e w'=>e=.returned (errV E (askedE a kind))∧Ex w w':=by
 have HC:=Lib.hid (fun w h=>wireCheck_any a E w h)
 have e4:w.cell? ⟨5,0,none⟩=some (.iface 357 (.pointer (some (E 4)))):=hE 4 (by decide)
 have b4:5<w.heap.size:=lt_of_cell e4
 have HE:=Lib.hid hE;clear hE
 by_cases he:a.err=0
 ·have ha:askedE a kind=if a.kind==kind then 0 else 4:=if_pos he
  rw [ha]
  rw [he,errV_zero] at HC
  clear ha he
  cases hk:(a.kind==kind) with
  | true =>
   have hk2:(a.kind != kind)=false:=by simp [bne,hk]
   simp only [if_true,errV_zero]
   go_enter Tryz.func148,Tryz.ntmps148
   go_wp2_with (go_at_call 109;refine (HC.out _ (HE.out.ex (by repeat (first|exact Ex.refl _|refine Ex.alloc ?_ _|refine Ex.ext ?_ _ _|refine Ex.drew ?_|refine Ex.drewN ?_ _)))).mono ?_;rintro e w1 ⟨rfl,l1,d1,rfl⟩)
   all_goals go_ret
   all_goals exact ⟨rfl,(by repeat (first|exact Ex.refl _|refine Ex.alloc ?_ _|refine Ex.ext ?_ _ _|refine Ex.drew ?_|refine Ex.drewN ?_ _))⟩
  | false =>
   have hk2:(a.kind != kind)=true:=by simp [bne,hk]
   simp only [Bool.false_eq_true,if_false,errV_pos E 4 (by decide)]
   go_enter Tryz.func148,Tryz.ntmps148
   go_wp2_with (go_at_call 109;refine (HC.out _ (HE.out.ex (by repeat (first|exact Ex.refl _|refine Ex.alloc ?_ _|refine Ex.ext ?_ _ _|refine Ex.drew ?_|refine Ex.drewN ?_ _)))).mono ?_;rintro e w1 ⟨rfl,l1,d1,rfl⟩)
   all_goals go_ret
   all_goals exact ⟨rfl,(by repeat (first|exact Ex.refl _|refine Ex.alloc ?_ _|refine Ex.ext ?_ _ _|refine Ex.drew ?_|refine Ex.drewN ?_ _))⟩
 ·have ha:askedE a kind=a.err:=if_neg he
  rw [ha,errV_pos E _ he]
  rw [errV_pos E _ he] at HC
  clear ha he
  go_enter Tryz.func148,Tryz.ntmps148
  go_wp2_with (go_at_call 109;refine (HC.out _ (HE.out.ex (by repeat (first|exact Ex.refl _|refine Ex.alloc ?_ _|refine Ex.ext ?_ _ _|refine Ex.drew ?_|refine Ex.drewN ?_ _)))).mono ?_;rintro e w1 ⟨rfl,l1,d1,rfl⟩)
  all_goals go_ret
  all_goals exact ⟨rfl,(by repeat (first|exact Ex.refl _|refine Ex.alloc ?_ _|refine Ex.ext ?_ _ _|refine Ex.drew ?_|refine Ex.drewN ?_ _))⟩
theorem asked_zero {a:Ask} {kind:Int} (h:askedE a kind=0):a.err=0∧a.kind=kind:=by
 unfold askedE at h
 split at h
 ·rename_i he
  split at h
  ·rename_i hk;exact ⟨he,by simpa using hk⟩
  ·cases h
 ·rename_i he;exact absurd h he
section
variable {own:Nat→Nat} {c:Nat} {w:World} {A:FlA} {st:FSt}
set_option maxRecDepth 100000 in
theorem fbook_in (h:FlAt own c w A st) (k:Nat) (hk:k<3):Calls Tryz.prog 22 #[.pointer (some ⟨A.f,0,none⟩),.int .i64 (k:Int)] w fun e w'=>e=.returned (.pointer (some ⟨A.bp k,0,none⟩))∧Ex w w':=by
 obtain ⟨c0,_,_,_,hf⟩:=h.cells
 obtain ⟨i0,_,_⟩:=h.items hk
 have hg:=h.rowLt
 have HR:=Lib.hid (fun w=>fright_any (k:Int) w)
 rw [inR_iff.2 (by omega)] at HR
 have k3:(k:Int)<3:=by omega
 clear h
 go_enter Tryz.func22,Tryz.ntmps22
 go_wp2_with (go_at_call 60;refine (HR.out _).mono ?_;rintro e w1 ⟨rfl,l1,d1,rfl⟩)
 all_goals go_ret
 all_goals exact ⟨rfl,(by repeat (first|exact Ex.refl _|refine Ex.alloc ?_ _|refine Ex.ext ?_ _ _|refine Ex.drew ?_|refine Ex.drewN ?_ _))⟩
end
end Go.Proofs.YtabbgpjofkaomaaGreatDoor

/- A floor inside a method, beside what the method itself holds: the errors, cells of its own, rows of its own. -/
namespace Go.Proofs.YtabbgpjofkaomaaGreatDoor
open Go.RowKit
def GE (L:List Nat) (n:Nat):Prop:=∃ e∈L,n=gOf e
def Blk (W:World) (b:Nat) (vs:Array Value) (t:TypeId):Prop:=W.heap[b]?=some (.cells vs t (0,0))
theorem Blk.lt {W:World} {b:Nat} {vs:Array Value} {t:TypeId} (h:Blk W b vs t):b<W.heap.size:=(Array.getElem?_eq_some_iff.1 h).1
theorem Blk.cell {W:World} {b:Nat} {vs:Array Value} {t:TypeId} (h:Blk W b vs t) (j:Nat):W.cell? ⟨b,j,none⟩=vs[j]?:=by simp [World.cell?,show W.heap[b]?=_ from h]
theorem Blk.free {W:World} {b:Nat} {vs:Array Value} {t:TypeId} (h:Blk W b vs t) (j:Nat):W.frozen? ⟨b,j,none⟩=false:=by simp [World.frozen?,show W.heap[b]?=_ from h]
theorem Blk.new {W:World} {b:Nat} {vs:Array Value} {t:TypeId} (h:b=W.heap.size):Blk (W.alloc (.cells vs t)) b vs t:=by subst h;exact heap_alloc_new W _
theorem Blk.ex {W W':World} {b:Nat} {vs:Array Value} {t:TypeId} (h:Blk W b vs t) (hx:Ex W W'):Blk W' b vs t:=(hx.below.block b h.lt).trans h
theorem Blk.alloc {W:World} {b:Nat} {vs:Array Value} {t:TypeId} (h:Blk W b vs t) (o:Obj):Blk (W.alloc o) b vs t:=h.ex ((Ex.refl W).alloc o)
theorem Blk.ext {W:World} {b:Nat} {vs:Array Value} {t:TypeId} (h:Blk W b vs t) (l:List Obj) (d:Nat):Blk (ext W l d) b vs t:=h.ex ((Ex.refl W).ext l d)
theorem Blk.drew {W:World} {b:Nat} {vs:Array Value} {t:TypeId} (h:Blk W b vs t):Blk W.drew b vs t:=h
theorem Blk.drewN {W:World} {b:Nat} {vs:Array Value} {t:TypeId} (h:Blk W b vs t) (n:Nat):Blk (W.drewN n) b vs t:=h
theorem Blk.set {W:World} {b:Nat} {vs:Array Value} {t:TypeId} (h:Blk W b vs t) (j:Nat) (v:Value):Blk (W.setCell ⟨b,j,none⟩ v) b (vs.setIfInBounds j v) t:=heap_setCell_same W b j vs t v h
theorem Blk.other {W:World} {b:Nat} {vs:Array Value} {t:TypeId} (h:Blk W b vs t) (a:Addr) (v:Value) (hne:b≠a.block):Blk (W.setCell a v) b vs t:=(heap_setCell_other W a b v hne).trans h
abbrev Bl:=Nat × Array Value × TypeId
def Has (cs:List Bl) (W:World):Prop:=∀ t∈cs,Blk W t.1 t.2.1 t.2.2
theorem Has.cons {b:Nat} {vs:Array Value} {t:TypeId} {cs:List Bl} {W:World} (h:Has ((b,vs,t)::cs) W):Blk W b vs t∧Has cs W:=⟨h (b,vs,t) (by simp),fun u hu=>h u (by simp [hu])⟩
theorem Has.mk {b:Nat} {vs:Array Value} {t:TypeId} {cs:List Bl} {W:World} (h:Blk W b vs t) (k:Has cs W):Has ((b,vs,t)::cs) W:=fun u hu=>by
 rcases List.mem_cons.1 hu with rfl|hu
 ·exact h
 ·exact k u hu
theorem Has.nil (W:World):Has [] W:=fun u hu=>by cases hu
def FS (L:List Nat) (cs:List Bl) (T:Nat→Prop) (n:Nat):Prop:=GE L n∨(∃ t∈cs,t.1=n)∨T n
def NoT (_:Nat):Prop:=False
structure FlX (own:Nat→Nat) (c:Nat) (w:World) (A:FlA) (st:FSt) (E:Nat→Addr) (L:List Nat) (cs:List Bl) (T:Nat→Prop) (W:World):Prop where
 fl:FlB own c w A st (FS L cs T) W
 errs:Errs E L W
 has:Has cs W
 low:∀ e∈L,gOf e<w.heap.size
theorem Errs.same {E:Nat→Addr} {L:List Nat} {S:Nat→Prop} {W W':World} (h:Errs E L W) (hs:Same S W W') (hS:∀ n,GE L n→S n):Errs E L W':=fun e he=>(hs.cell (hS _ ⟨e,he,rfl⟩)).trans (h e he)
theorem Has.same {cs:List Bl} {S:Nat→Prop} {W W':World} (h:Has cs W) (hs:Same S W W') (hS:∀ t∈cs,S t.1):Has cs W':=fun t ht=>(hs.1 t.1 (hS t ht)).trans (h t ht)
theorem Has.ex {cs:List Bl} {W W':World} (h:Has cs W) (hx:Ex W W'):Has cs W':=fun t ht=>(h t ht).ex hx
section
variable {own:Nat→Nat} {c k:Nat} {w W W':World} {A:FlA} {st st':FSt} {E:Nat→Addr} {L:List Nat} {cs cs':List Bl} {T T':Nat→Prop}
theorem FlX.start (h:FlAt own c w A st) (hE:Errs E L w) (hg:∀ n,GE L n→own n / 8≠c) (hT:∀ n,T n→n<w.heap.size∧own n / 8≠c):FlX own c w A st E L [] T w :=
 ⟨FlB.start h fun n hn=>by
  rcases hn with ⟨e,he,rfl⟩|⟨t,ht,_⟩|hn
  ·exact ⟨lt_of_cell (hE e he),hg _ ⟨e,he,rfl⟩⟩
  ·cases ht
  ·exact hT n hn,hE,Has.nil _,fun e he=>lt_of_cell (hE e he)⟩
theorem FlX.begin (h:FlAt own c w A st) (hE:Errs E L w) (hg:∀ n,GE L n→own n / 8≠c) (hc:Has cs w) (hcs:∀ t∈cs,own t.1 / 8≠c) (hT:∀ n,T n→n<w.heap.size∧own n / 8≠c):FlX own c w A st E L cs T w :=
 ⟨FlB.start h fun n hn=>by
  rcases hn with ⟨e,he,rfl⟩|⟨t,ht,rfl⟩|hn
  ·exact ⟨lt_of_cell (hE e he),hg _ ⟨e,he,rfl⟩⟩
  ·exact ⟨(hc t ht).lt,hcs t ht⟩
  ·exact hT n hn,hE,hc,fun e he=>lt_of_cell (hE e he)⟩
theorem FlX.later (X:FlX own c w A st E L cs T W) (hx:Ex W W'):FlX own c w A st E L cs T W':=⟨X.fl.later hx,X.errs.ex hx,X.has.ex hx,X.low⟩
theorem FlX.add (X:FlX own c w A st E L cs T W) (hx:Ex W W') (hn:∀ t∈cs',W.heap.size≤t.1) (hc:Has cs' W'):FlX own c w A st E L (cs'++cs) T W' :=
 ⟨X.fl.more hx fun n hn'=>by
  rcases hn' with h|⟨t,ht,rfl⟩|h
  ·exact .inl (.inl h)
  ·rcases List.mem_append.1 ht with ht|ht
   ·exact .inr ⟨hn t ht,(hc t ht).lt⟩
   ·exact .inl (.inr (.inl ⟨t,ht,rfl⟩))
  ·exact .inl (.inr (.inr h)),X.errs.ex hx,fun t ht=>by
  rcases List.mem_append.1 ht with ht|ht
  ·exact hc t ht
  ·exact X.has.ex hx t ht,X.low⟩
theorem FlX.addT (X:FlX own c w A st E L cs NoT W) (hx:Ex W W') (hT:∀ n,T n→W.heap.size≤n∧n<W'.heap.size):FlX own c w A st E L cs T W' :=
 ⟨X.fl.more hx fun n hn=>by
  rcases hn with h|h|h
  ·exact .inl (.inl h)
  ·exact .inl (.inr (.inl h))
  ·exact .inr (hT n h),X.errs.ex hx,X.has.ex hx,X.low⟩
theorem FlX.less (X:FlX own c w A st E L cs T W) (hc:∀ t∈cs',t∈cs) (hT:∀ n,T' n→T n):FlX own c w A st E L cs' T' W :=
 ⟨X.fl.less fun n hn=>by
  rcases hn with h|⟨t,ht,rfl⟩|h
  ·exact .inl h
  ·exact .inr (.inl ⟨t,hc t ht,rfl⟩)
  ·exact .inr (.inr (hT n h)),X.errs,fun t ht=>X.has t (hc t ht),X.low⟩
theorem FlX.same (X:FlX own c w A st E L cs T W) (hB:FlB own c w A st' (FS L cs T) W') (hs:Same (FS L cs T) W W'):FlX own c w A st' E L cs T W' :=
 ⟨hB,X.errs.same hs fun n hn=>.inl hn,X.has.same hs fun t ht=>.inr (.inl ⟨t,ht,rfl⟩),X.low⟩
theorem FlX.out (X:FlX own c w A st E L cs T W):FlG own c w A st W:=X.fl.out
theorem FlX.size (X:FlX own c w A st E L cs T W):w.heap.size≤W.heap.size:=X.fl.size
theorem FlX.cells (X:FlX own c w A st E L cs T W):W.cell? ⟨A.f,0,none⟩=some (.slice (some ⟨A.rg,0,none⟩) 3 A.cap)∧W.cell? ⟨A.f,1,none⟩=some (.pointer (some ⟨A.pp,0,none⟩))∧W.cell? ⟨A.f,2,none⟩=some (.int .i64 A.wd)∧W.cell? ⟨A.f,3,none⟩=some (.int .i64 A.hl)∧A.f<W.heap.size:=X.fl.cells
theorem FlX.items (X:FlX own c w A st E L cs T W) (hk:k<3):W.cell? ⟨A.rg,k*3,none⟩=some (.pointer (some ⟨A.bp k,0,none⟩))∧W.cell? ⟨A.rg,k*3+1,none⟩=some (.int .i64 (st.ref k))∧W.cell? ⟨A.rg,k*3+2,none⟩=some (.int .i64 (st.left k))∧A.rg<W.heap.size:=X.fl.items hk
theorem FlX.rowF (X:FlX own c w A st E L cs T W) (n:Nat):W.frozen? ⟨A.rg,n,none⟩=false:=by
 obtain ⟨o,h⟩:=X.fl.at
 exact h.rowF n
section
variable {F:FuncId} {args:Array Value} {P:Ending→Prop} {Q:Ending→World→Prop}
theorem FlX.call (X:FlX own c w A st E L cs T W) (hC:∀ o,FlAt o c W A st→Errs E L W→(∀ n,GE L n→o n / 8≠c)→Calls Tryz.prog F args W fun e w'=>P e∧FlG o c W A st' w') :
  Calls Tryz.prog F args W fun e w'=>P e∧FlX own c w A st' E L cs T w':=by
 obtain ⟨hB,hE,hc,hlow⟩:=X
 obtain ⟨h1,o,h2,h3,h4,h5⟩:=hB
 have hB':FlB o c W A st (FS L cs T) W:=FlB.start h2 h4
 refine (hC o h2 hE fun n hn=>(h4 n (.inl hn)).2).mono fun e w' ⟨he,hT⟩=>⟨he,?_⟩
 obtain ⟨k1,o2,k2,k3⟩:=hT
 have hs:Same (FS L cs T) W w':=⟨fun n hn=>k1.block n (h4 n hn).1 (h4 n hn).2,k1.size⟩
 refine FlX.same ⟨⟨h1,o,h2,h3,h4,h5⟩,hE,hc,hlow⟩ ⟨h1.chain k1 h5,tight o2 c w'.heap.size,k3.relabel (fun n hn _=>tight_lt hn),fun n hn=>tight_ge hn,fun n hn=>?_,fun n hn=>?_⟩ hs
 ·have hlt:=Nat.lt_of_lt_of_le (h4 n hn).1 k1.size
  refine ⟨hlt,?_⟩
  rw [tight_lt hlt,k2 n (h4 n hn).1]
  exact (h4 n hn).2
 ·have hlt:=Nat.lt_of_lt_of_le hn h1.size
  rw [tight_lt (Nat.lt_of_lt_of_le hlt k1.size),k2 n hlt]
  exact h5 n hn
theorem FlX.callT (X:FlX own c w A st E L cs T W) (hC:∀ o,FlAt o c W A st→Errs E L W→(∀ n,GE L n→o n / 8≠c)→Calls Tryz.prog F args W fun e w'=>P e∧FlG o c W A st' w') :
  Calls Tryz.prog F args W fun e w'=>P e∧FlX own c w A st' E L cs T w'∧∀ n,T n→w'.heap[n]?=W.heap[n]?:=by
 obtain ⟨hB,hE,hc,hlow⟩:=X
 obtain ⟨h1,o,h2,h3,h4,h5⟩:=hB
 refine (hC o h2 hE fun n hn=>(h4 n (.inl hn)).2).mono fun e w' ⟨he,hT⟩=>⟨he,?_⟩
 obtain ⟨k1,o2,k2,k3⟩:=hT
 have hs:Same (FS L cs T) W w':=⟨fun n hn=>k1.block n (h4 n hn).1 (h4 n hn).2,k1.size⟩
 refine ⟨FlX.same ⟨⟨h1,o,h2,h3,h4,h5⟩,hE,hc,hlow⟩ ⟨h1.chain k1 h5,tight o2 c w'.heap.size,k3.relabel (fun n hn _=>tight_lt hn),fun n hn=>tight_ge hn,fun n hn=>?_,fun n hn=>?_⟩ hs,fun n hn=>hs.1 n (.inr (.inr hn))⟩
 ·have hlt:=Nat.lt_of_lt_of_le (h4 n hn).1 k1.size
  refine ⟨hlt,?_⟩
  rw [tight_lt hlt,k2 n (h4 n hn).1]
  exact (h4 n hn).2
 ·have hlt:=Nat.lt_of_lt_of_le hn h1.size
  rw [tight_lt (Nat.lt_of_lt_of_le hlt k1.size),k2 n hlt]
  exact h5 n hn
theorem FlX.book {l':List Lot} (X:FlX own c w A st E L cs T W) (hk:k<3) (hC:∀ o i,BookAt o i W (A.bp k) (st.b k)→Calls Tryz.prog F args W fun e w'=>P e∧ObjTo o i i W (fun o' w'=>BookAt o' i w' (A.bp k) l') w') :
  Calls Tryz.prog F args W fun e w'=>P e∧FlX own c w A (st.setB k l') E L cs T w' :=
 X.call fun o h _ _=>(hC o _ (h.book k hk)).mono fun e w' ⟨he,hT⟩=>⟨he,h.setBook hk hT⟩
theorem FlX.purse {P':Pu} (X:FlX own c w A st E L cs T W) (hC:∀ o i,PurseAt o i W A.pp st.p→Calls Tryz.prog F args W fun e w'=>P e∧ObjTo o i i W (fun o' w'=>PurseAt o' i w' A.pp P') w') :
  Calls Tryz.prog F args W fun e w'=>P e∧FlX own c w A (st.setP P') E L cs T w' :=
 X.call fun o h _ _=>(hC o _ h.purse).mono fun e w' ⟨he,hT⟩=>⟨he,h.setPurse hT⟩
theorem FlX.readB (X:FlX own c w A st E L cs T W) (hk:k<3) (hC:∀ o i,BookAt o i W (A.bp k) (st.b k)→Calls Tryz.prog F args W fun e w'=>Q e w'∧Ex W w') :
  Calls Tryz.prog F args W fun e w'=>Q e w'∧Ex W w':=X.fl.readB hk hC
end
theorem FlX.band (X:FlX own c w A st E L cs T W) (hk:k<3) (r l:Int):FlX own c w A (st.setN k r l) E L cs T ((W.setCell ⟨A.rg,k*3+1,none⟩ (.int .i64 r)).setCell ⟨A.rg,k*3+2,none⟩ (.int .i64 l)) :=
 X.same (X.fl.band hk r l).1 (X.fl.band hk r l).2
theorem FlX.grown {row:Option Nat} (X:FlX own c w A st E L cs T W) (hg:W.grownBy W' row) (hr:∀ b,row=some b→T b∧w.heap.size≤b∧(∀ t∈cs,t.1≠b)) (hT:∀ n,T' n→T n∨(W.heap.size≤n∧n<W'.heap.size)):FlX own c w A st E L cs T' W':=by
 have hlt:∀ n,FS L cs T n→n<W.heap.size:=fun n hn=>X.fl.lt hn
 refine ⟨X.fl.grown hg (fun b hb=>⟨.inr (.inr (hr b hb).1),(hr b hb).2.1⟩) (fun n hn=>?_),fun e he=>?_,fun t ht=>(hg.block _ (hlt _ (.inr (.inl ⟨t,ht,rfl⟩))) fun e2=>(hr _ e2.symm).2.2 t ht rfl).trans (X.has t ht),X.low⟩
 ·rcases hn with h|h|h
  ·exact .inl (.inl h)
  ·exact .inl (.inr (.inl h))
  ·rcases hT n h with h|h
   ·exact .inl (.inr (.inr h))
   ·exact .inr h
 ·exact (World.cell?_of_block (hg.block _ (hlt _ (.inl ⟨e,he,rfl⟩)) fun e2=>by have h1:=(hr _ e2.symm).2.1;have h2:=X.low e he;simp only at h1;omega)).trans (X.errs e he)
theorem FlX.turned {b:Nat} (X:FlX own c w A st E L cs T W) (hg:W.grownBy W' (some b)) (hb:∃ t∈cs,t.1=b) (hw:w.heap.size≤b) (hc:Has cs' W') (hs:∀ t∈cs',∃ u∈cs,u.1=t.1):FlX own c w A st E L cs' T W':=by
 have hlt:∀ n,FS L cs T n→n<W.heap.size:=fun n hn=>X.fl.lt hn
 have hS:∀ n,FS L cs' T n→FS L cs T n:=fun n hn=>by
  rcases hn with h|⟨t,ht,rfl⟩|h
  ·exact .inl h
  ·exact .inr (.inl (hs t ht))
  ·exact .inr (.inr h)
 refine ⟨X.fl.grown hg (fun b' e=>?_) (fun n hn=>.inl (hS n hn)),fun e he=>?_,hc,X.low⟩
 ·cases e
  exact ⟨.inr (.inl hb),hw⟩
 ·exact (World.cell?_of_block (hg.block _ (hlt _ (.inl ⟨e,he,rfl⟩)) fun e2=>by
   have h1:gOf e=b:=by injection e2
   have h2:=X.low e he
   omega)).trans (X.errs e he)
end
section
variable {W W1:World} {row:Option Nat} {b:Nat}
theorem grownBy_self (W:World) (row:Option Nat):W.grownBy W row:=⟨rfl,rfl,rfl,Nat.le_refl _,fun _ _ _=>rfl⟩
theorem grownBy_set (h:W.grownBy W1 (some b)) (j:Nat) (v:Value):W.grownBy (W1.setCell ⟨b,j,none⟩ v) (some b) :=
 ⟨h.os,h.tape,h.output,by simpa [World.setCell] using h.size,fun k hk hne=>(heap_setCell_other W1 ⟨b,j,none⟩ k v (fun e=>hne (by rw [e]))).trans (h.block k hk hne)⟩
end
end Go.Proofs.YtabbgpjofkaomaaGreatDoor

/- What Place of a floor computes. -/
namespace Go.Proofs.YtabbgpjofkaomaaGreatDoor
open Go.RowKit
def lotOf (a:Ask):Lot:=⟨a.id,a.client,a.side,a.price,a.qty⟩
theorem lotOf_wf {a:Ask} (h:a.err=0):(lotOf a).wf:=by
 obtain ⟨b1,b2,b3,b4,b5,b6,b7,_⟩:=Ask.bounds h
 unfold lotOf Lot.wf
 refine ⟨?_,?_,?_,?_,?_⟩<;>simp [Lit.wf,IntKind.min,IntKind.max,IntKind.bits,IntKind.signed]<;>omega
def fplaceE (st:FSt) (a:Ask):Nat:=if askedE a 111=0 then placeE st a.item.toNat (lotOf a) else askedE a 111
def fplaceS (st:FSt) (a:Ask):FSt:=if askedE a 111=0 then placeS st a.item.toNat (lotOf a) else st
theorem FSt.setB_self (st:FSt) (k:Nat) (l l':List Lot) (h:st.b k=l):(st.setB k l').setB k l=st:=by
 unfold FSt.setB
 cases st
 simp only [FSt.mk.injEq,and_true] at *
 funext j
 by_cases e:j=k
 ·subst e;rw [if_pos rfl];exact h.symm
 ·rw [if_neg e,if_neg e]
section
variable {own:Nat→Nat} {c:Nat} {w:World} {A:FlA} {st:FSt} {E:Nat→Addr}
set_option maxRecDepth 100000 in
theorem fplace_bad (h:FlAt own c w A st) (hE:Errs E [2,3,4,6,7,8,10] w) (a:Ask) (hk:askedE a 111≠0) :
  Calls Tryz.prog 119 #[.pointer (some ⟨A.f,0,none⟩),a.val] w fun e w'=>e=.returned (errV E (fplaceE st a))∧FlG own c w A (fplaceS st a) w':=by
 have hs:fplaceS st a=st:=if_neg hk
 have he:fplaceE st a=askedE a 111:=if_neg hk
 rw [hs,he]
 have HK:=Lib.hid (fun w h=>asked_any a 111 E w h)
 rw [errV_pos E _ hk] at HK ⊢
 have HG:=Lib.hid (FlG.refl h)
 have HE:=Lib.hid hE
 clear h hs he hk hE
 go_enter Tryz.func119,Tryz.ntmps119
 go_wp2_with (go_at_call 148;refine (HK.out _ (by exact Errs.sub (HE.out.ex (by repeat (first|exact Ex.refl _|refine Ex.alloc ?_ _|refine Ex.ext ?_ _ _|refine Ex.drew ?_|refine Ex.drewN ?_ _))) (by decide))).mono ?_;rintro e w1 ⟨rfl,l1,d1,rfl⟩)
 all_goals go_ret
 all_goals exact ⟨rfl,HG.out.later (by repeat (first|exact Ex.refl _|refine Ex.alloc ?_ _|refine Ex.ext ?_ _ _|refine Ex.drew ?_|refine Ex.drewN ?_ _))⟩
def lotA (x:Lot):Array Value:=#[.int .i64 x.id,.int .i64 x.owner,.int .i64 x.side,.int .i64 x.price,.int .i64 x.qty]
theorem Blk.lot {W:World} {b:Nat} {x:Lot} {t:TypeId} (h:Blk W b (lotA x) t):W.cell? ⟨b,0,none⟩=some (.int .i64 x.id)∧W.cell? ⟨b,1,none⟩=some (.int .i64 x.owner)∧W.cell? ⟨b,2,none⟩=some (.int .i64 x.side)∧W.cell? ⟨b,3,none⟩=some (.int .i64 x.price)∧W.cell? ⟨b,4,none⟩=some (.int .i64 x.qty) :=
 ⟨h.cell 0,h.cell 1,h.cell 2,h.cell 3,h.cell 4⟩
def askA (a:Ask):Array Value:=#[.int .u8 a.kind,.int .i64 a.client,.int .i64 a.seq,.int .i64 a.item,.int .i64 a.side,.int .i64 a.price,.int .i64 a.qty,.int .i64 a.id]
def PlC (lx bx:Nat) (x:Lot) (a:Ask):List Bl:=[(lx,lotA x,131),(bx,askA a,45)]++[]
theorem PlC.has {lx bx:Nat} {x:Lot} {a:Ask} {L:List Nat} {T:Nat→Prop} {W:World} (X:FlX own c w A st E L (PlC lx bx x a) T W):W.cell? ⟨A.f,1,none⟩=some (.pointer (some ⟨A.pp,0,none⟩))∧W.cell? ⟨lx,0,none⟩=some (.int .i64 x.id)∧W.cell? ⟨lx,1,none⟩=some (.int .i64 x.owner)∧W.cell? ⟨lx,2,none⟩=some (.int .i64 x.side)∧W.cell? ⟨lx,3,none⟩=some (.int .i64 x.price)∧W.cell? ⟨lx,4,none⟩=some (.int .i64 x.qty)∧W.cell? ⟨bx,3,none⟩=some (.int .i64 a.item):=by
 have hh:=X.has
 obtain ⟨b0,hh⟩:=hh.cons
 obtain ⟨b1,hh⟩:=hh.cons
 obtain ⟨c0,c1,c2,c3,c4⟩:=b0.lot
 exact ⟨X.cells.2.1,c0,c1,c2,c3,c4,b1.cell 3⟩
theorem setB_cancel {st:FSt} {k:Nat} {x:Lot} (ha:addE (st.b k) x=0):(st.setB k (st.b k++[x])).setB k (cancelR ((st.setB k (st.b k++[x])).b k) x.id).2.2=st:=by
 have e:(st.setB k (st.b k++[x])).b k=st.b k++[x]:=if_pos rfl
 rw [e,cancel_last (addE_new ha).2.1]
 exact FSt.setB_self st k _ _ rfl
set_option maxRecDepth 100000 in
set_option maxHeartbeats 4000000 in
theorem fplace_go (h:FlAt own c w A st) (hE:Errs E [2,3,4,6,7,8,10] w) (hg:∀ n,GE [2,3,4,6,7,8,10] n→own n / 8≠c) (a:Ask) (k:Nat) (hk3:k<3) (hi:a.item=(k:Int)) (hk:askedE a 111=0) :
  Calls Tryz.prog 119 #[.pointer (some ⟨A.f,0,none⟩),a.val] w fun e w'=>e=.returned (errV E (placeE st k (lotOf a)))∧FlG own c w A (placeS st k (lotOf a)) w':=by
 have hwf:=lotOf_wf (asked_zero hk).1
 have HWF:=Lib.hid hwf
 have HK:=Lib.hid (fun w h=>asked_any a 111 E w h)
 rw [hk,errV_zero] at HK
 obtain ⟨c0,c1,_,_,hf⟩:=h.cells
 obtain ⟨i0,_,_⟩:=h.items hk3
 have hrg:=h.rowLt
 have k3:(k:Int)<3:=by omega
 have HX:=Lib.hid (FlX.start (T:=NoT) h hE hg (fun n hn=>hn.elim))
 have HE:=Lib.hid hE
 obtain ⟨x,hx⟩:∃ x,x=lotOf a:=⟨_,rfl⟩
 rw [← hx] at HWF ⊢
 obtain ⟨kind,client,seq,item,side,price,qty,id⟩:=a
 simp only at hi
 subst hi
 simp only [lotOf] at hx
 have HXL:=Lib.hid hx
 clear h hk hE hg hwf hx
 go_enter Tryz.func119,Tryz.ntmps119
 go_upto_region 5 with (go_at_call 148;refine (HK.out _ (by exact Errs.sub (HE.out.ex (by repeat (first|exact Ex.refl _|refine Ex.alloc ?_ _|refine Ex.ext ?_ _ _|refine Ex.drew ?_|refine Ex.drewN ?_ _))) (by decide))).mono ?_;rintro e w1 ⟨rfl,l1,d1,rfl⟩)
 go_region
 go_upto_region 6 with fail
 refine wp_world (R:=fun W=>FlX own c w A st E [2,3,4,6,7,8,10] (PlC (w.heap.size+1+l1.length) w.heap.size ⟨id,client,side,price,qty⟩ ⟨kind,client,seq,(k:Int),side,price,qty,id⟩) NoT W) (HX.out.add (by repeat (first|exact Ex.refl _|refine Ex.alloc ?_ _|refine Ex.ext ?_ _ _|refine Ex.drew ?_|refine Ex.drewN ?_ _)) (fun t ht=>?_) (Has.mk ?_ (Has.mk ?_ (Has.nil _)))) ?_
 focus
  simp only [List.mem_cons,List.not_mem_nil,or_false] at ht
  rcases ht with rfl|rfl<;>simp only<;>omega
 focus exact (by repeat (first|exact Blk.new (by first|omega|(simp [go_sem];done)|(simp [go_sem];omega))|(with_reducible exact Blk.new rfl)|(with_reducible refine Blk.drew ?_)|(with_reducible refine Blk.drewN ?_ _)|(with_reducible refine Blk.ext ?_ _ _)|(with_reducible refine Blk.alloc ?_ _)))
 focus exact (by repeat (first|exact Blk.new (by first|omega|(simp [go_sem];done)|(simp [go_sem];omega))|(with_reducible exact Blk.new rfl)|(with_reducible refine Blk.drew ?_)|(with_reducible refine Blk.drewN ?_ _)|(with_reducible refine Blk.ext ?_ _ _)|(with_reducible refine Blk.alloc ?_ _)))
 clear c0 c1 i0
 have hbl:w.heap.size<w.heap.size+1+l1.length:=by omega
 generalize w.heap.size+1+l1.length=lx at *
 generalize hbx:w.heap.size=bx at *
 rintro W hX
 have HX1:=Lib.hid hX
 obtain ⟨_,b0,b1,b2,b3,b4,_⟩:=PlC.has hX
 clear hX
 by_cases ha:addE (st.b k) x=0
 ·by_cases hh:holdE st.p (k:Int) x=0
  ·have he:placeE st k x=0:=by unfold placeE;rw [if_pos ha];exact hh
   have hs:placeS st k x=(st.setB k (st.b k++[x])).setP (holdP st.p (k:Int) x):=by unfold placeS;rw [if_pos he]
   have HPE:=Lib.hid he;clear he
   have HPS:=Lib.hid hs;clear hs
   have HA:=Lib.hid (fun o i W hb hE=>add_any (own:=o) (i:=i) (w:=W) (p:=A.bp k) (l:=st.b k) hb x HWF.out E hE)
   have hl:addL (st.b k) x=st.b k++[x]:=by unfold addL;rw [if_pos ha]
   rw [ha,errV_zero,hl] at HA
   have HH:=Lib.hid (fun o i W (hb:PurseAt o i W A.pp (st.setB k (st.b k++[x])).p) hE=>hold_any (own:=o) (i:=i) (w:=W) (p:=A.pp) (P:=st.p) hb (k:Int) x E hE)
   rw [hh,errV_zero] at HH
   rw [HXL.out] at HA HH
   clear ha hh hl
   go_wp2_with fail
   refine ((HX1.out.later (by repeat (first|exact Ex.refl _|refine Ex.alloc ?_ _|refine Ex.ext ?_ _ _|refine Ex.drew ?_|refine Ex.drewN ?_ _))).book hk3 (fun o i hb=>HA.out o i _ hb ((HX1.out.later (by repeat (first|exact Ex.refl _|refine Ex.alloc ?_ _|refine Ex.ext ?_ _ _|refine Ex.drew ?_|refine Ex.drewN ?_ _))).errs.sub (by decide)))).mono ?_
   rintro e w2 ⟨rfl,hX2⟩
   have HX2:=Lib.hid hX2
   clear hX2 b0 b1 b2 b3 b4
   go_upto_region 9 with fail
   go_region_held3 (fun W=>W.cell? ⟨A.f,1,none⟩=some (.pointer (some ⟨A.pp,0,none⟩))∧W.cell? ⟨lx,0,none⟩=some (.int .i64 id)∧W.cell? ⟨lx,1,none⟩=some (.int .i64 client)∧W.cell? ⟨lx,2,none⟩=some (.int .i64 side)∧W.cell? ⟨lx,3,none⟩=some (.int .i64 price)∧W.cell? ⟨lx,4,none⟩=some (.int .i64 qty)∧W.cell? ⟨bx,3,none⟩=some (.int .i64 (k:Int)))
    ((first|exact PlC.has (HX3.out.later (by repeat (first|exact Ex.refl _|refine Ex.alloc ?_ _|refine Ex.ext ?_ _ _|refine Ex.drew ?_|refine Ex.drewN ?_ _)))|exact PlC.has (HX2.out.later (by repeat (first|exact Ex.refl _|refine Ex.alloc ?_ _|refine Ex.ext ?_ _ _|refine Ex.drew ?_|refine Ex.drewN ?_ _)))))
    ((go_at_call 150;((with_reducible refine ((HX2.out.later ?_).purse (fun o i hb=>HH.out o i _ hb ?_)).mono ?_));(focus exact (by repeat (first|exact Ex.refl _|refine Ex.alloc ?_ _|refine Ex.ext ?_ _ _|refine Ex.drew ?_|refine Ex.drewN ?_ _)));(focus exact (HX2.out.later (by repeat (first|exact Ex.refl _|refine Ex.alloc ?_ _|refine Ex.ext ?_ _ _|refine Ex.drew ?_|refine Ex.drewN ?_ _))).errs.sub (by decide));rintro e w3 ⟨rfl,hX3⟩;have HX3:=Lib.hid hX3;clear hX3))
   all_goals go_wp2_with fail
   all_goals go_ret
   all_goals exact ⟨by rw [HPE.out];rfl,by rw [HPS.out,HXL.out];exact (HX3.out.later (by repeat (first|exact Ex.refl _|refine Ex.alloc ?_ _|refine Ex.ext ?_ _ _|refine Ex.drew ?_|refine Ex.drewN ?_ _))).out⟩
  ·have he:placeE st k x=holdE st.p (k:Int) x:=by unfold placeE;rw [if_pos ha]
   have hs:placeS st k x=st:=by unfold placeS;rw [he,if_neg hh]
   have HPE:=Lib.hid he;clear he
   have HPS:=Lib.hid hs;clear hs
   have HA:=Lib.hid (fun o i W hb hE=>add_any (own:=o) (i:=i) (w:=W) (p:=A.bp k) (l:=st.b k) hb x HWF.out E hE)
   have hl:addL (st.b k) x=st.b k++[x]:=by unfold addL;rw [if_pos ha]
   rw [ha,errV_zero,hl] at HA
   have hp:holdP st.p (k:Int) x=st.p:=by unfold holdP;rw [if_neg hh]
   have HH:=Lib.hid (fun o i W (hb:PurseAt o i W A.pp (st.setB k (st.b k++[x])).p) hE=>hold_any (own:=o) (i:=i) (w:=W) (p:=A.pp) (P:=st.p) hb (k:Int) x E hE)
   rw [errV_pos E _ hh,hp] at HH
   have HC:=Lib.hid (fun o i W hb hE=>cancel_any (own:=o) (i:=i) (w:=W) (p:=A.bp k) (l:=((st.setB k (st.b k++[x])).setP st.p).b k) hb x.id E hE)
   have HSB:=Lib.hid (setB_cancel (st:=st) (k:=k) (x:=x) ha)
   rw [HXL.out] at HA HH HC HSB
   clear ha hl hp
   go_wp2_with fail
   refine ((HX1.out.later (by repeat (first|exact Ex.refl _|refine Ex.alloc ?_ _|refine Ex.ext ?_ _ _|refine Ex.drew ?_|refine Ex.drewN ?_ _))).book hk3 (fun o i hb=>HA.out o i _ hb ((HX1.out.later (by repeat (first|exact Ex.refl _|refine Ex.alloc ?_ _|refine Ex.ext ?_ _ _|refine Ex.drew ?_|refine Ex.drewN ?_ _))).errs.sub (by decide)))).mono ?_
   rintro e w2 ⟨rfl,hX2⟩
   have HX2:=Lib.hid hX2
   clear hX2 b0 b1 b2 b3 b4
   go_upto_region 9 with fail
   go_region_held3 (fun W=>W.cell? ⟨A.f,1,none⟩=some (.pointer (some ⟨A.pp,0,none⟩))∧W.cell? ⟨lx,0,none⟩=some (.int .i64 id)∧W.cell? ⟨lx,1,none⟩=some (.int .i64 client)∧W.cell? ⟨lx,2,none⟩=some (.int .i64 side)∧W.cell? ⟨lx,3,none⟩=some (.int .i64 price)∧W.cell? ⟨lx,4,none⟩=some (.int .i64 qty)∧W.cell? ⟨bx,3,none⟩=some (.int .i64 (k:Int)))
    ((first|exact PlC.has (HX3.out.later (by repeat (first|exact Ex.refl _|refine Ex.alloc ?_ _|refine Ex.ext ?_ _ _|refine Ex.drew ?_|refine Ex.drewN ?_ _)))|exact PlC.has (HX2.out.later (by repeat (first|exact Ex.refl _|refine Ex.alloc ?_ _|refine Ex.ext ?_ _ _|refine Ex.drew ?_|refine Ex.drewN ?_ _)))))
    ((go_at_call 150;((with_reducible refine ((HX2.out.later ?_).purse (fun o i hb=>HH.out o i _ hb ?_)).mono ?_));(focus exact (by repeat (first|exact Ex.refl _|refine Ex.alloc ?_ _|refine Ex.ext ?_ _ _|refine Ex.drew ?_|refine Ex.drewN ?_ _)));(focus exact (HX2.out.later (by repeat (first|exact Ex.refl _|refine Ex.alloc ?_ _|refine Ex.ext ?_ _ _|refine Ex.drew ?_|refine Ex.drewN ?_ _))).errs.sub (by decide));rintro e w3 ⟨rfl,hX3⟩;have HX3:=Lib.hid hX3;clear hX3))
   obtain ⟨_,b0,_⟩:=PlC.has HX3.out
   go_wp2_with fail
   refine ((HX3.out.later (by repeat (first|exact Ex.refl _|refine Ex.alloc ?_ _|refine Ex.ext ?_ _ _|refine Ex.drew ?_|refine Ex.drewN ?_ _))).book hk3 (fun o i hb=>HC.out o i _ hb ((HX3.out.later (by repeat (first|exact Ex.refl _|refine Ex.alloc ?_ _|refine Ex.ext ?_ _ _|refine Ex.drew ?_|refine Ex.drewN ?_ _))).errs.sub (by decide)))).mono ?_
   rintro e w4 ⟨rfl,hX4⟩
   have HX4:=Lib.hid hX4
   clear hX4
   all_goals go_wp2_with fail
   all_goals go_ret
   all_goals exact ⟨by rw [HPE.out,errV_pos E _ hh,HXL.out];rfl,by rw [HPS.out];have:=(HX4.out.later (by repeat (first|exact Ex.refl _|refine Ex.alloc ?_ _|refine Ex.ext ?_ _ _|refine Ex.drew ?_|refine Ex.drewN ?_ _))).out;exact HSB.out▸this⟩
 ·have he:placeE st k x=addE (st.b k) x:=by unfold placeE;rw [if_neg ha]
  have hs:placeS st k x=st:=by unfold placeS;rw [he,if_neg ha]
  have HPE:=Lib.hid he;clear he
  have HPS:=Lib.hid hs;clear hs
  have HA:=Lib.hid (fun o i W hb hE=>add_any (own:=o) (i:=i) (w:=W) (p:=A.bp k) (l:=st.b k) hb x HWF.out E hE)
  have hl:addL (st.b k) x=st.b k:=by unfold addL;rw [if_neg ha]
  rw [errV_pos E _ ha,hl] at HA
  have HSB:=Lib.hid (show st.setB k (st.b k)=st by
   unfold FSt.setB
   cases st
   simp only [FSt.mk.injEq,and_true]
   funext j
   by_cases e:j=k
   ·subst e;rw [if_pos rfl]
   ·rw [if_neg e])
  rw [HXL.out] at HA
  clear hl
  go_wp2_with fail
  refine ((HX1.out.later (by repeat (first|exact Ex.refl _|refine Ex.alloc ?_ _|refine Ex.ext ?_ _ _|refine Ex.drew ?_|refine Ex.drewN ?_ _))).book hk3 (fun o i hb=>HA.out o i _ hb ((HX1.out.later (by repeat (first|exact Ex.refl _|refine Ex.alloc ?_ _|refine Ex.ext ?_ _ _|refine Ex.drew ?_|refine Ex.drewN ?_ _))).errs.sub (by decide)))).mono ?_
  rintro e w2 ⟨rfl,hX2⟩
  have HX2:=Lib.hid hX2
  clear hX2
  go_wp2_with fail
  all_goals go_ret
  all_goals exact ⟨by rw [HPE.out,errV_pos E _ ha,HXL.out];rfl,by rw [HPS.out];have:=(HX2.out.later (by repeat (first|exact Ex.refl _|refine Ex.alloc ?_ _|refine Ex.ext ?_ _ _|refine Ex.drew ?_|refine Ex.drewN ?_ _))).out;exact HSB.out▸this⟩
theorem fplace_any (h:FlAt own c w A st) (hE:Errs E [2,3,4,6,7,8,10] w) (hg:∀ n,GE [2,3,4,6,7,8,10] n→own n / 8≠c) (a:Ask) :
  Calls Tryz.prog 119 #[.pointer (some ⟨A.f,0,none⟩),a.val] w fun e w'=>e=.returned (errV E (fplaceE st a))∧FlG own c w A (fplaceS st a) w':=by
 by_cases hk:askedE a 111=0
 ·have e1:fplaceE st a=placeE st a.item.toNat (lotOf a):=if_pos hk
  have e2:fplaceS st a=placeS st a.item.toNat (lotOf a):=if_pos hk
  rw [e1,e2]
  obtain ⟨_,_,_,b4,_⟩:=Ask.bounds (asked_zero hk).1
  exact fplace_go h hE hg a a.item.toNat (by omega) (by omega) hk
 ·exact fplace_bad h hE a hk
end
end Go.Proofs.YtabbgpjofkaomaaGreatDoor

/- What gone and Cancel of a floor compute. -/
namespace Go.Proofs.YtabbgpjofkaomaaGreatDoor
open Go.RowKit
section
variable {own:Nat→Nat} {c:Nat} {w:World} {A:FlA} {st:FSt} {E:Nat→Addr}
def GoC (lx bx:Nat) (x:Lot):List Bl:=[(lx,lotA x,131)]++([(bx,lotA zeroLot,131)]++[])
theorem GoC.has {lx bx:Nat} {x:Lot} {L:List Nat} {T:Nat→Prop} {W:World} (X:FlX own c w A st E L (GoC lx bx x) T W):W.cell? ⟨A.f,1,none⟩=some (.pointer (some ⟨A.pp,0,none⟩))∧W.cell? ⟨lx,0,none⟩=some (.int .i64 x.id)∧W.cell? ⟨lx,1,none⟩=some (.int .i64 x.owner)∧W.cell? ⟨lx,2,none⟩=some (.int .i64 x.side)∧W.cell? ⟨lx,3,none⟩=some (.int .i64 x.price)∧W.cell? ⟨lx,4,none⟩=some (.int .i64 x.qty):=by
 have hh:=X.has
 obtain ⟨b0,hh⟩:=hh.cons
 obtain ⟨c0,c1,c2,c3,c4⟩:=b0.lot
 exact ⟨X.cells.2.1,c0,c1,c2,c3,c4⟩
set_option maxRecDepth 100000 in
set_option maxHeartbeats 4000000 in
theorem fgone_any (h:FlAt own c w A st) (hO:FOk st) (hE:Errs E [2,6,10] w) (hg:∀ n,GE [2,6,10] n→own n / 8≠c) (k:Nat) (hk3:k<3) (id:Int) :
  Calls Tryz.prog 118 #[.pointer (some ⟨A.f,0,none⟩),.int .i64 (k:Int),.int .i64 id] w fun e w'=>e=.returned (.tuple #[(goneR st k id).1.val,errV E (goneR st k id).2.1])∧FlG own c w A (goneR st k id).2.2 w':=by
 obtain ⟨c0,_,_,_,hf⟩:=h.cells
 obtain ⟨i0,_,_⟩:=h.items hk3
 have hrg:=h.rowLt
 have k3:(k:Int)<3:=by omega
 have HX:=Lib.hid (FlX.start (T:=NoT) h hE hg (fun n hn=>hn.elim))
 have HC:=Lib.hid (fun o i W hb hE=>cancel_any (own:=o) (i:=i) (w:=W) (p:=A.bp k) (l:=st.b k) hb id E hE)
 rcases cancelR_cases (hO.book k hk3) id with ⟨x,hx,hi,l',e,hl,_,_⟩|⟨hn,e⟩
 ·have hz:=freeE_zero hO hk3 hx
  have hR:goneR st k id=(x,0,(st.setB k l').setP (freeP st.p (k:Int) x)):=by
   unfold goneR
   rw [e]
   exact if_pos rfl
  rw [e,errV_zero] at HC
  have HF:=Lib.hid (fun o i W (hb:PurseAt o i W A.pp (st.setB k l').p) hE=>free_any (own:=o) (i:=i) (w:=W) (p:=A.pp) (P:=st.p) hb (k:Int) x E hE)
  rw [hz,errV_zero] at HF
  rw [hR,errV_zero]
  obtain ⟨xi,xo,xs,xp,xq⟩:=x
  clear h hO hE hg hx hi hl e hz hR
  go_enter Tryz.func118,Tryz.ntmps118
  go_wp2_with fail
  have HX0:Hid (FlX own c w A st E [2,6,10] ([(w.heap.size,lotA zeroLot,131)]++[]) NoT (w.alloc (.cells #[.int .i64 0,.int .i64 0,.int .i64 0,.int .i64 0,.int .i64 0] 131))):=Lib.hid (HX.out.add (by repeat (first|exact Ex.refl _|refine Ex.alloc ?_ _|refine Ex.ext ?_ _ _|refine Ex.drew ?_|refine Ex.drewN ?_ _)) (fun t ht=>by simp only [List.mem_singleton] at ht;subst ht;exact Nat.le_refl _) (Has.mk (Blk.new rfl) (Has.nil _)))
  refine ((HX0.out.later (by repeat (first|exact Ex.refl _|refine Ex.alloc ?_ _|refine Ex.ext ?_ _ _|refine Ex.drew ?_|refine Ex.drewN ?_ _))).book hk3 (fun o i hb=>HC.out o i _ hb ((HX0.out.later (by repeat (first|exact Ex.refl _|refine Ex.alloc ?_ _|refine Ex.ext ?_ _ _|refine Ex.drew ?_|refine Ex.drewN ?_ _))).errs.sub (by decide)))).mono ?_
  rintro e w2 ⟨rfl,hX2⟩
  have hb2:w.heap.size<w2.heap.size:=hX2.has.cons.1.lt
  have HX2:=Lib.hid hX2
  clear hX2 c0 i0 HX HX0
  generalize hbx:w.heap.size=bx at *
  go_upto_region 4 with fail
  refine wp_world (R:=fun W=>FlX own c w A (st.setB k l') E [2,6,10] (GoC w2.heap.size bx ⟨xi,xo,xs,xp,xq⟩) NoT W) (HX2.out.add (by repeat (first|exact Ex.refl _|refine Ex.alloc ?_ _|refine Ex.ext ?_ _ _|refine Ex.drew ?_|refine Ex.drewN ?_ _)) (fun t ht=>by simp only [List.mem_singleton] at ht;subst ht;exact Nat.le_refl _) (Has.mk ?_ (Has.nil _))) ?_
  focus exact (by repeat (first|exact Blk.new (by first|omega|(simp [go_sem];done)|(simp [go_sem];omega))|(with_reducible exact Blk.new rfl)|(with_reducible refine Blk.drew ?_)|(with_reducible refine Blk.drewN ?_ _)|(with_reducible refine Blk.ext ?_ _ _)|(with_reducible refine Blk.alloc ?_ _)))
  generalize w2.heap.size=lx at *
  rintro W hX
  obtain ⟨c1,b0,b1,b2,b3,b4⟩:=GoC.has hX
  have HX3:=Lib.hid hX
  have hbz:=hX.has.cons.2.cons.1.lt
  have hfz:=hX.cells.2.2.2.2
  have hlz:=hX.has.cons.1.lt
  clear hX
  go_region_with (go_at_call 147;((with_reducible refine ((HX3.out.later ?_).purse (fun o i hb=>HF.out o i _ hb ?_)).mono ?_));(focus exact (by with_reducible repeat (first|exact Ex.refl _|refine Ex.alloc ?_ _|refine Ex.ext ?_ _ _|refine Ex.drew ?_|refine Ex.drewN ?_ _)));(focus exact (HX3.out.later (by with_reducible repeat (first|exact Ex.refl _|refine Ex.alloc ?_ _|refine Ex.ext ?_ _ _|refine Ex.drew ?_|refine Ex.drewN ?_ _))).errs.sub (by decide));rintro e w3 ⟨rfl,hX4⟩;obtain ⟨d1,d2,d3,d4,d5,d6⟩:=GoC.has hX4;have z:=hX4.has.cons.2.cons.1;have HX4:=Lib.hid hX4;clear hX4;have z0:=z.cell 0;have z1:=z.cell 1;have z2:=z.cell 2;have z3:=z.cell 3;have z4:=z.cell 4;have zf:=z.free;have HZ:=Lib.hid z;clear z;simp only [lotA,List.getElem?_toArray,List.getElem?_cons_zero,List.getElem?_cons_succ] at z0 z1 z2 z3 z4)
  all_goals
   have hx5:=(HX4.out.turned (cs':=[]) (W':=((((w3.setCell ⟨bx,0,none⟩ (.int .i64 xi)).setCell ⟨bx,1,none⟩ (.int .i64 xo)).setCell ⟨bx,2,none⟩ (.int .i64 xs)).setCell ⟨bx,3,none⟩ (.int .i64 xp)).setCell ⟨bx,4,none⟩ (.int .i64 xq)) (b:=bx) (grownBy_set (grownBy_set (grownBy_set (grownBy_set (grownBy_set (grownBy_self _ _) _ _) _ _) _ _) _ _) _ _) ⟨_,List.mem_cons_of_mem _ (List.mem_cons_self ..),rfl⟩ (Nat.le_of_eq hbx) (Has.nil _) (fun t ht=>by cases ht)).out
   have hb5:=((((HZ.out.set 0 (.int .i64 xi)).set 1 (.int .i64 xo)).set 2 (.int .i64 xs)).set 3 (.int .i64 xp)).set 4 (.int .i64 xq)
   generalize (((((w3.setCell ⟨bx,0,none⟩ (.int .i64 xi)).setCell ⟨bx,1,none⟩ (.int .i64 xo)).setCell ⟨bx,2,none⟩ (.int .i64 xs)).setCell ⟨bx,3,none⟩ (.int .i64 xp)).setCell ⟨bx,4,none⟩ (.int .i64 xq))=W5 at *
   have g0:=hb5.cell 0
   have g1:=hb5.cell 1
   have g2:=hb5.cell 2
   have g3:=hb5.cell 3
   have g4:=hb5.cell 4
   simp [lotA] at g0 g1 g2 g3 g4
   clear hb5
   go_wp2_with fail
   refine bodyPost_ret (v:=.tuple #[.agg #[.int .i64 xi,.int .i64 xo,.int .i64 xs,.int .i64 xp,.int .i64 xq],.nilIface]) ?_ rfl ⟨rfl,hx5⟩
   simp only [results,Tryz.results118]
   simp [go_sem,↓IntWalk.iteOmega,g0,g1,g2,g3,g4]
 ·have hR:goneR st k id=(zeroLot,6,st):=by
   unfold goneR
   rw [e]
   exact if_neg (by simp)
  have HSET:=Lib.hid (show st.setB k (st.b k)=st by
   unfold FSt.setB
   cases st
   simp only [FSt.mk.injEq,and_true]
   funext j
   by_cases e:j=k
   ·subst e;rw [if_pos rfl]
   ·rw [if_neg e])
  rw [e,errV_pos E 6 (by decide)] at HC
  rw [hR,errV_pos E 6 (by decide)]
  clear h hO hE hg hn e hR
  go_enter Tryz.func118,Tryz.ntmps118
  go_wp2_with fail
  have HX0:Hid (FlX own c w A st E [2,6,10] ([(w.heap.size,lotA zeroLot,131)]++[]) NoT (w.alloc (.cells #[.int .i64 0,.int .i64 0,.int .i64 0,.int .i64 0,.int .i64 0] 131))):=Lib.hid (HX.out.add (by repeat (first|exact Ex.refl _|refine Ex.alloc ?_ _|refine Ex.ext ?_ _ _|refine Ex.drew ?_|refine Ex.drewN ?_ _)) (fun t ht=>by simp only [List.mem_singleton] at ht;subst ht;exact Nat.le_refl _) (Has.mk (Blk.new rfl) (Has.nil _)))
  refine ((HX0.out.later (by repeat (first|exact Ex.refl _|refine Ex.alloc ?_ _|refine Ex.ext ?_ _ _|refine Ex.drew ?_|refine Ex.drewN ?_ _))).book hk3 (fun o i hb=>HC.out o i _ hb ((HX0.out.later (by repeat (first|exact Ex.refl _|refine Ex.alloc ?_ _|refine Ex.ext ?_ _ _|refine Ex.drew ?_|refine Ex.drewN ?_ _))).errs.sub (by decide)))).mono ?_
  rintro e w2 ⟨rfl,hX2⟩
  rw [HSET.out] at hX2
  have hb2:w.heap.size<w2.heap.size:=hX2.has.cons.1.lt
  have HX2:=Lib.hid hX2
  clear hX2 c0 i0 HX HX0
  generalize hbx:w.heap.size=bx at *
  go_upto_region 3 with fail
  refine wp_world (R:=fun W=>FlX own c w A st E [2,6,10] ([(bx,lotA zeroLot,131)]++[]) NoT W) (HX2.out.later (by repeat (first|exact Ex.refl _|refine Ex.alloc ?_ _|refine Ex.ext ?_ _ _|refine Ex.drew ?_|refine Ex.drewN ?_ _))) ?_
  rintro W hX
  have z:=hX.has.cons.1
  have hbz:=z.lt
  have zf:=z.free
  have HZ:=Lib.hid z
  have hx5:=(hX.turned (cs':=[]) (W':=((((W.setCell ⟨bx,0,none⟩ (.int .i64 0)).setCell ⟨bx,1,none⟩ (.int .i64 0)).setCell ⟨bx,2,none⟩ (.int .i64 0)).setCell ⟨bx,3,none⟩ (.int .i64 0)).setCell ⟨bx,4,none⟩ (.int .i64 0)) (b:=bx) (grownBy_set (grownBy_set (grownBy_set (grownBy_set (grownBy_set (grownBy_self _ _) _ _) _ _) _ _) _ _) _ _) ⟨_,List.mem_cons_self ..,rfl⟩ (Nat.le_of_eq hbx) (Has.nil _) (fun t ht=>by cases ht)).out
  have hb5:=((((HZ.out.set 0 (.int .i64 0)).set 1 (.int .i64 0)).set 2 (.int .i64 0)).set 3 (.int .i64 0)).set 4 (.int .i64 0)
  have HX5:=Lib.hid hx5
  have HB5:=Lib.hid hb5
  have z0:=z.cell 0
  have z1:=z.cell 1
  have z2:=z.cell 2
  have z3:=z.cell 3
  have z4:=z.cell 4
  simp only [lotA,zeroLot,List.getElem?_toArray,List.getElem?_cons_zero,List.getElem?_cons_succ] at z0 z1 z2 z3 z4
  clear hX z hx5 hb5
  go_wp2_with fail
  have hx5:=HX5.out
  have hb5:=HB5.out
  generalize (((((W.setCell ⟨bx,0,none⟩ (.int .i64 0)).setCell ⟨bx,1,none⟩ (.int .i64 0)).setCell ⟨bx,2,none⟩ (.int .i64 0)).setCell ⟨bx,3,none⟩ (.int .i64 0)).setCell ⟨bx,4,none⟩ (.int .i64 0))=W5 at *
  have g0:=hb5.cell 0
  have g1:=hb5.cell 1
  have g2:=hb5.cell 2
  have g3:=hb5.cell 3
  have g4:=hb5.cell 4
  simp [lotA] at g0 g1 g2 g3 g4
  clear hb5
  (try simp only [Exit.inBlock,Exit.then])
  refine bodyPost_ret (v:=.tuple #[.agg #[.int .i64 0,.int .i64 0,.int .i64 0,.int .i64 0,.int .i64 0],.iface 357 (.pointer (some (E 6)))]) ?_ rfl ⟨rfl,hx5⟩
  simp only [results,Tryz.results118]
  simp [go_sem,↓IntWalk.iteOmega,g0,g1,g2,g3,g4]
end
end Go.Proofs.YtabbgpjofkaomaaGreatDoor

/- A map from numbers to slices, by what each key holds. -/
namespace Go.Proofs.YtabbgpjofkaomaaGreatDoor
open Go.RowKit Go.Maps
def encS:Value→Option (DataW Unit × List MemPlace)
 | .slice none 0 0=>some (.nil,[])
 | .slice (some ⟨g,off,none⟩) n cap=>some (.slice [.lit (.int .i64 g),.lit (.int .i64 off),.lit (.int .i64 n),.lit (.int .i64 cap)] [],[])
 | _=>none
theorem encS_inj {v v':Value} {d:DataW Unit} {ps ps':List MemPlace} (h:encS v=some (d,ps)) (h':encS v'=some (d,ps')):v=v':=by
 unfold encS at h h'
 split at h<;>split at h'<;>simp_all
 all_goals first
  | (obtain ⟨rfl,_⟩:=h;simp at h';done)
  | (obtain ⟨rfl,_⟩:=h;simp at h';omega)
  | (obtain ⟨rfl,_⟩:=h;simp at h';obtain ⟨a,b,c,d⟩:=h';subst_vars;simp_all;omega)
  | skip
def MapAt (w:World) (b n:Nat) (F:Int→Value):Prop:=∃ D:DataW Unit,w.ownsMap Tryz.prog 3 encS b n D∧IsMap D∧∀ p:Int,∃ ps,encS (F p)=some (D.atKey (.int .i64 p) .nil,ps)
theorem zeroLots (w:World):(zeroValue 65).run Tryz.prog w=.ok (.slice none 0 0) w:=by kernel_rfl
theorem lit64 {p:Int} (h:-9223372036854775808≤p∧p≤9223372036854775807):(Lit.int .i64 p).wf=true:=by simp [Lit.wf,IntKind.min,IntKind.max,IntKind.bits,IntKind.signed];omega
theorem MapAt.made (w:World):MapAt (w.alloc (.map #[] 0)) w.heap.size 0 (fun _=>.slice none 0 0):=⟨.map [],World.ownsMap_made w _ _ _,isMap_empty,fun p=>⟨[],rfl⟩⟩
theorem MapAt.kept {w w':World} {b n:Nat} {F:Int→Value} {row:Option Nat} (h:MapAt w b n F) (hg:w.grownBy w' row) (hne:some b≠row):MapAt w' b n F:=by
 obtain ⟨D,h1,h2,h3⟩:=h
 exact ⟨D,h1.kept hg hne,h2,h3⟩
theorem MapAt.lt {w:World} {b n:Nat} {F:Int→Value} (h:MapAt w b n F):b<w.heap.size:=by obtain ⟨D,h1,_⟩:=h;exact h1.lt
theorem MapAt.isMap {w:World} {b n:Nat} {F:Int→Value} (h:MapAt w b n F):∃ es c,w.heap[b]?=some (.map es c):=by
 obtain ⟨D,⟨es,c,h1,_⟩,_⟩:=h
 exact ⟨es,c,h1⟩
theorem MapAt.mono {w:World} {b n m:Nat} {F:Int→Value} (h:MapAt w b n F) (hnm:n≤m):MapAt w b m F:=by
 obtain ⟨D,h1,h2⟩:=h
 exact ⟨D,h1.mono hnm,h2⟩
theorem MapAt.alloc {w:World} {b n:Nat} {F:Int→Value} (h:MapAt w b n F) (o:Obj):MapAt (w.alloc o) b n F:=h.kept (World.grownBy_alloc w o none) (by simp)
theorem MapAt.drew {w:World} {b n:Nat} {F:Int→Value} (h:MapAt w b n F):MapAt w.drew b n F:=h
theorem MapAt.lookup {w:World} {b n:Nat} {F:Int→Value} (h:MapAt w b n F) {p:Int} (hp:-9223372036854775808≤p∧p≤9223372036854775807) :
  (Instr.lookup 331 (.map (some b)) (.int .i64 p) false).run Tryz.prog w=.ok (F p) w:=by
 obtain ⟨D,h1,h2,h3⟩:=h
 obtain ⟨v,ps,hr,hv⟩:=h1.lookup (int_keyed Tryz.underlying3) Tryz.underlying331 (zeroLots w) (zd:=.nil) (zp:=[]) rfl (keyOf_int_mk Tryz.underlying3 (lit64 hp))
 obtain ⟨ps',hv'⟩:=h3 p
 rw [hr,encS_inj hv hv']
theorem MapAt.update {w:World} {b n:Nat} {F:Int→Value} (h:MapAt w b n F) (hn:n<maxLen) {p:Int} (hp:-9223372036854775808≤p∧p≤9223372036854775807) (v:Value) (hv:∃ d,encS v=some (d,[])) :
  ∃ w',(Instr.mapUpdate 331 (.map (some b)) (.int .i64 p) v).run Tryz.prog w=.ok () w'∧MapAt w' b (n+1) (fun q=>if q=p then v else F q)∧w.grownBy w' (some b):=by
 obtain ⟨D,h1,h2,h3⟩:=h
 obtain ⟨d,hd⟩:=hv
 obtain ⟨w',hr,hm,hg⟩:=h1.update (int_keyed Tryz.underlying3) Tryz.underlying331 hn (keyOf_int_mk Tryz.underlying3 (lit64 hp)) hd
 refine ⟨w',hr,⟨_,hm,h2.put _ _,fun q=>?_⟩,hg⟩
 by_cases e:q=p
 ·subst e
  show ∃ ps,encS (if q=q then v else F q)=_
  rw [if_pos rfl,atKey_put_same (k:=.int .i64 q) h2 trivial]
  exact ⟨[],hd⟩
 ·show ∃ ps,encS (if q=p then v else F q)=_
  rw [if_neg e,atKey_put_other (by intro e2;cases e2;exact e rfl)]
  exact h3 q
theorem run_append_keep {P:Program} (t tx ty e:TypeId) (i:TypeInfo) (z:Value) (size bytes:Nat) (ht:P.underlying t=some (.slice e)) (hi:P.info? e=some i) (hz:i.zero=some z)
  (hsize:i.size=size) (hby:i.bytes=bytes) (hzs:z.cells.size=size)
  {w:World} {v x:Value} {n m:Nat} {xs news:List Value} (h:RowAt w e size v n xs) (hs:Src P size tx x m news w)
  (h63:n+m≤maxLen) (hbytes:(n+m)*bytes≤140737488355328) :
  ∃ v' w',(Builtin.append_ #[t,tx] ty #[v,x]).run P w=.ok v' w'∧RowAt w' e size v' (n+m) (xs++news)∧w.grownBy w' v.ownBlock ∧
   (v'.ownBlock=v.ownBlock∨v'.ownBlock=some w.heap.size)∧(∃ d,encS v'=some (d,[]))∧RowAt w' e size v n xs:=by
 subst hsize
 subst hby
 have hsmall:n+m≤9223372036854775807:=by simp only [maxLen] at h63;omega
 have hlen:(xs++news).length=(n+m)*i.size:=by rw [List.length_append,h.1,hs.newsLen,Nat.add_mul]
 have grown:∀ (old:Nat),old<n+m→∀ (row:Option Nat),
   RowAt (w.drew.alloc (.cells ((xs++news).toArray++Builtin.zeroCells z.cells (grownCap w (n+m) old e - (n+m))) e)) e i.size
    (.slice (some ⟨w.heap.size,0,none⟩) (n+m) (grownCap w (n+m) old e)) (n+m) (xs++news) ∧
   w.grownBy (w.drew.alloc (.cells ((xs++news).toArray++Builtin.zeroCells z.cells (grownCap w (n+m) old e - (n+m))) e)) row:=by
  intro old ho row
  have hge:=grownCap_ge w (n+m) old e
  have hcm:grownCap w (n+m) old e≤maxLen:=grownCap_le_maxLen w (n+m) old e h63
  refine ⟨⟨hlen,.inr ⟨w.heap.size,0,_,_,rfl,⟨_,heap_alloc_new w.drew _,Unmarked.plain _⟩,hge,hcm,?_,?_⟩⟩,⟨rfl,rfl,rfl,by simp,fun k hk _=>heap_alloc_old w.drew _ hk⟩⟩
  ·simp only [Array.size_append,List.size_toArray,size_zeroCells,hzs,hlen,← Nat.add_mul,Nat.zero_add]
   exact Nat.le_of_eq (by congr 1;omega)
  ·simp only [Array.toList_append,List.drop_zero]
   rw [← hlen]
   exact List.take_left
 rcases h.2 with ⟨rfl,rfl⟩|⟨g,off,cap,cur,rfl,⟨fr,hg,hfr⟩,hnc,hcm,hcs,htake⟩
 ·have hx:xs=[]:=List.eq_nil_of_length_eq_zero (by simpa using h.1)
  subst hx
  by_cases hm:m=0
  ·subst hm
   have hn:news=[]:=List.eq_nil_of_length_eq_zero (by simpa using hs.newsLen)
   subst hn
   refine ⟨.slice none 0 0,w,?_,RowAt.nil w e i.size,grownBy_refl w _,.inl rfl,⟨_,rfl⟩,RowAt.nil _ _ _⟩
   rcases hs.kind with ⟨e',hk⟩|hk<;>simp [Builtin.append_,run_underlying ht,run_underlying hk,sizeOf,typeInfo,hi,hs.len,hs.cells,storeCells]
  ·have hr:=run_append_grow_src (P:=P) w t tx ty e i z ht hi hz none 0 0 [] (run_firstCells_none w.drew i.size 0 0 0) x m news hs (by omega) (by omega) (growslice_fits (by omega) hbytes)
   have hgr:=grown 0 (by omega) (Value.ownBlock (.slice none 0 0))
   exact ⟨_,_,hr,hgr.1,hgr.2,.inr rfl,⟨_,rfl⟩,RowAt.nil _ _ _⟩
 ·have hadd:∀ j,(⟨g,off,none⟩:Addr).add j=⟨g,off+j,none⟩:=fun j=>by unfold Addr.add;by_cases h0:j=0<;>simp [h0]
  have holds:∀ j u,xs[j]?=some u→w.cell? ((⟨g,off,none⟩:Addr).add j)=some u:=by
   intro j u hj
   rw [← htake,List.getElem?_take] at hj
   split at hj
   ·rw [hadd]
    rw [List.getElem?_drop,Array.getElem?_toList] at hj
    simpa [World.cell?,hg] using hj
   ·cases hj
  by_cases hroom:n+m≤cap
  ·have hfit:off+n*i.size+news.length≤cur.size:=by
    have:=Nat.mul_le_mul_right i.size hroom
    rw [Nat.add_mul] at this
    rw [hs.newsLen];omega
   have hst:=run_storeCells_fr P g (off+n*i.size) e fr news 0 cur w hg hfr (by simpa using hfit) hs.one
   simp only [Nat.add_zero] at hst
   have hr:(Builtin.append_ #[t,tx] ty #[.slice (some ⟨g,off,none⟩) n cap,x]).run P w=.ok (.slice (some ⟨g,off,none⟩) (n+m) cap) (w.setRow g (cur.toList.take (off+n*i.size)++news++cur.toList.drop (off+n*i.size+news.length)).toArray):=by
    rcases hs.kind with ⟨e',hk⟩|hk<;>simp [Builtin.append_,run_underlying ht,run_underlying hk,sizeOf,typeInfo,hi,hs.len,hroom,hs.cells,hadd,hst]
   refine ⟨_,_,hr,⟨hlen,.inr ⟨g,off,cap,_,rfl,⟨_,setRow_heap w g cur _ e _ hg,hfr.imp id (fun h=>Nat.le_trans (by simp only [List.size_toArray,List.length_append,List.length_take,List.length_drop,Array.length_toList];omega) h)⟩,hroom,hcm,?_,?_⟩⟩,⟨rfl,rfl,rfl,by simp,fun k _ hk=>setRow_other w g k _ (fun e=>hk (by simp [Value.ownBlock,e]))⟩,.inl rfl,⟨_,rfl⟩,h.1,.inr ⟨g,off,cap,_,rfl,⟨_,setRow_heap w g cur _ e _ hg,hfr.imp id (fun h=>Nat.le_trans (by simp only [List.size_toArray,List.length_append,List.length_take,List.length_drop,Array.length_toList];omega) h)⟩,hnc,hcm,?_,?_⟩⟩
   ·simp only [List.size_toArray,List.length_append,List.length_take,List.length_drop,Array.length_toList]
    omega
   ·have e1:cur.toList.take (off+n*i.size)=cur.toList.take off++xs:=by
     rw [List.take_add,htake]
    have hoff:(cur.toList.take off).length=off:=by rw [List.length_take,Array.length_toList];omega
    simp only [e1,List.append_assoc]
    rw [List.drop_append_of_le_length (by omega),List.drop_of_length_le (by omega),List.nil_append,← List.append_assoc,← hlen]
    exact List.take_left
   ·simp only [List.size_toArray,List.length_append,List.length_take,List.length_drop,Array.length_toList]
    omega
   ·have e1:cur.toList.take (off+n*i.size)=cur.toList.take off++xs:=by
     rw [List.take_add,htake]
    have hoff:(cur.toList.take off).length=off:=by rw [List.length_take,Array.length_toList];omega
    simp only [e1,List.append_assoc]
    rw [List.drop_append_of_le_length (by omega),List.drop_of_length_le (by omega),List.nil_append,← h.1]
    exact List.take_left
  ·have hr:=run_append_grow_src (P:=P) w t tx ty e i z ht hi hz (some ⟨g,off,none⟩) n cap xs (run_firstCells_some w.drew i.size n ⟨g,off,none⟩ n cap xs h.1 (by simpa using holds)) x m news hs (by omega) (by omega) (growslice_fits (by omega) hbytes)
   have hgr:=grown cap (by omega) (Value.ownBlock (.slice (some ⟨g,off,none⟩) n cap))
   exact ⟨_,_,hr,hgr.1,hgr.2,.inr rfl,⟨_,rfl⟩,h.of_block (fun g' hg'=>heap_alloc_old w.drew _ (h.lt g' hg'))⟩
theorem step_append_keep {P:Program} {ops:Array Oper} {o:Oper} {a:Act} {w:World} {K:Act→World→Prop} {Q:Exit→Act→World→Prop} {E:Prop} (hgd:o.guard=none) (s x:Operand) (t tx:TypeId)
  (ho:o.op=.call { callee:=.builtin .append,args:=#[s,x],argTypes:=#[t,tx] })
  (e:TypeId) (i:TypeInfo) (z:Value) (size bytes:Nat) (ht:P.underlying t=some (.slice e)) (hi:P.info? e=some i) (hz:i.zero=some z)
  (hsize:i.size=size) (hby:i.bytes=bytes) (hzs:z.cells.size=size)
  (v y:Value) (n m:Nat) (xs news:List Value) (hv:a.eval s=v) (hy:a.eval x=y) (h:RowAt w e size v n xs) (hs:Src P size tx y m news w)
  (h63:n+m≤maxLen) (hbytes:(n+m)*bytes≤140737488355328)
  (hK:∀ v' w',RowAt w' e size v' (n+m) (xs++news)→w.grownBy w' v.ownBlock→(v'.ownBlock=v.ownBlock∨v'.ownBlock=some w.heap.size)→(∃ d,encS v'=some (d,[]))→RowAt w' e size v n xs→K (a.put o.dst v') w') :
  if Region.wanted o (yielded ops a.tmps)=true then Oper.wp P o a w K Q else E:=by
 have hw:Region.wanted o (yielded ops a.tmps)=true:=by simp [Region.wanted,hgd]
 rw [if_pos hw]
 obtain ⟨v',w',hr,h1,h2,h3,h4,h5⟩:=run_append_keep (P:=P) t tx o.type e i z size bytes ht hi hz hsize hby hzs h hs h63 hbytes
 unfold Oper.wp execOp
 simp only [ho,resolve,invoke,builtin,Sem.run_bind,Sem.run_pure,Result.andThen_ok,List.map_toArray,List.map_cons,List.map_nil,hv,hy,hr]
 exact hK v' w' h1 h2 h3 h4 h5
end Go.Proofs.YtabbgpjofkaomaaGreatDoor

/- What curve's Check computes. -/
namespace Go.Proofs.YtabbgpjofkaomaaGreatDoor
open Go.RowKit
theorem LotsAt.ex {w w':World} {ao:Option Addr} {len:Nat} {l:List Lot} (h:LotsAt w ao len l) (hx:Ex w w'):LotsAt w' ao len l:=by
 obtain ⟨h1,h2,h3,h4⟩:=h
 refine ⟨h1,h2,h3,fun h0=>?_⟩
 obtain ⟨b,off,e,hb,hc⟩:=h4 h0
 exact ⟨b,off,e,Nat.lt_of_lt_of_le hb hx.below.size,fun k hk j hj=>(hx.below.cell (p:=⟨b,off+k*5+j,none⟩) hb).trans (hc k hk j hj)⟩
theorem LotsAt.take {w:World} {ao:Option Addr} {len:Nat} {l:List Lot} (h:LotsAt w ao len l) (k:Nat) (hk:k≤len):LotsAt w ao k (l.take k):=by
 obtain ⟨h1,h2,h3,h4⟩:=h
 refine ⟨by simp;omega,by omega,fun a ha=>h3 a (List.mem_of_mem_take ha),fun h0=>?_⟩
 obtain ⟨b,off,e,hb,hc⟩:=h4 (by omega)
 exact ⟨b,off,e,hb,fun j hj i hi=>by rw [hc j (by simp at hj;omega) i hi,List.getElem_take]⟩
theorem idIdx_nonneg (l:List Lot) (id:Int):decide (idIdx l id ≥ 0)=l.any (fun y=>y.id==id):=by
 unfold idIdx
 cases h:l.findIdx? (fun y=>y.id==id) with
 | none =>
  rw [List.findIdx?_eq_none_iff] at h
  have:l.any (fun y=>y.id==id)=false:=by
   rw [List.any_eq_false]
   intro y hy
   simpa using h y hy
  rw [this];rfl
 | some k =>
  rw [List.findIdx?_eq_some_iff_getElem] at h
  obtain ⟨hk,hp,_⟩:=h
  have:l.any (fun y=>y.id==id)=true:=List.any_eq_true.2 ⟨_,List.getElem_mem hk,hp⟩
  rw [this];simp
set_option maxRecDepth 100000 in
theorem contains_any (ao:Option Addr) (len cap:Nat) (l:List Lot) (id:Int) (xb:Nat) (w:World) (hl:LotsAt w ao len l) (hx:w.cell? ⟨xb,0,none⟩=some (.int .i64 id)) :
  Calls Tryz.prog 206 #[.slice ao len cap,.func (.func 207) #[] #[.pointer (some ⟨xb,0,none⟩)]] w fun e w' =>
   e=.returned (.bool (l.any fun y=>y.id==id))∧Ex w w':=by
 have H:=Lib.hid (index_any ao len cap l id xb w hl hx)
 have hi:=idIdx_nonneg l id
 clear hl hx
 go_enter Tryz.func206,Tryz.ntmps206
 go_wp2_with (go_at_call 192;refine H.out.mono ?_;rintro e w1 ⟨rfl,l1,d1,rfl⟩)
 all_goals go_ret
 all_goals exact ⟨ret_bool (by first|rfl|exact hi),(by repeat (first|exact Ex.refl _|refine Ex.alloc ?_ _|refine Ex.ext ?_ _ _|refine Ex.drew ?_|refine Ex.drewN ?_ _))⟩
def codeAt (l:List Lot) (k:Nat):Nat:=match l[k]? with
 | none=>0
 | some x=>if x.ok then (if (l.take k).any (fun y=>y.id==x.id) then 7 else 0) else 2
theorem codeAt_at {l:List Lot} {k:Nat} {x:Lot} (h:l[k]?=some x):codeAt l k=if x.ok then (if (l.take k).any (fun y=>y.id==x.id) then 7 else 0) else 2:=by simp [codeAt,h]
def LotsOk (l:List Lot):Prop:=l.length≤120∧∀ k,k<l.length→codeAt l k=0
def CheckV (E:Nat→Addr) (w w':World) (l:List Lot) (v:Value):Prop :=
 (120<l.length∧v=errV E 8)∨(LotsOk l∧v=.nilIface) ∨
 ∃ k b,l.length≤120∧k<l.length∧(∀ j,j<k→codeAt l j=0)∧codeAt l k≠0∧v=.iface 197 (.pointer (some ⟨b,0,none⟩))∧w.heap.size≤b ∧
  w'.heap[b]?=some (.cells #[.int .i64 k,errV E (codeAt l k)] 201 (0,0))
end Go.Proofs.YtabbgpjofkaomaaGreatDoor

/- What curve's Check computes: the walk. -/
namespace Go.Proofs.YtabbgpjofkaomaaGreatDoor
open Go.RowKit
theorem alloc_at {w:World} {o:Obj} {n:Nat} (h:n=w.heap.size):(w.alloc o).heap[n]?=some o:=by
 subst h;show (w.heap.push o)[w.heap.size]?=some o;simp
set_option maxRecDepth 100000 in
set_option maxHeartbeats 2000000 in
theorem check_any (ao:Option Addr) (len cap:Nat) (l:List Lot) (E:Nat→Addr) (w:World) (hcap:len≤cap) (hE:Errs E [2,7,8] w) (hl:LotsAt w ao len l) :
  Calls Tryz.prog 181 #[.slice ao len cap] w fun e w'=>(∃ v,e=.returned v∧CheckV E w w' l v)∧Ex w w':=by
 have hlen:=hl.1
 have hmx:=hl.2.1
 by_cases h120:len > 120
 ·have e8:w.cell? ⟨3,0,none⟩=some (.iface 357 (.pointer (some (E 8)))):=hE 8 (by decide)
  have b8:3<w.heap.size:=lt_of_cell e8
  clear hE
  go_enter Tryz.func181,Tryz.ntmps181
  go_wp2
  go_ret
  exact ⟨⟨_,rfl,Or.inl ⟨by omega,rfl⟩⟩,(by repeat (first|exact Ex.refl _|refine Ex.alloc ?_ _|refine Ex.ext ?_ _ _|refine Ex.drew ?_|refine Ex.drewN ?_ _))⟩
 have HL:=Lib.hid hlen
 have HLA:=Lib.hid hl
 have HE:=Lib.hid hE
 clear hl hlen hE
 go_enter Tryz.func181,Tryz.ntmps181
 go_wp2
 go_loopw [12] (fun i wr=>∃ (k:Nat),k≤len∧i=.int .i64 k∧(∀ j,j<k→codeAt l j=0)∧Ex w wr) (fun i _=>len - (intOf i).toNat)
 case atStart=>exact ⟨0,Nat.zero_le _,rfl,(fun j h=>absurd h (Nat.not_lt_zero _)),(by repeat (first|exact Ex.refl _|refine Ex.alloc ?_ _|refine Ex.ext ?_ _ _|refine Ex.drew ?_|refine Ex.drewN ?_ _))⟩
 case round =>
  obtain ⟨k,hk,rfl,hn,l1,d1,rfl⟩:=hrel
  have HN:=Lib.hid hn
  clear hn
  by_cases hlt:k<len
  ·have hl:=HLA.out
   have hE:=HE.out
   obtain ⟨b,off,rfl,hbs,hz⟩:=hl.2.2.2 (by omega)
   have hzk:=hz k (by rw [HL.out];exact hlt)
   clear hz
   have HT:=Lib.hid (hl.take k (by omega))
   have hg:∃ a,l[k]?=some a∧a=l[k]'(by rw [HL.out];exact hlt):=⟨_,List.getElem?_eq_getElem (by rw [HL.out];exact hlt),rfl⟩
   obtain ⟨a,ha0,ha⟩:=hg
   rw [← ha] at hzk
   clear ha
   have hcd:=codeAt_at ha0
   clear ha0
   have a0:=hzk 0 (by omega)
   have a1:=hzk 1 (by omega)
   have a2:=hzk 2 (by omega)
   have a3:=hzk 3 (by omega)
   have a4:=hzk 4 (by omega)
   simp only [Lot.cells,List.getElem?_cons_zero,List.getElem?_cons_succ,Nat.add_zero] at a0 a1 a2 a3 a4
   clear hzk
   have H1:=one_any a E
   by_cases hok:a.ok=true
   ·rw [hok] at H1 hcd
    simp only [if_true,errV_zero] at H1 hcd
    have HO:=Lib.hid H1
    clear H1 hok
    have HC:=Lib.hid hcd
    clear hcd
    have hkc:k≤cap:=by omega
    have e7:w.cell? ⟨8,0,none⟩=some (.iface 357 (.pointer (some (E 7)))):=hE 7 (by decide)
    have b7:8<w.heap.size:=lt_of_cell e7
    go_wp2_with (first
     | (go_at_call 180;refine (HO.out _ (by exact Errs.sub (hE.ex (by repeat (first|exact Ex.refl _|refine Ex.alloc ?_ _|refine Ex.ext ?_ _ _|refine Ex.drew ?_|refine Ex.drewN ?_ _))) (by decide))).mono ?_;rintro e w1 ⟨rfl,l2,d2,rfl⟩)
     | (go_at_call 206;refine (contains_any _ k cap (l.take k) a.id _ _ (HT.out.ex (by repeat (first|exact Ex.refl _|refine Ex.alloc ?_ _|refine Ex.ext ?_ _ _|refine Ex.drew ?_|refine Ex.drewN ?_ _))) (by simp [go_sem,↓IntWalk.iteOmega])).mono ?_;rintro e w1 ⟨rfl,l3,d3,rfl⟩))
    ·go_ret
     have hc7:codeAt l k=7:=by first|exact HC.out|(rw [HC.out];simp [*])
     exact ⟨⟨_,rfl,Or.inr (Or.inr ⟨k,_,by have:=HL.out;omega,by have:=HL.out;omega,HN.out,by rw [hc7];decide,rfl,(by first|omega|(simp [go_sem];done)|(simp [go_sem];omega)),by rw [hc7];exact alloc_at (by first|omega|(simp [go_sem];done)|(simp [go_sem];omega))⟩)⟩,(by repeat (first|exact Ex.refl _|refine Ex.alloc ?_ _|refine Ex.ext ?_ _ _|refine Ex.drew ?_|refine Ex.drewN ?_ _))⟩
    ·have hc0:codeAt l k=0:=by rw [HC.out];simp [*]
     go_roundw
     case measure=>simp [intOf];omega
     case rel =>
      refine ⟨k+1,by omega,by go_num,fun j hj=>?_,(by repeat (first|exact Ex.refl _|refine Ex.alloc ?_ _|refine Ex.ext ?_ _ _|refine Ex.drew ?_|refine Ex.drewN ?_ _))⟩
      by_cases e:j=k
      ·rw [e];exact hc0
      ·exact HN.out j (by omega)
   ·have hok:a.ok=false:=by simpa using hok
    rw [hok] at H1 hcd
    simp only [Bool.false_eq_true,if_false,errV_pos E 2 (by decide)] at H1 hcd
    have HO:=Lib.hid H1
    clear H1 hok
    have HC:=Lib.hid hcd
    clear hcd
    have e2:w.cell? ⟨0,0,none⟩=some (.iface 357 (.pointer (some (E 2)))):=hE 2 (by decide)
    have b2:0<w.heap.size:=lt_of_cell e2
    go_wp2_with (go_at_call 180;refine (HO.out _ (by exact Errs.sub (hE.ex (by repeat (first|exact Ex.refl _|refine Ex.alloc ?_ _|refine Ex.ext ?_ _ _|refine Ex.drew ?_|refine Ex.drewN ?_ _))) (by decide))).mono ?_;rintro e w1 ⟨rfl,l2,d2,rfl⟩)
    go_ret
    have hc7:codeAt l k=2:=by first|exact HC.out|(rw [HC.out];simp [*])
    exact ⟨⟨_,rfl,Or.inr (Or.inr ⟨k,_,by have:=HL.out;omega,by have:=HL.out;omega,HN.out,by rw [hc7];decide,rfl,(by first|omega|(simp [go_sem];done)|(simp [go_sem];omega)),by rw [hc7];exact alloc_at (by first|omega|(simp [go_sem];done)|(simp [go_sem];omega))⟩)⟩,(by repeat (first|exact Ex.refl _|refine Ex.alloc ?_ _|refine Ex.ext ?_ _ _|refine Ex.drew ?_|refine Ex.drewN ?_ _))⟩
  ·go_wp2
   go_ret
   exact ⟨⟨_,rfl,Or.inr (Or.inl ⟨⟨by have:=HL.out;omega,fun j hj=>HN.out j (by have:=HL.out;omega)⟩,rfl⟩)⟩,(by repeat (first|exact Ex.refl _|refine Ex.alloc ?_ _|refine Ex.ext ?_ _ _|refine Ex.drew ?_|refine Ex.drewN ?_ _))⟩
end Go.Proofs.YtabbgpjofkaomaaGreatDoor
