import Derived.Test.YtabbgpjofkaomaaGreatDoorJ30
import Derived.Test.YtabbgpjofkaomaaGreatDoorJ0
import Derived.Test.YtabbgpjofkaomaaGreatDoorChecked
import Derived.Laws.Rows
import Derived.Test.YtabbgpjofkaomaaGreatDoorJ19
import Derived.Deep.AppendSrc
import Derived.Laws.AppendOwn
import Derived.Test.YtabbgpjofkaomaaGreatDoorJ24
import Derived.Deep.RegionLaw
import Derived.Deep.CutBlock
set_option linter.unusedSimpArgs false
set_option linter.unusedVariables false
/- What plain's Code computes: at nil, at an error of package api, at a Fault that holds one. -/
namespace Go.Proofs.YtabbgpjofkaomaaGreatDoor
open Go.RowKit
def allE:List Nat:=[1,2,3,4,5,6,7,8,9,10,11,12]
theorem mem_allE {c:Nat} (h1:1≤c) (h2:c≤12):c∈allE:=by
 simp only [allE,List.mem_cons,List.not_mem_nil,or_false];omega
theorem Apart.ex {E:Nat→Addr} {l:List Nat} {w w':World} (h:Apart E l w) (hx:Ex w w'):Apart E l w':=by
 refine ⟨fun c hc=>?_,h.2⟩
 obtain ⟨cs,t,hh⟩:=h.1 c hc
 exact ⟨cs,t,(hx.below.block _ (Array.getElem?_eq_some_iff.1 hh).1).trans hh⟩
theorem Handle.ex {w w':World} (h:Handle w) (hx:Ex w w'):Handle w':=(hx.below.cell (p:=⟨12,0,none⟩) (lt_of_cell h)).trans h
def CodeReady (E:Nat→Addr) (w:World):Prop:=Errs E allE w∧Apart E allE w∧Handle w
theorem CodeReady.ex {E:Nat→Addr} {w w':World} (h:CodeReady E w) (hx:Ex w w'):CodeReady E w':=⟨h.1.ex hx,h.2.1.ex hx,h.2.2.ex hx⟩
theorem is_err (E:Nat→Addr) (c j:Nat) (w:World) (hA:Apart E allE w) (hc:c∈allE) (hj:j∈allE) :
  Calls Tryz.prog 94 #[.iface 357 (.pointer (some (E c))),.iface 357 (.pointer (some (E j)))] w fun e w'=>e=.returned (.bool (c==j))∧w=w':=by
 by_cases h:c=j
 ·subst h
  rw [beq_self_eq_true]
  exact is_same _ w
 ·rw [beq_eq_false_iff_ne.2 h]
  obtain ⟨_,_,h1⟩:=hA.1 c hc
  obtain ⟨_,_,h2⟩:=hA.1 j hj
  exact is_other _ _ _ _ _ _ w (hA.2 c hc j hj h) h1 h2
def errsRow (E:Nat→Addr):Array Value:=#[.iface 357 (.pointer (some (E 1))),.iface 357 (.pointer (some (E 2))),.iface 357 (.pointer (some (E 3))),.iface 357 (.pointer (some (E 4))),.iface 357 (.pointer (some (E 5))),.iface 357 (.pointer (some (E 6))),
 .iface 357 (.pointer (some (E 7))),.iface 357 (.pointer (some (E 8))),.iface 357 (.pointer (some (E 9))),.iface 357 (.pointer (some (E 10))),.iface 357 (.pointer (some (E 11))),.iface 357 (.pointer (some (E 12)))]
theorem errsRow_at (E:Nat→Addr):∀ k,k<12→(errsRow E)[k]?=some (.iface 357 (.pointer (some (E (k+1)))))
 | 0,_=>rfl|1,_=>rfl|2,_=>rfl|3,_=>rfl|4,_=>rfl|5,_=>rfl|6,_=>rfl|7,_=>rfl|8,_=>rfl|9,_=>rfl|10,_=>rfl|11,_=>rfl
 | k+12,h=>by omega
theorem code_nil (w:World):Calls Tryz.prog 65 #[.nilIface] w fun e w'=>e=.returned (.tuple #[.int .i64 0,.int .i64 (-1)])∧w=w':=by
 go_enter Tryz.func65,Tryz.ntmps65
 go_wp2
 go_ret2
 exact ⟨rfl,rfl⟩
set_option maxRecDepth 100000 in
set_option maxHeartbeats 2000000 in
theorem code_err (c:Nat) (E:Nat→Addr) (w:World) (hr:CodeReady E w) (h1:1≤c) (h2:c≤12) :
  Calls Tryz.prog 65 #[.iface 357 (.pointer (some (E c)))] w fun e w'=>e=.returned (.tuple #[.int .i64 c,.int .i64 (-1)])∧Ex w w':=by
 obtain ⟨hE,hA,hg⟩:=hr
 have e1:w.cell? ⟨4,0,none⟩=some (.iface 357 (.pointer (some (E 1)))):=hE 1 (by decide)
 have b1:4<w.heap.size:=lt_of_cell e1
 have e2:w.cell? ⟨0,0,none⟩=some (.iface 357 (.pointer (some (E 2)))):=hE 2 (by decide)
 have b2:0<w.heap.size:=lt_of_cell e2
 have e3:w.cell? ⟨2,0,none⟩=some (.iface 357 (.pointer (some (E 3)))):=hE 3 (by decide)
 have b3:2<w.heap.size:=lt_of_cell e3
 have e4:w.cell? ⟨5,0,none⟩=some (.iface 357 (.pointer (some (E 4)))):=hE 4 (by decide)
 have b4:5<w.heap.size:=lt_of_cell e4
 have e5:w.cell? ⟨6,0,none⟩=some (.iface 357 (.pointer (some (E 5)))):=hE 5 (by decide)
 have b5:6<w.heap.size:=lt_of_cell e5
 have e6:w.cell? ⟨7,0,none⟩=some (.iface 357 (.pointer (some (E 6)))):=hE 6 (by decide)
 have b6:7<w.heap.size:=lt_of_cell e6
 have e7:w.cell? ⟨8,0,none⟩=some (.iface 357 (.pointer (some (E 7)))):=hE 7 (by decide)
 have b7:8<w.heap.size:=lt_of_cell e7
 have e8:w.cell? ⟨3,0,none⟩=some (.iface 357 (.pointer (some (E 8)))):=hE 8 (by decide)
 have b8:3<w.heap.size:=lt_of_cell e8
 have e9:w.cell? ⟨1,0,none⟩=some (.iface 357 (.pointer (some (E 9)))):=hE 9 (by decide)
 have b9:1<w.heap.size:=lt_of_cell e9
 have e10:w.cell? ⟨9,0,none⟩=some (.iface 357 (.pointer (some (E 10)))):=hE 10 (by decide)
 have b10:9<w.heap.size:=lt_of_cell e10
 have e11:w.cell? ⟨10,0,none⟩=some (.iface 357 (.pointer (some (E 11)))):=hE 11 (by decide)
 have b11:10<w.heap.size:=lt_of_cell e11
 have e12:w.cell? ⟨11,0,none⟩=some (.iface 357 (.pointer (some (E 12)))):=hE 12 (by decide)
 have b12:11<w.heap.size:=lt_of_cell e12
 have HE:=Lib.hid hE
 have HA:=Lib.hid hA
 have HG:=Lib.hid hg
 clear hE hA hg
 go_enter Tryz.func65,Tryz.ntmps65
 go_wp2_with (go_at_call 93;refine (as_miss _ _ _ (by exact HG.out.ex (by repeat (first|exact Ex.refl _|refine Ex.alloc ?_ _|refine Ex.ext ?_ _ _|refine Ex.drew ?_|refine Ex.drewN ?_ _)))).mono ?_;rintro e w1 ⟨rfl,l1,d1,rfl⟩)
 clear e1 e2 e3 e4 e5 e6 e7 e8 e9 e10 e11 e12
 go_loop [3,30] (fun a i=>∃ k:Nat,k<c∧i=.int .i64 k∧a=.int .i64 (-1)) (fun _ i=>c - (intOf i).toNat)
 case atStart=>exact ⟨0,by omega,rfl,rfl⟩
 case round =>
  obtain ⟨k,hk,rfl,rfl⟩:=hrel
  have hrow:=errsRow_at E k (by omega)
  simp only [errsRow] at hrow
  have h12:decide ((k:Int)<12)=true:=by simp;omega
  by_cases hck:c=k+1
  ·have HCK:=Lib.hid hck
   have hq:(c==k+1)=true:=by simp [hck]
   clear hck
   go_wp2_with (go_at_call 94;refine (is_err E c (k+1) _ (by exact HA.out.ex (by repeat (first|exact Ex.refl _|refine Ex.alloc ?_ _|refine Ex.ext ?_ _ _|refine Ex.drew ?_|refine Ex.drewN ?_ _))) (mem_allE h1 h2) (mem_allE (by omega) (by omega))).mono ?_;rintro e w1 ⟨rfl,rfl⟩)
   go_ret2
   exact ⟨by rw [HCK.out];rfl,(by repeat (first|exact Ex.refl _|refine Ex.alloc ?_ _|refine Ex.ext ?_ _ _|refine Ex.drew ?_|refine Ex.drewN ?_ _))⟩
  ·have hq:(c==k+1)=false:=by simp [hck]
   have hlt:k+1<c:=by omega
   go_wp2_with (go_at_call 94;refine (is_err E c (k+1) _ (by exact HA.out.ex (by repeat (first|exact Ex.refl _|refine Ex.alloc ?_ _|refine Ex.ext ?_ _ _|refine Ex.drew ?_|refine Ex.drewN ?_ _))) (mem_allE h1 h2) (mem_allE (by omega) (by omega))).mono ?_;rintro e w1 ⟨rfl,rfl⟩)
   go_round
   case rel=>exact ⟨k+1,by omega,by go_num,rfl⟩
   case measure=>simp [intOf];omega
end Go.Proofs.YtabbgpjofkaomaaGreatDoor

/- Things that lie in blocks of their own, side by side in one world; what a call on one of them leaves of the others. Plain facts, no condition. -/
namespace Go.Proofs.YtabbgpjofkaomaaGreatDoor
open Go.RowKit
structure Only (F:Nat→Prop) (w w':World):Prop where
 os:w'.os=w.os
 tape:w'.tape=w.tape
 output:w'.output=w.output
 size:w.heap.size≤w'.heap.size
 block:∀ n,n<w.heap.size→¬ F n→w'.heap[n]?=w.heap[n]?
def NoF (_:Nat):Prop:=False
section
variable {F G:Nat→Prop} {w w1 w':World}
theorem Only.refl (F:Nat→Prop) (w:World):Only F w w:=⟨rfl,rfl,rfl,Nat.le_refl _,fun _ _ _=>rfl⟩
theorem Only.ex (h:Ex w w'):Only F w w':=⟨h.below.os,h.below.tape,h.below.output,h.below.size,fun n hn _=>h.below.block n hn⟩
theorem Only.toEx (h:Only F w w') (hF:∀ n,F n→w.heap.size≤n):Ex w w':=Ex.of ⟨h.os,h.tape,h.output,h.size,fun n hn=>h.block n hn fun hf=>by have:=hF n hf;omega⟩
theorem Only.after {w0:World} (h:Only F w w') (hx:Ex w0 w) (hl:∀ n,F n→w0.heap.size≤n):Ex w0 w' :=
 Ex.of ⟨h.os.trans hx.below.os,h.tape.trans hx.below.tape,h.output.trans hx.below.output,Nat.le_trans hx.below.size h.size,fun n hn=>(h.block n (Nat.lt_of_lt_of_le hn hx.below.size) fun hf=>by have:=hl n hf;omega).trans (hx.below.block n hn)⟩
theorem Only.mono (h:Only F w w') (hF:∀ n,n<w.heap.size→F n→G n):Only G w w':=⟨h.os,h.tape,h.output,h.size,fun n hn hg=>h.block n hn fun hf=>hg (hF n hn hf)⟩
theorem Only.trans (h:Only F w w1) (k:Only G w1 w') (hG:∀ n,n<w.heap.size→G n→F n):Only F w w' :=
 ⟨k.os.trans h.os,k.tape.trans h.tape,k.output.trans h.output,Nat.le_trans h.size k.size,fun n hn hf=>(k.block n (Nat.lt_of_lt_of_le hn h.size) fun hg=>hf (hG n hn hg)).trans (h.block n hn hf)⟩
theorem Only.setCell (h:Only F w w1) {p:Addr} (hp:p.block<w.heap.size→F p.block) (v:Value):Only F w (w1.setCell p v) :=
 ⟨h.os,h.tape,h.output,by simpa [World.setCell] using h.size,fun n hn hf=>(Below.heap_setCell _ _ _ _ (fun e=>hf (by subst e;exact hp hn))).trans (h.block n hn hf)⟩
theorem Only.of_kp {own:Nat→Nat} {m g:Nat} (h:Kp own m g w w') (hF:∀ n,n<w.heap.size→own n / m=g→F n):Only F w w':=⟨h.os,h.tape,h.output,h.size,fun n hn hf=>h.block n hn fun e=>hf (hF n hn e)⟩
theorem Only.grown {row:Option Nat} (h:w.grownBy w' row) (hr:∀ b,row=some b→b<w.heap.size→F b):Only F w w':=⟨h.os,h.tape,h.output,h.size,fun n hn hf=>h.block n hn fun e=>hf (hr n e.symm hn)⟩
end
structure Th where
 P:(Nat→Prop)→World→Prop
 lt:∀ {F w},P F w→∀ n,F n→n<w.heap.size
 same:∀ {F G w w'},P F w→Only G w w'→(∀ n,F n→¬ G n)→P F w'
def SepL:List Th→(Nat→Prop)→World→Prop
 | [],F,_=>∀ n,¬ F n
 | T::L,F,W=>∃ F1 F2:Nat→Prop,(∀ n,F n↔F1 n∨F2 n)∧(∀ n,F1 n→¬ F2 n)∧T.P F1 W∧SepL L F2 W
theorem SepL.lt:∀ {L:List Th} {F:Nat→Prop} {W:World},SepL L F W→∀ n,F n→n<W.heap.size
 | [],_,_,h,n,hn=>absurd hn (h n)
 | T::_,_,_,⟨_,_,hF,_,h1,h2⟩,n,hn=>by
  rcases (hF n).1 hn with h|h
  ·exact T.lt h1 n h
  ·exact SepL.lt h2 n h
theorem SepL.same:∀ {L:List Th} {F G:Nat→Prop} {W W':World},SepL L F W→Only G W W'→(∀ n,F n→¬ G n)→SepL L F W'
 | [],_,_,_,_,h,_,_=>h
 | T::_,_,_,_,_,⟨F1,F2,hF,hd,h1,h2⟩,ho,hn=>⟨F1,F2,hF,hd,T.same h1 ho fun n hf=>hn n ((hF n).2 (.inl hf)),SepL.same h2 ho fun n hf=>hn n ((hF n).2 (.inr hf))⟩
theorem SepL.congr:∀ {L:List Th} {F F':Nat→Prop} {W:World},SepL L F W→(∀ n,F n↔F' n)→SepL L F' W
 | [],_,_,_,h,e=>fun n hn=>h n ((e n).2 hn)
 | _::_,_,_,_,⟨F1,F2,hF,hd,h1,h2⟩,e=>⟨F1,F2,fun n=>(e n).symm.trans (hF n),hd,h1,h2⟩
theorem SepL.append:∀ {L M:List Th} {F G:Nat→Prop} {W:World},SepL L F W→SepL M G W→(∀ n,F n→¬ G n)→SepL (L++M) (fun n=>F n∨G n) W
 | [],_,F,G,_,h,k,_=>k.congr fun n=>⟨.inr,fun hn=>hn.resolve_left (h n)⟩
 | _::_,_,_,_,_,⟨F1,F2,hF,hd,h1,h2⟩,k,hn =>
  ⟨F1,_,fun n=>(or_congr (hF n) Iff.rfl).trans or_assoc,fun n hf hg=>hg.elim (hd n hf) (hn n ((hF n).2 (.inl hf))),h1,SepL.append h2 k fun n hf=>hn n ((hF n).2 (.inr hf))⟩
theorem SepL.split:∀ {L M:List Th} {F:Nat→Prop} {W:World},SepL (L++M) F W→∃ F1 F2:Nat→Prop,(∀ n,F n↔F1 n∨F2 n)∧(∀ n,F1 n→¬ F2 n)∧SepL L F1 W∧SepL M F2 W
 | [],_,F,_,h=>⟨fun _=>False,F,fun n=>⟨.inr,fun h=>h.resolve_left id⟩,fun _ h=>h.elim,fun _ h=>h,h⟩
 | T::L,M,F,W,⟨F1,F2,hF,hd,h1,h2⟩=>by
  obtain ⟨G1,G2,gF,gd,g1,g2⟩:=SepL.split (L:=L) h2
  refine ⟨fun n=>F1 n∨G1 n,G2,fun n=>by rw [hF n,gF n];exact or_assoc.symm,fun n hn=>?_,⟨F1,G1,fun n=>Iff.rfl,fun n hf hg=>hd n hf ((gF n).2 (.inl hg)),h1,g1⟩,g2⟩
  rcases hn with hn|hn
  ·exact fun hg=>hd n hn ((gF n).2 (.inr hg))
  ·exact gd n hn
theorem SepL.perm {L L':List Th} (h:L.Perm L'):∀ {F:Nat→Prop} {W:World},SepL L F W→SepL L' F W:=by
 induction h with
 | nil=>exact fun h=>h
 | cons x _ ih=>rintro F W ⟨F1,F2,hF,hd,h1,h2⟩;exact ⟨F1,F2,hF,hd,h1,ih h2⟩
 | swap x y l =>
  rintro F W ⟨F1,F2,hF,hd,h1,G1,G2,gF,gd,g1,g2⟩
  refine ⟨G1,fun n=>F1 n∨G2 n,fun n=>?_,fun n hg hf=>hf.elim (fun hf=>hd n hf ((gF n).2 (.inl hg))) (gd n hg),g1,F1,G2,fun n=>Iff.rfl,fun n hf hg=>hd n hf ((gF n).2 (.inr hg)),h1,g2⟩
  rw [hF n,gF n]
  constructor
  ·rintro (a|a|a)
   ·exact .inr (.inl a)
   ·exact .inl a
   ·exact .inr (.inr a)
  ·rintro (a|a|a)
   ·exact .inr (.inl a)
   ·exact .inl a
   ·exact .inr (.inr a)
 | trans _ _ ih1 ih2=>exact fun h=>ih2 (ih1 h)
structure Sep (F0:Nat→Prop) (w0:World) (L:List Th) (W:World):Prop where
 only:Only F0 w0 W
 sep:∃ F:Nat→Prop,SepL L F W∧∀ n,F n→F0 n∨w0.heap.size≤n
section
variable {F0:Nat→Prop} {w0 W W':World} {L M:List Th} {T T':Th}
theorem Sep.start {F:Nat→Prop} (h:SepL L F W):Sep F W L W:=⟨Only.refl _ _,F,h,fun n hn=>.inl hn⟩
theorem Sep.law (w:World):Sep NoF w [] w:=⟨Only.refl _ _,NoF,fun n hn=>hn,fun n hn=>hn.elim⟩
theorem Sep.ex (h:Sep NoF w0 L W):Ex w0 W:=h.only.toEx fun n hn=>hn.elim
theorem Sep.later (h:Sep F0 w0 L W) (hx:Ex W W'):Sep F0 w0 L W':=by
 obtain ⟨h1,F,h2,h3⟩:=h
 exact ⟨h1.trans (Only.ex hx) (fun n _ (hf:NoF n)=>hf.elim),F,h2.same (Only.ex hx) (fun n _ (hf:NoF n)=>hf.elim),h3⟩
theorem Sep.size (h:Sep F0 w0 L W):w0.heap.size≤W.heap.size:=h.only.size
theorem Sep.add (h:Sep F0 w0 L W) (hx:Ex W W') {F:Nat→Prop} (hM:SepL M F W') (hn:∀ n,F n→W.heap.size≤n):Sep F0 w0 (M++L) W':=by
 have hsz:=h.only.size
 obtain ⟨h1,F2,h2,h3⟩:=h.later hx
 obtain ⟨_,F3,h4,h5⟩:=h
 have hd:∀ n,F n→¬ F3 n:=fun n hf hg=>by have:=hn n hf;have:=h4.lt n hg;omega
 refine ⟨h1,_,hM.append (h4.same (Only.ex hx) (fun n _ (hf:NoF n)=>hf.elim)) hd,fun n hf=>?_⟩
 rcases hf with hf|hf
 ·exact .inr (Nat.le_trans hsz (hn n hf))
 ·exact h5 n hf
theorem Sep.addB (h:Sep F0 w0 L W) (hx:Ex W W') {F:Nat→Prop} (hM:SepL M F W') (hn:∀ n,F n→W.heap.size≤n):Sep F0 w0 (L++M) W':=by
 have hsz:=h.only.size
 obtain ⟨h1,F2,h2,h3⟩:=h.later hx
 obtain ⟨_,F3,h4,h5⟩:=h
 have hd:∀ n,F3 n→¬ F n:=fun n hg hf=>by have:=hn n hf;have:=h4.lt n hg;omega
 refine ⟨h1,_,(h4.same (Only.ex hx) (fun n _ (hf:NoF n)=>hf.elim)).append hM hd,fun n hf=>?_⟩
 rcases hf with hf|hf
 ·exact h5 n hf
 ·exact .inr (Nat.le_trans hsz (hn n hf))
theorem Sep.perm (h:Sep F0 w0 L W) {L':List Th} (hp:L.Perm L'):Sep F0 w0 L' W:=by
 obtain ⟨h1,F,h2,h3⟩:=h
 exact ⟨h1,F,h2.perm hp,h3⟩
theorem Sep.open (h:Sep F0 w0 L W) (i:Nat) (hi:L[i]?=some T) :
  ∃ F:Nat→Prop,T.P F W∧(∀ n,F n→F0 n∨w0.heap.size≤n) ∧
   ∀ {W':World} {M:List Th} {F':Nat→Prop},Only F W W'→SepL M F' W'→(∀ n,F' n→F n∨W.heap.size≤n)→Sep F0 w0 (L.take i++(M++L.drop (i+1))) W':=by
 obtain ⟨h1,FF,h2,h3⟩:=h
 have hlt:i<L.length:=(List.getElem?_eq_some_iff.1 hi).1
 have hT:L[i]=T:=(List.getElem?_eq_some_iff.1 hi).2
 have e:L=L.take i++(T::L.drop (i+1)):=by
  rw [← hT,List.getElem_cons_drop hlt,List.take_append_drop]
 rw [e] at h2
 obtain ⟨G1,G2,gF,gd,g1,F1,F2,hF,hd,k1,k2⟩:=h2.split
 have hin:∀ n,F1 n→FF n:=fun n hn=>(gF n).2 (.inr ((hF n).2 (.inl hn)))
 refine ⟨F1,k1,fun n hn=>h3 n (hin n hn),fun {W' M F'} ho hM hF'=>?_⟩
 have a1:∀ n,G1 n→¬ F1 n:=fun n hg hf=>gd n hg ((hF n).2 (.inl hf))
 have a2:∀ n,F2 n→¬ F1 n:=fun n hg hf=>hd n hf hg
 have l1:=g1.same ho a1
 have l2:=k2.same ho a2
 have hnew:∀ n,F' n→(G1 n∨F2 n)→False:=fun n hf hg=>by
  rcases hF' n hf with h|h
  ·exact hg.elim (fun x=>a1 n x h) (fun x=>a2 n x h)
  ·rcases hg with x|x
   ·have:=g1.lt n x;omega
   ·have:=k2.lt n x;omega
 have l3:=l1.append (hM.append l2 fun n hf hg=>hnew n hf (.inr hg)) fun n hg hx=>hx.elim (fun hf=>hnew n hf (.inl hg)) (fun hf=>gd n hg ((hF n).2 (.inr hf)))
 refine ⟨h1.trans ho fun n hn hf=>?_,_,l3,fun n hn=>?_⟩
 ·rcases h3 n (hin n hf) with h|h
  ·exact h
  ·omega
 ·rcases hn with hn|hn|hn
  ·exact h3 n ((gF n).2 (.inl hn))
  ·rcases hF' n hn with h|h
   ·exact h3 n (hin n h)
   ·exact .inr (Nat.le_trans h1.size h)
  ·exact h3 n ((gF n).2 (.inr ((hF n).2 (.inr hn))))
theorem Sep.look (h:Sep F0 w0 L W) (i:Nat) (hi:L[i]?=some T):∃ F:Nat→Prop,T.P F W:=by
 obtain ⟨F,h1,_⟩:=h.open i hi
 exact ⟨F,h1⟩
theorem Sep.less (h:Sep F0 w0 L W) (i:Nat) (hi:L[i]?=some T):Sep F0 w0 (L.take i++L.drop (i+1)) W:=by
 obtain ⟨F,h1,h2,h3⟩:=h.open i hi
 exact h3 (M:=[]) (F':=fun _=>False) (Only.refl _ _) (fun n hn=>hn) (fun n hn=>hn.elim)
theorem SepL.one {F:Nat→Prop} (h:T.P F W):SepL [T] F W:=⟨F,fun _=>False,fun n=>⟨.inl,fun h=>h.resolve_right id⟩,fun _ _ h=>h,h,fun _ h=>h⟩
theorem SepL.two {T2:Th} {F G:Nat→Prop} (h:T.P F W) (k:T2.P G W) (hd:∀ n,F n→¬ G n):SepL [T,T2] (fun n=>F n∨G n) W:=(SepL.one h).append (SepL.one k) hd
def Leaves (T':Th) (F:Nat→Prop) (w w':World):Prop:=∃ F':Nat→Prop,T'.P F' w'∧Only F w w'∧∀ n,F' n→F n∨w.heap.size≤n
def LeavesL (M:List Th) (F:Nat→Prop) (w w':World):Prop:=∃ F':Nat→Prop,SepL M F' w'∧Only F w w'∧∀ n,F' n→F n∨w.heap.size≤n
theorem Leaves.toL {F:Nat→Prop} (h:Leaves T F W W'):LeavesL [T] F W W':=by
 obtain ⟨F',h1,h2,h3⟩:=h
 exact ⟨F',SepL.one h1,h2,h3⟩
theorem Sep.close {F:Nat→Prop} (h:Sep F W L W'):LeavesL L F W W':=by
 obtain ⟨h1,F',h2,h3⟩:=h
 exact ⟨F',h2,h1,h3⟩
end
def blkTh (b:Nat) (vs:Array Value) (t:TypeId):Th where
 P F w:=(∀ n,F n↔n=b)∧w.heap[b]?=some (.cells vs t (0,0))
 lt h n hn:=by rw [(h.1 n).1 hn];exact (Array.getElem?_eq_some_iff.1 h.2).1
 same h ho hn:=⟨h.1,(ho.block b (Array.getElem?_eq_some_iff.1 h.2).1 (hn b ((h.1 b).2 rfl))).trans h.2⟩
def PartAt (w:World) (b N:Nat) (f:Nat→Value):Prop:=∃ cs t,w.heap[b]?=some (.cells cs t (0,0))∧∀ n,n<N→cs[n]?=some (f n)
theorem PartAt.lt {w:World} {b N:Nat} {f:Nat→Value} (h:PartAt w b N f):b<w.heap.size:=by
 obtain ⟨cs,t,h,_⟩:=h
 exact (Array.getElem?_eq_some_iff.1 h).1
theorem PartAt.cell {w:World} {b N:Nat} {f:Nat→Value} (h:PartAt w b N f) {j:Nat} (hj:j<N):w.cell? ⟨b,j,none⟩=some (f j):=by
 obtain ⟨cs,t,h,k⟩:=h
 simp [World.cell?,h,k j hj]
theorem PartAt.free {w:World} {b N:Nat} {f:Nat→Value} (h:PartAt w b N f) (j:Nat):w.frozen? ⟨b,j,none⟩=false:=by
 obtain ⟨cs,t,h,_⟩:=h
 simp [World.frozen?,h]
theorem PartAt.block {w w':World} {b N:Nat} {f:Nat→Value} (h:PartAt w b N f) (hb:w'.heap[b]?=w.heap[b]?):PartAt w' b N f:=by
 obtain ⟨cs,t,h,k⟩:=h
 exact ⟨cs,t,hb.trans h,k⟩
theorem PartAt.set {w:World} {b N:Nat} {f:Nat→Value} (h:PartAt w b N f) (j:Nat) (v:Value):PartAt (w.setCell ⟨b,j,none⟩ v) b N (fun n=>if n=j then v else f n):=by
 obtain ⟨cs,t,h,k⟩:=h
 refine ⟨cs.setIfInBounds j v,t,heap_setCell_same w b j cs t v h,fun n hn=>?_⟩
 have:=k n hn
 have hn2:=(Array.getElem?_eq_some_iff.1 this).1
 by_cases e:n=j
 ·subst e
  show _=some (if n=n then v else f n)
  rw [if_pos rfl,Array.getElem?_setIfInBounds_self_of_lt hn2]
 ·show _=some (if n=j then v else f n)
  rw [if_neg e,Array.getElem?_setIfInBounds_ne (Ne.symm e)]
  exact this
theorem PartAt.congr {w:World} {b N:Nat} {f g:Nat→Value} (h:PartAt w b N f) (e:∀ n,n<N→f n=g n):PartAt w b N g:=by
 obtain ⟨cs,t,h,k⟩:=h
 exact ⟨cs,t,h,fun n hn=>(k n hn).trans (by rw [e n hn])⟩
def partTh (b N:Nat) (f:Nat→Value):Th where
 P F w:=(∀ n,F n↔n=b)∧PartAt w b N f
 lt h n hn:=by rw [(h.1 n).1 hn];exact h.2.lt
 same h ho hn:=⟨h.1,h.2.block (ho.block b h.2.lt (hn b ((h.1 b).2 rfl)))⟩
structure Rd (v:Value) where
 R:World→Prop
 lt:∀ {w},R w→∀ g,v.ownBlock=some g→g<w.heap.size
 same:∀ {w w'},R w→(∀ g,v.ownBlock=some g→w'.heap[g]?=w.heap[g]?)→R w'
def rdTh {v:Value} (r:Rd v):Th where
 P F w:=(∀ n,F n↔v.ownBlock=some n)∧r.R w
 lt h n hn:=r.lt h.2 n ((h.1 n).1 hn)
 same h ho hn:=⟨h.1,r.same h.2 fun g hg=>ho.block g (r.lt h.2 g hg) (hn g ((h.1 g).2 hg))⟩
structure LabOb where
 Ob:(Nat→Nat)→Nat→World→Prop
 kp:∀ {own own':Nat→Nat} {m g i:Nat} {w w':World},Ob own i w→Kp own m g w w'→i / m≠g→(∀ n,n<w.heap.size→own n=i→own' n=i)→Ob own' i w'
def labTh (o:LabOb):Th where
 P F w:=(∀ n,F n→n<w.heap.size)∧∃ own,o.Ob own 1 w∧∀ n,n<w.heap.size→own n=1→F n
 lt h:=h.1
 same:=fun {F G w w'} h ho hn=>by
  obtain ⟨h1,own,h2,h3⟩:=h
  refine ⟨fun n hf=>Nat.lt_of_lt_of_le (h1 n hf) ho.size,fun n=>if n<w.heap.size∧own n=1 then 1 else 0,?_,fun n _ e=>?_⟩
  ·have hr:o.Ob (fun n=>if n<w.heap.size∧own n=1 then 1 else 0) 1 w:=o.kp h2 (Kp.refl own 1 2 w) (by decide) fun n hn e=>if_pos ⟨hn,e⟩
   refine o.kp hr (m:=1) (g:=0) ⟨ho.os,ho.tape,ho.output,ho.size,fun n hlt hne=>ho.block n hlt (hn n ?_)⟩ (by decide) (fun n _ e=>e)
   rw [Nat.div_one] at hne
   by_cases e:n<w.heap.size∧own n=1
   ·exact h3 n e.1 e.2
   ·exact absurd (if_neg e) hne
  ·by_cases e2:n<w.heap.size∧own n=1
   ·exact h3 n e2.1 e2.2
   ·have e':(if n<w.heap.size∧own n=1 then 1 else 0)=1:=e
    rw [if_neg e2] at e'
    cases e'
theorem labTh.leaves {o o':LabOb} {F:Nat→Prop} {own:Nat→Nat} {w w':World} (hF:∀ n,n<w.heap.size→own n=1→F n) (h0:∀ n,F n→n<w.heap.size) (h:ObjTo own 1 1 w (fun u w'=>o'.Ob u 1 w') w'):Leaves (labTh o') F w w':=by
 obtain ⟨k,x,rfl,hI⟩:=h
 refine ⟨fun n=>(F n∧n<w.heap.size)∨(w.heap.size≤n∧n<w.heap.size+k),⟨fun n hn=>?_,_,hI,fun n hn e=>?_⟩,Only.of_kp (ov_kp w own 1 1 k x) (fun n hn e=>hF n hn (by rw [Nat.div_one] at e;exact e)),fun n hn=>?_⟩
 ·rw [ov_size]
  rcases hn with h|h<;>omega
 ·rw [ov_size] at hn
  by_cases hlt:n<w.heap.size
  ·rw [lab_lt hlt] at e
   exact .inl ⟨hF n hlt e,hlt⟩
  ·exact .inr ⟨by omega,hn⟩
 ·rcases hn with h|h
  ·exact .inl h.1
  ·exact .inr h.1
end Go.Proofs.YtabbgpjofkaomaaGreatDoor

/- What small functions of package venue compute: code, refused, lot; how a report lies in memory. -/
namespace Go.Proofs.YtabbgpjofkaomaaGreatDoor
open Go.RowKit
theorem rep_len (x:Rep):x.cells.length=6:=rfl
theorem rep_one (l:List Rep):∀ u∈flat Rep.cells l,u.oneCell'=true:=by
 intro u hu
 obtain ⟨x,_,hx⟩:=List.mem_flatMap.1 hu
 simp only [Rep.cells,List.mem_cons,List.not_mem_nil,or_false] at hx
 rcases hx with rfl|rfl|rfl|rfl|rfl|rfl<;>rfl
theorem infoRep:(Tryz.prog.info? 50).map (fun i=>(i.zero,i.size,i.bytes))=some (some (.agg #[.int .i64 0,.string ⟨#[]⟩,.int .i64 0,.int .i64 0,.int .i64 0,.int .i64 0]),6,56):=by kernel_rfl
def rrowRd (l:List Rep) (u:Value):Rd u where
 R w:=RowAt w 50 6 u l.length (flat Rep.cells l)
 lt h g hg:=h.lt g hg
 same h hb:=h.of_block hb
theorem rrow_nil (w:World):(rrowRd [] (.slice none 0 0)).R w:=RowAt.nil _ _ _
theorem rrow_one {w:World} (x:Rep) {b:Nat} {cs:Array Value} (h:w.heap[b]?=some (.cells cs 50 (0,0))) (hc:cs.toList=x.cells):(rrowRd [x] (.slice (some ⟨b,0,none⟩) 1 1)).R w:=by
 have e:flat Rep.cells [x]=cs.toList:=by rw [flat_one,hc]
 have hl:cs.size=6:=by rw [← Array.length_toList,hc];rfl
 show RowAt w _ 6 _ 1 _
 rw [e]
 exact ⟨by rw [Array.length_toList,hl],.inr ⟨b,0,1,cs,rfl,⟨_,h,Unmarked.plain _⟩,Nat.le_refl _,by unfold maxLen;omega,by omega,by rw [List.drop_zero,List.take_of_length_le (by rw [Array.length_toList];omega)]⟩⟩
theorem rrow_slice {l:List Rep} {u:Value} {w:World} (h:(rrowRd l u).R w):∃ ao cap,u=.slice ao l.length cap∧l.length≤cap∧cap≤maxLen:=by
 obtain ⟨_,⟨rfl,h0⟩|⟨g,off,cap,cur,rfl,_,hc,hm,_⟩⟩:=(show RowAt w _ 6 u l.length (flat Rep.cells l) from h)
 ·exact ⟨none,0,by rw [h0],by omega,by unfold maxLen;omega⟩
 ·exact ⟨_,cap,rfl,hc,hm⟩
set_option maxRecDepth 100000 in
theorem vcode_any (c:Nat) (h1:1≤c) (h2:c≤12) (E:Nat→Addr) (w:World) (hr:CodeReady E w):Calls Tryz.prog 110 #[errV E c] w fun e w'=>e=.returned (.int .i64 (c:Int))∧Ex w w':=by
 rw [errV_pos E c (by omega)]
 have HC:=Lib.hid (code_err c E w hr h1 h2)
 clear hr
 go_enter Tryz.func110,Tryz.ntmps110
 go_wp2_with (go_at_call 65;refine HC.out.mono ?_;rintro e w1 ⟨rfl,l1,d1,rfl⟩)
 all_goals go_ret
 all_goals exact ⟨rfl,(by repeat (first|exact Ex.refl _|refine Ex.alloc ?_ _|refine Ex.ext ?_ _ _|refine Ex.drew ?_|refine Ex.drewN ?_ _))⟩
set_option maxRecDepth 100000 in
theorem vrefused_any (n id:Int) (c:Nat) (h1:1≤c) (h2:c≤12) (E:Nat→Addr) (w:World) (hr:CodeReady E w):Calls Tryz.prog 76 #[.int .i64 n,.int .i64 id,errV E c] w fun e w'=>e=.returned (refR n id c).val∧Ex w w':=by
 have HC:=Lib.hid (fun W (hx:Ex w W)=>vcode_any c h1 h2 E W (hr.ex hx))
 clear hr
 generalize errV E c=v at *
 go_enter Tryz.func76,Tryz.ntmps76
 go_wp2_with (go_at_call 110;refine (HC.out _ (by repeat (first|exact Ex.refl _|refine Ex.alloc ?_ _|refine Ex.ext ?_ _ _|refine Ex.drew ?_|refine Ex.drewN ?_ _))).mono ?_;rintro e w1 ⟨rfl,l1,d1,rfl⟩)
 all_goals go_returns
 all_goals exact ⟨rfl,(by repeat (first|exact Ex.refl _|refine Ex.alloc ?_ _|refine Ex.ext ?_ _ _|refine Ex.drew ?_|refine Ex.drewN ?_ _))⟩
set_option maxRecDepth 100000 in
theorem vlot_any (kind:ByteArray) (x:Lot) (w:World):Calls Tryz.prog 87 #[.string kind,x.val] w fun e w'=>e=.returned (lotR kind x).val∧Ex w w':=by
 obtain ⟨xi,xo,xs,xp,xq⟩:=x
 go_enter Tryz.func87,Tryz.ntmps87
 go_wp2
 all_goals go_returns
 all_goals exact ⟨rfl,(by repeat (first|exact Ex.refl _|refine Ex.alloc ?_ _|refine Ex.ext ?_ _ _|refine Ex.drew ?_|refine Ex.drewN ?_ _))⟩
end Go.Proofs.YtabbgpjofkaomaaGreatDoor

/- A row of a call's own, of any elements: how it reads, and grows. -/
namespace Go.Proofs.YtabbgpjofkaomaaGreatDoor
open Go.RowKit
def GRow {α:Type} (t:TypeId) (N:Nat) (f:α→List Value) (base:Nat) (l:List α) (v:Value) (W:World):Prop:=RowAt W t N v l.length (flat f l)∧∀ g,v.ownBlock=some g→base≤g
section
variable {α:Type} {t:TypeId} {N:Nat} {f:α→List Value} {base:Nat} {l m:List α} {v v':Value} {w W W1 W':World}
theorem GRow.nil (W:World):GRow t N f base [] (.slice none 0 0) W:=⟨RowAt.nil _ _ _,fun g h=>by cases h⟩
theorem GRow.block (h:GRow t N f base l v W) (hb:∀ g,v.ownBlock=some g→W'.heap[g]?=W.heap[g]?):GRow t N f base l v W':=⟨h.1.of_block hb,h.2⟩
theorem GRow.ex (h:GRow t N f base l v W) (hx:Ex W W'):GRow t N f base l v W':=h.block fun g hg=>hx.below.block g (h.1.lt g hg)
theorem GRow.slice (h:GRow t N f base l v W):∃ ao cap,v=.slice ao l.length cap∧l.length≤cap∧cap≤maxLen:=by
 obtain ⟨_,⟨rfl,h0⟩|⟨g,off,cap,cur,rfl,_,hc,hm,_⟩⟩:=h.1
 ·exact ⟨none,0,by rw [h0],by omega,by unfold maxLen;omega⟩
 ·exact ⟨_,cap,rfl,hc,hm⟩
theorem GRow.app {n:Nat} {xs:List Value} (h:GRow t N f base l v W) (hrow:RowAt W' t N v' n xs) (hn:n=(l++m).length) (hxs:xs=flat f (l++m)) {z:Nat} (ho:v'.ownBlock=v.ownBlock∨v'.ownBlock=some z) (hz:base≤z):GRow t N f base (l++m) v' W':=by
 subst hn hxs
 refine ⟨hrow,fun g e=>?_⟩
 rcases ho with h2|h2
 ·exact h.2 g (h2.symm.trans e)
 ·rw [h2] at e;cases e;exact hz
theorem GRow.later (h:GRow t N f base l v W) (hx:Ex w W1) (hg:W1.grownBy W' v.ownBlock) (hb:w.heap.size≤base):Ex w W' :=
 Ex.of (Below.grown hx.below hg hx.below.size fun k e=>Nat.le_trans hb (h.2 k e))
end
end Go.Proofs.YtabbgpjofkaomaaGreatDoor

/- Append to a row, told by what has turned. -/
namespace Go.Proofs.YtabbgpjofkaomaaGreatDoor
open Go.RowKit
theorem run_append_keepK {P:Program} (t tx ty e:TypeId) (i:TypeInfo) (z:Value) (size bytes:Nat) (ht:P.underlying t=some (.slice e)) (hi:P.info? e=some i) (hz:i.zero=some z)
  (hsize:i.size=size) (hby:i.bytes=bytes) (hzs:z.cells.size=size)
  {w:World} {v x:Value} {n m:Nat} {xs news:List Value} (h:RowAt w e size v n xs) (hs:Src P size tx x m news w)
  (h63:n+m≤maxLen) (hbytes:(n+m)*bytes≤140737488355328) :
  ∃ v' w',(Builtin.append_ #[t,tx] ty #[v,x]).run P w=.ok v' w'∧RowAt w' e size v' (n+m) (xs++news)∧w.grownBy w' v.ownBlock ∧
   (v'.ownBlock=v.ownBlock∨v'.ownBlock=some w.heap.size)∧RowAt w' e size v n xs:=by
 subst hsize
 subst hby
 have hsmall:n+m≤9223372036854775807:=by simp only [maxLen] at h63;omega
 have hlen:(xs++news).length=(n+m)*i.size:=by rw [List.length_append,h.1,hs.newsLen,Nat.add_mul]
 have grown:∀ (old:Nat),old<n+m→∀ (row:Option Nat),
   RowAt (w.drew.alloc (.cells ((xs++news).toArray++Builtin.zeroCells z.cells (grownCap w (n+m) old e - (n+m))) e)) e i.size
    (.slice (some ⟨w.heap.size,0,none⟩) (n+m) (grownCap w (n+m) old e)) (n+m) (xs++news) ∧
   w.grownBy (w.drew.alloc (.cells ((xs++news).toArray++Builtin.zeroCells z.cells (grownCap w (n+m) old e - (n+m))) e)) row:=by
  intro old ho row
  have hge:=grownCap_ge w (n+m) old e
  have hcm:grownCap w (n+m) old e≤maxLen:=grownCap_le_maxLen w (n+m) old e h63
  refine ⟨⟨hlen,.inr ⟨w.heap.size,0,_,_,rfl,⟨_,heap_alloc_new w.drew _,Unmarked.plain _⟩,hge,hcm,?_,?_⟩⟩,⟨rfl,rfl,rfl,by simp,fun k hk _=>heap_alloc_old w.drew _ hk⟩⟩
  ·simp only [Array.size_append,List.size_toArray,size_zeroCells,hzs,hlen,← Nat.add_mul,Nat.zero_add]
   exact Nat.le_of_eq (by congr 1;omega)
  ·simp only [Array.toList_append,List.drop_zero]
   rw [← hlen]
   exact List.take_left
 rcases h.2 with ⟨rfl,rfl⟩|⟨g,off,cap,cur,rfl,⟨fr,hg,hfr⟩,hnc,hcm,hcs,htake⟩
 ·have hx:xs=[]:=List.eq_nil_of_length_eq_zero (by simpa using h.1)
  subst hx
  by_cases hm:m=0
  ·subst hm
   have hn:news=[]:=List.eq_nil_of_length_eq_zero (by simpa using hs.newsLen)
   subst hn
   refine ⟨.slice none 0 0,w,?_,RowAt.nil w e i.size,grownBy_refl w _,.inl rfl,RowAt.nil _ _ _⟩
   rcases hs.kind with ⟨e',hk⟩|hk<;>simp [Builtin.append_,run_underlying ht,run_underlying hk,sizeOf,typeInfo,hi,hs.len,hs.cells,storeCells]
  ·have hr:=run_append_grow_src (P:=P) w t tx ty e i z ht hi hz none 0 0 [] (run_firstCells_none w.drew i.size 0 0 0) x m news hs (by omega) (by omega) (growslice_fits (by omega) hbytes)
   have hgr:=grown 0 (by omega) (Value.ownBlock (.slice none 0 0))
   exact ⟨_,_,hr,hgr.1,hgr.2,.inr rfl,RowAt.nil _ _ _⟩
 ·have hadd:∀ j,(⟨g,off,none⟩:Addr).add j=⟨g,off+j,none⟩:=fun j=>by unfold Addr.add;by_cases h0:j=0<;>simp [h0]
  have holds:∀ j u,xs[j]?=some u→w.cell? ((⟨g,off,none⟩:Addr).add j)=some u:=by
   intro j u hj
   rw [← htake,List.getElem?_take] at hj
   split at hj
   ·rw [hadd]
    rw [List.getElem?_drop,Array.getElem?_toList] at hj
    simpa [World.cell?,hg] using hj
   ·cases hj
  by_cases hroom:n+m≤cap
  ·have hfit:off+n*i.size+news.length≤cur.size:=by
    have:=Nat.mul_le_mul_right i.size hroom
    rw [Nat.add_mul] at this
    rw [hs.newsLen];omega
   have hst:=run_storeCells_fr P g (off+n*i.size) e fr news 0 cur w hg hfr (by simpa using hfit) hs.one
   simp only [Nat.add_zero] at hst
   have hr:(Builtin.append_ #[t,tx] ty #[.slice (some ⟨g,off,none⟩) n cap,x]).run P w=.ok (.slice (some ⟨g,off,none⟩) (n+m) cap) (w.setRow g (cur.toList.take (off+n*i.size)++news++cur.toList.drop (off+n*i.size+news.length)).toArray):=by
    rcases hs.kind with ⟨e',hk⟩|hk<;>simp [Builtin.append_,run_underlying ht,run_underlying hk,sizeOf,typeInfo,hi,hs.len,hroom,hs.cells,hadd,hst]
   refine ⟨_,_,hr,⟨hlen,.inr ⟨g,off,cap,_,rfl,⟨_,setRow_heap w g cur _ e _ hg,hfr.imp id (fun h=>Nat.le_trans (by simp only [List.size_toArray,List.length_append,List.length_take,List.length_drop,Array.length_toList];omega) h)⟩,hroom,hcm,?_,?_⟩⟩,⟨rfl,rfl,rfl,by simp,fun k _ hk=>setRow_other w g k _ (fun e=>hk (by simp [Value.ownBlock,e]))⟩,.inl rfl,h.1,.inr ⟨g,off,cap,_,rfl,⟨_,setRow_heap w g cur _ e _ hg,hfr.imp id (fun h=>Nat.le_trans (by simp only [List.size_toArray,List.length_append,List.length_take,List.length_drop,Array.length_toList];omega) h)⟩,hnc,hcm,?_,?_⟩⟩
   ·simp only [List.size_toArray,List.length_append,List.length_take,List.length_drop,Array.length_toList]
    omega
   ·have e1:cur.toList.take (off+n*i.size)=cur.toList.take off++xs:=by
     rw [List.take_add,htake]
    have hoff:(cur.toList.take off).length=off:=by rw [List.length_take,Array.length_toList];omega
    simp only [e1,List.append_assoc]
    rw [List.drop_append_of_le_length (by omega),List.drop_of_length_le (by omega),List.nil_append,← List.append_assoc,← hlen]
    exact List.take_left
   ·simp only [List.size_toArray,List.length_append,List.length_take,List.length_drop,Array.length_toList]
    omega
   ·have e1:cur.toList.take (off+n*i.size)=cur.toList.take off++xs:=by
     rw [List.take_add,htake]
    have hoff:(cur.toList.take off).length=off:=by rw [List.length_take,Array.length_toList];omega
    simp only [e1,List.append_assoc]
    rw [List.drop_append_of_le_length (by omega),List.drop_of_length_le (by omega),List.nil_append,← h.1]
    exact List.take_left
  ·have hr:=run_append_grow_src (P:=P) w t tx ty e i z ht hi hz (some ⟨g,off,none⟩) n cap xs (run_firstCells_some w.drew i.size n ⟨g,off,none⟩ n cap xs h.1 (by simpa using holds)) x m news hs (by omega) (by omega) (growslice_fits (by omega) hbytes)
   have hgr:=grown cap (by omega) (Value.ownBlock (.slice (some ⟨g,off,none⟩) n cap))
   exact ⟨_,_,hr,hgr.1,hgr.2,.inr rfl,h.of_block (fun g' hg'=>heap_alloc_old w.drew _ (h.lt g' hg'))⟩
theorem step_append_keepK {P:Program} {ops:Array Oper} {o:Oper} {a:Act} {w:World} {K:Act→World→Prop} {Q:Exit→Act→World→Prop} {E:Prop} (hgd:o.guard=none) (s x:Operand) (t tx:TypeId)
  (ho:o.op=.call { callee:=.builtin .append,args:=#[s,x],argTypes:=#[t,tx] })
  (e:TypeId) (i:TypeInfo) (z:Value) (size bytes:Nat) (ht:P.underlying t=some (.slice e)) (hi:P.info? e=some i) (hz:i.zero=some z)
  (hsize:i.size=size) (hby:i.bytes=bytes) (hzs:z.cells.size=size)
  (v y:Value) (n m:Nat) (xs news:List Value) (hv:a.eval s=v) (hy:a.eval x=y) (h:RowAt w e size v n xs) (hs:Src P size tx y m news w)
  (h63:n+m≤maxLen) (hbytes:(n+m)*bytes≤140737488355328)
  (hK:∀ v' w',RowAt w' e size v' (n+m) (xs++news)→w.grownBy w' v.ownBlock→(v'.ownBlock=v.ownBlock∨v'.ownBlock=some w.heap.size)→RowAt w' e size v n xs→K (a.put o.dst v') w') :
  if Region.wanted o (yielded ops a.tmps)=true then Oper.wp P o a w K Q else E:=by
 have hw:Region.wanted o (yielded ops a.tmps)=true:=by simp [Region.wanted,hgd]
 rw [if_pos hw]
 obtain ⟨v',w',hr,h1,h2,h3,h5⟩:=run_append_keepK (P:=P) t tx o.type e i z size bytes ht hi hz hsize hby hzs h hs h63 hbytes
 unfold Oper.wp execOp
 simp only [ho,resolve,invoke,builtin,Sem.run_bind,Sem.run_pure,Result.andThen_ok,List.map_toArray,List.map_cons,List.map_nil,hv,hy,hr]
 exact hK v' w' h1 h2 h3 h5
end Go.Proofs.YtabbgpjofkaomaaGreatDoor

/- What hex of package venue computes: a text's digits. -/
namespace Go.Proofs.YtabbgpjofkaomaaGreatDoor
open Go.RowKit
theorem dig_at (m:Nat) (hm:m<16) (h:m<(⟨#[48,49,50,51,52,53,54,55,56,57,97,98,99,100,101,102]⟩:ByteArray).size):(⟨#[48,49,50,51,52,53,54,55,56,57,97,98,99,100,101,102]⟩:ByteArray)[m]'h=hexD m:=by
 have h2:m=0∨m=1∨m=2∨m=3∨m=4∨m=5∨m=6∨m=7∨m=8∨m=9∨m=10∨m=11∨m=12∨m=13∨m=14∨m=15:=by omega
 rcases h2 with rfl|rfl|rfl|rfl|rfl|rfl|rfl|rfl|rfl|rfl|rfl|rfl|rfl|rfl|rfl|rfl<;>rfl
theorem dig_int (z:Int) (m:Nat) (hz:z=(m:Int)) (hm:m<16) (h:z.toNat<(⟨#[48,49,50,51,52,53,54,55,56,57,97,98,99,100,101,102]⟩:ByteArray).size):(⟨#[48,49,50,51,52,53,54,55,56,57,97,98,99,100,101,102]⟩:ByteArray)[z.toNat]'h=hexD m:=by
 subst hz
 exact dig_at m hm h
theorem and_low:∀ x:Nat,x<256→bits .and .u8 (x:Int) 15=((x % 16:Nat):Int):=by decide +kernel
theorem hexL_take (s:List UInt8) (k:Nat) (hk:k<s.length):hexL (s.take (k+1))=hexL (s.take k)++[hexD (s[k].toNat / 16),hexD (s[k].toNat % 16)]:=by
 unfold hexL
 rw [List.take_succ_eq_append_getElem hk,List.flatMap_append]
 rfl
theorem hexL_len (s:List UInt8):(hexL s).length=2*s.length:=by
 unfold hexL
 induction s with
 | nil=>rfl
 | cons b l ih=>rw [List.flatMap_cons,List.length_append,ih];simp;omega
theorem infoU8V:(Tryz.prog.info? 5).map (fun i=>(i.zero,i.size,i.bytes))=some (some (.int .u8 0),1,1):=by kernel_rfl
def byC (b:UInt8):List Value:=[.int .u8 (b.toNat:Int)]
theorem flat_byC:∀ l:List UInt8,flat byC l=byteC l
 | []=>rfl
 | b::l=>by
  rw [flat_cons,flat_byC l]
  rfl
set_option maxRecDepth 100000 in
set_option maxHeartbeats 4000000 in
theorem vhex_any (s:List UInt8) (w:World) (hs:s.length≤1000) :
  Calls Tryz.prog 85 #[.string ⟨s.toArray⟩] w fun e w'=>e=.returned (.string ⟨(hexL s).toArray⟩)∧Ex w w':=by
 obtain ⟨i0,hi0,hz0,hz1,hz2⟩:=info_parts infoU8V
 have zs:=bytes_size s
 go_enter Tryz.func85,Tryz.ntmps85
 go_wp2_with fail
 go_loopw [3,7] (fun v i wr=>∃ (k:Nat) (u:Value),u=v∧k≤s.length∧i=.int .i64 (k:Int)∧GRow 5 1 byC w.heap.size (hexL (s.take k)) u wr∧Ex w wr) (fun _ i _=>s.length - (intOf i).toNat)
 case atStart=>exact ⟨0,_,rfl,Nat.zero_le _,rfl,GRow.nil _,(by repeat (first|exact Ex.refl _|refine Ex.alloc ?_ _|refine Ex.ext ?_ _ _|refine Ex.drew ?_|refine Ex.drewN ?_ _))⟩
 case round =>
  obtain ⟨k,v,rfl,hk,rfl,hrow,hx⟩:=hrel
  by_cases hlt:k<s.length
  ·have ix:∀ w,(Instr.index 9 (.string ⟨s.toArray⟩) (.int .i64 (k:Int))).run Tryz.prog w=.ok (.int .u8 (s[k].toNat:Int)) w:=fun w=>index_str ⟨s.toArray⟩ k (by rw [zs];exact hlt) w
   have HST:=Lib.hid (hexL_take s k hlt)
   have hll:=hexL_len (s.take k)
   rw [List.length_take] at hll
   have hl2:(hexL (s.take k)).length≤2000:=by omega
   clear hll
   have hb:=s[k].toNat_lt
   obtain ⟨av,cv,rfl,hcv,hcm⟩:=hrow.slice
   have HROW:=Lib.hid hrow
   have HX:=Lib.hid hx
   clear hrow hx
   generalize hexL (s.take k)=L at *
   generalize s[k].toNat=x at *
   have hA:(0:Int)≤(x:Int) / 16∧(x:Int) / 16<16:=by omega
   have hB:(0:Int)≤bits .and .u8 (x:Int) 15∧bits .and .u8 (x:Int) 15<16:=by rw [and_low x hb];omega
   have hv1:=dig_int ((x:Int) / 16) (x / 16) (by omega) (by omega)
   have hv2:=dig_int (bits .and .u8 (x:Int) 15) (x % 16) (and_low x hb) (by omega)
   go_wp2_with fail
   have hw1:Ex wr (wr.drew.alloc (.cells #[.int .u8 ((hexD (x / 16)).toNat:Int),.int .u8 ((hexD (x % 16)).toNat:Int)] 5)):=(by repeat (first|exact Ex.refl _|refine Ex.alloc ?_ _|refine Ex.ext ?_ _ _|refine Ex.drew ?_|refine Ex.drewN ?_ _))
   have hw2:Ex wr ((wr.alloc (.cells #[.int .u8 ((hexD (x / 16)).toNat:Int),.int .u8 ((hexD (x % 16)).toNat:Int)] 5)).drew):=(by repeat (first|exact Ex.refl _|refine Ex.alloc ?_ _|refine Ex.ext ?_ _ _|refine Ex.drew ?_|refine Ex.drewN ?_ _))
   go_region_law ((refine step_append_keepK ?_ (.tmp 10) (.tmp 21) 135 135 ?_ 5 i0 _ 1 1 Tryz.underlying135 hi0 hz0 hz1 hz2 ?_ (.slice av L.length cv) (.slice (some ⟨wr.heap.size,0,none⟩) 2 2) L.length 2 (flat byC L) [.int .u8 ((hexD (x / 16)).toNat:Int),.int .u8 ((hexD (x % 16)).toNat:Int)] ?_ ?_ ?_ ?_ ?_ ?_ ?_);(focus rfl);(focus rfl);(focus rfl);(focus rfl);(focus (simp [go_sem];done));(focus exact (HROW.out.ex (by repeat (first|exact Ex.refl _|refine Ex.alloc ?_ _|refine Ex.ext ?_ _ _|refine Ex.drew ?_|refine Ex.drewN ?_ _))).1);(focus exact (Src.block Tryz.underlying135 2 2 (cs:=#[.int .u8 ((hexD (x / 16)).toNat:Int),.int .u8 ((hexD (x % 16)).toNat:Int)]) (t:=5) (fr:=(0,0)) (heap_new (by simp [go_sem])) (by simp) (by simp [Value.oneCell'])));(focus (unfold maxLen;omega));(focus omega);intro v' w' hrow hgrow hown _;have HRW:=Lib.hid hrow;have HGR:=Lib.hid hgrow;have HOW:=Lib.hid hown;clear hrow hgrow hown)
   all_goals go_wp2_with fail
   all_goals
    go_roundw
    case measure=>simp [intOf];omega
    case rel =>
     refine ⟨k+1,_,rfl,by omega,by go_num,?_,?_⟩
     ·rw [HST.out];exact (HROW.out.app HRW.out (by rw [List.length_append];rfl) (by rw [flat_append];rfl) HOW.out (by have:=HX.out.below.size;simp [go_sem];omega)).ex (by repeat (first|exact Ex.refl _|refine Ex.alloc ?_ _|refine Ex.ext ?_ _ _|refine Ex.drew ?_|refine Ex.drewN ?_ _))
     ·exact Ex.trans (HROW.out.later (hx:=HX.out.trans (by repeat (first|exact Ex.refl _|refine Ex.alloc ?_ _|refine Ex.ext ?_ _ _|refine Ex.drew ?_|refine Ex.drewN ?_ _))) HGR.out (Nat.le_refl _)) (by repeat (first|exact Ex.refl _|refine Ex.alloc ?_ _|refine Ex.ext ?_ _ _|refine Ex.drew ?_|refine Ex.drewN ?_ _))
  ·obtain rfl:k=s.length:=by omega
   rw [List.take_length] at hrow
   obtain ⟨av,cv,rfl,hcv,hcm⟩:=hrow.slice
   have hr:=hrow.1
   rw [flat_byC] at hr
   have hv:=conv_bytes rfl hr wr (fun _ _=>rfl)
   have HX:=Lib.hid hx
   clear hrow hx hr
   generalize (hexL s).length=N at *
   go_wp2_with fail
   all_goals go_ret
   all_goals exact ⟨rfl,HX.out.trans (by repeat (first|exact Ex.refl _|refine Ex.alloc ?_ _|refine Ex.ext ?_ _ _|refine Ex.drew ?_|refine Ex.drewN ?_ _))⟩
end Go.Proofs.YtabbgpjofkaomaaGreatDoor
