import Derived.Test.YtabbgpjofkaomaaGreatDoorJ9
import Derived.Test.YtabbgpjofkaomaaGreatDoorFlRu
import Derived.Test.YtabbgpjofkaomaaGreatDoorJ4
import Derived.Test.YtabbgpjofkaomaaGreatDoorBand
import Derived.Deep.RegionLaw
import Derived.Deep.RegionHeld3
import Derived.Deep.CutBlock
import Derived.Test.YtabbgpjofkaomaaGreatDoorJ3
import Derived.Deep.DeepCutAuto
import Derived.Test.YtabbgpjofkaomaaGreatDoorJ0
import Derived.Test.YtabbgpjofkaomaaGreatDoorChecked
import Derived.Laws.BytesArg
import Derived.Laws.IdiomStrings
import Derived.Deep.AppendSrc
set_option linter.unusedSimpArgs false
set_option linter.unusedVariables false
/- What Drop of a floor computes. -/
namespace Go.Proofs.YtabbgpjofkaomaaGreatDoor
open Go.RowKit
def dropStep (k:Nat) (p:List Lot × FSt) (id:Int):List Lot × FSt:=(if (goneR p.2 k id).2.1=0 then p.1++[(goneR p.2 k id).1] else p.1,(goneR p.2 k id).2.2)
def dropK (client:Int) (p:List Lot × FSt) (k:Nat):List Lot × FSt:=(ownerL (p.2.b k) client).foldl (dropStep k) p
def fdropR (st:FSt) (client:Int):List Lot × FSt:=(List.range 3).foldl (dropK client) ([],st)
theorem fold_snoc {α β:Type} (f:β→α→β) (b:β) (l:List α) (k:Nat) (hk:k<l.length):(l.take (k+1)).foldl f b=f ((l.take k).foldl f b) l[k]:=by
 rw [List.take_succ_eq_append_getElem hk,List.foldl_append]
 rfl
theorem dropStep_ok {p:List Lot × FSt} (h:FOk p.2) {k:Nat} (hk:k<3) (id:Int):FOk (dropStep k p id).2∧(dropStep k p id).1.length≤p.1.length+1:=by
 unfold dropStep
 refine ⟨h.gone hk id,?_⟩
 simp only
 split<;>simp
theorem dropIds_ok {p:List Lot × FSt} (h:FOk p.2) {k:Nat} (hk:k<3):∀ (ids:List Int),FOk (ids.foldl (dropStep k) p).2∧(ids.foldl (dropStep k) p).1.length≤p.1.length+ids.length:=by
 intro ids
 induction ids generalizing p with
 | nil=>exact ⟨h,by simp⟩
 | cons id ids ih =>
  obtain ⟨a,b⟩:=dropStep_ok h hk id
  obtain ⟨c,d⟩:=ih a
  exact ⟨c,by simp only [List.foldl_cons,List.length_cons];omega⟩
theorem dropK_ok {p:List Lot × FSt} (h:FOk p.2) {k:Nat} (hk:k<3) (client:Int):FOk (dropK client p k).2∧(dropK client p k).1.length≤p.1.length+60:=by
 obtain ⟨a,b⟩:=dropIds_ok h hk (ownerL (p.2.b k) client)
 have:=ownerL_le (p.2.b k) client
 have:=(h.book k hk).len
 exact ⟨a,by unfold dropK;omega⟩
theorem dropR_ok {st:FSt} (h:FOk st) (client:Int):∀ k,k≤3→FOk ((List.range k).foldl (dropK client) ([],st)).2∧((List.range k).foldl (dropK client) ([],st)).1.length≤60*k:=by
 intro k
 induction k with
 | zero=>intro _;exact ⟨h,by simp⟩
 | succ k ih =>
  intro hk
  obtain ⟨a,b⟩:=ih (by omega)
  obtain ⟨c,d⟩:=dropK_ok a (by omega:k<3) client
  rw [List.range_succ,List.foldl_append]
  exact ⟨c,by simp only [List.foldl_cons,List.foldl_nil];omega⟩
theorem FOk.fdrop {st:FSt} (h:FOk st) (client:Int):FOk (fdropR st client).2:=(dropR_ok h client 3 (by omega)).1
def LRow (base:Nat) (l:List Lot) (v:Value) (W:World):Prop:=RowAt W 131 5 v l.length (flat Lot.cells l)∧∀ g,v.ownBlock=some g→base≤g
theorem LRow.nil (base:Nat) (W:World):LRow base [] (.slice none 0 0) W:=⟨RowAt.nil _ _ _,fun g h=>by cases h⟩
theorem LRow.block {base:Nat} {l:List Lot} {v:Value} {W W':World} (h:LRow base l v W) (hb:∀ g,v.ownBlock=some g→W'.heap[g]?=W.heap[g]?):LRow base l v W':=⟨h.1.of_block hb,h.2⟩
theorem LRow.ex {base:Nat} {l:List Lot} {v:Value} {W W':World} (h:LRow base l v W) (hx:Ex W W'):LRow base l v W':=h.block fun g hg=>hx.below.block g (h.1.lt g hg)
theorem LRow.slice {base:Nat} {l:List Lot} {v:Value} {W:World} (h:LRow base l v W):∃ ao cap,v=.slice ao l.length cap∧l.length≤cap∧cap≤maxLen:=by
 obtain ⟨_,⟨rfl,h0⟩|⟨g,off,cap,cur,rfl,_,hc,hm,_⟩⟩:=h.1
 ·exact ⟨none,0,by rw [h0],by omega,by unfold maxLen;omega⟩
 ·exact ⟨_,cap,rfl,hc,hm⟩
def IdsRow (l:List Int) (u:Value) (W:World):Prop:=∃ base,W.ownsRow base 3 1 u l.length (l.map (Value.int .i64))
theorem IdsRow.block {l:List Int} {u:Value} {W W':World} (h:IdsRow l u W) (hb:∀ g,u.ownBlock=some g→W'.heap[g]?=W.heap[g]?):IdsRow l u W':=by
 obtain ⟨base,h⟩:=h
 exact ⟨base,ownsRow_block h hb⟩
theorem IdsRow.lt {l:List Int} {u:Value} {W:World} (h:IdsRow l u W):∀ g,u.ownBlock=some g→g<W.heap.size:=by
 obtain ⟨base,h⟩:=h
 exact fun g hg=>(h.lt g hg).2
theorem IdsRow.ex {l:List Int} {u:Value} {W W':World} (h:IdsRow l u W) (hx:Ex W W'):IdsRow l u W':=h.block fun g hg=>hx.below.block g (h.lt g hg)
theorem IdsRow.slice {l:List Int} {u:Value} {W:World} (h:IdsRow l u W):∃ ao cap,u=.slice ao l.length cap:=by
 obtain ⟨base,_,⟨rfl,h0⟩|⟨g,cap,cur,rfl,_⟩⟩:=h
 ·exact ⟨none,0,by rw [h0]⟩
 ·exact ⟨_,cap,rfl⟩
theorem IdsRow.cell {l:List Int} {u:Value} {W:World} (h:IdsRow l u W) {n:Nat} (hn:n<l.length):∃ b cap,u=.slice (some ⟨b,0,none⟩) l.length cap∧b<W.heap.size∧W.cell? ⟨b,n,none⟩=some (.int .i64 l[n]):=by
 obtain ⟨base,_,⟨rfl,h0⟩|⟨g,cap,cur,rfl,hb,hg,hc,hm,hs,ht⟩⟩:=h
 ·omega
 ·refine ⟨g,cap,rfl,(Array.getElem?_eq_some_iff.1 hg).1,?_⟩
  have e:(l.map (Value.int .i64))[n]?=some (.int .i64 l[n]):=by simp [hn]
  rw [← ht,List.getElem?_take_of_lt (by omega)] at e
  simpa [World.cell?,hg] using e
theorem rows_apart {base:Nat} {l:List Lot} {ids:List Int} {v u:Value} {W:World} (h:LRow base l v W) (k:IdsRow ids u W):∀ g,v.ownBlock=some g→u.ownBlock≠some g:=by
 intro g hv hu
 obtain ⟨_,⟨rfl,_⟩|⟨g1,off,cap,cur,rfl,⟨fr,hg1,_⟩,_⟩⟩:=h.1
 ·cases hv
 ·obtain ⟨b2,_,⟨rfl,h0⟩|⟨g2,cap2,cur2,rfl,hb,hg2,_⟩⟩:=k
  ·cases hu
  ·cases hv
   cases hu
   rw [hg1] at hg2
   cases hg2
section
variable {own:Nat→Nat} {c:Nat} {w:World} {A:FlA} {st:FSt} {E:Nat→Addr}
def DrX (own:Nat→Nat) (c:Nat) (w:World) (A:FlA) (p:List Lot × FSt) (E:Nat→Addr) (v:Value) (W:World):Prop :=
 FlX own c w A p.2 E [2,6,10] [] (TV v) W∧LRow w.heap.size p.1 v W
def DrI (own:Nat→Nat) (c:Nat) (w:World) (A:FlA) (p:List Lot × FSt) (E:Nat→Addr) (ids:List Int) (v u:Value) (W:World):Prop :=
 FlX own c w A p.2 E [2,6,10] [] (fun n=>TV v n∨TV u n) W∧LRow w.heap.size p.1 v W∧IdsRow ids u W
theorem DrX.later {p:List Lot × FSt} {v:Value} {W W':World} (h:DrX own c w A p E v W) (hx:Ex W W'):DrX own c w A p E v W':=⟨h.1.later hx,h.2.ex hx⟩
theorem DrI.later {p:List Lot × FSt} {ids:List Int} {v u:Value} {W W':World} (h:DrI own c w A p E ids v u W) (hx:Ex W W'):DrI own c w A p E ids v u W':=⟨h.1.later hx,h.2.1.ex hx,h.2.2.ex hx⟩
theorem DrI.outer {p:List Lot × FSt} {ids:List Int} {v u:Value} {W:World} (h:DrI own c w A p E ids v u W):DrX own c w A p E v W:=⟨h.1.less (fun t ht=>ht) (fun n hn=>.inl hn),h.2.1⟩
theorem DrX.inner {p:List Lot × FSt} {ids:List Int} {v u:Value} {W W':World} {base:Nat} (h:DrX own c w A p E v W) (hx:Ex W W') (hb:W.heap.size≤base) (hu:W'.ownsRow base 3 1 u ids.length (ids.map (Value.int .i64))):DrI own c w A p E ids v u W':=by
 refine ⟨?_,h.2.ex hx,⟨base,hu⟩⟩
 have h1:=h.1.fl.more (S':=FS [2,6,10] [] (fun n=>TV v n∨TV u n)) hx fun n hn=>by
  rcases hn with h|h|h|h
  ·exact .inl (.inl h)
  ·exact .inl (.inr (.inl h))
  ·exact .inl (.inr (.inr h))
  ·exact .inr ⟨Nat.le_trans hb (hu.lt n h).1,(hu.lt n h).2⟩
 exact ⟨h1,h.1.errs.ex hx,h.1.has.ex hx,h.1.low⟩
theorem DrI.app {p:List Lot × FSt} {ids:List Int} {v u v':Value} {W W1 W':World} {x:Lot} {z:Nat} (h:DrI own c w A p E ids v u W) (hx:Ex W W1) (hrow:RowAt W' 131 5 v' (p.1.length+1) (flat Lot.cells p.1++x.cells)) (hg:W1.grownBy W' v.ownBlock) (ho:v'.ownBlock=v.ownBlock∨v'.ownBlock=some z) (hz:z=W1.heap.size) :
  DrI own c w A (p.1++[x],p.2) E ids v' u W':=by
 have h1:=h.later hx
 have hwz:=h1.1.size
 have hap:=rows_apart h1.2.1 h1.2.2
 subst hz
 have hblk:∀ g,u.ownBlock=some g→W'.heap[g]?=W1.heap[g]?:=fun g hu=>hg.block g (h1.2.2.lt g hu) fun e=>hap g e.symm hu
 have hv':∀ g,v'.ownBlock=some g→(TV v g∨(W1.heap.size≤g∧g<W'.heap.size)):=fun g e=>by
  rcases ho with h|h
  ·exact .inl (h.symm.trans e)
  ·have hlt:=hrow.lt g e
   rw [h] at e
   cases e
   exact .inr ⟨Nat.le_refl _,hlt⟩
 refine ⟨h1.1.grown hg (fun b e=>⟨.inl e,h1.2.1.2 b e,fun t ht=>by cases ht⟩) (fun n hn=>?_),⟨by rw [flat_append,flat_one,List.length_append];exact hrow,fun g e=>?_⟩,h1.2.2.block hblk⟩
 ·rcases hn with hn|hn
  ·rcases hv' n hn with h|h
   ·exact .inl (.inl h)
   ·exact .inr h
  ·exact .inl (.inr hn)
 ·rcases hv' g e with h|h
  ·exact h1.2.1.2 g h
  ·exact Nat.le_trans hwz h.1
def DropTo (own:Nat→Nat) (c:Nat) (w:World) (A:FlA) (r:List Lot × FSt) (e:Ending) (w':World):Prop :=
 ∃ v,e=.returned v∧LRow w.heap.size r.1 v w'∧Kp own 8 c w w'∧∃ o,(∀ n,n<w.heap.size→o n=own n)∧FlAt o c w' A r.2∧∀ g,v.ownBlock=some g→o g / 8≠c
set_option maxRecDepth 100000 in
set_option maxHeartbeats 8000000 in
theorem fdrop_any (h:FlAt own c w A st) (hO:FOk st) (hE:Errs E [2,6,10] w) (hg:∀ n,GE [2,6,10] n→own n / 8≠c) (client:Int) :
  Calls Tryz.prog 86 #[.pointer (some ⟨A.f,0,none⟩),.int .i64 client] w (DropTo own c w A (fdropR st client)):=by
 obtain ⟨c0,_,_,_,hf⟩:=h.cells
 obtain ⟨iL,hL0,hLz,hL1,hL2⟩:=info_parts infoLotB
 have HX:=Lib.hid (show DrX own c w A ([],st) E (.slice none 0 0) w from ⟨FlX.start h hE hg (fun n hn=>by cases hn),LRow.nil _ _⟩)
 have HDK:=Lib.hid (dropR_ok hO client)
 clear h hO hE hg
 go_enter Tryz.func86,Tryz.ntmps86
 go_wp2_with fail
 go_loopw [5,17] (fun v i wr=>∃ (k:Nat) (v':Value),v'=v∧k≤3∧i=.int .i64 (k:Int)∧DrX own c w A ((List.range k).foldl (dropK client) ([],st)) E v' wr) (fun _ i _=>3 - (intOf i).toNat)
 case atStart=>exact ⟨0,_,rfl,by omega,rfl,HX.out.later (by repeat (first|exact Ex.refl _|refine Ex.alloc ?_ _|refine Ex.ext ?_ _ _|refine Ex.drew ?_|refine Ex.drewN ?_ _))⟩
 case round =>
  obtain ⟨k,v,rfl,hk,rfl,hX⟩:=hrel
  by_cases hlt:k<3
  ·have k3:(k:Int)<3:=by omega
   obtain ⟨i0,i1,i2,hrg⟩:=hX.1.items hlt
   have hok:=(HDK.out k (by omega)).1
   have hlen:=(HDK.out k (by omega)).2
   have HST:=Lib.hid (show (List.range (k+1)).foldl (dropK client) ([],st)=(ownerL (((List.range k).foldl (dropK client) ([],st)).2.b k) client).foldl (dropStep k) ((List.range k).foldl (dropK client) ([],st)) by rw [List.range_succ,List.foldl_append];rfl)
   have HOK:=Lib.hid hok
   have HXK:=Lib.hid hX
   have HOW:=Lib.hid (fun o i W (hb:BookAt o i W (A.bp k) (((List.range k).foldl (dropK client) ([],st)).2.b k))=>owner_any hb client)
   have hz60:=(hok.book k hlt).len
   have hol:=ownerL_le (((List.range k).foldl (dropK client) ([],st)).2.b k) client
   generalize hids:ownerL (((List.range k).foldl (dropK client) ([],st)).2.b k) client=ids at *
   clear hX hok hids HX
   generalize (List.range k).foldl (dropK client) ([],st)=p at *
   go_wp2_with fail
   refine ((HXK.out.1.later (by with_reducible repeat (first|exact Ex.refl _|refine Ex.alloc ?_ _|refine Ex.ext ?_ _ _|refine Ex.drew ?_|refine Ex.drewN ?_ _))).readB hlt (fun o i hb=>HOW.out o i _ hb)).mono ?_
   rintro e w1 ⟨⟨u,rfl,hu⟩,hx1⟩
   have HXI:=Lib.hid ((HXK.out.later (by with_reducible repeat (first|exact Ex.refl _|refine Ex.alloc ?_ _|refine Ex.ext ?_ _ _|refine Ex.drew ?_|refine Ex.drewN ?_ _))).inner hx1 (Nat.le_refl _) hu)
   obtain ⟨au,cu,rfl⟩:=HXI.out.2.2.slice
   clear hu hx1 HXK i0 i1 i2
   go_wp2_with fail
   go_loopw [5,27] (fun v i wi=>∃ (n:Nat) (v':Value),v'=v∧n≤ids.length∧i=.int .i64 (n:Int)∧DrI own c w A ((ids.take n).foldl (dropStep k) p) E ids v' (.slice au ids.length cu) wi) (fun _ i _=>ids.length - (intOf i).toNat)
   case atStart=>exact ⟨0,_,rfl,Nat.zero_le _,rfl,HXI.out.later (by with_reducible repeat (first|exact Ex.refl _|refine Ex.alloc ?_ _|refine Ex.ext ?_ _ _|refine Ex.drew ?_|refine Ex.drewN ?_ _))⟩
   case round =>
    obtain ⟨n,v2,rfl,hn,rfl,hX2⟩:=hrel
    by_cases hln:n<ids.length
    ·obtain ⟨b,cap2,e2,hb,hcell⟩:=hX2.2.2.cell hln
     cases e2
     obtain ⟨hok2,hlen2⟩:=dropIds_ok HOK.out hlt (ids.take n)
     rw [List.length_take] at hlen2
     have HST2:=Lib.hid (show (ids.take (n+1)).foldl (dropStep k) p=(if (goneR ((ids.take n).foldl (dropStep k) p).2 k ids[n]).2.1=0 then ((ids.take n).foldl (dropStep k) p).1++[(goneR ((ids.take n).foldl (dropStep k) p).2 k ids[n]).1] else ((ids.take n).foldl (dropStep k) p).1,(goneR ((ids.take n).foldl (dropStep k) p).2 k ids[n]).2.2) from fold_snoc (dropStep k) p ids n hln)
     have HOK2:=Lib.hid hok2
     have HX2:=Lib.hid hX2
     have HGO:=Lib.hid (fun o W h hE hg=>fgone_any (own:=o) (c:=c) (w:=W) (A:=A) (st:=((ids.take n).foldl (dropStep k) p).2) (E:=E) h hok2 hE hg k hlt ids[n])
     obtain ⟨_,_,_,_,hf2⟩:=hX2.1.cells
     clear hX2 hok2
     generalize (ids.take n).foldl (dropStep k) p=p2 at *
     generalize ids[n]=id at *
     generalize hgr:goneR p2.2 k id=gr at *
     clear hgr
     obtain ⟨v3,cv3,rfl,hcv,hmx⟩:=HX2.out.2.1.slice
     obtain ⟨x,en,st3⟩:=gr
     simp only at HST2
     go_wp2_with fail
     refine ((HX2.out.1.later (by with_reducible repeat (first|exact Ex.refl _|refine Ex.alloc ?_ _|refine Ex.ext ?_ _ _|refine Ex.drew ?_|refine Ex.drewN ?_ _))).callT (fun o h hE hg=>HGO.out o _ h hE hg)).mono ?_
     rintro e w3 ⟨rfl,hX3,hT3⟩
     have HX3:Hid (DrI own c w A (p2.1,st3) E ids (.slice v3 p2.1.length cv3) (.slice (some ⟨b,0,none⟩) ids.length cu) w3):=Lib.hid ⟨hX3,(HX2.out.later (by with_reducible repeat (first|exact Ex.refl _|refine Ex.alloc ?_ _|refine Ex.ext ?_ _ _|refine Ex.drew ?_|refine Ex.drewN ?_ _))).2.1.block fun g hg=>hT3 g (.inl hg),(HX2.out.later (by with_reducible repeat (first|exact Ex.refl _|refine Ex.alloc ?_ _|refine Ex.ext ?_ _ _|refine Ex.drew ?_|refine Ex.drewN ?_ _))).2.2.block fun g hg=>hT3 g (.inr hg)⟩
     clear hX3 hT3 HX2
     by_cases he:en=0
     ·subst he
      rw [if_pos rfl] at HST2
      rw [errV_zero]
      obtain ⟨xi,xo,xs,xp,xq⟩:=x
      go_upto_region 10 with fail
      have hw1:Ex w3 (w3.alloc (.cells #[.int .i64 xi,.int .i64 xo,.int .i64 xs,.int .i64 xp,.int .i64 xq] 131)):=(by with_reducible repeat (first|exact Ex.refl _|refine Ex.alloc ?_ _|refine Ex.ext ?_ _ _|refine Ex.drew ?_|refine Ex.drewN ?_ _))
      go_wp2_with (at_builtin;refine wpList_append_two rfl (.tmp 40) (.tmp 42) 65 65 rfl 131 iL _ 5 40 Tryz.underlying65 hL0 hLz hL1 hL2 rfl (.slice v3 p2.1.length cv3) (.slice (some ⟨w3.heap.size+1,0,none⟩) 1 1) p2.1.length 1 (flat Lot.cells p2.1) (Lot.cells ⟨xi,xo,xs,xp,xq⟩) rfl rfl ?_ ?_ ?_ ?_ ?_)
      focus exact (HX3.out.2.1.ex (by with_reducible repeat (first|exact Ex.refl _|refine Ex.alloc ?_ _|refine Ex.ext ?_ _ _|refine Ex.drew ?_|refine Ex.drewN ?_ _))).1
      focus exact (Src.block Tryz.underlying65 1 1 (cs:=#[.int .i64 xi,.int .i64 xo,.int .i64 xs,.int .i64 xp,.int .i64 xq]) (t:=131) (fr:=(0,0)) (heap_new (by simp [go_sem])) (by simp) (by simp [Value.oneCell']))
      focus (unfold maxLen;omega)
      focus omega
      intro v' w' hrow hgrow hown
      have H2:=Lib.hid (HX3.out.app (by with_reducible repeat (first|exact Ex.refl _|refine Ex.alloc ?_ _|refine Ex.ext ?_ _ _|refine Ex.drew ?_|refine Ex.drewN ?_ _)) hrow hgrow hown (by first|omega|(simp [go_sem];done)|(simp [go_sem];omega)))
      clear hrow hgrow hown
      go_wp2_with fail
      go_roundw
      case measure=>simp [intOf];omega
      case rel=>exact ⟨n+1,_,rfl,by omega,by go_num,by rw [HST2.out];exact H2.out⟩
     ·rw [if_neg he] at HST2
      rw [errV_pos E _ he]
      go_wp2_with fail
      go_roundw
      case measure=>simp [intOf];omega
      case rel=>exact ⟨n+1,_,rfl,by omega,by go_num,by rw [HST2.out];exact HX3.out.later (by with_reducible repeat (first|exact Ex.refl _|refine Ex.alloc ?_ _|refine Ex.ext ?_ _ _|refine Ex.drew ?_|refine Ex.drewN ?_ _))⟩
    ·obtain rfl:n=ids.length:=by omega
     have hX3:=hX2.outer
     rw [List.take_length] at hX3
     have HX3:=Lib.hid hX3
     clear hX2 hX3
     go_wp2_with fail
     go_roundw
     case measure=>simp [intOf];omega
     case rel=>exact ⟨k+1,_,rfl,by omega,by go_num,by rw [HST.out];exact HX3.out.later (by with_reducible repeat (first|exact Ex.refl _|refine Ex.alloc ?_ _|refine Ex.ext ?_ _ _|refine Ex.drew ?_|refine Ex.drewN ?_ _))⟩
  ·obtain rfl:k=3:=by omega
   have HXK:=Lib.hid hX
   clear hX
   go_wp2_with fail
   all_goals go_ret
   all_goals
    obtain ⟨hX4,hL4⟩:=HXK.out.later (by repeat (first|exact Ex.refl _|refine Ex.alloc ?_ _|refine Ex.ext ?_ _ _|refine Ex.drew ?_|refine Ex.drewN ?_ _))
    obtain ⟨k1,o,k2,_,k3,k4⟩:=hX4.fl
    exact ⟨_,rfl,hL4,k1,o,k4,k2,fun g hg=>(k3 g (.inr (.inr hg))).2⟩
end
end Go.Proofs.YtabbgpjofkaomaaGreatDoor

/- What Cancel of a floor computes. -/
namespace Go.Proofs.YtabbgpjofkaomaaGreatDoor
open Go.RowKit
def fcancelR (st:FSt) (a:Ask):Lot × Nat × FSt :=
 if askedE a 99=0 then (if (getR (st.b a.item.toNat) a.id).2=true∧(getR (st.b a.item.toNat) a.id).1.owner=a.client then goneR st a.item.toNat a.id else (zeroLot,6,st)) else (zeroLot,askedE a 99,st)
theorem FOk.fcancel {st:FSt} (h:FOk st) (a:Ask):FOk (fcancelR st a).2.2:=by
 unfold fcancelR
 split
 ·rename_i hk
  obtain ⟨_,_,_,b4,_⟩:=Ask.bounds (asked_zero hk).1
  split
  ·exact h.gone (by omega) _
  ·exact h
 ·exact h
theorem GE.wide {L L':List Nat} {n:Nat} (h:GE L' n) (hs:∀ e∈L',e∈L):GE L n:=by
 obtain ⟨e,he,rfl⟩:=h
 exact ⟨e,hs e he,rfl⟩
section
variable {own:Nat→Nat} {c:Nat} {w:World} {A:FlA} {st:FSt} {E:Nat→Addr}
set_option maxRecDepth 100000 in
set_option maxHeartbeats 4000000 in
theorem fcancel_bad (h:FlAt own c w A st) (hE:Errs E [2,3,4,6,10] w) (a:Ask) (hk:askedE a 99≠0) :
  Calls Tryz.prog 120 #[.pointer (some ⟨A.f,0,none⟩),a.val] w fun e w'=>e=.returned (.tuple #[zeroLot.val,errV E (askedE a 99)])∧FlG own c w A st w':=by
 have HK:=Lib.hid (fun w h=>asked_any a 99 E w h)
 rw [errV_pos E _ hk] at HK ⊢
 have HG:=Lib.hid (FlG.refl h)
 have HE:=Lib.hid hE
 generalize askedE a 99=n at *
 clear h hE hk
 go_enter Tryz.func120,Tryz.ntmps120
 go_wp2_with (go_at_call 148;refine (HK.out _ (by exact Errs.sub (HE.out.ex (by repeat (first|exact Ex.refl _|refine Ex.alloc ?_ _|refine Ex.ext ?_ _ _|refine Ex.drew ?_|refine Ex.drewN ?_ _))) (by decide))).mono ?_;rintro e w1 ⟨rfl,l1,d1,rfl⟩)
 all_goals (try simp only [Exit.inBlock,Exit.then])
 all_goals
  refine bodyPost_ret (v:=.tuple #[.agg #[.int .i64 0,.int .i64 0,.int .i64 0,.int .i64 0,.int .i64 0],.iface 357 (.pointer (some (E n)))]) ?_ rfl ⟨rfl,HG.out.later (by repeat (first|exact Ex.refl _|refine Ex.alloc ?_ _|refine Ex.ext ?_ _ _|refine Ex.drew ?_|refine Ex.drewN ?_ _))⟩
  simp only [results,Tryz.results120]
  simp [go_sem,↓IntWalk.iteOmega]
theorem Blk.ask {W:World} {b:Nat} {a:Ask} {t:TypeId} (h:Blk W b (askA a) t):W.cell? ⟨b,1,none⟩=some (.int .i64 a.client)∧W.cell? ⟨b,3,none⟩=some (.int .i64 a.item)∧W.cell? ⟨b,7,none⟩=some (.int .i64 a.id):=⟨h.cell 1,h.cell 3,h.cell 7⟩
def CaB (rx bx:Nat) (a:Ask):List Bl:=[(rx,lotA zeroLot,131),(bx,askA a,45)]++[]
def CaC (lx rx bx:Nat) (x:Lot) (a:Ask):List Bl:=[(lx,lotA x,131)]++CaB rx bx a
theorem CaB.has {rx bx k:Nat} {a:Ask} {L:List Nat} {T:Nat→Prop} {W:World} (X:FlX own c w A st E L (CaB rx bx a) T W) (hk:k<3):W.cell? ⟨A.f,0,none⟩=some (.slice (some ⟨A.rg,0,none⟩) 3 A.cap)∧W.cell? ⟨A.rg,k*3,none⟩=some (.pointer (some ⟨A.bp k,0,none⟩))∧W.cell? ⟨bx,1,none⟩=some (.int .i64 a.client)∧W.cell? ⟨bx,3,none⟩=some (.int .i64 a.item)∧W.cell? ⟨bx,7,none⟩=some (.int .i64 a.id):=by
 obtain ⟨a1,a3,a7⟩:=X.has.cons.2.cons.1.ask
 exact ⟨X.cells.1,(X.items hk).1,a1,a3,a7⟩
set_option maxRecDepth 100000 in
set_option maxHeartbeats 4000000 in
theorem fcancel_go (h:FlAt own c w A st) (hO:FOk st) (hE:Errs E [2,3,4,6,10] w) (hg:∀ n,GE [2,3,4,6,10] n→own n / 8≠c) (a:Ask) (k:Nat) (hk3:k<3) (hi:a.item=(k:Int)) (hk:askedE a 99=0) (r:Lot × Nat × FSt)
  (hr:r=if (getR (st.b k) a.id).2=true∧(getR (st.b k) a.id).1.owner=a.client then goneR st k a.id else (zeroLot,6,st)) :
  Calls Tryz.prog 120 #[.pointer (some ⟨A.f,0,none⟩),a.val] w fun e w'=>e=.returned (.tuple #[r.1.val,errV E r.2.1])∧FlG own c w A r.2.2 w':=by
 have HK:=Lib.hid (fun w h=>asked_any a 99 E w h)
 rw [hk,errV_zero] at HK
 obtain ⟨c0,_,_,_,hf⟩:=h.cells
 obtain ⟨i0,_,_⟩:=h.items hk3
 have hrg:=h.rowLt
 have k3:(k:Int)<3:=by omega
 have HX:=Lib.hid (FlX.start (T:=NoT) h hE hg (fun n hn=>hn.elim))
 have HE:=Lib.hid hE
 have HGT:=Lib.hid (fun o i W hb=>get_any (own:=o) (i:=i) (w:=W) (p:=A.bp k) (l:=st.b k) hb a.id)
 have HGO:=Lib.hid (fun o W h hE hg=>fgone_any (own:=o) (c:=c) (w:=W) (A:=A) (st:=st) (E:=E) h hO hE hg k hk3 a.id)
 have hq:((getR (st.b k) a.id).2=true∧(getR (st.b k) a.id).1.owner=a.client∧r=goneR st k a.id)∨(r=(zeroLot,6,st)∧((getR (st.b k) a.id).2=false∨((getR (st.b k) a.id).2=true∧((getR (st.b k) a.id).1.owner != a.client)=true))):=by
  rw [hr]
  by_cases h1:(getR (st.b k) a.id).2=true
  ·by_cases h2:(getR (st.b k) a.id).1.owner=a.client
   ·exact .inl ⟨h1,h2,if_pos ⟨h1,h2⟩⟩
   ·exact .inr ⟨if_neg (fun e=>h2 e.2),.inr ⟨h1,by simpa using h2⟩⟩
  ·exact .inr ⟨if_neg (fun e=>h1 e.1),.inl (by simpa using h1)⟩
 have HQ:=Lib.hid hq
 generalize getR (st.b k) a.id=g at *
 generalize goneR st k a.id=gr at *
 obtain ⟨kind,client,seq,item,side,price,qty,id⟩:=a
 simp only at hi HQ HGT HGO
 subst hi
 clear h hO hk hE hg hr hq
 go_enter Tryz.func120,Tryz.ntmps120
 go_upto_region 4 with (go_at_call 148;refine (HK.out _ (by exact Errs.sub (HE.out.ex (by repeat (first|exact Ex.refl _|refine Ex.alloc ?_ _|refine Ex.ext ?_ _ _|refine Ex.drew ?_|refine Ex.drewN ?_ _))) (by decide))).mono ?_;rintro e w1 ⟨rfl,l1,d1,rfl⟩)
 refine wp_world (R:=fun W=>FlX own c w A st E [2,3,4,6,10] (CaB (w.heap.size+1) w.heap.size ⟨kind,client,seq,(k:Int),side,price,qty,id⟩) NoT W) (HX.out.add (by repeat (first|exact Ex.refl _|refine Ex.alloc ?_ _|refine Ex.ext ?_ _ _|refine Ex.drew ?_|refine Ex.drewN ?_ _)) (fun t ht=>?_) (Has.mk ?_ (Has.mk ?_ (Has.nil _)))) ?_
 focus
  simp only [List.mem_cons,List.not_mem_nil,or_false] at ht
  rcases ht with rfl|rfl<;>simp only<;>omega
 focus exact (by repeat (first|exact Blk.new (by first|omega|(simp [go_sem];done)|(simp [go_sem];omega))|(with_reducible exact Blk.new rfl)|(with_reducible refine Blk.drew ?_)|(with_reducible refine Blk.drewN ?_ _)|(with_reducible refine Blk.ext ?_ _ _)|(with_reducible refine Blk.alloc ?_ _)))
 focus exact (by repeat (first|exact Blk.new (by first|omega|(simp [go_sem];done)|(simp [go_sem];omega))|(with_reducible exact Blk.new rfl)|(with_reducible refine Blk.drew ?_)|(with_reducible refine Blk.drewN ?_ _)|(with_reducible refine Blk.ext ?_ _ _)|(with_reducible refine Blk.alloc ?_ _)))
 clear c0 i0
 have hbl:w.heap.size≤w.heap.size+1:=by omega
 generalize w.heap.size+1=rx at *
 generalize hbx:w.heap.size=bx at *
 rintro W hX
 have HX1:=Lib.hid hX
 obtain ⟨c0,i0,a1,a3,a7⟩:=CaB.has hX hk3
 simp only at a1 a3 a7
 have hfz:=hX.cells.2.2.2.2
 have hrz:=(hX.items hk3).2.2.2
 have hbz:=hX.has.cons.2.cons.1.lt
 have hrxz:=hX.has.cons.1.lt
 clear hX HX
 go_cut [7,8] (fun p q wx=>∃ lx,p=.pointer (some ⟨lx,0,none⟩)∧q=.bool g.2∧FlX own c w A st E [2,3,4,6,10] (CaC lx rx bx g.1 ⟨kind,client,seq,(k:Int),side,price,qty,id⟩) NoT wx)
 case first =>
  go_region_held3 (fun W=>W.cell? ⟨A.f,0,none⟩=some (.slice (some ⟨A.rg,0,none⟩) 3 A.cap)∧W.cell? ⟨A.rg,k*3,none⟩=some (.pointer (some ⟨A.bp k,0,none⟩))∧W.cell? ⟨bx,1,none⟩=some (.int .i64 client)∧W.cell? ⟨bx,3,none⟩=some (.int .i64 (k:Int))∧W.cell? ⟨bx,7,none⟩=some (.int .i64 id))
   ((first|exact ⟨c0,i0,a1,a3,a7⟩|(simp [go_sem,↓IntWalk.iteOmega,c0,i0,a1,a3,a7];done)))
   ((go_at_call 124;((with_reducible refine ((HX1.out.later ?_).readB hk3 (fun o i hb=>HGT.out o i _ hb)).mono ?_));(focus exact (by with_reducible repeat (first|exact Ex.refl _|refine Ex.alloc ?_ _|refine Ex.ext ?_ _ _|refine Ex.drew ?_|refine Ex.drewN ?_ _)));rintro e w3 ⟨rfl,l3,d3,rfl⟩))
  all_goals go_wp2_with fail
  all_goals
   go_meet
   case rel=>exact ⟨_,rfl,rfl,HX1.out.add (cs':=[(_,lotA g.1,131)]) (by with_reducible repeat (first|exact Ex.refl _|refine Ex.alloc ?_ _|refine Ex.ext ?_ _ _|refine Ex.drew ?_|refine Ex.drewN ?_ _)) (fun t ht=>by simp only [List.mem_singleton] at ht;subst ht;simp only;omega) (Has.mk (by repeat (first|exact Blk.new (by first|omega|(simp [go_sem];done)|(simp [go_sem];omega))|(with_reducible exact Blk.new rfl)|(with_reducible refine Blk.drew ?_)|(with_reducible refine Blk.drewN ?_ _)|(with_reducible refine Blk.ext ?_ _ _)|(with_reducible refine Blk.alloc ?_ _))) (Has.nil _))⟩
 case rest =>
  obtain ⟨lx,rfl,rfl,hX⟩:=hcut
  have HX2:=Lib.hid hX
  obtain ⟨_,x1,_⟩:=hX.has.cons.1.lot
  obtain ⟨a1',a3',a7'⟩:=hX.has.cons.2.cons.2.cons.1.ask
  simp only at a1' a3' a7'
  have z:=hX.has.cons.2.cons.1
  have hbz2:=hX.has.cons.2.cons.2.cons.1.lt
  have hrx2:=z.lt
  have hlx2:=hX.has.cons.1.lt
  have e6:wc.cell? ⟨7,0,none⟩=some (.iface 357 (.pointer (some (E 6)))):=hX.errs 6 (by decide)
  have b6:=lt_of_cell e6
  have hlow:7<w.heap.size:=HX2.out.low 6 (by decide)
  have hn6:¬ (7=rx):=by omega
  have hn7:¬ (rx=7):=by omega
  clear hlow
  have zf:=z.free
  have HZ:=Lib.hid z
  have z0:=z.cell 0
  have z1:=z.cell 1
  have z2:=z.cell 2
  have z3:=z.cell 3
  have z4:=z.cell 4
  simp only [lotA,zeroLot,List.getElem?_toArray,List.getElem?_cons_zero,List.getElem?_cons_succ] at z0 z1 z2 z3 z4
  clear hX z c0 i0 a1 a3 a7 HX1 HGT
  rcases HQ.out with ⟨h1,h2,h3⟩|⟨h3,h4⟩
  ·obtain ⟨x,b⟩:=g
   simp only at h1 h2 x1
   subst h1 h3
   have ht:(x.owner != client)=false:=by simp [bne,h2]
   obtain ⟨⟨xi,xo,xs,xp,xq⟩,n,st2⟩:=r
   clear h2 HQ e6 b6
   go_wp2_with fail
   refine ((HX2.out.later (by with_reducible repeat (first|exact Ex.refl _|refine Ex.alloc ?_ _|refine Ex.ext ?_ _ _|refine Ex.drew ?_|refine Ex.drewN ?_ _))).call (fun o h hE hg=>HGO.out o _ h (hE.sub (by decide)) (fun n hn=>hg n (GE.wide hn (by decide))))).mono ?_
   rintro e w4 ⟨rfl,hX4⟩
   have z:=hX4.has.cons.2.cons.1
   have hrx4:=z.lt
   have zf4:=z.free
   have hx5:=(hX4.turned (cs':=[]) (W':=((((w4.setCell ⟨rx,0,none⟩ (.int .i64 xi)).setCell ⟨rx,1,none⟩ (.int .i64 xo)).setCell ⟨rx,2,none⟩ (.int .i64 xs)).setCell ⟨rx,3,none⟩ (.int .i64 xp)).setCell ⟨rx,4,none⟩ (.int .i64 xq)) (b:=rx) (grownBy_set (grownBy_set (grownBy_set (grownBy_set (grownBy_set (grownBy_self _ _) _ _) _ _) _ _) _ _) _ _) ⟨_,List.mem_cons_of_mem _ (List.mem_cons_self ..),rfl⟩ (by omega) (Has.nil _) (fun t ht=>by cases ht)).out
   have hb5:=((((z.set 0 (.int .i64 xi)).set 1 (.int .i64 xo)).set 2 (.int .i64 xs)).set 3 (.int .i64 xp)).set 4 (.int .i64 xq)
   have HX5:=Lib.hid hx5
   have HB5:=Lib.hid hb5
   have z0:=z.cell 0
   have z1:=z.cell 1
   have z2:=z.cell 2
   have z3:=z.cell 3
   have z4:=z.cell 4
   simp only [lotA,zeroLot,List.getElem?_toArray,List.getElem?_cons_zero,List.getElem?_cons_succ] at z0 z1 z2 z3 z4
   clear hX4 z hx5 hb5
   go_wp2_with fail
   have hx5:=HX5.out
   have hb5:=HB5.out
   generalize (((((w4.setCell ⟨rx,0,none⟩ (.int .i64 xi)).setCell ⟨rx,1,none⟩ (.int .i64 xo)).setCell ⟨rx,2,none⟩ (.int .i64 xs)).setCell ⟨rx,3,none⟩ (.int .i64 xp)).setCell ⟨rx,4,none⟩ (.int .i64 xq))=W5 at *
   have g0:=hb5.cell 0
   have g1:=hb5.cell 1
   have g2:=hb5.cell 2
   have g3:=hb5.cell 3
   have g4:=hb5.cell 4
   simp [lotA] at g0 g1 g2 g3 g4
   clear hb5
   (try simp only [Exit.inBlock,Exit.then])
   refine bodyPost_ret (v:=.tuple #[.agg #[.int .i64 xi,.int .i64 xo,.int .i64 xs,.int .i64 xp,.int .i64 xq],errV E n]) ?_ rfl ⟨rfl,hx5⟩
   simp only [results,Tryz.results120]
   simp [go_sem,↓IntWalk.iteOmega,g0,g1,g2,g3,g4]
  ·subst h3
   have hx5:=(HX2.out.turned (cs':=[]) (W':=((((wc.setCell ⟨rx,0,none⟩ (.int .i64 0)).setCell ⟨rx,1,none⟩ (.int .i64 0)).setCell ⟨rx,2,none⟩ (.int .i64 0)).setCell ⟨rx,3,none⟩ (.int .i64 0)).setCell ⟨rx,4,none⟩ (.int .i64 0)) (b:=rx) (grownBy_set (grownBy_set (grownBy_set (grownBy_set (grownBy_set (grownBy_self _ _) _ _) _ _) _ _) _ _) _ _) ⟨_,List.mem_cons_of_mem _ (List.mem_cons_self ..),rfl⟩ (by omega) (Has.nil _) (fun t ht=>by cases ht)).out
   have hb5:=((((HZ.out.set 0 (.int .i64 0)).set 1 (.int .i64 0)).set 2 (.int .i64 0)).set 3 (.int .i64 0)).set 4 (.int .i64 0)
   have HX5:=Lib.hid hx5
   have HB5:=Lib.hid hb5
   obtain ⟨x,b⟩:=g
   simp only at h4 x1
   clear hx5 hb5 HQ HGO
   rcases h4 with rfl|⟨rfl,ht⟩
   all_goals
    go_upto_region 6 with fail
    go_region
    all_goals go_wp2_with fail
    all_goals
     have hx5:=HX5.out.later ((Ex.refl _).drew)
     have hb5:=HB5.out.drew
     generalize (((((wc.setCell ⟨rx,0,none⟩ (.int .i64 0)).setCell ⟨rx,1,none⟩ (.int .i64 0)).setCell ⟨rx,2,none⟩ (.int .i64 0)).setCell ⟨rx,3,none⟩ (.int .i64 0)).setCell ⟨rx,4,none⟩ (.int .i64 0)).drew=W5 at *
     have g0:=hb5.cell 0
     have g1:=hb5.cell 1
     have g2:=hb5.cell 2
     have g3:=hb5.cell 3
     have g4:=hb5.cell 4
     simp [lotA] at g0 g1 g2 g3 g4
     clear hb5
     refine bodyPost_ret (v:=.tuple #[.agg #[.int .i64 0,.int .i64 0,.int .i64 0,.int .i64 0,.int .i64 0],.iface 357 (.pointer (some (E 6)))]) ?_ rfl ⟨(by rw [errV_pos E 6 (by decide)];rfl),hx5⟩
     simp only [results,Tryz.results120]
     simp [go_sem,↓IntWalk.iteOmega,g0,g1,g2,g3,g4]
theorem fcancel_any (h:FlAt own c w A st) (hO:FOk st) (hE:Errs E [2,3,4,6,10] w) (hg:∀ n,GE [2,3,4,6,10] n→own n / 8≠c) (a:Ask) :
  Calls Tryz.prog 120 #[.pointer (some ⟨A.f,0,none⟩),a.val] w fun e w'=>e=.returned (.tuple #[(fcancelR st a).1.val,errV E (fcancelR st a).2.1])∧FlG own c w A (fcancelR st a).2.2 w':=by
 by_cases hk:askedE a 99=0
 ·obtain ⟨_,_,_,b4,_⟩:=Ask.bounds (asked_zero hk).1
  exact fcancel_go h hO hE hg a a.item.toNat (by omega) (by omega) hk (fcancelR st a) (by unfold fcancelR;rw [if_pos hk])
 ·have e:fcancelR st a=(zeroLot,askedE a 99,st):=if_neg hk
  rw [e]
  exact fcancel_bad h hE a hk
end
end Go.Proofs.YtabbgpjofkaomaaGreatDoor

/- What New of a floor computes. -/
namespace Go.Proofs.YtabbgpjofkaomaaGreatDoor
open Go.RowKit
theorem step_append_own {P:Program} {ops:Array Oper} {o:Oper} {a:Act} {w:World} {K:Act→World→Prop} {Q:Exit→Act→World→Prop} {E:Prop} (hgd:o.guard=none) (s x:Operand) (t:TypeId)
  (ho:o.op=.call { callee:=.builtin .append,args:=#[s,x],argTypes:=#[t,t] })
  (base:Nat) (e:TypeId) (i:TypeInfo) (z:Value) (size bytes:Nat) (ht:P.underlying t=some (.slice e)) (hi:P.info? e=some i) (hz:i.zero=some z)
  (hsize:i.size=size) (hby:i.bytes=bytes) (hzs:z.cells.size=size) (hsz:0<size)
  (v:Value) (n:Nat) (xs:List Value) (hv:a.eval s=v) (hown:w.ownsRow base e size v n xs)
  (ad:Addr) (m c:Nat) (news:List Value) (hy:a.eval x=.slice (some ad) m c) (hl:news.length=m*size) (hnews:∀ j u,news[j]?=some u→w.cell? (ad.add j)=some u) (h1:∀ u∈news,u.oneCell'=true)
  (h63:n+m≤maxLen) (hbytes:(n+m)*bytes≤140737488355328) (hbase:base≤w.heap.size)
  (hK:∀ v' w',w'.ownsRow base e size v' (n+m) (xs++news)→w.grownBy w' v.ownBlock→K (a.put o.dst v') w') :
  if Region.wanted o (yielded ops a.tmps)=true then Oper.wp P o a w K Q else E:=by
 have hw:Region.wanted o (yielded ops a.tmps)=true:=by simp [Region.wanted,hgd]
 rw [if_pos hw]
 obtain ⟨v',w',hr,h2,h3,_⟩:=run_append_own (P:=P) w base t o.type e i z size bytes ht hi hz hsize hby hzs hsz v n xs hown ad m c news hl hnews h1 h63 hbytes hbase
 unfold Oper.wp execOp
 simp only [ho,resolve,invoke,builtin,Sem.run_bind,Sem.run_pure,Result.andThen_ok,List.map_toArray,List.map_cons,List.map_nil,hv,hy,hr]
 exact hK v' w' h2 h3
set_option maxRecDepth 100000 in
theorem bookNew2 (w:World):Calls Tryz.prog 73 #[] w fun e w'=>e=.returned (.pointer (some ⟨w.heap.size,0,none⟩))∧w'=w.alloc (.cells #[.slice none 0 0] 134):=by
 go_enter Tryz.func73,Tryz.ntmps73
 go_wp2
 all_goals go_ret
 all_goals exact ⟨rfl,rfl⟩
set_option maxRecDepth 100000 in
theorem purseNew2 (w:World):Calls Tryz.prog 72 #[] w fun e w'=>e=.returned (.pointer (some ⟨w.heap.size,0,none⟩))∧Ex w w'∧w.heap.size<w'.heap.size∧Blk w' w.heap.size (Array.replicate 48 (.int .i64 0)) 140:=by
 go_enter Tryz.func72,Tryz.ntmps72
 go_wp2
 all_goals go_ret
 all_goals exact ⟨rfl,(by repeat (first|exact Ex.refl _|refine Ex.alloc ?_ _|refine Ex.ext ?_ _ _|refine Ex.drew ?_|refine Ex.drewN ?_ _)),by simp,Blk.new rfl⟩
def newP (cash stock:Int) (n:Nat):Pu:=fun c j=>if c<n then (if j=0 then cash else if 2≤j∧j<5 then stock else 0) else 0
def newSt (ref cash stock:Int):FSt:=⟨fun _=>[],fun _=>ref,fun _=>0,newP cash stock 6⟩
def triS (stock:Int) (k:Nat):Nat→Int:=fun i=>if i<k then stock else 0
theorem newP_give {cash stock:Int} {n:Nat} (hn:n<6) (h0:0≤cash) (h1:cash≤1073741824) (h2:0≤stock) (h3:stock≤100000):giveE (newP cash stock n) (n:Int) cash (fun _=>stock)=0∧giveP (newP cash stock n) (n:Int) cash (fun _=>stock)=newP cash stock (n+1):=by
 have hz:∀ j,newP cash stock n n j=0:=fun j=>if_neg (Nat.lt_irrefl n)
 have e:giveE (newP cash stock n) (n:Int) cash (fun _=>stock)=0:=by
  unfold giveE
  rw [Int.toNat_natCast]
  simp only [hz]
  have h4:(inR (n:Int) 0 5 && decide (0≤cash))=true:=by rw [Bool.and_eq_true];exact ⟨inR_iff.2 ⟨by omega,by omega⟩,by simpa using h0⟩
  rw [h4]
  simp only [if_true]
  (repeat' split)<;>first|rfl|(exfalso;omega)
 refine ⟨e,?_⟩
 unfold giveP
 rw [if_pos e,Int.toNat_natCast]
 funext d j
 unfold Pu.add
 simp only [hz]
 by_cases hd:d=n
 ·subst hd
  rw [if_pos rfl]
  unfold newP
  rw [if_pos (Nat.lt_succ_self _)]
  by_cases j0:j=0
  ·rw [if_pos j0,if_pos j0];omega
  ·rw [if_neg j0,if_neg j0]
   by_cases j2:j=2
   ·rw [if_pos j2,if_pos (by omega)];omega
   ·rw [if_neg j2]
    by_cases j3:j=3
    ·rw [if_pos j3,if_pos (by omega)];omega
    ·rw [if_neg j3]
     by_cases j4:j=4
     ·rw [if_pos j4,if_pos (by omega)];omega
     ·rw [if_neg j4,if_neg (by omega)]
 ·rw [if_neg hd]
  unfold newP
  by_cases h:d<n
  ·rw [if_pos h,if_pos (show d<n+1 by omega)]
  ·rw [if_neg h,if_neg (show ¬ d<n+1 by omega)]
def itemsC (bp:Nat→Nat) (ref:Int) (k:Nat):List Value:=(List.range k).flatMap fun j=>[.pointer (some ⟨bp j,0,none⟩),.int .i64 ref,.int .i64 0]
theorem itemsC_succ (bp:Nat→Nat) (ref:Int) (k:Nat):itemsC bp ref (k+1)=itemsC bp ref k++[.pointer (some ⟨bp k,0,none⟩),.int .i64 ref,.int .i64 0]:=by
 unfold itemsC
 rw [List.range_succ,List.flatMap_append]
 simp
theorem itemsC_len (bp:Nat→Nat) (ref:Int) (k:Nat):(itemsC bp ref k).length=k*3:=by
 induction k with
 | zero=>rfl
 | succ k ih=>rw [itemsC_succ,List.length_append,ih];simp;omega
theorem itemsC_congr {bp bq:Nat→Nat} {ref:Int} {k:Nat} (h:∀ j,j<k→bp j=bq j):itemsC bp ref k=itemsC bq ref k:=by
 induction k with
 | zero=>rfl
 | succ k ih=>rw [itemsC_succ,itemsC_succ,ih (fun j hj=>h j (by omega)),h k (by omega)]
structure NewR (w:World) (fb ab pp:Nat) (ref stock wd hl:Int) (q k:Nat) (bp:Nat→Nat) (v:Value) (wr:World):Prop where
 ex:Ex w wr
 fl:Blk wr fb #[v,.pointer (some ⟨pp,0,none⟩),.int .i64 wd,.int .i64 hl] 129
 all:Blk wr ab #[.int .i64 (triS stock q 0),.int .i64 (triS stock q 1),.int .i64 (triS stock q 2)] 77
 pu:Blk wr pp (Array.replicate 48 (.int .i64 0)) 140
 row:wr.ownsRow w.heap.size 126 3 v k (itemsC bp ref k)
 bk:∀ j,j<k→Blk wr (bp j) #[.slice none 0 0] 134∧w.heap.size≤bp j
 bd:∀ i j,i<j→j<k→bp i≠bp j
 low:w.heap.size≤fb∧w.heap.size≤ab∧w.heap.size≤pp
theorem infoItem:(Tryz.prog.info? 126).map (fun i=>(i.zero,i.size,i.bytes))=some (some (.agg #[.pointer none,.int .i64 0,.int .i64 0]),3,24):=by kernel_rfl
theorem owns_ne {W:World} {base:Nat} {e t:TypeId} {size:Nat} {v:Value} {n b:Nat} {xs:List Value} {vs:Array Value} (h:W.ownsRow base e size v n xs) (hb:Blk W b vs t) (hne:e≠t):v.ownBlock≠some b:=fun e0=>by
 rcases h.2 with ⟨rfl,_⟩|⟨g,cap,cur,rfl,_,hh,_⟩
 ·cases e0
 ·cases e0
  rw [show W.heap[g]?=_ from hb] at hh
  simp at hh
  exact hne hh.2.symm
theorem owns_slice {W:World} {base:Nat} {e:TypeId} {size:Nat} {v:Value} {n:Nat} {xs:List Value} (h:W.ownsRow base e size v n xs):∃ ao cap,v=.slice ao n cap∧n≤cap∧cap≤maxLen:=by
 rcases h.2 with ⟨rfl,h0⟩|⟨g,cap,cur,rfl,_,_,hc,hm,_⟩
 ·exact ⟨none,0,by rw [h0],by omega,by unfold maxLen;omega⟩
 ·exact ⟨_,cap,rfl,hc,hm⟩
theorem Blk.grown {W W':World} {b:Nat} {vs:Array Value} {t:TypeId} {row:Option Nat} (h:Blk W b vs t) (hg:W.grownBy W' row) (hne:row≠some b):Blk W' b vs t:=(hg.block b h.lt (fun e=>hne e.symm)).trans h
theorem triS_step {stock:Int} {k:Nat} (hk:k<3):(#[Value.int .i64 (triS stock k 0),.int .i64 (triS stock k 1),.int .i64 (triS stock k 2)]:Array Value).setIfInBounds k (.int .i64 stock)=#[.int .i64 (triS stock (k+1) 0),.int .i64 (triS stock (k+1) 1),.int .i64 (triS stock (k+1) 2)]:=by
 have h:k=0∨k=1∨k=2:=by omega
 rcases h with rfl|rfl|rfl<;>simp [triS]
theorem triS_cell {stock:Int} {k:Nat} (hk:k<3):(#[Value.int .i64 (triS stock k 0),.int .i64 (triS stock k 1),.int .i64 (triS stock k 2)]:Array Value)[k]?=some (.int .i64 0):=by
 have h:k=0∨k=1∨k=2:=by omega
 rcases h with rfl|rfl|rfl<;>simp [triS]
section
variable {w W W1 w':World} {fb ab pp q k:Nat} {ref stock wd hl:Int} {bp:Nat→Nat} {v v':Value}
theorem NewR.set (h:NewR w fb ab pp ref stock wd hl k k bp v W) (hk:k<3) (hne:ab≠fb∧ab≠pp):NewR w fb ab pp ref stock wd hl (k+1) k bp v (W.setCell ⟨ab,k,none⟩ (.int .i64 stock)) where
 ex:=Ex.of (Below.setCell h.ex.below h.low.2.1 _)
 fl:=h.fl.other _ _ (fun e=>hne.1 e.symm)
 all:=by rw [← triS_step hk];exact h.all.set _ _
 pu:=h.pu.other _ _ (fun e=>hne.2 e.symm)
 row:=h.row.kept (row:=some ab) ⟨rfl,rfl,rfl,by simp [World.setCell],fun n hn hne=>heap_setCell_other _ _ _ _ (fun e=>hne (by rw [e]))⟩ (.inr (owns_ne h.row h.all (by decide)))
 bk:=fun j hj=>⟨(h.bk j hj).1.other _ _ (fun e=>by
  have h1:=(h.bk j hj).1
  have h2:=h.all
  unfold Blk at h1 h2
  simp only at e
  rw [e,h2] at h1
  simp at h1),(h.bk j hj).2⟩
 bd:=h.bd
 low:=h.low
theorem NewR.step (h:NewR w fb ab pp ref stock wd hl q k bp v W) (hx:Ex W W1) (hbk:Blk W1 W.heap.size #[.slice none 0 0] 134) (hown:w'.ownsRow w.heap.size 126 3 v' (k+1) (itemsC bp ref k++[.pointer (some ⟨W.heap.size,0,none⟩),.int .i64 ref,.int .i64 0])) (hg:W1.grownBy w' v.ownBlock) :
  Blk w' fb #[v,.pointer (some ⟨pp,0,none⟩),.int .i64 wd,.int .i64 hl] 129∧NewR w fb ab pp ref stock wd hl q (k+1) (fun j=>if j=k then W.heap.size else bp j) v' (w'.setCell ⟨fb,0,none⟩ v'):=by
 have hz:=h.ex.below.size
 have r1:W1.ownsRow w.heap.size 126 3 v k (itemsC bp ref k):=h.row.kept (row:=none) ⟨hx.below.os,hx.below.tape,hx.below.output,hx.below.size,fun n hn _=>hx.below.block n hn⟩ (Classical.em _ |>.imp id (fun h=>h))
 have hfl:Blk w' fb #[v,.pointer (some ⟨pp,0,none⟩),.int .i64 wd,.int .i64 hl] 129:=(h.fl.ex hx).grown hg (owns_ne r1 (h.fl.ex hx) (by decide))
 have dif:∀ {b:Nat} {vs:Array Value} {t:TypeId},Blk w' b vs t→t≠129→b≠fb:=fun h1 ht e=>by
  have h2:=hfl
  unfold Blk at h1 h2
  rw [e,h2] at h1
  simp at h1
  exact ht h1.2.symm
 have k1:Blk w' ab _ _:=(h.all.ex hx).grown hg (owns_ne r1 (h.all.ex hx) (by decide))
 have k2:Blk w' pp _ _:=(h.pu.ex hx).grown hg (owns_ne r1 (h.pu.ex hx) (by decide))
 have k3:Blk w' W.heap.size _ _:=hbk.grown hg (owns_ne r1 hbk (by decide))
 have k4:∀ j,j<k→Blk w' (bp j) _ _:=fun j hj=>((h.bk j hj).1.ex hx).grown hg (owns_ne r1 ((h.bk j hj).1.ex hx) (by decide))
 have hfb:Below w.heap.size w w':=Below.grown (h.ex.trans hx).below hg (h.ex.trans hx).below.size (fun b e=>(r1.lt b e).1)
 refine ⟨hfl,⟨Ex.of (Below.setCell hfb h.low.1 _),?_,k1.other _ _ (dif k1 (by decide)),k2.other _ _ (dif k2 (by decide)),?_,fun j hj=>?_,fun i j hij hj=>?_,h.low⟩⟩
 ·have:=hfl.set 0 v'
  simpa using this
 ·have e:itemsC (fun j=>if j=k then W.heap.size else bp j) ref (k+1)=itemsC bp ref k++[.pointer (some ⟨W.heap.size,0,none⟩),.int .i64 ref,.int .i64 0]:=by
   rw [itemsC_succ,if_pos rfl,itemsC_congr (bq:=bp) fun j hj=>if_neg (by omega)]
  rw [e]
  exact hown.kept (row:=some fb) ⟨rfl,rfl,rfl,by simp [World.setCell],fun n hn hne=>heap_setCell_other _ _ _ _ (fun e=>hne (by rw [e]))⟩ (.inr (owns_ne hown hfl (by decide)))
 ·by_cases e:j=k
  ·simp only [e,if_true]
   exact ⟨k3.other _ _ (dif k3 (by decide)),hz⟩
  ·simp only [e,if_false]
   have:=k4 j (by omega)
   exact ⟨this.other _ _ (dif this (by decide)),(h.bk j (by omega)).2⟩
 ·by_cases e:j=k
  ·subst e
   rw [if_pos rfl,if_neg (by omega)]
   have:=(h.bk i hij).1.lt
   omega
  ·rw [if_neg e,if_neg (by omega)]
   exact h.bd i j hij (by omega)
end
theorem Blk.ne {W:World} {b b':Nat} {vs vs':Array Value} {t t':TypeId} (h:Blk W b vs t) (h':Blk W b' vs' t') (hne:t≠t'):b≠b':=fun e=>by
 unfold Blk at h h'
 rw [e,h'] at h
 simp at h
 exact hne h.2.symm
theorem itemsC_get (bp:Nat→Nat) (ref:Int):∀ k j,j<k→(itemsC bp ref k)[j*3]?=some (.pointer (some ⟨bp j,0,none⟩))∧(itemsC bp ref k)[j*3+1]?=some (.int .i64 ref)∧(itemsC bp ref k)[j*3+2]?=some (.int .i64 0)
 | k+1,j,hj=>by
  rw [itemsC_succ]
  have hl:=itemsC_len bp ref k
  by_cases e:j=k
  ·subst e
   rw [List.getElem?_append_right (by omega),List.getElem?_append_right (by omega),List.getElem?_append_right (by omega),hl]
   rw [show j*3 - j*3=0 by omega,show j*3+1 - j*3=1 by omega,show j*3+2 - j*3=2 by omega]
   exact ⟨rfl,rfl,rfl⟩
  ·rw [List.getElem?_append_left (by omega),List.getElem?_append_left (by omega),List.getElem?_append_left (by omega)]
   exact itemsC_get bp ref k j (by omega)
theorem newP_zero (cash stock:Int) (d j:Nat):newP cash stock 0 d j=0:=if_neg (Nat.not_lt_zero _)
theorem newP_inv (cash stock:Int):PInv (newP cash stock 0):=fun d hd=>by
 refine ⟨by rw [newP_zero];omega,by rw [newP_zero,newP_zero];omega,by rw [newP_zero];omega,fun i hi=>⟨by rw [newP_zero];omega,by rw [newP_zero,newP_zero];omega,by rw [newP_zero];omega⟩⟩
set_option maxHeartbeats 1000000 in
theorem NewR.floor {w W:World} {fb ab pp:Nat} {ref stock wd hl:Int} {bp:Nat→Nat} {v:Value} (h:NewR w fb ab pp ref stock wd hl 3 3 bp v W) (own:Nat→Nat) (c:Nat) (hfree:∀ n,n<w.heap.size→own n / 8≠c) (a1:0≤wd) (a2:wd≤100) (a3:1≤hl) (a4:hl≤1000) (cash:Int) :
  ∃ (A:FlA) (o:Nat→Nat),A.f=fb∧A.pp=pp∧A.wd=wd∧A.hl=hl∧FlAt o c W A ⟨fun _=>[],fun _=>ref,fun _=>0,newP cash stock 0⟩∧(∀ n,n<w.heap.size→o n=own n)∧o ab / 8≠c:=by
 obtain ⟨ex,fl,all,pu,row,bk,bd,low⟩:=h
 have hlen:=row.1
 obtain ⟨g,cap,cur,rfl,hg,hh,hc,hm,hs,ht⟩:∃ g cap cur,v=.slice (some ⟨g,0,none⟩) 3 cap∧w.heap.size≤g∧W.heap[g]?=some (.cells cur 126 (0,0))∧3≤cap∧cap≤maxLen∧cur.size=cap*3∧cur.toList.take (3*3)=itemsC bp ref 3:=by
  rcases row.2 with ⟨_,h0⟩|h1
  ·cases h0
  ·exact h1
 have bg:Blk W g cur 126:=hh
 have b0:=(bk 0 (by omega)).1
 have b1:=(bk 1 (by omega)).1
 have b2:=(bk 2 (by omega)).1
 have n1:=fl.ne bg (by decide)
 have n2:=fl.ne pu (by decide)
 have n3:=fl.ne all (by decide)
 have n4:=fl.ne b0 (by decide)
 have n5:=fl.ne b1 (by decide)
 have n6:=fl.ne b2 (by decide)
 have m1:=bg.ne pu (by decide)
 have m2:=bg.ne all (by decide)
 have m3:=bg.ne b0 (by decide)
 have m4:=bg.ne b1 (by decide)
 have m5:=bg.ne b2 (by decide)
 have p1:=pu.ne all (by decide)
 have p2:=pu.ne b0 (by decide)
 have p3:=pu.ne b1 (by decide)
 have p4:=pu.ne b2 (by decide)
 have q1:=all.ne b0 (by decide)
 have q2:=all.ne b1 (by decide)
 have q3:=all.ne b2 (by decide)
 have r1:=bd 0 1 (by omega) (by omega)
 have r2:=bd 0 2 (by omega) (by omega)
 have r3:=bd 1 2 (by omega) (by omega)
 obtain ⟨l1,l2,l3⟩:=low
 have g0:=(bk 0 (by omega)).2
 have g1:=(bk 1 (by omega)).2
 have g2:=(bk 2 (by omega)).2
 obtain ⟨o,ho⟩:∃ o:Nat→Nat,∀ n,o n=if n=fb then 8*c+5 else if n=g then 8*c+6 else if n=pp then 8*c+4 else if n=bp 0 then 8*c+1 else if n=bp 1 then 8*c+2 else if n=bp 2 then 8*c+3 else if n<w.heap.size then own n else 8*c+8:=⟨_,fun _=>rfl⟩
 have hbook:∀ j,Blk W (bp j) #[.slice none 0 0] 134→o (bp j)=8*c+1+j→BookAt o (8*c+1+j) W (bp j) []:=fun j hb e =>
  ⟨by simp,fun x hx=>(by cases hx),.slice none 0 0,⟨134,⟨_,hb,rfl,fun i hi=>by
   obtain rfl:i=0:=by omega
   rfl⟩⟩,OwnRow.nil _ _ _ _ _,e,fun e=>by cases e⟩
 have hz3:(3:Nat)≤cap:=hc
 clear hs
 refine ⟨⟨fb,g,cap,bp,pp,wd,hl⟩,o,rfl,rfl,rfl,rfl,⟨⟨129,⟨_,fl,rfl,fun i hi=>?_⟩⟩,by rw [ho,if_pos rfl],⟨cur,_,hh,fun n hn=>?_⟩,by rw [ho,if_neg (Ne.symm n1),if_pos rfl],⟨hc,hm⟩,fun j hj=>?_,⟨by rw [ho,if_neg (Ne.symm n2),if_neg (Ne.symm m1),if_pos rfl],?_,140,⟨_,pu,by simp,fun i hi=>?_⟩⟩,⟨a1,a2⟩,a3,a4⟩,fun n hn=>?_,?_⟩
 ·clear n1 n2 n3 n4 n5 n6 m1 m2 m3 m4 m5 p1 p2 p3 p4 q1 q2 q3 r1 r2 r3
  have:i=0∨i=1∨i=2∨i=3:=by omega
  rcases this with rfl|rfl|rfl|rfl<;>rfl
 ·clear n1 n2 n3 n4 n5 n6 m1 m2 m3 m4 m5 p1 p2 p3 p4 q1 q2 q3 r1 r2 r3
  have e:cur[n]?=(itemsC bp ref 3)[n]?:=by
   rw [← ht,List.getElem?_take_of_lt (by omega),Array.getElem?_toList]
  rw [e]
  have hn3:n=n / 3*3∨n=n / 3*3+1∨n=n / 3*3+2:=by omega
  obtain ⟨i1,i2,i3⟩:=itemsC_get bp ref 3 (n / 3) (by omega)
  unfold FlA.item
  rcases hn3 with h|h|h
  ·rw [if_pos (by omega),← i1,← h]
  ·rw [if_neg (by omega),if_pos (by omega),← i2,← h]
  ·rw [if_neg (by omega),if_neg (by omega),← i3,← h]
 ·have h3:j=0∨j=1∨j=2:=by
   clear n1 n2 n3 n4 n5 n6 m1 m2 m3 m4 m5 p1 p2 p3 p4 q1 q2 q3 r1 r2 r3
   omega
  rcases h3 with rfl|rfl|rfl
  ·exact hbook 0 b0 (by rw [ho,if_neg (Ne.symm n4),if_neg (Ne.symm m3),if_neg (Ne.symm p2),if_pos rfl])
  ·exact hbook 1 b1 (by rw [ho,if_neg (Ne.symm n5),if_neg (Ne.symm m4),if_neg (Ne.symm p3),if_neg (Ne.symm r1),if_pos rfl])
  ·exact hbook 2 b2 (by rw [ho,if_neg (Ne.symm n6),if_neg (Ne.symm m5),if_neg (Ne.symm p4),if_neg (Ne.symm r2),if_neg (Ne.symm r3),if_pos rfl])
 ·exact newP_inv cash stock
 ·have e:(Array.replicate 48 (Value.int .i64 0))[i]?=some (.int .i64 (newP cash stock 0 (i / 8) (i % 8))):=by
   rw [newP_zero]
   simp [hi]
  exact e
 ·have lt:∀ {m},w.heap.size≤m→¬ n=m:=fun h=>Nat.ne_of_lt (Nat.lt_of_lt_of_le hn h)
  rw [ho,if_neg (lt l1),if_neg (lt hg),if_neg (lt l3),if_neg (lt g0),if_neg (lt g1),if_neg (lt g2),if_pos hn]
 ·rw [ho,if_neg (Ne.symm n3),if_neg (Ne.symm m2),if_neg (Ne.symm p1),if_neg q1,if_neg q2,if_neg q3,if_neg (Nat.not_lt.2 l2)]
  clear n1 n2 n3 n4 n5 n6 m1 m2 m3 m4 m5 p1 p2 p3 p4 q1 q2 q3 r1 r2 r3
  omega
def NewTo (own:Nat→Nat) (c:Nat) (w:World) (wd hl ref cash stock:Int) (e:Ending) (w':World):Prop :=
 ∃ (A:FlA) (o:Nat→Nat),e=.returned (.tuple #[.pointer (some ⟨A.f,0,none⟩),.nilIface])∧FlAt o c w' A (newSt ref cash stock)∧A.wd=wd∧A.hl=hl∧(∀ n,n<w.heap.size→o n=own n)∧Ex w w'
section
variable {own:Nat→Nat} {c:Nat} {w:World} {E:Nat→Addr}
set_option maxRecDepth 100000 in
set_option maxHeartbeats 4000000 in
theorem fnew_ok (wd hl ref cash stock:Int) (hE:Errs E [2,8] w) (hfree:∀ n,n<w.heap.size→own n / 8≠c) (a1:0≤wd) (a2:wd≤100) (a3:1≤hl) (a4:hl≤1000) (r1:1≤ref) (r2:ref≤1000) (c1:0≤cash) (c2:cash≤1073741824) (s1:0≤stock) (s2:stock≤100000) :
  Calls Tryz.prog 39 #[.agg #[.int .i64 wd,.int .i64 hl],.int .i64 ref,.int .i64 cash,.int .i64 stock] w (NewTo own c w wd hl ref cash stock):=by
 have HC:=Lib.hid (fun w=>ruleCheck_ok wd hl w a1 a2 a3 a4)
 have HE:=Lib.hid hE
 have HFR:=Lib.hid hfree
 obtain ⟨i0,hi0,hz0,hz1,hz2⟩:=info_parts infoItem
 have b1:decide (ref<1)=false:=decide_eq_false (by omega)
 have b2:decide (1000<ref)=false:=decide_eq_false (by omega)
 have b3:decide (cash<0)=false:=decide_eq_false (by omega)
 have b4:decide (1073741824<cash)=false:=decide_eq_false (by omega)
 have b5:decide (stock<0)=false:=decide_eq_false (by omega)
 have b6:decide (100000<stock)=false:=decide_eq_false (by omega)
 clear hE hfree
 go_enter Tryz.func39,Tryz.ntmps39
 go_upto_region 6 with (go_at_call 71;refine (HC.out _).mono ?_;rintro e w1 ⟨rfl,l1,d1,rfl⟩)
 go_region_held3 (fun W=>W.cell? ⟨w.heap.size,0,none⟩=some (.int .i64 wd)∧W.cell? ⟨w.heap.size,1,none⟩=some (.int .i64 hl))
  ((first|exact ⟨d3,d4⟩|(simp [go_sem,↓IntWalk.iteOmega];done)|(simp [go_sem,↓IntWalk.iteOmega,d3,d4];done)))
  ((go_at_call 72;refine (purseNew2 _).mono ?_;rintro e w3 ⟨rfl,hx3,hl3,hb3⟩;have hz3:w.heap.size<w3.heap.size:=(by simp [go_sem] at hl3;omega);have d3:=(hx3.below.cell (p:=⟨w.heap.size,0,none⟩) (by simp [go_sem];omega)).trans (show _=some (Value.int .i64 wd) by simp [go_sem,↓IntWalk.iteOmega]);have d4:=(hx3.below.cell (p:=⟨w.heap.size,1,none⟩) (by simp [go_sem];omega)).trans (show _=some (Value.int .i64 hl) by simp [go_sem,↓IntWalk.iteOmega]);have HX3:=Lib.hid hx3;have HB3:=Lib.hid hb3;clear hx3 hb3))
 all_goals go_upto_region 8 with fail
 clear b1 b2 b3 b4 b5 b6 d3 d4
 have hsz:(ext (w.alloc (.cells #[.int .i64 wd,.int .i64 hl] 32)) l1 (d1+1)).heap.size=w.heap.size+1+l1.length:=by simp [go_sem]
 have hx0:Ex w w3:=Ex.trans (w':=ext (w.alloc (.cells #[.int .i64 wd,.int .i64 hl] 32)) l1 (d1+1)) (by repeat (first|exact Ex.refl _|refine Ex.alloc ?_ _|refine Ex.ext ?_ _ _|refine Ex.drew ?_|refine Ex.drewN ?_ _)) HX3.out
 have HX0:=Lib.hid hx0
 rw [hsz] at HB3 hl3
 clear hsz HX3 hx0
 have hpp:w.heap.size<w.heap.size+1+l1.length:=by omega
 generalize w.heap.size+1+l1.length=pp at *
 refine wp_world (R:=fun W=>NewR w w3.heap.size (w3.heap.size+1) pp ref stock wd hl 0 0 (fun _=>0) (.slice none 0 0) W) ⟨HX0.out.trans (by repeat (first|exact Ex.refl _|refine Ex.alloc ?_ _|refine Ex.ext ?_ _ _|refine Ex.drew ?_|refine Ex.drewN ?_ _)),(by repeat (first|exact Blk.new (by first|omega|(simp [go_sem];done)|(simp [go_sem];omega))|(with_reducible exact Blk.new rfl)|(with_reducible refine Blk.drew ?_)|(with_reducible refine Blk.drewN ?_ _)|(with_reducible refine Blk.ext ?_ _ _)|(with_reducible refine Blk.alloc ?_ _))),?_,?_,World.ownsRow_nil _ _ _ _,fun j hj=>by omega,fun i j _ hj=>by omega,?_,?_,?_⟩ ?_
 focus exact Blk.new (by simp)
 focus exact (HB3.out.alloc _).alloc _
 focus omega
 focus omega
 focus omega
 generalize w3.heap.size=fb at *
 rintro W hN
 have HN:=Lib.hid hN
 clear hN HX0 HB3
 go_wp2_with fail
 go_loopw [48] (fun i wr=>∃ (k:Nat) (bp:Nat→Nat) (v:Value),k≤3∧i=.int .i64 (k:Int)∧NewR w fb (fb+1) pp ref stock wd hl k k bp v wr) (fun i _=>3 - (intOf i).toNat)
 case atStart=>exact ⟨0,_,_,by omega,rfl,HN.out⟩
 case round =>
  obtain ⟨k,bp,v,hk,rfl,hR⟩:=hrel
  obtain ⟨av,cv,rfl,_,_⟩:=owns_slice hR.row
  by_cases hlt:k<3
  ·have ha:=hR.all.cell k
   rw [triS_cell hlt] at ha
   have hf:=hR.all.free k
   have hab:fb+1<wr.heap.size:=hR.all.lt
   have HR:=Lib.hid hR
   have k3:(k:Int)<3:=by omega
   clear hR
   go_upto_region 12 with fail
   refine wp_world (R:=fun W=>NewR w fb (fb+1) pp ref stock wd hl (k+1) k bp (.slice av k cv) W) (HR.out.set hlt ⟨by omega,by omega⟩) ?_
   clear ha hf HR
   rintro W hM
   have c0:=hM.fl.cell 0
   have f0:=hM.fl.free 0
   have hfl:=hM.fl.lt
   have hn1:fb≠W.heap.size:=by omega
   have hn2:fb≠W.heap.size+1:=by omega
   have HM:=Lib.hid hM
   simp only [List.getElem?_toArray,List.getElem?_cons_zero] at c0
   clear hM
   go_region_law (first
    | (go_simp;go_at_call 73;refine (bookNew2 _).mono ?_;rintro e w5 ⟨rfl,rfl⟩)
    | ((refine step_append_own ?_ (.tmp 58) (.tmp 63) 127 ?_ w.heap.size 126 i0 _ 3 24 Tryz.underlying127 hi0 hz0 hz1 hz2 rfl (by decide) (.slice av k cv) k (itemsC bp ref k) ?_ ?_ ⟨W.heap.size+1,0,none⟩ 1 1 [.pointer (some ⟨W.heap.size,0,none⟩),.int .i64 ref,.int .i64 0] ?_ rfl ?_ ?_ (by unfold maxLen;omega) (by omega) ?_ ?_);(focus rfl);(focus rfl);(focus rfl);(focus exact (HM.out.row.alloc _).alloc _);(focus (simp [go_sem];done));(focus (intro j u hj;rcases j with _|_|_|j<;>simp at hj<;>subst hj<;>simp [Addr.add,go_sem,↓IntWalk.iteOmega]));(focus simp [Value.oneCell']);(focus (have:=HM.out.ex.below.size;simp;omega));intro v' w' hown hgrow;obtain ⟨ao',cap',rfl,_,_⟩:=owns_slice hown;obtain ⟨q1,q2⟩:=HM.out.step (by repeat (first|exact Ex.refl _|refine Ex.alloc ?_ _|refine Ex.ext ?_ _ _|refine Ex.drew ?_|refine Ex.drewN ?_ _)) (by repeat (first|exact Blk.new (by first|omega|(simp [go_sem];done)|(simp [go_sem];omega))|(with_reducible exact Blk.new rfl)|(with_reducible refine Blk.drew ?_)|(with_reducible refine Blk.drewN ?_ _)|(with_reducible refine Blk.ext ?_ _ _)|(with_reducible refine Blk.alloc ?_ _))) hown hgrow;have c0':=q1.cell 0;have f0':=q1.free 0;have hfl':=q1.lt;have Q2:=Lib.hid q2;simp only [List.getElem?_toArray,List.getElem?_cons_zero] at c0';clear q1 q2 hown hgrow))
   all_goals go_wp2_with fail
   all_goals
    go_roundw
    case measure=>simp [intOf];omega
    case rel=>exact ⟨k+1,_,_,by omega,by go_num,Q2.out⟩
  ·obtain rfl:k=3:=by omega
   obtain ⟨A,o,rfl,rfl,rfl,rfl,hF,ho,hab⟩:=hR.floor own c HFR.out a1 a2 a3 a4 cash
   have hex:=hR.ex
   have hall:=hR.all
   have hX:FlX o c wr A ⟨fun _=>[],fun _=>ref,fun _=>0,newP cash stock 0⟩ E [2,8] [(A.f+1,#[.int .i64 stock,.int .i64 stock,.int .i64 stock],77)] NoT wr:=FlX.begin hF (HE.out.ex hex) (fun n ⟨e,he,hn⟩=>by
    have hlt:=lt_of_cell (HE.out e he)
    rw [hn,ho _ hlt]
    exact HFR.out _ hlt) (Has.mk hall (Has.nil _)) (fun t ht=>by simp only [List.mem_singleton] at ht;subst ht;exact hab) (fun n hn=>hn.elim)
   have HX:=Lib.hid hX
   have HEX:=Lib.hid hex
   have HO:=Lib.hid ho
   clear hR hF ho hab hex hall hX HN
   go_wp2_with fail
   obtain ⟨wo,hwo⟩:∃ wo:World,wo=wr:=⟨_,rfl⟩
   rw [← hwo] at HX HEX
   subst hwo
   go_loopw [68] (fun i W=>∃ (n:Nat),n≤6∧i=.int .i64 (n:Int)∧FlX o c wo A ⟨fun _=>[],fun _=>ref,fun _=>0,newP cash stock n⟩ E [2,8] [(A.f+1,#[.int .i64 stock,.int .i64 stock,.int .i64 stock],77)] NoT W) (fun i _=>6 - (intOf i).toNat)
   case atStart=>exact ⟨0,by omega,rfl,HX.out⟩
   case round =>
    obtain ⟨n,hn,rfl,hX1⟩:=hrel
    have HX1:=Lib.hid hX1
    obtain ⟨_,p1,_,_,_⟩:=hX1.cells
    have hb:=hX1.has.cons.1
    have t0:=hb.cell 0
    have t1:=hb.cell 1
    have t2:=hb.cell 2
    simp only [List.getElem?_toArray,List.getElem?_cons_zero,List.getElem?_cons_succ] at t0 t1 t2
    clear hX1 hb
    by_cases hlt2:n<6
    ·have n6:(n:Int)<6:=by omega
     have HG:=Lib.hid (fun o i W hb hE=>give_any (own:=o) (i:=i) (w:=W) (p:=A.pp) (P:=newP cash stock n) hb (n:Int) cash (fun _=>stock) E hE)
     obtain ⟨g1,g2⟩:=newP_give (cash:=cash) (stock:=stock) hlt2 c1 c2 s1 s2
     rw [g1,g2,errV_zero] at HG
     clear g1 g2
     go_upto_region 17 with fail
     go_region_held3 (fun W=>W.cell? ⟨A.f,1,none⟩=some (.pointer (some ⟨A.pp,0,none⟩))∧W.cell? ⟨A.f+1,0,none⟩=some (.int .i64 stock)∧W.cell? ⟨A.f+1,1,none⟩=some (.int .i64 stock)∧W.cell? ⟨A.f+1,2,none⟩=some (.int .i64 stock))
      ((first|exact ⟨p1,t0,t1,t2⟩|exact ⟨e1,e2,e3,e4⟩))
      ((go_at_call 74;((with_reducible refine ((HX1.out.later ?_).purse (fun o i hb=>HG.out o i _ hb ?_)).mono ?_));(focus exact (by with_reducible repeat (first|exact Ex.refl _|refine Ex.alloc ?_ _|refine Ex.ext ?_ _ _|refine Ex.drew ?_|refine Ex.drewN ?_ _)));(focus exact (HX1.out.later (by with_reducible repeat (first|exact Ex.refl _|refine Ex.alloc ?_ _|refine Ex.ext ?_ _ _|refine Ex.drew ?_|refine Ex.drewN ?_ _))).errs);rintro e w5 ⟨rfl,hX5⟩;obtain ⟨_,e1,_,_,_⟩:=hX5.cells;have hb:=hX5.has.cons.1;have e2:=hb.cell 0;have e3:=hb.cell 1;have e4:=hb.cell 2;have HX5:=Lib.hid hX5;clear hX5 hb))
     go_wp2_with fail
     all_goals
      go_roundw
      case measure=>simp [intOf];omega
      case rel=>(repeat apply Exists.intro);exact ⟨⟨n+1,by omega,by go_num,HX5.out.later (by repeat (first|exact Ex.refl _|refine Ex.alloc ?_ _|refine Ex.ext ?_ _ _|refine Ex.drew ?_|refine Ex.drewN ?_ _))⟩,rfl⟩
    ·obtain rfl:n=6:=by omega
     go_wp2_with fail
     all_goals go_ret2
     all_goals
      obtain ⟨k1,o2,k2,k3⟩:=HX1.out.out
      exact ⟨A,o2,rfl,k3,rfl,rfl,fun n hn=>by rw [k2 n (Nat.lt_of_lt_of_le hn HEX.out.below.size),HO.out n hn],Ex.of ⟨k1.os.trans HEX.out.below.os,k1.tape.trans HEX.out.below.tape,k1.output.trans HEX.out.below.output,Nat.le_trans HEX.out.below.size k1.size,fun n hn=>(k1.block n (Nat.lt_of_lt_of_le hn HEX.out.below.size) (by rw [HO.out n hn];exact HFR.out n hn)).trans (HEX.out.below.block n hn)⟩⟩
end
end Go.Proofs.YtabbgpjofkaomaaGreatDoor

/- What two clients have, compared. -/
namespace Go.Proofs.YtabbgpjofkaomaaGreatDoor
open Go.RowKit
end Go.Proofs.YtabbgpjofkaomaaGreatDoor

/- A floor in a law: New, Place, Run as steps of what is known; the closed fact 'floored'. -/
namespace Go.Proofs.YtabbgpjofkaomaaGreatDoor
open Go.RowKit
theorem FOk.new {ref cash stock:Int} (r1:1≤ref) (r2:ref≤1000) (c1:0≤cash) (c2:cash≤1073741824) (s1:0≤stock) (s2:stock≤100000):FOk (newSt ref cash stock):=by
 have hp:∀ c j,c<6→(newSt ref cash stock).p c j=if j=0 then cash else if 2≤j∧j<5 then stock else 0:=fun c j hc=>if_pos hc
 refine ⟨fun k _=>BOk.nil,fun c hc=>?_,fun c hc k hk=>?_,fun k _=>⟨⟨r1,r2⟩,Int.le_refl _,by show (0:Int)≤1000;decide⟩,?_,fun k hk=>?_⟩
 ·rw [hp c 1 hc];simp [newSt,heldB,sumZ]
 ·rw [hp c (5+k) hc,if_neg (by omega),if_neg (by omega)];simp [newSt,sumZ]
 ·unfold sumP
  rw [hp 0 0 (by omega),hp 1 0 (by omega),hp 2 0 (by omega),hp 3 0 (by omega),hp 4 0 (by omega),hp 5 0 (by omega)]
  simp only [if_true]
  omega
 ·unfold sumP
  rw [hp 0 _ (by omega),hp 1 _ (by omega),hp 2 _ (by omega),hp 3 _ (by omega),hp 4 _ (by omega),hp 5 _ (by omega),if_neg (by omega),if_pos (by omega)]
  omega
theorem FOk.fplace {st:FSt} (h:FOk st) (a:Ask):FOk (fplaceS st a):=by
 unfold fplaceS
 split
 ·rename_i hk
  obtain ⟨_,_,_,b4,_⟩:=Ask.bounds (asked_zero hk).1
  exact h.place (by omega) _
 ·exact h
section
variable {own:Nat→Nat} {c k:Nat} {w w0 W:World} {A:FlA} {st:FSt} {E:Nat→Addr} {cs:List Bl} {T:Nat→Prop}
end
end Go.Proofs.YtabbgpjofkaomaaGreatDoor

/- Strings as lists of bytes. No condition. -/
namespace Go.Proofs.YtabbgpjofkaomaaGreatDoor
open Go.RowKit
theorem extract_list (s:ByteArray) (i j:Nat):(s.extract i j).data.toList=(s.data.toList.drop i).take (j - i):=by
 simp [ByteArray.data_extract,List.extract_eq_take_drop]
theorem index_str (s:ByteArray) (i:Nat) (hi:i<s.size) (w:World):(Instr.index 9 (.string s) (.int .i64 (i:Int))).run Tryz.prog w=.ok (.int .u8 ((s[i]'hi).toNat:Int)) w:=by
 have hu:=Tryz.underlying9
 have h0:(0:Int)≤(i:Int):=by omega
 have h1:(i:Int)<(s.size:Int):=by omega
 go_simp
theorem bytes_size (l:List UInt8):(⟨l.toArray⟩:ByteArray).size=l.length:=by simp [ByteArray.size]
theorem bytes_head (l:List UInt8) (k:Nat):(⟨l.toArray⟩:ByteArray).extract 0 k=⟨(l.take k).toArray⟩:=by
 apply ByteArray.ext;apply Array.toList_inj.1;rw [extract_list];simp
theorem bytes_tail (l:List UInt8) (k n:Nat) (h:l.length≤n):(⟨l.toArray⟩:ByteArray).extract k n=⟨(l.drop k).toArray⟩:=by
 apply ByteArray.ext;apply Array.toList_inj.1;rw [extract_list]
 show (l.toArray.toList.drop k).take (n - k)=_
 rw [List.toList_toArray,List.take_of_length_le (by rw [List.length_drop];omega)]
theorem bytes_add (a b:List UInt8):(⟨a.toArray⟩:ByteArray)++⟨b.toArray⟩=⟨(a++b).toArray⟩:=by
 apply ByteArray.ext;simp [ByteArray.data_append]
theorem strOfNums_append (xs ys:List Int):strOfNums xs++strOfNums ys=strOfNums (xs++ys):=by
 apply ByteArray.ext
 simp [strOfNums,ByteArray.data_append]
theorem bytes_list (s:ByteArray):(⟨s.data.toList.toArray⟩:ByteArray)=s:=by cases s;simp
theorem bytes_cells (l:List UInt8):byteCells ⟨l.toArray⟩=l.map fun b=>Value.int .u8 b.toNat:=by simp [byteCells]
end Go.Proofs.YtabbgpjofkaomaaGreatDoor
