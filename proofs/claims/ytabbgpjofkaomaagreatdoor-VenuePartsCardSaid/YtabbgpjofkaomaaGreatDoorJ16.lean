import Derived.Test.YtabbgpjofkaomaaGreatDoorJ12
import Derived.Laws.Closers25b
import Derived.Laws.OwnMore
import Derived.Test.YtabbgpjofkaomaaGreatDoorLevels
import Derived.Test.YtabbgpjofkaomaaGreatDoorJ14
set_option linter.unusedSimpArgs false
set_option linter.unusedVariables false
/- What the streams of package ration, and of the document, compute. -/
namespace Go.Proofs.YtabbgpjofkaomaaGreatDoor
open Go.RowKit
def nx1 (x:Int):Int:=bits .xor .u32 x (x*8192 % 4294967296)
def nx2 (x:Int):Int:=bits .xor .u32 x (x / 131072)
def nx3 (x:Int):Int:=bits .xor .u32 x (x*32 % 4294967296)
def nxt (x:Int):Int:=nx3 (nx2 (nx1 x))
def seedOf (x:Int):Int:=if x=0 then 2463534242 else x
def U32 (x:Int):Prop:=0≤x∧x<4294967296
theorem bits_u32 (a b:Int):U32 (bits .xor .u32 a b):=by
 have h:=bits_within .xor .u32 a b
 simp [IntKind.min,IntKind.max,IntKind.bits,IntKind.signed] at h
 exact ⟨h.1,by omega⟩
theorem nxt_u32 (x:Int):U32 (nxt x):=bits_u32 _ _
theorem seedOf_u32 {x:Int} (h:U32 x):U32 (seedOf x):=by unfold seedOf U32 at *;split<;>omega
theorem nxt_eq (x:Int):nxt x=bits .xor .u32 (bits .xor .u32 (bits .xor .u32 x (x*8192 % 4294967296)) (bits .xor .u32 x (x*8192 % 4294967296) / 131072)) (bits .xor .u32 (bits .xor .u32 x (x*8192 % 4294967296)) (bits .xor .u32 x (x*8192 % 4294967296) / 131072)*32 % 4294967296):=rfl
theorem ret_u32 {a b:Int} (h:a=b):Ending.returned (.int .u32 a)=.returned (.int .u32 b):=by rw [h]
theorem begin_any (x:Int) (w:World):Calls Tryz.prog 223 #[.int .u32 x] w fun e w'=>e=.returned (.int .u32 (seedOf x))∧w=w':=by
 cases h:(x==0)
 ·have hs:seedOf x=x:=by unfold seedOf;rw [if_neg (by simpa using h)]
  have HS:=Lib.hid hs
  clear hs
  go_enter Tryz.func223,Tryz.ntmps223
  go_wp2
  all_goals go_ret
  exact ⟨ret_u32 HS.out.symm,rfl⟩
 ·have hs:seedOf x=2463534242:=by unfold seedOf;rw [if_pos (by simpa using h)]
  have HS:=Lib.hid hs
  clear hs
  go_enter Tryz.func223,Tryz.ntmps223
  go_wp2
  all_goals go_ret
  exact ⟨ret_u32 HS.out.symm,rfl⟩
set_option maxRecDepth 100000 in
theorem next_any (p:Nat) (x:Int) (w:World) (h:U32 x) (hc:w.cell? ⟨p,0,none⟩=some (.int .u32 x)) (hf:w.frozen? ⟨p,0,none⟩=false) :
  Calls Tryz.prog 224 #[.pointer (some ⟨p,0,none⟩)] w fun e w'=>e=.returned (.int .u32 (nxt x))∧w'=w.setCell ⟨p,0,none⟩ (.int .u32 (nxt x)):=by
 obtain ⟨h0,h1⟩:=h
 go_enter Tryz.func224,Tryz.ntmps224
 go_wp2
 all_goals go_ret
 exact ⟨ret_u32 (nxt_eq x).symm,by rw [nxt_eq x]⟩
def swp (L:List Int) (i k:Nat):List Int:=(L.set i (L.getD k 0)).set k (L.getD i 0)
def shufF:Nat→List Int→Int→List Int
 | 0,L,_=>L
 | i+1,L,x=>shufF i (swp L (i+1) ((nxt x % ((i:Int)+2)).toNat)) (nxt x)
def rangeI (n:Nat):List Int:=(List.range n).map (fun i:Nat=>(i:Int))
def shufL (n:Nat) (seed:Int):List Int:=shufF (n - 1) (rangeI n) (seedOf seed)
theorem swp_len (L:List Int) (i k:Nat):(swp L i k).length=L.length:=by simp [swp]
theorem rangeI_len (n:Nat):(rangeI n).length=n:=by simp [rangeI]
theorem rangeI_succ (n:Nat):rangeI (n+1)=rangeI n++[(n:Int)]:=by simp [rangeI,List.range_succ]
theorem shufF_len:∀ (i:Nat) (L:List Int) (x:Int),(shufF i L x).length=L.length
 | 0,_,_=>rfl
 | i+1,L,x=>by simp only [shufF];rw [shufF_len i,swp_len]
theorem shufL_len (n:Nat) (seed:Int):(shufL n seed).length=n:=by rw [shufL,shufF_len,rangeI_len]
end Go.Proofs.YtabbgpjofkaomaaGreatDoor

/- Plain facts: who gets how much. -/
namespace Go.Proofs.YtabbgpjofkaomaaGreatDoor
open Go.RowKit
structure Fil where
 id:Int
 qty:Int
def Fil.cells (f:Fil):List Value:=[.int .i64 f.id,.int .i64 f.qty]
def takeF:List Lot→Int→List Fil × Int
 | [],m=>([],m)
 | x::r,m=>if 0<min x.qty m then (⟨x.id,min x.qty m⟩::(takeF r (m - min x.qty m)).1,(takeF r (m - min x.qty m)).2) else takeF r m
theorem takeF_snoc (x:Lot):∀ (l:List Lot) (m:Int),takeF (l++[x]) m=if 0<min x.qty (takeF l m).2 then ((takeF l m).1++[⟨x.id,min x.qty (takeF l m).2⟩],(takeF l m).2 - min x.qty (takeF l m).2) else takeF l m
 | [],m=>by simp only [List.nil_append,takeF];rfl
 | y::l,m=>by
  simp only [List.cons_append,takeF,takeF_snoc x l]
  by_cases h:0<min y.qty m
  ·simp only [if_pos h]
   by_cases h2:0<min x.qty (takeF l (m - min y.qty m)).2
   ·simp only [if_pos h2,List.cons_append]
   ·simp only [if_neg h2]
  ·simp only [if_neg h]
theorem takeF_len:∀ (l:List Lot) (m:Int),(takeF l m).1.length≤l.length
 | [],_=>Nat.le_refl _
 | x::l,m=>by
  simp only [takeF]
  split
  ·have:=takeF_len l (m - min x.qty m);simp;omega
  ·have:=takeF_len l m;simp;omega
theorem takeF_left:∀ (l:List Lot) (m:Int),0≤m→0≤(takeF l m).2∧(takeF l m).2≤m
 | [],_,h=>⟨h,Int.le_refl _⟩
 | x::l,m,h=>by
  simp only [takeF]
  split
  ·have:=takeF_left l (m - min x.qty m) (by omega);simp only;omega
  ·exact takeF_left l m h
def totL (l:List Lot):Int:=sumOf (fun _=>true) l
def lot0:Lot:=⟨0,0,0,0,0⟩
def turnL (l:List Lot) (s:Int):List Lot:=(shufL l.length s).map fun k=>l.getD k.toNat lot0
def servL (l:List Lot) (m s:Int):List Lot:=if totL l > m then turnL l s else l
def sideF:List (List Lot)→Int→Int→List Fil
 | [],_,_=>[]
 | lv::r,m,s=>if (takeF (servL lv m s) m).2=0 then (takeF (servL lv m s) m).1 else (takeF (servL lv m s) m).1++sideF r (takeF (servL lv m s) m).2 s
theorem swp_mem {L:List Int} {i k:Nat} (hi:i<L.length) (hk:k<L.length) {x:Int} (h:x∈swp L i k):x∈L:=by
 unfold swp at h
 have gi:L.getD i 0∈L:=by rw [List.getD_eq_getElem?_getD,List.getElem?_eq_getElem hi];exact List.getElem_mem hi
 have gk:L.getD k 0∈L:=by rw [List.getD_eq_getElem?_getD,List.getElem?_eq_getElem hk];exact List.getElem_mem hk
 rcases List.mem_or_eq_of_mem_set h with h|h
 ·rcases List.mem_or_eq_of_mem_set h with h|h
  ·exact h
  ·rw [h];exact gk
 ·rw [h];exact gi
theorem shufF_mem:∀ (i:Nat) (L:List Int) (s:Int),i<L.length→∀ x∈shufF i L s,x∈L
 | 0,_,_,_,_,h=>h
 | i+1,L,s,hi,x,h=>by
  have e:=Int.emod_nonneg (nxt s) (show (i:Int)+2≠0 by omega)
  have e':=Int.emod_lt_of_pos (nxt s) (show 0<(i:Int)+2 by omega)
  simp only [shufF] at h
  exact swp_mem hi (by omega) (shufF_mem i _ _ (by rw [swp_len];omega) x h)
theorem shufL_range {n:Nat} {s:Int}:∀ x∈shufL n s,0≤x∧x<n:=fun x hx=>by
 by_cases h0:n=0
 ·have:=shufL_len n s
  rw [h0] at this
  rw [h0,List.eq_nil_of_length_eq_zero this] at hx
  cases hx
 ·have:=shufF_mem (n - 1) (rangeI n) (seedOf s) (by rw [rangeI_len];omega) x hx
  simp only [rangeI,List.mem_map,List.mem_range] at this
  obtain ⟨k,hk,rfl⟩:=this
  omega
theorem turnL_len (l:List Lot) (s:Int):(turnL l s).length=l.length:=by simp [turnL,shufL_len]
theorem servL_len (l:List Lot) (m s:Int):(servL l m s).length=l.length:=by unfold servL;split;exact turnL_len _ _;rfl
theorem turnL_mem {l:List Lot} {s:Int}:∀ x∈turnL l s,x∈l:=fun x hx=>by
 simp only [turnL,List.mem_map] at hx
 obtain ⟨k,hk,rfl⟩:=hx
 have:=shufL_range k hk
 rw [List.getD_eq_getElem?_getD,List.getElem?_eq_getElem (by omega)]
 exact List.getElem_mem _
theorem servL_mem {l:List Lot} {m s:Int}:∀ x∈servL l m s,x∈l:=fun x hx=>by
 unfold servL at hx
 split at hx
 ·exact turnL_mem x hx
 ·exact hx
theorem levelsL_mem {side price:Int} {l:List Lot}:∀ lv∈levelsL side price l,∃ p,lv=lotsAtP side price p l:=fun lv h=>by
 simp only [levelsL,List.mem_map] at h
 obtain ⟨p,_,rfl⟩:=h
 exact ⟨p,rfl⟩
theorem levelsL_len (side price:Int) (l:List Lot):(levelsL side price l).length≤l.length:=by
 have h:(levP side price l).length≤l.length:=Nat.le_trans (pricesL_len _) (List.length_filter_le _ _)
 simp only [levelsL,List.length_map]
 split
 ·simpa using h
 ·exact h
theorem sideF_drop {L:List (List Lot)} {i:Nat} (hi:i<L.length) (m s:Int):sideF (L.drop i) m s=if (takeF (servL L[i] m s) m).2=0 then (takeF (servL L[i] m s) m).1 else (takeF (servL L[i] m s) m).1++sideF (L.drop (i+1)) (takeF (servL L[i] m s) m).2 s:=by
 rw [List.drop_eq_getElem_cons hi];rfl
end Go.Proofs.YtabbgpjofkaomaaGreatDoor

/- What Shuffle of package ration computes. -/
namespace Go.Proofs.YtabbgpjofkaomaaGreatDoor
open Go.RowKit
def StrAt (w:World) (p:Nat) (x:Int):Prop:=w.heap[p]?=some (.cells #[.int .u32 x] 333 (0,0))
theorem StrAt.cell {w:World} {p:Nat} {x:Int} (h:StrAt w p x):w.cell? ⟨p,0,none⟩=some (.int .u32 x):=by simp [World.cell?,show w.heap[p]?=_ from h]
theorem StrAt.frozen {w:World} {p:Nat} {x:Int} (h:StrAt w p x):w.frozen? ⟨p,0,none⟩=false:=by simp [World.frozen?,show w.heap[p]?=_ from h]
theorem StrAt.lt {w:World} {p:Nat} {x:Int} (h:StrAt w p x):p<w.heap.size:=(Array.getElem?_eq_some_iff.1 h).1
theorem StrAt.kept {w w':World} {p:Nat} {x:Int} {row:Option Nat} (h:StrAt w p x) (hg:w.grownBy w' row) (hne:some p≠row):StrAt w' p x:=(hg.block p h.lt hne).trans h
theorem StrAt.set {w:World} {p:Nat} {x:Int} (h:StrAt w p x) (y:Int):StrAt (w.setCell ⟨p,0,none⟩ (.int .u32 y)) p y:=by
 have:=heap_setCell_same w p 0 _ _ (.int .u32 y) h
 simpa [StrAt] using this
theorem StrAt.other {w:World} {p:Nat} {x:Int} (h:StrAt w p x) {a:Addr} (ha:p≠a.block) (v:Value):StrAt (w.setCell a v) p x:=(heap_setCell_other w a p v (fun e=>ha (by simpa using e))).trans h
def ShInv (w:World) (N:Nat) (u:Value) (L:List Int) (x:Int) (wr:World):Prop:=wr.ownsRow (w.heap.size+1) 3 1 u N (L.map (Value.int .i64))∧StrAt wr w.heap.size x∧Below w.heap.size w wr
theorem ShInv.swap {w wr:World} {N g cap i kk:Nat} {L:List Int} {x y a b:Int} (hr:wr.ownsRow (w.heap.size+1) 3 1 (.slice (some ⟨g,0,none⟩) N cap) N (L.map (Value.int .i64))) (hs:StrAt wr w.heap.size x) (hb:Below w.heap.size w wr) (hg:w.heap.size+1≤g) :
  ShInv w N (.slice (some ⟨g,0,none⟩) N cap) ((L.set i a).set kk b) y (((wr.setCell ⟨w.heap.size,0,none⟩ (.int .u32 y)).setCell ⟨g,i,none⟩ (.int .i64 a)).setCell ⟨g,kk,none⟩ (.int .i64 b)).drew:=by
 have hne:w.heap.size≠g:=by omega
 have h0:(wr.setCell ⟨w.heap.size,0,none⟩ (.int .u32 y)).ownsRow (w.heap.size+1) 3 1 (.slice (some ⟨g,0,none⟩) N cap) N (L.map (Value.int .i64)) :=
  hr.kept (row:=some w.heap.size) ⟨rfl,rfl,rfl,by simp,fun k _ hk=>heap_setCell_other wr ⟨w.heap.size,0,none⟩ k _ (fun e=>hk (by simp [e]))⟩ (.inr (by simp [Value.ownBlock];omega))
 have h1:=(h0.stored i (.int .i64 a)).1
 have h2:=(h1.stored kk (.int .i64 b)).1
 refine ⟨?_,((hs.set y).other hne _).other hne _,?_⟩
 ·rw [← List.map_set,← List.map_set] at h2
  exact h2
 ·exact Below.drew (Below.setCell (Below.setCell (Below.setCell hb (Nat.le_refl _) _) (by show w.heap.size≤g;omega) _) (by show w.heap.size≤g;omega) _)
set_option maxRecDepth 100000 in
set_option maxHeartbeats 4000000 in
theorem shuffle_any (n:Int) (N:Nat) (seed:Int) (w:World) (hN:min (max n 0) 1000=(N:Int)) (hs:U32 seed) :
  Calls Tryz.prog 212 #[.int .i64 n,.int .u32 seed] w fun e w'=>(∃ ao' cap',e=.returned (.slice ao' N cap')∧N≤cap'∧IntsAt w' ao' (shufL N seed))∧Ex w w':=by
 have hN1:N≤1000:=by omega
 have HN:=Lib.hid hN
 have HU:=Lib.hid (seedOf_u32 hs)
 have hu0:=HU.out.1
 have hu1:=HU.out.2
 obtain ⟨i0,hi0,hi⟩:=Option.map_eq_some_iff.1 infoInt
 simp only [Prod.mk.injEq] at hi
 obtain ⟨hz0,hz1,hz2⟩:=hi
 have HB:=Lib.hid (begin_any seed)
 have HT:=Lib.hid (show shufF (N - 1) (rangeI N) (seedOf seed)=shufL N seed from rfl)
 clear hs
 generalize seedOf seed=x0 at *
 generalize shufL N seed=T at *
 go_enter Tryz.func212,Tryz.ntmps212
 go_wp2_with (go_at_call 223;refine (HB.out _).mono ?_;rintro e w1 ⟨rfl,rfl⟩)
 clear hN
 go_loopw [6,7,15] (fun v _ i wr=>∃ (k:Nat) (u:Value),u=v∧k≤N∧i=.int .i64 k∧ShInv w k u (rangeI k) x0 wr) (fun _ _ i _=>N - (intOf i).toNat)
 case atStart=>exact ⟨0,_,rfl,Nat.zero_le _,rfl,World.ownsRow_nil _ _ _ _,(show (w.alloc _).heap[w.heap.size]?=_ from alloc_at rfl),Ex.below (by repeat (first|exact Ex.refl _|refine Ex.alloc ?_ _|refine Ex.ext ?_ _ _|refine Ex.drew ?_|refine Ex.drewN ?_ _))⟩
 case round =>
  obtain ⟨k,v,rfl,hk,rfl,hrow,hstr,hbl⟩:=hrel
  have HR:=Lib.hid hrow
  have HS:=Lib.hid hstr
  have HL:=Lib.hid hbl
  have hwz:=hbl.size
  have hsz:=hstr.lt
  clear hrow hstr hbl
  by_cases hlt:k<N
  ·go_wp2_with (at_builtin;refine wpList_append_own _ rfl (.tmp 18) (.tmp 20) 53 rfl (w.heap.size+1) 3 i0 _ 1 8 Tryz.underlying53 hi0 hz0 hz1 hz2 rfl (by decide) v k ((rangeI k).map (Value.int .i64)) rfl ?_ _ 1 1 [.int .i64 k] rfl rfl ?_ ?_ (by unfold maxLen;omega) (by omega) ?_ ?_;(focus (refine HR.out.kept (Below.grownBy ?_) (Classical.em _);((refine Below.trans (Below.refl _ _) ?_;repeat (first|exact Below.refl _ _|(refine Below.drew ?_)|(refine Below.drewN ?_ _)|(refine Below.ext ?_ (by first|omega|(simp [go_sem];done)|(simp [go_sem];omega)) _ _)|(refine Below.alloc ?_ (by first|omega|(simp [go_sem];done)|(simp [go_sem];omega)) _)|(refine Below.setCell ?_ (by first|omega|(simp [go_sem];done)|(simp [go_sem];omega)) _))))));(focus exact World.news_of_block (alloc_at rfl));(focus simp [Value.oneCell']);(focus exact (by first|omega|(simp [go_sem];done)|(simp [go_sem];omega)));intro v1 w1 hown hgrow hnil)
   all_goals
    go_roundw
    case measure=>simp [intOf];omega
    case rel =>
     refine ⟨k+1,_,rfl,by omega,by go_num,?_,?_,?_⟩
     ·rw [rangeI_succ,List.map_append]
      exact hown
     ·refine StrAt.kept (w:=wr.alloc _) ?_ hgrow ?_
      ·exact HS.out.kept (World.grownBy_alloc wr _ none) (by simp)
      ·intro e
       have:=(HR.out.lt _ e.symm).1
       omega
     ·refine Below.grown (a:=_) ?_ hgrow ?_ (fun b hb=>by have:=(HR.out.lt b hb).1;omega)
      ·(refine Below.trans HL.out ?_;repeat (first|exact Below.refl _ _|(refine Below.drew ?_)|(refine Below.drewN ?_ _)|(refine Below.ext ?_ (by first|omega|(simp [go_sem];done)|(simp [go_sem];omega)) _ _)|(refine Below.alloc ?_ (by first|omega|(simp [go_sem];done)|(simp [go_sem];omega)) _)|(refine Below.setCell ?_ (by first|omega|(simp [go_sem];done)|(simp [go_sem];omega)) _)))
      ·exact (by first|omega|(simp [go_sem];done)|(simp [go_sem];omega))
  ·obtain rfl:k=N:=by omega
   have hform:∃ ao cap,v=.slice ao k cap∧k≤cap:=by
    by_cases hv:v=.slice none 0 0
    ·have h0:k=0:=by
      rcases HR.out.2 with ⟨_,h⟩|⟨g,cap,cur,e,_⟩
      ·exact h
      ·rw [hv] at e;cases e
     exact ⟨none,0,by rw [hv,h0],by omega⟩
    ·obtain ⟨g,cap2,e,_,_,hn,_⟩:=Lib.holds_of_ownsRow HR.out hv
     exact ⟨_,_,e,hn⟩
   obtain ⟨ao2,cap2,rfl,hcap⟩:=hform
   go_wp2_with fail
   go_loopw [8,9] (fun s _ wr=>∃ (j:Nat) (L:List Int) (x:Int),j≤k∧s=.int .i64 ((j:Int) - 1)∧L.length=k∧U32 x∧shufF (j - 1) L x=T∧ShInv w k (.slice ao2 k cap2) L x wr) (fun s _ _=>(intOf s+1).toNat)
   case atStart=>exact ⟨k,rangeI k,x0,Nat.le_refl _,rfl,rangeI_len k,HU.out,HT.out,HR.out,HS.out,HL.out⟩
   case round =>
    obtain ⟨j,L,x,hj,rfl,hL,hx,hT,hrow,hstr,hbl⟩:=hrel
    have HT2:=Lib.hid hT
    have HR2:=Lib.hid hrow
    have HS2:=Lib.hid hstr
    have HB2:=Lib.hid hbl
    have HX:=Lib.hid hx
    have HLL:=Lib.hid hL
    clear hT hbl hx
    by_cases hj2:j<2
    ·have hTL:L=T:=by
      rw [← HT2.out]
      match j,hj2 with
      | 0,_=>rfl
      | 1,_=>rfl
     subst hTL
     have hia:IntsAt wr ao2 L:=by
      by_cases hv:(Value.slice ao2 k cap2)=.slice none 0 0
      ·intro h0
       cases hv
       omega
      ·obtain ⟨g,cap3,e,_⟩:=Lib.holds_of_ownsRow hrow hv
       cases e
       exact ints_of_owned hrow
     have HIA:=Lib.hid hia
     have hj1:¬ ((j:Int) - 1 > 0):=by omega
     clear hrow hstr hia hL
     go_wp2_with fail
     go_ret
     exact ⟨⟨_,_,rfl,hcap,HIA.out.ex (by repeat (first|exact Ex.refl _|refine Ex.alloc ?_ _|refine Ex.ext ?_ _ _|refine Ex.drew ?_|refine Ex.drewN ?_ _))⟩,(Ex.of HB2.out).trans (by repeat (first|exact Ex.refl _|refine Ex.alloc ?_ _|refine Ex.ext ?_ _ _|refine Ex.drew ?_|refine Ex.drewN ?_ _))⟩
    ·obtain ⟨i,rfl⟩:∃ i,j=i+2:=⟨j - 2,by omega⟩
     rw [show ((i+2:Nat):Int) - 1=(i:Int)+1 by omega]
     obtain ⟨g,cap3,e,hbg,hlg,hn3,hm3,hlz,hH⟩:=Lib.holds_of_ownsRow hrow (by intro e;cases e;omega)
     cases e
     have c0:=hstr.cell
     have f0:=hstr.frozen
     have hgs:g≠w.heap.size:=by omega
     have HST:=Lib.hid (show shufF (i+1) L x=shufF i (swp L (i+1) ((nxt x % ((i:Int)+2)).toNat)) (nxt x) from rfl)
     have hy:=nxt_u32 x
     have HNX:=Lib.hid (next_any w.heap.size x wr HX.out c0 f0)
     generalize nxt x=y at *
     obtain ⟨hy0,hy1⟩:=hy
     obtain ⟨kk,hkk,hkl⟩:∃ kk:Nat,y % ((i:Int)+2)=(kk:Int)∧kk<i+2:=by
      have a:=Int.emod_nonneg y (show (i:Int)+2≠0 by omega)
      have b:=Int.emod_lt_of_pos y (show 0<(i:Int)+2 by omega)
      exact ⟨(y % ((i:Int)+2)).toNat,by omega,by omega⟩
     have hckk:=(hH kk (by simp [HLL.out];omega)).1
     have hcki:=(hH (i+1) (by simp [HLL.out];omega)).1
     have hfkk:=(hH kk (by simp [HLL.out];omega)).2
     have hfki:=(hH (i+1) (by simp [HLL.out];omega)).2
     rw [hkk,Int.toNat_natCast] at HST
     have j1:(kk:Int)<(k:Int):=by omega
     have j2:(i:Int)+1<(k:Int):=by omega
     have j3:(0:Int)≤(i:Int)+1:=by omega
     have j4:((i:Int)+1).toNat=i+1:=by omega
     have HW:Hid (wrap64 (y % ((i:Int)+1+1))=(kk:Int)):=Lib.hid (by rw [show (i:Int)+1+1=(i:Int)+2 by omega,hkk];unfold wrap64;omega)
     have hke:kk=i+1∨(kk≠i+1∧i+1≠kk):=by omega
     clear hkk
     simp only [Nat.zero_add] at hckk hcki hfkk hfki
     rw [show L.toArray[kk]! = L.getD kk 0 by simp [getElem!_def,List.getD];rfl] at hckk
     rw [show L.toArray[i+1]! = L.getD (i+1) 0 by simp [getElem!_def,List.getD];rfl] at hcki
     have HSW:=Lib.hid (show swp L (i+1) kk=(L.set (i+1) (L.getD kk 0)).set kk (L.getD (i+1) 0) from rfl)
     generalize L.getD kk 0=a at *
     generalize L.getD (i+1) 0=b at *
     have HRW:=Lib.hid hrow
     clear hrow hstr hH c0 f0 hL
     rcases hke with rfl|⟨hk1,hk2⟩
     ·go_wp2_with fail
      refine HNX.out.mono ?_
      rintro e w1 ⟨rfl,rfl⟩
      go_wp2_with fail
      rw [HW.out]
      go_region
      all_goals go_wp2
      have hab:a=b:=by have:=hckk.symm.trans hcki;simpa using this
      subst hab
      exact ⟨⟨i+1,swp L (i+1) (i+1),y,by omega,by simp,by rw [swp_len];exact HLL.out,⟨hy0,hy1⟩,by rw [← HT2.out];exact HST.out.symm,by rw [HSW.out];exact ShInv.swap HRW.out HS2.out HB2.out hbg⟩,by simp [intOf];omega⟩
     ·go_wp2_with fail
      refine HNX.out.mono ?_
      rintro e w1 ⟨rfl,rfl⟩
      go_wp2_with fail
      rw [HW.out]
      go_region
      all_goals go_wp2
      exact ⟨⟨i+1,swp L (i+1) kk,y,by omega,by simp,by rw [swp_len];exact HLL.out,⟨hy0,hy1⟩,by rw [← HT2.out];exact HST.out.symm,by rw [HSW.out];exact ShInv.swap HRW.out HS2.out HB2.out hbg⟩,by simp [intOf];omega⟩
end Go.Proofs.YtabbgpjofkaomaaGreatDoor

/- What total and side of package ration compute. -/
namespace Go.Proofs.YtabbgpjofkaomaaGreatDoor
open Go.RowKit
theorem sumT_bounds {l:List Lot} (h:∀ x∈l,x.ok=true):0≤totL l∧totL l≤1000*l.length:=sumOf_bounds _ l h
theorem totL_step {l:List Lot} {k:Nat} {x:Lot} (h:l[k]?=some x):totL (l.take (k+1))=totL (l.take k)+x.qty:=by
 have:=sumOf_step (fun _=>true) h
 simpa [totL] using this
set_option maxRecDepth 100000 in
set_option maxHeartbeats 1000000 in
theorem total_any (ao:Option Addr) (len cap:Nat) (l:List Lot) (w:World) (hl:LotsAt w ao len l) (hok:∀ x∈l,x.ok=true) (h120:len≤120) :
  Calls Tryz.prog 211 #[.slice ao len cap] w fun e w'=>e=.returned (.int .i64 (totL l))∧Ex w w':=by
 have HLA:=Lib.hid hl
 have HOK:=Lib.hid hok
 have HLEN:=Lib.hid hl.1
 clear hl hok
 go_enter Tryz.func211,Tryz.ntmps211
 go_wp2_with fail
 go_loopw [3,8] (fun n i wr=>∃ (k:Nat),k≤len∧i=.int .i64 k∧n=.int .i64 (totL (l.take k))∧Ex w wr) (fun _ i _=>len - (intOf i).toNat)
 case atStart=>exact ⟨0,Nat.zero_le _,rfl,(by simp [totL,sumOf]),(by repeat (first|exact Ex.refl _|refine Ex.alloc ?_ _|refine Ex.ext ?_ _ _|refine Ex.drew ?_|refine Ex.drewN ?_ _))⟩
 case round =>
  obtain ⟨k,hk,rfl,rfl,l2,d2,rfl⟩:=hrel
  by_cases hlt:k<len
  ·have hkl:k<l.length:=by rw [HLEN.out];omega
   obtain ⟨b,off,rfl,hbs,hz⟩:=HLA.out.2.2.2 (by omega)
   have hzk:=hz k hkl
   have ha0:l[k]?=some (l[k]'hkl):=List.getElem?_eq_getElem hkl
   clear hz
   generalize l[k]'hkl=a at hzk ha0
   have a0:=hzk 0 (by omega)
   have a1:=hzk 1 (by omega)
   have a2:=hzk 2 (by omega)
   have a3:=hzk 3 (by omega)
   have a4:=hzk 4 (by omega)
   simp only [Lot.cells,List.getElem?_cons_zero,List.getElem?_cons_succ,Nat.add_zero] at a0 a1 a2 a3 a4
   clear hzk
   have hstep:=totL_step ha0
   have hb:=sumT_bounds (l:=l.take k) (fun x hx=>HOK.out x (List.mem_of_mem_take hx))
   have hq:=(Lot.ok_iff.1 (HOK.out a (List.mem_of_getElem? ha0))).2.2.2.2
   have hle:(l.take k).length≤120:=by simp;omega
   have HS:=Lib.hid hstep
   clear hstep ha0
   generalize totL (l.take k)=n at *
   go_wp2_with fail
   all_goals
    go_roundw
    case measure=>simp [intOf];omega
    case rel=>exact ⟨k+1,by omega,by go_num,by rw [HS.out],(by repeat (first|exact Ex.refl _|refine Ex.alloc ?_ _|refine Ex.ext ?_ _ _|refine Ex.drew ?_|refine Ex.drewN ?_ _))⟩
  ·go_wp2
   go_ret
   exact ⟨ret_int (by rw [List.take_of_length_le (by have:=HLEN.out;omega)]),(by repeat (first|exact Ex.refl _|refine Ex.alloc ?_ _|refine Ex.ext ?_ _ _|refine Ex.drew ?_|refine Ex.drewN ?_ _))⟩
theorem infoFill:(Tryz.prog.info? 234).map (fun i=>(i.zero,i.size,i.bytes))=some (some (.agg #[.int .i64 0,.int .i64 0]),2,16):=by kernel_rfl
def SideCut (w1 wr:World) (sv:List Lot) (n:Nat) (v:Value) (wx:World):Prop:=∃ ao cap,v=.slice ao n cap∧LotsAt wx ao n sv∧LotsObj wx ao∧Below wr.heap.size wr wx
theorem LotsAt.grown {W w':World} {ao:Option Addr} {n:Nat} {l:List Lot} {row:Option Nat} (h:LotsAt W ao n l) (ho:LotsObj W ao) (hg:W.grownBy w' row) (hne:∀ a,ao=some a→some a.block≠row):LotsAt w' ao n l∧LotsObj w' ao:=by
 obtain ⟨h1,h2,h3,h4⟩:=h
 refine ⟨⟨h1,h2,h3,fun h0=>?_⟩,fun a e=>?_⟩
 ·obtain ⟨b,off,e,hb,hc⟩:=h4 h0
  have hbk:=hg.block b hb (hne _ e)
  exact ⟨b,off,e,Nat.lt_of_lt_of_le hb hg.size,fun k hk j hj=>(World.cell?_of_block (w:=W) (w':=w') hbk).trans (hc k hk j hj)⟩
 ·obtain ⟨cs,fr,hc⟩:=ho a e
  exact ⟨cs,fr,(hg.block _ (Array.getElem?_eq_some_iff.1 hc).1 (hne a e)).trans hc⟩
theorem lots_apart {W:World} {ao:Option Addr} {base:Nat} {e:TypeId} {size:Nat} {v:Value} {n:Nat} {xs:List Value} (ho:LotsObj W ao) (h:W.ownsRow base e size v n xs) (he:e≠131):∀ a,ao=some a→some a.block≠v.ownBlock:=fun a ea e0=>by
 obtain ⟨cs,fr,hc⟩:=ho a ea
 obtain ⟨cs',hc'⟩:=owns_obj h e0.symm
 rw [hc] at hc'
 simp at hc'
 exact he hc'.2.1.symm
theorem lots_owned {w:World} {base:Nat} {v:Value} {n:Nat} {l:List Lot} (hwf:∀ a∈l,a.wf) (hn:n≤9223372036854775807) (hl:l.length=n) (h:w.ownsRow base 131 5 v n (l.flatMap Lot.cells)) :
  ∃ ao cap,v=.slice ao n cap∧LotsAt w ao n l∧LotsObj w ao:=by
 obtain ⟨ao,cap,rfl,_,h2⟩:=lots_of_owned hwf hn hl h
 refine ⟨ao,cap,rfl,h2,fun a e=>?_⟩
 subst e
 obtain ⟨cs,hc⟩:=owns_obj h rfl
 exact ⟨cs,_,hc⟩
set_option maxRecDepth 100000 in
set_option maxHeartbeats 8000000 in
theorem side_any (ao:Option Addr) (len cap:Nat) (l:List Lot) (side price left seed:Int) (w:World) (hl:LotsAt w ao len l) (hok:LotsOk l) (hs:side=0∨side=1) (hu:U32 seed) (h0:0≤left) (h1:left≤1000000) :
  Calls Tryz.prog 188 #[.slice ao len cap,.int .i64 side,.int .i64 price,.int .i64 left,.int .u32 seed] w fun e w'=>(∃ v,e=.returned v∧w'.ownsRow w.heap.size 234 2 v (sideF (levelsL side price l) left seed).length ((sideF (levelsL side price l) left seed).flatMap Fil.cells))∧Ex w w':=by
 have HLV:=Lib.hid (levels_any ao len cap l side price w hl hok hs)
 have hmem:∀ lv∈levelsL side price l,(∀ x∈lv,x.ok=true)∧lv.length≤120:=fun lv h=>by
  obtain ⟨p,rfl⟩:=levelsL_mem lv h
  exact ⟨fun x hx=>hok.mem x (lotsAtP_mem hx).1,by have:=lotsAtP_len side price p l;have:=hok.1;omega⟩
 have HMEM:=Lib.hid hmem
 have hLn:(levelsL side price l).length≤120:=by have:=levelsL_len side price l;have:=hok.1;omega
 have hlm:=hl.2.1
 have HU:=Lib.hid hu
 obtain ⟨hu0,hu1⟩:=hu
 obtain ⟨iL,hL0,hi⟩:=Option.map_eq_some_iff.1 infoLot
 simp only [Prod.mk.injEq] at hi
 obtain ⟨hLz,hL1,hL2⟩:=hi
 obtain ⟨iF,hF0,hi⟩:=Option.map_eq_some_iff.1 infoFill
 simp only [Prod.mk.injEq] at hi
 obtain ⟨hFz,hF1,hF2⟩:=hi
 clear hl hok hmem
 generalize levelsL side price l=L at *
 go_enter Tryz.func188,Tryz.ntmps188
 go_wp2_with fail
 refine HLV.out.mono ?_
 rintro e w1 ⟨⟨ao1,cap1,rfl,hlev⟩,hx1⟩
 have HLEV:=Lib.hid hlev
 have HX1:=Lib.hid hx1
 clear hlev hx1
 go_wp2_with fail
 go_loopw [3,11,25] (fun m v i wr=>∃ (j:Nat) (u:Value) (lf:Int) (pre:List Fil),u=v∧j≤L.length∧i=.int .i64 j∧m=.int .i64 lf∧0≤lf∧lf≤left∧pre++sideF (L.drop j) lf seed=sideF L left seed∧pre.length≤120*j∧wr.ownsRow w1.heap.size 234 2 u pre.length (pre.flatMap Fil.cells)∧Below w1.heap.size w1 wr) (fun _ _ i _=>L.length - (intOf i).toNat)
 case atStart=>exact ⟨0,_,left,[],rfl,Nat.zero_le _,rfl,rfl,h0,Int.le_refl _,rfl,Nat.zero_le _,World.ownsRow_nil _ _ _ _,Below.refl _ _⟩
 case round =>
  obtain ⟨j,u,lf,pre,rfl,hj,rfl,rfl,hf0,hf1,hsd,hpl,hrow,hB⟩:=hrel
  have HSD:=Lib.hid hsd
  have HROW:=Lib.hid hrow
  have HB:=Lib.hid hB
  have hbz:=hB.size
  clear hsd hrow
  by_cases hlt:j<L.length
  ·obtain ⟨b1,o1,rfl,hb1,hc1⟩:=HLEV.out (by omega)
   obtain ⟨ao2,cap2,hcell,hcap2,hlots,hobj⟩:=hc1 j hlt
   have hcell':=(hB.cell (p:=⟨b1,o1+j,none⟩) hb1).trans hcell
   have HLO:=Lib.hid (hlots.ex (Ex.of hB))
   have HOB:=Lib.hid (hobj.ex (Ex.of hB))
   have hmj:=HMEM.out L[j] (List.getElem_mem hlt)
   have HDR:=Lib.hid (sideF_drop hlt lf seed)
   have hb1':b1<wr.heap.size:=by omega
   generalize L[j]=lv at *
   have HOKV:=Lib.hid hmj.1
   have hlv120:=hmj.2
   have hcl:=hcap2.1
   have hcl2:=hcap2.2.1
   have HTO:=Lib.hid (fun w hl=>total_any ao2 lv.length cap2 lv w hl HOKV.out hlv120)
   have htb:=sumT_bounds HOKV.out
   clear hc1 hcell hlots hobj hmj hB hcap2
   go_upto_if 32 with (go_at_call 211;refine (HTO.out _ (by exact HLO.out.ex (by repeat (first|exact Ex.refl _|refine Ex.alloc ?_ _|refine Ex.ext ?_ _ _|refine Ex.drew ?_|refine Ex.drewN ?_ _)))).mono ?_;rintro e w2 ⟨rfl,l2,d2,rfl⟩)
   go_cut [13] (fun v wx=>SideCut w1 wr (servL lv lf seed) lv.length v wx)
   case first =>
    by_cases ht:totL lv > lf
    ·have hsv:servL lv lf seed=turnL lv seed:=by unfold servL;rw [if_pos ht]
     have HSV:=Lib.hid hsv
     clear hsv
     go_wp2_with fail
     refine (shuffle_any (lv.length:Int) lv.length seed _ (by omega) HU.out).mono ?_
     rintro e w3 ⟨⟨ao4,cap4,rfl,hc4,hz4⟩,hx4⟩
     have HX4:Hid (Ex wr w3):=Lib.hid (Ex.trans (by repeat (first|exact Ex.refl _|refine Ex.alloc ?_ _|refine Ex.ext ?_ _ _|refine Ex.drew ?_|refine Ex.drewN ?_ _)) hx4)
     have HZ4:=Lib.hid hz4
     have HL4:=Lib.hid (HLO.out.ex HX4.out)
     have hsl:=shufL_len lv.length seed
     have HRG:=Lib.hid (fun x (hx:x∈shufL lv.length seed)=>shufL_range x hx)
     have HTU:=Lib.hid (show turnL lv seed=(shufL lv.length seed).map (fun k=>lv.getD k.toNat lot0) from rfl)
     clear hx4 hz4
     generalize shufL lv.length seed=Z at *
     go_wp2_with fail
     go_loopw [14,38] (fun v i wr=>∃ (q:Nat) (u3:Value),u3=v∧q≤lv.length∧i=.int .i64 q∧wr.ownsRow w3.heap.size 131 5 u3 q (((turnL lv seed).take q).flatMap Lot.cells)∧Below w3.heap.size w3 wr) (fun _ i _=>lv.length - (intOf i).toNat)
     case atStart=>exact ⟨0,_,rfl,Nat.zero_le _,rfl,World.ownsRow_nil _ _ _ _,Below.refl _ _⟩
     case round =>
      obtain ⟨q,u3,rfl,hq,rfl,hr3,hb3⟩:=hrel
      have HR3:=Lib.hid hr3
      have HB3:=Lib.hid hb3
      have hz3:=hb3.size
      by_cases hql:q<lv.length
      ·have hqz:q<Z.length:=by omega
       obtain ⟨bz,oz,rfl,hbz2,hcz⟩:=HZ4.out (by omega)
       have hzc:=(hb3.cell (p:=⟨bz,oz+q,none⟩) hbz2).trans (hcz q hqz)
       have hrg:=HRG.out _ (List.getElem_mem hqz)
       have htk:(turnL lv seed).take (q+1)=(turnL lv seed).take q++[lv.getD (Z[q]).toNat lot0]:=by
        rw [List.take_add_one,HTU.out,List.getElem?_map,List.getElem?_eq_getElem hqz];rfl
       generalize Z[q]=z at *
       obtain ⟨kk,rfl⟩:=Int.eq_ofNat_of_zero_le hrg.1
       have hkk:kk<lv.length:=by omega
       rw [Int.toNat_natCast,List.getD_eq_getElem?_getD,List.getElem?_eq_getElem hkk,Option.getD_some] at htk
       obtain ⟨bl,ol,rfl,hbl,hcl4⟩:=HL4.out.2.2.2 (by omega)
       have hcx:∀ i,i<5→wr.cell? ⟨bl,ol+kk*5+i,none⟩=(lv[kk]'hkk).cells[i]?:=fun i hi=>(hb3.cell (p:=⟨bl,ol+kk*5+i,none⟩) hbl).trans (hcl4 kk hkk i hi)
       generalize lv[kk]'hkk=x at *
       have HTK:=Lib.hid htk
       have x0:=hcx 0 (by omega)
       have x1:=hcx 1 (by omega)
       have x2:=hcx 2 (by omega)
       have x3:=hcx 3 (by omega)
       have x4:=hcx 4 (by omega)
       simp only [Lot.cells,List.getElem?_cons_zero,List.getElem?_cons_succ,Nat.add_zero] at x0 x1 x2 x3 x4
       clear hr3 hb3 hcz hcl4 hcx htk
       go_wp2_with (at_builtin;refine wpList_append_own _ rfl (.tmp 42) (.tmp 47) 65 rfl w3.heap.size 131 iL _ 5 40 Tryz.underlying65 hL0 hLz hL1 hL2 rfl (by decide) u3 q (((turnL lv seed).take q).flatMap Lot.cells) rfl ?_ _ 1 1 [.int .i64 x.id,.int .i64 x.owner,.int .i64 x.side,.int .i64 x.price,.int .i64 x.qty] rfl rfl ?_ ?_ (by unfold maxLen;omega) (by omega) ?_ ?_;(focus (refine HR3.out.kept (Below.grownBy ?_) (Classical.em _);((refine Below.trans (Below.refl _ _) ?_;repeat (first|exact Below.refl _ _|(refine Below.drew ?_)|(refine Below.drewN ?_ _)|(refine Below.ext ?_ (by first|omega|(simp [go_sem];done)|(simp [go_sem];omega)) _ _)|(refine Below.alloc ?_ (by first|omega|(simp [go_sem];done)|(simp [go_sem];omega)) _)|(refine Below.setCell ?_ (by first|omega|(simp [go_sem];done)|(simp [go_sem];omega)) _))))));(focus exact World.news_of_block (alloc_at rfl));(focus simp [Value.oneCell']);(focus exact (by first|omega|(simp [go_sem];done)|(simp [go_sem];omega)));intro v5 w5 hown5 hgr5 _)
       all_goals
        go_roundw
        case measure=>simp [intOf];omega
        case rel =>
         refine ⟨q+1,_,rfl,by omega,by go_num,?_,?_⟩
         ·rw [HTK.out,List.flatMap_append]
          simpa [Lot.cells] using hown5
         ·refine Below.grown (a:=_) ?_ hgr5 ?_ (fun b hb=>(HR3.out.lt b hb).1)
          ·(refine Below.trans HB3.out ?_;repeat (first|exact Below.refl _ _|(refine Below.drew ?_)|(refine Below.drewN ?_ _)|(refine Below.ext ?_ (by first|omega|(simp [go_sem];done)|(simp [go_sem];omega)) _ _)|(refine Below.alloc ?_ (by first|omega|(simp [go_sem];done)|(simp [go_sem];omega)) _)|(refine Below.setCell ?_ (by first|omega|(simp [go_sem];done)|(simp [go_sem];omega)) _)))
          ·exact (by first|omega|(simp [go_sem];done)|(simp [go_sem];omega))
      ·obtain rfl:q=lv.length:=by omega
       rw [List.take_of_length_le (by rw [turnL_len];exact Nat.le_refl _)] at hr3
       obtain ⟨ao5,cap5,rfl,hl5,ho5⟩:=lots_owned (fun a ha=>lot_wf (HOKV.out a (turnL_mem a ha))) (by omega) (turnL_len lv seed) hr3
       have HL5:=Lib.hid hl5
       have HO5:=Lib.hid ho5
       clear hr3 hb3 hl5 ho5
       go_wp2_with fail
       go_meet
       case rel=>exact ⟨ao5,cap5,rfl,by rw [HSV.out];exact HL5.out,HO5.out,HX4.out.below.trans (HB3.out.mono HX4.out.below.size)⟩
    ·have hsv:servL lv lf seed=lv:=by unfold servL;rw [if_neg ht]
     have HSV:=Lib.hid hsv
     clear hsv
     go_wp2_with fail
     go_meet
     case rel=>exact ⟨ao2,cap2,rfl,by rw [HSV.out];exact HLO.out.ex (by repeat (first|exact Ex.refl _|refine Ex.alloc ?_ _|refine Ex.ext ?_ _ _|refine Ex.drew ?_|refine Ex.drewN ?_ _)),HOB.out.ex (by repeat (first|exact Ex.refl _|refine Ex.alloc ?_ _|refine Ex.ext ?_ _ _|refine Ex.drew ?_|refine Ex.drewN ?_ _)),Ex.below (by repeat (first|exact Ex.refl _|refine Ex.alloc ?_ _|refine Ex.ext ?_ _ _|refine Ex.drew ?_|refine Ex.drewN ?_ _))⟩
   case rest =>
    obtain ⟨ao3,cap3,rfl,hl3,ho3,hb3⟩:=hcut
    have hrow:=HROW.out.kept (Below.grownBy hb3) (Classical.em _)
    have hBc:=HB.out.trans (hb3.mono hbz)
    have hcz:=hBc.size
    have HSVO:=Lib.hid (fun x (hx:x∈servL lv lf seed)=>HOKV.out x (servL_mem x hx))
    have hsvl:=servL_len lv lf seed
    clear HTO htb HLO HOB hb3
    generalize servL lv lf seed=sv at *
    generalize lv.length=n at *
    go_wp2_with fail
    go_loopw [3,11,53] (fun m v i wr=>∃ (q:Nat) (u4:Value),u4=v∧q≤n∧i=.int .i64 q∧m=.int .i64 (takeF (sv.take q) lf).2∧LotsAt wr ao3 n sv∧LotsObj wr ao3∧wr.ownsRow w1.heap.size 234 2 u4 (pre.length+(takeF (sv.take q) lf).1.length) ((pre++(takeF (sv.take q) lf).1).flatMap Fil.cells)∧Below w1.heap.size w1 wr) (fun _ _ i _=>n - (intOf i).toNat)
    case atStart=>exact ⟨0,_,rfl,Nat.zero_le _,rfl,rfl,hl3,ho3,by simpa [takeF] using hrow,hBc⟩
    case round =>
     obtain ⟨q,u4,rfl,hq,rfl,rfl,hl4,ho4,hr4,hb4⟩:=hrel
     have HL4:=Lib.hid hl4
     have HO4:=Lib.hid ho4
     have HR4:=Lib.hid hr4
     have HB4:=Lib.hid hb4
     have hb4z:=hb4.size
     have htl:=takeF_left (sv.take q) lf hf0
     have htn:=takeF_len (sv.take q) lf
     have htn2:(takeF (sv.take q) lf).1.length≤120:=by simp at htn;omega
     by_cases hqn:q<n
     ·have hqs:q<sv.length:=by omega
      obtain ⟨bl,ol,rfl,hbl,hcl4⟩:=hl4.2.2.2 (by omega)
      have hcx:=hcl4 q hqs
      have hxo:=Lot.ok_iff.1 (HSVO.out _ (List.getElem_mem hqs))
      have htk:sv.take (q+1)=sv.take q++[sv[q]]:=by rw [List.take_add_one,List.getElem?_eq_getElem hqs];rfl
      have hsn:=takeF_snoc sv[q] (sv.take q) lf
      rw [← htk] at hsn
      generalize sv[q]=x at *
      have x0:=hcx 0 (by omega)
      have x1:=hcx 1 (by omega)
      have x2:=hcx 2 (by omega)
      have x3:=hcx 3 (by omega)
      have x4:=hcx 4 (by omega)
      simp only [Lot.cells,List.getElem?_cons_zero,List.getElem?_cons_succ,Nat.add_zero] at x0 x1 x2 x3 x4
      have HSN:=Lib.hid hsn
      clear hsn htk hcl4 hcx hl4 ho4 hr4 hb4
      generalize takeF (sv.take q) lf=T at *
      generalize hmn:min x.qty T.2=mn at *
      have hmn1:mn≤T.2:=by omega
      by_cases hpos:0<mn
      ·have HS2:Hid (takeF (sv.take (q+1)) lf=(T.1++[⟨x.id,mn⟩],T.2 - mn)):=Lib.hid (by rw [HSN.out,if_pos hpos])
       go_wp2_with (at_builtin;refine wpList_append_own _ rfl (.tmp 63) (.tmp 68) 228 rfl w1.heap.size 234 iF _ 2 16 Tryz.underlying228 hF0 hFz hF1 hF2 rfl (by decide) u4 (pre.length+T.1.length) ((pre++T.1).flatMap Fil.cells) rfl ?_ _ 1 1 [.int .i64 x.id,.int .i64 mn] rfl rfl ?_ ?_ (by unfold maxLen;omega) (by omega) ?_ ?_;(focus (refine HR4.out.kept (Below.grownBy ?_) (Classical.em _);((refine Below.trans (Below.refl _ _) ?_;repeat (first|exact Below.refl _ _|(refine Below.drew ?_)|(refine Below.drewN ?_ _)|(refine Below.ext ?_ (by first|omega|(simp [go_sem];done)|(simp [go_sem];omega)) _ _)|(refine Below.alloc ?_ (by first|omega|(simp [go_sem];done)|(simp [go_sem];omega)) _)|(refine Below.setCell ?_ (by first|omega|(simp [go_sem];done)|(simp [go_sem];omega)) _))))));(focus exact World.news_of_block (alloc_at (by first|rfl|(simp;done))));(focus simp [Value.oneCell']);(focus exact (by first|omega|(simp [go_sem];done)|(simp [go_sem];omega)));intro v5 w5 hown5 hgr5 _)
       all_goals
        go_roundw
        case measure=>simp [intOf];omega
        case rel =>
         have hlo:=LotsAt.grown (W:=(wr.alloc _).alloc _) (HL4.out.ex (by repeat (first|exact Ex.refl _|refine Ex.alloc ?_ _|refine Ex.ext ?_ _ _|refine Ex.drew ?_|refine Ex.drewN ?_ _))) (HO4.out.ex (by repeat (first|exact Ex.refl _|refine Ex.alloc ?_ _|refine Ex.ext ?_ _ _|refine Ex.drew ?_|refine Ex.drewN ?_ _))) hgr5 (lots_apart HO4.out HR4.out (by decide))
         refine ⟨q+1,_,rfl,by omega,by go_num,by rw [HS2.out],hlo.1,hlo.2,?_,?_⟩
         ·rw [HS2.out]
          simpa [Fil.cells,Nat.add_assoc] using hown5
         ·refine Below.grown (a:=_) ?_ hgr5 ?_ (fun b hb=>(HR4.out.lt b hb).1)
          ·(refine Below.trans HB4.out ?_;repeat (first|exact Below.refl _ _|(refine Below.drew ?_)|(refine Below.drewN ?_ _)|(refine Below.ext ?_ (by first|omega|(simp [go_sem];done)|(simp [go_sem];omega)) _ _)|(refine Below.alloc ?_ (by first|omega|(simp [go_sem];done)|(simp [go_sem];omega)) _)|(refine Below.setCell ?_ (by first|omega|(simp [go_sem];done)|(simp [go_sem];omega)) _)))
          ·exact (by first|omega|(simp [go_sem];done)|(simp [go_sem];omega))
      ·have HS2:Hid (takeF (sv.take (q+1)) lf=T):=Lib.hid (by rw [HSN.out,if_neg hpos])
       go_wp2_with fail
       all_goals
        go_roundw
        case measure=>simp [intOf];omega
        case rel =>
         refine ⟨q+1,_,rfl,by omega,by go_num,by rw [HS2.out],HL4.out.ex (by repeat (first|exact Ex.refl _|refine Ex.alloc ?_ _|refine Ex.ext ?_ _ _|refine Ex.drew ?_|refine Ex.drewN ?_ _)),HO4.out.ex (by repeat (first|exact Ex.refl _|refine Ex.alloc ?_ _|refine Ex.ext ?_ _ _|refine Ex.drew ?_|refine Ex.drewN ?_ _)),?_,?_⟩
         ·rw [HS2.out]
          refine HR4.out.kept (Below.grownBy ?_) (Classical.em _)
          (refine Below.trans (Below.refl _ _) ?_;repeat (first|exact Below.refl _ _|(refine Below.drew ?_)|(refine Below.drewN ?_ _)|(refine Below.ext ?_ (by first|omega|(simp [go_sem];done)|(simp [go_sem];omega)) _ _)|(refine Below.alloc ?_ (by first|omega|(simp [go_sem];done)|(simp [go_sem];omega)) _)|(refine Below.setCell ?_ (by first|omega|(simp [go_sem];done)|(simp [go_sem];omega)) _)))
         ·(refine Below.trans HB4.out ?_;repeat (first|exact Below.refl _ _|(refine Below.drew ?_)|(refine Below.drewN ?_ _)|(refine Below.ext ?_ (by first|omega|(simp [go_sem];done)|(simp [go_sem];omega)) _ _)|(refine Below.alloc ?_ (by first|omega|(simp [go_sem];done)|(simp [go_sem];omega)) _)|(refine Below.setCell ?_ (by first|omega|(simp [go_sem];done)|(simp [go_sem];omega)) _)))
     ·obtain rfl:q=n:=by omega
      rw [List.take_of_length_le (by omega)] at HR4 htl htn2
      rw [List.take_of_length_le (by omega)]
      have HDR2:=HDR
      clear hl4 ho4 hr4 hb4 htn
      generalize takeF sv lf=T at *
      cases ht:(T.2==0)
      ·have ht0:T.2≠0:=by simpa using ht
       have hnext:(pre++T.1)++sideF (L.drop (j+1)) T.2 seed=sideF L left seed:=by
        rw [← HSD.out,HDR2.out,if_neg ht0,List.append_assoc]
       have HNX:=Lib.hid hnext
       clear hnext
       go_wp2_with fail
       all_goals
        go_roundw
        case measure=>simp [intOf];omega
        case rel=>exact ⟨j+1,_,T.2,pre++T.1,rfl,by omega,by go_num,rfl,htl.1,by omega,HNX.out,by simp;omega,by rw [List.length_append];exact HR4.out,HB4.out⟩
      ·have ht0:T.2=0:=by simpa using ht
       have hnext:pre++T.1=sideF L left seed:=by
        rw [← HSD.out,HDR2.out,if_pos ht0]
       have HNX:=Lib.hid hnext
       have hx1z:=HX1.out.below.size
       clear hnext
       go_wp2_with fail
       go_ret
       exact ⟨⟨_,rfl,by rw [← HNX.out,List.length_append];exact owns_mono HR4.out hx1z⟩,HX1.out.trans (Ex.of HB4.out)⟩
  ·obtain rfl:j=L.length:=by omega
   have hnext:pre=sideF L left seed:=by
    rw [← HSD.out,List.drop_length];simp [sideF]
   have HNX:=Lib.hid hnext
   have hx1z:=HX1.out.below.size
   clear hnext
   go_wp2_with fail
   go_ret
   exact ⟨⟨_,rfl,by rw [← HNX.out];exact owns_mono HROW.out hx1z⟩,HX1.out.trans (Ex.of HB.out)⟩
end Go.Proofs.YtabbgpjofkaomaaGreatDoor

/- What Fills of package ration, and the document's SameFills, compute. -/
namespace Go.Proofs.YtabbgpjofkaomaaGreatDoor
open Go.RowKit
def fillsL (l:List Lot) (price volume seed:Int):List Fil:=sideF (levelsL 0 price l) volume seed++sideF (levelsL 1 price l) volume ((seed+1) % 4294967296)
theorem sideF_len:∀ (L:List (List Lot)) (m s:Int),(sideF L m s).length≤(L.map List.length).sum
 | [],_,_=>Nat.le_refl _
 | lv::L,m,s=>by
  have h1:=takeF_len (servL lv m s) m
  rw [servL_len] at h1
  have h2:=sideF_len L (takeF (servL lv m s) m).2 s
  simp only [sideF,List.map_cons,List.sum_cons]
  split
  ·omega
  ·rw [List.length_append];omega
theorem levels_small {side price:Int} {l:List Lot} (h:LotsOk l):((levelsL side price l).map List.length).sum≤14400:=by
 have h1:=levelsL_len side price l
 have h2:∀ L:List (List Lot),(∀ lv∈L,lv.length≤120)→(L.map List.length).sum≤120*L.length:=by
  intro L
  induction L with
  | nil=>intro _;simp
  | cons x L ih =>
   intro hm
   have:=ih (fun y hy=>hm y (by simp [hy]))
   have:=hm x (by simp)
   simp only [List.map_cons,List.sum_cons,List.length_cons]
   omega
 have h3:=h2 (levelsL side price l) fun lv hlv=>by
  obtain ⟨p,rfl⟩:=levelsL_mem lv hlv
  have:=lotsAtP_len side price p l
  have:=h.1
  omega
 have:=h.1
 omega
theorem fil_len (l:List Fil):(l.flatMap Fil.cells).length=l.length*2:=by
 induction l with
 | nil=>rfl
 | cons x l ih=>rw [List.flatMap_cons,List.length_append,ih,List.length_cons];simp only [Fil.cells,List.length_cons,List.length_nil];omega
theorem fil_at:∀ (l:List Fil) (k i:Nat) (hk:k<l.length),i<2→(l.flatMap Fil.cells)[k*2+i]?=l[k].cells[i]?
 | x::l,0,i,_,hi=>by
  rw [List.flatMap_cons,List.getElem?_append_left (by simp only [Fil.cells,List.length_cons,List.length_nil];omega)]
  simp
 | x::l,k+1,i,hk,hi=>by
  have e:x.cells.length=2:=rfl
  rw [List.flatMap_cons,List.getElem?_append_right (by rw [e];omega),e,show (k+1)*2+i - 2=k*2+i by omega]
  simpa using fil_at l k i (by simpa using hk) hi
theorem fil_one (l:List Fil):∀ u∈l.flatMap Fil.cells,u.oneCell'=true:=by
 intro u hu
 obtain ⟨x,_,hx⟩:=List.mem_flatMap.1 hu
 simp only [Fil.cells,List.mem_cons,List.not_mem_nil,or_false] at hx
 rcases hx with rfl|rfl<;>rfl
def FillAt (w:World) (ao:Option Addr) (l:List Fil):Prop:=0<l.length→∃ b off,ao=some ⟨b,off,none⟩∧b<w.heap.size∧∀ k (hk:k<l.length) j,j<2→w.cell? ⟨b,off+k*2+j,none⟩=l[k].cells[j]?
theorem FillAt.ex {w w':World} {ao:Option Addr} {l:List Fil} (h:FillAt w ao l) (hx:Ex w w'):FillAt w' ao l:=fun h0=>by
 obtain ⟨b,off,e,hb,hc⟩:=h h0
 exact ⟨b,off,e,Nat.lt_of_lt_of_le hb hx.below.size,fun k hk j hj=>(hx.below.cell (p:=⟨b,off+k*2+j,none⟩) hb).trans (hc k hk j hj)⟩
theorem fills_of_owned {w:World} {base:Nat} {e:TypeId} {v:Value} {n:Nat} {l:List Fil} (hl:l.length=n) (h:w.ownsRow base e 2 v n (l.flatMap Fil.cells)):∃ ao cap,v=.slice ao n cap∧n≤cap∧FillAt w ao l:=by
 obtain ⟨h1,⟨rfl,rfl⟩|⟨g,cap,cur,rfl,hb,hg,hc,hm,hs,ht⟩⟩:=h
 ·exact ⟨none,0,rfl,Nat.le_refl _,fun h=>by omega⟩
 ·refine ⟨_,cap,rfl,hc,fun h0=>⟨g,0,rfl,(Array.getElem?_eq_some_iff.1 hg).1,fun k hk j hj=>?_⟩⟩
  rw [← fil_at l k j hk hj,← ht,List.getElem?_take_of_lt (by omega),Nat.zero_add]
  simp [World.cell?,hg]
set_option maxRecDepth 100000 in
set_option maxHeartbeats 4000000 in
theorem fills_new (ao:Option Addr) (len cap:Nat) (l:List Lot) (price volume seed:Int) (E:Nat→Addr) (w:World) (hcap:len≤cap) (hE:Errs E [2,3,7,8] w) (hl:LotsAt w ao len l) (hok:LotsOk l) (p1:1≤price) (p2:price≤1000) (v0:0≤volume) (hv:volume≤min (dem l price) (sup l price)) (hs:U32 seed) :
  Calls Tryz.prog 154 #[.slice ao len cap,.int .i64 price,.int .i64 volume,.int .u32 seed] w fun e w'=>(∃ ao' cap',e=.returned (.tuple #[.slice ao' (fillsL l price volume seed).length cap',.nilIface])∧(fillsL l price volume seed).length≤cap'∧FillAt w' ao' (fillsL l price volume seed)∧∀ b off,ao'=some ⟨b,off,none⟩→w.heap.size≤b)∧Ex w w':=by
 have HC:=Lib.hid (check_any ao len cap l E w hcap (Errs.sub hE (by decide)) hl)
 have HOK:=Lib.hid hok
 have V0:=fun w hE hl=>volume_any ao len cap l price E w hcap hE hl
 rw [curveSum_ok hok,curveSum_ok hok] at V0
 have hbd:=sumOf_bounds (isDem price) l hok.mem
 have h120:=hok.1
 change volume≤min (sumOf (isDem price) l) (sumOf (isSup price) l) at hv
 generalize hvm:min (sumOf (isDem price) l) (sumOf (isSup price) l)=vm at *
 have hv6:volume≤1000000:=by omega
 have HV0:=Lib.hid V0
 have HE:=Lib.hid (Errs.sub hE (l':=[2,7,8]) (by decide))
 have HL:=Lib.hid hl
 have HU:=Lib.hid hs
 obtain ⟨hs0,hs1⟩:=hs
 have HU2:Hid (U32 ((seed+1) % 4294967296)):=Lib.hid (by unfold U32;omega)
 obtain ⟨iF,hF0,hi⟩:=Option.map_eq_some_iff.1 infoFill
 simp only [Prod.mk.injEq] at hi
 obtain ⟨hFz,hF1,hF2⟩:=hi
 have HFL:=Lib.hid (show sideF (levelsL 0 price l) volume seed++sideF (levelsL 1 price l) volume ((seed+1) % 4294967296)=fillsL l price volume seed from rfl)
 have n1:=sideF_len (levelsL 0 price l) volume seed
 have n2:=sideF_len (levelsL 1 price l) volume ((seed+1) % 4294967296)
 have m1:=levels_small (side:=0) (price:=price) hok
 have m2:=levels_small (side:=1) (price:=price) hok
 have S1:=fun w hl=>side_any ao len cap l 0 price volume seed w hl HOK.out (.inl rfl) HU.out v0 hv6
 have S2:=fun w hl=>side_any ao len cap l 1 price volume ((seed+1) % 4294967296) w hl HOK.out (.inr rfl) HU2.out v0 hv6
 clear hl hok hE V0 hbd hvm
 generalize sideF (levelsL 0 price l) volume seed=A at *
 generalize sideF (levelsL 1 price l) volume ((seed+1) % 4294967296)=B at *
 generalize fillsL l price volume seed=T at *
 have HS1:=Lib.hid S1
 have HS2:=Lib.hid S2
 clear S1 S2
 go_enter Tryz.func154,Tryz.ntmps154
 go_wp2_with (first
  | (go_at_call 181;refine HC.out.mono ?_;rintro e w1 ⟨⟨v,rfl,hv⟩,l1,d1,rfl⟩;have hvn:=CheckV.ok HOK.out hv;clear hv;subst hvn)
  | (go_at_call 187;refine (HV0.out _ (by exact HE.out.ex (by repeat (first|exact Ex.refl _|refine Ex.alloc ?_ _|refine Ex.ext ?_ _ _|refine Ex.drew ?_|refine Ex.drewN ?_ _))) (by exact HL.out.ex (by repeat (first|exact Ex.refl _|refine Ex.alloc ?_ _|refine Ex.ext ?_ _ _|refine Ex.drew ?_|refine Ex.drewN ?_ _)))).mono ?_;rintro e w1 ⟨rfl,l2,d2,rfl⟩))
 refine (HS1.out _ (HL.out.ex (by repeat (first|exact Ex.refl _|refine Ex.alloc ?_ _|refine Ex.ext ?_ _ _|refine Ex.drew ?_|refine Ex.drewN ?_ _)))).mono ?_
 rintro e w2 ⟨⟨va,rfl,ha⟩,hx2⟩
 have HX2:Hid (Ex w w2):=Lib.hid (Ex.trans (by repeat (first|exact Ex.refl _|refine Ex.alloc ?_ _|refine Ex.ext ?_ _ _|refine Ex.drew ?_|refine Ex.drewN ?_ _)) hx2)
 have hwz:=HX2.out.below.size
 have ha':=owns_mono (base':=w.heap.size) ha (by first|omega|(simp [go_sem];done)|(simp [go_sem];omega))
 have HA:=Lib.hid ha'
 clear hx2 ha ha'
 go_wp2_with fail
 refine (HS2.out _ (HL.out.ex (HX2.out.trans (by repeat (first|exact Ex.refl _|refine Ex.alloc ?_ _|refine Ex.ext ?_ _ _|refine Ex.drew ?_|refine Ex.drewN ?_ _))))).mono ?_
 rintro e w3 ⟨⟨vb,rfl,hb⟩,hx3⟩
 have HX3:Hid (Ex w2 w3):=Lib.hid (Ex.trans (by repeat (first|exact Ex.refl _|refine Ex.alloc ?_ _|refine Ex.ext ?_ _ _|refine Ex.drew ?_|refine Ex.drewN ?_ _)) hx3)
 have HA3:=Lib.hid (HA.out.kept (Below.grownBy HX3.out.below) (Classical.em _))
 have hwz3:=HX3.out.below.size
 clear hx3
 rcases hb.2 with ⟨rfl,h0⟩|⟨g,capb,cur,rfl,hrest⟩
 ·have hB0:B=[]:=List.length_eq_zero_iff.1 h0
  subst hB0
  rw [List.append_nil] at HFL
  go_wp2_with (at_builtin;refine wpList_append_own_none rfl (.tmp 39) (.tmp 45) 228 rfl w.heap.size 234 iF 2 Tryz.underlying228 hF0 va _ _ rfl HA3.out rfl ?_)
  all_goals go_ret2
  all_goals
   obtain ⟨ao5,cap5,rfl,hc5,hf5⟩:=fills_of_owned rfl HA3.out
   rw [← HFL.out]
   exact ⟨⟨ao5,cap5,rfl,hc5,hf5,fun b off e=>by subst e;exact (HA3.out.lt b rfl).1⟩,HX2.out.trans HX3.out⟩
 ·have hcells:=hb.cells (g:=g) rfl
  have HCL:=Lib.hid hcells
  clear hrest hcells hb
  go_wp2_with (at_builtin;refine wpList_append_own _ rfl (.tmp 39) (.tmp 45) 228 rfl w.heap.size 234 iF _ 2 16 Tryz.underlying228 hF0 hFz hF1 hF2 rfl (by decide) va A.length (A.flatMap Fil.cells) rfl HA3.out ⟨g,0,none⟩ B.length capb (B.flatMap Fil.cells) rfl ?_ HCL.out (fil_one B) (by unfold maxLen;omega) (by omega) ?_ ?_;(focus exact fil_len B);(focus omega);intro v4 w4 hown4 hgr4 _)
  all_goals go_ret2
  all_goals
   have hown5:w4.ownsRow w.heap.size 234 2 v4 (A++B).length ((A++B).flatMap Fil.cells):=by rw [List.length_append,List.flatMap_append];exact hown4
   obtain ⟨ao5,cap5,rfl,hc5,hf5⟩:=fills_of_owned rfl hown5
   rw [← HFL.out]
   exact ⟨⟨ao5,cap5,rfl,hc5,hf5,fun b off e=>by subst e;exact (hown5.lt b rfl).1⟩,Ex.of (Below.grown (HX2.out.trans HX3.out).below hgr4 (by omega) (fun b hb=>(HA3.out.lt b hb).1))⟩
theorem fills_small {l:List Lot} (hok:LotsOk l) (price volume seed:Int):(fillsL l price volume seed).length≤100000:=by
 have n1:=sideF_len (levelsL 0 price l) volume seed
 have n2:=sideF_len (levelsL 1 price l) volume ((seed+1) % 4294967296)
 have m1:=levels_small (side:=0) (price:=price) hok
 have m2:=levels_small (side:=1) (price:=price) hok
 rw [fillsL,List.length_append]
 omega
end Go.Proofs.YtabbgpjofkaomaaGreatDoor

/- Plain facts: the document's fills, price by price, are those of the levels. -/
namespace Go.Proofs.YtabbgpjofkaomaaGreatDoor
open Go.RowKit
theorem takeF_zero:∀ l:List Lot,takeF l 0=([],0)
 | []=>rfl
 | x::l=>by simp only [takeF];rw [if_neg (by omega)];exact takeF_zero l
theorem sideF_zero (s:Int):∀ L:List (List Lot),sideF L 0 s=[]
 | []=>rfl
 | lv::L=>by simp only [sideF,takeF_zero,if_true]
end Go.Proofs.YtabbgpjofkaomaaGreatDoor

/- Plain facts: who gets how much is fair, and a seed parts at most one level of a side. -/
namespace Go.Proofs.YtabbgpjofkaomaaGreatDoor
open Go.RowKit
def gotF:List Fil→Int→Int
 | [],_=>0
 | f::x,id=>(if f.id=id then f.qty else 0)+gotF x id
theorem gotF_append (a b:List Fil) (id:Int):gotF (a++b) id=gotF a id+gotF b id:=by
 induction a with
 | nil=>simp [gotF]
 | cons f a ih=>simp only [List.cons_append,gotF,ih];omega
theorem gotF_none {x:List Fil} {id:Int} (h:∀ f∈x,f.id≠id):gotF x id=0:=by
 induction x with
 | nil=>rfl
 | cons f x ih=>simp only [gotF,if_neg (h f (by simp)),ih (fun g hg=>h g (by simp [hg]))];rfl
def qtyF:List Fil→Int
 | []=>0
 | f::x=>f.qty+qtyF x
theorem qtyF_append (a b:List Fil):qtyF (a++b)=qtyF a+qtyF b:=by
 induction a with
 | nil=>simp [qtyF]
 | cons f a ih=>simp only [List.cons_append,qtyF,ih];omega
theorem totL_cons (x:Lot) (l:List Lot):totL (x::l)=x.qty+totL l:=by simp [totL,sumOf]
theorem totL_append (a b:List Lot):totL (a++b)=totL a+totL b:=sumOf_append _ a b
theorem totL_nonneg {l:List Lot} (h:∀ x∈l,1≤x.qty):0≤totL l:=by
 induction l with
 | nil=>exact Int.le_refl _
 | cons x l ih=>rw [totL_cons];have:=h x (by simp);have:=ih (fun y hy=>h y (by simp [hy]));omega
theorem totL_perm {a b:List Lot} (h:a.Perm b):totL a=totL b:=by
 induction h with
 | nil=>rfl
 | cons x _ ih=>rw [totL_cons,totL_cons,ih]
 | swap x y l=>simp only [totL_cons];omega
 | trans _ _ h1 h2=>rw [h1,h2]
def IdsApart (l:List Lot):Prop:=l.Pairwise fun x y=>x.id≠y.id
theorem IdsApart.eq {l:List Lot} (h:IdsApart l):∀ {x y:Lot},x∈l→y∈l→x.id=y.id→x=y:=by
 induction l with
 | nil=>intro x y hx;cases hx
 | cons z l ih =>
  obtain ⟨h1,h2⟩:=List.pairwise_cons.1 h
  intro x y hx hy e
  rcases List.mem_cons.1 hx with ex|hx2<;>rcases List.mem_cons.1 hy with ey|hy2
  ·rw [ex,ey]
  ·exact absurd (ex▸e) (h1 y hy2)
  ·exact absurd (ey▸e.symm) (h1 x hx2)
  ·exact ih h2 hx2 hy2 e
theorem LotsOk.apart {l:List Lot} (h:LotsOk l):IdsApart l:=by
 refine List.pairwise_iff_getElem.2 fun i j hi hj hij e=>?_
 have hc:=h.2 j hj
 have hg:l[j]?=some l[j]:=List.getElem?_eq_getElem hj
 rw [codeAt_at hg,if_pos (h.ok hg)] at hc
 have:(l.take j).any (fun y=>y.id==(l[j]).id)=true:=by
  rw [List.any_eq_true]
  refine ⟨l[i],?_,by simpa using e⟩
  have:(l.take j)[i]'(by simp;omega)=l[i]:=by simp
  rw [← this]
  exact List.getElem_mem _
 rw [if_pos this] at hc
 cases hc
/- what some lots get,one after another -/
theorem takeF_ids:∀ (l:List Lot) (m:Int),∀ f∈(takeF l m).1,1≤f.qty∧∃ x∈l,x.id=f.id∧f.qty≤x.qty
 | [],_,f,h=>by simp [takeF] at h
 | x::l,m,f,h=>by
  simp only [takeF] at h
  split at h
  ·rcases List.mem_cons.1 h with rfl|h
   ·exact ⟨by simp only;omega,x,by simp,rfl,by simp only;omega⟩
   ·obtain ⟨h1,y,hy,h2⟩:=takeF_ids l _ f h
    exact ⟨h1,y,by simp [hy],h2⟩
  ·obtain ⟨h1,y,hy,h2⟩:=takeF_ids l _ f h
   exact ⟨h1,y,by simp [hy],h2⟩
theorem takeF_none {l:List Lot} {m:Int} {id:Int} (h:∀ x∈l,x.id≠id):gotF (takeF l m).1 id=0 :=
 gotF_none fun f hf e=>by
  obtain ⟨_,x,hx,hi,_⟩:=takeF_ids l m f hf
  exact h x hx (hi.trans e)
theorem takeF_got:∀ (l:List Lot) (m:Int),0≤m→IdsApart l→(∀ x∈l,1≤x.qty) →
  (∀ x∈l,0≤gotF (takeF l m).1 x.id∧gotF (takeF l m).1 x.id≤x.qty)∧(totL l≤m→∀ x∈l,gotF (takeF l m).1 x.id=x.qty)∧(takeF l m).2=max (m - totL l) 0∧qtyF (takeF l m).1=m - (takeF l m).2
 | [],m,h0,_,_=>by
  refine ⟨fun x hx=>by simp at hx,fun _ x hx=>by simp at hx,?_,?_⟩
  ·simp only [takeF,totL,sumOf];omega
  ·simp only [takeF,qtyF];omega
 | x::l,m,h0,ha,hq=>by
  obtain ⟨h1,h2⟩:=List.pairwise_cons.1 ha
  have hx:=hq x (by simp)
  have hqs:=fun y hy=>hq y (List.mem_cons_of_mem x hy)
  have hn:=totL_nonneg hqs
  have hno:∀ m,gotF (takeF l m).1 x.id=0:=fun m=>takeF_none fun y hy e=>h1 y hy e.symm
  simp only [takeF,totL_cons]
  split
  ·obtain ⟨i1,i2,i3,i4⟩:=takeF_got l (m - min x.qty m) (by omega) h2 hqs
   have hd:∀ y∈l,gotF ((⟨x.id,min x.qty m⟩:Fil)::(takeF l (m - min x.qty m)).1) y.id=gotF (takeF l (m - min x.qty m)).1 y.id:=fun y hy=>by
    simp only [gotF,if_neg (h1 y hy)];omega
   have hh:gotF ((⟨x.id,min x.qty m⟩:Fil)::(takeF l (m - min x.qty m)).1) x.id=min x.qty m:=by
    simp only [gotF,hno,if_true];omega
   refine ⟨fun y hy=>?_,fun ht y hy=>?_,?_,?_⟩
   ·rcases List.mem_cons.1 hy with rfl|hy
    ·rw [hh];omega
    ·rw [hd y hy];exact i1 y hy
   ·rcases List.mem_cons.1 hy with rfl|hy
    ·rw [hh];omega
    ·rw [hd y hy];exact i2 (by omega) y hy
   ·simp only;rw [i3];omega
   ·simp only [qtyF];omega
  ·obtain ⟨i1,i2,i3,i4⟩:=takeF_got l m h0 h2 hqs
   refine ⟨fun y hy=>?_,fun ht y hy=>?_,?_,?_⟩
   ·rcases List.mem_cons.1 hy with rfl|hy
    ·rw [hno];omega
    ·exact i1 y hy
   ·omega
   ·rw [i3];omega
   ·exact i4
/- a turn keeps the lots -/
theorem swp_perm {L:List Int} {i k:Nat} (hi:i<L.length) (hk:k<L.length):(swp L i k).Perm L:=by
 unfold swp
 rw [List.getD_eq_getElem?_getD,List.getD_eq_getElem?_getD,List.getElem?_eq_getElem hi,List.getElem?_eq_getElem hk]
 exact List.set_set_perm hi hk
theorem shufF_perm:∀ (i:Nat) (L:List Int) (s:Int),i<L.length→(shufF i L s).Perm L
 | 0,L,_,_=>List.Perm.refl L
 | i+1,L,s,hi=>by
  have e:=Int.emod_nonneg (nxt s) (show (i:Int)+2≠0 by omega)
  have e':=Int.emod_lt_of_pos (nxt s) (show 0<(i:Int)+2 by omega)
  simp only [shufF]
  exact (shufF_perm i _ _ (by rw [swp_len];omega)).trans (swp_perm hi (by omega))
theorem shufL_perm (n:Nat) (s:Int):(shufL n s).Perm (rangeI n):=by
 by_cases h:n=0
 ·subst h;exact List.Perm.refl _
 ·exact shufF_perm _ _ _ (by rw [rangeI_len];omega)
theorem turnL_perm (l:List Lot) (s:Int):(turnL l s).Perm l:=by
 have h:=(shufL_perm l.length s).map fun k=>l.getD k.toNat lot0
 refine h.trans (List.Perm.of_eq ?_)
 refine List.ext_getElem (by simp [rangeI]) fun i h1 h2=>?_
 simp [rangeI,List.getElem?_eq_getElem h2]
theorem servL_perm (l:List Lot) (m s:Int):(servL l m s).Perm l:=by
 unfold servL
 split
 ·exact turnL_perm l s
 ·exact List.Perm.refl l
/- a side -/
theorem sideF_cons (lv:List Lot) (r:List (List Lot)) (m s:Int):sideF (lv::r) m s=(takeF (servL lv m s) m).1++sideF r (takeF (servL lv m s) m).2 s:=by
 rw [sideF]
 split
 ·rename_i h;rw [h,sideF_zero,List.append_nil]
 ·rfl
theorem sideF_ids:∀ (L:List (List Lot)) (m s:Int),∀ f∈sideF L m s,1≤f.qty∧∃ x∈L.flatten,x.id=f.id∧f.qty≤x.qty
 | [],_,_,f,h=>by simp [sideF] at h
 | lv::r,m,s,f,h=>by
  rw [sideF_cons] at h
  rcases List.mem_append.1 h with h|h
  ·obtain ⟨h1,x,hx,h2⟩:=takeF_ids _ _ f h
   exact ⟨h1,x,by simp [(servL_perm lv m s).mem_iff.1 hx],h2⟩
  ·obtain ⟨h1,x,hx,h2⟩:=sideF_ids r _ s f h
   exact ⟨h1,x,by rw [List.flatten_cons];exact List.mem_append_right _ hx,h2⟩
theorem sideF_none {L:List (List Lot)} {m s id:Int} (h:∀ x∈L.flatten,x.id≠id):gotF (sideF L m s) id=0 :=
 gotF_none fun f hf e=>by
  obtain ⟨_,x,hx,hi,_⟩:=sideF_ids L m s f hf
  exact h x hx (hi.trans e)
theorem serv_facts {lv:List Lot} {m s:Int} (h0:0≤m) (ha:IdsApart lv) (hq:∀ x∈lv,1≤x.qty) :
  (∀ x∈lv,0≤gotF (takeF (servL lv m s) m).1 x.id∧gotF (takeF (servL lv m s) m).1 x.id≤x.qty)∧(totL lv≤m→∀ x∈lv,gotF (takeF (servL lv m s) m).1 x.id=x.qty)∧(takeF (servL lv m s) m).2=max (m - totL lv) 0∧qtyF (takeF (servL lv m s) m).1=m - (takeF (servL lv m s) m).2:=by
 have hp:=servL_perm lv m s
 have ha2:IdsApart (servL lv m s):=(List.Perm.pairwise_iff (fun h e=>h e.symm) hp).2 ha
 obtain ⟨h1,h2,h3,h4⟩:=takeF_got (servL lv m s) m h0 ha2 (fun x hx=>hq x (hp.mem_iff.1 hx))
 rw [totL_perm hp] at h2 h3
 exact ⟨fun x hx=>h1 x (hp.mem_iff.2 hx),fun ht x hx=>h2 ht x (hp.mem_iff.2 hx),h3,h4⟩
theorem apart_cons {lv:List Lot} {r:List (List Lot)} (h:IdsApart (lv::r).flatten):IdsApart lv∧IdsApart r.flatten∧∀ x∈lv,∀ y∈r.flatten,x.id≠y.id:=by
 rw [List.flatten_cons] at h
 exact List.pairwise_append.1 h
theorem got_head {lv:List Lot} {r:List (List Lot)} {m s:Int} (h:IdsApart (lv::r).flatten) {x:Lot} (hx:x∈lv):gotF (sideF (lv::r) m s) x.id=gotF (takeF (servL lv m s) m).1 x.id:=by
 rw [sideF_cons,gotF_append,sideF_none (L:=r) (fun y hy e=>(apart_cons h).2.2 x hx y hy e.symm)];omega
theorem got_rest {lv:List Lot} {r:List (List Lot)} {m s:Int} (h:IdsApart (lv::r).flatten) {x:Lot} (hx:x∈r.flatten):gotF (sideF (lv::r) m s) x.id=gotF (sideF r (takeF (servL lv m s) m).2 s) x.id:=by
 rw [sideF_cons,gotF_append,takeF_none (fun y hy=>(apart_cons h).2.2 y ((servL_perm lv m s).mem_iff.1 hy) x hx)];omega
theorem sideF_bd:∀ (L:List (List Lot)) (m s:Int),0≤m→IdsApart L.flatten→(∀ x∈L.flatten,1≤x.qty) →
  (∀ x∈L.flatten,0≤gotF (sideF L m s) x.id∧gotF (sideF L m s) x.id≤x.qty)∧qtyF (sideF L m s)=min m (totL L.flatten)
 | [],m,s,h0,_,_=>by
  refine ⟨fun x hx=>by simp at hx,?_⟩
  simp only [sideF,qtyF,List.flatten_nil,totL,sumOf]
  omega
 | lv::r,m,s,h0,ha,hq=>by
  have hq1:∀ x∈lv,1≤x.qty:=fun x hx=>hq x (by simp [hx])
  have hq2:∀ x∈r.flatten,1≤x.qty:=fun x hx=>hq x (by rw [List.flatten_cons];exact List.mem_append_right _ hx)
  obtain ⟨f1,f2,f3,f4⟩:=serv_facts (m:=m) (s:=s) h0 (apart_cons ha).1 hq1
  obtain ⟨i1,i2⟩:=sideF_bd r (takeF (servL lv m s) m).2 s (by omega) (apart_cons ha).2.1 hq2
  have:=totL_nonneg hq1
  have:=totL_nonneg hq2
  refine ⟨fun x hx=>?_,?_⟩
  ·rw [List.flatten_cons] at hx
   rcases List.mem_append.1 hx with hx|hx
   ·rw [got_head ha hx];exact f1 x hx
   ·rw [got_rest ha hx];exact i1 x hx
  ·rw [sideF_cons,qtyF_append,i2,f4,List.flatten_cons,totL_append,f3]
   omega
theorem sideF_best (better:Lot→Lot→Prop):∀ (L:List (List Lot)) (m s:Int),0≤m→IdsApart L.flatten→(∀ x∈L.flatten,1≤x.qty) →
  (∀ lv∈L,∀ x∈lv,∀ y∈lv,¬ better y x)→L.Pairwise (fun a b=>∀ x∈a,∀ y∈b,¬ better y x) →
  ∀ x∈L.flatten,∀ y∈L.flatten,better y x→0<gotF (sideF L m s) x.id→gotF (sideF L m s) y.id=y.qty
 | [],m,s,_,_,_,_,_,x,hx,_,_=>by simp at hx
 | lv::r,m,s,h0,ha,hq,hb1,hb2,x,hx,y,hy=>by
  intro hb hg
  have hq1:∀ x∈lv,1≤x.qty:=fun x hx=>hq x (by simp [hx])
  have hq2:∀ x∈r.flatten,1≤x.qty:=fun x hx=>hq x (by rw [List.flatten_cons];exact List.mem_append_right _ hx)
  obtain ⟨f1,f2,f3,f4⟩:=serv_facts (m:=m) (s:=s) h0 (apart_cons ha).1 hq1
  obtain ⟨p1,p2⟩:=List.pairwise_cons.1 hb2
  rw [List.flatten_cons] at hx hy
  rcases List.mem_append.1 hx with hx|hx<;>rcases List.mem_append.1 hy with hy|hy
  ·exact absurd hb (hb1 lv (by simp) x hx y hy)
  ·obtain ⟨b,hbm,hyb⟩:=List.mem_flatten.1 hy
   exact absurd hb (p1 b hbm x hx y hyb)
  ·rw [got_head ha hy]
   rw [got_rest ha hx] at hg
   refine f2 ?_ y hy
   refine Classical.byContradiction fun hn=>?_
   have h2:(takeF (servL lv m s) m).2=0:=by omega
   rw [h2,sideF_zero] at hg
   simp [gotF] at hg
  ·rw [got_rest ha hy]
   rw [got_rest ha hx] at hg
   exact sideF_best better r _ s (by omega) (apart_cons ha).2.1 hq2 (fun lv h=>hb1 lv (by simp [h])) p2 x hx y hy hb hg
end Go.Proofs.YtabbgpjofkaomaaGreatDoor
