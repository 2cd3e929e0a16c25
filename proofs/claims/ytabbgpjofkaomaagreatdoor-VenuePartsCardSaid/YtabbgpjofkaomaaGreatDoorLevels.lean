import Derived.Test.YtabbgpjofkaomaaGreatDoorJ9
import Derived.Test.YtabbgpjofkaomaaGreatDoorJ10
import Derived.Test.YtabbgpjofkaomaaGreatDoorJ12
import Derived.Test.YtabbgpjofkaomaaGreatDoorJ14
import Derived.Deep.RegionLaw
set_option linter.unusedSimpArgs false
set_option linter.unusedVariables false
/- What levels of package ration computes. -/
namespace Go.Proofs.YtabbgpjofkaomaaGreatDoor
open Go.RowKit
theorem infoLot:(Tryz.prog.info? 131).map (fun i=>(i.zero,i.size,i.bytes))=some (some (.agg #[.int .i64 0,.int .i64 0,.int .i64 0,.int .i64 0,.int .i64 0]),5,40):=by kernel_rfl
theorem lot_wf {a:Lot} (h:a.ok=true):a.wf:=by
 have:=Lot.ok_iff.1 h
 refine ⟨?_,?_,?_,?_,?_⟩<;>simp [Lit.wf,IntKind.min,IntKind.max,IntKind.bits,IntKind.signed]<;>omega
structure LvInv (side price:Int) (l:List Lot) (w:World) (k:Nat) (u:Value) (ps:List Int) (F:Int→Value) (wr:World):Prop where
 map:MapAt wr w.heap.size k F
 row:∀ p,RowAt wr 131 5 (F p) (lotsAtP side price p (l.take k)).length ((lotsAtP side price p (l.take k)).flatMap Lot.cells)
 apart:∀ p q g,p≠q→(F p).ownBlock=some g→(F q).ownBlock≠some g
 new:∀ p g,(F p).ownBlock=some g→w.heap.size≤g
 prices:wr.ownsRow w.heap.size 3 1 u ps.length (ps.map (Value.int .i64))
 nodup:ps.Nodup
 mem:∀ p,p∈ps↔lotsAtP side price p (l.take k)≠[]
 len:ps.length≤k
 below:Below w.heap.size w wr
theorem LvInv.start (side price:Int) (l:List Lot) (w:World):LvInv side price l w 0 (.slice none 0 0) [] (fun _=>.slice none 0 0) (w.alloc (.map #[] 0)) where
 map:=MapAt.made w
 row:=fun p=>by simpa [lotsAtP] using RowAt.nil _ _ _
 apart:=fun p q g _ h=>by cases h
 new:=fun p g h=>by cases h
 prices:=World.ownsRow_nil _ _ _ _
 nodup:=List.nodup_nil
 mem:=fun p=>by simp [lotsAtP]
 len:=Nat.le_refl _
 below:=Ex.below (by repeat (first|exact Ex.refl _|refine Ex.alloc ?_ _|refine Ex.ext ?_ _ _|refine Ex.drew ?_|refine Ex.drewN ?_ _))
theorem LvInv.skip {side price:Int} {l:List Lot} {w wr w':World} {k:Nat} {u:Value} {ps:List Int} {F:Int→Value} {a:Lot} (h:LvInv side price l w k u ps F wr) (ha:l[k]?=some a) (hm:mayT side price a=false) (hx:Ex wr w'):LvInv side price l w (k+1) u ps F w' where
 map:=(h.map.kept (Below.grownBy hx.below) (by simp)).mono (by omega)
 row:=fun p=>by rw [lotsAtP_skip _ _ _ ha hm];exact (h.row p).of_block fun g hg=>hx.below.block g ((h.row p).lt g hg)
 apart:=h.apart
 new:=h.new
 prices:=h.prices.kept (Below.grownBy hx.below) (Classical.em _)
 nodup:=h.nodup
 mem:=fun p=>by rw [lotsAtP_skip _ _ _ ha hm];exact h.mem p
 len:=by have:=h.len;omega
 below:=h.below.trans (hx.below.mono h.below.size)
abbrev lotObj (a:Lot):Obj:=.cells #[.int .i64 a.id,.int .i64 a.owner,.int .i64 a.side,.int .i64 a.price,.int .i64 a.qty] 131
structure LvMid (side price:Int) (l:List Lot) (w:World) (k:Nat) (a:Lot) (xb:Nat) (u:Value) (ps:List Int) (F:Int→Value) (W:World):Prop where
 map:MapAt W w.heap.size k F
 row:∀ p,RowAt W 131 5 (F p) (lotsAtP side price p (l.take k)).length ((lotsAtP side price p (l.take k)).flatMap Lot.cells)
 apart:∀ p q g,p≠q→(F p).ownBlock=some g→(F q).ownBlock≠some g
 new:∀ p g,(F p).ownBlock=some g→w.heap.size≤g
 prices:W.ownsRow w.heap.size 3 1 u ps.length (ps.map (Value.int .i64))
 nodup:ps.Nodup
 mem:∀ p,p∈ps↔lotsAtP side price p (l.take k)≠[]∨p=a.price
 len:ps.length≤k+1
 below:Below w.heap.size w W
 xlt:∀ p g,(F p).ownBlock=some g→g<xb
 xcell:W.heap[xb]?=some (lotObj a)
 xnew:w.heap.size<xb
theorem owns_obj {w:World} {base:Nat} {e:TypeId} {size:Nat} {v:Value} {n:Nat} {xs:List Value} (h:w.ownsRow base e size v n xs) {g:Nat} (hg:v.ownBlock=some g):∃ cs,w.heap[g]?=some (.cells cs e (0,0)):=by
 rcases h.2 with ⟨rfl,_⟩|⟨g',cap,cur,rfl,_,hh,_⟩
 ·cases hg
 ·cases hg;exact ⟨cur,hh⟩
theorem rowAt_obj {w:World} {e:TypeId} {size:Nat} {v:Value} {n:Nat} {xs:List Value} (h:RowAt w e size v n xs) {g:Nat} (hg:v.ownBlock=some g):∃ cs fr,w.heap[g]?=some (.cells cs e fr):=by
 rcases h.2 with ⟨rfl,_⟩|⟨g',off,cap,cur,rfl,⟨fr,hh,_⟩,_⟩
 ·cases hg
 ·cases hg;exact ⟨cur,fr,hh⟩
theorem LvInv.mid {side price:Int} {l:List Lot} {w wr W:World} {k:Nat} {u u':Value} {ps ps':List Int} {F:Int→Value} {a:Lot} (h:LvInv side price l w k u ps F wr)
  (hg:wr.grownBy W u.ownBlock) (hp:W.ownsRow w.heap.size 3 1 u' ps'.length (ps'.map (Value.int .i64))) (hn:ps'.Nodup) (hm:∀ p,p∈ps'↔lotsAtP side price p (l.take k)≠[]∨p=a.price) (hl:ps'.length≤k+1)
  (hx:W.heap[wr.heap.size]?=some (lotObj a)):LvMid side price l w k a wr.heap.size u' ps' F W where
 map:=h.map.kept hg (fun e=>by
  obtain ⟨cs,hc⟩:=owns_obj h.prices e.symm
  obtain ⟨es,c,hm⟩:=h.map.isMap
  rw [hm] at hc;cases hc)
 row:=fun p=>(h.row p).of_block fun g hgb=>hg.block g ((h.row p).lt g hgb) (fun e=>by
  obtain ⟨cs,hc⟩:=owns_obj h.prices e.symm
  obtain ⟨cs',fr',hc'⟩:=rowAt_obj (h.row p) hgb
  rw [hc] at hc'
  simp at hc')
 apart:=h.apart
 new:=h.new
 prices:=hp
 nodup:=hn
 mem:=hm
 len:=hl
 below:=Below.grown h.below hg h.below.size (fun b hb=>(h.prices.lt b hb).1)
 xlt:=fun p g hgb=>(h.row p).lt g hgb
 xcell:=hx
 xnew:=h.map.lt
theorem LvInv.mid_same {side price:Int} {l:List Lot} {w wr:World} {k:Nat} {u:Value} {ps:List Int} {F:Int→Value} {a:Lot} (h:LvInv side price l w k u ps F wr) (hne:lotsAtP side price a.price (l.take k)≠[]) :
  LvMid side price l w k a wr.heap.size u ps F (wr.alloc (lotObj a)) :=
 h.mid (World.grownBy_alloc wr _ _) (h.prices.alloc _) h.nodup (fun p=>by
  rw [h.mem p]
  constructor
  ·exact .inl
  ·rintro (e|rfl)
   ·exact e
   ·exact hne) (by have:=h.len;omega) (alloc_at rfl)
theorem LvInv.mid_more {side price:Int} {l:List Lot} {w wr W:World} {k:Nat} {u u':Value} {ps:List Int} {F:Int→Value} {a:Lot} (h:LvInv side price l w k u ps F wr) (hne:lotsAtP side price a.price (l.take k)=[]) {o:Obj}
  (hp:W.ownsRow w.heap.size 3 1 u' (ps.length+1) (ps.map (Value.int .i64)++[.int .i64 a.price])) (hg:((wr.alloc (lotObj a)).alloc o).grownBy W u.ownBlock) :
  LvMid side price l w k a wr.heap.size u' (ps++[a.price]) F W:=by
 have hni:a.price∉ps:=fun e=>(h.mem _).1 e hne
 have hg1:wr.grownBy W u.ownBlock:=((World.grownBy_alloc wr _ _).trans (World.grownBy_alloc _ _ _)).trans hg
 refine h.mid hg1 (by simpa using hp) ?_ (fun p=>?_) (by have:=h.len;simp;omega) ?_
 ·rw [List.nodup_append]
  exact ⟨h.nodup,by simp,fun x hx y hy=>by simp at hy;subst hy;exact fun e=>hni (e▸hx)⟩
 ·rw [List.mem_append,h.mem p,List.mem_singleton]
 ·rw [hg.block wr.heap.size (by simp;omega) (fun e=>by have:=(h.prices.lt _ e.symm).2;omega),heap_alloc_old _ _ (by simp)]
  exact alloc_at rfl
theorem LvMid.fin {side price:Int} {l:List Lot} {w wc w3 w4:World} {k n:Nat} {u v v3:Value} {ps:List Int} {F:Int→Value} {a:Lot} {xb:Nat} {o:Obj} (h:LvMid side price l w k a xb u ps F wc) (ha:l[k]?=some a) (hm:mayT side price a=true)
  (hF:F a.price=v) (hn:(lotsAtP side price a.price (l.take k)).length=n) (h1:RowAt w3 131 5 v3 (n+1) ((lotsAtP side price a.price (l.take k)).flatMap Lot.cells++[.int .i64 a.id,.int .i64 a.owner,.int .i64 a.side,.int .i64 a.price,.int .i64 a.qty]))
  (h2:(wc.drew.alloc o).grownBy w3 v.ownBlock) (h3:v3.ownBlock=v.ownBlock∨v3.ownBlock=some (wc.drew.alloc o).heap.size) (h4:MapAt w4 w.heap.size (k+1) (fun q=>if q=a.price then v3 else F q)) (h5:w3.grownBy w4 (some w.heap.size)) :
  LvInv side price l w (k+1) u ps (fun q=>if q=a.price then v3 else F q) w4:=by
 subst hF
 have hst:∀ p,lotsAtP side price p (l.take (k+1))=lotsAtP side price p (l.take k)++(if p=a.price then [a] else []):=fun p=>by
  rw [lotsAtP_step _ _ _ ha,hm]
  by_cases e:p=a.price
  ·subst e;simp
  ·rw [if_neg e,if_neg (by simp;omega)]
 have hsz:(wc.drew.alloc o).heap.size=wc.heap.size+1:=by simp
 have hxl:xb<wc.heap.size:=(Array.getElem?_eq_some_iff.1 h.xcell).1
 obtain ⟨es,c,hmap⟩:=h.map.isMap
 have nomap:∀ {W:World} {e:TypeId} {size:Nat} {v:Value} {n:Nat} {xs:List Value},RowAt wc e size v n xs→∀ g,v.ownBlock=some g→g≠w.heap.size:=fun hr g hg e=>by
  obtain ⟨cs,fr,hc⟩:=rowAt_obj hr hg
  rw [e,hmap] at hc;cases hc
 have hv3:∀ g,v3.ownBlock=some g→(F a.price).ownBlock=some g∨g=wc.heap.size+1:=fun g hg=>by
  rcases h3 with e|e
  ·exact .inl (e▸hg)
  ·rw [hsz,hg] at e
   exact .inr (Option.some.inj e)
 have hml:=h.map.lt
 have keep:∀ g,g<wc.heap.size→(F a.price).ownBlock≠some g→g≠w.heap.size→w4.heap[g]?=wc.heap[g]?:=fun g hg hne hnm=>by
  rw [h5.block g (by have:=h2.size;omega) (by simpa using hnm),h2.block g (by omega) (fun e=>hne e.symm)]
  exact heap_alloc_old wc.drew o hg
 refine ⟨h4,fun q=>?_,fun p q g hpq hp hq=>?_,fun p g hp=>?_,?_,h.nodup,fun p=>?_,h.len,?_⟩
 ·show RowAt w4 _ 5 (if q=a.price then v3 else F q) _ _
  by_cases e:q=a.price
  ·subst e
   rw [if_pos rfl,hst,if_pos rfl,List.length_append,hn,List.flatMap_append]
   refine RowAt.of_block (w:=w3) (by simpa [Lot.cells] using h1) fun g hg=>h5.block g (h1.lt g hg) ?_
   rcases hv3 g hg with e2|e2
   ·have:=nomap (W:=wc) (h.row a.price) g e2
    simpa using this
   ·simp;omega
  ·rw [if_neg e,hst,if_neg e,List.append_nil]
   exact (h.row q).of_block fun g hg=>keep g ((h.row q).lt g hg) (h.apart q a.price g e hg) (nomap (W:=wc) (h.row q) g hg)
 ·have hp:(if p=a.price then v3 else F p).ownBlock=some g:=hp
  have hq:(if q=a.price then v3 else F q).ownBlock=some g:=hq
  by_cases e1:p=a.price
  ·subst e1
   rw [if_pos rfl] at hp
   rw [if_neg (fun e=>hpq e.symm)] at hq
   rcases hv3 g hp with e2|e2
   ·exact h.apart _ _ g hpq e2 hq
   ·have:=h.xlt q g hq;omega
  ·rw [if_neg e1] at hp
   by_cases e2:q=a.price
   ·subst e2
    rw [if_pos rfl] at hq
    rcases hv3 g hq with e3|e3
    ·exact h.apart _ _ g hpq hp e3
    ·have:=h.xlt p g hp;omega
   ·rw [if_neg e2] at hq
    exact h.apart p q g hpq hp hq
 ·have hp:(if p=a.price then v3 else F p).ownBlock=some g:=hp
  by_cases e1:p=a.price
  ·rw [if_pos e1] at hp
   rcases hv3 g hp with e2|e2
   ·exact h.new _ g e2
   ·have:=h.below.size;omega
  ·rw [if_neg e1] at hp
   exact h.new p g hp
 ·have hk1:w3.ownsRow w.heap.size 3 1 u ps.length (ps.map (Value.int .i64)):=by
   refine World.ownsRow.kept (w:=wc.drew.alloc o) (World.ownsRow.alloc (w:=wc.drew) h.prices o) h2 ?_
   by_cases e:u.ownBlock=none
   ·exact .inl e
   ·refine .inr (fun e2=>?_)
    obtain ⟨g,hg⟩:=Option.ne_none_iff_exists'.1 e
    obtain ⟨cs,hc⟩:=owns_obj h.prices hg
    obtain ⟨cs',fr',hc'⟩:=rowAt_obj (h.row a.price) (e2▸hg)
    rw [hc] at hc'
    simp at hc'
  refine hk1.kept h5 (.inr (fun e=>?_))
  obtain ⟨cs,hc⟩:=owns_obj h.prices e
  rw [hmap] at hc;cases hc
 ·rw [h.mem p,hst]
  by_cases e:p=a.price
  ·simp [e]
  ·simp [e]
 ·refine Below.grown (Below.grown (Below.alloc (Below.drew h.below) h.below.size o) h2 (by rw [hsz];have:=h.below.size;omega) (fun b hb=>h.new _ b hb)) h5 (by have:=h2.size;have:=h.below.size;omega) (fun b hb=>by cases hb;exact Nat.le_refl _)
theorem infoSl:(Tryz.prog.info? 65).map (fun i=>(i.zero,i.size,i.bytes))=some (some (.slice none 0 0),1,24):=by kernel_rfl
def levP (side price:Int) (l:List Lot):List Int:=pricesL (l.filter (mayT side price))
def levelsL (side price:Int) (l:List Lot):List (List Lot):=(if side=0 then (levP side price l).reverse else levP side price l).map fun p=>lotsAtP side price p l
theorem lotsAtP_ne {side price p:Int} {l:List Lot}:lotsAtP side price p l≠[]↔∃ x∈l.filter (mayT side price),x.price=p:=by
 constructor
 ·intro h
  obtain ⟨x,hx⟩:=List.exists_mem_of_ne_nil _ h
  have:=lotsAtP_mem hx
  exact ⟨x,List.mem_filter.2 ⟨this.1,this.2.1⟩,this.2.2⟩
 ·rintro ⟨x,hx,h3⟩ h
  rw [List.mem_filter] at hx
  have:x∈lotsAtP side price p l:=by simp [lotsAtP,List.mem_filter,hx.1,hx.2,h3]
  rw [h] at this
  cases this
theorem sorted_levP {side price:Int} {l:List Lot} {ps:List Int} (hn:ps.Nodup) (hm:∀ p,p∈ps↔lotsAtP side price p l≠[]):(ps.mergeSort fun x y=>decide (x≤y))=levP side price l:=by
 obtain ⟨h1,h2⟩:=pricesL_spec (l.filter (mayT side price))
 have hs:(ps.mergeSort fun x y=>decide (x≤y)).Pairwise (·≤·):=by
  have:=List.pairwise_mergeSort (le:=fun x y:Int=>decide (x≤y)) (fun a b c h k=>by simp at h k ⊢;omega) (fun a b=>by simp;omega) ps
  exact this.imp fun h=>by simpa using h
 have hnd:(ps.mergeSort fun x y=>decide (x≤y)).Nodup:=(List.mergeSort_perm _ _).nodup_iff.2 hn
 refine sorted_unique ?_ h2 fun p=>?_
 ·exact (hs.and hnd).imp fun h=>by omega
 ·rw [(List.mergeSort_perm _ _).mem_iff,hm,lotsAtP_ne,levP,h1]
theorem levP_bound {side price:Int} {l:List Lot} (h:LotsOk l):∀ z∈levP side price l,1≤z∧z≤1000:=fun z hz=>by
 obtain ⟨x,hx,rfl⟩:=((pricesL_spec _).1 z).1 hz
 have:=Lot.ok_iff.1 (h.mem x (List.mem_filter.1 hx).1)
 omega
theorem owns_form {w:World} {base:Nat} {e:TypeId} {size:Nat} {v:Value} {n:Nat} {xs:List Value} (h:w.ownsRow base e size v n xs):∃ ao cap,v=.slice ao n cap:=by
 rcases h.2 with ⟨rfl,rfl⟩|⟨g',cap,cur,rfl,_,hh,_⟩
 ·exact ⟨none,0,rfl⟩
 ·exact ⟨_,_,rfl⟩
theorem owns_apart {w:World} {base base':Nat} {e e':TypeId} {size size':Nat} {v v':Value} {n n':Nat} {xs xs':List Value} (h:w.ownsRow base e size v n xs) (h':w.ownsRow base' e' size' v' n' xs') (he:e≠e'):v.ownBlock=none∨v.ownBlock≠v'.ownBlock:=by
 by_cases e0:v.ownBlock=none
 ·exact .inl e0
 ·refine .inr (fun e2=>?_)
  obtain ⟨g,hg⟩:=Option.ne_none_iff_exists'.1 e0
  obtain ⟨cs,hc⟩:=owns_obj h hg
  obtain ⟨cs',hc'⟩:=owns_obj h' (e2▸hg)
  rw [hc] at hc'
  simp at hc'
  exact he hc'.2
theorem sort_row {W:World} {base n cap:Nat} {ao:Option Addr} {zs:List Int} (h:W.ownsRow base 3 1 (.slice ao n cap) n (zs.map (Value.int .i64))) (hn:n≤1000) :
  Calls Tryz.prog 221 #[.slice ao n cap] W fun e w'=>e=.returned (.tuple #[])∧w'.ownsRow base 3 1 (.slice ao n cap) n ((zs.mergeSort fun x y=>decide (x≤y)).map (Value.int .i64))∧W.grownBy w' (Value.slice ao n cap).ownBlock:=by
 by_cases hv:(Value.slice ao n cap)=.slice none 0 0
 ·cases hv
  have hz:zs=[]:=List.length_eq_zero_iff.1 (by simpa using h.1)
  subst hz
  refine (Tryz.slices_Sort_int_none none 0 W).mono ?_
  rintro e w' ⟨rfl,rfl⟩
  exact ⟨rfl,by rw [List.mergeSort_nil];exact World.ownsRow_nil _ _ _ _,grownBy_refl _ _⟩
 ·obtain ⟨g,cap2,e,hbg,hlg,hnc,hm,hlz,hH⟩:=Lib.holds_of_ownsRow h hv
  cases e
  have hS:=Tryz.slices_Sort_int g 0 cap zs W hH hlg (by omega)
  rw [hlz] at hS
  refine hS.mono ?_
  rintro e w1 ⟨rfl,n1,os1,hw1⟩
  refine ⟨rfl,?_,?_⟩
  ·have h2:=Lib.ownsRow_putRow (q:=n1) (k:=n) h (ys:=zs.mergeSort fun x y=>decide (x≤y)) (by simpa using hlz) (Nat.le_refl _)
   rw [List.take_of_length_le (by simp;omega)] at h2
   rw [hw1]
   exact h2.kept (row:=none) ⟨rfl,rfl,rfl,by simp,fun b hb _=>Sort.heap_grow_old _ _ hb⟩ (Classical.em _)
  ·rw [hw1]
   refine ⟨rfl,rfl,rfl,?_,fun b hb hne=>?_⟩
   ·simp [Sort.grow,Sort.putRow,Sort.mapBlock,Sort.ahead]
   ·rw [Sort.heap_grow_old _ _ (by simpa [Sort.putRow,Sort.mapBlock,Sort.ahead] using hb)]
    have hbg:g≠b:=fun e=>hne (by rw [e];rfl)
    simp [Sort.putRow,Sort.mapBlock,Sort.ahead,Array.getElem?_modify,hbg]
theorem reverse_row {W:World} {base n cap:Nat} {ao:Option Addr} {zs:List Int} (h:W.ownsRow base 3 1 (.slice ao n cap) n (zs.map (Value.int .i64))) (hn:n≤1000) :
  Calls Tryz.prog 222 #[.slice ao n cap] W fun e w'=>e=.returned (.tuple #[])∧w'.ownsRow base 3 1 (.slice ao n cap) n (zs.reverse.map (Value.int .i64))∧W.grownBy w' (Value.slice ao n cap).ownBlock:=by
 by_cases hv:(Value.slice ao n cap)=.slice none 0 0
 ·cases hv
  have hz:zs=[]:=List.length_eq_zero_iff.1 (by simpa using h.1)
  subst hz
  refine (Tryz.slices_Reverse_int_empty none 0 W).mono ?_
  rintro e w' ⟨rfl,rfl⟩
  exact ⟨rfl,World.ownsRow_nil _ _ _ _,grownBy_refl _ _⟩
 ·obtain ⟨g,cap2,e,hbg,hlg,hnc,hm,hlz,hH⟩:=Lib.holds_of_ownsRow h hv
  cases e
  have hS:=Tryz.slices_Reverse_int g 0 cap zs W hH (by omega)
  rw [hlz] at hS
  refine hS.mono ?_
  rintro e w1 ⟨rfl,n1,hw1⟩
  refine ⟨rfl,?_,?_⟩
  ·have h2:=Lib.ownsRow_putRow (q:=n1) (k:=n) h (ys:=zs.reverse) (by simpa using hlz) (Nat.le_refl _)
   rw [List.take_of_length_le (by simp;omega)] at h2
   rw [hw1]
   exact h2
  ·rw [hw1]
   refine ⟨rfl,rfl,rfl,?_,fun b hb hne=>?_⟩
   ·simp [Sort.putRow,Sort.mapBlock,Sort.ahead]
   ·have hbg:g≠b:=fun e=>hne (by rw [e];rfl)
    simp [Sort.putRow,Sort.mapBlock,Sort.ahead,Array.getElem?_modify,hbg]
structure LvEnd (side price:Int) (l:List Lot) (w:World) (F:Int→Value) (W:World):Prop where
 map:MapAt W w.heap.size 1000 F
 row:∀ p,RowAt W 131 5 (F p) (lotsAtP side price p l).length ((lotsAtP side price p l).flatMap Lot.cells)
 below:Below w.heap.size w W
theorem LvEnd.of_inv {side price:Int} {l:List Lot} {w wr:World} {k:Nat} {u:Value} {ps:List Int} {F:Int→Value} (h:LvInv side price l w k u ps F wr) (hl:l.length=k) (hk:k≤1000:=by omega):LvEnd side price l w F wr where
 map:=h.map.mono hk
 row:=fun p=>by have:=h.row p;rw [List.take_of_length_le (by omega)] at this;exact this
 below:=h.below
theorem LvEnd.kept {side price:Int} {l:List Lot} {w W W':World} {F:Int→Value} (h:LvEnd side price l w F W) {base:Nat} {e:TypeId} {size:Nat} {u:Value} {n:Nat} {xs:List Value} (hu:W.ownsRow base e size u n xs) (he:e≠131) (hb:w.heap.size≤base) (hg:W.grownBy W' u.ownBlock):LvEnd side price l w F W' where
 map:=h.map.kept hg (fun e0=>by
  obtain ⟨cs,hc⟩:=owns_obj hu e0.symm
  obtain ⟨es,c,hm⟩:=h.map.isMap
  rw [hm] at hc;cases hc)
 row:=fun p=>(h.row p).of_block fun g hgb=>hg.block g ((h.row p).lt g hgb) (fun e0=>by
  obtain ⟨cs,hc⟩:=owns_obj hu e0.symm
  obtain ⟨cs',fr',hc'⟩:=rowAt_obj (h.row p) hgb
  rw [hc] at hc'
  simp at hc'
  exact he hc'.2.1)
 below:=Below.grown h.below hg h.below.size (fun b hb'=>by have:=(hu.lt b hb').1;omega)
theorem LvEnd.alloc {side price:Int} {l:List Lot} {w W:World} {F:Int→Value} (h:LvEnd side price l w F W) (o:Obj):LvEnd side price l w F (W.alloc o) where
 map:=h.map.alloc o
 row:=fun p=>(h.row p).of_block fun g hgb=>heap_alloc_old W o ((h.row p).lt g hgb)
 below:=Below.alloc h.below h.below.size o
theorem LvEnd.wfrow {side price:Int} {l:List Lot} {w W:World} {F:Int→Value} (_:LvEnd side price l w F W) (hok:LotsOk l) (p:Int):∀ a∈lotsAtP side price p l,a.wf:=fun a ha=>lot_wf (hok.mem a (lotsAtP_mem ha).1)
def LotsObj (w:World) (ao:Option Addr):Prop:=∀ a,ao=some a→∃ cs fr,w.heap[a.block]?=some (.cells cs 131 fr)
theorem LotsObj.ex {w w':World} {ao:Option Addr} (h:LotsObj w ao) (hx:Ex w w'):LotsObj w' ao:=fun a e=>by
 obtain ⟨cs,fr,hc⟩:=h a e
 exact ⟨cs,fr,(hx.below.block _ (Array.getElem?_eq_some_iff.1 hc).1).trans hc⟩
theorem lots_of_row {w:World} {v:Value} {l:List Lot} (hwf:∀ a∈l,a.wf) (h:RowAt w 131 5 v l.length (l.flatMap Lot.cells)) :
  ∃ ao cap,v=.slice ao l.length cap∧(l.length≤cap∧cap≤9223372036854775807∧(ao=none→cap=0))∧LotsAt w ao l.length l∧LotsObj w ao:=by
 obtain ⟨h1,⟨rfl,h0⟩|⟨g,off,cap,cur,rfl,⟨fr,hg,_⟩,hc,hm,hs,ht⟩⟩:=h
 ·exact ⟨none,0,by rw [h0],⟨by omega,by omega,fun _=>rfl⟩,⟨rfl,by omega,hwf,fun h=>by omega⟩,fun a e=>by cases e⟩
 ·have hm':cap≤9223372036854775807:=by unfold maxLen at hm;omega
  refine ⟨_,cap,rfl,⟨hc,hm',fun h=>by cases h⟩,⟨rfl,by omega,hwf,fun h0=>⟨g,off,rfl,(Array.getElem?_eq_some_iff.1 hg).1,fun k hk j hj=>?_⟩⟩,fun a e=>by cases e;exact ⟨cur,fr,hg⟩⟩
  rw [← flat_at l k j hk hj,← ht,List.getElem?_take_of_lt (by omega),List.getElem?_drop,Nat.add_assoc]
  simp [World.cell?,hg]
def LevAt (w:World) (ao:Option Addr) (lv:List (List Lot)):Prop:=0<lv.length→∃ b off,ao=some ⟨b,off,none⟩∧b<w.heap.size∧∀ j (hj:j<lv.length),∃ ao' cap',w.cell? ⟨b,off+j,none⟩=some (.slice ao' lv[j].length cap')∧(lv[j].length≤cap'∧cap'≤9223372036854775807∧(ao'=none→cap'=0))∧LotsAt w ao' lv[j].length lv[j]∧LotsObj w ao'
theorem LevAt.ex {w w':World} {ao:Option Addr} {lv:List (List Lot)} (h:LevAt w ao lv) (hx:Ex w w'):LevAt w' ao lv:=fun h0=>by
 obtain ⟨b,off,e,hb,hc⟩:=h h0
 refine ⟨b,off,e,Nat.lt_of_lt_of_le hb hx.below.size,fun j hj=>?_⟩
 obtain ⟨ao',cap',h1,h2,h3,h4⟩:=hc j hj
 exact ⟨ao',cap',(hx.below.cell (p:=⟨b,off+j,none⟩) hb).trans h1,h2,h3.ex hx,h4.ex hx⟩
theorem lev_end {side price:Int} {l:List Lot} {w W:World} {F:Int→Value} {zs:List Int} {ao:Option Addr} {n cap:Nat} (hok:LotsOk l) (h:LvEnd side price l w F W) (hz:zs.length=n) (ho:W.ownsRow w.heap.size 65 1 (.slice ao n cap) n (zs.map F)):LevAt W ao (zs.map fun p=>lotsAtP side price p l):=fun h0=>by
 rcases ho.2 with ⟨e,h1⟩|⟨g,cap',cur,e,hb,hg,hn,hm,hs,ht⟩
 ·simp at h0;omega
 ·injection e with e1 e2 e3
  subst e1
  refine ⟨g,0,rfl,(Array.getElem?_eq_some_iff.1 hg).1,fun j hj=>?_⟩
  have hj':j<zs.length:=by simpa using hj
  rw [List.getElem_map]
  obtain ⟨ao5,cap5,hF,hc5,hl5⟩:=lots_of_row (h.wfrow hok zs[j]) (h.row zs[j])
  refine ⟨ao5,cap5,?_,hc5,hl5⟩
  have e4:(cur.toList.take (n*1))[j]?=(zs.map F)[j]?:=by rw [ht]
  rw [List.getElem?_take,if_pos (by omega),Array.getElem?_toList,List.getElem?_map,List.getElem?_eq_getElem hj'] at e4
  simp only [World.cell?,hg,Nat.zero_add]
  simp only [Option.isSome_none,Bool.false_eq_true,if_false]
  rw [e4]
  simp [hF]
theorem lev_cell {wc w3:World} {o:Obj} {row:Option Nat} {xb j:Nat} {v:Value} (hg:(wc.drew.alloc o).grownBy w3 row) (hne:some xb≠row) (hx:xb<wc.heap.size) (hc:wc.cell? ⟨xb,j,none⟩=some v):w3.cell? ⟨xb,j,none⟩=some v:=by
 rw [World.cell?_of_block (w:=wc) (w':=w3) ?_]
 ·exact hc
 ·exact (hg.block xb (by simp;omega) hne).trans (heap_alloc_old wc.drew o hx)
set_option maxRecDepth 100000 in
set_option maxHeartbeats 8000000 in
theorem levels_any (ao:Option Addr) (len cap:Nat) (l:List Lot) (side price:Int) (w:World) (hl:LotsAt w ao len l) (hok:LotsOk l) (hs:side=0∨side=1) :
  Calls Tryz.prog 210 #[.slice ao len cap,.int .i64 side,.int .i64 price] w fun e w'=>(∃ ao' cap',e=.returned (.slice ao' (levelsL side price l).length cap')∧LevAt w' ao' (levelsL side price l))∧Ex w w':=by
 have HLA:=Lib.hid hl
 have HLEN:=Lib.hid hl.1
 have HOK:=Lib.hid hok
 have hlen:len≤120:=by have:=hl.1;have:=hok.1;omega
 obtain ⟨i0,hi0,hi⟩:=Option.map_eq_some_iff.1 infoInt
 simp only [Prod.mk.injEq] at hi
 obtain ⟨hz0,hz1,hz2⟩:=hi
 obtain ⟨iL,hL0,hi⟩:=Option.map_eq_some_iff.1 infoLot
 simp only [Prod.mk.injEq] at hi
 obtain ⟨hLz,hL1,hL2⟩:=hi
 obtain ⟨iS,hS0,hi⟩:=Option.map_eq_some_iff.1 infoSl
 simp only [Prod.mk.injEq] at hi
 obtain ⟨hSz,hS1,hS2⟩:=hi
 clear hl hok
 have hmm:=@run_makeMap Tryz.prog
 go_enter Tryz.func210,Tryz.ntmps210
 go_wp2_with fail
 go_loopw [8,10,17] (fun v _ i wr=>∃ (k:Nat) (u:Value) (ps:List Int) (F:Int→Value),u=v∧k≤len∧i=.int .i64 k∧LvInv side price l w k u ps F wr) (fun _ _ i _=>len - (intOf i).toNat)
 case atStart=>exact ⟨0,_,[],_,rfl,Nat.zero_le _,rfl,LvInv.start _ _ _ _⟩
 case round =>
  obtain ⟨k,v,ps,F,rfl,hk,rfl,hinv⟩:=hrel
  have HI:=Lib.hid hinv
  have hB:=hinv.below
  have hwz:=hB.size
  by_cases hlt:k<len
  ·have hkl:k<l.length:=by rw [HLEN.out];omega
   obtain ⟨b,off,rfl,hbs,hz⟩:=HLA.out.2.2.2 (by omega)
   have hzk:=hz k hkl
   have ha0:l[k]?=some (l[k]'hkl):=List.getElem?_eq_getElem hkl
   clear hz
   have hcx:∀ j,j<5→wr.cell? ⟨b,off+k*5+j,none⟩=(l[k]'hkl).cells[j]?:=fun j hj=>(hB.cell (p:=⟨b,off+k*5+j,none⟩) hbs).trans (hzk j hj)
   generalize l[k]'hkl=a at hcx ha0
   have hao:=Lot.ok_iff.1 (HOK.out.ok ha0)
   have a0:=hcx 0 (by omega)
   have a1:=hcx 1 (by omega)
   have a2:=hcx 2 (by omega)
   have a3:=hcx 3 (by omega)
   have a4:=hcx 4 (by omega)
   simp only [Lot.cells,List.getElem?_cons_zero,List.getElem?_cons_succ,Nat.add_zero] at a0 a1 a2 a3 a4
   have HA0:=Lib.hid ha0
   clear hcx hzk ha0 hB
   have hbw:b<wr.heap.size:=by omega
   cases h1:(a.side==side)
   ·have h1':(a.side != side)=true:=by simp at h1 ⊢;exact h1
    have HM:Hid (mayT side price a=false):=Lib.hid (by simp [mayT,h1])
    clear hinv
    go_wp2_with fail
    all_goals
     go_roundw
     case measure=>simp [intOf];omega
     case rel=>exact ⟨k+1,_,ps,F,rfl,by omega,by go_num,HI.out.skip HA0.out HM.out (by repeat (first|exact Ex.refl _|refine Ex.alloc ?_ _|refine Ex.ext ?_ _ _|refine Ex.drew ?_|refine Ex.drewN ?_ _))⟩
   have h1':(a.side != side)=false:=by simp at h1 ⊢;exact h1
   by_cases hm:mayT side price a=true
   ·have HMAY:=Lib.hid hm
    have hF:∃ ao1 cap1,F a.price=.slice ao1 (lotsAtP side price a.price (l.take k)).length cap1:=by
     rcases (hinv.row a.price).2 with ⟨h,h0⟩|⟨g,off1,cap1,cur,h,_⟩
     ·exact ⟨none,0,by rw [h,h0]⟩
     ·exact ⟨_,_,h⟩
    obtain ⟨ao1,cap1,hF⟩:=hF
    have HF:=Lib.hid hF
    have hlk:=fun (W:World) (h:MapAt W w.heap.size k F)=>(h.lookup (p:=a.price) (by omega)).trans (by rw [hF])
    generalize hn:(lotsAtP side price a.price (l.take k)).length=n at *
    have HN:=Lib.hid hn
    have hnk:n≤k:=by rw [← hn];exact Nat.le_trans (lotsAtP_len _ _ _ _) (by simp;omega)
    have hpk:=hinv.len
    clear hn
    have hlk1:∀ (ob:Obj),(Instr.lookup 331 (.map (some w.heap.size)) (.int .i64 a.price) false).run Tryz.prog (wr.alloc ob)=.ok (.slice ao1 n cap1) (wr.alloc ob):=fun ob=>hlk _ (hinv.map.alloc ob)
    have HMAP:=Lib.hid hinv.map
    clear hinv hF hlk
    have g1:side=0→¬ a.price<price:=by intro e;subst e;simpa [mayT,h1] using hm
    have g2:side=1→¬ a.price > price:=by intro e;subst e;simpa [mayT,h1] using hm
    clear hm
    rcases hs with rfl|rfl
    ·have g:=g1 rfl
     clear g1 g2
     go_upto_if 50 with fail
     go_cut [8] (fun v wx=>∃ (u:Value) (ps':List Int),u=v∧LvMid 0 price l w k a wr.heap.size u ps' F wx)
     case first =>
      by_cases hn0:n=0
      ·subst hn0
       go_wp2_with (at_builtin;refine wpList_append_own _ rfl (.tmp 51) (.tmp 54) 53 rfl w.heap.size 3 i0 _ 1 8 Tryz.underlying53 hi0 hz0 hz1 hz2 rfl (by decide) v ps.length (ps.map (Value.int .i64)) rfl ?_ _ 1 1 [.int .i64 a.price] rfl rfl ?_ ?_ (by unfold maxLen;omega) (by omega) ?_ ?_;(focus exact (HI.out.prices.alloc _).alloc _);(focus exact World.news_of_block (alloc_at (by simp)));(focus simp [Value.oneCell']);(focus exact (by first|omega|(simp [go_sem];done)|(simp [go_sem];omega)));intro v1 w1 hown hgrow hnil)
       all_goals
        go_meet
        case rel=>exact ⟨_,_,rfl,HI.out.mid_more (List.length_eq_zero_iff.1 HN.out) hown hgrow⟩
      ·have hn1:((n:Int)==0)=false:=by simp;omega
       go_wp2_with fail
       go_meet
       case rel=>exact ⟨_,_,rfl,HI.out.mid_same (fun e=>hn0 (by rw [← HN.out,e];rfl))⟩
     case rest =>
      obtain ⟨u,ps',rfl,hmid⟩:=hcut
      have HMID:=Lib.hid hmid
      have hxl:wr.heap.size<wc.heap.size:=(Array.getElem?_eq_some_iff.1 hmid.xcell).1
      have hxc:∀ j,wc.cell? ⟨wr.heap.size,j,none⟩=(#[.int .i64 a.id,.int .i64 a.owner,.int .i64 a.side,.int .i64 a.price,.int .i64 a.qty]:Array Value)[j]?:=fun j=>by simp [World.cell?,hmid.xcell]
      have x0:=hxc 0
      have x1:=hxc 1
      have x2:=hxc 2
      have x3:=hxc 3
      have x4:=hxc 4
      simp only [List.getElem?_toArray,List.getElem?_cons_zero,List.getElem?_cons_succ] at x0 x1 x2 x3 x4
      have hl0:=fun (W:World) (h:MapAt W w.heap.size k F)=>(h.lookup (p:=a.price) (by omega)).trans (by rw [HF.out])
      have hl1:=hl0 wc.drew hmid.map
      have hl2:=fun ob=>hl0 (wc.drew.alloc ob) ((hmid.map.drew).alloc ob)
      have hl3:=fun ob=>hl0 (wc.alloc ob).drew (hmid.map.alloc ob).drew
      have HROW:Hid (RowAt wc 131 5 (.slice ao1 n cap1) n ((lotsAtP 0 price a.price (l.take k)).flatMap Lot.cells)):=Lib.hid (by have h:=hmid.row a.price;rw [HF.out,HN.out] at h;exact h)
      have HNE1:Hid (some w.heap.size≠(Value.slice ao1 n cap1).ownBlock):=Lib.hid (fun e=>by
       obtain ⟨cs,fr,hc⟩:=rowAt_obj HROW.out e.symm
       obtain ⟨es,c,hm⟩:=hmid.map.isMap
       rw [hm] at hc;cases hc)
      have HNE2:Hid (some wr.heap.size≠(Value.slice ao1 n cap1).ownBlock):=Lib.hid (fun e=>by
       have:=hmid.xlt a.price _ (by rw [HF.out];exact e.symm)
       omega)
      clear hmid hxc hl0 a0 a1 a2 a3 a4 hlk1
      go_wp2_with fail
      go_region_law
       ((refine step_append_keep ?_ (.tmp 62) (.tmp 64) 65 65 ?_ 131 iL _ 5 40 Tryz.underlying65 hL0 hLz hL1 hL2 ?_ (.slice ao1 n cap1) (.slice (some ⟨wc.heap.size,0,none⟩) 1 1) n 1 ((lotsAtP 0 price a.price (l.take k)).flatMap Lot.cells) [.int .i64 a.id,.int .i64 a.owner,.int .i64 a.side,.int .i64 a.price,.int .i64 a.qty] ?_ ?_ ?_ ?_ ?_ ?_ ?_);(focus rfl);(focus rfl);(focus rfl);(focus rfl);(focus (simp [go_sem];done));(focus exact (RowAt.of_block HROW.out (fun g hg=>heap_alloc_old wc.drew _ (HROW.out.lt g hg))));(focus exact (Src.ofSlice _ Tryz.underlying65 _ 1 1 _ rfl (World.news_of_block (cs:=#[.int .i64 a.id,.int .i64 a.owner,.int .i64 a.side,.int .i64 a.price,.int .i64 a.qty]) (t:=131) (fr:=(0,0)) (heap_alloc_new wc.drew _)) (by simp [Value.oneCell'])));(focus (unfold maxLen;omega));(focus omega);intro v3 w3 h31 h32 h33 h34 h35;have hm3:MapAt w3 w.heap.size k F:=MapAt.kept ((HMID.out.map.drew).alloc _) h32 HNE1.out;obtain ⟨w4,hr4,hm4,hg4⟩:=hm3.update (by unfold maxLen;omega) (p:=a.price) (by omega) v3 h34;have H31:=Lib.hid h31;have H32:=Lib.hid h32;have H33:=Lib.hid h33;have H35:=Lib.hid h35;have HM4:=Lib.hid hm4;have HG4:=Lib.hid hg4;have y3:w3.cell? ⟨wr.heap.size,3,none⟩=some (.int .i64 a.price):=lev_cell h32 HNE2.out hxl x3;clear h31 h32 h33 h34 h35 hm3 hm4 hg4)
      all_goals go_wp2_with fail
      all_goals
       go_roundw
       case measure=>simp [intOf];omega
       case rel=>exact ⟨k+1,_,ps',_,rfl,by omega,by go_num,HMID.out.fin HA0.out HMAY.out HF.out HN.out H31.out H32.out H33.out HM4.out HG4.out⟩
    ·have g:=g2 rfl
     clear g1 g2
     go_upto_if 50 with fail
     go_cut [8] (fun v wx=>∃ (u:Value) (ps':List Int),u=v∧LvMid 1 price l w k a wr.heap.size u ps' F wx)
     case first =>
      by_cases hn0:n=0
      ·subst hn0
       go_wp2_with (at_builtin;refine wpList_append_own _ rfl (.tmp 51) (.tmp 54) 53 rfl w.heap.size 3 i0 _ 1 8 Tryz.underlying53 hi0 hz0 hz1 hz2 rfl (by decide) v ps.length (ps.map (Value.int .i64)) rfl ?_ _ 1 1 [.int .i64 a.price] rfl rfl ?_ ?_ (by unfold maxLen;omega) (by omega) ?_ ?_;(focus exact (HI.out.prices.alloc _).alloc _);(focus exact World.news_of_block (alloc_at (by simp)));(focus simp [Value.oneCell']);(focus exact (by first|omega|(simp [go_sem];done)|(simp [go_sem];omega)));intro v1 w1 hown hgrow hnil)
       all_goals
        go_meet
        case rel=>exact ⟨_,_,rfl,HI.out.mid_more (List.length_eq_zero_iff.1 HN.out) hown hgrow⟩
      ·have hn1:((n:Int)==0)=false:=by simp;omega
       go_wp2_with fail
       go_meet
       case rel=>exact ⟨_,_,rfl,HI.out.mid_same (fun e=>hn0 (by rw [← HN.out,e];rfl))⟩
     case rest =>
      obtain ⟨u,ps',rfl,hmid⟩:=hcut
      have HMID:=Lib.hid hmid
      have hxl:wr.heap.size<wc.heap.size:=(Array.getElem?_eq_some_iff.1 hmid.xcell).1
      have hxc:∀ j,wc.cell? ⟨wr.heap.size,j,none⟩=(#[.int .i64 a.id,.int .i64 a.owner,.int .i64 a.side,.int .i64 a.price,.int .i64 a.qty]:Array Value)[j]?:=fun j=>by simp [World.cell?,hmid.xcell]
      have x0:=hxc 0
      have x1:=hxc 1
      have x2:=hxc 2
      have x3:=hxc 3
      have x4:=hxc 4
      simp only [List.getElem?_toArray,List.getElem?_cons_zero,List.getElem?_cons_succ] at x0 x1 x2 x3 x4
      have hl0:=fun (W:World) (h:MapAt W w.heap.size k F)=>(h.lookup (p:=a.price) (by omega)).trans (by rw [HF.out])
      have hl1:=hl0 wc.drew hmid.map
      have hl2:=fun ob=>hl0 (wc.drew.alloc ob) ((hmid.map.drew).alloc ob)
      have hl3:=fun ob=>hl0 (wc.alloc ob).drew (hmid.map.alloc ob).drew
      have HROW:Hid (RowAt wc 131 5 (.slice ao1 n cap1) n ((lotsAtP 1 price a.price (l.take k)).flatMap Lot.cells)):=Lib.hid (by have h:=hmid.row a.price;rw [HF.out,HN.out] at h;exact h)
      have HNE1:Hid (some w.heap.size≠(Value.slice ao1 n cap1).ownBlock):=Lib.hid (fun e=>by
       obtain ⟨cs,fr,hc⟩:=rowAt_obj HROW.out e.symm
       obtain ⟨es,c,hm⟩:=hmid.map.isMap
       rw [hm] at hc;cases hc)
      have HNE2:Hid (some wr.heap.size≠(Value.slice ao1 n cap1).ownBlock):=Lib.hid (fun e=>by
       have:=hmid.xlt a.price _ (by rw [HF.out];exact e.symm)
       omega)
      clear hmid hxc hl0 a0 a1 a2 a3 a4 hlk1
      go_wp2_with fail
      go_region_law
       ((refine step_append_keep ?_ (.tmp 62) (.tmp 64) 65 65 ?_ 131 iL _ 5 40 Tryz.underlying65 hL0 hLz hL1 hL2 ?_ (.slice ao1 n cap1) (.slice (some ⟨wc.heap.size,0,none⟩) 1 1) n 1 ((lotsAtP 1 price a.price (l.take k)).flatMap Lot.cells) [.int .i64 a.id,.int .i64 a.owner,.int .i64 a.side,.int .i64 a.price,.int .i64 a.qty] ?_ ?_ ?_ ?_ ?_ ?_ ?_);(focus rfl);(focus rfl);(focus rfl);(focus rfl);(focus (simp [go_sem];done));(focus exact (RowAt.of_block HROW.out (fun g hg=>heap_alloc_old wc.drew _ (HROW.out.lt g hg))));(focus exact (Src.ofSlice _ Tryz.underlying65 _ 1 1 _ rfl (World.news_of_block (cs:=#[.int .i64 a.id,.int .i64 a.owner,.int .i64 a.side,.int .i64 a.price,.int .i64 a.qty]) (t:=131) (fr:=(0,0)) (heap_alloc_new wc.drew _)) (by simp [Value.oneCell'])));(focus (unfold maxLen;omega));(focus omega);intro v3 w3 h31 h32 h33 h34 h35;have hm3:MapAt w3 w.heap.size k F:=MapAt.kept ((HMID.out.map.drew).alloc _) h32 HNE1.out;obtain ⟨w4,hr4,hm4,hg4⟩:=hm3.update (by unfold maxLen;omega) (p:=a.price) (by omega) v3 h34;have H31:=Lib.hid h31;have H32:=Lib.hid h32;have H33:=Lib.hid h33;have H35:=Lib.hid h35;have HM4:=Lib.hid hm4;have HG4:=Lib.hid hg4;have y3:w3.cell? ⟨wr.heap.size,3,none⟩=some (.int .i64 a.price):=lev_cell h32 HNE2.out hxl x3;clear h31 h32 h33 h34 h35 hm3 hm4 hg4)
      all_goals go_wp2_with fail
      all_goals
       go_roundw
       case measure=>simp [intOf];omega
       case rel=>exact ⟨k+1,_,ps',_,rfl,by omega,by go_num,HMID.out.fin HA0.out HMAY.out HF.out HN.out H31.out H32.out H33.out HM4.out HG4.out⟩
   ·have HM:Hid (mayT side price a=false):=Lib.hid (by simpa using hm)
    clear hinv
    rcases hs with rfl|rfl
    ·have g:a.price<price:=by simpa [mayT,h1] using hm
     clear hm
     go_wp2_with fail
     all_goals
      go_roundw
      case measure=>simp [intOf];omega
      case rel=>exact ⟨k+1,_,ps,F,rfl,by omega,by go_num,HI.out.skip HA0.out HM.out (by repeat (first|exact Ex.refl _|refine Ex.alloc ?_ _|refine Ex.ext ?_ _ _|refine Ex.drew ?_|refine Ex.drewN ?_ _))⟩
    ·have g:a.price > price:=by simpa [mayT,h1] using hm
     clear hm
     go_wp2_with fail
     all_goals
      go_roundw
      case measure=>simp [intOf];omega
      case rel=>exact ⟨k+1,_,ps,F,rfl,by omega,by go_num,HI.out.skip HA0.out HM.out (by repeat (first|exact Ex.refl _|refine Ex.alloc ?_ _|refine Ex.ext ?_ _ _|refine Ex.drew ?_|refine Ex.drewN ?_ _))⟩
  ·obtain rfl:k=len:=by omega
   rcases hs with rfl|rfl
   ·have HZS:=Lib.hid (sorted_levP HI.out.nodup (fun p=>by rw [HI.out.mem p,List.take_of_length_le (by rw [HLEN.out];exact Nat.le_refl _)]):(ps.mergeSort fun x y=>decide (x≤y))=levP 0 price l)
    obtain ⟨ao1,cap1,rfl⟩:=owns_form hinv.prices
    have hpk:=hinv.len
    have HE0:=Lib.hid (LvEnd.of_inv HI.out HLEN.out)
    have HSO:=Lib.hid (sort_row hinv.prices (by omega))
    have hpl:(levP 0 price l).length=ps.length:=by rw [← HZS.out];simp
    have HBD:=Lib.hid (levP_bound (side:=0) (price:=price) HOK.out)
    rw [HZS.out] at HSO
    generalize ps.length=m at *
    have hm120:m≤120:=by omega
    have HPR:=Lib.hid hinv.prices
    clear hinv
    go_wp2_with fail
    refine HSO.out.mono ?_
    rintro e w1 ⟨rfl,hown1,hgr1⟩
    have HE1:=Lib.hid (HE0.out.kept HPR.out (by decide) (Nat.le_refl _) hgr1)
    have HO1:=Lib.hid hown1
    have HRV:=Lib.hid (reverse_row hown1 (by omega))
    clear hown1 hgr1
    go_wp2_with fail
    refine HRV.out.mono ?_
    rintro e w2 ⟨rfl,hown2,hgr2⟩
    have HE2:=Lib.hid (HE1.out.kept HO1.out (by decide) (Nat.le_refl _) hgr2)
    have HO2:=Lib.hid hown2
    have HZL:Hid ((levP 0 price l).reverse.length=m):=Lib.hid (by simpa using hpl)
    have HBZ:Hid (∀ z∈(levP 0 price l).reverse,1≤z∧z≤1000):=Lib.hid (fun z hz=>HBD.out z (by simpa using hz))
    have HLV:Hid ((levP 0 price l).reverse.map (fun p=>lotsAtP 0 price p l)=levelsL 0 price l):=Lib.hid rfl
    clear hown2 hgr2 hpl
    generalize (levP 0 price l).reverse=zs at *
    go_wp2_with fail
    go_loopw [11,13,75] (fun v _ i wr=>∃ (j:Nat) (u2:Value),u2=v∧j≤m∧i=.int .i64 j∧LvEnd 0 price l w F wr∧wr.ownsRow w.heap.size 3 1 (.slice ao1 m cap1) m (zs.map (Value.int .i64))∧wr.ownsRow w.heap.size 65 1 u2 j ((zs.take j).map F)) (fun _ _ i _=>m - (intOf i).toNat)
    case atStart=>exact ⟨0,_,rfl,Nat.zero_le _,rfl,HE2.out,HO2.out,World.ownsRow_nil _ _ _ _⟩
    case round =>
     obtain ⟨j,u2,rfl,hj,rfl,he,hpo,hou⟩:=hrel
     have HE3:=Lib.hid he
     have HP3:=Lib.hid hpo
     have HO3:=Lib.hid hou
     have hb3:=he.below.size
     by_cases hjm:j<m
     ·have hjz:j<zs.length:=by rw [HZL.out];exact hjm
      obtain ⟨g,cap4,e,hbg,hlg,hn4,hm4,hlz,hH⟩:=Lib.holds_of_ownsRow hpo (by intro e;injection e;omega)
      cases e
      have hcj:=(hH j (by simpa using hjz)).1
      have hzm:zs[j]∈zs:=List.getElem_mem hjz
      have hzb:=HBZ.out _ hzm
      have htk:zs.take (j+1)=zs.take j++[zs[j]]:=by rw [List.take_add_one,List.getElem?_eq_getElem hjz];rfl
      rw [show zs.toArray[j]! = zs[j] by simp [getElem!_pos,hjz],Nat.zero_add] at hcj
      generalize zs[j]=z at *
      have HTK:=Lib.hid htk
      obtain ⟨ao5,cap5,hF,_⟩:=lots_of_row (he.wfrow HOK.out z) (he.row z)
      have hlk:=(he.map.lookup (p:=z) (by omega)).trans (by rw [hF])
      have HFZ:=Lib.hid hF
      clear he hpo hou hH hzm htk hF
      go_wp2_with (at_builtin;refine wpList_append_own _ rfl (.tmp 79) (.tmp 83) 326 rfl w.heap.size 65 iS _ 1 24 Tryz.underlying326 hS0 hSz hS1 hS2 rfl (by decide) u2 j ((zs.take j).map F) rfl ?_ _ 1 1 [.slice ao5 (lotsAtP 0 price z l).length cap5] rfl rfl ?_ ?_ (by unfold maxLen;omega) (by omega) ?_ ?_;(focus (refine HO3.out.kept (Below.grownBy ?_) (Classical.em _);((refine Below.trans (Below.refl _ _) ?_;repeat (first|exact Below.refl _ _|(refine Below.drew ?_)|(refine Below.drewN ?_ _)|(refine Below.ext ?_ (by first|omega|(simp [go_sem];done)|(simp [go_sem];omega)) _ _)|(refine Below.alloc ?_ (by first|omega|(simp [go_sem];done)|(simp [go_sem];omega)) _)|(refine Below.setCell ?_ (by first|omega|(simp [go_sem];done)|(simp [go_sem];omega)) _))))));(focus exact World.news_of_block (alloc_at rfl));(focus simp [Value.oneCell']);(focus exact (by first|omega|(simp [go_sem];done)|(simp [go_sem];omega)));intro v5 w5 hown5 hgr5 _)
      all_goals
       go_roundw
       case measure=>simp [intOf];omega
       case rel =>
        refine ⟨j+1,_,rfl,by omega,by go_num,?_,?_,?_⟩
        ·exact (HE3.out.alloc _).kept (HO3.out.alloc _) (by decide) (Nat.le_refl _) hgr5
        ·exact (HP3.out.alloc _).kept hgr5 (owns_apart HP3.out HO3.out (by decide))
        ·rw [HTK.out,List.map_append,List.map_cons,List.map_nil,HFZ.out]
         exact hown5
     ·obtain rfl:j=m:=by omega
      obtain ⟨ao6,cap6,rfl⟩:=owns_form hou
      have hlev:=lev_end HOK.out HE3.out (zs:=zs) (by rw [HZL.out]) (by rw [List.take_of_length_le (by rw [HZL.out];exact Nat.le_refl _)] at hou;exact hou)
      rw [HLV.out] at hlev
      have HLE:=Lib.hid hlev
      have HBX:=Lib.hid (Ex.of he.below)
      have hlvl:(levelsL 0 price l).length=j:=by rw [← HLV.out,List.length_map,HZL.out]
      have HLL:=Lib.hid hlvl
      clear he hpo hou hlev hlvl
      go_wp2_with fail
      go_ret
      exact ⟨⟨_,cap6,by rw [HLL.out];rfl,HLE.out.ex (by repeat (first|exact Ex.refl _|refine Ex.alloc ?_ _|refine Ex.ext ?_ _ _|refine Ex.drew ?_|refine Ex.drewN ?_ _))⟩,HBX.out.trans (by repeat (first|exact Ex.refl _|refine Ex.alloc ?_ _|refine Ex.ext ?_ _ _|refine Ex.drew ?_|refine Ex.drewN ?_ _))⟩
   ·have HZS:=Lib.hid (sorted_levP HI.out.nodup (fun p=>by rw [HI.out.mem p,List.take_of_length_le (by rw [HLEN.out];exact Nat.le_refl _)]):(ps.mergeSort fun x y=>decide (x≤y))=levP 1 price l)
    obtain ⟨ao1,cap1,rfl⟩:=owns_form hinv.prices
    have hpk:=hinv.len
    have HE0:=Lib.hid (LvEnd.of_inv HI.out HLEN.out)
    have HSO:=Lib.hid (sort_row hinv.prices (by omega))
    have hpl:(levP 1 price l).length=ps.length:=by rw [← HZS.out];simp
    have HBD:=Lib.hid (levP_bound (side:=1) (price:=price) HOK.out)
    rw [HZS.out] at HSO
    generalize ps.length=m at *
    have hm120:m≤120:=by omega
    have HPR:=Lib.hid hinv.prices
    clear hinv
    go_wp2_with fail
    refine HSO.out.mono ?_
    rintro e w1 ⟨rfl,hown1,hgr1⟩
    have HE1:=Lib.hid (HE0.out.kept HPR.out (by decide) (Nat.le_refl _) hgr1)
    have HO1:=Lib.hid hown1
    have HRV:=Lib.hid (reverse_row hown1 (by omega))
    clear hown1 hgr1
    have HE2:=HE1
    have HO2:=HO1
    have HZL:Hid ((levP 1 price l).length=m):=Lib.hid hpl
    have HBZ:=HBD
    have HLV:Hid ((levP 1 price l).map (fun p=>lotsAtP 1 price p l)=levelsL 1 price l):=Lib.hid rfl
    clear hpl HRV
    generalize levP 1 price l=zs at *
    go_wp2_with fail
    go_loopw [11,13,75] (fun v _ i wr=>∃ (j:Nat) (u2:Value),u2=v∧j≤m∧i=.int .i64 j∧LvEnd 1 price l w F wr∧wr.ownsRow w.heap.size 3 1 (.slice ao1 m cap1) m (zs.map (Value.int .i64))∧wr.ownsRow w.heap.size 65 1 u2 j ((zs.take j).map F)) (fun _ _ i _=>m - (intOf i).toNat)
    case atStart=>exact ⟨0,_,rfl,Nat.zero_le _,rfl,HE2.out,HO2.out,World.ownsRow_nil _ _ _ _⟩
    case round =>
     obtain ⟨j,u2,rfl,hj,rfl,he,hpo,hou⟩:=hrel
     have HE3:=Lib.hid he
     have HP3:=Lib.hid hpo
     have HO3:=Lib.hid hou
     have hb3:=he.below.size
     by_cases hjm:j<m
     ·have hjz:j<zs.length:=by rw [HZL.out];exact hjm
      obtain ⟨g,cap4,e,hbg,hlg,hn4,hm4,hlz,hH⟩:=Lib.holds_of_ownsRow hpo (by intro e;injection e;omega)
      cases e
      have hcj:=(hH j (by simpa using hjz)).1
      have hzm:zs[j]∈zs:=List.getElem_mem hjz
      have hzb:=HBZ.out _ hzm
      have htk:zs.take (j+1)=zs.take j++[zs[j]]:=by rw [List.take_add_one,List.getElem?_eq_getElem hjz];rfl
      rw [show zs.toArray[j]! = zs[j] by simp [getElem!_pos,hjz],Nat.zero_add] at hcj
      generalize zs[j]=z at *
      have HTK:=Lib.hid htk
      obtain ⟨ao5,cap5,hF,_⟩:=lots_of_row (he.wfrow HOK.out z) (he.row z)
      have hlk:=(he.map.lookup (p:=z) (by omega)).trans (by rw [hF])
      have HFZ:=Lib.hid hF
      clear he hpo hou hH hzm htk hF
      go_wp2_with (at_builtin;refine wpList_append_own _ rfl (.tmp 79) (.tmp 83) 326 rfl w.heap.size 65 iS _ 1 24 Tryz.underlying326 hS0 hSz hS1 hS2 rfl (by decide) u2 j ((zs.take j).map F) rfl ?_ _ 1 1 [.slice ao5 (lotsAtP 1 price z l).length cap5] rfl rfl ?_ ?_ (by unfold maxLen;omega) (by omega) ?_ ?_;(focus (refine HO3.out.kept (Below.grownBy ?_) (Classical.em _);((refine Below.trans (Below.refl _ _) ?_;repeat (first|exact Below.refl _ _|(refine Below.drew ?_)|(refine Below.drewN ?_ _)|(refine Below.ext ?_ (by first|omega|(simp [go_sem];done)|(simp [go_sem];omega)) _ _)|(refine Below.alloc ?_ (by first|omega|(simp [go_sem];done)|(simp [go_sem];omega)) _)|(refine Below.setCell ?_ (by first|omega|(simp [go_sem];done)|(simp [go_sem];omega)) _))))));(focus exact World.news_of_block (alloc_at rfl));(focus simp [Value.oneCell']);(focus exact (by first|omega|(simp [go_sem];done)|(simp [go_sem];omega)));intro v5 w5 hown5 hgr5 _)
      all_goals
       go_roundw
       case measure=>simp [intOf];omega
       case rel =>
        refine ⟨j+1,_,rfl,by omega,by go_num,?_,?_,?_⟩
        ·exact (HE3.out.alloc _).kept (HO3.out.alloc _) (by decide) (Nat.le_refl _) hgr5
        ·exact (HP3.out.alloc _).kept hgr5 (owns_apart HP3.out HO3.out (by decide))
        ·rw [HTK.out,List.map_append,List.map_cons,List.map_nil,HFZ.out]
         exact hown5
     ·obtain rfl:j=m:=by omega
      obtain ⟨ao6,cap6,rfl⟩:=owns_form hou
      have hlev:=lev_end HOK.out HE3.out (zs:=zs) (by rw [HZL.out]) (by rw [List.take_of_length_le (by rw [HZL.out];exact Nat.le_refl _)] at hou;exact hou)
      rw [HLV.out] at hlev
      have HLE:=Lib.hid hlev
      have HBX:=Lib.hid (Ex.of he.below)
      have hlvl:(levelsL 1 price l).length=j:=by rw [← HLV.out,List.length_map,HZL.out]
      have HLL:=Lib.hid hlvl
      clear he hpo hou hlev hlvl
      go_wp2_with fail
      go_ret
      exact ⟨⟨_,cap6,by rw [HLL.out];rfl,HLE.out.ex (by repeat (first|exact Ex.refl _|refine Ex.alloc ?_ _|refine Ex.ext ?_ _ _|refine Ex.drew ?_|refine Ex.drewN ?_ _))⟩,HBX.out.trans (by repeat (first|exact Ex.refl _|refine Ex.alloc ?_ _|refine Ex.ext ?_ _ _|refine Ex.drew ?_|refine Ex.drewN ?_ _))⟩
end Go.Proofs.YtabbgpjofkaomaaGreatDoor
