import Derived.WalkKit
import Derived.Lib.Hide
import Derived.BigQuiet
import Derived.Deep.QuietTactic
import Derived.RegionTactic
import Derived.Handy
import Derived.Deep.AppendSrc
import Derived.Laws.AppendOwn
import Derived.Deep.OwnRows
import Derived.Test.YtabbgpjofkaomaaGreatDoorCards
import Derived.Test.YtabbgpjofkaomaaGreatDoorTie
import Derived.ProofKit
import Derived.OpenShut
import Derived.Stop.LaidErr
import Derived.LaidMore
import Derived.MakeChecks
import Derived.Deep.DeepHandedRow
import Derived.Deep.DeepWitnessRowRef
import Derived.Deep.Slices
set_option linter.unusedSimpArgs false
set_option linter.unusedVariables false
/- Plain facts on worlds: a world with new blocks laid behind it and some draws made ('ext'), as the walk reads it. No condition. -/
namespace Go.Proofs.YtabbgpjofkaomaaGreatDoor
open Go.RowKit
theorem ret_bool {a b:Bool} (h:a=b):Ending.returned (.bool a)=.returned (.bool b):=by rw [h]
theorem ret_int {k:IntKind} {a b:Int} (h:a=b):Ending.returned (.int k a)=.returned (.int k b):=by rw [h]
def ext (w:World) (l:List Obj) (d:Nat):World:={ w with heap:=w.heap++l.toArray,drawn:=d }
def farCell (w:World) (a:Addr):Option Value:=w.cell? a
def farFrozen (w:World) (a:Addr):Bool:=w.frozen? a
def farSet (w:World) (a:Addr) (v:Value):World:=w.setCell a v
section
variable (w:World) (l:List Obj) (d n i:Nat)
def pickEq {α:Type} (n m:Nat) (a b:α):α:=if n=m then a else b
def pickLt {α:Type} (n m:Nat) (a b:α):α:=if n<m then a else b
@[congr] theorem pickEq_congr {α:Type} {n m m':Nat} (a b:α) (h:m=m'):pickEq n m a b=pickEq n m' a b:=by rw [h]
@[congr] theorem pickLt_congr {α:Type} {n m m':Nat} (a b:α) (h:m=m'):pickLt n m a b=pickLt n m' a b:=by rw [h]
@[go_sem] theorem pickEq_eq {α:Type} (n m:Nat) (a b:α):pickEq n m a b=if n=m then a else b:=rfl
@[go_sem] theorem pickLt_eq {α:Type} (n m:Nat) (a b:α):pickLt n m a b=if n<m then a else b:=rfl
@[go_sem] theorem ext_size:(ext w l d).heap.size=w.heap.size+l.length:=by simp [ext]
theorem ext_heap_lt (k:Nat) (h:k<w.heap.size):(ext w l d).heap[k]?=w.heap[k]?:=by
 simp only [ext]
 rw [Array.getElem?_append_left h]
@[go_sem] theorem ext_cell:(ext w l d).cell? ⟨n,i,none⟩=pickLt n w.heap.size (w.cell? ⟨n,i,none⟩) (farCell (ext w l d) ⟨n,i,none⟩):=by
 unfold pickLt
 split
 ·rename_i h;exact World.cell?_of_block (w:=w) (ext_heap_lt w l d n h)
 ·rfl
@[go_sem] theorem ext_frozen:(ext w l d).frozen? ⟨n,i,none⟩=pickLt n w.heap.size (w.frozen? ⟨n,i,none⟩) (farFrozen (ext w l d) ⟨n,i,none⟩):=by
 unfold pickLt
 split
 ·rename_i h;exact World.frozen?_of_block (w:=w) (ext_heap_lt w l d n h)
 ·rfl
theorem ext_set_lt (v:Value) (h:n<w.heap.size):(ext w l d).setCell ⟨n,i,none⟩ v=ext (w.setCell ⟨n,i,none⟩ v) l d:=by
 simp only [ext,World.setCell]
 congr 1
 apply Array.ext_getElem?
 intro k
 simp only [Array.getElem?_modify]
 by_cases hk:k<w.heap.size
 ·rw [Array.getElem?_append_left hk,Array.getElem?_append_left (by simpa using hk),Array.getElem?_modify]
 ·rw [Array.getElem?_append_right (by omega),Array.getElem?_append_right (by simp;omega)]
  rw [if_neg (by omega)]
  simp
@[go_sem] theorem ext_set (v:Value):(ext w l d).setCell ⟨n,i,none⟩ v=pickLt n w.heap.size (ext (w.setCell ⟨n,i,none⟩ v) l d) (farSet (ext w l d) ⟨n,i,none⟩ v):=by
 unfold pickLt
 split
 ·rename_i h;exact ext_set_lt w l d n i v h
 ·rfl
@[go_sem] theorem ext_drew:(ext w l d).drew=ext w l (d+1):=rfl
@[go_sem] theorem ext_drawn:(ext w l d).drawn=d:=rfl
@[go_sem] theorem ext_tape:(ext w l d).tape=w.tape:=rfl
@[go_sem] theorem ext_ext (l':List Obj) (d':Nat):ext (ext w l d) l' d'=ext w (l++l') d':=by
 simp [ext]
@[go_sem high] theorem alloc_cell (c:Array Value) (t:TypeId):(w.alloc (.cells c t)).cell? ⟨n,i,none⟩=pickEq n w.heap.size (c[i]?) (w.cell? ⟨n,i,none⟩):=by
 unfold pickEq
 split
 ·rename_i h;exact World.cell?_alloc_at c t n i h
 ·rename_i h;exact World.cell?_alloc_old w _ ⟨n,i,none⟩ h
@[go_sem high] theorem alloc_frozen (c:Array Value) (t:TypeId):(w.alloc (.cells c t)).frozen? ⟨n,i,none⟩=pickEq n w.heap.size false (w.frozen? ⟨n,i,none⟩):=by
 unfold pickEq
 split
 ·rename_i h;exact World.frozen?_alloc_at c t n i h
 ·rename_i h;exact World.frozen?_alloc_old w _ ⟨n,i,none⟩ h
@[go_sem high] theorem alloc_set (c:Array Value) (t:TypeId) (v:Value):(w.alloc (.cells c t)).setCell ⟨n,i,none⟩ v =
  pickEq n w.heap.size (w.alloc (.cells (c.setIfInBounds i v) t)) (pickLt n w.heap.size ((w.setCell ⟨n,i,none⟩ v).alloc (.cells c t)) (farSet (w.alloc (.cells c t)) ⟨n,i,none⟩ v)):=by
 unfold pickEq pickLt
 split
 ·rename_i h;exact World.setCell_alloc_at c t n i v h
 ·split
  ·rename_i h;exact World.setCell_alloc_past _ n i v h
  ·rfl
end
theorem ext_of_below {w w':World} (h:Below w.heap.size w w'):∃ l d,w'=ext w l d:=by
 refine ⟨w'.heap.toList.drop w.heap.size,w'.drawn,?_⟩
 obtain ⟨h1,h2,h3,h4,h5⟩:=h
 cases w'
 simp only [ext] at *
 subst h1 h2 h3
 congr 1
 apply Array.ext_getElem?
 intro k
 by_cases hk:k<w.heap.size
 ·rw [Array.getElem?_append_left hk];exact h5 k hk
 ·rw [Array.getElem?_append_right (by omega)]
  simp
  congr 1
  omega
def Ex (w w':World):Prop:=∃ l d,w'=ext w l d
theorem Ex.of {w w':World} (h:Below w.heap.size w w'):Ex w w':=ext_of_below h
theorem Ex.below {w w':World} (h:Ex w w'):Below w.heap.size w w':=by
 obtain ⟨l,d,rfl⟩:=h
 exact ⟨rfl,rfl,rfl,by simp [ext],fun k hk=>ext_heap_lt _ _ _ k hk⟩
theorem Ex.refl (w:World):Ex w w:=Ex.of (Below.refl _ _)
theorem Ex.alloc {w w':World} (h:Ex w w') (o:Obj):Ex w (w'.alloc o):=Ex.of (Below.alloc h.below h.below.size o)
theorem Ex.drew {w w':World} (h:Ex w w'):Ex w w'.drew:=Ex.of h.below.drew
theorem Ex.trans {w w' w'':World} (h:Ex w w') (k:Ex w' w''):Ex w w'':=Ex.of (h.below.trans (k.below.mono h.below.size))
theorem Ex.ext {w w':World} (h:Ex w w') (l:List Obj) (d:Nat):Ex w (ext w' l d):=h.trans ⟨l,d,rfl⟩
theorem Below.drewN {B:Nat} {a w:World} (h:Below B a w) (n:Nat):Below B a (w.drewN n):=h.trans ⟨rfl,rfl,rfl,Nat.le_refl _,fun _ _=>rfl⟩
theorem Ex.drewN {w w':World} (h:Ex w w') (n:Nat):Ex w (w'.drewN n):=Ex.of (Below.drewN h.below n)
@[go_sem] theorem ext_drewN (w:World) (l:List Obj) (d n:Nat):(ext w l d).drewN n=ext w l (d+n):=rfl
theorem Below.ext {B:Nat} {a w:World} (h:Below B a w) (hB:B≤w.heap.size) (l:List Obj) (d:Nat):Below B a (ext w l d) :=
 h.trans ⟨rfl,rfl,rfl,by simp [Proofs.YtabbgpjofkaomaaGreatDoor.ext],fun k hk=>ext_heap_lt _ _ _ k (by omega)⟩
end Go.Proofs.YtabbgpjofkaomaaGreatDoor

/- Slices that an object holds: a stretch of a block of its own. What append makes of them. No condition. -/
namespace Go.Proofs.YtabbgpjofkaomaaGreatDoor
open Go.RowKit
def Unmarked (cur:Array Value) (fr:Nat × Nat):Prop:=fr.2=0∨cur.size≤fr.1
theorem Unmarked.plain (cur:Array Value):Unmarked cur (0,0):=.inl rfl
theorem Unmarked.frozen {w:World} {g o:Nat} {cur:Array Value} {t:TypeId} {fr:Nat × Nat} (h:Unmarked cur fr) (hg:w.heap[g]?=some (.cells cur t fr)) (hi:o<cur.size):w.frozen? ⟨g,o,none⟩=false:=by
 obtain ⟨lo,hi'⟩:=fr
 simp only [World.frozen?,hg,Bool.and_eq_false_iff,decide_eq_false_iff_not]
 rcases h with h|h<;>simp only at h
 ·right;omega
 ·left;omega
theorem run_storeCells_fr (P:Program) (g o:Nat) (t:TypeId) (fz:Nat × Nat):∀ (vs:List Value) (i:Nat) (cur:Array Value) (w:World),w.heap[g]?=some (.cells cur t fz)→Unmarked cur fz→o+i+vs.length≤cur.size→(∀ v∈vs,v.oneCell'=true) →
  (storeCells ⟨g,o,none⟩ vs i).run P w=.ok () (w.setRow g (cur.toList.take (o+i)++vs++cur.toList.drop (o+i+vs.length)).toArray)
 | [],i,cur,w,hg,_,_,_=>by
  simp only [storeCells,List.append_nil,List.length_nil,Nat.add_zero,List.take_append_drop,Array.toArray_toList]
  rw [setRow_self w g cur t fz hg]
  rfl
 | v::rest,i,cur,w,hg,hfz,hl,h1=>by
  have hi:o+i<cur.size:=by simp at hl;omega
  have hadd:(⟨g,o,none⟩:Addr).add i=⟨g,o+i,none⟩:=by unfold Addr.add;split<;>simp_all
  have hcell:w.cell? ⟨g,o+i,none⟩=some cur[o+i]:=by simp [World.cell?,hg,hi]
  have hfro:w.frozen? ⟨g,o+i,none⟩=false:=hfz.frozen hg hi
  have hst:(store ((⟨g,o,none⟩:Addr).add i) v).run P w=.ok () (w.setRow g (cur.setIfInBounds (o+i) v)):=by
   rw [hadd,run_store P w _ v _ (h1 v (by simp)),hcell]
   simp [hfro,setCell_eq_setRow w g (o+i) cur t fz v hg]
  have ih:=run_storeCells_fr P g o t fz rest (i+1) (cur.setIfInBounds (o+i) v) (w.setRow g (cur.setIfInBounds (o+i) v)) (setRow_heap w g cur _ t _ hg) (by unfold Unmarked at *;simpa using hfz) (by simp at hl ⊢;omega) (fun x hx=>h1 x (by simp [hx]))
  simp only [storeCells,Sem.run_bind,hst,Result.andThen_ok,ih,setRow_setRow]
  congr 3
  have e:=list_seg_step cur.toList (o+i) v rest (by simp at hl ⊢;omega)
  simpa [Array.toList_setIfInBounds,Nat.add_assoc] using e
def RowAt (w:World) (e:TypeId) (size:Nat) (v:Value) (n:Nat) (xs:List Value):Prop :=
 xs.length=n*size ∧
 ((v=.slice none 0 0∧n=0) ∨
  ∃ g off cap cur,v=.slice (some ⟨g,off,none⟩) n cap∧(∃ fr,w.heap[g]?=some (.cells cur e fr)∧Unmarked cur fr)∧n≤cap∧cap≤maxLen∧off+cap*size≤cur.size∧(cur.toList.drop off).take (n*size)=xs)
theorem RowAt.nil (w:World) (e:TypeId) (size:Nat):RowAt w e size (.slice none 0 0) 0 []:=⟨by simp,.inl ⟨rfl,rfl⟩⟩
theorem RowAt.of_block {w w':World} {e:TypeId} {size:Nat} {v:Value} {n:Nat} {xs:List Value} (h:RowAt w e size v n xs) (hb:∀ g,v.ownBlock=some g→w'.heap[g]?=w.heap[g]?):RowAt w' e size v n xs:=by
 obtain ⟨h1,h2|⟨g,off,cap,cur,rfl,⟨fr,hg,hf⟩,hr⟩⟩:=h
 ·exact ⟨h1,.inl h2⟩
 ·exact ⟨h1,.inr ⟨g,off,cap,cur,rfl,⟨fr,(hb g rfl).trans hg,hf⟩,hr⟩⟩
theorem RowAt.lt {w:World} {e:TypeId} {size:Nat} {v:Value} {n:Nat} {xs:List Value} (h:RowAt w e size v n xs):∀ g,v.ownBlock=some g→g<w.heap.size:=by
 obtain ⟨h1,⟨rfl,_⟩|⟨g,off,cap,cur,rfl,⟨fr,hg,hf⟩,hr⟩⟩:=h
 ·intro g hg;cases hg
 ·intro g' hg'
  cases hg'
  exact (Array.getElem?_eq_some_iff.1 hg).1
theorem grownBy_refl (w:World) (row:Option Nat):w.grownBy w row:=⟨rfl,rfl,rfl,Nat.le_refl _,fun _ _ _=>rfl⟩
theorem run_append_row {P:Program} (t tx ty e:TypeId) (i:TypeInfo) (z:Value) (size bytes:Nat) (ht:P.underlying t=some (.slice e)) (hi:P.info? e=some i) (hz:i.zero=some z)
  (hsize:i.size=size) (hby:i.bytes=bytes) (hzs:z.cells.size=size)
  {w:World} {v x:Value} {n m:Nat} {xs news:List Value} (h:RowAt w e size v n xs) (hs:Src P size tx x m news w)
  (h63:n+m≤maxLen) (hbytes:(n+m)*bytes≤140737488355328) :
  ∃ v' w',(Builtin.append_ #[t,tx] ty #[v,x]).run P w=.ok v' w'∧RowAt w' e size v' (n+m) (xs++news)∧w.grownBy w' v.ownBlock ∧
   (v'.ownBlock=v.ownBlock∨v'.ownBlock=some w.heap.size)∧(v'=.slice none 0 0↔v=.slice none 0 0∧m=0):=by
 subst hsize
 subst hby
 have hsmall:n+m≤9223372036854775807:=by simp only [maxLen] at h63;omega
 have hlen:(xs++news).length=(n+m)*i.size:=by rw [List.length_append,h.1,hs.newsLen,Nat.add_mul]
 have grown:∀ (old:Nat),old<n+m→∀ (row:Option Nat),
   RowAt (w.drew.alloc (.cells ((xs++news).toArray++Builtin.zeroCells z.cells (grownCap w (n+m) old e - (n+m))) e)) e i.size
    (.slice (some ⟨w.heap.size,0,none⟩) (n+m) (grownCap w (n+m) old e)) (n+m) (xs++news) ∧
   w.grownBy (w.drew.alloc (.cells ((xs++news).toArray++Builtin.zeroCells z.cells (grownCap w (n+m) old e - (n+m))) e)) row:=by
  intro old ho row
  have hge:=grownCap_ge w (n+m) old e
  have hcm:grownCap w (n+m) old e≤maxLen:=grownCap_le_maxLen w (n+m) old e h63
  refine ⟨⟨hlen,.inr ⟨w.heap.size,0,_,_,rfl,⟨_,heap_alloc_new w.drew _,Unmarked.plain _⟩,hge,hcm,?_,?_⟩⟩,⟨rfl,rfl,rfl,by simp,fun k hk _=>heap_alloc_old w.drew _ hk⟩⟩
  ·simp only [Array.size_append,List.size_toArray,size_zeroCells,hzs,hlen,← Nat.add_mul,Nat.zero_add]
   exact Nat.le_of_eq (by congr 1;omega)
  ·simp only [Array.toList_append,List.drop_zero]
   rw [← hlen]
   exact List.take_left
 rcases h.2 with ⟨rfl,rfl⟩|⟨g,off,cap,cur,rfl,⟨fr,hg,hfr⟩,hnc,hcm,hcs,htake⟩
 ·have hx:xs=[]:=List.eq_nil_of_length_eq_zero (by simpa using h.1)
  subst hx
  by_cases hm:m=0
  ·subst hm
   have hn:news=[]:=List.eq_nil_of_length_eq_zero (by simpa using hs.newsLen)
   subst hn
   refine ⟨.slice none 0 0,w,?_,RowAt.nil w e i.size,grownBy_refl w _,.inl rfl,by simp⟩
   rcases hs.kind with ⟨e',hk⟩|hk<;>simp [Builtin.append_,run_underlying ht,run_underlying hk,sizeOf,typeInfo,hi,hs.len,hs.cells,storeCells]
  ·have hr:=run_append_grow_src (P:=P) w t tx ty e i z ht hi hz none 0 0 [] (run_firstCells_none w.drew i.size 0 0 0) x m news hs (by omega) (by omega) (growslice_fits (by omega) hbytes)
   have hgr:=grown 0 (by omega) (Value.ownBlock (.slice none 0 0))
   exact ⟨_,_,hr,hgr.1,hgr.2,.inr rfl,by simp [hm]⟩
 ·have hadd:∀ j,(⟨g,off,none⟩:Addr).add j=⟨g,off+j,none⟩:=fun j=>by unfold Addr.add;by_cases h0:j=0<;>simp [h0]
  have holds:∀ j u,xs[j]?=some u→w.cell? ((⟨g,off,none⟩:Addr).add j)=some u:=by
   intro j u hj
   rw [← htake,List.getElem?_take] at hj
   split at hj
   ·rw [hadd]
    rw [List.getElem?_drop,Array.getElem?_toList] at hj
    simpa [World.cell?,hg] using hj
   ·cases hj
  by_cases hroom:n+m≤cap
  ·have hfit:off+n*i.size+news.length≤cur.size:=by
    have:=Nat.mul_le_mul_right i.size hroom
    rw [Nat.add_mul] at this
    rw [hs.newsLen];omega
   have hst:=run_storeCells_fr P g (off+n*i.size) e fr news 0 cur w hg hfr (by simpa using hfit) hs.one
   simp only [Nat.add_zero] at hst
   have hr:(Builtin.append_ #[t,tx] ty #[.slice (some ⟨g,off,none⟩) n cap,x]).run P w=.ok (.slice (some ⟨g,off,none⟩) (n+m) cap) (w.setRow g (cur.toList.take (off+n*i.size)++news++cur.toList.drop (off+n*i.size+news.length)).toArray):=by
    rcases hs.kind with ⟨e',hk⟩|hk<;>simp [Builtin.append_,run_underlying ht,run_underlying hk,sizeOf,typeInfo,hi,hs.len,hroom,hs.cells,hadd,hst]
   refine ⟨_,_,hr,⟨hlen,.inr ⟨g,off,cap,_,rfl,⟨_,setRow_heap w g cur _ e _ hg,hfr.imp id (fun h=>Nat.le_trans (by simp only [List.size_toArray,List.length_append,List.length_take,List.length_drop,Array.length_toList];omega) h)⟩,hroom,hcm,?_,?_⟩⟩,⟨rfl,rfl,rfl,by simp,fun k _ hk=>setRow_other w g k _ (fun e=>hk (by simp [Value.ownBlock,e]))⟩,.inl rfl,by simp⟩
   ·simp only [List.size_toArray,List.length_append,List.length_take,List.length_drop,Array.length_toList]
    omega
   ·have e1:cur.toList.take (off+n*i.size)=cur.toList.take off++xs:=by
     rw [List.take_add,htake]
    have hoff:(cur.toList.take off).length=off:=by rw [List.length_take,Array.length_toList];omega
    simp only [e1,List.append_assoc]
    rw [List.drop_append_of_le_length (by omega),List.drop_of_length_le (by omega),List.nil_append,← List.append_assoc,← hlen]
    exact List.take_left
  ·have hr:=run_append_grow_src (P:=P) w t tx ty e i z ht hi hz (some ⟨g,off,none⟩) n cap xs (run_firstCells_some w.drew i.size n ⟨g,off,none⟩ n cap xs h.1 (by simpa using holds)) x m news hs (by omega) (by omega) (growslice_fits (by omega) hbytes)
   have hgr:=grown cap (by omega) (Value.ownBlock (.slice (some ⟨g,off,none⟩) n cap))
   exact ⟨_,_,hr,hgr.1,hgr.2,.inr rfl,by simp⟩
theorem RowAt.cell {w:World} {e:TypeId} {size:Nat} {g off cap n:Nat} {xs:List Value} (h:RowAt w e size (.slice (some ⟨g,off,none⟩) n cap) n xs) {j:Nat} (hj:j<n*size):w.cell? ⟨g,off+j,none⟩=xs[j]?:=by
 obtain ⟨h1,⟨h2,_⟩|⟨g',off',cap',cur,h2,⟨fr,hg,hf⟩,hr,_,_,ht⟩⟩:=h
 ·cases h2
 ·cases h2
  rw [← ht,List.getElem?_take_of_lt hj,List.getElem?_drop,Array.getElem?_toList]
  simp [World.cell?,hg]
theorem RowAt.drop {w:World} {e:TypeId} {size:Nat} {g off cap n:Nat} {xs:List Value} (h:RowAt w e size (.slice (some ⟨g,off,none⟩) n cap) n xs) (k:Nat) (hk:k≤n) :
  RowAt w e size (.slice (some ⟨g,off+k*size,none⟩) (n - k) (cap - k)) (n - k) (xs.drop (k*size)):=by
 obtain ⟨h1,⟨h2,_⟩|⟨g',off',cap',cur,h2,⟨fr,hg,hf⟩,hr,hm,hc,ht⟩⟩:=h
 ·cases h2
 ·cases h2
  have e1:(n - k)*size=n*size - k*size:=Nat.sub_mul _ _ _
  have e2:(cap - k)*size=cap*size - k*size:=Nat.sub_mul _ _ _
  have e3:k*size≤cap*size:=Nat.mul_le_mul_right _ (by omega)
  refine ⟨by rw [List.length_drop,h1,e1],.inr ⟨g,off+k*size,cap - k,cur,rfl,⟨fr,hg,hf⟩,by omega,by omega,by omega,?_⟩⟩
  rw [← ht,List.drop_take,List.drop_drop,e1]
end Go.Proofs.YtabbgpjofkaomaaGreatDoor

/- Worlds behind a method that changes an object: every block bears a label; 'ov' is the world in which only the blocks of one group of labels may have turned. Rows that bear a label; what append makes of them. No condition. -/
namespace Go.Proofs.YtabbgpjofkaomaaGreatDoor
open Go.RowKit
def ov (w:World) (own:Nat→Nat) (m i k:Nat) (x:World):World :=
 { w with heap:=Array.ofFn (n:=w.heap.size+k) fun n=>if h:n.1<w.heap.size∧own n.1 / m≠i then w.heap[n.1]'(h.1) else (x.heap[n.1]?).getD (.cells #[] 0),drawn:=x.drawn }
def lab (own:Nat→Nat) (s k j:Nat):Nat→Nat:=fun n=>if n<s then own n else if n<s+k then j else own n
@[go_sem] theorem lab_eq (own:Nat→Nat) (s k j n:Nat):lab own s k j n=pickLt n s (own n) (pickLt n (s+k) j (own n)):=rfl
theorem lab_lt {own:Nat→Nat} {s k j n:Nat} (h:n<s):lab own s k j n=own n:=if_pos h
section
variable (w:World) (own:Nat→Nat) (m i k:Nat) (x:World) (n j:Nat)
theorem ov_heap (h:n<w.heap.size) (h':own n / m≠i):(ov w own m i k x).heap[n]?=w.heap[n]?:=by
 simp only [ov,Array.getElem?_ofFn]
 rw [dif_pos (by omega),dif_pos ⟨h,h'⟩,Array.getElem?_eq_getElem h]
@[go_sem] theorem ov_size:(ov w own m i k x).heap.size=w.heap.size+k:=by simp [ov]
@[go_sem] theorem ov_cell:(ov w own m i k x).cell? ⟨n,j,none⟩=pickLt n w.heap.size (pickEq (own n / m) i (farCell (ov w own m i k x) ⟨n,j,none⟩) (w.cell? ⟨n,j,none⟩)) (farCell (ov w own m i k x) ⟨n,j,none⟩):=by
 unfold pickLt pickEq
 split
 ·split
  ·rfl
  ·rename_i h h';exact World.cell?_of_block (w:=w) (ov_heap w own m i k x n h h')
 ·rfl
@[go_sem] theorem ov_frozen:(ov w own m i k x).frozen? ⟨n,j,none⟩=pickLt n w.heap.size (pickEq (own n / m) i (farFrozen (ov w own m i k x) ⟨n,j,none⟩) (w.frozen? ⟨n,j,none⟩)) (farFrozen (ov w own m i k x) ⟨n,j,none⟩):=by
 unfold pickLt pickEq
 split
 ·split
  ·rfl
  ·rename_i h h';exact World.frozen?_of_block (w:=w) (ov_heap w own m i k x n h h')
 ·rfl
@[go_sem] theorem ov_drew:(ov w own m i k x).drew=ov w own m i k x.drew:=rfl
@[go_sem] theorem ov_drewN (d:Nat):(ov w own m i k x).drewN d=ov w own m i k (x.drewN d):=rfl
@[go_sem] theorem ov_tape:(ov w own m i k x).tape=w.tape:=rfl
theorem ov_set_lt (v:Value) (h:n<w.heap.size) (h':own n / m≠i):(ov w own m i k x).setCell ⟨n,j,none⟩ v=ov (w.setCell ⟨n,j,none⟩ v) own m i k x:=by
 have hs:(w.setCell ⟨n,j,none⟩ v).heap.size=w.heap.size:=by simp [World.setCell]
 have e:((ov w own m i k x).setCell ⟨n,j,none⟩ v).heap=(ov (w.setCell ⟨n,j,none⟩ v) own m i k x).heap:=by
  apply Array.ext_getElem?
  intro q
  by_cases hq:q<w.heap.size+k
  ·by_cases hqn:q=n
   ·subst hqn
    rw [ov_heap _ _ _ _ _ _ _ (by rw [hs];exact h) h']
    simp only [World.setCell,Array.getElem?_modify,if_true]
    rw [ov_heap _ _ _ _ _ _ _ h h']
   ·rw [Below.heap_setCell _ _ _ _ hqn]
    simp only [ov,Array.getElem?_ofFn]
    rw [dif_pos hq,dif_pos (show q<(w.setCell ⟨n,j,none⟩ v).heap.size+k by rw [hs];exact hq)]
    congr 1
    by_cases hc:q<w.heap.size∧own q / m≠i
    ·rw [dif_pos (show q<(w.setCell ⟨n,j,none⟩ v).heap.size∧own q / m≠i from ⟨by rw [hs];exact hc.1,hc.2⟩),dif_pos hc]
     have:=Below.heap_setCell w ⟨n,j,none⟩ v q hqn
     rw [Array.getElem?_eq_getElem hc.1,Array.getElem?_eq_getElem (by rw [hs];exact hc.1)] at this
     exact (Option.some.inj this).symm
    ·rw [dif_neg (show ¬ (q<(w.setCell ⟨n,j,none⟩ v).heap.size∧own q / m≠i) by rw [hs];exact hc),dif_neg hc]
  ·rw [Array.getElem?_eq_none (by simp [World.setCell,ov];omega),Array.getElem?_eq_none (by simp [ov];omega)]
 have e2:∀ a b:World,a.heap=b.heap→a.tape=b.tape→a.drawn=b.drawn→a.os=b.os→a.output=b.output→a=b:=by
  intro a b;cases a;cases b;simp_all
 exact e2 _ _ e rfl rfl rfl rfl
@[go_sem] theorem ov_set (v:Value):(ov w own m i k x).setCell ⟨n,j,none⟩ v=pickLt n w.heap.size (pickEq (own n / m) i (farSet (ov w own m i k x) ⟨n,j,none⟩ v) (ov (w.setCell ⟨n,j,none⟩ v) own m i k x)) (farSet (ov w own m i k x) ⟨n,j,none⟩ v):=by
 unfold pickLt pickEq
 split
 ·split
  ·rfl
  ·rename_i h h';exact ov_set_lt w own m i k x n j v h h'
 ·rfl
end
structure Kp (own:Nat→Nat) (m i:Nat) (a w:World):Prop where
 os:w.os=a.os
 tape:w.tape=a.tape
 output:w.output=a.output
 size:a.heap.size≤w.heap.size
 block:∀ k,k<a.heap.size→own k / m≠i→w.heap[k]?=a.heap[k]?
section
variable {own:Nat→Nat} {m i:Nat} {a w:World}
theorem Kp.refl (own:Nat→Nat) (m i:Nat) (a:World):Kp own m i a a:=⟨rfl,rfl,rfl,Nat.le_refl _,fun _ _ _=>rfl⟩
theorem Kp.is (h:Kp own m i a w):w=ov a own m i (w.heap.size - a.heap.size) w:=by
 have hs:=h.size
 have e2:∀ a b:World,a.heap=b.heap→a.tape=b.tape→a.drawn=b.drawn→a.os=b.os→a.output=b.output→a=b:=by
  intro a b;cases a;cases b;simp_all
 refine e2 _ _ ?_ h.tape rfl h.os h.output
 apply Array.ext_getElem?
 intro q
 by_cases hq:q<w.heap.size
 ·simp only [ov,Array.getElem?_ofFn]
  rw [dif_pos (by omega),Array.getElem?_eq_getElem hq]
  congr 1
  split
  ·rename_i hc
   have:=h.block q hc.1 hc.2
   rw [Array.getElem?_eq_getElem hq,Array.getElem?_eq_getElem hc.1] at this
   exact Option.some.inj this
  ·rfl
 ·rw [Array.getElem?_eq_none (by omega),Array.getElem?_eq_none (by simp [ov];omega)]
theorem Kp.trans {w':World} (h:Kp own m i a w) (h2:w'.os=w.os) (h3:w'.tape=w.tape) (h4:w'.output=w.output) (h5:w.heap.size≤w'.heap.size) (h6:∀ k,k<a.heap.size→own k / m≠i→w'.heap[k]?=w.heap[k]?):Kp own m i a w' :=
 ⟨h2.trans h.os,h3.trans h.tape,h4.trans h.output,Nat.le_trans h.size h5,fun k hk hn=>(h6 k hk hn).trans (h.block k hk hn)⟩
theorem Kp.alloc (h:Kp own m i a w) (o:Obj):Kp own m i a (w.alloc o):=h.trans rfl rfl rfl (by simp) fun k hk _=>Below.heap_alloc _ _ _ (by have:=h.size;omega)
theorem Kp.drew (h:Kp own m i a w):Kp own m i a w.drew:=h.trans rfl rfl rfl (Nat.le_refl _) fun _ _ _=>rfl
theorem Kp.drewN (h:Kp own m i a w) (n:Nat):Kp own m i a (w.drewN n):=h.trans rfl rfl rfl (Nat.le_refl _) fun _ _ _=>rfl
theorem Kp.ext (h:Kp own m i a w) (l:List Obj) (d:Nat):Kp own m i a (ext w l d):=h.trans rfl rfl rfl (by simp [Proofs.YtabbgpjofkaomaaGreatDoor.ext]) fun k hk _=>ext_heap_lt _ _ _ _ (by have:=h.size;omega)
theorem Kp.setCell (h:Kp own m i a w) {p:Addr} (hp:p.block<a.heap.size→own p.block / m=i) (v:Value):Kp own m i a (w.setCell p v) :=
 h.trans rfl rfl rfl (by simp [World.setCell]) fun k hk hn=>Below.heap_setCell _ _ _ _ (fun e=>hn (by subst e;exact hp hk))
theorem Kp.ov (h:Kp own m i a w) (own':Nat→Nat) (m' i' k:Nat) (x:World) (hp:∀ n,n<a.heap.size→own' n / m'=i'→own n / m=i):Kp own m i a (ov w own' m' i' k x) :=
 h.trans rfl rfl rfl (by rw [ov_size];omega) fun n hn h'=>ov_heap _ _ _ _ _ _ _ (by have:=h.size;omega) (fun e=>h' (hp n hn e))
theorem Kp.of_below (h:Below a.heap.size a w):Kp own m i a w:=⟨h.os,h.tape,h.output,h.size,fun k hk _=>h.block k hk⟩
theorem Kp.far {q:Nat→Prop} (h:Kp own m i a w):a.heap.size≤w.heap.size∧∀ n,n<a.heap.size→q n→own n / m≠i→w.heap[n]?=a.heap[n]?:=⟨h.size,fun n hn _ h'=>h.block n hn h'⟩
end
theorem ov_kp (w:World) (own:Nat→Nat) (m i k:Nat) (x:World):Kp own m i w (ov w own m i k x):=(Kp.refl own m i w).ov own m i k x (fun _ _ h=>h)
theorem rowIs_ext {w:World} {b n:Nat} {t:TypeId} {f:Nat→Value} (h:w.rowIs b t n f) (l:List Obj) (d:Nat):(ext w l d).rowIs b t n f:=h.of_block (ext_heap_lt _ _ _ _ h.lt)
theorem rowIs_ov {w:World} {b n:Nat} {t:TypeId} {f:Nat→Value} (h:w.rowIs b t n f) (own:Nat→Nat) (m i k:Nat) (x:World) (hb:own b / m≠i):(ov w own m i k x).rowIs b t n f:=h.of_block (ov_heap _ _ _ _ _ _ _ h.lt hb)
def flat {α:Type} (f:α→List Value) (l:List α):List Value:=l.flatMap f
section
variable {α:Type} {f:α→List Value} {N:Nat}
theorem flat_nil:flat f []=[]:=rfl
theorem flat_cons (a:α) (l:List α):flat f (a::l)=f a++flat f l:=by simp [flat]
theorem flat_append (l m:List α):flat f (l++m)=flat f l++flat f m:=by simp [flat]
theorem flat_one (a:α):flat f [a]=f a:=by simp [flat]
theorem flat_length (hf:∀ a,(f a).length=N) (l:List α):(flat f l).length=l.length*N:=by
 induction l with
 | nil=>simp [flat]
 | cons a l ih=>rw [flat_cons,List.length_append,ih,hf,List.length_cons,Nat.add_mul,Nat.one_mul,Nat.add_comm]
theorem flat_drop (hf:∀ a,(f a).length=N) (l:List α):∀ k,(flat f l).drop (k*N)=flat f (l.drop k):=by
 induction l with
 | nil=>intro k;simp [flat]
 | cons a l ih =>
  intro k
  cases k with
  | zero=>simp
  | succ k =>
   have e:(k+1)*N=(f a).length+k*N:=by rw [hf,Nat.add_mul,Nat.one_mul,Nat.add_comm]
   rw [e,flat_cons,← List.drop_drop,List.drop_left]
   exact ih k
theorem flat_take (hf:∀ a,(f a).length=N) (l:List α):∀ k,(flat f l).take (k*N)=flat f (l.take k):=by
 induction l with
 | nil=>intro k;simp [flat]
 | cons a l ih =>
  intro k
  cases k with
  | zero=>simp [flat]
  | succ k =>
   have e:(k+1)*N=(f a).length+k*N:=by rw [hf,Nat.add_mul,Nat.one_mul,Nat.add_comm]
   rw [e,flat_cons,List.take_length_add_append,ih k,List.take_succ_cons,flat_cons]
theorem flat_get (hf:∀ a,(f a).length=N) (l:List α) (k:Nat) (h:k<l.length) (j:Nat) (hj:j<N):(flat f l)[k*N+j]?=(f l[k])[j]?:=by
 have e:=flat_drop hf l k
 rw [List.drop_eq_getElem_cons h,flat_cons] at e
 have:((flat f l).drop (k*N))[j]?=(f l[k]++flat f (l.drop (k+1)))[j]?:=by rw [e]
 rw [List.getElem?_drop] at this
 rw [this,List.getElem?_append_left (by rw [hf];exact hj)]
end
def OwnRow (own:Nat→Nat) (j:Nat) (w:World) (e:TypeId) (size:Nat) (v:Value) (n:Nat) (xs:List Value):Prop:=RowAt w e size v n xs∧∀ g,v.ownBlock=some g→own g=j
section
variable {own:Nat→Nat} {j:Nat} {w:World} {e:TypeId} {size:Nat} {v:Value} {n:Nat} {xs:List Value}
theorem OwnRow.nil (own:Nat→Nat) (j:Nat) (w:World) (e:TypeId) (size:Nat):OwnRow own j w e size (.slice none 0 0) 0 []:=⟨RowAt.nil w e size,fun g h=>by cases h⟩
theorem OwnRow.kp {own':Nat→Nat} {w':World} {m i:Nat} (h:OwnRow own j w e size v n xs) (hk:Kp own m i w w') (hj:j / m≠i) (ho:∀ g,g<w.heap.size→own g=j→own' g=j):OwnRow own' j w' e size v n xs :=
 ⟨h.1.of_block fun g hg=>hk.block g (h.1.lt g hg) (by rw [h.2 g hg];exact hj),fun g hg=>ho g (h.1.lt g hg) (h.2 g hg)⟩
theorem OwnRow.ex' {w':World} (h:OwnRow own j w e size v n xs) (hk:∀ g,v.ownBlock=some g→w'.heap[g]?=w.heap[g]?):OwnRow own j w' e size v n xs:=⟨h.1.of_block hk,h.2⟩
theorem OwnRow.alloc (h:OwnRow own j w e size v n xs) (o:Obj):OwnRow own j (w.alloc o) e size v n xs:=h.ex' fun g hg=>Below.heap_alloc _ _ _ (h.1.lt g hg)
theorem OwnRow.drew (h:OwnRow own j w e size v n xs):OwnRow own j w.drew e size v n xs:=h
theorem OwnRow.drewN (h:OwnRow own j w e size v n xs) (d:Nat):OwnRow own j (w.drewN d) e size v n xs:=h
theorem OwnRow.exts (h:OwnRow own j w e size v n xs) (l:List Obj) (d:Nat):OwnRow own j (ext w l d) e size v n xs:=h.ex' fun g hg=>ext_heap_lt _ _ _ _ (h.1.lt g hg)
theorem OwnRow.setCell (h:OwnRow own j w e size v n xs) {p:Addr} (hp:own p.block≠j) (x:Value):OwnRow own j (w.setCell p x) e size v n xs:=h.ex' fun g hg=>Below.heap_setCell _ _ _ _ (fun e=>hp (by rw [← e];exact h.2 g hg))
theorem OwnRow.form (h:OwnRow own j w e size v n xs):∃ ao cap,v=.slice ao n cap∧n≤cap∧cap≤maxLen∧(ao=none→cap=0)∧∀ a,ao=some a→∃ g off,a=⟨g,off,none⟩∧own g=j∧g<w.heap.size:=by
 obtain ⟨⟨h1,⟨rfl,rfl⟩|⟨g,off,cap,cur,rfl,⟨fr,hg,hf⟩,hr⟩⟩,h2⟩:=h
 ·exact ⟨none,0,rfl,Nat.le_refl _,Nat.zero_le _,fun _=>rfl,fun a h=>by cases h⟩
 ·exact ⟨_,cap,rfl,hr.1,hr.2.1,(fun h=>by cases h),fun a ha=>⟨g,off,(by cases ha;rfl),h2 g rfl,(Array.getElem?_eq_some_iff.1 hg).1⟩⟩
theorem heap_new {w:World} {o:Obj} {n:Nat} (h:n=w.heap.size):(w.alloc o).heap[n]?=some o:=by subst h;exact heap_alloc_new w o
section
variable {P:Program}
theorem addr_add (g off j:Nat):(⟨g,off,none⟩:Addr).add j=⟨g,off+j,none⟩:=by unfold Addr.add;by_cases h0:j=0<;>simp [h0]
theorem Src.block {w:World} {size g:Nat} {tx e' t:TypeId} {fr:Nat × Nat} {cs:Array Value} (hk:P.underlying tx=some (.slice e')) (n c:Nat) (hb:w.heap[g]?=some (.cells cs t fr)) (hl:cs.toList.length=n*size) (h1:∀ u∈cs.toList,u.oneCell'=true) :
  Src P size tx (.slice (some ⟨g,0,none⟩) n c) n cs.toList w :=
 Src.ofSlice w hk _ n c _ hl (fun j u hu=>by
  rw [addr_add,Nat.zero_add]
  rw [Array.getElem?_toList] at hu
  simpa [World.cell?,hb] using hu) h1
theorem Src.row {w:World} {size:Nat} {tx e' e:TypeId} {v:Value} {n:Nat} {xs:List Value} (hk:P.underlying tx=some (.slice e')) (h:RowAt w e size v n xs) (h1:∀ u∈xs,u.oneCell'=true):Src P size tx v n xs w:=by
 obtain ⟨hl,⟨rfl,rfl⟩|⟨g,off,cap,cur,rfl,⟨fr,hg,hf⟩,hr⟩⟩:=h
 ·obtain rfl:xs=[]:=List.eq_nil_of_length_eq_zero (by simpa using hl)
  exact Src.ofNil w hk 0
 ·refine Src.ofSlice w hk _ n cap _ hl (fun j u hu=>?_) h1
  rw [addr_add]
  rw [← hr.2.2.2,List.getElem?_take] at hu
  split at hu
  ·rw [List.getElem?_drop,Array.getElem?_toList] at hu
   simpa [World.cell?,hg] using hu
  ·cases hu
theorem run_append_lab (t tx ty e:TypeId) (i:TypeInfo) (z:Value) (size bytes:Nat) (ht:P.underlying t=some (.slice e)) (hi:P.info? e=some i) (hz:i.zero=some z)
  (hsize:i.size=size) (hby:i.bytes=bytes) (hzs:z.cells.size=size)
  {w:World} {v x:Value} {n m:Nat} {xs news:List Value} (h:OwnRow own j w e size v n xs) (hs:Src P size tx x m news w)
  (h63:n+m≤maxLen) (hbytes:(n+m)*bytes≤140737488355328) :
  ∃ v' k y,(Builtin.append_ #[t,tx] ty #[v,x]).run P w=.ok v' (ov w own 1 j k y)∧OwnRow (lab own w.heap.size k j) j (ov w own 1 j k y) e size v' (n+m) (xs++news)∧(v'=.slice none 0 0↔v=.slice none 0 0∧m=0):=by
 obtain ⟨v',w',h1,h2,h3,h4,h5⟩:=run_append_row (P:=P) t tx ty e i z size bytes ht hi hz hsize hby hzs h.1 hs h63 hbytes
 have hk:Kp own 1 j w w':=⟨h3.os,h3.tape,h3.output,h3.size,fun k hk hn=>h3.block k hk (fun e=>hn (by rw [Nat.div_one];exact h.2 k e.symm))⟩
 refine ⟨v',_,w',hk.is▸h1,hk.is▸⟨h2,fun g hg=>?_⟩,h5⟩
 have hlt:=h2.lt g hg
 unfold lab
 rcases h4 with h4|h4
 ·rw [hg] at h4
  have:=h.2 g h4.symm
  have hl:=h.1.lt g h4.symm
  rw [if_pos hl]
  exact this
 ·rw [hg] at h4
  obtain rfl:=Option.some.inj h4
  rw [if_neg (by omega),if_pos (by omega)]
theorem wpList_append_lab {ops:Array Oper} {rest:List Oper} {o:Oper} {a:Act} {w:World} {Q:Exit→Act→World→Prop} (hgd:o.guard=none) (s x:Operand) (t tx:TypeId)
  (ho:o.op=.call { callee:=.builtin .append,args:=#[s,x],argTypes:=#[t,tx] })
  (e:TypeId) (i:TypeInfo) (z:Value) (size bytes:Nat) (ht:P.underlying t=some (.slice e)) (hi:P.info? e=some i) (hz:i.zero=some z)
  (hsize:i.size=size) (hby:i.bytes=bytes) (hzs:z.cells.size=size)
  (v y:Value) (n m:Nat) (xs news:List Value) (hv:a.eval s=v) (hy:a.eval x=y) (h:OwnRow own j w e size v n xs) (hs:Src P size tx y m news w)
  (h63:n+m≤maxLen) (hbytes:(n+m)*bytes≤140737488355328)
  (hK:∀ v' k u,OwnRow (lab own w.heap.size k j) j (ov w own 1 j k u) e size v' (n+m) (xs++news)→(v'=.slice none 0 0↔v=.slice none 0 0∧m=0)→wpList P ops Q rest (a.put o.dst v') (ov w own 1 j k u)) :
  wpList P ops Q (o::rest) a w:=by
 obtain ⟨v',k,u,hr,h2,h3⟩:=run_append_lab (P:=P) t tx o.type e i z size bytes ht hi hz hsize hby hzs h hs h63 hbytes
 refine wpList_plain hgd fun _ hK'=>?_
 unfold Oper.wp execOp
 simp only [ho,resolve,invoke,builtin,Sem.run_bind,Sem.run_pure,Result.andThen_ok,List.map_toArray,List.map_cons,List.map_nil,hv,hy,hr]
 exact hK' _ _ (hK v' k u h2 h3)
theorem step_append_lab {ops:Array Oper} {o:Oper} {a:Act} {w:World} {K:Act→World→Prop} {Q:Exit→Act→World→Prop} {E:Prop} (hgd:o.guard=none) (s x:Operand) (t tx:TypeId)
  (ho:o.op=.call { callee:=.builtin .append,args:=#[s,x],argTypes:=#[t,tx] })
  (e:TypeId) (i:TypeInfo) (z:Value) (size bytes:Nat) (ht:P.underlying t=some (.slice e)) (hi:P.info? e=some i) (hz:i.zero=some z)
  (hsize:i.size=size) (hby:i.bytes=bytes) (hzs:z.cells.size=size)
  (v y:Value) (n m:Nat) (xs news:List Value) (hv:a.eval s=v) (hy:a.eval x=y) (h:OwnRow own j w e size v n xs) (hs:Src P size tx y m news w)
  (h63:n+m≤maxLen) (hbytes:(n+m)*bytes≤140737488355328)
  (hK:∀ v' k u,OwnRow (lab own w.heap.size k j) j (ov w own 1 j k u) e size v' (n+m) (xs++news)→(v'=.slice none 0 0↔v=.slice none 0 0∧m=0)→K (a.put o.dst v') (ov w own 1 j k u)) :
  if Region.wanted o (yielded ops a.tmps)=true then Oper.wp P o a w K Q else E:=by
 have hw:Region.wanted o (yielded ops a.tmps)=true:=by simp [Region.wanted,hgd]
 rw [if_pos hw]
 obtain ⟨v',k,u,hr,h2,h3⟩:=run_append_lab (P:=P) t tx o.type e i z size bytes ht hi hz hsize hby hzs h hs h63 hbytes
 unfold Oper.wp execOp
 simp only [ho,resolve,invoke,builtin,Sem.run_bind,Sem.run_pure,Result.andThen_ok,List.map_toArray,List.map_cons,List.map_nil,hv,hy,hr]
 exact hK v' k u h2 h3
end
end
end Go.Proofs.YtabbgpjofkaomaaGreatDoor

/- What a method leaves that turns but one object. No condition. -/
namespace Go.Proofs.YtabbgpjofkaomaaGreatDoor
open Go.RowKit
def ObjTo (own:Nat→Nat) (i j:Nat) (w:World) (I:(Nat→Nat)→World→Prop) (w':World):Prop:=∃ k x,w'=ov w own 1 i k x∧I (lab own w.heap.size k j) w'
theorem ObjTo.of {own:Nat→Nat} {i j:Nat} {w:World} {I:(Nat→Nat)→World→Prop} {w':World} (h:Kp own 1 i w w') (hI:I (lab own w.heap.size (w'.heap.size - w.heap.size) j) w'):ObjTo own i j w I w':=⟨_,w',h.is,hI⟩
theorem ObjTo.of_ex {own:Nat→Nat} {i j:Nat} {w w':World} {I:(Nat→Nat)→World→Prop} (h:Ex w w') (hI:I (lab own w.heap.size (w'.heap.size - w.heap.size) j) w'):ObjTo own i j w I w':=ObjTo.of (Kp.of_below h.below) hI
theorem ObjTo.after {own:Nat→Nat} {i:Nat} {w w1 w':World} {I:(Nat→Nat)→World→Prop} (hx:Ex w w1) (h:ObjTo own i i w1 I w') (hI:∀ o o':Nat→Nat,(∀ n,n<w'.heap.size→o n=i→o' n=i)→I o w'→I o' w'):ObjTo own i i w I w':=by
 obtain ⟨k,x,rfl,hI'⟩:=h
 have hs:=hx.below.size
 refine ObjTo.of ((Kp.of_below hx.below).ov own 1 i k x (fun n _ h=>h)) (hI _ _ (fun n hn e=>?_) hI')
 rw [ov_size] at hn
 unfold lab at e ⊢
 rw [ov_size]
 by_cases h1:n<w.heap.size
 ·rw [if_pos (by omega)] at e
  rw [if_pos h1];exact e
 ·rw [if_neg h1,if_pos (by omega)]
theorem wp_world {Pr:Program} {code:Code} {Q:Exit→Act→World→Prop} {a:Act} {W:World} {R:World→Prop} (h:R W) (k:∀ W',R W'→code.wp Pr Q a W'):code.wp Pr Q a W:=k W h
end Go.Proofs.YtabbgpjofkaomaaGreatDoor

/- An object that holds one slice of its own, at its first cell. No condition. -/
namespace Go.Proofs.YtabbgpjofkaomaaGreatDoor
open Go.RowKit
def OneAt (own:Nat→Nat) (i:Nat) (w:World) (p N:Nat) (f:Nat→Value) (e:TypeId) (size:Nat) (v:Value) (n:Nat) (xs:List Value):Prop :=
 (∃ t,w.rowIs p t N (fun j=>if j=0 then v else f j))∧OwnRow own i w e size v n xs∧own p=i∧v.ownBlock≠some p
section
variable {own own':Nat→Nat} {i m g:Nat} {w w':World} {p N:Nat} {f:Nat→Value} {e:TypeId} {size:Nat} {v:Value} {n:Nat} {xs:List Value}
theorem OneAt.lt (h:OneAt own i w p N f e size v n xs):p<w.heap.size:=by obtain ⟨⟨t,h⟩,_⟩:=h;exact h.lt
theorem OneAt.free (h:OneAt own i w p N f e size v n xs) (j:Nat):w.frozen? ⟨p,j,none⟩=false:=by obtain ⟨⟨t,h⟩,_⟩:=h;exact h.frozen j
theorem OneAt.cell0 (h:OneAt own i w p N f e size v n xs) (hN:0<N):w.cell? ⟨p,0,none⟩=some v:=by
 obtain ⟨⟨t,h⟩,_⟩:=h
 exact h.cell (i:=0) hN
theorem OneAt.cell (h:OneAt own i w p N f e size v n xs) {j:Nat} (hj:j<N) (h0:j≠0):w.cell? ⟨p,j,none⟩=some (f j):=by
 obtain ⟨⟨t,h⟩,_⟩:=h
 have:=h.cell (i:=j) hj
 simpa [h0] using this
theorem OneAt.kp (h:OneAt own i w p N f e size v n xs) (hk:Kp own m g w w') (hi:i / m≠g) (ho:∀ n,n<w.heap.size→own n=i→own' n=i):OneAt own' i w' p N f e size v n xs:=by
 have hl:=h.lt
 obtain ⟨⟨t,h1⟩,h2,h3,h4⟩:=h
 exact ⟨⟨t,h1.of_block (hk.block p hl (by rw [h3];exact hi))⟩,h2.kp hk hi ho,ho p hl h3,h4⟩
theorem OneAt.exts (h:OneAt own i w p N f e size v n xs) (bs:List Obj) (d:Nat):OneAt own i (ext w bs d) p N f e size v n xs:=h.kp (m:=1) (g:=i+1) (Kp.ext (Kp.refl _ _ _ _) bs d) (by simp) (fun _ _ h=>h)
theorem OneAt.later (h:OneAt own i w p N f e size v n xs) (hx:Ex w w'):OneAt own i w' p N f e size v n xs:=by obtain ⟨bs,d,rfl⟩:=hx;exact h.exts bs d
theorem OneAt.pick (h:OneAt own i w p N f e size v n xs) :
  ∃ o:Nat→Nat,OwnRow o 2 w e size v n xs∧o p=3∧(∀ n,w.heap.size≤n→o n=0)∧(∀ n,o n / 2=1→own n=i):=by
 have hl:=h.lt
 obtain ⟨_,h2,h3,h4⟩:=h
 refine ⟨fun n=>if n=p then 3 else if v.ownBlock=some n then 2 else 0,⟨h2.1,fun g hg=>?_⟩,if_pos rfl,fun n hn=>?_,fun n hn=>?_⟩
 ·have:g≠p:=by rintro rfl;exact h4 hg
  simp [this,hg]
 ·have h5:n≠p:=by omega
  have h6:v.ownBlock≠some n:=fun e=>by have:=h2.1.lt n e;omega
  simp [h5,h6]
 ·by_cases h5:n=p
  ·subst h5;exact h3
  ·simp only [h5,if_false] at hn
   by_cases h6:v.ownBlock=some n
   ·exact h2.2 n h6
   ·simp [h6] at hn
theorem OneAt.turned {o:Nat→Nat} {f':Nat→Value} {v':Value} {n':Nat} {xs':List Value} (h:OneAt own i w p N f e size v n xs) (h3:o p=3) (hi:∀ n,o n / 2=1→own n=i) (hK:Kp o 2 1 w w')
  (hrow:∃ t,w'.rowIs p t N (fun j=>if j=0 then v' else f' j)) (hv:RowAt w' e size v' n' xs') (hb:∀ g,v'.ownBlock=some g→o g=2∨w.heap.size≤g) :
  Kp own 1 i w w'∧OneAt (lab own w.heap.size (w'.heap.size - w.heap.size) i) i w' p N f' e size v' n' xs':=by
 have hl:=h.lt
 refine ⟨⟨hK.os,hK.tape,hK.output,hK.size,fun n hn hne=>hK.block n hn (fun e=>hne (by rw [Nat.div_one];exact hi n e))⟩,hrow,⟨hv,fun g hg=>?_⟩,?_,fun hg=>?_⟩
 ·have h1:=hv.lt g hg
  unfold lab
  by_cases hlt:g<w.heap.size
  ·rw [if_pos hlt]
   rcases hb g hg with h2|h2
   ·exact hi g (by rw [h2])
   ·omega
  ·rw [if_neg hlt,if_pos (by omega)]
 ·rw [lab_lt hl];exact h.2.2.1
 ·rcases hb p hg with h2|h2<;>omega
theorem own_or {o:Nat→Nat} {W:World} {s k:Nat} (h:OwnRow (lab o s k 2) 2 W e size v n xs) (hs:w.heap.size≤s):∀ g,v.ownBlock=some g→o g=2∨w.heap.size≤g:=fun g hg=>by
 have h2:=h.2 g hg
 by_cases hlt:g<s
 ·rw [lab_lt hlt] at h2;exact .inl h2
 ·exact .inr (by omega)
theorem OneAt.appEnd {o:Nat→Nat} {W1 u:World} {k:Nat} {f':Nat→Value} {v':Value} {n':Nat} {xs':List Value} (h:OneAt own i w p N f e size v n xs) (h3:o p=3) (hi:∀ n,o n / 2=1→own n=i) (hs:w.heap.size≤W1.heap.size) (hK:Kp o 2 1 w w')
  (hp:∀ g,g≠p→w'.heap[g]?=(ov W1 o 1 2 k u).heap[g]?) (hrow:∃ t,w'.rowIs p t N (fun j=>if j=0 then v' else f' j)) (hv:OwnRow (lab o W1.heap.size k 2) 2 (ov W1 o 1 2 k u) e size v' n' xs') :
  Kp own 1 i w w'∧OneAt (lab own w.heap.size (w'.heap.size - w.heap.size) i) i w' p N f' e size v' n' xs':=by
 have hb:=own_or hv hs
 refine h.turned h3 hi hK hrow (hv.1.of_block fun g hg=>hp g (fun e=>?_)) hb
 have hl:=h.lt
 rcases hb g hg with h2|h2
 ·rw [e,h3] at h2;omega
 ·omega
theorem grown_kp {o:Nat→Nat} {W:World} (k:Nat) (u:World) (hx:Kp o 2 1 w W):Kp o 2 1 w (ov W o 1 2 k u):=hx.ov _ _ _ _ _ (fun n _ hn=>by rw [Nat.div_one] at hn;rw [hn])
theorem OneAt.main (h:OneAt own i w p N f e size v n xs):∃ t,w.rowIs p t N (fun j=>if j=0 then v else f j):=h.1
end
end Go.Proofs.YtabbgpjofkaomaaGreatDoor

/- Rows of a call's own: plain facts. No condition. -/
namespace Go.Proofs.YtabbgpjofkaomaaGreatDoor
open Go.RowKit
def sliceLen:Value→Nat
 | .slice _ n _=>n
 | _=>0
theorem owns_len {w:World} {base:Nat} {e:TypeId} {size:Nat} {v:Value} {n:Nat} {xs:List Value} (h:w.ownsRow base e size v n xs):sliceLen v=n:=by
 obtain ⟨_,⟨rfl,rfl⟩|⟨g,cap,cur,rfl,_⟩⟩:=h<;>rfl
theorem owns_bound {w:World} {base:Nat} {e:TypeId} {size:Nat} {v:Value} {n:Nat} {xs:List Value} (h:w.ownsRow base e size v n xs) {b:Nat} (hb:b<base):v.ownBlock=none∨v.ownBlock≠some b:=by
 obtain ⟨_,⟨rfl,rfl⟩|⟨g,cap,cur,rfl,hg,_⟩⟩:=h
 ·exact .inl rfl
 ·exact .inr (by simp [Value.ownBlock];omega)
theorem belowGrownBy {w w':World} (h:Below w.heap.size w w'):w.grownBy w' none:=by
 obtain ⟨a,b,c,d,e⟩:=h
 exact ⟨a,b,c,d,fun k hk _=>e k hk⟩
theorem alloc_top {w:World} {o:Obj} {n:Nat} (h:n=w.heap.size):(w.alloc o).heap[n]?=some o:=by
 subst h;show (w.heap.push o)[w.heap.size]?=_;simp
theorem grown_cell (w:World) (b j:Nat) (v:Value):w.grownBy (w.setCell ⟨b,j,none⟩ v) (some b):=⟨rfl,rfl,rfl,by simp [World.setCell],fun k _ hk=>Below.heap_setCell w ⟨b,j,none⟩ v k (fun e=>hk (by simp [e]))⟩
theorem ownsRow_block {w w':World} {base:Nat} {e:TypeId} {size:Nat} {v:Value} {n:Nat} {xs:List Value} (h:w.ownsRow base e size v n xs) (hb:∀ g,v.ownBlock=some g→w'.heap[g]?=w.heap[g]?):w'.ownsRow base e size v n xs:=by
 obtain ⟨h1,h2|⟨g,cap,cur,rfl,hg,hh,hr⟩⟩:=h
 ·exact ⟨h1,.inl h2⟩
 ·exact ⟨h1,.inr ⟨g,cap,cur,rfl,hg,(hb g rfl).trans hh,hr⟩⟩
end Go.Proofs.YtabbgpjofkaomaaGreatDoor

/- Plain data: a request, an order, as the walk's values; the package-level errors by their numbers. -/
namespace Go.Proofs.YtabbgpjofkaomaaGreatDoor
open Go.RowKit
structure Ask where
 kind:Int
 client:Int
 seq:Int
 item:Int
 side:Int
 price:Int
 qty:Int
 id:Int
 deriving DecidableEq
def Ask.cells (a:Ask):List Value:=[.int .u8 a.kind,.int .i64 a.client,.int .i64 a.seq,.int .i64 a.item,.int .i64 a.side,.int .i64 a.price,.int .i64 a.qty,.int .i64 a.id]
abbrev Ask.val (a:Ask):Value:=.agg #[.int .u8 a.kind,.int .i64 a.client,.int .i64 a.seq,.int .i64 a.item,.int .i64 a.side,.int .i64 a.price,.int .i64 a.qty,.int .i64 a.id]
def errV (E:Nat→Addr) (c:Nat):Value:=if c=0 then .nilIface else .iface 357 (.pointer (some (E c)))
theorem errV_zero (E:Nat→Addr):errV E 0=.nilIface:=rfl
theorem errV_pos (E:Nat→Addr) (c:Nat) (h:c≠0):errV E c=.iface 357 (.pointer (some (E c))):=if_neg h
theorem lt_of_cell {w:World} {n i:Nat} {v:Value} (h:w.cell? ⟨n,i,none⟩=some v):n<w.heap.size:=World.block_lt_of_cell? _ _ h
def gOf (c:Nat):Nat :=
 match c with
 | 1=>4
 | 2=>0
 | 3=>2
 | 4=>5
 | 5=>6
 | 6=>7
 | 7=>8
 | 8=>3
 | 9=>1
 | 10=>9
 | 11=>10
 | 12=>11
 | _=>0
def Errs (E:Nat→Addr) (l:List Nat) (w:World):Prop:=∀ c∈l,w.cell? ⟨gOf c,0,none⟩=some (.iface 357 (.pointer (some (E c))))
theorem Errs.ex {E:Nat→Addr} {l:List Nat} {w w':World} (h:Errs E l w) (hx:Ex w w'):Errs E l w':=fun c hc=>(hx.below.cell (p:=⟨gOf c,0,none⟩) (lt_of_cell (h c hc))).trans (h c hc)
theorem Errs.sub {E:Nat→Addr} {l l':List Nat} {w:World} (h:Errs E l w) (hs:∀ c∈l',c∈l):Errs E l' w:=fun c hc=>h c (hs c hc)
def inR (n lo hi:Int):Bool:=decide (lo≤n) && decide (n≤hi)
theorem inR_iff {n lo hi:Int}:inR n lo hi=true↔lo≤n∧n≤hi:=by simp [inR]
theorem inR_not {n lo hi:Int}:inR n lo hi=false↔n<lo∨hi<n:=by
 cases h:inR n lo hi
 ·simp only [true_iff];have:¬ (lo≤n∧n≤hi):=fun h'=>by rw [inR_iff.2 h'] at h;cases h
  omega
 ·simp only [false_iff,Bool.true_eq_false];have:=inR_iff.1 h;omega
def Ask.common (a:Ask):Bool:=inR a.client 0 5 && inR a.seq 0 1073741824 && inR a.id 0 1073741824
def Ask.place (a:Ask):Bool:=inR a.item 0 2 && inR a.side 0 1 && inR a.price 1 1000 && inR a.qty 1 1000
def Ask.rest5 (a:Ask):Bool:=a.item != 0 || a.side != 0 || a.price != 0 || a.qty != 0 || a.id != 0
def Ask.rest3 (a:Ask):Bool:=a.side != 0 || a.price != 0 || a.qty != 0
def Ask.err (a:Ask):Nat :=
 if a.kind==108 || a.kind==104 || a.kind==113 then (if a.common && a.rest5 then 3 else if a.common then 0 else 2)
 else if a.kind==111 then (if a.common && a.place then 0 else 2)
 else if a.kind==99 then (if (a.common && inR a.item 0 2) && a.rest3 then 3 else if a.common && inR a.item 0 2 then 0 else 2)
 else 4
structure Sess where
 on:Bool
 next:Int
 last:Int
 deriving DecidableEq
abbrev Sess.val (s:Sess):Value:=.agg #[.bool s.on,.int .i64 s.next,.int .i64 s.last]
def Sess.take (s:Sess) (a:Ask) (now:Int):Sess × Nat :=
 if a.err=0 then
  (if a.kind==108 then (if s.on then (s,11) else if a.seq != 1 then (s,12) else (⟨true,2,now⟩,0))
   else if !s.on then (s,11) else if a.seq != s.next then (s,12) else if a.kind==113 then (⟨false,0,0⟩,0) else (⟨true,s.next+1,now⟩,0))
 else (s,a.err)
theorem Ask.seq_of_err {a:Ask} (h:a.err=0):0≤a.seq∧a.seq≤1073741824:=by
 have hc:a.common=true:=by
  unfold Ask.err at h
  cases hc:a.common
  ·rw [hc] at h
   (repeat' split at h)<;>simp_all
  ·rfl
 simp only [Ask.common,Bool.and_eq_true] at hc
 exact inR_iff.1 hc.1.2
theorem Ask.bounds {a:Ask} (h:a.err=0):(0≤a.client∧a.client≤5)∧(0≤a.seq∧a.seq≤1073741824)∧(0≤a.id∧a.id≤1073741824)∧(0≤a.item∧a.item≤2)∧(0≤a.side∧a.side≤1)∧(0≤a.price∧a.price≤1000)∧(0≤a.qty∧a.qty≤1000) ∧
  (a.kind=108∨a.kind=104∨a.kind=113∨a.kind=111∨a.kind=99):=by
 unfold Ask.err at h
 have key:a.common=true→(0≤a.item∧a.item≤2)→(0≤a.side∧a.side≤1)→(0≤a.price∧a.price≤1000)→(0≤a.qty∧a.qty≤1000)→(a.kind=108∨a.kind=104∨a.kind=113∨a.kind=111∨a.kind=99) →
   (0≤a.client∧a.client≤5)∧(0≤a.seq∧a.seq≤1073741824)∧(0≤a.id∧a.id≤1073741824)∧(0≤a.item∧a.item≤2)∧(0≤a.side∧a.side≤1)∧(0≤a.price∧a.price≤1000)∧(0≤a.qty∧a.qty≤1000) ∧
   (a.kind=108∨a.kind=104∨a.kind=113∨a.kind=111∨a.kind=99):=by
  intro hc h1 h2 h3 h4 h5
  simp only [Ask.common,Bool.and_eq_true] at hc
  exact ⟨inR_iff.1 hc.1.1,inR_iff.1 hc.1.2,inR_iff.1 hc.2,h1,h2,h3,h4,h5⟩
 split at h
 ·rename_i hk
  simp only [Bool.or_eq_true,beq_iff_eq] at hk
  cases hc:a.common<;>cases h5:a.rest5<;>simp [hc,h5] at h
  simp only [Ask.rest5,Bool.or_eq_false_iff,bne_eq_false_iff_eq] at h5
  obtain ⟨⟨⟨⟨e1,e2⟩,e3⟩,e4⟩,e5⟩:=h5
  exact key hc (by omega) (by omega) (by omega) (by omega) (by omega)
 ·split at h
  ·rename_i _ hk
   simp only [beq_iff_eq] at hk
   cases hc:a.common<;>cases hp:a.place<;>simp [hc,hp] at h
   simp only [Ask.place,Bool.and_eq_true] at hp
   have p1:=inR_iff.1 hp.1.1.1
   have p2:=inR_iff.1 hp.1.1.2
   have p3:=inR_iff.1 hp.1.2
   have p4:=inR_iff.1 hp.2
   exact key hc (by omega) (by omega) (by omega) (by omega) (by omega)
  ·split at h
   ·rename_i _ _ hk
    simp only [beq_iff_eq] at hk
    cases hc:a.common<;>cases hi:inR a.item 0 2<;>cases h3:a.rest3<;>simp [hc,hi,h3] at h
    simp only [Ask.rest3,Bool.or_eq_false_iff,bne_eq_false_iff_eq] at h3
    have p1:=inR_iff.1 hi
    exact key hc (by omega) (by omega) (by omega) (by omega) (by omega)
   ·cases h
def Sess.late (s:Sess) (now:Int):Bool:=s.on && decide (s.last+5<now)
end Go.Proofs.YtabbgpjofkaomaaGreatDoor

/- What a row's list of package-level errors gives: each holds a pointer to an error string, no two the same. -/
namespace Go.Proofs.YtabbgpjofkaomaaGreatDoor
open Go.RowKit
theorem own:ownKnob Tryz.prog.godebug=none:=by kernel_rfl
theorem rowErrStr : ∀ u, Tryz.prog.typeName? 3 u = some "*errors.errorString" → u = 357 :=
 typeName_ptr_named (nm := "errors.errorString") (by kernel_rfl) (by kernel_rfl) (by decide)
theorem cellsErrStr:Tryz.prog.cellsOf 375=1:=by kernel_rfl
theorem cellsStr:Tryz.prog.cellsOf 9=1:=by kernel_rfl
def nameOf (c:Nat):String :=
 match c with
 | 1 => "gavelhouse/api.ErrText" | 2 => "gavelhouse/api.ErrBound" | 3 => "gavelhouse/api.ErrShape" | 4 => "gavelhouse/api.ErrKind" | 5 => "gavelhouse/api.ErrSum" | 6 => "gavelhouse/api.ErrNone"
 | 7 => "gavelhouse/api.ErrExist" | 8 => "gavelhouse/api.ErrFull" | 9 => "gavelhouse/api.ErrOff" | 10 => "gavelhouse/api.ErrPoor" | 11 => "gavelhouse/api.ErrState" | _ => "gavelhouse/api.ErrOrder"
def textOf (c:Nat):List UInt8:=([103,97,118,101,108,104,111,117,115,101,58,32]:List UInt8) ++
 (match c with
 | 1=>[116,101,120,116]|2=>[98,111,117,110,100]|3=>[115,104,97,112,101]|4=>[107,105,110,100]|5=>[115,117,109]|6=>[110,111,110,101]
 | 7=>[101,120,105,115,116]|8=>[102,117,108,108]|9=>[111,102,102]|10=>[112,111,111,114]|11=>[115,116,97,116,101]|_=>[111,114,100,101,114])
def errEntry (c : Nat) : String × DataW Unit := (nameOf c, .iface "*errors.errorString" (.ptr (.agg [.lit (.string (textOf c))])))
def Apart (E:Nat→Addr) (l:List Nat) (w:World):Prop :=
 (∀ c∈l,∃ cs t,w.heap[(E c).block]?=some (.cells cs t (0,0)))∧∀ c∈l,∀ c'∈l,c≠c'→E c≠E c'
set_option maxRecDepth 100000 in
theorem errs_of_vars {W:World}:∀ (L:List Nat) (ps:List MemPlace),(L.all fun c=>Tryz.prog.globalNamed (nameOf c)==some (gOf c) && ((Tryz.prog.globals[gOf c]?).map (·.type)==some 27))=true →
  DataW.LaidVars Tryz.prog W (L.map errEntry) ps→ps.Nodup→(∀ b off,MemPlace.cell b off∈ps→(∃ c t,W.heap[b]?=some (.cells c t (0,0)))∧∀ u v,W.cell? ⟨b,off,none⟩=some (.iface u v)→Value.okWide Tryz.prog W .any 0 u v)→L.Nodup →
  ∃ E:Nat→Addr,Errs E L W∧Apart E L W∧∀ c∈L,MemPlace.cell (E c).block (E c).off∈ps
 | [],_,_,_,_,_,_=>⟨fun _=>⟨0,0,none⟩,(by intro c h;cases h),⟨(by intro c h;cases h),(by intro c h;cases h)⟩,(by intro c h;cases h)⟩
 | c::L,ps,hc,hv,hnd,hrows,hL=>by
  simp only [List.all_cons,Bool.and_eq_true,beq_iff_eq] at hc
  obtain ⟨⟨hg,ht⟩,hc'⟩:=hc
  obtain ⟨g0,t0,cs0,f0,p0,q0,hg0,ht0,hv0,hd0,hq,rfl⟩:=hv
  obtain rfl:=Option.some.inj (hg.symm.trans hg0)
  obtain rfl:=Option.some.inj (ht.symm.trans ht0)
  obtain ⟨l0⟩:=cs0
  have ok0:∀ u v,l0=[.iface u v]→Value.okWide Tryz.prog W .any 0 u v:=fun u v e=>by
   subst e
   exact (hrows (gOf c) 0 (by simp [MemPlace.row])).2 u v (by simpa using World.var?_cell hg0 hv0 0)
  obtain ⟨a0,s0,rfl,hc0,hs0,hz0,rfl⟩:=errorString_of_trod Tryz.underlying27 rowErrStr Tryz.underlying357 Tryz.underlying375 rfl rfl Tryz.underlying9 cellsErrStr cellsStr hd0 ok0
  have hndq:q0.Nodup:=List.Nodup.sublist (List.sublist_append_right _ _) hnd
  obtain ⟨E,h1,⟨h2,h3⟩,h4⟩:=errs_of_vars L q0 (by simpa using hc') hq hndq (fun b off hm=>hrows b off (by simp [hm])) (List.nodup_cons.1 hL).2
  have hnotin:c∉L:=(List.nodup_cons.1 hL).1
  have hcell:=World.var?_cell hg0 hv0 0
  simp at hcell
  have hplace:MemPlace.cell a0.block a0.off∉q0:=by
   intro hm
   rw [List.append_assoc] at hnd
   have:=(List.nodup_append.1 (List.nodup_append.1 hnd).2.1).2.2
   exact this _ (by simp [MemPlace.row]) _ hm rfl
  have hE:∀ x,x∈L→(if x=c then a0 else E x)=E x:=fun x hx=>if_neg (by rintro rfl;exact hnotin hx)
  refine ⟨fun x=>if x=c then a0 else E x,?_,⟨?_,?_⟩,?_⟩
  ·intro x hx
   rcases List.mem_cons.1 hx with rfl|hx
   ·simpa using hcell
   ·simp only [hE x hx]
    exact h1 x hx
  ·intro x hx
   rcases List.mem_cons.1 hx with rfl|hx
   ·simp only [if_true]
    exact (hrows a0.block a0.off (by simp [MemPlace.row])).1
   ·simp only [hE x hx]
    exact h2 x hx
  ·intro x hx y hy hne
   rcases List.mem_cons.1 hx with ex|hx'
   ·rcases List.mem_cons.1 hy with ey|hy'
    ·exact absurd (ex.trans ey.symm) hne
    ·simp only [if_pos ex,hE y hy']
     intro e
     exact hplace (by rw [e];exact h4 y hy')
   ·rcases List.mem_cons.1 hy with ey|hy'
    ·simp only [if_pos ey,hE x hx']
     intro e
     exact hplace (by rw [← e];exact h4 x hx')
    ·simp only [hE x hx',hE y hy']
     exact h3 x hx' y hy' hne
  ·intro x hx
   rcases List.mem_cons.1 hx with rfl|hx
   ·simp [MemPlace.row]
   ·simp only [hE x hx]
    simp [h4 x hx]
theorem errs_of_laid {W:World} (L:List Nat) (h:laidMet Tryz.prog (L.map errEntry) W) (hL:L.Nodup)
  (hc:(L.all fun c=>Tryz.prog.globalNamed (nameOf c)==some (gOf c) && ((Tryz.prog.globals[gOf c]?).map (·.type)==some 27))=true) :
  ∃ E:Nat→Addr,Errs E L W∧Apart E L W:=by
 obtain ⟨ps,h1,h2,h3⟩:=h
 obtain ⟨E,a,b,_⟩:=errs_of_vars L ps hc h1 h2 h3 hL
 exact ⟨E,a,b⟩
end Go.Proofs.YtabbgpjofkaomaaGreatDoor

/- The world in which the package-level errors lie as the program's text lays them: the witness of every row; and the closed facts that every claim shares. -/
namespace Go.Proofs.YtabbgpjofkaomaaGreatDoor
open Go.RowKit
def putG (h:Array Obj) (g:Nat) (v:Value):Array Obj:=h.modify g fun
 | .cells _ t fr=>.cells #[v] t fr
 | o=>o
noncomputable def heap0 (os:Os):Array Obj:=(World.holding Tryz.prog os ⟨#[],#[],[]⟩).heap
noncomputable def doorErr (os:Os) (i:Nat):Value:=.iface 357 (.pointer (some ⟨(heap0 os).size+i,0,none⟩))
def errB (text:List UInt8):Obj:=.cells #[.string ⟨text.toArray⟩] 375
noncomputable def laidW (os:Os):World :=
 let h:=heap0 os
 let h:=putG h 4 (doorErr os 0)
 let h:=putG h 0 (doorErr os 1)
 let h:=putG h 2 (doorErr os 2)
 let h:=putG h 5 (doorErr os 3)
 let h:=putG h 6 (doorErr os 4)
 let h:=putG h 7 (doorErr os 5)
 let h:=putG h 8 (doorErr os 6)
 let h:=putG h 3 (doorErr os 7)
 let h:=putG h 1 (doorErr os 8)
 let h:=putG h 9 (doorErr os 9)
 let h:=putG h 10 (doorErr os 10)
 let h:=putG h 11 (doorErr os 11)
 let h:=putG h 12 (.iface 272 (.agg #[.pointer (some ⟨Tryz.prog.globals.size,27,none⟩)]))
 { World.holding Tryz.prog os ⟨#[],#[],[]⟩ with heap:=h++#[errB [103,97,118,101,108,104,111,117,115,101,58,32,116,101,120,116],
   errB [103,97,118,101,108,104,111,117,115,101,58,32,98,111,117,110,100],
   errB [103,97,118,101,108,104,111,117,115,101,58,32,115,104,97,112,101],
   errB [103,97,118,101,108,104,111,117,115,101,58,32,107,105,110,100],
   errB [103,97,118,101,108,104,111,117,115,101,58,32,115,117,109],
   errB [103,97,118,101,108,104,111,117,115,101,58,32,110,111,110,101],
   errB [103,97,118,101,108,104,111,117,115,101,58,32,101,120,105,115,116],
   errB [103,97,118,101,108,104,111,117,115,101,58,32,102,117,108,108],
   errB [103,97,118,101,108,104,111,117,115,101,58,32,111,102,102],
   errB [103,97,118,101,108,104,111,117,115,101,58,32,112,111,111,114],
   errB [103,97,118,101,108,104,111,117,115,101,58,32,115,116,97,116,101],
   errB [103,97,118,101,108,104,111,117,115,101,58,32,111,114,100,101,114]] }
theorem looks0:true=Tryz.prog.looks []:=by kernel_rfl
theorem mainIs0 : Tryz.prog.mainIs = some (((true, "7ccdb6090e784bb94c5e6d89a6081624d4a601ef6fd3e7308a439184fffe165c") : Bool × String).1, ((true, "7ccdb6090e784bb94c5e6d89a6081624d4a601ef6fd3e7308a439184fffe165c") : Bool × String).2.toList) := by kernel_rfl
end Go.Proofs.YtabbgpjofkaomaaGreatDoor

/- What every law's claim shares: behind a call that only makes new blocks the arguments read as before. -/
namespace Go.Proofs.YtabbgpjofkaomaaGreatDoor
open Go.ChangeShapes Go.WideShapes Go.ChangeAt Go.RowKit
theorem lawLaid:laidOutB Tryz.prog=true:=by kernel_rfl
section
variable {H:Type} {enc:TypeId × Value→H} {P:Program} {W W':World}
theorem trodAll_length {base:Nat} {sp:Nat→Bool} {held:Bool}:∀ {ts:List TypeId} {vs:List Value} {ds:List (DataW H)} {ps:List MemPlace},DataW.TrodAll enc P W base sp held ts vs ds ps→ds.length=ts.length∧vs.length=ts.length
 | [],_,_,_,h=>by obtain ⟨rfl,rfl,_⟩:=trodAll_nil h;exact ⟨rfl,rfl⟩
 | t::ts,_,_,_,h=>by
  obtain ⟨v,vs,d,ds,p,q,rfl,rfl,rfl,_,h2⟩:=trodAll_cons h
  have:=trodAll_length h2
  simp [this.1,this.2]
theorem trodAll_below (hl:laidOutB P=true) (hb:Below W.heap.size W W'):∀ {ts:List TypeId} {vs:List Value} {ds:List (DataW H)} {ps:List MemPlace},
  (ts.all fun t=>P.readableRec t && decide (t<P.types.size))=true→DataW.TrodAll enc P W 0 (fun _=>true) true ts vs ds ps→(∀ x∈ps,x.block<W.heap.size) →
  ∀ (sp:Nat→Bool),(∀ x∈ps,sp x.block=true)→DataW.TrodAll enc P W' 0 sp true ts vs ds ps
 | [],vs,ds,ps,_,h,_,sp,_=>by obtain ⟨rfl,rfl,rfl⟩:=trodAll_nil h;exact trodAll_mk0
 | t::ts,_,_,_,hr,h,hlt,sp,hsp=>by
  obtain ⟨v,vs,d,ds,p,q,rfl,rfl,rfl,h1,h2⟩:=trodAll_cons h
  simp only [List.all_cons,Bool.and_eq_true,decide_eq_true_eq] at hr
  refine trodAll_cons_mk (WideElems.Trod_stays hl hr.1.1 hr.1.2 h1 (fun x hx=>hb.same (hlt x (by simp [hx]))) (fun x hx=>hsp x (by simp [hx]))) ?_
  exact trodAll_below hl hb hr.2 h2 (fun x hx=>hlt x (by simp [hx])) sp (fun x hx=>hsp x (by simp [hx]))
theorem law_post {f:Func} {s:ChangeSpec} {args:Array Value} {ds:List (DataW H)} {p:List MemPlace} {rs:List TypeId} {tb:TypeId}
  (hW:DataW.Whole enc P f.params.toList s.vars false W args.toList ds [] (p++[])) (hA:DataW.TrodAll enc P W 0 (fun _=>true) true f.params.toList args.toList ds p) (hv:s.vars=[])
  (hb:Below W.heap.size W W') (hl:laidOutB P=true) (hr:(f.params.toList.all fun t=>P.readableRec t && decide (t<P.types.size))=true)
  (hfn:s.fn H ds={ results:=[.lit (.bool true)],args:=ds }) (hres:f.resultTypes.toList=rs) (hrs:rs=[tb]) (ht:P.underlying tb=some .bool) :
  s.post enc P f false true false false W args (.bool true) W':=by
 have hlt:∀ x∈p,x.block<W.heap.size:=fun x hx=>hW.lt x (by simp [hx])
 have hfn':s.fn H (ds++[])={ results:=[.lit (.bool true)],args:=ds }:=by rw [List.append_nil];exact hfn
 have hsz:f.resultTypes.size=1:=by
  have:f.resultTypes.toList.length=1:=by rw [hres,hrs];rfl
  simpa using this
 refine ⟨ds,[],p++[],[],p,[],hW,?_,?_,?_,hb.frame _,fun h=>by cases h⟩
 ·rw [hfn',hres,hrs,hsz]
  exact trodAll_mk1 (shut_bool ht true)
 ·rw [hfn']
  exact trodAll_below hl hb hr hA hlt _ (fun x hx=>by simpa using hlt x hx)
 ·rw [hfn',hv]
  exact rfl
end
end Go.Proofs.YtabbgpjofkaomaaGreatDoor

/- Plain data: a lot; how slices of lots read. -/
namespace Go.Proofs.YtabbgpjofkaomaaGreatDoor
open Go.ChangeShapes Go.WideShapes Go.ChangeAt Go.RowKit Go.Deep
structure Lot where
 id:Int
 owner:Int
 side:Int
 price:Int
 qty:Int
 deriving DecidableEq
def Lot.cells (a:Lot):List Value:=[.int .i64 a.id,.int .i64 a.owner,.int .i64 a.side,.int .i64 a.price,.int .i64 a.qty]
abbrev Lot.val (a:Lot):Value:=.agg #[.int .i64 a.id,.int .i64 a.owner,.int .i64 a.side,.int .i64 a.price,.int .i64 a.qty]
def Lot.wf (a:Lot):Prop:=(Lit.int .i64 a.id).wf=true∧(Lit.int .i64 a.owner).wf=true∧(Lit.int .i64 a.side).wf=true∧(Lit.int .i64 a.price).wf=true∧(Lit.int .i64 a.qty).wf=true
def LotsAt (w:World) (ao:Option Addr) (len:Nat) (l:List Lot):Prop :=
 l.length=len∧len≤9223372036854775807∧(∀ a∈l,a.wf) ∧
  (0<len→∃ b off,ao=some ⟨b,off,none⟩∧b<w.heap.size∧∀ k (h:k<l.length) j,j<5→w.cell? ⟨b,off+k*5+j,none⟩=l[k].cells[j]?)
end Go.Proofs.YtabbgpjofkaomaaGreatDoor
