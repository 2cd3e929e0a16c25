import Derived.Test.YtabbgpjofkaomaaGreatDoorJ7
import Derived.Test.YtabbgpjofkaomaaGreatDoorFairL
import Derived.Test.YtabbgpjofkaomaaGreatDoorBand
import Derived.Test.YtabbgpjofkaomaaGreatDoorJ14
import Derived.Test.YtabbgpjofkaomaaGreatDoorJ9
import Derived.Test.YtabbgpjofkaomaaGreatDoorJ5
import Derived.Test.YtabbgpjofkaomaaGreatDoorJ3
import Derived.Deep.RegionHeld3
import Derived.Deep.CutBlock
import Derived.BigQuiet
import Derived.Deep.QuietTactic
set_option linter.unusedSimpArgs false
set_option linter.unusedVariables false
/- Plain facts: what a batch makes of a floor. Its trades never fail. -/
namespace Go.Proofs.YtabbgpjofkaomaaGreatDoor
open Go.RowKit
theorem BOk.lots {l:List Lot} (h:BOk l):LotsOk l:=by
 refine ⟨by have:=h.len;omega,fun k hk=>?_⟩
 rw [codeAt_at (List.getElem?_eq_getElem hk),if_pos (h.ok _ (List.getElem_mem hk)),if_neg ?_]
 rw [List.any_eq_true]
 rintro ⟨y,hy,e⟩
 obtain ⟨j,hj,rfl⟩:=List.getElem_of_mem hy
 have hj':j<k:=by simp at hj;omega
 rw [List.getElem_take] at e
 exact List.pairwise_iff_getElem.1 h.apart j k (by omega) hk hj' (by simpa using e)
def lessF (f:Fil) (q:Int) (l:List Fil):List Fil:=if f.qty - q=0 then l else ⟨f.id,f.qty - q⟩::l
theorem got_less (f:Fil) (q:Int) (l:List Fil) (id:Int):gotF (lessF f q l) id=gotF (f::l) id - if f.id=id then q else 0:=by
 unfold lessF
 simp only [gotF]
 split
 ·split<;>omega
 ·simp only [gotF];split<;>omega
theorem less_len (f:Fil) (q:Int) (l:List Fil):(lessF f q l).length=if f.qty - q=0 then l.length else l.length+1:=by
 unfold lessF;split<;>rfl
theorem less_mem {f:Fil} {q:Int} {l:List Fil} {g:Fil} (hq:q≤f.qty) (h:g∈lessF f q l):g∈l∨(g.id=f.id∧g.qty=f.qty - q∧1≤g.qty):=by
 unfold lessF at h
 split at h
 ·exact .inl h
 ·rcases List.mem_cons.1 h with rfl|h
  ·exact .inr ⟨rfl,rfl,show 1≤f.qty - q by omega⟩
  ·exact .inl h
theorem got_nonneg {l:List Fil} (h:∀ f∈l,1≤f.qty) (id:Int):0≤gotF l id:=by
 induction l with
 | nil=>simp [gotF]
 | cons f l ih =>
  have:=ih fun g hg=>h g (by simp [hg])
  have:=h f (by simp)
  simp only [gotF];split<;>omega
theorem got_ge {l:List Fil} (h:∀ f∈l,1≤f.qty) {f:Fil} (hf:f∈l):f.qty≤gotF l f.id:=by
 induction l with
 | nil=>cases hf
 | cons g l ih =>
  have h1:=got_nonneg (l:=l) (fun x hx=>h x (by simp [hx])) f.id
  have h2:=h g (by simp)
  simp only [gotF]
  rcases List.mem_cons.1 hf with rfl|hf
  ·rw [if_pos rfl];omega
  ·have:=ih (fun x hx=>h x (by simp [hx])) hf
   split<;>omega
structure TInv (k:Nat) (price:Int) (st:FSt) (bs ss:List Fil):Prop where
 ok:FOk st
 buys:∀ f∈bs,1≤f.qty∧∃ x∈st.b k,x.id=f.id∧x.side=0∧price≤x.price
 sells:∀ f∈ss,1≤f.qty∧∃ x∈st.b k,x.id=f.id∧x.side=1∧x.price≤price
 bd:∀ x∈st.b k,gotF bs x.id+gotF ss x.id≤x.qty
theorem TInv.step {k:Nat} {price:Int} {st:FSt} {b s:Fil} {bs ss:List Fil} (h:TInv k price st (b::bs) (s::ss)) (hp:PInv st.p) (hk:k<3) :
  ∃ x y,x∈st.b k∧y∈st.b k∧getR (st.b k) b.id=(x,true)∧getR (st.b k) s.id=(y,true)∧x.id=b.id∧y.id=s.id∧x.side=0∧y.side=1∧price≤x.price∧y.price≤price ∧
   1≤min b.qty s.qty∧min b.qty s.qty≤x.qty∧min b.qty s.qty≤y.qty∧tradeE st.p (k:Int) x y price (min b.qty s.qty)=0 ∧
   TInv k price (tradeS st k price (min b.qty s.qty) x y) (lessF b (min b.qty s.qty) bs) (lessF s (min b.qty s.qty) ss):=by
 obtain ⟨b1,x,hx,hxi,hxs,hxp⟩:=h.buys b (by simp)
 obtain ⟨s1,y,hy,hyi,hys,hyp⟩:=h.sells s (by simp)
 have hbk:=h.ok.book k hk
 have n1:=got_nonneg (l:=b::bs) (fun f hf=>(h.buys f hf).1)
 have n2:=got_nonneg (l:=s::ss) (fun f hf=>(h.sells f hf).1)
 have g1:=got_ge (l:=b::bs) (fun f hf=>(h.buys f hf).1) (f:=b) (by simp)
 have g2:=got_ge (l:=s::ss) (fun f hf=>(h.sells f hf).1) (f:=s) (by simp)
 have bx:=h.bd x hx
 have by':=h.bd y hy
 rw [hxi] at bx
 rw [hyi] at by'
 have m1:=n2 b.id
 have m2:=n1 s.id
 obtain ⟨q,hq⟩:∃ q,q=min b.qty s.qty:=⟨_,rfl⟩
 have q1:1≤q:=by omega
 have q2:q≤x.qty:=by omega
 have q3:q≤y.qty:=by omega
 obtain ⟨hE,hF,l1,l2,e1,e2,hbk2,hy1,hmem⟩:=h.ok.trade hp hk hx hy hxs hys q1 q2 q3 hxp hyp
 have hne:x.id≠y.id:=fun e=>by
  have:=hbk.apart.eq hx hy e
  subst this;omega
 rw [← hq]
 refine ⟨x,y,hx,hy,by rw [← hxi];exact getR_mem hbk.apart hx,by rw [← hyi];exact getR_mem hbk.apart hy,hxi,hyi,hxs,hys,hxp,hyp,q1,q2,q3,hE,hF,fun f hf=>?_,fun f hf=>?_,fun z hz=>?_⟩
 ·rw [hbk2]
  have hf1:1≤f.qty∧∃ z∈st.b k,z.id=f.id∧z.side=0∧price≤z.price:=by
   rcases less_mem (by omega) hf with hf|⟨e,_,h1⟩
   ·exact h.buys f (by simp [hf])
   ·exact ⟨h1,x,hx,by rw [e,hxi],hxs,hxp⟩
  obtain ⟨f1,z,hz,hzi,hzs,hzp⟩:=hf1
  refine ⟨f1,?_⟩
  by_cases e:z.id=x.id
  ·have:z=x:=hbk.apart.eq hz hx e
   subst this
   refine ⟨z.less q,(hmem _).2 (.inr (.inl ⟨?_,rfl⟩)),hzi,hzs,hzp⟩
   have k1:=got_ge (l:=lessF b q bs) (fun g hg=>by
    rcases less_mem (by omega) hg with hg|⟨_,_,h1⟩
    ·exact (h.buys g (by simp [hg])).1
    ·exact h1) hf
   rw [got_less,← hzi,hxi,if_pos rfl] at k1
   omega
  ·exact ⟨z,(hmem z).2 (.inl ⟨hz,e,fun e2=>by have:=hbk.apart.eq hz hy e2;subst this;omega⟩),hzi,hzs,hzp⟩
 ·rw [hbk2]
  have hf1:1≤f.qty∧∃ z∈st.b k,z.id=f.id∧z.side=1∧z.price≤price:=by
   rcases less_mem (by omega) hf with hf|⟨e,_,h1⟩
   ·exact h.sells f (by simp [hf])
   ·exact ⟨h1,y,hy,by rw [e,hyi],hys,hyp⟩
  obtain ⟨f1,z,hz,hzi,hzs,hzp⟩:=hf1
  refine ⟨f1,?_⟩
  by_cases e:z.id=y.id
  ·have:z=y:=hbk.apart.eq hz hy e
   subst this
   refine ⟨z.less q,(hmem _).2 (.inr (.inr ⟨?_,rfl⟩)),hzi,hzs,hzp⟩
   have k1:=got_ge (l:=lessF s q ss) (fun g hg=>by
    rcases less_mem (by omega) hg with hg|⟨_,_,h1⟩
    ·exact (h.sells g (by simp [hg])).1
    ·exact h1) hf
   rw [got_less,← hzi,hyi,if_pos rfl] at k1
   omega
  ·exact ⟨z,(hmem z).2 (.inl ⟨hz,fun e2=>by have:=hbk.apart.eq hz hx e2;subst this;omega,e⟩),hzi,hzs,hzp⟩
 ·rw [hbk2] at hz
  rw [got_less,got_less]
  rcases (hmem z).1 hz with ⟨hz,h1,h2⟩|⟨_,rfl⟩|⟨_,rfl⟩
  ·have:=h.bd z hz
   rw [if_neg (by omega),if_neg (by omega)]
   omega
  ·show gotF (b::bs) x.id - (if b.id=x.id then q else 0)+(gotF (s::ss) x.id - if s.id=x.id then q else 0)≤x.qty - q
   have:=h.bd x hx
   rw [if_pos hxi.symm,if_neg (by omega)]
   omega
  ·show gotF (b::bs) y.id - (if b.id=y.id then q else 0)+(gotF (s::ss) y.id - if s.id=y.id then q else 0)≤y.qty - q
   have:=h.bd y hy
   rw [if_neg (by omega),if_pos hyi.symm]
   omega
def tradeAll (k:Nat) (price:Int):Nat→FSt→List Fil→List Fil→FSt
 | n+1,st,b::bs,s::ss=>tradeAll k price n (tradeS st k price (min b.qty s.qty) (getR (st.b k) b.id).1 (getR (st.b k) s.id).1) (lessF b (min b.qty s.qty) bs) (lessF s (min b.qty s.qty) ss)
 | _,st,_,_=>st
def buysOf (l:List Lot) (F:List Fil):List Fil:=F.filter fun f=>(getR l f.id).1.side==0
def sellsOf (l:List Lot) (F:List Fil):List Fil:=F.filter fun f=>!((getR l f.id).1.side==0)
theorem got_split (l:List Lot):∀ (F:List Fil) (id:Int),gotF (buysOf l F) id+gotF (sellsOf l F) id=gotF F id
 | [],_=>rfl
 | f::F,id=>by
  have ih:=got_split l F id
  unfold buysOf sellsOf at ih ⊢
  simp only [List.filter_cons]
  cases h:((getR l f.id).1.side==0)
  ·simp only [Bool.not_false,if_true,Bool.false_eq_true,if_false,gotF];omega
  ·simp only [Bool.not_true,if_true,Bool.false_eq_true,if_false,gotF];omega
theorem FOk.setN {st:FSt} (h:FOk st) (k:Nat) (r l:Int) (h1:1≤r∧r≤1000) (h2:0≤l∧l≤1000):FOk (st.setN k r l) :=
 ⟨h.book,h.held,h.kept,fun j hj=>by
  show (1≤(if j=k then r else st.ref j)∧(if j=k then r else st.ref j)≤1000)∧0≤(if j=k then l else st.left j)∧(if j=k then l else st.left j)≤1000
  by_cases e:j=k
  ·rw [if_pos e,if_pos e];exact ⟨h1,h2⟩
  ·rw [if_neg e,if_neg e];exact h.band j hj,h.cash,h.stock⟩
theorem best_facts {l:List Lot} (h:LotsOk l) (ref:Int):0≤(bestC l ref 1000).vol∧(0<(bestC l ref 1000).vol→(1≤(bestC l ref 1000).price∧(bestC l ref 1000).price≤1000)∧(bestC l ref 1000).vol=min (dem l (bestC l ref 1000).price) (sup l (bestC l ref 1000).price)) ∧
  ∀ q:Int,1≤q→q≤1000→min (dem l q) (sup l q)≤(bestC l ref 1000).vol:=by
 rcases bestC_spec l ref 1000 with ⟨h1,h2⟩|⟨p,p1,p2,h2,h3,h4⟩
 ·rw [h2]
  exact ⟨Int.le_refl _,fun h=>absurd h (by decide),fun q q1 q2=>h1 q q1 q2⟩
 ·rw [h2]
  refine ⟨by omega,fun _=>⟨⟨p1,p2⟩,rfl⟩,fun q q1 q2=>?_⟩
  by_cases e:q=p
  ·subst e;exact Int.le_refl _
  ·rcases h4 q q1 q2 e with h5|h5
   ·have:min (dem l q) (sup l q)=(candAt l ref q).vol:=rfl
    omega
   ·have a:min (dem l q) (sup l q)=(candAt l ref q).vol:=rfl
    unfold Cand.better at h5
    omega
theorem bnext_range {ref left wd hl p v:Int} (hr:1≤ref∧ref≤1000) (h1:0≤left∧left≤1000) (h2:1≤hl∧hl≤1000) (hp:0<v→1≤p∧p≤1000):(1≤(bnext ref left wd hl p v).1∧(bnext ref left wd hl p v).1≤1000)∧0≤(bnext ref left wd hl p v).2.1∧(bnext ref left wd hl p v).2.1≤1000:=by
 unfold bnext
 (repeat' split)<;>simp only<;>omega
structure RunR where
 price:Int
 vol:Int
 isOpen:Bool
 fills:List Fil
def runR (st:FSt) (k:Nat) (wd hl seed:Int):RunR :=
 let c:=bestC (st.b k) (st.ref k) 1000
 let n:=bnext (st.ref k) (st.left k) wd hl c.price c.vol
 ⟨c.price,c.vol,n.2.2,if n.2.2=true∧c.vol≠0 then fillsL (st.b k) c.price c.vol seed else []⟩
def runS (st:FSt) (k:Nat) (wd hl seed:Int):FSt :=
 let c:=bestC (st.b k) (st.ref k) 1000
 let n:=bnext (st.ref k) (st.left k) wd hl c.price c.vol
 let F:=(runR st k wd hl seed).fills
 tradeAll k c.price (F.length+F.length) (st.setN k n.1 n.2.1) (buysOf (st.b k) F) (sellsOf (st.b k) F)
theorem TInv.start {st:FSt} (h:FOk st) {k:Nat} (hk:k<3) {price volume seed:Int} (v0:0≤volume) (hv:volume≤min (dem (st.b k) price) (sup (st.b k) price)):TInv k price st (buysOf (st.b k) (fillsL (st.b k) price volume seed)) (sellsOf (st.b k) (fillsL (st.b k) price volume seed)):=by
 have hbk:=h.book k hk
 have hF:=fills_fair (seed:=seed) hbk.lots v0 hv
 have hmem:∀ f∈fillsL (st.b k) price volume seed,∃ x∈st.b k,x.id=f.id∧mayT x.side price x=true:=fun f hf=>by
  unfold fillsL at hf
  rcases List.mem_append.1 hf with hf|hf
  ·obtain ⟨_,x,hx,hi,_⟩:=sideF_ids _ _ _ f hf
   have:=levels_mem.1 hx
   exact ⟨x,this.1,hi,by rw [may_side this.2];exact this.2⟩
  ·obtain ⟨_,x,hx,hi,_⟩:=sideF_ids _ _ _ f hf
   have:=levels_mem.1 hx
   exact ⟨x,this.1,hi,by rw [may_side this.2];exact this.2⟩
 refine ⟨h,fun f hf=>?_,fun f hf=>?_,fun x hx=>?_⟩
 ·have hf':=List.mem_filter.1 hf
  obtain ⟨x,hx,hi,hm⟩:=hmem f hf'.1
  have hg:=getR_mem hbk.apart hx
  rw [hi] at hg
  have hs:x.side=0:=by have:=hf'.2;rw [hg] at this;simpa using this
  refine ⟨(hF.qty f hf'.1).1,x,hx,hi,hs,?_⟩
  unfold mayT at hm
  rw [hs] at hm
  simp [hs] at hm
  omega
 ·have hf':=List.mem_filter.1 hf
  obtain ⟨x,hx,hi,hm⟩:=hmem f hf'.1
  have hg:=getR_mem hbk.apart hx
  rw [hi] at hg
  have hs:x.side≠0:=by have:=hf'.2;rw [hg] at this;simpa using this
  have hs1:x.side=1:=by rcases lot_side (hbk.ok x hx) with h|h<;>omega
  refine ⟨(hF.qty f hf'.1).1,x,hx,hi,hs1,?_⟩
  unfold mayT at hm
  rw [hs1] at hm
  simp [hs1] at hm
  omega
 ·rw [got_split]
  exact (hF.bd x hx).2
end Go.Proofs.YtabbgpjofkaomaaGreatDoor

/- What split of a batch computes: the fills of buys, the fills of sells. -/
namespace Go.Proofs.YtabbgpjofkaomaaGreatDoor
open Go.RowKit
theorem wpList_append_two {P:Program} {ops:Array Oper} {rest:List Oper} {o:Oper} {a:Act} {w:World} {Q:Exit→Act→World→Prop} (hgd:o.guard=none) (s x:Operand) (t tx:TypeId)
  (ho:o.op=.call { callee:=.builtin .append,args:=#[s,x],argTypes:=#[t,tx] })
  (e:TypeId) (i:TypeInfo) (z:Value) (size bytes:Nat) (ht:P.underlying t=some (.slice e)) (hi:P.info? e=some i) (hz:i.zero=some z)
  (hsize:i.size=size) (hby:i.bytes=bytes) (hzs:z.cells.size=size)
  (v y:Value) (n m:Nat) (xs news:List Value) (hv:a.eval s=v) (hy:a.eval x=y) (h:RowAt w e size v n xs) (hs:Src P size tx y m news w)
  (h63:n+m≤maxLen) (hbytes:(n+m)*bytes≤140737488355328)
  (hK:∀ v' w',RowAt w' e size v' (n+m) (xs++news)→w.grownBy w' v.ownBlock→(v'.ownBlock=v.ownBlock∨v'.ownBlock=some w.heap.size)→wpList P ops Q rest (a.put o.dst v') w') :
  wpList P ops Q (o::rest) a w:=by
 obtain ⟨v',w',hr,h1,h2,h3,_,_⟩:=run_append_keep (P:=P) t tx o.type e i z size bytes ht hi hz hsize hby hzs h hs h63 hbytes
 refine wpList_plain hgd fun _ hK'=>?_
 unfold Oper.wp execOp
 simp only [ho,resolve,invoke,builtin,Sem.run_bind,Sem.run_pure,Result.andThen_ok,List.map_toArray,List.map_cons,List.map_nil,hv,hy,hr]
 exact hK' _ _ (hK v' w' h1 h2 h3)
theorem filc_len (f:Fil):f.cells.length=2:=rfl
def FilRow (base:Nat) (l:List Fil) (v:Value) (W:World):Prop:=RowAt W 234 2 v l.length (flat Fil.cells l)∧∀ g,v.ownBlock=some g→base≤g
theorem FilRow.ex {base:Nat} {l:List Fil} {v:Value} {W W':World} (h:FilRow base l v W) (hx:Ex W W'):FilRow base l v W':=⟨h.1.of_block fun g hg=>hx.below.block g (h.1.lt g hg),h.2⟩
theorem FilRow.kept {base:Nat} {l:List Fil} {v:Value} {W W':World} {row:Option Nat} (h:FilRow base l v W) (hg:W.grownBy W' row) (hne:∀ g,v.ownBlock=some g→row≠some g):FilRow base l v W':=⟨h.1.of_block fun g e=>hg.block g (h.1.lt g e) (fun e2=>hne g e e2.symm),h.2⟩
theorem FilRow.nil (base:Nat) (W:World):FilRow base [] (.slice none 0 0) W:=⟨RowAt.nil _ _ _,fun g h=>by cases h⟩
def TwoV (v u:Value):Prop:=∀ g,v.ownBlock=some g→u.ownBlock≠some g
theorem TwoV.symm {v u:Value} (h:TwoV v u):TwoV u v:=fun g hu hv=>h g hv hu
theorem FilRow.slice {base:Nat} {l:List Fil} {v:Value} {W:World} (h:FilRow base l v W):∃ ao cap,v=.slice ao l.length cap∧l.length≤cap∧cap≤maxLen:=by
 obtain ⟨_,⟨rfl,h0⟩|⟨g,off,cap,cur,rfl,_,hc,hm,_⟩⟩:=h.1
 ·exact ⟨none,0,by rw [h0],by omega,by unfold maxLen;omega⟩
 ·exact ⟨_,cap,rfl,hc,hm⟩
theorem buys_snoc (L:List Lot) (F:List Fil) (k:Nat) (hk:k<F.length):buysOf L (F.take (k+1))=buysOf L (F.take k)++(if (getR L F[k].id).1.side==0 then [F[k]] else []):=by
 rw [List.take_succ_eq_append_getElem hk]
 unfold buysOf
 rw [List.filter_append]
 congr 1
 by_cases h:((getR L F[k].id).1.side==0)=true
 ·simp [h]
 ·simp [h]
theorem sells_snoc (L:List Lot) (F:List Fil) (k:Nat) (hk:k<F.length):sellsOf L (F.take (k+1))=sellsOf L (F.take k)++(if (getR L F[k].id).1.side==0 then [] else [F[k]]):=by
 rw [List.take_succ_eq_append_getElem hk]
 unfold sellsOf
 rw [List.filter_append]
 congr 1
 by_cases h:((getR L F[k].id).1.side==0)=true
 ·simp [h]
 ·simp [h]
section
variable {own:Nat→Nat} {i:Nat} {w:World} {p:Nat} {L:List Lot}
def SplitR (w:World) (L:List Lot) (F:List Fil) (k:Nat) (v u:Value) (wr:World):Prop :=
 FilRow (w.heap.size+1) (buysOf L (F.take k)) v wr∧FilRow (w.heap.size+1) (sellsOf L (F.take k)) u wr∧TwoV v u∧Ex w wr
def SplitTo (w:World) (L:List Lot) (F:List Fil) (e:Ending) (w':World):Prop:=∃ v u,e=.returned (.tuple #[v,u])∧FilRow (w.heap.size+1) (buysOf L F) v w'∧FilRow (w.heap.size+1) (sellsOf L F) u w'∧TwoV v u∧Ex w w'
theorem two_step {w wr W w':World} {base:Nat} {B S:List Fil} {f:Fil} {v u v':Value} (hx:Ex wr W) (hv:FilRow base B v wr) (hu:FilRow base S u wr) (hb0:w.heap.size≤base) (hb1:base≤wr.heap.size) (htw:TwoV v u) (hex:Ex w wr) (hrow:RowAt w' 234 2 v' (B.length+1) (flat Fil.cells B++f.cells)) (hg:W.grownBy w' v.ownBlock) {z:Nat} (ho:v'.ownBlock=v.ownBlock∨v'.ownBlock=some z) (hW:z=W.heap.size) :
  FilRow base (B++[f]) v' w'∧FilRow base S u w'∧TwoV v' u∧Ex w w':=by
 have h1:=hex.below.size
 have h2:=hx.below.size
 subst hW
 refine ⟨⟨by rw [flat_append,flat_one,List.length_append];exact hrow,fun g e=>?_⟩,(hu.ex hx).kept hg (fun g e e2=>htw g e2 e),fun g e e2=>?_,Ex.of (Below.grown (hex.trans hx).below hg (hex.trans hx).below.size (fun b e=>Nat.le_trans hb0 (hv.2 b e)))⟩
 ·rcases ho with h|h
  ·rw [h] at e;exact hv.2 g e
  ·rw [h] at e;cases e;omega
 ·rcases ho with h|h
  ·rw [h] at e;exact htw g e e2
  ·rw [h] at e
   cases e
   have:=hu.1.lt _ e2
   omega
set_option maxRecDepth 100000 in
set_option maxHeartbeats 4000000 in
theorem split_any (h:BookAt own i w p L) (r l:Int) (ao:Option Addr) (cap:Nat) (F:List Fil) (hF:FillAt w ao F) (hz:F.length≤100000) :
  Calls Tryz.prog 189 #[.agg #[.pointer (some ⟨p,0,none⟩),.int .i64 r,.int .i64 l],.slice ao F.length cap] w (SplitTo w L F):=by
 obtain ⟨i0,hi0,hz0,hz1,hz2⟩:=info_parts infoFill
 have HG:=Lib.hid (fun W id (hx:Ex w W)=>get_any (h.later hx) id)
 have HF:=Lib.hid hF
 clear h hF
 go_enter Tryz.func189,Tryz.ntmps189
 go_wp2_with fail
 go_loopw [4,5,12] (fun v u i wr=>∃ (k:Nat) (v' u':Value),v'=v∧u'=u∧k≤F.length∧i=.int .i64 (k:Int)∧SplitR w L F k v' u' wr∧wr.cell? ⟨w.heap.size,0,none⟩=some (.pointer (some ⟨p,0,none⟩))) (fun _ _ i _=>F.length - (intOf i).toNat)
 case atStart=>exact ⟨0,_,_,rfl,rfl,Nat.zero_le _,rfl,⟨FilRow.nil _ _,FilRow.nil _ _,fun g h=>(by cases h),(by repeat (first|exact Ex.refl _|refine Ex.alloc ?_ _|refine Ex.ext ?_ _ _|refine Ex.drew ?_|refine Ex.drewN ?_ _))⟩,by simp [go_sem]⟩
 case round =>
  obtain ⟨k,v,u,rfl,rfl,hk,rfl,hS,hc0⟩:=hrel
  obtain ⟨hv,hu,htw,hex⟩:=hS
  have hsz:=hex.below.size
  have hlt0:=lt_of_cell hc0
  obtain ⟨av,cv,rfl,hcv,_⟩:=hv.slice
  obtain ⟨au,cu,rfl,hcu,_⟩:=hu.slice
  have HV:=Lib.hid hv
  have HU:=Lib.hid hu
  have HTW:=Lib.hid htw
  have HEX:=Lib.hid hex
  clear hv hu htw
  by_cases hlt:k<F.length
  ·obtain ⟨b,off,rfl,hb,hcc⟩:=HF.out (by omega)
   have f0:=(hex.below.cell (p:=⟨b,off+k*2+0,none⟩) hb).trans (hcc k hlt 0 (by omega))
   have f1:=(hex.below.cell (p:=⟨b,off+k*2+1,none⟩) hb).trans (hcc k hlt 1 (by omega))
   simp only [Fil.cells,List.getElem?_cons_zero,List.getElem?_cons_succ,Nat.add_zero] at f0 f1
   have hbz:b<wr.heap.size:=by omega
   have hsb:=buys_snoc L F k hlt
   have hss:=sells_snoc L F k hlt
   have HSB:=Lib.hid hsb
   have HSS:=Lib.hid hss
   have hlb:(buysOf L (F.take k)).length≤(F.take k).length:=List.length_filter_le _ _
   have hls:(sellsOf L (F.take k)).length≤(F.take k).length:=List.length_filter_le _ _
   rw [List.length_take] at hlb hls
   clear hcc hsb hss hex
   generalize buysOf L (F.take k)=B at *
   generalize sellsOf L (F.take k)=S at *
   generalize F[k]=f at *
   have HGX:=Lib.hid (fun W hx=>HG.out W f.id hx)
   generalize getR L f.id=gr at *
   obtain ⟨⟨xi,xo,xs,xp,xq⟩,xb⟩:=gr
   simp only at HSB HSS
   by_cases hs:(xs==0)=true
   ·rw [hs,if_pos rfl] at HSB HSS
    rw [List.append_nil] at HSS
    go_upto_region 6 with (go_at_call 124;((with_reducible refine (HGX.out _ ?_).mono ?_));(focus exact HEX.out.trans (by with_reducible repeat (first|exact Ex.refl _|refine Ex.alloc ?_ _|refine Ex.ext ?_ _ _|refine Ex.drew ?_|refine Ex.drewN ?_ _)));rintro e w1 ⟨rfl,l1,d1,rfl⟩)
    go_wp2_with (at_builtin;refine wpList_append_two rfl (.tmp 27) (.tmp 29) 228 228 rfl 234 i0 _ 2 16 Tryz.underlying228 hi0 hz0 hz1 hz2 rfl (.slice av B.length cv) (.slice (some ⟨wr.heap.size+1+l1.length+1,0,none⟩) 1 1) B.length 1 (flat Fil.cells B) (Fil.cells f) rfl rfl ?_ ?_ ?_ ?_ ?_)
    focus exact (HV.out.ex (by with_reducible repeat (first|exact Ex.refl _|refine Ex.alloc ?_ _|refine Ex.ext ?_ _ _|refine Ex.drew ?_|refine Ex.drewN ?_ _))).1
    focus exact (Src.block Tryz.underlying228 1 1 (cs:=#[.int .i64 f.id,.int .i64 f.qty]) (t:=234) (fr:=(0,0)) (heap_new (by simp [go_sem])) (by simp) (by simp [Value.oneCell']))
    focus (unfold maxLen;omega)
    focus omega
    intro v' w' hrow hgrow hown
    have H2:=Lib.hid (two_step (by with_reducible repeat (first|exact Ex.refl _|refine Ex.alloc ?_ _|refine Ex.ext ?_ _ _|refine Ex.drew ?_|refine Ex.drewN ?_ _)) HV.out HU.out (Nat.le_succ _) hlt0 HTW.out HEX.out hrow hgrow hown (by first|omega|(simp [go_sem];done)|(simp [go_sem];omega)))
    have HC0:=Lib.hid (hgrow.cell (a:=⟨w.heap.size,0,none⟩) (v:=.pointer (some ⟨p,0,none⟩)) (by simp [go_sem,↓IntWalk.iteOmega,hc0]) (fun e=>by have h:w.heap.size+1≤w.heap.size:=HV.out.2 _ e.symm;omega))
    clear hrow hgrow hown
    go_wp2_with fail
    go_roundw
    case measure=>simp [intOf];omega
    case rel=>exact ⟨k+1,_,_,rfl,rfl,by omega,by go_num,⟨HSB.out▸H2.out.1,HSS.out▸H2.out.2.1,H2.out.2.2.1,H2.out.2.2.2⟩,HC0.out⟩
   ·have hs0:(xs==0)=false:=by simpa using hs
    rw [hs0,if_neg (by decide)] at HSB HSS
    rw [List.append_nil] at HSB
    clear hs
    go_upto_region 7 with (go_at_call 124;((with_reducible refine (HGX.out _ ?_).mono ?_));(focus exact HEX.out.trans (by with_reducible repeat (first|exact Ex.refl _|refine Ex.alloc ?_ _|refine Ex.ext ?_ _ _|refine Ex.drew ?_|refine Ex.drewN ?_ _)));rintro e w1 ⟨rfl,l1,d1,rfl⟩)
    go_wp2_with (at_builtin;refine wpList_append_two rfl (.tmp 31) (.tmp 33) 228 228 rfl 234 i0 _ 2 16 Tryz.underlying228 hi0 hz0 hz1 hz2 rfl (.slice au S.length cu) (.slice (some ⟨wr.heap.size+1+l1.length+1,0,none⟩) 1 1) S.length 1 (flat Fil.cells S) (Fil.cells f) rfl rfl ?_ ?_ ?_ ?_ ?_)
    focus exact (HU.out.ex (by with_reducible repeat (first|exact Ex.refl _|refine Ex.alloc ?_ _|refine Ex.ext ?_ _ _|refine Ex.drew ?_|refine Ex.drewN ?_ _))).1
    focus exact (Src.block Tryz.underlying228 1 1 (cs:=#[.int .i64 f.id,.int .i64 f.qty]) (t:=234) (fr:=(0,0)) (heap_new (by simp [go_sem])) (by simp) (by simp [Value.oneCell']))
    focus (unfold maxLen;omega)
    focus omega
    intro v' w' hrow hgrow hown
    have H2:=Lib.hid (two_step (by with_reducible repeat (first|exact Ex.refl _|refine Ex.alloc ?_ _|refine Ex.ext ?_ _ _|refine Ex.drew ?_|refine Ex.drewN ?_ _)) HU.out HV.out (Nat.le_succ _) hlt0 HTW.out.symm HEX.out hrow hgrow hown (by first|omega|(simp [go_sem];done)|(simp [go_sem];omega)))
    have HC0:=Lib.hid (hgrow.cell (a:=⟨w.heap.size,0,none⟩) (v:=.pointer (some ⟨p,0,none⟩)) (by simp [go_sem,↓IntWalk.iteOmega,hc0]) (fun e=>by have h:w.heap.size+1≤w.heap.size:=HU.out.2 _ e.symm;omega))
    clear hrow hgrow hown
    go_wp2_with fail
    go_roundw
    case measure=>simp [intOf];omega
    case rel=>exact ⟨k+1,_,_,rfl,rfl,by omega,by go_num,⟨HSB.out▸H2.out.2.1,HSS.out▸H2.out.1,H2.out.2.2.1.symm,H2.out.2.2.2⟩,HC0.out⟩
  ·have e:F.take k=F:=List.take_of_length_le (by omega)
   go_wp2_with fail
   all_goals go_ret2
   all_goals exact ⟨_,_,rfl,by rw [show buysOf L F=buysOf L (F.take k) by rw [e]];exact HV.out,by rw [show sellsOf L F=sellsOf L (F.take k) by rw [e]];exact HU.out,HTW.out,HEX.out⟩
end
end Go.Proofs.YtabbgpjofkaomaaGreatDoor

/- Plain facts: what a batch leaves of a floor: each lot without what it got, each client's cash and stock by what it traded. -/
namespace Go.Proofs.YtabbgpjofkaomaaGreatDoor
open Go.RowKit
theorem tradeF_inv {P:Pu} (h:PInv P) {bo so it:Nat} {m1 m2 qty:Int} (hi:it<3) (hb:bo<6) (hs:so<6) (a0:0≤m2) (a1:m2≤m1) (a2:m1≤P bo 1) (q0:0≤qty) (q1:qty≤P so (5+it)) (hf:bo≠so→qty≤1073741824 - P bo (2+it)∧m2≤1099511627776 - P so 0):PInv (tradeF P bo so it m1 m2 qty):=fun c hc=>by
 obtain ⟨v1,v2,v3,v4⟩:=h c hc
 rw [tradeF_held,tradeF_cash]
 obtain ⟨b1,b2,b3,b4⟩:=h bo hb
 obtain ⟨s1,s2,s3,s4⟩:=h so hs
 refine ⟨?_,?_,?_,fun i hi2=>?_⟩
 ·split
  ·rename_i e;subst e;omega
  ·exact v1
 ·by_cases e1:c=bo
  ·subst e1;rw [if_pos rfl,if_pos rfl];split<;>omega
  ·rw [if_neg e1,if_neg e1];split<;>omega
 ·by_cases e1:c=bo
  ·subst e1
   by_cases e2:c=so
   ·subst e2;rw [if_pos rfl];omega
   ·rw [if_pos rfl,if_neg e2];omega
  ·by_cases e2:c=so
   ·subst e2
    have:=(hf (fun e=>e1 e.symm)).2
    rw [if_neg e1,if_pos rfl];omega
   ·rw [if_neg e1,if_neg e2];omega
 ·obtain ⟨u1,u2,u3⟩:=v4 i hi2
  rw [tradeF_kept _ _ _ _ _ _ _ _ _ hi2 hi,tradeF_stock _ _ _ _ _ _ _ _ _ hi2 hi]
  by_cases e:i=it
  ·subst e
   rw [if_pos rfl]
   by_cases e1:c=bo
   ·subst e1
    by_cases e2:c=so
    ·subst e2;rw [if_pos ⟨rfl,rfl⟩,if_pos rfl];omega
    ·have:=(hf e2).1
     rw [if_neg (fun e=>e2 e.1),if_pos rfl,if_neg e2];omega
   ·by_cases e2:c=so
    ·subst e2
     rw [if_pos ⟨rfl,rfl⟩,if_neg e1,if_pos rfl];omega
    ·rw [if_neg (fun e=>e2 e.1),if_neg e1,if_neg e2];omega
  ·rw [if_neg (fun e2=>e e2.2),if_neg e];omega
theorem tradeE_inv {P:Pu} (h:PInv P) {k:Nat} (hk:k<3) {x y:Lot} {price qty:Int} (he:tradeE P (k:Int) x y price qty=0) (hx:x.ok=true) (hy:y.ok=true) (p0:0≤price) (p1:price≤x.price) (q0:0≤qty):PInv (tradeF P x.owner.toNat y.owner.toNat k (x.price*qty) (price*qty) qty):=by
 obtain ⟨x1,x2,x3,x4,x5⟩:=Lot.okC hx
 obtain ⟨y1,y2,y3,y4,y5⟩:=Lot.okC hy
 unfold tradeE at he
 split at he
 ·rw [Int.toNat_natCast] at he
  split at he
  ·cases he
  ·rename_i h1
   split at he
   ·cases he
   ·rename_i h2
    refine tradeF_inv h hk (by omega) (by omega) (Int.mul_nonneg p0 q0) (Int.mul_le_mul_of_nonneg_right p1 q0) (by omega) q0 (by omega) (fun hne=>?_)
    have:¬ (1073741824 - P x.owner.toNat (2+k)<qty∨1099511627776 - P y.owner.toNat 0<price*qty):=fun h3=>h2 ⟨hne,h3⟩
    omega
 ·rename_i h1;exact absurd he h1
def netF (g:Int→Int) (c:Int) (x:Lot):Int:=if x.owner=c then (if x.side=0 then g x.id else - g x.id) else 0
def netZ (g:Int→Int) (c:Int) (l:List Lot):Int:=sumZ (netF g c) l
theorem netZ_congr {g h:Int→Int} {c:Int}:∀ {l:List Lot},(∀ x∈l,g x.id=h x.id)→netZ g c l=netZ h c l
 | [],_=>rfl
 | x::l,e=>by
  have ih:=netZ_congr (g:=g) (h:=h) (c:=c) (l:=l) fun y hy=>e y (by simp [hy])
  unfold netZ at ih ⊢
  simp only [sumZ,ih]
  unfold netF
  rw [e x (by simp)]
theorem netZ_add {g:Int→Int} {c:Int} {q:Int} {x:Lot}:∀ {l:List Lot},LApart l→x∈l→netZ (fun i=>g i+if i=x.id then q else 0) c l=netZ g c l+netF (fun _=>q) c x
 | y::l,ha,hx=>by
  obtain ⟨h1,h2⟩:=List.pairwise_cons.1 ha
  rcases List.mem_cons.1 hx with rfl|hx
  ·have e:=netZ_congr (g:=fun i=>g i+if i=x.id then q else 0) (h:=g) (c:=c) (l:=l) fun z hz=>by
    rw [if_neg (fun e=>h1 z hz e.symm)];omega
   unfold netZ at e ⊢
   simp only [sumZ]
   rw [e]
   unfold netF
   simp only [if_true]
   split
   ·split<;>omega
   ·omega
  ·have ih:=netZ_add (g:=g) (c:=c) (q:=q) h2 hx
   unfold netZ at ih ⊢
   simp only [sumZ]
   rw [ih]
   have:netF (fun i=>g i+if i=x.id then q else 0) c y=netF g c y:=by
    unfold netF
    simp only
    rw [if_neg (h1 x hx)]
    simp only [Int.add_zero]
   rw [this];omega
structure TDone (k:Nat) (price:Int) (s0 st:FSt) (g:Int→Int):Prop where
 mem:∀ z,z∈st.b k↔∃ x∈s0.b k,g x.id<x.qty∧z=x.less (g x.id)
 other:∀ j,j≠k→st.b j=s0.b j
 ref:st.ref=s0.ref
 left:st.left=s0.left
 cash:∀ c:Nat,c<6→st.p c 0=s0.p c 0 - price*netZ g c (s0.b k)
 stock:∀ c:Nat,c<6→∀ j,j<3→st.p c (2+j)=s0.p c (2+j)+if j=k then netZ g c (s0.b k) else 0
theorem netZ_zero (c:Int):∀ l:List Lot,netZ (fun _=>0) c l=0
 | []=>rfl
 | x::l=>by
  have:=netZ_zero c l
  unfold netZ at this ⊢
  simp only [sumZ,this]
  unfold netF
  split
  ·split<;>rfl
  ·rfl
theorem TDone.start {k:Nat} {price:Int} {st:FSt} (h:BOk (st.b k)):TDone k price st st (fun _=>0):=by
 refine ⟨fun z=>⟨fun hz=>⟨z,hz,?_,?_⟩,?_⟩,fun _ _=>rfl,rfl,rfl,fun c _=>?_,fun c _ j _=>?_⟩
 ·have:=(Lot.okC (h.ok z hz)).2.2.2.2;show (0:Int)<z.qty;omega
 ·cases z;simp [Lot.less]
 ·rintro ⟨x,hx,_,rfl⟩
  have:x.less 0=x:=by cases x;simp [Lot.less]
  rw [this];exact hx
 ·rw [netZ_zero,Int.mul_zero,Int.sub_zero]
 ·rw [netZ_zero,ite_self,Int.add_zero]
theorem less_less (x:Lot) (a b:Int):(x.less a).less b=x.less (a+b):=by
 simp only [Lot.less,Lot.mk.injEq,true_and];omega
theorem TDone.step {k:Nat} {price:Int} {s0 st:FSt} {g:Int→Int} (hd:TDone k price s0 st g) (h0:BOk (s0.b k)) (h:FOk st) (hp:PInv st.p) (hk:k<3) {x y:Lot} (hx:x∈st.b k) (hy:y∈st.b k) (sx:x.side=0) (sy:y.side=1) {q:Int} (q1:1≤q) (q2:q≤x.qty) (q3:q≤y.qty) (p1:price≤x.price) (p2:y.price≤price) :
  TDone k price s0 (tradeS st k price q x y) (fun i=>(g i+if i=x.id then q else 0)+if i=y.id then q else 0):=by
 obtain ⟨hE,hF,l1,l2,e1,e2,hb,hy1,hmem⟩:=h.trade hp hk hx hy sx sy q1 q2 q3 p1 p2
 obtain ⟨x0,hx0,gx,ex⟩:=(hd.mem x).1 hx
 obtain ⟨y0,hy0,gy,ey⟩:=(hd.mem y).1 hy
 have okx:=h0.ok x0 hx0
 have oky:=h0.ok y0 hy0
 obtain ⟨x1,x2,x3,x4,x5⟩:=Lot.okC okx
 obtain ⟨y1,y2,y3,y4,y5⟩:=Lot.okC oky
 have ix:x.id=x0.id:=by rw [ex];rfl
 have iy:y.id=y0.id:=by rw [ey];rfl
 have six:x0.side=0:=by rw [ex] at sx;exact sx
 have siy:y0.side=1:=by rw [ey] at sy;exact sy
 have ox:x.owner=x0.owner:=by rw [ex];rfl
 have oy:y.owner=y0.owner:=by rw [ey];rfl
 have qx:x.qty=x0.qty - g x0.id:=by rw [ex];rfl
 have qy:y.qty=y0.qty - g y0.id:=by rw [ey];rfl
 have hne:x0.id≠y0.id:=fun e=>by
  have:=h0.apart.eq hx0 hy0 e
  subst this;omega
 have net:∀ c:Int,netZ (fun i=>(g i+if i=x.id then q else 0)+if i=y.id then q else 0) c (s0.b k)=netZ g c (s0.b k)+(if x0.owner=c then q else 0) - (if y0.owner=c then q else 0):=fun c=>by
  rw [ix,iy,netZ_add (g:=fun i=>g i+if i=x0.id then q else 0) h0.apart hy0,netZ_add h0.apart hx0]
  have f1:netF (fun _=>q) c x0=if x0.owner=c then q else 0:=by unfold netF;rw [if_pos six]
  have f2:netF (fun _=>q) c y0=if y0.owner=c then - q else 0:=by unfold netF;rw [if_neg (show ¬ y0.side=0 by omega)]
  rw [f1,f2]
  split<;>split<;>omega
 refine ⟨fun z=>?_,fun j hj=>?_,?_,?_,fun c hc=>?_,fun c hc j hj=>?_⟩
 ·rw [hb,hmem]
  constructor
  ·rintro (⟨hz,n1,n2⟩|⟨hq,rfl⟩|⟨hq,rfl⟩)
   ·obtain ⟨z0,hz0,gz,ez⟩:=(hd.mem z).1 hz
    have iz:z.id=z0.id:=by rw [ez];rfl
    refine ⟨z0,hz0,?_,?_⟩
    ·rw [if_neg (by rw [← iz];exact n1),if_neg (by rw [← iz];exact n2)];omega
    ·rw [if_neg (by rw [← iz];exact n1),if_neg (by rw [← iz];exact n2),Int.add_zero,Int.add_zero];exact ez
   ·refine ⟨x0,hx0,?_,?_⟩
    ·rw [if_pos ix.symm,if_neg (by rw [iy];exact hne)];omega
    ·rw [if_pos ix.symm,if_neg (by rw [iy];exact hne),ex,less_less,Int.add_zero]
   ·refine ⟨y0,hy0,?_,?_⟩
    ·rw [if_neg (by rw [ix];exact fun e=>hne e.symm),if_pos iy.symm];omega
    ·rw [if_neg (by rw [ix];exact fun e=>hne e.symm),if_pos iy.symm,ey,less_less,Int.add_zero]
  ·rintro ⟨z0,hz0,gz,rfl⟩
   by_cases e1:z0.id=x.id
   ·have:z0=x0:=h0.apart.eq hz0 hx0 (by rw [e1,ix])
    subst this
    rw [if_pos e1,if_neg (by rw [iy];exact hne)] at gz ⊢
    refine .inr (.inl ⟨by omega,?_⟩)
    rw [ex,less_less,Int.add_zero]
   ·by_cases e2:z0.id=y.id
    ·have:z0=y0:=h0.apart.eq hz0 hy0 (by rw [e2,iy])
     subst this
     rw [if_neg e1,if_pos e2] at gz ⊢
     refine .inr (.inr ⟨by omega,?_⟩)
     rw [ey,less_less,Int.add_zero]
    ·rw [if_neg e1,if_neg e2,Int.add_zero,Int.add_zero] at gz ⊢
     exact .inl ⟨(hd.mem _).2 ⟨z0,hz0,gz,rfl⟩,e1,e2⟩
 ·show (if j=k then _ else st.b j)=_
  rw [if_neg hj];exact hd.other j hj
 ·exact hd.ref
 ·exact hd.left
 ·show tradeF st.p x.owner.toNat y.owner.toNat k (x.price*q) (price*q) q c 0=_
  rw [tradeF_cash,hd.cash c hc,net,ox,oy,Int.mul_sub,Int.mul_add]
  have a1:price*(if x0.owner=(c:Int) then q else 0)=if c=x0.owner.toNat then price*q else 0:=by
   by_cases e:x0.owner=(c:Int)
   ·rw [if_pos e,if_pos (by omega)]
   ·rw [if_neg e,if_neg (by omega),Int.mul_zero]
  have a2:price*(if y0.owner=(c:Int) then q else 0)=if c=y0.owner.toNat then price*q else 0:=by
   by_cases e:y0.owner=(c:Int)
   ·rw [if_pos e,if_pos (by omega)]
   ·rw [if_neg e,if_neg (by omega),Int.mul_zero]
  rw [a1,a2]
  omega
 ·show tradeF st.p x.owner.toNat y.owner.toNat k (x.price*q) (price*q) q c (2+j)=_
  rw [tradeF_stock _ _ _ _ _ _ _ _ _ hj hk,hd.stock c hc j hj,net,ox,oy]
  have a1:(if c=x0.owner.toNat then q else 0)=if x0.owner=(c:Int) then q else 0:=by
   by_cases e:x0.owner=(c:Int)
   ·rw [if_pos e,if_pos (by omega)]
   ·rw [if_neg e,if_neg (by omega)]
  have a2:(if c=y0.owner.toNat then q else 0)=if y0.owner=(c:Int) then q else 0:=by
   by_cases e:y0.owner=(c:Int)
   ·rw [if_pos e,if_pos (by omega)]
   ·rw [if_neg e,if_neg (by omega)]
  by_cases e:j=k
  ·rw [if_pos e,if_pos e,if_pos e,a1,a2]
   omega
  ·rw [if_neg e,if_neg e,if_neg e];omega
theorem TDone.congr {k:Nat} {price:Int} {s0 st:FSt} {g h:Int→Int} (hd:TDone k price s0 st g) (e:∀ i,g i=h i):TDone k price s0 st h:=by
 obtain rfl:g=h:=funext e
 exact hd
theorem qty_less (f:Fil) (q:Int) (l:List Fil):qtyF (lessF f q l)=f.qty+qtyF l - q:=by
 unfold lessF
 split
 ·omega
 ·simp only [qtyF];omega
theorem qty_none {l:List Fil} (h:∀ f∈l,1≤f.qty) (h0:qtyF l=0):l=[]:=by
 cases l with
 | nil=>rfl
 | cons f l =>
  exfalso
  have key:∀ l:List Fil,(∀ f∈l,1≤f.qty)→0≤qtyF l:=fun l=>by
   induction l with
   | nil=>intro _;simp [qtyF]
   | cons f l ih =>
    intro h
    have:=ih fun g hg=>h g (by simp [hg])
    have:=h f (by simp)
    simp only [qtyF];omega
  have:=key l fun g hg=>h g (by simp [hg])
  have:=h f (by simp)
  simp only [qtyF] at h0;omega
theorem tradeAll_done {k:Nat} (hk:k<3) {price:Int} (p0:0≤price) {s0:FSt} (h0:BOk (s0.b k)):∀ (n:Nat) (st:FSt) (bs ss:List Fil) (g:Int→Int),TInv k price st bs ss→PInv st.p→TDone k price s0 st g→bs.length+ss.length≤n→qtyF bs=qtyF ss →
  FOk (tradeAll k price n st bs ss)∧PInv (tradeAll k price n st bs ss).p∧TDone k price s0 (tradeAll k price n st bs ss) (fun i=>g i+gotF bs i+gotF ss i):=by
 intro n
 induction n with
 | zero =>
  intro st bs ss g h hp hd hn hq
  obtain rfl:bs=[]:=List.eq_nil_of_length_eq_zero (by omega)
  obtain rfl:ss=[]:=List.eq_nil_of_length_eq_zero (by omega)
  exact ⟨h.ok,hp,hd.congr fun i=>by simp [gotF]⟩
 | succ n ih =>
  intro st bs ss g h hp hd hn hq
  cases bs with
  | nil =>
   obtain rfl:ss=[]:=qty_none (fun f hf=>(h.sells f hf).1) (by rw [← hq];rfl)
   exact ⟨h.ok,hp,hd.congr fun i=>by simp [gotF]⟩
  | cons b bs =>
   cases ss with
   | nil =>
    have:=qty_none (fun f hf=>(h.buys f hf).1) (l:=b::bs) (by rw [hq];rfl)
    cases this
   | cons s ss =>
    obtain ⟨x,y,hx,hy,gx,gy,ix,iy,sx,sy,p1,p2,q1,q2,q3,hE,hT⟩:=h.step hp hk
    show FOk (tradeAll k price n (tradeS st k price (min b.qty s.qty) (getR (st.b k) b.id).1 (getR (st.b k) s.id).1) _ _)∧PInv (tradeAll k price n (tradeS st k price (min b.qty s.qty) (getR (st.b k) b.id).1 (getR (st.b k) s.id).1) _ _).p ∧
     TDone k price s0 (tradeAll k price n (tradeS st k price (min b.qty s.qty) (getR (st.b k) b.id).1 (getR (st.b k) s.id).1) (lessF b (min b.qty s.qty) bs) (lessF s (min b.qty s.qty) ss)) _
    rw [gx,gy]
    have hbk:=h.ok.book k hk
    have hp':PInv (tradeS st k price (min b.qty s.qty) x y).p:=tradeE_inv hp hk hE (hbk.ok x hx) (hbk.ok y hy) p0 p1 (by omega)
    have hl1:=less_len b (min b.qty s.qty) bs
    have hl2:=less_len s (min b.qty s.qty) ss
    have hmin:min b.qty s.qty=b.qty∨min b.qty s.qty=s.qty:=by omega
    have hd':=hd.step h0 h.ok hp hk hx hy sx sy q1 q2 q3 p1 p2
    have hlen:(lessF b (min b.qty s.qty) bs).length+(lessF s (min b.qty s.qty) ss).length≤n:=by
     rw [hl1,hl2]
     simp only [List.length_cons] at hn
     rcases hmin with e|e
     ·rw [e,if_pos (by omega)];split<;>omega
     ·rw [e];rw [if_pos (show s.qty - s.qty=0 by omega)];split<;>omega
    obtain ⟨r1,r2,r3⟩:=ih _ _ _ _ hT hp' hd' hlen (by rw [qty_less,qty_less];simp only [qtyF] at hq;omega)
    refine ⟨r1,r2,r3.congr fun i=>?_⟩
    rw [got_less,got_less,ix,iy]
    have c1:(b.id=i)↔(i=b.id):=eq_comm
    have c2:(s.id=i)↔(i=s.id):=eq_comm
    simp only [c1,c2]
    omega
end Go.Proofs.YtabbgpjofkaomaaGreatDoor

/- Plain facts: behind an open batch no buy is at a sell's price; a batch as a whole. -/
namespace Go.Proofs.YtabbgpjofkaomaaGreatDoor
open Go.RowKit
theorem got_buys {l:List Lot} (ha:LApart l) {F:List Fil} {x:Lot} (hx:x∈l) (hs:x.side=0):gotF (buysOf l F) x.id=gotF F x.id:=by
 have h1:=got_split l F x.id
 have h2:gotF (sellsOf l F) x.id=0:=gotF_none fun f hf e=>by
  have:=(List.mem_filter.1 hf).2
  rw [e,getR_mem ha hx] at this
  simp [hs] at this
 omega
theorem got_sells {l:List Lot} (ha:LApart l) {F:List Fil} {x:Lot} (hx:x∈l) (hs:x.side=1):gotF (sellsOf l F) x.id=gotF F x.id:=by
 have h1:=got_split l F x.id
 have h2:gotF (buysOf l F) x.id=0:=gotF_none fun f hf e=>by
  have:=(List.mem_filter.1 hf).2
  rw [e,getR_mem ha hx] at this
  simp [hs] at this
 omega
theorem qty_same {l:List Lot} (ha:IdsApart l) {price volume:Int} {F:List Fil} (h:Fair l price volume F) (hb:∀ f∈buysOf l F,∃ x∈l,x.id=f.id∧x.side=0) (hs:∀ f∈sellsOf l F,∃ x∈l,x.id=f.id∧x.side=1):qtyF (buysOf l F)=qtyF (sellsOf l F):=by
 rw [← sumG_got ha _ hb,← sumG_got ha _ hs,sumG_congr (h:=fun x=>gotF F x.id) l (fun x hx e=>got_buys ha hx e),sumG_congr (h:=fun x=>gotF F x.id) (s:=1) l (fun x hx e=>got_sells ha hx e),h.sum0,h.sum1]
section
variable {st:FSt} {k:Nat} {wd hl:Int}
def nextN (st:FSt) (k:Nat) (wd hl:Int):Int × Int × Bool:=bnext (st.ref k) (st.left k) wd hl (bestC (st.b k) (st.ref k) 1000).price (bestC (st.b k) (st.ref k) 1000).vol
theorem next_range (h:FOk st) (hk:k<3) (h2:1≤hl∧hl≤1000):(1≤(nextN st k wd hl).1∧(nextN st k wd hl).1≤1000)∧0≤(nextN st k wd hl).2.1∧(nextN st k wd hl).2.1≤1000 :=
 bnext_range (h.band k hk).1 (h.band k hk).2 h2 fun hv=>((best_facts (h.book k hk).lots (st.ref k)).2.1 hv).1
theorem run_facts (h:FOk st) (hp:PInv st.p) (hk:k<3) (h2:1≤hl∧hl≤1000) (seed:Int) :
  FOk (runS st k wd hl seed)∧PInv (runS st k wd hl seed).p∧TDone k (runR st k wd hl seed).price (st.setN k (nextN st k wd hl).1 (nextN st k wd hl).2.1) (runS st k wd hl seed) (gotF (runR st k wd hl seed).fills):=by
 have hN:=h.setN k (nextN st k wd hl).1 (nextN st k wd hl).2.1 (next_range h hk h2).1 (next_range h hk h2).2
 obtain ⟨b0,b1,b2⟩:=best_facts (h.book k hk).lots (st.ref k)
 have hS:runS st k wd hl seed=tradeAll k (bestC (st.b k) (st.ref k) 1000).price ((runR st k wd hl seed).fills.length+(runR st k wd hl seed).fills.length) (st.setN k (nextN st k wd hl).1 (nextN st k wd hl).2.1) (buysOf (st.b k) (runR st k wd hl seed).fills) (sellsOf (st.b k) (runR st k wd hl seed).fills):=rfl
 have hP:(runR st k wd hl seed).price=(bestC (st.b k) (st.ref k) 1000).price:=rfl
 by_cases ho:(nextN st k wd hl).2.2=true∧(bestC (st.b k) (st.ref k) 1000).vol≠0
 ·have hF:(runR st k wd hl seed).fills=fillsL (st.b k) (bestC (st.b k) (st.ref k) 1000).price (bestC (st.b k) (st.ref k) 1000).vol seed:=if_pos ho
  obtain ⟨c1,c2⟩:=b1 (by omega)
  have hT:TInv k (bestC (st.b k) (st.ref k) 1000).price (st.setN k (nextN st k wd hl).1 (nextN st k wd hl).2.1) (buysOf (st.b k) (fillsL (st.b k) (bestC (st.b k) (st.ref k) 1000).price (bestC (st.b k) (st.ref k) 1000).vol seed)) (sellsOf (st.b k) (fillsL (st.b k) (bestC (st.b k) (st.ref k) 1000).price (bestC (st.b k) (st.ref k) 1000).vol seed)):=TInv.start hN hk b0 (Int.le_of_eq c2)
  have hFair:=fills_fair (seed:=seed) (h.book k hk).lots b0 (Int.le_of_eq c2)
  rw [hP,hS,hF]
  obtain ⟨r1,r2,r3⟩:=tradeAll_done hk (by omega) (s0:=st.setN k (nextN st k wd hl).1 (nextN st k wd hl).2.1) (h.book k hk) _ _ _ _ (fun _=>0) hT hp (TDone.start (h.book k hk))
   (show _≤(fillsL (st.b k) (bestC (st.b k) (st.ref k) 1000).price (bestC (st.b k) (st.ref k) 1000).vol seed).length+(fillsL (st.b k) (bestC (st.b k) (st.ref k) 1000).price (bestC (st.b k) (st.ref k) 1000).vol seed).length by
    have a1:(buysOf (st.b k) (fillsL (st.b k) (bestC (st.b k) (st.ref k) 1000).price (bestC (st.b k) (st.ref k) 1000).vol seed)).length≤_:=List.length_filter_le _ _
    have a2:(sellsOf (st.b k) (fillsL (st.b k) (bestC (st.b k) (st.ref k) 1000).price (bestC (st.b k) (st.ref k) 1000).vol seed)).length≤_:=List.length_filter_le _ _
    exact Nat.add_le_add a1 a2)
   (qty_same (h.book k hk).apart hFair (fun f hf=>by obtain ⟨_,x,hx,hi,hs,_⟩:=hT.buys f hf;exact ⟨x,hx,hi,hs⟩) (fun f hf=>by obtain ⟨_,x,hx,hi,hs,_⟩:=hT.sells f hf;exact ⟨x,hx,hi,hs⟩))
  refine ⟨r1,r2,r3.congr fun i=>?_⟩
  have:=got_split (st.b k) (fillsL (st.b k) (bestC (st.b k) (st.ref k) 1000).price (bestC (st.b k) (st.ref k) 1000).vol seed) i
  omega
 ·have hF:(runR st k wd hl seed).fills=[]:=if_neg ho
  rw [hS,hF]
  exact ⟨hN,hp,TDone.start (h.book k hk)⟩
end
end Go.Proofs.YtabbgpjofkaomaaGreatDoor

/- What trade of a batch computes: the fills traded against each other. -/
namespace Go.Proofs.YtabbgpjofkaomaaGreatDoor
open Go.RowKit
def TT (v u:Value) (n:Nat):Prop:=v.ownBlock=some n∨u.ownBlock=some n
theorem FilRow.keep {base:Nat} {l:List Fil} {v:Value} {W W':World} (h:FilRow base l v W) (hb:∀ g,v.ownBlock=some g→W'.heap[g]?=W.heap[g]?):FilRow base l v W':=⟨h.1.of_block hb,h.2⟩
structure TrX (own:Nat→Nat) (c:Nat) (w:World) (A:FlA) (st:FSt) (E:Nat→Addr) (L:List Nat) (cs:List Bl) (v u:Value) (bs ss:List Fil) (W:World):Prop where
 x:FlX own c w A st E L cs (TT v u) W
 rv:FilRow (w.heap.size+1) bs v W
 ru:FilRow (w.heap.size+1) ss u W
 two:TwoV v u
section
variable {own:Nat→Nat} {c k:Nat} {w W W':World} {A:FlA} {st st':FSt} {E:Nat→Addr} {L:List Nat} {cs cs':List Bl} {v u:Value} {bs ss:List Fil}
theorem TrX.later (X:TrX own c w A st E L cs v u bs ss W) (hx:Ex W W'):TrX own c w A st E L cs v u bs ss W':=⟨X.x.later hx,X.rv.ex hx,X.ru.ex hx,X.two⟩
theorem TrX.add (X:TrX own c w A st E L cs v u bs ss W) (hx:Ex W W') (hn:∀ t∈cs',W.heap.size≤t.1) (hc:Has cs' W'):TrX own c w A st E L (cs'++cs) v u bs ss W':=⟨X.x.add hx hn hc,X.rv.ex hx,X.ru.ex hx,X.two⟩
theorem TrX.less (X:TrX own c w A st E L cs v u bs ss W) (hc:∀ t∈cs',t∈cs):TrX own c w A st E L cs' v u bs ss W:=⟨X.x.less hc (fun _ h=>h),X.rv,X.ru,X.two⟩
section
variable {F:FuncId} {args:Array Value} {P:Ending→Prop} {Q:Ending→World→Prop}
theorem TrX.call (X:TrX own c w A st E L cs v u bs ss W) (hC:∀ o,FlAt o c W A st→Calls Tryz.prog F args W fun e w'=>P e∧FlG o c W A st' w') :
  Calls Tryz.prog F args W fun e w'=>P e∧TrX own c w A st' E L cs v u bs ss w':=by
 obtain ⟨hX,hv,hu,htw⟩:=X
 obtain ⟨hB,hE,hc,hlow⟩:=hX
 obtain ⟨h1,o,h2,h3,h4,h5⟩:=hB
 refine (hC o h2).mono fun e w' ⟨he,hT⟩=>⟨he,?_⟩
 obtain ⟨k1,o2,k2,k3⟩:=hT
 have hs:Same (FS L cs (TT v u)) W w':=⟨fun n hn=>k1.block n (h4 n hn).1 (h4 n hn).2,k1.size⟩
 refine ⟨FlX.same ⟨⟨h1,o,h2,h3,h4,h5⟩,hE,hc,hlow⟩ ⟨h1.chain k1 h5,tight o2 c w'.heap.size,k3.relabel (fun n hn _=>tight_lt hn),fun n hn=>tight_ge hn,fun n hn=>?_,fun n hn=>?_⟩ hs,hv.keep fun g hg=>hs.1 g (.inr (.inr (.inl hg))),hu.keep fun g hg=>hs.1 g (.inr (.inr (.inr hg))),htw⟩
 ·have hlt:=Nat.lt_of_lt_of_le (h4 n hn).1 k1.size
  refine ⟨hlt,?_⟩
  rw [tight_lt hlt,k2 n (h4 n hn).1]
  exact (h4 n hn).2
 ·have hlt:=Nat.lt_of_lt_of_le hn h1.size
  rw [tight_lt (Nat.lt_of_lt_of_le hlt k1.size),k2 n hlt]
  exact h5 n hn
theorem TrX.book {l':List Lot} (X:TrX own c w A st E L cs v u bs ss W) (hk:k<3) (hC:∀ o i,BookAt o i W (A.bp k) (st.b k)→Calls Tryz.prog F args W fun e w'=>P e∧ObjTo o i i W (fun o' w'=>BookAt o' i w' (A.bp k) l') w') :
  Calls Tryz.prog F args W fun e w'=>P e∧TrX own c w A (st.setB k l') E L cs v u bs ss w' :=
 X.call fun o h=>(hC o _ (h.book k hk)).mono fun e w' ⟨he,hT⟩=>⟨he,h.setBook hk hT⟩
theorem TrX.purse {P':Pu} (X:TrX own c w A st E L cs v u bs ss W) (hC:∀ o i,PurseAt o i W A.pp st.p→Calls Tryz.prog F args W fun e w'=>P e∧ObjTo o i i W (fun o' w'=>PurseAt o' i w' A.pp P') w') :
  Calls Tryz.prog F args W fun e w'=>P e∧TrX own c w A (st.setP P') E L cs v u bs ss w' :=
 X.call fun o h=>(hC o _ h.purse).mono fun e w' ⟨he,hT⟩=>⟨he,h.setPurse hT⟩
theorem TrX.readB (X:TrX own c w A st E L cs v u bs ss W) (hk:k<3) (hC:∀ o i,BookAt o i W (A.bp k) (st.b k)→Calls Tryz.prog F args W fun e w'=>Q e w'∧Ex W w') :
  Calls Tryz.prog F args W fun e w'=>Q e w'∧Ex W w':=X.x.readB hk hC
end
theorem FilRow.cons {base:Nat} {b:Fil} {l:List Fil} (h:FilRow base (b::l) v W):∃ g off cap,v=.slice (some ⟨g,off,none⟩) (l.length+1) cap∧l.length+1≤cap∧cap≤maxLen∧W.cell? ⟨g,off,none⟩=some (.int .i64 b.id)∧W.cell? ⟨g,off+1,none⟩=some (.int .i64 b.qty)∧W.frozen? ⟨g,off+1,none⟩=false∧base≤g∧g<W.heap.size:=by
 have h':=h
 obtain ⟨⟨h1,⟨_,h0⟩|⟨g,off,cap,cur,rfl,⟨fr,hg,hf⟩,hc,hm,hs,ht⟩⟩,h2⟩:=h
 ·simp at h0
 ·have hc':l.length+1≤cap:=by simpa using hc
  refine ⟨g,off,cap,rfl,hc',hm,?_,?_,hf.frozen hg (by omega),h2 g rfl,(Array.getElem?_eq_some_iff.1 hg).1⟩
  ·have:=h'.1.cell (j:=0) (by simp)
   simpa [flat_cons,Fil.cells] using this
  ·have:=h'.1.cell (j:=1) (by simp;omega)
   simpa [flat_cons,Fil.cells] using this
theorem fil_set {base g off n cap:Nat} {b:Fil} {l:List Fil} (q:Int) (h:FilRow base (b::l) (.slice (some ⟨g,off,none⟩) n cap) W):FilRow base (⟨b.id,q⟩::l) (.slice (some ⟨g,off,none⟩) n cap) (W.setCell ⟨g,off+1,none⟩ (.int .i64 q)):=by
 obtain ⟨⟨h1,⟨h0,_⟩|⟨g',off',cap',cur,hv,⟨fr,hg,hf⟩,hc,hm,hs,ht⟩⟩,h2⟩:=h
 ·cases h0
 ·cases hv
  refine ⟨⟨?_,.inr ⟨g,off,cap,cur.setIfInBounds (off+1) (.int .i64 q),rfl,⟨fr,?_,by unfold Unmarked at *;simpa using hf⟩,hc,hm,by simpa using hs,?_⟩⟩,h2⟩
  ·simp only [flat_cons,List.length_append,Fil.cells,List.length_cons,List.length_nil] at h1 ⊢
   exact h1
  ·rw [setCell_eq_setRow W g (off+1) cur _ fr _ hg]
   exact setRow_heap W g cur _ _ fr hg
  ·simp only [List.length_cons] at ht ⊢
   rw [Array.toList_setIfInBounds,List.drop_set,if_neg (by omega),List.take_set,ht,show off+1 - off=1 by omega]
   simp [flat_cons,Fil.cells]
theorem fil_drop {base g off cap:Nat} {b:Fil} {l:List Fil} (h:FilRow base (b::l) (.slice (some ⟨g,off,none⟩) (l.length+1) cap) W):FilRow base l (.slice (if cap=1 then some ⟨g,off,none⟩ else some ⟨g,off+2,none⟩) l.length (cap - 1)) W:=by
 obtain ⟨⟨h1,⟨h0,_⟩|⟨g',off',cap',cur,hv,⟨fr,hg,hf⟩,hc,hm,hs,ht⟩⟩,h2⟩:=h
 ·cases h0
 ·cases hv
  simp only [List.length_cons] at hc
  have e2:flat Fil.cells l=(flat Fil.cells (b::l)).drop 2:=by rw [flat_cons];rfl
  have hl:=flat_length filc_len l
  by_cases e:cap=1
  ·rw [if_pos e]
   have e0:l=[]:=List.eq_nil_of_length_eq_zero (by omega)
   subst e0
   exact ⟨⟨rfl,.inr ⟨g,off,cap - 1,cur,rfl,⟨fr,hg,hf⟩,by simp,by omega,by omega,by simp [flat]⟩⟩,h2⟩
  ·rw [if_neg e]
   refine ⟨⟨hl,.inr ⟨g,off+2,cap - 1,cur,rfl,⟨fr,hg,hf⟩,by omega,by omega,by omega,?_⟩⟩,fun g' e=>h2 g' (by simpa [Value.ownBlock] using e)⟩
   rw [e2,← ht,List.drop_take,List.drop_drop]
   simp only [List.length_cons]
   congr 1
   omega
theorem TrX.setV {g off n cap:Nat} {b:Fil} (X:TrX own c w A st E L cs (.slice (some ⟨g,off,none⟩) n cap) u (b::bs) ss W) (q:Int) (hcs:∀ t∈cs,t.1≠g):TrX own c w A st E L cs (.slice (some ⟨g,off,none⟩) n cap) u (⟨b.id,q⟩::bs) ss (W.setCell ⟨g,off+1,none⟩ (.int .i64 q)):=by
 have hb:w.heap.size+1≤g:=X.rv.2 g rfl
 have hG:=grownBy_set (grownBy_self W (some g)) (off+1) (.int .i64 q)
 exact ⟨X.x.grown hG (fun b' e=>by cases e;exact ⟨.inl rfl,by omega,hcs⟩) (fun n hn=>.inl hn),fil_set q X.rv,X.ru.kept hG (fun g' e e2=>by cases e2;exact X.two g rfl e),X.two⟩
theorem TrX.swap (X:TrX own c w A st E L cs v u bs ss W):TrX own c w A st E L cs u v ss bs W:=⟨X.x.less (fun _ h=>h) (fun n h=>h.symm),X.ru,X.rv,X.two.symm⟩
theorem TrX.dropV {g off cap:Nat} {b:Fil} (X:TrX own c w A st E L cs (.slice (some ⟨g,off,none⟩) (bs.length+1) cap) u (b::bs) ss W):TrX own c w A st E L cs (.slice (if cap=1 then some ⟨g,off,none⟩ else some ⟨g,off+2,none⟩) bs.length (cap - 1)) u bs ss W:=by
 have e:(Value.slice (if cap=1 then some ⟨g,off,none⟩ else some ⟨g,off+2,none⟩) bs.length (cap - 1)).ownBlock=some g:=by
  by_cases h:cap=1
  ·rw [if_pos h];rfl
  ·rw [if_neg h];rfl
 refine ⟨X.x.less (fun _ h=>h) fun n hn=>?_,fil_drop X.rv,X.ru,fun g' hg=>?_⟩
 ·rcases hn with h|h
  ·rw [e] at h;exact .inl h
  ·exact .inr h
 ·rw [e] at hg
  exact X.two g' hg
end
theorem tradeAll_nil {k:Nat} {price:Int} (st:FSt) (n:Nat) (ss:List Fil):tradeAll k price n st [] ss=st:=by cases n<;>rfl
theorem tradeAll_nil2 {k:Nat} {price:Int} (st:FSt) (n:Nat) (bs:List Fil):tradeAll k price n st bs []=st:=by
 cases n
 ·rfl
 ·cases bs<;>rfl
def lenV:Value→Nat
 | .slice _ n _=>n
 | _=>0
theorem setBBP (st:FSt) (k:Nat) (P:Pu) (l1 l2:List Lot):((st.setP P).setB k l1).setB k l2=(st.setB k l2).setP P:=by
 unfold FSt.setB FSt.setP
 simp only [FSt.mk.injEq,and_true]
 funext j
 by_cases e:j=k
 ·rw [if_pos e,if_pos e]
 ·rw [if_neg e,if_neg e,if_neg e]
end Go.Proofs.YtabbgpjofkaomaaGreatDoor
