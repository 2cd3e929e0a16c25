import Derived.Test.YtmbboflakfokhaaGreatDoorJ19
import Derived.Test.YtmbboflakfokhaaGreatDoorJ16
/- Plain facts: fills traded unit by unit come to what they come to at once. -/
set_option linter.unusedSimpArgs false
set_option linter.unusedVariables false
namespace Go.Proofs.YtmbboflakfokhaaGreatDoor
open Go.RowKit
def Pu.inc (P:Pu) (a b:Nat) (d:Int):Pu:=P.set a b (P a b+d)
theorem Pu.inc_at (P:Pu) (a b:Nat) (d:Int) (c j:Nat):P.inc a b d c j=P c j+if c=a∧j=b then d else 0:=by
  unfold Pu.inc Pu.set
  split
  · rename_i h;rw [h.1,h.2]
  · omega
theorem tradeF_add (P:Pu) (bo so it:Nat) (m1 m2 q:Int):tradeF P bo so it m1 m2 q=(((((P.inc bo 1 (-m1)).inc bo 0 (-m2)).inc so (5+it) (-q)).inc so (2+it) (-q)).inc bo (2+it) q).inc so 0 m2:=rfl
theorem ite_sum (A:Prop) [Decidable A] (m n:Int):(if A then m+n else 0)=(if A then m else 0)+(if A then n else 0):=by split<;>omega
theorem tradeF_two (P:Pu) (bo so it:Nat) (m1 m2 q n1 n2 r:Int):tradeF (tradeF P bo so it m1 m2 q) bo so it n1 n2 r=tradeF P bo so it (m1+n1) (m2+n2) (q+r):=by
  funext c j
  rw [tradeF_add,tradeF_add,tradeF_add]
  simp only [Pu.inc_at]
  rw [show -(m1+n1)=-m1+-n1 by omega,show -(m2+n2)=-m2+-n2 by omega,show -(q+r)=-q+-r by omega]
  simp only [ite_sum]
  generalize (if c=bo∧j=1 then -m1 else 0)=z1
  generalize (if c=bo∧j=1 then -n1 else 0)=z2
  generalize (if c=bo∧j=0 then -m2 else 0)=z3
  generalize (if c=bo∧j=0 then -n2 else 0)=z4
  generalize (if c=so∧j=5+it then -q else 0)=z5
  generalize (if c=so∧j=5+it then -r else 0)=z6
  generalize (if c=so∧j=2+it then -q else 0)=z7
  generalize (if c=so∧j=2+it then -r else 0)=z8
  generalize (if c=bo∧j=2+it then q else 0)=z9
  generalize (if c=bo∧j=2+it then r else 0)=y0
  generalize (if c=so∧j=0 then m2 else 0)=y1
  generalize (if c=so∧j=0 then n2 else 0)=y2
  omega
def takeZ (id q:Int) (z:Lot):Option Lot:=if z.id=id then (if q=z.qty then none else some (z.less q)) else some z
def takeL (l:List Lot) (id q:Int):List Lot:=l.filterMap (takeZ id q)
theorem takeL_none {l:List Lot} {id q:Int} (h:∀ z∈l,z.id≠id):takeL l id q=l:=by
  induction l with
  | nil=>rfl
  | cons z l ih =>
    unfold takeL
    rw [List.filterMap_cons]
    have e:takeZ id q z=some z:=if_neg (h z (by simp))
    rw [e]
    exact congrArg (z::·) (ih fun y hy=>h y (by simp [hy]))
theorem takeR_map {l:List Lot} (h:LApart l) {x:Lot} (hx:x∈l) {q:Int} (h1:1≤q) (h2:q≤x.qty):(takeR l x.id q).2=takeL l x.id q:=by
  obtain ⟨k,hk,hf,e⟩:=find_of_mem h hx
  have hap:=List.pairwise_iff_getElem.1 h
  have hl:l=l.take k++(x::l.drop (k+1)):=by rw [← e,List.getElem_cons_drop hk,List.take_append_drop]
  have n1:∀ z∈l.take k,z.id≠x.id:=fun z hz e2=>by
    obtain ⟨i,hi,rfl⟩:=List.getElem_of_mem hz
    rw [List.length_take] at hi
    rw [List.getElem_take] at e2
    exact hap i k (by omega) hk (by omega) (by rw [e];exact e2)
  have n2:∀ z∈l.drop (k+1),z.id≠x.id:=fun z hz e2=>by
    obtain ⟨i,hi,rfl⟩:=List.getElem_of_mem hz
    rw [List.length_drop] at hi
    rw [List.getElem_drop] at e2
    exact hap k (k+1+i) hk (by omega) (by omega) (by rw [e];exact e2.symm)
  have hT:takeL l x.id q=l.take k++((takeZ x.id q x).toList++l.drop (k+1)):=by
    conv=>lhs;rw [hl]
    unfold takeL
    rw [List.filterMap_append,List.filterMap_cons]
    have a1:=takeL_none (q:=q) n1
    have a2:=takeL_none (q:=q) n2
    unfold takeL at a1 a2
    rw [a1,a2]
    cases takeZ x.id q x<;>rfl
  rw [hT]
  unfold takeR
  rw [hf]
  simp only [List.getElem?_eq_getElem hk,e]
  rw [if_neg (by omega)]
  unfold takeZ
  rw [if_pos rfl]
  by_cases hq:q=x.qty
  · rw [if_pos hq,if_pos hq]
    show l.eraseIdx k=_
    rw [List.eraseIdx_eq_take_drop_succ]
    rfl
  · rw [if_neg hq,if_neg hq]
    show l.set k (x.less q)=_
    rw [List.set_eq_take_append_cons_drop,if_pos hk]
    rfl
theorem takeL_swap (l:List Lot) {a b:Int} (hab:a≠b) (p q:Int):takeL (takeL l a p) b q=takeL (takeL l b q) a p:=by
  unfold takeL
  rw [List.filterMap_filterMap,List.filterMap_filterMap]
  congr 1
  funext z
  unfold takeZ
  by_cases h1:z.id=a
  · have h2:z.id≠b:=fun e=>hab (h1.symm.trans e)
    rw [if_pos h1,if_neg h2]
    by_cases h3:p=z.qty
    · simp [h1,h3]
    · simp [h1,h3,Lot.less,hab]
  · rw [if_neg h1]
    by_cases h2:z.id=b
    · by_cases h3:q=z.qty
      · simp [h2,h3]
      · simp [h2,h3,Lot.less,Ne.symm hab]
    · simp [h1,h2]
theorem fmap_congr {α β:Type} {f g:α→Option β}:∀ {l:List α},(∀ x∈l,f x=g x)→l.filterMap f=l.filterMap g
  | [],_=>rfl
  | x::l,h=>by
    rw [List.filterMap_cons,List.filterMap_cons,h x (by simp),fmap_congr (l:=l) fun y hy=>h y (by simp [hy])]
theorem takeL_two {l:List Lot} {id p r:Int} (h:∀ z∈l,z.id=id→p≠z.qty):takeL (takeL l id p) id r=takeL l id (p+r):=by
  unfold takeL
  rw [List.filterMap_filterMap]
  refine fmap_congr fun z hz=>?_
  unfold takeZ
  by_cases h1:z.id=id
  · have h2:=h z hz h1
    rw [if_pos h1,if_neg h2,if_pos h1]
    show (if (z.less p).id=id then (if r=(z.less p).qty then none else some ((z.less p).less r)) else some (z.less p))=_
    rw [if_pos (show (z.less p).id=id from h1)]
    by_cases h3:p+r=z.qty
    · rw [if_pos h3,if_pos (show r=(z.less p).qty from (show r=z.qty - p by omega))]
    · rw [if_neg h3,if_neg (show ¬ r=(z.less p).qty from (show ¬ r=z.qty - p by omega)),less_less]
  · rw [if_neg h1,if_neg h1]
    show (if z.id=id then _ else some z)=_
    rw [if_neg h1]
theorem setB_two (st:FSt) (k:Nat) (l l':List Lot) (P P':Pu):(((st.setB k l).setP P).setB k l').setP P'=(st.setB k l').setP P':=by
  unfold FSt.setB FSt.setP
  simp only [FSt.mk.injEq,and_true,true_and]
  funext j
  by_cases e:j=k<;>simp [e]
section
variable {st:FSt} {k:Nat} {price:Int}
theorem side_ids {l:List Lot} (h:LApart l) {x y:Lot} (hx:x∈l) (hy:y∈l) (sx:x.side=0) (sy:y.side=1):x.id≠y.id:=fun e=>by
  have:=h.eq hx hy e
  subst this
  omega
theorem trade_two (h:BOk (st.b k)) {x y:Lot} (hx:x∈st.b k) (hy:y∈st.b k) (sx:x.side=0) (sy:y.side=1) {r:Int} (r1:1≤r) (q1:1+r≤x.qty) (q2:1+r≤y.qty) :
    tradeS st k price (1+r) x y=tradeS (tradeS st k price 1 x y) k price r (x.less 1) (y.less 1):=by
  have hxy:=side_ids h.apart hx hy sx sy
  obtain ⟨a1,ea1,ha1,_,ma1⟩:=takeR_ok h hx (q:=1+r) (by omega) q1
  have hya:y∈a1:=(ma1 y).2 (.inl ⟨hy,Ne.symm hxy⟩)
  obtain ⟨b1,eb1,hb1,_,mb1⟩:=takeR_ok h hx (q:=1) (by omega) (by omega)
  have hyb:y∈b1:=(mb1 y).2 (.inl ⟨hy,Ne.symm hxy⟩)
  have hxb:x.less 1∈b1:=(mb1 _).2 (.inr ⟨by omega,rfl⟩)
  obtain ⟨b2,eb2,hb2,_,mb2⟩:=takeR_ok hb1 hyb (q:=1) (by omega) (by omega)
  have hxb2:x.less 1∈b2:=(mb2 _).2 (.inl ⟨hxb,hxy⟩)
  have hyb2:y.less 1∈b2:=(mb2 _).2 (.inr ⟨by omega,rfl⟩)
  obtain ⟨b3,eb3,hb3,_,mb3⟩:=takeR_ok hb2 hxb2 (q:=r) r1 (by show r≤x.qty - 1;omega)
  have hyb3:y.less 1∈b3:=(mb3 _).2 (.inl ⟨hyb2,Ne.symm hxy⟩)
  have t1:=takeR_map h.apart hx (q:=1+r) (by omega) q1
  have t2:=takeR_map ha1.apart hya (q:=1+r) (by omega) q2
  have u1:=takeR_map h.apart hx (q:=1) (by omega) (by omega)
  have u2:=takeR_map hb1.apart hyb (q:=1) (by omega) (by omega)
  have u3:=takeR_map hb2.apart hxb2 (q:=r) r1 (by show r≤x.qty - 1;omega)
  have u4:=takeR_map hb3.apart hyb3 (q:=r) r1 (by show r≤y.qty - 1;omega)
  have hl:(takeR (takeR (st.b k) x.id (1+r)).2 y.id (1+r)).2=(takeR (takeR (takeR (takeR (st.b k) x.id 1).2 y.id 1).2 (x.less 1).id r).2 (y.less 1).id r).2:=by
    rw [ea1,eb1] at *
    simp only at *
    rw [eb2] at *
    simp only at *
    rw [eb3] at *
    simp only at *
    rw [t2,u4,t1]
    rw [show b3=takeL b2 x.id r from u3,show b2=takeL b1 y.id 1 from u2,show b1=takeL (st.b k) x.id 1 from u1]
    show takeL (takeL (st.b k) x.id (1+r)) y.id (1+r)=takeL (takeL (takeL (takeL (st.b k) x.id 1) y.id 1) x.id r) y.id r
    rw [takeL_swap (takeL (st.b k) x.id 1) (Ne.symm hxy) 1 r,takeL_two (l:=st.b k) (fun z hz e=>by have:=h.apart.eq hz hx e;subst this;omega)]
    rw [takeL_two (fun z hz e=>?_)]
    obtain ⟨u,hu,hz2⟩:=List.mem_filterMap.1 hz
    unfold takeZ at hz2
    split at hz2
    · rename_i h1
      split at hz2
      · cases hz2
      · cases hz2
        exact absurd (h1.symm.trans e) hxy
    · cases hz2
      have:=h.apart.eq hu hy e
      subst this
      omega
  unfold tradeS
  rw [setB_two]
  have e1:((st.setB k (takeR (takeR (st.b k) x.id 1).2 y.id 1).2).setP (tradeF st.p x.owner.toNat y.owner.toNat k (x.price*1) (price*1) 1)).b k=(takeR (takeR (st.b k) x.id 1).2 y.id 1).2:=if_pos rfl
  have e2:((st.setB k (takeR (takeR (st.b k) x.id 1).2 y.id 1).2).setP (tradeF st.p x.owner.toNat y.owner.toNat k (x.price*1) (price*1) 1)).p=tradeF st.p x.owner.toNat y.owner.toNat k (x.price*1) (price*1) 1:=rfl
  rw [e1,e2,hl]
  congr 1
  show _=tradeF (tradeF st.p x.owner.toNat y.owner.toNat k (x.price*1) (price*1) 1) x.owner.toNat y.owner.toNat k (x.price*r) (price*r) r
  rw [tradeF_two,← Int.mul_add,← Int.mul_add]
end
def unitAll (k:Nat) (price:Int):List Int→List Int→FSt→FSt
  | b::bs,s::ss,st=>unitAll k price bs ss (tradeS st k price 1 (getR (st.b k) b).1 (getR (st.b k) s).1)
  | _,_,st=>st
def unitsF (l:List Fil):List Int:=l.flatMap fun f=>List.replicate f.qty.toNat f.id
theorem unit_chunk {k:Nat} (hk:k<3) {price:Int} (p0:0≤price):∀ (n:Nat) {st:FSt} {x y:Lot} (us vs:List Int),TInv k price st [⟨x.id,(n+1:Nat)⟩] [⟨y.id,(n+1:Nat)⟩]→PInv st.p→x∈st.b k→y∈st.b k→x.side=0→y.side=1 →
    unitAll k price (List.replicate (n+1) x.id++us) (List.replicate (n+1) y.id++vs) st=unitAll k price us vs (tradeS st k price ((n+1:Nat):Int) x y)
  | 0,st,x,y,us,vs,h,hp,hx,hy,sx,sy=>by
    have hb:=h.ok.book k hk
    show unitAll k price us vs (tradeS st k price 1 (getR (st.b k) x.id).1 (getR (st.b k) y.id).1)=_
    rw [getR_mem hb.apart hx,getR_mem hb.apart hy]
    rfl
  | n+1,st,x,y,us,vs,h,hp,hx,hy,sx,sy=>by
    have hb:=h.ok.book k hk
    have hxy:=side_ids hb.apart hx hy sx sy
    have b1:=h.bd x hx
    have b2:=h.bd y hy
    simp only [gotF,if_true,if_neg hxy,if_neg (Ne.symm hxy)] at b1 b2
    have h1:TInv k price st [⟨x.id,1⟩] [⟨y.id,1⟩]:=by
      refine ⟨h.ok,fun f hf=>?_,fun f hf=>?_,fun z hz=>?_⟩
      · rw [List.mem_singleton] at hf
        subst hf
        exact ⟨Int.le_refl _,(h.buys ⟨x.id,((n+1+1:Nat):Int)⟩ (by simp)).2⟩
      · rw [List.mem_singleton] at hf
        subst hf
        exact ⟨Int.le_refl _,(h.sells ⟨y.id,((n+1+1:Nat):Int)⟩ (by simp)).2⟩
      · have:=h.bd z hz
        simp only [gotF] at this ⊢
        split at this<;>split at this<;>simp_all<;>omega
    obtain ⟨x',y',hx',hy',gx,gy,_,_,_,_,p1,p2,_,_,_,hE,hT⟩:=h1.step hp hk
    rw [getR_mem hb.apart hx] at gx
    rw [getR_mem hb.apart hy] at gy
    obtain rfl:x=x':=congrArg Prod.fst gx
    obtain rfl:y=y':=congrArg Prod.fst gy
    have e1:unitAll k price (List.replicate (n+1+1) x.id++us) (List.replicate (n+1+1) y.id++vs) st=unitAll k price (List.replicate (n+1) (x.less 1).id++us) (List.replicate (n+1) (y.less 1).id++vs) (tradeS st k price 1 x y):=by
      show unitAll k price _ _ (tradeS st k price 1 (getR (st.b k) x.id).1 (getR (st.b k) y.id).1)=_
      rw [getR_mem hb.apart hx,getR_mem hb.apart hy]
      rfl
    have hmin:min (1:Int) 1=1:=by decide
    simp only [hmin] at hT hE
    have hok1:=hT.ok
    have hbk:(tradeS st k price 1 x y).b k=(takeR (takeR (st.b k) x.id 1).2 y.id 1).2:=if_pos rfl
    obtain ⟨l1,e2,hl1,_,m1⟩:=takeR_ok hb hx (q:=1) (by omega) (by omega)
    have hy1:y∈l1:=(m1 y).2 (.inl ⟨hy,Ne.symm hxy⟩)
    obtain ⟨l2,e3,hl2,_,m2⟩:=takeR_ok hl1 hy1 (q:=1) (by omega) (by omega)
    rw [e2] at hbk
    simp only at hbk
    rw [e3] at hbk
    simp only at hbk
    have hx2:x.less 1∈(tradeS st k price 1 x y).b k:=by rw [hbk];exact (m2 _).2 (.inl ⟨(m1 _).2 (.inr ⟨by omega,rfl⟩),hxy⟩)
    have hy2:y.less 1∈(tradeS st k price 1 x y).b k:=by rw [hbk];exact (m2 _).2 (.inr ⟨by omega,rfl⟩)
    have hT2:TInv k price (tradeS st k price 1 x y) [⟨(x.less 1).id,((n+1:Nat):Int)⟩] [⟨(y.less 1).id,((n+1:Nat):Int)⟩]:=by
      refine ⟨hok1,fun f hf=>?_,fun f hf=>?_,fun z hz=>?_⟩
      · rw [List.mem_singleton] at hf
        subst hf
        exact ⟨by simp only;omega,x.less 1,hx2,rfl,sx,p1⟩
      · rw [List.mem_singleton] at hf
        subst hf
        exact ⟨by simp only;omega,y.less 1,hy2,rfl,sy,p2⟩
      · have hbz:=(hok1.book k hk)
        simp only [gotF]
        by_cases i1:(x.less 1).id=z.id
        · have:=hbz.apart.eq hx2 hz i1
          subst this
          rw [if_pos rfl,if_neg (fun e=>hxy e.symm)]
          show (((n+1:Nat):Int)+0)+(0+0)≤x.qty - 1
          omega
        · rw [if_neg i1]
          by_cases i2:(y.less 1).id=z.id
          · have:=hbz.apart.eq hy2 hz i2
            subst this
            rw [if_pos rfl]
            show (0+0)+(((n+1:Nat):Int)+0)≤y.qty - 1
            omega
          · rw [if_neg i2]
            have:=(Lot.okC (hbz.ok z hz)).2.2.2.2
            omega
    have hp2:PInv (tradeS st k price 1 x y).p:=by
      obtain ⟨o1,o2,o3,o4,o5⟩:=Lot.okC (hb.ok x hx)
      obtain ⟨o6,o7,o8,o9,o10⟩:=Lot.okC (hb.ok y hy)
      exact tradeE_inv hp hk hE (hb.ok x hx) (hb.ok y hy) p0 p1 (by omega)
    rw [e1,unit_chunk hk p0 n us vs hT2 hp2 hx2 hy2 sx sy,← trade_two hb hx hy sx sy (r:=((n+1:Nat):Int)) (by omega) (by omega) (by omega)]
    congr 2
    omega
theorem units_less {f:Fil} {q:Int} (l:List Fil) (h1:1≤q) (h2:q≤f.qty):unitsF (f::l)=List.replicate q.toNat f.id++unitsF (lessF f q l):=by
  unfold lessF
  by_cases h:f.qty - q=0
  · rw [if_pos h,show q=f.qty by omega]
    rfl
  · rw [if_neg h]
    unfold unitsF
    rw [List.flatMap_cons,List.flatMap_cons,← List.append_assoc,List.replicate_append_replicate]
    congr 2
    show f.qty.toNat=q.toNat+(f.qty - q).toNat
    omega
theorem unit_nil_left (k:Nat) (price:Int) (l:List Int) (st:FSt):unitAll k price [] l st=st:=by cases l<;>rfl
theorem unit_nil_right (k:Nat) (price:Int) (l:List Int) (st:FSt):unitAll k price l [] st=st:=by cases l<;>rfl
theorem trade_units {k:Nat} (hk:k<3) {price:Int} (p0:0≤price):∀ (n:Nat) (st:FSt) (bs ss:List Fil),TInv k price st bs ss→PInv st.p→bs.length+ss.length≤n →
    tradeAll k price n st bs ss=unitAll k price (unitsF bs) (unitsF ss) st
  | n,st,[],ss,_,_,_=>by
    have:tradeAll k price n st [] ss=st:=by cases n<;>rfl
    rw [this]
    exact (unit_nil_left k price _ st).symm
  | n,st,b::bs,[],_,_,_=>by
    have:tradeAll k price n st (b::bs) []=st:=by cases n<;>rfl
    rw [this]
    exact (unit_nil_right k price _ st).symm
  | 0,st,b::bs,s::ss,_,_,hn=>by simp at hn
  | n+1,st,b::bs,s::ss,h,hp,hn=>by
    obtain ⟨x,y,hx,hy,gx,gy,xi,yi,sx,sy,p1,p2,q1,q2,q3,hE,hT⟩:=h.step hp hk
    have hb:=h.ok.book k hk
    have hq2:min b.qty s.qty≤b.qty:=by omega
    have hq3:min b.qty s.qty≤s.qty:=by omega
    have hlen:(lessF b (min b.qty s.qty) bs).length+(lessF s (min b.qty s.qty) ss).length≤n:=by
      rw [less_len,less_len]
      simp only [List.length_cons] at hn
      split<;>split<;>omega
    have hxy:=side_ids hb.apart hx hy sx sy
    have hp2:PInv (tradeS st k price (min b.qty s.qty) x y).p:=tradeE_inv hp hk hE (hb.ok x hx) (hb.ok y hy) p0 p1 (by omega)
    have hb1:=h.buys b (by simp)
    have hs1:=h.sells s (by simp)
    obtain ⟨m,hm⟩:∃ m:Nat,min b.qty s.qty=((m+1:Nat):Int):=⟨(min b.qty s.qty).toNat - 1,by omega⟩
    have hT2:TInv k price st [⟨x.id,((m+1:Nat):Int)⟩] [⟨y.id,((m+1:Nat):Int)⟩]:=by
      refine ⟨h.ok,fun f hf=>?_,fun f hf=>?_,fun z hz=>?_⟩
      · rw [List.mem_singleton] at hf
        subst hf
        exact ⟨by simp only;omega,x,hx,rfl,sx,p1⟩
      · rw [List.mem_singleton] at hf
        subst hf
        exact ⟨by simp only;omega,y,hy,rfl,sy,p2⟩
      · simp only [gotF]
        by_cases i1:x.id=z.id
        · have:=hb.apart.eq hx hz i1
          subst this
          rw [if_pos rfl,if_neg (fun e=>hxy e.symm)]
          omega
        · rw [if_neg i1]
          by_cases i2:y.id=z.id
          · have:=hb.apart.eq hy hz i2
            subst this
            rw [if_pos rfl]
            omega
          · rw [if_neg i2]
            have:=(Lot.okC (hb.ok z hz)).2.2.2.2
            omega
    show tradeAll k price n (tradeS st k price (min b.qty s.qty) (getR (st.b k) b.id).1 (getR (st.b k) s.id).1) (lessF b (min b.qty s.qty) bs) (lessF s (min b.qty s.qty) ss)=_
    rw [gx,gy,trade_units hk p0 n _ _ _ hT hp2 hlen,units_less bs q1 hq2,units_less ss q1 hq3,← xi,← yi,hm,Int.toNat_natCast,unit_chunk hk p0 m _ _ hT2 hp hx hy sx sy]
end Go.Proofs.YtmbboflakfokhaaGreatDoor

/- Plain facts: units of fills, one by one. -/
set_option linter.unusedSimpArgs false
set_option linter.unusedVariables false
namespace Go.Proofs.YtmbboflakfokhaaGreatDoor
open Go.RowKit
def oneF (id:Int):Fil:=⟨id,1⟩
theorem got_ones (id j:Int):∀ n:Nat,gotF ((List.replicate n id).map oneF) j=if id=j then (n:Int) else 0
  | 0=>by simp [gotF]
  | n+1=>by
    have ih:=got_ones id j n
    rw [List.replicate_succ,List.map_cons]
    simp only [gotF]
    rw [ih]
    show (if id=j then (1:Int) else 0)+_=_
    split<;>omega
theorem got_units {l:List Fil} (h:∀ f∈l,1≤f.qty) (id:Int):gotF ((unitsF l).map oneF) id=gotF l id:=by
  induction l with
  | nil=>rfl
  | cons f l ih =>
    have ih:=ih fun g hg=>h g (by simp [hg])
    have h1:=h f (by simp)
    have e:unitsF (f::l)=List.replicate f.qty.toNat f.id++unitsF l:=rfl
    rw [e,List.map_append,gotF_append,got_ones,ih]
    simp only [gotF]
    split<;>omega
theorem units_mem {l:List Fil} {i:Int} (h:i∈unitsF l):∃ f∈l,f.id=i:=by
  obtain ⟨f,hf,hi⟩:=List.mem_flatMap.1 h
  exact ⟨f,hf,(List.eq_of_mem_replicate hi).symm⟩
theorem units_append (a b:List Fil):unitsF (a++b)=unitsF a++unitsF b:=List.flatMap_append
theorem TInv.units {k:Nat} {price:Int} {st:FSt} {bs ss:List Fil} (h:TInv k price st bs ss):TInv k price st ((unitsF bs).map oneF) ((unitsF ss).map oneF):=by
  refine ⟨h.ok,fun f hf=>?_,fun f hf=>?_,fun x hx=>?_⟩
  · obtain ⟨i,hi,rfl⟩:=List.mem_map.1 hf
    obtain ⟨g,hg,e⟩:=units_mem hi
    have:=(h.buys g hg).2
    rw [e] at this
    exact ⟨Int.le_refl _,this⟩
  · obtain ⟨i,hi,rfl⟩:=List.mem_map.1 hf
    obtain ⟨g,hg,e⟩:=units_mem hi
    have:=(h.sells g hg).2
    rw [e] at this
    exact ⟨Int.le_refl _,this⟩
  · rw [got_units (fun f hf=>(h.buys f hf).1),got_units (fun f hf=>(h.sells f hf).1)]
    exact h.bd x hx
theorem TInv.unit {k:Nat} {price:Int} {st:FSt} {b s:Int} {bs ss:List Int} (h:TInv k price st ((b::bs).map oneF) ((s::ss).map oneF)) (hp:PInv st.p) (hk:k<3) (p0:0≤price) :
    ∃ x y l1 l2,x∈st.b k∧y∈st.b k∧getR (st.b k) b=(x,true)∧getR (st.b k) s=(y,true)∧x.id=b∧y.id=s ∧
      tradeE st.p (k:Int) x y price 1=0∧takeR (st.b k) x.id 1=(0,l1)∧takeR l1 y.id 1=(0,l2) ∧
      tradeS st k price 1 x y=((st.setP (tradeF st.p x.owner.toNat y.owner.toNat k (x.price*1) (price*1) 1)).setB k l1).setB k l2 ∧
      PInv (tradeF st.p x.owner.toNat y.owner.toNat k (x.price*1) (price*1) 1) ∧
      TInv k price (tradeS st k price 1 x y) (bs.map oneF) (ss.map oneF) ∧
      unitAll k price (b::bs) (s::ss) st=unitAll k price bs ss (tradeS st k price 1 x y):=by
  have e1:(b::bs).map oneF=oneF b::bs.map oneF:=rfl
  have e2:(s::ss).map oneF=oneF s::ss.map oneF:=rfl
  rw [e1,e2] at h
  obtain ⟨x,y,hx,hy,gx,gy,ix,iy,sx,sy,p1,p2,q1,q2,q3,hE,hT⟩:=h.step hp hk
  have hmin:min (oneF b).qty (oneF s).qty=1:=rfl
  rw [hmin] at q1 q2 q3 hE hT
  have l1:lessF (oneF b) 1 (bs.map oneF)=bs.map oneF:=if_pos rfl
  have l2:lessF (oneF s) 1 (ss.map oneF)=ss.map oneF:=if_pos rfl
  rw [l1,l2] at hT
  obtain ⟨_,_,m1,m2,t1,t2,_,_,_⟩:=h.ok.trade hp hk hx hy sx sy q1 q2 q3 p1 p2
  have hbk:=h.ok.book k hk
  refine ⟨x,y,m1,m2,hx,hy,gx,gy,ix,iy,hE,t1,t2,?_,tradeE_inv hp hk hE (hbk.ok x hx) (hbk.ok y hy) p0 p1 (by decide),hT,?_⟩
  · unfold tradeS
    have e3:(takeR (takeR (st.b k) x.id 1).2 y.id 1).2=m2:=by rw [t1];show (takeR m1 y.id 1).2=m2;rw [t2]
    rw [e3,setBBP]
  · show unitAll k price bs ss (tradeS st k price 1 (getR (st.b k) b).1 (getR (st.b k) s).1)=_
    have g1:getR (st.b k) b=(x,true):=gx
    have g2:getR (st.b k) s=(y,true):=gy
    rw [g1,g2]
theorem fill_lot {k:Nat} {price:Int} {st:FSt} {F:List Fil} (hk:k<3) (h:TInv k price st (buysOf (st.b k) F) (sellsOf (st.b k) F)) {f:Fil} (hf:f∈F):∃ x∈st.b k,x.id=f.id∧1≤f.qty∧f.qty≤1000:=by
  have hbk:=h.ok.book k hk
  by_cases hs:((getR (st.b k) f.id).1.side==0)=true
  · have hm:f∈buysOf (st.b k) F:=List.mem_filter.2 ⟨hf,hs⟩
    obtain ⟨q1,x,hx,hi,_⟩:=h.buys f hm
    have g1:=got_ge (fun g hg=>(h.buys g hg).1) hm
    have g2:=got_nonneg (fun g hg=>(h.sells g hg).1) f.id
    have hb:=h.bd x hx
    rw [hi] at hb
    have o:=(Lot.okC (hbk.ok x hx)).2.2.2.2
    exact ⟨x,hx,hi,q1,by omega⟩
  · have hm:f∈sellsOf (st.b k) F:=List.mem_filter.2 ⟨hf,by simpa using hs⟩
    obtain ⟨q1,x,hx,hi,_⟩:=h.sells f hm
    have g1:=got_ge (fun g hg=>(h.sells g hg).1) hm
    have g2:=got_nonneg (fun g hg=>(h.buys g hg).1) f.id
    have hb:=h.bd x hx
    rw [hi] at hb
    have o:=(Lot.okC (hbk.ok x hx)).2.2.2.2
    exact ⟨x,hx,hi,q1,by omega⟩
theorem units_len {l:List Fil} (h:∀ f∈l,f.qty≤1000):(unitsF l).length≤1000*l.length:=by
  induction l with
  | nil=>exact Nat.le_refl _
  | cons f l ih =>
    have ih:=ih fun g hg=>h g (by simp [hg])
    have h1:=h f (by simp)
    have e:unitsF (f::l)=List.replicate f.qty.toNat f.id++unitsF l:=rfl
    rw [e,List.length_append,List.length_replicate,List.length_cons]
    omega
def unB (L:List Lot) (F:List Fil) (k j:Nat):List Int:=unitsF (buysOf L (F.take k))++match F[k]? with|some f=>(if (getR L f.id).1.side==0 then List.replicate j f.id else [])|none=>[]
def unS (L:List Lot) (F:List Fil) (k j:Nat):List Int:=unitsF (sellsOf L (F.take k))++match F[k]? with|some f=>(if (getR L f.id).1.side==0 then [] else List.replicate j f.id)|none=>[]
theorem unB_zero (L:List Lot) (F:List Fil) (k:Nat):unB L F k 0=unitsF (buysOf L (F.take k)):=by
  unfold unB
  split
  · simp
  · simp
theorem unS_zero (L:List Lot) (F:List Fil) (k:Nat):unS L F k 0=unitsF (sellsOf L (F.take k)):=by
  unfold unS
  split
  · simp
  · simp
section
variable {L:List Lot} {F:List Fil} {k:Nat} (hk:k<F.length)
include hk
theorem unB_next:unB L F k F[k].qty.toNat=unB L F (k+1) 0:=by
  rw [unB_zero,buys_snoc L F k hk,units_append]
  unfold unB
  rw [List.getElem?_eq_getElem hk]
  simp only
  congr 1
  split
  · simp [unitsF]
  · rfl
theorem unS_next:unS L F k F[k].qty.toNat=unS L F (k+1) 0:=by
  rw [unS_zero,sells_snoc L F k hk,units_append]
  unfold unS
  rw [List.getElem?_eq_getElem hk]
  simp only
  congr 1
  split
  · rfl
  · simp [unitsF]
theorem unB_snoc (j:Nat) (h:((getR L F[k].id).1.side==0)=true):unB L F k (j+1)=unB L F k j++[F[k].id]∧unS L F k (j+1)=unS L F k j:=by
  unfold unB unS
  rw [List.getElem?_eq_getElem hk]
  simp only [h,if_true]
  exact ⟨by rw [List.replicate_succ',List.append_assoc],trivial⟩
theorem unS_snoc (j:Nat) (h:((getR L F[k].id).1.side==0)=false):unS L F k (j+1)=unS L F k j++[F[k].id]∧unB L F k (j+1)=unB L F k j:=by
  unfold unB unS
  rw [List.getElem?_eq_getElem hk]
  simp only [h,Bool.false_eq_true,if_false]
  exact ⟨by rw [List.replicate_succ',List.append_assoc],trivial⟩
end
theorem unB_len {L:List Lot} {F:List Fil} (h:∀ f∈F,f.qty≤1000) {k j:Nat} (hk:k≤F.length) (hj:j≤1000):(unB L F k j).length≤1000*F.length+1000:=by
  have h1:=units_len (l:=buysOf L (F.take k)) fun f hf=>h f (List.mem_of_mem_take (List.mem_filter.1 hf).1)
  have h2:(buysOf L (F.take k)).length≤(F.take k).length:=List.length_filter_le _ _
  rw [List.length_take] at h2
  unfold unB
  rw [List.length_append]
  split
  · split
    · rw [List.length_replicate];omega
    · simp;omega
  · simp;omega
theorem unS_len {L:List Lot} {F:List Fil} (h:∀ f∈F,f.qty≤1000) {k j:Nat} (hk:k≤F.length) (hj:j≤1000):(unS L F k j).length≤1000*F.length+1000:=by
  have h1:=units_len (l:=sellsOf L (F.take k)) fun f hf=>h f (List.mem_of_mem_take (List.mem_filter.1 hf).1)
  have h2:(sellsOf L (F.take k)).length≤(F.take k).length:=List.length_filter_le _ _
  rw [List.length_take] at h2
  unfold unS
  rw [List.length_append]
  split
  · split
    · simp;omega
    · rw [List.length_replicate];omega
  · simp;omega
end Go.Proofs.YtmbboflakfokhaaGreatDoor

/- What the document's ShuffleOf computes. -/
set_option linter.unusedSimpArgs false
set_option linter.unusedVariables false
namespace Go.Proofs.YtmbboflakfokhaaGreatDoor
open Go.RowKit
theorem row_swap {w wr:World} {base N g cap i kk:Nat} {L:List Int} {a b:Int} (hr:wr.ownsRow base 3 1 (.slice (some ⟨g,0,none⟩) N cap) N (L.map (Value.int .i64))) (hb:Below base w wr) (hg:base≤g) :
    ((wr.setCell ⟨g,i,none⟩ (.int .i64 a)).setCell ⟨g,kk,none⟩ (.int .i64 b)).ownsRow base 3 1 (.slice (some ⟨g,0,none⟩) N cap) N (((L.set i a).set kk b).map (Value.int .i64))∧Below base w ((wr.setCell ⟨g,i,none⟩ (.int .i64 a)).setCell ⟨g,kk,none⟩ (.int .i64 b)):=by
  have h2:=((hr.stored i (.int .i64 a)).1.stored kk (.int .i64 b)).1
  rw [← List.map_set,← List.map_set] at h2
  exact ⟨h2,Below.setCell (Below.setCell hb hg _) hg _⟩
def IntsObj (w:World) (ao:Option Addr):Prop:=∀ a,ao=some a→∃ cs,w.heap[a.block]?=some (.cells cs 3 (0,0))
theorem IntsObj.ex {w w':World} {ao:Option Addr} (h:IntsObj w ao) (hx:Ex w w'):IntsObj w' ao:=fun a e=>by
  obtain ⟨cs,hc⟩:=h a e
  exact ⟨cs,(hx.below.block _ (Array.getElem?_eq_some_iff.1 hc).1).trans hc⟩
theorem ints_obj {w:World} {base n cap:Nat} {ao:Option Addr} {size:Nat} {xs:List Value} (h:w.ownsRow base 3 size (.slice ao n cap) n xs):IntsObj w ao:=fun a e=>by
  rcases h.2 with ⟨e1,_⟩|⟨g,cap',cur,e1,_,hg,_⟩
  · injection e1 with e2;rw [e2] at e;cases e
  · injection e1 with e2
    rw [e2] at e
    cases e
    exact ⟨cur,hg⟩
set_option maxRecDepth 100000 in
set_option maxHeartbeats 4000000 in
theorem shuffleOf_all (n:Int) (N:Nat) (seed:Int) (w:World) (hN:min (max n 0) 1000=(N:Int)) (hs:U32 seed) :
    Calls Tryz.prog 108 #[.int .i64 n,.int .u32 seed] w fun e w'=>(∃ ao' cap',e=.returned (.slice ao' N cap')∧N≤cap'∧IntsAt w' ao' (shufL N seed)∧IntsObj w' ao')∧Ex w w':=by
  have hN1:N≤1000:=by omega
  have hcase:(n=(N:Int))∨(n > 1000∧1000≤N)∨(n<0∧N≤0):=by omega
  have HU:=Lib.hid (seedOf_u32 hs)
  have hu0:=HU.out.1
  have hu1:=HU.out.2
  obtain ⟨i0,hi0,hi⟩:=Option.map_eq_some_iff.1 infoInt
  simp only [Prod.mk.injEq] at hi
  obtain ⟨hz0,hz1,hz2⟩:=hi
  have HB:=Lib.hid (refSeed_any seed)
  have HT:=Lib.hid (show shufF (N - 1) (rangeI N) (seedOf seed)=shufL N seed from rfl)
  clear hs hN
  generalize seedOf seed=x0 at *
  generalize shufL N seed=T at *
  rcases hcase with rfl|⟨hc,hN0⟩|⟨hc,hN0⟩
  · go_enter Tryz.func108,Tryz.ntmps108
    go_wp2_with fail
    go_loopw [5,6] (fun v i wr=>∃ (k:Nat) (u:Value),u=v∧k≤N∧i=.int .i64 k∧wr.ownsRow w.heap.size 3 1 u k ((rangeI k).map (Value.int .i64))∧Below w.heap.size w wr) (fun _ i _=>N - (intOf i).toNat)
    case atStart=>exact ⟨0,_,rfl,Nat.zero_le _,rfl,World.ownsRow_nil _ _ _ _,Below.refl _ _⟩
    case round =>
      obtain ⟨k,v,rfl,hk,rfl,hrow,hbl⟩:=hrel
      have HR:=Lib.hid hrow
      have HL:=Lib.hid hbl
      have hwz:=hbl.size
      clear hrow hbl
      by_cases hlt:k<N
      · go_wp2_with (at_builtin;refine wpList_append_own _ rfl (.tmp 20) (.tmp 22) 110 rfl w.heap.size 3 i0 _ 1 8 Tryz.underlying110 hi0 hz0 hz1 hz2 rfl (by decide) v k ((rangeI k).map (Value.int .i64)) rfl ?_ _ 1 1 [.int .i64 k] rfl rfl ?_ ?_ (by unfold maxLen;omega) (by omega) ?_ ?_;(focus (refine HR.out.kept (Below.grownBy ?_) (Classical.em _);((refine Below.trans (Below.refl _ _) ?_;repeat (first|exact Below.refl _ _|(refine Below.drew ?_)|(refine Below.drewN ?_ _)|(refine Below.ext ?_ (by first|omega|(simp [go_sem];done)|(simp [go_sem];omega)) _ _)|(refine Below.alloc ?_ (by first|omega|(simp [go_sem];done)|(simp [go_sem];omega)) _)|(refine Below.setCell ?_ (by first|omega|(simp [go_sem];done)|(simp [go_sem];omega)) _))))));(focus exact World.news_of_block (alloc_at rfl));(focus simp [Value.oneCell']);(focus exact (by first|omega|(simp [go_sem];done)|(simp [go_sem];omega)));intro v1 w1 hown hgrow hnil)
        all_goals
          go_roundw
          case measure=>simp [intOf];omega
          case rel =>
            refine ⟨k+1,_,rfl,by omega,by go_num,?_,?_⟩
            · rw [rangeI_succ,List.map_append]
              exact hown
            · refine Below.grown (a:=_) ?_ hgrow ?_ (fun b hb=>(HR.out.lt b hb).1)
              · (refine Below.trans HL.out ?_;repeat (first|exact Below.refl _ _|(refine Below.drew ?_)|(refine Below.drewN ?_ _)|(refine Below.ext ?_ (by first|omega|(simp [go_sem];done)|(simp [go_sem];omega)) _ _)|(refine Below.alloc ?_ (by first|omega|(simp [go_sem];done)|(simp [go_sem];omega)) _)|(refine Below.setCell ?_ (by first|omega|(simp [go_sem];done)|(simp [go_sem];omega)) _)))
              · exact (by first|omega|(simp [go_sem];done)|(simp [go_sem];omega))
      · obtain rfl:k=N:=by omega
        have hform:∃ ao cap,v=.slice ao k cap∧k≤cap:=by
          by_cases hv:v=.slice none 0 0
          · have h0:k=0:=by
              rcases HR.out.2 with ⟨_,h⟩|⟨g,cap,cur,e,_⟩
              · exact h
              · rw [hv] at e;cases e
            exact ⟨none,0,by rw [hv,h0],by omega⟩
          · obtain ⟨g,cap2,e,_,_,hn,_⟩:=Lib.holds_of_ownsRow HR.out hv
            exact ⟨_,_,e,hn⟩
        obtain ⟨ao2,cap2,rfl,hcap⟩:=hform
        go_wp2_with (go_at_call 118;refine (HB.out _).mono ?_;rintro e w1 ⟨rfl,rfl⟩)
        go_loopw [7,8,9,10] (fun xs s _ _ wr=>∃ (j:Nat) (L:List Int) (x:Int),j≤k∧s=.int .i64 ((j:Int) - 1)∧xs=.int .u32 x∧L.length=k∧U32 x∧shufF (j - 1) L x=T∧wr.ownsRow w.heap.size 3 1 (.slice ao2 k cap2) k (L.map (Value.int .i64))∧Below w.heap.size w wr) (fun _ s _ _ _=>(intOf s+1).toNat)
        case atStart=>exact ⟨k,rangeI k,x0,Nat.le_refl _,(by first|rfl|(congr 1;omega)),rfl,rangeI_len _,HU.out,HT.out,HR.out,HL.out⟩
        case round =>
          obtain ⟨j,L,x,hj,rfl,rfl,hL,hx,hT,hrow,hbl⟩:=hrel
          have HT2:=Lib.hid hT
          have HB2:=Lib.hid hbl
          have HX:=Lib.hid hx
          have HLL:=Lib.hid hL
          clear hT hbl hx
          by_cases hj2:j<2
          · have hTL:L=T:=by
              rw [← HT2.out]
              match j,hj2 with
              | 0,_=>rfl
              | 1,_=>rfl
            subst hTL
            have hia:IntsAt wr ao2 L:=by
              by_cases hv:(Value.slice ao2 k cap2)=.slice none 0 0
              · intro h0
                have h1:k=0:=by injection hv
                omega
              · obtain ⟨g,cap3,e,_⟩:=Lib.holds_of_ownsRow hrow hv
                cases e
                exact ints_of_owned hrow
            have HIA:=Lib.hid hia
            have HIO:=Lib.hid (ints_obj hrow)
            have hj1:¬ ((j:Int) - 1 > 0):=by omega
            clear hrow hia hL
            go_wp2_with fail
            go_ret
            exact ⟨⟨_,_,rfl,hcap,HIA.out.ex (by repeat (first|exact Ex.refl _|refine Ex.alloc ?_ _|refine Ex.ext ?_ _ _|refine Ex.drew ?_|refine Ex.drewN ?_ _)),HIO.out.ex (by repeat (first|exact Ex.refl _|refine Ex.alloc ?_ _|refine Ex.ext ?_ _ _|refine Ex.drew ?_|refine Ex.drewN ?_ _))⟩,(Ex.of HB2.out).trans (by repeat (first|exact Ex.refl _|refine Ex.alloc ?_ _|refine Ex.ext ?_ _ _|refine Ex.drew ?_|refine Ex.drewN ?_ _))⟩
          · obtain ⟨i,rfl⟩:∃ i,j=i+2:=⟨j - 2,by omega⟩
            rw [show ((i+2:Nat):Int) - 1=(i:Int)+1 by omega]
            obtain ⟨g,cap3,e,hbg,hlg,hn3,hm3,hlz,hH⟩:=Lib.holds_of_ownsRow hrow (by intro e;injection e;omega)
            cases e
            have HST:=Lib.hid (show shufF (i+1) L x=shufF i (swp L (i+1) ((nxt x % ((i:Int)+2)).toNat)) (nxt x) from rfl)
            have hy:=nxt_u32 x
            have HNX:=Lib.hid (fun w=>refNext_any x w HX.out)
            generalize nxt x=y at *
            obtain ⟨hy0,hy1⟩:=hy
            obtain ⟨kk,hkk,hkl⟩:∃ kk:Nat,y % ((i:Int)+2)=(kk:Int)∧kk<i+2:=by
              have a:=Int.emod_nonneg y (show (i:Int)+2≠0 by omega)
              have b:=Int.emod_lt_of_pos y (show 0<(i:Int)+2 by omega)
              exact ⟨(y % ((i:Int)+2)).toNat,by omega,by omega⟩
            have hckk:=(hH kk (by simp [HLL.out];omega)).1
            have hcki:=(hH (i+1) (by simp [HLL.out];omega)).1
            have hfkk:=(hH kk (by simp [HLL.out];omega)).2
            have hfki:=(hH (i+1) (by simp [HLL.out];omega)).2
            rw [hkk,Int.toNat_natCast] at HST
            have j1:(kk:Int)<k:=by omega
            have j2:(i:Int)+1<k:=by omega
            have j3:(0:Int)≤(i:Int)+1:=by omega
            have j4:((i:Int)+1).toNat=i+1:=by omega
            have HW:Hid (wrap64 (y % ((i:Int)+1+1))=(kk:Int)):=Lib.hid (by rw [show (i:Int)+1+1=(i:Int)+2 by omega,hkk];unfold wrap64;omega)
            have hke:kk=i+1∨(kk≠i+1∧i+1≠kk):=by omega
            clear hkk
            simp only [Nat.zero_add] at hckk hcki hfkk hfki
            rw [show L.toArray[kk]! = L.getD kk 0 by simp [getElem!_def,List.getD];rfl] at hckk
            rw [show L.toArray[i+1]! = L.getD (i+1) 0 by simp [getElem!_def,List.getD];rfl] at hcki
            have HSW:=Lib.hid (show swp L (i+1) kk=(L.set (i+1) (L.getD kk 0)).set kk (L.getD (i+1) 0) from rfl)
            generalize L.getD kk 0=a at *
            generalize L.getD (i+1) 0=b at *
            have HRW:=Lib.hid hrow
            clear hrow hH hL
            rcases hke with rfl|⟨hk1,hk2⟩
            · have hab:a=b:=by have:=hckk.symm.trans hcki;simpa using this
              subst hab
              go_upto_region 16 with (go_at_call 119;refine (HNX.out _).mono ?_;rintro e w1 ⟨rfl,rfl⟩)
              rw [HW.out]
              go_wp2_with fail
              have hend:=row_swap (i:=i+1) (kk:=i+1) (a:=a) (b:=a) HRW.out HB2.out hbg
              go_roundw
              case measure=>simp [intOf];omega
              case rel=>exact ⟨i+1,swp L (i+1) (i+1),y,by omega,by simp,rfl,by rw [swp_len];exact HLL.out,⟨hy0,hy1⟩,by rw [← HT2.out];exact HST.out.symm,by rw [HSW.out];exact hend.1,hend.2⟩
            · go_upto_region 16 with (go_at_call 119;refine (HNX.out _).mono ?_;rintro e w1 ⟨rfl,rfl⟩)
              rw [HW.out]
              go_wp2_with fail
              have hend:=row_swap (i:=i+1) (kk:=kk) (a:=a) (b:=b) HRW.out HB2.out hbg
              go_roundw
              case measure=>simp [intOf];omega
              case rel=>exact ⟨i+1,swp L (i+1) kk,y,by omega,by simp,rfl,by rw [swp_len];exact HLL.out,⟨hy0,hy1⟩,by rw [← HT2.out];exact HST.out.symm,by rw [HSW.out];exact hend.1,hend.2⟩
  · go_enter Tryz.func108,Tryz.ntmps108
    go_wp2_with fail
    go_loopw [5,6] (fun v i wr=>∃ (k:Nat) (u:Value),u=v∧k≤N∧i=.int .i64 k∧wr.ownsRow w.heap.size 3 1 u k ((rangeI k).map (Value.int .i64))∧Below w.heap.size w wr) (fun _ i _=>N - (intOf i).toNat)
    case atStart=>exact ⟨0,_,rfl,Nat.zero_le _,rfl,World.ownsRow_nil _ _ _ _,Below.refl _ _⟩
    case round =>
      obtain ⟨k,v,rfl,hk,rfl,hrow,hbl⟩:=hrel
      have HR:=Lib.hid hrow
      have HL:=Lib.hid hbl
      have hwz:=hbl.size
      clear hrow hbl
      by_cases hlt:k<N
      · go_wp2_with (at_builtin;refine wpList_append_own _ rfl (.tmp 20) (.tmp 22) 110 rfl w.heap.size 3 i0 _ 1 8 Tryz.underlying110 hi0 hz0 hz1 hz2 rfl (by decide) v k ((rangeI k).map (Value.int .i64)) rfl ?_ _ 1 1 [.int .i64 k] rfl rfl ?_ ?_ (by unfold maxLen;omega) (by omega) ?_ ?_;(focus (refine HR.out.kept (Below.grownBy ?_) (Classical.em _);((refine Below.trans (Below.refl _ _) ?_;repeat (first|exact Below.refl _ _|(refine Below.drew ?_)|(refine Below.drewN ?_ _)|(refine Below.ext ?_ (by first|omega|(simp [go_sem];done)|(simp [go_sem];omega)) _ _)|(refine Below.alloc ?_ (by first|omega|(simp [go_sem];done)|(simp [go_sem];omega)) _)|(refine Below.setCell ?_ (by first|omega|(simp [go_sem];done)|(simp [go_sem];omega)) _))))));(focus exact World.news_of_block (alloc_at rfl));(focus simp [Value.oneCell']);(focus exact (by first|omega|(simp [go_sem];done)|(simp [go_sem];omega)));intro v1 w1 hown hgrow hnil)
        all_goals
          go_roundw
          case measure=>simp [intOf];omega
          case rel =>
            refine ⟨k+1,_,rfl,by omega,by go_num,?_,?_⟩
            · rw [rangeI_succ,List.map_append]
              exact hown
            · refine Below.grown (a:=_) ?_ hgrow ?_ (fun b hb=>(HR.out.lt b hb).1)
              · (refine Below.trans HL.out ?_;repeat (first|exact Below.refl _ _|(refine Below.drew ?_)|(refine Below.drewN ?_ _)|(refine Below.ext ?_ (by first|omega|(simp [go_sem];done)|(simp [go_sem];omega)) _ _)|(refine Below.alloc ?_ (by first|omega|(simp [go_sem];done)|(simp [go_sem];omega)) _)|(refine Below.setCell ?_ (by first|omega|(simp [go_sem];done)|(simp [go_sem];omega)) _)))
              · exact (by first|omega|(simp [go_sem];done)|(simp [go_sem];omega))
      · obtain rfl:k=N:=by omega
        have hform:∃ ao cap,v=.slice ao k cap∧k≤cap:=by
          by_cases hv:v=.slice none 0 0
          · have h0:k=0:=by
              rcases HR.out.2 with ⟨_,h⟩|⟨g,cap,cur,e,_⟩
              · exact h
              · rw [hv] at e;cases e
            exact ⟨none,0,by rw [hv,h0],by omega⟩
          · obtain ⟨g,cap2,e,_,_,hn,_⟩:=Lib.holds_of_ownsRow HR.out hv
            exact ⟨_,_,e,hn⟩
        obtain ⟨ao2,cap2,rfl,hcap⟩:=hform
        go_wp2_with (go_at_call 118;refine (HB.out _).mono ?_;rintro e w1 ⟨rfl,rfl⟩)
        go_loopw [7,8,9,10] (fun xs s _ _ wr=>∃ (j:Nat) (L:List Int) (x:Int),j≤k∧s=.int .i64 ((j:Int) - 1)∧xs=.int .u32 x∧L.length=k∧U32 x∧shufF (j - 1) L x=T∧wr.ownsRow w.heap.size 3 1 (.slice ao2 k cap2) k (L.map (Value.int .i64))∧Below w.heap.size w wr) (fun _ s _ _ _=>(intOf s+1).toNat)
        case atStart=>exact ⟨k,rangeI k,x0,Nat.le_refl _,(by first|rfl|(congr 1;omega)),rfl,rangeI_len _,HU.out,HT.out,HR.out,HL.out⟩
        case round =>
          obtain ⟨j,L,x,hj,rfl,rfl,hL,hx,hT,hrow,hbl⟩:=hrel
          have HT2:=Lib.hid hT
          have HB2:=Lib.hid hbl
          have HX:=Lib.hid hx
          have HLL:=Lib.hid hL
          clear hT hbl hx
          by_cases hj2:j<2
          · have hTL:L=T:=by
              rw [← HT2.out]
              match j,hj2 with
              | 0,_=>rfl
              | 1,_=>rfl
            subst hTL
            have hia:IntsAt wr ao2 L:=by
              by_cases hv:(Value.slice ao2 k cap2)=.slice none 0 0
              · intro h0
                have h1:k=0:=by injection hv
                omega
              · obtain ⟨g,cap3,e,_⟩:=Lib.holds_of_ownsRow hrow hv
                cases e
                exact ints_of_owned hrow
            have HIA:=Lib.hid hia
            have HIO:=Lib.hid (ints_obj hrow)
            have hj1:¬ ((j:Int) - 1 > 0):=by omega
            clear hrow hia hL
            go_wp2_with fail
            go_ret
            exact ⟨⟨_,_,rfl,hcap,HIA.out.ex (by repeat (first|exact Ex.refl _|refine Ex.alloc ?_ _|refine Ex.ext ?_ _ _|refine Ex.drew ?_|refine Ex.drewN ?_ _)),HIO.out.ex (by repeat (first|exact Ex.refl _|refine Ex.alloc ?_ _|refine Ex.ext ?_ _ _|refine Ex.drew ?_|refine Ex.drewN ?_ _))⟩,(Ex.of HB2.out).trans (by repeat (first|exact Ex.refl _|refine Ex.alloc ?_ _|refine Ex.ext ?_ _ _|refine Ex.drew ?_|refine Ex.drewN ?_ _))⟩
          · obtain ⟨i,rfl⟩:∃ i,j=i+2:=⟨j - 2,by omega⟩
            rw [show ((i+2:Nat):Int) - 1=(i:Int)+1 by omega]
            obtain ⟨g,cap3,e,hbg,hlg,hn3,hm3,hlz,hH⟩:=Lib.holds_of_ownsRow hrow (by intro e;injection e;omega)
            cases e
            have HST:=Lib.hid (show shufF (i+1) L x=shufF i (swp L (i+1) ((nxt x % ((i:Int)+2)).toNat)) (nxt x) from rfl)
            have hy:=nxt_u32 x
            have HNX:=Lib.hid (fun w=>refNext_any x w HX.out)
            generalize nxt x=y at *
            obtain ⟨hy0,hy1⟩:=hy
            obtain ⟨kk,hkk,hkl⟩:∃ kk:Nat,y % ((i:Int)+2)=(kk:Int)∧kk<i+2:=by
              have a:=Int.emod_nonneg y (show (i:Int)+2≠0 by omega)
              have b:=Int.emod_lt_of_pos y (show 0<(i:Int)+2 by omega)
              exact ⟨(y % ((i:Int)+2)).toNat,by omega,by omega⟩
            have hckk:=(hH kk (by simp [HLL.out];omega)).1
            have hcki:=(hH (i+1) (by simp [HLL.out];omega)).1
            have hfkk:=(hH kk (by simp [HLL.out];omega)).2
            have hfki:=(hH (i+1) (by simp [HLL.out];omega)).2
            rw [hkk,Int.toNat_natCast] at HST
            have j1:(kk:Int)<k:=by omega
            have j2:(i:Int)+1<k:=by omega
            have j3:(0:Int)≤(i:Int)+1:=by omega
            have j4:((i:Int)+1).toNat=i+1:=by omega
            have HW:Hid (wrap64 (y % ((i:Int)+1+1))=(kk:Int)):=Lib.hid (by rw [show (i:Int)+1+1=(i:Int)+2 by omega,hkk];unfold wrap64;omega)
            have hke:kk=i+1∨(kk≠i+1∧i+1≠kk):=by omega
            clear hkk
            simp only [Nat.zero_add] at hckk hcki hfkk hfki
            rw [show L.toArray[kk]! = L.getD kk 0 by simp [getElem!_def,List.getD];rfl] at hckk
            rw [show L.toArray[i+1]! = L.getD (i+1) 0 by simp [getElem!_def,List.getD];rfl] at hcki
            have HSW:=Lib.hid (show swp L (i+1) kk=(L.set (i+1) (L.getD kk 0)).set kk (L.getD (i+1) 0) from rfl)
            generalize L.getD kk 0=a at *
            generalize L.getD (i+1) 0=b at *
            have HRW:=Lib.hid hrow
            clear hrow hH hL
            rcases hke with rfl|⟨hk1,hk2⟩
            · have hab:a=b:=by have:=hckk.symm.trans hcki;simpa using this
              subst hab
              go_upto_region 16 with (go_at_call 119;refine (HNX.out _).mono ?_;rintro e w1 ⟨rfl,rfl⟩)
              rw [HW.out]
              go_wp2_with fail
              have hend:=row_swap (i:=i+1) (kk:=i+1) (a:=a) (b:=a) HRW.out HB2.out hbg
              go_roundw
              case measure=>simp [intOf];omega
              case rel=>exact ⟨i+1,swp L (i+1) (i+1),y,by omega,by simp,rfl,by rw [swp_len];exact HLL.out,⟨hy0,hy1⟩,by rw [← HT2.out];exact HST.out.symm,by rw [HSW.out];exact hend.1,hend.2⟩
            · go_upto_region 16 with (go_at_call 119;refine (HNX.out _).mono ?_;rintro e w1 ⟨rfl,rfl⟩)
              rw [HW.out]
              go_wp2_with fail
              have hend:=row_swap (i:=i+1) (kk:=kk) (a:=a) (b:=b) HRW.out HB2.out hbg
              go_roundw
              case measure=>simp [intOf];omega
              case rel=>exact ⟨i+1,swp L (i+1) kk,y,by omega,by simp,rfl,by rw [swp_len];exact HLL.out,⟨hy0,hy1⟩,by rw [← HT2.out];exact HST.out.symm,by rw [HSW.out];exact hend.1,hend.2⟩
  · obtain rfl:N=0:=by omega
    have HT0:=Lib.hid (show T=[] from HT.out.symm)
    clear HT
    go_enter Tryz.func108,Tryz.ntmps108
    go_wp2_with fail
    go_loopw [5,6] (fun v i wr=>v=.slice none 0 0∧i=.int .i64 0∧wr=w) (fun _ _ _=>0)
    case atStart=>exact ⟨rfl,rfl,rfl⟩
    case round =>
      obtain ⟨rfl,rfl,rfl⟩:=hrel
      go_wp2_with (go_at_call 118;refine (HB.out _).mono ?_;rintro e w1 ⟨rfl,rfl⟩)
      go_loopw [7,8,9,10] (fun xs s _ _ wr'=>s=.int .i64 (-1)∧wr'=wr) (fun _ _ _ _ _=>0)
      case atStart=>exact ⟨rfl,rfl⟩
      case round =>
        obtain ⟨rfl,rfl⟩:=hrel
        go_wp2_with fail
        go_ret
        exact ⟨⟨none,0,rfl,Nat.le_refl _,(by rw [HT0.out];intro h;cases h),(fun a e=>by cases e)⟩,Ex.refl _⟩
end Go.Proofs.YtmbboflakfokhaaGreatDoor
