import Derived.Test.YtabbgpjofkaomaaGreatDoorJ16
set_option linter.unusedSimpArgs false
set_option linter.unusedVariables false
/- Plain facts: what the lots of both sides get. -/
namespace Go.Proofs.YtabbgpjofkaomaaGreatDoor
open Go.RowKit
def levQ (side price:Int) (l:List Lot):List Int:=if side=0 then (levP side price l).reverse else levP side price l
theorem levels_q (side price:Int) (l:List Lot):levelsL side price l=(levQ side price l).map fun p=>lotsAtP side price p l:=rfl
theorem mem_levQ {side price p:Int} {l:List Lot}:p∈levQ side price l↔∃ x∈l,mayT side price x=true∧x.price=p:=by
 have h:p∈levQ side price l↔p∈levP side price l:=by unfold levQ;split<;>simp
 rw [h,levP,(pricesL_spec _).1]
 constructor
 ·rintro ⟨x,hx,e⟩
  rw [List.mem_filter] at hx
  exact ⟨x,hx.1,hx.2,e⟩
 ·rintro ⟨x,hx,hm,e⟩
  exact ⟨x,List.mem_filter.2 ⟨hx,hm⟩,e⟩
theorem levQ_pair (side price:Int) (l:List Lot):(levQ side price l).Pairwise fun p q=>(side=0∧q<p)∨(side≠0∧p<q):=by
 have h:=(pricesL_spec (l.filter (mayT side price))).2
 unfold levQ
 split
 ·rename_i e
  rw [List.pairwise_reverse]
  exact h.imp fun hk=>.inl ⟨e,hk⟩
 ·rename_i e
  exact h.imp fun hk=>.inr ⟨e,hk⟩
theorem levels_mem {side price:Int} {l:List Lot} {x:Lot}:x∈(levelsL side price l).flatten↔x∈l∧mayT side price x=true:=by
 rw [levels_q,List.mem_flatten]
 constructor
 ·rintro ⟨lv,hlv,hx⟩
  obtain ⟨p,_,rfl⟩:=List.mem_map.1 hlv
  have:=lotsAtP_mem hx
  exact ⟨this.1,this.2.1⟩
 ·rintro ⟨hx,hm⟩
  refine ⟨_,List.mem_map.2 ⟨x.price,mem_levQ.2 ⟨x,hx,hm,rfl⟩,rfl⟩,?_⟩
  simp [lotsAtP,hx,hm]
theorem levels_apart {side price:Int} {l:List Lot} (h:IdsApart l):IdsApart (levelsL side price l).flatten:=by
 refine List.pairwise_flatten.2 ⟨fun lv hlv=>?_,?_⟩
 ·obtain ⟨p,rfl⟩:=levelsL_mem lv hlv
  exact List.Pairwise.sublist List.filter_sublist h
 ·rw [levels_q,List.pairwise_map]
  refine (levQ_pair side price l).imp fun hpq x hx y hy e=>?_
  obtain ⟨h1,_,h2⟩:=lotsAtP_mem hx
  obtain ⟨h3,_,h4⟩:=lotsAtP_mem hy
  have:=h.eq h1 h3 e
  subst this
  omega
def betterL (side:Int) (y x:Lot):Prop:=(side=0∧x.price<y.price)∨(side≠0∧y.price<x.price)
theorem levels_best1 {side price:Int} {l:List Lot}:∀ lv∈levelsL side price l,∀ x∈lv,∀ y∈lv,¬ betterL side y x:=fun lv hlv x hx y hy hb=>by
 obtain ⟨p,rfl⟩:=levelsL_mem lv hlv
 have h1:=(lotsAtP_mem hx).2.2
 have h2:=(lotsAtP_mem hy).2.2
 unfold betterL at hb
 omega
theorem levels_best2 {side price:Int} {l:List Lot}:(levelsL side price l).Pairwise fun a b=>∀ x∈a,∀ y∈b,¬ betterL side y x:=by
 rw [levels_q,List.pairwise_map]
 refine (levQ_pair side price l).imp fun hpq x hx y hy hb=>?_
 have h1:=(lotsAtP_mem hx).2.2
 have h2:=(lotsAtP_mem hy).2.2
 unfold betterL at hb
 omega
theorem sumOf_filter (f:Lot→Bool) (l:List Lot):totL (l.filter f)=sumOf f l:=by
 induction l with
 | nil=>rfl
 | cons x l ih =>
  rw [List.filter_cons]
  cases hf:f x<;>simp [totL_cons,sumOf,hf,ih]
theorem sumOf_orF {f g:Lot→Bool} (h:∀ x,f x=true→g x=false):∀ l:List Lot,sumOf (fun x=>f x || g x) l=sumOf f l+sumOf g l
 | []=>rfl
 | x::l=>by
  have ih:=sumOf_orF h l
  have key:∀ (a b:Bool) (q s t:Int),(a=true→b=false)→(if (a || b)=true then q else 0)+(s+t)=(if a=true then q else 0)+s+((if b=true then q else 0)+t):=by
   intro a b q s t k
   cases a<;>cases b<;>simp at k ⊢<;>omega
  simp only [sumOf,ih]
  exact key _ _ _ _ _ (h x)
theorem sumOf_noneF (l:List Lot):sumOf (fun _=>false) l=0:=by
 induction l with
 | nil=>rfl
 | cons x l ih=>simp [sumOf,ih]
theorem totL_levels (side price:Int) (l:List Lot):∀ ps:List Int,ps.Nodup→totL ((ps.map fun p=>lotsAtP side price p l).flatten)=sumOf (fun x=>mayT side price x && ps.contains x.price) l
 | [],_=>by
  rw [sumOf_congr l (js:=fun _=>false) (fun x _=>by simp),sumOf_noneF];rfl
 | p::ps,hn=>by
  obtain ⟨h1,h2⟩:=List.nodup_cons.1 hn
  rw [List.map_cons,List.flatten_cons,totL_append,totL_levels side price l ps h2,lotsAtP,sumOf_filter,← sumOf_orF]
  ·refine sumOf_congr l fun x _=>?_
   rw [List.contains_cons]
   cases mayT side price x<;>simp
  ·intro x hx
   simp only [Bool.and_eq_true,beq_iff_eq] at hx
   rw [hx.2]
   simp [h1]
theorem levels_total (side price:Int) (l:List Lot):totL (levelsL side price l).flatten=sumOf (mayT side price) l:=by
 rw [levels_q,totL_levels]
 ·refine sumOf_congr l fun x hx=>?_
  cases hm:mayT side price x
  ·rfl
  ·simp only [Bool.true_and,List.contains_iff_mem]
   exact mem_levQ.2 ⟨x,hx,hm,rfl⟩
 ·exact (levQ_pair side price l).imp fun h e=>by subst e;omega
theorem may_dem (price:Int) (l:List Lot):sumOf (mayT 0 price) l=dem l price:=sumOf_congr l fun x _=>by
 unfold mayT isDem
 refine Bool.eq_iff_iff.2 ?_
 simp only [Bool.and_eq_true,Bool.not_eq_true',Bool.and_eq_false_iff,beq_iff_eq,beq_eq_false_iff_ne,decide_eq_true_eq,decide_eq_false_iff_not]
 omega
theorem may_sup (price:Int) (l:List Lot):sumOf (mayT 1 price) l=sup l price:=sumOf_congr l fun x _=>by
 unfold mayT isSup
 refine Bool.eq_iff_iff.2 ?_
 simp only [Bool.and_eq_true,Bool.not_eq_true',Bool.and_eq_false_iff,beq_iff_eq,beq_eq_false_iff_ne,decide_eq_true_eq,decide_eq_false_iff_not]
 omega
/- both sides -/
theorem side_none {l:List Lot} {side price m s:Int} (ha:IdsApart l) {x:Lot} (hx:x∈l) (hm:mayT side price x=false):gotF (sideF (levelsL side price l) m s) x.id=0 :=
 sideF_none fun y hy e=>by
  obtain ⟨h1,h2⟩:=levels_mem.1 hy
  have:=ha.eq h1 hx e
  subst this
  rw [hm] at h2
  cases h2
theorem may_side {side price:Int} {x:Lot} (h:mayT side price x=true):x.side=side:=by
 unfold mayT at h
 simp only [Bool.and_eq_true,beq_iff_eq] at h
 exact h.1.1
theorem may_other {side price:Int} {x:Lot} (h:x.side≠side):mayT side price x=false:=by
 cases hm:mayT side price x
 ·rfl
 ·exact absurd (may_side hm) h
theorem got_side0 {l:List Lot} (ha:IdsApart l) (price volume seed:Int) {x:Lot} (hx:x∈l) (hs:x.side=0):gotF (fillsL l price volume seed) x.id=gotF (sideF (levelsL 0 price l) volume seed) x.id:=by
 rw [fillsL,gotF_append,side_none (side:=1) ha hx (may_other (by omega))];omega
theorem got_side1 {l:List Lot} (ha:IdsApart l) (price volume seed:Int) {x:Lot} (hx:x∈l) (hs:x.side=1):gotF (fillsL l price volume seed) x.id=gotF (sideF (levelsL 1 price l) volume ((seed+1) % 4294967296)) x.id:=by
 rw [fillsL,gotF_append,side_none (side:=0) ha hx (may_other (by omega))];omega
def sumG (g:Lot→Int) (s:Int):List Lot→Int
 | []=>0
 | x::r=>(if x.side=s then g x else 0)+sumG g s r
theorem sumG_congr {g h:Lot→Int} {s:Int}:∀ (l:List Lot),(∀ x∈l,x.side=s→g x=h x)→sumG g s l=sumG h s l
 | [],_=>rfl
 | x::l,k=>by
  simp only [sumG,sumG_congr l fun y hy=>k y (by simp [hy])]
  split
  ·rename_i e;rw [k x (by simp) e]
  ·rfl
theorem sumG_add (g h:Lot→Int) (s:Int):∀ l:List Lot,sumG (fun x=>g x+h x) s l=sumG g s l+sumG h s l
 | []=>rfl
 | x::l=>by
  simp only [sumG,sumG_add g h s l]
  split<;>omega
theorem sumG_zero (s:Int):∀ l:List Lot,sumG (fun _=>0) s l=0
 | []=>rfl
 | x::l=>by simp only [sumG,sumG_zero s l];split<;>rfl
theorem sumG_one {l:List Lot} {s id q:Int} (ha:IdsApart l) (h:∃ x∈l,x.id=id∧x.side=s):sumG (fun x=>if id=x.id then q else 0) s l=q:=by
 induction l with
 | nil=>obtain ⟨x,hx,_⟩:=h;cases hx
 | cons y l ih =>
  obtain ⟨h1,h2⟩:=List.pairwise_cons.1 ha
  obtain ⟨x,hx,rfl,rfl⟩:=h
  rcases List.mem_cons.1 hx with e|hx2
  ·subst e
   simp only [sumG,if_true]
   rw [sumG_congr (h:=fun _=>0) l (fun z hz _=>if_neg (h1 z hz)),sumG_zero]
   omega
  ·simp only [sumG]
   rw [ih h2 ⟨x,hx2,rfl,rfl⟩,if_neg (fun e:x.id=y.id=>h1 x hx2 e.symm)]
   split<;>omega
theorem sumG_got {l:List Lot} {s:Int} (ha:IdsApart l):∀ F:List Fil,(∀ f∈F,∃ x∈l,x.id=f.id∧x.side=s)→sumG (fun x=>gotF F x.id) s l=qtyF F
 | [],_=>by simp only [gotF];exact sumG_zero s l
 | f::F,h=>by
  simp only [gotF,qtyF]
  rw [sumG_add,sumG_one ha (h f (by simp)),sumG_got ha F fun g hg=>h g (by simp [hg])]
structure Fair (l:List Lot) (price volume:Int) (F:List Fil):Prop where
 qty:∀ f∈F,1≤f.qty∧f.qty≤1000
 bd:∀ x∈l,0≤gotF F x.id∧gotF F x.id≤x.qty
 worse:∀ x∈l,mayT x.side price x=false→gotF F x.id=0
 best:∀ x∈l,∀ y∈l,y.side=x.side→betterL x.side y x→0<gotF F x.id→gotF F y.id=y.qty
 sum0:sumG (fun x=>gotF F x.id) 0 l=volume
 sum1:sumG (fun x=>gotF F x.id) 1 l=volume
theorem lot_side {x:Lot} (h:x.ok=true):x.side=0∨x.side=1:=by have:=(Lot.ok_iff.1 h).2.2.1;omega
theorem fills_fair {l:List Lot} {price volume seed:Int} (hok:LotsOk l) (v0:0≤volume) (hv:volume≤min (dem l price) (sup l price)):Fair l price volume (fillsL l price volume seed):=by
 have ha:=hok.apart
 have hq:∀ side,∀ x∈(levelsL side price l).flatten,1≤x.qty:=fun side x hx=>(Lot.ok_iff.1 (hok.mem x (levels_mem.1 hx).1)).2.2.2.2.1
 have b0:=sideF_bd (levelsL 0 price l) volume seed v0 (levels_apart ha) (hq 0)
 have b1:=sideF_bd (levelsL 1 price l) volume ((seed+1) % 4294967296) v0 (levels_apart ha) (hq 1)
 have e0:=sideF_best (betterL 0) (levelsL 0 price l) volume seed v0 (levels_apart ha) (hq 0) levels_best1 levels_best2
 have e1:=sideF_best (betterL 1) (levelsL 1 price l) volume ((seed+1) % 4294967296) v0 (levels_apart ha) (hq 1) levels_best1 levels_best2
 rw [levels_total,may_dem] at b0
 rw [levels_total,may_sup] at b1
 have worse:∀ x∈l,mayT x.side price x=false→gotF (fillsL l price volume seed) x.id=0:=fun x hx hm=>by
  rcases lot_side (hok.mem x hx) with hs|hs
  ·rw [got_side0 ha _ _ _ hx hs];rw [hs] at hm;exact side_none ha hx hm
  ·rw [got_side1 ha _ _ _ hx hs];rw [hs] at hm;exact side_none ha hx hm
 refine ⟨fun f hf=>?_,fun x hx=>?_,worse,fun x hx y hy hys hb hg=>?_,?_,?_⟩
 ·rcases List.mem_append.1 hf with hf|hf
  ·obtain ⟨h1,x,hx,_,h2⟩:=sideF_ids _ _ _ f hf
   have:=(Lot.ok_iff.1 (hok.mem x (levels_mem.1 hx).1)).2.2.2.2.2
   omega
  ·obtain ⟨h1,x,hx,_,h2⟩:=sideF_ids _ _ _ f hf
   have:=(Lot.ok_iff.1 (hok.mem x (levels_mem.1 hx).1)).2.2.2.2.2
   omega
 ·cases hm:mayT x.side price x
  ·rw [worse x hx hm]
   have:=(Lot.ok_iff.1 (hok.mem x hx)).2.2.2.2
   omega
  ·rcases lot_side (hok.mem x hx) with hs|hs
   ·rw [got_side0 ha _ _ _ hx hs];rw [hs] at hm;exact b0.1 x (levels_mem.2 ⟨hx,hm⟩)
   ·rw [got_side1 ha _ _ _ hx hs];rw [hs] at hm;exact b1.1 x (levels_mem.2 ⟨hx,hm⟩)
 ·cases hm:mayT x.side price x
  ·rw [worse x hx hm] at hg;omega
  ·rcases lot_side (hok.mem x hx) with hs|hs
   ·have hm2:mayT 0 price y=true:=by
     rw [hs] at hm hb hys
     unfold betterL at hb
     unfold mayT at hm ⊢
     simp [hs,hys] at hm ⊢
     omega
    rw [got_side0 ha _ _ _ hy (by omega)]
    rw [got_side0 ha _ _ _ hx hs] at hg
    rw [hs] at hb hm
    exact e0 x (levels_mem.2 ⟨hx,hm⟩) y (levels_mem.2 ⟨hy,hm2⟩) hb hg
   ·have hm2:mayT 1 price y=true:=by
     rw [hs] at hm hb hys
     unfold betterL at hb
     unfold mayT at hm ⊢
     simp [hs,hys] at hm ⊢
     omega
    rw [got_side1 ha _ _ _ hy (by omega)]
    rw [got_side1 ha _ _ _ hx hs] at hg
    rw [hs] at hb hm
    exact e1 x (levels_mem.2 ⟨hx,hm⟩) y (levels_mem.2 ⟨hy,hm2⟩) hb hg
 ·rw [sumG_congr (h:=fun x=>gotF (sideF (levelsL 0 price l) volume seed) x.id) l (fun x hx hs=>got_side0 ha _ _ _ hx hs),sumG_got ha _ (fun f hf=>?_),b0.2]
  ·omega
  ·obtain ⟨_,x,hx,hi,_⟩:=sideF_ids _ _ _ f hf
   exact ⟨x,(levels_mem.1 hx).1,hi,may_side (levels_mem.1 hx).2⟩
 ·rw [sumG_congr (h:=fun x=>gotF (sideF (levelsL 1 price l) volume ((seed+1) % 4294967296)) x.id) l (fun x hx hs=>got_side1 ha _ _ _ hx hs),sumG_got ha _ (fun f hf=>?_),b1.2]
  ·omega
  ·obtain ⟨_,x,hx,hi,_⟩:=sideF_ids _ _ _ f hf
   exact ⟨x,(levels_mem.1 hx).1,hi,may_side (levels_mem.1 hx).2⟩
end Go.Proofs.YtabbgpjofkaomaaGreatDoor
