import Derived.Test.YtabbgpjofkaomaaGreatDoorJ16
import Derived.Test.YtabbgpjofkaomaaGreatDoorJ14
/- Plain facts: who gets how much is fair, and a seed parts at most one level of a side. -/
set_option linter.unusedSimpArgs false
set_option linter.unusedVariables false
namespace Go.Proofs.YtabbgpjofkaomaaGreatDoor
open Go.RowKit
def gotF:List Fil→Int→Int
  | [],_=>0
  | f::x,id=>(if f.id=id then f.qty else 0)+gotF x id
theorem gotF_append (a b:List Fil) (id:Int):gotF (a++b) id=gotF a id+gotF b id:=by
  induction a with
  | nil=>simp [gotF]
  | cons f a ih=>simp only [List.cons_append,gotF,ih];omega
theorem gotF_none {x:List Fil} {id:Int} (h:∀ f∈x,f.id≠id):gotF x id=0:=by
  induction x with
  | nil=>rfl
  | cons f x ih=>simp only [gotF,if_neg (h f (by simp)),ih (fun g hg=>h g (by simp [hg]))];rfl
def qtyF:List Fil→Int
  | []=>0
  | f::x=>f.qty+qtyF x
theorem qtyF_append (a b:List Fil):qtyF (a++b)=qtyF a+qtyF b:=by
  induction a with
  | nil=>simp [qtyF]
  | cons f a ih=>simp only [List.cons_append,qtyF,ih];omega
theorem totL_cons (x:Lot) (l:List Lot):totL (x::l)=x.qty+totL l:=by simp [totL,sumOf]
theorem totL_append (a b:List Lot):totL (a++b)=totL a+totL b:=sumOf_append _ a b
theorem totL_nonneg {l:List Lot} (h:∀ x∈l,1≤x.qty):0≤totL l:=by
  induction l with
  | nil=>exact Int.le_refl _
  | cons x l ih=>rw [totL_cons];have:=h x (by simp);have:=ih (fun y hy=>h y (by simp [hy]));omega
theorem totL_perm {a b:List Lot} (h:a.Perm b):totL a=totL b:=by
  induction h with
  | nil=>rfl
  | cons x _ ih=>rw [totL_cons,totL_cons,ih]
  | swap x y l=>simp only [totL_cons];omega
  | trans _ _ h1 h2=>rw [h1,h2]
def IdsApart (l:List Lot):Prop:=l.Pairwise fun x y=>x.id≠y.id
theorem IdsApart.eq {l:List Lot} (h:IdsApart l):∀ {x y:Lot},x∈l→y∈l→x.id=y.id→x=y:=by
  induction l with
  | nil=>intro x y hx;cases hx
  | cons z l ih =>
    obtain ⟨h1,h2⟩:=List.pairwise_cons.1 h
    intro x y hx hy e
    rcases List.mem_cons.1 hx with ex|hx2<;>rcases List.mem_cons.1 hy with ey|hy2
    · rw [ex,ey]
    · exact absurd (ex▸e) (h1 y hy2)
    · exact absurd (ey▸e.symm) (h1 x hx2)
    · exact ih h2 hx2 hy2 e
theorem LotsOk.apart {l:List Lot} (h:LotsOk l):IdsApart l:=by
  refine List.pairwise_iff_getElem.2 fun i j hi hj hij e=>?_
  have hc:=h.2 j hj
  have hg:l[j]?=some l[j]:=List.getElem?_eq_getElem hj
  rw [codeAt_at hg,if_pos (h.ok hg)] at hc
  have:(l.take j).any (fun y=>y.id==(l[j]).id)=true:=by
    rw [List.any_eq_true]
    refine ⟨l[i],?_,by simpa using e⟩
    have:(l.take j)[i]'(by simp;omega)=l[i]:=by simp
    rw [← this]
    exact List.getElem_mem _
  rw [if_pos this] at hc
  cases hc
/- what some lots get,one after another -/
theorem takeF_ids:∀ (l:List Lot) (m:Int),∀ f∈(takeF l m).1,1≤f.qty∧∃ x∈l,x.id=f.id∧f.qty≤x.qty
  | [],_,f,h=>by simp [takeF] at h
  | x::l,m,f,h=>by
    simp only [takeF] at h
    split at h
    · rcases List.mem_cons.1 h with rfl|h
      · exact ⟨by simp only;omega,x,by simp,rfl,by simp only;omega⟩
      · obtain ⟨h1,y,hy,h2⟩:=takeF_ids l _ f h
        exact ⟨h1,y,by simp [hy],h2⟩
    · obtain ⟨h1,y,hy,h2⟩:=takeF_ids l _ f h
      exact ⟨h1,y,by simp [hy],h2⟩
theorem takeF_none {l:List Lot} {m:Int} {id:Int} (h:∀ x∈l,x.id≠id):gotF (takeF l m).1 id=0 :=
  gotF_none fun f hf e=>by
    obtain ⟨_,x,hx,hi,_⟩:=takeF_ids l m f hf
    exact h x hx (hi.trans e)
theorem takeF_got:∀ (l:List Lot) (m:Int),0≤m→IdsApart l→(∀ x∈l,1≤x.qty) →
    (∀ x∈l,0≤gotF (takeF l m).1 x.id∧gotF (takeF l m).1 x.id≤x.qty)∧(totL l≤m→∀ x∈l,gotF (takeF l m).1 x.id=x.qty)∧(takeF l m).2=max (m - totL l) 0∧qtyF (takeF l m).1=m - (takeF l m).2
  | [],m,h0,_,_=>by
    refine ⟨fun x hx=>by simp at hx,fun _ x hx=>by simp at hx,?_,?_⟩
    · simp only [takeF,totL,sumOf];omega
    · simp only [takeF,qtyF];omega
  | x::l,m,h0,ha,hq=>by
    obtain ⟨h1,h2⟩:=List.pairwise_cons.1 ha
    have hx:=hq x (by simp)
    have hqs:=fun y hy=>hq y (List.mem_cons_of_mem x hy)
    have hn:=totL_nonneg hqs
    have hno:∀ m,gotF (takeF l m).1 x.id=0:=fun m=>takeF_none fun y hy e=>h1 y hy e.symm
    simp only [takeF,totL_cons]
    split
    · obtain ⟨i1,i2,i3,i4⟩:=takeF_got l (m - min x.qty m) (by omega) h2 hqs
      have hd:∀ y∈l,gotF ((⟨x.id,min x.qty m⟩:Fil)::(takeF l (m - min x.qty m)).1) y.id=gotF (takeF l (m - min x.qty m)).1 y.id:=fun y hy=>by
        simp only [gotF,if_neg (h1 y hy)];omega
      have hh:gotF ((⟨x.id,min x.qty m⟩:Fil)::(takeF l (m - min x.qty m)).1) x.id=min x.qty m:=by
        simp only [gotF,hno,if_true];omega
      refine ⟨fun y hy=>?_,fun ht y hy=>?_,?_,?_⟩
      · rcases List.mem_cons.1 hy with rfl|hy
        · rw [hh];omega
        · rw [hd y hy];exact i1 y hy
      · rcases List.mem_cons.1 hy with rfl|hy
        · rw [hh];omega
        · rw [hd y hy];exact i2 (by omega) y hy
      · simp only;rw [i3];omega
      · simp only [qtyF];omega
    · obtain ⟨i1,i2,i3,i4⟩:=takeF_got l m h0 h2 hqs
      refine ⟨fun y hy=>?_,fun ht y hy=>?_,?_,?_⟩
      · rcases List.mem_cons.1 hy with rfl|hy
        · rw [hno];omega
        · exact i1 y hy
      · omega
      · rw [i3];omega
      · exact i4
/- a turn keeps the lots -/
theorem swp_perm {L:List Int} {i k:Nat} (hi:i<L.length) (hk:k<L.length):(swp L i k).Perm L:=by
  unfold swp
  rw [List.getD_eq_getElem?_getD,List.getD_eq_getElem?_getD,List.getElem?_eq_getElem hi,List.getElem?_eq_getElem hk]
  exact List.set_set_perm hi hk
theorem shufF_perm:∀ (i:Nat) (L:List Int) (s:Int),i<L.length→(shufF i L s).Perm L
  | 0,L,_,_=>List.Perm.refl L
  | i+1,L,s,hi=>by
    have e:=Int.emod_nonneg (nxt s) (show (i:Int)+2≠0 by omega)
    have e':=Int.emod_lt_of_pos (nxt s) (show 0<(i:Int)+2 by omega)
    simp only [shufF]
    exact (shufF_perm i _ _ (by rw [swp_len];omega)).trans (swp_perm hi (by omega))
theorem shufL_perm (n:Nat) (s:Int):(shufL n s).Perm (rangeI n):=by
  by_cases h:n=0
  · subst h;exact List.Perm.refl _
  · exact shufF_perm _ _ _ (by rw [rangeI_len];omega)
theorem turnL_perm (l:List Lot) (s:Int):(turnL l s).Perm l:=by
  have h:=(shufL_perm l.length s).map fun k=>l.getD k.toNat lot0
  refine h.trans (List.Perm.of_eq ?_)
  refine List.ext_getElem (by simp [rangeI]) fun i h1 h2=>?_
  simp [rangeI,List.getElem?_eq_getElem h2]
theorem servL_perm (l:List Lot) (m s:Int):(servL l m s).Perm l:=by
  unfold servL
  split
  · exact turnL_perm l s
  · exact List.Perm.refl l
/- a side -/
theorem sideF_cons (lv:List Lot) (r:List (List Lot)) (m s:Int):sideF (lv::r) m s=(takeF (servL lv m s) m).1++sideF r (takeF (servL lv m s) m).2 s:=by
  rw [sideF]
  split
  · rename_i h;rw [h,sideF_zero,List.append_nil]
  · rfl
theorem sideF_ids:∀ (L:List (List Lot)) (m s:Int),∀ f∈sideF L m s,1≤f.qty∧∃ x∈L.flatten,x.id=f.id∧f.qty≤x.qty
  | [],_,_,f,h=>by simp [sideF] at h
  | lv::r,m,s,f,h=>by
    rw [sideF_cons] at h
    rcases List.mem_append.1 h with h|h
    · obtain ⟨h1,x,hx,h2⟩:=takeF_ids _ _ f h
      exact ⟨h1,x,by simp [(servL_perm lv m s).mem_iff.1 hx],h2⟩
    · obtain ⟨h1,x,hx,h2⟩:=sideF_ids r _ s f h
      exact ⟨h1,x,by rw [List.flatten_cons];exact List.mem_append_right _ hx,h2⟩
theorem sideF_none {L:List (List Lot)} {m s id:Int} (h:∀ x∈L.flatten,x.id≠id):gotF (sideF L m s) id=0 :=
  gotF_none fun f hf e=>by
    obtain ⟨_,x,hx,hi,_⟩:=sideF_ids L m s f hf
    exact h x hx (hi.trans e)
theorem serv_facts {lv:List Lot} {m s:Int} (h0:0≤m) (ha:IdsApart lv) (hq:∀ x∈lv,1≤x.qty) :
    (∀ x∈lv,0≤gotF (takeF (servL lv m s) m).1 x.id∧gotF (takeF (servL lv m s) m).1 x.id≤x.qty)∧(totL lv≤m→∀ x∈lv,gotF (takeF (servL lv m s) m).1 x.id=x.qty)∧(takeF (servL lv m s) m).2=max (m - totL lv) 0∧qtyF (takeF (servL lv m s) m).1=m - (takeF (servL lv m s) m).2:=by
  have hp:=servL_perm lv m s
  have ha2:IdsApart (servL lv m s):=(List.Perm.pairwise_iff (fun h e=>h e.symm) hp).2 ha
  obtain ⟨h1,h2,h3,h4⟩:=takeF_got (servL lv m s) m h0 ha2 (fun x hx=>hq x (hp.mem_iff.1 hx))
  rw [totL_perm hp] at h2 h3
  exact ⟨fun x hx=>h1 x (hp.mem_iff.2 hx),fun ht x hx=>h2 ht x (hp.mem_iff.2 hx),h3,h4⟩
theorem apart_cons {lv:List Lot} {r:List (List Lot)} (h:IdsApart (lv::r).flatten):IdsApart lv∧IdsApart r.flatten∧∀ x∈lv,∀ y∈r.flatten,x.id≠y.id:=by
  rw [List.flatten_cons] at h
  exact List.pairwise_append.1 h
theorem got_head {lv:List Lot} {r:List (List Lot)} {m s:Int} (h:IdsApart (lv::r).flatten) {x:Lot} (hx:x∈lv):gotF (sideF (lv::r) m s) x.id=gotF (takeF (servL lv m s) m).1 x.id:=by
  rw [sideF_cons,gotF_append,sideF_none (L:=r) (fun y hy e=>(apart_cons h).2.2 x hx y hy e.symm)];omega
theorem got_rest {lv:List Lot} {r:List (List Lot)} {m s:Int} (h:IdsApart (lv::r).flatten) {x:Lot} (hx:x∈r.flatten):gotF (sideF (lv::r) m s) x.id=gotF (sideF r (takeF (servL lv m s) m).2 s) x.id:=by
  rw [sideF_cons,gotF_append,takeF_none (fun y hy=>(apart_cons h).2.2 y ((servL_perm lv m s).mem_iff.1 hy) x hx)];omega
theorem sideF_bd:∀ (L:List (List Lot)) (m s:Int),0≤m→IdsApart L.flatten→(∀ x∈L.flatten,1≤x.qty) →
    (∀ x∈L.flatten,0≤gotF (sideF L m s) x.id∧gotF (sideF L m s) x.id≤x.qty)∧qtyF (sideF L m s)=min m (totL L.flatten)
  | [],m,s,h0,_,_=>by
    refine ⟨fun x hx=>by simp at hx,?_⟩
    simp only [sideF,qtyF,List.flatten_nil,totL,sumOf]
    omega
  | lv::r,m,s,h0,ha,hq=>by
    have hq1:∀ x∈lv,1≤x.qty:=fun x hx=>hq x (by simp [hx])
    have hq2:∀ x∈r.flatten,1≤x.qty:=fun x hx=>hq x (by rw [List.flatten_cons];exact List.mem_append_right _ hx)
    obtain ⟨f1,f2,f3,f4⟩:=serv_facts (m:=m) (s:=s) h0 (apart_cons ha).1 hq1
    obtain ⟨i1,i2⟩:=sideF_bd r (takeF (servL lv m s) m).2 s (by omega) (apart_cons ha).2.1 hq2
    have:=totL_nonneg hq1
    have:=totL_nonneg hq2
    refine ⟨fun x hx=>?_,?_⟩
    · rw [List.flatten_cons] at hx
      rcases List.mem_append.1 hx with hx|hx
      · rw [got_head ha hx];exact f1 x hx
      · rw [got_rest ha hx];exact i1 x hx
    · rw [sideF_cons,qtyF_append,i2,f4,List.flatten_cons,totL_append,f3]
      omega
theorem sideF_best (better:Lot→Lot→Prop):∀ (L:List (List Lot)) (m s:Int),0≤m→IdsApart L.flatten→(∀ x∈L.flatten,1≤x.qty) →
    (∀ lv∈L,∀ x∈lv,∀ y∈lv,¬ better y x)→L.Pairwise (fun a b=>∀ x∈a,∀ y∈b,¬ better y x) →
    ∀ x∈L.flatten,∀ y∈L.flatten,better y x→0<gotF (sideF L m s) x.id→gotF (sideF L m s) y.id=y.qty
  | [],m,s,_,_,_,_,_,x,hx,_,_=>by simp at hx
  | lv::r,m,s,h0,ha,hq,hb1,hb2,x,hx,y,hy=>by
    intro hb hg
    have hq1:∀ x∈lv,1≤x.qty:=fun x hx=>hq x (by simp [hx])
    have hq2:∀ x∈r.flatten,1≤x.qty:=fun x hx=>hq x (by rw [List.flatten_cons];exact List.mem_append_right _ hx)
    obtain ⟨f1,f2,f3,f4⟩:=serv_facts (m:=m) (s:=s) h0 (apart_cons ha).1 hq1
    obtain ⟨p1,p2⟩:=List.pairwise_cons.1 hb2
    rw [List.flatten_cons] at hx hy
    rcases List.mem_append.1 hx with hx|hx<;>rcases List.mem_append.1 hy with hy|hy
    · exact absurd hb (hb1 lv (by simp) x hx y hy)
    · obtain ⟨b,hbm,hyb⟩:=List.mem_flatten.1 hy
      exact absurd hb (p1 b hbm x hx y hyb)
    · rw [got_head ha hy]
      rw [got_rest ha hx] at hg
      refine f2 ?_ y hy
      refine Classical.byContradiction fun hn=>?_
      have h2:(takeF (servL lv m s) m).2=0:=by omega
      rw [h2,sideF_zero] at hg
      simp [gotF] at hg
    · rw [got_rest ha hy]
      rw [got_rest ha hx] at hg
      exact sideF_best better r _ s (by omega) (apart_cons ha).2.1 hq2 (fun lv h=>hb1 lv (by simp [h])) p2 x hx y hy hb hg
end Go.Proofs.YtabbgpjofkaomaaGreatDoor

/- Plain facts: what the lots of both sides get. -/
set_option linter.unusedSimpArgs false
set_option linter.unusedVariables false
namespace Go.Proofs.YtabbgpjofkaomaaGreatDoor
open Go.RowKit
def levQ (side price:Int) (l:List Lot):List Int:=if side=0 then (levP side price l).reverse else levP side price l
theorem levels_q (side price:Int) (l:List Lot):levelsL side price l=(levQ side price l).map fun p=>lotsAtP side price p l:=rfl
theorem mem_levQ {side price p:Int} {l:List Lot}:p∈levQ side price l↔∃ x∈l,mayT side price x=true∧x.price=p:=by
  have h:p∈levQ side price l↔p∈levP side price l:=by unfold levQ;split<;>simp
  rw [h,levP,(pricesL_spec _).1]
  constructor
  · rintro ⟨x,hx,e⟩
    rw [List.mem_filter] at hx
    exact ⟨x,hx.1,hx.2,e⟩
  · rintro ⟨x,hx,hm,e⟩
    exact ⟨x,List.mem_filter.2 ⟨hx,hm⟩,e⟩
theorem levQ_pair (side price:Int) (l:List Lot):(levQ side price l).Pairwise fun p q=>(side=0∧q<p)∨(side≠0∧p<q):=by
  have h:=(pricesL_spec (l.filter (mayT side price))).2
  unfold levQ
  split
  · rename_i e
    rw [List.pairwise_reverse]
    exact h.imp fun hk=>.inl ⟨e,hk⟩
  · rename_i e
    exact h.imp fun hk=>.inr ⟨e,hk⟩
theorem levels_mem {side price:Int} {l:List Lot} {x:Lot}:x∈(levelsL side price l).flatten↔x∈l∧mayT side price x=true:=by
  rw [levels_q,List.mem_flatten]
  constructor
  · rintro ⟨lv,hlv,hx⟩
    obtain ⟨p,_,rfl⟩:=List.mem_map.1 hlv
    have:=lotsAtP_mem hx
    exact ⟨this.1,this.2.1⟩
  · rintro ⟨hx,hm⟩
    refine ⟨_,List.mem_map.2 ⟨x.price,mem_levQ.2 ⟨x,hx,hm,rfl⟩,rfl⟩,?_⟩
    simp [lotsAtP,hx,hm]
theorem levels_apart {side price:Int} {l:List Lot} (h:IdsApart l):IdsApart (levelsL side price l).flatten:=by
  refine List.pairwise_flatten.2 ⟨fun lv hlv=>?_,?_⟩
  · obtain ⟨p,rfl⟩:=levelsL_mem lv hlv
    exact List.Pairwise.sublist List.filter_sublist h
  · rw [levels_q,List.pairwise_map]
    refine (levQ_pair side price l).imp fun hpq x hx y hy e=>?_
    obtain ⟨h1,_,h2⟩:=lotsAtP_mem hx
    obtain ⟨h3,_,h4⟩:=lotsAtP_mem hy
    have:=h.eq h1 h3 e
    subst this
    omega
def betterL (side:Int) (y x:Lot):Prop:=(side=0∧x.price<y.price)∨(side≠0∧y.price<x.price)
theorem levels_best1 {side price:Int} {l:List Lot}:∀ lv∈levelsL side price l,∀ x∈lv,∀ y∈lv,¬ betterL side y x:=fun lv hlv x hx y hy hb=>by
  obtain ⟨p,rfl⟩:=levelsL_mem lv hlv
  have h1:=(lotsAtP_mem hx).2.2
  have h2:=(lotsAtP_mem hy).2.2
  unfold betterL at hb
  omega
theorem levels_best2 {side price:Int} {l:List Lot}:(levelsL side price l).Pairwise fun a b=>∀ x∈a,∀ y∈b,¬ betterL side y x:=by
  rw [levels_q,List.pairwise_map]
  refine (levQ_pair side price l).imp fun hpq x hx y hy hb=>?_
  have h1:=(lotsAtP_mem hx).2.2
  have h2:=(lotsAtP_mem hy).2.2
  unfold betterL at hb
  omega
theorem sumOf_filter (f:Lot→Bool) (l:List Lot):totL (l.filter f)=sumOf f l:=by
  induction l with
  | nil=>rfl
  | cons x l ih =>
    rw [List.filter_cons]
    cases hf:f x<;>simp [totL_cons,sumOf,hf,ih]
theorem sumOf_orF {f g:Lot→Bool} (h:∀ x,f x=true→g x=false):∀ l:List Lot,sumOf (fun x=>f x || g x) l=sumOf f l+sumOf g l
  | []=>rfl
  | x::l=>by
    have ih:=sumOf_orF h l
    have key:∀ (a b:Bool) (q s t:Int),(a=true→b=false)→(if (a || b)=true then q else 0)+(s+t)=(if a=true then q else 0)+s+((if b=true then q else 0)+t):=by
      intro a b q s t k
      cases a<;>cases b<;>simp at k ⊢<;>omega
    simp only [sumOf,ih]
    exact key _ _ _ _ _ (h x)
theorem sumOf_noneF (l:List Lot):sumOf (fun _=>false) l=0:=by
  induction l with
  | nil=>rfl
  | cons x l ih=>simp [sumOf,ih]
theorem totL_levels (side price:Int) (l:List Lot):∀ ps:List Int,ps.Nodup→totL ((ps.map fun p=>lotsAtP side price p l).flatten)=sumOf (fun x=>mayT side price x && ps.contains x.price) l
  | [],_=>by
    rw [sumOf_congr l (js:=fun _=>false) (fun x _=>by simp),sumOf_noneF];rfl
  | p::ps,hn=>by
    obtain ⟨h1,h2⟩:=List.nodup_cons.1 hn
    rw [List.map_cons,List.flatten_cons,totL_append,totL_levels side price l ps h2,lotsAtP,sumOf_filter,← sumOf_orF]
    · refine sumOf_congr l fun x _=>?_
      rw [List.contains_cons]
      cases mayT side price x<;>simp
    · intro x hx
      simp only [Bool.and_eq_true,beq_iff_eq] at hx
      rw [hx.2]
      simp [h1]
theorem levels_total (side price:Int) (l:List Lot):totL (levelsL side price l).flatten=sumOf (mayT side price) l:=by
  rw [levels_q,totL_levels]
  · refine sumOf_congr l fun x hx=>?_
    cases hm:mayT side price x
    · rfl
    · simp only [Bool.true_and,List.contains_iff_mem]
      exact mem_levQ.2 ⟨x,hx,hm,rfl⟩
  · exact (levQ_pair side price l).imp fun h e=>by subst e;omega
theorem may_dem (price:Int) (l:List Lot):sumOf (mayT 0 price) l=dem l price:=sumOf_congr l fun x _=>by
  unfold mayT isDem
  refine Bool.eq_iff_iff.2 ?_
  simp only [Bool.and_eq_true,Bool.not_eq_true',Bool.and_eq_false_iff,beq_iff_eq,beq_eq_false_iff_ne,decide_eq_true_eq,decide_eq_false_iff_not]
  omega
theorem may_sup (price:Int) (l:List Lot):sumOf (mayT 1 price) l=sup l price:=sumOf_congr l fun x _=>by
  unfold mayT isSup
  refine Bool.eq_iff_iff.2 ?_
  simp only [Bool.and_eq_true,Bool.not_eq_true',Bool.and_eq_false_iff,beq_iff_eq,beq_eq_false_iff_ne,decide_eq_true_eq,decide_eq_false_iff_not]
  omega
/- both sides -/
theorem side_none {l:List Lot} {side price m s:Int} (ha:IdsApart l) {x:Lot} (hx:x∈l) (hm:mayT side price x=false):gotF (sideF (levelsL side price l) m s) x.id=0 :=
  sideF_none fun y hy e=>by
    obtain ⟨h1,h2⟩:=levels_mem.1 hy
    have:=ha.eq h1 hx e
    subst this
    rw [hm] at h2
    cases h2
theorem may_side {side price:Int} {x:Lot} (h:mayT side price x=true):x.side=side:=by
  unfold mayT at h
  simp only [Bool.and_eq_true,beq_iff_eq] at h
  exact h.1.1
theorem may_other {side price:Int} {x:Lot} (h:x.side≠side):mayT side price x=false:=by
  cases hm:mayT side price x
  · rfl
  · exact absurd (may_side hm) h
theorem got_side0 {l:List Lot} (ha:IdsApart l) (price volume seed:Int) {x:Lot} (hx:x∈l) (hs:x.side=0):gotF (fillsL l price volume seed) x.id=gotF (sideF (levelsL 0 price l) volume seed) x.id:=by
  rw [fillsL,gotF_append,side_none (side:=1) ha hx (may_other (by omega))];omega
theorem got_side1 {l:List Lot} (ha:IdsApart l) (price volume seed:Int) {x:Lot} (hx:x∈l) (hs:x.side=1):gotF (fillsL l price volume seed) x.id=gotF (sideF (levelsL 1 price l) volume ((seed+1) % 4294967296)) x.id:=by
  rw [fillsL,gotF_append,side_none (side:=0) ha hx (may_other (by omega))];omega
def sumG (g:Lot→Int) (s:Int):List Lot→Int
  | []=>0
  | x::r=>(if x.side=s then g x else 0)+sumG g s r
theorem sumG_congr {g h:Lot→Int} {s:Int}:∀ (l:List Lot),(∀ x∈l,x.side=s→g x=h x)→sumG g s l=sumG h s l
  | [],_=>rfl
  | x::l,k=>by
    simp only [sumG,sumG_congr l fun y hy=>k y (by simp [hy])]
    split
    · rename_i e;rw [k x (by simp) e]
    · rfl
theorem sumG_add (g h:Lot→Int) (s:Int):∀ l:List Lot,sumG (fun x=>g x+h x) s l=sumG g s l+sumG h s l
  | []=>rfl
  | x::l=>by
    simp only [sumG,sumG_add g h s l]
    split<;>omega
theorem sumG_zero (s:Int):∀ l:List Lot,sumG (fun _=>0) s l=0
  | []=>rfl
  | x::l=>by simp only [sumG,sumG_zero s l];split<;>rfl
theorem sumG_one {l:List Lot} {s id q:Int} (ha:IdsApart l) (h:∃ x∈l,x.id=id∧x.side=s):sumG (fun x=>if id=x.id then q else 0) s l=q:=by
  induction l with
  | nil=>obtain ⟨x,hx,_⟩:=h;cases hx
  | cons y l ih =>
    obtain ⟨h1,h2⟩:=List.pairwise_cons.1 ha
    obtain ⟨x,hx,rfl,rfl⟩:=h
    rcases List.mem_cons.1 hx with e|hx2
    · subst e
      simp only [sumG,if_true]
      rw [sumG_congr (h:=fun _=>0) l (fun z hz _=>if_neg (h1 z hz)),sumG_zero]
      omega
    · simp only [sumG]
      rw [ih h2 ⟨x,hx2,rfl,rfl⟩,if_neg (fun e:x.id=y.id=>h1 x hx2 e.symm)]
      split<;>omega
theorem sumG_got {l:List Lot} {s:Int} (ha:IdsApart l):∀ F:List Fil,(∀ f∈F,∃ x∈l,x.id=f.id∧x.side=s)→sumG (fun x=>gotF F x.id) s l=qtyF F
  | [],_=>by simp only [gotF];exact sumG_zero s l
  | f::F,h=>by
    simp only [gotF,qtyF]
    rw [sumG_add,sumG_one ha (h f (by simp)),sumG_got ha F fun g hg=>h g (by simp [hg])]
structure Fair (l:List Lot) (price volume:Int) (F:List Fil):Prop where
  qty:∀ f∈F,1≤f.qty∧f.qty≤1000
  bd:∀ x∈l,0≤gotF F x.id∧gotF F x.id≤x.qty
  worse:∀ x∈l,mayT x.side price x=false→gotF F x.id=0
  best:∀ x∈l,∀ y∈l,y.side=x.side→betterL x.side y x→0<gotF F x.id→gotF F y.id=y.qty
  sum0:sumG (fun x=>gotF F x.id) 0 l=volume
  sum1:sumG (fun x=>gotF F x.id) 1 l=volume
theorem lot_side {x:Lot} (h:x.ok=true):x.side=0∨x.side=1:=by have:=(Lot.ok_iff.1 h).2.2.1;omega
theorem fills_fair {l:List Lot} {price volume seed:Int} (hok:LotsOk l) (v0:0≤volume) (hv:volume≤min (dem l price) (sup l price)):Fair l price volume (fillsL l price volume seed):=by
  have ha:=hok.apart
  have hq:∀ side,∀ x∈(levelsL side price l).flatten,1≤x.qty:=fun side x hx=>(Lot.ok_iff.1 (hok.mem x (levels_mem.1 hx).1)).2.2.2.2.1
  have b0:=sideF_bd (levelsL 0 price l) volume seed v0 (levels_apart ha) (hq 0)
  have b1:=sideF_bd (levelsL 1 price l) volume ((seed+1) % 4294967296) v0 (levels_apart ha) (hq 1)
  have e0:=sideF_best (betterL 0) (levelsL 0 price l) volume seed v0 (levels_apart ha) (hq 0) levels_best1 levels_best2
  have e1:=sideF_best (betterL 1) (levelsL 1 price l) volume ((seed+1) % 4294967296) v0 (levels_apart ha) (hq 1) levels_best1 levels_best2
  rw [levels_total,may_dem] at b0
  rw [levels_total,may_sup] at b1
  have worse:∀ x∈l,mayT x.side price x=false→gotF (fillsL l price volume seed) x.id=0:=fun x hx hm=>by
    rcases lot_side (hok.mem x hx) with hs|hs
    · rw [got_side0 ha _ _ _ hx hs];rw [hs] at hm;exact side_none ha hx hm
    · rw [got_side1 ha _ _ _ hx hs];rw [hs] at hm;exact side_none ha hx hm
  refine ⟨fun f hf=>?_,fun x hx=>?_,worse,fun x hx y hy hys hb hg=>?_,?_,?_⟩
  · rcases List.mem_append.1 hf with hf|hf
    · obtain ⟨h1,x,hx,_,h2⟩:=sideF_ids _ _ _ f hf
      have:=(Lot.ok_iff.1 (hok.mem x (levels_mem.1 hx).1)).2.2.2.2.2
      omega
    · obtain ⟨h1,x,hx,_,h2⟩:=sideF_ids _ _ _ f hf
      have:=(Lot.ok_iff.1 (hok.mem x (levels_mem.1 hx).1)).2.2.2.2.2
      omega
  · cases hm:mayT x.side price x
    · rw [worse x hx hm]
      have:=(Lot.ok_iff.1 (hok.mem x hx)).2.2.2.2
      omega
    · rcases lot_side (hok.mem x hx) with hs|hs
      · rw [got_side0 ha _ _ _ hx hs];rw [hs] at hm;exact b0.1 x (levels_mem.2 ⟨hx,hm⟩)
      · rw [got_side1 ha _ _ _ hx hs];rw [hs] at hm;exact b1.1 x (levels_mem.2 ⟨hx,hm⟩)
  · cases hm:mayT x.side price x
    · rw [worse x hx hm] at hg;omega
    · rcases lot_side (hok.mem x hx) with hs|hs
      · have hm2:mayT 0 price y=true:=by
          rw [hs] at hm hb hys
          unfold betterL at hb
          unfold mayT at hm ⊢
          simp [hs,hys] at hm ⊢
          omega
        rw [got_side0 ha _ _ _ hy (by omega)]
        rw [got_side0 ha _ _ _ hx hs] at hg
        rw [hs] at hb hm
        exact e0 x (levels_mem.2 ⟨hx,hm⟩) y (levels_mem.2 ⟨hy,hm2⟩) hb hg
      · have hm2:mayT 1 price y=true:=by
          rw [hs] at hm hb hys
          unfold betterL at hb
          unfold mayT at hm ⊢
          simp [hs,hys] at hm ⊢
          omega
        rw [got_side1 ha _ _ _ hy (by omega)]
        rw [got_side1 ha _ _ _ hx hs] at hg
        rw [hs] at hb hm
        exact e1 x (levels_mem.2 ⟨hx,hm⟩) y (levels_mem.2 ⟨hy,hm2⟩) hb hg
  · rw [sumG_congr (h:=fun x=>gotF (sideF (levelsL 0 price l) volume seed) x.id) l (fun x hx hs=>got_side0 ha _ _ _ hx hs),sumG_got ha _ (fun f hf=>?_),b0.2]
    · omega
    · obtain ⟨_,x,hx,hi,_⟩:=sideF_ids _ _ _ f hf
      exact ⟨x,(levels_mem.1 hx).1,hi,may_side (levels_mem.1 hx).2⟩
  · rw [sumG_congr (h:=fun x=>gotF (sideF (levelsL 1 price l) volume ((seed+1) % 4294967296)) x.id) l (fun x hx hs=>got_side1 ha _ _ _ hx hs),sumG_got ha _ (fun f hf=>?_),b1.2]
    · omega
    · obtain ⟨_,x,hx,hi,_⟩:=sideF_ids _ _ _ f hf
      exact ⟨x,(levels_mem.1 hx).1,hi,may_side (levels_mem.1 hx).2⟩
end Go.Proofs.YtabbgpjofkaomaaGreatDoor
