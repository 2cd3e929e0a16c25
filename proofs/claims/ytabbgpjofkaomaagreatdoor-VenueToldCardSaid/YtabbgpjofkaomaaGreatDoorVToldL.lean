import Derived.Test.YtabbgpjofkaomaaGreatDoorJ42
import Derived.Test.YtabbgpjofkaomaaGreatDoorVenI
set_option linter.unusedSimpArgs false
set_option linter.unusedVariables false
/- Plain facts of VenueTold: what a batch tells of an order whose number no other one has. -/
namespace Go.Proofs.YtabbgpjofkaomaaGreatDoor
open Go.RowKit
def rfil (id:Int) (l:List Rep):List Rep:=l.filter fun r=>r.id==id
def afil (id:Int) (l:List Ask):List Ask:=l.filter fun a=>a.id==id
def sumQ:List Rep→Int
 | []=>0
 | r::l=>r.qty+sumQ l
theorem sumQ_append (a b:List Rep):sumQ (a++b)=sumQ a+sumQ b:=by
 induction a with
 | nil=>simp [sumQ]
 | cons r a ih=>rw [List.cons_append,sumQ,sumQ,ih];omega
theorem rfil_append (id:Int) (a b:List Rep):rfil id (a++b)=rfil id a++rfil id b:=List.filter_append ..
theorem afil_append (id:Int) (a b:List Ask):afil id (a++b)=afil id a++afil id b:=List.filter_append ..
theorem rfil_none {id:Int} {l:List Rep} (h:∀ r∈l,r.id≠id):rfil id l=[]:=List.filter_eq_nil_iff.2 fun r hr e=>h r hr (by simpa using e)
theorem afil_none {id:Int} {l:List Ask} (h:∀ r∈l,r.id≠id):afil id l=[]:=List.filter_eq_nil_iff.2 fun r hr e=>h r hr (by simpa using e)
def IdP (S:Nat→Lot→Prop) (st:FSt) (id:Int):Prop:=∀ j,j<3→∀ y:Lot,y.id=id→(y∈st.b j↔S j y)
def NoS:Nat→Lot→Prop:=fun _ _=>False
theorem gone_lot {st:FSt} (h:FOk st) {k:Nat} (hk:k<3) {i:Int} (h0:(goneR st k i).2.1=0):(goneR st k i).1∈st.b k∧(goneR st k i).1.id=i:=by
 unfold goneR at h0 ⊢
 rcases cancelR_cases (h.book k hk) i with ⟨x,hx,hi,l',e,_⟩|⟨hn,e⟩
 ·rw [e,if_pos rfl]
  exact ⟨hx,hi⟩
 ·rw [e,if_neg (by simp)] at h0
  exact absurd h0 (by simp)
theorem drop_no {st:FSt} (h:FOk st) {id:Int} (hn:IdP NoS st id) (n:Int):IdP NoS (fdropR st n).2 id∧∀ x∈(fdropR st n).1,x.id≠id:=by
 have step:∀ k,k<3→∀ (p:List Lot × FSt) (i:Int),(FOk p.2∧IdP NoS p.2 id∧∀ x∈p.1,x.id≠id)→(FOk (dropStep k p i).2∧IdP NoS (dropStep k p i).2 id∧∀ x∈(dropStep k p i).1,x.id≠id):=fun k hk p i ⟨a,b,c⟩=>by
  refine ⟨(dropStep_ok a hk i).1,fun j hj z hi=>⟨fun hz=>(b j hj z hi).1 ((gone_mem a hk i j z).1 hz).1,fun h=>h.elim⟩,?_⟩
  unfold dropStep
  simp only
  split
  ·rename_i h0
   intro x hx
   rcases List.mem_append.1 hx with hx|hx
   ·exact c x hx
   ·rw [List.mem_singleton.1 hx]
    exact fun e=>(b k hk _ e).1 (gone_lot a hk h0).1
  ·exact c
 exact (fold_keep_mem (P:=fun p:List Lot × FSt=>FOk p.2∧IdP NoS p.2 id∧∀ x∈p.1,x.id≠id) (List.range 3) (f:=dropK n) (b:=([],st)) (fun p k hk hp=>fold_keep (P:=fun p:List Lot × FSt=>FOk p.2∧IdP NoS p.2 id∧∀ x∈p.1,x.id≠id) (f:=dropStep k) (fun p i hp=>step k (List.mem_range.1 hk) p i hp) _ hp) ⟨h,hn,fun x hx=>by cases hx⟩).2
theorem drops_no {id:Int} (ds:List Int) {p:List Rep × FSt} (h:FP p.2) (hn:IdP NoS p.2 id):FP (ds.foldl dropRep p).2∧IdP NoS (ds.foldl dropRep p).2 id∧rfil id (ds.foldl dropRep p).1=rfil id p.1 :=
 fold_keep (P:=fun q:List Rep × FSt=>FP q.2∧IdP NoS q.2 id∧rfil id q.1=rfil id p.1) (fun q n ⟨a,b,c⟩=>by
  obtain ⟨d1,d2⟩:=drop_no a.1 b n
  refine ⟨a.dropR n,d1,?_⟩
  unfold dropRep
  rw [rfil_append,c,rfil_none (l:=(fdropR q.2 n).1.map (lotR kGone)),List.append_nil]
  intro r hr
  obtain ⟨x,hx,rfl⟩:=List.mem_map.1 hr
  exact d2 x hx) ds ⟨h,hn,rfl⟩
theorem fplace_iff (st:FSt) (a:Ask) (j:Nat) (z:Lot) (hz:z.id≠a.id):z∈(fplaceS st a).b j↔z∈st.b j:=by
 unfold fplaceS
 split
 ·unfold placeS
  split
  ·show z∈(if j=a.item.toNat then st.b a.item.toNat++[lotOf a] else st.b j)↔_
   split
   ·rename_i e
    rw [List.mem_append,List.mem_singleton,e]
    exact ⟨fun h=>h.elim id fun h=>absurd (by rw [h];rfl) hz,.inl⟩
   ·exact Iff.rfl
  ·exact Iff.rfl
 ·exact Iff.rfl
theorem fcancel_iff {st:FSt} (h:FOk st) (a:Ask) (j:Nat) (z:Lot) (hz:z.id≠a.id):z∈(fcancelR st a).2.2.b j↔z∈st.b j:=by
 unfold fcancelR
 split
 ·rename_i hk
  obtain ⟨_,_,_,b4,_⟩:=Ask.bounds (asked_zero hk).1
  split
  ·rw [gone_mem h (by omega)]
   exact ⟨fun h=>h.1,fun h=>⟨h,fun _=>hz⟩⟩
  ·exact Iff.rfl
 ·exact Iff.rfl
theorem fcancel_id {st:FSt} (h:FOk st) (a:Ask) (h0:(fcancelR st a).2.1=0):(fcancelR st a).1.id=a.id:=by
 unfold fcancelR at h0 ⊢
 split at h0
 ·rename_i hk
  rw [if_pos hk]
  obtain ⟨_,_,_,b4,_⟩:=Ask.bounds (asked_zero hk).1
  split at h0
  ·rename_i h2
   rw [if_pos h2]
   exact (gone_lot h (by omega) h0).2
  ·exact absurd h0 (by simp)
 ·rename_i hk
  exact absurd h0 hk
theorem request_other {S:Nat→Lot→Prop} {st:FSt} (h:FOk st) {id:Int} (hS:IdP S st id) (a:Ask) (ha:a.id≠id):IdP S (requestR a st).2.2 id∧((requestR a st).2.1=false→(requestR a st).1.id≠id):=by
 have k1:IdP S (fplaceS st a) id:=fun j hj y hy=>(fplace_iff st a j y (fun e=>ha (e.symm.trans hy))).trans (hS j hj y hy)
 have k2:IdP S (fcancelR st a).2.2 id:=fun j hj y hy=>(fcancel_iff h a j y (fun e=>ha (e.symm.trans hy))).trans (hS j hj y hy)
 unfold requestR
 split
 ·split
  ·exact ⟨k1,fun _=>ha⟩
  ·exact ⟨k1,fun e=>by cases e⟩
 ·split
  ·exact ⟨k2,fun _=>ha⟩
  ·rename_i h0
   refine ⟨k2,fun _=>?_⟩
   show (fcancelR st a).1.id≠id
   rw [fcancel_id h a (by omega)]
   exact ha
theorem reqs_other {S:Nat→Lot→Prop} {id:Int} (l:List Ask) {q:RqSt} (h:FP q.st) (hS:IdP S q.st id) (hl:∀ a∈l,a.id≠id):FP (l.foldl reqStep q).st∧IdP S (l.foldl reqStep q).st id∧rfil id (l.foldl reqStep q).out=rfil id q.out∧afil id (l.foldl reqStep q).placed=afil id q.placed :=
 fold_keep_mem (P:=fun p:RqSt=>FP p.st∧IdP S p.st id∧rfil id p.out=rfil id q.out∧afil id p.placed=afil id q.placed) l (fun p a hm ⟨a1,a2,a3,a4⟩=>by
  obtain ⟨r1,r2⟩:=request_other a1.1 a2 a (hl a hm)
  refine ⟨a1.req a,by rw [reqStep_st];exact r1,?_⟩
  unfold reqStep
  split
  ·refine ⟨a3,?_⟩
   show afil id (p.placed++[a])=_
   rw [afil_append,a4,afil_none (l:=[a]) fun b hb=>by rw [List.mem_singleton.1 hb];exact hl a hm,List.append_nil]
  ·rename_i h0
   refine ⟨?_,a4⟩
   show rfil id (p.out++[(requestR a p.st).1])=_
   rw [rfil_append,a3,rfil_none (l:=[(requestR a p.st).1]) fun b hb=>by rw [List.mem_singleton.1 hb];exact r2 (by simpa using h0),List.append_nil]) ⟨h,hS,rfl,rfl⟩
theorem request_self {st:FSt} (h:FOk st) {a:Ask} (hk:a.kind=111) (hn:IdP NoS st a.id) :
  (∃ c:Nat,0<c∧(requestR a st).2.1=false∧(requestR a st).1=refR a.client a.id c∧IdP NoS (requestR a st).2.2 a.id) ∨
   ((requestR a st).2.1=true∧a.err=0∧(lotOf a).ok=true∧IdP (fun j y=>j=a.item.toNat∧y=lotOf a) (requestR a st).2.2 a.id):=by
 unfold requestR
 rw [if_pos hk]
 by_cases he:fplaceE st a≠0
 ·left
  rw [if_pos he]
  refine ⟨fplaceE st a,by omega,rfl,rfl,?_⟩
  have e:fplaceS st a=st:=by
   unfold fplaceE at he
   unfold fplaceS
   split
   ·rename_i h1
    rw [if_pos h1] at he
    unfold placeS
    rw [if_neg he]
   ·rfl
  show IdP NoS (fplaceS st a) a.id
  rw [e]
  exact hn
 ·right
  rw [if_neg he]
  have he:fplaceE st a=0:=by omega
  unfold fplaceE at he
  split at he
  ·rename_i h1
   have hp:=he
   unfold placeE at he
   split at he
   ·rename_i h2
    refine ⟨rfl,(asked_zero h1).1,(addE_new h2).1,fun j hj y hy=>?_⟩
    have e:(fplaceS st a).b j=if j=a.item.toNat then st.b a.item.toNat++[lotOf a] else st.b j:=by
     unfold fplaceS
     rw [if_pos h1]
     unfold placeS
     rw [if_pos hp]
     rfl
    show y∈(fplaceS st a).b j↔_
    rw [e]
    split
    ·rename_i ej
     rw [List.mem_append,List.mem_singleton]
     exact ⟨fun h=>h.elim (fun h=>((hn j hj y hy).1 (ej▸h)).elim) fun h=>⟨ej,h⟩,fun h=>.inr h.2⟩
    ·rename_i ej
     exact ⟨fun h=>((hn j hj y hy).1 h).elim,fun h=>absurd h.1 ej⟩
   ·rename_i h2
    exact absurd he h2
  ·rename_i h1
   exact absurd he h1
theorem last_sub:∀ (l:List Ask),∀ a∈lastL l,a∈l
 | [],a,h=>h
 | b::l,a,h=>by
  unfold lastL at h
  split at h
  ·exact List.mem_cons_of_mem _ (last_sub l a h)
  ·rcases List.mem_cons.1 h with h|h
   ·rw [h];exact List.mem_cons_self ..
   ·exact List.mem_cons_of_mem _ (last_sub l a h)
theorem last_afil {id:Int} {a:Ask}:∀ (l:List Ask),afil id l=[a]→afil id (lastL l)=[a]
 | [],h=>by cases h
 | b::l,h=>by
  unfold afil at h
  unfold lastL
  by_cases hb:(b.id==id)=true
  ·rw [List.filter_cons_of_pos (by exact hb)] at h
   have h1:b=a:=by injection h
   have h2:l.filter (fun a=>a.id==id)=[]:=by injection h
   have h3:∀ x∈l,¬ (x.id==id)=true:=List.filter_eq_nil_iff.1 h2
   rw [if_neg]
   ·unfold afil
    rw [List.filter_cons_of_pos (by exact hb),h1,List.filter_eq_nil_iff.2 fun x hx=>h3 x (last_sub l x hx)]
   ·intro hany
    obtain ⟨x,hx,hx2⟩:=List.any_eq_true.1 hany
    rw [Bool.and_eq_true] at hx2
    have e1:b.id=x.id:=by simpa using hx2.2
    have e2:b.id=id:=by simpa using hb
    exact h3 x hx (by rw [← e1,e2];simp)
  ·rw [List.filter_cons_of_neg (by exact hb)] at h
   have ih:=last_afil l h
   split
   ·exact ih
   ·unfold afil at ih ⊢
    rw [List.filter_cons_of_neg (by exact hb)]
    exact ih
theorem last_afil_nil {id:Int} {l:List Ask} (h:afil id l=[]):afil id (lastL l)=[]:=afil_none fun a ha e=>by
 have h3:=List.filter_eq_nil_iff.1 h a (last_sub l a ha)
 exact h3 (by simpa using e)
def restF (n:Nat) (b:List Lot) (a:Ask):Option Rep:=if (getR b a.id).2∧a.item=(n:Int) then some (lotR kRest (getR b a.id).1) else none
theorem rest_id {n:Nat} {b:List Lot} {a:Ask} {r:Rep} (h:restF n b a=some r):r.id=a.id:=by
 unfold restF at h
 split at h
 ·rename_i hc
  rcases getR_cases b a.id with ⟨x,hx,hi,e⟩|⟨_,e⟩
  ·rw [e] at h
   cases h
   exact hi
  ·rw [e] at hc
   exact absurd hc.1 (by simp)
 ·cases h
theorem rests_fil (id:Int) (n:Nat) (b:List Lot):∀ l:List Ask,rfil id (l.filterMap (restF n b))=(afil id l).filterMap (restF n b)
 | []=>rfl
 | a::l=>by
  have ih:=rests_fil id n b l
  unfold rfil afil at ih ⊢
  by_cases ha:(a.id==id)=true
  ·rw [List.filter_cons_of_pos (by exact ha),List.filterMap_cons,List.filterMap_cons]
   cases hr:restF n b a with
   | none=>exact ih
   | some r =>
    have:=rest_id hr
    simp only
    rw [List.filter_cons_of_pos (by rw [this];exact ha),ih]
  ·rw [List.filter_cons_of_neg (by exact ha),List.filterMap_cons]
   cases hr:restF n b a with
   | none=>exact ih
   | some r =>
    have:=rest_id hr
    simp only
    rw [List.filter_cons_of_neg (by rw [this];exact ha),ih]
def filF (b:List Lot) (price:Int) (f:Fil):Rep:=⟨(getR b f.id).1.owner,kFil,f.id,price,f.qty,0⟩
theorem fills_sum (b:List Lot) (price id:Int):∀ F:List Fil,sumQ (rfil id (F.map (filF b price)))=gotF F id
 | []=>rfl
 | f::F=>by
  have ih:=fills_sum b price id F
  unfold rfil at ih ⊢
  rw [List.map_cons,gotF]
  by_cases hf:f.id=id
  ·rw [List.filter_cons_of_pos (by show (f.id==id)=true;simpa using hf),if_pos hf,sumQ,ih]
   rfl
  ·rw [List.filter_cons_of_neg (by show ¬ (f.id==id)=true;simpa using hf),if_neg hf,ih]
   omega
theorem item_is (seed wd hl:Int) (n:Nat) (placed:List Ask) (st:FSt):itemR seed wd hl n placed st=((runR st n wd hl seed).fills.map (filF (st.b n) (runR st n wd hl seed).price)++placed.filterMap (restF n ((runS st n wd hl seed).b n)),runS st n wd hl seed):=rfl
def But (k0:Nat) (st:FSt) (id:Int):Prop:=∀ j,j<3→j≠k0→∀ y∈st.b j,y.id≠id
theorem run_but {st:FSt} (h:FP st) {k0 n:Nat} (hn:n<3) {wd hl:Int} (h2:1≤hl∧hl≤1000) (seed:Int) {id:Int} (hB:But k0 st id):But k0 (runS st n wd hl seed) id:=fun j hj hne y hy=>by
 obtain ⟨x,hx,_,hi⟩:=run_mem h hn h2 seed j y hy
 rw [← hi]
 exact hB j hj hne x hx
theorem item_other {v:VSt} (h2:1≤v.c.hl∧v.c.hl≤1000) {placed:List Ask} {p:List Rep × FSt} (h:FP p.2) {k0:Nat} {id:Int} (hB:But k0 p.2 id) (hp:∀ a∈afil id placed,a.item=(k0:Int)) {n:Nat} (hn:n<3) (hne:n≠k0) :
  FP (itemStep v placed p n).2∧But k0 (itemStep v placed p n).2 id∧rfil id (itemStep v placed p n).1=rfil id p.1∧(itemStep v placed p n).2.b k0=p.2.b k0:=by
 refine ⟨h.item h2 hn,run_but h hn h2 _ hB,?_,?_⟩
 ·unfold itemStep
  rw [item_is,rfil_append,rfil_append,rests_fil,rfil_none (l:=List.map _ _)]
  ·have e:(afil id placed).filterMap (restF n ((runS p.2 n v.c.wd v.c.hl (vseed v n)).b n))=[]:=by
    rw [List.filterMap_eq_nil_iff]
    intro a ha
    have:=hp a ha
    unfold restF
    rw [if_neg fun hc=>by omega]
   rw [e]
   simp
  ·intro r hr
   obtain ⟨f,hf,rfl⟩:=List.mem_map.1 hr
   obtain ⟨x,hx,hi⟩:=runF_ids f hf
   show f.id≠id
   rw [← hi]
   exact hB n hn hne x hx
 ·obtain ⟨_,_,f3⟩:=run_facts (wd:=v.c.wd) h.1 h.2 hn h2 (vseed v n)
  exact f3.other k0 (fun e=>hne e.symm)
def Told (c id qty:Int) (l:List Rep):Prop :=
 (∃ code:Nat,0<code∧rfil id l=[refR c id code])∨(1≤qty∧sumQ (rfil id l)=qty∧∀ r∈rfil id l,r.client=c∧(r.kind=kFil∨r.kind=kRest)∧0≤r.qty∧r.qty≤1000)
theorem item_self {v:VSt} (h2:1≤v.c.hl∧v.c.hl≤1000) {placed:List Ask} {p:List Rep × FSt} (h:FP p.2) {a:Ask} {n:Nat} (hn:n<3) (ha:a.item=(n:Int)) (hok:(lotOf a).ok=true) (hx:lotOf a∈p.2.b n) (hp:afil a.id placed=[a]) (h0:rfil a.id p.1=[]) :
  Told a.client a.id a.qty (itemStep v placed p n).1:=by
 have hF:=run_fairR (wd:=v.c.wd) h.1 h.2 hn h2 (vseed v n)
 have hap:=(h.1.book n hn).apart
 have hq:=(Lot.ok_iff.1 hok).2.2.2.2
 have hr:=hF.rest _ hx
 have hget:=getR_mem hap hx
 have hbd:=hF.bd _ hx
 have hrun:=run_mem (wd:=v.c.wd) h hn h2 (vseed v n) n
 have hqty:=hF.qty
 simp only [lotOf] at hr hget hbd hq
 unfold itemStep
 rw [item_is]
 generalize (runR p.2 n v.c.wd v.c.hl (vseed v n)).price=price at *
 generalize (runR p.2 n v.c.wd v.c.hl (vseed v n)).fills=F at *
 generalize runS p.2 n v.c.wd v.c.hl (vseed v n)=st' at *
 right
 have e:rfil a.id (p.1++(F.map (filF (p.2.b n) price)++placed.filterMap (restF n (st'.b n))))=rfil a.id (F.map (filF (p.2.b n) price))++[a].filterMap (restF n (st'.b n)):=by
  rw [rfil_append,rfil_append,rests_fil,hp,h0,List.nil_append]
 refine ⟨hq.1,?_⟩
 show sumQ (rfil a.id (p.1++(F.map (filF (p.2.b n) price)++placed.filterMap (restF n (st'.b n)))))=a.qty∧_
 rw [e,sumQ_append,fills_sum]
 have hfil:∀ r∈rfil a.id (F.map (filF (p.2.b n) price)),r.client=a.client∧(r.kind=kFil∨r.kind=kRest)∧0≤r.qty∧r.qty≤1000:=fun r hr=>by
  obtain ⟨h1,h3⟩:=List.mem_filter.1 hr
  obtain ⟨f,hf,rfl⟩:=List.mem_map.1 h1
  have hi:f.id=a.id:=by simpa [filF] using h3
  have:=hqty f hf
  refine ⟨?_,.inl rfl,by show 0≤f.qty;omega,by show f.qty≤1000;omega⟩
  show (getR (p.2.b n) f.id).1.owner=a.client
  rw [hi,hget]
 by_cases hg:gotF F a.id<a.qty
 ·have hr2:(getR (st'.b n) a.id).2=true:=by rw [hr.2];exact decide_eq_true hg
  have er:[a].filterMap (restF n (st'.b n))=[lotR kRest (getR (st'.b n) a.id).1]:=by
   rw [List.filterMap_cons,restF,if_pos ⟨hr2,ha⟩]
   rfl
  rw [er]
  rcases getR_cases (st'.b n) a.id with ⟨y,hy,hi,ey⟩|⟨_,ey⟩
  ·obtain ⟨x,hx2,ho,hxi⟩:=hrun y hy
   have hxe:x=lotOf a:=hap.eq hx2 hx (by rw [hxi,hi];rfl)
   rw [ey] at hr ⊢
   simp only at hr
   refine ⟨?_,fun r hm=>?_⟩
   ·show gotF F a.id+(y.qty+0)=a.qty
    omega
   ·rcases List.mem_append.1 hm with hm|hm
    ·exact hfil r hm
    ·rw [List.mem_singleton.1 hm]
     refine ⟨?_,.inr rfl,by show 0≤y.qty;omega,by show y.qty≤1000;omega⟩
     show y.owner=a.client
     rw [← ho,hxe]
     rfl
  ·rw [ey] at hr2
   cases hr2
 ·have hr2:(getR (st'.b n) a.id).2=false:=by rw [hr.2];exact decide_eq_false hg
  have er:[a].filterMap (restF n (st'.b n))=[]:=by
   rw [List.filterMap_cons,restF,if_neg (by rw [hr2];simp)]
   rfl
  rw [er,List.append_nil]
  refine ⟨?_,hfil⟩
  simp only [sumQ]
  omega
theorem Told.same {c id qty:Int} {l l':List Rep} (h:Told c id qty l) (e:rfil id l'=rfil id l):Told c id qty l':=by
 unfold Told
 rw [e]
 exact h
theorem items_other {v:VSt} (h2:1≤v.c.hl∧v.c.hl≤1000) {placed:List Ask} {k0:Nat} {id:Int} (hp:∀ a∈afil id placed,a.item=(k0:Int)) (l:List Nat) (hl:∀ n∈l,n<3∧n≠k0) {p:List Rep × FSt} (h:FP p.2) (hB:But k0 p.2 id) :
  FP (l.foldl (itemStep v placed) p).2∧But k0 (l.foldl (itemStep v placed) p).2 id∧rfil id (l.foldl (itemStep v placed) p).1=rfil id p.1∧(l.foldl (itemStep v placed) p).2.b k0=p.2.b k0 :=
 fold_keep_mem (P:=fun q:List Rep × FSt=>FP q.2∧But k0 q.2 id∧rfil id q.1=rfil id p.1∧q.2.b k0=p.2.b k0) l (fun q n hn ⟨a1,a2,a3,a4⟩=>by
  obtain ⟨b1,b2,b3,b4⟩:=item_other h2 a1 a2 hp (hl n hn).1 (hl n hn).2
  exact ⟨b1,b2,b3.trans a3,b4.trans a4⟩) ⟨h,hB,rfl,rfl⟩
theorem items_self {v:VSt} (h2:1≤v.c.hl∧v.c.hl≤1000) {placed:List Ask} {p:List Rep × FSt} (h:FP p.2) {a:Ask} {k0:Nat} (hk:k0<3) (ha:a.item=(k0:Int)) (hok:(lotOf a).ok=true) (hx:lotOf a∈p.2.b k0) (hB:But k0 p.2 a.id) (hp:afil a.id placed=[a]) (h0:rfil a.id p.1=[]) :
  Told a.client a.id a.qty ((List.range 3).foldl (itemStep v placed) p).1:=by
 have hp2:∀ b∈afil a.id placed,b.item=(k0:Int):=fun b hb=>by
  rw [hp] at hb
  rw [List.mem_singleton.1 hb]
  exact ha
 have key:∀ l1 l2:List Nat,(∀ n∈l1,n<3∧n≠k0)→(∀ n∈l2,n<3∧n≠k0)→Told a.client a.id a.qty ((l1++k0::l2).foldl (itemStep v placed) p).1:=fun l1 l2 h1 h3=>by
  obtain ⟨a1,a2,a3,a4⟩:=items_other h2 hp2 l1 h1 h hB
  rw [List.foldl_append,List.foldl_cons]
  generalize l1.foldl (itemStep v placed) p=q at *
  have ht:=item_self (v:=v) h2 a1 hk ha hok (by rw [a4];exact hx) hp (a3.trans h0)
  have b1:FP (itemStep v placed q k0).2:=a1.item h2 hk
  have b2:But k0 (itemStep v placed q k0).2 a.id:=run_but a1 hk h2 _ a2
  obtain ⟨c1,c2,c3,c4⟩:=items_other h2 hp2 l2 h3 b1 b2
  exact ht.same c3
 have h3:k0=0∨k0=1∨k0=2:=by omega
 rcases h3 with rfl|rfl|rfl
 ·exact key [] [1,2] (fun n hn=>by cases hn) (fun n hn=>by simp at hn;omega)
 ·exact key [0] [2] (fun n hn=>by simp at hn;omega) (fun n hn=>by simp at hn;omega)
 ·exact key [0,1] [] (fun n hn=>by simp at hn;omega) (fun n hn=>by cases hn)
theorem batch_told {v:VSt} (h:FP v.f) (h2:1≤v.c.hl∧v.c.hl≤1000) {a:Ask} (hk:a.kind=111) (hn:IdP NoS v.f a.id) (ds:List Int) (A B:List Ask) (hA:∀ b∈A,b.id≠a.id) (hB:∀ b∈B,b.id≠a.id) :
  Told a.client a.id a.qty (batchR ds (A++a::B) v).1:=by
 obtain ⟨d1,d2,d3⟩:=drops_no (id:=a.id) ds (p:=([],v.f)) h hn
 unfold batchR
 simp only
 generalize ds.foldl dropRep ([],v.f)=p at *
 obtain ⟨e1,e2,e3,e4⟩:=reqs_other A (q:=⟨p.1,[],p.2⟩) d1 d2 hA
 rw [List.foldl_append,List.foldl_cons]
 generalize A.foldl reqStep ⟨p.1,[],p.2⟩=q at *
 have e3':rfil a.id q.out=[]:=e3.trans d3
 have e4':afil a.id q.placed=[]:=e4
 have hq1:FP (reqStep q a).st:=e1.req a
 rcases request_self e1.1 hk e2 with ⟨c,hc,r1,r2,r3⟩|⟨r1,r2,r3,r4⟩
 ·have hst:reqStep q a=⟨q.out++[refR a.client a.id c],q.placed,(requestR a q.st).2.2⟩:=by
   unfold reqStep
   rw [if_neg (by rw [r1];decide),r2]
  rw [hst] at hq1 ⊢
  obtain ⟨f1,f2,f3,f4⟩:=reqs_other B (q:=⟨q.out++[refR a.client a.id c],q.placed,(requestR a q.st).2.2⟩) hq1 r3 hB
  generalize B.foldl reqStep ⟨q.out++[refR a.client a.id c],q.placed,(requestR a q.st).2.2⟩=q2 at *
  have hp2:afil a.id (lastL q2.placed)=[]:=last_afil_nil (f4.trans e4')
  obtain ⟨_,_,g3,_⟩:=items_other (v:=v) h2 (k0:=3) (id:=a.id) (placed:=lastL q2.placed) (fun b hb=>by rw [hp2] at hb;cases hb) (List.range 3) (fun n hn=>by have:=List.mem_range.1 hn;omega) (p:=(q2.out,q2.st)) f1 (fun j hj _ y hy e=>(f2 j hj y e).1 hy)
  refine .inl ⟨c,hc,g3.trans (f3.trans ?_)⟩
  show rfil a.id (q.out++[refR a.client a.id c])=_
  rw [rfil_append,e3',List.nil_append]
  show List.filter _ [refR a.client a.id c]=_
  rw [List.filter_cons_of_pos (by show (a.id==a.id)=true;simp)]
  rfl
 ·have hst:reqStep q a=⟨q.out,q.placed++[a],(requestR a q.st).2.2⟩:=by
   unfold reqStep
   rw [if_pos r1]
  rw [hst] at hq1 ⊢
  obtain ⟨f1,f2,f3,f4⟩:=reqs_other B (q:=⟨q.out,q.placed++[a],(requestR a q.st).2.2⟩) hq1 r4 hB
  generalize B.foldl reqStep ⟨q.out,q.placed++[a],(requestR a q.st).2.2⟩=q2 at *
  have hpl:afil a.id q2.placed=[a]:=by
   rw [f4]
   show afil a.id (q.placed++[a])=_
   rw [afil_append,e4',List.nil_append]
   show List.filter _ [a]=_
   rw [List.filter_cons_of_pos (by simp)]
   rfl
  obtain ⟨_,_,_,b4,_⟩:=Ask.bounds r2
  exact items_self (v:=v) h2 f1 (k0:=a.item.toNat) (by omega) (by omega) r3 ((f2 a.item.toNat (by omega) (lotOf a) rfl).2 ⟨rfl,rfl⟩) (fun j hj hne y hy e=>hne ((f2 j hj y e).1 hy).1) (last_afil _ hpl) (f3.trans e3')
end Go.Proofs.YtabbgpjofkaomaaGreatDoor
