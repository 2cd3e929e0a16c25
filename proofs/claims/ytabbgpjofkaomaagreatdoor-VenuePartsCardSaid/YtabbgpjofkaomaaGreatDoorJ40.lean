import Derived.Test.YtabbgpjofkaomaaGreatDoorJ24
import Derived.Test.YtabbgpjofkaomaaGreatDoorJ35
import Derived.Test.YtabbgpjofkaomaaGreatDoorJ39
set_option linter.unusedSimpArgs false
set_option linter.unusedVariables false
/- Plain facts: what rests behind lots that go. -/
namespace Go.Proofs.YtabbgpjofkaomaaGreatDoor
open Go.RowKit
section
variable {st:FSt} {k:Nat}
theorem gone_mem (h:FOk st) (hk:k<3) (id:Int) (j:Nat) (z:Lot):z∈(goneR st k id).2.2.b j↔z∈st.b j∧(j=k→z.id≠id):=by
 unfold goneR
 rcases cancelR_cases (h.book k hk) id with ⟨x,hx,hi,l',e,hl,hsum,hmem⟩|⟨hn,e⟩
 ·rw [e,if_pos rfl]
  show z∈(if j=k then l' else st.b j)↔_
  by_cases e2:j=k
  ·subst e2
   rw [if_pos rfl,hmem z]
   exact ⟨fun h=>⟨h.1,fun _=>h.2⟩,fun h=>⟨h.1,h.2 rfl⟩⟩
  ·rw [if_neg e2]
   exact ⟨fun h=>⟨h,fun e3=>absurd e3 e2⟩,fun h=>h.1⟩
 ·rw [e,if_neg (by simp)]
  exact ⟨fun h=>⟨h,fun e2=>hn z (by subst e2;exact h)⟩,fun h=>h.1⟩
theorem gone_tot (st:FSt) (k:Nat) (id:Int) {j:Nat} (hj:sumJ j):sumP (goneR st k id).2.2.p j=sumP st.p j:=by
 unfold goneR
 split
 ·exact free_sum _ _ _ hj
 ·rfl
theorem dropIds_mem (hk:k<3) (j:Nat) (z:Lot):∀ (ids:List Int) {p:List Lot × FSt},FOk p.2→(z∈(ids.foldl (dropStep k) p).2.b j↔z∈p.2.b j∧(j=k→z.id∉ids))
 | [],p,_=>by simp
 | id::ids,p,h=>by
  rw [List.foldl_cons,dropIds_mem hk j z ids (dropStep_ok h hk id).1]
  have h1:z∈(dropStep k p id).2.b j↔z∈p.2.b j∧(j=k→z.id≠id):=gone_mem h hk id j z
  rw [h1]
  constructor
  ·rintro ⟨⟨a,b⟩,c⟩
   exact ⟨a,fun e hm=>by rcases List.mem_cons.1 hm with h2|h2;exact b e h2;exact c e h2⟩
  ·rintro ⟨a,b⟩
   exact ⟨⟨a,fun e h2=>b e (by simp [h2])⟩,fun e h2=>b e (by simp [h2])⟩
theorem dropK_mem (hk:k<3) (client:Int) (j:Nat) (z:Lot) {p:List Lot × FSt} (h:FOk p.2):z∈(dropK client p k).2.b j↔z∈p.2.b j∧(j=k→z.owner≠client):=by
 unfold dropK
 rw [dropIds_mem hk j z _ h]
 constructor
 ·rintro ⟨a,b⟩
  refine ⟨a,fun e ho=>b e ?_⟩
  subst e
  exact List.mem_map.2 ⟨z,List.mem_filter.2 ⟨a,by simpa using ho⟩,rfl⟩
 ·rintro ⟨a,b⟩
  refine ⟨a,fun e hm=>?_⟩
  subst e
  obtain ⟨x,hx,hi⟩:=List.mem_map.1 hm
  obtain ⟨hx1,hx2⟩:=List.mem_filter.1 hx
  have:=(h.book j hk).apart.eq hx1 a hi
  subst this
  exact b rfl (by simpa using hx2)
theorem fdrop_mem (h:FOk st) (client:Int) {j:Nat} (hj:j<3) (z:Lot):z∈(fdropR st client).2.b j↔z∈st.b j∧z.owner≠client:=by
 have key:∀ k,k≤3→(z∈((List.range k).foldl (dropK client) ([],st)).2.b j↔z∈st.b j∧(j<k→z.owner≠client)):=by
  intro k
  induction k with
  | zero=>intro _;simp
  | succ k ih =>
   intro hk
   rw [List.range_succ,List.foldl_append]
   show z∈(dropK client ((List.range k).foldl (dropK client) ([],st)) k).2.b j↔_
   rw [dropK_mem (by omega) client j z (dropR_ok h client k (by omega)).1,ih (by omega)]
   constructor
   ·rintro ⟨⟨a,b⟩,c⟩
    exact ⟨a,fun hlt=>by by_cases e:j=k;exact c e;exact b (by omega)⟩
   ·rintro ⟨a,b⟩
    exact ⟨⟨a,fun hlt=>b (by omega)⟩,fun e=>b (by omega)⟩
 have:=key 3 (Nat.le_refl _)
 unfold fdropR
 rw [this]
 exact ⟨fun h=>⟨h.1,h.2 hj⟩,fun h=>⟨h.1,fun _=>h.2⟩⟩
end
end Go.Proofs.YtabbgpjofkaomaaGreatDoor

/- Plain facts of VenueKeeps: totals are kept; who is off has nothing that waits, and nothing that rests behind the next batch. -/
namespace Go.Proofs.YtabbgpjofkaomaaGreatDoor
open Go.RowKit
section
variable {st:FSt} {k:Nat}
theorem fold_eq {α β γ:Type} (g:β→γ) {f:β→α→β} (hf:∀ b a,g (f b a)=g b):∀ (l:List α) (b:β),g (l.foldl f b)=g b
 | [],_=>rfl
 | a::l,b=>(fold_eq g hf l (f b a)).trans (hf b a)
theorem fdrop_tot (st:FSt) (client:Int) {j:Nat} (hj:sumJ j):sumP (fdropR st client).2.p j=sumP st.p j:=by
 have h1:∀ (k:Nat) (p:List Lot × FSt) (id:Int),sumP (dropStep k p id).2.p j=sumP p.2.p j:=fun k p id=>gone_tot p.2 k id hj
 have h2:∀ (p:List Lot × FSt) (k:Nat),sumP (dropK client p k).2.p j=sumP p.2.p j:=fun p k=>fold_eq (fun p:List Lot × FSt=>sumP p.2.p j) (f:=dropStep k) (h1 k) _ p
 exact fold_eq (fun p:List Lot × FSt=>sumP p.2.p j) (f:=dropK client) h2 _ ([],st)
theorem fplace_mem (st:FSt) (a:Ask) (j:Nat) (z:Lot) (h:z∈(fplaceS st a).b j):z∈st.b j∨z.owner=a.client:=by
 unfold fplaceS at h
 split at h
 ·unfold placeS at h
  split at h
  ·have h':z∈(if j=a.item.toNat then st.b a.item.toNat++[lotOf a] else st.b j):=h
   split at h'
   ·rename_i e
    rcases List.mem_append.1 h' with h2|h2
    ·exact .inl (e▸h2)
    ·rw [List.mem_singleton.1 h2];exact .inr rfl
   ·exact .inl h'
  ·exact .inl h
 ·exact .inl h
theorem fplace_tot (st:FSt) (a:Ask) {j:Nat} (hj:sumJ j):sumP (fplaceS st a).p j=sumP st.p j:=by
 unfold fplaceS
 split
 ·unfold placeS
  split
  ·exact hold_sum _ _ _ hj
  ·rfl
 ·rfl
theorem fcancel_mem (h:FOk st) (a:Ask) (j:Nat) (z:Lot) (hz:z∈(fcancelR st a).2.2.b j):z∈st.b j:=by
 unfold fcancelR at hz
 split at hz
 ·rename_i hk
  obtain ⟨_,_,_,b4,_⟩:=Ask.bounds (asked_zero hk).1
  split at hz
  ·exact ((gone_mem h (by omega) _ j z).1 hz).1
  ·exact hz
 ·exact hz
theorem fcancel_tot (st:FSt) (a:Ask) {j:Nat} (hj:sumJ j):sumP (fcancelR st a).2.2.p j=sumP st.p j:=by
 unfold fcancelR
 split
 ·split
  ·exact gone_tot _ _ _ hj
  ·rfl
 ·rfl
theorem run_mem (h:FP st) (hk:k<3) {wd hl:Int} (h2:1≤hl∧hl≤1000) (seed:Int) (j:Nat) (z:Lot) (hz:z∈(runS st k wd hl seed).b j):∃ x∈st.b j,x.owner=z.owner∧x.id=z.id:=by
 obtain ⟨_,_,f3⟩:=run_facts (wd:=wd) h.1 h.2 hk h2 seed
 by_cases e:j=k
 ·subst e
  obtain ⟨x,hx,_,rfl⟩:=(f3.mem z).1 hz
  exact ⟨x,hx,rfl,rfl⟩
 ·rw [f3.other j e] at hz
  exact ⟨z,hz,rfl,rfl⟩
theorem run_tot (h:FP st) (hk:k<3) {wd hl:Int} (h2:1≤hl∧hl≤1000) (seed:Int) {j:Nat} (hj:sumJ j):sumP (runS st k wd hl seed).p j=sumP st.p j :=
 (run_fairR (wd:=wd) h.1 h.2 hk h2 seed).total j (by unfold sumJ at hj;omega)
end
def NoLots (st:FSt) (c:Int):Prop:=∀ k,k<3→∀ x∈st.b k,x.owner≠c
def Tot (P:Pu):Prop:=sumP P 0=120000∧∀ k,k<3→sumP P (2+k)=600
theorem Tot.same {P Q:Pu} (h:Tot P) (e:∀ j,sumJ j→sumP Q j=sumP P j):Tot Q :=
 ⟨(e 0 (by unfold sumJ;omega)).trans h.1,fun k hk=>(e (2+k) (by unfold sumJ;omega)).trans (h.2 k hk)⟩
section
variable {v:VSt}
theorem reqStep_st (p:RqSt) (a:Ask):(reqStep p a).st=(requestR a p.st).2.2:=by
 unfold reqStep
 split<;>rfl
theorem request_tot (st:FSt) (a:Ask) {j:Nat} (hj:sumJ j):sumP (requestR a st).2.2.p j=sumP st.p j:=by
 unfold requestR
 split
 ·split
  ·exact fplace_tot st a hj
  ·exact fplace_tot st a hj
 ·split
  ·exact fcancel_tot st a hj
  ·exact fcancel_tot st a hj
theorem request_no {st:FSt} (h:FP st) {a:Ask} {c:Int} (hc:a.client≠c) (hn:NoLots st c):NoLots (requestR a st).2.2 c:=by
 unfold requestR
 split
 ·have key:NoLots (fplaceS st a) c:=by
   intro k hk x hx
   rcases fplace_mem st a k x hx with h2|h2
   ·exact hn k hk x h2
   ·rw [h2];exact hc
  split
  ·exact key
  ·exact key
 ·split
  ·exact fun k hk x hx=>hn k hk x (fcancel_mem h.1 a k x hx)
  ·exact fun k hk x hx=>hn k hk x (fcancel_mem h.1 a k x hx)
theorem batch_tot (h:VOk v) (drops:List Int) (asks:List Ask) (ht:Tot v.f.p):Tot (batchR drops asks v).2.f.p:=by
 refine ht.same fun j hj=>?_
 have h1:FP v.f:=⟨h.fl,h.pinv⟩
 have e1:∀ p:List Rep × FSt,sumP (drops.foldl dropRep p).2.p j=sumP p.2.p j:=fun p=>fold_eq (fun p:List Rep × FSt=>sumP p.2.p j) (f:=dropRep) (fun p n=>fdrop_tot p.2 n hj) drops p
 have e2:∀ q:RqSt,sumP (asks.foldl reqStep q).st.p j=sumP q.st.p j:=fun q=>fold_eq (fun p:RqSt=>sumP p.st.p j) (f:=reqStep) (fun p a=>by rw [reqStep_st];exact request_tot _ _ hj) asks q
 have e3:∀ (pl:List Ask) (p:List Rep × FSt),FP p.2→sumP ((List.range 3).foldl (itemStep v pl) p).2.p j=sumP p.2.p j:=fun pl p hp =>
  (fold_keep_mem (P:=fun q:List Rep × FSt=>FP q.2∧sumP q.2.p j=sumP p.2.p j) (List.range 3) (f:=itemStep v pl) (b:=p) (fun q n hn hq=>⟨hq.1.item h.rule.2 (List.mem_range.1 hn),(run_tot hq.1 (List.mem_range.1 hn) h.rule.2 _ hj).trans hq.2⟩) ⟨hp,rfl⟩).2
 have h2:=(h1.drops drops).reqs (out:=(drops.foldl dropRep ([],v.f)).1) asks
 unfold batchR
 simp only []
 rw [e3 _ _ h2,e2,e1]
theorem batch_no (h:VOk v) (drops:List Int) (asks:List Ask) {c:Int} (hc:c∈drops∨NoLots v.f c) (ha:∀ a∈asks,a.client≠c):NoLots (batchR drops asks v).2.f c:=by
 have h1:FP v.f:=⟨h.fl,h.pinv⟩
 have d1:∀ (l:List Int) (p:List Rep × FSt),FP p.2→(c∈l∨NoLots p.2 c)→NoLots (l.foldl dropRep p).2 c:=by
  intro l
  induction l with
  | nil=>intro p _ hx;exact hx.resolve_left (by simp)
  | cons n l ih =>
   intro p hp hx
   rw [List.foldl_cons]
   refine ih _ (hp.dropR n) ?_
   by_cases e:c∈l
   ·exact .inl e
   ·refine .inr fun k hk x hm=>?_
    have hm2:=(fdrop_mem hp.1 n hk x).1 hm
    rcases hx with hx|hx
    ·rcases List.mem_cons.1 hx with h2|h2
     ·rw [h2];exact hm2.2
     ·exact absurd h2 e
    ·exact hx k hk x hm2.1
 have n1:=d1 drops ([],v.f) h1 hc
 have h2:FP (drops.foldl dropRep ([],v.f)).2:=h1.drops drops
 have n2:=(fold_keep_mem (P:=fun p:RqSt=>FP p.st∧NoLots p.st c) asks (f:=reqStep) (b:=⟨(drops.foldl dropRep ([],v.f)).1,[],(drops.foldl dropRep ([],v.f)).2⟩) (fun p a hm hp=>⟨hp.1.req a,by rw [reqStep_st];exact request_no hp.1 (ha a hm) hp.2⟩) ⟨h2,n1⟩)
 have n3:=fold_keep_mem (P:=fun p:List Rep × FSt=>FP p.2∧NoLots p.2 c) (List.range 3) (f:=itemStep v (lastL (asks.foldl reqStep ⟨(drops.foldl dropRep ([],v.f)).1,[],(drops.foldl dropRep ([],v.f)).2⟩).placed))
  (b:=((asks.foldl reqStep ⟨(drops.foldl dropRep ([],v.f)).1,[],(drops.foldl dropRep ([],v.f)).2⟩).out,(asks.foldl reqStep ⟨(drops.foldl dropRep ([],v.f)).1,[],(drops.foldl dropRep ([],v.f)).2⟩).st))
  (fun p n hn hp=>⟨hp.1.item h.rule.2 (List.mem_range.1 hn),fun k hk x hx=>by
   obtain ⟨y,hy,ho,_⟩:=run_mem hp.1 (List.mem_range.1 hn) h.rule.2 _ k x hx
   rw [← ho]
   exact hp.2 k hk y hy⟩) n2
 exact n3.2
end
end Go.Proofs.YtabbgpjofkaomaaGreatDoor

/- Plain facts of VenueKeeps: what holds behind any steps; what ticks bring about in which nobody speaks. -/
namespace Go.Proofs.YtabbgpjofkaomaaGreatDoor
open Go.RowKit
def OffOk (v:VSt) (c:Nat):Prop:=(v.cl c).s.on=true∨(v.q c=[]∧((v.cl c).drop=true∨NoLots v.f (c:Int)))
structure VInv (v:VSt):Prop where
 ok:VOk v
 tot:Tot v.f.p
 off:v.down=false→∀ c,c<6→OffOk v c
theorem take_on {s:Sess} {a:Ask} {now:Int} (h:(s.take a now).2=0) (hk:¬ a.kind=113):(s.take a now).1.on=true:=by
 have he:=take_err h
 unfold Sess.take at h ⊢
 rw [if_pos he] at h ⊢
 have hk2:(a.kind==113)=false:=by simpa using hk
 cases h8:a.kind==108<;>cases ho:s.on<;>cases h1:a.seq != 1<;>cases h2:a.seq != s.next<;>simp [h8,ho,h1,h2,hk2] at h ⊢
section
variable {v:VSt}
theorem setCl_same (v:VSt) (n:Nat) (x:Cli):(v.setCl n x).cl n=x:=if_pos rfl
theorem setCl_other (v:VSt) {n j:Nat} (x:Cli) (h:¬ j=n):(v.setCl n x).cl j=v.cl j:=if_neg h
theorem OffOk.of {v v':VSt} {c:Nat} (h:OffOk v c) (e1:(v'.cl c).s=(v.cl c).s) (e2:(v'.cl c).drop=(v.cl c).drop) (e3:v'.q c=v.q c) (e4:v'.f=v.f):OffOk v' c:=by
 rcases h with h|⟨h1,h2⟩
 ·exact .inl (by rw [e1];exact h)
 ·exact .inr ⟨e3.trans h1,by rw [e2,e4];exact h2⟩
theorem VInv.gone (h:VInv v) (n:Nat) (x:Cli) (hd:x.drop=true) (ho:VOk ((v.setCl n x).clear n)):VInv ((v.setCl n x).clear n):=by
 refine ⟨ho,h.tot,fun hdn c hc=>?_⟩
 by_cases e:c=n
 ·subst e
  exact .inr ⟨if_pos rfl,.inl (by rw [show ((v.setCl c x).clear c).cl c=x from if_pos rfl];exact hd)⟩
 ·have e1:((v.setCl n x).clear n).cl c=v.cl c:=if_neg e
  exact (h.off hdn c hc).of (by rw [e1]) (by rw [e1]) (if_neg e) rfl
theorem VInv.speak (h:VInv v) (n:Nat) (x:Cli) (hx:x.s.on=true∨x.s=(v.cl n).s∧x.drop=(v.cl n).drop) (ho:VOk (v.setCl n x)):VInv (v.setCl n x):=by
 refine ⟨ho,h.tot,fun hdn c hc=>?_⟩
 by_cases e:c=n
 ·subst e
  rcases hx with hx|⟨h1,h2⟩
  ·exact .inl (by rw [setCl_same];exact hx)
  ·exact (h.off hdn c hc).of (by rw [setCl_same];exact h1) (by rw [setCl_same];exact h2) rfl rfl
 ·exact (h.off hdn c hc).of (by rw [setCl_other _ _ e]) (by rw [setCl_other _ _ e]) rfl rfl
theorem VInv.setQ (h:VInv v) (q:Nat→List Ask) (hq:∀ c,c<6→(v.cl c).s.on=true∨q c=v.q c) (ho:VOk { v with q:=q }):VInv { v with q:=q }:=by
 refine ⟨ho,h.tot,fun hdn c hc=>?_⟩
 rcases hq c hc with h1|h1
 ·exact .inl h1
 ·exact (h.off hdn c hc).of (v':={ v with q:=q }) rfl rfl h1 rfl
theorem VInv.got (h:VInv v) {n:Nat} (hn:n<6) (g:Got):VInv (gotR n g v).2:=by
 have ho:=h.ok.got hn g
 revert ho
 unfold gotR
 split
 ·exact fun _=>h
 ·split
  ·exact fun _=>h
  ·rename_i hcl
   split
   ·exact fun _=>h
   ·rename_i ht
    split
    ·exact fun ho=>h.gone n _ rfl ho
    ·rename_i h1
     have hon:=take_on (s:=(v.cl n).s) (a:=g.ask) (now:=v.now) (by omega) h1
     split
     ·exact fun ho=>h.speak n _ (.inl hon) ho
     ·intro ho
      have e1:VOk (v.setCl n ⟨((v.cl n).s.take g.ask v.now).1,(v.cl n).left,(v.cl n).drop⟩):=h.ok.setCl n ⟨((v.cl n).s.take g.ask v.now).1,(v.cl n).left,(v.cl n).drop⟩ (take_ok (h.ok.sess n hn).1 (h.ok.sess n hn).2) (h.ok.left n hn)
      refine (h.speak n _ (.inl hon) e1).setQ _ (fun c hc=>?_) ho
      by_cases e:c=n
      ·subst e;exact .inl (by rw [setCl_same];exact hon)
      ·refine .inr ?_
       show putTo v.q g.ask c=v.q c
       unfold putTo
       split
       ·exact if_neg (by omega)
       ·rfl
theorem VInv.feed (h:VInv v) {n:Nat} (hn:n<6) (s:List UInt8):VInv (feedR n s v).2:=by
 unfold feedR
 split
 ·exact h
 ·refine fold_keep (P:=fun p:List Rep × VSt=>VInv p.2) (f:=gotStep n) (b:=([],v.setCl n ⟨(v.cl n).s,leftL ((v.cl n).left++s),(v.cl n).drop⟩)) (fun p g hp=>hp.got hn g) _ (h.speak n ⟨(v.cl n).s,leftL ((v.cl n).left++s),(v.cl n).drop⟩ (.inr ⟨rfl,rfl⟩) (h.ok.setCl n ⟨(v.cl n).s,leftL ((v.cl n).left++s),(v.cl n).drop⟩ (h.ok.sess n hn) ?_))
  show (leftL ((v.cl n).left++s)).length<30
  rw [leftL_len]
  omega
theorem VInv.late (h:VInv v) (now n:Nat):VInv (lateStep now v n):=by
 have ho:=h.ok.late now n
 revert ho
 unfold lateStep
 split
 ·exact fun ho=>h.gone n _ rfl ho
 ·exact fun _=>h
theorem VOk.tock (h:VOk v):VOk { v with now:=v.now+1 } :=
 ⟨h.fl,h.pinv,h.seed,h.rule,h.turn,fun n hn=>by obtain ⟨a,b,c⟩:=h.sess n hn;exact ⟨a,b,by show (v.cl n).s.last≤((v.now+1:Nat):Int);omega⟩,h.left,h.que,by show v.bat≤v.now+1;have:=h.bat;omega⟩
theorem VInv.tock (h:VInv v):VInv { v with now:=v.now+1 }:=⟨h.ok.tock,h.tot,h.off⟩
def lateV (v:VSt):VSt:=(List.range 6).foldl (lateStep (v.now+1)) { v with now:=v.now+1 }
theorem VInv.lateAll (h:VInv v):VInv (lateV v):=fold_keep (P:=VInv) (fun _ n hp=>hp.late _ n) _ h.tock
def drainedV (v:VSt):VSt:=undropped { v with q:=fun d=>(v.q d).drop 2,turn:=(v.turn+1) % 6 }
theorem VOk.drained (h:VOk v):VOk (drainedV v) :=
 ⟨h.fl,h.pinv,h.seed,h.rule,Nat.mod_lt _ (by decide),h.sess,h.left,fun n hn=>⟨Nat.le_trans (by show ((v.q n).drop 2).length≤(v.q n).length;simp) (h.que n hn).1,fun a ha=>(h.que n hn).2 a (List.mem_of_mem_drop ha)⟩,h.bat⟩
theorem late_keep (now n:Nat) (v:VSt):(lateStep now v n).f=v.f∧(lateStep now v n).now=v.now∧(lateStep now v n).bat=v.bat∧(lateStep now v n).down=v.down∧(lateStep now v n).d=v.d∧(lateStep now v n).c=v.c∧(lateStep now v n).turn=v.turn:=by
 unfold lateStep
 split<;>exact ⟨rfl,rfl,rfl,rfl,rfl,rfl,rfl⟩
theorem lateAll_keep (v:VSt):(lateV v).f=v.f∧(lateV v).now=v.now+1∧(lateV v).bat=v.bat∧(lateV v).down=v.down∧(lateV v).d=v.d∧(lateV v).c=v.c∧(lateV v).turn=v.turn :=
 fold_keep (P:=fun x:VSt=>x.f=v.f∧x.now=v.now+1∧x.bat=v.bat∧x.down=v.down∧x.d=v.d∧x.c=v.c∧x.turn=v.turn) (fun x n ⟨a,b,c,d,e,f,g⟩=>by
  obtain ⟨a2,b2,c2,d2,e2,f2,g2⟩:=late_keep (v.now+1) n x
  exact ⟨a2.trans a,b2.trans b,c2.trans c,d2.trans d,e2.trans e,f2.trans f,g2.trans g⟩) _ ⟨rfl,rfl,rfl,rfl,rfl,rfl,rfl⟩
theorem tickR_no (hd:v.down=false) (h3:(v.now+1) % 3≠0):tickR v=([],lateV v):=by
 unfold tickR
 rw [if_neg (by rw [hd];decide)]
 show (if (v.now+1) % 3≠0 then ([],lateV v) else _)=_
 rw [if_pos h3]
def recOf (v:VSt):List UInt8:=recordL v.bat (dropsL v) (outOf v.q v.turn 6)
def tapedV (v:VSt):VSt:={ drainedV v with d:=v.d.app (recOf v) }
theorem batchR_keep (d:List Int) (a:List Ask) (u:VSt):(batchR d a u).2.now=u.now∧(batchR d a u).2.cl=u.cl∧(batchR d a u).2.q=u.q∧(batchR d a u).2.down=u.down:=⟨rfl,rfl,rfl,rfl⟩
theorem tapedV_keep (u:VSt):(tapedV u).now=u.now∧(∀ c,((tapedV u).cl c).s=(u.cl c).s)∧(∀ c,c<6→((tapedV u).cl c).drop=false)∧(tapedV u).down=u.down∧(∀ c,(tapedV u).q c=(u.q c).drop 2):=⟨rfl,fun _=>rfl,fun _ hc=>if_pos hc,rfl,fun _=>rfl⟩
theorem tickR_bad (hd:v.down=false) (h3:(v.now+1) % 3=0) (hb:(lateV v).d.appE (recOf (lateV v))≠0):tickR v=([],{ tapedV (lateV v) with down:=true }):=by
 unfold tickR
 rw [if_neg (by rw [hd];decide)]
 show (if (v.now+1) % 3≠0 then ([],lateV v) else if (lateV v).d.appE (recOf (lateV v))≠0 then ([],{ tapedV (lateV v) with down:=true }) else _)=_
 rw [if_neg (by omega),if_pos hb]
theorem tickR_bat (hd:v.down=false) (h3:(v.now+1) % 3=0) (hb:(lateV v).d.appE (recOf (lateV v))=0):tickR v=batchR ((dropsL (lateV v)).map fun (n:Nat)=>(n:Int)) (outOf (lateV v).q (lateV v).turn 6) (tapedV (lateV v)):=by
 unfold tickR
 rw [if_neg (by rw [hd];decide)]
 show (if (v.now+1) % 3≠0 then ([],lateV v) else if (lateV v).d.appE (recOf (lateV v))≠0 then ([],{ tapedV (lateV v) with down:=true }) else batchR ((dropsL (lateV v)).map fun (n:Nat)=>(n:Int)) (outOf (lateV v).q (lateV v).turn 6) (tapedV (lateV v)))=_
 rw [if_neg (by omega),if_neg (by omega)]
theorem out_mem {l:Nat→List Ask} {turn:Nat} {a:Ask}:∀ k,a∈outOf l turn k→∃ d,d<6∧a∈l d
 | 0,h=>by cases h
 | k+1,h=>by
  rcases List.mem_append.1 (show a∈outOf l turn k++(l ((turn+k) % 6)).take 2 from h) with h|h
  ·exact out_mem k h
  ·exact ⟨_,Nat.mod_lt _ (by decide),List.mem_of_mem_take h⟩
theorem VOk.taped (h:VOk v):VOk (tapedV v):=⟨h.drained.fl,h.drained.pinv,h.drained.seed,h.drained.rule,h.drained.turn,h.drained.sess,h.drained.left,h.drained.que,h.drained.bat⟩
theorem VInv.batched (h:VInv v) (hb:v.bat+1≤v.now) (hdn:v.down=false):VInv (batchR ((dropsL v).map fun (n:Nat)=>(n:Int)) (outOf v.q v.turn 6) (tapedV v)).2:=by
 have h1:=h.ok.taped
 refine ⟨h1.batch _ _ hb,batch_tot h1 _ _ h.tot,fun _ c hc=>?_⟩
 rcases h.off hdn c hc with h2|⟨h2,h3⟩
 ·refine .inl ?_
  rw [(batchR_keep _ _ _).2.1,(tapedV_keep v).2.1 c]
  exact h2
 ·refine .inr ⟨?_,.inr (batch_no h1 _ _ ?_ fun a ha=>?_)⟩
  ·rw [(batchR_keep _ _ _).2.2.1,(tapedV_keep v).2.2.2.2 c,h2];rfl
  ·rcases h3 with h3|h3
   ·refine .inl (List.mem_map.2 ⟨c,?_,rfl⟩)
    exact List.mem_filter.2 ⟨List.mem_range.2 hc,h3⟩
   ·exact .inr h3
  ·obtain ⟨d,hd,hm⟩:=out_mem 6 ha
   have hcl:=((h.ok.que d hd).2 a hm).2.1
   intro e
   have:d=c:=by omega
   subst this
   rw [h2] at hm
   cases hm
theorem VInv.tick (h:VInv v):VInv (tickR v).2:=by
 cases hd:v.down with
 | true=>unfold tickR;rw [if_pos hd];exact h
 | false =>
  have h1:=h.lateAll
  obtain ⟨k1,k2,k3,k4,_⟩:=lateAll_keep v
  by_cases h3:(v.now+1) % 3=0
  ·by_cases hb:(lateV v).d.appE (recOf (lateV v))=0
   ·rw [tickR_bat hd h3 hb]
    exact h1.batched (by rw [k2,k3];have:=h.ok.bat;omega) (k4.trans hd)
   ·rw [tickR_bad hd h3 hb]
    have h2:=h1.ok.taped
    exact ⟨⟨h2.fl,h2.pinv,h2.seed,h2.rule,h2.turn,h2.sess,h2.left,h2.que,h2.bat⟩,h1.tot,fun e=>by cases e⟩
  ·rw [tickR_no hd h3];exact h1
end
end Go.Proofs.YtabbgpjofkaomaaGreatDoor
