import Derived.Test.YtabbgpjofkaomaaGreatDoorVToldL
import Derived.Test.YtabbgpjofkaomaaGreatDoorVPartsL
import Derived.Test.YtabbgpjofkaomaaGreatDoorJ34
import Derived.Test.YtabbgpjofkaomaaGreatDoorVenT
import Derived.Test.YtabbgpjofkaomaaGreatDoorVLaw6
set_option linter.unusedSimpArgs false
set_option linter.unusedVariables false
/- Plain facts of VenueTold: a client that nobody spoke for, and a number that no order has, through a walk; and then its order. -/
namespace Go.Proofs.YtabbgpjofkaomaaGreatDoor
open Go.RowKit
structure Runs (v:VSt):Prop where
 down:v.down=false
 off:v.d.off=false
 cut:v.d.cut<0
 len:v.d.b.length≤10012*v.bat
 bat:3*v.bat≤v.now
structure Fresh (v:VSt) (c:Nat) (id:Int):Prop where
 runs:Runs v
 cl:v.cl c=⟨⟨false,0,0⟩,[],false⟩
 q:v.q c=[]
 qid:∀ d,∀ a∈v.q d,a.id≠id
 left:∀ d,d<6→(v.cl d).left=[]
 books:IdP NoS v.f id
theorem recOf_small (v:VSt) (hb:v.bat≤1000000):(recOf v).length≤10000:=by
 unfold recOf recordL
 have h1:=Lib.itoa_length_le (v.bat:Int) (by omega) (by omega)
 have h2:=joinS_len ((dropsL v).map fun (c:Nat)=>Lib.itoa (c:Int)) (fun x hx=>by
  obtain ⟨c,hc,rfl⟩:=List.mem_map.1 hx
  exact itoaS_len c (List.mem_range.1 (List.mem_filter.1 hc).1))
 have h3:(dropsL v).length≤6:=Nat.le_trans (List.length_filter_le _ _) (by simp)
 have h4:=outOf_length v.q v.turn 6
 have h5:∀ l:List Ask,(l.flatMap fun a=>if a.err=0 then 32::hexL a.frame.data.toList else []).length≤61*l.length:=by
  intro l
  induction l with
  | nil=>simp
  | cons a l ih =>
   rw [List.flatMap_cons,List.length_append,List.length_cons]
   have:=fr_len a
   have:=hexL_len a.frame.data.toList
   split
   ·rw [List.length_cons];omega
   ·simp only [List.length_nil];omega
 have h6:=h5 (outOf v.q v.turn 6)
 rw [List.length_map] at h2
 rw [List.length_append,List.length_append,List.length_cons]
 omega
theorem app_ok {d:Dk} {s:List UInt8} (h1:d.off=false) (h2:d.cut<0) (h3:s.length≤10000) (h4:d.b.length+(s.length+12)≤1048576):d.appE s=0∧d.app s=⟨d.b++recL s,false,d.cut⟩:=by
 unfold Dk.appE Dk.app
 rw [if_neg (by omega),if_neg (by omega),if_neg (by rw [h1];decide),if_neg (by omega),if_neg (by omega),if_neg (by omega),if_neg (by rw [h1];decide),if_neg (by omega),if_neg (by omega)]
 exact ⟨rfl,rfl⟩
theorem late_facts (now:Nat) (l:List Nat) (v:VSt):(∀ c,(v.cl c).s.late (now:Int)=false→(l.foldl (lateStep now) v).cl c=v.cl c∧(l.foldl (lateStep now) v).q c=v.q c)∧(∀ d,(l.foldl (lateStep now) v).q d=v.q d∨(l.foldl (lateStep now) v).q d=[])∧∀ d,((l.foldl (lateStep now) v).cl d).left=(v.cl d).left∨((l.foldl (lateStep now) v).cl d).left=[] :=
 fold_keep (P:=fun x:VSt=>(∀ c,(v.cl c).s.late (now:Int)=false→x.cl c=v.cl c∧x.q c=v.q c)∧(∀ d,x.q d=v.q d∨x.q d=[])∧∀ d,(x.cl d).left=(v.cl d).left∨(x.cl d).left=[]) (fun x n ⟨a,b,e⟩=>by
  unfold lateStep
  split
  ·rename_i hl
   refine ⟨fun c hc=>?_,fun d=>?_,fun d=>?_⟩
   ·have hne:c≠n:=fun h=>by
     subst h
     rw [(a c hc).1,hc] at hl
     cases hl
    have h1:((x.setCl n ⟨⟨false,0,0⟩,[],true⟩).clear n).cl c=x.cl c:=if_neg hne
    have h2:((x.setCl n ⟨⟨false,0,0⟩,[],true⟩).clear n).q c=x.q c:=if_neg hne
    rw [h1,h2]
    exact a c hc
   ·by_cases hd:d=n
    ·exact .inr (if_pos hd)
    ·have h2:((x.setCl n ⟨⟨false,0,0⟩,[],true⟩).clear n).q d=x.q d:=if_neg hd
     rw [h2]
     exact b d
   ·by_cases hd:d=n
    ·right
     have h1:((x.setCl n ⟨⟨false,0,0⟩,[],true⟩).clear n).cl d=⟨⟨false,0,0⟩,[],true⟩:=if_pos hd
     rw [h1]
    ·have h1:((x.setCl n ⟨⟨false,0,0⟩,[],true⟩).clear n).cl d=x.cl d:=if_neg hd
     rw [h1]
     exact e d
  ·exact ⟨a,b,e⟩) l ⟨fun _ _=>⟨rfl,rfl⟩,fun _=>.inl rfl,fun _=>.inl rfl⟩
theorem lateV_facts (v:VSt):(∀ c,(v.cl c).s.late ((v.now+1:Nat):Int)=false→(lateV v).cl c=v.cl c∧(lateV v).q c=v.q c)∧(∀ d,(lateV v).q d=v.q d∨(lateV v).q d=[])∧∀ d,((lateV v).cl d).left=(v.cl d).left∨((lateV v).cl d).left=[]:=late_facts (v.now+1) (List.range 6) { v with now:=v.now+1 }
theorem lateV_qid {v:VSt} {id:Int} (h:∀ d,∀ a∈v.q d,a.id≠id):∀ d,∀ a∈(lateV v).q d,a.id≠id:=fun d a ha=>by
 rcases (lateV_facts v).2.1 d with e|e
 ·rw [e] at ha;exact h d a ha
 ·rw [e] at ha;cases ha
theorem batch_no_id {v:VSt} (h:FP v.f) (h2:1≤v.c.hl∧v.c.hl≤1000) {id:Int} (hn:IdP NoS v.f id) (ds:List Int) (A:List Ask) (hA:∀ b∈A,b.id≠id):IdP NoS (batchR ds A v).2.f id:=by
 obtain ⟨d1,d2,d3⟩:=drops_no (id:=id) ds (p:=([],v.f)) h hn
 unfold batchR
 simp only
 generalize ds.foldl dropRep ([],v.f)=p at *
 obtain ⟨e1,e2,e3,e4⟩:=reqs_other A (q:=⟨p.1,[],p.2⟩) d1 d2 hA
 generalize A.foldl reqStep ⟨p.1,[],p.2⟩=q at *
 have e4':afil id q.placed=[]:=e4
 have hp2:afil id (lastL q.placed)=[]:=last_afil_nil e4'
 obtain ⟨_,g2,_,_⟩:=items_other (v:=v) h2 (k0:=3) (id:=id) (placed:=lastL q.placed) (fun b hb=>by rw [hp2] at hb;cases hb) (List.range 3) (fun n hn=>by have:=List.mem_range.1 hn;omega) (p:=(q.out,q.st)) e1 (fun j hj _ y hy e=>(e2 j hj y e).1 hy)
 exact fun j hj y hy=>⟨fun hm=>g2 j hj (by omega) y hm hy,fun h=>h.elim⟩
theorem tick_bat {v:VSt} (hR:Runs v) (h3:(v.now+1) % 3=0) (hnow:v.now≤300):tickR v=batchR ((dropsL (lateV v)).map fun (n:Nat)=>(n:Int)) (outOf (lateV v).q (lateV v).turn 6) (tapedV (lateV v))∧(tapedV (lateV v)).d=⟨v.d.b++recL (recOf (lateV v)),false,v.d.cut⟩∧(recOf (lateV v)).length≤10000:=by
 obtain ⟨k1,k2,k3,k4,k5,k6,k7⟩:=lateAll_keep v
 have hb:=hR.bat
 have hl:=hR.len
 have hs:=recOf_small (lateV v) (by rw [k3];omega)
 obtain ⟨a1,a2⟩:=app_ok (d:=(lateV v).d) (s:=recOf (lateV v)) (by rw [k5];exact hR.off) (by rw [k5];exact hR.cut) hs (by rw [k5];omega)
 refine ⟨tickR_bat hR.down h3 a1,?_,hs⟩
 show (lateV v).d.app (recOf (lateV v))=_
 rw [a2,k5]
theorem batchR_more (d:List Int) (a:List Ask) (u:VSt):(batchR d a u).2.d=u.d∧(batchR d a u).2.bat=u.bat+1:=⟨rfl,rfl⟩
theorem tapedV_bat (u:VSt):(tapedV u).bat=u.bat∧(tapedV u).f=u.f∧∀ c,((tapedV u).cl c).left=(u.cl c).left:=⟨rfl,rfl,fun _=>rfl⟩
theorem Runs.tick {v:VSt} (hR:Runs v) (hnow:v.now≤300):Runs (tickR v).2∧(tickR v).2.now=v.now+1:=by
 obtain ⟨k1,k2,k3,k4,k5,k6,k7⟩:=lateAll_keep v
 have hb:=hR.bat
 have hl:=hR.len
 by_cases h3:(v.now+1) % 3=0
 ·obtain ⟨e,ed,hs⟩:=tick_bat hR h3 hnow
  rw [e]
  have hr:=recL_len (recOf (lateV v))
  obtain ⟨c1,c2,c3,c4⟩:=batchR_keep ((dropsL (lateV v)).map fun (n:Nat)=>(n:Int)) (outOf (lateV v).q (lateV v).turn 6) (tapedV (lateV v))
  obtain ⟨c5,c6⟩:=batchR_more ((dropsL (lateV v)).map fun (n:Nat)=>(n:Int)) (outOf (lateV v).q (lateV v).turn 6) (tapedV (lateV v))
  obtain ⟨p1,p2,p3,p4,p5⟩:=tapedV_keep (lateV v)
  have p6:=(tapedV_bat (lateV v)).1
  generalize (batchR ((dropsL (lateV v)).map fun (n:Nat)=>(n:Int)) (outOf (lateV v).q (lateV v).turn 6) (tapedV (lateV v))).2=u at *
  rw [ed] at c5
  rw [p1,k2] at c1
  rw [p4,k4] at c4
  rw [p6,k3] at c6
  generalize recOf (lateV v)=rc at *
  have hu:u.d.b=v.d.b++recL rc∧u.d.off=false∧u.d.cut=v.d.cut:=by rw [c5];exact ⟨rfl,rfl,rfl⟩
  have hlen:u.d.b.length=v.d.b.length+(rc.length+12):=by rw [hu.1,List.length_append,hr]
  exact ⟨⟨c4.trans hR.down,hu.2.1,by rw [hu.2.2];exact hR.cut,by omega,by omega⟩,c1⟩
 ·rw [tickR_no hR.down h3]
  show Runs (lateV v)∧(lateV v).now=_
  exact ⟨⟨k4.trans hR.down,by rw [k5];exact hR.off,by rw [k5];exact hR.cut,by rw [k5,k3];exact hl,by rw [k2,k3];omega⟩,k2⟩
theorem Fresh.tick {v:VSt} {c:Nat} {id:Int} (hc:c<6) (h:Fresh v c id) (hv:VInv v) (hnow:v.now≤300):Fresh (tickR v).2 c id:=by
 obtain ⟨k1,k2,k3,k4,k5,k6,k7⟩:=lateAll_keep v
 obtain ⟨f1,f2,f3⟩:=lateV_facts v
 have hlate:(v.cl c).s.late ((v.now+1:Nat):Int)=false:=by rw [h.cl];rfl
 obtain ⟨g1,g2⟩:=f1 c hlate
 have hq:=lateV_qid h.qid
 have hleft:∀ d,d<6→((lateV v).cl d).left=[]:=fun d hd=>(f3 d).elim (fun e=>e.trans (h.left d hd)) fun e=>e
 have hR:=(h.runs.tick hnow).1
 by_cases h3:(v.now+1) % 3=0
 ·obtain ⟨e,ed,hs⟩:=tick_bat h.runs h3 hnow
  have hl:=hv.lateAll.ok.taped
  rw [e] at hR ⊢
  refine ⟨hR,?_,?_,fun d a ha=>?_,fun d hd=>?_,?_⟩
  ·show (tapedV (lateV v)).cl c=_
   have e1:(tapedV (lateV v)).cl c=⟨((lateV v).cl c).s,((lateV v).cl c).left,if c<6 then false else ((lateV v).cl c).drop⟩:=rfl
   rw [e1,if_pos hc,g1,h.cl]
  ·show ((lateV v).q c).drop 2=[]
   rw [g2,h.q];rfl
  ·exact hq d a (List.mem_of_mem_drop (show a∈((lateV v).q d).drop 2 from ha))
  ·exact hleft d hd
  ·refine batch_no_id ⟨hl.fl,hl.pinv⟩ hl.rule.2 (by show IdP NoS (lateV v).f id;rw [k1];exact h.books) _ _ fun b hb=>?_
   obtain ⟨d,_,hd⟩:=out_mem 6 hb
   exact hq d b hd
 ·rw [tickR_no h.runs.down h3] at hR ⊢
  exact ⟨hR,g1.trans h.cl,g2.trans h.q,hq,hleft,by show IdP NoS (lateV v).f id;rw [k1];exact h.books⟩
theorem gots_frames:∀ l:List Ask,gotsL (l.flatMap fun a=>if a.err=0 then a.frame.data.toList else [])=(l.filter fun a=>a.err==0).map (fun a=>⟨a,0⟩)∧leftL (l.flatMap fun a=>if a.err=0 then a.frame.data.toList else [])=[]
 | []=>⟨by rw [List.flatMap_nil];exact (gotsL_short (by decide)).1,by rw [List.flatMap_nil];exact (gotsL_short (by decide)).2⟩
 | a::l=>by
  obtain ⟨ih1,ih2⟩:=gots_frames l
  rw [List.flatMap_cons]
  by_cases he:a.err=0
  ·rw [if_pos he,List.filter_cons_of_pos (by simpa using he),List.map_cons]
   have hl:=askFr_len a
   have ht:(a.frame.data.toList++(l.flatMap fun a=>if a.err=0 then a.frame.data.toList else [])).take 30=a.frame.data.toList:=by rw [← hl];exact List.take_left' rfl
   have hd:(a.frame.data.toList++(l.flatMap fun a=>if a.err=0 then a.frame.data.toList else [])).drop 30=l.flatMap fun a=>if a.err=0 then a.frame.data.toList else []:=by rw [← hl];exact List.drop_left' rfl
   obtain ⟨c1,c2⟩:=gotsL_cons (l:=a.frame.data.toList++(l.flatMap fun a=>if a.err=0 then a.frame.data.toList else [])) (by rw [List.length_append];omega)
   rw [c1,c2,ht,hd,ih1,ih2]
   refine ⟨?_,rfl⟩
   obtain ⟨_,_,_,_,_,_,_,hk⟩:=Ask.bounds he
   obtain ⟨d1,d2⟩:=decE_frame (a:=a) (by omega) he
   unfold gotOf
   rw [show (⟨a.frame.data.toList.toArray⟩:ByteArray)=a.frame from rfl,d1,d2]
  ·rw [if_neg he,List.filter_cons_of_neg (by simpa using he),List.nil_append]
   exact ⟨ih1,ih2⟩
theorem Fresh.got {v:VSt} {c:Nat} {id:Int} (h:Fresh v c id) {n:Nat} (hne:n≠c) (g:Got) (hg:g.ask.id≠id) (h0:g.code=0):Fresh (gotR n g v).2 c id:=by
 have key:∀ x:Cli,(v.cl n).left=x.left→Fresh (v.setCl n x) c id:=fun x hx =>
  ⟨⟨h.runs.down,h.runs.off,h.runs.cut,h.runs.len,h.runs.bat⟩,(if_neg (Ne.symm hne)).trans h.cl,h.q,h.qid,fun d hd=>by
   by_cases e:d=n
   ·have h1:(v.setCl n x).cl d=x:=if_pos e
    rw [h1,← hx,← e]
    exact h.left d hd
   ·have h1:(v.setCl n x).cl d=v.cl d:=if_neg e
    rw [h1]
    exact h.left d hd,h.books⟩
 unfold gotR
 split
 ·exact h
 split
 ·exact h
 rename_i hcl
 split
 ·exact h
 split
 ·have k:=key ⟨((v.cl n).s.take g.ask v.now).1,(v.cl n).left,true⟩ rfl
  exact ⟨⟨k.runs.down,k.runs.off,k.runs.cut,k.runs.len,k.runs.bat⟩,k.cl,(if_neg (Ne.symm hne)).trans k.q,fun d a ha=>by
   have ha:a∈(if d=n then [] else v.q d):=ha
   split at ha
   ·cases ha
   ·exact h.qid d a ha,k.left,k.books⟩
 split
 ·exact key _ rfl
 ·have k:=key ⟨((v.cl n).s.take g.ask v.now).1,(v.cl n).left,(v.cl n).drop⟩ rfl
  have hcn:g.ask.client=(n:Int):=by simpa using hcl
  have hq:∀ d,putTo v.q g.ask d=v.q d∨(d=n∧putTo v.q g.ask d=v.q d++[g.ask]):=fun d=>by
   unfold putTo
   split
   ·by_cases e:d=g.ask.client.toNat
    ·right
     refine ⟨by omega,?_⟩
     simp only
     rw [if_pos e,e]
    ·left
     simp only
     rw [if_neg e]
   ·exact .inl rfl
  exact ⟨⟨k.runs.down,k.runs.off,k.runs.cut,k.runs.len,k.runs.bat⟩,k.cl,by
   show putTo v.q g.ask c=[]
   rcases hq c with e|e
   ·rw [e];exact h.q
   ·exact absurd e.1 (Ne.symm hne),fun d a ha=>by
   have ha:a∈putTo v.q g.ask d:=ha
   rcases hq d with e|⟨_,e⟩
   ·rw [e] at ha;exact h.qid d a ha
   ·rw [e] at ha
    rcases List.mem_append.1 ha with ha|ha
    ·exact h.qid d a ha
    ·rw [List.mem_singleton.1 ha];exact hg,k.left,k.books⟩
theorem Fresh.feed {v:VSt} {c:Nat} {id:Int} (h:Fresh v c id) {n:Nat} (hn:n<6) (hne:n≠c) (s:ByteArray) (hs:s.data.toList=[]) (l:List Ask) (hl:∀ a∈l,a.id≠id):Fresh (feedR n (bytesL s l) v).2 c id:=by
 obtain ⟨g1,g2⟩:=gots_frames l
 unfold feedR bytesL
 rw [if_neg (by rw [h.runs.down];decide),hs,h.left n hn,List.nil_append,List.nil_append,g1,g2]
 have hv:Fresh (v.setCl n ⟨(v.cl n).s,[],(v.cl n).drop⟩) c id:=⟨⟨h.runs.down,h.runs.off,h.runs.cut,h.runs.len,h.runs.bat⟩,(if_neg (Ne.symm hne)).trans h.cl,h.q,h.qid,fun d hd=>by
   by_cases e:d=n
   ·have h1:(v.setCl n ⟨(v.cl n).s,[],(v.cl n).drop⟩).cl d=⟨(v.cl n).s,[],(v.cl n).drop⟩:=if_pos e
    rw [h1]
   ·have h1:(v.setCl n ⟨(v.cl n).s,[],(v.cl n).drop⟩).cl d=v.cl d:=if_neg e
    rw [h1]
    exact h.left d hd,h.books⟩
 exact fold_keep_mem (P:=fun p:List Rep × VSt=>Fresh p.2 c id) _ (f:=gotStep n) (b:=([],v.setCl n ⟨(v.cl n).s,[],(v.cl n).drop⟩)) (fun p g hg hp=>by
  obtain ⟨a,ha,rfl⟩:=List.mem_map.1 hg
  exact hp.got hne ⟨a,0⟩ (hl a (List.mem_filter.1 ha).1) rfl) hv
def Alone (c:Nat) (id:Int) (L:List SV):Prop:=∀ x∈L,(x.kind.toList==[99,117,116])=false∧x.client≠(c:Int)∧x.s.data.toList=[]∧∀ a∈x.asks,a.id≠id
theorem Fresh.ticks {p:List Rep × VSt} {c:Nat} {id:Int} (hc:c<6) (h:Fresh p.2 c id) (hv:VInv p.2):∀ n,p.2.now+n≤300→Fresh (tkSteps n p).2 c id∧VInv (tkSteps n p).2∧(tkSteps n p).2.now=p.2.now+n
 | 0,_=>⟨h,hv,rfl⟩
 | n+1,hb=>by
  obtain ⟨a1,a2,a3⟩:=Fresh.ticks hc h hv n (by omega)
  exact ⟨a1.tick hc a2 (by omega),a2.tick,by
   show (tickR (tkSteps n p).2).2.now=_
   rw [(a1.runs.tick (by omega)).2,a3]
   omega⟩
theorem Fresh.step {p:List Rep × VSt} {c:Nat} {id:Int} (hc:c<6) (h:Fresh p.2 c id) (hv:VInv p.2) {x:SV} (hx:(x.kind.toList==[99,117,116])=false∧x.client≠(c:Int)∧x.s.data.toList=[]∧∀ a∈x.asks,a.id≠id) (hb:p.2.now+8≤300):Fresh (walkStep p x).2 c id:=by
 obtain ⟨x1,x2,x3,x4⟩:=hx
 unfold walkStep
 split
 ·show Fresh (feedS x.client (bytesL x.s x.asks) p.2) c id
  unfold feedS
  split
  ·rename_i hr
   have:=inR_iff.1 hr
   exact h.feed (by omega) (by omega) _ x3 _ x4
  ·exact h
 ·rw [if_neg (by rw [x1];decide)]
  exact (h.ticks hc hv _ (by have:=Nat.min_le_right x.n.toNat 8;omega)).1
theorem Fresh.walk {c:Nat} {id:Int} (hc:c<6):∀ (L:List SV) {p:List Rep × VSt},Fresh p.2 c id→VInv p.2→Alone c id L→p.2.now+8*L.length≤300→Fresh (L.foldl walkStep p).2 c id
 | [],_,h,_,_,_=>h
 | x::L,p,h,hv,hL,hb=>by
  rw [List.length_cons] at hb
  obtain ⟨h1,h2,_⟩:=walkStep_facts hv x
  rw [List.foldl_cons]
  exact Fresh.walk hc L (h.step hc hv (hL x (List.mem_cons_self ..)) (by omega)) h1 (fun y hy=>hL y (List.mem_cons_of_mem _ hy)) (by omega)
structure Ready (v:VSt) (c:Nat) (a:Ask) (t:Nat):Prop where
 runs:Runs v
 s:(v.cl c).s=⟨true,3,(t:Int)⟩
 time:v.now≤t+2
 q:v.q c=[a]
 qid:∀ d,d≠c→∀ b∈v.q d,b.id≠a.id
 books:IdP NoS v.f a.id
def askIn (c:Nat):Ask:=⟨108,c,1,0,0,0,0,0⟩
theorem askIn_err {c:Nat} (hc:c<6):(askIn c).err=0:=by
 have h6:c=0∨c=1∨c=2∨c=3∨c=4∨c=5:=by omega
 rcases h6 with rfl|rfl|rfl|rfl|rfl|rfl<;>decide +kernel
theorem Fresh.order {v:VSt} {c:Nat} (hc:c<6) {a:Ask} (h:Fresh v c a.id) (he:a.err=0) (hk:a.kind=111) (hcl:a.client=(c:Int)) (hsq:a.seq=2) :
  (feedR c ((askIn c).frame.data.toList++a.frame.data.toList) v).1=[⟨(c:Int),kAcc,a.id,0,0,0⟩]∧Ready (feedR c ((askIn c).frame.data.toList++a.frame.data.toList) v).2 c a v.now:=by
 have hi:=askIn_err hc
 obtain ⟨g1,g2⟩:=gots_frames [askIn c,a]
 rw [List.flatMap_cons,List.flatMap_cons,List.flatMap_nil,if_pos hi,if_pos he,List.append_nil,List.filter_cons_of_pos (by simpa using hi),List.filter_cons_of_pos (by simpa using he),List.filter_nil] at g1
 rw [List.flatMap_cons,List.flatMap_cons,List.flatMap_nil,if_pos hi,if_pos he,List.append_nil] at g2
 have hcv:v.cl c=⟨⟨false,0,0⟩,[],false⟩:=h.cl
 have t1:(⟨false,0,0⟩:Sess).take (askIn c) (v.now:Int)=(⟨true,2,(v.now:Int)⟩,0):=by
  unfold Sess.take
  rw [if_pos hi]
  rfl
 have t2:(⟨true,2,(v.now:Int)⟩:Sess).take a (v.now:Int)=(⟨true,3,(v.now:Int)⟩,0):=by
  unfold Sess.take
  rw [if_pos he,hk,hsq]
  rfl
 have e1:gotR c ⟨askIn c,0⟩ (v.setCl c ⟨⟨false,0,0⟩,[],false⟩)=([],v.setCl c ⟨⟨true,2,(v.now:Int)⟩,[],false⟩):=by
  unfold gotR
  rw [if_neg (by simp),if_neg (by show ¬ ((c:Int)≠(c:Int));simp),setCl_self]
  simp only
  rw [show (v.setCl c ⟨⟨false,0,0⟩,[],false⟩).now=v.now from rfl,t1,if_neg (by simp),if_neg (by show ¬ ((108:Int)=113);decide),if_pos (.inl rfl),setCl_twice]
 have hput:putErr v.q a=0:=by
  unfold putErr
  rw [hk,if_neg (by decide),hcl,if_pos (inR_iff.2 (by omega)),Int.toNat_natCast,h.q,if_neg (by simp)]
 have e2:gotR c ⟨a,0⟩ (v.setCl c ⟨⟨true,2,(v.now:Int)⟩,[],false⟩)=([⟨(c:Int),kAcc,a.id,0,0,0⟩],{ v.setCl c ⟨⟨true,3,(v.now:Int)⟩,[],false⟩ with q:=putTo v.q a }):=by
  unfold gotR
  rw [if_neg (by simp),if_neg (by show ¬ (a.client≠(c:Int));rw [hcl];simp),setCl_self]
  simp only
  rw [show (v.setCl c ⟨⟨true,2,(v.now:Int)⟩,[],false⟩).now=v.now from rfl,show (v.setCl c ⟨⟨true,2,(v.now:Int)⟩,[],false⟩).q=v.q from rfl,t2,if_neg (by simp),if_neg (by rw [hk];decide),if_neg (by rw [hk];decide),setCl_twice,if_pos hput]
 have e3:feedR c ((askIn c).frame.data.toList++a.frame.data.toList) v=([⟨(c:Int),kAcc,a.id,0,0,0⟩],{ v.setCl c ⟨⟨true,3,(v.now:Int)⟩,[],false⟩ with q:=putTo v.q a }):=by
  unfold feedR
  rw [if_neg (by rw [h.runs.down];decide),hcv]
  simp only
  rw [List.nil_append,g1,g2]
  simp only [List.map_cons,List.map_nil,List.foldl_cons,List.foldl_nil,gotStep]
  rw [e1]
  simp only
  rw [e2]
  rfl
 rw [e3]
 have hq:∀ d,putTo v.q a d=if d=c then v.q c++[a] else v.q d:=fun d=>by
  unfold putTo
  rw [if_pos hput,hcl,Int.toNat_natCast]
 refine ⟨rfl,⟨h.runs.down,h.runs.off,h.runs.cut,h.runs.len,h.runs.bat⟩,by show ((v.setCl c _).cl c).s=_;rw [setCl_self],Nat.le_add_right _ _,?_,fun d hd b hb=>?_,h.books⟩
 ·show putTo v.q a c=[a]
  rw [hq,if_pos rfl,h.q]
  rfl
 ·have hb:b∈putTo v.q a d:=hb
  rw [hq,if_neg hd] at hb
  exact h.qid d b hb
theorem out_split {l:Nat→List Ask} {turn c k:Nat} (hc:(turn+k) % 6=c):∀ m,k<m→∃ B,outOf l turn m=outOf l turn k++((l c).take 2++B)∧∀ x∈B,∃ j,k<j∧j<m∧x∈l ((turn+j) % 6)
 | 0,h=>absurd h (Nat.not_lt_zero k)
 | m+1,h=>by
  by_cases e:k=m
  ·subst e
   refine ⟨[],?_,fun x hx=>by cases hx⟩
   show outOf l turn k++(l ((turn+k) % 6)).take 2=_
   rw [hc,List.append_nil]
  ·obtain ⟨B,h1,h2⟩:=out_split hc m (by omega)
   refine ⟨B++(l ((turn+m) % 6)).take 2,?_,fun x hx=>?_⟩
   ·show outOf l turn m++(l ((turn+m) % 6)).take 2=_
    rw [h1,List.append_assoc,List.append_assoc]
   ·rcases List.mem_append.1 hx with hx|hx
    ·obtain ⟨j,a1,a2,a3⟩:=h2 x hx
     exact ⟨j,a1,by omega,a3⟩
    ·exact ⟨m,by omega,by omega,List.mem_of_mem_take hx⟩
theorem out_mem2 {l:Nat→List Ask} {turn:Nat} {a:Ask}:∀ k,a∈outOf l turn k→∃ j,j<k∧a∈l ((turn+j) % 6)
 | 0,h=>by cases h
 | k+1,h=>by
  rcases List.mem_append.1 (show a∈outOf l turn k++(l ((turn+k) % 6)).take 2 from h) with h|h
  ·obtain ⟨j,h1,h2⟩:=out_mem2 k h
   exact ⟨j,by omega,h2⟩
  ·exact ⟨k,by omega,List.mem_of_mem_take h⟩
theorem Ready.late {v:VSt} {c:Nat} {a:Ask} {t:Nat} (h:Ready v c a t):(lateV v).cl c=v.cl c∧(lateV v).q c=[a]∧∀ d,d≠c→∀ b∈(lateV v).q d,b.id≠a.id:=by
 obtain ⟨f1,f2,f3⟩:=lateV_facts v
 have ht:=h.time
 have hlate:(v.cl c).s.late ((v.now+1:Nat):Int)=false:=by
  rw [h.s]
  unfold Sess.late
  rw [Bool.true_and,decide_eq_false_iff_not]
  show ¬ ((t:Int)+5<((v.now+1:Nat):Int))
  omega
 obtain ⟨g1,g2⟩:=f1 c hlate
 refine ⟨g1,g2.trans h.q,fun d hd b hb=>?_⟩
 rcases f2 d with e|e
 ·rw [e] at hb;exact h.qid d hd b hb
 ·rw [e] at hb;cases hb
theorem Ready.wait {v:VSt} {c:Nat} {a:Ask} {t:Nat} (h:Ready v c a t) (h3:(v.now+1) % 3≠0) (ht:v.now≤t+1) (hnow:v.now≤300):(tickR v).1=[]∧Ready (tickR v).2 c a t:=by
 obtain ⟨k1,k2,k3,k4,k5,k6,k7⟩:=lateAll_keep v
 obtain ⟨l1,l2,l3⟩:=h.late
 have hR:=(h.runs.tick hnow).1
 rw [tickR_no h.runs.down h3] at hR ⊢
 exact ⟨rfl,hR,by show ((lateV v).cl c).s=_;rw [l1];exact h.s,by show (lateV v).now≤_;rw [k2];omega,l2,l3,by show IdP NoS (lateV v).f a.id;rw [k1];exact h.books⟩
theorem Ready.batch {v:VSt} {c:Nat} (hc:c<6) {a:Ask} {t:Nat} (h:Ready v c a t) (hv:VInv v) (hk:a.kind=111) (hcl:a.client=(c:Int)) (h3:(v.now+1) % 3=0) (hnow:v.now≤300):Told (c:Int) a.id a.qty (tickR v).1:=by
 obtain ⟨k1,k2,k3,k4,k5,k6,k7⟩:=lateAll_keep v
 obtain ⟨l1,l2,l3⟩:=h.late
 obtain ⟨e,ed,hs⟩:=tick_bat h.runs h3 hnow
 have hl:=hv.lateAll.ok
 have hl2:=hl.taped
 have htu:=hl.turn
 rw [e]
 obtain ⟨k,hk6,hkc⟩:∃ k,k<6∧((lateV v).turn+k) % 6=c:=⟨(c+6 - (lateV v).turn) % 6,by omega,by omega⟩
 obtain ⟨B,e1,e2⟩:=out_split (l:=(lateV v).q) hkc 6 hk6
 rw [e1,l2,show ([a]:List Ask).take 2=[a] from rfl,← hcl]
 refine batch_told ⟨hl2.fl,hl2.pinv⟩ hl2.rule.2 hk (by show IdP NoS (lateV v).f a.id;rw [k1];exact h.books) _ _ B (fun b hb=>?_) (fun b hb=>?_)
 ·obtain ⟨j,hj,hm⟩:=out_mem2 k hb
  exact l3 _ (by omega) b hm
 ·obtain ⟨j,hj1,hj2,hm⟩:=e2 b hb
  exact l3 _ (by omega) b hm
theorem tick_quiet {v:VSt} (h3:(v.now+1) % 3≠0):(tickR v).1=[]:=by
 cases hd:v.down with
 | true=>unfold tickR;rw [if_pos hd]
 | false=>rw [tickR_no hd h3]
theorem Ready.told {v:VSt} {c:Nat} (hc:c<6) {a:Ask} (h:Ready v c a v.now) (hv:VInv v) (hk:a.kind=111) (hcl:a.client=(c:Int)) (hnow:v.now≤290):Told (c:Int) a.id a.qty (tkSteps 3 ([],v)).1:=by
 have e:(tkSteps 3 ([],v)).1=(([]++(tickR v).1)++(tickR (tickR v).2).1)++(tickR (tickR (tickR v).2).2).1:=rfl
 obtain ⟨r1,n1⟩:=h.runs.tick (by omega)
 obtain ⟨r2,n2⟩:=r1.tick (by omega)
 rw [e,List.nil_append]
 have h3:v.now % 3=0∨v.now % 3=1∨v.now % 3=2:=by omega
 rcases h3 with h3|h3|h3
 ·obtain ⟨a1,a2⟩:=h.wait (by omega) (by omega) (by omega)
  obtain ⟨b1,b2⟩:=a2.wait (by omega) (by omega) (by omega)
  rw [a1,b1,List.nil_append,List.nil_append]
  exact b2.batch hc hv.tick.tick hk hcl (by omega) (by omega)
 ·obtain ⟨a1,a2⟩:=h.wait (by omega) (by omega) (by omega)
  rw [a1,tick_quiet (v:=(tickR (tickR v).2).2) (by omega),List.nil_append,List.append_nil]
  exact a2.batch hc hv.tick hk hcl (by omega) (by omega)
 ·rw [tick_quiet (v:=(tickR v).2) (by omega),tick_quiet (v:=(tickR (tickR v).2).2) (by omega),List.append_nil,List.append_nil]
  exact h.batch hc hv hk hcl (by omega) (by omega)
theorem newV_fresh (c:Nat) (id:Int):Fresh (newV smallC) c id :=
 ⟨⟨rfl,rfl,by decide,Nat.zero_le _,Nat.le_refl _⟩,rfl,rfl,fun d a ha=>(by cases ha),fun _ _=>rfl,fun j _ y _=>⟨fun h=>(by cases h),fun h=>h.elim⟩⟩
end Go.Proofs.YtabbgpjofkaomaaGreatDoor

/- VenueTold: what the statement's code answers. -/
namespace Go.Proofs.YtabbgpjofkaomaaGreatDoor
open Go.RowKit
structure TI (id:Int) (R:List Rep) (k:Nat) (n:Nat) (f r:Int):Prop where
 num:n=(rfil id (R.take k)).length
 sum:f+r=sumQ (rfil id (R.take k))
 fb:0≤f∧f≤1000*(k:Int)
 rb:0≤r∧r≤1000*(k:Int)
 ref:∀ x∈rfil id (R.take k),x.kind≠kRef
theorem TI.start (id:Int) (R:List Rep):TI id R 0 0 0 0:=⟨rfl,rfl,⟨by omega,by omega⟩,⟨by omega,by omega⟩,fun x hx=>(by cases hx)⟩
theorem rfil_succ (id:Int) {R:List Rep} {k:Nat} (hk:k<R.length):rfil id (R.take (k+1))=rfil id (R.take k)++if R[k].id=id then [R[k]] else []:=by
 rw [List.take_succ_eq_append_getElem hk,rfil_append]
 congr 1
 unfold rfil
 split
 ·rename_i h
  rw [List.filter_cons_of_pos (by simpa using h)]
  rfl
 ·rename_i h
  rw [List.filter_cons_of_neg (by simpa using h)]
  rfl
theorem TI.le {id:Int} {R:List Rep} {k n:Nat} {f r:Int} (h:TI id R k n f r):n≤k:=by
 have h1:(rfil id (R.take k)).length≤(R.take k).length:=List.length_filter_le _ _
 rw [List.length_take] at h1
 have:=h.num
 omega
theorem TI.skip {id:Int} {R:List Rep} {k n:Nat} {f r:Int} (h:TI id R k n f r) (hk:k<R.length) (hi:R[k].id≠id):TI id R (k+1) n f r:=by
 have e:=rfil_succ id hk
 rw [if_neg hi,List.append_nil] at e
 obtain ⟨h1,h2,h3,h4,h5⟩:=h
 exact ⟨by rw [e];exact h1,by rw [e];exact h2,by omega,by omega,by rw [e];exact h5⟩
theorem kFil_ne:kFil≠kRef:=by decide
theorem kRest_ne:kRest≠kRef:=by decide
theorem TI.hit {c id qty:Int} {R:List Rep} (hT:Told c id qty R) {k n:Nat} {f r:Int} (h:TI id R k n f r) (hk:k<R.length) (hi:R[k].id=id):R[k].client=c ∧
  ((n=0∧R[k].kind=kRef∧0<R[k].code)∨(R[k].kind=kFil∧(0≤R[k].qty∧R[k].qty≤1000)∧TI id R (k+1) (n+1) (f+R[k].qty) r)∨(R[k].kind=kRest∧(0≤R[k].qty∧R[k].qty≤1000)∧TI id R (k+1) (n+1) f (r+R[k].qty))):=by
 have e:=rfil_succ id hk
 rw [if_pos hi] at e
 have hm:R[k]∈rfil id R:=List.mem_filter.2 ⟨List.getElem_mem hk,by simpa using hi⟩
 obtain ⟨h1,h2,h3,h4,h5⟩:=h
 rcases hT with ⟨code,hc,hr⟩|⟨hq,hs,ha⟩
 ·have hrk:R[k]=refR c id code:=by rw [hr] at hm;exact List.mem_singleton.1 hm
  have hsub:(rfil id (R.take (k+1))).length≤(rfil id R).length:=by
   have:=((List.take_sublist (k+1) R).filter (fun r:Rep=>r.id==id)).length_le
   exact this
  rw [e,hr,List.length_append] at hsub
  simp only [List.length_cons,List.length_nil] at hsub
  rw [hrk]
  exact ⟨rfl,.inl ⟨by omega,rfl,by show (0:Int)<(code:Int);omega⟩⟩
 ·obtain ⟨a1,a2,a3,a4⟩:=ha _ hm
  refine ⟨a1,.inr ?_⟩
  have hn:n+1=(rfil id (R.take (k+1))).length:=by rw [e,List.length_append,← h1];rfl
  have hsum:sumQ (rfil id (R.take (k+1)))=f+r+R[k].qty:=by rw [e,sumQ_append,← h2];simp [sumQ]
  have href:R[k].kind≠kRef→∀ x∈rfil id (R.take (k+1)),x.kind≠kRef:=fun hk x hx=>by
   rw [e] at hx
   rcases List.mem_append.1 hx with hx|hx
   ·exact h5 x hx
   ·rw [List.mem_singleton.1 hx];exact hk
  rcases a2 with a2|a2
  ·exact .inl ⟨a2,⟨a3,a4⟩,⟨hn,by rw [hsum];omega,by omega,by omega,href (by rw [a2];exact kFil_ne)⟩⟩
  ·exact .inr ⟨a2,⟨a3,a4⟩,⟨hn,by rw [hsum];omega,by omega,by omega,href (by rw [a2];exact kRest_ne)⟩⟩
theorem TI.done {c id qty:Int} {R:List Rep} (hT:Told c id qty R) {n:Nat} {f r:Int} (h:TI id R R.length n f r):0<n∧f+r=qty:=by
 obtain ⟨h1,h2,h3,h4,h5⟩:=h
 rw [List.take_length] at h1 h2 h5
 rcases hT with ⟨code,hc,hr⟩|⟨hq,hs,ha⟩
 ·exact absurd rfl (h5 (refR c id code) (by rw [hr];exact List.mem_cons_self ..))
 ·refine ⟨?_,h2.trans hs⟩
  cases hl:rfil id R with
  | nil=>rw [hl] at hs;simp only [sumQ] at hs;omega
  | cons x l=>rw [h1,hl,List.length_cons];omega
theorem vexCell {W W':World} {p:Addr} {v:Value} (hx:Ex W W') (h:W.cell? p=some v):W'.cell? p=some v:=by
 have hb:p.block<W.heap.size:=World.block_lt_of_cell? _ _ h
 exact (hx.below.cell hb).trans h
theorem empty_of_eq {s:ByteArray} (h:(s.toList==[])=true):s.data.toList=[]:=by
 have h1:s.toList=[]:=by simpa using h
 rw [ByteArray.toList_eq] at h1
 exact h1
end Go.Proofs.YtabbgpjofkaomaaGreatDoor
