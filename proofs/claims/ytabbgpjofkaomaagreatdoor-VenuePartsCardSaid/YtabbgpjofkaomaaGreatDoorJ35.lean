import Derived.Test.YtabbgpjofkaomaaGreatDoorJ30
import Derived.Test.YtabbgpjofkaomaaGreatDoorJ19
import Derived.Test.YtabbgpjofkaomaaGreatDoorJ7
import Derived.Test.YtabbgpjofkaomaaGreatDoorJ34
import Derived.Deep.RegionHeld3
import Derived.Deep.CutBlock
set_option linter.unusedSimpArgs false
set_option linter.unusedVariables false
/- Plain facts: a venue stays as it should be. -/
namespace Go.Proofs.YtabbgpjofkaomaaGreatDoor
open Go.RowKit
structure VOk (v:VSt):Prop where
 fl:FOk v.f
 pinv:PInv v.f.p
 seed:U32 v.c.seed
 rule:(0≤v.c.wd∧v.c.wd≤100)∧1≤v.c.hl∧v.c.hl≤1000
 turn:v.turn<6
 sess:∀ n,n<6→(0≤(v.cl n).s.next∧(v.cl n).s.next≤1073741825)∧0≤(v.cl n).s.last∧(v.cl n).s.last≤(v.now:Int)
 left:∀ n,n<6→(v.cl n).left.length<30
 que:∀ n,n<6→(v.q n).length≤6∧∀ a∈v.q n,a.err=0∧a.client=(n:Int)∧(a.kind=111∨a.kind=99)
 bat:v.bat≤v.now
theorem place_pinv {st:FSt} (h:PInv st.p) (k:Nat) (x:Lot):PInv (placeS st k x).p:=by
 unfold placeS
 split
 ·exact hold_inv h _ _
 ·exact h
theorem fplace_pinv {st:FSt} (h:PInv st.p) (a:Ask):PInv (fplaceS st a).p:=by
 unfold fplaceS
 split
 ·exact place_pinv h _ _
 ·exact h
theorem gone_pinv {st:FSt} (h:PInv st.p) (k:Nat) (id:Int):PInv (goneR st k id).2.2.p:=by
 unfold goneR
 split
 ·exact free_inv h _ _
 ·exact h
theorem fcancel_pinv {st:FSt} (h:PInv st.p) (a:Ask):PInv (fcancelR st a).2.2.p:=by
 unfold fcancelR
 split
 ·split
  ·exact gone_pinv h _ _
  ·exact h
 ·exact h
theorem fold_keep {α β:Type} {P:β→Prop} {f:β→α→β} (hf:∀ b a,P b→P (f b a)):∀ (l:List α) {b:β},P b→P (l.foldl f b)
 | [],_,h=>h
 | a::l,_,h=>fold_keep hf l (hf _ a h)
theorem fold_keep_mem {α β:Type} {P:β→Prop} {f:β→α→β}:∀ (l:List α) {b:β},(∀ b a,a∈l→P b→P (f b a))→P b→P (l.foldl f b)
 | [],_,_,h=>h
 | a::l,_,hf,h=>fold_keep_mem l (fun b x hx=>hf b x (by simp [hx])) (hf _ a (by simp) h)
theorem fdrop_pinv {st:FSt} (h:PInv st.p) (client:Int):PInv (fdropR st client).2.p :=
 fold_keep (P:=fun p:List Lot × FSt=>PInv p.2.p) (fun p k hp=>fold_keep (P:=fun p:List Lot × FSt=>PInv p.2.p) (fun p id hp=>gone_pinv hp _ _) _ hp) _ h
def FP (st:FSt):Prop:=FOk st∧PInv st.p
theorem FP.run {st:FSt} (h:FP st) {k:Nat} (hk:k<3) {wd hl:Int} (h2:1≤hl∧hl≤1000) (seed:Int):FP (runS st k wd hl seed) :=
 ⟨(run_facts (wd:=wd) h.1 h.2 hk h2 seed).1,(run_facts (wd:=wd) h.1 h.2 hk h2 seed).2.1⟩
theorem FP.request {st:FSt} (h:FP st) (a:Ask):FP (requestR a st).2.2:=by
 unfold requestR
 split
 ·split
  ·exact ⟨h.1.fplace a,fplace_pinv h.2 a⟩
  ·exact ⟨h.1.fplace a,fplace_pinv h.2 a⟩
 ·split
  ·exact ⟨h.1.fcancel a,fcancel_pinv h.2 a⟩
  ·exact ⟨h.1.fcancel a,fcancel_pinv h.2 a⟩
theorem FP.req {p:RqSt} (h:FP p.st) (a:Ask):FP (reqStep p a).st:=by
 unfold reqStep
 split<;>exact h.request a
theorem FP.dropR {p:List Rep × FSt} (h:FP p.2) (n:Int):FP (dropRep p n).2:=⟨h.1.fdrop n,fdrop_pinv h.2 n⟩
theorem FP.drops {st:FSt} (h:FP st) (drops:List Int):FP (drops.foldl dropRep ([],st)).2:=fold_keep (P:=fun p:List Rep × FSt=>FP p.2) (fun _ n hp=>hp.dropR n) _ h
theorem FP.reqs {out:List Rep} {st:FSt} (h:FP st) (asks:List Ask):FP (asks.foldl reqStep ⟨out,[],st⟩).st:=fold_keep (P:=fun p:RqSt=>FP p.st) (fun _ a hp=>hp.req a) _ h
theorem FP.item {v:VSt} (h2:1≤v.c.hl∧v.c.hl≤1000) {placed:List Ask} {p:List Rep × FSt} (h:FP p.2) {n:Nat} (hn:n<3):FP (itemStep v placed p n).2:=h.run hn h2 _
theorem FP.items {v:VSt} (h2:1≤v.c.hl∧v.c.hl≤1000) {placed:List Ask} {p:List Rep × FSt} (h:FP p.2):FP ((List.range 3).foldl (itemStep v placed) p).2 :=
 fold_keep_mem (P:=fun p:List Rep × FSt=>FP p.2) _ (fun _ n hn hp=>hp.item h2 (List.mem_range.1 hn)) h
theorem VOk.batch {v:VSt} (h:VOk v) (drops:List Int) (asks:List Ask) (hb:v.bat+1≤v.now):VOk (batchR drops asks v).2:=by
 have h1:FP v.f:=⟨h.fl,h.pinv⟩
 have h2:=FP.items (v:=v) h.rule.2 (placed:=lastL (asks.foldl reqStep ⟨(drops.foldl dropRep ([],v.f)).1,[],(drops.foldl dropRep ([],v.f)).2⟩).placed) (p:=((asks.foldl reqStep ⟨(drops.foldl dropRep ([],v.f)).1,[],(drops.foldl dropRep ([],v.f)).2⟩).out,(asks.foldl reqStep ⟨(drops.foldl dropRep ([],v.f)).1,[],(drops.foldl dropRep ([],v.f)).2⟩).st)) ((h1.drops drops).reqs asks)
 exact ⟨h2.1,h2.2,h.seed,h.rule,h.turn,h.sess,h.left,h.que,hb⟩
theorem take_ok {s:Sess} {a:Ask} {now:Int} (h1:0≤s.next∧s.next≤1073741825) (h2:0≤s.last∧s.last≤now):(0≤(s.take a now).1.next∧(s.take a now).1.next≤1073741825)∧0≤(s.take a now).1.last∧(s.take a now).1.last≤now:=by
 have h0:0≤now:=by omega
 unfold Sess.take
 split
 ·rename_i he
  obtain ⟨s1,s2⟩:=Ask.seq_of_err he
  split
  ·split
   ·exact ⟨h1,h2⟩
   ·split
    ·exact ⟨h1,h2⟩
    ·exact ⟨⟨by show (0:Int)≤2;decide,by show (2:Int)≤1073741825;decide⟩,h0,Int.le_refl _⟩
  ·split
   ·exact ⟨h1,h2⟩
   ·split
    ·exact ⟨h1,h2⟩
    ·rename_i hq
     have hq2:a.seq=s.next:=by simpa using hq
     split
     ·exact ⟨by decide,Int.le_refl _,h0⟩
     ·exact ⟨⟨by show 0≤s.next+1;omega,by show s.next+1≤1073741825;omega⟩,h0,Int.le_refl _⟩
 ·exact ⟨h1,h2⟩
theorem take_err {s:Sess} {a:Ask} {now:Int} (h:(s.take a now).2=0):a.err=0:=by
 unfold Sess.take at h
 split at h
 ·assumption
 ·exact h
section
variable {v:VSt}
theorem VOk.setCl (h:VOk v) (n:Nat) (x:Cli) (h1:(0≤x.s.next∧x.s.next≤1073741825)∧0≤x.s.last∧x.s.last≤(v.now:Int)) (h2:x.left.length<30):VOk (v.setCl n x):=by
 refine ⟨h.fl,h.pinv,h.seed,h.rule,h.turn,fun k hk=>?_,fun k hk=>?_,h.que,h.bat⟩
 ·show (0≤(if k=n then x else v.cl k).s.next∧(if k=n then x else v.cl k).s.next≤1073741825)∧0≤(if k=n then x else v.cl k).s.last∧(if k=n then x else v.cl k).s.last≤(v.now:Int)
  split
  ·exact h1
  ·exact h.sess k hk
 ·show (if k=n then x else v.cl k).left.length<30
  split
  ·exact h2
  ·exact h.left k hk
theorem VOk.clear (h:VOk v) (n:Nat):VOk (v.clear n):=by
 refine ⟨h.fl,h.pinv,h.seed,h.rule,h.turn,h.sess,h.left,fun k hk=>?_,h.bat⟩
 show (if k=n then [] else v.q k).length≤6∧∀ a∈(if k=n then [] else v.q k),_
 split
 ·exact ⟨by simp,fun a ha=>by cases ha⟩
 ·exact h.que k hk
theorem VOk.put (h:VOk v) {n:Nat} (hn:n<6) {a:Ask} (he:a.err=0) (hc:a.client=(n:Int)) (hk:a.kind=111∨a.kind=99):VOk { v with q:=putTo v.q a }:=by
 refine ⟨h.fl,h.pinv,h.seed,h.rule,h.turn,h.sess,h.left,fun k hk2=>?_,h.bat⟩
 show (putTo v.q a k).length≤6∧∀ b∈putTo v.q a k,_
 have hcn:a.client.toNat=n:=by omega
 unfold putTo
 split
 ·rename_i hp
  show (if k=a.client.toNat then v.q a.client.toNat++[a] else v.q k).length≤6∧∀ b∈(if k=a.client.toNat then v.q a.client.toNat++[a] else v.q k),_
  rw [hcn]
  split
  ·rename_i e
   subst e
   obtain ⟨q1,q2⟩:=h.que k hk2
   unfold putErr at hp
   rw [hcn] at hp
   have hl:¬ 6≤(v.q k).length:=fun h6=>by
    have hin:inR a.client 0 5=true:=inR_iff.2 (by omega)
    rw [hin,if_pos rfl,if_pos h6] at hp
    rcases hk with e|e<;>simp [e] at hp
   refine ⟨by simp;omega,fun b hb=>?_⟩
   rcases List.mem_append.1 hb with hb|hb
   ·exact q2 b hb
   ·rw [List.mem_singleton.1 hb];exact ⟨he,hc,hk⟩
  ·exact h.que k hk2
 ·exact h.que k hk2
theorem VOk.got (h:VOk v) {n:Nat} (hn:n<6) (g:Got):VOk (gotR n g v).2:=by
 unfold gotR
 split
 ·exact h
 ·split
  ·exact h
  ·rename_i hcl
   split
   ·exact h
   ·rename_i ht
    have ht0:((v.cl n).s.take g.ask v.now).2=0:=by omega
    have hs:=take_ok (a:=g.ask) (h.sess n hn).1 (h.sess n hn).2
    have he:=take_err ht0
    split
    ·exact (h.setCl n ⟨((v.cl n).s.take g.ask v.now).1,(v.cl n).left,true⟩ hs (h.left n hn)).clear n
    ·split
     ·exact h.setCl n ⟨((v.cl n).s.take g.ask v.now).1,(v.cl n).left,(v.cl n).drop⟩ hs (h.left n hn)
     ·rename_i h1 h2
      obtain ⟨_,_,_,_,_,_,_,hk⟩:=Ask.bounds he
      exact (h.setCl n ⟨((v.cl n).s.take g.ask v.now).1,(v.cl n).left,(v.cl n).drop⟩ hs (h.left n hn)).put hn he (by omega) (by omega)
theorem VOk.late (h:VOk v) (now n:Nat):VOk (lateStep now v n):=by
 unfold lateStep
 split
 ·exact (h.setCl n ⟨⟨false,0,0⟩,[],true⟩ ⟨by decide,by show (0:Int)≤0;decide,by show (0:Int)≤(v.now:Int);omega⟩ (by decide)).clear n
 ·exact h
end
end Go.Proofs.YtabbgpjofkaomaaGreatDoor

/- What got of a venue computes: a request of a client's. -/
namespace Go.Proofs.YtabbgpjofkaomaaGreatDoor
open Go.RowKit
abbrev Got.val (g:Got):Value:=.agg #[.int .u8 g.ask.kind,.int .i64 g.ask.client,.int .i64 g.ask.seq,.int .i64 g.ask.item,.int .i64 g.ask.side,.int .i64 g.ask.price,.int .i64 g.ask.qty,.int .i64 g.ask.id,.int .i64 (g.code:Int)]
def gotC (a:Ask) (c:Nat):Array Value:=#[.int .u8 a.kind,.int .i64 a.client,.int .i64 a.seq,.int .i64 a.item,.int .i64 a.side,.int .i64 a.price,.int .i64 a.qty,.int .i64 a.id,.int .i64 (c:Int)]
theorem take_le (s:Sess) (a:Ask) (now:Int):(s.take a now).2≤12:=by
 have:=Ask.err_le a
 unfold Sess.take
 (repeat' split)<;>simp only<;>omega
theorem clear_setCl (v:VSt) (n:Nat) (x y:Cli):((v.setCl n x).clear n).setCl n y=(v.setCl n y).clear n:=by
 unfold VSt.setCl VSt.clear
 congr 1
 funext j
 by_cases e:j=n
 ·simp only [e,if_true]
 ·simp only [e,if_false]
theorem clear_cl (v:VSt) (n:Nat) (x:Cli):((v.setCl n x).clear n).cl n=x:=if_pos rfl
section
variable {E:Nat→Addr} {w0 w W W':World} {F:Nat→Prop} {A:VA} {v v':VSt} {M:List Th}
set_option maxRecDepth 100000 in
set_option maxHeartbeats 8000000 in
theorem VX.got (X:VX E w0 F w A v M W) {n:Nat} (hn:n<6) (g:Got) :
  Calls Tryz.prog 48 #[.pointer (some ⟨A.vb,0,none⟩),.int .i64 (n:Int),g.val] W fun e w'=>∃ u,e=.returned u∧VX E w0 F w A (gotR n g v).2 (rdTh (rrowRd (gotR n g v).1 u)::M) w':=by
 obtain ⟨⟨c6,c7,c8,c9,c10,c11,c12,c0⟩,hvb,hrg⟩:=X.cells
 obtain ⟨k0,k1,k2,k3,k4⟩:=X.cli hn
 have hne:=X.vbrg
 have n6:(n:Int)<6:=by omega
 obtain ⟨⟨ak,ac,aS,ai,ad,ap,aq,aid⟩,gc⟩:=g
 have HX:=Lib.hid X
 have HRF:=Lib.hid (fun W' (hx:Ex W W') (c:Nat) (h1:1≤c) (h2:c≤12)=>vrefused_any (n:Int) aid c h1 h2 E W' (X.ready.ex hx))
 have HT:=Lib.hid (fun W' (hx:Ex W W')=>sessTake_any (v.cl n).s ⟨ak,ac,aS,ai,ad,ap,aq,aid⟩ v.now E W' ((X.errs (by decide)).ex hx))
 have HTL:=Lib.hid (take_le (v.cl n).s ⟨ak,ac,aS,ai,ad,ap,aq,aid⟩ v.now)
 have e3:W.cell? ⟨2,0,none⟩=some (.iface 357 (.pointer (some (E 3)))):=X.errs (L:=allE) (fun _ h=>h) 3 (by decide)
 have b3:=lt_of_cell e3
 have HR3:Hid (∀ W',Ex W W'→Calls Tryz.prog 76 #[.int .i64 (n:Int),.int .i64 aid,.iface 357 (.pointer (some (E 3)))] W' fun e w'=>e=.returned (refR (n:Int) aid 3).val∧Ex W' w'):=Lib.hid (fun W' hx=>by have h:=HRF.out W' hx 3 (by decide) (by decide);rw [errV_pos E 3 (by decide)] at h;exact h)
 by_cases h1:gc=0
 ·subst h1
  by_cases h2:ac=(n:Int)
  ·subst h2
   have hg:gotR n ⟨⟨ak,(n:Int),aS,ai,ad,ap,aq,aid⟩,0⟩ v=if ((v.cl n).s.take ⟨ak,(n:Int),aS,ai,ad,ap,aq,aid⟩ v.now).2≠0 then ([refR n aid ((v.cl n).s.take ⟨ak,(n:Int),aS,ai,ad,ap,aq,aid⟩ v.now).2],v)
     else if ak=113 then ([],(v.setCl n ⟨((v.cl n).s.take ⟨ak,(n:Int),aS,ai,ad,ap,aq,aid⟩ v.now).1,(v.cl n).left,true⟩).clear n)
     else if ak=108∨ak=104 then ([],v.setCl n ⟨((v.cl n).s.take ⟨ak,(n:Int),aS,ai,ad,ap,aq,aid⟩ v.now).1,(v.cl n).left,(v.cl n).drop⟩)
     else ([⟨n,if putErr v.q ⟨ak,(n:Int),aS,ai,ad,ap,aq,aid⟩=0 then kAcc else kBusy,aid,0,0,0⟩],{ v.setCl n ⟨((v.cl n).s.take ⟨ak,(n:Int),aS,ai,ad,ap,aq,aid⟩ v.now).1,(v.cl n).left,(v.cl n).drop⟩ with q:=putTo v.q ⟨ak,(n:Int),aS,ai,ad,ap,aq,aid⟩ }):=by
    unfold gotR
    rw [if_neg (by simp),if_neg (by simp)]
   generalize gotR n ⟨⟨ak,(n:Int),aS,ai,ad,ap,aq,aid⟩,0⟩ v=res at hg ⊢
   have HRES:=Lib.hid hg
   have HRD:=Lib.hid X.rdy
   have hWs:∀ W',Ex W W'→W'.heap[W.heap.size]?=some (.cells (gotC ⟨ak,(n:Int),aS,ai,ad,ap,aq,aid⟩ 0) 115 (0,0))→VX E w0 F w A v (blkTh W.heap.size (gotC ⟨ak,(n:Int),aS,ai,ad,ap,aq,aid⟩ 0) 115::M) W':=fun W' hx hb=>X.addBlk hx hb (Nat.le_refl _)
   have HWS:=Lib.hid hWs
   clear hg hWs X HRF HR3
   generalize (v.cl n).s.take ⟨ak,(n:Int),aS,ai,ad,ap,aq,aid⟩ v.now=r at *
   obtain ⟨⟨sOn,sNx,sLa⟩,c⟩:=r
   simp only at HTL
   go_enter Tryz.func48,Tryz.ntmps48
   go_upto_region 6 with fail
   refine wp_world (R:=fun W'=>Ex W W'∧VX E w0 F w A v (blkTh W.heap.size (gotC ⟨ak,(n:Int),aS,ai,ad,ap,aq,aid⟩ 0) 115::M) W') ⟨(by repeat (first|exact Ex.refl _|refine Ex.alloc ?_ _|refine Ex.ext ?_ _ _|refine Ex.drew ?_|refine Ex.drewN ?_ _)),HWS.out _ (by repeat (first|exact Ex.refl _|refine Ex.alloc ?_ _|refine Ex.ext ?_ _ _|refine Ex.drew ?_|refine Ex.drewN ?_ _)) (alloc_at rfl)⟩ ?_
   have HTW:=Lib.hid (fun W' hx=>HT.out W' hx)
   clear c6 c7 c8 c9 c10 c11 c12 c0 k0 k1 k2 k3 k4 e3 b3 HWS HT
   generalize hgb:W.heap.size=gb at *
   rintro W1 ⟨hx1,hX1⟩
   have HX1:=Lib.hid hX1
   have HE1:=Lib.hid hx1
   obtain ⟨⟨c6,c7,c8,c9,c10,c11,c12,c0⟩,hvb1,hrg1⟩:=hX1.cells
   obtain ⟨k0,k1,k2,k3,k4⟩:=hX1.cli hn
   have hgc:=blk_cell (VX.blk [] hX1)
   have g0:=hgc 0
   have g1:=hgc 1
   have g2:=hgc 2
   have g3:=hgc 3
   have g4:=hgc 4
   have g5:=hgc 5
   have g6:=hgc 6
   have g7:=hgc 7
   have hgl:gb<W1.heap.size:=(Array.getElem?_eq_some_iff.1 (VX.blk [] hX1)).1
   simp only [gotC,List.getElem?_toArray,List.getElem?_cons_zero,List.getElem?_cons_succ] at g0 g1 g2 g3 g4 g5 g6 g7
   clear hX1 hx1 hgc
   go_cut [8,9] (fun p q wx=>∃ lx,p=.pointer (some ⟨lx,0,none⟩)∧q=errV E c∧(A.vb<lx∧A.rg<lx∧gb<lx)∧VX E w0 F w A v (blkTh lx #[.bool sOn,.int .i64 sNx,.int .i64 sLa] 56::blkTh gb (gotC ⟨ak,(n:Int),aS,ai,ad,ap,aq,aid⟩ 0) 115::M) wx)
   case first =>
    go_region_held3 (fun W'=>W'.cell? ⟨A.rg,n*5,none⟩=some (.bool (v.cl n).s.on)∧W'.cell? ⟨A.rg,n*5+1,none⟩=some (.int .i64 (v.cl n).s.next)∧W'.cell? ⟨A.rg,n*5+2,none⟩=some (.int .i64 (v.cl n).s.last)∧W'.cell? ⟨A.vb,10,none⟩=some (.int .i64 (v.now:Int)) ∧
      W'.cell? ⟨gb,0,none⟩=some (.int .u8 ak)∧W'.cell? ⟨gb,1,none⟩=some (.int .i64 (n:Int))∧W'.cell? ⟨gb,2,none⟩=some (.int .i64 aS)∧W'.cell? ⟨gb,3,none⟩=some (.int .i64 ai)∧W'.cell? ⟨gb,4,none⟩=some (.int .i64 ad)∧W'.cell? ⟨gb,5,none⟩=some (.int .i64 ap)∧W'.cell? ⟨gb,6,none⟩=some (.int .i64 aq)∧W'.cell? ⟨gb,7,none⟩=some (.int .i64 aid))
     ((first|exact ⟨k0,k1,k2,c10,g0,g1,g2,g3,g4,g5,g6,g7⟩|(simp [go_sem,↓IntWalk.iteOmega,k0,k1,k2,c10,g0,g1,g2,g3,g4,g5,g6,g7];done)))
     ((go_at_call 77;((with_reducible refine (HTW.out _ ?_).mono ?_);(focus exact HE1.out.trans (by with_reducible repeat (first|exact Ex.refl _|refine Ex.alloc ?_ _|refine Ex.ext ?_ _ _|refine Ex.drew ?_|refine Ex.drewN ?_ _)));rintro e w3 ⟨rfl,l3,d3,rfl⟩)))
    all_goals go_wp2_with fail
    all_goals
     go_meet
     case rel=>exact ⟨_,rfl,rfl,⟨(by first|omega|(simp [go_sem];done)|(simp [go_sem];omega)),(by first|omega|(simp [go_sem];done)|(simp [go_sem];omega)),(by first|omega|(simp [go_sem];done)|(simp [go_sem];omega))⟩,HX1.out.addBlk (by with_reducible repeat (first|exact Ex.refl _|refine Ex.alloc ?_ _|refine Ex.ext ?_ _ _|refine Ex.drew ?_|refine Ex.drewN ?_ _)) (by repeat (first|exact Blk.new (by first|omega|(simp [go_sem];done)|(simp [go_sem];omega))|(with_reducible exact Blk.new rfl)|(with_reducible refine Blk.drew ?_)|(with_reducible refine Blk.drewN ?_ _)|(with_reducible refine Blk.ext ?_ _ _)|(with_reducible refine Blk.alloc ?_ _))) (by first|omega|(simp [go_sem];done)|(simp [go_sem];omega))⟩
   case rest =>
    obtain ⟨lx,rfl,rfl,⟨hl1,hl2,hl3⟩,hX2⟩:=hcut
    have HX2:=Lib.hid hX2
    obtain ⟨⟨c6,c7,c8,c9,c10,c11,c12,c0⟩,hvb2,hrg2⟩:=hX2.cells
    obtain ⟨k0,k1,k2,k3,k4⟩:=hX2.cli hn
    have hlc:=blk_cell (VX.blk [] hX2)
    have s0:=hlc 0
    have s1:=hlc 1
    have s2:=hlc 2
    simp only [List.getElem?_toArray,List.getElem?_cons_zero,List.getElem?_cons_succ] at s0 s1 s2
    have hgc:=blk_cell (VX.blk [blkTh lx #[.bool sOn,.int .i64 sNx,.int .i64 sLa] 56] hX2)
    have g0:=hgc 0
    have g7:=hgc 7
    simp only [gotC,List.getElem?_toArray,List.getElem?_cons_zero,List.getElem?_cons_succ] at g0 g7
    have hfz:=hX2.free.2
    have hls:lx<wc.heap.size:=lt_of_cell s0
    have hgs:gb<wc.heap.size:=lt_of_cell g0
    have HRC:=Lib.hid (hX2.ready)
    clear hlc hgc hX2
    by_cases hc:c=0
    ·subst hc
     rw [errV_zero]
     go_upto_region 10 with fail
     refine wp_world (R:=fun W'=>VX E w0 F w A (v.setCl n ⟨⟨sOn,sNx,sLa⟩,(v.cl n).left,(v.cl n).drop⟩) (blkTh lx #[.bool sOn,.int .i64 sNx,.int .i64 sLa] 56::blkTh gb (gotC ⟨ak,(n:Int),aS,ai,ad,ap,aq,aid⟩ 0) 115::M) W') (HX2.out.setSess n ⟨sOn,sNx,sLa⟩) ?_
     clear c6 c7 c8 c9 c10 c11 c12 c0 k0 k1 k2 k3 k4 s0 s1 s2 g0 g7 hfz hls hgs HRC HX2
     rintro W3 hX3
     have HX3:=Lib.hid hX3
     obtain ⟨⟨c6,c7,c8,c9,c10,c11,c12,c0⟩,hvb3,hrg3⟩:=hX3.cells
     have hgc:=blk_cell (VX.blk [blkTh lx #[.bool sOn,.int .i64 sNx,.int .i64 sLa] 56] hX3)
     have g0:=hgc 0
     have g1:=hgc 1
     have g2:=hgc 2
     have g3:=hgc 3
     have g4:=hgc 4
     have g5:=hgc 5
     have g6:=hgc 6
     have g7:=hgc 7
     simp only [gotC,List.getElem?_toArray,List.getElem?_cons_zero,List.getElem?_cons_succ] at g0 g1 g2 g3 g4 g5 g6 g7
     clear hgc hX3
     by_cases h113:ak=113
     ·go_upto_region 13 with (go_at_call 54;refine (HX3.out.clearQ hn).mono ?_;rintro e w5 ⟨rfl,hX5⟩)
      have HX5:=Lib.hid hX5
      have k4:=(hX5.cli hn).2.2.2.2
      have hfz5:=hX5.free.2
      have hrg5:=hX5.cells.2.2
      clear hX5 HX3 g0 g1 g2 g3 g4 g5 g6 g7 c6 c7 c8 c9 c10 c11 c12 c0
      go_wp2_with fail
      all_goals go_ret
      all_goals
       refine ⟨_,rfl,?_⟩
       rw [HRES.out,if_neg (by simp),if_pos h113]
       have h:=(VX.less [] (VX.less [] HX5.out)).setDrop n true
       rw [clear_cl,clear_setCl] at h
       exact h.addRow (by repeat (first|exact Ex.refl _|refine Ex.alloc ?_ _|refine Ex.ext ?_ _ _|refine Ex.drew ?_|refine Ex.drewN ?_ _)) (rrow_nil _) (fun g hg=>by cases hg)
     ·by_cases h108:ak=108∨ak=104
      ·have HFIN:Hid (∀ W',Ex W3 W'→VX E w0 F w A res.2 (rdTh (rrowRd res.1 (.slice none 0 0))::M) W'):=Lib.hid (fun W' hx=>by
        rw [HRES.out,if_neg (by simp),if_neg h113,if_pos h108]
        exact (VX.less [] (VX.less [] HX3.out)).addRow hx (rrow_nil _) (fun g hg=>by cases hg))
       rcases h108 with h|h
       ·go_wp2_with fail
        all_goals go_ret
        all_goals exact ⟨_,rfl,HFIN.out _ (by repeat (first|exact Ex.refl _|refine Ex.alloc ?_ _|refine Ex.ext ?_ _ _|refine Ex.drew ?_|refine Ex.drewN ?_ _))⟩
       ·go_wp2_with fail
        all_goals go_ret
        all_goals exact ⟨_,rfl,HFIN.out _ (by repeat (first|exact Ex.refl _|refine Ex.alloc ?_ _|refine Ex.ext ?_ _ _|refine Ex.drew ?_|refine Ex.drewN ?_ _))⟩
      ·have h1:¬ ak=108:=fun e=>h108 (.inl e)
       have h2:¬ ak=104:=fun e=>h108 (.inr e)
       by_cases hp:putErr v.q ⟨ak,(n:Int),aS,ai,ad,ap,aq,aid⟩=0
       ·have HP:Hid (∀ W',Ex W3 W'→Calls Tryz.prog 78 #[.pointer (some ⟨A.ip,0,none⟩),Ask.val ⟨ak,(n:Int),aS,ai,ad,ap,aq,aid⟩] W' fun e w'=>e=.returned .nilIface∧VX E w0 F w A { v.setCl n ⟨⟨sOn,sNx,sLa⟩,(v.cl n).left,(v.cl n).drop⟩ with q:=putTo v.q ⟨ak,(n:Int),aS,ai,ad,ap,aq,aid⟩ } (blkTh lx #[.bool sOn,.int .i64 sNx,.int .i64 sLa] 56::blkTh gb (gotC ⟨ak,(n:Int),aS,ai,ad,ap,aq,aid⟩ 0) 115::M) w'):=Lib.hid (fun W' hx=>by have h:=(HX3.out.later hx).putQ ⟨ak,(n:Int),aS,ai,ad,ap,aq,aid⟩;rw [show putErr (v.setCl n ⟨⟨sOn,sNx,sLa⟩,(v.cl n).left,(v.cl n).drop⟩).q ⟨ak,(n:Int),aS,ai,ad,ap,aq,aid⟩=putErr v.q ⟨ak,(n:Int),aS,ai,ad,ap,aq,aid⟩ from rfl,hp,errV_zero] at h;exact h)
        clear HX3
        go_upto_region 19 with fail
        go_region_with (go_at_call 78;refine (HP.out _ (by repeat (first|exact Ex.refl _|refine Ex.alloc ?_ _|refine Ex.ext ?_ _ _|refine Ex.drew ?_|refine Ex.drewN ?_ _))).mono ?_;rintro e w5 ⟨rfl,hX5⟩)
        all_goals
         have HX5:=Lib.hid hX5
         have hgc:=blk_cell (VX.blk [blkTh lx #[.bool sOn,.int .i64 sNx,.int .i64 sLa] 56] hX5)
         have g7:=hgc 7
         simp only [gotC,List.getElem?_toArray,List.getElem?_cons_zero,List.getElem?_cons_succ] at g7
         clear hgc hX5 HP
         go_wp2_with fail
         all_goals go_ret
         all_goals
          refine ⟨_,rfl,?_⟩
          rw [HRES.out,if_neg (by simp),if_neg h113,if_neg h108,if_pos hp]
          exact (VX.less [] (VX.less [] HX5.out)).addRow (by repeat (first|exact Ex.refl _|refine Ex.alloc ?_ _|refine Ex.ext ?_ _ _|refine Ex.drew ?_|refine Ex.drewN ?_ _)) (rrow_one ⟨n,kAcc,aid,0,0,0⟩ (alloc_at (by first|omega|(simp [go_sem];done)|(simp [go_sem];omega))) rfl) (fun g hg=>by cases hg;exact (by first|omega|(simp [go_sem];done)|(simp [go_sem];omega)))
       ·have HP:Hid (∀ W',Ex W3 W'→Calls Tryz.prog 78 #[.pointer (some ⟨A.ip,0,none⟩),Ask.val ⟨ak,(n:Int),aS,ai,ad,ap,aq,aid⟩] W' fun e w'=>e=.returned (.iface 357 (.pointer (some (E (putErr v.q ⟨ak,(n:Int),aS,ai,ad,ap,aq,aid⟩)))))∧VX E w0 F w A { v.setCl n ⟨⟨sOn,sNx,sLa⟩,(v.cl n).left,(v.cl n).drop⟩ with q:=putTo v.q ⟨ak,(n:Int),aS,ai,ad,ap,aq,aid⟩ } (blkTh lx #[.bool sOn,.int .i64 sNx,.int .i64 sLa] 56::blkTh gb (gotC ⟨ak,(n:Int),aS,ai,ad,ap,aq,aid⟩ 0) 115::M) w'):=Lib.hid (fun W' hx=>by have h:=(HX3.out.later hx).putQ ⟨ak,(n:Int),aS,ai,ad,ap,aq,aid⟩;rw [show putErr (v.setCl n ⟨⟨sOn,sNx,sLa⟩,(v.cl n).left,(v.cl n).drop⟩).q ⟨ak,(n:Int),aS,ai,ad,ap,aq,aid⟩=putErr v.q ⟨ak,(n:Int),aS,ai,ad,ap,aq,aid⟩ from rfl,errV_pos E _ hp] at h;exact h)
        clear HX3
        go_upto_region 19 with fail
        go_region_with (go_at_call 78;refine (HP.out _ (by repeat (first|exact Ex.refl _|refine Ex.alloc ?_ _|refine Ex.ext ?_ _ _|refine Ex.drew ?_|refine Ex.drewN ?_ _))).mono ?_;rintro e w5 ⟨rfl,hX5⟩)
        all_goals
         have HX5:=Lib.hid hX5
         have hgc:=blk_cell (VX.blk [blkTh lx #[.bool sOn,.int .i64 sNx,.int .i64 sLa] 56] hX5)
         have g7:=hgc 7
         simp only [gotC,List.getElem?_toArray,List.getElem?_cons_zero,List.getElem?_cons_succ] at g7
         clear hgc hX5 HP
         go_wp2_with fail
         all_goals go_ret
         all_goals
          refine ⟨_,rfl,?_⟩
          rw [HRES.out,if_neg (by simp),if_neg h113,if_neg h108,if_neg hp]
          exact (VX.less [] (VX.less [] HX5.out)).addRow (by repeat (first|exact Ex.refl _|refine Ex.alloc ?_ _|refine Ex.ext ?_ _ _|refine Ex.drew ?_|refine Ex.drewN ?_ _)) (rrow_one ⟨n,kBusy,aid,0,0,0⟩ (alloc_at (by first|omega|(simp [go_sem];done)|(simp [go_sem];omega))) rfl) (fun g hg=>by cases hg;exact (by first|omega|(simp [go_sem];done)|(simp [go_sem];omega)))
    ·have hcl:1≤c∧c≤12:=⟨by omega,HTL.out⟩
     have HRF:Hid (∀ W',Ex wc W'→Calls Tryz.prog 76 #[.int .i64 (n:Int),.int .i64 aid,.iface 357 (.pointer (some (E c)))] W' fun e w'=>e=.returned (refR (n:Int) aid c).val∧Ex W' w'):=Lib.hid (fun W' hx=>by have h:=vrefused_any (n:Int) aid c hcl.1 hcl.2 E W' (HRC.out.ex hx);rw [errV_pos E c hc] at h;exact h)
     rw [errV_pos E c hc]
     go_wp2_with (go_at_call 76;refine (HRF.out _ (by repeat (first|exact Ex.refl _|refine Ex.alloc ?_ _|refine Ex.ext ?_ _ _|refine Ex.drew ?_|refine Ex.drewN ?_ _))).mono ?_;rintro e w5 ⟨rfl,l5,d5,rfl⟩)
     all_goals go_ret
     all_goals
      refine ⟨_,rfl,?_⟩
      rw [HRES.out,if_pos hc]
      exact (VX.less [] (VX.less [] HX2.out)).addRow (by repeat (first|exact Ex.refl _|refine Ex.alloc ?_ _|refine Ex.ext ?_ _ _|refine Ex.drew ?_|refine Ex.drewN ?_ _)) (rrow_one _ (alloc_at (by first|omega|(simp [go_sem];done)|(simp [go_sem];omega))) rfl) (fun g hg=>by cases hg;exact (by first|omega|(simp [go_sem];done)|(simp [go_sem];omega)))
  ·have hg:gotR n ⟨⟨ak,ac,aS,ai,ad,ap,aq,aid⟩,0⟩ v=([refR n aid 3],v):=by unfold gotR;rw [if_neg (by simp),if_pos h2]
   rw [hg]
   clear X hg
   go_enter Tryz.func48,Tryz.ntmps48
   go_wp2_with (go_at_call 76;refine (HR3.out _ (by repeat (first|exact Ex.refl _|refine Ex.alloc ?_ _|refine Ex.ext ?_ _ _|refine Ex.drew ?_|refine Ex.drewN ?_ _))).mono ?_;rintro e w1 ⟨rfl,l1,d1,rfl⟩)
   all_goals go_ret
   all_goals exact ⟨_,rfl,HX.out.addRow (by repeat (first|exact Ex.refl _|refine Ex.alloc ?_ _|refine Ex.ext ?_ _ _|refine Ex.drew ?_|refine Ex.drewN ?_ _)) (rrow_one _ (alloc_at (by first|omega|(simp [go_sem];done)|(simp [go_sem];omega))) rfl) (fun g hg=>by cases hg;exact (by first|omega|(simp [go_sem];done)|(simp [go_sem];omega)))⟩
 ·have hg:gotR n ⟨⟨ak,ac,aS,ai,ad,ap,aq,aid⟩,gc⟩ v=([⟨n,kRef,0,0,0,gc⟩],v):=by unfold gotR;exact if_pos h1
  have h1':¬ (gc:Int)=0:=by omega
  rw [hg]
  clear X hg
  go_enter Tryz.func48,Tryz.ntmps48
  go_wp2_with fail
  all_goals go_ret
  all_goals exact ⟨_,rfl,HX.out.addRow (by repeat (first|exact Ex.refl _|refine Ex.alloc ?_ _|refine Ex.ext ?_ _ _|refine Ex.drew ?_|refine Ex.drewN ?_ _)) (rrow_one _ (alloc_at (by first|omega|(simp [go_sem];done)|(simp [go_sem];omega))) rfl) (fun g hg=>by cases hg;exact (by first|omega|(simp [go_sem];done)|(simp [go_sem];omega)))⟩
end
end Go.Proofs.YtabbgpjofkaomaaGreatDoor
