import Derived.Test.YtabbgpjofkaomaaGreatDoorVenT
import Derived.Test.YtabbgpjofkaomaaGreatDoorJ39
import Derived.Test.YtabbgpjofkaomaaGreatDoorJ24
import Derived.Test.YtabbgpjofkaomaaGreatDoorJ0
import Derived.Test.YtabbgpjofkaomaaGreatDoorJ25
import Derived.Deep.Slices
import Derived.Deep.RegionHeld3
import Derived.Test.YtabbgpjofkaomaaGreatDoorJ40
set_option linter.unusedSimpArgs false
set_option linter.unusedVariables false
/- A venue's methods as calls on a thing: Feed, Tick, Cut, Wait. -/
namespace Go.Proofs.YtabbgpjofkaomaaGreatDoor
open Go.RowKit
section
variable {E:Nat→Addr} {w0 w:World} {F:Nat→Prop} {v:VSt} {vb dp:Nat} {fa:FlA}
theorem VX.close1 {A:VA} {T:Th} {W:World} (X:VX E w0 F w A v [T] W) {vb dp:Nat} {fa:FlA} (h:A.vb=vb∧A.fa=fa∧A.dp=dp):LeavesL [vTh vb fa dp v,T] F w W:=by
 obtain ⟨rfl,rfl,rfl⟩:=h
 exact X.closeL
theorem vTh.feed (h:(vTh vb fa dp v).P F w) (hx:Ex w0 w) (hl:∀ n,F n→w0.heap.size≤n) (hr:CodeReady E w0) (hL:∀ n,n<6→(v.cl n).left.length<30) {n:Nat} (hn:n<6) (s:List UInt8) (hs:s.length≤900) :
  Calls Tryz.prog 14 #[.pointer (some ⟨vb,0,none⟩),.int .i64 (n:Int),.string ⟨s.toArray⟩] w fun e w'=>∃ u,e=.returned u∧LeavesL [vTh vb fa dp (feedR n s v).2,rdTh (rrowRd (feedR n s v).1 u)] F w w':=by
 obtain ⟨A,hA,X⟩:=VX.start h hx hl hr
 obtain ⟨rfl,rfl,rfl⟩:=hA
 exact (X.feedV hL hn s hs).mono fun e w' ⟨u,he,X'⟩=>⟨u,he,X'.close1 ⟨rfl,rfl,rfl⟩⟩
theorem vTh.tick (h:(vTh vb fa dp v).P F w) (hx:Ex w0 w) (hl:∀ n,F n→w0.heap.size≤n) (hr:CodeReady E w0) (hO:VOk v) (ht:Tab w0) (hnow:v.now≤100000) :
  Calls Tryz.prog 16 #[.pointer (some ⟨vb,0,none⟩)] w fun e w'=>∃ u,e=.returned u∧LeavesL [vTh vb fa dp (tickR v).2,rdTh (rrowRd (tickR v).1 u)] F w w':=by
 obtain ⟨A,hA,X⟩:=VX.start h hx hl hr
 obtain ⟨rfl,rfl,rfl⟩:=hA
 exact (X.tick hO ht hnow).mono fun e w' ⟨rd,u,he,X'⟩=>⟨u,he,X'.close1 ⟨rfl,rfl,rfl⟩⟩
theorem vTh.cut (h:(vTh vb fa dp v).P F w) (hx:Ex w0 w) (hl:∀ n,F n→w0.heap.size≤n) (hr:CodeReady E w0) (n:Int) (hn:n≤9223372036854775807) :
  Calls Tryz.prog 44 #[.pointer (some ⟨dp,0,none⟩),.int .i64 n] w fun e w'=>e=.returned (errV E (v.d.cutE n))∧LeavesL [vTh vb fa dp { v with d:=v.d.cutD n }] F w w':=by
 obtain ⟨A,hA,X⟩:=VX.start h hx hl hr
 obtain ⟨rfl,rfl,rfl⟩:=hA
 refine (X.disk fun own hA hn2=>cut_any hA n hn E (X.errs (by decide))).mono fun e w' ⟨he,X'⟩=>⟨he,X'.closeL⟩
set_option maxRecDepth 100000 in
theorem vwait_in (h:(vTh vb fa dp v).P F w) (n:Nat) (hn:n<6):Calls Tryz.prog 26 #[.pointer (some ⟨vb,0,none⟩),.int .i64 (n:Int)] w fun e w'=>e=.returned (.int .i64 ((v.q n).length:Nat))∧Ex w w':=by
 obtain ⟨A,rfl,_,_,hp,_,_,⟨G,_,own,hI,_⟩,_⟩:=vTh.parts h
 have c:w.cell? ⟨A.vb,8,none⟩=some (.pointer (some ⟨A.ip,0,none⟩)):=hp.cell (j:=8) (by decide)
 have HW:=Lib.hid (intakeWait_in hI n hn)
 clear hp h hI
 go_enter Tryz.func26,Tryz.ntmps26
 go_wp2_with (go_at_call 62;refine HW.out.mono ?_;rintro e w1 ⟨rfl,l1,d1,rfl⟩)
 all_goals go_ret
 all_goals exact ⟨rfl,(by repeat (first|exact Ex.refl _|refine Ex.alloc ?_ _|refine Ex.ext ?_ _ _|refine Ex.drew ?_|refine Ex.drewN ?_ _))⟩
end
end Go.Proofs.YtabbgpjofkaomaaGreatDoor

/- What New of package venue makes. -/
namespace Go.Proofs.YtabbgpjofkaomaaGreatDoor
open Go.RowKit
def newV (c:Cfg):VSt:=⟨c,newSt c.ref c.cash c.stock,fun _=>⟨⟨false,0,0⟩,[],false⟩,fun _=>[],0,⟨[],false,-1⟩,0,0,false⟩
def cliC (rd:Nat→Nat) (k:Nat):List Value:=(List.range k).flatMap fun c=>[.bool false,.int .i64 0,.int .i64 0,.pointer (some ⟨rd c,0,none⟩),.bool false]
theorem cliC_succ (rd:Nat→Nat) (k:Nat):cliC rd (k+1)=cliC rd k++[.bool false,.int .i64 0,.int .i64 0,.pointer (some ⟨rd k,0,none⟩),.bool false]:=by
 unfold cliC
 rw [List.range_succ,List.flatMap_append]
 rfl
theorem cliC_congr {rd rd':Nat→Nat} {k:Nat} (h:∀ c,c<k→rd c=rd' c):cliC rd k=cliC rd' k:=by
 induction k with
 | zero=>rfl
 | succ k ih=>rw [cliC_succ,cliC_succ,ih (fun c hc=>h c (by omega)),h k (by omega)]
def crowRd (rd:Nat→Nat) (k:Nat) (u:Value):Rd u where
 R w:=∃ base,w.ownsRow base 106 5 u k (cliC rd k)
 lt h g hg:=by
  obtain ⟨base,h⟩:=h
  exact (h.lt g hg).2
 same h hb:=by
  obtain ⟨base,h⟩:=h
  exact ⟨base,ownsRow_block h hb⟩
def rdsPTh (rd:Nat→Nat) (k:Nat):Th where
 P F w:=(∀ n,F n↔∃ c,c<k∧n=rd c)∧(∀ c d,c<k→d<k→rd c=rd d→c=d)∧∀ c,c<k→ReaderAt w (rd c) []
 lt h n hn:=by
  obtain ⟨c,hc,rfl⟩:=(h.1 n).1 hn
  exact (h.2.2 c hc).lt
 same h ho hn:=⟨h.1,h.2.1,fun c hc=>(ho.block _ (h.2.2 c hc).lt (hn _ ((h.1 _).2 ⟨c,hc,rfl⟩))).trans (h.2.2 c hc)⟩
def venC (c:Cfg) (fb ip dp:Nat) (u:Value):Array Value:=#[.int .u32 c.seed,.int .i64 c.wd,.int .i64 c.hl,.int .i64 c.ref,.int .i64 c.cash,.int .i64 c.stock,.pointer (some ⟨fb,0,none⟩),u,.pointer (some ⟨ip,0,none⟩),.pointer (some ⟨dp,0,none⟩),.int .i64 0,.int .i64 0,.bool false]
def NwX (w:World) (c:Cfg) (vb:Nat) (fa:FlA) (ip dp:Nat) (rd:Nat→Nat) (k:Nat) (u:Value) (W:World):Prop :=
 Sep NoF w [blkTh vb (venC c fa.f ip dp u) 101,rdTh (crowRd rd k u),flTh fa (newSt c.ref c.cash c.stock),labTh (inOb ip (fun _=>[]) 0),labTh (dkOb dp ⟨[],false,-1⟩),rdsPTh rd k] W
section
variable {w W W1 W':World} {c:Cfg} {vb ip dp k:Nat} {fa:FlA} {rd:Nat→Nat} {u u':Value}
theorem NwX.later (h:NwX w c vb fa ip dp rd k u W) (hx:Ex W W'):NwX w c vb fa ip dp rd k u W':=Sep.later h hx
theorem NwX.step (h:NwX w c vb fa ip dp rd k u W) (hx:Ex W W1) (hr:W1.heap[W.heap.size]?=some (.cells #[.string ⟨#[]⟩] 104 (0,0))) {base:Nat}
  (hown:W'.ownsRow base 106 5 u' (k+1) (cliC rd k++[.bool false,.int .i64 0,.int .i64 0,.pointer (some ⟨W.heap.size,0,none⟩),.bool false])) (hg:W1.grownBy W' u.ownBlock) (ho:∀ n,u'.ownBlock=some n→u.ownBlock=some n∨W1.heap.size≤n) :
  NwX w c vb fa ip dp (fun j=>if j=k then W.heap.size else rd j) (k+1) u' (W'.setCell ⟨vb,7,none⟩ u'):=by
 have hsz:=hx.below.size
 obtain ⟨G,⟨hG1,hG2,hG3⟩,hG,close⟩:=Sep.open h 5 rfl
 have S1:=close (W':=W1) (M:=[rdsPTh (fun j=>if j=k then W.heap.size else rd j) (k+1)]) (F':=fun n=>∃ c,c<k+1∧n=if c=k then W.heap.size else rd c) (Only.ex hx |>.mono fun n _ (h:NoF n)=>h.elim)
  (SepL.one ⟨fun n=>Iff.rfl,fun a b ha hb e=>by
   have e':(if a=k then W.heap.size else rd a)=(if b=k then W.heap.size else rd b):=e
   by_cases h1:a=k
   ·by_cases h2:b=k
    ·omega
    ·have:=(hG3 b (by omega)).lt
     rw [if_pos h1,if_neg h2] at e';omega
   ·by_cases h2:b=k
    ·have:=(hG3 a (by omega)).lt
     rw [if_neg h1,if_pos h2] at e';omega
    ·rw [if_neg h1,if_neg h2] at e'
     exact hG2 a b (by omega) (by omega) e',fun a ha=>by
   show ReaderAt W1 (if a=k then W.heap.size else rd a) []
   by_cases h1:a=k
   ·rw [if_pos h1];exact hr
   ·rw [if_neg h1];exact (hG3 a (by omega)).ex hx⟩)
  (fun n ⟨a,ha,e⟩=>by
   by_cases h1:a=k
   ·rw [if_pos h1] at e;exact .inr (Nat.le_of_eq e.symm)
   ·rw [if_neg h1] at e;exact .inl ((hG1 n).2 ⟨a,by omega,e⟩))
 obtain ⟨G2,⟨hR1,hR2⟩,_,close2⟩:=Sep.open S1 1 rfl
 have S2:=close2 (W':=W') (M:=[rdTh (crowRd (fun j=>if j=k then W.heap.size else rd j) (k+1) u')]) (F':=fun n=>u'.ownBlock=some n) (Only.grown hg fun b hb _=>(hR1 b).2 hb)
  (SepL.one ⟨fun n=>Iff.rfl,base,by
   rw [cliC_succ,cliC_congr (rd':=rd) (fun j hj=>if_neg (by omega))]
   simp only [if_true]
   exact hown⟩)
  (fun n hn=>by
   rcases ho n hn with h1|h1
   ·exact .inl ((hR1 n).2 h1)
   ·exact .inr h1)
 obtain ⟨G3,⟨hB1,hB2⟩,_,close3⟩:=Sep.open S2 0 rfl
 have S3:=close3 (W':=W'.setCell ⟨vb,7,none⟩ u') (M:=[blkTh vb (venC c fa.f ip dp u') 101]) (F':=fun n=>n=vb) ((Only.refl G3 W').setCell (p:=⟨vb,7,none⟩) (fun _=>(hB1 _).2 rfl) u')
  (SepL.one ⟨fun n=>Iff.rfl,by
   have h2:=heap_setCell_same W' vb 7 _ _ u' hB2
   have e:(venC c fa.f ip dp u).setIfInBounds 7 u'=venC c fa.f ip dp u':=by simp [venC]
   rw [e] at h2
   exact h2⟩)
  (fun n hn=>.inl ((hB1 n).2 hn))
 exact S3
theorem NwX.done (h:NwX w c vb fa ip dp rd 6 u W) (hr:fa.wd=c.wd∧fa.hl=c.hl):∃ F,(vTh vb fa dp (newV c)).P F W∧∀ n,F n→w.heap.size≤n:=by
 obtain ⟨F,hs,hF⟩:=h.sep
 obtain ⟨F1,F2,e1,d1,⟨b1,b2⟩,F3,F4,e2,d2,⟨r1,base,r2⟩,F5,F6,e3,d3,f1,F7,F8,e4,d4,i1,F9,F10,e5,d5,k1,F11,F12,e6,d6,⟨q1,q2,q3⟩,z⟩:=hs
 obtain ⟨hl,⟨rfl,h0⟩|⟨g,cap,cur,rfl,hb,hg,hc,hm,hz,ht⟩⟩:=r2
 ·cases h0
 refine ⟨F,⟨⟨vb,g,cap,fa,ip,dp,rd⟩,rfl,rfl,rfl,⟨hr.1,hr.2,hc,hm⟩,F1,F2,e1,d1,⟨b1,venC c fa.f ip dp (.slice (some ⟨g,0,none⟩) 6 cap),101,b2,fun n hn=>?_⟩,F3,F4,e2,d2,⟨fun n=>?_,cur,106,hg,fun n hn=>?_⟩,F5,F6,e3,d3,f1,F7,F8,e4,d4,i1,F9,F10,e5,d5,k1,F11,F12,e6,d6,⟨q1,q2,q3⟩,z⟩,fun n hn=>(hF n hn).elim (fun h=>h.elim) id⟩
 ·have h13:n=0∨n=1∨n=2∨n=3∨n=4∨n=5∨n=6∨n=7∨n=8∨n=9∨n=10∨n=11∨n=12:=by omega
  rcases h13 with rfl|rfl|rfl|rfl|rfl|rfl|rfl|rfl|rfl|rfl|rfl|rfl|rfl<;>rfl
 ·rw [r1 n]
  exact ⟨fun e=>by cases e;rfl,fun e=>by rw [e];rfl⟩
 ·rw [← Array.getElem?_toList,← List.getElem?_take_of_lt (i:=n) (j:=6*5) (by omega),ht]
  have h6:n / 5=0∨n / 5=1∨n / 5=2∨n / 5=3∨n / 5=4∨n / 5=5:=by omega
  have h5:n % 5=0∨n % 5=1∨n % 5=2∨n % 5=3∨n % 5=4:=by omega
  have hn5:n=5*(n / 5)+n % 5:=(Nat.div_add_mod n 5).symm
  unfold VA.item
  rcases h6 with a|a|a|a|a|a<;>rcases h5 with b|b|b|b|b<;>(rw [a,b] at hn5 ⊢;rw [hn5];rfl)
end
theorem labTh.fresh {o:LabOb} {w w':World} (h:ObjTo (fun _=>0) 1 1 w (fun u w'=>o.Ob u 1 w') w'):∃ F,(labTh o).P F w'∧(∀ n,F n→w.heap.size≤n)∧Ex w w':=by
 obtain ⟨F,h1,h2,h3⟩:=labTh.leaves (o:=o) (o':=o) (F:=NoF) (fun n _ e=>by cases e) (fun n hn=>hn.elim) h
 exact ⟨F,h1,fun n hn=>(h3 n hn).resolve_left id,h2.toEx fun n hn=>hn.elim⟩
theorem newDisk_th (w:World):Calls Tryz.prog 40 #[.string ⟨#[]⟩] w fun e w'=>∃ dp F,e=.returned (.tuple #[.pointer (some ⟨dp,0,none⟩),.nilIface])∧(labTh (dkOb dp ⟨[],false,-1⟩)).P F w'∧(∀ n,F n→w.heap.size≤n)∧Ex w w' :=
 (newDisk_any (fun _=>0) 1 [] w (by decide)).mono fun e w' ⟨he,hT⟩=>by
  obtain ⟨F,h1,h2,h3⟩:=labTh.fresh (o:=dkOb (w.heap.size+1) ⟨[],false,-1⟩) hT
  exact ⟨_,F,he,h1,h2,h3⟩
theorem intakeNew_th (w:World):Calls Tryz.prog 41 #[] w fun e w'=>∃ ip F,e=.returned (.pointer (some ⟨ip,0,none⟩))∧(labTh (inOb ip (fun _=>[]) 0)).P F w'∧(∀ n,F n→w.heap.size≤n)∧Ex w w' :=
 (intakeNew (fun _=>0) 1 w).mono fun e w' ⟨he,hT⟩=>by
  obtain ⟨F,h1,h2,h3⟩:=labTh.fresh (o:=inOb w.heap.size (fun _=>[]) 0) hT
  exact ⟨_,F,he,h1,h2,h3⟩
def Cfg.ok (c:Cfg):Prop:=((0≤c.wd∧c.wd≤100)∧1≤c.hl∧c.hl≤1000)∧(1≤c.ref∧c.ref≤1000)∧(0≤c.cash∧c.cash≤1073741824)∧0≤c.stock∧c.stock≤100000
theorem floorNew_th (c:Cfg) (hc:c.ok) (E:Nat→Addr) (w:World) (hE:Errs E [2,8] w) :
  Calls Tryz.prog 39 #[.agg #[.int .i64 c.wd,.int .i64 c.hl],.int .i64 c.ref,.int .i64 c.cash,.int .i64 c.stock] w fun e w'=>∃ (fa:FlA) (F:Nat→Prop),e=.returned (.tuple #[.pointer (some ⟨fa.f,0,none⟩),.nilIface])∧(fa.wd=c.wd∧fa.hl=c.hl)∧(flTh fa (newSt c.ref c.cash c.stock)).P F w'∧(∀ n,F n→w.heap.size≤n)∧Ex w w':=by
 obtain ⟨⟨⟨a1,a2⟩,a3,a4⟩,⟨r1,r2⟩,⟨c1,c2⟩,s1,s2⟩:=hc
 refine (fnew_ok (own:=fun _=>8) (c:=0) c.wd c.hl c.ref c.cash c.stock hE (fun n _=>by show ¬ (8:Nat) / 8=0;decide) a1 a2 a3 a4 r1 r2 c1 c2 s1 s2).mono ?_
 rintro e w' ⟨fa,o,he,hA,hw,hh,ho,hx⟩
 refine ⟨fa,_,he,⟨hw,hh⟩,flTh.of o hA,fun n hn=>?_,hx⟩
 by_cases h:n<w.heap.size
 ·have h2:=hn.2
  rw [ho n h] at h2
  exact absurd (show (8:Nat) / 8=0 from h2) (by decide)
 ·omega
theorem infoCli:(Tryz.prog.info? 106).map (fun i=>(i.zero,i.size,i.bytes))=some (some (.agg #[.bool false,.int .i64 0,.int .i64 0,.pointer none,.bool false]),5,40):=by kernel_rfl
theorem six_perm {T1 T2 T3 T4 T5 T6:Th}:([T1,T2]++[T3,T4,T5]++[T6]).Perm [T1,T2,T3,T5,T4,T6]:=by
 show [T1,T2,T3,T4,T5,T6].Perm _
 exact ((((List.Perm.swap T5 T4 [T6]).cons T3).cons T2).cons T1)
theorem wpList_append_both {P:Program} {ops:Array Oper} {rest:List Oper} {o:Oper} {a:Act} {w:World} {Q:Exit→Act→World→Prop} (hgd:o.guard=none) (s x:Operand) (t:TypeId)
  (ho:o.op=.call { callee:=.builtin .append,args:=#[s,x],argTypes:=#[t,t] })
  (base:Nat) (e:TypeId) (i:TypeInfo) (z:Value) (size bytes:Nat) (ht:P.underlying t=some (.slice e)) (hi:P.info? e=some i) (hz:i.zero=some z)
  (hsize:i.size=size) (hby:i.bytes=bytes) (hzs:z.cells.size=size) (hsz:0<size)
  (v:Value) (n:Nat) (xs:List Value) (hs:a.eval s=v) (hown:w.ownsRow base e size v n xs)
  (ad:Addr) (m c:Nat) (news:List Value) (hx:a.eval x=.slice (some ad) m c) (hl:news.length=m*size) (hnews:∀ j u,news[j]?=some u→w.cell? (ad.add j)=some u) (h1:∀ u∈news,u.oneCell'=true)
  (h63:n+m≤maxLen) (hbytes:(n+m)*bytes≤140737488355328) (hbase:base≤w.heap.size)
  (h:∀ v' w',w'.ownsRow base e size v' (n+m) (xs++news)→w.grownBy w' v.ownBlock→(v'.ownBlock=v.ownBlock∨v'.ownBlock=some w.heap.size)→wpList P ops Q rest (a.put o.dst v') w'):wpList P ops Q (o::rest) a w:=by
 obtain ⟨v1,w1,r1,a1,a2,_⟩:=run_append_own (P:=P) w base t o.type e i z size bytes ht hi hz hsize hby hzs hsz v n xs hown ad m c news hl hnews h1 h63 hbytes hbase
 obtain ⟨v2,w2,r2,b1,b2,b3,_,_⟩:=run_append_keep (P:=P) t t o.type e i z size bytes ht hi hz hsize hby hzs (rowAt_of_ownedV hown) (Src.ofSlice w ht ad m c news hl hnews h1) h63 hbytes
 rw [r1] at r2
 have ev:v1=v2:=by injection r2
 subst ev
 refine wpList_plain hgd fun _ hK'=>?_
 unfold Oper.wp execOp
 simp only [ho,resolve,invoke,builtin,Sem.run_bind,Sem.run_pure,Result.andThen_ok,List.map_toArray,List.map_cons,List.map_nil,hs,hx,r1]
 exact hK' _ _ (h v1 w1 a1 a2 b3)
set_option maxRecDepth 100000 in
set_option maxHeartbeats 8000000 in
theorem venueNew_ok (c:Cfg) (hc:c.ok) (E:Nat→Addr) (w:World) (hR:CodeReady E w) :
  Calls Tryz.prog 9 #[.agg #[.int .u32 c.seed,.int .i64 c.wd,.int .i64 c.hl,.int .i64 c.ref,.int .i64 c.cash,.int .i64 c.stock]] w fun e w'=>∃ (vb dp:Nat) (fa:FlA) (F:Nat→Prop),e=.returned (.tuple #[.pointer (some ⟨vb,0,none⟩),.nilIface])∧(vTh vb fa dp (newV c)).P F w'∧(∀ n,F n→w.heap.size≤n)∧Ex w w':=by
 have HF:=Lib.hid (fun W' (hx:Ex w W')=>floorNew_th c hc E W' (Errs.sub (hR.ex hx).1 (by decide)))
 obtain ⟨i0,hi0,hz0,hz1,hz2⟩:=info_parts infoCli
 clear hc hR
 obtain ⟨sd,wd,hl,rf,ca,st⟩:=c
 simp only at HF
 go_enter Tryz.func9,Tryz.ntmps9
 go_upto_region 7 with (first
  | (go_at_call 39;refine (HF.out _ (by repeat (first|exact Ex.refl _|refine Ex.alloc ?_ _|refine Ex.ext ?_ _ _|refine Ex.drew ?_|refine Ex.drewN ?_ _))).mono ?_;rintro e w3 ⟨fa,F3,rfl,hru,hf3,hn3,hx3⟩;have HX3:=Lib.hid hx3;clear hx3)
  | (go_at_call 40;refine (newDisk_th _).mono ?_;rintro e w4 ⟨dp,F4,rfl,hf4,hn4,hx4⟩;have HX4:=Lib.hid hx4;clear hx4))
 have hx01:Ex w (w.alloc (.cells #[.int .u32 sd,.int .i64 wd,.int .i64 hl,.int .i64 rf,.int .i64 ca,.int .i64 st] 34)):=(by repeat (first|exact Ex.refl _|refine Ex.alloc ?_ _|refine Ex.ext ?_ _ _|refine Ex.drew ?_|refine Ex.drewN ?_ _))
 have hx03:=hx01.trans HX3.out
 have HB3:Hid (Blk w4 w.heap.size #[.int .u32 sd,.int .i64 wd,.int .i64 hl,.int .i64 rf,.int .i64 ca,.int .i64 st] 34):=Lib.hid (((Blk.new rfl:Blk (w.alloc (.cells #[.int .u32 sd,.int .i64 wd,.int .i64 hl,.int .i64 rf,.int .i64 ca,.int .i64 st] 34)) w.heap.size #[.int .u32 sd,.int .i64 wd,.int .i64 hl,.int .i64 rf,.int .i64 ca,.int .i64 st] 34).ex HX3.out).ex HX4.out)
 have HS2:Hid (Sep NoF w [flTh fa (newSt rf ca st),labTh (dkOb dp ⟨[],false,-1⟩)] w4):=Lib.hid (((Sep.law w).add hx03 (SepL.one hf3) (fun n hn=>by have:=hn3 n hn;simp at this;omega)).addB HX4.out (SepL.one hf4) hn4)
 have hgc:=blk_cell HB3.out
 have d0:=hgc 0
 have d1:=hgc 1
 have d2:=hgc 2
 have d3:=hgc 3
 have d4:=hgc 4
 have d5:=hgc 5
 simp only [List.getElem?_toArray,List.getElem?_cons_zero,List.getElem?_cons_succ] at d0 d1 d2 d3 d4 d5
 have hcl:=lt_of_cell d0
 clear hgc hx01 hx03 HX3 HX4 hf3 hn3 hf4 hn4 HF
 generalize w.heap.size=cb at *
 go_region_held3 (fun W'=>W'.cell? ⟨cb,0,none⟩=some (.int .u32 sd)∧W'.cell? ⟨cb,1,none⟩=some (.int .i64 wd)∧W'.cell? ⟨cb,2,none⟩=some (.int .i64 hl)∧W'.cell? ⟨cb,3,none⟩=some (.int .i64 rf)∧W'.cell? ⟨cb,4,none⟩=some (.int .i64 ca)∧W'.cell? ⟨cb,5,none⟩=some (.int .i64 st))
  (first|(with_reducible exact ⟨d0,d1,d2,d3,d4,d5⟩)|(with_reducible exact ⟨e0,e1,e2,e3,e4,e5⟩)|(simp [go_sem,↓IntWalk.iteOmega,d0,d1,d2,d3,d4,d5];done)|(simp [go_sem,↓IntWalk.iteOmega,e0,e1,e2,e3,e4,e5];done))
  ((go_at_call 41;refine (intakeNew_th _).mono ?_;rintro e w5 ⟨ip,F5,rfl,hf5,hn5,hx5⟩;have hgc:=blk_cell (Blk.ex (by exact HB3.out) hx5);have e0:=hgc 0;have e1:=hgc 1;have e2:=hgc 2;have e3:=hgc 3;have e4:=hgc 4;have e5:=hgc 5;simp only [List.getElem?_toArray,List.getElem?_cons_zero,List.getElem?_cons_succ] at e0 e1 e2 e3 e4 e5;have hcl5:=lt_of_cell e0;have HS5:=Lib.hid ((HS2.out.later (show Ex w4 _ from (by repeat (first|exact Ex.refl _|refine Ex.alloc ?_ _|refine Ex.ext ?_ _ _|refine Ex.drew ?_|refine Ex.drewN ?_ _)))).addB hx5 (SepL.one hf5) hn5);clear hgc hf5 hn5 hx5))
 go_wp2_with fail
 refine wp_world (R:=fun W'=>NwX w ⟨sd,wd,hl,rf,ca,st⟩ w5.heap.size fa ip dp (fun _=>0) 0 (.slice none 0 0) W') ?_ ?_
 focus
  have S6:=HS5.out.add (M:=[blkTh w5.heap.size (venC ⟨sd,wd,hl,rf,ca,st⟩ fa.f ip dp (.slice none 0 0)) 101,rdTh (crowRd (fun _=>0) 0 (.slice none 0 0))]) (show Ex w5 (w5.alloc (.cells (venC ⟨sd,wd,hl,rf,ca,st⟩ fa.f ip dp (.slice none 0 0)) 101)) from (by repeat (first|exact Ex.refl _|refine Ex.alloc ?_ _|refine Ex.ext ?_ _ _|refine Ex.drew ?_|refine Ex.drewN ?_ _))) (SepL.two (F:=fun n=>n=w5.heap.size) (G:=fun n=>(Value.slice none 0 0).ownBlock=some n) ⟨fun n=>Iff.rfl,alloc_at rfl⟩ ⟨fun n=>Iff.rfl,0,World.ownsRow_nil _ _ _ _⟩ (fun n _ h=>by cases h)) (fun n hn=>by rcases hn with h|h<;>first|omega|cases h)
  have S7:=S6.addB (Ex.refl _) (SepL.one (T:=rdsPTh (fun _=>0) 0) (F:=fun n=>∃ c,c<0∧n=(fun _=>0) c) ⟨fun n=>Iff.rfl,fun c d hc=>absurd hc (Nat.not_lt_zero c),fun c hc=>absurd hc (Nat.not_lt_zero c)⟩) (fun n ⟨c,hc,_⟩=>absurd hc (Nat.not_lt_zero c))
  exact S7.perm six_perm
 clear HS5 HS2 HB3 d0 d1 d2 d3 d4 d5 e0 e1 e2 e3 e4 e5 hcl hcl5
 generalize w5.heap.size=vb at *
 rintro W7 hN
 have HN:=Lib.hid hN
 clear hN
 go_loopw [36] (fun i wr=>∃ (k:Nat) (rd:Nat→Nat) (u:Value),k≤6∧i=.int .i64 (k:Int)∧NwX w ⟨sd,wd,hl,rf,ca,st⟩ vb fa ip dp rd k u wr) (fun i _=>6 - (intOf i).toNat)
 case atStart=>exact ⟨0,_,_,by omega,rfl,HN.out.later (by repeat (first|exact Ex.refl _|refine Ex.alloc ?_ _|refine Ex.ext ?_ _ _|refine Ex.drew ?_|refine Ex.drewN ?_ _))⟩
 case round =>
  obtain ⟨k,rd,u,hk,rfl,hX⟩:=hrel
  clear HN
  by_cases hlt:k<6
  ·have hk6:(k:Int)<6:=by omega
   obtain ⟨_,_,hvb⟩:=Sep.look hX 0 rfl
   obtain ⟨_,_,base,hrow⟩:=Sep.look hX 1 rfl
   obtain ⟨au,cu,rfl,hcu,hmu⟩:=owns_slice hrow
   have hgc:=blk_cell hvb
   have c7:=hgc 7
   simp only [venC,List.getElem?_toArray,List.getElem?_cons_zero,List.getElem?_cons_succ] at c7
   have hvl:=lt_of_cell c7
   have hvf:∀ j,wr.frozen? ⟨vb,j,none⟩=false:=fun j=>by simp [World.frozen?,hvb]
   have HROW:=Lib.hid hrow
   have HX:=Lib.hid hX
   have HR0:=Lib.hid (ownsRow_base (b':=0) hrow (Nat.zero_le _))
   have hnb:=owns_ne hrow (show Blk wr vb _ _ from hvb) (by decide)
   have HVB:=Lib.hid (show Blk wr vb (venC ⟨sd,wd,hl,rf,ca,st⟩ fa.f ip dp (.slice au k cu)) 101 from hvb)
   clear hX hrow hgc hvb HROW
   have hw1:Ex wr ((wr.alloc (.cells #[.string ⟨#[]⟩] 104)).alloc (.cells #[.bool false,.int .i64 0,.int .i64 0,.pointer (some ⟨wr.heap.size,0,none⟩),.bool false] 106)):=(by repeat (first|exact Ex.refl _|refine Ex.alloc ?_ _|refine Ex.ext ?_ _ _|refine Ex.drew ?_|refine Ex.drewN ?_ _))
   go_wp2_with (at_builtin;refine wpList_append_both rfl (.tmp 42) (.tmp 46) 99 rfl 0 106 i0 _ 5 40 Tryz.underlying99 hi0 hz0 hz1 hz2 rfl (by decide) (.slice au k cu) k (cliC rd k) rfl ?_ ⟨wr.heap.size+1,0,none⟩ 1 1 [.bool false,.int .i64 0,.int .i64 0,.pointer (some ⟨wr.heap.size,0,none⟩),.bool false] rfl rfl ?_ ?_ (by unfold maxLen;omega) (by omega) (Nat.zero_le _) ?_)
   focus exact ownsRow_block HR0.out (fun g hg=>hw1.below.block g (HR0.out.lt g hg).2)
   focus exact World.news_of_block (alloc_top (by simp [go_sem]))
   focus simp [Value.oneCell']
   intro v' w' hown hgrow hob
   obtain ⟨av2,cv2,rfl,_,_⟩:=owns_slice hown
   have H2:=Lib.hid (HX.out.step hw1 ((heap_alloc_old _ _ (by simp)).trans (heap_alloc_new wr _)) hown hgrow (fun n hn=>by
    rcases hob with h|h
    ·exact .inl (h.symm.trans hn)
    ·rw [h] at hn;cases hn;exact .inr (by simp)))
   have hb2:=Blk.grown (HVB.out.ex hw1) hgrow hnb
   have hgc:=blk_cell hb2
   have c7:=hgc 7
   simp only [venC,List.getElem?_toArray,List.getElem?_cons_zero,List.getElem?_cons_succ] at c7
   have hvl:=lt_of_cell c7
   have hvf:∀ j,w'.frozen? ⟨vb,j,none⟩=false:=fun j=>by simp [World.frozen?,show w'.heap[vb]?=_ from hb2]
   clear hown hgrow hob hgc hb2 HX HVB HR0
   go_wp2_with fail
   go_roundw
   case measure=>simp [intOf];omega
   case rel=>exact ⟨k+1,_,_,by omega,by go_num,H2.out.later (by repeat (first|exact Ex.refl _|refine Ex.alloc ?_ _|refine Ex.ext ?_ _ _|refine Ex.drew ?_|refine Ex.drewN ?_ _))⟩
  ·obtain rfl:k=6:=by omega
   have HX:=Lib.hid hX
   have hex:=hX.ex
   have HEX:=Lib.hid hex
   obtain ⟨F,hF,hn⟩:=NwX.done hX hru
   have HF:=Lib.hid hF
   have HNN:=Lib.hid hn
   clear hX hex hF hn
   go_wp2_with fail
   all_goals go_returns
   all_goals exact ⟨vb,dp,fa,F,rfl,(vTh vb fa dp _).same HF.out (Only.ex (by repeat (first|exact Ex.refl _|refine Ex.alloc ?_ _|refine Ex.ext ?_ _ _|refine Ex.drew ?_|refine Ex.drewN ?_ _))) (fun n _ (h:NoF n)=>h.elim),HNN.out,HEX.out.trans (by repeat (first|exact Ex.refl _|refine Ex.alloc ?_ _|refine Ex.ext ?_ _ _|refine Ex.drew ?_|refine Ex.drewN ?_ _))⟩
end Go.Proofs.YtabbgpjofkaomaaGreatDoor

/- What holds in a law of venues: venues and rows as things side by side, in memory that is the law's own. -/
namespace Go.Proofs.YtabbgpjofkaomaaGreatDoor
open Go.RowKit
theorem rrow_cells {l:List Rep} {u:Value} {w:World} (h:(rrowRd l u).R w) {k:Nat} (hk:k<l.length):∃ b off cap,u=.slice (some ⟨b,off,none⟩) l.length cap∧(l.length≤cap∧cap≤maxLen)∧b<w.heap.size∧∀ j,j<6→w.cell? ⟨b,off+k*6+j,none⟩=l[k].cells[j]?:=by
 have h:RowAt w 50 6 u l.length (flat Rep.cells l):=h
 obtain ⟨hl,⟨rfl,h0⟩|⟨g,off,cap,cur,rfl,hr⟩⟩:=h
 ·omega
 ·have h':RowAt w 50 6 (.slice (some ⟨g,off,none⟩) l.length cap) l.length (flat Rep.cells l):=⟨hl,.inr ⟨g,off,cap,cur,rfl,hr⟩⟩
  refine ⟨g,off,cap,rfl,⟨hr.2.1,hr.2.2.1⟩,h'.lt g rfl,fun j hj=>?_⟩
  rw [Nat.add_assoc,h'.cell (j:=k*6+j) (by omega)]
  exact flat_get (N:=6) (f:=Rep.cells) rep_len l k hk j hj
structure LX (E:Nat→Addr) (w0:World) (L:List Th) (W:World):Prop where
 sep:Sep NoF w0 L W
 rdy:CodeReady E w0
 tab:Tab w0
section
variable {E:Nat→Addr} {w0 W W':World} {L M M1 M2:List Th} {T T':Th} {vb dp:Nat} {fa:FlA} {v:VSt}
theorem LX.start (hr:CodeReady E w0) (ht:Tab w0):LX E w0 [] w0:=⟨Sep.law w0,hr,ht⟩
theorem LX.ex (X:LX E w0 L W):Ex w0 W:=X.sep.ex
theorem LX.later (X:LX E w0 L W) (hx:Ex W W'):LX E w0 L W':=⟨X.sep.later hx,X.rdy,X.tab⟩
theorem LX.add (X:LX E w0 L W) (hx:Ex W W') {F:Nat→Prop} (hM:SepL M F W') (hn:∀ n,F n→W.heap.size≤n):LX E w0 (M++L) W':=⟨X.sep.add hx hM hn,X.rdy,X.tab⟩
theorem ltake (M1:List Th) (T:Th) (M2:List Th):(M1++(T::M2)).take M1.length=M1∧(M1++(T::M2)).drop (M1.length+1)=M2∧(M1++(T::M2))[M1.length]?=some T:=by
 refine ⟨List.take_left' rfl,?_,by simp⟩
 rw [show M1++(T::M2)=(M1++[T])++M2 by simp]
 exact List.drop_left' (by simp)
theorem LX.at (M1:List Th) (X:LX E w0 (M1++(T::M2)) W):∃ G:Nat→Prop,T.P G W∧(∀ n,G n→w0.heap.size≤n)∧∀ {W':World} {M:List Th},LeavesL M G W W'→LX E w0 (M1++(M++M2)) W':=by
 obtain ⟨h1,h2,h3⟩:=ltake M1 T M2
 obtain ⟨G,hT,hG,close⟩:=X.sep.open M1.length h3
 refine ⟨G,hT,fun n hn=>(hG n hn).resolve_left id,fun {W' M} hL=>?_⟩
 obtain ⟨F',k1,k2,k3⟩:=hL
 have k:=close k2 k1 k3
 rw [h1,h2] at k
 exact ⟨k,X.rdy,X.tab⟩
theorem LX.look (M1:List Th) (X:LX E w0 (M1++(T::M2)) W):∃ G:Nat→Prop,T.P G W:=by
 obtain ⟨G,h,_⟩:=X.at M1
 exact ⟨G,h⟩
theorem LX.less (M1:List Th) (X:LX E w0 (M1++(T::M2)) W):LX E w0 (M1++M2) W:=by
 obtain ⟨G,_,_,close⟩:=X.at M1
 exact close (M:=[]) ⟨fun _=>False,fun n hn=>hn,Only.refl _ _,fun n hn=>hn.elim⟩
theorem LX.row (M1:List Th) {u:Value} {r:Rd u} (X:LX E w0 (M1++(rdTh r::M2)) W):r.R W:=by
 obtain ⟨G,h⟩:=X.look M1
 exact h.2
theorem LX.addRow {u:Value} {r:Rd u} (X:LX E w0 L W) (hx:Ex W W') (hr:r.R W') (hn:∀ g,u.ownBlock=some g→W.heap.size≤g):LX E w0 (rdTh r::L) W' :=
 X.add (M:=[rdTh r]) (F:=fun n=>u.ownBlock=some n) hx (SepL.one ⟨fun n=>Iff.rfl,hr⟩) hn
theorem LX.grow (M1:List Th) {u u':Value} {r:Rd u} {r':Rd u'} {z:Nat} (X:LX E w0 (M1++(rdTh r::M2)) W) (hg:W.grownBy W' u.ownBlock) (ho:u'.ownBlock=u.ownBlock∨u'.ownBlock=some z) (hz:z=W.heap.size) (hr:r'.R W'):LX E w0 (M1++(rdTh r'::M2)) W':=by
 subst hz
 obtain ⟨G,⟨hG1,hG2⟩,hG,close⟩:=X.at M1
 exact close (M:=[rdTh r']) ⟨fun n=>u'.ownBlock=some n,SepL.one ⟨fun n=>Iff.rfl,hr⟩,Only.grown hg fun b hb _=>(hG1 b).2 hb,fun n hn=>by
  rcases ho with h|h
  ·exact .inl ((hG1 n).2 (h.symm.trans hn))
  ·rw [h] at hn;cases hn;exact .inr (Nat.le_refl _)⟩
theorem LX.feed (M1:List Th) (X:LX E w0 (M1++(vTh vb fa dp v::M2)) W) (hL:∀ n,n<6→(v.cl n).left.length<30) {n:Nat} (hn:n<6) (s:List UInt8) (hs:s.length≤900) :
  Calls Tryz.prog 14 #[.pointer (some ⟨vb,0,none⟩),.int .i64 (n:Int),.string ⟨s.toArray⟩] W fun e w'=>∃ u,e=.returned u∧LX E w0 (M1++(vTh vb fa dp (feedR n s v).2::rdTh (rrowRd (feedR n s v).1 u)::M2)) w':=by
 obtain ⟨G,h,hl,close⟩:=X.at M1
 exact (vTh.feed h X.ex hl X.rdy hL hn s hs).mono fun e w' ⟨u,he,hT⟩=>⟨u,he,close hT⟩
theorem LX.tick (M1:List Th) (X:LX E w0 (M1++(vTh vb fa dp v::M2)) W) (hO:VOk v) (hnow:v.now≤100000) :
  Calls Tryz.prog 16 #[.pointer (some ⟨vb,0,none⟩)] W fun e w'=>∃ u,e=.returned u∧LX E w0 (M1++(vTh vb fa dp (tickR v).2::rdTh (rrowRd (tickR v).1 u)::M2)) w':=by
 obtain ⟨G,h,hl,close⟩:=X.at M1
 exact (vTh.tick h X.ex hl X.rdy hO X.tab hnow).mono fun e w' ⟨u,he,hT⟩=>⟨u,he,close hT⟩
theorem LX.cut (M1:List Th) (X:LX E w0 (M1++(vTh vb fa dp v::M2)) W) (n:Int) (hn:n≤9223372036854775807) :
  Calls Tryz.prog 44 #[.pointer (some ⟨dp,0,none⟩),.int .i64 n] W fun e w'=>e=.returned (errV E (v.d.cutE n))∧LX E w0 (M1++(vTh vb fa dp { v with d:=v.d.cutD n }::M2)) w':=by
 obtain ⟨G,h,hl,close⟩:=X.at M1
 exact (vTh.cut h X.ex hl X.rdy n hn).mono fun e w' ⟨he,hT⟩=>⟨he,close hT⟩
theorem LX.new (X:LX E w0 L W) (c:Cfg) (hc:c.ok) :
  Calls Tryz.prog 9 #[.agg #[.int .u32 c.seed,.int .i64 c.wd,.int .i64 c.hl,.int .i64 c.ref,.int .i64 c.cash,.int .i64 c.stock]] W fun e w'=>∃ (vb dp:Nat) (fa:FlA),e=.returned (.tuple #[.pointer (some ⟨vb,0,none⟩),.nilIface])∧LX E w0 (vTh vb fa dp (newV c)::L) w' :=
 (venueNew_ok c hc E W (X.rdy.ex X.ex)).mono fun e w' ⟨vb,dp,fa,F,he,hv,hn,hx⟩=>⟨vb,dp,fa,he,X.add (M:=[vTh vb fa dp (newV c)]) hx (SepL.one hv) hn⟩
set_option maxRecDepth 100000 in
theorem vfeed_bad (vb:Nat) (n:Int) (hn:inR n 0 5=false) (s:ByteArray) (w:World):Calls Tryz.prog 14 #[.pointer (some ⟨vb,0,none⟩),.int .i64 n,.string s] w fun e w'=>e=.returned (.slice none 0 0)∧Ex w w':=by
 have HRT:Hid (∀ W,Calls Tryz.prog 46 #[.int .i64 n] W fun e w'=>e=.returned (.bool false)∧Ex W w'):=Lib.hid (fun W=>by have h:=vright_any n W;rw [hn] at h;exact h)
 clear hn
 go_enter Tryz.func14,Tryz.ntmps14
 go_wp2_with (go_at_call 46;refine (HRT.out _).mono ?_;rintro e w1 ⟨rfl,l1,d1,rfl⟩)
 all_goals go_ret
 all_goals exact ⟨rfl,(by repeat (first|exact Ex.refl _|refine Ex.alloc ?_ _|refine Ex.ext ?_ _ _|refine Ex.drew ?_|refine Ex.drewN ?_ _))⟩
def smallC:Cfg:=⟨5,10,2,100,20000,100⟩
theorem smallC_ok:smallC.ok:=by simp [Cfg.ok,smallC]
set_option maxRecDepth 100000 in
theorem playConfig_any (k:Int) (hk:0≤k∧k<4294967296) (w:World):Calls Tryz.prog 42 #[.int .i64 k] w fun e w'=>e=.returned (.agg #[.int .u32 k,.int .i64 10,.int .i64 2,.int .i64 100,.int .i64 20000,.int .i64 100])∧Ex w w':=by
 have e1:IntKind.u32.wrap k=k:=IntWalk.u32_in _ (by omega)
 go_enter Tryz.func42,Tryz.ntmps42
 go_wp2
 all_goals go_returns
 all_goals exact ⟨rfl,(by repeat (first|exact Ex.refl _|refine Ex.alloc ?_ _|refine Ex.ext ?_ _ _|refine Ex.drew ?_|refine Ex.drewN ?_ _))⟩
set_option maxRecDepth 100000 in
theorem small_any (w:World):Calls Tryz.prog 11 #[] w fun e w'=>e=.returned (.agg #[.int .u32 5,.int .i64 10,.int .i64 2,.int .i64 100,.int .i64 20000,.int .i64 100])∧Ex w w':=by
 go_enter Tryz.func11,Tryz.ntmps11
 go_wp2_with (go_at_call 42;refine (playConfig_any 5 (by decide) _).mono ?_;rintro e w1 ⟨rfl,l1,d1,rfl⟩)
 all_goals go_returns
 all_goals exact ⟨rfl,(by repeat (first|exact Ex.refl _|refine Ex.alloc ?_ _|refine Ex.ext ?_ _ _|refine Ex.drew ?_|refine Ex.drewN ?_ _))⟩
set_option maxRecDepth 100000 in
theorem asConfig_any (a b c d e f:Int) (w:World):Calls Tryz.prog 10 #[.agg #[.int .u32 a,.int .i64 b,.int .i64 c,.int .i64 d,.int .i64 e,.int .i64 f]] w fun e' w'=>e'=.returned (.agg #[.int .u32 a,.int .i64 b,.int .i64 c,.int .i64 d,.int .i64 e,.int .i64 f])∧Ex w w':=by
 go_enter Tryz.func10,Tryz.ntmps10
 go_wp2
 all_goals go_returns
 all_goals exact ⟨rfl,(by repeat (first|exact Ex.refl _|refine Ex.alloc ?_ _|refine Ex.ext ?_ _ _|refine Ex.drew ?_|refine Ex.drewN ?_ _))⟩
end
end Go.Proofs.YtabbgpjofkaomaaGreatDoor

/- How the arguments of a venue's statements read: slices of steps, each with a slice of requests. -/
namespace Go.Proofs.YtabbgpjofkaomaaGreatDoor
open Go.ChangeShapes Go.WideShapes Go.ChangeAt Go.RowKit Go.Deep
structure Sl where
 ao:Option Addr
 len:Nat
 cap:Nat
 deriving DecidableEq
def Sl.ok (w:World) (s:Sl):Prop:=(s.len≤s.cap∧s.cap≤9223372036854775807∧(s.ao=none→s.cap=0))∧∃ l,AsksAt w s.ao s.len l
set_option maxRecDepth 100000 in
theorem sl_of_trod {H:Type} {enc:TypeId × Value→H} {w:World} {base:Nat} {spare:Nat→Bool} {held:Bool} {fuel:Nat} {c:Value} {y:DataW H × List MemPlace} (hf:DataW.trod enc Tryz.prog w base spare held fuel 39 [c]=some y):∃ a:Sl,c=.slice a.ao a.len a.cap∧a.ok w:=by
 have hcN:Tryz.prog.cellsOf 45=8:=by kernel_rfl
 rcases open_slice Tryz.underlying39 hf with ⟨hcs,hx⟩|⟨a,len,cap,m,n,D,Pl,hcs,_,hl,hm,hmm,hx,hel⟩
 ·simp at hcs
  subst hcs
  exact ⟨⟨none,0,0⟩,rfl,⟨by show (0:Nat)≤0;omega,by show (0:Nat)≤_;omega,fun _=>rfl⟩,[],rfl,by show (0:Nat)≤_;omega,fun _ h=>(by cases h),fun h=>by cases h⟩
 ·simp at hcs
  subst hcs
  unfold maxLen at hm
  have hlm:len≤m:=by rw [hmm];split<;>omega
  rw [hcN] at hel
  have hel':∀ i,i<len→∃ x:Ask,x.wf∧w.cells? base (a.add (i*8)) 8=some x.cells:=fun i hi=>by
   obtain ⟨cs',h1,h2⟩:=hel i (by omega)
   obtain ⟨x,hx1,rfl⟩:=ask_of_trod h2
   exact ⟨x,hx1,h1⟩
  haveI:Inhabited Ask:=⟨⟨0,0,0,0,0,0,0,0⟩⟩
  obtain ⟨f,hF⟩:=choose_lt hel'
  refine ⟨⟨some a,len,cap⟩,rfl,⟨hl,by show cap≤_;omega,fun h=>by cases h⟩,(List.range len).map f,by simp,by show len≤_;omega,fun x hx=>?_,fun h0=>?_⟩
  ·obtain ⟨i,hi,rfl⟩:=List.mem_map.1 hx
   exact (hF i (List.mem_range.1 hi)).1
  ·have h0:0<len:=h0
   have hcell:∀ k,k<len→∀ j,j<8→w.cell? (a.add (k*8+j))=(f k).cells[j]?:=fun k hk j hj=>by
    obtain ⟨_,_,hat⟩:=World.cells?_some (hF k hk).2
    rw [← Go.Deep.add_add]
    exact hat j hj
   obtain ⟨b,off,sp⟩:=a
   have h00:=hcell 0 h0 0 (by omega)
   have hsp:sp=none:=by
    cases sp with
    | none=>rfl
    | some q =>
     exfalso
     rw [show w.cell? (Addr.add ⟨b,off,some q⟩ (0*8+0))=none by unfold World.cell? Addr.add;split<;>simp] at h00
     simp [Ask.cells] at h00
   subst hsp
   have hadd:∀ i,Addr.add ⟨b,off,none⟩ i=⟨b,off+i,none⟩:=fun i=>by
    unfold Addr.add
    by_cases hi:i=0<;>simp [hi]
   refine ⟨b,off,rfl,?_,fun k hk j hj=>?_⟩
   ·rw [hadd] at h00
    exact lt_of_cell (v:=.int .u8 (f 0).kind) (by rw [h00];rfl)
   ·have:=hcell k (by simpa using hk) j hj
    rw [hadd] at this
    rw [Nat.add_assoc,this]
    simp
structure Step where
 kind:ByteArray
 client:Int
 asks:Sl
 s:ByteArray
 n:Int
 deriving DecidableEq
def Step.cells (a:Step):List Value:=[.string a.kind,.int .i64 a.client,.slice a.asks.ao a.asks.len a.asks.cap,.string a.s,.int .i64 a.n]
abbrev Step.val (a:Step):Value:=.agg #[.string a.kind,.int .i64 a.client,.slice a.asks.ao a.asks.len a.asks.cap,.string a.s,.int .i64 a.n]
def Step.wf (w:World) (a:Step):Prop:=a.kind.size≤maxLen∧(Lit.int .i64 a.client).wf=true∧a.asks.ok w∧a.s.size≤maxLen∧(Lit.int .i64 a.n).wf=true
set_option maxRecDepth 100000 in
theorem step_of_trod {H:Type} {enc:TypeId × Value→H} {w:World} {base:Nat} {spare:Nat→Bool} {held:Bool} {n:Nat} {cs:List Value} {y:DataW H × List MemPlace} (h:DataW.trod enc Tryz.prog w base spare held n 41 cs=some y):∃ a:Step,a.wf w∧cs=a.cells:=by
 obtain ⟨ys,n',hn',hy,hlen,hyl,hf⟩:=DataW.trod_struct Tryz.underlying41 h
 have hcN:Tryz.prog.cellsOf 41=5:=by kernel_rfl
 rw [hcN] at hlen
 match cs,hlen with
 | [c0,c1,c2,c3,c4],_ =>
  match ys,hyl with
  | [y0,y1,y2,y3,y4],_ =>
   have g0:DataW.trod enc Tryz.prog w base spare held n' 9 (([c0,c1,c2,c3,c4].drop 0).take (Tryz.prog.cellsOf 9))=some y0:=hf 0 _ rfl
   rw [show Tryz.prog.cellsOf 9=1 by kernel_rfl] at g0
   have g1:DataW.trod enc Tryz.prog w base spare held n' 3 (([c0,c1,c2,c3,c4].drop 1).take (Tryz.prog.cellsOf 3))=some y1:=hf 1 _ rfl
   rw [show Tryz.prog.cellsOf 3=1 by kernel_rfl] at g1
   have g2:DataW.trod enc Tryz.prog w base spare held n' 39 (([c0,c1,c2,c3,c4].drop 2).take (Tryz.prog.cellsOf 39))=some y2:=hf 2 _ rfl
   rw [show Tryz.prog.cellsOf 39=1 by kernel_rfl] at g2
   have g3:DataW.trod enc Tryz.prog w base spare held n' 9 (([c0,c1,c2,c3,c4].drop 3).take (Tryz.prog.cellsOf 9))=some y3:=hf 3 _ rfl
   rw [show Tryz.prog.cellsOf 9=1 by kernel_rfl] at g3
   have g4:DataW.trod enc Tryz.prog w base spare held n' 3 (([c0,c1,c2,c3,c4].drop 4).take (Tryz.prog.cellsOf 3))=some y4:=hf 4 _ rfl
   rw [show Tryz.prog.cellsOf 3=1 by kernel_rfl] at g4
   obtain ⟨x0,e0,_,w0⟩:=DataW.trod_string Tryz.underlying9 g0
   simp at e0
   subst e0
   obtain ⟨x1,e1,_,w1⟩:=DataW.trod_int Tryz.underlying3 g1
   simp at e1
   subst e1
   simp at g2
   obtain ⟨x2,e2,w2⟩:=sl_of_trod g2
   subst e2
   obtain ⟨x3,e3,_,w3⟩:=DataW.trod_string Tryz.underlying9 g3
   simp at e3
   subst e3
   obtain ⟨x4,e4,_,w4⟩:=DataW.trod_int Tryz.underlying3 g4
   simp at e4
   subst e4
   exact ⟨⟨x0,x1,x2,x3,x4⟩,⟨w0,w1,w2,w3,w4⟩,rfl⟩
def StepsAt (w:World) (ao:Option Addr) (len:Nat) (l:List Step):Prop :=
 l.length=len∧len≤9223372036854775807∧(∀ a∈l,a.wf w) ∧
  (0<len→∃ b off,ao=some ⟨b,off,none⟩∧b<w.heap.size∧∀ k (h:k<l.length) j,j<5→w.cell? ⟨b,off+k*5+j,none⟩=l[k].cells[j]?)
set_option maxRecDepth 100000 in
theorem steps_open {H:Type} {enc:TypeId × Value→H} {w:World} {b0:Nat} {v:Value} {d:DataW H} {p:List MemPlace} (hok:Value.okWide Tryz.prog w .any b0 22 v)
  (h:DataW.Trod enc Tryz.prog w 0 (fun _=>true) true 22 v d p):∃ ao len cap l,v=.slice ao len cap∧(len≤cap∧cap≤9223372036854775807∧(ao=none→cap=0))∧StepsAt w ao len l:=by
 obtain ⟨a0,len,cap,rfl⟩:=okWide_slice Tryz.underlying22 hok
 obtain ⟨fuel,hf⟩:=h
 have hcN:Tryz.prog.cellsOf 41=5:=by kernel_rfl
 rcases open_slice Tryz.underlying22 hf with ⟨hcs,hx⟩|⟨a,len',cap',m,n,D,Pl,hcs,_,hl,hm,hmm,hx,hel⟩
 ·simp [Value.cells] at hcs
  obtain ⟨rfl,rfl,rfl⟩:=hcs
  exact ⟨none,0,0,[],rfl,⟨by omega,by omega,fun _=>rfl⟩,rfl,by omega,fun _ h=>(by cases h),fun h=>by omega⟩
 ·simp [Value.cells] at hcs
  obtain ⟨rfl,rfl,rfl⟩:=hcs
  unfold maxLen at hm
  simp at hmm
  rw [hcN] at hel
  have hel':∀ i,i<len→∃ x:Step,x.wf w∧w.cells? 0 (a.add (i*5)) 5=some x.cells:=fun i hi=>by
   obtain ⟨cs',h1,h2⟩:=hel i (by omega)
   obtain ⟨x,hx1,rfl⟩:=step_of_trod h2
   exact ⟨x,hx1,h1⟩
  haveI:Inhabited Step:=⟨⟨ByteArray.empty,0,⟨none,0,0⟩,ByteArray.empty,0⟩⟩
  obtain ⟨f,hF⟩:=choose_lt hel'
  refine ⟨some a,len,cap,(List.range len).map f,rfl,⟨by omega,by omega,fun h=>by cases h⟩,by simp,by omega,fun x hx=>?_,fun h0=>?_⟩
  ·obtain ⟨i,hi,rfl⟩:=List.mem_map.1 hx
   exact (hF i (List.mem_range.1 hi)).1
  ·have hcell:∀ k,k<len→∀ j,j<5→w.cell? (a.add (k*5+j))=(f k).cells[j]?:=fun k hk j hj=>by
    obtain ⟨_,_,hat⟩:=World.cells?_some (hF k hk).2
    rw [← Go.Deep.add_add]
    exact hat j hj
   obtain ⟨b,off,sp⟩:=a
   have h00:=hcell 0 h0 0 (by omega)
   have hsp:sp=none:=by
    cases sp with
    | none=>rfl
    | some q =>
     exfalso
     rw [show w.cell? (Addr.add ⟨b,off,some q⟩ (0*5+0))=none by unfold World.cell? Addr.add;split<;>simp] at h00
     simp [Step.cells] at h00
   subst hsp
   have hadd:∀ i,Addr.add ⟨b,off,none⟩ i=⟨b,off+i,none⟩:=fun i=>by
    unfold Addr.add
    by_cases hi:i=0<;>simp [hi]
   refine ⟨b,off,rfl,?_,fun k hk j hj=>?_⟩
   ·rw [hadd] at h00
    exact lt_of_cell (v:=.string (f 0).kind) (by rw [h00];rfl)
   ·have:=hcell k (by simpa using hk) j hj
    rw [hadd] at this
    rw [Nat.add_assoc,this]
    simp
end Go.Proofs.YtabbgpjofkaomaaGreatDoor

/- What the document's answer's Frame computes. -/
namespace Go.Proofs.YtabbgpjofkaomaaGreatDoor
open Go.RowKit
def strSz:Value→Nat
 | .string s=>s.size
 | _=>0
def Ask.nums20 (a:Ask):List Int:=[a.kind,a.client]++highB a.seq++[a.item,a.side]++highB a.price++highB a.qty++highB a.id
theorem Ask.nums_eq (a:Ask):a.nums=a.nums20++List.replicate 6 0:=rfl
set_option maxRecDepth 100000 in
set_option maxHeartbeats 2000000 in
theorem frameRef_any (a:Ask) (w:World) (hk:0≤a.kind∧a.kind≤255) (he:a.err=0):Calls Tryz.prog 15 #[a.val] w fun e w'=>e=.returned (.string a.frame)∧Ex w w':=by
 obtain ⟨⟨c0,c1⟩,⟨s0,s1⟩,⟨d0,d1⟩,⟨t0,t1⟩,⟨u0,u1⟩,⟨p0,p1⟩,⟨q0,q1⟩,_⟩:=Ask.bounds he
 have HB:=Lib.hid byteRef_any
 have HH:=Lib.hid highRef_any
 have HF:Hid (a.frame=strOfNums a.nums++strOfNums (lowB (crc (strOfNums a.nums).data.toList))):=Lib.hid rfl
 have HN:Hid (strOfNums [a.kind]++strOfNums [a.client]++strOfNums (highB a.seq)++strOfNums [a.item]++strOfNums [a.side]++strOfNums (highB a.price)++strOfNums (highB a.qty)++strOfNums (highB a.id)=strOfNums a.nums20):=Lib.hid (by
  simp only [strOfNums_append];rfl)
 clear he
 have zk:(strOfNums [a.kind]).size=1:=by rw [strOfNums_size];rfl
 have zc:(strOfNums [a.client]).size=1:=by rw [strOfNums_size];rfl
 have zs:(strOfNums (highB a.seq)).size=4:=by rw [strOfNums_size];rfl
 have zi:(strOfNums [a.item]).size=1:=by rw [strOfNums_size];rfl
 have zd:(strOfNums [a.side]).size=1:=by rw [strOfNums_size];rfl
 have zp:(strOfNums (highB a.price)).size=4:=by rw [strOfNums_size];rfl
 have zq:(strOfNums (highB a.qty)).size=4:=by rw [strOfNums_size];rfl
 have zx:(strOfNums (highB a.id)).size=4:=by rw [strOfNums_size];rfl
 obtain ⟨k0,k1⟩:=hk
 have kw:IntKind.i64.wrap a.kind=a.kind:=by simp [IntKind.wrap,IntKind.bits,IntKind.signed];omega
 have kw2:wrap64 a.kind=a.kind:=by unfold wrap64;omega
 go_enter Tryz.func15,Tryz.ntmps15
 go_wp2_with fail
 go_region_held3 (fun w'=>w'.cell? ⟨w.heap.size,0,none⟩=some (.int .u8 a.kind)∧w'.cell? ⟨w.heap.size,1,none⟩=some (.int .i64 a.client)∧w'.cell? ⟨w.heap.size,2,none⟩=some (.int .i64 a.seq)∧w'.cell? ⟨w.heap.size,3,none⟩=some (.int .i64 a.item)∧w'.cell? ⟨w.heap.size,4,none⟩=some (.int .i64 a.side)∧w'.cell? ⟨w.heap.size,5,none⟩=some (.int .i64 a.price)∧w'.cell? ⟨w.heap.size,6,none⟩=some (.int .i64 a.qty)∧w'.cell? ⟨w.heap.size,7,none⟩=some (.int .i64 a.id))
  (first|(refine ⟨?_,?_,?_,?_,?_,?_,?_,?_⟩<;>assumption)|(simp [go_sem,↓IntWalk.iteOmega, *];done))
  (first
   | (go_at_call 49;((with_reducible refine (HB.out _ _ ?_ ?_).mono ?_);(focus omega);(focus omega));rintro e w1 ⟨rfl,l1,d1,rfl⟩)
   | (go_at_call 50;((with_reducible refine (HH.out _ _ ?_ ?_).mono ?_);(focus omega);(focus omega));rintro e w1 ⟨rfl,l1,d1,rfl⟩))
 all_goals go_wp2_with fail
 rw [HN.out]
 have hn20:a.nums20.length=20:=rfl
 go_loop [3] (fun v=>∃ k:Nat,k≤6∧v=.string (strOfNums (a.nums20++List.replicate k 0))) (fun v=>26 - strSz v)
 case atStart=>exact ⟨0,by omega,by rw [List.replicate_zero,List.append_nil]⟩
 case round =>
  obtain ⟨k,hk,rfl⟩:=hrel
  have hsz:(strOfNums (a.nums20++List.replicate k 0)).size=20+k:=by rw [strOfNums_size,List.length_append,hn20,List.length_replicate]
  by_cases hlt:k<6
  ·have HT:Hid (strOfNums (a.nums20++List.replicate k 0)++⟨#[0]⟩=strOfNums (a.nums20++List.replicate (k+1) 0)):=Lib.hid (by
    rw [show (⟨#[0]⟩:ByteArray)=strOfNums [0] from rfl,strOfNums_append,List.append_assoc,← List.replicate_succ'])
   generalize strOfNums (a.nums20++List.replicate k 0)=T at *
   go_wp2_with fail
   all_goals
    go_round
    case measure=>simp [strSz,go_sem];omega
    case rel=>exact ⟨k+1,by omega,by rw [← HT.out]⟩
  ·obtain rfl:k=6:=by omega
   rw [← Ask.nums_eq] at hsz ⊢
   have HC:=Lib.hid (fun w=>crcRef_any (strOfNums a.nums) w (by rw [hsz];decide))
   have hcl:=crc_lt (strOfNums a.nums).data.toList
   have HL:=Lib.hid (fun w=>lowRef_any (crc (strOfNums a.nums).data.toList) w hcl)
   generalize crc (strOfNums a.nums).data.toList=c at *
   have z4:(strOfNums (lowB c)).size=4:=by rw [strOfNums_size];rfl
   generalize strOfNums a.nums=T at *
   go_wp2_with (first
    | (go_at_call 52;refine (HC.out _).mono ?_;rintro e w1 ⟨rfl,rfl⟩)
    | (go_at_call 51;refine (HL.out _).mono ?_;rintro e w1 ⟨rfl,l6,d6,rfl⟩))
   all_goals go_ret
   all_goals exact ⟨by rw [HF.out];rfl,(by repeat (first|exact Ex.refl _|refine Ex.alloc ?_ _|refine Ex.ext ?_ _ _|refine Ex.drew ?_|refine Ex.drewN ?_ _))⟩
end Go.Proofs.YtabbgpjofkaomaaGreatDoor

/- What bytesOf and longSteps of the statements compute. -/
namespace Go.Proofs.YtabbgpjofkaomaaGreatDoor
open Go.RowKit
def bytesL (s:ByteArray) (l:List Ask):List UInt8:=s.data.toList++l.flatMap fun a=>if a.err=0 then a.frame.data.toList else []
theorem askFr_len (a:Ask):a.frame.data.toList.length=30:=by rw [Array.length_toList];exact a.frame_size
theorem bytesL_len (s:ByteArray):∀ l:List Ask,(bytesL s l).length≤s.size+30*l.length:=by
 intro l
 have key:(l.flatMap fun a=>if a.err=0 then a.frame.data.toList else []).length≤30*l.length:=by
  induction l with
  | nil=>simp
  | cons a l ih =>
   rw [List.flatMap_cons,List.length_append,List.length_cons]
   have:(if a.err=0 then a.frame.data.toList else []).length≤30:=by
    split
    ·rw [askFr_len];omega
    ·simp
   omega
 unfold bytesL
 rw [List.length_append,Array.length_toList]
 show s.size+_≤_
 omega
theorem bytesL_succ (s:ByteArray) (l:List Ask) (k:Nat) (hk:k<l.length):bytesL s (l.take (k+1))=bytesL s (l.take k)++if l[k].err=0 then l[k].frame.data.toList else []:=by
 unfold bytesL
 rw [List.take_succ_eq_append_getElem hk,List.flatMap_append,List.append_assoc]
 simp
theorem asksAt_ex {w w':World} {ao:Option Addr} {len:Nat} {l:List Ask} (h:AsksAt w ao len l) (hx:Ex w w'):AsksAt w' ao len l:=by
 obtain ⟨h1,h2,h3,h4⟩:=h
 refine ⟨h1,h2,h3,fun h0=>?_⟩
 obtain ⟨b,off,e,hb,hc⟩:=h4 h0
 exact ⟨b,off,e,Nat.lt_of_lt_of_le hb hx.below.size,fun k hk j hj=>(World.cell?_of_block (hx.below.block b hb)).trans (hc k hk j hj)⟩
theorem stepsAt_ex {w w':World} {ao:Option Addr} {len:Nat} {l:List Step} (h:StepsAt w ao len l) (hx:Ex w w'):0<len→∃ b off,ao=some ⟨b,off,none⟩∧b<w'.heap.size∧∀ k (h:k<l.length) j,j<5→w'.cell? ⟨b,off+k*5+j,none⟩=l[k].cells[j]?:=by
 obtain ⟨h1,h2,h3,h4⟩:=h
 intro h0
 obtain ⟨b,off,e,hb,hc⟩:=h4 h0
 exact ⟨b,off,e,Nat.lt_of_lt_of_le hb hx.below.size,fun k hk j hj=>(World.cell?_of_block (hx.below.block b hb)).trans (hc k hk j hj)⟩
set_option maxRecDepth 100000 in
set_option maxHeartbeats 4000000 in
theorem bytesOf_any (a:Step) (l:List Ask) (w:World) (hl:AsksAt w a.asks.ao a.asks.len l) (hlen:l.length≤10) (hs:a.s.size≤200) :
  Calls Tryz.prog 43 #[a.val] w fun e w'=>e=.returned (.string ⟨(bytesL a.s l).toArray⟩)∧Ex w w':=by
 obtain ⟨kd,cl,⟨ao,len,cap⟩,s,n⟩:=a
 simp only at hl hs
 have HL:=Lib.hid hl
 have hll:=hl.1
 subst hll
 clear hl
 go_enter Tryz.func43,Tryz.ntmps43
 go_wp2_with fail
 go_loopw [3,4] (fun s' i wx=>∃ k:Nat,k≤l.length∧i=.int .i64 (k:Int)∧s'=.string ⟨(bytesL s (l.take k)).toArray⟩∧Ex (w.alloc (.cells #[.string kd,.int .i64 cl,.slice ao l.length cap,.string s,.int .i64 n] 41)) wx) (fun _ i _=>l.length - (intOf i).toNat)
 case atStart=>exact ⟨0,Nat.zero_le _,rfl,by simp [bytesL],(by repeat (first|exact Ex.refl _|refine Ex.alloc ?_ _|refine Ex.ext ?_ _ _|refine Ex.drew ?_|refine Ex.drewN ?_ _))⟩
 case round =>
  obtain ⟨k,hk,rfl,rfl,hx⟩:=hrel
  have hw0:(w.alloc (.cells #[.string kd,.int .i64 cl,.slice ao l.length cap,.string s,.int .i64 n] 41)).heap.size=w.heap.size+1:=Array.size_push ..
  have hsz:=hx.below.size
  rw [hw0] at hsz
  have hbx:=hx.below.block w.heap.size (by omega)
  rw [heap_new rfl] at hbx
  have c2:=blk_cell hbx 2
  have c3:=blk_cell hbx 3
  simp only [List.getElem?_toArray,List.getElem?_cons_zero,List.getElem?_cons_succ] at c2 c3
  have HX:=Lib.hid hx
  clear hbx hw0
  by_cases hlt:k<l.length
  ·obtain ⟨_,_,hwf,h4⟩:=asksAt_ex HL.out ((show Ex w (w.alloc _) from (by repeat (first|exact Ex.refl _|refine Ex.alloc ?_ _|refine Ex.ext ?_ _ _|refine Ex.drew ?_|refine Ex.drewN ?_ _))).trans hx)
   obtain ⟨b,off,rfl,hb,hc⟩:=h4 (by omega)
   have hzk:=hc k hlt
   have a0:=hzk 0 (by omega)
   have a1:=hzk 1 (by omega)
   have a2:=hzk 2 (by omega)
   have a3:=hzk 3 (by omega)
   have a4:=hzk 4 (by omega)
   have a5:=hzk 5 (by omega)
   have a6:=hzk 6 (by omega)
   have a7:=hzk 7 (by omega)
   simp only [Ask.cells,List.getElem?_cons_zero,List.getElem?_cons_succ,Nat.add_zero] at a0 a1 a2 a3 a4 a5 a6 a7
   have hbl:=bytesL_len s (l.take k)
   rw [List.length_take] at hbl
   have HST:=Lib.hid (bytesL_succ s l k hlt)
   have HAE:=Lib.hid (fun W=>askError_any l[k] W)
   have hkk:=hwf l[k] (List.getElem_mem hlt)
   clear hx h4 hc hzk hwf
   by_cases he:l[k].err=0
   ·have HFR:=Lib.hid (fun W=>frameRef_any l[k] W hkk.1 he)
    have hfl:=l[k].frame_size
    rw [he] at HAE
    have HST2:Hid (bytesL s (l.take (k+1))=bytesL s (l.take k)++l[k].frame.data.toList):=Lib.hid (by have:=HST.out;rwa [if_pos he] at this)
    clear hkk HST
    generalize bytesL s (l.take k)=B at *
    generalize l[k].frame=fr at *
    generalize l[k]=a at *
    obtain ⟨ak,ac,aS,ai,ad,ap,aq,aid⟩:=a
    simp only at a0 a1 a2 a3 a4 a5 a6 a7
    clear he
    go_wp2_with (first
     | (go_at_call 13;refine (HAE.out _).mono ?_;rintro e w3 ⟨rfl,l3,d3,rfl⟩)
     | (go_at_call 15;refine (HFR.out _).mono ?_;rintro e w4 ⟨rfl,l4,d4,rfl⟩))
    go_roundw
    case measure=>simp [intOf];omega
    case rel=>exact ⟨k+1,by omega,by go_num,by rw [HST2.out,← bytes_add,bytes_list],HX.out.trans (by repeat (first|exact Ex.refl _|refine Ex.alloc ?_ _|refine Ex.ext ?_ _ _|refine Ex.drew ?_|refine Ex.drewN ?_ _))⟩
   ·have hei:¬ ((l[k].err:Nat):Int)=0:=by omega
    have HST2:Hid (bytesL s (l.take (k+1))=bytesL s (l.take k)):=Lib.hid (by have:=HST.out;rwa [if_neg he,List.append_nil] at this)
    clear hkk HST he
    generalize bytesL s (l.take k)=B at *
    generalize l[k].err=er at *
    generalize l[k]=a at *
    obtain ⟨ak,ac,aS,ai,ad,ap,aq,aid⟩:=a
    simp only at a0 a1 a2 a3 a4 a5 a6 a7
    go_wp2_with (go_at_call 13;refine (HAE.out _).mono ?_;rintro e w3 ⟨rfl,l3,d3,rfl⟩)
    go_roundw
    case measure=>simp [intOf];omega
    case rel=>exact ⟨k+1,by omega,by go_num,by rw [HST2.out],HX.out.trans (by repeat (first|exact Ex.refl _|refine Ex.alloc ?_ _|refine Ex.ext ?_ _ _|refine Ex.drew ?_|refine Ex.drewN ?_ _))⟩
  ·obtain rfl:k=l.length:=by omega
   rw [List.take_length]
   clear hx
   go_wp2_with fail
   all_goals go_ret
   all_goals exact ⟨rfl,(show Ex w (w.alloc _) from (by repeat (first|exact Ex.refl _|refine Ex.alloc ?_ _|refine Ex.ext ?_ _ _|refine Ex.drew ?_|refine Ex.drewN ?_ _))).trans (HX.out.trans (by repeat (first|exact Ex.refl _|refine Ex.alloc ?_ _|refine Ex.ext ?_ _ _|refine Ex.drew ?_|refine Ex.drewN ?_ _)))⟩
def LongRet (l:List Step) (most:Nat) (e:Ending):Prop:=∃ b:Bool,e=.returned (.bool b)∧(b=false→l.length≤most∧∀ a∈l,a.asks.len≤10∧a.s.size≤200)
set_option maxRecDepth 100000 in
set_option maxHeartbeats 4000000 in
theorem longSteps_any (ao:Option Addr) (len cap:Nat) (l:List Step) (most:Nat) (w:World) (hl:StepsAt w ao len l) (hm:most≤1000) :
  Calls Tryz.prog 8 #[.slice ao len cap,.int .i64 (most:Int)] w fun e w'=>LongRet l most e∧Ex w w':=by
 have HL:=Lib.hid hl
 have hll:=hl.1
 have hl2:=hl.2.1
 have HWF:=Lib.hid hl.2.2.1
 subst hll
 clear hl
 by_cases hgt:most<l.length
 ·have hgi:(most:Int)<(l.length:Int):=by omega
  go_enter Tryz.func8,Tryz.ntmps8
  go_wp2_with fail
  all_goals go_ret
  all_goals exact ⟨⟨true,rfl,(fun h=>by cases h)⟩,(by repeat (first|exact Ex.refl _|refine Ex.alloc ?_ _|refine Ex.ext ?_ _ _|refine Ex.drew ?_|refine Ex.drewN ?_ _))⟩
 have hgi:¬ (most:Int)<(l.length:Int):=by omega
 go_enter Tryz.func8,Tryz.ntmps8
 go_wp2_with fail
 go_loopw [5] (fun i wx=>∃ k:Nat,k≤l.length∧i=.int .i64 (k:Int)∧(∀ j (h:j<l.length),j<k→l[j].asks.len≤10∧l[j].s.size≤200)∧Ex w wx) (fun i _=>l.length - (intOf i).toNat)
 case atStart=>exact ⟨0,Nat.zero_le _,rfl,fun j _ h=>by omega,(by repeat (first|exact Ex.refl _|refine Ex.alloc ?_ _|refine Ex.ext ?_ _ _|refine Ex.drew ?_|refine Ex.drewN ?_ _))⟩
 case round =>
  obtain ⟨k,hk,rfl,hall,hx⟩:=hrel
  by_cases hlt:k<l.length
  ·obtain ⟨b,off,rfl,hb,hc⟩:=stepsAt_ex HL.out hx (by omega)
   have hzk:=hc k hlt
   have a2:=hzk 2 (by omega)
   have a3:=hzk 3 (by omega)
   obtain ⟨_,_,hok,hss,_⟩:=HWF.out l[k] (List.getElem_mem hlt)
   have hs1:=hok.1.1
   have hs2:=hok.1.2.1
   simp only [Step.cells,List.getElem?_cons_zero,List.getElem?_cons_succ] at a2 a3
   have HALL:=Lib.hid hall
   have HX:=Lib.hid hx
   have HA:=Lib.hid (show ∀ p q:Prop,p=(l[k].asks.len≤10)→q=(l[k].s.size≤200)→p→q→∀ j (h:j<l.length),j<k+1→l[j].asks.len≤10∧l[j].s.size≤200 from fun p q hp hq h1 h2 j h hj=>by
    by_cases e:j=k
    ·subst e;exact ⟨hp▸h1,hq▸h2⟩
    ·exact HALL.out j h (by omega))
   clear hx hc hzk hok hall
   unfold maxLen at hss
   generalize l[k].asks=sl at *
   generalize l[k].s=s at *
   obtain ⟨so,sn,sc⟩:=sl
   simp only at a2 hs1 hs2 HA
   by_cases h10:sn≤10
   ·by_cases h200:s.size≤200
    ·have b1:¬ ((10:Int)<(sn:Int)):=by omega
     have b2:¬ ((200:Int)<(s.size:Int)):=by omega
     go_wp2_with fail
     go_roundw
     case measure=>simp [intOf];omega
     case rel=>exact ⟨k+1,by omega,by go_num,HA.out _ _ rfl rfl h10 h200,HX.out.trans (by repeat (first|exact Ex.refl _|refine Ex.alloc ?_ _|refine Ex.ext ?_ _ _|refine Ex.drew ?_|refine Ex.drewN ?_ _))⟩
    ·have b1:¬ ((10:Int)<(sn:Int)):=by omega
     have b2:((200:Int)<(s.size:Int)):=by omega
     go_wp2_with fail
     all_goals go_ret
     all_goals exact ⟨⟨true,rfl,(fun h=>by cases h)⟩,HX.out.trans (by repeat (first|exact Ex.refl _|refine Ex.alloc ?_ _|refine Ex.ext ?_ _ _|refine Ex.drew ?_|refine Ex.drewN ?_ _))⟩
   ·have b1:((10:Int)<(sn:Int)):=by omega
    go_wp2_with fail
    all_goals go_ret
    all_goals exact ⟨⟨true,rfl,(fun h=>by cases h)⟩,HX.out.trans (by repeat (first|exact Ex.refl _|refine Ex.alloc ?_ _|refine Ex.ext ?_ _ _|refine Ex.drew ?_|refine Ex.drewN ?_ _))⟩
  ·obtain rfl:k=l.length:=by omega
   have HALL:=Lib.hid hall
   have HX:=Lib.hid hx
   clear hx hall
   go_wp2_with fail
   all_goals go_ret
   all_goals exact ⟨⟨false,rfl,fun _=>⟨by omega,fun a ha=>by obtain ⟨j,hj,rfl⟩:=List.getElem_of_mem ha;exact HALL.out j hj hj⟩⟩,HX.out.trans (by repeat (first|exact Ex.refl _|refine Ex.alloc ?_ _|refine Ex.ext ?_ _ _|refine Ex.drew ?_|refine Ex.drewN ?_ _))⟩
end Go.Proofs.YtabbgpjofkaomaaGreatDoor

/- What walk of the statements computes: steps of a venue, and the reports of its batches. -/
namespace Go.Proofs.YtabbgpjofkaomaaGreatDoor
open Go.RowKit
structure SV where
 kind:ByteArray
 client:Int
 asks:List Ask
 s:ByteArray
 n:Int
def tkStep (p:List Rep × VSt):List Rep × VSt:=(p.1++(tickR p.2).1,(tickR p.2).2)
def tkSteps:Nat→List Rep × VSt→List Rep × VSt
 | 0,p=>p
 | n+1,p=>tkStep (tkSteps n p)
def feedS (c:Int) (s:List UInt8) (v:VSt):VSt:=if inR c 0 5=true then (feedR c.toNat s v).2 else v
def walkStep (p:List Rep × VSt) (a:SV):List Rep × VSt :=
 if (a.kind.toList==[102,101,101,100])=true then (p.1,feedS a.client (bytesL a.s a.asks) p.2)
 else if (a.kind.toList==[99,117,116])=true then (p.1,{ p.2 with d:=p.2.d.cutD a.n })
 else tkSteps (min a.n.toNat 8) p
def walkR (l:List SV) (v:VSt):List Rep × VSt:=l.foldl walkStep ([],v)
def SVAt (w:World) (a:Step) (x:SV):Prop:=x.kind=a.kind∧x.client=a.client∧x.s=a.s∧x.n=a.n∧AsksAt w a.asks.ao a.asks.len x.asks
theorem sv_exists {w:World} {a:Step} (h:a.wf w):∃ x,SVAt w a x:=by
 obtain ⟨_,_,⟨_,l,hl⟩,_,_⟩:=h
 exact ⟨⟨a.kind,a.client,l,a.s,a.n⟩,rfl,rfl,rfl,rfl,hl⟩
structure SVs (w:World) (l:List Step) (L:List SV):Prop where
 len:L.length=l.length
 at':∀ k (h:k<l.length) (h2:k<L.length),SVAt w l[k] L[k]
theorem svs_exist {w:World}:∀ {l:List Step},(∀ a∈l,a.wf w)→∃ L,SVs w l L
 | [],_=>⟨[],rfl,fun k h=>by cases h⟩
 | a::l,h=>by
  obtain ⟨x,hx⟩:=sv_exists (h a (List.mem_cons_self ..))
  obtain ⟨L,hL⟩:=svs_exist (l:=l) fun b hb=>h b (List.mem_cons_of_mem _ hb)
  refine ⟨x::L,by rw [List.length_cons,List.length_cons,hL.len],fun k h1 h2=>?_⟩
  cases k with
  | zero=>exact hx
  | succ k=>exact hL.at' k (Nat.lt_of_succ_lt_succ h1) (Nat.lt_of_succ_lt_succ h2)
def Short (L:List SV):Prop:=∀ a∈L,a.asks.length≤10∧a.s.size≤200∧∀ x∈a.asks,x.wf
theorem SVs.short {w:World} {l:List Step} {L:List SV} (h:SVs w l L) (hs:∀ a∈l,a.asks.len≤10∧a.s.size≤200):Short L:=by
 intro a ha
 obtain ⟨k,hk,rfl⟩:=List.getElem_of_mem ha
 have hk2:k<l.length:=by rw [← h.len];exact hk
 obtain ⟨h1,h2,h3,h4,h5⟩:=h.at' k hk2 hk
 have h6:=hs l[k] (List.getElem_mem hk2)
 exact ⟨by rw [h5.1];exact h6.1,by rw [h3];exact h6.2,h5.2.2.1⟩
theorem VInv.feedS {v:VSt} (h:VInv v) (c:Int) (s:List UInt8):VInv (feedS c s v):=by
 unfold Go.Proofs.YtabbgpjofkaomaaGreatDoor.feedS
 split
 ·rename_i hc
  have:=inR_iff.1 hc
  exact h.feed (by omega) s
 ·exact h
theorem VInv.cut {v:VSt} (h:VInv v) (n:Int):VInv { v with d:=v.d.cutD n }:=⟨⟨h.ok.fl,h.ok.pinv,h.ok.seed,h.ok.rule,h.ok.turn,h.ok.sess,h.ok.left,h.ok.que,h.ok.bat⟩,h.tot,h.off⟩
theorem VInv.tkSteps {p:List Rep × VSt} (h:VInv p.2):∀ n,VInv (tkSteps n p).2
 | 0=>h
 | n+1=>(VInv.tkSteps h n).tick
theorem batch_len {v:VSt} (hF:FP v.f) (hru:1≤v.c.hl∧v.c.hl≤1000) (drops:List Int) (asks:List Ask):(batchR drops asks v).1.length≤180*drops.length+asks.length+3*(100000+asks.length):=by
 rw [batchR_is]
 have h1:=drops_len hF drops (p:=([],v.f)) hF
 have hp:=hF.drops drops
 unfold batchR2 batchR3
 generalize drops.foldl dropRep ([],v.f)=p at *
 have h2:=reqs_len asks ⟨p.1,[],p.2⟩
 have hq:FP (asks.foldl reqStep ⟨p.1,[],p.2⟩).st:=FP.reqs hp asks
 generalize asks.foldl reqStep ⟨p.1,[],p.2⟩=q at *
 have h3:=(items_len hru (placed:=lastL q.placed) (p:=(q.out,q.st)) hq 3 (by omega)).2
 have h4:=lastL_len q.placed
 simp only [List.length_nil,Nat.zero_add] at h1 h2 h3 ⊢
 omega
theorem tickR_len {v:VSt} (h:VInv v):(tickR v).1.length≤1000000:=by
 cases hd:v.down with
 | true=>unfold tickR;rw [if_pos hd];simp
 | false =>
  by_cases h3:(v.now+1) % 3=0
  ·by_cases hb:(lateV v).d.appE (recOf (lateV v))=0
   ·rw [tickR_bat hd h3 hb]
    have hl:=h.lateAll.ok.taped
    have:=batch_len (v:=tapedV (lateV v)) ⟨hl.fl,hl.pinv⟩ hl.rule.2 ((dropsL (lateV v)).map fun (n:Nat)=>(n:Int)) (outOf (lateV v).q (lateV v).turn 6)
    have h1:=dropsL_len (lateV v)
    have h2:=outOf_length (lateV v).q (lateV v).turn 6
    rw [List.length_map] at this
    omega
   ·rw [tickR_bad hd h3 hb];simp
  ·rw [tickR_no hd h3];simp
theorem tickR_now (v:VSt):(tickR v).2.now≤v.now+1:=by
 cases hd:v.down with
 | true=>unfold tickR;rw [if_pos hd];exact Nat.le_succ _
 | false =>
  have hl:=(lateAll_keep v).2.1
  by_cases h3:(v.now+1) % 3=0
  ·by_cases hb:(lateV v).d.appE (recOf (lateV v))=0
   ·rw [tickR_bat hd h3 hb,(batchR_keep _ _ _).1,(tapedV_keep _).1,hl];exact Nat.le_refl _
   ·rw [tickR_bad hd h3 hb]
    show (tapedV (lateV v)).now≤_
    rw [(tapedV_keep _).1,hl];exact Nat.le_refl _
  ·rw [tickR_no hd h3,hl];exact Nat.le_refl _
theorem gotR_now (n:Nat) (g:Got) (v:VSt):(gotR n g v).2.now=v.now:=by
 unfold gotR
 (repeat' split)<;>rfl
theorem feedR_now (n:Nat) (s:List UInt8) (v:VSt):(feedR n s v).2.now=v.now:=by
 unfold feedR
 split
 ·rfl
 ·have key:∀ (l:List Got) (p:List Rep × VSt),p.2.now=v.now→(l.foldl (gotStep n) p).2.now=v.now:=fun l p h=>fold_keep (P:=fun p:List Rep × VSt=>p.2.now=v.now) (f:=gotStep n) (fun p g hp=>(gotR_now n g p.2).trans hp) l h
  exact key _ _ rfl
theorem feedS_now (c:Int) (s:List UInt8) (v:VSt):(feedS c s v).now=v.now:=by
 unfold feedS
 split
 ·exact feedR_now _ _ _
 ·rfl
theorem tk_facts {p:List Rep × VSt} (h:VInv p.2):∀ n,VInv (tkSteps n p).2∧(tkSteps n p).2.now≤p.2.now+n∧(tkSteps n p).1.length≤p.1.length+1000000*n
 | 0=>⟨h,Nat.le_refl _,Nat.le_refl _⟩
 | n+1=>by
  obtain ⟨h1,h2,h3⟩:=tk_facts h n
  have a:=tickR_now (tkSteps n p).2
  have b:=tickR_len h1
  refine ⟨h1.tick,Nat.le_trans a (by omega),?_⟩
  show ((tkSteps n p).1++_).length≤_
  rw [List.length_append]
  omega
theorem walkStep_facts {p:List Rep × VSt} (h:VInv p.2) (a:SV):VInv (walkStep p a).2∧(walkStep p a).2.now≤p.2.now+8∧(walkStep p a).1.length≤p.1.length+8000000:=by
 unfold walkStep
 split
 ·exact ⟨h.feedS _ _,by show (feedS _ _ _).now≤_;rw [feedS_now];omega,by show p.1.length≤_;omega⟩
 ·split
  ·exact ⟨h.cut _,by show p.2.now≤_;omega,by show p.1.length≤_;omega⟩
  ·obtain ⟨h1,h2,h3⟩:=tk_facts h (min a.n.toNat 8)
   exact ⟨h1,by omega,by omega⟩
theorem walk_facts:∀ (L:List SV) {p:List Rep × VSt},VInv p.2→VInv (L.foldl walkStep p).2∧(L.foldl walkStep p).2.now≤p.2.now+8*L.length∧(L.foldl walkStep p).1.length≤p.1.length+8000000*L.length
 | [],_,h=>⟨h,Nat.le_refl _,Nat.le_refl _⟩
 | a::L,p,h=>by
  obtain ⟨h1,h2,h3⟩:=walkStep_facts h a
  obtain ⟨k1,k2,k3⟩:=walk_facts L h1
  rw [List.foldl_cons,List.length_cons]
  exact ⟨k1,by omega,by omega⟩
theorem walk_take (L:List SV) (v:VSt) (k:Nat) (hk:k<L.length):walkR (L.take (k+1)) v=walkStep (walkR (L.take k) v) L[k]:=by
 unfold walkR
 rw [List.take_succ_eq_append_getElem hk,List.foldl_append]
 rfl
end Go.Proofs.YtabbgpjofkaomaaGreatDoor
