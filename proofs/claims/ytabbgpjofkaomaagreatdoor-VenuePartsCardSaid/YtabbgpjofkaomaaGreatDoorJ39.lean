import Derived.Test.YtabbgpjofkaomaaGreatDoorJ34
import Derived.Test.YtabbgpjofkaomaaGreatDoorJ35
import Derived.Test.YtabbgpjofkaomaaGreatDoorJ31
import Derived.Test.YtabbgpjofkaomaaGreatDoorVenI
import Derived.Test.YtabbgpjofkaomaaGreatDoorJ32
import Derived.Test.YtabbgpjofkaomaaGreatDoorJ25
import Derived.Test.YtabbgpjofkaomaaGreatDoorShelf
import Derived.Lib.AppendIntMem
import Derived.Lib.ItoaLen
import Derived.Test.YtabbgpjofkaomaaGreatDoorJ19
import Derived.Test.YtabbgpjofkaomaaGreatDoorJ24
set_option linter.unusedSimpArgs false
set_option linter.unusedVariables false
/- A venue as a thing: what its methods leave; its plain methods that only read. -/
namespace Go.Proofs.YtabbgpjofkaomaaGreatDoor
open Go.RowKit
section
variable {E:Nat→Addr} {w0 w W W':World} {F:Nat→Prop} {A:VA} {v v':VSt} {M:List Th} {vb dp:Nat} {fa:FlA}
theorem VX.closeL (X:VX E w0 F w A v M W):LeavesL (vTh A.vb A.fa A.dp v::M) F w W:=by
 obtain ⟨F',h1,h2,h3⟩:=X.sep.close
 obtain ⟨F1,F2,a,b,c,d⟩:=h1.split
 exact ⟨F',⟨F1,F2,a,b,⟨A,rfl,rfl,rfl,X.rule,c⟩,d⟩,h2,h3⟩
theorem vTh.parts (h:(vTh vb fa dp v).P F w):∃ A:VA,A.vb=vb∧A.fa=fa∧A.dp=dp∧PartAt w vb 13 (A.head v)∧PartAt w A.rg 30 (A.item v)∧(∃ G,(flTh fa v.f).P G w)∧(∃ G,(labTh (inOb A.ip v.q v.turn)).P G w)∧∃ G,(labTh (dkOb dp v.d)).P G w:=by
 obtain ⟨A,rfl,rfl,rfl,hr,h⟩:=h
 have S:=Sep.start h
 obtain ⟨G0,_,h0⟩:=S.look 0 rfl
 obtain ⟨G1,_,h1⟩:=S.look 1 rfl
 exact ⟨A,rfl,rfl,rfl,h0,h1,S.look 2 rfl,S.look 3 rfl,S.look 4 rfl⟩
set_option maxRecDepth 100000 in
theorem vtape_any (h:(vTh vb fa dp v).P F w):Calls Tryz.prog 28 #[.pointer (some ⟨vb,0,none⟩)] w fun e w'=>e=.returned (.pointer (some ⟨dp,0,none⟩))∧Ex w w':=by
 obtain ⟨A,rfl,_,rfl,hp,_⟩:=vTh.parts h
 have c:w.cell? ⟨A.vb,9,none⟩=some (.pointer (some ⟨A.dp,0,none⟩)):=hp.cell (j:=9) (by decide)
 clear hp h
 go_enter Tryz.func28,Tryz.ntmps28
 go_wp2
 all_goals go_ret
 all_goals exact ⟨rfl,(by repeat (first|exact Ex.refl _|refine Ex.alloc ?_ _|refine Ex.ext ?_ _ _|refine Ex.drew ?_|refine Ex.drewN ?_ _))⟩
set_option maxRecDepth 100000 in
theorem vright_any (n:Int) (w:World):Calls Tryz.prog 46 #[.int .i64 n] w fun e w'=>e=.returned (.bool (inR n 0 5))∧Ex w w':=by
 by_cases h:0≤n
 ·by_cases h':n<6
  ·rw [show inR n 0 5=true from inR_iff.2 (by omega)]
   go_enter Tryz.func46,Tryz.ntmps46
   go_wp2
   all_goals go_ret
   all_goals exact ⟨rfl,(by repeat (first|exact Ex.refl _|refine Ex.alloc ?_ _|refine Ex.ext ?_ _ _|refine Ex.drew ?_|refine Ex.drewN ?_ _))⟩
  ·rw [show inR n 0 5=false from inR_not.2 (by omega)]
   go_enter Tryz.func46,Tryz.ntmps46
   go_wp2
   all_goals go_ret
   all_goals exact ⟨rfl,(by repeat (first|exact Ex.refl _|refine Ex.alloc ?_ _|refine Ex.ext ?_ _ _|refine Ex.drew ?_|refine Ex.drewN ?_ _))⟩
 ·rw [show inR n 0 5=false from inR_not.2 (by omega)]
  go_enter Tryz.func46,Tryz.ntmps46
  go_wp2
  all_goals go_ret
  all_goals exact ⟨rfl,(by repeat (first|exact Ex.refl _|refine Ex.alloc ?_ _|refine Ex.ext ?_ _ _|refine Ex.drew ?_|refine Ex.drewN ?_ _))⟩
set_option maxRecDepth 100000 in
theorem vsession_in (h:(vTh vb fa dp v).P F w) (n:Nat) (hn:n<6):Calls Tryz.prog 17 #[.pointer (some ⟨vb,0,none⟩),.int .i64 (n:Int)] w fun e w'=>e=.returned ((v.cl n).s.val)∧Ex w w':=by
 obtain ⟨A,rfl,_,rfl,hp,hi,_⟩:=vTh.parts h
 have c:w.cell? ⟨A.vb,7,none⟩=some (.slice (some ⟨A.rg,0,none⟩) 6 A.cap):=hp.cell (j:=7) (by decide)
 have key:∀ j,j<5→w.cell? ⟨A.rg,n*5+j,none⟩=some (cliV (v.cl n) (A.rd n) j):=fun j hj=>by
  rw [hi.cell (j:=n*5+j) (by omega)]
  unfold VA.item
  rw [show (n*5+j) / 5=n by omega,show (n*5+j) % 5=j by omega]
 have k0:w.cell? ⟨A.rg,n*5,none⟩=some (.bool (v.cl n).s.on):=key 0 (by decide)
 have k1:w.cell? ⟨A.rg,n*5+1,none⟩=some (.int .i64 (v.cl n).s.next):=key 1 (by decide)
 have k2:w.cell? ⟨A.rg,n*5+2,none⟩=some (.int .i64 (v.cl n).s.last):=key 2 (by decide)
 have n6:(n:Int)<6:=by omega
 have hrg:=hi.lt
 have hvb:=hp.lt
 have hR:inR (n:Int) 0 5=true:=inR_iff.2 (by omega)
 clear hp h hi key
 go_enter Tryz.func17,Tryz.ntmps17
 go_wp2_with (go_at_call 46;refine (vright_any _ _).mono ?_;rintro e w1 ⟨rfl,l1,d1,rfl⟩;rw [hR])
 all_goals go_returns
 all_goals exact ⟨rfl,(by repeat (first|exact Ex.refl _|refine Ex.alloc ?_ _|refine Ex.ext ?_ _ _|refine Ex.drew ?_|refine Ex.drewN ?_ _))⟩
end
end Go.Proofs.YtabbgpjofkaomaaGreatDoor

/- What Feed of a venue computes: bytes of a client's connection. -/
namespace Go.Proofs.YtabbgpjofkaomaaGreatDoor
open Go.RowKit
theorem grow_slice {l:List Got} {u:Value} {w:World} (h:(growRd l u).R w):∃ ao cap,u=.slice ao l.length cap:=by
 obtain ⟨base,_,⟨rfl,h0⟩|⟨g,cap,cur,rfl,_⟩⟩:=h
 ·exact ⟨none,0,by rw [h0]⟩
 ·exact ⟨_,cap,rfl⟩
theorem grow_cells {l:List Got} {u:Value} {w:World} (h:(growRd l u).R w) {k:Nat} (hk:k<l.length):∃ b cap,u=.slice (some ⟨b,0,none⟩) l.length cap∧b<w.heap.size∧∀ j,j<9→w.cell? ⟨b,k*9+j,none⟩=l[k].cells[j]?:=by
 obtain ⟨base,_,⟨rfl,h0⟩|⟨g,cap,cur,rfl,hb,hg,hc,hm,hs,ht⟩⟩:=h
 ·omega
 ·refine ⟨g,cap,rfl,(Array.getElem?_eq_some_iff.1 hg).1,fun j hj=>?_⟩
  have e:(l.flatMap Got.cells)[k*9+j]?=l[k].cells[j]?:=flat_get (N:=9) (f:=Got.cells) (fun a=>by simp [Got.cells,Ask.cells]) l k hk j hj
  rw [← e,← ht,List.getElem?_take_of_lt (by omega),Array.getElem?_toList]
  simp [World.cell?,hg]
theorem fold_take {α β:Type} (f:β→α→β) (b:β) (l:List α) (k:Nat) (hk:k<l.length):(l.take (k+1)).foldl f b=f ((l.take k).foldl f b) l[k]:=by
 rw [List.take_succ_eq_append_getElem hk,List.foldl_append]
 rfl
theorem got_len1 (n:Nat) (g:Got) (v:VSt):(gotR n g v).1.length≤1:=by
 unfold gotR
 (repeat' split)<;>simp
theorem gots_len (n:Nat):∀ (l:List Got) (p:List Rep × VSt),(l.foldl (gotStep n) p).1.length≤p.1.length+l.length
 | [],p=>by simp
 | g::l,p=>by
  have h1:=gots_len n l (gotStep n p g)
  have h2:=got_len1 n g p.2
  have h3:(gotStep n p g).1.length=p.1.length+(gotR n g p.2).1.length:=by show (p.1++_).length=_;rw [List.length_append]
  rw [List.foldl_cons,List.length_cons]
  omega
section
variable {E:Nat→Addr} {w0 w W W':World} {F:Nat→Prop} {A:VA} {v v':VSt} {M:List Th}
set_option maxRecDepth 100000 in
set_option maxHeartbeats 8000000 in
theorem VX.feedV (X:VX E w0 F w A v M W) (hL:∀ n,n<6→(v.cl n).left.length<30) {n:Nat} (hn:n<6) (s:List UInt8) (hs:s.length≤900) :
  Calls Tryz.prog 14 #[.pointer (some ⟨A.vb,0,none⟩),.int .i64 (n:Int),.string ⟨s.toArray⟩] W fun e w'=>∃ u,e=.returned u∧VX E w0 F w A (feedR n s v).2 (rdTh (rrowRd (feedR n s v).1 u)::M) w':=by
 obtain ⟨⟨c6,c7,c8,c9,c10,c11,c12,c0⟩,hvb,hrg⟩:=X.cells
 obtain ⟨k0,k1,k2,k3,k4⟩:=X.cli hn
 have n6:(n:Int)<6:=by omega
 have hR:inR (n:Int) 0 5=true:=inR_iff.2 (by omega)
 have hln:=hL n hn
 obtain ⟨i0,hi0,hz0,hz1,hz2⟩:=info_parts infoRep
 have HX:=Lib.hid X
 have HRT:Hid (∀ W,Calls Tryz.prog 46 #[.int .i64 (n:Int)] W fun e w'=>e=.returned (.bool true)∧Ex W w'):=Lib.hid (fun W=>by have h:=vright_any (n:Int) W;rw [hR] at h;exact h)
 clear X hL hR
 cases hd:v.down with
 | true =>
  rw [hd] at c12
  have hf:feedR n s v=([],v):=by unfold feedR;rw [if_pos hd]
  rw [hf]
  clear hf
  go_enter Tryz.func14,Tryz.ntmps14
  go_wp2_with (go_at_call 46;refine (HRT.out _).mono ?_;rintro e w1 ⟨rfl,l1,d1,rfl⟩)
  all_goals go_ret
  all_goals exact ⟨_,rfl,HX.out.addRow (by repeat (first|exact Ex.refl _|refine Ex.alloc ?_ _|refine Ex.ext ?_ _ _|refine Ex.drew ?_|refine Ex.drewN ?_ _)) (rrow_nil _) (fun g hg=>by cases hg)⟩
 | false =>
  rw [hd] at c12
  have hf:feedR n s v=(gotsL ((v.cl n).left++s)).foldl (gotStep n) ([],v.setLeft n (leftL ((v.cl n).left++s))):=by unfold feedR;rw [if_neg (by rw [hd];decide)];rfl
  rw [hf]
  have HFD:=Lib.hid (fun W' (hx:Ex W W')=>(HX.out.later hx).feed n hn s (by omega))
  have hgl:(gotsL ((v.cl n).left++s)).length≤1000:=by rw [gotsL_len,List.length_append];omega
  clear hf hd HX
  generalize v.setLeft n (leftL ((v.cl n).left++s))=v1 at *
  generalize gotsL ((v.cl n).left++s)=L at *
  go_enter Tryz.func14,Tryz.ntmps14
  go_wp2_with (first
   | (go_at_call 46;refine (HRT.out _).mono ?_;rintro e w1 ⟨rfl,l1,d1,rfl⟩)
   | (go_at_call 47;refine (HFD.out _ (by repeat (first|exact Ex.refl _|refine Ex.alloc ?_ _|refine Ex.ext ?_ _ _|refine Ex.drew ?_|refine Ex.drewN ?_ _))).mono ?_;rintro e w3 ⟨gv,rfl,hX3⟩;obtain ⟨ag,cg,rfl⟩:=grow_slice (VX.row [] hX3);have HX3:=Lib.hid hX3;clear hX3))
  clear c6 c7 c8 c9 c10 c11 c12 c0 k0 k1 k2 k3 k4 hvb hrg HFD
  go_loopw [7,30] (fun u i wr=>∃ (k:Nat) (u':Value),u'=u∧k≤L.length∧i=.int .i64 (k:Int)∧VX E w0 F w A ((L.take k).foldl (gotStep n) ([],v1)).2 (rdTh (rrowRd ((L.take k).foldl (gotStep n) ([],v1)).1 u')::rdTh (growRd L (.slice ag L.length cg))::M) wr) (fun _ i _=>L.length - (intOf i).toNat)
  case atStart=>exact ⟨0,_,rfl,Nat.zero_le _,rfl,HX3.out.addRow (by repeat (first|exact Ex.refl _|refine Ex.alloc ?_ _|refine Ex.ext ?_ _ _|refine Ex.drew ?_|refine Ex.drewN ?_ _)) (rrow_nil _) (fun g hg=>by cases hg)⟩
  case round =>
   obtain ⟨k,u,rfl,hk,rfl,hX⟩:=hrel
   clear HX3
   by_cases hlt:k<L.length
   ·obtain ⟨b,cap2,e2,hb,hcell⟩:=grow_cells (VX.row [rdTh _] hX) hlt
    cases e2
    have hst:=fold_take (gotStep n) ([],v1) L k hlt
    have hpl:=gots_len n (L.take k) ([],v1)
    rw [List.length_take] at hpl
    have a0:=hcell 0 (by omega)
    have a1:=hcell 1 (by omega)
    have a2:=hcell 2 (by omega)
    have a3:=hcell 3 (by omega)
    have a4:=hcell 4 (by omega)
    have a5:=hcell 5 (by omega)
    have a6:=hcell 6 (by omega)
    have a7:=hcell 7 (by omega)
    have a8:=hcell 8 (by omega)
    obtain ⟨au,cu,rfl,hcu,hmu⟩:=rrow_slice (VX.row [] hX)
    have HST:=Lib.hid hst
    have HX:=Lib.hid hX
    clear hcell hst hX
    generalize (L.take k).foldl (gotStep n) ([],v1)=p at *
    generalize L[k]=g at *
    obtain ⟨P,vp⟩:=p
    obtain ⟨⟨ak,ac,aS,ai,ad,ap,aq,aid⟩,gc⟩:=g
    simp only [Got.cells,Ask.cells,List.cons_append,List.nil_append,List.getElem?_cons_zero,List.getElem?_cons_succ,Nat.add_zero] at a0 a1 a2 a3 a4 a5 a6 a7 a8
    have HG:=Lib.hid (fun W' (hx:Ex wr W')=>(HX.out.later hx).got hn ⟨⟨ak,ac,aS,ai,ad,ap,aq,aid⟩,gc⟩)
    have hg1:=got_len1 n ⟨⟨ak,ac,aS,ai,ad,ap,aq,aid⟩,gc⟩ vp
    have HST2:Hid ((L.take (k+1)).foldl (gotStep n) ([],v1)=(P++(gotR n ⟨⟨ak,ac,aS,ai,ad,ap,aq,aid⟩,gc⟩ vp).1,(gotR n ⟨⟨ak,ac,aS,ai,ad,ap,aq,aid⟩,gc⟩ vp).2)):=HST
    clear HST
    generalize gotR n ⟨⟨ak,ac,aS,ai,ad,ap,aq,aid⟩,gc⟩ vp=r at *
    obtain ⟨R,vr⟩:=r
    simp only [List.length_nil,Nat.zero_add] at hpl hg1
    clear HX
    go_wp2_with (first
     | (go_at_call 48;refine (HG.out _ (by repeat (first|exact Ex.refl _|refine Ex.alloc ?_ _|refine Ex.ext ?_ _ _|refine Ex.drew ?_|refine Ex.drewN ?_ _))).mono ?_;rintro e w5 ⟨ur,rfl,hX5⟩;have HX5:=Lib.hid hX5;clear hX5)
     | (at_builtin;refine wpList_append_two rfl (.tmp 34) (.tmp 38) 42 42 rfl 50 i0 _ 6 56 Tryz.underlying42 hi0 hz0 hz1 hz2 rfl (.slice au P.length cu) ur P.length R.length (flat Rep.cells P) (flat Rep.cells R) rfl rfl ?_ ?_ ?_ ?_ ?_))
    focus exact (VX.row [rdTh (rrowRd R ur)] HX5.out)
    focus exact (Src.row Tryz.underlying42 (VX.row [] HX5.out) (rep_one R))
    focus (unfold maxLen;omega)
    focus omega
    intro v' w' hrow hgrow hown
    have H2:=Lib.hid (VX.less [] (HX5.out.grow (M1:=[rdTh (rrowRd R ur)]) (r':=rrowRd (P++R) v') hgrow hown rfl (by show RowAt w' _ 6 v' (P++R).length (flat Rep.cells (P++R));rw [flat_append,List.length_append];exact hrow)))
    clear hrow hgrow hown HX5
    go_wp2_with fail
    go_roundw
    case measure=>simp [intOf];omega
    case rel=>exact ⟨k+1,_,rfl,by omega,by go_num,by rw [HST2.out];exact H2.out.later (by repeat (first|exact Ex.refl _|refine Ex.alloc ?_ _|refine Ex.ext ?_ _ _|refine Ex.drew ?_|refine Ex.drewN ?_ _))⟩
   ·obtain rfl:k=L.length:=by omega
    rw [List.take_length] at hX
    have HX:=Lib.hid hX
    clear hX
    go_wp2_with fail
    all_goals go_ret
    all_goals exact ⟨_,rfl,(VX.less [rdTh _] HX.out).later (by repeat (first|exact Ex.refl _|refine Ex.alloc ?_ _|refine Ex.ext ?_ _ _|refine Ex.drew ?_|refine Ex.drewN ?_ _))⟩
end
end Go.Proofs.YtabbgpjofkaomaaGreatDoor

/- What Batch of a venue computes: its drops, its requests, its items. -/
namespace Go.Proofs.YtabbgpjofkaomaaGreatDoor
open Go.RowKit
theorem irow_cells {l:List Int} {u:Value} {w:World} (h:(irowRd l u).R w) {k:Nat} (hk:k<l.length):∃ b off cap,u=.slice (some ⟨b,off,none⟩) l.length cap∧b<w.heap.size∧w.cell? ⟨b,off+k,none⟩=some (.int .i64 l[k]):=by
 have h:RowAt w 3 1 u l.length (flat intC l):=h
 obtain ⟨hl,⟨rfl,h0⟩|⟨g,off,cap,cur,rfl,hr⟩⟩:=h
 ·omega
 ·have h':RowAt w 3 1 (.slice (some ⟨g,off,none⟩) l.length cap) l.length (flat intC l):=⟨hl,.inr ⟨g,off,cap,cur,rfl,hr⟩⟩
  refine ⟨g,off,cap,rfl,h'.lt g rfl,?_⟩
  have h2:=h'.cell (j:=k) (by omega)
  have h3:=flat_get (N:=1) (f:=intC) (fun _=>rfl) l k hk 0 (by decide)
  rw [Nat.mul_one,Nat.add_zero] at h3
  rw [h2,h3]
  rfl
theorem itemR_len {seed wd hl:Int} {n:Nat} {placed:List Ask} {st:FSt} (h:FOk st) (hn:n<3):(itemR seed wd hl n placed st).1.length≤100000+placed.length:=by
 unfold itemR
 have h1:=fills_leV (wd:=wd) (hl:=hl) (seed:=seed) h hn
 have h2:=List.length_filterMap_le (fun a:Ask=>if (getR ((runS st n wd hl seed).b n) a.id).2∧a.item=(n:Int) then some (lotR kRest (getR ((runS st n wd hl seed).b n) a.id).1) else none) placed
 simp only [List.length_append,List.length_map]
 omega
theorem fdropR_len {st:FSt} (h:FOk st) (c:Int):(fdropR st c).1.length≤180:=(dropR_ok h c 3 (by omega)).2
theorem drops_len {st:FSt} (h:FP st):∀ (l:List Int) {p:List Rep × FSt},FP p.2→(l.foldl dropRep p).1.length≤p.1.length+180*l.length
 | [],p,_=>by simp
 | c::l,p,hp=>by
  have h1:=drops_len h l (p:=dropRep p c) (hp.dropR c)
  have h2:(dropRep p c).1.length≤p.1.length+180:=by
   show (p.1++_).length≤_
   rw [List.length_append,List.length_map]
   have:=fdropR_len hp.1 c
   omega
  rw [List.foldl_cons,List.length_cons]
  omega
theorem reqs_len:∀ (l:List Ask) (q:RqSt),(l.foldl reqStep q).out.length≤q.out.length+l.length∧(l.foldl reqStep q).placed.length≤q.placed.length+l.length
 | [],q=>by simp
 | a::l,q=>by
  have h1:=reqs_len l (reqStep q a)
  have h2:(reqStep q a).out.length≤q.out.length+1∧(reqStep q a).placed.length≤q.placed.length+1:=by
   unfold reqStep
   split<;>simp
  rw [List.foldl_cons,List.length_cons]
  omega
theorem lastL_len:∀ l:List Ask,(lastL l).length≤l.length
 | []=>by simp [lastL]
 | a::l=>by
  have:=lastL_len l
  rw [lastL_cons]
  split<;>simp<;>omega
def batchR3 (v:VSt) (q:RqSt):List Rep × VSt :=
 (((List.range 3).foldl (itemStep v (lastL q.placed)) (q.out,q.st)).1,{ v with f:=((List.range 3).foldl (itemStep v (lastL q.placed)) (q.out,q.st)).2,bat:=v.bat+1 })
def batchR2 (v:VSt) (asks:List Ask) (p:List Rep × FSt):List Rep × VSt:=batchR3 v (asks.foldl reqStep ⟨p.1,[],p.2⟩)
theorem batchR_is (drops:List Int) (asks:List Ask) (v:VSt):batchR drops asks v=batchR2 v asks (drops.foldl dropRep ([],v.f)):=rfl
theorem items_len {v:VSt} (hru:1≤v.c.hl∧v.c.hl≤1000) {placed:List Ask} {p:List Rep × FSt} (h:FP p.2):∀ k,k≤3→FP ((List.range k).foldl (itemStep v placed) p).2∧((List.range k).foldl (itemStep v placed) p).1.length≤p.1.length+k*(100000+placed.length)
 | 0,_=>⟨h,by simp⟩
 | k+1,hk=>by
  obtain ⟨h1,h2⟩:=items_len hru h k (by omega)
  rw [List.range_succ,List.foldl_append]
  show FP (itemStep v placed _ k).2∧(itemStep v placed _ k).1.length≤_
  refine ⟨h1.item hru (by omega),?_⟩
  show (_++(itemR _ _ _ _ _ _).1).length≤_
  rw [List.length_append]
  have h3:=itemR_len (seed:=vseed v k) (wd:=v.c.wd) (hl:=v.c.hl) (n:=k) (placed:=placed) h1.1 (by omega)
  rw [Nat.add_mul]
  omega
section
variable {E:Nat→Addr} {w0 w W W':World} {F:Nat→Prop} {A:VA} {v v':VSt} {M:List Th}
set_option maxRecDepth 100000 in
set_option maxHeartbeats 16000000 in
theorem VX.batch {drops:List Int} {asks:List Ask} {dv av:Value} (X:VX E w0 F w A v (rdTh (irowRd drops dv)::rdTh (arowRd asks av)::M) W) (hO:FP v.f) (hru:1≤v.c.hl∧v.c.hl≤1000) (hs:U32 v.c.seed) (hb:v.bat≤1000000) (hdl:drops.length≤100) (hal:asks.length≤100) :
  Calls Tryz.prog 59 #[.pointer (some ⟨A.vb,0,none⟩),dv,av] W fun e w'=>∃ u,e=.returned u∧VX E w0 F w A (batchR drops asks v).2 (rdTh (rrowRd (batchR drops asks v).1 u)::rdTh (irowRd drops dv)::rdTh (arowRd asks av)::M) w':=by
 obtain ⟨adv,cdv,rfl,_⟩:=irow_slice (VX.row [] X)
 obtain ⟨aav,cav,rfl⟩:=arow_slice (VX.row [rdTh _] X)
 obtain ⟨ir,hir0,hirz,hir1,hir2⟩:=info_parts infoRep
 obtain ⟨ia,hia0,hiaz,hia1,hia2⟩:=info_parts infoAskW
 generalize hres:batchR drops asks v=res
 have HRES:=Lib.hid hres
 have HX:=Lib.hid X
 have HO:=Lib.hid hO
 clear hres X hO
 go_enter Tryz.func59,Tryz.ntmps59
 go_wp2_with fail
 go_loopw [7,20] (fun u i wr=>∃ (k:Nat) (u':Value),u'=u∧k≤drops.length∧i=.int .i64 (k:Int)∧VX E w0 F w A { v with f:=((drops.take k).foldl dropRep ([],v.f)).2 } (rdTh (rrowRd ((drops.take k).foldl dropRep ([],v.f)).1 u')::rdTh (irowRd drops (.slice adv drops.length cdv))::rdTh (arowRd asks (.slice aav asks.length cav))::M) wr) (fun _ i _=>drops.length - (intOf i).toNat)
 case atStart=>exact ⟨0,_,rfl,Nat.zero_le _,rfl,HX.out.addRow (by repeat (first|exact Ex.refl _|refine Ex.alloc ?_ _|refine Ex.ext ?_ _ _|refine Ex.drew ?_|refine Ex.drewN ?_ _)) (rrow_nil _) (fun g hg=>by cases hg)⟩
 case round =>
  obtain ⟨k,u,rfl,hk,rfl,hX⟩:=hrel
  clear HX
  by_cases hlt:k<drops.length
  ·obtain ⟨b,off,cap,e2,hbl,a0⟩:=irow_cells (VX.row [rdTh _] hX) hlt
   cases e2
   have hfp:=HO.out.drops (drops.take k)
   have hpl:=drops_len HO.out (drops.take k) (p:=([],v.f)) HO.out
   rw [List.length_take] at hpl
   simp only [List.length_nil,Nat.zero_add] at hpl
   have HST:=Lib.hid (fold_take dropRep ([],v.f) drops k hlt)
   obtain ⟨⟨c6,_⟩,hvb,_⟩:=hX.cells
   obtain ⟨au,cu,rfl,hcu,hmu⟩:=rrow_slice (VX.row [] hX)
   have HX:=Lib.hid hX
   have hdl2:=fdropR_len hfp.1 drops[k]
   have HDR:=Lib.hid (fun W' (hx:Ex wr W')=>(hX.later hx).drop hfp.1 drops[k])
   clear hX hfp
   generalize (drops.take k).foldl dropRep ([],v.f)=p at *
   generalize drops[k]=cl at *
   obtain ⟨P,st⟩:=p
   have HST2:Hid ((drops.take (k+1)).foldl dropRep ([],v.f)=(P++(fdropR st cl).1.map (lotR kGone),(fdropR st cl).2)):=HST
   clear HST
   simp only at HDR hpl hdl2
   generalize fdropR st cl=r at *
   obtain ⟨L,st2⟩:=r
   simp only at HDR HST2 hdl2
   go_wp2_with (go_at_call 86;refine (HDR.out _ (by repeat (first|exact Ex.refl _|refine Ex.alloc ?_ _|refine Ex.ext ?_ _ _|refine Ex.drew ?_|refine Ex.drewN ?_ _))).mono ?_;rintro e w3 ⟨lv,rfl,hX3⟩;obtain ⟨al,clv,rfl⟩:=lrow_slice (VX.row [] hX3);have HX3:=Lib.hid hX3.swap;clear hX3)
   clear HX HDR c6 a0
   go_loopw [7,31] (fun u i wi=>∃ (j:Nat) (u':Value),u'=u∧j≤L.length∧i=.int .i64 (j:Int)∧VX E w0 F w A { v with f:=st2 } (rdTh (rrowRd (P++(L.take j).map (lotR kGone)) u')::rdTh (lrowRd L (.slice al L.length clv))::rdTh (irowRd drops (.slice (some ⟨b,off,none⟩) drops.length cdv))::rdTh (arowRd asks (.slice aav asks.length cav))::M) wi) (fun _ i _=>L.length - (intOf i).toNat)
   case atStart=>exact ⟨0,_,rfl,Nat.zero_le _,rfl,by rw [List.take_zero,List.map_nil,List.append_nil];exact HX3.out.later (by repeat (first|exact Ex.refl _|refine Ex.alloc ?_ _|refine Ex.ext ?_ _ _|refine Ex.drew ?_|refine Ex.drewN ?_ _))⟩
   case round =>
    obtain ⟨j,u2,rfl,hj,rfl,hX2⟩:=hrel
    clear HX3
    by_cases hjl:j<L.length
    ·obtain ⟨b3,o3,cp3,e3,hb3,hc3⟩:=lrow_cells (VX.row [rdTh _] hX2) hjl
     cases e3
     have a0:=hc3 0 (by omega)
     have a1:=hc3 1 (by omega)
     have a2:=hc3 2 (by omega)
     have a3:=hc3 3 (by omega)
     have a4:=hc3 4 (by omega)
     simp only [Lot.cells,List.getElem?_cons_zero,List.getElem?_cons_succ,Nat.add_zero] at a0 a1 a2 a3 a4
     obtain ⟨au2,cu2,rfl,hcu2,hmu2⟩:=rrow_slice (VX.row [] hX2)
     have HSI:Hid (P++(L.take (j+1)).map (lotR kGone)=(P++(L.take j).map (lotR kGone))++[lotR kGone L[j]]):=Lib.hid (by rw [List.take_succ_eq_append_getElem hjl,List.map_append,← List.append_assoc];rfl)
     have hln:(P++(L.take j).map (lotR kGone)).length≤100000:=by rw [List.length_append,List.length_map,List.length_take];omega
     have HX:=Lib.hid hX2
     clear hX2 hc3
     generalize P++(L.take j).map (lotR kGone)=Q at *
     generalize L[j]=x at *
     obtain ⟨xi,xo,xs,xp,xq⟩:=x
     simp only at a0 a1 a2 a3 a4
     have hw0:Ex wr (wr.alloc (.cells #[.int .i64 xi,.int .i64 xo,.int .i64 xs,.int .i64 xp,.int .i64 xq] 131)):=(by repeat (first|exact Ex.refl _|refine Ex.alloc ?_ _|refine Ex.ext ?_ _ _|refine Ex.drew ?_|refine Ex.drewN ?_ _))
     go_wp2_with (first
      | (go_at_call 87;refine (vlot_any kGone ⟨xi,xo,xs,xp,xq⟩ _).mono ?_;rintro e w8 ⟨rfl,hx8⟩;have HX8:=Lib.hid hx8;clear hx8)
      | (at_builtin;refine wpList_append_two rfl (.tmp 35) (.tmp 38) 42 42 rfl 50 ir _ 6 56 Tryz.underlying42 hir0 hirz hir1 hir2 rfl (.slice au2 Q.length cu2) (.slice (some ⟨w8.heap.size,0,none⟩) 1 1) Q.length 1 (flat Rep.cells Q) (Rep.cells (lotR kGone ⟨xi,xo,xs,xp,xq⟩)) rfl rfl ?_ ?_ ?_ ?_ ?_))
     focus exact (VX.row [] (HX.out.later (hw0.trans (HX8.out.trans (by repeat (first|exact Ex.refl _|refine Ex.alloc ?_ _|refine Ex.ext ?_ _ _|refine Ex.drew ?_|refine Ex.drewN ?_ _))))))
     focus exact (Src.block Tryz.underlying42 1 1 (cs:=#[.int .i64 xo,.string kGone,.int .i64 xi,.int .i64 xp,.int .i64 xq,.int .i64 0]) (t:=50) (fr:=(0,0)) (heap_new (by simp [go_sem])) (by simp) (by simp [Value.oneCell']))
     focus (unfold maxLen;omega)
     focus omega
     intro v' w' hrow hgrow hown
     have H2:=Lib.hid ((HX.out.later (hw0.trans (HX8.out.trans (show Ex w8 (w8.alloc (.cells #[.int .i64 xo,.string kGone,.int .i64 xi,.int .i64 xp,.int .i64 xq,.int .i64 0] 50)) from (by repeat (first|exact Ex.refl _|refine Ex.alloc ?_ _|refine Ex.ext ?_ _ _|refine Ex.drew ?_|refine Ex.drewN ?_ _)))))).grow (M1:=[]) (r':=rrowRd (Q++[lotR kGone ⟨xi,xo,xs,xp,xq⟩]) v') hgrow hown (by first|omega|(simp [go_sem];done)|(simp [go_sem];omega)) (by show RowAt w' _ 6 v' (Q++[_]).length (flat Rep.cells (Q++[_]));rw [flat_append,List.length_append,flat_one];exact hrow))
     clear hrow hgrow hown HX
     go_wp2_with fail
     go_roundw
     case measure=>simp [intOf];omega
     case rel=>exact ⟨j+1,_,rfl,by omega,by go_num,by rw [HSI.out];exact H2.out.later (by repeat (first|exact Ex.refl _|refine Ex.alloc ?_ _|refine Ex.ext ?_ _ _|refine Ex.drew ?_|refine Ex.drewN ?_ _))⟩
    ·obtain rfl:j=L.length:=by omega
     rw [List.take_length] at hX2
     have HX:=Lib.hid hX2
     clear hX2
     go_wp2_with fail
     go_roundw
     case measure=>simp [intOf];omega
     case rel=>exact ⟨k+1,_,rfl,by omega,by go_num,by rw [HST2.out];exact VX.less [rdTh _] (HX.out.later (by repeat (first|exact Ex.refl _|refine Ex.alloc ?_ _|refine Ex.ext ?_ _ _|refine Ex.drew ?_|refine Ex.drewN ?_ _)))⟩
  ·obtain rfl:k=drops.length:=by omega
   rw [List.take_length] at hX
   have hfp:=HO.out.drops drops
   have hpl:=drops_len HO.out drops (p:=([],v.f)) HO.out
   simp only [List.length_nil,Nat.zero_add] at hpl
   have HR2:Hid (res=batchR2 v asks (drops.foldl dropRep ([],v.f))):=Lib.hid HRES.out.symm
   have HX:=Lib.hid hX
   clear hX HRES HO
   generalize drops.foldl dropRep ([],v.f)=p at *
   obtain ⟨P0,st0⟩:=p
   have HFP:Hid (FP st0):=Lib.hid hfp
   clear hfp
   simp only at hpl
   go_wp2_with fail
   go_loopw [7,12,44] (fun u pl i wr=>∃ (k:Nat) (u' pl':Value),u'=u∧pl'=pl∧k≤asks.length∧i=.int .i64 (k:Int)∧VX E w0 F w A { v with f:=((asks.take k).foldl reqStep ⟨P0,[],st0⟩).st } (rdTh (rrowRd ((asks.take k).foldl reqStep ⟨P0,[],st0⟩).out u')::rdTh (arowRd ((asks.take k).foldl reqStep ⟨P0,[],st0⟩).placed pl')::rdTh (irowRd drops (.slice adv drops.length cdv))::rdTh (arowRd asks (.slice aav asks.length cav))::M) wr) (fun _ _ i _=>asks.length - (intOf i).toNat)
   case atStart=>exact ⟨0,_,_,rfl,rfl,Nat.zero_le _,rfl,((HX.out.addRow (r:=arowRd [] (.slice none 0 0)) (by repeat (first|exact Ex.refl _|refine Ex.alloc ?_ _|refine Ex.ext ?_ _ _|refine Ex.drew ?_|refine Ex.drewN ?_ _)) (RowAt.nil _ _ _) (fun g hg=>by cases hg)).swap)⟩
   case round =>
    obtain ⟨k,u,pl,rfl,rfl,hk,rfl,hX⟩:=hrel
    clear HX
    by_cases hlt:k<asks.length
    ·obtain ⟨b3,o3,rfl,hb3,hc3⟩:=(AskSl.of_row (VX.row [rdTh _,rdTh _,rdTh _] hX)) (by omega)
     have hzk:=hc3 k hlt
     have a0:=hzk 0 (by omega)
     have a1:=hzk 1 (by omega)
     have a2:=hzk 2 (by omega)
     have a3:=hzk 3 (by omega)
     have a4:=hzk 4 (by omega)
     have a5:=hzk 5 (by omega)
     have a6:=hzk 6 (by omega)
     have a7:=hzk 7 (by omega)
     simp only [Ask.cells,List.getElem?_cons_zero,List.getElem?_cons_succ,Nat.add_zero] at a0 a1 a2 a3 a4 a5 a6 a7
     have hfq:=HFP.out.reqs (out:=P0) (asks.take k)
     obtain ⟨hl1,hl2⟩:=reqs_len (asks.take k) ⟨P0,[],st0⟩
     rw [List.length_take] at hl1 hl2
     simp only [List.length_nil,Nat.zero_add] at hl1 hl2
     have HST:=Lib.hid (fold_take reqStep ⟨P0,[],st0⟩ asks k hlt)
     obtain ⟨au,cu,rfl,hcu,hmu⟩:=rrow_slice (VX.row [] hX)
     obtain ⟨ap,cp,rfl⟩:=arow_slice (VX.row [rdTh _] hX)
     have HX:=Lib.hid hX
     clear hX hc3 hzk
     generalize (asks.take k).foldl reqStep ⟨P0,[],st0⟩=q at *
     have HAE:∃ a,a=asks[k]:=⟨_,rfl⟩
     obtain ⟨a,ha⟩:=HAE
     rw [← ha] at HST a0 a1 a2 a3 a4 a5 a6 a7
     clear ha
     obtain ⟨Q,pl,st⟩:=q
     simp only at hfq hl1 hl2 hcu hmu
     have HST2:Hid ((asks.take (k+1)).foldl reqStep ⟨P0,[],st0⟩=if (requestR a st).2.1 then ⟨Q,pl++[a],(requestR a st).2.2⟩ else ⟨Q++[(requestR a st).1],pl,(requestR a st).2.2⟩):=HST
     clear HST
     obtain ⟨ak,ac,aS,ai,ad,ap2,aq,aid⟩:=a
     have HRQ:=Lib.hid (fun W' (X:VX E w0 F w A { v with f:=st } (blkTh wr.heap.size (askC ⟨ak,ac,aS,ai,ad,ap2,aq,aid⟩) 45::rdTh (rrowRd Q (.slice au Q.length cu))::rdTh (arowRd pl (.slice ap pl.length cp))::rdTh (irowRd drops (.slice adv drops.length cdv))::rdTh (arowRd asks (.slice (some ⟨b3,o3,none⟩) asks.length cav))::M) W')=>X.request hfq.1 ⟨ak,ac,aS,ai,ad,ap2,aq,aid⟩)
     clear hfq
     generalize requestR ⟨ak,ac,aS,ai,ad,ap2,aq,aid⟩ st=rr at *
     obtain ⟨⟨ri,rk,rid,rp,rq,rc⟩,is,st2⟩:=rr
     simp only at HST2 HRQ
     go_upto_region 15 with fail
     refine wp_world (R:=fun W'=>VX E w0 F w A { v with f:=st } (blkTh wr.heap.size (askC ⟨ak,ac,aS,ai,ad,ap2,aq,aid⟩) 45::rdTh (rrowRd Q (.slice au Q.length cu))::rdTh (arowRd pl (.slice ap pl.length cp))::rdTh (irowRd drops (.slice adv drops.length cdv))::rdTh (arowRd asks (.slice (some ⟨b3,o3,none⟩) asks.length cav))::M) W') (HX.out.addBlk (by repeat (first|exact Ex.refl _|refine Ex.alloc ?_ _|refine Ex.ext ?_ _ _|refine Ex.drew ?_|refine Ex.drewN ?_ _)) (by repeat (first|exact Blk.new (by first|omega|(simp [go_sem];done)|(simp [go_sem];omega))|(with_reducible exact Blk.new rfl)|(with_reducible refine Blk.drew ?_)|(with_reducible refine Blk.drewN ?_ _)|(with_reducible refine Blk.ext ?_ _ _)|(with_reducible refine Blk.alloc ?_ _))) (Nat.le_refl _)) ?_
     clear a0 a1 a2 a3 a4 a5 a6 a7 hb3 HX
     generalize wr.heap.size=bx at *
     rintro W6 hX6
     have HX6:=Lib.hid hX6
     have hgc:=blk_cell (VX.blk [] hX6)
     have g0:=hgc 0
     have g1:=hgc 1
     have g2:=hgc 2
     have g3:=hgc 3
     have g4:=hgc 4
     have g5:=hgc 5
     have g6:=hgc 6
     have g7:=hgc 7
     simp only [askC,List.getElem?_toArray,List.getElem?_cons_zero,List.getElem?_cons_succ] at g0 g1 g2 g3 g4 g5 g6 g7
     clear hgc hX6
     cases is with
     | true =>
      rw [if_pos rfl] at HST2
      go_upto_region 17 with (go_at_call 88;refine (HRQ.out _ HX6.out).mono ?_;rintro e w5 ⟨rfl,hX5⟩;have HX5:=Lib.hid hX5;clear hX5)
      have hgc:=blk_cell (VX.blk [] HX5.out)
      have g0:=hgc 0
      have g1:=hgc 1
      have g2:=hgc 2
      have g3:=hgc 3
      have g4:=hgc 4
      have g5:=hgc 5
      have g6:=hgc 6
      have g7:=hgc 7
      simp only [askC,List.getElem?_toArray,List.getElem?_cons_zero,List.getElem?_cons_succ] at g0 g1 g2 g3 g4 g5 g6 g7
      have hbx5:=lt_of_cell g0
      clear hgc HX6 HRQ
      have hw1:Ex w5 ((w5.alloc (.cells #[.int .i64 ri,.string rk,.int .i64 rid,.int .i64 rp,.int .i64 rq,.int .i64 rc] 50)).alloc (.cells #[.int .u8 ak,.int .i64 ac,.int .i64 aS,.int .i64 ai,.int .i64 ad,.int .i64 ap2,.int .i64 aq,.int .i64 aid] 45)):=(by repeat (first|exact Ex.refl _|refine Ex.alloc ?_ _|refine Ex.ext ?_ _ _|refine Ex.drew ?_|refine Ex.drewN ?_ _))
      go_wp2_with (at_builtin;refine wpList_append_two rfl (.tmp 55) (.tmp 57) 39 39 rfl 45 ia _ 8 64 Tryz.underlying39 hia0 hiaz hia1 hia2 rfl (.slice ap pl.length cp) (.slice (some ⟨w5.heap.size+1,0,none⟩) 1 1) pl.length 1 (flat Ask.cells pl) (Ask.cells ⟨ak,ac,aS,ai,ad,ap2,aq,aid⟩) rfl rfl ?_ ?_ ?_ ?_ ?_)
      focus exact (VX.row [blkTh _ _ _,rdTh _] (HX5.out.later hw1))
      focus exact (Src.block Tryz.underlying39 1 1 (cs:=#[.int .u8 ak,.int .i64 ac,.int .i64 aS,.int .i64 ai,.int .i64 ad,.int .i64 ap2,.int .i64 aq,.int .i64 aid]) (t:=45) (fr:=(0,0)) (heap_new (by simp [go_sem])) (by simp) (by simp [Value.oneCell']))
      focus (unfold maxLen;omega)
      focus omega
      intro v' w' hrow hgrow hown
      have H2:=Lib.hid (VX.less [] ((HX5.out.later hw1).grow (M1:=[blkTh _ _ _,rdTh _]) (r':=arowRd (pl++[⟨ak,ac,aS,ai,ad,ap2,aq,aid⟩]) v') hgrow hown (by first|omega|(simp [go_sem];done)|(simp [go_sem];omega)) (by show RowAt w' _ 8 v' (pl++[_]).length (flat Ask.cells (pl++[_]));rw [flat_append,List.length_append,flat_one];exact hrow)))
      clear hrow hgrow hown HX5
      go_wp2_with fail
      go_roundw
      case measure=>simp [intOf];omega
      case rel=>exact ⟨k+1,_,_,rfl,rfl,by omega,by go_num,by rw [HST2.out];exact H2.out.later (by repeat (first|exact Ex.refl _|refine Ex.alloc ?_ _|refine Ex.ext ?_ _ _|refine Ex.drew ?_|refine Ex.drewN ?_ _))⟩
     | false =>
      rw [if_neg (by decide)] at HST2
      go_upto_region 18 with (go_at_call 88;refine (HRQ.out _ HX6.out).mono ?_;rintro e w5 ⟨rfl,hX5⟩;have HX5:=Lib.hid hX5;clear hX5)
      clear HX6 HRQ g0 g1 g2 g3 g4 g5 g6 g7
      have hw1:Ex w5 ((w5.alloc (.cells #[.int .i64 ri,.string rk,.int .i64 rid,.int .i64 rp,.int .i64 rq,.int .i64 rc] 50)).alloc (.cells #[.int .i64 ri,.string rk,.int .i64 rid,.int .i64 rp,.int .i64 rq,.int .i64 rc] 50)):=(by repeat (first|exact Ex.refl _|refine Ex.alloc ?_ _|refine Ex.ext ?_ _ _|refine Ex.drew ?_|refine Ex.drewN ?_ _))
      go_wp2_with (at_builtin;refine wpList_append_two rfl (.tmp 59) (.tmp 61) 42 42 rfl 50 ir _ 6 56 Tryz.underlying42 hir0 hirz hir1 hir2 rfl (.slice au Q.length cu) (.slice (some ⟨w5.heap.size+1,0,none⟩) 1 1) Q.length 1 (flat Rep.cells Q) (Rep.cells ⟨ri,rk,rid,rp,rq,rc⟩) rfl rfl ?_ ?_ ?_ ?_ ?_)
      focus exact (VX.row [blkTh _ _ _] (HX5.out.later hw1))
      focus exact (Src.block Tryz.underlying42 1 1 (cs:=#[.int .i64 ri,.string rk,.int .i64 rid,.int .i64 rp,.int .i64 rq,.int .i64 rc]) (t:=50) (fr:=(0,0)) (heap_new (by simp [go_sem])) (by simp) (by simp [Value.oneCell']))
      focus (unfold maxLen;omega)
      focus omega
      intro v' w' hrow hgrow hown
      have H2:=Lib.hid (VX.less [] ((HX5.out.later hw1).grow (M1:=[blkTh _ _ _]) (r':=rrowRd (Q++[⟨ri,rk,rid,rp,rq,rc⟩]) v') hgrow hown (by first|omega|(simp [go_sem];done)|(simp [go_sem];omega)) (by show RowAt w' _ 6 v' (Q++[_]).length (flat Rep.cells (Q++[_]));rw [flat_append,List.length_append,flat_one];exact hrow)))
      clear hrow hgrow hown HX5
      go_wp2_with fail
      go_roundw
      case measure=>simp [intOf];omega
      case rel=>exact ⟨k+1,_,_,rfl,rfl,by omega,by go_num,by rw [HST2.out];exact H2.out.later (by repeat (first|exact Ex.refl _|refine Ex.alloc ?_ _|refine Ex.ext ?_ _ _|refine Ex.drew ?_|refine Ex.drewN ?_ _))⟩
    ·obtain rfl:k=asks.length:=by omega
     rw [List.take_length] at hX
     have hfq:=HFP.out.reqs (out:=P0) asks
     obtain ⟨hl1,hl2⟩:=reqs_len asks ⟨P0,[],st0⟩
     simp only [List.length_nil,Nat.zero_add] at hl1 hl2
     obtain ⟨ap,cp,rfl⟩:=arow_slice (VX.row [rdTh _] hX)
     have HR3:Hid (res=batchR3 v (asks.foldl reqStep ⟨P0,[],st0⟩)):=HR2
     have HLA:=Lib.hid (fun W' (hx:Ex wr W')=>vlast_any ap cp (asks.foldl reqStep ⟨P0,[],st0⟩).placed W' (by omega) (VX.row [rdTh _] (hX.later hx)))
     have HLL:=lastL_len (asks.foldl reqStep ⟨P0,[],st0⟩).placed
     have HFQ:=Lib.hid hfq
     have HX:=Lib.hid hX
     clear hX hfq HR2 HFP
     generalize asks.foldl reqStep ⟨P0,[],st0⟩=q at *
     obtain ⟨Q,pl,st⟩:=q
     simp only at hl1 hl2 HLL HLA
     have HFQ2:Hid (FP st):=HFQ
     clear HFQ
     go_wp2_with (go_at_call 89;refine (HLA.out _ (by repeat (first|exact Ex.refl _|refine Ex.alloc ?_ _|refine Ex.ext ?_ _ _|refine Ex.drew ?_|refine Ex.drewN ?_ _))).mono ?_;rintro e w3 ⟨lv,rfl,hg3,hx3⟩;have HX3:=Lib.hid (VX.less [rdTh _,rdTh _] ((HX.out.later (by repeat (first|exact Ex.refl _|refine Ex.alloc ?_ _|refine Ex.ext ?_ _ _|refine Ex.drew ?_|refine Ex.drewN ?_ _))).addRow (r:=arowRd (lastL pl) lv) hx3 hg3.1 hg3.2));clear hg3 hx3)
     have HR4:Hid (res=(((List.range 3).foldl (itemStep v (lastL pl)) (Q,st)).1,{ v with f:=((List.range 3).foldl (itemStep v (lastL pl)) (Q,st)).2,bat:=v.bat+1 })):=HR3
     clear HX HLA HR3
     generalize lastL pl=LP at *
     go_loopw [7,66] (fun u i wr=>∃ (k:Nat) (u':Value),u'=u∧k≤3∧i=.int .i64 (k:Int)∧VX E w0 F w A { v with f:=((List.range k).foldl (itemStep v LP) (Q,st)).2 } (rdTh (arowRd LP lv)::rdTh (rrowRd ((List.range k).foldl (itemStep v LP) (Q,st)).1 u')::rdTh (irowRd drops (.slice adv drops.length cdv))::rdTh (arowRd asks (.slice aav asks.length cav))::M) wr) (fun _ i _=>3 - (intOf i).toNat)
     case atStart=>exact ⟨0,_,rfl,Nat.zero_le _,rfl,HX3.out.later (by repeat (first|exact Ex.refl _|refine Ex.alloc ?_ _|refine Ex.ext ?_ _ _|refine Ex.drew ?_|refine Ex.drewN ?_ _))⟩
     case round =>
      obtain ⟨k,u,rfl,hk,rfl,hX⟩:=hrel
      clear HX3
      by_cases hlt:k<3
      ·have k3:(k:Int)<3:=by omega
       obtain ⟨hfk,hlk⟩:=items_len (placed:=LP) hru (p:=(Q,st)) HFQ2.out k hk
       simp only at hlk
       have hlk2:((List.range k).foldl (itemStep v LP) (Q,st)).1.length≤100000000:=Nat.le_trans hlk (by
        have:k*(100000+LP.length)≤3*(100000+LP.length):=Nat.mul_le_mul_right _ (by omega)
        omega)
       have HST:=Lib.hid (show (List.range (k+1)).foldl (itemStep v LP) (Q,st)=itemStep v LP ((List.range k).foldl (itemStep v LP) (Q,st)) k by rw [List.range_succ,List.foldl_append];rfl)
       obtain ⟨au,cu,rfl,hcu,hmu⟩:=rrow_slice (VX.row [rdTh _] hX)
       clear hlk
       generalize (List.range k).foldl (itemStep v LP) (Q,st)=p at *
       obtain ⟨P,stk⟩:=p
       simp only at hfk hlk2 hcu
       have HST2:Hid ((List.range (k+1)).foldl (itemStep v LP) (Q,st)=(P++(itemR (vseed v k) v.c.wd v.c.hl k LP stk).1,(itemR (vseed v k) v.c.wd v.c.hl k LP stk).2)):=HST
       clear HST
       have hrl:=itemR_len (seed:=vseed v k) (wd:=v.c.wd) (hl:=v.c.hl) (n:=k) (placed:=LP) hfk.1 hlt
       have HIT:=Lib.hid (fun W' (hx:Ex wr W')=>(hX.later hx).item hfk.1 hfk.2 hru hs hb (by omega) hlt)
       have HIT2:Hid (∀ W',Ex wr W'→Calls Tryz.prog 90 #[.pointer (some ⟨A.vb,0,none⟩),.int .i64 (k:Int),lv] W' fun e w'=>∃ u,e=.returned u∧VX E w0 F w A { v with f:=(itemR (vseed v k) v.c.wd v.c.hl k LP stk).2 } (rdTh (rrowRd (itemR (vseed v k) v.c.wd v.c.hl k LP stk).1 u)::rdTh (arowRd LP lv)::rdTh (rrowRd P (.slice au P.length cu))::rdTh (irowRd drops (.slice adv drops.length cdv))::rdTh (arowRd asks (.slice aav asks.length cav))::M) w'):=HIT
       clear HIT hX hfk
       generalize itemR (vseed v k) v.c.wd v.c.hl k LP stk=r at *
       obtain ⟨R,st2⟩:=r
       simp only at hrl HST2 HIT2
       go_wp2_with (first
        | (go_at_call 90;refine (HIT2.out _ (by repeat (first|exact Ex.refl _|refine Ex.alloc ?_ _|refine Ex.ext ?_ _ _|refine Ex.drew ?_|refine Ex.drewN ?_ _))).mono ?_;rintro e w5 ⟨ur,rfl,hX5⟩;have HX5:=Lib.hid hX5;clear hX5)
        | (at_builtin;refine wpList_append_two rfl (.tmp 69) (.tmp 73) 42 42 rfl 50 ir _ 6 56 Tryz.underlying42 hir0 hirz hir1 hir2 rfl (.slice au P.length cu) ur P.length R.length (flat Rep.cells P) (flat Rep.cells R) rfl rfl ?_ ?_ ?_ ?_ ?_))
       focus exact (VX.row [rdTh _,rdTh _] HX5.out)
       focus exact (Src.row Tryz.underlying42 (VX.row [] HX5.out) (rep_one R))
       focus (unfold maxLen;omega)
       focus omega
       intro v' w' hrow hgrow hown
       have H2:=Lib.hid (VX.less [] (HX5.out.grow (M1:=[rdTh _,rdTh _]) (r':=rrowRd (P++R) v') hgrow hown rfl (by show RowAt w' _ 6 v' (P++R).length (flat Rep.cells (P++R));rw [flat_append,List.length_append];exact hrow)))
       clear hrow hgrow hown HX5
       go_wp2_with fail
       go_roundw
       case measure=>simp [intOf];omega
       case rel=>exact ⟨k+1,_,rfl,by omega,by go_num,by rw [HST2.out];exact H2.out.later (by repeat (first|exact Ex.refl _|refine Ex.alloc ?_ _|refine Ex.ext ?_ _ _|refine Ex.drew ?_|refine Ex.drewN ?_ _))⟩
      ·obtain rfl:k=3:=by omega
       obtain ⟨⟨_,_,_,_,_,c11,_⟩,hvb,_⟩:=hX.cells
       have hfz:=hX.free.1
       have HX:=Lib.hid hX
       clear hX
       go_wp2_with fail
       all_goals go_ret
       all_goals
        refine ⟨_,rfl,?_⟩
        rw [HR4.out]
        have h:=VX.less [] HX.out
        generalize (List.range 3).foldl (itemStep v LP) (Q,st)=p at *
        exact h.setHead 11 (.int .i64 ((v.bat+1:Nat):Int)) _ (fun i hi=>by
         by_cases e:i=11
         ·subst e;rfl
         ·rw [if_neg e];unfold VA.head;simp only [e,if_false]) ⟨rfl,rfl,rfl,rfl,rfl,rfl⟩
end
end Go.Proofs.YtabbgpjofkaomaaGreatDoor

/- What Record of package venue computes: the text of a batch. -/
namespace Go.Proofs.YtabbgpjofkaomaaGreatDoor
open Go.RowKit Go.Sort
def Tab (w : World) : Prop := Lib.TabIs Tryz.prog w "internal/strconv.uint64pow10" .u64 Lib.pow10Tab
theorem Tab.ex {w w':World} (h:Tab w) (hx:Ex w w'):Tab w':=Lib.tabBelow_of_tabIs h w' hx.below
theorem grow_ex {w w':World} (h:∃ k os,w'=grow (w.drewN k) os):Ex w w':=by
 obtain ⟨k,os,rfl⟩:=h
 refine Ex.of ⟨rfl,rfl,rfl,?_,fun n hn=>?_⟩
 ·simp [grow]
 ·simp only [grow]
  exact Array.getElem?_append_left hn
def stC (b:List UInt8):List Value:=[.string ⟨b.toArray⟩]
theorem infoStrV:(Tryz.prog.info? 9).map (fun i=>(i.zero,i.size,i.bytes))=some (some (.string ⟨#[]⟩),1,16):=by kernel_rfl
theorem itoaS_any (i:Nat) (hi:i<100) (w:World):Calls Tryz.prog 82 #[.int .i64 (i:Int)] w fun e w'=>e=.returned (.string ⟨(Lib.itoa (i:Int)).toArray⟩)∧w=w':=by
 refine (Tryz.strconv_Itoa_small i hi w).mono fun e w' ⟨he,hw⟩=>⟨?_,hw.symm⟩
 rw [he,Lib.itoa_nonneg]
theorem itoa_any (n:Int) (h0:-9223372036854775808≤n) (h1:n≤9223372036854775807) (w:World) (ht:Tab w):Calls Tryz.prog 82 #[.int .i64 n] w fun e w'=>e=.returned (.string ⟨(Lib.itoa n).toArray⟩)∧Ex w w' :=
 (Tryz.strconv_Itoa n h0 h1 w ht).mono fun e w' ⟨he,hw⟩=>⟨he,grow_ex hw⟩
theorem join_any (ao:Option Addr) (cap:Nat) (l:List (List UInt8)) (w:World) (hr:RowAt w 9 1 (.slice ao l.length cap) l.length (flat stC l)) (hl:l.length≤1000) (hj:(Lib.join l [44]).length≤100000) :
  Calls Tryz.prog 83 #[.slice ao l.length cap,.string ⟨#[44]⟩] w fun e w'=>e=.returned (.string ⟨(Lib.join l [44]).toArray⟩)∧Ex w w':=by
 cases l with
 | nil =>
  refine (Tryz.strings_Join_none ao cap ⟨#[44]⟩ w).mono fun e w' ⟨he,hw⟩=>⟨?_,hw▸Ex.refl _⟩
  rw [he];rfl
 | cons x l =>
  obtain ⟨hlen,⟨h2,h3⟩|⟨g,off,cap',cur,h2,hr2⟩⟩:=hr
  ·simp at h3
  ·cases h2
   have h':RowAt w 9 1 (.slice (some ⟨g,off,none⟩) (x::l).length cap) (x::l).length (flat stC (x::l)):=⟨hlen,.inr ⟨g,off,cap,cur,rfl,hr2⟩⟩
   have hm:((x::l).map fun b=>(⟨b.toArray⟩:ByteArray)).map (·.data.toList)=x::l:=by rw [List.map_map];exact (List.map_congr_left fun a _=>by simp).trans (List.map_id _)
   have h:=Tryz.strings_Join g off cap ((x::l).map fun b=>(⟨b.toArray⟩:ByteArray)) ⟨#[44]⟩ w (fun j y hy=>by
    rw [List.getElem?_map] at hy
    cases hb:(x::l)[j]? with
    | none=>rw [hb] at hy;cases hy
    | some b =>
     rw [hb] at hy
     cases hy
     obtain ⟨hj2,e⟩:=List.getElem?_eq_some_iff.1 hb
     have h3:=flat_get (N:=1) (f:=stC) (fun _=>rfl) (x::l) j hj2 0 (by decide)
     rw [Nat.mul_one,Nat.add_zero] at h3
     rw [h'.cell (j:=j) (by omega),h3,e]
     rfl) (h'.lt g rfl) (by rw [List.length_map];omega) (by rw [List.length_map];exact hr2.2.1) (by rw [hm];exact Nat.le_trans hj (by decide))
   rw [hm,List.length_map] at h
   exact h.mono fun e w' ⟨he,hw⟩=>⟨he,Ex.of hw⟩
theorem recordL_is (n:Nat) (drops:List Nat) (asks:List Ask) (he:∀ a∈asks,a.err=0):recordL n drops asks=(Lib.itoa n++58::Lib.join (drops.map fun (c:Nat)=>Lib.itoa (c:Int)) [44])++asks.flatMap fun a=>32::hexL a.frame.data.toList:=by
 unfold recordL
 congr 1
 induction asks with
 | nil=>rfl
 | cons a l ih =>
  rw [List.flatMap_cons,List.flatMap_cons,if_pos (he a (by simp)),ih (fun b hb=>he b (by simp [hb]))]
theorem fr_len (a:Ask):a.frame.data.toList.length=30:=by rw [Array.length_toList];exact a.frame_size
theorem itoaS_len (i:Nat) (hi:i<6):(Lib.itoa (i:Int)).length≤21:=by
 rw [Lib.itoa_nonneg]
 unfold Lib.decDigits
 rw [dif_pos (by omega)]
 simp
theorem joinS_len:∀ l:List (List UInt8),(∀ x∈l,x.length≤21)→(Lib.join l [44]).length≤22*l.length
 | [],_=>by simp [Lib.join_nil]
 | x::l,h=>by
  have h1:=h x (by simp)
  have h2:∀ l:List (List UInt8),(∀ x∈l,x.length≤21)→(Lib.joinTail [44] l).length≤22*l.length:=by
   intro l
   induction l with
   | nil=>intro _;simp [Lib.joinTail]
   | cons y l ih =>
    intro hy
    have a1:=ih (fun z hz=>hy z (by simp [hz]))
    have a2:=hy y (by simp)
    have e:Lib.joinTail [44] (y::l)=([44]++y)++Lib.joinTail [44] l:=by simp [Lib.joinTail]
    rw [e,List.length_append,List.length_append,List.length_cons]
    simp only [List.length_cons,List.length_nil]
    omega
  rw [Lib.join_cons,List.length_append,List.length_cons]
  have:=h2 l (fun z hz=>h z (by simp [hz]))
  omega
set_option maxRecDepth 100000 in
set_option maxHeartbeats 8000000 in
theorem vrecord_any (n:Nat) (hn:n≤1000000) (drops:List Nat) (asks:List Ask) (dv av:Value) (E:Nat→Addr) (w:World) (ht:Tab w) (hE:Errs E [2,3,4] w)
  (hd:(irowRd (drops.map fun (c:Nat)=>(c:Int)) dv).R w) (ha:(arowRd asks av).R w) (hd6:∀ c∈drops,c<6) (hdl:drops.length≤100) (hal:asks.length≤100) (hae:∀ a∈asks,a.err=0) :
  Calls Tryz.prog 58 #[.int .i64 (n:Int),dv,av] w fun e w'=>e=.returned (.string ⟨(recordL n drops asks).toArray⟩)∧Ex w w':=by
 have HR:=Lib.hid (recordL_is n drops asks hae)
 generalize recordL n drops asks=R at *
 obtain ⟨adv,cdv,rfl,_⟩:=irow_slice hd
 obtain ⟨aav,cav,rfl⟩:=arow_slice ha
 obtain ⟨i0,hi0,hz0,hz1,hz2⟩:=info_parts infoStrV
 have hml:(drops.map fun (c:Nat)=>(c:Int)).length=drops.length:=List.length_map _
 rw [hml]
 have HD:=Lib.hid hd
 have HA:=Lib.hid (AskSl.of_row ha)
 have HT:=Lib.hid ht
 have HE:=Lib.hid hE
 have HML:=Lib.hid hml
 have H6:=Lib.hid hd6
 have HAE:=Lib.hid hae
 clear hd ha ht hE hml hd6 hae
 go_enter Tryz.func58,Tryz.ntmps58
 go_wp2_with fail
 go_loopw [7,17] (fun v i wr=>∃ (k:Nat) (u:Value),u=v∧k≤drops.length∧i=.int .i64 (k:Int)∧GRow 9 1 stC w.heap.size ((drops.take k).map fun (c:Nat)=>Lib.itoa (c:Int)) u wr∧Ex w wr) (fun _ i _=>drops.length - (intOf i).toNat)
 case atStart=>exact ⟨0,_,rfl,Nat.zero_le _,rfl,GRow.nil _,(by repeat (first|exact Ex.refl _|refine Ex.alloc ?_ _|refine Ex.ext ?_ _ _|refine Ex.drew ?_|refine Ex.drewN ?_ _))⟩
 case round =>
  obtain ⟨k,v,rfl,hk,rfl,hrow,hx⟩:=hrel
  by_cases hlt:k<drops.length
  ·have hdx:=(irowRd _ _).same HD.out fun g hg=>hx.below.block g ((irowRd _ _).lt HD.out g hg)
   obtain ⟨b,off,cap,e2,hbl,a0⟩:=irow_cells hdx (k:=k) (by rw [HML.out];exact hlt)
   cases e2
   rw [List.getElem_map] at a0
   have hc6:=H6.out drops[k] (List.getElem_mem hlt)
   have HST:=Lib.hid (show (drops.take (k+1)).map (fun (c:Nat)=>Lib.itoa (c:Int))=((drops.take k).map fun (c:Nat)=>Lib.itoa (c:Int))++[Lib.itoa (drops[k]:Int)] by rw [List.take_succ_eq_append_getElem hlt,List.map_append];rfl)
   have hln:((drops.take k).map fun (c:Nat)=>Lib.itoa (c:Int)).length≤1000:=by rw [List.length_map,List.length_take];omega
   obtain ⟨av,cv,rfl,hcv,hcm⟩:=hrow.slice
   have HROW:=Lib.hid hrow
   have HX:=Lib.hid hx
   clear hrow hx hdx
   generalize ((drops.take k).map fun (c:Nat)=>Lib.itoa (c:Int))=L at *
   have HIT:=Lib.hid (fun W=>itoaS_any drops[k] (by omega) W)
   generalize Lib.itoa (drops[k]:Int)=x at *
   go_upto_region 5 with fail
   have hw1:Ex wr (wr.alloc (.cells #[.string ⟨x.toArray⟩] 9)):=(by repeat (first|exact Ex.refl _|refine Ex.alloc ?_ _|refine Ex.ext ?_ _ _|refine Ex.drew ?_|refine Ex.drewN ?_ _))
   go_wp2_with (first
    | (go_at_call 82;refine (HIT.out _).mono ?_;rintro e w3 ⟨rfl,rfl⟩)
    | (at_builtin;refine wpList_append_two rfl (.tmp 21) (.tmp 24) 75 75 rfl 9 i0 _ 1 16 Tryz.underlying75 hi0 hz0 hz1 hz2 rfl (.slice av L.length cv) (.slice (some ⟨wr.heap.size,0,none⟩) 1 1) L.length 1 (flat stC L) (stC x) rfl rfl ?_ ?_ ?_ ?_ ?_))
   focus exact (HROW.out.ex hw1).1
   focus exact (Src.block Tryz.underlying75 1 1 (cs:=#[.string ⟨x.toArray⟩]) (t:=9) (fr:=(0,0)) (heap_new (by simp [go_sem])) (by simp) (by simp [Value.oneCell']))
   focus (unfold maxLen;omega)
   focus omega
   intro v' w' hrow hgrow hown
   have hw2:=HX.out.below.size
   have H2:Hid (GRow 9 1 stC w.heap.size (L++[x]) v' w'∧Ex w w'):=Lib.hid ⟨(HROW.out.ex hw1).app hrow (by rw [List.length_append];rfl) (by rw [flat_append,flat_one]) hown (by first|omega|(simp [go_sem];done)|(simp [go_sem];omega)),(HROW.out.ex hw1).later (HX.out.trans hw1) hgrow (Nat.le_refl _)⟩
   clear hrow hgrow hown
   go_wp2_with fail
   go_roundw
   case measure=>simp [intOf];omega
   case rel=>exact ⟨k+1,_,rfl,by omega,by go_num,by rw [HST.out];exact H2.out.1.ex (by repeat (first|exact Ex.refl _|refine Ex.alloc ?_ _|refine Ex.ext ?_ _ _|refine Ex.drew ?_|refine Ex.drewN ?_ _)),H2.out.2.trans (by repeat (first|exact Ex.refl _|refine Ex.alloc ?_ _|refine Ex.ext ?_ _ _|refine Ex.drew ?_|refine Ex.drewN ?_ _))⟩
  ·obtain rfl:k=drops.length:=by omega
   rw [List.take_length] at hrow
   have hjl:=joinS_len (drops.map fun (c:Nat)=>Lib.itoa (c:Int)) (fun x hx=>by
    obtain ⟨c,hc,rfl⟩:=List.mem_map.1 hx
    exact itoaS_len c (H6.out c hc))
   have hll:(drops.map fun (c:Nat)=>Lib.itoa (c:Int)).length≤100:=by rw [List.length_map];exact hdl
   obtain ⟨av,cv,rfl,hcv,hcm⟩:=hrow.slice
   have HJ:=Lib.hid (fun W' (hx:Ex wr W')=>join_any av cv _ W' (hrow.ex hx).1 (by omega) (by omega))
   have HI:=Lib.hid (fun W' (hx:Ex w W')=>itoa_any (n:Int) (by omega) (by omega) W' (HT.out.ex hx))
   have HX:=Lib.hid hx
   clear hrow hx
   generalize (drops.map fun (c:Nat)=>Lib.itoa (c:Int))=L at *
   have hnl:=Lib.itoa_length_le (n:Int) (by omega) (by omega)
   generalize Lib.itoa (n:Int)=N at *
   generalize Lib.join L [44]=J at *
   have hsx:((⟨N.toArray⟩:ByteArray)++⟨#[58]⟩)++⟨J.toArray⟩=⟨(N++58::J).toArray⟩:=by
    rw [show (⟨#[58]⟩:ByteArray)=⟨[(58:UInt8)].toArray⟩ from rfl,bytes_add,bytes_add,List.append_assoc]
    rfl
   go_wp2_with (first
    | (go_at_call 82;refine (HI.out _ (HX.out.trans (by repeat (first|exact Ex.refl _|refine Ex.alloc ?_ _|refine Ex.ext ?_ _ _|refine Ex.drew ?_|refine Ex.drewN ?_ _)))).mono ?_;rintro e w3 ⟨rfl,hx3⟩;have HX3:=Lib.hid hx3;clear hx3)
    | (go_at_call 83;refine (HJ.out _ (HX3.out.trans (by repeat (first|exact Ex.refl _|refine Ex.alloc ?_ _|refine Ex.ext ?_ _ _|refine Ex.drew ?_|refine Ex.drewN ?_ _)))).mono ?_;rintro e w4 ⟨rfl,hx4⟩;have HX4:=Lib.hid (HX3.out.trans hx4);clear hx4))
   have hS:(N++58::J).length≤3000:=by simp only [List.length_append,List.length_cons];omega
   have HXW:=Lib.hid (HX.out.trans HX4.out)
   clear hsx HI HJ HX3 HX HX4
   generalize N++58::J=S at *
   go_loopw [10,35] (fun s i wx=>∃ k:Nat,k≤asks.length∧i=.int .i64 (k:Int)∧s=.string ⟨(S++(asks.take k).flatMap fun a=>32::hexL a.frame.data.toList).toArray⟩∧Ex w wx) (fun _ i _=>asks.length - (intOf i).toNat)
   case atStart=>exact ⟨0,Nat.zero_le _,rfl,by rw [List.take_zero,List.flatMap_nil,List.append_nil],HXW.out.trans (by repeat (first|exact Ex.refl _|refine Ex.alloc ?_ _|refine Ex.ext ?_ _ _|refine Ex.drew ?_|refine Ex.drewN ?_ _))⟩
   case round =>
    obtain ⟨k,hk,rfl,rfl,hx⟩:=hrel
    clear HXW
    by_cases hlt:k<asks.length
    ·obtain ⟨b3,o3,rfl,hb3,hc3⟩:=(HA.out.ex hx) (by omega)
     have hzk:=hc3 k hlt
     have a0:=hzk 0 (by omega)
     have a1:=hzk 1 (by omega)
     have a2:=hzk 2 (by omega)
     have a3:=hzk 3 (by omega)
     have a4:=hzk 4 (by omega)
     have a5:=hzk 5 (by omega)
     have a6:=hzk 6 (by omega)
     have a7:=hzk 7 (by omega)
     simp only [Ask.cells,List.getElem?_cons_zero,List.getElem?_cons_succ,Nat.add_zero] at a0 a1 a2 a3 a4 a5 a6 a7
     have hfl:∀ l:List Ask,(l.flatMap fun a=>32::hexL a.frame.data.toList).length≤61*l.length:=by
      intro l
      induction l with
      | nil=>simp
      | cons a l ih =>
       rw [List.flatMap_cons,List.length_append,List.length_cons,List.length_cons,hexL_len]
       have:=fr_len a
       omega
     have hfk:=hfl (asks.take k)
     rw [List.length_take] at hfk
     have hSk:(S++(asks.take k).flatMap fun a=>32::hexL a.frame.data.toList).length≤10000:=by rw [List.length_append];omega
     have HST:Hid (S++((asks.take (k+1)).flatMap fun a=>32::hexL a.frame.data.toList)=(S++(asks.take k).flatMap fun a=>32::hexL a.frame.data.toList)++32::hexL asks[k].frame.data.toList):=Lib.hid (by
      rw [List.take_succ_eq_append_getElem hlt,List.flatMap_append,← List.append_assoc]
      simp)
     have hH:(hexL asks[k].frame.data.toList).length≤60:=by
      rw [hexL_len]
      have:=fr_len asks[k]
      omega
     have HEN:=Lib.hid (fun W' (hx:Ex w W')=>encode_ok asks[k] E W' (HE.out.ex hx) (HAE.out _ (List.getElem_mem hlt)))
     have HHX:Hid (∀ W',Calls Tryz.prog 85 #[.string asks[k].frame] W' fun e w'=>e=.returned (.string ⟨(hexL asks[k].frame.data.toList).toArray⟩)∧Ex W' w'):=Lib.hid (fun W'=>by
      have h:=vhex_any asks[k].frame.data.toList W' (by rw [fr_len];decide)
      rwa [show (⟨asks[k].frame.data.toList.toArray⟩:ByteArray)=asks[k].frame by simp] at h)
     have HX:=Lib.hid hx
     clear hx hc3 hzk hfl hfk
     generalize (S++(asks.take k).flatMap fun a=>32::hexL a.frame.data.toList)=T at *
     generalize asks[k].frame=fr at *
     generalize hexL fr.data.toList=H at *
     generalize asks[k]=a at *
     obtain ⟨ak,ac,aS,ai,ad,ap,aq,aid⟩:=a
     simp only at a0 a1 a2 a3 a4 a5 a6 a7
     have h1:(⟨T.toArray⟩:ByteArray)++((⟨#[32]⟩:ByteArray)++⟨H.toArray⟩)=⟨(T++32::H).toArray⟩:=by
      rw [show (⟨#[32]⟩:ByteArray)=⟨[(32:UInt8)].toArray⟩ from rfl,bytes_add,bytes_add]
      rfl
     go_wp2_with (first
      | (go_at_call 84;refine (HEN.out _ (HX.out.trans (by repeat (first|exact Ex.refl _|refine Ex.alloc ?_ _|refine Ex.ext ?_ _ _|refine Ex.drew ?_|refine Ex.drewN ?_ _)))).mono ?_;rintro e w5 ⟨rfl,hx5⟩;have HX5:=Lib.hid hx5;clear hx5)
      | (go_at_call 85;refine (HHX.out _).mono ?_;rintro e w6 ⟨rfl,hx6⟩;have HX6:=Lib.hid (HX5.out.trans hx6);clear hx6))
     go_roundw
     case measure=>simp [intOf];omega
     case rel=>exact ⟨k+1,by omega,by go_num,by rw [HST.out],HX.out.trans ((show Ex wr (wr.alloc _) from (by repeat (first|exact Ex.refl _|refine Ex.alloc ?_ _|refine Ex.ext ?_ _ _|refine Ex.drew ?_|refine Ex.drewN ?_ _))).trans (HX6.out.trans (by repeat (first|exact Ex.refl _|refine Ex.alloc ?_ _|refine Ex.ext ?_ _ _|refine Ex.drew ?_|refine Ex.drewN ?_ _))))⟩
    ·obtain rfl:k=asks.length:=by omega
     rw [List.take_length]
     have HX:=Lib.hid hx
     clear hx
     rw [← HR.out]
     go_wp2_with fail
     all_goals go_ret
     all_goals exact ⟨rfl,HX.out.trans (by repeat (first|exact Ex.refl _|refine Ex.alloc ?_ _|refine Ex.ext ?_ _ _|refine Ex.drew ?_|refine Ex.drewN ?_ _))⟩
end Go.Proofs.YtabbgpjofkaomaaGreatDoor

/- What a batch leaves, as the law BatchFair asks for it. -/
namespace Go.Proofs.YtabbgpjofkaomaaGreatDoor
open Go.RowKit
theorem net_sum (g:Int→Int):∀ l:List Lot,(∀ x∈l,x.ok=true)→netZ g 0 l+netZ g 1 l+netZ g 2 l+netZ g 3 l+netZ g 4 l+netZ g 5 l=sumG (fun x=>g x.id) 0 l - sumG (fun x=>g x.id) 1 l
 | [],_=>rfl
 | x::l,h=>by
  have ih:=net_sum g l fun y hy=>h y (by simp [hy])
  obtain ⟨_,ho,hs,_⟩:=Lot.ok_iff.1 (h x (by simp))
  have e:∀ c,netZ g c (x::l)=netF g c x+netZ g c l:=fun c=>rfl
  have f:∀ s,sumG (fun x=>g x.id) s (x::l)=(if x.side=s then g x.id else 0)+sumG (fun x=>g x.id) s l:=fun s=>rfl
  have d:netF g 0 x+netF g 1 x+netF g 2 x+netF g 3 x+netF g 4 x+netF g 5 x=(if x.side=0 then g x.id else 0) - (if x.side=1 then g x.id else 0):=by
   have h1:x.owner=0∨x.owner=1∨x.owner=2∨x.owner=3∨x.owner=4∨x.owner=5:=by omega
   have h2:x.side=0∨x.side=1:=by omega
   unfold netF
   rcases h1 with e1|e1|e1|e1|e1|e1<;>rcases h2 with e2|e2<;>rw [e1,e2]<;>simp
  rw [e,e,e,e,e,e,f,f]
  omega
theorem run_fair {st:FSt} {k:Nat} {wd hl:Int} (h:FOk st) (hk:k<3) (seed:Int):∃ v,Fair (st.b k) (runR st k wd hl seed).price v (runR st k wd hl seed).fills:=by
 obtain ⟨b0,b1,b2⟩:=best_facts (h.book k hk).lots (st.ref k)
 by_cases ho:(nextN st k wd hl).2.2=true∧(bestC (st.b k) (st.ref k) 1000).vol≠0
 ·have hF:(runR st k wd hl seed).fills=fillsL (st.b k) (bestC (st.b k) (st.ref k) 1000).price (bestC (st.b k) (st.ref k) 1000).vol seed:=if_pos ho
  obtain ⟨c1,c2⟩:=b1 (by omega)
  rw [hF]
  exact ⟨_,fills_fair (seed:=seed) (h.book k hk).lots b0 (Int.le_of_eq c2)⟩
 ·have hF:(runR st k wd hl seed).fills=[]:=if_neg ho
  rw [hF]
  refine ⟨0,⟨fun f hf=>(by cases hf),fun x hx=>?_,fun x hx _=>rfl,fun x hx y hy _ _ h0=>?_,sumG_zero 0 _,sumG_zero 1 _⟩⟩
  ·have:=(Lot.ok_iff.1 ((h.book k hk).ok x hx)).2.2.2.2
   show 0≤(0:Int)∧(0:Int)≤x.qty
   omega
  ·exact absurd h0 (by show ¬ (0:Int)<0;omega)
structure FairR (k:Nat) (price:Int) (st st':FSt) (F:List Fil):Prop where
 qty:∀ f∈F,1≤f.qty∧f.qty≤1000
 pr:0<F.length→1≤price∧price≤1000
 bd:∀ x∈st.b k,0≤gotF F x.id∧gotF F x.id≤x.qty
 rest:∀ x∈st.b k,(getR (st'.b k) x.id).1.qty+gotF F x.id=x.qty∧(getR (st'.b k) x.id).2=decide (gotF F x.id<x.qty)
 buy:∀ x∈st.b k,0<gotF F x.id→x.side=0→price≤x.price
 sell:∀ x∈st.b k,0<gotF F x.id→x.side=1→x.price≤price
 total:∀ j,j=0∨j=2∨j=3∨j=4→sumP st'.p j=sumP st.p j
 cash:∀ c:Nat,c<6→st'.p c 0=st.p c 0 - price*netZ (gotF F) c (st.b k)
 stock:∀ c:Nat,c<6→st'.p c (2+k)=st.p c (2+k)+netZ (gotF F) c (st.b k)
theorem run_fairR {st:FSt} {k:Nat} {wd hl:Int} (h:FOk st) (hp:PInv st.p) (hk:k<3) (h2:1≤hl∧hl≤1000) (seed:Int):FairR k (runR st k wd hl seed).price st (runS st k wd hl seed) (runR st k wd hl seed).fills:=by
 obtain ⟨f1,f2,f3⟩:=run_facts (wd:=wd) h hp hk h2 seed
 obtain ⟨v,hF⟩:=run_fair (wd:=wd) (hl:=hl) h hk seed
 have hpr:0<(runR st k wd hl seed).fills.length→1≤(runR st k wd hl seed).price∧(runR st k wd hl seed).price≤1000:=fun h0=>by
  obtain ⟨b0,b1,b2⟩:=best_facts (h.book k hk).lots (st.ref k)
  by_cases ho:(nextN st k wd hl).2.2=true∧(bestC (st.b k) (st.ref k) 1000).vol≠0
  ·exact (b1 (by omega)).1
  ·have hF:(runR st k wd hl seed).fills=[]:=if_neg ho
   rw [hF] at h0
   exact absurd h0 (by simp)
 generalize (runR st k wd hl seed).price=price at *
 generalize (runR st k wd hl seed).fills=F at *
 generalize runS st k wd hl seed=st' at *
 have hb:=h.book k hk
 have hb':=f1.book k hk
 have hnet:=net_sum (gotF F) (st.b k) hb.ok
 rw [hF.sum0,hF.sum1] at hnet
 have s0:(st.setN k (nextN st k wd hl).1 (nextN st k wd hl).2.1).b k=st.b k:=rfl
 have hcash:∀ c:Nat,c<6→st'.p c 0=st.p c 0 - price*netZ (gotF F) c (st.b k):=fun c hc=>f3.cash c hc
 have hstock:∀ c:Nat,c<6→∀ j,j<3→st'.p c (2+j)=st.p c (2+j)+if j=k then netZ (gotF F) c (st.b k) else 0:=fun c hc j hj=>f3.stock c hc j hj
 refine ⟨hF.qty,hpr,hF.bd,fun x hx=>?_,fun x hx h0 hs=>?_,fun x hx h0 hs=>?_,fun j hj=>?_,hcash,fun c hc=>?_⟩
 ·by_cases hlt:gotF F x.id<x.qty
  ·have hm:x.less (gotF F x.id)∈st'.b k:=(f3.mem _).2 ⟨x,hx,hlt,rfl⟩
   have hg:=getR_mem hb'.apart hm
   rw [show (x.less (gotF F x.id)).id=x.id from rfl] at hg
   rw [hg]
   exact ⟨by show x.qty - gotF F x.id+gotF F x.id=x.qty;omega,by simp [hlt]⟩
  ·have hbd:=hF.bd x hx
   rcases getR_cases (st'.b k) x.id with ⟨z,hz,hid,_⟩|⟨_,hg⟩
   ·obtain ⟨y,hy,hy2,rfl⟩:=(f3.mem z).1 hz
    have e:y=x:=hb.apart.eq hy hx hid
    subst e
    exact absurd hy2 hlt
   ·rw [hg]
    exact ⟨by show 0+gotF F x.id=x.qty;omega,by simp [hlt]⟩
 ·by_cases hm:mayT x.side price x=false
  ·have:=hF.worse x hx hm;omega
  ·rw [hs] at hm
   unfold mayT at hm
   simp [hs] at hm
   omega
 ·by_cases hm:mayT x.side price x=false
  ·have:=hF.worse x hx hm;omega
  ·rw [hs] at hm
   unfold mayT at hm
   simp [hs] at hm
   omega
 ·have n0:price*netZ (gotF F) 0 (st.b k)+price*netZ (gotF F) 1 (st.b k)+price*netZ (gotF F) 2 (st.b k)+price*netZ (gotF F) 3 (st.b k)+price*netZ (gotF F) 4 (st.b k)+price*netZ (gotF F) 5 (st.b k)=0:=by
   rw [← Int.mul_add,← Int.mul_add,← Int.mul_add,← Int.mul_add,← Int.mul_add,hnet]
   simp
  have hst:∀ j,j<3→sumP st'.p (2+j)=sumP st.p (2+j):=fun j hj=>by
   have t0:st'.p 0 (2+j)=st.p 0 (2+j)+if j=k then netZ (gotF F) 0 (st.b k) else 0:=hstock 0 (by omega) j hj
   have t1:st'.p 1 (2+j)=st.p 1 (2+j)+if j=k then netZ (gotF F) 1 (st.b k) else 0:=hstock 1 (by omega) j hj
   have t2:st'.p 2 (2+j)=st.p 2 (2+j)+if j=k then netZ (gotF F) 2 (st.b k) else 0:=hstock 2 (by omega) j hj
   have t3:st'.p 3 (2+j)=st.p 3 (2+j)+if j=k then netZ (gotF F) 3 (st.b k) else 0:=hstock 3 (by omega) j hj
   have t4:st'.p 4 (2+j)=st.p 4 (2+j)+if j=k then netZ (gotF F) 4 (st.b k) else 0:=hstock 4 (by omega) j hj
   have t5:st'.p 5 (2+j)=st.p 5 (2+j)+if j=k then netZ (gotF F) 5 (st.b k) else 0:=hstock 5 (by omega) j hj
   unfold sumP
   by_cases e:j=k
   ·simp only [if_pos e] at t0 t1 t2 t3 t4 t5
    omega
   ·simp only [if_neg e] at t0 t1 t2 t3 t4 t5
    omega
  rcases hj with rfl|rfl|rfl|rfl
  ·have q0:st'.p 0 0=st.p 0 0 - price*netZ (gotF F) 0 (st.b k):=hcash 0 (by omega)
   have q1:st'.p 1 0=st.p 1 0 - price*netZ (gotF F) 1 (st.b k):=hcash 1 (by omega)
   have q2:st'.p 2 0=st.p 2 0 - price*netZ (gotF F) 2 (st.b k):=hcash 2 (by omega)
   have q3:st'.p 3 0=st.p 3 0 - price*netZ (gotF F) 3 (st.b k):=hcash 3 (by omega)
   have q4:st'.p 4 0=st.p 4 0 - price*netZ (gotF F) 4 (st.b k):=hcash 4 (by omega)
   have q5:st'.p 5 0=st.p 5 0 - price*netZ (gotF F) 5 (st.b k):=hcash 5 (by omega)
   unfold sumP
   omega
  ·exact hst 0 (by omega)
  ·exact hst 1 (by omega)
  ·exact hst 2 (by omega)
 ·have:=hstock c hc k hk
  rw [if_pos rfl] at this
  exact this
end Go.Proofs.YtabbgpjofkaomaaGreatDoor
