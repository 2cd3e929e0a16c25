import Derived.Test.YtabbgpjofkaomaaGreatDoorJ31
import Derived.Test.YtabbgpjofkaomaaGreatDoorDrain
import Derived.Test.YtabbgpjofkaomaaGreatDoorJ0
import Derived.Deep.AppendLies
import Derived.Test.YtabbgpjofkaomaaGreatDoorJ24
import Derived.Test.YtabbgpjofkaomaaGreatDoorJ25
import Derived.Deep.RegionHeld3
set_option linter.unusedSimpArgs false
set_option linter.unusedVariables false
/- What last of package venue computes: of those with one ID of an item the last one. -/
namespace Go.Proofs.YtabbgpjofkaomaaGreatDoor
open Go.RowKit
def sameAsk (a b:Ask):Bool:=a.item==b.item && a.id==b.id
theorem lastL_cons (a:Ask) (l:List Ask):lastL (a::l)=if l.any (sameAsk a) then lastL l else a::lastL l:=rfl
def lastTo:List Ask→Nat→List Ask
 | [],_=>[]
 | _::_,0=>[]
 | a::l,k+1=>(if l.any (sameAsk a) then [] else [a])++lastTo l k
theorem lastTo_zero (l:List Ask):lastTo l 0=[]:=by cases l<;>rfl
theorem lastTo_all:∀ l:List Ask,lastTo l l.length=lastL l
 | []=>rfl
 | a::l=>by
  rw [List.length_cons,lastL_cons]
  show (if l.any (sameAsk a) then [] else [a])++lastTo l l.length=_
  rw [lastTo_all l]
  split<;>rfl
theorem lastTo_step:∀ (l:List Ask) (k:Nat) (hk:k<l.length),lastTo l (k+1)=lastTo l k++(if (l.drop (k+1)).any (sameAsk l[k]) then [] else [l[k]])
 | [],_,hk=>absurd hk (Nat.not_lt_zero _)
 | a::l,0,_=>by
  show (if l.any (sameAsk a) then [] else [a])++lastTo l 0=[]++(if l.any (sameAsk a) then [] else [a])
  rw [lastTo_zero,List.append_nil,List.nil_append]
 | a::l,k+1,hk=>by
  have hk':k<l.length:=by simpa using hk
  show (if l.any (sameAsk a) then [] else [a])++lastTo l (k+1)=((if l.any (sameAsk a) then [] else [a])++lastTo l k)++(if (l.drop (k+1)).any (sameAsk l[k]) then [] else [l[k]])
  rw [lastTo_step l k hk',List.append_assoc]
theorem lastTo_len:∀ (l:List Ask) (k:Nat),(lastTo l k).length≤k
 | [],k=>by simp [lastTo]
 | _::_,0=>by simp [lastTo]
 | a::l,k+1=>by
  have:=lastTo_len l k
  show ((if l.any (sameAsk a) then [] else [a])++lastTo l k).length≤k+1
  rw [List.length_append]
  split<;>simp<;>omega
def AskSl (w:World) (ao:Option Addr) (l:List Ask):Prop:=0<l.length→∃ b off,ao=some ⟨b,off,none⟩∧b<w.heap.size∧∀ k (h:k<l.length) j,j<8→w.cell? ⟨b,off+k*8+j,none⟩=l[k].cells[j]?
theorem AskSl.ex {w w':World} {ao:Option Addr} {l:List Ask} (h:AskSl w ao l) (hx:Ex w w'):AskSl w' ao l:=fun h0=>by
 obtain ⟨b,off,e,hb,hc⟩:=h h0
 exact ⟨b,off,e,Nat.lt_of_lt_of_le hb hx.below.size,fun k hk j hj=>(hx.below.cell (p:=⟨b,off+k*8+j,none⟩) hb).trans (hc k hk j hj)⟩
theorem AskSl.of_row {w:World} {ao:Option Addr} {cap:Nat} {l:List Ask} (h:RowAt w 45 8 (.slice ao l.length cap) l.length (flat Ask.cells l)):AskSl w ao l:=fun h0=>by
 cases ao with
 | none =>
  obtain ⟨_,⟨_,h2⟩|⟨g,off,cap',cur,h2,_⟩⟩:=h
  ·omega
  ·cases h2
 | some a =>
  obtain ⟨hl,⟨h2,_⟩|⟨g,off,cap',cur,h2,hr⟩⟩:=h
  ·cases h2
  ·cases h2
   have h':RowAt w 45 8 (.slice (some ⟨g,off,none⟩) l.length cap) l.length (flat Ask.cells l):=⟨hl,.inr ⟨g,off,cap,cur,rfl,hr⟩⟩
   refine ⟨g,off,rfl,h'.lt g rfl,fun k hk j hj=>?_⟩
   rw [Nat.add_assoc,h'.cell (j:=k*8+j) (by omega),flat_get (N:=8) (fun _=>rfl) l k hk j hj]
theorem AskSl.tail {w:World} {b off:Nat} {l:List Ask} (h:AskSl w (some ⟨b,off,none⟩) l) (k:Nat):AskSl w (some ⟨b,off+k*8,none⟩) (l.drop k):=fun h0=>by
 rw [List.length_drop] at h0
 obtain ⟨b',off',e,hb,hc⟩:=h (by omega)
 cases e
 refine ⟨b,off+k*8,rfl,hb,fun j hj i hi=>?_⟩
 rw [List.getElem_drop,← hc (k+j) (by rw [List.length_drop] at hj;omega) i hi]
 congr 2
 omega
theorem AskSl.nil (w:World) (ao:Option Addr):AskSl w ao []:=fun h=>absurd h (Nat.lt_irrefl 0)
set_option maxRecDepth 100000 in
theorem sameAsk_any (a y:Ask) (xb:Nat) (w:World) (h3:w.cell? ⟨xb,3,none⟩=some (.int .i64 a.item)) (h7:w.cell? ⟨xb,7,none⟩=some (.int .i64 a.id)) :
  Calls Tryz.prog 122 #[y.val,.pointer (some ⟨xb,0,none⟩)] w fun e w'=>e=.returned (.bool (sameAsk a y))∧Ex w w':=by
 have hb:=lt_of_cell h3
 obtain ⟨yk,yc,ys,yi,yd,yp,yq,yid⟩:=y
 unfold sameAsk
 by_cases h1:a.item=yi
 ·by_cases h2:a.id=yid
  ·go_enter Tryz.func122,Tryz.ntmps122
   go_wp2
   all_goals go_ret
   all_goals exact ⟨ret_bool (by simp [*]),(by repeat (first|exact Ex.refl _|refine Ex.alloc ?_ _|refine Ex.ext ?_ _ _|refine Ex.drew ?_|refine Ex.drewN ?_ _))⟩
  ·go_enter Tryz.func122,Tryz.ntmps122
   go_wp2
   all_goals go_ret
   all_goals exact ⟨ret_bool (by simp [*]),(by repeat (first|exact Ex.refl _|refine Ex.alloc ?_ _|refine Ex.ext ?_ _ _|refine Ex.drew ?_|refine Ex.drewN ?_ _))⟩
 ·go_enter Tryz.func122,Tryz.ntmps122
  go_wp2
  all_goals go_ret
  all_goals exact ⟨ret_bool (by simp [*]),(by repeat (first|exact Ex.refl _|refine Ex.alloc ?_ _|refine Ex.ext ?_ _ _|refine Ex.drew ?_|refine Ex.drewN ?_ _))⟩
def askIdx (a:Ask) (l:List Ask):Int:=match l.findIdx? (sameAsk a) with|some k=>(k:Int)|none=>-1
theorem askIdx_some {l:List Ask} {a:Ask} {k:Nat} (hk:k<l.length) (h:sameAsk a l[k]=true) (hn:∀ j (hj:j<l.length),j<k→sameAsk a l[j]=false):askIdx a l=k:=by
 have:l.findIdx? (sameAsk a)=some k:=by
  rw [List.findIdx?_eq_some_iff_getElem]
  exact ⟨hk,h,fun j hj=>by simpa using hn j (by omega) hj⟩
 simp [askIdx,this]
theorem askIdx_none {l:List Ask} {a:Ask} (hn:∀ j (hj:j<l.length),sameAsk a l[j]=false):askIdx a l=-1:=by
 have:l.findIdx? (sameAsk a)=none:=by
  rw [List.findIdx?_eq_none_iff]
  intro y hy
  obtain ⟨j,hj,rfl⟩:=List.getElem_of_mem hy
  exact hn j hj
 simp [askIdx,this]
theorem askIdx_any (a:Ask) (l:List Ask):decide (askIdx a l ≥ 0)=l.any (sameAsk a):=by
 unfold askIdx
 cases h:l.findIdx? (sameAsk a) with
 | none =>
  rw [List.findIdx?_eq_none_iff] at h
  have:l.any (sameAsk a)=false:=by
   rw [List.any_eq_false]
   intro y hy
   simpa using h y hy
  rw [this];rfl
 | some k =>
  rw [List.findIdx?_eq_some_iff_getElem] at h
  obtain ⟨hk,hp,_⟩:=h
  have:l.any (sameAsk a)=true:=List.any_eq_true.2 ⟨_,List.getElem_mem hk,hp⟩
  rw [this];simp
set_option maxRecDepth 100000 in
set_option maxHeartbeats 2000000 in
theorem askIndex_any (ao:Option Addr) (cap:Nat) (l:List Ask) (a:Ask) (xb:Nat) (w:World) (hlen:l.length≤1000000) (hl:AskSl w ao l) (h3:w.cell? ⟨xb,3,none⟩=some (.int .i64 a.item)) (h7:w.cell? ⟨xb,7,none⟩=some (.int .i64 a.id)) :
  Calls Tryz.prog 151 #[.slice ao l.length cap,.func (.func 122) #[] #[.pointer (some ⟨xb,0,none⟩)]] w fun e w' =>
   e=.returned (.int .i64 (askIdx a l))∧Ex w w':=by
 have hb:=lt_of_cell h3
 have HZ:=Lib.hid hl
 clear hl
 go_enter Tryz.func151,Tryz.ntmps151
 go_wp2
 go_loopw [8] (fun i wr=>∃ (k:Nat),k≤l.length∧i=.int .i64 k∧(∀ j (hj:j<l.length),j<k→sameAsk a l[j]=false)∧Ex w wr) (fun i _=>l.length - (intOf i).toNat)
 case atStart=>exact ⟨0,Nat.zero_le _,rfl,(fun j hj h=>absurd h (Nat.not_lt_zero _)),(by repeat (first|exact Ex.refl _|refine Ex.alloc ?_ _|refine Ex.ext ?_ _ _|refine Ex.drew ?_|refine Ex.drewN ?_ _))⟩
 case round =>
  obtain ⟨k,hk,rfl,hn,l1,d1,rfl⟩:=hrel
  have HN:=Lib.hid hn
  clear hn
  by_cases hlt:k<l.length
  ·obtain ⟨b,off,rfl,hbs,hz⟩:=HZ.out (by omega)
   have hzk:=hz k hlt
   clear hz
   obtain ⟨y,hy⟩:∃ y,y=l[k]:=⟨_,rfl⟩
   rw [← hy] at hzk
   have HA:=Lib.hid hy
   clear hy
   have a0:=hzk 0 (by omega)
   have a1:=hzk 1 (by omega)
   have a2:=hzk 2 (by omega)
   have a3:=hzk 3 (by omega)
   have a4:=hzk 4 (by omega)
   have a5:=hzk 5 (by omega)
   have a6:=hzk 6 (by omega)
   have a7:=hzk 7 (by omega)
   simp only [Ask.cells,List.getElem?_cons_zero,List.getElem?_cons_succ,Nat.add_zero] at a0 a1 a2 a3 a4 a5 a6 a7
   clear hzk
   have HS:=Lib.hid (fun W h3 h7=>sameAsk_any a y xb W h3 h7)
   cases hs:sameAsk a y with
   | true =>
    rw [hs] at HS
    have HI:=Lib.hid (askIdx_some hlt (by rw [← HA.out];exact hs) HN.out)
    clear hs HN
    go_wp2_with (go_at_call 122;refine (HS.out _ (by simp [go_sem,↓IntWalk.iteOmega, *]) (by simp [go_sem,↓IntWalk.iteOmega, *])).mono ?_;rintro e w1 ⟨rfl,l3,d3,rfl⟩)
    all_goals go_ret
    all_goals exact ⟨ret_int HI.out.symm,(by repeat (first|exact Ex.refl _|refine Ex.alloc ?_ _|refine Ex.ext ?_ _ _|refine Ex.drew ?_|refine Ex.drewN ?_ _))⟩
   | false =>
    rw [hs] at HS
    have HN2:Hid (∀ j (hj:j<l.length),j<k+1→sameAsk a l[j]=false):=Lib.hid (fun j hj h=>by
     by_cases e:j=k
     ·subst e;rw [← HA.out];exact hs
     ·exact HN.out j hj (by omega))
    clear hs HN
    go_wp2_with (go_at_call 122;refine (HS.out _ (by simp [go_sem,↓IntWalk.iteOmega, *]) (by simp [go_sem,↓IntWalk.iteOmega, *])).mono ?_;rintro e w1 ⟨rfl,l3,d3,rfl⟩)
    all_goals
     go_roundw
     case measure=>simp [intOf];omega
     case rel=>exact ⟨k+1,by omega,by go_num,HN2.out,(by repeat (first|exact Ex.refl _|refine Ex.alloc ?_ _|refine Ex.ext ?_ _ _|refine Ex.drew ?_|refine Ex.drewN ?_ _))⟩
  ·have HI:=Lib.hid (askIdx_none (a:=a) (fun j hj=>HN.out j hj (by omega)))
   clear HN
   go_wp2
   all_goals go_ret
   all_goals exact ⟨ret_int HI.out.symm,(by repeat (first|exact Ex.refl _|refine Ex.alloc ?_ _|refine Ex.ext ?_ _ _|refine Ex.drew ?_|refine Ex.drewN ?_ _))⟩
set_option maxRecDepth 100000 in
theorem askContains_any (ao:Option Addr) (cap:Nat) (l:List Ask) (a:Ask) (xb:Nat) (w:World) (hlen:l.length≤1000000) (hl:AskSl w ao l) (h3:w.cell? ⟨xb,3,none⟩=some (.int .i64 a.item)) (h7:w.cell? ⟨xb,7,none⟩=some (.int .i64 a.id)) :
  Calls Tryz.prog 121 #[.slice ao l.length cap,.func (.func 122) #[] #[.pointer (some ⟨xb,0,none⟩)]] w fun e w' =>
   e=.returned (.bool (l.any (sameAsk a)))∧Ex w w':=by
 have H:=Lib.hid (askIndex_any ao cap l a xb w hlen hl h3 h7)
 have hi:=askIdx_any a l
 clear hl h3 h7
 go_enter Tryz.func121,Tryz.ntmps121
 go_wp2_with (go_at_call 151;refine H.out.mono ?_;rintro e w1 ⟨rfl,l1,d1,rfl⟩)
 all_goals go_ret
 all_goals exact ⟨ret_bool (by first|rfl|exact hi),(by repeat (first|exact Ex.refl _|refine Ex.alloc ?_ _|refine Ex.ext ?_ _ _|refine Ex.drew ?_|refine Ex.drewN ?_ _))⟩
theorem blk_cellW {w:World} {b:Nat} {vs:Array Value} {t:TypeId} (h:Blk w b vs t) (j:Nat):w.cell? ⟨b,j,none⟩=vs[j]?:=by simp [World.cell?,show w.heap[b]?=_ from h]
theorem infoAskW:(Tryz.prog.info? 45).map (fun i=>(i.zero,i.size,i.bytes))=some (some (.agg #[.int .u8 0,.int .i64 0,.int .i64 0,.int .i64 0,.int .i64 0,.int .i64 0,.int .i64 0,.int .i64 0]),8,64):=by kernel_rfl
set_option maxRecDepth 100000 in
set_option maxHeartbeats 4000000 in
theorem vlast_any (ao:Option Addr) (cap:Nat) (l:List Ask) (w:World) (hlen:l.length≤1000) (hr:RowAt w 45 8 (.slice ao l.length cap) l.length (flat Ask.cells l)) :
  Calls Tryz.prog 89 #[.slice ao l.length cap] w fun e w'=>∃ u,e=.returned u∧GRow 45 8 Ask.cells w.heap.size (lastL l) u w'∧Ex w w':=by
 obtain ⟨i0,hi0,hz0,hz1,hz2⟩:=info_parts infoAskW
 have HSL:=Lib.hid (AskSl.of_row hr)
 have hcap:l.length≤cap:=by
  obtain ⟨_,⟨h2,h3⟩|⟨g,off,cap',cur,h2,_,hc,_⟩⟩:=hr
  ·omega
  ·cases h2;exact hc
 clear hr
 go_enter Tryz.func89,Tryz.ntmps89
 go_wp2_with fail
 go_loopw [3,8] (fun v i wr=>∃ (k:Nat) (u:Value),u=v∧k≤l.length∧i=.int .i64 (k:Int)∧GRow 45 8 Ask.cells w.heap.size (lastTo l k) u wr∧Ex w wr) (fun _ i _=>l.length - (intOf i).toNat)
 case atStart=>exact ⟨0,_,rfl,Nat.zero_le _,rfl,by rw [lastTo_zero];exact GRow.nil _,(by repeat (first|exact Ex.refl _|refine Ex.alloc ?_ _|refine Ex.ext ?_ _ _|refine Ex.drew ?_|refine Ex.drewN ?_ _))⟩
 case round =>
  obtain ⟨k,v,rfl,hk,rfl,hrow,hx⟩:=hrel
  by_cases hlt:k<l.length
  ·have hsl:=HSL.out.ex hx
   obtain ⟨b,off,rfl,hbs,hz⟩:=hsl (by omega)
   have hzk:=hz k hlt
   clear hz
   have HST:=Lib.hid (lastTo_step l k hlt)
   have HTL:=Lib.hid (hsl.tail (k+1))
   have hll:=lastTo_len l k
   have hdl:(l.drop (k+1)).length=l.length - (k+1):=List.length_drop
   obtain ⟨y,hy⟩:∃ y,y=l[k]:=⟨_,rfl⟩
   rw [← hy] at hzk HST
   have a0:=hzk 0 (by omega)
   have a1:=hzk 1 (by omega)
   have a2:=hzk 2 (by omega)
   have a3:=hzk 3 (by omega)
   have a4:=hzk 4 (by omega)
   have a5:=hzk 5 (by omega)
   have a6:=hzk 6 (by omega)
   have a7:=hzk 7 (by omega)
   simp only [Ask.cells,List.getElem?_cons_zero,List.getElem?_cons_succ,Nat.add_zero] at a0 a1 a2 a3 a4 a5 a6 a7
   obtain ⟨av,cv,rfl,hcv,hcm⟩:=hrow.slice
   have hwz:=hx.below.size
   have HROW:=Lib.hid hrow
   have HX:=Lib.hid hx
   have HCO:Hid (∀ ao n c W xb,n=(l.drop (k+1)).length→AskSl W ao (l.drop (k+1))→W.cell? ⟨xb,3,none⟩=some (.int .i64 y.item)→W.cell? ⟨xb,7,none⟩=some (.int .i64 y.id) →
     Calls Tryz.prog 121 #[.slice ao n c,.func (.func 122) #[] #[.pointer (some ⟨xb,0,none⟩)]] W fun e w'=>e=.returned (.bool ((l.drop (k+1)).any (sameAsk y)))∧Ex W w') :=
    Lib.hid (fun ao n c W xb hn h1 h3 h7=>by subst hn;exact askContains_any ao c (l.drop (k+1)) y xb W (by rw [hdl];omega) h1 h3 h7)
   have HNIL:Hid (∀ W ao,l.length=k+1→AskSl W ao (l.drop (k+1))):=Lib.hid (fun W ao h=>by rw [List.drop_of_length_le (by omega)];exact AskSl.nil W ao)
   clear hzk hsl hrow hx hy
   generalize lastTo l k=L at *
   generalize (l.drop (k+1)).any (sameAsk y)=B at *
   obtain ⟨yk,yc,ys,yi,yd,yp,yq,yid⟩:=y
   simp only at a0 a1 a2 a3 a4 a5 a6 a7
   have hk1:(k:Int)+1≤(l.length:Int):=by omega
   have hk2:(l.length:Int)≤(cap:Int):=by omega
   cases B with
   | true =>
    rw [if_pos rfl,List.append_nil] at HST
    by_cases hce:cap≤k+1
    ·go_wp2_with (go_at_call 121;((refine (HCO.out _ _ _ _ _ ?_ ?_ ?_ ?_).mono ?_);(focus omega);(focus exact HNIL.out _ _ (by omega));(focus (simp [go_sem,↓IntWalk.iteOmega, *];done));(focus (simp [go_sem,↓IntWalk.iteOmega, *];done));rintro e w5 ⟨rfl,l5,d5,rfl⟩))
     go_roundw
     case measure=>simp [intOf];omega
     case rel=>exact ⟨k+1,_,rfl,by omega,by go_num,by rw [HST.out];exact HROW.out.ex (by repeat (first|exact Ex.refl _|refine Ex.alloc ?_ _|refine Ex.ext ?_ _ _|refine Ex.drew ?_|refine Ex.drewN ?_ _)),HX.out.trans (by repeat (first|exact Ex.refl _|refine Ex.alloc ?_ _|refine Ex.ext ?_ _ _|refine Ex.drew ?_|refine Ex.drewN ?_ _))⟩
    ·go_wp2_with (go_at_call 121;((refine (HCO.out _ _ _ _ _ ?_ ?_ ?_ ?_).mono ?_);(focus omega);(focus exact HTL.out.ex (by repeat (first|exact Ex.refl _|refine Ex.alloc ?_ _|refine Ex.ext ?_ _ _|refine Ex.drew ?_|refine Ex.drewN ?_ _)));(focus (simp [go_sem,↓IntWalk.iteOmega, *];done));(focus (simp [go_sem,↓IntWalk.iteOmega, *];done));rintro e w5 ⟨rfl,l5,d5,rfl⟩))
     go_roundw
     case measure=>simp [intOf];omega
     case rel=>exact ⟨k+1,_,rfl,by omega,by go_num,by rw [HST.out];exact HROW.out.ex (by repeat (first|exact Ex.refl _|refine Ex.alloc ?_ _|refine Ex.ext ?_ _ _|refine Ex.drew ?_|refine Ex.drewN ?_ _)),HX.out.trans (by repeat (first|exact Ex.refl _|refine Ex.alloc ?_ _|refine Ex.ext ?_ _ _|refine Ex.drew ?_|refine Ex.drewN ?_ _))⟩
   | false =>
    rw [if_neg (by decide)] at HST
    by_cases hce:cap≤k+1
    ·go_upto_region 6 with (go_at_call 121;((refine (HCO.out _ _ _ _ _ ?_ ?_ ?_ ?_).mono ?_);(focus omega);(focus exact HNIL.out _ _ (by omega));(focus (simp [go_sem,↓IntWalk.iteOmega, *];done));(focus (simp [go_sem,↓IntWalk.iteOmega, *];done));rintro e w5 ⟨rfl,l5,d5,rfl⟩))
     rw [if_pos (show cap=k+1 by omega)]
     refine wp_world (R:=fun W'=>Ex wr W'∧Blk W' wr.heap.size #[.int .u8 yk,.int .i64 yc,.int .i64 ys,.int .i64 yi,.int .i64 yd,.int .i64 yp,.int .i64 yq,.int .i64 yid] 45) ⟨(by repeat (first|exact Ex.refl _|refine Ex.alloc ?_ _|refine Ex.ext ?_ _ _|refine Ex.drew ?_|refine Ex.drewN ?_ _)),(by repeat (first|exact Blk.new (by first|omega|(simp [go_sem];done)|(simp [go_sem];omega))|(with_reducible exact Blk.new rfl)|(with_reducible refine Blk.drew ?_)|(with_reducible refine Blk.drewN ?_ _)|(with_reducible refine Blk.ext ?_ _ _)|(with_reducible refine Blk.alloc ?_ _)))⟩ ?_
     clear a0 a1 a2 a3 a4 a5 a6 a7 hbs
     generalize wr.heap.size=xb at *
     rintro W6 ⟨hx6,hb6⟩
     have hgc:=blk_cellW hb6
     have g0:=hgc 0
     have g1:=hgc 1
     have g2:=hgc 2
     have g3:=hgc 3
     have g4:=hgc 4
     have g5:=hgc 5
     have g6:=hgc 6
     have g7:=hgc 7
     simp only [List.getElem?_toArray,List.getElem?_cons_zero,List.getElem?_cons_succ] at g0 g1 g2 g3 g4 g5 g6 g7
     have hxl:=lt_of_cell g0
     have HX6:=Lib.hid hx6
     clear hgc hb6 hx6
     have hw1:Ex W6 (W6.alloc (.cells #[.int .u8 yk,.int .i64 yc,.int .i64 ys,.int .i64 yi,.int .i64 yd,.int .i64 yp,.int .i64 yq,.int .i64 yid] 45)):=(by repeat (first|exact Ex.refl _|refine Ex.alloc ?_ _|refine Ex.ext ?_ _ _|refine Ex.drew ?_|refine Ex.drewN ?_ _))
     have hw2:=HX.out.below.size
     have hw3:=HX6.out.below.size
     go_wp2_with (at_builtin;refine wpList_append_two rfl (.tmp 20) (.tmp 22) 39 39 rfl 45 i0 _ 8 64 Tryz.underlying39 hi0 hz0 hz1 hz2 rfl (.slice av L.length cv) (.slice (some ⟨W6.heap.size,0,none⟩) 1 1) L.length 1 (flat Ask.cells L) (Ask.cells ⟨yk,yc,ys,yi,yd,yp,yq,yid⟩) rfl rfl ?_ ?_ ?_ ?_ ?_)
     focus exact ((HROW.out.ex HX6.out).ex hw1).1
     focus exact (Src.block Tryz.underlying39 1 1 (cs:=#[.int .u8 yk,.int .i64 yc,.int .i64 ys,.int .i64 yi,.int .i64 yd,.int .i64 yp,.int .i64 yq,.int .i64 yid]) (t:=45) (fr:=(0,0)) (heap_new (by simp [go_sem])) (by simp) (by simp [Value.oneCell']))
     focus (unfold maxLen;omega)
     focus omega
     intro v' w' hrow hgrow hown
     have H2:Hid (GRow 45 8 Ask.cells w.heap.size (L++[⟨yk,yc,ys,yi,yd,yp,yq,yid⟩]) v' w'∧Ex w w'):=Lib.hid ⟨((HROW.out.ex HX6.out).ex hw1).app hrow (by rw [List.length_append];rfl) (by rw [flat_append,flat_one]) hown (by first|omega|(simp [go_sem];done)|(simp [go_sem];omega)),((HROW.out.ex HX6.out).ex hw1).later ((HX.out.trans HX6.out).trans hw1) hgrow (Nat.le_refl _)⟩
     clear hrow hgrow hown
     go_wp2_with fail
     go_roundw
     case measure=>simp [intOf];omega
     case rel=>exact ⟨k+1,_,rfl,by omega,by go_num,by rw [HST.out];exact H2.out.1.ex (by repeat (first|exact Ex.refl _|refine Ex.alloc ?_ _|refine Ex.ext ?_ _ _|refine Ex.drew ?_|refine Ex.drewN ?_ _)),H2.out.2.trans (by repeat (first|exact Ex.refl _|refine Ex.alloc ?_ _|refine Ex.ext ?_ _ _|refine Ex.drew ?_|refine Ex.drewN ?_ _))⟩
    ·go_upto_region 6 with (go_at_call 121;((refine (HCO.out _ _ _ _ _ ?_ ?_ ?_ ?_).mono ?_);(focus omega);(focus exact HTL.out.ex (by repeat (first|exact Ex.refl _|refine Ex.alloc ?_ _|refine Ex.ext ?_ _ _|refine Ex.drew ?_|refine Ex.drewN ?_ _)));(focus (simp [go_sem,↓IntWalk.iteOmega, *];done));(focus (simp [go_sem,↓IntWalk.iteOmega, *];done));rintro e w5 ⟨rfl,l5,d5,rfl⟩))
     refine wp_world (R:=fun W'=>Ex wr W'∧Blk W' wr.heap.size #[.int .u8 yk,.int .i64 yc,.int .i64 ys,.int .i64 yi,.int .i64 yd,.int .i64 yp,.int .i64 yq,.int .i64 yid] 45) ⟨(by repeat (first|exact Ex.refl _|refine Ex.alloc ?_ _|refine Ex.ext ?_ _ _|refine Ex.drew ?_|refine Ex.drewN ?_ _)),(by repeat (first|exact Blk.new (by first|omega|(simp [go_sem];done)|(simp [go_sem];omega))|(with_reducible exact Blk.new rfl)|(with_reducible refine Blk.drew ?_)|(with_reducible refine Blk.drewN ?_ _)|(with_reducible refine Blk.ext ?_ _ _)|(with_reducible refine Blk.alloc ?_ _)))⟩ ?_
     clear a0 a1 a2 a3 a4 a5 a6 a7 hbs
     generalize wr.heap.size=xb at *
     rintro W6 ⟨hx6,hb6⟩
     have hgc:=blk_cellW hb6
     have g0:=hgc 0
     have g1:=hgc 1
     have g2:=hgc 2
     have g3:=hgc 3
     have g4:=hgc 4
     have g5:=hgc 5
     have g6:=hgc 6
     have g7:=hgc 7
     simp only [List.getElem?_toArray,List.getElem?_cons_zero,List.getElem?_cons_succ] at g0 g1 g2 g3 g4 g5 g6 g7
     have hxl:=lt_of_cell g0
     have HX6:=Lib.hid hx6
     clear hgc hb6 hx6
     have hw1:Ex W6 (W6.alloc (.cells #[.int .u8 yk,.int .i64 yc,.int .i64 ys,.int .i64 yi,.int .i64 yd,.int .i64 yp,.int .i64 yq,.int .i64 yid] 45)):=(by repeat (first|exact Ex.refl _|refine Ex.alloc ?_ _|refine Ex.ext ?_ _ _|refine Ex.drew ?_|refine Ex.drewN ?_ _))
     have hw2:=HX.out.below.size
     have hw3:=HX6.out.below.size
     go_wp2_with (at_builtin;refine wpList_append_two rfl (.tmp 20) (.tmp 22) 39 39 rfl 45 i0 _ 8 64 Tryz.underlying39 hi0 hz0 hz1 hz2 rfl (.slice av L.length cv) (.slice (some ⟨W6.heap.size,0,none⟩) 1 1) L.length 1 (flat Ask.cells L) (Ask.cells ⟨yk,yc,ys,yi,yd,yp,yq,yid⟩) rfl rfl ?_ ?_ ?_ ?_ ?_)
     focus exact ((HROW.out.ex HX6.out).ex hw1).1
     focus exact (Src.block Tryz.underlying39 1 1 (cs:=#[.int .u8 yk,.int .i64 yc,.int .i64 ys,.int .i64 yi,.int .i64 yd,.int .i64 yp,.int .i64 yq,.int .i64 yid]) (t:=45) (fr:=(0,0)) (heap_new (by simp [go_sem])) (by simp) (by simp [Value.oneCell']))
     focus (unfold maxLen;omega)
     focus omega
     intro v' w' hrow hgrow hown
     have H2:Hid (GRow 45 8 Ask.cells w.heap.size (L++[⟨yk,yc,ys,yi,yd,yp,yq,yid⟩]) v' w'∧Ex w w'):=Lib.hid ⟨((HROW.out.ex HX6.out).ex hw1).app hrow (by rw [List.length_append];rfl) (by rw [flat_append,flat_one]) hown (by first|omega|(simp [go_sem];done)|(simp [go_sem];omega)),((HROW.out.ex HX6.out).ex hw1).later ((HX.out.trans HX6.out).trans hw1) hgrow (Nat.le_refl _)⟩
     clear hrow hgrow hown
     go_wp2_with fail
     go_roundw
     case measure=>simp [intOf];omega
     case rel=>exact ⟨k+1,_,rfl,by omega,by go_num,by rw [HST.out];exact H2.out.1.ex (by repeat (first|exact Ex.refl _|refine Ex.alloc ?_ _|refine Ex.ext ?_ _ _|refine Ex.drew ?_|refine Ex.drewN ?_ _)),H2.out.2.trans (by repeat (first|exact Ex.refl _|refine Ex.alloc ?_ _|refine Ex.ext ?_ _ _|refine Ex.drew ?_|refine Ex.drewN ?_ _))⟩
  ·obtain rfl:k=l.length:=by omega
   rw [lastTo_all] at hrow
   have HROW:=Lib.hid hrow
   have HX:=Lib.hid hx
   clear hrow hx
   go_wp2_with fail
   all_goals go_ret
   all_goals exact ⟨_,rfl,HROW.out.ex (by repeat (first|exact Ex.refl _|refine Ex.alloc ?_ _|refine Ex.ext ?_ _ _|refine Ex.drew ?_|refine Ex.drewN ?_ _)),HX.out.trans (by repeat (first|exact Ex.refl _|refine Ex.alloc ?_ _|refine Ex.ext ?_ _ _|refine Ex.drew ?_|refine Ex.drewN ?_ _))⟩
end Go.Proofs.YtabbgpjofkaomaaGreatDoor

/- A floor, its fills, rows of lots as things that lie in blocks of their own. -/
namespace Go.Proofs.YtabbgpjofkaomaaGreatDoor
open Go.RowKit
def flTh (A:FlA) (st:FSt):Th where
 P F w:=(∀ n,F n→n<w.heap.size)∧∃ own,FlAt own 0 w A st∧∀ n,n<w.heap.size→own n / 8=0→F n
 lt h:=h.1
 same:=fun {F G w w'} h ho hn=>by
  obtain ⟨h1,own,h2,h3⟩:=h
  have hr:FlAt (fun n=>if n<w.heap.size∧own n / 8=0 then own n else 8) 0 w A st:=h2.relabel fun n hn e=>if_pos ⟨hn,e⟩
  refine ⟨fun n hf=>Nat.lt_of_lt_of_le (h1 n hf) ho.size,_,hr.kp (m:=8) (g:=1) ⟨ho.os,ho.tape,ho.output,ho.size,fun n hlt hne=>ho.block n hlt (hn n ?_)⟩ (fun j a b=>by omega) (fun n _ _=>rfl),fun n _ e=>?_⟩
  ·by_cases e:n<w.heap.size∧own n / 8=0
   ·exact h3 n e.1 e.2
   ·exact absurd (show (if n<w.heap.size∧own n / 8=0 then own n else 8) / 8=1 by rw [if_neg e]) hne
  ·by_cases e2:n<w.heap.size∧own n / 8=0
   ·exact h3 n e2.1 e2.2
   ·have e':(if n<w.heap.size∧own n / 8=0 then own n else 8) / 8=0:=e
    rw [if_neg e2] at e'
    omega
section
variable {F:Nat→Prop} {w w':World} {A:FlA} {st st':FSt} {E:Nat→Addr}
theorem flTh.of (own:Nat→Nat) (h:FlAt own 0 w A st):(flTh A st).P (fun n=>n<w.heap.size∧own n / 8=0) w:=⟨fun n hn=>hn.1,own,h,fun n hn e=>⟨hn,e⟩⟩
theorem flTh.leaves {own:Nat→Nat} (h0:∀ n,F n→n<w.heap.size) (hF:∀ n,n<w.heap.size→own n / 8=0→F n) (h:FlG own 0 w A st' w'):Leaves (flTh A st') F w w':=by
 obtain ⟨h1,o,h2,h3⟩:=h
 refine ⟨fun n=>(F n∧n<w.heap.size)∨(w.heap.size≤n∧n<w'.heap.size),⟨fun n hn=>?_,o,h3,fun n hn e=>?_⟩,Only.of_kp h1 hF,fun n hn=>?_⟩
 ·have:=h1.size
  rcases hn with h|h<;>omega
 ·by_cases hlt:n<w.heap.size
  ·rw [h2 n hlt] at e
   exact .inl ⟨hF n hlt e,hlt⟩
  ·exact .inr ⟨by omega,hn⟩
 ·rcases hn with h|h
  ·exact .inl h.1
  ·exact .inr h.1
def fillTh (ao:Option Addr) (F:List Fil):Th where
 P G w:=(∀ n,G n↔TF ao F n)∧FillAt w ao F
 lt h n hn:=by
  obtain ⟨h0,off,e⟩:=(h.1 n).1 hn
  obtain ⟨b,off',e',hb,_⟩:=h.2 h0
  rw [e] at e'
  cases e'
  exact hb
 same:=fun {G H w w'} h ho hn=>⟨h.1,fun h0=>by
  obtain ⟨b,off,e,hb,hc⟩:=h.2 h0
  have hq:=ho.block b hb (hn b ((h.1 b).2 ⟨h0,off,e⟩))
  exact ⟨b,off,e,Nat.lt_of_lt_of_le hb ho.size,fun k hk j hj=>(World.cell?_of_block hq).trans (hc k hk j hj)⟩⟩
theorem flTh.run {own:Nat→Nat} (h0:∀ n,F n→n<w.heap.size) (hF:∀ n,n<w.heap.size→own n / 8=0→F n) {p v:Int} {op:Bool} {L:List Fil} {e:Ending} (h:RunTo own 0 w A st st' p v op L e w') :
  ∃ ao cap,e=.returned (.tuple #[.agg #[.int .i64 p,.int .i64 v,.bool op,.slice ao L.length cap],.nilIface])∧L.length≤cap∧LeavesL [flTh A st',fillTh ao L] F w w':=by
 obtain ⟨ao,cap,he,hcap,hfl,hnew,h1,o,h2,h3,h4⟩:=h
 refine ⟨ao,cap,he,hcap,_,SepL.two (F:=fun n=>(F n∧n<w.heap.size)∨(w.heap.size≤n∧n<w'.heap.size∧o n / 8=0)) (G:=TF ao L) ⟨fun n hn=>?_,o,h3,fun n hn e=>?_⟩ ⟨fun n=>Iff.rfl,hfl⟩ (fun n hn hg=>?_),Only.of_kp h1 hF,fun n hn=>?_⟩
 ·have:=h1.size
  rcases hn with h|h<;>omega
 ·by_cases hlt:n<w.heap.size
  ·rw [h2 n hlt] at e
   exact .inl ⟨hF n hlt e,hlt⟩
  ·exact .inr ⟨by omega,hn,e⟩
 ·obtain ⟨g0,off,e⟩:=hg
  have q1:=hnew g0 n off e
  have q2:=h4 g0 n off e
  rcases hn with h|h
  ·omega
  ·exact q2 h.2.2
 ·rcases hn with (h|h)|⟨g0,off,e⟩
  ·exact .inl h.1
  ·exact .inr h.1
  ·exact .inr (hnew g0 n off e)
def lrowRd (l:List Lot) (v:Value):Rd v where
 R w:=RowAt w 131 5 v l.length (flat Lot.cells l)
 lt h g hg:=h.lt g hg
 same h hb:=h.of_block hb
theorem flTh.drop {own:Nat→Nat} (h0:∀ n,F n→n<w.heap.size) (hF:∀ n,n<w.heap.size→own n / 8=0→F n) {r:List Lot × FSt} {e:Ending} (h:DropTo own 0 w A r e w') :
  ∃ v,e=.returned v∧LeavesL [flTh A r.2,rdTh (lrowRd r.1 v)] F w w':=by
 obtain ⟨v,he,hrow,h1,o,h2,h3,h4⟩:=h
 refine ⟨v,he,_,SepL.two (F:=fun n=>(F n∧n<w.heap.size)∨(w.heap.size≤n∧n<w'.heap.size∧o n / 8=0)) (G:=fun n=>v.ownBlock=some n) ⟨fun n hn=>?_,o,h3,fun n hn e=>?_⟩ ⟨fun n=>Iff.rfl,hrow.1⟩ (fun n hn hg=>?_),Only.of_kp h1 hF,fun n hn=>?_⟩
 ·have:=h1.size
  rcases hn with h|h<;>omega
 ·by_cases hlt:n<w.heap.size
  ·rw [h2 n hlt] at e
   exact .inl ⟨hF n hlt e,hlt⟩
  ·exact .inr ⟨by omega,hn,e⟩
 ·have q1:=hrow.2 n hg
  have q2:=h4 n hg
  rcases hn with h|h
  ·omega
  ·exact q2 h.2.2
 ·rcases hn with (h|h)|h
  ·exact .inl h.1
  ·exact .inr h.1
  ·exact .inr (hrow.2 n h)
end
end Go.Proofs.YtabbgpjofkaomaaGreatDoor

/- Plain laws on what a drain gives: of each client the first two, in order. No program. -/
namespace Go.Proofs.YtabbgpjofkaomaaGreatDoor
open Go.RowKit
end Go.Proofs.YtabbgpjofkaomaaGreatDoor

/- What the document's answer's AskOf computes. -/
namespace Go.Proofs.YtabbgpjofkaomaaGreatDoor
open Go.RowKit
abbrev zeroV:Value:=.agg #[.int .u8 0,.int .i64 0,.int .i64 0,.int .i64 0,.int .i64 0,.int .i64 0,.int .i64 0,.int .i64 0]
end Go.Proofs.YtabbgpjofkaomaaGreatDoor

/- What wire's four computes. -/
namespace Go.Proofs.YtabbgpjofkaomaaGreatDoor
open Go.RowKit
theorem num4_bytes {s:ByteArray} {i:Nat} (h:i+4≤s.size):num4 s i=(s[i]'(by omega)).toNat*16777216+(s[i+1]'(by omega)).toNat*65536+(s[i+2]'(by omega)).toNat*256+(s[i+3]'(by omega)).toNat:=by
 have hl:i+4≤s.data.toList.length:=by rw [Array.length_toList];exact h
 have e:(s.data.toList.drop i).take (i+4 - i)=[s.data.toList[i]'(by omega),s.data.toList[i+1]'(by omega),s.data.toList[i+2]'(by omega),s.data.toList[i+3]'(by omega)]:=by
  rw [show i+4 - i=4 by omega,List.drop_eq_getElem_cons (by omega),List.drop_eq_getElem_cons (by omega),List.drop_eq_getElem_cons (by omega),List.drop_eq_getElem_cons (by omega)]
  rfl
 unfold num4
 rw [extract_list,e]
 have e0:s.data.toList[i]'(by omega)=s[i]'(by omega):=by simp;rfl
 have e1:s.data.toList[i+1]'(by omega)=s[i+1]'(by omega):=by simp;rfl
 have e2:s.data.toList[i+2]'(by omega)=s[i+2]'(by omega):=by simp;rfl
 have e3:s.data.toList[i+3]'(by omega)=s[i+3]'(by omega):=by simp;rfl
 rw [e0,e1,e2,e3]
 simp [numL]
 omega
set_option maxRecDepth 100000 in
theorem four_any (s:ByteArray) (i:Nat) (w:World) (h:i+4≤s.size) (hs:s.size≤30):Calls Tryz.prog 108 #[.string s,.int .i64 (i:Int)] w fun e w'=>e=.returned (.int .i64 (num4 s i))∧∃ n,w'=w.drewN n:=by
 have HN:=Lib.hid (num4_bytes h)
 have b0:=(s[i]'(by omega)).toNat_lt
 have b1:=(s[i+1]'(by omega)).toNat_lt
 have b2:=(s[i+2]'(by omega)).toNat_lt
 have b3:=(s[i+3]'(by omega)).toNat_lt
 have i0:∀ w,(Instr.index 9 (.string s) (.int .i64 (i:Int))).run Tryz.prog w=.ok (.int .u8 ((s[i]'(by omega)).toNat:Int)) w:=fun w=>index_str s i (by omega) w
 have i1:∀ w,(Instr.index 9 (.string s) (.int .i64 ((i:Int)+1))).run Tryz.prog w=.ok (.int .u8 ((s[i+1]'(by omega)).toNat:Int)) w:=fun w=>index_str s (i+1) (by omega) w
 have i2:∀ w,(Instr.index 9 (.string s) (.int .i64 ((i:Int)+2))).run Tryz.prog w=.ok (.int .u8 ((s[i+2]'(by omega)).toNat:Int)) w:=fun w=>index_str s (i+2) (by omega) w
 have i3:∀ w,(Instr.index 9 (.string s) (.int .i64 ((i:Int)+3))).run Tryz.prog w=.ok (.int .u8 ((s[i+3]'(by omega)).toNat:Int)) w:=fun w=>index_str s (i+3) (by omega) w
 generalize (s[i]'(by omega)).toNat=x0 at *
 generalize (s[i+1]'(by omega)).toNat=x1 at *
 generalize (s[i+2]'(by omega)).toNat=x2 at *
 generalize (s[i+3]'(by omega)).toNat=x3 at *
 go_enter Tryz.func108,Tryz.ntmps108
 go_wp2_with fail
 go_quiet (fail)
 all_goals go_wp2_with fail
 all_goals go_ret
 all_goals
  refine ⟨?_,_,rfl⟩
  rw [HN.out]
  have e1:(x0*16777216) ||| (x1*65536)=x0*16777216+x1*65536:=or_low x0 (x1*65536) 24 (by omega)
  have e2:(x0*16777216+x1*65536) ||| (x2*256)=x0*16777216+x1*65536+x2*256:=by
   have e:=or_low (x0*256+x1) (x2*256) 16 (by omega)
   rw [show (x0*256+x1)*2 ^ 16=x0*16777216+x1*65536 by omega] at e
   exact e
  have e3:(x0*16777216+x1*65536+x2*256) ||| x3=x0*16777216+x1*65536+x2*256+x3:=by
   have e:=or_low (x0*65536+x1*256+x2) x3 8 (by omega)
   rw [show (x0*65536+x1*256+x2)*2 ^ 8=x0*16777216+x1*65536+x2*256 by omega] at e
   exact e
  have o1:=bits_or_i64 (x0*16777216) (x1*65536) (by omega) (by omega)
  have o2:=bits_or_i64 (x0*16777216+x1*65536) (x2*256) (by omega) (by omega)
  have o3:=bits_or_i64 (x0*16777216+x1*65536+x2*256) x3 (by omega) (by omega)
  rw [e1] at o1
  rw [e2] at o2
  rw [e3] at o3
  show Ending.returned (.int .i64 (bits .or .i64 (bits .or .i64 (bits .or .i64 ((x0:Int)*16777216) ((x1:Int)*65536)) ((x2:Int)*256)) (x3:Int)))=_
  rw [show ((x0:Int)*16777216)=((x0*16777216:Nat):Int) by omega,show ((x1:Int)*65536)=((x1*65536:Nat):Int) by omega,show ((x2:Int)*256)=((x2*256:Nat):Int) by omega,o1,o2,o3]
  congr 2
end Go.Proofs.YtabbgpjofkaomaaGreatDoor
