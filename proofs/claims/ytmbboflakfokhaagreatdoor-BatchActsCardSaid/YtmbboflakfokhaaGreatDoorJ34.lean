import Derived.Test.YtmbboflakfokhaaGreatDoorJ28
import Derived.Test.YtmbboflakfokhaaGreatDoorJ24
/- The document's book: what Owner computes; whether two slices of lots are the same. -/
set_option linter.unusedSimpArgs false
set_option linter.unusedVariables false
namespace Go.Proofs.YtmbboflakfokhaaGreatDoor
open Go.RowKit
section
variable {own:Nat→Nat} {i:Nat} {w:World} {p:Nat} {l:List Lot}
set_option maxRecDepth 100000 in
set_option maxHeartbeats 2000000 in
theorem mowner_any (h:BookAt own i w p l) (n:Int) :
    Calls Tryz.prog 45 #[.pointer (some ⟨p,0,none⟩),.int .i64 n] w fun e w'=>(∃ v,e=.returned v∧w'.ownsRow w.heap.size 3 1 v (ownerL l n).length ((ownerL l n).map (Value.int .i64)))∧Ex w w':=by
  obtain ⟨i0,hi0,hz0,hz1,hz2⟩:=info_parts infoIntB
  obtain ⟨ao,cap,c0,hc,hm,h0,hl,hr⟩:=h.slice
  have hp:=h.lt
  have hb:=h.1
  obtain ⟨_,_,_,hz⟩:=hl
  have HZ:=Lib.hid hz
  clear h hr h0 hz
  go_enter Tryz.func45,Tryz.ntmps45
  go_wp2_with fail
  go_loopw [5,6] (fun v i wr=>∃ (k:Nat) (u:Value),u=v∧k≤l.length∧i=.int .i64 (k:Int)∧wr.ownsRow w.heap.size 3 1 u (ownerL (l.take k) n).length ((ownerL (l.take k) n).map (Value.int .i64))∧Ex w wr) (fun _ i _=>l.length - (intOf i).toNat)
  case atStart=>exact ⟨0,_,rfl,Nat.zero_le _,rfl,World.ownsRow_nil _ _ _ _,(by repeat (first|exact Ex.refl _|refine Ex.alloc ?_ _|refine Ex.ext ?_ _ _|refine Ex.drew ?_|refine Ex.drewN ?_ _))⟩
  case round =>
    obtain ⟨k,v,rfl,hk,rfl,hrow,hex⟩:=hrel
    have hsz:=hex.below.size
    have HROW:=Lib.hid hrow
    have HEX:=Lib.hid hex
    have cp:wr.cell? ⟨p,0,none⟩=some (.slice ao l.length cap):=(hex.below.cell (p:=⟨p,0,none⟩) hp).trans c0
    have hpr:p<wr.heap.size:=by omega
    by_cases hlt:k<l.length
    · obtain ⟨g,off,rfl,hg,hcc⟩:=HZ.out (by omega)
      have hcx:∀ j,j<5→wr.cell? ⟨g,off+k*5+j,none⟩=l[k].cells[j]?:=fun j hj=>(hex.below.cell (p:=⟨g,off+k*5+j,none⟩) hg).trans (hcc k hlt j hj)
      have hgr:g<wr.heap.size:=by omega
      have a0:=hcx 0 (by omega)
      have a1:=hcx 1 (by omega)
      simp only [Lot.cells,List.getElem?_cons_zero,List.getElem?_cons_succ,Nat.add_zero] at a0 a1
      have hsn:=ownerL_snoc l k hlt n
      have hle:=ownerL_le (l.take k) n
      have hle2:(l.take k).length≤60:=by rw [List.length_take];omega
      have HSN:=Lib.hid hsn
      obtain ⟨aov,capv,hv⟩:∃ ao cap,v=.slice ao (ownerL (l.take k) n).length cap:=by
        obtain ⟨_,⟨rfl,h2⟩|⟨g,cap,cur,rfl,_⟩⟩:=hrow
        · exact ⟨none,0,by rw [h2]⟩
        · exact ⟨_,_,rfl⟩
      subst hv
      clear hcc hcx hsn hrow hex
      generalize l[k]=x at *
      by_cases ho:(x.owner==n)=true
      · rw [if_pos ho] at HSN
        generalize ownerL (l.take k) n=D at *
        go_wp2_with (at_builtin;refine wpList_append_own _ rfl (.tmp 26) (.tmp 35) 110 rfl w.heap.size 3 i0 _ 1 8 Tryz.underlying110 hi0 hz0 hz1 hz2 rfl (by decide) (.slice aov D.length capv) D.length (D.map (Value.int .i64)) rfl ?_ _ 1 1 [.int .i64 x.id] rfl rfl ?_ ?_ (by unfold maxLen;omega) (by omega) ?_ ?_;(focus (refine HROW.out.kept (belowGrownBy ?_) (Classical.em _);((refine Below.trans (Below.refl _ _) ?_;repeat (first|exact Below.refl _ _|(refine Below.drew ?_)|(refine Below.drewN ?_ _)|(refine Below.ext ?_ (by first|omega|(simp [go_sem];done)|(simp [go_sem];omega)) _ _)|(refine Below.alloc ?_ (by first|omega|(simp [go_sem];done)|(simp [go_sem];omega)) _)|(refine Below.setCell ?_ (by first|omega|(simp [go_sem];done)|(simp [go_sem];omega)) _))))));(focus exact World.news_of_block (alloc_top (by first|rfl|(simp [ext_size];done)|(simp [ext_size];omega))));(focus simp [Value.oneCell']);(focus (simp [go_sem,ext_size];omega));intro v1 w3 hown hgrow hnil;have HOW:=Lib.hid hown;have HGR:=Lib.hid hgrow;clear hown hgrow hnil)
        go_roundw
        case measure=>simp [intOf];omega
        case rel=>exact ⟨k+1,_,rfl,by omega,by go_num,by rw [HSN.out,List.length_append,List.map_append];exact HOW.out,Ex.of (Below.grown (HEX.out.trans (show Ex wr (wr.alloc (.cells #[.int .i64 x.id] 3)) from (by repeat (first|exact Ex.refl _|refine Ex.alloc ?_ _|refine Ex.ext ?_ _ _|refine Ex.drew ?_|refine Ex.drewN ?_ _)))).below HGR.out (by simp [go_sem,ext_size];omega) (fun j hj=>(HROW.out.lt j hj).1))⟩
      · rw [if_neg ho,List.append_nil] at HSN
        have ho2:(x.owner==n)=false:=by simpa using ho
        go_wp2_with fail
        go_roundw
        case measure=>simp [intOf];omega
        case rel=>exact ⟨k+1,_,rfl,by omega,by go_num,by rw [HSN.out];exact HROW.out.kept (belowGrownBy (by (refine Below.trans (Below.refl _ _) ?_;repeat (first|exact Below.refl _ _|(refine Below.drew ?_)|(refine Below.drewN ?_ _)|(refine Below.ext ?_ (by first|omega|(simp [go_sem];done)|(simp [go_sem];omega)) _ _)|(refine Below.alloc ?_ (by first|omega|(simp [go_sem];done)|(simp [go_sem];omega)) _)|(refine Below.setCell ?_ (by first|omega|(simp [go_sem];done)|(simp [go_sem];omega)) _))))) (Classical.em _),HEX.out.trans (by repeat (first|exact Ex.refl _|refine Ex.alloc ?_ _|refine Ex.ext ?_ _ _|refine Ex.drew ?_|refine Ex.drewN ?_ _))⟩
    · obtain rfl:k=l.length:=by omega
      rw [List.take_length] at HROW
      go_wp2_with fail
      all_goals go_ret
      all_goals exact ⟨⟨v,rfl,HROW.out⟩,HEX.out.trans (by repeat (first|exact Ex.refl _|refine Ex.alloc ?_ _|refine Ex.ext ?_ _ _|refine Ex.drew ?_|refine Ex.drewN ?_ _))⟩
end
end Go.Proofs.YtmbboflakfokhaaGreatDoor

/- Plain facts: what rests behind lots that go. -/
set_option linter.unusedSimpArgs false
set_option linter.unusedVariables false
namespace Go.Proofs.YtmbboflakfokhaaGreatDoor
open Go.RowKit
section
variable {st:FSt} {k:Nat}
theorem gone_mem (h:FOk st) (hk:k<3) (id:Int) (j:Nat) (z:Lot):z∈(goneR st k id).2.2.b j↔z∈st.b j∧(j=k→z.id≠id):=by
  unfold goneR
  rcases cancelR_cases (h.book k hk) id with ⟨x,hx,hi,l',e,hl,hsum,hmem⟩|⟨hn,e⟩
  · rw [e,if_pos rfl]
    show z∈(if j=k then l' else st.b j)↔_
    by_cases e2:j=k
    · subst e2
      rw [if_pos rfl,hmem z]
      exact ⟨fun h=>⟨h.1,fun _=>h.2⟩,fun h=>⟨h.1,h.2 rfl⟩⟩
    · rw [if_neg e2]
      exact ⟨fun h=>⟨h,fun e3=>absurd e3 e2⟩,fun h=>h.1⟩
  · rw [e,if_neg (by simp)]
    exact ⟨fun h=>⟨h,fun e2=>hn z (by subst e2;exact h)⟩,fun h=>h.1⟩
theorem dropIds_mem (hk:k<3) (j:Nat) (z:Lot):∀ (ids:List Int) {p:List Lot × FSt},FOk p.2→(z∈(ids.foldl (dropStep k) p).2.b j↔z∈p.2.b j∧(j=k→z.id∉ids))
  | [],p,_=>by simp
  | id::ids,p,h=>by
    rw [List.foldl_cons,dropIds_mem hk j z ids (dropStep_ok h hk id).1]
    have h1:z∈(dropStep k p id).2.b j↔z∈p.2.b j∧(j=k→z.id≠id):=gone_mem h hk id j z
    rw [h1]
    constructor
    · rintro ⟨⟨a,b⟩,c⟩
      exact ⟨a,fun e hm=>by rcases List.mem_cons.1 hm with h2|h2;exact b e h2;exact c e h2⟩
    · rintro ⟨a,b⟩
      exact ⟨⟨a,fun e h2=>b e (by simp [h2])⟩,fun e h2=>b e (by simp [h2])⟩
theorem ids_nodup {l:List Lot} (h:LApart l) (client:Int):(ownerL l client).Nodup:=by
  unfold ownerL
  have h2:=h.sublist (List.filter_sublist (p:=fun x=>x.owner==client) (l:=l))
  exact List.pairwise_map.2 h2
theorem drop_found {p:List Lot × FSt} (h:FOk p.2) (hk:k<3) (client:Int) {n:Nat} (hn:n<(ownerL (p.2.b k) client).length) :
    ∃ x∈(((ownerL (p.2.b k) client).take n).foldl (dropStep k) p).2.b k,x.id=(ownerL (p.2.b k) client)[n]:=by
  have hm:(ownerL (p.2.b k) client)[n]∈ownerL (p.2.b k) client:=List.getElem_mem hn
  obtain ⟨x,hx,hi⟩:=List.mem_map.1 hm
  obtain ⟨hx1,_⟩:=List.mem_filter.1 hx
  refine ⟨x,(dropIds_mem hk k x _ h).2 ⟨hx1,fun _ hmt=>?_⟩,hi⟩
  rw [hi] at hmt
  obtain ⟨i,hi2,e⟩:=List.getElem_of_mem hmt
  rw [List.length_take] at hi2
  rw [List.getElem_take] at e
  have hnd:=List.pairwise_iff_getElem.1 (ids_nodup (h.book k hk).apart client)
  exact hnd i n (by omega) hn (by omega) e
end
end Go.Proofs.YtmbboflakfokhaaGreatDoor
