import Derived.Test.YtabbgpjofkaomaaGreatDoorIntake1
import Derived.Test.YtabbgpjofkaomaaGreatDoorPut
import Derived.Deep.RegionLaw
import Derived.Test.YtabbgpjofkaomaaGreatDoorJ25
import Derived.Deep.RegionWith
import Derived.Test.YtabbgpjofkaomaaGreatDoorJ0
import Derived.BigQuiet
import Derived.Deep.QuietTactic
import Derived.Deep.AppendLies
import Derived.Laws.AppendOwn
/- What Put of an intake computes where it takes nothing. -/
set_option linter.unusedSimpArgs false
set_option linter.unusedVariables false
namespace Go.Proofs.YtabbgpjofkaomaaGreatDoor
open Go.RowKit
def putErr (l:Nat→List Ask) (a:Ask):Nat:=if (a.kind != 111 && a.kind != 99) then 4 else if inR a.client 0 5 then (if 6≤(l a.client.toNat).length then 8 else 0) else 2
section
variable {own:Nat→Nat} {i:Nat} {w:World} {p:Nat} {l:Nat→List Ask} {turn:Nat}
set_option maxRecDepth 100000 in
set_option maxHeartbeats 1000000 in
theorem put_kind (a:Ask) (E:Nat→Addr) (hE:Errs E [2,4,8] w) (hk:(a.kind != 111 && a.kind != 99)=true) :
    Calls Tryz.prog 78 #[.pointer (some ⟨p,0,none⟩),a.val] w fun e w'=>e=.returned (errV E 4)∧Ex w w':=by
  have e4:w.cell? ⟨5,0,none⟩=some (.iface 357 (.pointer (some (E 4)))):=hE 4 (by decide)
  have b4:5<w.heap.size:=lt_of_cell e4
  clear hE
  obtain ⟨k1,k2⟩:(a.kind != 111)=true∧(a.kind != 99)=true:=by simpa using hk
  go_enter Tryz.func78,Tryz.ntmps78
  go_wp2_with fail
  all_goals go_ret
  all_goals exact ⟨by rw [errV_pos _ _ (by decide)];rfl,(by repeat (first|exact Ex.refl _|refine Ex.alloc ?_ _|refine Ex.ext ?_ _ _|refine Ex.drew ?_|refine Ex.drewN ?_ _))⟩
set_option maxRecDepth 100000 in
set_option maxHeartbeats 1000000 in
theorem put_client (a:Ask) (E:Nat→Addr) (hE:Errs E [2,4,8] w) (hk:(a.kind==111)=true∨(a.kind==99)=true) (hc:inR a.client 0 5=false) :
    Calls Tryz.prog 78 #[.pointer (some ⟨p,0,none⟩),a.val] w fun e w'=>e=.returned (errV E 2)∧Ex w w':=by
  have e2:w.cell? ⟨0,0,none⟩=some (.iface 357 (.pointer (some (E 2)))):=hE 2 (by decide)
  have b2:0<w.heap.size:=lt_of_cell e2
  clear hE
  have hC:=Lib.hid (client_any a.client)
  rw [hc] at hC
  clear hc
  have HK:=Lib.hid hk
  clear hk
  by_cases h111:(a.kind==111)=true
  · have k1:(a.kind != 111)=false:=by simpa using h111
    go_enter Tryz.func78,Tryz.ntmps78
    go_wp2_with (go_at_call 91;refine (hC.out _).mono ?_;rintro e w1 ⟨rfl,l1,d1,rfl⟩)
    all_goals go_ret
    all_goals exact ⟨by rw [errV_pos _ _ (by decide)];rfl,(by repeat (first|exact Ex.refl _|refine Ex.alloc ?_ _|refine Ex.ext ?_ _ _|refine Ex.drew ?_|refine Ex.drewN ?_ _))⟩
  · have k1:(a.kind != 99)=false:=by simpa [h111] using HK.out
    have k2:(a.kind != 111)=true:=by simpa using h111
    go_enter Tryz.func78,Tryz.ntmps78
    go_wp2_with (go_at_call 91;refine (hC.out _).mono ?_;rintro e w1 ⟨rfl,l1,d1,rfl⟩)
    all_goals go_ret
    all_goals exact ⟨by rw [errV_pos _ _ (by decide)];rfl,(by repeat (first|exact Ex.refl _|refine Ex.alloc ?_ _|refine Ex.ext ?_ _ _|refine Ex.drew ?_|refine Ex.drewN ?_ _))⟩
set_option maxRecDepth 100000 in
set_option maxHeartbeats 1000000 in
theorem put_full (h:IntakeAt own i w p l turn) (a:Ask) (E:Nat→Addr) (hE:Errs E [2,4,8] w) (hk:(a.kind==111)=true∨(a.kind==99)=true) (c:Nat) (hc:c<6) (he:a.client=(c:Int)) (hq:6≤(l c).length) :
    Calls Tryz.prog 78 #[.pointer (some ⟨p,0,none⟩),a.val] w fun e w'=>e=.returned (errV E 8)∧Ex w w':=by
  have e8:w.cell? ⟨3,0,none⟩=some (.iface 357 (.pointer (some (E 8)))):=hE 8 (by decide)
  have b8:3<w.heap.size:=lt_of_cell e8
  clear hE
  obtain ⟨ao,cap,o,hcell,_⟩:=h.pick c hc
  have hp:=h.lt
  have hC:=Lib.hid (client_any (c:Int))
  rw [show inR (c:Int) 0 5=true from inR_iff.2 (by omega)] at hC
  clear h
  obtain ⟨kind,client,seq,item,side,price,qty,id⟩:=a
  simp only at he hk
  subst he
  have HK:=Lib.hid hk
  clear hk
  have c0:(0:Int)≤(c:Int):=by omega
  have c1:(c:Int)<6:=by omega
  by_cases h111:(kind==111)=true
  · have k1:(kind != 111)=false:=by simpa using h111
    go_enter Tryz.func78,Tryz.ntmps78
    go_wp2_with (go_at_call 91;refine (hC.out _).mono ?_;rintro e w1 ⟨rfl,l1,d1,rfl⟩)
    go_region_held3 (fun w'=>w'.cell? ⟨w.heap.size,1,none⟩=some (.int .i64 (c:Int))∧w'.cell? ⟨p,c,none⟩=some (.slice ao (l c).length cap)) (first|exact ⟨by assumption,by assumption⟩|(simp [go_sem,↓IntWalk.iteOmega, *];done)) (fail)
    go_wp2_with fail
    all_goals go_ret
    all_goals exact ⟨by rw [errV_pos _ _ (by decide)];rfl,(by repeat (first|exact Ex.refl _|refine Ex.alloc ?_ _|refine Ex.ext ?_ _ _|refine Ex.drew ?_|refine Ex.drewN ?_ _))⟩
  · have k1:(kind != 99)=false:=by simpa [h111] using HK.out
    have k2:(kind != 111)=true:=by simpa using h111
    go_enter Tryz.func78,Tryz.ntmps78
    go_wp2_with (go_at_call 91;refine (hC.out _).mono ?_;rintro e w1 ⟨rfl,l1,d1,rfl⟩)
    go_region_held3 (fun w'=>w'.cell? ⟨w.heap.size,1,none⟩=some (.int .i64 (c:Int))∧w'.cell? ⟨p,c,none⟩=some (.slice ao (l c).length cap)) (first|exact ⟨by assumption,by assumption⟩|(simp [go_sem,↓IntWalk.iteOmega, *];done)) (fail)
    go_wp2_with fail
    all_goals go_ret
    all_goals exact ⟨by rw [errV_pos _ _ (by decide)];rfl,(by repeat (first|exact Ex.refl _|refine Ex.alloc ?_ _|refine Ex.ext ?_ _ _|refine Ex.drew ?_|refine Ex.drewN ?_ _))⟩
end
end Go.Proofs.YtabbgpjofkaomaaGreatDoor

/- What Put of an intake computes, whatever it is given. -/
set_option linter.unusedSimpArgs false
set_option linter.unusedVariables false
namespace Go.Proofs.YtabbgpjofkaomaaGreatDoor
open Go.RowKit
def putTo (l:Nat→List Ask) (a:Ask):Nat→List Ask:=if putErr l a=0 then (fun d=>if d=a.client.toNat then l a.client.toNat++[a] else l d) else l
theorem put_any {own:Nat→Nat} {i:Nat} {w:World} {p:Nat} {l:Nat→List Ask} {turn:Nat} (h:IntakeAt own i w p l turn) (a:Ask) (E:Nat→Addr) (hE:Errs E [2,4,8] w) :
    Calls Tryz.prog 78 #[.pointer (some ⟨p,0,none⟩),a.val] w fun e w'=>e=.returned (errV E (putErr l a))∧ObjTo own i i w (fun o w'=>IntakeAt o i w' p (putTo l a) turn) w':=by
  have keep:∀ w',Ex w w'→ObjTo own i i w (fun o w'=>IntakeAt o i w' p l turn) w':=fun w' hx =>
    ObjTo.of_ex hx (h.kp (m:=1) (g:=i+1) (Kp.of_below hx.below) (by simp) (fun n hn e=>by rw [lab_lt hn];exact e))
  by_cases hk:(a.kind != 111 && a.kind != 99)=true
  · have e:putErr l a=4:=by simp only [putErr,hk,if_true]
    have e2:putTo l a=l:=by unfold putTo;rw [if_neg (by rw [e];decide)]
    rw [e,e2]
    exact (put_kind a E hE hk).mono fun e w' ⟨h1,h2⟩=>⟨h1,keep w' h2⟩
  · have hk':(a.kind==111)=true∨(a.kind==99)=true:=by
      simp at hk
      by_cases h1:a.kind=111
      · exact .inl (by simpa using h1)
      · exact .inr (by simpa using hk h1)
    cases hc:inR a.client 0 5
    · have e:putErr l a=2:=by simp [putErr,hk,hc]
      have e2:putTo l a=l:=by unfold putTo;rw [if_neg (by rw [e];decide)]
      rw [e,e2]
      exact (put_client a E hE hk' hc).mono fun e w' ⟨h1,h2⟩=>⟨h1,keep w' h2⟩
    · obtain ⟨h0,h5⟩:=inR_iff.1 hc
      have hcn:a.client=((a.client.toNat:Nat):Int):=by omega
      by_cases hq:6≤(l a.client.toNat).length
      · have e:putErr l a=8:=by simp [putErr,hk,hc,hq]
        have e2:putTo l a=l:=by unfold putTo;rw [if_neg (by rw [e];decide)]
        rw [e,e2]
        exact (put_full h a E hE hk' a.client.toNat (by omega) hcn hq).mono fun e w' ⟨h1,h2⟩=>⟨h1,keep w' h2⟩
      · have e:putErr l a=0:=by simp [putErr,hk,hc,hq]
        have e2:putTo l a=(fun d=>if d=a.client.toNat then l a.client.toNat++[a] else l d):=by unfold putTo;rw [if_pos e]
        rw [e,e2,errV_zero]
        exact put_ok h a E hk' a.client.toNat (by omega) hcn (by omega)
end Go.Proofs.YtabbgpjofkaomaaGreatDoor

/- What Drain of an intake computes. -/
set_option linter.unusedSimpArgs false
set_option linter.unusedVariables false
namespace Go.Proofs.YtabbgpjofkaomaaGreatDoor
open Go.RowKit
def outOf (l:Nat→List Ask) (turn:Nat):Nat→List Ask
  | 0=>[]
  | k+1=>outOf l turn k++(l ((turn+k) % 6)).take 2
def leftOf (l:Nat→List Ask) (turn:Nat):Nat→Nat→List Ask
  | 0=>l
  | k+1=>fun d=>if d=(turn+k) % 6 then (l d).drop 2 else leftOf l turn k d
theorem infoAsk':(Tryz.prog.info? 45).map (fun i=>(i.zero,i.size,i.bytes))=some (some (.agg #[.int .u8 0,.int .i64 0,.int .i64 0,.int .i64 0,.int .i64 0,.int .i64 0,.int .i64 0,.int .i64 0]),8,64):=by kernel_rfl
theorem outOf_length (l:Nat→List Ask) (turn:Nat):∀ k,(outOf l turn k).length≤2*k
  | 0=>by simp [outOf]
  | k+1=>by have:=outOf_length l turn k;simp only [outOf,List.length_append,List.length_take];omega
theorem leftOf_spec (l:Nat→List Ask) (turn:Nat) (d:Nat):∀ k,leftOf l turn k d=if (List.range k).any (fun j=>(turn+j) % 6==d) then (l d).drop 2 else l d
  | 0=>by simp [leftOf]
  | k+1=>by
    simp only [leftOf,leftOf_spec l turn d k,List.range_succ,List.any_append,List.any_cons,List.any_nil,Bool.or_false]
    by_cases h:d=(turn+k) % 6
    · simp [h]
    · have:¬ (turn+k) % 6=d:=fun e=>h e.symm
      simp [h,this]
theorem leftOf_here (l:Nat→List Ask) (turn k:Nat) (hk:k<6):leftOf l turn k ((turn+k) % 6)=l ((turn+k) % 6):=by
  rw [leftOf_spec,if_neg]
  simp
  omega
theorem leftOf_all (l:Nat→List Ask) (turn d:Nat) (hd:d<6):leftOf l turn 6 d=(l d).drop 2:=by
  rw [leftOf_spec,if_pos]
  simp only [List.any_eq_true,List.mem_range,beq_iff_eq]
  exact ⟨(d+6 - turn % 6) % 6,by omega,by omega⟩
def DrainInv (own:Nat→Nat) (i j:Nat) (w:World) (p:Nat) (l:Nat→List Ask) (turn k:Nat) (v:Value) (wr:World):Prop :=
  ∃ ow:Nat→Nat,OwnRow ow j wr 45 8 v (outOf l turn k).length (flat Ask.cells (outOf l turn k))∧IntakeAt ow i wr p (leftOf l turn k) turn∧(∀ n,n<w.heap.size→(own n=i→ow n=i)∧(ow n=i→own n=i)∧ow n≠j) ∧
    (∀ n,w.heap.size≤n→ow n=if n<wr.heap.size then j else own n)∧Kp own 1 i w wr
theorem flat_one' {l:List Ask}:∀ u∈flat Ask.cells l,u.oneCell'=true:=by
  intro u hu
  simp only [flat,List.mem_flatMap] at hu
  obtain ⟨a,_,hu⟩:=hu
  simp only [Ask.cells,List.mem_cons,List.not_mem_nil,or_false] at hu
  rcases hu with rfl|rfl|rfl|rfl|rfl|rfl|rfl|rfl<;>rfl
section
variable {own:Nat→Nat} {i j:Nat} {w:World} {p:Nat} {l:Nat→List Ask} {turn:Nat}
theorem RowAt.take {w:World} {e:TypeId} {size:Nat} {ao:Option Addr} {cap n:Nat} {xs:List Value} (h:RowAt w e size (.slice ao n cap) n xs) (k:Nat) (hk:k≤n):RowAt w e size (.slice ao k cap) k (xs.take (k*size)):=by
  obtain ⟨h1,⟨h2,h3⟩|⟨g,off,cap',cur,h2,⟨fr,hg,hf⟩,hr⟩⟩:=h
  · obtain ⟨rfl,rfl,rfl⟩:ao=none∧n=0∧cap=0:=by cases h2;exact ⟨rfl,rfl,rfl⟩
    obtain rfl:k=0:=by omega
    exact ⟨by simp,.inl ⟨rfl,rfl⟩⟩
  · cases h2
    have e1:k*size≤n*size:=Nat.mul_le_mul_right _ hk
    refine ⟨by rw [List.length_take,h1,Nat.min_eq_left e1],.inr ⟨g,off,cap,cur,rfl,⟨fr,hg,hf⟩,by omega,hr.2.1,hr.2.2.1,?_⟩⟩
    rw [← hr.2.2.2,List.take_take,Nat.min_eq_left e1]
theorem RowAt.from {w:World} {e:TypeId} {size:Nat} {g off cap n:Nat} {xs:List Value} (h:RowAt w e size (.slice (some ⟨g,off,none⟩) n cap) n xs) (k:Nat) (hk:k≤n) :
    RowAt w e size (.slice (if cap=k then some ⟨g,off,none⟩ else some ⟨g,off+k*size,none⟩) (n - k) (cap - k)) (n - k) (xs.drop (k*size)):=by
  by_cases e:cap=k
  · have hn:n=k:=by
      obtain ⟨h1,⟨h2,_⟩|⟨g',off',cap',cur,h2,hg,hr⟩⟩:=h
      · cases h2
      · cases h2;omega
    subst e
    rw [if_pos rfl]
    obtain ⟨h1,⟨h2,_⟩|⟨g',off',cap',cur,h2,hg,hr⟩⟩:=h
    · cases h2
    · cases h2
      refine ⟨by simp [h1,hn],.inr ⟨g,off,n - n,cur,by simp [hn],hg,by omega,by omega,by have:=hr.2.2.1;simp;omega,?_⟩⟩
      subst hn
      simp [List.drop_of_length_le (Nat.le_of_eq h1)]
  · rw [if_neg e]
    exact h.drop k hk
theorem drain_step (hij:i≠j) {k:Nat} (hk:k<6) {wr:World} {ow:Nat→Nat} (hI:IntakeAt ow i wr p (leftOf l turn k) turn) (ho1:∀ n,n<w.heap.size→(own n=i→ow n=i)∧(ow n=i→own n=i)∧ow n≠j) (ho2:∀ n,w.heap.size≤n→ow n=if n<wr.heap.size then j else own n) (hK:Kp own 1 i w wr)
    (o:Nat→Nat) (h3:o p=3) (hi:∀ n,o n / 2=1→ow n=i)
    (hend:∀ W' own' v' x,x.length≤6→RowAt W' 45 8 v' x.length (flat Ask.cells x)→(∀ g,v'.ownBlock=some g→(o g=2∨wr.heap.size≤g)∧own' g=i)→(wr.heap.size≤W'.heap.size∧∀ n,n<wr.heap.size→ow n=i→o n / 2≠1→W'.heap[n]?=wr.heap[n]?) →
        (∀ t f,wr.rowIs p t 7 f→W'.rowIs p t 7 (fun d=>if d=(turn+k) % 6 then v' else f d))→(∀ n,n<wr.heap.size→ow n=i→own' n=i)→IntakeAt own' i W' p (fun d=>if d=(turn+k) % 6 then x else leftOf l turn k d) turn)
    {vq vq' v':Value} (hq:OwnRow o 2 wr 45 8 vq (l ((turn+k) % 6)).length (flat Ask.cells (l ((turn+k) % 6)))) (hl6:(l ((turn+k) % 6)).length≤6)
    (hq':RowAt wr 45 8 vq' ((l ((turn+k) % 6)).drop 2).length (flat Ask.cells ((l ((turn+k) % 6)).drop 2))) (hqb:∀ g,vq'.ownBlock=some g→vq.ownBlock=some g) {k':Nat} {u:World} {m:Nat} {news:List Value} (hm:m=((l ((turn+k) % 6)).take 2).length) (hnews:news=flat Ask.cells ((l ((turn+k) % 6)).take 2))
    (hv':OwnRow (lab ow wr.heap.size k' j) j (ov wr ow 1 j k' u) 45 8 v' ((outOf l turn k).length+m) (flat Ask.cells (outOf l turn k)++news)) :
    DrainInv own i j w p l turn (k+1) v' (ov (wr.setCell ⟨p,(turn+k) % 6,none⟩ vq') ow 1 j k' u):=by
  have hp:=hI.lt
  have hop:=hI.main
  have hsz:=hK.size
  have e:=ov_set_lt wr ow 1 j k' u p ((turn+k) % 6) vq' hp (by rw [Nat.div_one,hop];exact hij)
  have hpj:lab ow wr.heap.size k' j p≠j:=by rw [lab_lt hp,hop];exact hij
  have hsize:(ov (wr.setCell ⟨p,(turn+k) % 6,none⟩ vq') ow 1 j k' u).heap.size=wr.heap.size+k':=by simp [go_sem]
  have hoj:∀ n,w.heap.size≤n→n<wr.heap.size→ow n=j:=fun n h1 h2=>by rw [ho2 n h1,if_pos h2]
  subst hm
  subst hnews
  refine ⟨lab ow wr.heap.size k' j,?_,?_,fun n hn=>by rw [lab_lt (by omega)];exact ho1 n hn,fun n hn=>?_,?_⟩
  · rw [← e,outOf,List.length_append,flat_append]
    exact hv'.setCell hpj _
  · have hrow:RowAt (ov (wr.setCell ⟨p,(turn+k) % 6,none⟩ vq') ow 1 j k' u) 45 8 vq' ((l ((turn+k) % 6)).drop 2).length (flat Ask.cells ((l ((turn+k) % 6)).drop 2)):=by
      refine hq'.of_block fun g hg=>?_
      have hg2:=hq.2 g (hqb g hg)
      have hlt:=hq'.lt g hg
      have hgp:g≠p:=by rintro rfl;omega
      rw [ov_heap _ _ _ _ _ _ _ (by simpa [World.setCell] using hlt) (by rw [Nat.div_one,hi g (by rw [hg2])];exact hij)]
      exact Below.heap_setCell _ _ _ _ hgp
    have hx:=hend _ (lab ow wr.heap.size k' j) vq' ((l ((turn+k) % 6)).drop 2) (by rw [List.length_drop];omega) hrow (fun g hg=>⟨.inl (hq.2 g (hqb g hg)),by rw [lab_lt (hq'.lt g hg)];exact hi g (by rw [hq.2 g (hqb g hg)])⟩) ?_ ?_ (fun n hn h=>by rw [lab_lt hn];exact h)
    · have e2:(fun d=>if d=(turn+k) % 6 then (l ((turn+k) % 6)).drop 2 else leftOf l turn k d)=leftOf l turn (k+1):=by
        funext d
        simp only [leftOf]
        by_cases h:d=(turn+k) % 6
        · simp [h]
        · simp [h]
      rw [e2] at hx
      exact hx
    · refine ⟨by rw [hsize];omega,fun n hn h1 h2=>?_⟩
      rw [ov_heap _ _ _ _ _ _ _ (by simpa [World.setCell] using hn) (by rw [Nat.div_one,h1];exact hij)]
      exact Below.heap_setCell _ _ _ _ (fun e=>h2 (by have e':n=p:=e;rw [e',h3]))
    · intro t f hf
      exact rowIs_ov (hf.set _ _) _ _ _ _ _ (by rw [Nat.div_one,hop];exact hij)
  · rw [hsize]
    unfold lab
    by_cases h1:n<wr.heap.size
    · rw [if_pos h1,hoj n hn h1,if_pos (by omega)]
    · rw [if_neg h1]
      by_cases h2:n<wr.heap.size+k'
      · rw [if_pos h2,if_pos h2]
      · rw [if_neg h2,if_neg h2,ho2 n hn,if_neg h1]
  · refine (Kp.setCell hK (fun h=>?_) _).ov _ _ _ _ _ (fun n hn h=>?_)
    · show own p / 1=i
      rw [Nat.div_one]
      exact (ho1 p h).2.1 hop
    · rw [Nat.div_one] at h ⊢
      exact absurd h (ho1 n hn).2.2
def DrainTo (own:Nat→Nat) (i j:Nat) (w:World) (p:Nat) (l:Nat→List Ask) (turn:Nat) (e:Ending) (w':World):Prop :=
  ∃ v,e=.returned v∧ObjTo own i j w (fun o w'=>IntakeAt o i w' p (fun d=>(l d).drop 2) ((turn+1) % 6)∧OwnRow o j w' 45 8 v (outOf l turn 6).length (flat Ask.cells (outOf l turn 6))) w'
set_option maxRecDepth 100000 in
set_option maxHeartbeats 4000000 in
theorem drain_any (hij:i≠j) (h:IntakeAt own i w p l turn):Calls Tryz.prog 55 #[.pointer (some ⟨p,0,none⟩)] w (DrainTo own i j w p l turn):=by
  obtain ⟨i0,hi0,hz0,hz1,hz2⟩:=info_parts infoAsk'
  have hl6:=h.2.1
  have ht6:=h.1
  have H0:DrainInv own i j w p l turn 0 (.slice none 0 0) w:=by
    refine ⟨fun n=>if n<w.heap.size then (if own n=i then i else i+j+1) else own n,OwnRow.nil _ _ _ _ _,h.kp (m:=1) (g:=i+1) (Kp.refl _ _ _ _) (by simp) (fun n hn e=>by simp [hn,e]),fun n hn=>?_,fun n hn=>?_,Kp.refl _ _ _ _⟩
    · simp only [hn,if_true]
      by_cases e:own n=i
      · simp only [e,if_true];exact ⟨id,id,hij⟩
      · simp only [e,if_false];exact ⟨fun h=>h.elim,fun h=>by omega,by omega⟩
    · have:¬ n<w.heap.size:=by omega
      simp [this]
  have HH:=Lib.hid H0
  have HL:=Lib.hid hl6
  have H:=Lib.hid h
  clear H0 hl6 h
  go_enter Tryz.func55,Tryz.ntmps55
  go_wp2
  go_loopw [3,7] (fun v ik wr=>∃ k:Nat,k≤6∧ik=.int .i64 k∧DrainInv own i j w p l turn k v wr) (fun _ ik _=>6 - (intOf ik).toNat)
  case atStart=>exact ⟨0,by omega,rfl,HH.out⟩
  case round =>
    obtain ⟨k,hk,rfl,ow,hv,hI,ho1,ho2,hK⟩:=hrel
    by_cases hlt:k<6
    · obtain ⟨ao,cap,o,hcell,hcap,hrow,h3,h0,hi,hend⟩:=hI.pick ((turn+k) % 6) (by omega)
      have hlh:=leftOf_here l turn k hlt
      rw [hlh] at hcell hrow hcap
      have hp:=hI.lt
      have hop:=hI.main
      have hfr:=hI.free ((turn+k) % 6)
      have htc:=hI.turnCell
      have hl6:=HL.out ((turn+k) % 6) (by omega)
      have hol:=outOf_length l turn k
      have HST:=Lib.hid (fun vq' v' k' u m news=>@drain_step own i j w p l turn hij k hlt wr ow hI ho1 ho2 hK o h3 hi hend _ vq' v' hrow hl6 (k':=k') (u:=u) (m:=m) (news:=news))
      have HI:=Lib.hid hI
      have HV:=Lib.hid hv
      clear hlh ho1 ho2 hK hend h3 h0 hi hI hv
      obtain ⟨c,hc⟩:∃ c,c=(turn+k) % 6:=⟨_,rfl⟩
      rw [← hc] at hcell hrow hcap hfr hl6 HST
      have hcm:((turn:Int)+(k:Int)) % 6=(c:Int):=by omega
      have hc0:(0:Int)≤(c:Int):=by omega
      have hc6:(c:Int)<6:=by omega
      have HC:=Lib.hid hc
      clear hc
      generalize (outOf l turn k)=os at *
      generalize l c=q at *
      rcases ao with _|⟨g,off,sp⟩
      · have hq0:q=[]∧cap=0:=by
          rcases hrow.1.2 with ⟨h1,h2⟩|⟨_,_,_,_,h1,_⟩
          · simp only [Value.slice.injEq] at h1;exact ⟨List.eq_nil_of_length_eq_zero h2,h1.2.2⟩
          · simp at h1
        obtain ⟨rfl,rfl⟩:=hq0
        have HSRC:=Lib.hid (Src.ofNil (P:=Tryz.prog) (size:=8) wr Tryz.underlying39 0)
        have HROW:=Lib.hid (RowAt.nil wr 45 8)
        clear hrow hcap hl6
        go_wp2_with (at_builtin;refine wpList_append_lab (own:=ow) (j:=j) rfl (.tmp 25) (.tmp 33) 39 39 rfl 45 i0 _ 8 64 Tryz.underlying39 hi0 hz0 hz1 hz2 rfl _ (.slice none 0 0) os.length 0 (flat Ask.cells os) (flat Ask.cells ([]:List Ask)) rfl rfl HV.out HSRC.out (by unfold maxLen;omega) (by omega) ?_;intro v' k' u hv' _)
        have HV':=Lib.hid hv'
        clear hv'
        go_region
        all_goals go_wp2
        all_goals
          go_roundw
          case measure=>simp [intOf];omega
          case rel=>exact ⟨k+1,by omega,by go_num,HST.out _ _ _ _ _ _ HROW.out (fun g hg=>by first|exact hg|cases hg) (by simp<;>omega) rfl HV'.out.drew⟩
      · obtain rfl:sp=none:=by
          rcases hrow.1.2 with ⟨h1,_⟩|⟨g',off',_,_,h1,_⟩
          · simp at h1
          · simp only [Value.slice.injEq,Option.some.injEq,Addr.mk.injEq] at h1;exact h1.1.2.2
        by_cases h2:q.length<2
        · have e1:q.take 2=q:=List.take_of_length_le (by omega)
          have e2:q.drop 2=[]:=List.drop_of_length_le (by omega)
          have h2':(q.length:Int)<2:=by omega
          have HSRC:Hid (Src Tryz.prog 8 39 (.slice (some ⟨g,off,none⟩) q.length cap) q.length (flat Ask.cells (q.take 2)) wr):=by
            rw [e1];exact Src.row Tryz.underlying39 hrow.1 flat_one'
          have HROW0:=hrow.1.from q.length (Nat.le_refl _)
          by_cases hcq:cap=q.length
          · subst hcq
            rw [if_pos rfl] at HROW0
            have HROW:Hid (RowAt wr 45 8 (.slice (some ⟨g,off,none⟩) 0 0) (q.drop 2).length (flat Ask.cells (q.drop 2))):=by
              rw [flat_drop (N:=8) (fun _=>rfl),List.drop_length,Nat.sub_self] at HROW0
              rw [e2];exact HROW0
            clear HROW0 hrow e1 e2
            go_wp2_with (at_builtin;refine wpList_append_lab (own:=ow) (j:=j) rfl (.tmp 25) (.tmp 33) 39 39 rfl 45 i0 _ 8 64 Tryz.underlying39 hi0 hz0 hz1 hz2 rfl _ (.slice (some ⟨g,off,none⟩) q.length q.length) os.length q.length (flat Ask.cells os) (flat Ask.cells (q.take 2)) rfl rfl HV.out HSRC.out (by unfold maxLen;omega) (by omega) ?_;intro v' k' u hv' _)
            have HV':=Lib.hid hv'
            clear hv'
            go_region
            all_goals go_wp2
            all_goals
              go_roundw
              case measure=>simp [intOf];omega
              case rel=>exact ⟨k+1,by omega,by go_num,HST.out _ _ _ _ _ _ HROW.out (fun g hg=>by first|exact hg|cases hg) (by simp<;>omega) rfl HV'.out.drew⟩
          · rw [if_neg hcq] at HROW0
            have HROW:Hid (RowAt wr 45 8 (.slice (some ⟨g,off+q.length*8,none⟩) 0 (cap - q.length)) (q.drop 2).length (flat Ask.cells (q.drop 2))):=by
              rw [flat_drop (N:=8) (fun _=>rfl),List.drop_length,Nat.sub_self] at HROW0
              rw [e2];exact HROW0
            clear HROW0 hrow e1 e2
            have hcq2:q.length<cap:=by omega
            go_wp2_with (at_builtin;refine wpList_append_lab (own:=ow) (j:=j) rfl (.tmp 25) (.tmp 33) 39 39 rfl 45 i0 _ 8 64 Tryz.underlying39 hi0 hz0 hz1 hz2 rfl _ (.slice (some ⟨g,off,none⟩) q.length cap) os.length q.length (flat Ask.cells os) (flat Ask.cells (q.take 2)) rfl rfl HV.out HSRC.out (by unfold maxLen;omega) (by omega) ?_;intro v' k' u hv' _)
            have HV':=Lib.hid hv'
            clear hv'
            go_region
            all_goals go_wp2
            all_goals
              go_roundw
              case measure=>simp [intOf];omega
              case rel=>exact ⟨k+1,by omega,by go_num,HST.out _ _ _ _ _ _ HROW.out (fun g hg=>by first|exact hg|cases hg) (by simp<;>omega) rfl HV'.out.drew⟩
        · have h2':(2:Int)≤(q.length:Int):=by omega
          have HSRC:Hid (Src Tryz.prog 8 39 (.slice (some ⟨g,off,none⟩) 2 cap) 2 (flat Ask.cells (q.take 2)) wr):=by
            have h:=hrow.1.take 2 (by omega)
            rw [flat_take (N:=8) (fun _=>rfl)] at h
            exact Src.row Tryz.underlying39 h flat_one'
          have HROW0:=hrow.1.from 2 (by omega)
          rw [flat_drop (N:=8) (fun _=>rfl)] at HROW0
          by_cases hcq:cap=2
          · subst hcq
            rw [if_pos rfl] at HROW0
            have HROW:Hid (RowAt wr 45 8 (.slice (some ⟨g,off,none⟩) 0 0) (q.drop 2).length (flat Ask.cells (q.drop 2))):=by
              rw [show q.length - 2=0 by omega] at HROW0
              rw [List.length_drop,show q.length - 2=0 by omega];exact HROW0
            clear HROW0 hrow
            go_wp2_with (at_builtin;refine wpList_append_lab (own:=ow) (j:=j) rfl (.tmp 25) (.tmp 33) 39 39 rfl 45 i0 _ 8 64 Tryz.underlying39 hi0 hz0 hz1 hz2 rfl _ (.slice (some ⟨g,off,none⟩) 2 2) os.length 2 (flat Ask.cells os) (flat Ask.cells (q.take 2)) rfl rfl HV.out HSRC.out (by unfold maxLen;omega) (by omega) ?_;intro v' k' u hv' _)
            have HV':=Lib.hid hv'
            clear hv'
            go_region
            all_goals go_wp2
            all_goals
              go_roundw
              case measure=>simp [intOf];omega
              case rel=>exact ⟨k+1,by omega,by go_num,HST.out _ _ _ _ _ _ HROW.out (fun g hg=>by first|exact hg|cases hg) (by simp<;>omega) rfl HV'.out.drew⟩
          · rw [if_neg hcq] at HROW0
            have HROW:Hid (RowAt wr 45 8 (.slice (some ⟨g,off+16,none⟩) (q.length - 2) (cap - 2)) (q.drop 2).length (flat Ask.cells (q.drop 2))):=by
              rw [List.length_drop];exact HROW0
            clear HROW0 hrow
            have hcq2:2<cap:=by omega
            go_wp2_with (at_builtin;refine wpList_append_lab (own:=ow) (j:=j) rfl (.tmp 25) (.tmp 33) 39 39 rfl 45 i0 _ 8 64 Tryz.underlying39 hi0 hz0 hz1 hz2 rfl _ (.slice (some ⟨g,off,none⟩) 2 cap) os.length 2 (flat Ask.cells os) (flat Ask.cells (q.take 2)) rfl rfl HV.out HSRC.out (by unfold maxLen;omega) (by omega) ?_;intro v' k' u hv' _)
            have HV':=Lib.hid hv'
            clear hv'
            go_region
            all_goals go_wp2
            all_goals
              go_roundw
              case measure=>simp [intOf];omega
              case rel=>exact ⟨k+1,by omega,by go_num,HST.out _ _ _ _ _ _ HROW.out (fun g hg=>by first|exact hg|cases hg) (by simp<;>omega) rfl HV'.out.drew⟩
    · obtain rfl:k=6:=by omega
      have hW:=Lib.hid (intakeSkip1 hI)
      have HV:=Lib.hid hv
      have HI:=Lib.hid hI
      have HO1:=Lib.hid ho1
      have HO2:=Lib.hid ho2
      have HK:=Lib.hid hK
      clear hv hI ho1 ho2 hK
      go_wp2_with (go_at_call 79;refine (hW.out).mono ?_;rintro e w1 ⟨rfl,rfl⟩)
      all_goals go_ret
      have hI':=(HI.out.setTurn ((turn+1) % 6) (by omega) (.int .i64 (((turn:Int)+1) % 6)) (by simp)).congr (l':=fun d=>(l d).drop 2) (fun d hd=>leftOf_all l turn d hd)
      have hs:(wr.setCell ⟨p,6,none⟩ (.int .i64 (((turn:Int)+1) % 6))).heap.size=wr.heap.size:=by simp [World.setCell]
      have hK':Kp own 1 i w (wr.setCell ⟨p,6,none⟩ (.int .i64 (((turn:Int)+1) % 6))):=HK.out.setCell (fun hp=>by rw [Nat.div_one];exact (HO1.out p hp).2.1 HI.out.main) _
      have hlab:∀ n,n<wr.heap.size→w.heap.size≤n→lab own w.heap.size (wr.heap.size - w.heap.size) j n=j:=fun n h1 h2=>by unfold lab;rw [if_neg (by omega),if_pos (by omega)]
      have hlab2:∀ n,n<w.heap.size→lab own w.heap.size (wr.heap.size - w.heap.size) j n=own n:=fun n h1=>lab_lt h1
      refine ⟨_,rfl,ObjTo.of hK' ⟨hI'.relabel fun n hn e=>?_,?_⟩⟩
      · rw [hs] at hn ⊢
        by_cases hw:n<w.heap.size
        · rw [hlab2 n hw];exact (HO1.out n hw).2.1 e
        · have:=HO2.out n (by omega);rw [if_pos hn,e] at this;exact absurd this hij
      · rw [hs]
        have hv:=HV.out.setCell (p:=⟨p,6,none⟩) (by show ow p≠j;rw [HI.out.main];exact hij) (.int .i64 (((turn:Int)+1) % 6))
        refine ⟨hv.1,fun g hg=>?_⟩
        have h1:=HV.out.2 g hg
        have h2:=HV.out.1.lt g hg
        by_cases hw:g<w.heap.size
        · exact absurd h1 (HO1.out g hw).2.2
        · exact hlab g h2 (by omega)
end
end Go.Proofs.YtabbgpjofkaomaaGreatDoor

/- Records of a tape as lists of bytes: a record is read back, a part of one is none, what is read is read in one way. No program, no condition. -/
set_option linter.unusedSimpArgs false
set_option linter.unusedVariables false
namespace Go.Proofs.YtabbgpjofkaomaaGreatDoor
def be4 (n:Nat):List UInt8:=[UInt8.ofNat (n / 16777216),UInt8.ofNat (n / 65536 % 256),UInt8.ofNat (n / 256 % 256),UInt8.ofNat (n % 256)]
def le4 (n:Nat):List UInt8:=[UInt8.ofNat (n % 256),UInt8.ofNat (n / 256 % 256),UInt8.ofNat (n / 65536 % 256),UInt8.ofNat (n / 16777216)]
theorem be4_len (n:Nat):(be4 n).length=4:=rfl
theorem le4_len (n:Nat):(le4 n).length=4:=rfl
def recL (s:List UInt8):List UInt8:=be4 s.length++be4 (4294967295 - s.length)++s++le4 (crc s)
theorem recL_len (s:List UInt8):(recL s).length=s.length+12:=by simp [recL,be4_len,le4_len];omega
structure Dk where
  b:List UInt8
  off:Bool
  cut:Int
def Dk.appE (d:Dk) (s:List UInt8):Nat :=
  if 10000<s.length then 2
  else if 1048576<d.b.length+(s.length+12) then 8
  else if d.off then 9
  else if 0≤d.cut∧d.cut<(s.length:Int)+12 then 9 else 0
def Dk.app (d:Dk) (s:List UInt8):Dk :=
  if 10000<s.length then d
  else if 1048576<d.b.length+(s.length+12) then d
  else if d.off then d
  else if 0≤d.cut∧d.cut<(s.length:Int)+12 then ⟨d.b++(recL s).take d.cut.toNat,true,d.cut⟩
  else ⟨d.b++recL s,false,if 0≤d.cut then d.cut - ((s.length:Int)+12) else d.cut⟩
def Dk.cutE (d:Dk) (n:Int):Nat:=if n<0 then 2 else if d.off then 9 else 0
def Dk.cutD (d:Dk) (n:Int):Dk:=if n<0 then d else if d.off then d else ⟨d.b,d.off,n⟩
end Go.Proofs.YtabbgpjofkaomaaGreatDoor

/- What high, record and one of package tape compute. -/
set_option linter.unusedSimpArgs false
set_option linter.unusedVariables false
namespace Go.Proofs.YtabbgpjofkaomaaGreatDoor
open Go.RowKit
theorem be4_nums (n:Nat):strOfNums (highB (n:Int))=⟨(be4 n).toArray⟩:=by
  have e1:((n:Int) / 16777216).toNat=n / 16777216:=by omega
  have e2:((n:Int) / 65536 % 256).toNat=n / 65536 % 256:=by omega
  have e3:((n:Int) / 256 % 256).toNat=n / 256 % 256:=by omega
  have e4:((n:Int) % 256).toNat=n % 256:=by omega
  simp only [strOfNums,highB,be4,List.map_cons,List.map_nil,e1,e2,e3,e4]
theorem le4_nums (n:Nat):strOfNums (lowB n)=⟨(le4 n).toArray⟩:=by
  have e1:((n:Int) / 16777216).toNat=n / 16777216:=by omega
  have e2:((n:Int) / 65536 % 256).toNat=n / 65536 % 256:=by omega
  have e3:((n:Int) / 256 % 256).toNat=n / 256 % 256:=by omega
  have e4:((n:Int) % 256).toNat=n % 256:=by omega
  simp only [strOfNums,lowB,le4,List.map_cons,List.map_nil,e1,e2,e3,e4]
set_option maxRecDepth 100000 in
theorem thigh_any (n:Nat) (w:World) (h1:n<4294967296) :
    Calls Tryz.prog 111 #[.int .u32 (n:Int)] w fun e w'=>e=.returned (.string ⟨(be4 n).toArray⟩)∧Ex w w':=by
  have hconv:=run_convert_bytes_arg (P:=Tryz.prog) (w.alloc (.cells #[.int .u8 ((n:Int) / 16777216),.int .u8 ((n:Int) / 65536 % 256),.int .u8 ((n:Int) / 256 % 256),.int .u8 ((n:Int) % 256)] 5))
    135 5 Tryz.underlying135 Tryz.underlying5 w.heap.size 0 4 4 (highB n) rfl
    (fun i hi=>by
      match i,hi with
      | 0,_=>simp [highB]
      | 1,_=>simp [highB]
      | 2,_=>simp [highB]
      | 3,_=>simp [highB]) 9 Tryz.underlying9
  rw [be4_nums] at hconv
  go_enter Tryz.func111,Tryz.ntmps111
  go_wp2
  go_ret
  exact ⟨rfl,(by repeat (first|exact Ex.refl _|refine Ex.alloc ?_ _|refine Ex.ext ?_ _ _|refine Ex.drew ?_|refine Ex.drewN ?_ _))⟩
theorem not_u32 (n:Nat) (h:n<4294967296):bits .xor .u32 IntKind.u32.max (n:Int)=((4294967295 - n:Nat):Int):=by
  have e:4294967295 ^^^ n=4294967295 - n:=by
    have h1:(BitVec.allOnes 32 ^^^ BitVec.ofNat 32 n).toNat=(~~~ (BitVec.ofNat 32 n)).toNat:=by rw [BitVec.allOnes_xor]
    rw [BitVec.toNat_xor,BitVec.toNat_not,BitVec.toNat_ofNat,Nat.mod_eq_of_lt h] at h1
    exact h1
  rw [← e]
  exact bits_xor_u32 4294967295 n (by decide) h
set_option maxRecDepth 100000 in
theorem record_any (s:List UInt8) (w:World) (hs:s.length≤10000) :
    Calls Tryz.prog 81 #[.string ⟨s.toArray⟩] w fun e w'=>e=.returned (.string ⟨(recL s).toArray⟩)∧Ex w w':=by
  have hz:=bytes_size s
  have HH:=Lib.hid (fun n w h=>thigh_any n w h)
  have HS:=Lib.hid (fun w=>sum_any ⟨s.toArray⟩ w (by rw [bytes_size];unfold maxLen;omega))
  have HL:=Lib.hid (fun w=>wireLow_any (crc s) w (crc_lt _))
  rw [le4_nums] at HL
  have q1:(be4 s.length).length=4:=rfl
  have q2:(be4 (4294967295 - s.length)).length=4:=rfl
  have q3:(le4 (crc s)).length=4:=rfl
  have HN:=Lib.hid (not_u32 s.length (by omega))
  have hw:IntKind.u32.wrap (s.length:Int)=(s.length:Int):=IntWalk.u32_in _ (by omega)
  go_enter Tryz.func81,Tryz.ntmps81
  go_wp2_with (first
    | (go_at_call 111;(with_reducible refine (HH.out s.length _ (by omega)).mono ?_);rintro e w1 ⟨rfl,l1,d1,rfl⟩)
    | (go_at_call 111;rw [HN.out];refine (HH.out (4294967295 - s.length) _ (by omega)).mono ?_;rintro e w1 ⟨rfl,l3,d3,rfl⟩)
    | (go_at_call 107;refine (HS.out _).mono ?_;rintro e w1 ⟨rfl,rfl⟩)
    | (go_at_call 106;refine (HL.out _).mono ?_;rintro e w1 ⟨rfl,l2,d2,rfl⟩))
  all_goals go_ret
  all_goals exact ⟨by rw [bytes_add,bytes_add,bytes_add];rfl,(by repeat (first|exact Ex.refl _|refine Ex.alloc ?_ _|refine Ex.ext ?_ _ _|refine Ex.drew ?_|refine Ex.drewN ?_ _))⟩
end Go.Proofs.YtabbgpjofkaomaaGreatDoor

/- A disk: its bytes, is power off, when it fails. What NewDisk, Cut, On, Power and Bytes of package tape compute. -/
set_option linter.unusedSimpArgs false
set_option linter.unusedVariables false
namespace Go.Proofs.YtabbgpjofkaomaaGreatDoor
open Go.RowKit
def dkF (d:Dk):Nat→Value:=fun j=>if j=1 then .bool d.off else .int .i64 d.cut
def byteC (l:List UInt8):List Value:=l.map fun b=>Value.int .u8 b.toNat
theorem byteC_append (l m:List UInt8):byteC (l++m)=byteC l++byteC m:=by simp [byteC]
def DiskAt (own:Nat→Nat) (i:Nat) (w:World) (p:Nat) (d:Dk):Prop:=d.b.length≤1048576∧(-1≤d.cut∧d.cut≤9223372036854775807)∧∃ v,OneAt own i w p 3 (dkF d) 5 1 v d.b.length (byteC d.b)
section
variable {own own':Nat→Nat} {i m g:Nat} {w w':World} {p:Nat} {d:Dk}
theorem DiskAt.lt (h:DiskAt own i w p d):p<w.heap.size:=by obtain ⟨_,_,v,h⟩:=h;exact h.lt
theorem DiskAt.free (h:DiskAt own i w p d) (j:Nat):w.frozen? ⟨p,j,none⟩=false:=by obtain ⟨_,_,v,h⟩:=h;exact h.free j
theorem DiskAt.off (h:DiskAt own i w p d):w.cell? ⟨p,1,none⟩=some (.bool d.off):=by obtain ⟨_,_,v,h⟩:=h;exact h.cell (j:=1) (by decide) (by decide)
theorem DiskAt.cut (h:DiskAt own i w p d):w.cell? ⟨p,2,none⟩=some (.int .i64 d.cut):=by obtain ⟨_,_,v,h⟩:=h;exact h.cell (j:=2) (by decide) (by decide)
theorem DiskAt.kp (h:DiskAt own i w p d) (hk:Kp own m g w w') (hi:i / m≠g) (ho:∀ n,n<w.heap.size→own n=i→own' n=i):DiskAt own' i w' p d:=by
  obtain ⟨h1,h2,v,h3⟩:=h
  exact ⟨h1,h2,v,h3.kp hk hi ho⟩
theorem DiskAt.relabel (h:DiskAt own i w p d) (ho:∀ n,n<w.heap.size→own n=i→own' n=i):DiskAt own' i w p d:=h.kp (m:=1) (g:=i+1) (Kp.refl _ _ _ _) (by simp) ho
theorem DiskAt.later (h:DiskAt own i w p d) (hx:Ex w w'):DiskAt own i w' p d:=by
  obtain ⟨h1,h2,v,h3⟩:=h
  exact ⟨h1,h2,v,h3.later hx⟩
theorem DiskAt.keep (h:DiskAt own i w p d) (hx:Ex w w'):ObjTo own i i w (fun o w'=>DiskAt o i w' p d) w':=ObjTo.of_ex hx ((h.relabel (fun n hn e=>by rw [lab_lt hn];exact e)).later hx)
theorem DiskAt.slice (h:DiskAt own i w p d):∃ ao cap,w.cell? ⟨p,0,none⟩=some (.slice ao d.b.length cap)∧d.b.length≤cap∧cap≤maxLen∧(ao=none→cap=0)∧RowAt w 5 1 (.slice ao d.b.length cap) d.b.length (byteC d.b):=by
  obtain ⟨h1,_,v,h3⟩:=h
  obtain ⟨ao,cap,rfl,hc,hm,h0,_⟩:=h3.2.1.form
  exact ⟨ao,cap,h3.cell0 (by decide),hc,hm,h0,h3.2.1.1⟩
theorem conv_bytes {ao:Option Addr} {n cap:Nat} {l:List UInt8} (hl:l.length=n) (h:RowAt w 5 1 (.slice ao n cap) n (byteC l)) (w':World) (hx:∀ g,(Value.slice ao n cap).ownBlock=some g→w'.heap[g]?=w.heap[g]?) :
    (convert 135 9 (.slice ao n cap)).run Tryz.prog w'=.ok (.string ⟨l.toArray⟩) w':=by
  subst hl
  have h':=h.of_block hx
  cases ao with
  | none =>
    have hl0:l.length=0:=by
      obtain ⟨_,⟨_,h2⟩|⟨g,off,cap',cur,h2,_⟩⟩:=h
      · exact h2
      · cases h2
    obtain rfl:l=[]:=List.eq_nil_of_length_eq_zero hl0
    exact run_convert_bytes_nil w' 135 5 Tryz.underlying135 Tryz.underlying5 0 cap 9 Tryz.underlying9
  | some a =>
    obtain ⟨_,⟨h2,_⟩|⟨g,off,cap',cur,h2,_⟩⟩:=h
    · cases h2
    · cases h2
      refine run_convert_bytes_back w' 135 9 5 ⟨g,off,none⟩ cap l Tryz.underlying135 Tryz.underlying5 Tryz.underlying9 (fun j hj=>?_)
      rw [addr_add]
      have:=h'.cell (j:=j) (by omega)
      rw [this]
      simp [byteC,hj]
end
section
variable {own:Nat→Nat} {i:Nat} {w:World} {p:Nat} {d:Dk}
theorem DiskAt.turn (h:DiskAt own i w p d) (off:Bool) (cut:Int) (hcut:-1≤cut∧cut≤9223372036854775807):ObjTo own i i w (fun o w'=>DiskAt o i w' p ⟨d.b,off,cut⟩) ((w.setCell ⟨p,1,none⟩ (.bool off)).setCell ⟨p,2,none⟩ (.int .i64 cut)):=by
  obtain ⟨h1,h2,v,h3⟩:=h
  obtain ⟨o,g1,g2,g3,g4⟩:=h3.pick
  have hK:Kp o 2 1 w ((w.setCell ⟨p,1,none⟩ (.bool off)).setCell ⟨p,2,none⟩ (.int .i64 cut)):=((Kp.refl _ _ _ _).setCell (fun _=>by rw [g2]) _).setCell (fun _=>by rw [g2]) _
  obtain ⟨t,hrow⟩:=h3.main
  have hm:=((hrow.set 1 (.bool off)).set 2 (.int .i64 cut)).congr (g:=fun j=>if j=0 then v else dkF ⟨d.b,off,cut⟩ j) (fun j hj=>by
    have:j=0∨j=1∨j=2:=by omega
    rcases this with rfl|rfl|rfl<;>simp [dkF])
  have hr:=h3.2.1.1.of_block (w':=((w.setCell ⟨p,1,none⟩ (.bool off)).setCell ⟨p,2,none⟩ (.int .i64 cut))) (fun g hg=>by
    have e:g≠p:=fun e=>h3.2.2.2 (e▸hg)
    rw [Below.heap_setCell _ _ _ _ e,Below.heap_setCell _ _ _ _ e])
  obtain ⟨k1,k2⟩:=h3.turned (f':=dkF ⟨d.b,off,cut⟩) (v':=v) g2 g4 hK ⟨t,hm⟩ hr (fun g hg=>.inl (g1.2 g hg))
  exact ObjTo.of k1 ⟨h1,hcut,v,k2⟩
theorem DiskAt.turn2 (h:DiskAt own i w p d) (cut:Int) (hcut:-1≤cut∧cut≤9223372036854775807):ObjTo own i i w (fun o w'=>DiskAt o i w' p ⟨d.b,d.off,cut⟩) (w.setCell ⟨p,2,none⟩ (.int .i64 cut)):=by
  obtain ⟨h1,h2,v,h3⟩:=h
  obtain ⟨o,g1,g2,g3,g4⟩:=h3.pick
  have hK:Kp o 2 1 w (w.setCell ⟨p,2,none⟩ (.int .i64 cut)):=(Kp.refl _ _ _ _).setCell (fun _=>by rw [g2]) _
  obtain ⟨t,hrow⟩:=h3.main
  have hm:=(hrow.set 2 (.int .i64 cut)).congr (g:=fun j=>if j=0 then v else dkF ⟨d.b,d.off,cut⟩ j) (fun j hj=>by
    have:j=0∨j=1∨j=2:=by omega
    rcases this with rfl|rfl|rfl<;>simp [dkF])
  have hr:=h3.2.1.1.of_block (w':=(w.setCell ⟨p,2,none⟩ (.int .i64 cut))) (fun g hg=>by
    have e:g≠p:=fun e=>h3.2.2.2 (e▸hg)
    rw [Below.heap_setCell _ _ _ _ e])
  obtain ⟨k1,k2⟩:=h3.turned (f':=dkF ⟨d.b,d.off,cut⟩) (v':=v) g2 g4 hK ⟨t,hm⟩ hr (fun g hg=>.inl (g1.2 g hg))
  exact ObjTo.of k1 ⟨h1,hcut,v,k2⟩
set_option maxRecDepth 100000 in
theorem cut_any (h:DiskAt own i w p d) (n:Int) (hn:n≤9223372036854775807) (E:Nat→Addr) (hE:Errs E [2,9] w):Calls Tryz.prog 44 #[.pointer (some ⟨p,0,none⟩),.int .i64 n] w fun e w'=>e=.returned (errV E (d.cutE n))∧ObjTo own i i w (fun o w'=>DiskAt o i w' p (d.cutD n)) w':=by
  have e2:w.cell? ⟨0,0,none⟩=some (.iface 357 (.pointer (some (E 2)))):=hE 2 (by decide)
  have b2:0<w.heap.size:=lt_of_cell e2
  have e9:w.cell? ⟨1,0,none⟩=some (.iface 357 (.pointer (some (E 9)))):=hE 9 (by decide)
  have b9:1<w.heap.size:=lt_of_cell e9
  have c1:=h.off
  have c2:=h.cut
  have f2:=h.free 2
  have hp:=h.lt
  by_cases h0:n<0
  · have H:=Lib.hid (h.keep (Ex.refl w))
    have e1:d.cutE n=2:=by unfold Dk.cutE;rw [if_pos h0]
    have e4:d.cutD n=d:=by unfold Dk.cutD;rw [if_pos h0]
    rw [e1,e4,errV_pos _ _ (by decide)]
    clear e1 e4 h hE
    go_enter Tryz.func44,Tryz.ntmps44
    go_wp2_with fail
    all_goals go_ret
    all_goals exact ⟨rfl,H.out⟩
  cases hoff:d.off with
  | true =>
    have H:=Lib.hid (h.keep (Ex.refl w))
    have e1:d.cutE n=9:=by unfold Dk.cutE;rw [if_neg h0,if_pos hoff]
    have e4:d.cutD n=d:=by unfold Dk.cutD;rw [if_neg h0,if_pos hoff]
    rw [e1,e4,errV_pos _ _ (by decide)]
    rw [hoff] at c1
    clear e1 e4 h hE hoff
    go_enter Tryz.func44,Tryz.ntmps44
    go_wp2_with fail
    all_goals go_ret
    all_goals exact ⟨rfl,H.out⟩
  | false =>
    have H:=Lib.hid (h.turn2 n (by omega))
    have e1:d.cutE n=0:=by unfold Dk.cutE;rw [if_neg h0,if_neg (by rw [hoff];decide)]
    have e4:d.cutD n=⟨d.b,d.off,n⟩:=by unfold Dk.cutD;rw [if_neg h0,if_neg (by rw [hoff];decide)]
    rw [e1,e4,errV_zero]
    rw [hoff] at c1
    clear e1 e4 h hE hoff
    go_enter Tryz.func44,Tryz.ntmps44
    go_wp2_with fail
    all_goals go_ret
    all_goals exact ⟨rfl,H.out⟩
end
end Go.Proofs.YtabbgpjofkaomaaGreatDoor

/- Slices of strings: how they read, and are compared. -/
set_option linter.unusedSimpArgs false
set_option linter.unusedVariables false
namespace Go.Proofs.YtabbgpjofkaomaaGreatDoor
open Go.RowKit
end Go.Proofs.YtabbgpjofkaomaaGreatDoor

/- What NewDisk and Read of package tape compute. -/
set_option linter.unusedSimpArgs false
set_option linter.unusedVariables false
namespace Go.Proofs.YtabbgpjofkaomaaGreatDoor
open Go.RowKit
theorem DiskAt.fresh (own:Nat→Nat) (i:Nat) (w:World) (s:List UInt8) (hs:s.length≤1048576) (c:Nat) (h1:s.length≤c) (h2:c≤maxLen) (t:TypeId) (hp:own (w.heap.size+1)=i) (hq:own w.heap.size=i) :
    DiskAt own i ((w.alloc (.cells (bytesRow ⟨s.toArray⟩ c) 5 ((bytesRow ⟨s.toArray⟩ c).size,(bytesRow ⟨s.toArray⟩ c).size+1))).alloc (.cells #[.slice (some ⟨w.heap.size,0,none⟩) s.length c,.bool false,.int .i64 (-1)] t)) (w.heap.size+1) ⟨s,false,-1⟩:=by
  have hz:=bytes_size s
  refine ⟨hs,⟨(show (-1:Int)≤-1 by decide),(show (-1:Int)≤9223372036854775807 by decide)⟩,.slice (some ⟨w.heap.size,0,none⟩) s.length c,⟨t,?_⟩,⟨⟨by simp [byteC],.inr ⟨w.heap.size,0,c,_,rfl,⟨_,(Below.heap_alloc _ _ _ (by simp)).trans (heap_new rfl),.inr (Nat.le_refl _)⟩,h1,h2,?_,?_⟩⟩,fun g hg=>?_⟩,hp,fun e=>?_⟩
  · have h:=World.rowIs_alloc (w.alloc (.cells (bytesRow ⟨s.toArray⟩ c) 5 ((bytesRow ⟨s.toArray⟩ c).size,(bytesRow ⟨s.toArray⟩ c).size+1))) #[.slice (some ⟨w.heap.size,0,none⟩) s.length c,.bool false,.int .i64 (-1)] t (fun j=>if j=0 then .slice (some ⟨w.heap.size,0,none⟩) s.length c else dkF ⟨s,false,-1⟩ j) (fun j hj=>by
      have:j=0∨j=1∨j=2:=by simp at hj;omega
      rcases this with rfl|rfl|rfl<;>simp [dkF])
    simpa using h
  · simp [bytesRow];omega
  · simp [bytesRow,byteC]
  · cases hg;exact hq
  · have e':=Option.some.inj (show some w.heap.size=some (w.heap.size+1) from e)
    omega
set_option maxRecDepth 100000 in
theorem newDisk_any (own:Nat→Nat) (i:Nat) (s:List UInt8) (w:World) (hs:s.length≤1048576) :
    Calls Tryz.prog 40 #[.string ⟨s.toArray⟩] w fun e w'=>e=.returned (.tuple #[.pointer (some ⟨w.heap.size+1,0,none⟩),.nilIface])∧ObjTo own i i w (fun o w'=>DiskAt o i w' (w.heap.size+1) ⟨s,false,-1⟩) w':=by
  have hz:=bytes_size s
  have hv:=run_bytes_of_string w 9 135 5 ⟨s.toArray⟩ Tryz.underlying9 Tryz.underlying135 Tryz.underlying5
  have hg1:=grownCap_ge w s.length 0 5
  have hg2:=grownCap_le_maxLen w s.length 0 5 (by unfold maxLen;omega)
  rw [hz] at hv
  generalize grownCap w s.length 0 5=c at *
  go_enter Tryz.func40,Tryz.ntmps40
  go_wp2_with fail
  all_goals go_ret2
  all_goals exact ⟨rfl,ObjTo.of (by exact (((Kp.refl _ _ _ _).alloc _).alloc _).drew) (DiskAt.fresh _ _ _ s hs c hg1 hg2 _ (by unfold lab;rw [if_neg (by omega),if_pos (by simp [go_sem];omega)]) (by unfold lab;rw [if_neg (by omega),if_pos (by simp [go_sem];omega)]))⟩
end Go.Proofs.YtabbgpjofkaomaaGreatDoor

/- What write of a disk computes. -/
set_option linter.unusedSimpArgs false
set_option linter.unusedVariables false
namespace Go.Proofs.YtabbgpjofkaomaaGreatDoor
open Go.RowKit
theorem infoU8T:(Tryz.prog.info? 5).map (fun i=>(i.zero,i.size,i.bytes))=some (some (.int .u8 0),1,1):=by kernel_rfl
def wrE (d:Dk) (r:List UInt8):Nat:=if d.off then 9 else if 0≤d.cut∧d.cut<(r.length:Int) then 9 else 0
def wrD (d:Dk) (r:List UInt8):Dk:=if d.off then d else if 0≤d.cut∧d.cut<(r.length:Int) then ⟨d.b++r.take d.cut.toNat,true,d.cut⟩ else ⟨d.b++r,false,if 0≤d.cut then d.cut - (r.length:Int) else d.cut⟩
section
variable {own:Nat→Nat} {i:Nat} {w:World} {p:Nat} {d:Dk}
theorem disk_end {o:Nat→Nat} {v v':Value} {W1 W' u:World} {k:Nat} {x:List UInt8} {d':Dk} (h3:OneAt own i w p 3 (dkF d) 5 1 v d.b.length (byteC d.b)) (g2:o p=3) (g4:∀ n,o n / 2=1→own n=i) (hs:w.heap.size≤W1.heap.size) (hK:Kp o 2 1 w W')
    (hp:∀ g,g≠p→W'.heap[g]?=(ov W1 o 1 2 k u).heap[g]?) (hrow:∃ t,W'.rowIs p t 3 (fun j=>if j=0 then v' else dkF d' j)) (hv:OwnRow (lab o W1.heap.size k 2) 2 (ov W1 o 1 2 k u) 5 1 v' (d.b.length+x.length) (byteC d.b++byteC x))
    (hb:d'.b=d.b++x) (hl:d'.b.length≤1048576) (hcut:-1≤d'.cut∧d'.cut≤9223372036854775807):ObjTo own i i w (fun o w'=>DiskAt o i w' p d') W':=by
  rw [← List.length_append,← byteC_append,← hb] at hv
  obtain ⟨k1,k2⟩:=h3.appEnd g2 g4 hs hK hp hrow hv
  exact ObjTo.of k1 ⟨hl,hcut,v',k2⟩
set_option maxRecDepth 100000 in
theorem write_off (h:DiskAt own i w p d) (r:List UInt8) (E:Nat→Addr) (hE:Errs E [9] w) (ho:d.off=true) :
    Calls Tryz.prog 80 #[.pointer (some ⟨p,0,none⟩),.string ⟨r.toArray⟩] w fun e w'=>e=.returned (errV E 9)∧ObjTo own i i w (fun o w'=>DiskAt o i w' p d) w':=by
  have e9:w.cell? ⟨1,0,none⟩=some (.iface 357 (.pointer (some (E 9)))):=hE 9 (by decide)
  have b9:1<w.heap.size:=lt_of_cell e9
  have c1:=h.off
  have hp:=h.lt
  rw [ho] at c1
  have H:=Lib.hid (h.keep (Ex.refl w))
  rw [errV_pos _ _ (by decide)]
  clear h hE ho
  go_enter Tryz.func80,Tryz.ntmps80
  go_wp2_with fail
  all_goals go_ret
  all_goals exact ⟨rfl,H.out⟩
set_option maxRecDepth 100000 in
set_option maxHeartbeats 1000000 in
theorem write_all (h:DiskAt own i w p d) (r:List UInt8) (hfit:d.b.length+r.length≤1048576) (ho:d.off=false) (hc:d.cut<0) :
    Calls Tryz.prog 80 #[.pointer (some ⟨p,0,none⟩),.string ⟨r.toArray⟩] w fun e w'=>e=.returned .nilIface∧ObjTo own i i w (fun o w'=>DiskAt o i w' p ⟨d.b++r,false,d.cut⟩) w':=by
  have c1:=h.off
  have c2:=h.cut
  have f0:=h.free 0
  have f2:=h.free 2
  have hp:=h.lt
  have zr:=bytes_size r
  have H:=Lib.hid h
  obtain ⟨h1,h2,v,h3⟩:=h
  obtain ⟨o,g1,g2,g3,g4⟩:=h3.pick
  obtain ⟨t,hrow⟩:=h3.main
  obtain ⟨ao,cap,rfl,hcap,_⟩:=h3.2.1.form
  have c0:=h3.cell0 (by decide)
  obtain ⟨i0,hi0,hz0,hz1,hz2⟩:=info_parts infoU8T
  have H3:=Lib.hid h3
  have HROW:=Lib.hid hrow
  have HO:=Lib.hid ho
  have HB:=Lib.hid h2
  rw [ho] at c1
  have d1:decide (0≤d.cut)=false:=decide_eq_false (by omega)
  clear h3 hrow ho h2
  go_enter Tryz.func80,Tryz.ntmps80
  go_wp2_with (at_builtin;refine wpList_append_lab (own:=o) (j:=2) rfl (.tmp 60) (.tmp 61) 135 9 rfl 5 i0 _ 1 1 Tryz.underlying135 hi0 hz0 hz1 hz2 rfl (.slice ao d.b.length cap) (.string ⟨r.toArray⟩) d.b.length r.length (byteC d.b) (byteC r) rfl rfl g1 ?_ (by unfold maxLen;omega) (by omega) ?_;(focus (have hs:=Src.ofString (P:=Tryz.prog) w Tryz.underlying9 ⟨r.toArray⟩;rw [zr,bytes_cells] at hs;exact hs));intro v' k' u hv' hnil;obtain ⟨ao',cap',rfl,hcap',_⟩:=hv'.form)
  all_goals go_ret
  have e:=ov_set_lt w o 1 2 k' u p 0 (.slice ao' (d.b.length+r.length) cap') hp (by rw [g2];decide)
  refine ⟨rfl,disk_end (W1:=w) (k:=k') (u:=u) (x:=r) (v':=.slice ao' (d.b.length+r.length) cap') H3.out g2 g4 (Nat.le_refl _) (grown_kp k' u ((Kp.refl _ _ _ _).setCell (fun _=>by rw [g2]) _)) (fun g hg=>by rw [← e];exact Below.heap_setCell _ _ _ _ hg) ⟨t,?_⟩ hv' rfl (by simp;omega) HB.out⟩
  refine rowIs_ov ((HROW.out.set 0 _).congr fun j hj=>?_) _ _ _ _ _ (by rw [g2];decide)
  have:j=0∨j=1∨j=2:=by omega
  rcases this with rfl|rfl|rfl<;>simp [dkF,HO.out]
set_option maxRecDepth 100000 in
set_option maxHeartbeats 1000000 in
theorem write_rest (h:DiskAt own i w p d) (r:List UInt8) (hfit:d.b.length+r.length≤1048576) (ho:d.off=false) (hc:(r.length:Int)≤d.cut) :
    Calls Tryz.prog 80 #[.pointer (some ⟨p,0,none⟩),.string ⟨r.toArray⟩] w fun e w'=>e=.returned .nilIface∧ObjTo own i i w (fun o w'=>DiskAt o i w' p ⟨d.b++r,false,d.cut - (r.length:Int)⟩) w':=by
  have c1:=h.off
  have c2:=h.cut
  have f0:=h.free 0
  have f1:=h.free 1
  have f2:=h.free 2
  have hp:=h.lt
  have zr:=bytes_size r
  obtain ⟨h1,h2,v,h3⟩:=h
  obtain ⟨o,g1,g2,g3,g4⟩:=h3.pick
  obtain ⟨t,hrow⟩:=h3.main
  obtain ⟨ao,cap,rfl,hcap,_⟩:=h3.2.1.form
  have c0:=h3.cell0 (by decide)
  obtain ⟨i0,hi0,hz0,hz1,hz2⟩:=info_parts infoU8T
  have H3:=Lib.hid h3
  have HROW:=Lib.hid hrow
  have HO:=Lib.hid ho
  have HB:=Lib.hid h2
  rw [ho] at c1
  have d1:decide (0≤d.cut)=true:=decide_eq_true (by omega)
  have d2:decide (d.cut<(r.length:Int))=false:=decide_eq_false (by omega)
  have hw:IntKind.i64.wrap (d.cut - (r.length:Int))=d.cut - (r.length:Int):=IntWalk.i64_in _ (by omega)
  have HC:Hid (-1≤d.cut - (r.length:Int)∧d.cut - (r.length:Int)≤9223372036854775807):=Lib.hid (by omega)
  have hk1:Kp o 2 1 w (w.setCell ⟨p,2,none⟩ (.int .i64 (d.cut - (r.length:Int)))):=(Kp.refl _ _ _ _).setCell (fun _=>by rw [g2]) _
  have hr1:OwnRow o 2 (w.setCell ⟨p,2,none⟩ (.int .i64 (d.cut - (r.length:Int)))) 5 1 (.slice ao d.b.length cap) d.b.length (byteC d.b):=g1.setCell (by rw [g2];decide) _
  have hq1:=HROW.out.set 2 (.int .i64 (d.cut - (r.length:Int)))
  have hs1:(w.setCell ⟨p,2,none⟩ (.int .i64 (d.cut - (r.length:Int)))).heap.size=w.heap.size:=by simp [go_sem]
  have HK1:=Lib.hid hk1
  have HR1:=Lib.hid hr1
  have HQ1:=Lib.hid hq1
  clear h3 hrow ho h2 hk1 hr1 hq1
  go_enter Tryz.func80,Tryz.ntmps80
  go_wp2_with (at_builtin;refine wpList_append_lab (own:=o) (j:=2) rfl (.tmp 60) (.tmp 61) 135 9 rfl 5 i0 _ 1 1 Tryz.underlying135 hi0 hz0 hz1 hz2 rfl (.slice ao d.b.length cap) (.string ⟨r.toArray⟩) d.b.length r.length (byteC d.b) (byteC r) rfl rfl HR1.out ?_ (by unfold maxLen;omega) (by omega) ?_;(focus (have hs:=Src.ofString (P:=Tryz.prog) (w.setCell ⟨p,2,none⟩ (.int .i64 (d.cut - (r.length:Int)))) Tryz.underlying9 ⟨r.toArray⟩;rw [zr,bytes_cells] at hs;exact hs));intro v' k' u hv' hnil;obtain ⟨ao',cap',rfl,hcap',_⟩:=hv'.form)
  all_goals go_ret
  have e:=ov_set_lt (w.setCell ⟨p,2,none⟩ (.int .i64 (d.cut - (r.length:Int)))) o 1 2 k' u p 0 (.slice ao' (d.b.length+r.length) cap') (by rw [hs1];exact hp) (by rw [g2];decide)
  refine ⟨rfl,disk_end (W1:=w.setCell ⟨p,2,none⟩ (.int .i64 (d.cut - (r.length:Int)))) (k:=k') (u:=u) (x:=r) (v':=.slice ao' (d.b.length+r.length) cap') H3.out g2 g4 (Nat.le_of_eq hs1.symm) (grown_kp k' u (HK1.out.setCell (fun _=>by rw [g2]) _)) (fun g hg=>by rw [← e];exact Below.heap_setCell _ _ _ _ hg) ⟨t,?_⟩ hv' rfl (by simp;omega) HC.out⟩
  refine rowIs_ov ((HQ1.out.set 0 _).congr fun j hj=>?_) _ _ _ _ _ (by rw [g2];decide)
  have:j=0∨j=1∨j=2:=by omega
  rcases this with rfl|rfl|rfl<;>simp [dkF,HO.out]
set_option maxRecDepth 100000 in
set_option maxHeartbeats 2000000 in
theorem write_cut (h:DiskAt own i w p d) (r:List UInt8) (E:Nat→Addr) (hE:Errs E [9] w) (hfit:d.b.length+r.length≤1048576) (ho:d.off=false) (c:Nat) (hdc:d.cut=(c:Int)) (hc:c<r.length) (hg:own (gOf 9)≠i) :
    Calls Tryz.prog 80 #[.pointer (some ⟨p,0,none⟩),.string ⟨r.toArray⟩] w fun e w'=>e=.returned (errV E 9)∧ObjTo own i i w (fun o w'=>DiskAt o i w' p ⟨d.b++r.take c,true,d.cut⟩) w':=by
  have e9:w.cell? ⟨1,0,none⟩=some (.iface 357 (.pointer (some (E 9)))):=hE 9 (by decide)
  have b9:1<w.heap.size:=lt_of_cell e9
  have c1:=h.off
  have c2:=h.cut
  have f0:=h.free 0
  have f1:=h.free 1
  have f2:=h.free 2
  have hp:=h.lt
  have zr:=bytes_size r
  obtain ⟨h1,h2,v,h3⟩:=h
  obtain ⟨o,g1,g2,g3,g4⟩:=h3.pick
  obtain ⟨t,hrow⟩:=h3.main
  obtain ⟨ao,cap,rfl,hcap,_⟩:=h3.2.1.form
  have c0:=h3.cell0 (by decide)
  obtain ⟨i0,hi0,hz0,hz1,hz2⟩:=info_parts infoU8T
  have H3:=Lib.hid h3
  have HROW:=Lib.hid hrow
  have HO:=Lib.hid ho
  have HB:=Lib.hid h2
  rw [ho] at c1
  rw [hdc] at c2
  have hg9:¬ o 1=2:=fun e=>hg (g4 1 (by omega))
  have hgp:¬ 1=p:=fun e=>hg (g4 1 (by have h:=g2;rw [← e] at h;omega))
  have d1:decide (0≤(c:Int))=true:=decide_eq_true (by omega)
  have d2:decide ((c:Int)<(r.length:Int))=true:=decide_eq_true (by omega)
  have c3:(c:Int)≤(r.length:Int):=by omega
  have c4:(0:Int)≤(c:Int):=by omega
  have ht:=bytes_head r c
  have htl:(r.take c).length=c:=by rw [List.length_take];omega
  rw [errV_pos _ _ (by decide)]
  clear h3 hrow ho h2 hE
  go_enter Tryz.func80,Tryz.ntmps80
  go_wp2_with fail
  go_region_law
    (((refine step_append_lab (own:=o) (j:=2) ?_ (.tmp 28) (.tmp 34) 135 9 ?_ 5 i0 _ 1 1 Tryz.underlying135 hi0 hz0 hz1 hz2 ?_ (.slice ao d.b.length cap) (.string ⟨(r.take c).toArray⟩) d.b.length c (byteC d.b) (byteC (r.take c)) ?_ ?_ ?_ ?_ ?_ ?_ ?_);(focus rfl);(focus rfl);(focus rfl);(focus rfl);(focus rfl);(focus exact (by repeat (first|exact g1|(refine OwnRow.alloc ?_ _)|(refine OwnRow.drew ?_)|(refine OwnRow.drewN ?_ _)|(refine OwnRow.exts ?_ _ _))));(focus (have hs:=fun w=>Src.ofString (P:=Tryz.prog) w Tryz.underlying9 ⟨(r.take c).toArray⟩;rw [bytes_size,htl,bytes_cells] at hs;exact hs _));(focus (unfold maxLen;omega));(focus omega);intro v' k' u hv' hnil;obtain ⟨ao',cap',rfl,hcap',_⟩:=hv'.form))
  all_goals go_wp2_with fail
  all_goals go_ret
  all_goals
    have e0:=ov_set_lt w.drew o 1 2 k' u p 0 (.slice ao' (d.b.length+c) cap') hp (by rw [g2];decide)
    have e1:=ov_set_lt (w.drew.setCell ⟨p,0,none⟩ (.slice ao' (d.b.length+c) cap')) o 1 2 k' u p 1 (.bool true) (by simp [go_sem];exact hp) (by rw [g2];decide)
    refine ⟨rfl,disk_end (W1:=w.drew) (k:=k') (u:=u) (x:=r.take c) (v':=.slice ao' (d.b.length+c) cap') H3.out g2 g4 (Nat.le_refl _) (grown_kp k' u (((Kp.refl _ _ _ _).setCell (fun _=>by rw [g2]) _).setCell (fun _=>by rw [g2]) _).drew) (fun g hg=>?_) ⟨t,?_⟩ (by rw [htl];exact hv') rfl (by simp;omega) HB.out⟩
    · show (ov ((w.drew.setCell ⟨p,0,none⟩ (.slice ao' (d.b.length+c) cap')).setCell ⟨p,1,none⟩ (.bool true)) o 1 2 k' u).heap[g]?=_
      rw [← e1,← e0]
      exact (Below.heap_setCell _ _ _ _ hg).trans (Below.heap_setCell _ _ _ _ hg)
    · refine rowIs_ov (show World.rowIs ((w.setCell ⟨p,0,none⟩ (.slice ao' (d.b.length+c) cap')).setCell ⟨p,1,none⟩ (.bool true)) _ _ _ _ from ((HROW.out.set 0 _).set 1 _).congr fun j hj=>?_) _ _ _ _ _ (by rw [g2];decide)
      have:j=0∨j=1∨j=2:=by omega
      rcases this with rfl|rfl|rfl<;>simp [dkF]
theorem write_any (h:DiskAt own i w p d) (r:List UInt8) (E:Nat→Addr) (hE:Errs E [9] w) (hg:own (gOf 9)≠i) (hfit:d.b.length+r.length≤1048576) :
    Calls Tryz.prog 80 #[.pointer (some ⟨p,0,none⟩),.string ⟨r.toArray⟩] w fun e w'=>e=.returned (errV E (wrE d r))∧ObjTo own i i w (fun o w'=>DiskAt o i w' p (wrD d r)) w':=by
  have hb:=h.2.1
  cases ho:d.off with
  | true =>
    rw [show wrE d r=9 by unfold wrE;rw [if_pos ho],show wrD d r=d by unfold wrD;rw [if_pos ho]]
    exact write_off h r E hE ho
  | false =>
    have n0:¬ (d.off=true):=by rw [ho];decide
    by_cases hc:d.cut<0
    · rw [show wrE d r=0 by unfold wrE;rw [if_neg n0,if_neg (by omega)],show wrD d r=⟨d.b++r,false,d.cut⟩ by unfold wrD;rw [if_neg n0,if_neg (by omega),if_neg (by omega)]]
      exact write_all h r hfit ho hc
    · by_cases hl:d.cut<(r.length:Int)
      · rw [show wrE d r=9 by unfold wrE;rw [if_neg n0,if_pos (by omega)],show wrD d r=⟨d.b++r.take d.cut.toNat,true,d.cut⟩ by unfold wrD;rw [if_neg n0,if_pos (by omega)]]
        exact write_cut h r E hE hfit ho d.cut.toNat (by omega) (by omega) hg
      · rw [show wrE d r=0 by unfold wrE;rw [if_neg n0,if_neg (by omega)],show wrD d r=⟨d.b++r,false,d.cut - (r.length:Int)⟩ by unfold wrD;rw [if_neg n0,if_neg (by omega),if_pos (by omega)]]
        exact write_rest h r hfit ho (by omega)
end
end Go.Proofs.YtabbgpjofkaomaaGreatDoor

/- What Append and Recover of package tape compute. -/
set_option linter.unusedSimpArgs false
set_option linter.unusedVariables false
namespace Go.Proofs.YtabbgpjofkaomaaGreatDoor
open Go.RowKit
section
variable {own:Nat→Nat} {i:Nat} {w:World} {p:Nat} {d:Dk}
theorem app_is (d:Dk) (s:List UInt8) (h1:¬ 10000<s.length) (h2:¬ 1048576<d.b.length+(s.length+12)):d.appE s=wrE d (recL s)∧d.app s=wrD d (recL s):=by
  unfold Dk.appE wrE Dk.app wrD
  rw [recL_len,if_neg h1,if_neg h2,if_neg h1,if_neg h2]
  exact ⟨rfl,rfl⟩
set_option maxRecDepth 100000 in
set_option maxHeartbeats 1000000 in
theorem append_any (h:DiskAt own i w p d) (s:List UInt8) (hm:s.length≤maxLen) (E:Nat→Addr) (hE:Errs E [2,8,9] w) (hg:own (gOf 9)≠i) :
    Calls Tryz.prog 57 #[.pointer (some ⟨p,0,none⟩),.string ⟨s.toArray⟩] w fun e w'=>e=.returned (errV E (d.appE s))∧ObjTo own i i w (fun o w'=>DiskAt o i w' p (d.app s)) w':=by
  have zs:=bytes_size s
  have hb:=h.1
  unfold maxLen at hm
  obtain ⟨ao,cap,c0,_⟩:=h.slice
  have hp:=h.lt
  by_cases h1:10000<s.length
  · have e2:w.cell? ⟨0,0,none⟩=some (.iface 357 (.pointer (some (E 2)))):=hE 2 (by decide)
    have b2:0<w.heap.size:=lt_of_cell e2
    have H:=Lib.hid (h.keep (Ex.refl w))
    rw [show d.appE s=2 by unfold Dk.appE;rw [if_pos h1],show d.app s=d by unfold Dk.app;rw [if_pos h1],errV_pos _ _ (by decide)]
    have k1:(10000:Int)<(s.length:Int):=by omega
    clear h hE
    go_enter Tryz.func57,Tryz.ntmps57
    go_wp2_with fail
    all_goals go_ret
    all_goals exact ⟨rfl,H.out⟩
  have k1:¬ (10000:Int)<(s.length:Int):=by omega
  by_cases h2:1048576<d.b.length+(s.length+12)
  · have e8:w.cell? ⟨3,0,none⟩=some (.iface 357 (.pointer (some (E 8)))):=hE 8 (by decide)
    have b8:3<w.heap.size:=lt_of_cell e8
    have H:=Lib.hid (h.keep (Ex.refl w))
    rw [show d.appE s=8 by unfold Dk.appE;rw [if_neg h1,if_pos h2],show d.app s=d by unfold Dk.app;rw [if_neg h1,if_pos h2],errV_pos _ _ (by decide)]
    have k2:1048576 - (d.b.length:Int)<(s.length:Int)+12:=by omega
    clear h hE
    go_enter Tryz.func57,Tryz.ntmps57
    go_wp2_with fail
    all_goals go_ret
    all_goals exact ⟨rfl,H.out⟩
  have k2:¬ 1048576 - (d.b.length:Int)<(s.length:Int)+12:=by omega
  rw [(app_is d s h1 h2).1,(app_is d s h1 h2).2]
  have HR:=Lib.hid (fun w=>record_any s w (by omega))
  have HW:=Lib.hid (fun w' (hx:Ex w w')=>write_any (h.later hx) (recL s) E (Errs.sub (hE.ex hx) (by decide)) hg (by rw [recL_len];omega))
  clear h hE
  go_enter Tryz.func57,Tryz.ntmps57
  go_wp2_with (first
    | (go_at_call 81;refine (HR.out _).mono ?_;rintro e w1 ⟨rfl,l1,d1,rfl⟩)
    | (go_at_call 80;refine (HW.out _ (by repeat (first|exact Ex.refl _|refine Ex.alloc ?_ _|refine Ex.ext ?_ _ _|refine Ex.drew ?_|refine Ex.drewN ?_ _))).mono ?_;rintro e w2 ⟨rfl,hT⟩))
  all_goals go_ret
  all_goals exact ⟨rfl,ObjTo.after (by repeat (first|exact Ex.refl _|refine Ex.alloc ?_ _|refine Ex.ext ?_ _ _|refine Ex.drew ?_|refine Ex.drewN ?_ _)) hT (fun o o' ho hI=>hI.relabel ho)⟩
end
end Go.Proofs.YtabbgpjofkaomaaGreatDoor
