import Derived.Test.YtabbgpjofkaomaaGreatDoorIntake1
import Derived.Deep.RegionLaw
set_option linter.unusedSimpArgs false
set_option linter.unusedVariables false
/- What Drain of an intake computes. -/
namespace Go.Proofs.YtabbgpjofkaomaaGreatDoor
open Go.RowKit
def outOf (l:Nat→List Ask) (turn:Nat):Nat→List Ask
  | 0=>[]
  | k+1=>outOf l turn k++(l ((turn+k) % 6)).take 2
def leftOf (l:Nat→List Ask) (turn:Nat):Nat→Nat→List Ask
  | 0=>l
  | k+1=>fun d=>if d=(turn+k) % 6 then (l d).drop 2 else leftOf l turn k d
theorem infoAsk':(Tryz.prog.info? 45).map (fun i=>(i.zero,i.size,i.bytes))=some (some (.agg #[.int .u8 0,.int .i64 0,.int .i64 0,.int .i64 0,.int .i64 0,.int .i64 0,.int .i64 0,.int .i64 0]),8,64):=by kernel_rfl
theorem outOf_length (l:Nat→List Ask) (turn:Nat):∀ k,(outOf l turn k).length≤2*k
  | 0=>by simp [outOf]
  | k+1=>by have:=outOf_length l turn k;simp only [outOf,List.length_append,List.length_take];omega
theorem leftOf_spec (l:Nat→List Ask) (turn:Nat) (d:Nat):∀ k,leftOf l turn k d=if (List.range k).any (fun j=>(turn+j) % 6==d) then (l d).drop 2 else l d
  | 0=>by simp [leftOf]
  | k+1=>by
    simp only [leftOf,leftOf_spec l turn d k,List.range_succ,List.any_append,List.any_cons,List.any_nil,Bool.or_false]
    by_cases h:d=(turn+k) % 6
    · simp [h]
    · have:¬ (turn+k) % 6=d:=fun e=>h e.symm
      simp [h,this]
theorem leftOf_here (l:Nat→List Ask) (turn k:Nat) (hk:k<6):leftOf l turn k ((turn+k) % 6)=l ((turn+k) % 6):=by
  rw [leftOf_spec,if_neg]
  simp
  omega
theorem leftOf_all (l:Nat→List Ask) (turn d:Nat) (hd:d<6):leftOf l turn 6 d=(l d).drop 2:=by
  rw [leftOf_spec,if_pos]
  simp only [List.any_eq_true,List.mem_range,beq_iff_eq]
  exact ⟨(d+6 - turn % 6) % 6,by omega,by omega⟩
def DrainInv (own:Nat→Nat) (i j:Nat) (w:World) (p:Nat) (l:Nat→List Ask) (turn k:Nat) (v:Value) (wr:World):Prop :=
  ∃ ow:Nat→Nat,OwnRow ow j wr 45 8 v (outOf l turn k).length (flat Ask.cells (outOf l turn k))∧IntakeAt ow i wr p (leftOf l turn k) turn∧(∀ n,n<w.heap.size→(own n=i→ow n=i)∧(ow n=i→own n=i)∧ow n≠j) ∧
    (∀ n,w.heap.size≤n→ow n=if n<wr.heap.size then j else own n)∧Kp own 1 i w wr
theorem flat_one' {l:List Ask}:∀ u∈flat Ask.cells l,u.oneCell'=true:=by
  intro u hu
  simp only [flat,List.mem_flatMap] at hu
  obtain ⟨a,_,hu⟩:=hu
  simp only [Ask.cells,List.mem_cons,List.not_mem_nil,or_false] at hu
  rcases hu with rfl|rfl|rfl|rfl|rfl|rfl|rfl|rfl<;>rfl
section
variable {own:Nat→Nat} {i j:Nat} {w:World} {p:Nat} {l:Nat→List Ask} {turn:Nat}
theorem RowAt.take {w:World} {e:TypeId} {size:Nat} {ao:Option Addr} {cap n:Nat} {xs:List Value} (h:RowAt w e size (.slice ao n cap) n xs) (k:Nat) (hk:k≤n):RowAt w e size (.slice ao k cap) k (xs.take (k*size)):=by
  obtain ⟨h1,⟨h2,h3⟩|⟨g,off,cap',cur,h2,⟨fr,hg,hf⟩,hr⟩⟩:=h
  · obtain ⟨rfl,rfl,rfl⟩:ao=none∧n=0∧cap=0:=by cases h2;exact ⟨rfl,rfl,rfl⟩
    obtain rfl:k=0:=by omega
    exact ⟨by simp,.inl ⟨rfl,rfl⟩⟩
  · cases h2
    have e1:k*size≤n*size:=Nat.mul_le_mul_right _ hk
    refine ⟨by rw [List.length_take,h1,Nat.min_eq_left e1],.inr ⟨g,off,cap,cur,rfl,⟨fr,hg,hf⟩,by omega,hr.2.1,hr.2.2.1,?_⟩⟩
    rw [← hr.2.2.2,List.take_take,Nat.min_eq_left e1]
theorem RowAt.from {w:World} {e:TypeId} {size:Nat} {g off cap n:Nat} {xs:List Value} (h:RowAt w e size (.slice (some ⟨g,off,none⟩) n cap) n xs) (k:Nat) (hk:k≤n) :
    RowAt w e size (.slice (if cap=k then some ⟨g,off,none⟩ else some ⟨g,off+k*size,none⟩) (n - k) (cap - k)) (n - k) (xs.drop (k*size)):=by
  by_cases e:cap=k
  · have hn:n=k:=by
      obtain ⟨h1,⟨h2,_⟩|⟨g',off',cap',cur,h2,hg,hr⟩⟩:=h
      · cases h2
      · cases h2;omega
    subst e
    rw [if_pos rfl]
    obtain ⟨h1,⟨h2,_⟩|⟨g',off',cap',cur,h2,hg,hr⟩⟩:=h
    · cases h2
    · cases h2
      refine ⟨by simp [h1,hn],.inr ⟨g,off,n - n,cur,by simp [hn],hg,by omega,by omega,by have:=hr.2.2.1;simp;omega,?_⟩⟩
      subst hn
      simp [List.drop_of_length_le (Nat.le_of_eq h1)]
  · rw [if_neg e]
    exact h.drop k hk
theorem drain_step (hij:i≠j) {k:Nat} (hk:k<6) {wr:World} {ow:Nat→Nat} (hI:IntakeAt ow i wr p (leftOf l turn k) turn) (ho1:∀ n,n<w.heap.size→(own n=i→ow n=i)∧(ow n=i→own n=i)∧ow n≠j) (ho2:∀ n,w.heap.size≤n→ow n=if n<wr.heap.size then j else own n) (hK:Kp own 1 i w wr)
    (o:Nat→Nat) (h3:o p=3) (hi:∀ n,o n / 2=1→ow n=i)
    (hend:∀ W' own' v' x,x.length≤6→RowAt W' 45 8 v' x.length (flat Ask.cells x)→(∀ g,v'.ownBlock=some g→(o g=2∨wr.heap.size≤g)∧own' g=i)→(wr.heap.size≤W'.heap.size∧∀ n,n<wr.heap.size→ow n=i→o n / 2≠1→W'.heap[n]?=wr.heap[n]?) →
        (∀ t f,wr.rowIs p t 7 f→W'.rowIs p t 7 (fun d=>if d=(turn+k) % 6 then v' else f d))→(∀ n,n<wr.heap.size→ow n=i→own' n=i)→IntakeAt own' i W' p (fun d=>if d=(turn+k) % 6 then x else leftOf l turn k d) turn)
    {vq vq' v':Value} (hq:OwnRow o 2 wr 45 8 vq (l ((turn+k) % 6)).length (flat Ask.cells (l ((turn+k) % 6)))) (hl6:(l ((turn+k) % 6)).length≤6)
    (hq':RowAt wr 45 8 vq' ((l ((turn+k) % 6)).drop 2).length (flat Ask.cells ((l ((turn+k) % 6)).drop 2))) (hqb:∀ g,vq'.ownBlock=some g→vq.ownBlock=some g) {k':Nat} {u:World} {m:Nat} {news:List Value} (hm:m=((l ((turn+k) % 6)).take 2).length) (hnews:news=flat Ask.cells ((l ((turn+k) % 6)).take 2))
    (hv':OwnRow (lab ow wr.heap.size k' j) j (ov wr ow 1 j k' u) 45 8 v' ((outOf l turn k).length+m) (flat Ask.cells (outOf l turn k)++news)) :
    DrainInv own i j w p l turn (k+1) v' (ov (wr.setCell ⟨p,(turn+k) % 6,none⟩ vq') ow 1 j k' u):=by
  have hp:=hI.lt
  have hop:=hI.main
  have hsz:=hK.size
  have e:=ov_set_lt wr ow 1 j k' u p ((turn+k) % 6) vq' hp (by rw [Nat.div_one,hop];exact hij)
  have hpj:lab ow wr.heap.size k' j p≠j:=by rw [lab_lt hp,hop];exact hij
  have hsize:(ov (wr.setCell ⟨p,(turn+k) % 6,none⟩ vq') ow 1 j k' u).heap.size=wr.heap.size+k':=by simp [go_sem]
  have hoj:∀ n,w.heap.size≤n→n<wr.heap.size→ow n=j:=fun n h1 h2=>by rw [ho2 n h1,if_pos h2]
  subst hm
  subst hnews
  refine ⟨lab ow wr.heap.size k' j,?_,?_,fun n hn=>by rw [lab_lt (by omega)];exact ho1 n hn,fun n hn=>?_,?_⟩
  · rw [← e,outOf,List.length_append,flat_append]
    exact hv'.setCell hpj _
  · have hrow:RowAt (ov (wr.setCell ⟨p,(turn+k) % 6,none⟩ vq') ow 1 j k' u) 45 8 vq' ((l ((turn+k) % 6)).drop 2).length (flat Ask.cells ((l ((turn+k) % 6)).drop 2)):=by
      refine hq'.of_block fun g hg=>?_
      have hg2:=hq.2 g (hqb g hg)
      have hlt:=hq'.lt g hg
      have hgp:g≠p:=by rintro rfl;omega
      rw [ov_heap _ _ _ _ _ _ _ (by simpa [World.setCell] using hlt) (by rw [Nat.div_one,hi g (by rw [hg2])];exact hij)]
      exact Below.heap_setCell _ _ _ _ hgp
    have hx:=hend _ (lab ow wr.heap.size k' j) vq' ((l ((turn+k) % 6)).drop 2) (by rw [List.length_drop];omega) hrow (fun g hg=>⟨.inl (hq.2 g (hqb g hg)),by rw [lab_lt (hq'.lt g hg)];exact hi g (by rw [hq.2 g (hqb g hg)])⟩) ?_ ?_ (fun n hn h=>by rw [lab_lt hn];exact h)
    · have e2:(fun d=>if d=(turn+k) % 6 then (l ((turn+k) % 6)).drop 2 else leftOf l turn k d)=leftOf l turn (k+1):=by
        funext d
        simp only [leftOf]
        by_cases h:d=(turn+k) % 6
        · simp [h]
        · simp [h]
      rw [e2] at hx
      exact hx
    · refine ⟨by rw [hsize];omega,fun n hn h1 h2=>?_⟩
      rw [ov_heap _ _ _ _ _ _ _ (by simpa [World.setCell] using hn) (by rw [Nat.div_one,h1];exact hij)]
      exact Below.heap_setCell _ _ _ _ (fun e=>h2 (by have e':n=p:=e;rw [e',h3]))
    · intro t f hf
      exact rowIs_ov (hf.set _ _) _ _ _ _ _ (by rw [Nat.div_one,hop];exact hij)
  · rw [hsize]
    unfold lab
    by_cases h1:n<wr.heap.size
    · rw [if_pos h1,hoj n hn h1,if_pos (by omega)]
    · rw [if_neg h1]
      by_cases h2:n<wr.heap.size+k'
      · rw [if_pos h2,if_pos h2]
      · rw [if_neg h2,if_neg h2,ho2 n hn,if_neg h1]
  · refine (Kp.setCell hK (fun h=>?_) _).ov _ _ _ _ _ (fun n hn h=>?_)
    · show own p / 1=i
      rw [Nat.div_one]
      exact (ho1 p h).2.1 hop
    · rw [Nat.div_one] at h ⊢
      exact absurd h (ho1 n hn).2.2
def DrainTo (own:Nat→Nat) (i j:Nat) (w:World) (p:Nat) (l:Nat→List Ask) (turn:Nat) (e:Ending) (w':World):Prop :=
  ∃ v,e=.returned v∧ObjTo own i j w (fun o w'=>IntakeAt o i w' p (fun d=>(l d).drop 2) ((turn+1) % 6)∧OwnRow o j w' 45 8 v (outOf l turn 6).length (flat Ask.cells (outOf l turn 6))) w'
set_option maxRecDepth 100000 in
set_option maxHeartbeats 4000000 in
theorem drain_any (hij:i≠j) (h:IntakeAt own i w p l turn):Calls Tryz.prog 55 #[.pointer (some ⟨p,0,none⟩)] w (DrainTo own i j w p l turn):=by
  obtain ⟨i0,hi0,hz0,hz1,hz2⟩:=info_parts infoAsk'
  have hl6:=h.2.1
  have ht6:=h.1
  have H0:DrainInv own i j w p l turn 0 (.slice none 0 0) w:=by
    refine ⟨fun n=>if n<w.heap.size then (if own n=i then i else i+j+1) else own n,OwnRow.nil _ _ _ _ _,h.kp (m:=1) (g:=i+1) (Kp.refl _ _ _ _) (by simp) (fun n hn e=>by simp [hn,e]),fun n hn=>?_,fun n hn=>?_,Kp.refl _ _ _ _⟩
    · simp only [hn,if_true]
      by_cases e:own n=i
      · simp only [e,if_true];exact ⟨id,id,hij⟩
      · simp only [e,if_false];exact ⟨fun h=>h.elim,fun h=>by omega,by omega⟩
    · have:¬ n<w.heap.size:=by omega
      simp [this]
  have HH:=Lib.hid H0
  have HL:=Lib.hid hl6
  have H:=Lib.hid h
  clear H0 hl6 h
  go_enter Tryz.func55,Tryz.ntmps55
  go_wp2
  go_loopw [3,7] (fun v ik wr=>∃ k:Nat,k≤6∧ik=.int .i64 k∧DrainInv own i j w p l turn k v wr) (fun _ ik _=>6 - (intOf ik).toNat)
  case atStart=>exact ⟨0,by omega,rfl,HH.out⟩
  case round =>
    obtain ⟨k,hk,rfl,ow,hv,hI,ho1,ho2,hK⟩:=hrel
    by_cases hlt:k<6
    · obtain ⟨ao,cap,o,hcell,hcap,hrow,h3,h0,hi,hend⟩:=hI.pick ((turn+k) % 6) (by omega)
      have hlh:=leftOf_here l turn k hlt
      rw [hlh] at hcell hrow hcap
      have hp:=hI.lt
      have hop:=hI.main
      have hfr:=hI.free ((turn+k) % 6)
      have htc:=hI.turnCell
      have hl6:=HL.out ((turn+k) % 6) (by omega)
      have hol:=outOf_length l turn k
      have HST:=Lib.hid (fun vq' v' k' u m news=>@drain_step own i j w p l turn hij k hlt wr ow hI ho1 ho2 hK o h3 hi hend _ vq' v' hrow hl6 (k':=k') (u:=u) (m:=m) (news:=news))
      have HI:=Lib.hid hI
      have HV:=Lib.hid hv
      clear hlh ho1 ho2 hK hend h3 h0 hi hI hv
      obtain ⟨c,hc⟩:∃ c,c=(turn+k) % 6:=⟨_,rfl⟩
      rw [← hc] at hcell hrow hcap hfr hl6 HST
      have hcm:((turn:Int)+(k:Int)) % 6=(c:Int):=by omega
      have hc0:(0:Int)≤(c:Int):=by omega
      have hc6:(c:Int)<6:=by omega
      have HC:=Lib.hid hc
      clear hc
      generalize (outOf l turn k)=os at *
      generalize l c=q at *
      rcases ao with _|⟨g,off,sp⟩
      · have hq0:q=[]∧cap=0:=by
          rcases hrow.1.2 with ⟨h1,h2⟩|⟨_,_,_,_,h1,_⟩
          · simp only [Value.slice.injEq] at h1;exact ⟨List.eq_nil_of_length_eq_zero h2,h1.2.2⟩
          · simp at h1
        obtain ⟨rfl,rfl⟩:=hq0
        have HSRC:=Lib.hid (Src.ofNil (P:=Tryz.prog) (size:=8) wr Tryz.underlying39 0)
        have HROW:=Lib.hid (RowAt.nil wr 45 8)
        clear hrow hcap hl6
        go_wp2_with (at_builtin;refine wpList_append_lab (own:=ow) (j:=j) rfl (.tmp 25) (.tmp 33) 39 39 rfl 45 i0 _ 8 64 Tryz.underlying39 hi0 hz0 hz1 hz2 rfl _ (.slice none 0 0) os.length 0 (flat Ask.cells os) (flat Ask.cells ([]:List Ask)) rfl rfl HV.out HSRC.out (by unfold maxLen;omega) (by omega) ?_;intro v' k' u hv' _)
        have HV':=Lib.hid hv'
        clear hv'
        go_region
        all_goals go_wp2
        all_goals
          go_roundw
          case measure=>simp [intOf];omega
          case rel=>exact ⟨k+1,by omega,by go_num,HST.out _ _ _ _ _ _ HROW.out (fun g hg=>by first|exact hg|cases hg) (by simp<;>omega) rfl HV'.out.drew⟩
      · obtain rfl:sp=none:=by
          rcases hrow.1.2 with ⟨h1,_⟩|⟨g',off',_,_,h1,_⟩
          · simp at h1
          · simp only [Value.slice.injEq,Option.some.injEq,Addr.mk.injEq] at h1;exact h1.1.2.2
        by_cases h2:q.length<2
        · have e1:q.take 2=q:=List.take_of_length_le (by omega)
          have e2:q.drop 2=[]:=List.drop_of_length_le (by omega)
          have h2':(q.length:Int)<2:=by omega
          have hmin:min (2:Int) (q.length:Int)=(q.length:Int):=by omega
          have HSRC:Hid (Src Tryz.prog 8 39 (.slice (some ⟨g,off,none⟩) q.length cap) q.length (flat Ask.cells (q.take 2)) wr):=by
            rw [e1];exact Src.row Tryz.underlying39 hrow.1 flat_one'
          have HROW0:=hrow.1.from q.length (Nat.le_refl _)
          by_cases hcq:cap=q.length
          · subst hcq
            rw [if_pos rfl] at HROW0
            have HROW:Hid (RowAt wr 45 8 (.slice (some ⟨g,off,none⟩) 0 0) (q.drop 2).length (flat Ask.cells (q.drop 2))):=by
              rw [flat_drop (N:=8) (fun _=>rfl),List.drop_length,Nat.sub_self] at HROW0
              rw [e2];exact HROW0
            clear HROW0 hrow e1 e2
            go_wp2_with (at_builtin;refine wpList_append_lab (own:=ow) (j:=j) rfl (.tmp 25) (.tmp 33) 39 39 rfl 45 i0 _ 8 64 Tryz.underlying39 hi0 hz0 hz1 hz2 rfl _ (.slice (some ⟨g,off,none⟩) q.length q.length) os.length q.length (flat Ask.cells os) (flat Ask.cells (q.take 2)) rfl rfl HV.out HSRC.out (by unfold maxLen;omega) (by omega) ?_;intro v' k' u hv' _)
            have HV':=Lib.hid hv'
            clear hv'
            go_region
            all_goals go_wp2
            all_goals
              go_roundw
              case measure=>simp [intOf];omega
              case rel=>exact ⟨k+1,by omega,by go_num,HST.out _ _ _ _ _ _ HROW.out (fun g hg=>by first|exact hg|cases hg) (by simp<;>omega) rfl HV'.out.drew⟩
          · rw [if_neg hcq] at HROW0
            have HROW:Hid (RowAt wr 45 8 (.slice (some ⟨g,off+q.length*8,none⟩) 0 (cap - q.length)) (q.drop 2).length (flat Ask.cells (q.drop 2))):=by
              rw [flat_drop (N:=8) (fun _=>rfl),List.drop_length,Nat.sub_self] at HROW0
              rw [e2];exact HROW0
            clear HROW0 hrow e1 e2
            have hcq2:q.length<cap:=by omega
            go_wp2_with (at_builtin;refine wpList_append_lab (own:=ow) (j:=j) rfl (.tmp 25) (.tmp 33) 39 39 rfl 45 i0 _ 8 64 Tryz.underlying39 hi0 hz0 hz1 hz2 rfl _ (.slice (some ⟨g,off,none⟩) q.length cap) os.length q.length (flat Ask.cells os) (flat Ask.cells (q.take 2)) rfl rfl HV.out HSRC.out (by unfold maxLen;omega) (by omega) ?_;intro v' k' u hv' _)
            have HV':=Lib.hid hv'
            clear hv'
            go_region
            all_goals go_wp2
            all_goals
              go_roundw
              case measure=>simp [intOf];omega
              case rel=>exact ⟨k+1,by omega,by go_num,HST.out _ _ _ _ _ _ HROW.out (fun g hg=>by first|exact hg|cases hg) (by simp<;>omega) rfl HV'.out.drew⟩
        · have h2':(2:Int)≤(q.length:Int):=by omega
          have hmin:min (2:Int) (q.length:Int)=2:=by omega
          have HSRC:Hid (Src Tryz.prog 8 39 (.slice (some ⟨g,off,none⟩) 2 cap) 2 (flat Ask.cells (q.take 2)) wr):=by
            have h:=hrow.1.take 2 (by omega)
            rw [flat_take (N:=8) (fun _=>rfl)] at h
            exact Src.row Tryz.underlying39 h flat_one'
          have HROW0:=hrow.1.from 2 (by omega)
          rw [flat_drop (N:=8) (fun _=>rfl)] at HROW0
          by_cases hcq:cap=2
          · subst hcq
            rw [if_pos rfl] at HROW0
            have HROW:Hid (RowAt wr 45 8 (.slice (some ⟨g,off,none⟩) 0 0) (q.drop 2).length (flat Ask.cells (q.drop 2))):=by
              rw [show q.length - 2=0 by omega] at HROW0
              rw [List.length_drop,show q.length - 2=0 by omega];exact HROW0
            clear HROW0 hrow
            go_wp2_with (at_builtin;refine wpList_append_lab (own:=ow) (j:=j) rfl (.tmp 25) (.tmp 33) 39 39 rfl 45 i0 _ 8 64 Tryz.underlying39 hi0 hz0 hz1 hz2 rfl _ (.slice (some ⟨g,off,none⟩) 2 2) os.length 2 (flat Ask.cells os) (flat Ask.cells (q.take 2)) rfl rfl HV.out HSRC.out (by unfold maxLen;omega) (by omega) ?_;intro v' k' u hv' _)
            have HV':=Lib.hid hv'
            clear hv'
            go_region
            all_goals go_wp2
            all_goals
              go_roundw
              case measure=>simp [intOf];omega
              case rel=>exact ⟨k+1,by omega,by go_num,HST.out _ _ _ _ _ _ HROW.out (fun g hg=>by first|exact hg|cases hg) (by simp<;>omega) rfl HV'.out.drew⟩
          · rw [if_neg hcq] at HROW0
            have HROW:Hid (RowAt wr 45 8 (.slice (some ⟨g,off+16,none⟩) (q.length - 2) (cap - 2)) (q.drop 2).length (flat Ask.cells (q.drop 2))):=by
              rw [List.length_drop];exact HROW0
            clear HROW0 hrow
            have hcq2:2<cap:=by omega
            go_wp2_with (at_builtin;refine wpList_append_lab (own:=ow) (j:=j) rfl (.tmp 25) (.tmp 33) 39 39 rfl 45 i0 _ 8 64 Tryz.underlying39 hi0 hz0 hz1 hz2 rfl _ (.slice (some ⟨g,off,none⟩) 2 cap) os.length 2 (flat Ask.cells os) (flat Ask.cells (q.take 2)) rfl rfl HV.out HSRC.out (by unfold maxLen;omega) (by omega) ?_;intro v' k' u hv' _)
            have HV':=Lib.hid hv'
            clear hv'
            go_region
            all_goals go_wp2
            all_goals
              go_roundw
              case measure=>simp [intOf];omega
              case rel=>exact ⟨k+1,by omega,by go_num,HST.out _ _ _ _ _ _ HROW.out (fun g hg=>by first|exact hg|cases hg) (by simp<;>omega) rfl HV'.out.drew⟩
    · obtain rfl:k=6:=by omega
      have hW:=Lib.hid (intakeSkip1 hI)
      have HV:=Lib.hid hv
      have HI:=Lib.hid hI
      have HO1:=Lib.hid ho1
      have HO2:=Lib.hid ho2
      have HK:=Lib.hid hK
      clear hv hI ho1 ho2 hK
      go_wp2_with (go_at_call 79;refine (hW.out).mono ?_;rintro e w1 ⟨rfl,rfl⟩)
      all_goals go_ret
      have hI':=(HI.out.setTurn ((turn+1) % 6) (by omega) (.int .i64 (((turn:Int)+1) % 6)) (by simp)).congr (l':=fun d=>(l d).drop 2) (fun d hd=>leftOf_all l turn d hd)
      have hs:(wr.setCell ⟨p,6,none⟩ (.int .i64 (((turn:Int)+1) % 6))).heap.size=wr.heap.size:=by simp [World.setCell]
      have hK':Kp own 1 i w (wr.setCell ⟨p,6,none⟩ (.int .i64 (((turn:Int)+1) % 6))):=HK.out.setCell (fun hp=>by rw [Nat.div_one];exact (HO1.out p hp).2.1 HI.out.main) _
      have hlab:∀ n,n<wr.heap.size→w.heap.size≤n→lab own w.heap.size (wr.heap.size - w.heap.size) j n=j:=fun n h1 h2=>by unfold lab;rw [if_neg (by omega),if_pos (by omega)]
      have hlab2:∀ n,n<w.heap.size→lab own w.heap.size (wr.heap.size - w.heap.size) j n=own n:=fun n h1=>lab_lt h1
      refine ⟨_,rfl,ObjTo.of hK' ⟨hI'.relabel fun n hn e=>?_,?_⟩⟩
      · rw [hs] at hn ⊢
        by_cases hw:n<w.heap.size
        · rw [hlab2 n hw];exact (HO1.out n hw).2.1 e
        · have:=HO2.out n (by omega);rw [if_pos hn,e] at this;exact absurd this hij
      · rw [hs]
        have hv:=HV.out.setCell (p:=⟨p,6,none⟩) (by show ow p≠j;rw [HI.out.main];exact hij) (.int .i64 (((turn:Int)+1) % 6))
        refine ⟨hv.1,fun g hg=>?_⟩
        have h1:=HV.out.2 g hg
        have h2:=HV.out.1.lt g hg
        by_cases hw:g<w.heap.size
        · exact absurd h1 (HO1.out g hw).2.2
        · exact hlab g h2 (by omega)
end
end Go.Proofs.YtabbgpjofkaomaaGreatDoor
