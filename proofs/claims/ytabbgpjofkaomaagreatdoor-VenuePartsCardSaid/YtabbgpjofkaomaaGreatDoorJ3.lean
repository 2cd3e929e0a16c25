import Derived.Test.YtabbgpjofkaomaaGreatDoorJ1
import Derived.Deep.RegionLaw
import Derived.Deep.RegionHeld3
import Derived.Test.YtabbgpjofkaomaaGreatDoorBDel
import Derived.Test.YtabbgpjofkaomaaGreatDoorJ0
import Derived.Deep.OwnRows
set_option linter.unusedSimpArgs false
set_option linter.unusedVariables false
/- What Add of a book computes. -/
namespace Go.Proofs.YtabbgpjofkaomaaGreatDoor
open Go.RowKit
def addE (l:List Lot) (x:Lot):Nat:=if x.ok then (if 0≤idIdx l x.id then 7 else if 60≤l.length then 8 else 0) else 2
def addL (l:List Lot) (x:Lot):List Lot:=if addE l x=0 then l++[x] else l
section
variable {own:Nat→Nat} {i:Nat} {w:World} {p:Nat} {l:List Lot}
set_option maxRecDepth 100000 in
theorem add_bad (h:BookAt own i w p l) (x:Lot) (E:Nat→Addr) (hE:Errs E [2,7,8] w) (hk:x.ok=false) :
  Calls Tryz.prog 149 #[.pointer (some ⟨p,0,none⟩),x.val] w fun e w'=>e=.returned (errV E 2)∧ObjTo own i i w (fun o w'=>BookAt o i w' p l) w':=by
 have HO:=Lib.hid (fun w (h:Errs E [2] w)=>one_any x E w h)
 rw [hk] at HO
 simp only [Bool.false_eq_true,if_false,errV_pos E 2 (by decide)] at HO
 have e2:w.cell? ⟨0,0,none⟩=some (.iface 357 (.pointer (some (E 2)))):=hE 2 (by decide)
 have b2:0<w.heap.size:=lt_of_cell e2
 have HE:=Lib.hid hE
 have H:=Lib.hid h
 clear hE hk h
 rw [errV_pos E 2 (by decide)]
 go_enter Tryz.func149,Tryz.ntmps149
 go_wp2_with (go_at_call 180;refine (HO.out _ (by exact Errs.sub (HE.out.ex (by repeat (first|exact Ex.refl _|refine Ex.alloc ?_ _|refine Ex.ext ?_ _ _|refine Ex.drew ?_|refine Ex.drewN ?_ _))) (by decide))).mono ?_;rintro e w1 ⟨rfl,l1,d1,rfl⟩)
 all_goals go_ret
 all_goals exact ⟨rfl,H.out.keep (by repeat (first|exact Ex.refl _|refine Ex.alloc ?_ _|refine Ex.ext ?_ _ _|refine Ex.drew ?_|refine Ex.drewN ?_ _))⟩
set_option maxRecDepth 100000 in
theorem add_exist (h:BookAt own i w p l) (x:Lot) (E:Nat→Addr) (hE:Errs E [2,7,8] w) (hk:x.ok=true) (k:Nat) (hi:idIdx l x.id=(k:Int)) :
  Calls Tryz.prog 149 #[.pointer (some ⟨p,0,none⟩),x.val] w fun e w'=>e=.returned (errV E 7)∧ObjTo own i i w (fun o w'=>BookAt o i w' p l) w':=by
 have HO:=Lib.hid (fun w (h:Errs E [2] w)=>one_any x E w h)
 rw [hk] at HO
 simp only [if_true,errV_zero] at HO
 have HF:=Lib.hid (fun W (hx:Ex w W)=>find_any (h.later hx) x.id)
 rw [hi] at HF
 have e7:w.cell? ⟨8,0,none⟩=some (.iface 357 (.pointer (some (E 7)))):=hE 7 (by decide)
 have b7:8<w.heap.size:=lt_of_cell e7
 have HE:=Lib.hid hE
 have H:=Lib.hid h
 clear hE hk h hi
 rw [errV_pos E 7 (by decide)]
 go_enter Tryz.func149,Tryz.ntmps149
 go_wp2_with (first
  | (go_at_call 180;refine (HO.out _ (by exact Errs.sub (HE.out.ex (by repeat (first|exact Ex.refl _|refine Ex.alloc ?_ _|refine Ex.ext ?_ _ _|refine Ex.drew ?_|refine Ex.drewN ?_ _))) (by decide))).mono ?_;rintro e w1 ⟨rfl,l1,d1,rfl⟩)
  | (go_at_call 156;refine (HF.out _ (by repeat (first|exact Ex.refl _|refine Ex.alloc ?_ _|refine Ex.ext ?_ _ _|refine Ex.drew ?_|refine Ex.drewN ?_ _))).mono ?_;rintro e w1 ⟨rfl,l2,d2,rfl⟩))
 all_goals go_ret
 all_goals exact ⟨rfl,H.out.keep (by repeat (first|exact Ex.refl _|refine Ex.alloc ?_ _|refine Ex.ext ?_ _ _|refine Ex.drew ?_|refine Ex.drewN ?_ _))⟩
set_option maxRecDepth 100000 in
theorem add_full (h:BookAt own i w p l) (x:Lot) (E:Nat→Addr) (hE:Errs E [2,7,8] w) (hk:x.ok=true) (hi:idIdx l x.id=-1) (hf:60≤l.length) :
  Calls Tryz.prog 149 #[.pointer (some ⟨p,0,none⟩),x.val] w fun e w'=>e=.returned (errV E 8)∧ObjTo own i i w (fun o w'=>BookAt o i w' p l) w':=by
 obtain ⟨ao,cap,c0,hc,hm,h0,hl,hr⟩:=h.slice
 have hp:=h.lt
 have hb:=h.1
 have HO:=Lib.hid (fun w (h:Errs E [2] w)=>one_any x E w h)
 rw [hk] at HO
 simp only [if_true,errV_zero] at HO
 have HF:=Lib.hid (fun W (hx:Ex w W)=>find_any (h.later hx) x.id)
 rw [hi] at HF
 have e8:w.cell? ⟨3,0,none⟩=some (.iface 357 (.pointer (some (E 8)))):=hE 8 (by decide)
 have b8:3<w.heap.size:=lt_of_cell e8
 have HE:=Lib.hid hE
 have H:=Lib.hid h
 have k2:(60:Int)≤(l.length:Int):=by omega
 clear hE hk h hi hl hr h0
 rw [errV_pos E 8 (by decide)]
 go_enter Tryz.func149,Tryz.ntmps149
 go_wp2_with (first
  | (go_at_call 180;refine (HO.out _ (by exact Errs.sub (HE.out.ex (by repeat (first|exact Ex.refl _|refine Ex.alloc ?_ _|refine Ex.ext ?_ _ _|refine Ex.drew ?_|refine Ex.drewN ?_ _))) (by decide))).mono ?_;rintro e w1 ⟨rfl,l1,d1,rfl⟩)
  | (go_at_call 156;refine (HF.out _ (by repeat (first|exact Ex.refl _|refine Ex.alloc ?_ _|refine Ex.ext ?_ _ _|refine Ex.drew ?_|refine Ex.drewN ?_ _))).mono ?_;rintro e w1 ⟨rfl,l2,d2,rfl⟩))
 all_goals go_ret
 all_goals exact ⟨rfl,H.out.keep (by repeat (first|exact Ex.refl _|refine Ex.alloc ?_ _|refine Ex.ext ?_ _ _|refine Ex.drew ?_|refine Ex.drewN ?_ _))⟩
theorem add_end (h:BookAt own i w p l) {v:Value} (h3:OneAt own i w p 1 (fun _=>.nilIface) 131 5 v l.length (flat Lot.cells l)) (x:Lot) (hx:x.wf) (hf:l.length<60) {o:Nat→Nat} (g2:o p=3) (g4:∀ n,o n / 2=1→own n=i)
  (c1 c2:Array Value) (t1 t2:TypeId) (l1:List Obj) (d1 k':Nat) (u:World) (v':Value)
  (hv':OwnRow (lab o ((ext (w.alloc (.cells c1 t1)) l1 d1).alloc (.cells c2 t2)).heap.size k' 2) 2 (ov ((ext (w.alloc (.cells c1 t1)) l1 d1).alloc (.cells c2 t2)) o 1 2 k' u) 131 5 v' (l.length+1) (flat Lot.cells l++x.cells)) :
  ObjTo own i i w (fun o w'=>BookAt o i w' p (l++[x])) (ov ((ext ((w.setCell ⟨p,0,none⟩ v').alloc (.cells c1 t1)) l1 d1).alloc (.cells c2 t2)) o 1 2 k' u):=by
 have hp:=h3.lt
 obtain ⟨t,hrow⟩:=h3.main
 have e:ov ((ext ((w.setCell ⟨p,0,none⟩ v').alloc (.cells c1 t1)) l1 d1).alloc (.cells c2 t2)) o 1 2 k' u=(ov ((ext (w.alloc (.cells c1 t1)) l1 d1).alloc (.cells c2 t2)) o 1 2 k' u).setCell ⟨p,0,none⟩ v':=by
  simp [go_sem,↓IntWalk.iteOmega,g2]
 have hK:Kp o 2 1 w (ov ((ext ((w.setCell ⟨p,0,none⟩ v').alloc (.cells c1 t1)) l1 d1).alloc (.cells c2 t2)) o 1 2 k' u) :=
  grown_kp k' u (((((Kp.refl _ _ _ _).setCell (fun _=>by rw [g2]) _).alloc _).ext _ _).alloc _)
 have hv2:=hv'
 rw [show l.length+1=(l++[x]).length by simp,show flat Lot.cells l++x.cells=flat Lot.cells (l++[x]) by rw [flat_append,flat_one]] at hv2
 obtain ⟨k1,k2⟩:=h3.appEnd (W1:=(ext (w.alloc (.cells c1 t1)) l1 d1).alloc (.cells c2 t2)) (k:=k') (u:=u) (f':=fun _=>.nilIface) (v':=v') g2 g4 (by simp [go_sem];omega) hK (fun g hg=>by rw [e];exact Below.heap_setCell _ _ _ _ hg) ⟨t,rowIs_ov ((rowIs_ext (((hrow.set 0 v').congr (g:=fun j=>if j=0 then v' else .nilIface) (fun j hj=>by
  obtain rfl:j=0:=by omega
  simp)).alloc _) _ _).alloc _) _ _ _ _ _ (by rw [g2];decide)⟩ hv2
 refine ObjTo.of k1 ⟨by simp;omega,fun y hy=>?_,v',k2⟩
 rw [List.mem_append,List.mem_singleton] at hy
 rcases hy with hy|rfl
 ·exact h.2.1 y hy
 ·exact hx
set_option maxRecDepth 100000 in
set_option maxHeartbeats 8000000 in
theorem add_ok (h:BookAt own i w p l) (x:Lot) (hx:x.wf) (E:Nat→Addr) (hE:Errs E [2,7,8] w) (hk:x.ok=true) (hi:idIdx l x.id=-1) (hf:l.length<60) :
  Calls Tryz.prog 149 #[.pointer (some ⟨p,0,none⟩),x.val] w fun e w'=>e=.returned .nilIface∧ObjTo own i i w (fun o w'=>BookAt o i w' p (l++[x])) w':=by
 have HO:=Lib.hid (fun w (h:Errs E [2] w)=>one_any x E w h)
 rw [hk] at HO
 simp only [if_true,errV_zero] at HO
 have HF:=Lib.hid (fun W (hx:Ex w W)=>find_any (h.later hx) x.id)
 rw [hi] at HF
 have HE:=Lib.hid hE
 have H:=Lib.hid h
 obtain ⟨_,_,v,h3⟩:=h
 obtain ⟨o,g1,g2,g3,g4⟩:=h3.pick
 obtain ⟨ao,cap,rfl,hcap,_⟩:=h3.2.1.form
 have c0:=h3.cell0 (by decide)
 have f0:=h3.free 0
 have hp:=h3.lt
 have H3:=Lib.hid h3
 have HX:=Lib.hid hx
 obtain ⟨i0,hi0,hz0,hz1,hz2⟩:=info_parts infoLotB
 have k2:¬ (60:Int)≤(l.length:Int):=by omega
 clear hE hk hi h3 hx
 go_enter Tryz.func149,Tryz.ntmps149
 go_wp2_with (first
  | (go_at_call 180;refine (HO.out _ (by exact Errs.sub (HE.out.ex (by repeat (first|exact Ex.refl _|refine Ex.alloc ?_ _|refine Ex.ext ?_ _ _|refine Ex.drew ?_|refine Ex.drewN ?_ _))) (by decide))).mono ?_;rintro e w1 ⟨rfl,l1,d1,rfl⟩)
  | (go_at_call 156;refine (HF.out _ (by repeat (first|exact Ex.refl _|refine Ex.alloc ?_ _|refine Ex.ext ?_ _ _|refine Ex.drew ?_|refine Ex.drewN ?_ _))).mono ?_;rintro e w1 ⟨rfl,l2,d2,rfl⟩))
 generalize l1++l2=l3 at *
 have q0:p≠w.heap.size:=by omega
 have q1:p≠w.heap.size+1+l3.length:=by omega
 have q2:p<w.heap.size+1:=by omega
 have q3:p<w.heap.size+1+l3.length+1:=by omega
 have q4:w.heap.size<w.heap.size+1+l3.length+1:=by omega
 have q5:p<w.heap.size+1+l3.length:=by omega
 go_region_law
  (((refine step_append_lab (own:=o) (j:=2) ?_ (.tmp 29) (.tmp 31) 65 65 ?_ 131 i0 _ 5 40 Tryz.underlying65 hi0 hz0 hz1 hz2 ?_ (.slice ao l.length cap) (.slice (some ⟨w.heap.size+1+l3.length,0,none⟩) 1 1) l.length 1 (flat Lot.cells l) (Lot.cells x) ?_ ?_ ?_ ?_ ?_ ?_ ?_);(focus rfl);(focus rfl);(focus rfl);(focus rfl);(focus (simp [go_sem];done));(focus exact (by repeat (first|exact g1|(refine OwnRow.alloc ?_ _)|(refine OwnRow.drew ?_)|(refine OwnRow.drewN ?_ _)|(refine OwnRow.exts ?_ _ _))));(focus exact (Src.block Tryz.underlying65 1 1 (cs:=#[.int .i64 x.id,.int .i64 x.owner,.int .i64 x.side,.int .i64 x.price,.int .i64 x.qty]) (t:=131) (fr:=(0,0)) (heap_new (by simp [go_sem])) (by simp) (by simp [Value.oneCell'])));(focus (unfold maxLen;omega));(focus omega);intro v' k' u hv' hnil;obtain ⟨ao',cap',rfl,hcap',_⟩:=hv'.form))
 all_goals go_wp2_with fail
 all_goals go_ret
 all_goals exact ⟨rfl,add_end H.out H3.out x HX.out hf g2 g4 _ _ _ _ l3 _ _ _ _ hv'⟩
theorem add_any (h:BookAt own i w p l) (x:Lot) (hx:x.wf) (E:Nat→Addr) (hE:Errs E [2,7,8] w) :
  Calls Tryz.prog 149 #[.pointer (some ⟨p,0,none⟩),x.val] w fun e w'=>e=.returned (errV E (addE l x))∧ObjTo own i i w (fun o w'=>BookAt o i w' p (addL l x)) w':=by
 have hadd:∀ n,addE l x=n→n≠0→addL l x=l:=fun n hn h0=>by unfold addL;rw [if_neg (by omega)]
 cases hk:x.ok with
 | false =>
  have e:addE l x=2:=by simp [addE,hk]
  rw [hadd 2 e (by decide),e]
  exact add_bad h x E hE hk
 | true =>
  rcases idIdx_cases l x.id with ⟨k,hkl,hi,_⟩|⟨hi,_⟩
  ·have e:addE l x=7:=by simp [addE,hk,hi]
   rw [hadd 7 e (by decide),e]
   exact add_exist h x E hE hk k hi
  ·by_cases hf:60≤l.length
   ·have e:addE l x=8:=by simp [addE,hk,hi,hf]
    rw [hadd 8 e (by decide),e]
    exact add_full h x E hE hk hi hf
   ·have e:addE l x=0:=by simp [addE,hk,hi,hf]
    have e2:addL l x=l++[x]:=by unfold addL;rw [if_pos e]
    rw [e,e2,errV_zero]
    exact add_ok h x hx E hE hk hi (by omega)
end
end Go.Proofs.YtabbgpjofkaomaaGreatDoor

/- What Cancel and Take of a book compute. -/
namespace Go.Proofs.YtabbgpjofkaomaaGreatDoor
open Go.RowKit
theorem OnlyAt.cell {g:Nat} {w w':World} (h:OnlyAt g w w') {b:Nat} (hb:b≠g) (j:Nat):w'.cell? ⟨b,j,none⟩=w.cell? ⟨b,j,none⟩:=World.cell?_of_block (h.block b hb)
theorem OnlyAt.frozen {g:Nat} {w w':World} (h:OnlyAt g w w') {b:Nat} (hb:b≠g) (j:Nat):w'.frozen? ⟨b,j,none⟩=w.frozen? ⟨b,j,none⟩:=World.frozen?_of_block (h.block b hb)
theorem book_end {own:Nat→Nat} {i:Nat} {w:World} {p:Nat} {l l':List Lot} {g off n cap:Nat} (h:BookAt own i w p l) (h3:OneAt own i w p 1 (fun _=>.nilIface) 131 5 (.slice (some ⟨g,off,none⟩) n cap) l.length (flat Lot.cells l))
  {o:Nat→Nat} (g1:OwnRow o 2 w 131 5 (.slice (some ⟨g,off,none⟩) n cap) l.length (flat Lot.cells l)) (g2:o p=3) (g4:∀ n,o n / 2=1→own n=i) {W':World} (hK:Kp o 2 1 w W') {n':Nat}
  (hrow:∃ t,W'.rowIs p t 1 (fun j=>if j=0 then .slice (some ⟨g,off,none⟩) n' cap else .nilIface)) (hr:RowAt W' 131 5 (.slice (some ⟨g,off,none⟩) n' cap) n' (flat Lot.cells l')) (hl':l'.length=n') (hs:∀ x∈l',x.wf) (h60:n'≤60) :
  ObjTo own i i w (fun o w'=>BookAt o i w' p l') W':=by
 subst hl'
 obtain ⟨k1,k2⟩:=h3.turned (f':=fun _=>.nilIface) g2 g4 hK hrow hr (fun b hb=>.inl (g1.2 b hb))
 exact ObjTo.of k1 ⟨h60,hs,_,k2⟩
def Lot.less (x:Lot) (q:Int):Lot:=⟨x.id,x.owner,x.side,x.price,x.qty - q⟩
theorem flat_set (l:List Lot) (k:Nat) (hk:k<l.length) (q:Int):flat Lot.cells (l.set k (l[k].less q))=(flat Lot.cells l).set (k*5+4) (.int .i64 (l[k].qty - q)):=by
 apply List.ext_getElem?
 intro n
 have e1:=flat_length lotc_len (l.set k (l[k].less q))
 have e2:=flat_length lotc_len l
 rw [List.length_set] at e1
 by_cases hn:n<l.length*5
 ·have ha:n / 5<l.length:=by omega
  have hm:n / 5*5+n % 5=n:=by omega
  have h5:n % 5<5:=by omega
  have f1:=flat_get lotc_len (l.set k (l[k].less q)) (n / 5) (by rw [List.length_set];exact ha) (n % 5) h5
  have f2:=flat_get lotc_len l (n / 5) ha (n % 5) h5
  rw [hm] at f1 f2
  rw [f1,List.getElem?_set,f2]
  by_cases hk5:n / 5=k
  ·subst hk5
   have:n % 5=0∨n % 5=1∨n % 5=2∨n % 5=3∨n % 5=4:=by omega
   simp only [List.getElem_set_self]
   rcases this with h|h|h|h|h
   ·rw [if_neg (by omega),h];rfl
   ·rw [if_neg (by omega),h];rfl
   ·rw [if_neg (by omega),h];rfl
   ·rw [if_neg (by omega),h];rfl
   ·rw [if_pos (by omega),h,if_pos (by rw [e2];omega)];rfl
  ·rw [List.getElem_set_ne (by omega),if_neg (by omega)]
 ·rw [List.getElem?_eq_none (by omega),List.getElem?_eq_none (by rw [List.length_set];omega)]
theorem row_set {P:Program} {w:World} {e:TypeId} {g off n cap:Nat} {l:List Lot} (hl:l.length=n) (h:RowAt w e 5 (.slice (some ⟨g,off,none⟩) n cap) n (flat Lot.cells l)) {k:Nat} (hk:k<l.length) (q:Int) :
  RowAt (w.setCell ⟨g,off+k*5+4,none⟩ (.int .i64 (l[k].qty - q))) e 5 (.slice (some ⟨g,off,none⟩) n cap) n (flat Lot.cells (l.set k (l[k].less q)))∧OnlyAt g w (w.setCell ⟨g,off+k*5+4,none⟩ (.int .i64 (l[k].qty - q))):=by
 obtain ⟨h1,⟨h2,_⟩|⟨g',off',cap',cur,h2,⟨fr,hg,hf⟩,hnc,hm,hs,ht⟩⟩:=h
 ·cases h2
 cases h2
 have hcn:n*5≤cap*5:=Nat.mul_le_mul_right _ hnc
 have s1:w.setCell ⟨g,off+k*5+4,none⟩ (.int .i64 (l[k].qty - q))=_:=setCells_row (P:=P) (vs:=[.int .i64 (l[k].qty - q)]) (o:=off+k*5+4) hg hf (by simp;omega) (by intro v hv;simp at hv;subst hv;rfl)
 have hst:cur.toList.take (off+k*5+4)++[Value.int .i64 (l[k].qty - q)]++cur.toList.drop (off+k*5+4+1)=cur.toList.set (off+k*5+4) (.int .i64 (l[k].qty - q)):=by
  rw [List.set_eq_take_append_cons_drop,if_pos (by simp;omega)]
  simp
 simp only [List.length_singleton] at s1
 rw [hst] at s1
 rw [s1]
 refine ⟨⟨by rw [flat_length lotc_len,List.length_set,hl],.inr ⟨g,off,cap,_,rfl,⟨fr,setRow_heap w g cur _ e fr hg,hf.imp id (fun h=>by simpa using h)⟩,hnc,hm,by simpa using hs,?_⟩⟩,⟨rfl,rfl,rfl,by simp,fun b hb=>setRow_other _ _ _ _ hb⟩⟩
 rw [flat_set,← ht,List.toList_toArray,List.drop_set,if_neg (by omega),List.take_set]
 congr 1
 omega
section
variable {own:Nat→Nat} {i:Nat} {w:World} {p:Nat} {l:List Lot}
set_option maxRecDepth 100000 in
theorem cancel_none (h:BookAt own i w p l) (id:Int) (E:Nat→Addr) (hE:Errs E [6] w) (hi:idIdx l id=-1) :
  Calls Tryz.prog 146 #[.pointer (some ⟨p,0,none⟩),.int .i64 id] w fun e w'=>e=.returned (.tuple #[zeroLot.val,errV E 6])∧ObjTo own i i w (fun o w'=>BookAt o i w' p l) w':=by
 have HF:=Lib.hid (fun W (hx:Ex w W)=>find_any (h.later hx) id)
 rw [hi] at HF
 have e6:w.cell? ⟨7,0,none⟩=some (.iface 357 (.pointer (some (E 6)))):=hE 6 (by decide)
 have b6:7<w.heap.size:=lt_of_cell e6
 have H:=Lib.hid h
 clear hE hi h
 rw [errV_pos E 6 (by decide)]
 go_enter Tryz.func146,Tryz.ntmps146
 go_wp2_with (go_at_call 156;refine (HF.out _ (by repeat (first|exact Ex.refl _|refine Ex.alloc ?_ _|refine Ex.ext ?_ _ _|refine Ex.drew ?_|refine Ex.drewN ?_ _))).mono ?_;rintro e w1 ⟨rfl,l1,d1,rfl⟩)
 go_region
 all_goals go_wp2_with fail
 all_goals ((try simp only [Exit.inBlock,Exit.then]);(refine bodyPost_ret (v:=.tuple #[zeroLot.val,.iface 357 (.pointer (some (E 6)))]) ?_ rfl ⟨rfl,H.out.keep (by repeat (first|exact Ex.refl _|refine Ex.alloc ?_ _|refine Ex.ext ?_ _ _|refine Ex.drew ?_|refine Ex.drewN ?_ _))⟩);simp only [results,Tryz.results146];simp [go_sem,↓IntWalk.iteOmega,zeroLot])
set_option maxRecDepth 100000 in
set_option maxHeartbeats 2000000 in
theorem cancel_in (h:BookAt own i w p l) (id:Int) (k:Nat) (hk:k<l.length) (hi:idIdx l id=(k:Int)) :
  Calls Tryz.prog 146 #[.pointer (some ⟨p,0,none⟩),.int .i64 id] w fun e w'=>e=.returned (.tuple #[l[k].val,.nilIface])∧ObjTo own i i w (fun o w'=>BookAt o i w' p (l.eraseIdx k)) w':=by
 have HF:=Lib.hid (fun W (hx:Ex w W)=>find_any (h.later hx) id)
 rw [hi] at HF
 have H:=Lib.hid h
 obtain ⟨hb,hwf,v,h3⟩:=h
 obtain ⟨o,g1,g2,g3,g4⟩:=h3.pick
 obtain ⟨ao,cap,rfl,hcap,hcm,hca,_⟩:=h3.2.1.form
 obtain ⟨_,_,_,hz⟩:=lotsB_of_row hwf (by omega) rfl h3.2.1.1
 obtain ⟨g,off,rfl,hg,hcc⟩:=hz (by omega)
 have c0:=h3.cell0 (by decide)
 have f0:=h3.free 0
 have hp:=h3.lt
 have hpg:p≠g:=fun e=>h3.2.2.2 (by rw [e];rfl)
 have hzk:=hcc k hk
 have a0:=hzk 0 (by omega)
 have a1:=hzk 1 (by omega)
 have a2:=hzk 2 (by omega)
 have a3:=hzk 3 (by omega)
 have a4:=hzk 4 (by omega)
 simp only [Lot.cells,List.getElem?_cons_zero,List.getElem?_cons_succ,Nat.add_zero] at a0 a1 a2 a3 a4
 have H3:=Lib.hid h3
 have HWF:=Lib.hid hwf
 have HD:=Lib.hid (fun W (hx:Ex w W)=>delete_any (w:=W) (g:=g) (off:=off) (cap:=cap) rfl (h3.2.1.1.of_block (fun b hb=>hx.below.block b (h3.2.1.1.lt b hb))) hk (by omega))
 generalize l[k]=x at *
 clear hz hcc hzk hi h3 hwf hca
 go_enter Tryz.func146,Tryz.ntmps146
 go_upto_region 5 with (go_at_call 156;refine (HF.out _ (by repeat (first|exact Ex.refl _|refine Ex.alloc ?_ _|refine Ex.ext ?_ _ _|refine Ex.drew ?_|refine Ex.drewN ?_ _))).mono ?_;rintro e w1 ⟨rfl,l1,d1,rfl⟩)
 go_wp2_with fail
 refine (HD.out _ (by repeat (first|exact Ex.refl _|refine Ex.alloc ?_ _|refine Ex.ext ?_ _ _|refine Ex.drew ?_|refine Ex.drewN ?_ _))).mono ?_
 rintro e w3 ⟨rfl,hr3,ho3⟩
 have hgw:g≠w.heap.size:=by omega
 have hgx:g≠w.heap.size+1+l1.length:=by omega
 have hpr:p≠w.heap.size:=by omega
 have hxr:w.heap.size+1+l1.length≠w.heap.size:=by omega
 have z3:w3.heap.size=w.heap.size+1+l1.length+1:=by rw [ho3.size];simp [go_sem]
 have r0:w3.cell? ⟨w.heap.size,0,none⟩=some (.int .i64 0):=by rw [ho3.cell (Ne.symm hgw)];simp [go_sem,↓IntWalk.iteOmega]
 have x0:w3.cell? ⟨w.heap.size+1+l1.length,0,none⟩=some (.int .i64 x.id):=by rw [ho3.cell (Ne.symm hgx)];simp [go_sem,↓IntWalk.iteOmega]
 have rf0:w3.frozen? ⟨w.heap.size,0,none⟩=false:=by rw [ho3.frozen (Ne.symm hgw)];simp [go_sem,↓IntWalk.iteOmega]
 have r1:w3.cell? ⟨w.heap.size,1,none⟩=some (.int .i64 0):=by rw [ho3.cell (Ne.symm hgw)];simp [go_sem,↓IntWalk.iteOmega]
 have x1:w3.cell? ⟨w.heap.size+1+l1.length,1,none⟩=some (.int .i64 x.owner):=by rw [ho3.cell (Ne.symm hgx)];simp [go_sem,↓IntWalk.iteOmega]
 have rf1:w3.frozen? ⟨w.heap.size,1,none⟩=false:=by rw [ho3.frozen (Ne.symm hgw)];simp [go_sem,↓IntWalk.iteOmega]
 have r2:w3.cell? ⟨w.heap.size,2,none⟩=some (.int .i64 0):=by rw [ho3.cell (Ne.symm hgw)];simp [go_sem,↓IntWalk.iteOmega]
 have x2:w3.cell? ⟨w.heap.size+1+l1.length,2,none⟩=some (.int .i64 x.side):=by rw [ho3.cell (Ne.symm hgx)];simp [go_sem,↓IntWalk.iteOmega]
 have rf2:w3.frozen? ⟨w.heap.size,2,none⟩=false:=by rw [ho3.frozen (Ne.symm hgw)];simp [go_sem,↓IntWalk.iteOmega]
 have r3:w3.cell? ⟨w.heap.size,3,none⟩=some (.int .i64 0):=by rw [ho3.cell (Ne.symm hgw)];simp [go_sem,↓IntWalk.iteOmega]
 have x3:w3.cell? ⟨w.heap.size+1+l1.length,3,none⟩=some (.int .i64 x.price):=by rw [ho3.cell (Ne.symm hgx)];simp [go_sem,↓IntWalk.iteOmega]
 have rf3:w3.frozen? ⟨w.heap.size,3,none⟩=false:=by rw [ho3.frozen (Ne.symm hgw)];simp [go_sem,↓IntWalk.iteOmega]
 have r4:w3.cell? ⟨w.heap.size,4,none⟩=some (.int .i64 0):=by rw [ho3.cell (Ne.symm hgw)];simp [go_sem,↓IntWalk.iteOmega]
 have x4:w3.cell? ⟨w.heap.size+1+l1.length,4,none⟩=some (.int .i64 x.qty):=by rw [ho3.cell (Ne.symm hgx)];simp [go_sem,↓IntWalk.iteOmega]
 have rf4:w3.frozen? ⟨w.heap.size,4,none⟩=false:=by rw [ho3.frozen (Ne.symm hgw)];simp [go_sem,↓IntWalk.iteOmega]
 have pc:w3.cell? ⟨p,0,none⟩=some (.slice (some ⟨g,off,none⟩) l.length cap):=by rw [ho3.cell hpg];simp [go_sem,↓IntWalk.iteOmega,c0]
 have pf:w3.frozen? ⟨p,0,none⟩=false:=by rw [ho3.frozen hpg];simp [go_sem,↓IntWalk.iteOmega,f0]
 have key:ObjTo own i i w (fun o w'=>BookAt o i w' p (l.eraseIdx k)) ((((((w3.setCell ⟨p,0,none⟩ (.slice (some ⟨g,off,none⟩) (l.length - 1) cap)).setCell ⟨w.heap.size,0,none⟩ (.int .i64 x.id)).setCell ⟨w.heap.size,1,none⟩ (.int .i64 x.owner)).setCell ⟨w.heap.size,2,none⟩ (.int .i64 x.side)).setCell ⟨w.heap.size,3,none⟩ (.int .i64 x.price)).setCell ⟨w.heap.size,4,none⟩ (.int .i64 x.qty)):=by
  have hK0:Kp o 2 1 w ((ext (w.alloc (.cells #[.int .i64 0,.int .i64 0,.int .i64 0,.int .i64 0,.int .i64 0] 131)) l1 d1).alloc (.cells #[.int .i64 x.id,.int .i64 x.owner,.int .i64 x.side,.int .i64 x.price,.int .i64 x.qty] 131)):=((((Kp.refl _ _ _ _).alloc _).ext _ _).alloc _)
  have hog:o g=2:=g1.2 g rfl
  have hK3:Kp o 2 1 w w3:=hK0.trans ho3.os ho3.tape ho3.output (Nat.le_of_eq ho3.size.symm) (fun b hb hne=>ho3.block b (fun e=>hne (by rw [e,hog])))
  have hrb:w.heap.size<w.heap.size→o w.heap.size / 2=1:=fun h=>absurd h (Nat.lt_irrefl _)
  have hKF:Kp o 2 1 w ((((((w3.setCell ⟨p,0,none⟩ (.slice (some ⟨g,off,none⟩) (l.length - 1) cap)).setCell ⟨w.heap.size,0,none⟩ (.int .i64 x.id)).setCell ⟨w.heap.size,1,none⟩ (.int .i64 x.owner)).setCell ⟨w.heap.size,2,none⟩ (.int .i64 x.side)).setCell ⟨w.heap.size,3,none⟩ (.int .i64 x.price)).setCell ⟨w.heap.size,4,none⟩ (.int .i64 x.qty)):=(((((hK3.setCell (fun _=>by rw [g2]) _).setCell hrb _).setCell hrb _).setCell hrb _).setCell hrb _).setCell hrb _
  obtain ⟨t,hmain⟩:=H3.out.main
  have hm3:w3.rowIs p t 1 _:=hmain.of_block ((ho3.block p hpg).trans (((Ex.refl w).alloc _).ext _ _ |>.alloc _ |>.below.block p hp))
  have hmF:=((hm3.set 0 (.slice (some ⟨g,off,none⟩) (l.length - 1) cap)).congr (g:=fun j=>if j=0 then .slice (some ⟨g,off,none⟩) (l.length - 1) cap else .nilIface) (fun j hj=>by
   obtain rfl:j=0:=by omega
   simp))
  refine book_end H.out H3.out g1 g2 g4 hKF (n':=l.length - 1) ⟨t,hmF.of_block ?_⟩ (hr3.of_block (fun b hb=>?_)) (by rw [List.length_eraseIdx_of_lt hk]) (fun y hy=>HWF.out y (List.mem_of_mem_eraseIdx hy)) (by omega)
  ·rw [Below.heap_setCell _ _ _ _ hpr,Below.heap_setCell _ _ _ _ hpr,Below.heap_setCell _ _ _ _ hpr,Below.heap_setCell _ _ _ _ hpr,Below.heap_setCell _ _ _ _ hpr]
  ·cases hb
   rw [Below.heap_setCell _ _ _ _ hgw,Below.heap_setCell _ _ _ _ hgw,Below.heap_setCell _ _ _ _ hgw,Below.heap_setCell _ _ _ _ hgw,Below.heap_setCell _ _ _ _ hgw,Below.heap_setCell _ _ _ _ (Ne.symm hpg)]
 have KEY:=Lib.hid key
 clear key hr3 ho3 HD
 go_wp2_with fail
 all_goals ((try simp only [Exit.inBlock,Exit.then]);(refine bodyPost_ret (v:=.tuple #[x.val,.nilIface]) ?_ rfl ⟨rfl,KEY.out⟩);simp only [results,Tryz.results146];simp [go_sem,↓IntWalk.iteOmega, *])
set_option maxRecDepth 100000 in
set_option maxHeartbeats 2000000 in
theorem take_none (h:BookAt own i w p l) (id qty:Int) (E:Nat→Addr) (hE:Errs E [2,6] w) (hi:idIdx l id=-1) :
  Calls Tryz.prog 191 #[.pointer (some ⟨p,0,none⟩),.int .i64 id,.int .i64 qty] w fun e w'=>e=.returned (errV E 6)∧ObjTo own i i w (fun o w'=>BookAt o i w' p (l)) w':=by
 have HF:=Lib.hid (fun W (hx:Ex w W)=>find_any (h.later hx) id)
 rw [hi] at HF
 have H:=Lib.hid h
 have e6:w.cell? ⟨7,0,none⟩=some (.iface 357 (.pointer (some (E 6)))):=hE 6 (by decide)
 have b6:7<w.heap.size:=lt_of_cell e6
 clear hE hi h
 rw [errV_pos E 6 (by decide)]
 go_enter Tryz.func191,Tryz.ntmps191
 go_wp2_with (go_at_call 156;refine (HF.out _ (by repeat (first|exact Ex.refl _|refine Ex.alloc ?_ _|refine Ex.ext ?_ _ _|refine Ex.drew ?_|refine Ex.drewN ?_ _))).mono ?_;rintro e w1 ⟨rfl,l1,d1,rfl⟩)
 all_goals go_ret
 all_goals exact ⟨rfl,H.out.keep (by repeat (first|exact Ex.refl _|refine Ex.alloc ?_ _|refine Ex.ext ?_ _ _|refine Ex.drew ?_|refine Ex.drewN ?_ _))⟩
set_option maxRecDepth 100000 in
set_option maxHeartbeats 2000000 in
theorem take_bound (h:BookAt own i w p l) (id qty:Int) (E:Nat→Addr) (hE:Errs E [2,6] w) (k:Nat) (hk:k<l.length) (hi:idIdx l id=(k:Int)) (hq:qty<1∨l[k].qty<qty) :
  Calls Tryz.prog 191 #[.pointer (some ⟨p,0,none⟩),.int .i64 id,.int .i64 qty] w fun e w'=>e=.returned (errV E 2)∧ObjTo own i i w (fun o w'=>BookAt o i w' p (l)) w':=by
 have HF:=Lib.hid (fun W (hx:Ex w W)=>find_any (h.later hx) id)
 rw [hi] at HF
 have H:=Lib.hid h
 obtain ⟨hb,hwf,v,h3⟩:=h
 obtain ⟨o,g1,g2,g3,g4⟩:=h3.pick
 obtain ⟨ao,cap,rfl,hcap,hcm,hca,_⟩:=h3.2.1.form
 obtain ⟨_,_,_,hz⟩:=lotsB_of_row hwf (by omega) rfl h3.2.1.1
 obtain ⟨g,off,rfl,hg,hcc⟩:=hz (by omega)
 have c0:=h3.cell0 (by decide)
 have f0:=h3.free 0
 have hp:=h3.lt
 have hpg:p≠g:=fun e=>h3.2.2.2 (by rw [e];rfl)
 have a4:=hcc k hk 4 (by omega)
 simp only [Lot.cells,List.getElem?_cons_zero,List.getElem?_cons_succ,Nat.add_zero] at a4
 have e2:w.cell? ⟨0,0,none⟩=some (.iface 357 (.pointer (some (E 2)))):=hE 2 (by decide)
 have b2:0<w.heap.size:=lt_of_cell e2
 clear hE hi h3 hcc hz
 generalize l[k].qty=q at *
 rw [errV_pos E 2 (by decide)]
 by_cases h1:qty<1
 ·have t1:decide (qty<1)=true:=decide_eq_true h1
  go_enter Tryz.func191,Tryz.ntmps191
  go_wp2_with (go_at_call 156;refine (HF.out _ (by repeat (first|exact Ex.refl _|refine Ex.alloc ?_ _|refine Ex.ext ?_ _ _|refine Ex.drew ?_|refine Ex.drewN ?_ _))).mono ?_;rintro e w1 ⟨rfl,l1,d1,rfl⟩)
  all_goals go_ret
  all_goals exact ⟨rfl,H.out.keep (by repeat (first|exact Ex.refl _|refine Ex.alloc ?_ _|refine Ex.ext ?_ _ _|refine Ex.drew ?_|refine Ex.drewN ?_ _))⟩
 ·have t1:decide (qty<1)=false:=decide_eq_false h1
  have t2:decide (q<qty)=true:=decide_eq_true (by omega)
  go_enter Tryz.func191,Tryz.ntmps191
  go_wp2_with (go_at_call 156;refine (HF.out _ (by repeat (first|exact Ex.refl _|refine Ex.alloc ?_ _|refine Ex.ext ?_ _ _|refine Ex.drew ?_|refine Ex.drewN ?_ _))).mono ?_;rintro e w1 ⟨rfl,l1,d1,rfl⟩)
  all_goals go_ret
  all_goals exact ⟨rfl,H.out.keep (by repeat (first|exact Ex.refl _|refine Ex.alloc ?_ _|refine Ex.ext ?_ _ _|refine Ex.drew ?_|refine Ex.drewN ?_ _))⟩
set_option maxRecDepth 100000 in
set_option maxHeartbeats 2000000 in
theorem take_less (h:BookAt own i w p l) (id qty:Int) (k:Nat) (hk:k<l.length) (hi:idIdx l id=(k:Int)) (hq:1≤qty) (hq2:qty<l[k].qty) :
  Calls Tryz.prog 191 #[.pointer (some ⟨p,0,none⟩),.int .i64 id,.int .i64 qty] w fun e w'=>e=.returned (.nilIface)∧ObjTo own i i w (fun o w'=>BookAt o i w' p (l.set k (l[k].less qty))) w':=by
 have HF:=Lib.hid (fun W (hx:Ex w W)=>find_any (h.later hx) id)
 rw [hi] at HF
 have H:=Lib.hid h
 obtain ⟨hb,hwf,v,h3⟩:=h
 obtain ⟨o,g1,g2,g3,g4⟩:=h3.pick
 obtain ⟨ao,cap,rfl,hcap,hcm,hca,_⟩:=h3.2.1.form
 obtain ⟨_,_,_,hz⟩:=lotsB_of_row hwf (by omega) rfl h3.2.1.1
 obtain ⟨g,off,rfl,hg,hcc⟩:=hz (by omega)
 have c0:=h3.cell0 (by decide)
 have f0:=h3.free 0
 have hp:=h3.lt
 have hpg:p≠g:=fun e=>h3.2.2.2 (by rw [e];rfl)
 have a4:=hcc k hk 4 (by omega)
 simp only [Lot.cells,List.getElem?_cons_zero,List.getElem?_cons_succ,Nat.add_zero] at a4
 have fg:w.frozen? ⟨g,off+k*5+4,none⟩=false:=by
  obtain ⟨_,⟨hv0,_⟩|⟨g',off',cap',cur,hv0,⟨fr,hgg,hf⟩,hnc,hm,hs,_⟩⟩:=h3.2.1.1
  ·cases hv0
  ·cases hv0
   have hcn:l.length*5≤cap*5:=Nat.mul_le_mul_right _ hnc
   exact hf.frozen hgg (by omega)
 have hqw:=(hwf l[k] (List.getElem_mem hk))
 have hqb:l[k].qty≤9223372036854775807:=by have:=hqw.2.2.2.2;simp [Lit.wf,IntKind.min,IntKind.max,IntKind.signed,IntKind.bits] at this;omega
 have hlw:(l[k].less qty).wf:=⟨hqw.1,hqw.2.1,hqw.2.2.1,hqw.2.2.2.1,by show (Lit.int .i64 (l[k].qty - qty)).wf=true;simp [Lit.wf,IntKind.min,IntKind.max,IntKind.signed,IntKind.bits];omega⟩
 obtain ⟨hrs,hos⟩:=row_set (P:=Tryz.prog) rfl h3.2.1.1 hk qty
 have key:∀ (l1:List Obj) (d1:Nat),ObjTo own i i w (fun o w'=>BookAt o i w' p (l.set k (l[k].less qty))) (ext (w.setCell ⟨g,off+k*5+4,none⟩ (.int .i64 (l[k].qty - qty))) l1 d1):=fun l1 d1=>by
  have hog:o g=2:=g1.2 g rfl
  obtain ⟨t,hmain⟩:=h3.main
  refine book_end H.out h3 g1 g2 g4 (((Kp.refl _ _ _ _).setCell (fun _=>by show o g / 2=1;rw [hog]) _).ext _ _) (n':=l.length) ⟨t,rowIs_ext (hmain.of_block (hos.block p hpg)) _ _⟩ (hrs.of_block (fun b hb=>?_)) (by simp) (fun y hy=>?_) hb
  ·cases hb
   exact ext_heap_lt _ _ _ _ (by rw [hos.size];exact hg)
  ·rcases List.mem_or_eq_of_mem_set hy with h|rfl
   ·exact hwf y h
   ·exact hlw
 have KEY:=Lib.hid key
 clear key hi h3 hcc hz hrs hos hlw hqw hwf hca
 generalize l[k].less qty=x' at *
 generalize l[k].qty=q at *
 have t1:decide (qty<1)=false:=decide_eq_false (by omega)
 have t2:decide (q<qty)=false:=decide_eq_false (by omega)
 have t3:(q - qty==0)=false:=by rw [beq_eq_false_iff_ne];omega
 have t4:¬ q - qty=0:=by omega
 have hw:IntKind.i64.wrap (q - qty)=q - qty:=IntWalk.i64_in _ (by omega)
 go_enter Tryz.func191,Tryz.ntmps191
 go_wp2_with (go_at_call 156;refine (HF.out _ (by repeat (first|exact Ex.refl _|refine Ex.alloc ?_ _|refine Ex.ext ?_ _ _|refine Ex.drew ?_|refine Ex.drewN ?_ _))).mono ?_;rintro e w1 ⟨rfl,l1,d1,rfl⟩)
 all_goals go_ret
 all_goals exact ⟨rfl,KEY.out l1 d1⟩
set_option maxRecDepth 100000 in
set_option maxHeartbeats 2000000 in
theorem take_all (h:BookAt own i w p l) (id qty:Int) (k:Nat) (hk:k<l.length) (hi:idIdx l id=(k:Int)) (hq:1≤qty) (hq2:qty=l[k].qty) :
  Calls Tryz.prog 191 #[.pointer (some ⟨p,0,none⟩),.int .i64 id,.int .i64 qty] w fun e w'=>e=.returned (.nilIface)∧ObjTo own i i w (fun o w'=>BookAt o i w' p (l.eraseIdx k)) w':=by
 have HF:=Lib.hid (fun W (hx:Ex w W)=>find_any (h.later hx) id)
 rw [hi] at HF
 have H:=Lib.hid h
 obtain ⟨hb,hwf,v,h3⟩:=h
 obtain ⟨o,g1,g2,g3,g4⟩:=h3.pick
 obtain ⟨ao,cap,rfl,hcap,hcm,hca,_⟩:=h3.2.1.form
 obtain ⟨_,_,_,hz⟩:=lotsB_of_row hwf (by omega) rfl h3.2.1.1
 obtain ⟨g,off,rfl,hg,hcc⟩:=hz (by omega)
 have c0:=h3.cell0 (by decide)
 have f0:=h3.free 0
 have hp:=h3.lt
 have hpg:p≠g:=fun e=>h3.2.2.2 (by rw [e];rfl)
 have a4:=hcc k hk 4 (by omega)
 simp only [Lot.cells,List.getElem?_cons_zero,List.getElem?_cons_succ,Nat.add_zero] at a4
 have fg:w.frozen? ⟨g,off+k*5+4,none⟩=false:=by
  obtain ⟨_,⟨hv0,_⟩|⟨g',off',cap',cur,hv0,⟨fr,hgg,hf⟩,hnc,hm,hs,_⟩⟩:=h3.2.1.1
  ·cases hv0
  ·cases hv0
   have hcn:l.length*5≤cap*5:=Nat.mul_le_mul_right _ hnc
   exact hf.frozen hgg (by omega)
 subst hq2
 have hqw:=(hwf l[k] (List.getElem_mem hk))
 have hqb:l[k].qty≤9223372036854775807:=by have:=hqw.2.2.2.2;simp [Lit.wf,IntKind.min,IntKind.max,IntKind.signed,IntKind.bits] at this;omega
 obtain ⟨hrs,hos⟩:=row_set (P:=Tryz.prog) rfl h3.2.1.1 hk l[k].qty
 rw [Int.sub_self] at hrs hos
 have HD:=Lib.hid (fun l1 d1=>delete_any (w:=(ext (w.setCell ⟨g,off+k*5+4,none⟩ (.int .i64 0)) l1 d1)) (g:=g) (off:=off) (cap:=cap) (n:=l.length) (l:=l.set k (l[k].less l[k].qty)) (by simp) (hrs.of_block (fun b hb=>by cases hb;exact ext_heap_lt _ _ _ _ (by rw [hos.size];exact hg))) hk (by omega))
 have key:∀ (l1:List Obj) (d1:Nat) (w3:World),RowAt w3 131 5 (.slice (some ⟨g,off,none⟩) (l.length - 1) cap) (l.length - 1) (flat Lot.cells ((l.set k (l[k].less l[k].qty)).eraseIdx k))→OnlyAt g (ext (w.setCell ⟨g,off+k*5+4,none⟩ (.int .i64 0)) l1 d1) w3 →
   ObjTo own i i w (fun o w'=>BookAt o i w' p (l.eraseIdx k)) (w3.setCell ⟨p,0,none⟩ (.slice (some ⟨g,off,none⟩) (l.length - 1) cap)):=fun l1 d1 w3 hr3 ho3=>by
  have hog:o g=2:=g1.2 g rfl
  have he:(l.set k (l[k].less l[k].qty)).eraseIdx k=l.eraseIdx k:=by simp [List.eraseIdx_set_eq]
  rw [he] at hr3
  have hK0:Kp o 2 1 w (ext (w.setCell ⟨g,off+k*5+4,none⟩ (.int .i64 0)) l1 d1):=((Kp.refl _ _ _ _).setCell (fun _=>by show o g / 2=1;rw [hog]) _).ext _ _
  have hK3:Kp o 2 1 w w3:=hK0.trans ho3.os ho3.tape ho3.output (Nat.le_of_eq ho3.size.symm) (fun b hb hne=>ho3.block b (fun e=>hne (by rw [e,hog])))
  obtain ⟨t,hmain⟩:=h3.main
  have hm3:w3.rowIs p t 1 _:=hmain.of_block ((ho3.block p hpg).trans ((ext_heap_lt _ _ _ _ (by rw [hos.size];exact hp)).trans (hos.block p hpg)))
  refine book_end H.out h3 g1 g2 g4 (hK3.setCell (fun _=>by rw [g2]) _) (n':=l.length - 1) ⟨t,(hm3.set 0 (.slice (some ⟨g,off,none⟩) (l.length - 1) cap)).congr (fun j hj=>by
   obtain rfl:j=0:=by omega
   simp)⟩ (hr3.of_block (fun b hb=>by cases hb;exact Below.heap_setCell _ _ _ _ (Ne.symm hpg))) (by rw [List.length_eraseIdx_of_lt hk]) (fun y hy=>hwf y (List.mem_of_mem_eraseIdx hy)) (by omega)
 have KEY:=Lib.hid key
 clear key hi h3 hcc hz hrs hos hqw hwf hca
 generalize l[k].less l[k].qty=x' at *
 generalize l[k].qty=q at *
 have t1:decide (q<1)=false:=decide_eq_false (by omega)
 have t2:decide (q<q)=false:=decide_eq_false (by omega)
 have t3:q - q=0:=Int.sub_self q
 have hw:IntKind.i64.wrap (q - q)=0:=by rw [t3];rfl
 go_enter Tryz.func191,Tryz.ntmps191
 go_wp2_with (go_at_call 156;refine (HF.out _ (by repeat (first|exact Ex.refl _|refine Ex.alloc ?_ _|refine Ex.ext ?_ _ _|refine Ex.drew ?_|refine Ex.drewN ?_ _))).mono ?_;rintro e w1 ⟨rfl,l1,d1,rfl⟩)
 refine (HD.out l1 d1).mono ?_
 rintro e w3 ⟨rfl,hr3,ho3⟩
 have pc:w3.cell? ⟨p,0,none⟩=some (.slice (some ⟨g,off,none⟩) l.length cap):=by rw [ho3.cell hpg];simp [go_sem,↓IntWalk.iteOmega,c0,hpg]
 have pf:w3.frozen? ⟨p,0,none⟩=false:=by rw [ho3.frozen hpg];simp [go_sem,↓IntWalk.iteOmega,f0,hpg]
 have KF:=Lib.hid (KEY.out l1 d1 w3 hr3 ho3)
 clear hr3 ho3 HD
 go_wp2_with fail
 all_goals go_ret
 all_goals exact ⟨rfl,KF.out⟩
end
end Go.Proofs.YtabbgpjofkaomaaGreatDoor

/- What Cancel, Take and Get of a book compute, whatever they are given. -/
namespace Go.Proofs.YtabbgpjofkaomaaGreatDoor
open Go.RowKit
def takeR (l:List Lot) (id qty:Int):Nat × List Lot :=
 match l.findIdx? (fun y=>y.id==id) with
 | none=>(6,l)
 | some k=>match l[k]? with
  | none=>(6,l)
  | some x=>if qty<1∨x.qty<qty then (2,l) else if qty=x.qty then (0,l.eraseIdx k) else (0,l.set k (x.less qty))
def cancelR (l:List Lot) (id:Int):Lot × Nat × List Lot :=
 match l.findIdx? (fun y=>y.id==id) with
 | none=>(zeroLot,6,l)
 | some k=>match l[k]? with
  | none=>(zeroLot,6,l)
  | some x=>(x,0,l.eraseIdx k)
def getR (l:List Lot) (id:Int):Lot × Bool :=
 match l.findIdx? (fun y=>y.id==id) with
 | none=>(zeroLot,false)
 | some k=>match l[k]? with
  | none=>(zeroLot,false)
  | some x=>(x,true)
theorem find_none {l:List Lot} {id:Int} (h:idIdx l id=-1):l.findIdx? (fun y=>y.id==id)=none:=by
 unfold idIdx at h
 cases hf:l.findIdx? (fun y=>y.id==id) with
 | none=>rfl
 | some k=>rw [hf] at h;exact absurd (show (k:Int)=-1 from h) (by omega)
section
variable {own:Nat→Nat} {i:Nat} {w:World} {p:Nat} {l:List Lot}
theorem take_any (h:BookAt own i w p l) (id qty:Int) (E:Nat→Addr) (hE:Errs E [2,6] w) :
  Calls Tryz.prog 191 #[.pointer (some ⟨p,0,none⟩),.int .i64 id,.int .i64 qty] w fun e w'=>e=.returned (errV E (takeR l id qty).1)∧ObjTo own i i w (fun o w'=>BookAt o i w' p (takeR l id qty).2) w':=by
 rcases idIdx_cases l id with ⟨k,hk,hi,_,hf⟩|⟨hi,_⟩
 ·have e:takeR l id qty=if qty<1∨l[k].qty<qty then (2,l) else if qty=l[k].qty then (0,l.eraseIdx k) else (0,l.set k (l[k].less qty)):=by
   unfold takeR
   rw [hf]
   simp only [List.getElem?_eq_getElem hk]
  rw [e]
  by_cases h1:qty<1∨l[k].qty<qty
  ·rw [if_pos h1];exact take_bound h id qty E hE k hk hi h1
  ·rw [if_neg h1]
   by_cases h2:qty=l[k].qty
   ·rw [if_pos h2];exact take_all h id qty k hk hi (by omega) h2
   ·rw [if_neg h2];exact take_less h id qty k hk hi (by omega) (by omega)
 ·have e:takeR l id qty=(6,l):=by unfold takeR;rw [find_none hi]
  rw [e]
  exact take_none h id qty E hE hi
theorem cancel_any (h:BookAt own i w p l) (id:Int) (E:Nat→Addr) (hE:Errs E [6] w) :
  Calls Tryz.prog 146 #[.pointer (some ⟨p,0,none⟩),.int .i64 id] w fun e w'=>e=.returned (.tuple #[(cancelR l id).1.val,errV E (cancelR l id).2.1])∧ObjTo own i i w (fun o w'=>BookAt o i w' p (cancelR l id).2.2) w':=by
 rcases idIdx_cases l id with ⟨k,hk,hi,_,hf⟩|⟨hi,_⟩
 ·have e:cancelR l id=(l[k],0,l.eraseIdx k):=by
   unfold cancelR
   rw [hf]
   simp only [List.getElem?_eq_getElem hk]
  rw [e]
  exact cancel_in h id k hk hi
 ·have e:cancelR l id=(zeroLot,6,l):=by unfold cancelR;rw [find_none hi]
  rw [e]
  exact cancel_none h id E hE hi
theorem get_any (h:BookAt own i w p l) (id:Int) :
  Calls Tryz.prog 124 #[.pointer (some ⟨p,0,none⟩),.int .i64 id] w fun e w'=>e=.returned (.tuple #[(getR l id).1.val,.bool (getR l id).2])∧Ex w w':=by
 rcases idIdx_cases l id with ⟨k,hk,hi,_,hf⟩|⟨hi,_⟩
 ·have e:getR l id=(l[k],true):=by
   unfold getR
   rw [hf]
   simp only [List.getElem?_eq_getElem hk]
  rw [e]
  exact get_in h id k hk hi
 ·have e:getR l id=(zeroLot,false):=by unfold getR;rw [find_none hi]
  rw [e]
  exact get_out h id hi
end
def ownerL (l:List Lot) (n:Int):List Int:=(l.filter (fun x=>x.owner==n)).map (·.id)
theorem infoIntB:(Tryz.prog.info? 3).map (fun i=>(i.zero,i.size,i.bytes))=some (some (.int .i64 0),1,8):=by kernel_rfl
section
variable {own:Nat→Nat} {i:Nat} {w:World} {p:Nat} {l:List Lot}
theorem ownerL_snoc (l:List Lot) (k:Nat) (hk:k<l.length) (n:Int):ownerL (l.take (k+1)) n=ownerL (l.take k) n++(if l[k].owner==n then [l[k].id] else []):=by
 rw [List.take_succ_eq_append_getElem hk]
 unfold ownerL
 rw [List.filter_append,List.map_append]
 congr 1
 by_cases h:(l[k].owner==n)=true
 ·simp [h]
 ·simp [h]
theorem ownerL_le (l:List Lot) (n:Int):(ownerL l n).length≤l.length:=by
 unfold ownerL
 rw [List.length_map]
 exact List.length_filter_le _ _
set_option maxRecDepth 100000 in
set_option maxHeartbeats 2000000 in
theorem owner_any (h:BookAt own i w p l) (n:Int) :
  Calls Tryz.prog 117 #[.pointer (some ⟨p,0,none⟩),.int .i64 n] w fun e w'=>(∃ v,e=.returned v∧w'.ownsRow w.heap.size 3 1 v (ownerL l n).length ((ownerL l n).map (Value.int .i64)))∧Ex w w':=by
 obtain ⟨i0,hi0,hz0,hz1,hz2⟩:=info_parts infoIntB
 obtain ⟨ao,cap,c0,hc,hm,h0,hl,hr⟩:=h.slice
 have hp:=h.lt
 have hb:=h.1
 obtain ⟨_,_,_,hz⟩:=hl
 have HZ:=Lib.hid hz
 clear h hr h0 hz
 go_enter Tryz.func117,Tryz.ntmps117
 go_wp2_with fail
 go_loopw [5,13] (fun v i wr=>∃ (k:Nat) (u:Value),u=v∧k≤l.length∧i=.int .i64 (k:Int)∧wr.ownsRow w.heap.size 3 1 u (ownerL (l.take k) n).length ((ownerL (l.take k) n).map (Value.int .i64))∧Ex w wr) (fun _ i _=>l.length - (intOf i).toNat)
 case atStart=>exact ⟨0,_,rfl,Nat.zero_le _,rfl,World.ownsRow_nil _ _ _ _,(by repeat (first|exact Ex.refl _|refine Ex.alloc ?_ _|refine Ex.ext ?_ _ _|refine Ex.drew ?_|refine Ex.drewN ?_ _))⟩
 case round =>
  obtain ⟨k,v,rfl,hk,rfl,hrow,hex⟩:=hrel
  have hsz:=hex.below.size
  have HROW:=Lib.hid hrow
  have HEX:=Lib.hid hex
  by_cases hlt:k<l.length
  ·obtain ⟨g,off,rfl,hg,hcc⟩:=HZ.out (by omega)
   have hcx:∀ j,j<5→wr.cell? ⟨g,off+k*5+j,none⟩=l[k].cells[j]?:=fun j hj=>(hex.below.cell (p:=⟨g,off+k*5+j,none⟩) hg).trans (hcc k hlt j hj)
   have hgr:g<wr.heap.size:=by omega
   have a0:=hcx 0 (by omega)
   have a1:=hcx 1 (by omega)
   have a2:=hcx 2 (by omega)
   have a3:=hcx 3 (by omega)
   have a4:=hcx 4 (by omega)
   simp only [Lot.cells,List.getElem?_cons_zero,List.getElem?_cons_succ,Nat.add_zero] at a0 a1 a2 a3 a4
   have hsn:=ownerL_snoc l k hlt n
   have hle:=ownerL_le (l.take k) n
   have hle2:(l.take k).length≤60:=by rw [List.length_take];omega
   have HSN:=Lib.hid hsn
   obtain ⟨aov,capv,hv⟩:∃ ao cap,v=.slice ao (ownerL (l.take k) n).length cap:=by
    obtain ⟨_,⟨rfl,h2⟩|⟨g,cap,cur,rfl,_⟩⟩:=hrow
    ·exact ⟨none,0,by rw [h2]⟩
    ·exact ⟨_,_,rfl⟩
   subst hv
   clear hcc hcx hsn hrow hex
   generalize l[k]=x at *
   by_cases ho:(x.owner==n)=true
   ·rw [if_pos ho] at HSN
    generalize ownerL (l.take k) n=D at *
    go_wp2_with (at_builtin;refine wpList_append_own _ rfl (.tmp 21) (.tmp 24) 53 rfl w.heap.size 3 i0 _ 1 8 Tryz.underlying53 hi0 hz0 hz1 hz2 rfl (by decide) (.slice aov D.length capv) D.length (D.map (Value.int .i64)) rfl ?_ _ 1 1 [.int .i64 x.id] rfl rfl ?_ ?_ (by unfold maxLen;omega) (by omega) ?_ ?_;(focus (refine HROW.out.kept (belowGrownBy ?_) (Classical.em _);((refine Below.trans (Below.refl _ _) ?_;repeat (first|exact Below.refl _ _|(refine Below.drew ?_)|(refine Below.drewN ?_ _)|(refine Below.ext ?_ (by first|omega|(simp [go_sem];done)|(simp [go_sem];omega)) _ _)|(refine Below.alloc ?_ (by first|omega|(simp [go_sem];done)|(simp [go_sem];omega)) _)|(refine Below.setCell ?_ (by first|omega|(simp [go_sem];done)|(simp [go_sem];omega)) _))))));(focus exact World.news_of_block (alloc_top (by first|rfl|(simp [ext_size];done)|(simp [ext_size];omega))));(focus simp [Value.oneCell']);(focus (simp [go_sem,ext_size];omega));intro v1 w3 hown hgrow hnil;have HOW:=Lib.hid hown;have HGR:=Lib.hid hgrow;clear hown hgrow hnil)
    go_roundw
    case measure=>simp [intOf];omega
    case rel=>exact ⟨k+1,_,rfl,by omega,by go_num,by rw [HSN.out,List.length_append,List.map_append];exact HOW.out,Ex.of (Below.grown (HEX.out.trans (show Ex wr ((wr.alloc (.cells #[.int .i64 x.id,.int .i64 x.owner,.int .i64 x.side,.int .i64 x.price,.int .i64 x.qty] 131)).alloc (.cells #[.int .i64 x.id] 3)) from (by repeat (first|exact Ex.refl _|refine Ex.alloc ?_ _|refine Ex.ext ?_ _ _|refine Ex.drew ?_|refine Ex.drewN ?_ _)))).below HGR.out (by simp [go_sem,ext_size];omega) (fun j hj=>(HROW.out.lt j hj).1))⟩
   ·rw [if_neg ho,List.append_nil] at HSN
    have ho2:(x.owner==n)=false:=by simpa using ho
    go_wp2_with fail
    go_roundw
    case measure=>simp [intOf];omega
    case rel=>exact ⟨k+1,_,rfl,by omega,by go_num,by rw [HSN.out];exact HROW.out.kept (belowGrownBy (by (refine Below.trans (Below.refl _ _) ?_;repeat (first|exact Below.refl _ _|(refine Below.drew ?_)|(refine Below.drewN ?_ _)|(refine Below.ext ?_ (by first|omega|(simp [go_sem];done)|(simp [go_sem];omega)) _ _)|(refine Below.alloc ?_ (by first|omega|(simp [go_sem];done)|(simp [go_sem];omega)) _)|(refine Below.setCell ?_ (by first|omega|(simp [go_sem];done)|(simp [go_sem];omega)) _))))) (Classical.em _),HEX.out.trans (by repeat (first|exact Ex.refl _|refine Ex.alloc ?_ _|refine Ex.ext ?_ _ _|refine Ex.drew ?_|refine Ex.drewN ?_ _))⟩
  ·obtain rfl:k=l.length:=by omega
   rw [List.take_length] at HROW
   go_wp2_with fail
   all_goals go_ret
   all_goals exact ⟨⟨v,rfl,HROW.out⟩,HEX.out.trans (by repeat (first|exact Ex.refl _|refine Ex.alloc ?_ _|refine Ex.ext ?_ _ _|refine Ex.drew ?_|refine Ex.drewN ?_ _))⟩
end
end Go.Proofs.YtabbgpjofkaomaaGreatDoor

/- A purse of all clients: one block of 48 numbers. -/
namespace Go.Proofs.YtabbgpjofkaomaaGreatDoor
open Go.RowKit
def Pu:=Nat→Nat→Int
def Pu.set (P:Pu) (c j:Nat) (v:Int):Pu:=fun d k=>if d=c∧k=j then v else P d k
def PInv (P:Pu):Prop:=∀ c,c<6→0≤P c 1∧P c 1≤P c 0∧P c 0≤1099511627776∧∀ i,i<3→0≤P c (5+i)∧P c (5+i)≤P c (2+i)∧P c (2+i)≤1073741824
def PurseAt (own:Nat→Nat) (i:Nat) (w:World) (p:Nat) (P:Pu):Prop :=
 own p=i∧PInv P∧∃ t,w.rowIs p t 48 (fun n=>.int .i64 (P (n / 8) (n % 8)))
section
variable {own own':Nat→Nat} {i m g:Nat} {w w':World} {p:Nat} {P:Pu}
theorem PurseAt.lt (h:PurseAt own i w p P):p<w.heap.size:=by obtain ⟨_,_,t,h⟩:=h;exact h.lt
theorem PurseAt.free (h:PurseAt own i w p P) (j:Nat):w.frozen? ⟨p,j,none⟩=false:=by obtain ⟨_,_,t,h⟩:=h;exact h.frozen j
theorem PurseAt.cell (h:PurseAt own i w p P) {c j:Nat} (hc:c<6) (hj:j<8):w.cell? ⟨p,c*8+j,none⟩=some (.int .i64 (P c j)):=by
 obtain ⟨_,_,t,h⟩:=h
 have h1:=h.cell (i:=c*8+j) (by omega)
 rw [h1]
 congr 2
 rw [show (c*8+j) / 8=c by omega,show (c*8+j) % 8=j by omega]
theorem PurseAt.kp (h:PurseAt own i w p P) (hk:Kp own m g w w') (hi:i / m≠g) (ho:∀ n,n<w.heap.size→own n=i→own' n=i):PurseAt own' i w' p P:=by
 have hl:=h.lt
 obtain ⟨h1,h2,t,h3⟩:=h
 exact ⟨ho p hl h1,h2,t,h3.of_block (hk.block p hl (by rw [h1];exact hi))⟩
theorem PurseAt.exts (h:PurseAt own i w p P) (bs:List Obj) (d:Nat):PurseAt own i (ext w bs d) p P:=h.kp (m:=1) (g:=i+1) (Kp.ext (Kp.refl _ _ _ _) bs d) (by simp) (fun _ _ h=>h)
theorem PurseAt.alloc (h:PurseAt own i w p P) (o:Obj):PurseAt own i (w.alloc o) p P:=h.kp (m:=1) (g:=i+1) (Kp.alloc (Kp.refl _ _ _ _) o) (by simp) (fun _ _ h=>h)
theorem PurseAt.later (h:PurseAt own i w p P) (hx:Ex w w'):PurseAt own i w' p P:=by obtain ⟨bs,d,rfl⟩:=hx;exact h.exts bs d
theorem PurseAt.relabel (h:PurseAt own i w p P) (ho:∀ n,n<w.heap.size→own n=i→own' n=i):PurseAt own' i w p P:=h.kp (m:=1) (g:=i+1) (Kp.refl _ _ _ _) (by simp) ho
theorem PurseAt.set (h:PurseAt own i w p P) {c j:Nat} (hc:c<6) (hj:j<8) (v:Int) (hv:PInv (P.set c j v)) {b:Value} (hb:b=.int .i64 v) {n:Nat} (hn:n=c*8+j):PurseAt own i (w.setCell ⟨p,n,none⟩ b) p (P.set c j v):=by
 subst hb hn
 obtain ⟨h1,h2,t,h3⟩:=h
 refine ⟨h1,hv,t,(h3.set (c*8+j) _).congr fun k hk=>?_⟩
 by_cases e:k=c*8+j
 ·subst e
  rw [if_pos rfl]
  congr 1
  unfold Pu.set
  rw [if_pos ⟨by omega,by omega⟩]
 ·rw [if_neg e]
  congr 1
  unfold Pu.set
  rw [if_neg (by omega)]
end
def rightB (item:Int) (x:Lot):Bool:=inR item 0 2 && x.ok
def holdE (P:Pu) (item:Int) (x:Lot):Nat :=
 if rightB item x then
  (if x.side=0 then (if P x.owner.toNat 0 - P x.owner.toNat 1<x.price*x.qty then 10 else 0)
   else (if P x.owner.toNat (2+item.toNat) - P x.owner.toNat (5+item.toNat)<x.qty then 10 else 0))
 else 2
def holdP (P:Pu) (item:Int) (x:Lot):Pu :=
 if holdE P item x=0 then
  (if x.side=0 then P.set x.owner.toNat 1 (P x.owner.toNat 1+x.price*x.qty) else P.set x.owner.toNat (5+item.toNat) (P x.owner.toNat (5+item.toNat)+x.qty))
 else P
def freeE (P:Pu) (item:Int) (x:Lot):Nat :=
 if rightB item x then
  (if x.side=0 then (if P x.owner.toNat 1<x.price*x.qty then 10 else 0)
   else (if P x.owner.toNat (5+item.toNat)<x.qty then 10 else 0))
 else 2
def freeP (P:Pu) (item:Int) (x:Lot):Pu :=
 if freeE P item x=0 then
  (if x.side=0 then P.set x.owner.toNat 1 (P x.owner.toNat 1 - x.price*x.qty) else P.set x.owner.toNat (5+item.toNat) (P x.owner.toNat (5+item.toNat) - x.qty))
 else P
theorem PInv.set_held {P:Pu} (h:PInv P) {c:Nat} (v:Int) (h0:0≤v) (h1:v≤P c 0):PInv (P.set c 1 v):=fun d hd=>by
 obtain ⟨a1,a2,a3,a4⟩:=h d hd
 refine ⟨?_,?_,?_,fun i hi=>?_⟩
 ·unfold Pu.set;split
  ·exact h0
  ·exact a1
 ·unfold Pu.set
  rw [if_neg (show ¬ (d=c∧0=1) by omega)]
  split
  ·rename_i e;rw [e.1];exact h1
  ·exact a2
 ·unfold Pu.set;rw [if_neg (by omega)];exact a3
 ·unfold Pu.set
  rw [if_neg (by omega),if_neg (by omega)]
  exact a4 i hi
theorem PInv.set_kept {P:Pu} (h:PInv P) {c i:Nat} (hi:i<3) (v:Int) (h0:0≤v) (h1:v≤P c (2+i)):PInv (P.set c (5+i) v):=fun d hd=>by
 obtain ⟨a1,a2,a3,a4⟩:=h d hd
 refine ⟨?_,?_,?_,fun k hk=>?_⟩
 ·unfold Pu.set;rw [if_neg (by omega)];exact a1
 ·unfold Pu.set;rw [if_neg (by omega),if_neg (by omega)];exact a2
 ·unfold Pu.set;rw [if_neg (by omega)];exact a3
 ·obtain ⟨b1,b2,b3⟩:=a4 k hk
  unfold Pu.set
  rw [if_neg (show ¬ (d=c∧2+k=5+i) by omega)]
  split
  ·rename_i e
   obtain ⟨rfl,e2⟩:=e
   have e3:k=i:=by omega
   subst e3
   exact ⟨h0,h1,b3⟩
  ·exact ⟨b1,b2,b3⟩
theorem Lot.okC {x:Lot} (h:x.ok=true):(1≤x.id∧x.id≤1073741824)∧(0≤x.owner∧x.owner≤5)∧(0≤x.side∧x.side≤1)∧(1≤x.price∧x.price≤1000)∧(1≤x.qty∧x.qty≤1000):=by
 simp only [Lot.ok,Bool.and_eq_true] at h
 exact ⟨inR_iff.1 h.1.1.1.1,inR_iff.1 h.1.1.1.2,inR_iff.1 h.1.1.2,inR_iff.1 h.1.2,inR_iff.1 h.2⟩
theorem mul_bd {a b:Int} (h1:1≤a) (h2:a≤1000) (h3:1≤b) (h4:b≤1000):1≤a*b∧a*b≤1000000:=by
 constructor
 ·have:=Int.mul_le_mul h1 h3 (by omega) (by omega);omega
 ·have:=Int.mul_le_mul h2 h4 (by omega) (by omega);omega
theorem hold_inv {P:Pu} (h:PInv P) (item:Int) (x:Lot):PInv (holdP P item x):=by
 unfold holdP
 split
 ·rename_i he
  unfold holdE at he
  split at he
  ·rename_i hr
   simp only [rightB,Bool.and_eq_true] at hr
   obtain ⟨hi0,hi2⟩:=inR_iff.1 hr.1
   obtain ⟨_,ho,_,hp,hq⟩:=Lot.okC hr.2
   obtain ⟨a1,a2,a3,a4⟩:=h x.owner.toNat (by omega)
   have hm:=mul_bd hp.1 hp.2 hq.1 hq.2
   split at he
   ·rename_i hs
    rw [if_pos hs]
    split at he
    ·cases he
    ·exact h.set_held _ (by omega) (by omega)
   ·rename_i hs
    rw [if_neg hs]
    split at he
    ·cases he
    ·have:=a4 item.toNat (by omega)
     exact h.set_kept (by omega) _ (by omega) (by omega)
  ·cases he
 ·exact h
theorem free_inv {P:Pu} (h:PInv P) (item:Int) (x:Lot):PInv (freeP P item x):=by
 unfold freeP
 split
 ·rename_i he
  unfold freeE at he
  split at he
  ·rename_i hr
   simp only [rightB,Bool.and_eq_true] at hr
   obtain ⟨hi0,hi2⟩:=inR_iff.1 hr.1
   obtain ⟨_,ho,_,hp,hq⟩:=Lot.okC hr.2
   obtain ⟨a1,a2,a3,a4⟩:=h x.owner.toNat (by omega)
   have hm:=mul_bd hp.1 hp.2 hq.1 hq.2
   split at he
   ·rename_i hs
    rw [if_pos hs]
    split at he
    ·cases he
    ·exact h.set_held _ (by omega) (by omega)
   ·rename_i hs
    rw [if_neg hs]
    split at he
    ·cases he
    ·have:=a4 item.toNat (by omega)
     exact h.set_kept (by omega) _ (by omega) (by omega)
  ·cases he
 ·exact h
end Go.Proofs.YtabbgpjofkaomaaGreatDoor

/- What client, right, New and Of of package purse compute. -/
namespace Go.Proofs.YtabbgpjofkaomaaGreatDoor
open Go.RowKit
theorem pclient_any (n:Int) (w:World):Calls Tryz.prog 63 #[.int .i64 n] w fun e w'=>e=.returned (.bool (inR n 0 5))∧Ex w w':=by
 by_cases h:0≤n
 ·by_cases h':n<6
  ·rw [show inR n 0 5=true from inR_iff.2 (by omega)]
   go_enter Tryz.func63,Tryz.ntmps63
   go_wp2
   all_goals go_ret
   all_goals exact ⟨rfl,(by repeat (first|exact Ex.refl _|refine Ex.alloc ?_ _|refine Ex.ext ?_ _ _|refine Ex.drew ?_|refine Ex.drewN ?_ _))⟩
  ·rw [show inR n 0 5=false from inR_not.2 (by omega)]
   go_enter Tryz.func63,Tryz.ntmps63
   go_wp2
   all_goals go_ret
   all_goals exact ⟨rfl,(by repeat (first|exact Ex.refl _|refine Ex.alloc ?_ _|refine Ex.ext ?_ _ _|refine Ex.drew ?_|refine Ex.drewN ?_ _))⟩
 ·rw [show inR n 0 5=false from inR_not.2 (by omega)]
  go_enter Tryz.func63,Tryz.ntmps63
  go_wp2
  all_goals go_ret
  all_goals exact ⟨rfl,(by repeat (first|exact Ex.refl _|refine Ex.alloc ?_ _|refine Ex.ext ?_ _ _|refine Ex.drew ?_|refine Ex.drewN ?_ _))⟩
set_option maxRecDepth 100000 in
theorem right_any (item:Int) (x:Lot) (E:Nat→Addr) (w:World) (hE:Errs E [2] w):Calls Tryz.prog 179 #[.int .i64 item,x.val] w fun e w'=>e=.returned (.bool (rightB item x))∧Ex w w':=by
 have HO:=Lib.hid (fun w (h:Errs E [2] w)=>one_any x E w h)
 have HE:=Lib.hid hE
 clear hE
 by_cases h0:0≤item
 ·by_cases h1:item<3
  ·cases hk:x.ok
   ·rw [show rightB item x=false by simp [rightB,hk]]
    rw [hk] at HO
    simp only [Bool.false_eq_true,if_false,errV_pos E 2 (by decide)] at HO
    clear hk
    go_enter Tryz.func179,Tryz.ntmps179
    go_wp2_with (go_at_call 180;refine (HO.out _ (by exact HE.out.ex (by repeat (first|exact Ex.refl _|refine Ex.alloc ?_ _|refine Ex.ext ?_ _ _|refine Ex.drew ?_|refine Ex.drewN ?_ _)))).mono ?_;rintro e w1 ⟨rfl,l1,d1,rfl⟩)
    all_goals go_ret
    all_goals exact ⟨rfl,(by repeat (first|exact Ex.refl _|refine Ex.alloc ?_ _|refine Ex.ext ?_ _ _|refine Ex.drew ?_|refine Ex.drewN ?_ _))⟩
   ·rw [show rightB item x=true by simp [rightB,hk,inR_iff];omega]
    rw [hk] at HO
    simp only [if_true,errV_zero] at HO
    clear hk
    go_enter Tryz.func179,Tryz.ntmps179
    go_wp2_with (go_at_call 180;refine (HO.out _ (by exact HE.out.ex (by repeat (first|exact Ex.refl _|refine Ex.alloc ?_ _|refine Ex.ext ?_ _ _|refine Ex.drew ?_|refine Ex.drewN ?_ _)))).mono ?_;rintro e w1 ⟨rfl,l1,d1,rfl⟩)
    all_goals go_ret
    all_goals exact ⟨rfl,(by repeat (first|exact Ex.refl _|refine Ex.alloc ?_ _|refine Ex.ext ?_ _ _|refine Ex.drew ?_|refine Ex.drewN ?_ _))⟩
  ·rw [show rightB item x=false by rw [rightB,show inR item 0 2=false from inR_not.2 (by omega)];rfl]
   go_enter Tryz.func179,Tryz.ntmps179
   go_wp2
   all_goals go_ret
   all_goals exact ⟨rfl,(by repeat (first|exact Ex.refl _|refine Ex.alloc ?_ _|refine Ex.ext ?_ _ _|refine Ex.drew ?_|refine Ex.drewN ?_ _))⟩
 ·rw [show rightB item x=false by rw [rightB,show inR item 0 2=false from inR_not.2 (by omega)];rfl]
  go_enter Tryz.func179,Tryz.ntmps179
  go_wp2
  all_goals go_ret
  all_goals exact ⟨rfl,(by repeat (first|exact Ex.refl _|refine Ex.alloc ?_ _|refine Ex.ext ?_ _ _|refine Ex.drew ?_|refine Ex.drewN ?_ _))⟩
section
variable {own:Nat→Nat} {i:Nat} {w:World} {p:Nat} {P:Pu}
set_option maxRecDepth 100000 in
set_option maxHeartbeats 1000000 in
theorem hold_bad (h:PurseAt own i w p P) (item:Int) (x:Lot) (E:Nat→Addr) (hE:Errs E [2,10] w) (hr:rightB item x=false) :
  Calls Tryz.prog 150 #[.pointer (some ⟨p,0,none⟩),.int .i64 item,x.val] w fun e w'=>e=.returned (errV E 2)∧ObjTo own i i w (fun o w'=>PurseAt o i w' p P) w':=by
 have HR:=Lib.hid (fun w (h:Errs E [2] w)=>right_any item x E w h)
 rw [hr] at HR
 have e2:w.cell? ⟨0,0,none⟩=some (.iface 357 (.pointer (some (E 2)))):=hE 2 (by decide)
 have b2:0<w.heap.size:=lt_of_cell e2
 have HE:=Lib.hid hE
 have H:=Lib.hid h
 clear hE hr h
 rw [errV_pos E 2 (by decide)]
 go_enter Tryz.func150,Tryz.ntmps150
 go_wp2_with (go_at_call 179;refine (HR.out _ (by exact Errs.sub (HE.out.ex (by repeat (first|exact Ex.refl _|refine Ex.alloc ?_ _|refine Ex.ext ?_ _ _|refine Ex.drew ?_|refine Ex.drewN ?_ _))) (by decide))).mono ?_;rintro e w1 ⟨rfl,l1,d1,rfl⟩)
 all_goals go_ret
 all_goals exact ⟨rfl,ObjTo.of_ex (by repeat (first|exact Ex.refl _|refine Ex.alloc ?_ _|refine Ex.ext ?_ _ _|refine Ex.drew ?_|refine Ex.drewN ?_ _)) ((H.out.relabel (fun n hn e=>by rw [lab_lt hn];exact e)).later (by repeat (first|exact Ex.refl _|refine Ex.alloc ?_ _|refine Ex.ext ?_ _ _|refine Ex.drew ?_|refine Ex.drewN ?_ _)))⟩
set_option maxRecDepth 100000 in
set_option maxHeartbeats 1000000 in
theorem free_bad (h:PurseAt own i w p P) (item:Int) (x:Lot) (E:Nat→Addr) (hE:Errs E [2,10] w) (hr:rightB item x=false) :
  Calls Tryz.prog 147 #[.pointer (some ⟨p,0,none⟩),.int .i64 item,x.val] w fun e w'=>e=.returned (errV E 2)∧ObjTo own i i w (fun o w'=>PurseAt o i w' p P) w':=by
 have HR:=Lib.hid (fun w (h:Errs E [2] w)=>right_any item x E w h)
 rw [hr] at HR
 have e2:w.cell? ⟨0,0,none⟩=some (.iface 357 (.pointer (some (E 2)))):=hE 2 (by decide)
 have b2:0<w.heap.size:=lt_of_cell e2
 have HE:=Lib.hid hE
 have H:=Lib.hid h
 clear hE hr h
 rw [errV_pos E 2 (by decide)]
 go_enter Tryz.func147,Tryz.ntmps147
 go_wp2_with (go_at_call 179;refine (HR.out _ (by exact Errs.sub (HE.out.ex (by repeat (first|exact Ex.refl _|refine Ex.alloc ?_ _|refine Ex.ext ?_ _ _|refine Ex.drew ?_|refine Ex.drewN ?_ _))) (by decide))).mono ?_;rintro e w1 ⟨rfl,l1,d1,rfl⟩)
 all_goals go_ret
 all_goals exact ⟨rfl,ObjTo.of_ex (by repeat (first|exact Ex.refl _|refine Ex.alloc ?_ _|refine Ex.ext ?_ _ _|refine Ex.drew ?_|refine Ex.drewN ?_ _)) ((H.out.relabel (fun n hn e=>by rw [lab_lt hn];exact e)).later (by repeat (first|exact Ex.refl _|refine Ex.alloc ?_ _|refine Ex.ext ?_ _ _|refine Ex.drew ?_|refine Ex.drewN ?_ _)))⟩
end
end Go.Proofs.YtabbgpjofkaomaaGreatDoor

/- What fair of package purse computes. -/
namespace Go.Proofs.YtabbgpjofkaomaaGreatDoor
open Go.RowKit
def fairE (item:Int) (b s:Lot) (price qty:Int):Nat :=
 if rightB item b && rightB item s then
  (if b.side=0∧s.side=1 then
   (if price<1∨1000<price∨qty<1∨b.qty<qty∨s.qty<qty then 2
    else if b.price<price∨price<s.price then 12 else 0)
   else 3)
 else 2
set_option maxRecDepth 100000 in
set_option maxHeartbeats 2000000 in
theorem fair_any (item:Int) (b s:Lot) (price qty:Int) (E:Nat→Addr) (w:World) (hE:Errs E [2,3,12] w) :
  Calls Tryz.prog 213 #[.int .i64 item,b.val,s.val,.int .i64 price,.int .i64 qty] w fun e w'=>e=.returned (errV E (fairE item b s price qty))∧Ex w w':=by
 have e2:w.cell? ⟨0,0,none⟩=some (.iface 357 (.pointer (some (E 2)))):=hE 2 (by decide)
 have b2:0<w.heap.size:=lt_of_cell e2
 have e3:w.cell? ⟨2,0,none⟩=some (.iface 357 (.pointer (some (E 3)))):=hE 3 (by decide)
 have b3:2<w.heap.size:=lt_of_cell e3
 have e12:w.cell? ⟨11,0,none⟩=some (.iface 357 (.pointer (some (E 12)))):=hE 12 (by decide)
 have b12:11<w.heap.size:=lt_of_cell e12
 have HB:=Lib.hid (fun w (h:Errs E [2] w)=>right_any item b E w h)
 have HS:=Lib.hid (fun w (h:Errs E [2] w)=>right_any item s E w h)
 have HE:=Lib.hid hE
 clear hE
 cases hb:rightB item b
 ·rw [hb] at HB
  rw [show fairE item b s price qty=2 by simp [fairE,hb],errV_pos _ _ (by decide)]
  clear hb
  go_enter Tryz.func213,Tryz.ntmps213
  go_wp2_with fail
  refine (HB.out _ (by exact Errs.sub (HE.out.ex (by repeat (first|exact Ex.refl _|refine Ex.alloc ?_ _|refine Ex.ext ?_ _ _|refine Ex.drew ?_|refine Ex.drewN ?_ _))) (by decide))).mono ?_
  rintro e w1 ⟨rfl,l1,d1,rfl⟩
  go_wp2_with fail
  all_goals go_ret
  all_goals exact ⟨rfl,(by repeat (first|exact Ex.refl _|refine Ex.alloc ?_ _|refine Ex.ext ?_ _ _|refine Ex.drew ?_|refine Ex.drewN ?_ _))⟩
 ·cases hs:rightB item s
  ·rw [hb] at HB
   rw [hs] at HS
   rw [show fairE item b s price qty=2 by simp [fairE,hs],errV_pos _ _ (by decide)]
   clear hb hs
   go_enter Tryz.func213,Tryz.ntmps213
   go_wp2_with fail
   refine (HB.out _ (by exact Errs.sub (HE.out.ex (by repeat (first|exact Ex.refl _|refine Ex.alloc ?_ _|refine Ex.ext ?_ _ _|refine Ex.drew ?_|refine Ex.drewN ?_ _))) (by decide))).mono ?_
   rintro e w1 ⟨rfl,l1,d1,rfl⟩
   go_wp2_with fail
   refine (HS.out _ (by exact Errs.sub (HE.out.ex (by repeat (first|exact Ex.refl _|refine Ex.alloc ?_ _|refine Ex.ext ?_ _ _|refine Ex.drew ?_|refine Ex.drewN ?_ _))) (by decide))).mono ?_
   rintro e w2 ⟨rfl,l2,d2,rfl⟩
   go_wp2_with fail
   all_goals go_ret
   all_goals exact ⟨rfl,(by repeat (first|exact Ex.refl _|refine Ex.alloc ?_ _|refine Ex.ext ?_ _ _|refine Ex.drew ?_|refine Ex.drewN ?_ _))⟩
  ·rw [hb] at HB
   rw [hs] at HS
   have HX:Hid (fairE item b s price qty=(if b.side=0∧s.side=1 then (if price<1∨1000<price∨qty<1∨b.qty<qty∨s.qty<qty then 2 else if b.price<price∨price<s.price then 12 else 0) else 3)):=by
    show fairE item b s price qty=_
    simp [fairE,hb,hs]
   clear hb hs
   go_enter Tryz.func213,Tryz.ntmps213
   go_wp2_with fail
   refine (HB.out _ (by exact Errs.sub (HE.out.ex (by repeat (first|exact Ex.refl _|refine Ex.alloc ?_ _|refine Ex.ext ?_ _ _|refine Ex.drew ?_|refine Ex.drewN ?_ _))) (by decide))).mono ?_
   rintro e w1 ⟨rfl,l1,d1,rfl⟩
   go_wp2_with fail
   refine (HS.out _ (by exact Errs.sub (HE.out.ex (by repeat (first|exact Ex.refl _|refine Ex.alloc ?_ _|refine Ex.ext ?_ _ _|refine Ex.drew ?_|refine Ex.drewN ?_ _))) (by decide))).mono ?_
   rintro e w2 ⟨rfl,l2,d2,rfl⟩
   go_wp2_with fail
   all_goals go_ret
   all_goals have hx:=HX.out
   all_goals clear HX HB HS HE e2 e3 e12
   all_goals (try simp only [bne_iff_ne,ne_eq,bne_eq_false_iff_eq] at *)
   all_goals refine ⟨?_,(by repeat (first|exact Ex.refl _|refine Ex.alloc ?_ _|refine Ex.ext ?_ _ _|refine Ex.drew ?_|refine Ex.drewN ?_ _))⟩
   all_goals first
    | (rw [hx,if_neg (by omega),errV_pos _ _ (by decide)];rfl)
    | (rw [hx,if_pos (by omega),if_pos (by omega),errV_pos _ _ (by decide)];rfl)
    | (rw [hx,if_pos (by omega),if_neg (by omega),if_pos (by omega),errV_pos _ _ (by decide)];rfl)
    | (rw [hx,if_pos (by omega),if_neg (by omega),if_neg (by omega),errV_zero];rfl)
end Go.Proofs.YtabbgpjofkaomaaGreatDoor
