import Derived.Test.YtabbgpjofkaomaaGreatDoorJ1
import Derived.Deep.RegionLaw
set_option linter.unusedSimpArgs false
set_option linter.unusedVariables false
/- What slices.Delete of one lot computes: in its own block. -/
namespace Go.Proofs.YtabbgpjofkaomaaGreatDoor
open Go.RowKit
theorem setCells_row {P:Program} {w:World} {g o:Nat} {cur:Array Value} {t:TypeId} {fr:Nat × Nat} {vs:List Value} (hg:w.heap[g]?=some (.cells cur t fr)) (hf:Unmarked cur fr) (hl:o+vs.length≤cur.size) (h1:∀ v∈vs,v.oneCell'=true) :
  w.setCells g o vs=w.setRow g (cur.toList.take o++vs++cur.toList.drop (o+vs.length)).toArray:=by
 have e1:=run_storeCells_fr P g o t fr vs 0 cur w hg hf (by simpa using hl) h1
 have e2:=run_storeCells_cells (P:=P) g o vs 0 w (fun j hj=>by
  rw [Nat.add_zero]
  have:o+j<cur.size:=by omega
  simp [World.cell?,hg,this]) (fun j hj=>hf.frozen hg (by omega)) h1
 rw [e2] at e1
 simp only [Nat.add_zero] at e1
 injection e1
structure OnlyAt (g:Nat) (w w':World):Prop where
 os:w'.os=w.os
 tape:w'.tape=w.tape
 output:w'.output=w.output
 size:w'.heap.size=w.heap.size
 block:∀ k,k≠g→w'.heap[k]?=w.heap[k]?
theorem list_two {α:Type} (C:List α) (off k n:Nat) (news zs:List α) (hk:k≤n) (hn:news.length+k=n) (hz:off+n+zs.length≤C.length) :
  let C1:=C.take (off+k)++news++C.drop (off+k+news.length)
  (((C1.take (off+n)++zs++C1.drop (off+n+zs.length)).drop off).take n)=(C.drop off).take k++news∧(C1.take (off+n)++zs++C1.drop (off+n+zs.length)).length=C.length∧C1.length=C.length:=by
 intro C1
 have h1:C1.length=C.length:=by simp [C1];omega
 have h2:C1.take (off+n)=C.take (off+k)++news:=by
  simp only [C1]
  rw [List.take_append_of_le_length (by simp;omega)]
  exact List.take_of_length_le (by simp;omega)
 refine ⟨?_,by simp [h1];omega,h1⟩
 rw [h2,List.append_assoc,List.append_assoc,List.drop_append_of_le_length (by simp;omega),← List.append_assoc]
 rw [List.take_append_of_le_length (by simp;omega)]
 rw [List.take_of_length_le (by simp;omega)]
 congr 1
 rw [List.drop_take]
 congr 1
 omega
theorem row_delete {P:Program} {w:World} {e:TypeId} {g off n cap:Nat} {l:List Lot} (hl:l.length=n) (h:RowAt w e 5 (.slice (some ⟨g,off,none⟩) n cap) n (flat Lot.cells l)) {k:Nat} (hk:k<n) :
  RowAt ((w.setCells g (off+k*5) (flat Lot.cells (l.drop (k+1)))).setCells g (off+(n - 1)*5) [.int .i64 0,.int .i64 0,.int .i64 0,.int .i64 0,.int .i64 0]) e 5 (.slice (some ⟨g,off,none⟩) (n - 1) cap) (n - 1) (flat Lot.cells (l.eraseIdx k)) ∧
   OnlyAt g w ((w.setCells g (off+k*5) (flat Lot.cells (l.drop (k+1)))).setCells g (off+(n - 1)*5) [.int .i64 0,.int .i64 0,.int .i64 0,.int .i64 0,.int .i64 0]):=by
 obtain ⟨h1,⟨h2,_⟩|⟨g',off',cap',cur,h2,⟨fr,hg,hf⟩,hnc,hm,hs,ht⟩⟩:=h
 ·cases h2
 cases h2
 have hnl:(flat Lot.cells (l.drop (k+1))).length=(n - 1 - k)*5:=by rw [flat_length lotc_len,List.length_drop];congr 1;omega
 have hcn:n*5≤cap*5:=Nat.mul_le_mul_right _ hnc
 have hcs:cur.size=cur.toList.length:=by simp
 obtain ⟨q1,q2,q3⟩:=list_two cur.toList off (k*5) ((n - 1)*5) (flat Lot.cells (l.drop (k+1))) [.int .i64 0,.int .i64 0,.int .i64 0,.int .i64 0,.int .i64 0] (by omega) (by rw [hnl];omega) (by simp;omega)
 have s1:=setCells_row (P:=P) (vs:=flat Lot.cells (l.drop (k+1))) (o:=off+k*5) hg hf (by rw [hnl];omega) (lot_one _)
 rw [s1]
 have hg1:=setRow_heap w g cur ((cur.toList.take (off+k*5)++flat Lot.cells (l.drop (k+1))++cur.toList.drop (off+k*5+(flat Lot.cells (l.drop (k+1))).length)).toArray) e fr hg
 have hf1:Unmarked ((cur.toList.take (off+k*5)++flat Lot.cells (l.drop (k+1))++cur.toList.drop (off+k*5+(flat Lot.cells (l.drop (k+1))).length)).toArray) fr:=hf.imp id (fun h=>by rw [List.size_toArray,q3];simpa using h)
 have s2:=setCells_row (P:=P) (vs:=[.int .i64 0,.int .i64 0,.int .i64 0,.int .i64 0,.int .i64 0]) (o:=off+(n - 1)*5) hg1 hf1 (by rw [List.size_toArray,q3];simp;omega) (by intro v hv;simp at hv;subst hv;rfl)
 rw [s2]
 refine ⟨⟨by rw [flat_length lotc_len,List.length_eraseIdx_of_lt (by omega),hl],.inr ⟨g,off,cap,_,rfl,⟨fr,setRow_heap _ g _ _ e fr hg1,hf.imp id (fun h=>?_)⟩,by omega,hm,?_,?_⟩⟩,⟨rfl,rfl,rfl,by simp,fun b hb=>by rw [setRow_other _ _ _ _ hb,setRow_other _ _ _ _ hb]⟩⟩
 ·rw [List.size_toArray]
  simp only [List.toList_toArray] at q2 ⊢
  rw [q2];simpa using h
 ·rw [List.size_toArray]
  simp only [List.toList_toArray] at q2 ⊢
  rw [q2];simpa using hs
 ·simp only [List.toList_toArray] at q1 ⊢
  rw [q1,List.eraseIdx_eq_take_drop_succ,flat_append,← flat_take lotc_len l k,← ht,List.take_take,Nat.min_eq_left (by omega)]
def zero5:List Value:=[.int .i64 0,.int .i64 0,.int .i64 0,.int .i64 0,.int .i64 0]
theorem zeroLotV (w:World):(zeroValue 131).run Tryz.prog w=.ok (.agg #[.int .i64 0,.int .i64 0,.int .i64 0,.int .i64 0,.int .i64 0]) w:=by kernel_rfl
theorem run_clear5 {P:Program} {w:World} (t e ty:TypeId) (ht:P.underlying t=some (.slice e)) (hv:∀ w,(zeroValue e).run P w=.ok (.agg #[.int .i64 0,.int .i64 0,.int .i64 0,.int .i64 0,.int .i64 0]) w)
  (b off c:Nat) (hc:∀ j,j<5→(w.cell? ⟨b,off+j,none⟩).isSome=true∧w.frozen? ⟨b,off+j,none⟩=false) :
  (Builtin.clear_ #[t] ty #[.slice (some ⟨b,off,none⟩) 1 c]).run P w=.ok (.tuple #[]) (w.setCells b off zero5):=by
 have hst:=run_storeCells_cells (P:=P) b off zero5 0 w (fun j hj=>by rw [Nat.add_zero];exact (hc j hj).1) (fun j hj=>by rw [Nat.add_zero];exact (hc j hj).2) (by intro v hv;simp [zero5] at hv;subst hv;rfl)
 simp only [Nat.add_zero] at hst
 have hz:(Builtin.zeroCells (Value.agg #[.int .i64 0,.int .i64 0,.int .i64 0,.int .i64 0,.int .i64 0]).cells 1).toList=zero5:=by kernel_rfl
 simp [Builtin.clear_,run_underlying ht,hv,hz,hst]
set_option maxRecDepth 100000 in
set_option maxHeartbeats 2000000 in
theorem delete_any {w:World} {g off n cap:Nat} {l:List Lot} (hl:l.length=n) (h:RowAt w 131 5 (.slice (some ⟨g,off,none⟩) n cap) n (flat Lot.cells l)) {k:Nat} (hk:k<n) (hn:n≤1000) :
  Calls Tryz.prog 178 #[.slice (some ⟨g,off,none⟩) n cap,.int .i64 (k:Int),.int .i64 ((k:Int)+1)] w fun e w'=>e=.returned (.slice (some ⟨g,off,none⟩) (n - 1) cap)∧RowAt w' 131 5 (.slice (some ⟨g,off,none⟩) (n - 1) cap) (n - 1) (flat Lot.cells (l.eraseIdx k))∧OnlyAt g w w':=by
 obtain ⟨i0,hi0,hz0,hz1,hz2⟩:=info_parts infoLotB
 have hrd:=row_delete (P:=Tryz.prog) (w:=w.drew) hl (show RowAt w.drew _ _ _ _ _ from h) hk
 have HRD:=Lib.hid hrd
 have h':=h
 obtain ⟨_,⟨hv0,_⟩|⟨g',off',cap',cur,hv0,⟨fr,hg,hf⟩,hnc,hm,hs,_⟩⟩:=h'
 ·cases hv0
 cases hv0
 have hgl:=(Array.getElem?_eq_some_iff.1 hg).1
 have hcn:n*5≤cap*5:=Nat.mul_le_mul_right _ hnc
 have hcl:∀ W:World,(∃ cur':Array Value,W.heap[g]?=some (.cells cur' 131 fr)∧cur'.size=cur.size)→∀ j,j<n*5→(W.cell? ⟨g,off+j,none⟩).isSome=true∧W.frozen? ⟨g,off+j,none⟩=false:=fun W ⟨cur',h1,h2⟩ j hj=>by
  have hlt:off+j<cur'.size:=by omega
  exact ⟨by simp [World.cell?,h1,hlt],(show Unmarked cur' fr from hf.imp id (fun h=>by omega)).frozen h1 hlt⟩
 have HCL:=Lib.hid hcl
 have hw1:∃ cur':Array Value,(w.drew.setCells g (off+k*5) (flat Lot.cells (l.drop (k+1)))).heap[g]?=some (.cells cur' 131 fr)∧cur'.size=cur.size:=by
  have hl5:(flat Lot.cells (l.drop (k+1))).length=(n - (k+1))*5:=by rw [flat_length lotc_len,List.length_drop,hl]
  rw [setCells_row (P:=Tryz.prog) (w:=w.drew) (show w.drew.heap[g]?=_ from hg) hf (by rw [hl5];omega) (lot_one _)]
  exact ⟨_,setRow_heap _ g _ _ _ _ (show w.drew.heap[g]?=_ from hg),by simp [hl5];omega⟩
 have HW1:=Lib.hid hw1
 have hnews:∀ j u,(flat Lot.cells (l.drop (k+1)))[j]?=some u→w.drew.cell? ⟨g,off+(k+1)*5+j,none⟩=some u:=fun j u hu=>by
  have hj:j<(n - (k+1))*5:=by
   have:=(List.getElem?_eq_some_iff.1 hu).1
   rwa [flat_length lotc_len,List.length_drop,hl] at this
  rw [← flat_drop lotc_len,List.getElem?_drop] at hu
  have:=h.cell (j:=(k+1)*5+j) (by omega)
  rw [Nat.add_assoc]
  exact this.trans hu
 have HNW:=Lib.hid hnews
 have hnl:(flat Lot.cells (l.drop (k+1))).length=(n - (k+1))*5:=by rw [flat_length lotc_len,List.length_drop,hl]
 have HNL:=Lib.hid hnl
 have H1L:=Lib.hid (lot_one (l.drop (k+1)))
 have HG:=Lib.hid hg
 have HH:=Lib.hid h
 clear hrd hcl hw1 hnews hnl hg h hf
 unfold maxLen at hm
 have k0:(0:Int)≤(k:Int):=by omega
 have k1:(k:Int)≤(n:Int):=by omega
 have k2:(k:Int)+1≤(n:Int):=by omega
 have k3:(n:Int)≤(cap:Int):=by omega
 have k4:((k:Int)+1).toNat=k+1:=by omega
 have k5:((k:Int)==(k:Int)+1)=false:=by rw [beq_eq_false_iff_ne];omega
 have k6:(0:Int)≤(k:Int)+1:=by omega
 have k7:k≤cap:=by omega
 have k8:k+1≤n:=by omega
 have k9:k+1≤cap:=by omega
 by_cases hck:cap=k+1
 ·obtain rfl:n=k+1:=by omega
  subst hck
  have hdr:l.drop (k+1)=[]:=List.drop_of_length_le (by omega)
  rw [hdr,flat_nil] at HRD HW1
  have m0:(k:Int)≤(k:Int)+1:=by omega
  clear HNL H1L HNW
  go_enter Tryz.func178,Tryz.ntmps178
  go_wp2_with fail
  go_region_law
   (((refine step_append_room ?_ (.tmp 22) (.tmp 25) 65 ?_ 131 i0 5 Tryz.underlying65 hi0 hz1 g off k (k+1) ?_ ⟨g,off,none⟩ 0 0 [] ?_ rfl (fun j u hu=>by cases hu) (fun u hu=>by cases hu) (by omega) (fun j hj=>by cases hj) ?_);(focus rfl);(focus rfl);(focus rfl);(focus rfl)))
  all_goals
   have HC1:=Lib.hid (HCL.out _ HW1.out)
   have HRD2:=Lib.hid (show RowAt ((w.drew.setCells g (off+k*5) []).setCells g (off+k*5) zero5) _ _ _ _ _∧OnlyAt g w.drew ((w.drew.setCells g (off+k*5) []).setCells g (off+k*5) zero5) from HRD.out)
   generalize w.drew.setCells g (off+k*5) []=W1 at *
   have m1:¬ k+1=k:=by omega
   have m5:k+1 - k=1:=by omega
   have hclr:=run_clear5 (P:=Tryz.prog) (w:=W1) 65 131 0 Tryz.underlying65 zeroLotV g (off+k*5) 1 (fun j hj=>by rw [Nat.add_assoc];exact HC1.out (k*5+j) (by omega))
   go_wp2_with fail
   all_goals go_ret
   all_goals exact ⟨rfl,HRD2.out.1,⟨HRD2.out.2.os,HRD2.out.2.tape,HRD2.out.2.output,HRD2.out.2.size,HRD2.out.2.block⟩⟩
 ·go_enter Tryz.func178,Tryz.ntmps178
  go_wp2_with fail
  go_region_law
   (((refine step_append_room ?_ (.tmp 22) (.tmp 25) 65 ?_ 131 i0 5 Tryz.underlying65 hi0 hz1 g off k cap ?_ ⟨g,off+(k+1)*5,none⟩ (n - (k+1)) (cap - (k+1)) (flat Lot.cells (l.drop (k+1))) ?_ HNL.out ?_ H1L.out ?_ ?_ ?_);(focus rfl);(focus rfl);(focus rfl);(focus rfl);(focus (intro j u hu;rw [addr_add];exact HNW.out j u hu));(focus omega);(focus (intro j hj;rw [HNL.out] at hj;rw [Nat.add_assoc];exact HCL.out _ ⟨cur,HG.out,rfl⟩ _ (by omega)))))
  all_goals
   rw [show k+(n - (k+1))=n - 1 by omega]
   have HC1:=Lib.hid (HCL.out _ HW1.out)
   have HRD2:=Lib.hid (show RowAt ((w.drew.setCells g (off+k*5) (flat Lot.cells (l.drop (k+1)))).setCells g (off+(n - 1)*5) zero5) _ _ _ _ _∧OnlyAt g w.drew ((w.drew.setCells g (off+k*5) (flat Lot.cells (l.drop (k+1)))).setCells g (off+(n - 1)*5) zero5) from HRD.out)
   generalize w.drew.setCells g (off+k*5) (flat Lot.cells (l.drop (k+1)))=W1 at *
   have m1:¬ cap=n - 1:=by omega
   have m2:n - 1≤n:=by omega
   have m3:(((n - 1:Nat):Int))≤(n:Int):=by omega
   have m4:(0:Int)≤((n - 1:Nat):Int):=by omega
   have m5:n - (n - 1)=1:=by omega
   have m6:n - 1≤cap:=by omega
   have hclr:=run_clear5 (P:=Tryz.prog) (w:=W1) 65 131 0 Tryz.underlying65 zeroLotV g (off+(n - 1)*5) (cap - (n - 1)) (fun j hj=>by rw [Nat.add_assoc];exact HC1.out _ (by omega))
   go_wp2_with fail
   all_goals go_ret
   all_goals exact ⟨rfl,HRD2.out.1,⟨HRD2.out.2.os,HRD2.out.2.tape,HRD2.out.2.output,HRD2.out.2.size,HRD2.out.2.block⟩⟩
end Go.Proofs.YtabbgpjofkaomaaGreatDoor
