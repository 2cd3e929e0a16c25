import Derived.Test.YtmbboflakfokhaaGreatDoorRefSide
import Derived.Test.YtmbboflakfokhaaGreatDoorJ14
import Derived.Test.YtmbboflakfokhaaGreatDoorJ21
import Derived.Test.YtmbboflakfokhaaGreatDoorRefLots
import Derived.Test.YtmbboflakfokhaaGreatDoorJ12
import Derived.Test.YtmbboflakfokhaaGreatDoorJ28
import Derived.Deep.RegionHeld3
import Derived.Deep.CutBlock
import Derived.Deep.RegionLaw
/- What the document's FillsOf computes. -/
set_option linter.unusedSimpArgs false
set_option linter.unusedVariables false
namespace Go.Proofs.YtmbboflakfokhaaGreatDoor
open Go.RowKit
set_option maxRecDepth 100000 in
set_option maxHeartbeats 4000000 in
theorem refFills_any (ao:Option Addr) (len cap:Nat) (l:List Lot) (price volume seed:Int) (w:World) (hl:LotsAt w ao len l) (hok:LotsOk l) (hs:U32 seed) (p1:1≤price) (p2:price≤1000) (v0:0≤volume) (v1:volume≤1000000) :
    Calls Tryz.prog 53 #[.slice ao len cap,.int .i64 price,.int .i64 volume,.int .u32 seed] w fun e w'=>(∃ ao' cap',e=.returned (.slice ao' (fillsL l price volume seed).length cap')∧(fillsL l price volume seed).length≤cap'∧FillAt w' ao' (fillsL l price volume seed)∧∀ b off,ao'=some ⟨b,off,none⟩→w.heap.size≤b)∧Ex w w':=by
  have HL:=Lib.hid hl
  have HU:=Lib.hid hs
  obtain ⟨hs0,hs1⟩:=hs
  have HU2:Hid (U32 ((seed+1) % 4294967296)):=Lib.hid (by unfold U32;omega)
  obtain ⟨iF,hF0,hi⟩:=Option.map_eq_some_iff.1 infoFill
  simp only [Prod.mk.injEq] at hi
  obtain ⟨hFz,hF1,hF2⟩:=hi
  have HFL:=Lib.hid (show sideF (levelsL 0 price l) volume seed++sideF (levelsL 1 price l) volume ((seed+1) % 4294967296)=fillsL l price volume seed from rfl)
  have n1:=sideF_len (levelsL 0 price l) volume seed
  have n2:=sideF_len (levelsL 1 price l) volume ((seed+1) % 4294967296)
  have m1:=levels_small (side:=0) (price:=price) hok
  have m2:=levels_small (side:=1) (price:=price) hok
  have S1:=fun w hl=>refSide0_any ao len cap l price volume seed w hl hok HU.out p1 p2 v0 v1
  have S2:=fun w hl=>refSide1_any ao len cap l price volume ((seed+1) % 4294967296) w hl hok HU2.out p1 p2 v0 v1
  clear hl hok
  generalize sideF (levelsL 0 price l) volume seed=A at *
  generalize sideF (levelsL 1 price l) volume ((seed+1) % 4294967296)=B at *
  generalize fillsL l price volume seed=T at *
  have HS1:=Lib.hid S1
  have HS2:=Lib.hid S2
  clear S1 S2
  go_enter Tryz.func53,Tryz.ntmps53
  go_wp2_with fail
  refine (HS1.out _ HL.out).mono ?_
  rintro e w2 ⟨⟨va,rfl,ha⟩,hx2⟩
  have HX2:=Lib.hid hx2
  have hwz:=HX2.out.below.size
  have HA:=Lib.hid ha
  clear hx2 ha
  go_wp2_with fail
  refine (HS2.out _ (HL.out.ex (HX2.out.trans (by repeat (first|exact Ex.refl _|refine Ex.alloc ?_ _|refine Ex.ext ?_ _ _|refine Ex.drew ?_|refine Ex.drewN ?_ _))))).mono ?_
  rintro e w3 ⟨⟨vb,rfl,hb⟩,hx3⟩
  have HX3:Hid (Ex w2 w3):=Lib.hid (Ex.trans (by repeat (first|exact Ex.refl _|refine Ex.alloc ?_ _|refine Ex.ext ?_ _ _|refine Ex.drew ?_|refine Ex.drewN ?_ _)) hx3)
  have HA3:=Lib.hid (HA.out.kept (Below.grownBy HX3.out.below) (Classical.em _))
  have hwz3:=HX3.out.below.size
  clear hx3
  rcases hb.2 with ⟨rfl,h0⟩|⟨g,capb,cur,rfl,hrest⟩
  · have hB0:B=[]:=List.length_eq_zero_iff.1 h0
    subst hB0
    rw [List.append_nil] at HFL
    go_wp2_with (at_builtin;refine wpList_append_own_none rfl (.tmp 15) (.tmp 21) 52 rfl w.heap.size 126 iF 2 Tryz.underlying52 hF0 va _ _ rfl HA3.out rfl ?_)
    all_goals
      obtain ⟨ao5,cap5,rfl,hc5,hf5⟩:=fills_of_owned rfl HA3.out
      go_ret
      rw [← HFL.out]
      exact ⟨⟨ao5,cap5,rfl,hc5,hf5,fun b off e=>by subst e;exact (HA3.out.lt b rfl).1⟩,HX2.out.trans HX3.out⟩
  · have hcells:=hb.cells (g:=g) rfl
    have HCL:=Lib.hid hcells
    clear hrest hcells hb
    go_wp2_with (at_builtin;refine wpList_append_own _ rfl (.tmp 15) (.tmp 21) 52 rfl w.heap.size 126 iF _ 2 16 Tryz.underlying52 hF0 hFz hF1 hF2 rfl (by decide) va A.length (A.flatMap Fil.cells) rfl HA3.out ⟨g,0,none⟩ B.length capb (B.flatMap Fil.cells) rfl ?_ HCL.out (fil_one B) (by unfold maxLen;omega) (by omega) ?_ ?_;(focus exact fil_len B);(focus omega);intro v4 w4 hown4 hgr4 _)
    all_goals
      have hown5:w4.ownsRow w.heap.size 126 2 v4 (A++B).length ((A++B).flatMap Fil.cells):=by rw [List.length_append,List.flatMap_append];exact hown4
      obtain ⟨ao5,cap5,rfl,hc5,hf5⟩:=fills_of_owned rfl hown5
      go_ret
      rw [← HFL.out]
      exact ⟨⟨ao5,cap5,rfl,hc5,hf5,fun b off e=>by subst e;exact (hown5.lt b rfl).1⟩,Ex.of (Below.grown (HX2.out.trans HX3.out).below hgr4 (by omega) (fun b hb=>(HA3.out.lt b hb).1))⟩
end Go.Proofs.YtmbboflakfokhaaGreatDoor

/- Plain facts: the document's price, found in three rounds, is the search's. -/
set_option linter.unusedSimpArgs false
set_option linter.unusedVariables false
namespace Go.Proofs.YtmbboflakfokhaaGreatDoor
open Go.RowKit
def volP (l:List Lot) (p:Int):Int:=min (dem l p) (sup l p)
def surP (l:List Lot) (p:Int):Int:=iabs (dem l p - sup l p)
def mostOf (l:List Lot):Nat→Int
  | 0=>0
  | k+1=>if volP l ((k:Int)+1) > mostOf l k then volP l ((k:Int)+1) else mostOf l k
def leastOf (l:List Lot) (m:Int):Nat→Int
  | 0=>-1
  | k+1=>if (volP l ((k:Int)+1)==m && (decide (leastOf l m k<0) || decide (surP l ((k:Int)+1)<leastOf l m k)))=true then surP l ((k:Int)+1) else leastOf l m k
def bestD (l:List Lot) (ref m s:Int):Nat→Int
  | 0=>0
  | j+1=>if (volP l (1000 - (j:Int)) != m || surP l (1000 - (j:Int)) != s)=true then bestD l ref m s j
    else if (bestD l ref m s j==0 || decide (iabs (1000 - (j:Int) - ref)≤iabs (bestD l ref m s j - ref)))=true then 1000 - (j:Int) else bestD l ref m s j
theorem iabs_nonneg (n:Int):0≤iabs n:=by unfold iabs;omega
theorem mostOf_spec (l:List Lot):∀ k:Nat,0≤mostOf l k∧(∀ p:Int,1≤p→p≤k→volP l p≤mostOf l k)∧(mostOf l k=0∨∃ p:Int,1≤p∧p≤k∧volP l p=mostOf l k)
  | 0=>⟨Int.le_refl _,fun p h1 h2=>by omega,.inl rfl⟩
  | k+1=>by
    obtain ⟨h1,h2,h3⟩:=mostOf_spec l k
    simp only [mostOf]
    by_cases hc:volP l ((k:Int)+1) > mostOf l k
    · rw [if_pos hc]
      refine ⟨by omega,fun p a b=>?_,.inr ⟨(k:Int)+1,by omega,by omega,rfl⟩⟩
      by_cases e:p=(k:Int)+1
      · rw [e];omega
      · have:=h2 p a (by omega);omega
    · rw [if_neg hc]
      refine ⟨h1,fun p a b=>?_,?_⟩
      · by_cases e:p=(k:Int)+1
        · rw [e];omega
        · exact h2 p a (by omega)
      · rcases h3 with h3|⟨p,a,b,e⟩
        · exact .inl h3
        · exact .inr ⟨p,a,by omega,e⟩
theorem leastOf_spec (l:List Lot) (m:Int):∀ k:Nat,(leastOf l m k=-1∧∀ p:Int,1≤p→p≤k→volP l p≠m) ∨
    (0≤leastOf l m k∧(∃ p:Int,1≤p∧p≤k∧volP l p=m∧surP l p=leastOf l m k)∧∀ p:Int,1≤p→p≤k→volP l p=m→leastOf l m k≤surP l p)
  | 0=>.inl ⟨rfl,fun p h1 h2=>by omega⟩
  | k+1=>by
    have ih:=leastOf_spec l m k
    have hs:0≤surP l ((k:Int)+1):=iabs_nonneg _
    simp only [leastOf]
    by_cases hv:volP l ((k:Int)+1)=m
    · by_cases hl:leastOf l m k<0∨surP l ((k:Int)+1)<leastOf l m k
      · rw [if_pos (by simp [hv];exact hl)]
        refine .inr ⟨hs,⟨(k:Int)+1,by omega,by omega,hv,rfl⟩,fun p a b e=>?_⟩
        by_cases ep:p=(k:Int)+1
        · rw [ep];omega
        · rcases ih with ⟨h1,h2⟩|⟨h1,_,h3⟩
          · exact absurd e (h2 p a (by omega))
          · have:=h3 p a (by omega) e
            omega
      · rw [if_neg (by simp [hv];omega)]
        rcases ih with ⟨h1,h2⟩|⟨h1,⟨p,a,b,c,d⟩,h3⟩
        · omega
        · refine .inr ⟨h1,⟨p,a,by omega,c,d⟩,fun q a b e=>?_⟩
          by_cases ep:q=(k:Int)+1
          · rw [ep];omega
          · exact h3 q a (by omega) e
    · rw [if_neg (by simp [hv])]
      rcases ih with ⟨h1,h2⟩|⟨h1,⟨p,a,b,c,d⟩,h3⟩
      · refine .inl ⟨h1,fun p a b=>?_⟩
        by_cases ep:p=(k:Int)+1
        · rw [ep];exact hv
        · exact h2 p a (by omega)
      · refine .inr ⟨h1,⟨p,a,by omega,c,d⟩,fun q a b e=>?_⟩
        by_cases ep:q=(k:Int)+1
        · rw [ep] at e;exact absurd e hv
        · exact h3 q a (by omega) e
theorem bestD_spec (l:List Lot) (ref m s:Int):∀ j:Nat,j≤1000→(bestD l ref m s j=0∧∀ p:Int,1000 - j<p→p≤1000→¬ (volP l p=m∧surP l p=s)) ∨
    (1000 - j<bestD l ref m s j∧bestD l ref m s j≤1000∧volP l (bestD l ref m s j)=m∧surP l (bestD l ref m s j)=s ∧
      ∀ p:Int,1000 - j<p→p≤1000→volP l p=m→surP l p=s→iabs (bestD l ref m s j - ref)<iabs (p - ref)∨(iabs (bestD l ref m s j - ref)=iabs (p - ref)∧bestD l ref m s j≤p))
  | 0,_=>.inl ⟨rfl,fun p h1 h2=>by omega⟩
  | j+1,hj=>by
    have ih:=bestD_spec l ref m s j (by omega)
    simp only [bestD]
    by_cases hm:volP l (1000 - (j:Int))=m∧surP l (1000 - (j:Int))=s
    · rw [if_neg (by simp [hm.1,hm.2])]
      by_cases hb:bestD l ref m s j=0∨iabs (1000 - (j:Int) - ref)≤iabs (bestD l ref m s j - ref)
      · rw [if_pos (by simp;exact hb)]
        refine .inr ⟨by omega,by omega,hm.1,hm.2,fun p a b c d=>?_⟩
        by_cases ep:p=1000 - (j:Int)
        · rw [ep];right;exact ⟨rfl,Int.le_refl _⟩
        · rcases ih with ⟨h1,h2⟩|⟨h1,h2,h3,h4,h5⟩
          · exact absurd ⟨c,d⟩ (h2 p (by omega) b)
          · have:=h5 p (by omega) b c d
            rcases hb with hb|hb<;>omega
      · rw [if_neg (by simp;omega)]
        rcases ih with ⟨h1,h2⟩|⟨h1,h2,h3,h4,h5⟩
        · exact absurd (.inl h1) hb
        · refine .inr ⟨by omega,h2,h3,h4,fun p a b c d=>?_⟩
          by_cases ep:p=1000 - (j:Int)
          · rw [ep];omega
          · exact h5 p (by omega) b c d
    · rw [if_pos (by simp;omega)]
      rcases ih with ⟨h1,h2⟩|⟨h1,h2,h3,h4,h5⟩
      · refine .inl ⟨h1,fun p a b=>?_⟩
        by_cases ep:p=1000 - (j:Int)
        · rw [ep];exact hm
        · exact h2 p (by omega) b
      · refine .inr ⟨by omega,h2,h3,h4,fun p a b c d=>?_⟩
        by_cases ep:p=1000 - (j:Int)
        · rw [ep] at c d;exact absurd ⟨c,d⟩ hm
        · exact h5 p (by omega) b c d
theorem priceOf_eq (l:List Lot) (ref:Int):(bestC l ref 1000).vol=mostOf l 1000∧(mostOf l 1000=0→(bestC l ref 1000).price=0) ∧
    (mostOf l 1000≠0→(bestC l ref 1000).price=bestD l ref (mostOf l 1000) (leastOf l (mostOf l 1000) 1000) 1000):=by
  obtain ⟨m1,m2,m3⟩:=mostOf_spec l 1000
  rcases bestC_spec l ref 1000 with ⟨h1,h2⟩|⟨p,p1,p2,h2,h3,h4⟩
  · have hz:mostOf l 1000=0:=by
      rcases m3 with h|⟨q,a,b,e⟩
      · exact h
      · have:=h1 q a b
        simp only [candAt] at this
        unfold volP at e
        omega
    rw [h2,hz]
    exact ⟨rfl,fun _=>rfl,fun h=>absurd rfl h⟩
  · rw [h2]
    simp only [candAt] at h3 ⊢
    have hvp:volP l p=min (dem l p) (sup l p):=rfl
    have hv:volP l p=mostOf l 1000:=by
      have a:=m2 p p1 (by omega)
      rcases m3 with h|⟨q,b,c,e⟩
      · omega
      · by_cases eq:q=p
        · rw [← eq];exact e
        · have hvq:volP l q=min (dem l q) (sup l q):=rfl
          rcases h4 q b c eq with g|g
          · simp only [candAt] at g;omega
          · unfold Cand.better at g
            simp only [candAt] at g
            omega
    refine ⟨by rw [← hvp,hv],fun h=>by omega,fun hne=>?_⟩
    rcases leastOf_spec l (mostOf l 1000) 1000 with ⟨_,h⟩|⟨s1,⟨q,a,b,c,d⟩,s3⟩
    · exact absurd hv (h p p1 (by omega))
    have hs:surP l p=leastOf l (mostOf l 1000) 1000:=by
      have e1:=s3 p p1 (by omega) hv
      by_cases eq:q=p
      · rw [← eq];exact d
      · have hvq:volP l q=min (dem l q) (sup l q):=rfl
        have hsq:surP l q=iabs (dem l q - sup l q):=rfl
        have hsp:surP l p=iabs (dem l p - sup l p):=rfl
        rcases h4 q a (by omega) eq with g|g
        · simp only [candAt] at g;omega
        · unfold Cand.better at g
          simp only [candAt] at g
          omega
    rcases bestD_spec l ref (mostOf l 1000) (leastOf l (mostOf l 1000) 1000) 1000 (Nat.le_refl _) with ⟨_,h⟩|⟨r1,r2,r3,r4,r5⟩
    · exact absurd ⟨hv,hs⟩ (h p (by omega) (by omega))
    generalize bestD l ref (mostOf l 1000) (leastOf l (mostOf l 1000) 1000) 1000=r at *
    apply Classical.byContradiction
    intro hne2
    have hvq:volP l r=min (dem l r) (sup l r):=rfl
    have hsq:surP l r=iabs (dem l r - sup l r):=rfl
    have hsp:surP l p=iabs (dem l p - sup l p):=rfl
    have e1:=r5 p (by omega) (by omega) hv hs
    rcases h4 r (by omega) (by omega) (fun e=>hne2 e.symm) with g|g
    · simp only [candAt] at g;omega
    · unfold Cand.better at g
      simp only [candAt] at g
      omega
end Go.Proofs.YtmbboflakfokhaaGreatDoor

/- 'make([]T, n)' as a step of the walk: a new row of n zero values. No condition. -/
set_option linter.unusedSimpArgs false
set_option linter.unusedVariables false
namespace Go.Proofs.YtmbboflakfokhaaGreatDoor
open Go.RowKit
section
variable {P:Program}
theorem wpList_make_row {ops:Array Oper} {rest:List Oper} {o:Oper} {a:Act} {w:World} {Q:Exit→Act→World→Prop} (hgd:o.guard=none) (t:TypeId) (x y:Operand) (ho:o.op=.makeSlice t x y)
    (n:Nat) (cs:Array Value) (e:TypeId) (kl kc:IntKind) (hx:a.eval x=.int kl (n:Int)) (hy:a.eval y=.int kc (n:Int))
    (hrun:∀ w:World,(Instr.makeSlice t (.int kl (n:Int)) (.int kc (n:Int))).run P w=.ok (.slice (some ⟨w.heap.size,0,none⟩) n n) (w.alloc (.cells cs e)))
    (h:wpList P ops Q rest (a.put o.dst (.slice (some ⟨w.heap.size,0,none⟩) n n)) (w.alloc (.cells cs e))):wpList P ops Q (o::rest) a w:=by
  refine wpList_plain hgd fun _ hK=>?_
  unfold Oper.wp execOp
  simp [ho,hx,hy,Sem.run_bind,hrun,Result.andThen_ok]
  exact hK _ _ h
end
end Go.Proofs.YtmbboflakfokhaaGreatDoor

/- What the document's PriceOf computes. -/
set_option linter.unusedSimpArgs false
set_option linter.unusedVariables false
namespace Go.Proofs.YtmbboflakfokhaaGreatDoor
open Go.RowKit
theorem refSize_any (n:Int) (w:World) (h1:-1000000≤n) (h2:n≤1000000):Calls Tryz.prog 86 #[.int .i64 n] w fun e w'=>e=.returned (.int .i64 (iabs n))∧w=w':=by
  by_cases h:n<0
  all_goals
    go_enter Tryz.func86,Tryz.ntmps86
    go_wp2
    all_goals go_ret
    all_goals exact ⟨ret_int (by unfold iabs;omega),rfl⟩
def PoInv (l:List Lot) (w:World) (k:Nat) (wr:World):Prop:=wr.rowIs w.heap.size 3 1001 (fun j=>.int .i64 (if 1≤j∧j≤k then volP l j else 0))∧wr.rowIs (w.heap.size+1) 3 1001 (fun j=>.int .i64 (if 1≤j∧j≤k then surP l j else 0))∧Below w.heap.size w wr
theorem po_row {l:Nat→Int} {k:Nat} {v:Int} (hv:l (k+1)=v) (j:Nat):(if j=k+1 then Value.int .i64 v else .int .i64 (if 1≤j∧j≤k then l j else 0))=.int .i64 (if 1≤j∧j≤k+1 then l j else 0):=by
  by_cases e:j=k+1
  · subst e;rw [if_pos rfl,if_pos (by omega),hv]
  · rw [if_neg e]
    by_cases e2:1≤j∧j≤k
    · rw [if_pos e2,if_pos (by omega)]
    · rw [if_neg e2,if_neg (by omega)]
theorem PoInv.step1 {l:List Lot} {w wr:World} {k:Nat} {v s:Int} (h:PoInv l w k wr) (hk:k<1000) (hv:volP l ((k:Int)+1)=v) (hs:surP l ((k:Int)+1)=s) :
    PoInv l w (k+1) ((wr.setCell ⟨w.heap.size,k+1,none⟩ (.int .i64 v)).setCell ⟨w.heap.size+1,k+1,none⟩ (.int .i64 s)):=by
  obtain ⟨h1,h2,h3⟩:=h
  refine ⟨((h1.set (k+1) _).setOther (by simp) _).congr fun j _=>po_row (l:=fun j=>volP l j) hv j,((h2.setOther (by simp) _).set (k+1) _).congr fun j _=>po_row (l:=fun j=>surP l j) hs j,?_⟩
  exact Below.setCell (Below.setCell h3 (Nat.le_refl _) _) (by show w.heap.size≤w.heap.size+1;omega) _
theorem PoInv.step2 {l:List Lot} {w wr:World} {k:Nat} {v s u:Int} (h:PoInv l w k wr) (hk:k<1000) (hv:volP l ((k:Int)+1)=v) (hs:surP l ((k:Int)+1)=s) :
    PoInv l w (k+1) (((wr.setCell ⟨w.heap.size,k+1,none⟩ (.int .i64 u)).setCell ⟨w.heap.size,k+1,none⟩ (.int .i64 v)).setCell ⟨w.heap.size+1,k+1,none⟩ (.int .i64 s)):=by
  obtain ⟨h1,h2,h3⟩:=h
  refine ⟨(((h1.set (k+1) _).set (k+1) _).setOther (by simp) _).congr fun j _=>?_,(((h2.setOther (by simp) _).setOther (by simp) _).set (k+1) _).congr fun j _=>po_row (l:=fun j=>surP l j) hs j,?_⟩
  · rw [← po_row (l:=fun j=>volP l j) hv j]
    by_cases e:j=k+1
    · rw [if_pos e,if_pos e]
    · rw [if_neg e,if_neg e,if_neg e]
  · exact Below.setCell (Below.setCell (Below.setCell h3 (Nat.le_refl _) _) (Nat.le_refl _) _) (by show w.heap.size≤w.heap.size+1;omega) _
set_option maxRecDepth 100000 in
set_option maxHeartbeats 8000000 in
theorem priceOf_any (ao:Option Addr) (len cap:Nat) (l:List Lot) (ref:Int) (w:World) (hl:LotsAt w ao len l) (hok:LotsOk l) (r1:1≤ref) (r2:ref≤1000) :
    Calls Tryz.prog 51 #[.slice ao len cap,.int .i64 ref] w fun e w'=>e=.returned (.tuple #[.int .i64 (bestC l ref 1000).price,.int .i64 (bestC l ref 1000).vol])∧Ex w w':=by
  obtain ⟨cs,hcs,hcn,hcf⟩:∃ cs:Array Value,cs=madeCells #[.int .i64 0] 1001∧cs.size=1001∧∀ i,i<1001→cs[i]?=some (.int .i64 0):=⟨_,rfl,size_madeCells _ _,fun i hi=>by simp [madeCells,hi,Nat.mod_one]⟩
  have hmk:=fun w:World=>run_make_row' (P:=Tryz.prog) 110 3 (.int .i64 0) 8 Tryz.underlying110 infoInt rfl .i64 .i64 1001 (by omega) (by omega) w
  rw [← hcs] at hmk
  have HMK:=Lib.hid hmk
  have HCS:=Lib.hid hcs
  have HCF:=Lib.hid hcf
  have HLA:=Lib.hid hl
  have HOK:=Lib.hid hok
  obtain ⟨e1,e2,e3⟩:=priceOf_eq l ref
  have HE1:=Lib.hid e1;have HE2:=Lib.hid e2;have HE3:=Lib.hid e3
  have hlenmx:=hl.2.1
  clear hmk hcs hcf hl hok e1 e2 e3
  go_enter Tryz.func51,Tryz.ntmps51
  go_wp2_with (with_reducible refine wpList_make_row rfl 110 _ _ rfl 1001 cs 3 .i64 .i64 rfl rfl HMK.out ?_)
  go_loopw [8,9] (fun m p wr=>∃ (k:Nat),k≤1000∧p=.int .i64 ((k:Int)+1)∧m=.int .i64 (mostOf l k)∧PoInv l w k wr) (fun _ p _=>1001 - (intOf p).toNat)
  case atStart =>
    refine ⟨0,by omega,rfl,rfl,?_,?_,Ex.below (by repeat (first|exact Ex.refl _|refine Ex.alloc ?_ _|refine Ex.ext ?_ _ _|refine Ex.drew ?_|refine Ex.drewN ?_ _))⟩
    · exact World.rowIs.alloc (rowIs_of (cs:=cs) (heap_alloc_eq _ _) hcn (fun i hi=>by rw [HCF.out i hi,if_neg (by omega)])) _
    · exact rowIs_of (cs:=cs) (alloc_at (by simp)) hcn (fun i hi=>by rw [HCF.out i hi,if_neg (by omega)])
  case round =>
    obtain ⟨k,hk,rfl,rfl,hpo⟩:=hrel
    by_cases hlt:k<1000
    · have HLW:=Lib.hid (HLA.out.ex (Ex.of hpo.2.2))
      have HPO:=Lib.hid hpo
      have c1:=hpo.1.cell (i:=k+1) (by omega)
      have c2:=hpo.2.1.cell (i:=k+1) (by omega)
      have f1:=hpo.1.frozen (k+1)
      have f2:=hpo.2.1.frozen (k+1)
      have z1:=hpo.1.lt
      have z2:=hpo.2.1.lt
      rw [if_neg (by omega)] at c1 c2
      have hd1:=fun w hl=>demandOf_any ao len cap l ((k:Int)+1) w hl HOK.out
      have hs1:=fun w hl=>supplyOf_any ao len cap l ((k:Int)+1) w hl HOK.out
      have b1:=sumOf_bounds (isDem ((k:Int)+1)) l HOK.out.mem
      have b2:=sumOf_bounds (isSup ((k:Int)+1)) l HOK.out.mem
      have hv0:volP l ((k:Int)+1)=min (sumOf (isDem ((k:Int)+1)) l) (sumOf (isSup ((k:Int)+1)) l):=rfl
      have hv1:surP l ((k:Int)+1)=iabs (sumOf (isDem ((k:Int)+1)) l - sumOf (isSup ((k:Int)+1)) l):=rfl
      generalize sumOf (isDem ((k:Int)+1)) l=D at *
      generalize sumOf (isSup ((k:Int)+1)) l=S at *
      have h120:=HOK.out.1
      have HD1:=Lib.hid hd1
      have HS1:=Lib.hid hs1
      have HV0:=Lib.hid hv0
      have HV1:=Lib.hid hv1
      have j0:(0:Int)≤(k:Int)+1:=by omega
      have j1:(k:Int)+1<1001:=by omega
      have j2:((k:Int)+1).toNat=k+1:=by omega
      have i1:IntKind.i64.wrap (D - S)=D - S:=IntWalk.i64_in _ (by omega)
      clear hpo hd1 hs1 hv0 hv1
      by_cases hsd:S<D
      · have HMS:=Lib.hid (show mostOf l (k+1)=if volP l ((k:Int)+1) > mostOf l k then volP l ((k:Int)+1) else mostOf l k from rfl)
        have hvp:volP l ((k:Int)+1)=S:=by rw [HV0.out];omega
        rw [hvp] at HMS
        have HST:=Lib.hid (PoInv.step2 (u:=D) HPO.out hlt hvp HV1.out)
        clear hvp
        generalize mostOf l k=M at *
        by_cases hm:S > M
        all_goals
          go_wp2_with (first
            | (go_at_call 84;refine (HD1.out _ HLW.out).mono ?_;rintro e w1 ⟨rfl,rfl⟩)
            | (go_at_call 85;refine (HS1.out _ HLW.out).mono ?_;rintro e w1 ⟨rfl,rfl⟩)
            | (go_at_call 86;((with_reducible refine (refSize_any _ _ ?_ ?_).mono ?_);(focus omega);(focus omega));rintro e w1 ⟨rfl,rfl⟩))
        all_goals
          go_roundw
          case measure=>simp [intOf];omega
          case rel=>exact ⟨k+1,by omega,by go_num,by (rw [HMS.out];first|rw [if_pos (by omega)]|rw [if_neg (by omega)]),HST.out⟩
      · have HMS:=Lib.hid (show mostOf l (k+1)=if volP l ((k:Int)+1) > mostOf l k then volP l ((k:Int)+1) else mostOf l k from rfl)
        have hvp:volP l ((k:Int)+1)=D:=by rw [HV0.out];omega
        rw [hvp] at HMS
        have HST:=Lib.hid (PoInv.step1 HPO.out hlt hvp HV1.out)
        clear hvp
        generalize mostOf l k=M at *
        by_cases hm:D > M
        all_goals
          go_wp2_with (first
            | (go_at_call 84;refine (HD1.out _ HLW.out).mono ?_;rintro e w1 ⟨rfl,rfl⟩)
            | (go_at_call 85;refine (HS1.out _ HLW.out).mono ?_;rintro e w1 ⟨rfl,rfl⟩)
            | (go_at_call 86;((with_reducible refine (refSize_any _ _ ?_ ?_).mono ?_);(focus omega);(focus omega));rintro e w1 ⟨rfl,rfl⟩))
        all_goals
          go_roundw
          case measure=>simp [intOf];omega
          case rel=>exact ⟨k+1,by omega,by go_num,by (rw [HMS.out];first|rw [if_pos (by omega)]|rw [if_neg (by omega)]),HST.out⟩
    · obtain rfl:k=1000:=by omega
      by_cases hm0:mostOf l 1000=0
      · have hp0:=HE2.out hm0
        have HP0:=Lib.hid hp0
        have HX:=Lib.hid (Ex.of hpo.2.2)
        rw [hm0]
        have HM0:=Lib.hid hm0
        clear hp0 hm0 hpo
        go_wp2_with fail
        go_ret2
        exact ⟨by rw [HP0.out,HE1.out,HM0.out];rfl,HX.out.trans (by repeat (first|exact Ex.refl _|refine Ex.alloc ?_ _|refine Ex.ext ?_ _ _|refine Ex.drew ?_|refine Ex.drewN ?_ _))⟩
      · have HE4:=Lib.hid (HE3.out hm0)
        have hm0':(mostOf l 1000==0)=false:=by simpa using hm0
        have HPO:=Lib.hid hpo
        have HX:=Lib.hid (Ex.of hpo.2.2)
        have hvr:∀ q:Nat,1≤q→q≤1000→wr.cell? ⟨w.heap.size,q,none⟩=some (.int .i64 (volP l q))∧wr.cell? ⟨w.heap.size+1,q,none⟩=some (.int .i64 (surP l q)):=fun q a b=>by
          have c1:=hpo.1.cell (i:=q) (by omega)
          have c2:=hpo.2.1.cell (i:=q) (by omega)
          rw [if_pos ⟨a,b⟩] at c1 c2
          exact ⟨c1,c2⟩
        have HVR:=Lib.hid hvr
        have z1:=hpo.1.lt
        have z2:=hpo.2.1.lt
        clear hpo hvr hm0
        generalize mostOf l 1000=M at *
        go_wp2_with fail
        go_loop [12,13] (fun c p=>∃ (k:Nat),k≤1000∧p=.int .i64 ((k:Int)+1)∧c=.int .i64 (leastOf l M k)) (fun _ p=>1001 - (intOf p).toNat)
        case atStart=>exact ⟨0,by omega,rfl,rfl⟩
        case round =>
          obtain ⟨k,hk,rfl,rfl⟩:=hrel
          by_cases hlt:k<1000
          · obtain ⟨c1,c2⟩:=HVR.out (k+1) (by omega) (by omega)
            have HMS:=Lib.hid (show leastOf l M (k+1)=if (volP l ((k:Int)+1)==M && (decide (leastOf l M k<0) || decide (surP l ((k:Int)+1)<leastOf l M k)))=true then surP l ((k:Int)+1) else leastOf l M k from rfl)
            rw [show ((k+1:Nat):Int)=(k:Int)+1 by omega] at c1 c2
            generalize volP l ((k:Int)+1)=v at *
            generalize surP l ((k:Int)+1)=s at *
            generalize leastOf l M k=L at *
            have j0:(0:Int)≤(k:Int)+1:=by omega
            have j1:(k:Int)+1<1001:=by omega
            have j2:((k:Int)+1).toNat=k+1:=by omega
            cases t1:(v==M)
            · go_wp2_with fail
              all_goals
                go_round
                case measure=>simp [intOf];omega
                case rel=>exact ⟨k+1,by omega,by go_num,by rw [HMS.out,t1];rfl⟩
            · by_cases t2:L<0
              · go_wp2_with fail
                all_goals
                  go_round
                  case measure=>simp [intOf];omega
                  case rel=>exact ⟨k+1,by omega,by go_num,by rw [HMS.out,t1,decide_eq_true t2];rfl⟩
              · by_cases t3:s<L
                · go_wp2_with fail
                  all_goals
                    go_round
                    case measure=>simp [intOf];omega
                    case rel=>exact ⟨k+1,by omega,by go_num,by rw [HMS.out,t1,decide_eq_false t2,decide_eq_true t3];rfl⟩
                · go_wp2_with fail
                  all_goals
                    go_round
                    case measure=>simp [intOf];omega
                    case rel=>exact ⟨k+1,by omega,by go_num,by rw [HMS.out,t1,decide_eq_false t2,decide_eq_false t3];rfl⟩
          · obtain rfl:k=1000:=by omega
            generalize leastOf l M 1000=L at *
            go_wp2_with fail
            go_loop [14,15] (fun b p=>∃ (q:Nat),q≤1000∧p=.int .i64 (q:Int)∧b=.int .i64 (bestD l ref M L (1000 - q))) (fun _ p=>(intOf p).toNat)
            case atStart=>exact ⟨1000,by omega,rfl,rfl⟩
            case round =>
              obtain ⟨q,hq,rfl,rfl⟩:=hrel
              cases q with
              | zero =>
                go_wp2_with fail
                go_ret2
                exact ⟨by rw [HE4.out,HE1.out];rfl,HX.out.trans (by repeat (first|exact Ex.refl _|refine Ex.alloc ?_ _|refine Ex.ext ?_ _ _|refine Ex.drew ?_|refine Ex.drewN ?_ _))⟩
              | succ q =>
                obtain ⟨c1,c2⟩:=HVR.out (q+1) (by omega) (by omega)
                have eq1:((q+1:Nat):Int)=(q:Int)+1:=by omega
                rw [eq1] at c1 c2
                rw [eq1]
                have j0:(0:Int)≤(q:Int)+1:=by omega
                have j1:(q:Int)+1<1001:=by omega
                have j2:((q:Int)+1).toNat=q+1:=by omega
                clear eq1
                have hbd:0≤bestD l ref M L (1000 - (q+1))∧bestD l ref M L (1000 - (q+1))≤1000:=by
                  rcases bestD_spec l ref M L (1000 - (q+1)) (by omega) with ⟨h,_⟩|⟨h1,h2,_⟩
                  · rw [h];omega
                  · omega
                have e0:(1000:Int) - ((1000 - (q+1):Nat):Int)=((q:Int)+1):=by omega
                have hms:bestD l ref M L (1000 - (q+1)+1)=if (volP l ((q:Int)+1) != M || surP l ((q:Int)+1) != L)=true then bestD l ref M L (1000 - (q+1))
                    else if (bestD l ref M L (1000 - (q+1))==0 || decide (iabs (((q:Int)+1) - ref)≤iabs (bestD l ref M L (1000 - (q+1)) - ref)))=true then ((q:Int)+1) else bestD l ref M L (1000 - (q+1)):=by
                  rw [← e0];rfl
                rw [show 1000 - (q+1)+1=1000 - q by omega] at hms
                have HMS:=Lib.hid hms
                generalize volP l ((q:Int)+1)=v at *
                generalize surP l ((q:Int)+1)=s at *
                generalize bestD l ref M L (1000 - (q+1))=bb at *
                have HSZ1:=Lib.hid (refSize_any (((q:Int)+1) - ref) wr (by omega) (by omega))
                have HSZ2:=Lib.hid (refSize_any (bb - ref) wr (by omega) (by omega))
                generalize hi1:iabs (((q:Int)+1) - ref)=x1 at *
                generalize hi2:iabs (bb - ref)=x2 at *
                clear hms e0 hi1 hi2
                cases t1:(v != M)
                · cases t2:(s != L)
                  · cases t3:(bb==0)
                    · by_cases t4:x1≤x2
                      · go_wp2_with (first
                          | (go_at_call 86;(with_reducible refine HSZ1.out.mono ?_);rintro e w1 ⟨rfl,rfl⟩)
                          | (go_at_call 86;(with_reducible refine HSZ2.out.mono ?_);rintro e w1 ⟨rfl,rfl⟩))
                        all_goals
                          go_round
                          case measure=>simp [intOf]
                          case rel=>exact ⟨q,by omega,by go_num,by rw [HMS.out,t1,t2,t3,decide_eq_true t4];rfl⟩
                      · go_wp2_with (first
                          | (go_at_call 86;(with_reducible refine HSZ1.out.mono ?_);rintro e w1 ⟨rfl,rfl⟩)
                          | (go_at_call 86;(with_reducible refine HSZ2.out.mono ?_);rintro e w1 ⟨rfl,rfl⟩))
                        all_goals
                          go_round
                          case measure=>simp [intOf]
                          case rel=>exact ⟨q,by omega,by go_num,by rw [HMS.out,t1,t2,t3,decide_eq_false (show ¬ x1≤x2 by omega)];rfl⟩
                    · go_wp2_with fail
                      all_goals
                        go_round
                        case measure=>simp [intOf]
                        case rel=>exact ⟨q,by omega,by go_num,by rw [HMS.out,t1,t2,t3];rfl⟩
                  · go_wp2_with fail
                    all_goals
                      go_round
                      case measure=>simp [intOf]
                      case rel=>exact ⟨q,by omega,by go_num,by rw [HMS.out,t1,t2];rfl⟩
                · go_wp2_with fail
                  all_goals
                    go_round
                    case measure=>simp [intOf]
                    case rel=>exact ⟨q,by omega,by go_num,by rw [HMS.out,t1];rfl⟩
end Go.Proofs.YtmbboflakfokhaaGreatDoor

/- What the document's Trade computes. Printed by wip/tools/mtrade_gen.py. -/
set_option linter.unusedSimpArgs false
set_option linter.unusedVariables false
namespace Go.Proofs.YtmbboflakfokhaaGreatDoor
open Go.RowKit
def tradeQ (P:Pu) (item:Int) (b s:Lot) (price qty:Int):Pu:=if tradeE P item b s price qty=0 then tradeF P b.owner.toNat s.owner.toNat item.toNat (b.price*qty) (price*qty) qty else P
def BoxTwo (nb ns:Nat) (b s:Lot) (W:World):Prop:=W.heap[nb]?=some (.cells #[.int .i64 b.id,.int .i64 b.owner,.int .i64 b.side,.int .i64 b.price,.int .i64 b.qty] 44 (0,0))∧W.heap[ns]?=some (.cells #[.int .i64 s.id,.int .i64 s.owner,.int .i64 s.side,.int .i64 s.price,.int .i64 s.qty] 44 (0,0))
theorem boxTwoS {nb ns:Nat} {b s:Lot} {W:World} (h:BoxTwo nb ns b s W):W.cell? ⟨nb,0,none⟩=some (.int .i64 b.id)∧W.cell? ⟨nb,1,none⟩=some (.int .i64 b.owner)∧W.cell? ⟨nb,2,none⟩=some (.int .i64 b.side)∧W.cell? ⟨nb,3,none⟩=some (.int .i64 b.price)∧W.cell? ⟨nb,4,none⟩=some (.int .i64 b.qty)∧W.cell? ⟨ns,0,none⟩=some (.int .i64 s.id)∧W.cell? ⟨ns,1,none⟩=some (.int .i64 s.owner)∧W.cell? ⟨ns,2,none⟩=some (.int .i64 s.side)∧W.cell? ⟨ns,3,none⟩=some (.int .i64 s.price)∧W.cell? ⟨ns,4,none⟩=some (.int .i64 s.qty):=by
  obtain ⟨h1,h2⟩:=h
  refine ⟨?_,?_,?_,?_,?_,?_,?_,?_,?_,?_⟩<;>simp [World.cell?,h1,h2]
theorem BoxTwo.lt {nb ns:Nat} {b s:Lot} {W:World} (h:BoxTwo nb ns b s W):nb<W.heap.size∧ns<W.heap.size:=⟨(Array.getElem?_eq_some_iff.1 h.1).1,(Array.getElem?_eq_some_iff.1 h.2).1⟩
theorem BoxTwo.later {nb ns:Nat} {b s:Lot} {W W':World} (h:BoxTwo nb ns b s W) (hx:Ex W W'):BoxTwo nb ns b s W':=⟨(hx.below.block _ h.lt.1).trans h.1,(hx.below.block _ h.lt.2).trans h.2⟩
def HasBox (n:Nat) (z0 z1 z2 z3 z4 z5 z6 z7:Int) (W:World):Prop:=W.heap[n]?=some (.cells #[.int .i64 z0,.int .i64 z1,.int .i64 z2,.int .i64 z3,.int .i64 z4,.int .i64 z5,.int .i64 z6,.int .i64 z7] 86 (0,0))
theorem HasBox.cells {n:Nat} {z0 z1 z2 z3 z4 z5 z6 z7:Int} {W:World} (h:HasBox n z0 z1 z2 z3 z4 z5 z6 z7 W):W.cell? ⟨n,0,none⟩=some (.int .i64 z0)∧W.cell? ⟨n,1,none⟩=some (.int .i64 z1)∧W.cell? ⟨n,2,none⟩=some (.int .i64 z2)∧W.cell? ⟨n,3,none⟩=some (.int .i64 z3)∧W.cell? ⟨n,4,none⟩=some (.int .i64 z4)∧W.cell? ⟨n,5,none⟩=some (.int .i64 z5)∧W.cell? ⟨n,6,none⟩=some (.int .i64 z6)∧W.cell? ⟨n,7,none⟩=some (.int .i64 z7):=by
  have h':W.heap[n]?=_:=h
  refine ⟨?_,?_,?_,?_,?_,?_,?_,?_⟩<;>simp [World.cell?,h']
theorem HasBox.frozen {n:Nat} {z0 z1 z2 z3 z4 z5 z6 z7:Int} {W:World} (h:HasBox n z0 z1 z2 z3 z4 z5 z6 z7 W) (j:Nat):W.frozen? ⟨n,j,none⟩=false:=by simp [World.frozen?,show W.heap[n]?=_ from h]
theorem HasBox.lt {n:Nat} {z0 z1 z2 z3 z4 z5 z6 z7:Int} {W:World} (h:HasBox n z0 z1 z2 z3 z4 z5 z6 z7 W):n<W.heap.size:=(Array.getElem?_eq_some_iff.1 h).1
theorem HasBox.later {n:Nat} {z0 z1 z2 z3 z4 z5 z6 z7:Int} {W W':World} (h:HasBox n z0 z1 z2 z3 z4 z5 z6 z7 W) (hx:Ex W W'):HasBox n z0 z1 z2 z3 z4 z5 z6 z7 W':=(hx.below.block _ h.lt).trans h
theorem HasBox.top {n:Nat} {z0 z1 z2 z3 z4 z5 z6 z7:Int} {W:World} (h:n=W.heap.size):HasBox n z0 z1 z2 z3 z4 z5 z6 z7 (W.alloc (.cells #[.int .i64 z0,.int .i64 z1,.int .i64 z2,.int .i64 z3,.int .i64 z4,.int .i64 z5,.int .i64 z6,.int .i64 z7] 86)):=heap_new h
theorem HasBox.other {n:Nat} {z0 z1 z2 z3 z4 z5 z6 z7:Int} {W:World} (h:HasBox n z0 z1 z2 z3 z4 z5 z6 z7 W) {q:Nat} (hq:n≠q) (j:Nat) (v:Value):HasBox n z0 z1 z2 z3 z4 z5 z6 z7 (W.setCell ⟨q,j,none⟩ v):=(heap_setCell_other W ⟨q,j,none⟩ n v hq).trans h
theorem BoxTwo.other {nb ns:Nat} {b s:Lot} {W:World} (h:BoxTwo nb ns b s W) {q:Nat} (h1:nb≠q) (h2:ns≠q) (j:Nat) (v:Value):BoxTwo nb ns b s (W.setCell ⟨q,j,none⟩ v):=⟨(heap_setCell_other W ⟨q,j,none⟩ nb v h1).trans h.1,(heap_setCell_other W ⟨q,j,none⟩ ns v h2).trans h.2⟩
theorem HasBox.set0 {n:Nat} {z0 z1 z2 z3 z4 z5 z6 z7:Int} {W:World} (h:HasBox n z0 z1 z2 z3 z4 z5 z6 z7 W) (v:Int):HasBox n v z1 z2 z3 z4 z5 z6 z7 (W.setCell ⟨n,0,none⟩ (.int .i64 v)):=by
  have:=heap_setCell_same W n 0 _ _ (.int .i64 v) h
  simpa [HasBox] using this
theorem HasBox.set1 {n:Nat} {z0 z1 z2 z3 z4 z5 z6 z7:Int} {W:World} (h:HasBox n z0 z1 z2 z3 z4 z5 z6 z7 W) (v:Int):HasBox n z0 v z2 z3 z4 z5 z6 z7 (W.setCell ⟨n,1,none⟩ (.int .i64 v)):=by
  have:=heap_setCell_same W n 1 _ _ (.int .i64 v) h
  simpa [HasBox] using this
theorem HasBox.set2 {n:Nat} {z0 z1 z2 z3 z4 z5 z6 z7:Int} {W:World} (h:HasBox n z0 z1 z2 z3 z4 z5 z6 z7 W) (v:Int):HasBox n z0 z1 v z3 z4 z5 z6 z7 (W.setCell ⟨n,2,none⟩ (.int .i64 v)):=by
  have:=heap_setCell_same W n 2 _ _ (.int .i64 v) h
  simpa [HasBox] using this
theorem HasBox.set3 {n:Nat} {z0 z1 z2 z3 z4 z5 z6 z7:Int} {W:World} (h:HasBox n z0 z1 z2 z3 z4 z5 z6 z7 W) (v:Int):HasBox n z0 z1 z2 v z4 z5 z6 z7 (W.setCell ⟨n,3,none⟩ (.int .i64 v)):=by
  have:=heap_setCell_same W n 3 _ _ (.int .i64 v) h
  simpa [HasBox] using this
theorem HasBox.set4 {n:Nat} {z0 z1 z2 z3 z4 z5 z6 z7:Int} {W:World} (h:HasBox n z0 z1 z2 z3 z4 z5 z6 z7 W) (v:Int):HasBox n z0 z1 z2 z3 v z5 z6 z7 (W.setCell ⟨n,4,none⟩ (.int .i64 v)):=by
  have:=heap_setCell_same W n 4 _ _ (.int .i64 v) h
  simpa [HasBox] using this
theorem HasBox.set5 {n:Nat} {z0 z1 z2 z3 z4 z5 z6 z7:Int} {W:World} (h:HasBox n z0 z1 z2 z3 z4 z5 z6 z7 W) (v:Int):HasBox n z0 z1 z2 z3 z4 v z6 z7 (W.setCell ⟨n,5,none⟩ (.int .i64 v)):=by
  have:=heap_setCell_same W n 5 _ _ (.int .i64 v) h
  simpa [HasBox] using this
theorem HasBox.set6 {n:Nat} {z0 z1 z2 z3 z4 z5 z6 z7:Int} {W:World} (h:HasBox n z0 z1 z2 z3 z4 z5 z6 z7 W) (v:Int):HasBox n z0 z1 z2 z3 z4 z5 v z7 (W.setCell ⟨n,6,none⟩ (.int .i64 v)):=by
  have:=heap_setCell_same W n 6 _ _ (.int .i64 v) h
  simpa [HasBox] using this
theorem HasBox.set7 {n:Nat} {z0 z1 z2 z3 z4 z5 z6 z7:Int} {W:World} (h:HasBox n z0 z1 z2 z3 z4 z5 z6 z7 W) (v:Int):HasBox n z0 z1 z2 z3 z4 z5 z6 v (W.setCell ⟨n,7,none⟩ (.int .i64 v)):=by
  have:=heap_setCell_same W n 7 _ _ (.int .i64 v) h
  simpa [HasBox] using this
theorem trade_heq0 (P P1:Pu) (bo so:Nat) (m1 m2 qty:Int) (h:P1=P.put bo (vec8 (P bo 0 - m2) (P bo 1 - m1) (P bo 2+qty) (P bo 3) (P bo 4) (P bo 5) (P bo 6) (P bo 7))) (d k:Nat) (hk:k<8):P1.put so (vec8 (P1 so 0+m2) (P1 so 1) (P1 so 2 - qty) (P1 so 3) (P1 so 4) (P1 so 5 - qty) (P1 so 6) (P1 so 7)) d k=tradeF P bo so 0 m1 m2 qty d k:=by
  subst h
  by_cases e1:d=bo<;>by_cases e2:d=so<;>by_cases e3:bo=so<;>rcases lt8 hk with rfl|rfl|rfl|rfl|rfl|rfl|rfl|rfl<;>simp_all [tradeF,Pu.put,Pu.set,vec8]<;>omega
theorem trade_heq1 (P P1:Pu) (bo so:Nat) (m1 m2 qty:Int) (h:P1=P.put bo (vec8 (P bo 0 - m2) (P bo 1 - m1) (P bo 2) (P bo 3+qty) (P bo 4) (P bo 5) (P bo 6) (P bo 7))) (d k:Nat) (hk:k<8):P1.put so (vec8 (P1 so 0+m2) (P1 so 1) (P1 so 2) (P1 so 3 - qty) (P1 so 4) (P1 so 5) (P1 so 6 - qty) (P1 so 7)) d k=tradeF P bo so 1 m1 m2 qty d k:=by
  subst h
  by_cases e1:d=bo<;>by_cases e2:d=so<;>by_cases e3:bo=so<;>rcases lt8 hk with rfl|rfl|rfl|rfl|rfl|rfl|rfl|rfl<;>simp_all [tradeF,Pu.put,Pu.set,vec8]<;>omega
theorem trade_heq2 (P P1:Pu) (bo so:Nat) (m1 m2 qty:Int) (h:P1=P.put bo (vec8 (P bo 0 - m2) (P bo 1 - m1) (P bo 2) (P bo 3) (P bo 4+qty) (P bo 5) (P bo 6) (P bo 7))) (d k:Nat) (hk:k<8):P1.put so (vec8 (P1 so 0+m2) (P1 so 1) (P1 so 2) (P1 so 3) (P1 so 4 - qty) (P1 so 5) (P1 so 6) (P1 so 7 - qty)) d k=tradeF P bo so 2 m1 m2 qty d k:=by
  subst h
  by_cases e1:d=bo<;>by_cases e2:d=so<;>by_cases e3:bo=so<;>rcases lt8 hk with rfl|rfl|rfl|rfl|rfl|rfl|rfl|rfl<;>simp_all [tradeF,Pu.put,Pu.set,vec8]<;>omega
section
variable {own:Nat→Nat} {i:Nat} {w:World} {p:Nat} {P:Pu}
set_option maxRecDepth 100000 in
set_option maxHeartbeats 4000000 in
theorem mtrade_bad (h:PurseAt own i w p P) (item:Int) (b s:Lot) (price qty:Int) (hQ:PInv (tradeQ P item b s price qty)) (hfair:fairE item b s price qty≠0) :
    Calls Tryz.prog 54 #[.pointer (some ⟨p,0,none⟩),.int .i64 item,b.val,s.val,.int .i64 price,.int .i64 qty] w fun e w'=>e=.returned (.int .i64 (tradeE P item b s price qty:Nat))∧ObjTo own i i w (fun o w'=>PurseAt o i w' p (tradeQ P item b s price qty)) w':=by
  have HB:=Lib.hid (mlotError_any b)
  have HS:=Lib.hid (mlotError_any s)
  have HI:=Lib.hid (isItem_any item)
  have H:=Lib.hid h
  have HQ:=Lib.hid hQ
  have hp:=h.lt
  clear h hQ
  have HBAD:Hid (∀ (n:Nat) W,tradeE P item b s price qty=n→n≠0→Ex w W→ObjTo own i i w (fun o w'=>PurseAt o i w' p (tradeQ P item b s price qty)) W):=Lib.hid (fun n W e h0 hx=>by
    unfold tradeQ
    rw [if_neg (by rw [e];exact h0)]
    exact ObjTo.of_ex hx ((H.out.relabel (fun n hn e=>by rw [lab_lt hn];exact e)).later hx))
  go_enter Tryz.func54,Tryz.ntmps54
  cases hi:inR item 0 2
  · as_aux_lemma =>
    rw [hi] at HI
    have E0:Hid (tradeE P item b s price qty=2):=Lib.hid (by simp [tradeE,fairE,rightB,hi])
    clear hi
    go_upto_region 2 with (go_at_call 70;(with_reducible refine (HI.out _).mono ?_);rintro e w1 ⟨rfl,l1,d1,rfl⟩)
    go_quiet (fail)
    all_goals go_wp2_with fail
    all_goals go_ret
    all_goals exact ⟨by rw [E0.out];rfl,HBAD.out 2 _ E0.out (by decide) (by repeat (first|exact Ex.refl _|refine Ex.alloc ?_ _|refine Ex.ext ?_ _ _|refine Ex.drew ?_|refine Ex.drewN ?_ _))⟩
  · rw [hi] at HI
    go_upto_region 2 with (go_at_call 70;(with_reducible refine (HI.out _).mono ?_);rintro e w1 ⟨rfl,l1,d1,rfl⟩)
    refine wp_world (R:=fun W=>Ex w W∧BoxTwo w.heap.size (w.heap.size+1) b s W) ⟨(by repeat (first|exact Ex.refl _|refine Ex.alloc ?_ _|refine Ex.ext ?_ _ _|refine Ex.drew ?_|refine Ex.drewN ?_ _)),?_⟩ ?_
    · exact BoxTwo.later (W:=(w.alloc (.cells #[.int .i64 b.id,.int .i64 b.owner,.int .i64 b.side,.int .i64 b.price,.int .i64 b.qty] 44)).alloc (.cells #[.int .i64 s.id,.int .i64 s.owner,.int .i64 s.side,.int .i64 s.price,.int .i64 s.qty] 44)) ⟨(Below.heap_alloc _ _ _ (by simp [go_sem])).trans (heap_new rfl),heap_new (by simp [go_sem])⟩ (by repeat (first|exact Ex.refl _|refine Ex.alloc ?_ _|refine Ex.ext ?_ _ _|refine Ex.drew ?_|refine Ex.drewN ?_ _))
    rintro W1 ⟨hx1,hb1⟩
    have HX1:=Lib.hid hx1
    have HB1:=Lib.hid hb1
    have hn2:=hb1.lt
    clear hx1 hb1
    obtain ⟨kb,hkb⟩:∃ k:Int,k=if b.ok=true then 0 else 2:=⟨_,rfl⟩
    obtain ⟨ks,hks⟩:∃ k:Int,k=if s.ok=true then 0 else 2:=⟨_,rfl⟩
    rw [← hkb] at HB
    rw [← hks] at HS
    have hkb2:(b.ok=true∧kb=0)∨(b.ok=false∧kb=2):=by rw [hkb];cases b.ok<;>simp
    have hks2:(s.ok=true∧ks=0)∨(s.ok=false∧ks=2):=by rw [hks];cases s.ok<;>simp
    clear hkb hks
    have kw:IntKind.i64.wrap (kb+ks)=kb+ks:=IntWalk.i64_in _ (by omega)
    generalize hnb:w.heap.size=nb at *
    generalize hns:nb+1=ns at *
    go_region_held3 (fun W=>W.cell? ⟨nb,0,none⟩=some (.int .i64 b.id)∧W.cell? ⟨nb,1,none⟩=some (.int .i64 b.owner)∧W.cell? ⟨nb,2,none⟩=some (.int .i64 b.side)∧W.cell? ⟨nb,3,none⟩=some (.int .i64 b.price)∧W.cell? ⟨nb,4,none⟩=some (.int .i64 b.qty)∧W.cell? ⟨ns,0,none⟩=some (.int .i64 s.id)∧W.cell? ⟨ns,1,none⟩=some (.int .i64 s.owner)∧W.cell? ⟨ns,2,none⟩=some (.int .i64 s.side)∧W.cell? ⟨ns,3,none⟩=some (.int .i64 s.price)∧W.cell? ⟨ns,4,none⟩=some (.int .i64 s.qty)) ((first|exact boxTwoS HB1.out|exact boxTwoS (HB1.out.later (by repeat (first|exact Ex.refl _|refine Ex.alloc ?_ _|refine Ex.ext ?_ _ _|refine Ex.drew ?_|refine Ex.drewN ?_ _))))) ((first
      | (go_at_call 36;(with_reducible refine (HB.out _).mono ?_);rintro e w2 ⟨rfl,l2,d2,rfl⟩)
      | (go_at_call 36;(with_reducible refine (HS.out _).mono ?_);rintro e w3 ⟨rfl,l3,d3,rfl⟩)))
    clear kw
    by_cases hr:b.ok=true∧s.ok=true
    · have hz:kb+ks=0:=by
        rcases hkb2 with h|h
        · rcases hks2 with h'|h'
          · omega
          · rw [h'.1] at hr;exact absurd hr.2 (by decide)
        · rw [h.1] at hr;exact absurd hr.1 (by decide)
      rw [hz]
      go_upto_region 4 with fail
      refine wp_world (R:=fun W=>Ex w W∧BoxTwo nb ns b s W) ⟨HX1.out.trans (by repeat (first|exact Ex.refl _|refine Ex.alloc ?_ _|refine Ex.ext ?_ _ _|refine Ex.drew ?_|refine Ex.drewN ?_ _)),HB1.out.later (by repeat (first|exact Ex.refl _|refine Ex.alloc ?_ _|refine Ex.ext ?_ _ _|refine Ex.drew ?_|refine Ex.drewN ?_ _))⟩ ?_
      clear HB HS HI HX1 HB1 hkb2 hks2 hn2
      rintro W2 ⟨hx2,hb2⟩
      obtain ⟨a0,a1,a2,a3,a4,b0,b1,b2,b3,b4⟩:=boxTwoS hb2
      have HX2:=Lib.hid hx2
      have HB2:=Lib.hid hb2
      have hn2:=hb2.lt
      have hz2:=hx2.below.size
      have HP2:=Lib.hid (H.out.later hx2)
      clear hx2 hb2
      have hrb:(rightB item b && rightB item s)=true:=by simp [rightB,hi,hr.1,hr.2]
      have HF:Hid (fairE item b s price qty=(if b.side=0∧s.side=1 then (if price<1∨1000<price∨qty<1∨b.qty<qty∨s.qty<qty then 2 else if b.price<price∨price<s.price then 12 else 0) else 3)):=Lib.hid (by unfold fairE;rw [if_pos hrb])
      have HT:Hid (∀ n,fairE item b s price qty=n→n≠0→tradeE P item b s price qty=n):=Lib.hid (fun n e h0=>by unfold tradeE;rw [if_neg (by rw [e];exact h0),e])
      obtain ⟨_,ob,sb,pb,qb⟩:=Lot.okC hr.1
      obtain ⟨_,os,ss,ps,qs⟩:=Lot.okC hr.2
      obtain ⟨i0,i2⟩:=inR_iff.1 hi
      clear hr hrb hi
      by_cases f1:b.side=0∧s.side=1
      · rw [if_pos f1] at HF
        obtain ⟨f1b,f1s⟩:=f1
        rw [f1b] at a2
        rw [f1s] at b2
        by_cases p1:price<1
        · as_aux_lemma =>
          rw [if_pos (by omega)] at HF
          have E0:Hid (tradeE P item b s price qty=2):=Lib.hid (HT.out 2 HF.out (by decide))
          clear HF HT
          go_wp2_with fail
          all_goals go_ret
          all_goals exact ⟨by rw [E0.out];rfl,HBAD.out 2 _ E0.out (by decide) (HX2.out.trans (by repeat (first|exact Ex.refl _|refine Ex.alloc ?_ _|refine Ex.ext ?_ _ _|refine Ex.drew ?_|refine Ex.drewN ?_ _)))⟩
        by_cases p2:1000<price
        · as_aux_lemma =>
          rw [if_pos (by omega)] at HF
          have E0:Hid (tradeE P item b s price qty=2):=Lib.hid (HT.out 2 HF.out (by decide))
          clear HF HT
          go_wp2_with fail
          all_goals go_ret
          all_goals exact ⟨by rw [E0.out];rfl,HBAD.out 2 _ E0.out (by decide) (HX2.out.trans (by repeat (first|exact Ex.refl _|refine Ex.alloc ?_ _|refine Ex.ext ?_ _ _|refine Ex.drew ?_|refine Ex.drewN ?_ _)))⟩
        by_cases p3:qty<1
        · as_aux_lemma =>
          rw [if_pos (by omega)] at HF
          have E0:Hid (tradeE P item b s price qty=2):=Lib.hid (HT.out 2 HF.out (by decide))
          clear HF HT
          go_wp2_with fail
          all_goals go_ret
          all_goals exact ⟨by rw [E0.out];rfl,HBAD.out 2 _ E0.out (by decide) (HX2.out.trans (by repeat (first|exact Ex.refl _|refine Ex.alloc ?_ _|refine Ex.ext ?_ _ _|refine Ex.drew ?_|refine Ex.drewN ?_ _)))⟩
        by_cases p4:b.qty<qty
        · as_aux_lemma =>
          rw [if_pos (by omega)] at HF
          have E0:Hid (tradeE P item b s price qty=2):=Lib.hid (HT.out 2 HF.out (by decide))
          clear HF HT
          go_wp2_with fail
          all_goals go_ret
          all_goals exact ⟨by rw [E0.out];rfl,HBAD.out 2 _ E0.out (by decide) (HX2.out.trans (by repeat (first|exact Ex.refl _|refine Ex.alloc ?_ _|refine Ex.ext ?_ _ _|refine Ex.drew ?_|refine Ex.drewN ?_ _)))⟩
        by_cases p5:s.qty<qty
        · as_aux_lemma =>
          rw [if_pos (by omega)] at HF
          have E0:Hid (tradeE P item b s price qty=2):=Lib.hid (HT.out 2 HF.out (by decide))
          clear HF HT
          go_wp2_with fail
          all_goals go_ret
          all_goals exact ⟨by rw [E0.out];rfl,HBAD.out 2 _ E0.out (by decide) (HX2.out.trans (by repeat (first|exact Ex.refl _|refine Ex.alloc ?_ _|refine Ex.ext ?_ _ _|refine Ex.drew ?_|refine Ex.drewN ?_ _)))⟩
        rw [if_neg (by omega)] at HF
        by_cases p6:b.price<price
        · as_aux_lemma =>
          rw [if_pos (by omega)] at HF
          have E0:Hid (tradeE P item b s price qty=12):=Lib.hid (HT.out 12 HF.out (by decide))
          clear HF HT
          go_wp2_with fail
          all_goals go_ret
          all_goals exact ⟨by rw [E0.out];rfl,HBAD.out 12 _ E0.out (by decide) (HX2.out.trans (by repeat (first|exact Ex.refl _|refine Ex.alloc ?_ _|refine Ex.ext ?_ _ _|refine Ex.drew ?_|refine Ex.drewN ?_ _)))⟩
        by_cases p7:price<s.price
        · as_aux_lemma =>
          rw [if_pos (by omega)] at HF
          have E0:Hid (tradeE P item b s price qty=12):=Lib.hid (HT.out 12 HF.out (by decide))
          clear HF HT
          go_wp2_with fail
          all_goals go_ret
          all_goals exact ⟨by rw [E0.out];rfl,HBAD.out 12 _ E0.out (by decide) (HX2.out.trans (by repeat (first|exact Ex.refl _|refine Ex.alloc ?_ _|refine Ex.ext ?_ _ _|refine Ex.drew ?_|refine Ex.drewN ?_ _)))⟩
        rw [if_neg (by omega)] at HF
        exact (hfair HF.out).elim
      · rw [if_neg f1] at HF
        have E0:Hid (tradeE P item b s price qty=3):=Lib.hid (HT.out 3 HF.out (by decide))
        clear HF HT
        by_cases fb:b.side=0
        · have fs:¬ s.side=1:=fun e=>f1 ⟨fb,e⟩
          rw [fb] at a2
          clear f1
          go_wp2_with fail
          all_goals go_ret
          all_goals exact ⟨by rw [E0.out];rfl,HBAD.out 3 _ E0.out (by decide) (HX2.out.trans (by repeat (first|exact Ex.refl _|refine Ex.alloc ?_ _|refine Ex.ext ?_ _ _|refine Ex.drew ?_|refine Ex.drewN ?_ _)))⟩
        · clear f1
          go_wp2_with fail
          all_goals go_ret
          all_goals exact ⟨by rw [E0.out];rfl,HBAD.out 3 _ E0.out (by decide) (HX2.out.trans (by repeat (first|exact Ex.refl _|refine Ex.alloc ?_ _|refine Ex.ext ?_ _ _|refine Ex.drew ?_|refine Ex.drewN ?_ _)))⟩
    · have hz:decide (0<kb+ks)=true:=by
        apply decide_eq_true
        rcases hkb2 with h|h
        · rcases hks2 with h'|h'
          · exact absurd ⟨h.1,h'.1⟩ hr
          · omega
        · rcases hks2 with h'|h'<;>omega
      have E0:Hid (tradeE P item b s price qty=2):=Lib.hid (by
        have:(rightB item b && rightB item s)=false:=by
          simp only [rightB,hi,Bool.true_and]
          cases hb:b.ok
          · rfl
          · cases hs:s.ok
            · rfl
            · exact absurd ⟨hb,hs⟩ hr
        simp [tradeE,fairE,this])
      rw [hz]
      go_wp2_with fail
      all_goals go_ret
      all_goals exact ⟨by rw [E0.out];rfl,HBAD.out 2 _ E0.out (by decide) (HX1.out.trans (by repeat (first|exact Ex.refl _|refine Ex.alloc ?_ _|refine Ex.ext ?_ _ _|refine Ex.drew ?_|refine Ex.drewN ?_ _)))⟩
end
end Go.Proofs.YtmbboflakfokhaaGreatDoor

/- A store of a client's eight numbers, in one step. -/
set_option linter.unusedSimpArgs false
set_option linter.unusedVariables false
namespace Go.Proofs.YtmbboflakfokhaaGreatDoor
open Go.RowKit
theorem run_storeVar8 {Pr:Program} {w:World} {g:Nat} {t ty:TypeId} {Q:Pu} (h:PRow w g t Q) {c:Nat} (hc:c<6) (hi:(Pr.info? ty).map (·.size)=some 8) (z0 z1 z2 z3 z4 z5 z6 z7:Int) :
    (storeVar ty ⟨g,c*8,none⟩ (.agg #[.int .i64 z0,.int .i64 z1,.int .i64 z2,.int .i64 z3,.int .i64 z4,.int .i64 z5,.int .i64 z6,.int .i64 z7])).run Pr w=.ok () ((((((((w.setCell ⟨g,c*8,none⟩ (.int .i64 z0)).setCell ⟨g,c*8+1,none⟩ (.int .i64 z1)).setCell ⟨g,c*8+2,none⟩ (.int .i64 z2)).setCell ⟨g,c*8+3,none⟩ (.int .i64 z3)).setCell ⟨g,c*8+4,none⟩ (.int .i64 z4)).setCell ⟨g,c*8+5,none⟩ (.int .i64 z5)).setCell ⟨g,c*8+6,none⟩ (.int .i64 z6)).setCell ⟨g,c*8+7,none⟩ (.int .i64 z7)):=by
  have hst:=run_storeCells_cells (P:=Pr) g (c*8) [.int .i64 z0,.int .i64 z1,.int .i64 z2,.int .i64 z3,.int .i64 z4,.int .i64 z5,.int .i64 z6,.int .i64 z7] 0 w (fun j hj=>by
    rw [Nat.add_zero,PRow.cell h hc (by simpa using hj)];rfl) (fun j hj=>World.rowIs.frozen h _) (by intro v hv;simp at hv;rcases hv with rfl|rfl|rfl|rfl|rfl|rfl|rfl|rfl<;>rfl)
  obtain ⟨i,hi1,hi2⟩:=Option.map_eq_some_iff.1 hi
  simp [storeVar,Value.cells,sizeOf,typeInfo,hi1,hi2,Sem.run_bind]
  simpa [World.setCells] using hst
theorem step_store8 {Pr:Program} {ops:Array Oper} {o:Oper} {a:Act} {w:World} {K:Act→World→Prop} {Q:Exit→Act→World→Prop} {E:Prop} (hgd:o.guard=none) (ty:TypeId) (p x:Operand) (ho:o.op=.store ty p x)
    (g c:Nat) (hp:a.eval p=.pointer (some ⟨g,c*8,none⟩)) (z0 z1 z2 z3 z4 z5 z6 z7:Int) (hx:a.eval x=.agg #[.int .i64 z0,.int .i64 z1,.int .i64 z2,.int .i64 z3,.int .i64 z4,.int .i64 z5,.int .i64 z6,.int .i64 z7]) (t:TypeId) (R:Pu) (h:PRow w g t R) (hc:c<6) (hi:(Pr.info? ty).map (·.size)=some 8)
    (hK:K (a.put o.dst undef) ((((((((w.setCell ⟨g,c*8,none⟩ (.int .i64 z0)).setCell ⟨g,c*8+1,none⟩ (.int .i64 z1)).setCell ⟨g,c*8+2,none⟩ (.int .i64 z2)).setCell ⟨g,c*8+3,none⟩ (.int .i64 z3)).setCell ⟨g,c*8+4,none⟩ (.int .i64 z4)).setCell ⟨g,c*8+5,none⟩ (.int .i64 z5)).setCell ⟨g,c*8+6,none⟩ (.int .i64 z6)).setCell ⟨g,c*8+7,none⟩ (.int .i64 z7))) :
    if Region.wanted o (yielded ops a.tmps)=true then Oper.wp Pr o a w K Q else E:=by
  have hw:Region.wanted o (yielded ops a.tmps)=true:=by simp [Region.wanted,hgd]
  rw [if_pos hw]
  unfold Oper.wp execOp
  simp [ho,hp,hx,Instr.storeAt,Instr.sureAddr,Sem.run_bind,run_storeVar8 h hc hi z0 z1 z2 z3 z4 z5 z6 z7,Result.andThen_ok]
  exact hK
end Go.Proofs.YtmbboflakfokhaaGreatDoor

/- What stays where a client's eight numbers are stored. -/
set_option linter.unusedSimpArgs false
set_option linter.unusedVariables false
namespace Go.Proofs.YtmbboflakfokhaaGreatDoor
open Go.RowKit
abbrev Held8 (own:Nat→Nat) (i:Nat) (w:World) (hs:Nat) (y0 y1 y2 y3 y4 y5 y6 y7:Int) (nb ns:Nat) (b s:Lot) (p:Nat) (t:TypeId) (P:Pu) (W:World):Prop:=HasBox hs y0 y1 y2 y3 y4 y5 y6 y7 W∧BoxTwo nb ns b s W∧PRow W p t P∧Kp own 1 i w W
theorem st8_all {own:Nat→Nat} {i:Nat} {w W:World} {hs:Nat} {y0 y1 y2 y3 y4 y5 y6 y7:Int} {nb ns:Nat} {b s:Lot} {p:Nat} {t:TypeId} {P:Pu} (hg:HasBox hs y0 y1 y2 y3 y4 y5 y6 y7 W) (hb:BoxTwo nb ns b s W) (hr:PRow W p t P) (hK:Kp own 1 i w W) (h1:own p=i) (q1:hs≠p) (q2:nb≠p) (q3:ns≠p) (c:Nat) (z0 z1 z2 z3 z4 z5 z6 z7:Int) :
    Held8 own i w hs y0 y1 y2 y3 y4 y5 y6 y7 nb ns b s p t (P.put c (vec8 z0 z1 z2 z3 z4 z5 z6 z7)) ((((((((W.setCell ⟨p,c*8,none⟩ (.int .i64 z0)).setCell ⟨p,c*8+1,none⟩ (.int .i64 z1)).setCell ⟨p,c*8+2,none⟩ (.int .i64 z2)).setCell ⟨p,c*8+3,none⟩ (.int .i64 z3)).setCell ⟨p,c*8+4,none⟩ (.int .i64 z4)).setCell ⟨p,c*8+5,none⟩ (.int .i64 z5)).setCell ⟨p,c*8+6,none⟩ (.int .i64 z6)).setCell ⟨p,c*8+7,none⟩ (.int .i64 z7)):=by
  refine ⟨?_,?_,PRow.set8 hr c z0 z1 z2 z3 z4 z5 z6 z7,put8_kp hK h1 c (vec8 z0 z1 z2 z3 z4 z5 z6 z7)⟩
  · exact (((((((hg.other q1 _ _).other q1 _ _).other q1 _ _).other q1 _ _).other q1 _ _).other q1 _ _).other q1 _ _).other q1 _ _
  · exact (((((((hb.other q2 q3 _ _).other q2 q3 _ _).other q2 q3 _ _).other q2 q3 _ _).other q2 q3 _ _).other q2 q3 _ _).other q2 q3 _ _).other q2 q3 _ _
theorem Held8.drew {own:Nat→Nat} {i:Nat} {w W:World} {hs:Nat} {y0 y1 y2 y3 y4 y5 y6 y7:Int} {nb ns:Nat} {b s:Lot} {p:Nat} {t:TypeId} {P:Pu} (h:Held8 own i w hs y0 y1 y2 y3 y4 y5 y6 y7 nb ns b s p t P W):Held8 own i w hs y0 y1 y2 y3 y4 y5 y6 y7 nb ns b s p t P W.drew:=⟨h.1,h.2.1,h.2.2.1,h.2.2.2.drew⟩
theorem step_store8h {Pr:Program} {ops:Array Oper} {o:Oper} {a:Act} {W:World} {K:Act→World→Prop} {Q:Exit→Act→World→Prop} {E:Prop} (hgd:o.guard=none) (ty:TypeId) (pp x:Operand) (ho:o.op=.store ty pp x)
    {own:Nat→Nat} {i:Nat} {w:World} {hs:Nat} {y0 y1 y2 y3 y4 y5 y6 y7:Int} {nb ns:Nat} {b s:Lot} {p:Nat} {t:TypeId} {P:Pu} (hH:Held8 own i w hs y0 y1 y2 y3 y4 y5 y6 y7 nb ns b s p t P W) (h1:own p=i) (q1:hs≠p) (q2:nb≠p) (q3:ns≠p)
    (c:Nat) (hp:a.eval pp=.pointer (some ⟨p,c*8,none⟩)) (z0 z1 z2 z3 z4 z5 z6 z7:Int) (hx:a.eval x=.agg #[.int .i64 z0,.int .i64 z1,.int .i64 z2,.int .i64 z3,.int .i64 z4,.int .i64 z5,.int .i64 z6,.int .i64 z7]) (hc:c<6) (hi:(Pr.info? ty).map (·.size)=some 8)
    (hK:∀ W5,Held8 own i w hs y0 y1 y2 y3 y4 y5 y6 y7 nb ns b s p t (P.put c (vec8 z0 z1 z2 z3 z4 z5 z6 z7)) W5→K (a.put o.dst undef) W5) :
    if Region.wanted o (yielded ops a.tmps)=true then Oper.wp Pr o a W K Q else E :=
  step_store8 hgd ty pp x ho p c hp z0 z1 z2 z3 z4 z5 z6 z7 hx t P hH.2.2.1 hc hi (hK _ (st8_all hH.1 hH.2.1 hH.2.2.1 hH.2.2.2 h1 q1 q2 q3 c z0 z1 z2 z3 z4 z5 z6 z7))
theorem run_storeHas8 {Pr:Program} {W:World} {g:Nat} {ty:TypeId} {y0 y1 y2 y3 y4 y5 y6 y7:Int} (h:HasBox g y0 y1 y2 y3 y4 y5 y6 y7 W) (hi:(Pr.info? ty).map (·.size)=some 8) (z0 z1 z2 z3 z4 z5 z6 z7:Int) :
    (storeVar ty ⟨g,0,none⟩ (.agg #[.int .i64 z0,.int .i64 z1,.int .i64 z2,.int .i64 z3,.int .i64 z4,.int .i64 z5,.int .i64 z6,.int .i64 z7])).run Pr W=.ok () (W.setCells g 0 [.int .i64 z0,.int .i64 z1,.int .i64 z2,.int .i64 z3,.int .i64 z4,.int .i64 z5,.int .i64 z6,.int .i64 z7]):=by
  obtain ⟨c0,c1,c2,c3,c4,c5,c6,c7⟩:=h.cells
  have hst:=run_storeCells_cells (P:=Pr) g 0 [.int .i64 z0,.int .i64 z1,.int .i64 z2,.int .i64 z3,.int .i64 z4,.int .i64 z5,.int .i64 z6,.int .i64 z7] 0 W (fun j hj=>by
    have:j=0∨j=1∨j=2∨j=3∨j=4∨j=5∨j=6∨j=7:=by simp at hj;omega
    rcases this with rfl|rfl|rfl|rfl|rfl|rfl|rfl|rfl<;>simp [*]) (fun j hj=>h.frozen _) (by intro v hv;simp at hv;rcases hv with rfl|rfl|rfl|rfl|rfl|rfl|rfl|rfl<;>rfl)
  obtain ⟨i,hi1,hi2⟩:=Option.map_eq_some_iff.1 hi
  simp [storeVar,Value.cells,sizeOf,typeInfo,hi1,hi2,Sem.run_bind]
  simpa using hst
theorem step_has8 {Pr:Program} {ops:Array Oper} {o:Oper} {a:Act} {W:World} {K:Act→World→Prop} {Q:Exit→Act→World→Prop} {E:Prop} (hgd:o.guard=none) (ty:TypeId) (pp x:Operand) (ho:o.op=.store ty pp x)
    {own:Nat→Nat} {i:Nat} {w:World} {hs:Nat} {y0 y1 y2 y3 y4 y5 y6 y7:Int} {nb ns:Nat} {b s:Lot} {p:Nat} {t:TypeId} {P:Pu} (hH:Held8 own i w hs y0 y1 y2 y3 y4 y5 y6 y7 nb ns b s p t P W) (q1:p≠hs) (q2:nb≠hs) (q3:ns≠hs) (hsz:w.heap.size≤hs)
    (hp:a.eval pp=.pointer (some ⟨hs,0,none⟩)) (z0 z1 z2 z3 z4 z5 z6 z7:Int) (hx:a.eval x=.agg #[.int .i64 z0,.int .i64 z1,.int .i64 z2,.int .i64 z3,.int .i64 z4,.int .i64 z5,.int .i64 z6,.int .i64 z7]) (hi:(Pr.info? ty).map (·.size)=some 8)
    (hK:∀ W5,Held8 own i w hs z0 z1 z2 z3 z4 z5 z6 z7 nb ns b s p t P W5→K (a.put o.dst undef) W5) :
    if Region.wanted o (yielded ops a.tmps)=true then Oper.wp Pr o a W K Q else E:=by
  have hw:Region.wanted o (yielded ops a.tmps)=true:=by simp [Region.wanted,hgd]
  rw [if_pos hw]
  obtain ⟨hg,hb,hr,hKp⟩:=hH
  have hl:=hg.lt
  have hKs:∀ (V:World) (j:Nat) (v:Value),Kp own 1 i w V→Kp own 1 i w (V.setCell ⟨hs,j,none⟩ v):=fun V j v h=>h.setCell (fun h'=>absurd (show hs<w.heap.size from h') (by omega)) v
  have hPs:∀ (V:World) (j:Nat) (v:Value),PRow V p t P→PRow (V.setCell ⟨hs,j,none⟩ v) p t P:=fun V j v h=>World.rowIs.of_block h (Below.heap_setCell V ⟨hs,j,none⟩ v p q1)
  have hH2:Held8 own i w hs z0 z1 z2 z3 z4 z5 z6 z7 nb ns b s p t P (W.setCells hs 0 [.int .i64 z0,.int .i64 z1,.int .i64 z2,.int .i64 z3,.int .i64 z4,.int .i64 z5,.int .i64 z6,.int .i64 z7]):=by
    simp only [World.setCells,Nat.zero_add,Nat.reduceAdd]
    exact ⟨(((((((hg.set0 z0).set1 z1).set2 z2).set3 z3).set4 z4).set5 z5).set6 z6).set7 z7,
      (((((((hb.other q2 q3 _ _).other q2 q3 _ _).other q2 q3 _ _).other q2 q3 _ _).other q2 q3 _ _).other q2 q3 _ _).other q2 q3 _ _).other q2 q3 _ _,
      hPs _ _ _ (hPs _ _ _ (hPs _ _ _ (hPs _ _ _ (hPs _ _ _ (hPs _ _ _ (hPs _ _ _ (hPs _ _ _ hr))))))),
      hKs _ _ _ (hKs _ _ _ (hKs _ _ _ (hKs _ _ _ (hKs _ _ _ (hKs _ _ _ (hKs _ _ _ (hKs _ _ _ hKp)))))))⟩
  unfold Oper.wp execOp
  simp [ho,hp,hx,Instr.storeAt,Instr.sureAddr,Sem.run_bind,run_storeHas8 hg hi z0 z1 z2 z3 z4 z5 z6 z7,Result.andThen_ok]
  exact hK _ hH2
theorem mput_end {own:Nat→Nat} {i:Nat} {w W7 W:World} {p:Nat} {t:TypeId} {R Q:Pu} (hr:PRow W7 p t R) (hK:Kp own 1 i w W7) (h1:own p=i) (hI:PInv Q) (heq:∀ d k,k<8→R d k=Q d k) (hx:Ex W7 W):ObjTo own i i w (fun o w'=>PurseAt o i w' p Q) W:=by
  have hb:=hx.below
  exact ObjTo.of (hK.trans hb.os hb.tape hb.output hb.size fun k hk _=>hb.block k (Nat.lt_of_lt_of_le hk hK.size)) (PurseAt.toLab (PurseAt.later ⟨h1,hI,t,PRow.congr hr heq⟩ hx))
end Go.Proofs.YtmbboflakfokhaaGreatDoor
