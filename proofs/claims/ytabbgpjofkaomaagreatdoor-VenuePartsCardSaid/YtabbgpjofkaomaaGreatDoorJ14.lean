import Derived.Test.YtabbgpjofkaomaaGreatDoorJ12
import Derived.Test.YtabbgpjofkaomaaGreatDoorRefLots
set_option linter.unusedSimpArgs false
set_option linter.unusedVariables false
/- Plain facts on one price: what the search for a candidate comes to. -/
namespace Go.Proofs.YtabbgpjofkaomaaGreatDoor
open Go.RowKit
def iabs (n:Int):Int:=max n (-n)
structure Cand where
 price:Int
 vol:Int
 sur:Int
 far:Int
def Cand.betterB (c d:Cand):Bool :=
 if c.vol != d.vol then decide (c.vol > d.vol) else if c.sur != d.sur then decide (c.sur<d.sur) else if c.far != d.far then decide (c.far<d.far) else decide (c.price<d.price)
def Cand.better (c d:Cand):Prop:=d.vol<c.vol∨(d.vol=c.vol∧(c.sur<d.sur∨(c.sur=d.sur∧(c.far<d.far∨(c.far=d.far∧c.price<d.price)))))
theorem Cand.betterB_iff (c d:Cand):c.betterB d=true↔c.better d:=by
 unfold Cand.betterB Cand.better
 by_cases h1:c.vol=d.vol
 ·by_cases h2:c.sur=d.sur
  ·by_cases h3:c.far=d.far
   ·simp [h1,h2,h3]
   ·simp [h1,h2,h3]
  ·simp [h1,h2]
 ·simp [h1];omega
theorem Cand.better_trans {a b c:Cand} (h:a.better b) (k:b.better c):a.better c:=by
 unfold Cand.better at *;omega
theorem Cand.better_total {a b:Cand} (h:¬ a.better b) (hp:b.price<a.price):b.better a:=by
 unfold Cand.better at *;omega
def dem (l:List Lot) (p:Int):Int:=sumOf (isDem p) l
def sup (l:List Lot) (p:Int):Int:=sumOf (isSup p) l
def candAt (l:List Lot) (ref p:Int):Cand:=⟨p,min (dem l p) (sup l p),iabs (dem l p - sup l p),iabs (p - ref)⟩
def bestC (l:List Lot) (ref:Int):Nat→Cand
 | 0=>⟨0,0,0,0⟩
 | k+1=>if decide (0<(candAt l ref ((k:Int)+1)).vol) && (candAt l ref ((k:Int)+1)).betterB (bestC l ref k) then candAt l ref ((k:Int)+1) else bestC l ref k
theorem bestC_spec (l:List Lot) (ref:Int):∀ n:Nat,
  ((∀ p:Int,1≤p→p≤n→(candAt l ref p).vol≤0)∧bestC l ref n=⟨0,0,0,0⟩) ∨
  ∃ p:Int,1≤p∧p≤n∧bestC l ref n=candAt l ref p∧0<(candAt l ref p).vol∧∀ q:Int,1≤q→q≤n→q≠p→(candAt l ref q).vol≤0∨(candAt l ref p).better (candAt l ref q)
 | 0=>.inl ⟨fun p h1 h2=>by omega,rfl⟩
 | n+1=>by
  have ih:=bestC_spec l ref n
  by_cases hv:0<(candAt l ref ((n:Int)+1)).vol
  ·rcases ih with ⟨h1,h2⟩|⟨p,hp1,hp2,h2,h3,h4⟩
   ·have hb:(candAt l ref ((n:Int)+1)).better (bestC l ref n):=by rw [h2];exact .inl hv
    right
    refine ⟨(n:Int)+1,by omega,by omega,?_,hv,fun q hq1 hq2 hq3=>.inl (h1 q hq1 (by omega))⟩
    simp only [bestC]
    rw [if_pos (by simp only [Bool.and_eq_true,decide_eq_true_eq];exact ⟨hv,(Cand.betterB_iff _ _).2 hb⟩)]
   ·right
    by_cases hb:(candAt l ref ((n:Int)+1)).better (bestC l ref n)
    ·refine ⟨(n:Int)+1,by omega,by omega,?_,hv,fun q hq1 hq2 hq3=>?_⟩
     ·simp only [bestC]
      rw [if_pos (by simp only [Bool.and_eq_true,decide_eq_true_eq];exact ⟨hv,(Cand.betterB_iff _ _).2 hb⟩)]
     ·by_cases hqp:q=p
      ·right;rw [hqp,← h2];exact hb
      ·rcases h4 q hq1 (by omega) hqp with h|h
       ·exact .inl h
       ·right;rw [h2] at hb;exact Cand.better_trans hb h
    ·refine ⟨p,hp1,by omega,?_,h3,fun q hq1 hq2 hq3=>?_⟩
     ·simp only [bestC]
      rw [if_neg (by
       simp only [Bool.and_eq_true,decide_eq_true_eq,not_and]
       intro _ h;exact hb ((Cand.betterB_iff _ _).1 h)),h2]
     ·by_cases hqn:q=(n:Int)+1
      ·right
       subst hqn
       rw [h2] at hb
       exact Cand.better_total hb (by simp only [candAt];omega)
      ·exact h4 q hq1 (by omega) hq3
  ·have e:bestC l ref (n+1)=bestC l ref n:=by
    simp only [bestC]
    rw [if_neg (by simp only [Bool.and_eq_true,decide_eq_true_eq];intro h;exact hv h.1)]
   rw [e]
   rcases ih with ⟨h1,h2⟩|⟨p,hp1,hp2,h2,h3,h4⟩
   ·refine .inl ⟨fun p hp1 hp2=>?_,h2⟩
    by_cases hqn:p=(n:Int)+1
    ·subst hqn;omega
    ·exact h1 p hp1 (by omega)
   ·refine .inr ⟨p,hp1,by omega,h2,h3,fun q hq1 hq2 hq3=>?_⟩
    by_cases hqn:q=(n:Int)+1
    ·subst hqn;left;omega
    ·exact h4 q hq1 (by omega) hq3
theorem sumOf_congr {is js:Lot→Bool}:∀ (l:List Lot),(∀ x∈l,is x=js x)→sumOf is l=sumOf js l
 | [],_=>rfl
 | x::l,h=>by
  simp only [sumOf]
  rw [h x (by simp),sumOf_congr l fun y hy=>h y (by simp [hy])]
end Go.Proofs.YtabbgpjofkaomaaGreatDoor

/- What the document's BestOf, PricesOf and SameInts compute. -/
namespace Go.Proofs.YtabbgpjofkaomaaGreatDoor
open Go.RowKit
theorem sorted_unique:∀ {xs ys:List Int},xs.Pairwise (·<·)→ys.Pairwise (·<·)→(∀ p,p∈xs↔p∈ys)→xs=ys
 | [],[],_,_,_=>rfl
 | [],y::ys,_,_,h=>by have:=(h y).2 (by simp);cases this
 | x::xs,[],_,_,h=>by have:=(h x).1 (by simp);cases this
 | x::xs,y::ys,hx,hy,h=>by
  rw [List.pairwise_cons] at hx hy
  have e:x=y:=by
   have a:=(h x).1 (by simp)
   have b:=(h y).2 (by simp)
   rcases List.mem_cons.1 a with a|a
   ·exact a
   ·rcases List.mem_cons.1 b with b|b
    ·exact b.symm
    ·have:=hy.1 x a;have:=hx.1 y b;omega
  subst e
  congr 1
  refine sorted_unique hx.2 hy.2 fun p=>⟨fun hp=>?_,fun hp=>?_⟩
  ·have:=hx.1 p hp
   rcases List.mem_cons.1 ((h p).1 (by simp [hp])) with e|e
   ·omega
   ·exact e
  ·have:=hy.1 p hp
   rcases List.mem_cons.1 ((h p).2 (by simp [hp])) with e|e
   ·omega
   ·exact e
theorem owns_mono {w:World} {base base':Nat} {e:TypeId} {size:Nat} {v:Value} {n:Nat} {xs:List Value} (h:w.ownsRow base e size v n xs) (hb:base'≤base):w.ownsRow base' e size v n xs :=
 ⟨h.1,h.2.imp id fun ⟨g,cap,cur,h1,h2,h3⟩=>⟨g,cap,cur,h1,Nat.le_trans hb h2,h3⟩⟩
end Go.Proofs.YtabbgpjofkaomaaGreatDoor
