import Derived.Test.YtabbgpjofkaomaaGreatDoorJ3
import Derived.Test.YtabbgpjofkaomaaGreatDoorJ21
import Derived.Test.YtabbgpjofkaomaaGreatDoorJ0
import Derived.Laws.IdiomArrays
import Derived.Test.YtabbgpjofkaomaaGreatDoorJ7
import Derived.Test.YtabbgpjofkaomaaGreatDoorVLaw4
import Derived.Test.YtabbgpjofkaomaaGreatDoorJ24
import Derived.Test.YtabbgpjofkaomaaGreatDoorJ1
set_option linter.unusedSimpArgs false
set_option linter.unusedVariables false
/- What Copy of package purse computes. -/
namespace Go.Proofs.YtabbgpjofkaomaaGreatDoor
open Go.RowKit
section
variable {own:Nat→Nat} {i:Nat} {w:World} {p:Nat} {P:Pu}
end
end Go.Proofs.YtabbgpjofkaomaaGreatDoor

/- How the row's arguments read: slices of acts of purses. -/
namespace Go.Proofs.YtabbgpjofkaomaaGreatDoor
open Go.ChangeShapes Go.WideShapes Go.ChangeAt Go.RowKit Go.Deep
end Go.Proofs.YtabbgpjofkaomaaGreatDoor

/- What Total of package purse computes. -/
namespace Go.Proofs.YtabbgpjofkaomaaGreatDoor
open Go.RowKit
section
variable {own:Nat→Nat} {i:Nat} {w:World} {p:Nat} {P:Pu}
end
end Go.Proofs.YtabbgpjofkaomaaGreatDoor

/- What the statement VenueKeeps needs: a venue as it is made is in order; ticks in a row; what can be read of a venue. -/
namespace Go.Proofs.YtabbgpjofkaomaaGreatDoor
open Go.RowKit
theorem smallP (c:Nat) (hc:c<6) (j:Nat):(newV smallC).f.p c j=if j=0 then 20000 else if 2≤j∧j<5 then 100 else 0:=if_pos hc
theorem newV_inv:VInv (newV smallC):=by
 refine ⟨⟨FOk.new (by decide) (by decide) (by decide) (by decide) (by decide) (by decide),fun c hc=>?_,by unfold U32;decide,by decide,by decide,fun n _=>by show ((0:Int)≤0∧(0:Int)≤1073741825)∧(0:Int)≤0∧(0:Int)≤((0:Nat):Int);decide,fun n _=>by show (0:Nat)<30;decide,fun n _=>⟨Nat.zero_le _,fun a ha=>by cases ha⟩,Nat.le_refl _⟩,⟨by decide,fun k hk=>?_⟩,fun _ c _=>.inr ⟨rfl,.inr fun k _ x hx=>by cases hx⟩⟩
 ·have h:=smallP c hc
  have h0:=h 0
  have h1:=h 1
  simp only [if_true] at h0
  rw [if_neg (by decide),if_neg (by decide)] at h1
  refine ⟨by omega,by omega,by omega,fun i hi=>?_⟩
  have h5:=h (5+i)
  have h2:=h (2+i)
  rw [if_neg (by omega),if_neg (by omega)] at h5
  rw [if_neg (by omega),if_pos (by omega)] at h2
  omega
 ·have h3:k=0∨k=1∨k=2:=by omega
  rcases h3 with rfl|rfl|rfl<;>decide
section
variable {E:Nat→Addr} {w0 w W W':World} {L M M1 M2:List Th} {F:Nat→Prop} {vb dp:Nat} {fa:FlA} {v:VSt} {k:Nat}
end
theorem stepsAt_later {w w':World} {ao:Option Addr} {len:Nat} {l:List Step} (h:StepsAt w ao len l) (hx:Ex w w'):StepsAt w' ao len l :=
 ⟨h.1,h.2.1,fun a ha=>by
  obtain ⟨h1,h2,⟨h3,y,h4⟩,h5,h6⟩:=h.2.2.1 a ha
  exact ⟨h1,h2,⟨h3,y,asksAt_ex h4 hx⟩,h5,h6⟩,stepsAt_ex h hx⟩
end Go.Proofs.YtabbgpjofkaomaaGreatDoor
