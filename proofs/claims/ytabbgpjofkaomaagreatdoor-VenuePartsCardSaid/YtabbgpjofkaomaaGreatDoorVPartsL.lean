import Derived.Test.YtabbgpjofkaomaaGreatDoorJ42
set_option linter.unusedSimpArgs false
set_option linter.unusedVariables false
/- Plain facts: bytes that are fed in parts make what they make at once. -/
namespace Go.Proofs.YtabbgpjofkaomaaGreatDoor
open Go.RowKit
section
variable {n:Nat} {x y:List UInt8} {v:VSt} {g:Got}
theorem setCl_self (n:Nat) (a:Cli) (v:VSt):(v.setCl n a).cl n=a:=if_pos rfl
theorem setCl_twice (n:Nat) (a b:Cli) (v:VSt):(v.setCl n a).setCl n b=v.setCl n b:=by
 unfold VSt.setCl
 congr 1
 funext j
 by_cases h:j=n
 ·rw [if_pos h,if_pos h]
 ·rw [if_neg h,if_neg h]
  exact if_neg h
end
end Go.Proofs.YtabbgpjofkaomaaGreatDoor
