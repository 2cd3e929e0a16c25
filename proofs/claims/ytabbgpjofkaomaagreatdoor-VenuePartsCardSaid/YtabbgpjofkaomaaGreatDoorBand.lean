import Derived.Test.YtabbgpjofkaomaaGreatDoorChecked
import Derived.Test.YtabbgpjofkaomaaGreatDoorJ0
set_option linter.unusedSimpArgs false
set_option linter.unusedVariables false
namespace Go.Proofs.YtabbgpjofkaomaaGreatDoor
open Go.RowKit
theorem ruleCheck_ok (wi h:Int) (w:World) (h1:0≤wi) (h2:wi≤100) (h3:1≤h) (h4:h≤1000) :
    Calls Tryz.prog 71 #[.agg #[.int .i64 wi,.int .i64 h]] w fun e w'=>e=.returned .nilIface∧Ex w w':=by
  go_enter Tryz.func71,Tryz.ntmps71
  go_wp2
  all_goals go_ret
  all_goals exact ⟨rfl,Ex.of ((Below.refl _ _).alloc (Nat.le_refl _) _)⟩
theorem bandCheck_ok (r l:Int) (w:World) (h1:1≤r) (h2:r≤1000) (h3:0≤l) (h4:l≤1000) :
    Calls Tryz.prog 185 #[.agg #[.int .i64 r,.int .i64 l]] w fun e w'=>e=.returned .nilIface∧Ex w w':=by
  go_enter Tryz.func185,Tryz.ntmps185
  go_wp2
  all_goals go_ret
  all_goals exact ⟨rfl,Ex.of ((Below.refl _ _).alloc (Nat.le_refl _) _)⟩
def within (wi ref p:Int):Bool:=decide ((if p - ref<ref - p then ref - p else p - ref)*100≤ref*wi)
theorem prod_bd (ref wi:Int) (h1:0≤wi) (h2:wi≤100) (h3:1≤ref) (h4:ref≤1000):0≤ref*wi∧ref*wi≤100000:=by
  constructor
  · exact Int.mul_nonneg (by omega) h1
  · have:=Int.mul_le_mul h4 h2 h1 (by omega:(0:Int)≤1000)
    omega
theorem within_any (wi h ref p:Int) (w:World) (h1:0≤wi) (h2:wi≤100) (h3:1≤ref) (h4:ref≤1000) (h5:1≤p) (h6:p≤1000) :
    Calls Tryz.prog 186 #[.agg #[.int .i64 wi,.int .i64 h],.int .i64 ref,.int .i64 p] w fun e w'=>e=.returned (.bool (within wi ref p))∧Ex w w':=by
  obtain ⟨b1,b2⟩:=prod_bd ref wi h1 h2 h3 h4
  go_enter Tryz.func186,Tryz.ntmps186
  go_wp2
  all_goals go_ret
  all_goals refine ⟨ret_bool ?_,Ex.of ((Below.refl _ _).alloc (Nat.le_refl _) _)⟩
  · have h:p - ref<ref - p:=by assumption
    simp [within,h]
  · have h:¬ p - ref<ref - p:=by omega
    simp [within,h]
def bnext (ref left wi halt p v:Int):Int × Int × Bool :=
  if 0<left then (if left - 1=0∧0<v then (p,left - 1,false) else (ref,left - 1,false))
  else if 0<v then (if within wi ref p then (p,left,true) else (ref,halt,false)) else (ref,left,true)
set_option maxHeartbeats 400000 in
theorem next_ok (ref left wi halt p v:Int) (w:World) (h1:0≤wi) (h2:wi≤100) (h3:1≤halt) (h4:halt≤1000) (h5:1≤ref) (h6:ref≤1000) (h7:0≤left) (h8:left≤1000) (h9:0≤v) (h10:0<v→1≤p∧p≤1000) :
    Calls Tryz.prog 153 #[.agg #[.int .i64 ref,.int .i64 left],.agg #[.int .i64 wi,.int .i64 halt],.int .i64 p,.int .i64 v] w fun e w' =>
      e=.returned (.tuple #[.agg #[.int .i64 (bnext ref left wi halt p v).1,.int .i64 (bnext ref left wi halt p v).2.1],.bool (bnext ref left wi halt p v).2.2,.nilIface])∧Ex w w':=by
  go_enter Tryz.func153,Tryz.ntmps153
  go_wp2_with fail
  refine (bandCheck_ok _ _ _ h5 h6 h7 h8).mono ?_
  rintro e w1 ⟨rfl,l1,d1,rfl⟩
  go_wp2_with fail
  refine (ruleCheck_ok _ _ _ h1 h2 h3 h4).mono ?_
  rintro e w2 ⟨rfl,l2,d2,rfl⟩
  go_wp2_with (go_at_call 186;refine (within_any _ _ _ _ _ h1 h2 h5 h6 (by omega) (by omega)).mono ?_;rintro e w3 ⟨rfl,l3,d3,rfl⟩)
  all_goals (try simp only [Exit.inBlock,Exit.then])
  all_goals (refine bodyPost_ret (v:=.tuple #[.agg #[.int .i64 (bnext ref left wi halt p v).1,.int .i64 (bnext ref left wi halt p v).2.1],.bool (bnext ref left wi halt p v).2.2,.nilIface]) ?_ rfl ⟨rfl,?_⟩)
  all_goals first
    | (simp [results,Tryz.results153,go_sem]
       unfold bnext
       repeat' split
       all_goals first|(exfalso;omega)|(simp_all;done)|(simp;omega))
    | (repeat (first|exact Ex.refl _|refine Ex.alloc ?_ _|refine Ex.ext ?_ _ _|refine Ex.drew ?_))
end Go.Proofs.YtabbgpjofkaomaaGreatDoor
