import Derived.Test.YtabbgpjofkaomaaGreatDoorJ0
import Derived.Test.YtabbgpjofkaomaaGreatDoorChecked
import Derived.Deep.DeepCutAuto
set_option linter.unusedSimpArgs false
set_option linter.unusedVariables false
/- What wire's Check computes. -/
namespace Go.Proofs.YtabbgpjofkaomaaGreatDoor
open Go.RowKit
theorem wireWithin_any (n lo hi:Int) (w:World) :
  Calls Tryz.prog 141 #[.int .i64 n,.int .i64 lo,.int .i64 hi] w fun e w'=>e=.returned (.bool (inR n lo hi))∧w=w':=by
 by_cases h:lo≤n
 ·go_enter Tryz.func141,Tryz.ntmps141
  go_wp2
  all_goals go_ret
  all_goals exact ⟨ret_bool (by simp [inR,h]),rfl⟩
 ·go_enter Tryz.func141,Tryz.ntmps141
  go_wp2
  all_goals go_ret
  all_goals exact ⟨ret_bool (by simp [inR];omega),rfl⟩
set_option maxHeartbeats 1000000 in
theorem wirePlace_any (a:Ask) (w:World) :
  Calls Tryz.prog 142 #[a.val] w fun e w'=>e=.returned (.bool a.place)∧Ex w w':=by
 go_enter Tryz.func142,Tryz.ntmps142
 go_wp2_with (go_at_call 141;refine (wireWithin_any _ _ _ _).mono ?_;rintro e w1 ⟨rfl,rfl⟩)
 all_goals go_ret
 all_goals exact ⟨ret_bool (by simp [Ask.place, *]),(by repeat (first|exact Ex.refl _|refine Ex.alloc ?_ _|refine Ex.ext ?_ _ _|refine Ex.drew ?_|refine Ex.drewN ?_ _))⟩
set_option maxHeartbeats 2000000 in
set_option maxRecDepth 100000 in
theorem wireCheck_any (a:Ask) (E:Nat→Addr) (w:World) (hE:Errs E [2,3,4] w) :
  Calls Tryz.prog 109 #[a.val] w fun e w'=>e=.returned (errV E a.err)∧Ex w w':=by
 have e2:w.cell? ⟨0,0,none⟩=some (.iface 357 (.pointer (some (E 2)))):=hE 2 (by decide)
 have b2:0<w.heap.size:=lt_of_cell e2
 have e3:w.cell? ⟨2,0,none⟩=some (.iface 357 (.pointer (some (E 3)))):=hE 3 (by decide)
 have b3:2<w.heap.size:=lt_of_cell e3
 have e4:w.cell? ⟨5,0,none⟩=some (.iface 357 (.pointer (some (E 4)))):=hE 4 (by decide)
 have b4:5<w.heap.size:=lt_of_cell e4
 clear hE
 go_enter Tryz.func109,Tryz.ntmps109
 go_upto_region 1 with (fail)
 go_cut [3] (fun v wx=>v=.bool a.common∧wx=w.alloc (.cells #[.int .u8 a.kind,.int .i64 a.client,.int .i64 a.seq,.int .i64 a.item,.int .i64 a.side,.int .i64 a.price,.int .i64 a.qty,.int .i64 a.id] 45))
 case first =>
  go_wp2_with (go_at_call 141;refine (wireWithin_any _ _ _ _).mono ?_;rintro e w1 ⟨rfl,rfl⟩)
  all_goals
   go_meet
   case rel=>exact ⟨congrArg Value.bool (by simp [Ask.common, *]),rfl⟩
 case rest =>
  obtain ⟨rfl,rfl⟩:=hcut
  go_wp2_with (first
   | (go_at_call 141;refine (wireWithin_any _ _ _ _).mono ?_;rintro e w1 ⟨rfl,rfl⟩)
   | (go_at_call 142;refine (wirePlace_any a _).mono ?_;rintro e w1 ⟨rfl,l1,d1,rfl⟩))
  all_goals go_ret
  all_goals
   refine ⟨congrArg Ending.returned ?_,(by repeat (first|exact Ex.refl _|refine Ex.alloc ?_ _|refine Ex.ext ?_ _ _|refine Ex.drew ?_|refine Ex.drewN ?_ _))⟩
   clear e2 e3 e4
   first
    | (simp [Ask.err,errV,Ask.rest5,Ask.rest3, *];done)
    | (simp only [Bool.not_eq_eq_eq_not,Bool.not_true,Bool.not_false] at *;simp [Ask.err,errV,Ask.rest5,Ask.rest3, *];done)
end Go.Proofs.YtabbgpjofkaomaaGreatDoor
