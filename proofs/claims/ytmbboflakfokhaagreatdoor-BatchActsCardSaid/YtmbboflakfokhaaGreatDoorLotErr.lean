import Derived.Test.YtmbboflakfokhaaGreatDoorJ1
/- What the document's in and LotError compute. -/
set_option linter.unusedSimpArgs false
set_option linter.unusedVariables false
namespace Go.Proofs.YtmbboflakfokhaaGreatDoor
open Go.RowKit
theorem refInM_any (n lo hi:Int) (w:World) :
    Calls Tryz.prog 69 #[.int .i64 n,.int .i64 lo,.int .i64 hi] w fun e w'=>e=.returned (.bool (inR n lo hi))∧w=w':=by
  by_cases h:lo≤n
  · go_enter Tryz.func69,Tryz.ntmps69
    go_wp2
    all_goals go_ret
    all_goals exact ⟨ret_bool (by simp [inR,h]),rfl⟩
  · go_enter Tryz.func69,Tryz.ntmps69
    go_wp2
    all_goals go_ret
    all_goals exact ⟨ret_bool (by simp [inR];omega),rfl⟩
set_option maxRecDepth 100000 in
set_option maxHeartbeats 2000000 in
theorem mlotError_any (x:Lot) (w:World) :
    Calls Tryz.prog 36 #[x.val] w fun e w'=>e=.returned (.int .i64 (if x.ok then 0 else 2))∧Ex w w':=by
  have C1:=fun w=>refInM_any x.id 1 1073741824 w
  have C2:=fun w=>refInM_any x.owner 0 5 w
  have C3:=fun w=>refInM_any x.side 0 1 w
  have C4:=fun w=>refInM_any x.price 1 1000 w
  have C5:=fun w=>refInM_any x.qty 1 1000 w
  have e:x.ok=(inR x.id 1 1073741824 && inR x.owner 0 5 && inR x.side 0 1 && inR x.price 1 1000 && inR x.qty 1 1000):=rfl
  rw [e]
  clear e
  generalize inR x.id 1 1073741824=b1 at *
  generalize inR x.owner 0 5=b2 at *
  generalize inR x.side 0 1=b3 at *
  generalize inR x.price 1 1000=b4 at *
  generalize inR x.qty 1 1000=b5 at *
  have H1:=Lib.hid C1;have H2:=Lib.hid C2;have H3:=Lib.hid C3;have H4:=Lib.hid C4;have H5:=Lib.hid C5
  clear C1 C2 C3 C4 C5
  cases b1<;>cases b2<;>cases b3<;>cases b4<;>cases b5
  all_goals
    go_enter Tryz.func36,Tryz.ntmps36
    go_wp2_with (first
      | (go_at_call 69;(with_reducible refine (H1.out _).mono ?_);rintro e w1 ⟨rfl,rfl⟩)
      | (go_at_call 69;(with_reducible refine (H2.out _).mono ?_);rintro e w1 ⟨rfl,rfl⟩)
      | (go_at_call 69;(with_reducible refine (H3.out _).mono ?_);rintro e w1 ⟨rfl,rfl⟩)
      | (go_at_call 69;(with_reducible refine (H4.out _).mono ?_);rintro e w1 ⟨rfl,rfl⟩)
      | (go_at_call 69;(with_reducible refine (H5.out _).mono ?_);rintro e w1 ⟨rfl,rfl⟩))
    all_goals go_ret
    all_goals exact ⟨rfl,(by repeat (first|exact Ex.refl _|refine Ex.alloc ?_ _|refine Ex.ext ?_ _ _|refine Ex.drew ?_|refine Ex.drewN ?_ _))⟩
end Go.Proofs.YtmbboflakfokhaaGreatDoor
