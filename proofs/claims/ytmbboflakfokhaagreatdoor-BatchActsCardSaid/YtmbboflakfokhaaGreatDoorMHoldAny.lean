import Derived.Test.YtmbboflakfokhaaGreatDoorMHold
/- What the document's Hold and Free compute, whatever they are given. -/
set_option linter.unusedSimpArgs false
set_option linter.unusedVariables false
namespace Go.Proofs.YtmbboflakfokhaaGreatDoor
open Go.RowKit
section
variable {own:Nat→Nat} {i:Nat} {w:World} {p:Nat} {P:Pu}
set_option maxRecDepth 100000 in
theorem mhold_bad (h:PurseAt own i w p P) (item:Int) (x:Lot) (hr:rightB item x=false) :
    Calls Tryz.prog 38 #[.pointer (some ⟨p,0,none⟩),.int .i64 item,x.val] w fun e w'=>e=.returned (.int .i64 2)∧ObjTo own i i w (fun o w'=>PurseAt o i w' p P) w':=by
  have HR:=Lib.hid (mlotError_any x)
  have HI:=Lib.hid (isItem_any item)
  have H:=Lib.hid h
  clear h
  cases hi:inR item 0 2
  · rw [hi] at HI
    clear hi hr
    go_enter Tryz.func38,Tryz.ntmps38
    go_wp2_with (first|(go_at_call 70;(with_reducible refine (HI.out _).mono ?_);rintro e w1 ⟨rfl,l1,d1,rfl⟩)|(go_at_call 36;(with_reducible refine (HR.out _).mono ?_);rintro e w2 ⟨rfl,l2,d2,rfl⟩))
    all_goals go_ret
    all_goals exact ⟨rfl,ObjTo.of_ex (by repeat (first|exact Ex.refl _|refine Ex.alloc ?_ _|refine Ex.ext ?_ _ _|refine Ex.drew ?_|refine Ex.drewN ?_ _)) ((H.out.relabel (fun n hn e=>by rw [lab_lt hn];exact e)).later (by repeat (first|exact Ex.refl _|refine Ex.alloc ?_ _|refine Ex.ext ?_ _ _|refine Ex.drew ?_|refine Ex.drewN ?_ _)))⟩
  · rw [hi] at HI
    have hk:x.ok=false:=by simpa [rightB,hi] using hr
    rw [hk] at HR
    simp only [Bool.false_eq_true,if_false] at HR
    clear hi hr hk
    go_enter Tryz.func38,Tryz.ntmps38
    go_wp2_with (first|(go_at_call 70;(with_reducible refine (HI.out _).mono ?_);rintro e w1 ⟨rfl,l1,d1,rfl⟩)|(go_at_call 36;(with_reducible refine (HR.out _).mono ?_);rintro e w2 ⟨rfl,l2,d2,rfl⟩))
    all_goals go_ret
    all_goals exact ⟨rfl,ObjTo.of_ex (by repeat (first|exact Ex.refl _|refine Ex.alloc ?_ _|refine Ex.ext ?_ _ _|refine Ex.drew ?_|refine Ex.drewN ?_ _)) ((H.out.relabel (fun n hn e=>by rw [lab_lt hn];exact e)).later (by repeat (first|exact Ex.refl _|refine Ex.alloc ?_ _|refine Ex.ext ?_ _ _|refine Ex.drew ?_|refine Ex.drewN ?_ _)))⟩
set_option maxRecDepth 100000 in
theorem mfree_bad (h:PurseAt own i w p P) (item:Int) (x:Lot) (hr:rightB item x=false) :
    Calls Tryz.prog 43 #[.pointer (some ⟨p,0,none⟩),.int .i64 item,x.val] w fun e w'=>e=.returned (.int .i64 2)∧ObjTo own i i w (fun o w'=>PurseAt o i w' p P) w':=by
  have HR:=Lib.hid (mlotError_any x)
  have HI:=Lib.hid (isItem_any item)
  have H:=Lib.hid h
  clear h
  cases hi:inR item 0 2
  · rw [hi] at HI
    clear hi hr
    go_enter Tryz.func43,Tryz.ntmps43
    go_wp2_with (first|(go_at_call 70;(with_reducible refine (HI.out _).mono ?_);rintro e w1 ⟨rfl,l1,d1,rfl⟩)|(go_at_call 36;(with_reducible refine (HR.out _).mono ?_);rintro e w2 ⟨rfl,l2,d2,rfl⟩))
    all_goals go_ret
    all_goals exact ⟨rfl,ObjTo.of_ex (by repeat (first|exact Ex.refl _|refine Ex.alloc ?_ _|refine Ex.ext ?_ _ _|refine Ex.drew ?_|refine Ex.drewN ?_ _)) ((H.out.relabel (fun n hn e=>by rw [lab_lt hn];exact e)).later (by repeat (first|exact Ex.refl _|refine Ex.alloc ?_ _|refine Ex.ext ?_ _ _|refine Ex.drew ?_|refine Ex.drewN ?_ _)))⟩
  · rw [hi] at HI
    have hk:x.ok=false:=by simpa [rightB,hi] using hr
    rw [hk] at HR
    simp only [Bool.false_eq_true,if_false] at HR
    clear hi hr hk
    go_enter Tryz.func43,Tryz.ntmps43
    go_wp2_with (first|(go_at_call 70;(with_reducible refine (HI.out _).mono ?_);rintro e w1 ⟨rfl,l1,d1,rfl⟩)|(go_at_call 36;(with_reducible refine (HR.out _).mono ?_);rintro e w2 ⟨rfl,l2,d2,rfl⟩))
    all_goals go_ret
    all_goals exact ⟨rfl,ObjTo.of_ex (by repeat (first|exact Ex.refl _|refine Ex.alloc ?_ _|refine Ex.ext ?_ _ _|refine Ex.drew ?_|refine Ex.drewN ?_ _)) ((H.out.relabel (fun n hn e=>by rw [lab_lt hn];exact e)).later (by repeat (first|exact Ex.refl _|refine Ex.alloc ?_ _|refine Ex.ext ?_ _ _|refine Ex.drew ?_|refine Ex.drewN ?_ _)))⟩
theorem mhold_any (h:PurseAt own i w p P) (item:Int) (x:Lot) :
    Calls Tryz.prog 38 #[.pointer (some ⟨p,0,none⟩),.int .i64 item,x.val] w fun e w'=>e=.returned (.int .i64 (holdE P item x:Nat))∧ObjTo own i i w (fun o w'=>PurseAt o i w' p (holdP P item x)) w':=by
  cases hr:rightB item x
  · have e1:holdE P item x=2:=by simp [holdE,hr]
    have e2:holdP P item x=P:=by unfold holdP;rw [if_neg (by rw [e1];decide)]
    rw [e1,e2]
    exact mhold_bad h item x hr
  · have hr':=hr
    simp only [rightB,Bool.and_eq_true] at hr'
    obtain ⟨i0,i2⟩:=inR_iff.1 hr'.1
    obtain ⟨_,ho,hsd,_,_⟩:=Lot.okC hr'.2
    obtain ⟨it,rfl⟩:=Int.eq_ofNat_of_zero_le i0
    have hoc:x.owner=((x.owner.toNat:Nat):Int):=by omega
    by_cases hs:x.side=0
    · by_cases hok:P x.owner.toNat 0 - P x.owner.toNat 1<x.price*x.qty
      · have e1:holdE P (it:Int) x=10:=by simp [holdE,hr,hs,hok]
        have e2:holdP P (it:Int) x=P:=by unfold holdP;rw [if_neg (by rw [e1];decide)]
        rw [e1,e2]
        exact mhold_buy_poor h x.owner.toNat it (by omega) (by omega) x hoc hr hs hok
      · have e1:holdE P (it:Int) x=0:=by simp [holdE,hr,hs,hok]
        have e2:holdP P (it:Int) x=P.set x.owner.toNat 1 (P x.owner.toNat 1+x.price*x.qty):=by unfold holdP;rw [if_pos e1,if_pos hs]
        rw [e1,e2]
        exact mhold_buy h x.owner.toNat it (by omega) (by omega) x hoc hr hs hok
    · have hs1:x.side=1:=by omega
      by_cases hok:P x.owner.toNat (2+it) - P x.owner.toNat (5+it)<x.qty
      · have e1:holdE P (it:Int) x=10:=by simp [holdE,hr,hs1,hok]
        have e2:holdP P (it:Int) x=P:=by unfold holdP;rw [if_neg (by rw [e1];decide)]
        rw [e1,e2]
        exact mhold_sell_poor h x.owner.toNat it (by omega) (by omega) x hoc hr hs1 hok
      · have e1:holdE P (it:Int) x=0:=by simp [holdE,hr,hs1,hok]
        have e2:holdP P (it:Int) x=P.set x.owner.toNat (5+it) (P x.owner.toNat (5+it)+x.qty):=by unfold holdP;rw [if_pos e1,if_neg hs];rfl
        rw [e1,e2]
        exact mhold_sell h x.owner.toNat it (by omega) (by omega) x hoc hr hs1 hok
theorem mfree_any (h:PurseAt own i w p P) (item:Int) (x:Lot) :
    Calls Tryz.prog 43 #[.pointer (some ⟨p,0,none⟩),.int .i64 item,x.val] w fun e w'=>e=.returned (.int .i64 (freeE P item x:Nat))∧ObjTo own i i w (fun o w'=>PurseAt o i w' p (freeP P item x)) w':=by
  cases hr:rightB item x
  · have e1:freeE P item x=2:=by simp [freeE,hr]
    have e2:freeP P item x=P:=by unfold freeP;rw [if_neg (by rw [e1];decide)]
    rw [e1,e2]
    exact mfree_bad h item x hr
  · have hr':=hr
    simp only [rightB,Bool.and_eq_true] at hr'
    obtain ⟨i0,i2⟩:=inR_iff.1 hr'.1
    obtain ⟨_,ho,hsd,_,_⟩:=Lot.okC hr'.2
    obtain ⟨it,rfl⟩:=Int.eq_ofNat_of_zero_le i0
    have hoc:x.owner=((x.owner.toNat:Nat):Int):=by omega
    by_cases hs:x.side=0
    · by_cases hok:P x.owner.toNat 1<x.price*x.qty
      · have e1:freeE P (it:Int) x=10:=by simp [freeE,hr,hs,hok]
        have e2:freeP P (it:Int) x=P:=by unfold freeP;rw [if_neg (by rw [e1];decide)]
        rw [e1,e2]
        exact mfree_buy_poor h x.owner.toNat it (by omega) (by omega) x hoc hr hs hok
      · have e1:freeE P (it:Int) x=0:=by simp [freeE,hr,hs,hok]
        have e2:freeP P (it:Int) x=P.set x.owner.toNat 1 (P x.owner.toNat 1 - x.price*x.qty):=by unfold freeP;rw [if_pos e1,if_pos hs]
        rw [e1,e2]
        exact mfree_buy h x.owner.toNat it (by omega) (by omega) x hoc hr hs hok
    · have hs1:x.side=1:=by omega
      by_cases hok:P x.owner.toNat (5+it)<x.qty
      · have e1:freeE P (it:Int) x=10:=by simp [freeE,hr,hs1,hok]
        have e2:freeP P (it:Int) x=P:=by unfold freeP;rw [if_neg (by rw [e1];decide)]
        rw [e1,e2]
        exact mfree_sell_poor h x.owner.toNat it (by omega) (by omega) x hoc hr hs1 hok
      · have e1:freeE P (it:Int) x=0:=by simp [freeE,hr,hs1,hok]
        have e2:freeP P (it:Int) x=P.set x.owner.toNat (5+it) (P x.owner.toNat (5+it) - x.qty):=by unfold freeP;rw [if_pos e1,if_neg hs];rfl
        rw [e1,e2]
        exact mfree_sell h x.owner.toNat it (by omega) (by omega) x hoc hr hs1 hok
end
end Go.Proofs.YtmbboflakfokhaaGreatDoor
