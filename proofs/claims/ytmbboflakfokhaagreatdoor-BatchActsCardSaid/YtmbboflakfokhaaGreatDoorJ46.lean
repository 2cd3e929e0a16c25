import Derived.Test.YtmbboflakfokhaaGreatDoorJ26
import Derived.Test.YtmbboflakfokhaaGreatDoorJ24
import Derived.Test.YtmbboflakfokhaaGreatDoorJ25
import Derived.Test.YtmbboflakfokhaaGreatDoorJ44
import Derived.Test.YtmbboflakfokhaaGreatDoorAsFl
import Derived.Deep.CutBlock
import Derived.Deep.RegionHeld3
/- What New of a floor computes at what is not right. -/
set_option linter.unusedSimpArgs false
set_option linter.unusedVariables false
namespace Go.Proofs.YtmbboflakfokhaaGreatDoor
open Go.RowKit
set_option maxRecDepth 100000 in
theorem fnew_bad (wd hl ref cash stock:Int) (E:Nat→Addr) (w:World) (hE:Errs E [2] w) (h:floorBad wd hl ref cash stock) :
    Calls Tryz.prog 5 #[.agg #[.int .i64 wd,.int .i64 hl],.int .i64 ref,.int .i64 cash,.int .i64 stock] w fun e w'=>e=.returned (.tuple #[.pointer none,errV E 2])∧Ex w w':=by
  unfold floorBad at h
  have e2:w.cell? ⟨0,0,none⟩=some (.iface 228 (.pointer (some (E 2)))):=hE 2 (by decide)
  have b2:0<w.heap.size:=lt_of_cell e2
  have HE2:=Lib.hid hE;clear hE
  rw [errV_pos E 2 (by decide)]
  by_cases hb:wd<0∨100<wd∨hl<1∨1000<hl
  · have HC:=Lib.hid (fun w hE=>ruleCheck_bad wd hl w 228 (.pointer (some (E 2))) hE hb)
    clear h hb
    go_enter Tryz.func5,Tryz.ntmps5
    go_wp2_with fail
    refine (HC.out _ (by simp [go_sem,↓IntWalk.iteOmega, *])).mono ?_
    rintro e w1 ⟨rfl,l1,d1,rfl⟩
    go_wp2_with fail
    all_goals go_ret2
    all_goals exact ⟨rfl,(by repeat (first|exact Ex.refl _|refine Ex.alloc ?_ _|refine Ex.ext ?_ _ _|refine Ex.drew ?_|refine Ex.drewN ?_ _))⟩
  · have HC:=Lib.hid (fun w=>ruleCheck_ok wd hl w (by omega) (by omega) (by omega) (by omega))
    have h2:ref<1∨1000<ref∨cash<0∨1073741824<cash∨stock<0∨100000<stock:=by omega
    clear h hb
    go_enter Tryz.func5,Tryz.ntmps5
    go_wp2_with (go_at_call 24;refine (HC.out _).mono ?_;rintro e w1 ⟨rfl,l1,d1,rfl⟩)
    all_goals (try (exfalso;omega))
    all_goals go_region
    all_goals go_wp2_with fail
    all_goals go_ret2
    all_goals exact ⟨rfl,(by repeat (first|exact Ex.refl _|refine Ex.alloc ?_ _|refine Ex.ext ?_ _ _|refine Ex.drew ?_|refine Ex.drewN ?_ _))⟩
end Go.Proofs.YtmbboflakfokhaaGreatDoor

/- The statements' coded, at an error and its own number. -/
set_option linter.unusedSimpArgs false
set_option linter.unusedVariables false
namespace Go.Proofs.YtmbboflakfokhaaGreatDoor
open Go.RowKit
theorem coded_same (c:Nat) (E:Nat→Addr) (w:World) (hr:CodeReady E w) (h:c≤12):Calls Tryz.prog 7 #[errV E c,.int .i64 (c:Int)] w fun e w'=>e=.returned (.bool true)∧Ex w w':=by
  by_cases h0:c=0
  · subst h0
    rw [errV_zero]
    exact coded_nil 0 w
  · rw [errV_pos _ _ h0]
    refine (coded_err c (c:Int) E w hr (by omega) h).mono fun e w' ⟨h1,h2⟩=>⟨?_,h2⟩
    rw [h1];simp
end Go.Proofs.YtmbboflakfokhaaGreatDoor

/- The closed fact of chapter 9: two orders trade. -/
set_option linter.unusedSimpArgs false
set_option linter.unusedVariables false
namespace Go.Proofs.YtmbboflakfokhaaGreatDoor
open Go.RowKit
set_option maxRecDepth 100000 in
set_option maxHeartbeats 4000000 in
theorem floored_any (E:Nat→Addr) (w:World) (hE:Errs E LE w):Calls Tryz.prog 4 #[] w fun e w'=>e=.returned (.bool true)∧Ex w w':=by
  have HN:=Lib.hid (fnew_ok (own:=fun _=>8) (c:=0) (w:=w) 10 2 100 1000 10 (hE.sub (by decide)) (fun n _=>by decide) (by decide) (by decide) (by decide) (by decide) (by decide) (by decide) (by decide) (by decide) (by decide) (by decide))
  have HE:=Lib.hid hE
  have hu:U32 5:=by unfold U32;omega
  have HO:Hid (FOk fs2):=Lib.hid (((FOk.new (ref:=100) (cash:=1000) (stock:=10) (by decide) (by decide) (by decide) (by decide) (by decide) (by decide)).fplace fa1).fplace fa2)
  clear hE
  go_enter Tryz.func4,Tryz.ntmps4
  go_wp2_with fail
  refine HN.out.mono ?_
  rintro e w1 ⟨A,o,rfl,hF,hwd,hhl,ho,hx1⟩
  have hX:FlX o 0 w1 A (newSt 100 1000 10) E LE [] NoT w1:=FlX.start hF (HE.out.ex hx1) (fun n ⟨e,he,hn⟩=>by
    have hlt:=lt_of_cell (HE.out e he)
    rw [hn,ho _ hlt]
    show 8 / 8≠0
    decide) (fun n hn=>hn.elim)
  have HX:=Lib.hid hX
  have HX1:=Lib.hid hx1
  have HLO:=Lib.hid (show ∀ n,n<w.heap.size→o n / 8≠0 from fun n hn=>by rw [ho n hn];show 8 / 8≠0;decide)
  have HWD:=Lib.hid hwd
  have HHL:=Lib.hid hhl
  clear hF hX hx1 ho hwd hhl
  go_wp2_with fail
  refine (HX.out.place fa1).mono ?_
  rintro e w2 ⟨rfl,hX2,_⟩
  rw [fl_e1,errV_zero]
  have HX2:=Lib.hid hX2
  clear hX2
  go_wp2_with fail
  refine (HX2.out.place fa2).mono ?_
  rintro e w3 ⟨rfl,hX3,_⟩
  rw [fl_e2,errV_zero]
  have HX3:=Lib.hid (show FlX o 0 w1 A fs2 E LE [] NoT w3 from hX3)
  clear hX3
  go_wp2_with fail
  refine (HX3.out.run HO.out (by decide:0<3) 5 hu).mono ?_
  rintro e w4 ⟨ao,cap,rfl,_,hFA,hX4,_⟩
  rw [HWD.out,HHL.out] at *
  have HX4:=Lib.hid hX4
  clear hX4 hFA
  rw [fl_p,fl_v,fl_o]
  have HBK:=Lib.hid (fun o W (h:FlAt o 0 W A (runS fs2 0 10 2 5))=>(fbook_in h 0 (by decide):Calls Tryz.prog 20 #[.pointer (some ⟨A.f,0,none⟩),.int .i64 0] W _))
  have HPU:=Lib.hid (fun o W (h:FlAt o 0 W A (runS fs2 0 10 2 5))=>fpurse_any h)
  have HOF:=Lib.hid (fun o i W (h:PurseAt o i W A.pp (runS fs2 0 10 2 5).p)=>(of_in h 0 (by decide):Calls Tryz.prog 22 #[.pointer (some ⟨A.pp,0,none⟩),.int .i64 0] W _))
  have HLT:=Lib.hid (fun o i W (h:BookAt o i W (A.bp 0) ((runS fs2 0 10 2 5).b 0))=>lots_any h)
  have hb0:=fl_b
  have HC0:=Lib.hid fl_c
  have hfh:=fieldHas0 (runS fs2 0 10 2 5).p 0
  rw [fl_c] at hfh
  generalize (runR fs2 0 10 2 5).fills=F at *
  generalize hst:runS fs2 0 10 2 5=st at *
  clear hst
  go_wp2_with (first
    | (go_at_call 20;(refine ((HX4.out.later ?_).read (fun o h=>HBK.out o _ h)).mono ?_);(focus exact (by with_reducible repeat (first|exact Ex.refl _|refine Ex.alloc ?_ _|refine Ex.ext ?_ _ _|refine Ex.drew ?_|refine Ex.drewN ?_ _)));rintro e w5 ⟨rfl,l5,d5,rfl⟩)
    | (go_at_call 21;((with_reducible refine ((HX4.out.later ?_).read (fun o h=>HPU.out o _ h)).mono ?_));(focus exact (by with_reducible repeat (first|exact Ex.refl _|refine Ex.alloc ?_ _|refine Ex.ext ?_ _ _|refine Ex.drew ?_|refine Ex.drewN ?_ _)));rintro e w5 ⟨rfl,l6,d6,rfl⟩)
    | (go_at_call 22;(refine ((HX4.out.later ?_).readP (fun o i h=>HOF.out o i _ h)).mono ?_);(focus exact (by with_reducible repeat (first|exact Ex.refl _|refine Ex.alloc ?_ _|refine Ex.ext ?_ _ _|refine Ex.drew ?_|refine Ex.drewN ?_ _)));rintro e w5 ⟨rfl,l7,d7,rfl⟩))
  refine ((HX4.out.later (by with_reducible repeat (first|exact Ex.refl _|refine Ex.alloc ?_ _|refine Ex.ext ?_ _ _|refine Ex.drew ?_|refine Ex.drewN ?_ _))).readB (by decide) (fun o i h=>HLT.out o i _ h)).mono ?_
  rintro e w9 ⟨⟨v,rfl,hv⟩,hx9⟩
  have h4:Ex w w4:=HX4.out.ex0 HX1.out HLO.out
  have H9:=Lib.hid (show Ex w w9 from (h4.trans (by with_reducible repeat (first|exact Ex.refl _|refine Ex.alloc ?_ _|refine Ex.ext ?_ _ _|refine Ex.drew ?_|refine Ex.drewN ?_ _))).trans hx9)
  obtain ⟨a9,c9,rfl,_,_⟩:=owns_slice hv
  rw [hb0] at *
  clear hv hx9 h4
  go_wp2_with fail
  all_goals go_ret
  all_goals exact ⟨rfl,H9.out.trans (by with_reducible repeat (first|exact Ex.refl _|refine Ex.alloc ?_ _|refine Ex.ext ?_ _ _|refine Ex.drew ?_|refine Ex.drewN ?_ _))⟩
end Go.Proofs.YtmbboflakfokhaaGreatDoor

/- The walk of BatchActs. -/
set_option linter.unusedSimpArgs false
set_option linter.unusedVariables false
namespace Go.Proofs.YtmbboflakfokhaaGreatDoor
open Go.RowKit
theorem err_le4 (a:Ask):a.err≤4:=by
  unfold Ask.err
  repeat' split
  all_goals omega
theorem asked_le (a:Ask) (k:Int):askedE a k≤12:=by
  have:=err_le4 a
  unfold askedE
  (repeat' split)<;>omega
theorem fplace_le (st:FSt) (a:Ask):fplaceE st a≤12:=by
  have h1:=asked_le a 111
  unfold fplaceE
  split
  · unfold placeE addE holdE
    (repeat' split)<;>omega
  · exact h1
theorem fcancel_le (st:FSt) (a:Ask):(fcancelR st a).2.1≤12:=by
  have h1:=asked_le a 99
  unfold fcancelR
  split
  · split
    · unfold goneR
      split
      · exact Nat.zero_le _
      · show (6:Nat)≤12;omega
    · show (6:Nat)≤12;omega
  · exact h1
section
variable {w0 W:World} {M:List Th} {A:FlA} {B:MA} {st st':FSt} {E:Nat→Addr} {db:Nat} {a:Do} {t:TypeId}
theorem Sep.blkAt {F0:Nat→Prop} {L:List Th} {b:Nat} {vs:Array Value} (X:Sep F0 w0 L W) (i:Nat) (hi:L[i]?=some (blkTh b vs t)):Blk W b vs t:=by
  obtain ⟨F,h⟩:=X.look i hi
  exact h.2
theorem Sep.fillAt {F0:Nat→Prop} {L:List Th} {ao:Option Addr} {l:List Fil} (X:Sep F0 w0 L W) (i:Nat) (hi:L[i]?=some (fillTh ao l)):FillAt W ao l:=by
  obtain ⟨F,h⟩:=X.look i hi
  exact h.2
theorem Sep.rdAt {F0:Nat→Prop} {L:List Th} {v:Value} {r:Rd v} (X:Sep F0 w0 L W) (i:Nat) (hi:L[i]?=some (rdTh r)):r.R W:=by
  obtain ⟨F,h⟩:=X.look i hi
  exact h.2
theorem Sep.newBlk {F0:Nat→Prop} {L:List Th} {W':World} {b:Nat} {vs:Array Value} (X:Sep F0 w0 L W) (hx:Ex W W') (h:Blk W' b vs t) (hb:W.heap.size≤b):Sep F0 w0 (L++[blkTh b vs t]) W' :=
  X.addB hx (SepL.one (blkTh.at h)) (fun n hn=>by subst hn;exact hb)
theorem doA_ask (h:Blk W db (doA a) t):W.cell? ⟨db,1,none⟩=some (.int .u8 a.a.kind)∧W.cell? ⟨db,2,none⟩=some (.int .i64 a.a.client)∧W.cell? ⟨db,3,none⟩=some (.int .i64 a.a.seq)∧W.cell? ⟨db,4,none⟩=some (.int .i64 a.a.item)∧W.cell? ⟨db,5,none⟩=some (.int .i64 a.a.side)∧W.cell? ⟨db,6,none⟩=some (.int .i64 a.a.price)∧W.cell? ⟨db,7,none⟩=some (.int .i64 a.a.qty)∧W.cell? ⟨db,8,none⟩=some (.int .i64 a.a.id) :=
  ⟨h.cell 1,h.cell 2,h.cell 3,h.cell 4,h.cell 5,h.cell 6,h.cell 7,h.cell 8⟩
theorem doA_rest (h:Blk W db (doA a) t):W.cell? ⟨db,0,none⟩=some (.string a.kind)∧W.cell? ⟨db,9,none⟩=some (.int .i64 a.client)∧W.cell? ⟨db,10,none⟩=some (.int .i64 a.item)∧W.cell? ⟨db,11,none⟩=some (.int .u32 a.seed) :=
  ⟨h.cell 0,h.cell 9,h.cell 10,h.cell 11⟩
theorem Sep.pinv (X:Sep NoF w0 (flTh A st::M) W):PInv st.p:=by
  obtain ⟨F,h0,own,hA,_⟩:=X.look 0 rfl
  exact hA.purse.2.1
theorem Sep.ready (X:Sep NoF w0 M W) (hr:CodeReady E w0):CodeReady E W:=hr.ex X.ex
def BtR (w0:World) (A:FlA) (B:MA) (st st':FSt) (db:Nat) (a:Do) (M:List Th) (W:World):Prop:=Sep NoF w0 (flTh A st::mTh B st'::blkTh db (doA a) 40::M) W
theorem BtR.later {W':World} (X:BtR w0 A B st st' db a M W) (hx:Ex W W'):BtR w0 A B st st' db a M W':=Sep.later X hx
theorem BtR.box (X:BtR w0 A B st st' db a M W):Blk W db (doA a) 40:=Sep.blkAt X 2 rfl
theorem BtR.two (X:BtR w0 A B st st' db a M W):Sep NoF w0 [flTh A st,mTh B st'] W:=by
  obtain ⟨FF,h1,h2⟩:=Sep.sep X
  have h1':SepL ([flTh A st,mTh B st']++(blkTh db (doA a) 40::M)) FF W:=h1
  obtain ⟨G1,G2,gF,_,g1,_⟩:=h1'.split
  exact ⟨Sep.only X,G1,g1,fun n hn=>h2 n ((gF n).2 (.inl hn))⟩
theorem BtR.place (X:BtR w0 A B st st' db a M W) (hE:Errs E LE w0) (b:Ask):Calls Tryz.prog 9 #[.pointer (some ⟨A.f,0,none⟩),b.val] W fun e w'=>e=.returned (errV E (fplaceE st b))∧BtR w0 A B (fplaceS st b) st' db a M w':=bt_place X hE b
theorem BtR.mplace (X:BtR w0 A B st st' db a M W) (b:Ask):Calls Tryz.prog 10 #[.pointer (some ⟨B.f,0,none⟩),b.val] W fun e w'=>e=.returned (.int .i64 (fplaceE st' b:Nat))∧BtR w0 A B st (fplaceS st' b) db a M w':=bt_mplace X 1 rfl b
theorem BtR.cancel (X:BtR w0 A B st st' db a M W) (hE:Errs E LE w0) (hO:FOk st) (b:Ask):Calls Tryz.prog 11 #[.pointer (some ⟨A.f,0,none⟩),b.val] W fun e w'=>e=.returned (.tuple #[(fcancelR st b).1.val,errV E (fcancelR st b).2.1])∧BtR w0 A B (fcancelR st b).2.2 st' db a M w':=bt_cancel X hE hO b
theorem BtR.mcancel (X:BtR w0 A B st st' db a M W) (hO:FOk st') (b:Ask):Calls Tryz.prog 12 #[.pointer (some ⟨B.f,0,none⟩),b.val] W fun e w'=>e=.returned (.tuple #[(fcancelR st' b).1.val,.int .i64 ((fcancelR st' b).2.1:Nat)])∧BtR w0 A B st (fcancelR st' b).2.2 db a M w':=bt_mcancel X 1 rfl hO b
theorem sep_out {F0:Nat→Prop} {L1:List Th} {T:Th} {L2:List Th} (X:Sep F0 w0 (L1++(T::L2)) W):Sep F0 w0 (L1++L2++[T]) W :=
  X.perm (by rw [List.append_assoc];exact (List.perm_append_comm (l₁:=[T]) (l₂:=L2)).append_left L1)
theorem BtR.drop (X:BtR w0 A B st st' db a M W) (hE:Errs E LE w0) (hO:FOk st) (c:Int):Calls Tryz.prog 14 #[.pointer (some ⟨A.f,0,none⟩),.int .i64 c] W fun e w'=>∃ v,e=.returned v∧BtR w0 A B (fdropR st c).2 st' db a (M++[rdTh (lrowRd (fdropR st c).1 v)]) w' :=
  (bt_drop X hE hO c).mono fun e w' ⟨v,he,hX⟩=>⟨v,he,sep_out (L1:=[flTh A (fdropR st c).2]) hX⟩
theorem BtR.mdrop (X:BtR w0 A B st st' db a M W) (hO:FOk st') (c:Int):Calls Tryz.prog 15 #[.pointer (some ⟨B.f,0,none⟩),.int .i64 c] W fun e w'=>∃ v,e=.returned v∧BtR w0 A B st (fdropR st' c).2 db a (M++[rdTh (lrowRd (fdropR st' c).1 v)]) w' :=
  (bt_mdrop X 1 rfl hO c).mono fun e w' ⟨v,he,hX⟩=>⟨v,he,sep_out (L1:=[flTh A st,mTh B (fdropR st' c).2]) hX⟩
theorem BtR.run (X:BtR w0 A B st st' db a M W) (hE:Errs E LE w0) (hO:FOk st) {k:Nat} (hk:k<3) (seed:Int) (hs:U32 seed) :
    Calls Tryz.prog 16 #[.pointer (some ⟨A.f,0,none⟩),.int .i64 (k:Int),.int .u32 seed] W fun e w'=>∃ p:Option Addr × Nat,e=.returned (.tuple #[.agg #[.int .i64 (runR st k A.wd A.hl seed).price,.int .i64 (runR st k A.wd A.hl seed).vol,.bool (runR st k A.wd A.hl seed).isOpen,.slice p.1 (runR st k A.wd A.hl seed).fills.length p.2],.nilIface])∧BtR w0 A B (runS st k A.wd A.hl seed) st' db a (M++[fillTh p.1 (runR st k A.wd A.hl seed).fills]) w' :=
  (bt_run X hE hO hk seed hs).mono fun e w' ⟨v,he,hX⟩=>⟨v,he,sep_out (L1:=[flTh A (runS st k A.wd A.hl seed)]) hX⟩
theorem BtR.mrun (X:BtR w0 A B st st' db a M W) (hO:FOk st') (hp:PInv st'.p) (u:(0≤B.wd∧B.wd≤100)∧1≤B.hl∧B.hl≤1000) {k:Nat} (hk:k<3) (seed:Int) (hs:U32 seed) :
    Calls Tryz.prog 17 #[.pointer (some ⟨B.f,0,none⟩),.int .i64 (k:Int),.int .u32 seed] W fun e w'=>∃ p:Option Addr × Nat,e=.returned (.agg #[.int .i64 (runR st' k B.wd B.hl seed).price,.int .i64 (runR st' k B.wd B.hl seed).vol,.bool (runR st' k B.wd B.hl seed).isOpen,.slice p.1 (runR st' k B.wd B.hl seed).fills.length p.2])∧BtR w0 A B st (runS st' k B.wd B.hl seed) db a (M++[fillTh p.1 (runR st' k B.wd B.hl seed).fills]) w' :=
  (bt_mrun X 1 rfl hO hp u hk seed hs).mono fun e w' ⟨v,he,hX⟩=>⟨v,he,sep_out (L1:=[flTh A st,mTh B (runS st' k B.wd B.hl seed)]) hX⟩
theorem BtR.newBlk {W':World} {b:Nat} {vs:Array Value} (X:BtR w0 A B st st' db a M W) (hx:Ex W W') (h:Blk W' b vs t) (hb:W.heap.size≤b):BtR w0 A B st st' db a (M++[blkTh b vs t]) W':=Sep.newBlk X hx h hb
theorem bt_start {w1:World} {o:Nat→Nat} (hx:Ex w0 w1) (hF:FlAt o 0 w1 A st) (ho:∀ n,n<w0.heap.size→o n=8):Sep NoF w0 [flTh A st] w1 :=
  (Sep.law w0).add (M:=[flTh A st]) hx (SepL.one (flTh.of o hF)) (fun n hn=>by
    rcases Nat.lt_or_ge n w0.heap.size with h|h
    · have:=ho n h
      have:=hn.2
      omega
    · exact h)
theorem bt_more {w2 W2:World} (X:Sep NoF w0 [flTh A st] w2) (h:Leaves (mTh B st') NoF w2 W2):Sep NoF w0 [flTh A st,mTh B st'] W2:=by
  obtain ⟨F',k1,k2,k3⟩:=h
  exact X.addB (M:=[mTh B st']) (k2.toEx fun n hn=>hn.elim) (SepL.one k1) (fun n hn=>(k3 n hn).resolve_left fun h=>h)
theorem bt_twoF (X:Sep NoF w0 [flTh A st,mTh B st] W):TwoF A B st W:=by
  obtain ⟨F,h0,own,hA,_⟩:=X.look 0 rfl
  obtain ⟨G,hG⟩:=bt_mfx X 1 rfl
  exact ⟨⟨own,hA⟩,G,W,[],hG⟩
theorem BtR.pinv {st':FSt} (X:BtR w0 A B st st' db a M W):PInv st.p:=Sep.pinv X
theorem drop_lots {l:List Lot} {ao:Option Addr} {n cap:Nat} (h:(lrowRd l (.slice ao n cap)).R W) (hok:∀ x∈l,x.ok=true):LotsAt W ao l.length l:=by
  obtain ⟨ao',cap',e,h2⟩:=lrow_lots h hok
  cases e
  exact h2
end
end Go.Proofs.YtmbboflakfokhaaGreatDoor
