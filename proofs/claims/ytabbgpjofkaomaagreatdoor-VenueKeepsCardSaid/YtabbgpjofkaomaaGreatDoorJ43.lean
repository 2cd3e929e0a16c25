import Derived.Test.YtabbgpjofkaomaaGreatDoorJ3
import Derived.Test.YtabbgpjofkaomaaGreatDoorJ21
import Derived.Test.YtabbgpjofkaomaaGreatDoorJ0
import Derived.Laws.IdiomArrays
import Derived.Test.YtabbgpjofkaomaaGreatDoorJ7
import Derived.Test.YtabbgpjofkaomaaGreatDoorVLaw4
import Derived.Test.YtabbgpjofkaomaaGreatDoorJ24
import Derived.Test.YtabbgpjofkaomaaGreatDoorJ1
/- What Copy of package purse computes. -/
set_option linter.unusedSimpArgs false
set_option linter.unusedVariables false
namespace Go.Proofs.YtabbgpjofkaomaaGreatDoor
open Go.RowKit
section
variable {own:Nat→Nat} {i:Nat} {w:World} {p:Nat} {P:Pu}
end
end Go.Proofs.YtabbgpjofkaomaaGreatDoor

/- How the row's arguments read: slices of acts of purses. -/
set_option linter.unusedSimpArgs false
set_option linter.unusedVariables false
namespace Go.Proofs.YtabbgpjofkaomaaGreatDoor
open Go.ChangeShapes Go.WideShapes Go.ChangeAt Go.RowKit Go.Deep
end Go.Proofs.YtabbgpjofkaomaaGreatDoor

/- What Total of package purse computes. -/
set_option linter.unusedSimpArgs false
set_option linter.unusedVariables false
namespace Go.Proofs.YtabbgpjofkaomaaGreatDoor
open Go.RowKit
def TriAt (w:World) (b:Nat) (x y z:Int):Prop:=w.heap[b]?=some (.cells #[.int .i64 x,.int .i64 y,.int .i64 z] 77 (0,0))
theorem TriAt.lt {w:World} {b:Nat} {x y z:Int} (h:TriAt w b x y z):b<w.heap.size:=(Array.getElem?_eq_some_iff.1 h).1
theorem TriAt.cell0 {w:World} {b:Nat} {x y z:Int} (h:TriAt w b x y z):w.cell? ⟨b,0,none⟩=some (.int .i64 x):=by simp [World.cell?,show w.heap[b]?=_ from h]
theorem TriAt.cell1 {w:World} {b:Nat} {x y z:Int} (h:TriAt w b x y z):w.cell? ⟨b,1,none⟩=some (.int .i64 y):=by simp [World.cell?,show w.heap[b]?=_ from h]
theorem TriAt.cell2 {w:World} {b:Nat} {x y z:Int} (h:TriAt w b x y z):w.cell? ⟨b,2,none⟩=some (.int .i64 z):=by simp [World.cell?,show w.heap[b]?=_ from h]
theorem TriAt.frozen {w:World} {b:Nat} {x y z:Int} (h:TriAt w b x y z) (i:Nat):w.frozen? ⟨b,i,none⟩=false:=by simp [World.frozen?,show w.heap[b]?=_ from h]
theorem TriAt.block {w w':World} {b:Nat} {x y z:Int} (h:TriAt w b x y z) (hb:w'.heap[b]?=w.heap[b]?):TriAt w' b x y z:=hb.trans h
theorem TriAt.ex {w w':World} {b:Nat} {x y z:Int} (h:TriAt w b x y z) (hx:Ex w w'):TriAt w' b x y z:=by
  obtain ⟨l,d,rfl⟩:=hx
  exact h.block (by show (w.heap++l.toArray)[b]?=_;rw [Array.getElem?_append_left h.lt])
theorem TriAt.set0 {w:World} {b:Nat} {x y z:Int} (h:TriAt w b x y z) (v:Int):TriAt (w.setCell ⟨b,0,none⟩ (.int .i64 v)) b v y z:=by
  have:=heap_setCell_same w b 0 _ _ (.int .i64 v) h
  simpa [TriAt] using this
theorem TriAt.set1 {w:World} {b:Nat} {x y z:Int} (h:TriAt w b x y z) (v:Int):TriAt (w.setCell ⟨b,1,none⟩ (.int .i64 v)) b x v z:=by
  have:=heap_setCell_same w b 1 _ _ (.int .i64 v) h
  simpa [TriAt] using this
theorem TriAt.set2 {w:World} {b:Nat} {x y z:Int} (h:TriAt w b x y z) (v:Int):TriAt (w.setCell ⟨b,2,none⟩ (.int .i64 v)) b x y v:=by
  have:=heap_setCell_same w b 2 _ _ (.int .i64 v) h
  simpa [TriAt] using this
def psum (P:Pu) (j:Nat):Nat→Int
  | 0=>0
  | k+1=>psum P j k+P k j
theorem psum6 (P:Pu) (j:Nat):psum P j 6=sumP P j:=by simp [psum,sumP]
theorem psum_bd {P:Pu} (h:PInv P):∀ k,k≤6→(0≤psum P 0 k∧psum P 0 k≤1099511627776*(k:Int))∧(0≤psum P 2 k∧psum P 2 k≤1073741824*(k:Int))∧(0≤psum P 3 k∧psum P 3 k≤1073741824*(k:Int))∧(0≤psum P 4 k∧psum P 4 k≤1073741824*(k:Int))
  | 0,_=>by simp [psum]
  | k+1,hk=>by
    have ih:=psum_bd h k (by omega)
    obtain ⟨a1,a2,a3,a4⟩:=h k (by omega)
    have b0:=a4 0 (by omega)
    have b1:=a4 1 (by omega)
    have b2:=a4 2 (by omega)
    simp only [Nat.reduceAdd] at b0 b1 b2
    simp only [psum]
    omega
def sel (q i:Nat) (d:Int):Int:=if i<q then d else 0
theorem sizeHas6:(Tryz.prog.info? 138).map (·.size)=some 48:=by kernel_rfl
def puCells (P:Pu):Array Value:=((List.range 48).map fun n=>Value.int .i64 (P (n / 8) (n % 8))).toArray
set_option maxRecDepth 100000 in
theorem puIndex (P:Pu) (w:World):∀ k:Nat,k<6→(Instr.index 138 (.agg (puCells P)) (.int .i64 (k:Int))).run Tryz.prog w=.ok (hasV P k) w
  | 0,_=>by kernel_rfl
  | 1,_=>by kernel_rfl
  | 2,_=>by kernel_rfl
  | 3,_=>by kernel_rfl
  | 4,_=>by kernel_rfl
  | 5,_=>by kernel_rfl
theorem triIndex (x y z:Int) (w:World):(Instr.index 77 (.agg #[.int .i64 x,.int .i64 y,.int .i64 z]) (.int .i64 0)).run Tryz.prog w=.ok (.int .i64 x) w∧(Instr.index 77 (.agg #[.int .i64 x,.int .i64 y,.int .i64 z]) (.int .i64 1)).run Tryz.prog w=.ok (.int .i64 y) w∧(Instr.index 77 (.agg #[.int .i64 x,.int .i64 y,.int .i64 z]) (.int .i64 2)).run Tryz.prog w=.ok (.int .i64 z) w:=⟨by kernel_rfl,by kernel_rfl,by kernel_rfl⟩
section
variable {own:Nat→Nat} {i:Nat} {w:World} {p:Nat} {P:Pu}
theorem PurseAt.row (h:PurseAt own i w p P):∃ t,w.heap[p]?=some (.cells (puCells P) t (0,0)):=by
  obtain ⟨_,_,t,cs,hg,hn,hc⟩:=h
  refine ⟨t,?_⟩
  rw [hg]
  congr 2
  apply Array.ext_getElem?
  intro k
  by_cases hk:k<48
  · rw [hc k hk]
    simp [puCells,hk]
  · rw [Array.getElem?_eq_none (by omega),Array.getElem?_eq_none (by simp [puCells];omega)]
set_option maxRecDepth 100000 in
set_option maxHeartbeats 4000000 in
theorem ptotal_any (h:PurseAt own i w p P):Calls Tryz.prog 32 #[.pointer (some ⟨p,0,none⟩)] w fun e w'=>e=.returned (.tuple #[.int .i64 (sumP P 0),.agg #[.int .i64 (sumP P 2),.int .i64 (sumP P 3),.int .i64 (sumP P 4)]])∧Ex w w':=by
  have hp:=h.lt
  have HI:=Lib.hid h.2.1
  obtain ⟨t,hg⟩:=h.row
  have hs:(Tryz.prog.info? 138).map (·.size)=some (puCells P).size:=by rw [sizeHas6];simp [puCells]
  have HX:=Lib.hid (puIndex P)
  have HG:=Lib.hid hg
  have HS:=Lib.hid hs
  have h6:=fun j=>Lib.hid (psum6 P j)
  clear h hg hs
  generalize puCells P=cs at *
  go_enter Tryz.func32,Tryz.ntmps32
  go_wp2_with (refine wpList_load_row rfl 138 (.tmp 10) rfl p rfl t cs (0,0) _ (by first|exact HG.out|(rw [Below.heap_alloc _ _ _ hp];exact HG.out)) Tryz.underlying138 rfl HS.out ?_)
  go_loopw [2,12] (fun c n wr=>∃ k:Nat,k≤6∧n=.int .i64 k∧c=.int .i64 (psum P 0 k)∧TriAt wr w.heap.size (psum P 2 k) (psum P 3 k) (psum P 4 k)∧Below w.heap.size w wr) (fun _ n _=>6 - (intOf n).toNat)
  case atStart=>exact ⟨0,by omega,rfl,rfl,(by show (w.heap.push _)[w.heap.size]?=_;simp [psum]),Ex.below (by repeat (first|exact Ex.refl _|refine Ex.alloc ?_ _|refine Ex.ext ?_ _ _|refine Ex.drew ?_|refine Ex.drewN ?_ _))⟩
  case round =>
    obtain ⟨k,hk,rfl,rfl,htri,hbl⟩:=hrel
    have hbz:=hbl.size
    have hbd:=psum_bd HI.out k hk
    have HT:=Lib.hid htri
    have HB:=Lib.hid hbl
    by_cases hlt:k<6
    · have hix:=fun w=>HX.out w k hlt
      have hb2:=psum_bd HI.out (k+1) hlt
      simp only [psum] at hb2
      have t0:=fun w=>(triIndex (P k 2) (P k 3) (P k 4) w).1
      have t1:=fun w=>(triIndex (P k 2) (P k 3) (P k 4) w).2.1
      have t2:=fun w=>(triIndex (P k 2) (P k 3) (P k 4) w).2.2
      have HE0:Hid (psum P 0 (k+1)=psum P 0 k+P k 0):=Lib.hid rfl
      have HE2:Hid (psum P 2 (k+1)=psum P 2 k+P k 2):=Lib.hid rfl
      have HE3:Hid (psum P 3 (k+1)=psum P 3 k+P k 3):=Lib.hid rfl
      have HE4:Hid (psum P 4 (k+1)=psum P 4 k+P k 4):=Lib.hid rfl
      generalize psum P 0 k=x0 at *
      generalize psum P 2 k=x2 at *
      generalize psum P 3 k=x3 at *
      generalize psum P 4 k=x4 at *
      clear htri hbl HX
      go_wp2_with fail
      go_loopw [21] (fun j wr2=>∃ q:Nat,q≤3∧j=.int .i64 q∧TriAt wr2 w.heap.size (x2+sel q 0 (P k 2)) (x3+sel q 1 (P k 3)) (x4+sel q 2 (P k 4))∧Below w.heap.size w wr2) (fun j _=>3 - (intOf j).toNat)
      case atStart=>exact ⟨0,by omega,rfl,by simpa [sel] using HT.out.ex (by repeat (first|exact Ex.refl _|refine Ex.alloc ?_ _|refine Ex.ext ?_ _ _|refine Ex.drew ?_|refine Ex.drewN ?_ _)),(by (refine Below.trans HB.out ?_;repeat (first|exact Below.refl _ _|(refine Below.drew ?_)|(refine Below.drewN ?_ _)|(refine Below.ext ?_ (by first|omega|(simp [go_sem];done)|(simp [go_sem];omega)) _ _)|(refine Below.alloc ?_ (by first|omega|(simp [go_sem];done)|(simp [go_sem];omega)) _)|(refine Below.setCell ?_ (by first|omega|(simp [go_sem];done)|(simp [go_sem];omega)) _))))⟩
      case round =>
        obtain ⟨q,hq,rfl,ht2,htb⟩:=hrel
        have HB2:=Lib.hid htb
        have hbz2:=htb.size
        have h4:q=0∨q=1∨q=2∨q=3:=by omega
        rcases h4 with rfl|rfl|rfl|rfl
        · replace ht2:TriAt wr w.heap.size (x2) (x3) (x4):=by simpa [sel] using ht2
          have HT2:=Lib.hid ht2
          have c0:=ht2.cell0
          have c1:=ht2.cell1
          have c2:=ht2.cell2
          have f0:=ht2.frozen 0
          have htl:=ht2.lt
          clear ht2 htb
          go_wp2_with fail
          go_roundw
          case measure=>simp [intOf]
          case rel=>exact ⟨1,by omega,rfl,by simpa [sel] using (HT2.out.set0 _).ex (by repeat (first|exact Ex.refl _|refine Ex.alloc ?_ _|refine Ex.ext ?_ _ _|refine Ex.drew ?_|refine Ex.drewN ?_ _)),(by (refine Below.trans HB2.out ?_;repeat (first|exact Below.refl _ _|(refine Below.drew ?_)|(refine Below.drewN ?_ _)|(refine Below.ext ?_ (by first|omega|(simp [go_sem];done)|(simp [go_sem];omega)) _ _)|(refine Below.alloc ?_ (by first|omega|(simp [go_sem];done)|(simp [go_sem];omega)) _)|(refine Below.setCell ?_ (by first|omega|(simp [go_sem];done)|(simp [go_sem];omega)) _))))⟩
        · replace ht2:TriAt wr w.heap.size (x2+P k 2) (x3) (x4):=by simpa [sel] using ht2
          have HT2:=Lib.hid ht2
          have c0:=ht2.cell0
          have c1:=ht2.cell1
          have c2:=ht2.cell2
          have f0:=ht2.frozen 1
          have htl:=ht2.lt
          clear ht2 htb
          go_wp2_with fail
          go_roundw
          case measure=>simp [intOf]
          case rel=>exact ⟨2,by omega,rfl,by simpa [sel] using (HT2.out.set1 _).ex (by repeat (first|exact Ex.refl _|refine Ex.alloc ?_ _|refine Ex.ext ?_ _ _|refine Ex.drew ?_|refine Ex.drewN ?_ _)),(by (refine Below.trans HB2.out ?_;repeat (first|exact Below.refl _ _|(refine Below.drew ?_)|(refine Below.drewN ?_ _)|(refine Below.ext ?_ (by first|omega|(simp [go_sem];done)|(simp [go_sem];omega)) _ _)|(refine Below.alloc ?_ (by first|omega|(simp [go_sem];done)|(simp [go_sem];omega)) _)|(refine Below.setCell ?_ (by first|omega|(simp [go_sem];done)|(simp [go_sem];omega)) _))))⟩
        · replace ht2:TriAt wr w.heap.size (x2+P k 2) (x3+P k 3) (x4):=by simpa [sel] using ht2
          have HT2:=Lib.hid ht2
          have c0:=ht2.cell0
          have c1:=ht2.cell1
          have c2:=ht2.cell2
          have f0:=ht2.frozen 2
          have htl:=ht2.lt
          clear ht2 htb
          go_wp2_with fail
          go_roundw
          case measure=>simp [intOf]
          case rel=>exact ⟨3,by omega,rfl,by simpa [sel] using (HT2.out.set2 _).ex (by repeat (first|exact Ex.refl _|refine Ex.alloc ?_ _|refine Ex.ext ?_ _ _|refine Ex.drew ?_|refine Ex.drewN ?_ _)),(by (refine Below.trans HB2.out ?_;repeat (first|exact Below.refl _ _|(refine Below.drew ?_)|(refine Below.drewN ?_ _)|(refine Below.ext ?_ (by first|omega|(simp [go_sem];done)|(simp [go_sem];omega)) _ _)|(refine Below.alloc ?_ (by first|omega|(simp [go_sem];done)|(simp [go_sem];omega)) _)|(refine Below.setCell ?_ (by first|omega|(simp [go_sem];done)|(simp [go_sem];omega)) _))))⟩
        · replace ht2:TriAt wr w.heap.size (x2+P k 2) (x3+P k 3) (x4+P k 4):=by simpa [sel] using ht2
          have HT2:=Lib.hid ht2
          clear ht2 htb
          go_wp2_with fail
          go_roundw
          case measure=>simp [intOf];omega
          case rel=>exact ⟨k+1,by omega,by go_num,by rw [HE0.out],by rw [HE2.out,HE3.out,HE4.out];exact HT2.out.ex (by repeat (first|exact Ex.refl _|refine Ex.alloc ?_ _|refine Ex.ext ?_ _ _|refine Ex.drew ?_|refine Ex.drewN ?_ _)),(by (refine Below.trans HB2.out ?_;repeat (first|exact Below.refl _ _|(refine Below.drew ?_)|(refine Below.drewN ?_ _)|(refine Below.ext ?_ (by first|omega|(simp [go_sem];done)|(simp [go_sem];omega)) _ _)|(refine Below.alloc ?_ (by first|omega|(simp [go_sem];done)|(simp [go_sem];omega)) _)|(refine Below.setCell ?_ (by first|omega|(simp [go_sem];done)|(simp [go_sem];omega)) _))))⟩
    · obtain rfl:k=6:=by omega
      have e0:=(h6 0).out
      have e2:=(h6 2).out
      have e3:=(h6 3).out
      have e4:=(h6 4).out
      rw [e2,e3,e4] at HT
      have ht6:=HT.out
      have c0:=ht6.cell0
      have c1:=ht6.cell1
      have c2:=ht6.cell2
      have f0:=ht6.frozen 0
      have f1:=ht6.frozen 1
      have f2:=ht6.frozen 2
      have htl:=ht6.lt
      clear ht6 htri hbl
      go_wp2_with fail
      go_region
      all_goals go_wp2_with fail
      all_goals (try simp only [Exit.inBlock,Exit.then])
      all_goals (refine bodyPost_ret (v:=.tuple #[.int .i64 (psum P 0 6),.agg #[.int .i64 (sumP P 2),.int .i64 (sumP P 3),.int .i64 (sumP P 4)]]) ?_ rfl ⟨by rw [e0],Ex.of (by (refine Below.trans HB.out ?_;repeat (first|exact Below.refl _ _|(refine Below.drew ?_)|(refine Below.drewN ?_ _)|(refine Below.ext ?_ (by first|omega|(simp [go_sem];done)|(simp [go_sem];omega)) _ _)|(refine Below.alloc ?_ (by first|omega|(simp [go_sem];done)|(simp [go_sem];omega)) _)|(refine Below.setCell ?_ (by first|omega|(simp [go_sem];done)|(simp [go_sem];omega)) _))))⟩)
      have h7:TriAt (((wr.setCell ⟨w.heap.size,0,none⟩ (.int .i64 (sumP P 2))).setCell ⟨w.heap.size,1,none⟩ (.int .i64 (sumP P 3))).setCell ⟨w.heap.size,2,none⟩ (.int .i64 (sumP P 4))).drew w.heap.size (sumP P 2) (sumP P 3) (sumP P 4):=((HT.out.set0 (sumP P 2)).set1 (sumP P 3)).set2 (sumP P 4)
      generalize (((wr.setCell ⟨w.heap.size,0,none⟩ (.int .i64 (sumP P 2))).setCell ⟨w.heap.size,1,none⟩ (.int .i64 (sumP P 3))).setCell ⟨w.heap.size,2,none⟩ (.int .i64 (sumP P 4))).drew=W7 at *
      have d0:=h7.cell0
      have d1:=h7.cell1
      have d2:=h7.cell2
      simp only [results,Tryz.results32]
      simp [go_sem,↓IntWalk.iteOmega,d0,d1,d2]
end
end Go.Proofs.YtabbgpjofkaomaaGreatDoor

/- What the statement VenueKeeps needs: a venue as it is made is in order; ticks in a row; what can be read of a venue. -/
set_option linter.unusedSimpArgs false
set_option linter.unusedVariables false
namespace Go.Proofs.YtabbgpjofkaomaaGreatDoor
open Go.RowKit
theorem smallP (c:Nat) (hc:c<6) (j:Nat):(newV smallC).f.p c j=if j=0 then 20000 else if 2≤j∧j<5 then 100 else 0:=if_pos hc
theorem newV_inv:VInv (newV smallC):=by
  refine ⟨⟨FOk.new (by decide) (by decide) (by decide) (by decide) (by decide) (by decide),fun c hc=>?_,by unfold U32;decide,by decide,by decide,fun n _=>by show ((0:Int)≤0∧(0:Int)≤1073741825)∧(0:Int)≤0∧(0:Int)≤((0:Nat):Int);decide,fun n _=>by show (0:Nat)<30;decide,fun n _=>⟨Nat.zero_le _,fun a ha=>by cases ha⟩,Nat.le_refl _⟩,⟨by decide,fun k hk=>?_⟩,fun _ c _=>.inr ⟨rfl,.inr fun k _ x hx=>by cases hx⟩⟩
  · have h:=smallP c hc
    have h0:=h 0
    have h1:=h 1
    simp only [if_true] at h0
    rw [if_neg (by decide),if_neg (by decide)] at h1
    refine ⟨by omega,by omega,by omega,fun i hi=>?_⟩
    have h5:=h (5+i)
    have h2:=h (2+i)
    rw [if_neg (by omega),if_neg (by omega)] at h5
    rw [if_neg (by omega),if_pos (by omega)] at h2
    omega
  · have h3:k=0∨k=1∨k=2:=by omega
    rcases h3 with rfl|rfl|rfl<;>decide
theorem ticksV_now (v:VSt):∀ n,(ticksV n v).now≤v.now+n
  | 0=>Nat.le_refl _
  | n+1=>Nat.le_trans (tickR_now _) (by have:=ticksV_now v n;omega)
section
variable {E:Nat→Addr} {w0 w W W':World} {L M M1 M2:List Th} {F:Nat→Prop} {vb dp:Nat} {fa:FlA} {v:VSt} {k:Nat}
theorem vTh.floor (h:(vTh vb fa dp v).P F w):∃ own,FlAt own 0 w fa v.f:=by
  obtain ⟨_,_,_,_,_,_,⟨_,h⟩,_⟩:=vTh.parts h
  obtain ⟨_,own,h,_⟩:=h
  exact ⟨own,h⟩
theorem vbook_lots (h:(vTh vb fa dp v).P F w) (hk:k<3):Calls Tryz.prog 24 #[.pointer (some ⟨fa.bp k,0,none⟩)] w fun e w'=>(∃ ao cap,e=.returned (.slice ao (v.f.b k).length cap)∧LotsAt w' ao (v.f.b k).length (v.f.b k))∧Ex w w':=by
  obtain ⟨own,hf⟩:=vTh.floor h
  have hb:=hf.book k hk
  refine (lots_any hb).mono fun e w' ⟨⟨u,e1,hrow⟩,hx⟩=>?_
  obtain ⟨ao,cap,rfl,_,h3⟩:=lots_of_owned hb.2.1 (by have:=hb.1;omega) rfl hrow
  exact ⟨⟨ao,cap,e1,h3⟩,hx⟩
end
theorem stepsAt_later {w w':World} {ao:Option Addr} {len:Nat} {l:List Step} (h:StepsAt w ao len l) (hx:Ex w w'):StepsAt w' ao len l :=
  ⟨h.1,h.2.1,fun a ha=>by
    obtain ⟨h1,h2,⟨h3,y,h4⟩,h5,h6⟩:=h.2.2.1 a ha
    exact ⟨h1,h2,⟨h3,y,asksAt_ex h4 hx⟩,h5,h6⟩,stepsAt_ex h hx⟩
theorem fieldCash (a b c d e f:Int) (w:World):(Instr.field 37 (.agg #[.int .u32 a,.int .i64 b,.int .i64 c,.int .i64 d,.int .i64 e,.int .i64 f]) 4).run Tryz.prog w=.ok (.int .i64 e) w:=by kernel_rfl
theorem fieldStock (a b c d e f:Int) (w:World):(Instr.field 37 (.agg #[.int .u32 a,.int .i64 b,.int .i64 c,.int .i64 d,.int .i64 e,.int .i64 f]) 5).run Tryz.prog w=.ok (.int .i64 f) w:=by kernel_rfl
theorem fieldSess0 (a b c:Value) (w:World):(Instr.field 56 (.agg #[a,b,c]) 0).run Tryz.prog w=.ok a w:=by kernel_rfl
theorem neTri0 (w:World):(binOp .neq 77 (.agg #[.int .i64 0,.int .i64 0,.int .i64 0]) (.agg #[.int .i64 0,.int .i64 0,.int .i64 0])).run Tryz.prog w=.ok (.bool false) w:=by kernel_rfl
end Go.Proofs.YtabbgpjofkaomaaGreatDoor
