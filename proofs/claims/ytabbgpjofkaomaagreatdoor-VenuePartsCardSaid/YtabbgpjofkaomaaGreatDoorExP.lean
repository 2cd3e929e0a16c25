import Derived.Test.YtabbgpjofkaomaaGreatDoorJ0
import Derived.Deep.OwnRows
import Derived.Test.YtabbgpjofkaomaaGreatDoorJ1
import Derived.Deep.RegionLaw
import Derived.Test.YtabbgpjofkaomaaGreatDoorBDel
import Derived.Test.YtabbgpjofkaomaaGreatDoorJ3
import Derived.Test.YtabbgpjofkaomaaGreatDoorJ7
import Derived.Laws.Rows
import Derived.Test.YtabbgpjofkaomaaGreatDoorWire
import Derived.BigQuiet
import Derived.Deep.QuietTactic
import Derived.Test.YtabbgpjofkaomaaGreatDoorJ9
import Derived.Test.YtabbgpjofkaomaaGreatDoorRefLots
import Derived.Test.YtabbgpjofkaomaaGreatDoorJ14
import Derived.Test.YtabbgpjofkaomaaGreatDoorJ12
import Derived.Test.YtabbgpjofkaomaaGreatDoorFlRu
import Derived.Test.YtabbgpjofkaomaaGreatDoorJ24
import Derived.Test.YtabbgpjofkaomaaGreatDoorChecked
import Derived.Laws.BytesArg
import Derived.Laws.IdiomStrings
import Derived.Deep.AppendSrc
import Derived.Test.YtabbgpjofkaomaaGreatDoorJ25
import Derived.Test.YtabbgpjofkaomaaGreatDoorJ30
import Derived.Test.YtabbgpjofkaomaaGreatDoorJ31
import Derived.Test.YtabbgpjofkaomaaGreatDoorJ19
import Derived.Test.YtabbgpjofkaomaaGreatDoorDrain
import Derived.Test.YtabbgpjofkaomaaGreatDoorJ32
import Derived.Test.YtabbgpjofkaomaaGreatDoorJ35
import Derived.Test.YtabbgpjofkaomaaGreatDoorJ34
import Derived.Test.YtabbgpjofkaomaaGreatDoorJ39
import Derived.Test.YtabbgpjofkaomaaGreatDoorJ42
import Derived.Laws.IdiomArrays
import Derived.Test.YtabbgpjofkaomaaGreatDoorJ45
import Derived.Test.YtabbgpjofkaomaaGreatDoorVLaw4
import Derived.Test.YtabbgpjofkaomaaGreatDoorVLaw6
import Derived.Test.YtabbgpjofkaomaaGreatDoorVPartsL
set_option linter.unusedSimpArgs false
set_option linter.unusedVariables false
/- Worlds behind a method that changes an object: every block bears a label;'ov' is the world in which only the blocks of one group of labels may have turned. Rows that bear a label;what append makes of them. No condition. -/
namespace Go.Proofs.YtabbgpjofkaomaaGreatDoor
open Go.RowKit
section
variable (w:World) (own:Nat→Nat) (m i k:Nat) (x:World) (n j:Nat)
end
section
variable {own:Nat→Nat} {m i:Nat} {a w:World}
theorem Kp.ex (h:Kp own m i a w):∃ k x,w=Proofs.YtabbgpjofkaomaaGreatDoor.ov a own m i k x∧w.heap.size=a.heap.size+k:=⟨_,_,h.is,by have:=h.size;omega⟩
theorem Kp.below {B:Nat} (h:Kp own m i a w) (hB:∀ n,n<B→own n / m≠i) (hs:B≤a.heap.size):Below B a w:=⟨h.os,h.tape,h.output,h.size,fun k hk=>h.block k (by omega) (hB k hk)⟩
end
section
variable {α:Type} {f:α→List Value} {N:Nat}
end
section
variable {own:Nat→Nat} {j:Nat} {w:World} {e:TypeId} {size:Nat} {v:Value} {n:Nat} {xs:List Value}
theorem OwnRow.ex {own':Nat→Nat} {w':World} (h:OwnRow own j w e size v n xs) (hk:∀ g,g<w.heap.size→own g=j→w'.heap[g]?=w.heap[g]?) (ho:∀ g,g<w.heap.size→own g=j→own' g=j):OwnRow own' j w' e size v n xs :=
 ⟨h.1.of_block fun g hg=>hk g (h.1.lt g hg) (h.2 g hg),fun g hg=>ho g (h.1.lt g hg) (h.2 g hg)⟩
theorem OwnRow.len (h:OwnRow own j w e size v n xs):xs.length=n*size:=h.1.1
section
variable {P:Program}
end
end
end Go.Proofs.YtabbgpjofkaomaaGreatDoor
/- An object that holds one slice of its own,at its first cell. No condition. -/
namespace Go.Proofs.YtabbgpjofkaomaaGreatDoor
open Go.RowKit
section
variable {own own':Nat→Nat} {i m g:Nat} {w w':World} {p N:Nat} {f:Nat→Value} {e:TypeId} {size:Nat} {v:Value} {n:Nat} {xs:List Value}
theorem OneAt.relabel (h:OneAt own i w p N f e size v n xs) (ho:∀ n,n<w.heap.size→own n=i→own' n=i):OneAt own' i w p N f e size v n xs:=h.kp (m:=1) (g:=i+1) (Kp.refl _ _ _ _) (by simp) ho
end
end Go.Proofs.YtabbgpjofkaomaaGreatDoor
/- What slices.Delete of one lot computes: in its own block. -/
namespace Go.Proofs.YtabbgpjofkaomaaGreatDoor
open Go.RowKit
theorem OnlyAt.kp {g:Nat} {w w':World} {own:Nat→Nat} {m i:Nat} (h:OnlyAt g w w') (hg:own g / m=i):Kp own m i w w':=⟨h.os,h.tape,h.output,Nat.le_of_eq h.size.symm,fun k _ hne=>h.block k (fun e=>hne (e▸hg))⟩
end Go.Proofs.YtabbgpjofkaomaaGreatDoor
/- What client,right,New and Of of package purse compute. -/
namespace Go.Proofs.YtabbgpjofkaomaaGreatDoor
open Go.RowKit
section
variable {own:Nat→Nat} {i:Nat} {w:World} {p:Nat} {P:Pu}
abbrev hasV (P:Pu) (c:Nat):Value:=.agg #[.int .i64 (P c 0),.int .i64 (P c 1),.int .i64 (P c 2),.int .i64 (P c 3),.int .i64 (P c 4),.int .i64 (P c 5),.int .i64 (P c 6),.int .i64 (P c 7)]
set_option maxRecDepth 100000 in
theorem of_in (h:PurseAt own i w p P) (c:Nat) (hc:c<6):Calls Tryz.prog 33 #[.pointer (some ⟨p,0,none⟩),.int .i64 (c:Int)] w fun e w'=>e=.returned (hasV P c)∧Ex w w':=by
 have q0:=h.cell hc (j:=0) (by omega)
 have q1:=h.cell hc (j:=1) (by omega)
 have q2:=h.cell hc (j:=2) (by omega)
 have q3:=h.cell hc (j:=3) (by omega)
 have q4:=h.cell hc (j:=4) (by omega)
 have q5:=h.cell hc (j:=5) (by omega)
 have q6:=h.cell hc (j:=6) (by omega)
 have q7:=h.cell hc (j:=7) (by omega)
 have hp:=h.lt
 have HC:=Lib.hid (pclient_any (c:Int))
 rw [show inR (c:Int) 0 5=true from inR_iff.2 (by omega)] at HC
 clear h
 have c0:(0:Int)≤(c:Int):=by omega
 have c6:(c:Int)<6:=by omega
 simp only [Nat.add_zero] at q0
 go_enter Tryz.func33,Tryz.ntmps33
 go_wp2_with (go_at_call 63;refine (HC.out _).mono ?_;rintro e w1 ⟨rfl,l1,d1,rfl⟩)
 all_goals (try simp only [Exit.inBlock,Exit.then])
 all_goals (refine bodyPost_ret (v:=hasV P c) ?_ rfl ⟨rfl,(by repeat (first|exact Ex.refl _|refine Ex.alloc ?_ _|refine Ex.ext ?_ _ _|refine Ex.drew ?_|refine Ex.drewN ?_ _))⟩)
 all_goals simp only [results,Tryz.results33]
 all_goals simp [go_sem,↓IntWalk.iteOmega]
end
end Go.Proofs.YtabbgpjofkaomaaGreatDoor
/- A floor: its block,its row of items,its books and its purse;each part bears a label of its own within a group of eight labels. -/
namespace Go.Proofs.YtabbgpjofkaomaaGreatDoor
open Go.RowKit
section
variable {own own' o:Nat→Nat} {c m g k:Nat} {w w1 w':World} {A:FlA} {st:FSt}
theorem FlAt.setCell (h:FlAt own c w A st) {p:Addr} (hp:own p.block / 8≠c) (v:Value):FlAt own c (w.setCell p v) A st :=
 h.kp (m:=1) (g:=own p.block) ((Kp.refl own 1 (own p.block) w).setCell (fun _=>Nat.div_one _) v) (fun j h1 h2=>by rw [Nat.div_one];omega) (fun n _ _=>rfl)
theorem FlG.then {st':FSt} (h:FlG own c w A st w1) (k:∀ o,FlAt o c w1 A st→FlG o c w1 A st' w'):FlG own c w A st' w':=by
 obtain ⟨h1,o,h2,h3⟩:=h
 obtain ⟨k1,o2,k2,k3⟩:=k o h3
 exact ⟨h1.chain k1 h2,o2,fun n hn=>(k2 n (Nat.lt_of_lt_of_le hn h1.size)).trans (h2 n hn),k3⟩
theorem FlG.ex {w0:World} (hx:Ex w0 w) (h:FlG own c w A st w'):FlG own c w0 A st w':=by
 obtain ⟨h1,o,h2,h3⟩:=h
 exact ⟨(Kp.of_below hx.below).trans h1.os h1.tape h1.output h1.size fun n hn hne=>h1.block n (Nat.lt_of_lt_of_le hn hx.below.size) hne,o,fun n hn=>h2 n (Nat.lt_of_lt_of_le hn hx.below.size),h3⟩
theorem FlG.size (h:FlG own c w A st w1):w.heap.size≤w1.heap.size:=h.1.size
variable {F:FuncId} {args:Array Value} {P:Ending→Prop} {Q:Ending→World→Prop}
theorem FlG.book (G:FlG own c w A st w1) (hk:k<3) {l':List Lot} (hC:∀ o i,BookAt o i w1 (A.bp k) (st.b k)→Calls Tryz.prog F args w1 fun e w'=>P e∧ObjTo o i i w1 (fun o' w'=>BookAt o' i w' (A.bp k) l') w') :
  Calls Tryz.prog F args w1 fun e w'=>P e∧FlG own c w A (st.setB k l') w':=by
 obtain ⟨h1,o,h2,h3⟩:=G
 refine (hC o _ (h3.book k hk)).mono fun e w' ⟨he,hT⟩=>⟨he,?_⟩
 obtain ⟨k1,o2,k2,k3⟩:=h3.setBook hk hT
 exact ⟨h1.chain k1 h2,o2,fun n hn=>(k2 n (Nat.lt_of_lt_of_le hn h1.size)).trans (h2 n hn),k3⟩
theorem FlG.purse (G:FlG own c w A st w1) {P':Pu} (hC:∀ o i,PurseAt o i w1 A.pp st.p→Calls Tryz.prog F args w1 fun e w'=>P e∧ObjTo o i i w1 (fun o' w'=>PurseAt o' i w' A.pp P') w') :
  Calls Tryz.prog F args w1 fun e w'=>P e∧FlG own c w A (st.setP P') w':=by
 obtain ⟨h1,o,h2,h3⟩:=G
 refine (hC o _ h3.purse).mono fun e w' ⟨he,hT⟩=>⟨he,?_⟩
 obtain ⟨k1,o2,k2,k3⟩:=h3.setPurse hT
 exact ⟨h1.chain k1 h2,o2,fun n hn=>(k2 n (Nat.lt_of_lt_of_le hn h1.size)).trans (h2 n hn),k3⟩
end
end Go.Proofs.YtabbgpjofkaomaaGreatDoor
/- A floor inside a method: what has turned of it since w,and blocks (S) that are none of its own. -/
namespace Go.Proofs.YtabbgpjofkaomaaGreatDoor
open Go.RowKit
theorem Same.refl (S:Nat→Prop) (W:World):Same S W W:=⟨fun _ _=>rfl,Nat.le_refl _⟩
theorem Same.trans {S:Nat→Prop} {W W1 W2:World} (h:Same S W W1) (k:Same S W1 W2):Same S W W2:=⟨fun n hn=>(k.1 n hn).trans (h.1 n hn),Nat.le_trans h.2 k.2⟩
theorem Same.ex {S:Nat→Prop} {W W1 W2:World} (h:Same S W W1) (hx:Ex W1 W2) (hS:∀ n,S n→n<W1.heap.size):Same S W W2:=⟨fun n hn=>(hx.below.block n (hS n hn)).trans (h.1 n hn),Nat.le_trans h.2 hx.below.size⟩
section
variable {own:Nat→Nat} {c k:Nat} {w W W':World} {A:FlA} {st:FSt} {S S':Nat→Prop}
theorem FlB.call {st':FSt} {F:FuncId} {args:Array Value} {P:Ending→Prop} (G:FlB own c w A st S W) (hC:∀ o,FlAt o c W A st→Calls Tryz.prog F args W fun e w'=>P e∧FlG o c W A st' w') :
  Calls Tryz.prog F args W fun e w'=>P e∧FlB own c w A st' S w'∧Same S W w':=by
 obtain ⟨h1,o,h2,h3,h4,h5⟩:=G
 refine (hC o h2).mono fun e w' ⟨he,hT⟩=>⟨he,?_⟩
 obtain ⟨k1,o2,k2,k3⟩:=hT
 refine ⟨⟨h1.chain k1 h5,tight o2 c w'.heap.size,k3.relabel (fun n hn _=>tight_lt hn),fun n hn=>tight_ge hn,fun n hn=>?_,fun n hn=>?_⟩,fun n hn=>k1.block n (h4 n hn).1 (h4 n hn).2,k1.size⟩
 ·have hlt:=Nat.lt_of_lt_of_le (h4 n hn).1 k1.size
  refine ⟨hlt,?_⟩
  rw [tight_lt hlt,k2 n (h4 n hn).1]
  exact (h4 n hn).2
 ·have hlt:=Nat.lt_of_lt_of_le hn h1.size
  rw [tight_lt (Nat.lt_of_lt_of_le hlt k1.size),k2 n hlt]
  exact h5 n hn
theorem FlB.book {l':List Lot} {F:FuncId} {args:Array Value} {P:Ending→Prop} (G:FlB own c w A st S W) (hk:k<3) (hC:∀ o i,BookAt o i W (A.bp k) (st.b k)→Calls Tryz.prog F args W fun e w'=>P e∧ObjTo o i i W (fun o' w'=>BookAt o' i w' (A.bp k) l') w') :
  Calls Tryz.prog F args W fun e w'=>P e∧FlB own c w A (st.setB k l') S w'∧Same S W w' :=
 G.call fun o h=>(hC o _ (h.book k hk)).mono fun e w' ⟨he,hT⟩=>⟨he,h.setBook hk hT⟩
theorem FlB.purse {P':Pu} {F:FuncId} {args:Array Value} {P:Ending→Prop} (G:FlB own c w A st S W) (hC:∀ o i,PurseAt o i W A.pp st.p→Calls Tryz.prog F args W fun e w'=>P e∧ObjTo o i i W (fun o' w'=>PurseAt o' i w' A.pp P') w') :
  Calls Tryz.prog F args W fun e w'=>P e∧FlB own c w A (st.setP P') S w'∧Same S W w' :=
 G.call fun o h=>(hC o _ h.purse).mono fun e w' ⟨he,hT⟩=>⟨he,h.setPurse hT⟩
end
end Go.Proofs.YtabbgpjofkaomaaGreatDoor
/- What the small methods of a floor compute: right,asked,Book,Purse,Band. -/
namespace Go.Proofs.YtabbgpjofkaomaaGreatDoor
open Go.RowKit
section
variable {own:Nat→Nat} {c:Nat} {w:World} {A:FlA} {st:FSt}
set_option maxRecDepth 100000 in
theorem fpurse_any (h:FlAt own c w A st):Calls Tryz.prog 31 #[.pointer (some ⟨A.f,0,none⟩)] w fun e w'=>e=.returned (.pointer (some ⟨A.pp,0,none⟩))∧Ex w w':=by
 obtain ⟨_,c1,_,_,hf⟩:=h.cells
 clear h
 go_enter Tryz.func31,Tryz.ntmps31
 go_wp2
 all_goals go_ret
 all_goals exact ⟨rfl,(by repeat (first|exact Ex.refl _|refine Ex.alloc ?_ _|refine Ex.ext ?_ _ _|refine Ex.drew ?_|refine Ex.drewN ?_ _))⟩
set_option maxRecDepth 100000 in
theorem fband_in (h:FlAt own c w A st) (k:Nat) (hk:k<3):Calls Tryz.prog 25 #[.pointer (some ⟨A.f,0,none⟩),.int .i64 (k:Int)] w fun e w'=>e=.returned (.agg #[.int .i64 (st.ref k),.int .i64 (st.left k)])∧Ex w w':=by
 obtain ⟨c0,_,_,_,hf⟩:=h.cells
 obtain ⟨i0,i1,i2⟩:=h.items hk
 have hg:=h.rowLt
 have HR:=Lib.hid (fun w=>fright_any (k:Int) w)
 rw [inR_iff.2 (by omega)] at HR
 have k3:(k:Int)<3:=by omega
 clear h
 go_enter Tryz.func25,Tryz.ntmps25
 go_wp2_with (go_at_call 60;refine (HR.out _).mono ?_;rintro e w1 ⟨rfl,l1,d1,rfl⟩)
 all_goals ((try simp only [Exit.inBlock,Exit.then]);(refine bodyPost_ret (v:=.agg #[.int .i64 (st.ref k),.int .i64 (st.left k)]) ?_ rfl ⟨rfl,(by repeat (first|exact Ex.refl _|refine Ex.alloc ?_ _|refine Ex.ext ?_ _ _|refine Ex.drew ?_|refine Ex.drewN ?_ _))⟩);simp only [results,Tryz.results25];simp [go_sem,↓IntWalk.iteOmega])
end
end Go.Proofs.YtabbgpjofkaomaaGreatDoor
/- A floor inside a method,beside what the method itself holds: the errors,cells of its own,rows of its own. -/
namespace Go.Proofs.YtabbgpjofkaomaaGreatDoor
open Go.RowKit
section
variable {own:Nat→Nat} {c k:Nat} {w W W':World} {A:FlA} {st st':FSt} {E:Nat→Addr} {L:List Nat} {cs cs':List Bl} {T T':Nat→Prop}
theorem FlX.kp (X:FlX own c w A st E L cs T W):Kp own 8 c w W:=X.fl.kp
section
variable {F:FuncId} {args:Array Value} {P:Ending→Prop} {Q:Ending→World→Prop}
end
end
section
variable {W W1:World} {row:Option Nat} {b:Nat}
end
end Go.Proofs.YtabbgpjofkaomaaGreatDoor
/- What the document's BestOf,PricesOf and SameInts compute. -/
namespace Go.Proofs.YtabbgpjofkaomaaGreatDoor
open Go.RowKit
def PrInv (l:List Lot) (w:World) (k:Nat) (u:Value) (xs:List Int) (wr:World):Prop:=wr.ownsRow w.heap.size 3 1 u xs.length (xs.map (Value.int .i64))∧xs.Pairwise (·<·)∧(∀ p,p∈xs↔∃ x∈l.take k,x.price=p)∧xs.length≤k∧Below w.heap.size w wr
theorem PrInv.same {l:List Lot} {w wr w':World} {k:Nat} {u:Value} {xs:List Int} {a:Lot} (h:PrInv l w k u xs wr) (ha:l[k]?=some a) (hp:a.price∈xs) (hx:Ex wr w'):PrInv l w (k+1) u xs w':=by
 obtain ⟨h1,h2,h3,h4,h5⟩:=h
 refine ⟨h1.kept (Below.grownBy hx.below) (Classical.em _),h2,fun p=>?_,by omega,h5.trans (hx.below.mono h5.size)⟩
 rw [List.take_add_one,ha,h3]
 simp only [Option.toList_some,List.mem_append,List.mem_singleton]
 constructor
 ·rintro ⟨x,hx,e⟩;exact ⟨x,.inl hx,e⟩
 ·rintro ⟨x,hx|rfl,e⟩
  ·exact ⟨x,hx,e⟩
  ·rw [e] at hp;exact (h3 p).1 hp
end Go.Proofs.YtabbgpjofkaomaaGreatDoor
/- A floor in a law: New,Place,Run as steps of what is known;the closed fact 'floored'. -/
namespace Go.Proofs.YtabbgpjofkaomaaGreatDoor
open Go.RowKit
section
variable {own:Nat→Nat} {c k:Nat} {w w0 W:World} {A:FlA} {st:FSt} {E:Nat→Addr} {cs:List Bl} {T:Nat→Prop}
end
def fa2:Ask:=⟨111,1,0,0,1,99,4,2⟩
end Go.Proofs.YtabbgpjofkaomaaGreatDoor
/- Strings as lists of bytes. No condition. -/
namespace Go.Proofs.YtabbgpjofkaomaaGreatDoor
open Go.RowKit
theorem bytes_mid (l:List UInt8) (i j:Nat):(⟨l.toArray⟩:ByteArray).extract i j=⟨((l.drop i).take (j - i)).toArray⟩:=by
 apply ByteArray.ext;apply Array.toList_inj.1;rw [extract_list]
end Go.Proofs.YtabbgpjofkaomaaGreatDoor
/- Records of a tape as lists of bytes: a record is read back,a part of one is none,what is read is read in one way. No program,no condition. -/
namespace Go.Proofs.YtabbgpjofkaomaaGreatDoor
def numB (l:List UInt8):Nat:=l.foldl (fun n b=>256*n+b.toNat) 0
def oneL (b:List UInt8):Option (List UInt8) :=
 if b.length<12 then none
 else if 10000<numB (b.take 4)∨b.length<numB (b.take 4)+12 then none
 else if recL ((b.drop 8).take (numB (b.take 4)))=b.take (numB (b.take 4)+12) then some ((b.drop 8).take (numB (b.take 4))) else none
def recs (l:List (List UInt8)):List UInt8:=l.flatMap recL
def Fits (l:List (List UInt8)):Prop:=∀ s∈l,s.length≤10000
def Reads (b:List UInt8) (l:List (List UInt8)) (n:Nat):Prop:=Fits l∧n=(recs l).length∧∃ t,b=recs l++t∧oneL t=none
theorem Reads.take {b:List UInt8} {l:List (List UInt8)} {n:Nat} (h:Reads b l n):b.take n=recs l∧oneL (b.drop n)=none:=by
 obtain ⟨_,h2,t,rfl,h3⟩:=h
 rw [h2,List.take_left,List.drop_left]
 exact ⟨rfl,h3⟩
def Kept (d:Dk) (l:List (List UInt8)):Prop:=Fits l∧∃ t,d.b=recs l++t∧oneL t=none∧(d.off=false→t=[])
theorem Kept.reads {d:Dk} {l:List (List UInt8)} (h:Kept d l):Reads d.b l (recs l).length:=by
 obtain ⟨h1,t,h2,h3,_⟩:=h
 exact ⟨h1,rfl,t,h2,h3⟩
end Go.Proofs.YtabbgpjofkaomaaGreatDoor
/- A disk: its bytes,is power off,when it fails. What NewDisk,Cut,On,Power and Bytes of package tape compute. -/
namespace Go.Proofs.YtabbgpjofkaomaaGreatDoor
open Go.RowKit
section
variable {own own':Nat→Nat} {i m g:Nat} {w w':World} {p:Nat} {d:Dk}
end
section
variable {own:Nat→Nat} {i:Nat} {w:World} {p:Nat} {d:Dk}
theorem bytes_any (h:DiskAt own i w p d):Calls Tryz.prog 29 #[.pointer (some ⟨p,0,none⟩)] w fun e w'=>e=.returned (.string ⟨d.b.toArray⟩)∧w=w':=by
 obtain ⟨ao,cap,c,hc,hm,h0,hr⟩:=h.slice
 have hv:=conv_bytes rfl hr w (fun _ _=>rfl)
 go_enter Tryz.func29,Tryz.ntmps29
 go_wp2_with fail
 all_goals go_ret
 all_goals exact ⟨rfl,rfl⟩
end
end Go.Proofs.YtabbgpjofkaomaaGreatDoor
/- Slices of strings: how they read,and are compared. -/
namespace Go.Proofs.YtabbgpjofkaomaaGreatDoor
open Go.RowKit
def strV (s:List UInt8):Value:=.string ⟨s.toArray⟩
def StrsAt (w:World) (ao:Option Addr) (l:List (List UInt8)):Prop:=0<l.length→∃ b off,ao=some ⟨b,off,none⟩∧b<w.heap.size∧∀ k (hk:k<l.length),w.cell? ⟨b,off+k,none⟩=some (strV l[k])
theorem StrsAt.ex {w w':World} {ao:Option Addr} {l:List (List UInt8)} (h:StrsAt w ao l) (hx:Ex w w'):StrsAt w' ao l:=fun h0=>by
 obtain ⟨b,off,e,hb,hc⟩:=h h0
 exact ⟨b,off,e,Nat.lt_of_lt_of_le hb hx.below.size,fun k hk=>(hx.below.cell (p:=⟨b,off+k,none⟩) hb).trans (hc k hk)⟩
theorem strs_one {w:World} {t:TypeId} (s:List UInt8) {b:Nat} {fr:Nat × Nat} (h:w.heap[b]?=some (.cells #[strV s] t fr)):StrsAt w (some ⟨b,0,none⟩) [s]:=fun _=>⟨b,0,rfl,(Array.getElem?_eq_some_iff.1 h).1,fun k hk=>by
 have:k=0:=by simpa using hk
 subst this
 simp [World.cell?,h]⟩
set_option maxRecDepth 100000 in
theorem sameTexts_same (ao bo:Option Addr) (c1 c2:Nat) (l:List (List UInt8)) (w:World) (h1:StrsAt w ao l) (h2:StrsAt w bo l) (hz:l.length≤100000000) :
  Calls Tryz.prog 27 #[.slice ao l.length c1,.slice bo l.length c2] w fun e w'=>e=.returned (.bool true)∧Ex w w':=by
 have H1:=Lib.hid h1
 have H2:=Lib.hid h2
 clear h1 h2
 go_enter Tryz.func27,Tryz.ntmps27
 go_wp2_with fail
 go_loopw [5] (fun i wr=>∃ (k:Nat),k≤l.length∧i=.int .i64 k∧Ex w wr) (fun i _=>l.length - (intOf i).toNat)
 case atStart=>exact ⟨0,Nat.zero_le _,rfl,Ex.refl _⟩
 case round =>
  obtain ⟨k,hk,rfl,l1,d1,rfl⟩:=hrel
  by_cases hlt:k<l.length
  ·obtain ⟨b1,o1,rfl,hb1,hc1⟩:=H1.out (by omega)
   obtain ⟨b2,o2,rfl,hb2,hc2⟩:=H2.out (by omega)
   have a0:=hc1 k hlt
   have b0:=hc2 k hlt
   generalize l[k]=z at a0 b0
   unfold strV at a0 b0
   clear hc1 hc2
   go_wp2_with fail
   go_quiet (fail)
   all_goals go_wp2_with fail
   all_goals
    go_roundw
    case measure=>simp [intOf];omega
    case rel=>exact ⟨k+1,by omega,by go_num,(by repeat (first|exact Ex.refl _|refine Ex.alloc ?_ _|refine Ex.ext ?_ _ _|refine Ex.drew ?_|refine Ex.drewN ?_ _))⟩
  ·go_wp2_with fail
   all_goals go_ret
   all_goals exact ⟨rfl,(by repeat (first|exact Ex.refl _|refine Ex.alloc ?_ _|refine Ex.ext ?_ _ _|refine Ex.drew ?_|refine Ex.drewN ?_ _))⟩
end Go.Proofs.YtabbgpjofkaomaaGreatDoor
/- Things that lie in blocks of their own,side by side in one world;what a call on one of them leaves of the others. Plain facts,no condition. -/
namespace Go.Proofs.YtabbgpjofkaomaaGreatDoor
open Go.RowKit
section
variable {F G:Nat→Prop} {w w1 w':World}
theorem Only.cell (h:Only F w w') {p:Addr} (hp:p.block<w.heap.size) (hF:¬ F p.block):w'.cell? p=w.cell? p:=World.cell?_of_block (h.block p.block hp hF)
end
section
variable {F0:Nat→Prop} {w0 W W':World} {L M:List Th} {T T':Th}
theorem Leaves.ex {F:Nat→Prop} (h:T.P F W) (hx:Ex W W'):Leaves T F W W':=⟨F,T.same h (Only.ex hx) (fun n _ (hf:NoF n)=>hf.elim),Only.ex hx,fun n hn=>.inl hn⟩
theorem Leaves.later {F:Nat→Prop} {W1:World} (h:Leaves T F W W1) (hx:Ex W1 W'):Leaves T F W W':=by
 obtain ⟨F',h1,h2,h3⟩:=h
 exact ⟨F',T.same h1 (Only.ex hx) (fun n _ (hf:NoF n)=>hf.elim),h2.trans (Only.ex hx) (fun n _ (hf:NoF n)=>hf.elim),h3⟩
theorem Sep.call {f:FuncId} {args:Array Value} {Q:Ending→World→Prop} (h:Sep F0 w0 L W) (i:Nat) (hi:L[i]?=some T)
  (hC:∀ F,T.P F W→(∀ n,F n→F0 n∨w0.heap.size≤n)→Calls Tryz.prog f args W fun e w'=>Q e w'∧Leaves T' F W w') :
  Calls Tryz.prog f args W fun e w'=>Q e w'∧Sep F0 w0 (L.take i++(T'::L.drop (i+1))) w':=by
 obtain ⟨F,h1,h2,h3⟩:=h.open i hi
 refine (hC F h1 h2).mono fun e w' ⟨hq,F',k1,k2,k3⟩=>⟨hq,h3 (M:=[T']) k2 (SepL.one k1) k3⟩
end
end Go.Proofs.YtabbgpjofkaomaaGreatDoor
/- A row of a call's own,of any elements: how it reads,and grows. -/
namespace Go.Proofs.YtabbgpjofkaomaaGreatDoor
open Go.RowKit
section
variable {α:Type} {t:TypeId} {N:Nat} {f:α→List Value} {base:Nat} {l m:List α} {v v':Value} {w W W1 W':World}
theorem GRow.kept {row:Option Nat} (h:GRow t N f base l v W) (hg:W.grownBy W' row) (hne:∀ g,v.ownBlock=some g→row≠some g):GRow t N f base l v W':=h.block fun g e=>hg.block g (h.1.lt g e) (fun e2=>hne g e e2.symm)
end
end Go.Proofs.YtabbgpjofkaomaaGreatDoor
/- Plain laws on what a drain gives: of each client the first two,in order. No program. -/
namespace Go.Proofs.YtabbgpjofkaomaaGreatDoor
open Go.RowKit
theorem IntakeAt.exts {own:Nat→Nat} {i:Nat} {w:World} {p:Nat} {l:Nat→List Ask} {turn:Nat} (h:IntakeAt own i w p l turn) (bs:List Obj) (d:Nat):IntakeAt own i (ext w bs d) p l turn :=
 h.kp (m:=1) (g:=i+1) (Kp.ext (Kp.refl _ _ _ _) bs d) (by simp) (fun _ _ h=>h)
theorem IntakeAt.alloc {own:Nat→Nat} {i:Nat} {w:World} {p:Nat} {l:Nat→List Ask} {turn:Nat} (h:IntakeAt own i w p l turn) (o:Obj):IntakeAt own i (w.alloc o) p l turn :=
 h.kp (m:=1) (g:=i+1) (Kp.alloc (Kp.refl _ _ _ _) o) (by simp) (fun _ _ h=>h)
theorem IntakeAt.drew {own:Nat→Nat} {i:Nat} {w:World} {p:Nat} {l:Nat→List Ask} {turn:Nat} (h:IntakeAt own i w p l turn):IntakeAt own i w.drew p l turn :=
 h.kp (m:=1) (g:=i+1) (Kp.drew (Kp.refl _ _ _ _)) (by simp) (fun _ _ h=>h)
theorem IntakeAt.later {own:Nat→Nat} {i:Nat} {w w':World} {p:Nat} {l:Nat→List Ask} {turn:Nat} (h:IntakeAt own i w p l turn) (hx:Ex w w'):IntakeAt own i w' p l turn:=by
 obtain ⟨bs,d,rfl⟩:=hx
 exact h.exts bs d
def Cl (l:Nat→List Ask):Prop:=∀ d,d<6→∀ a,a∈l d→a.client=(d:Int)
theorem Cl.drop {l:Nat→List Ask} (h:Cl l):Cl (fun d=>(l d).drop 2):=fun d hd a ha=>h d hd a (List.mem_of_mem_drop ha)
end Go.Proofs.YtabbgpjofkaomaaGreatDoor
/- Plain facts: a venue stays as it should be. -/
namespace Go.Proofs.YtabbgpjofkaomaaGreatDoor
open Go.RowKit
section
variable {v:VSt}
theorem VOk.feed (h:VOk v) {n:Nat} (hn:n<6) (s:List UInt8):VOk (feedR n s v).2:=by
 unfold feedR
 split
 ·exact h
 ·refine fold_keep (P:=fun p:List Rep × VSt=>VOk p.2) (f:=gotStep n) (b:=([],v.setCl n ⟨(v.cl n).s,leftL ((v.cl n).left++s),(v.cl n).drop⟩)) (fun p g hp=>hp.got hn g) _ (h.setCl n ⟨(v.cl n).s,leftL ((v.cl n).left++s),(v.cl n).drop⟩ (h.sess n hn) ?_)
  show (leftL ((v.cl n).left++s)).length<30
  rw [leftL_len]
  omega
end
end Go.Proofs.YtabbgpjofkaomaaGreatDoor
/- A venue as a thing: what its methods leave;its plain methods that only read. -/
namespace Go.Proofs.YtabbgpjofkaomaaGreatDoor
open Go.RowKit
section
variable {E:Nat→Addr} {w0 w W W':World} {F:Nat→Prop} {A:VA} {v v':VSt} {M:List Th} {vb dp:Nat} {fa:FlA}
set_option maxRecDepth 100000 in
theorem vdown_any (h:(vTh vb fa dp v).P F w):Calls Tryz.prog 30 #[.pointer (some ⟨vb,0,none⟩)] w fun e w'=>e=.returned (.bool v.down)∧Ex w w':=by
 obtain ⟨A,rfl,_,_,hp,_⟩:=vTh.parts h
 have c:w.cell? ⟨A.vb,12,none⟩=some (.bool v.down):=hp.cell (j:=12) (by decide)
 clear hp h
 go_enter Tryz.func30,Tryz.ntmps30
 go_wp2
 all_goals go_ret
 all_goals exact ⟨rfl,(by repeat (first|exact Ex.refl _|refine Ex.alloc ?_ _|refine Ex.ext ?_ _ _|refine Ex.drew ?_|refine Ex.drewN ?_ _))⟩
set_option maxRecDepth 100000 in
theorem vfloor_any (h:(vTh vb fa dp v).P F w):Calls Tryz.prog 21 #[.pointer (some ⟨vb,0,none⟩)] w fun e w'=>e=.returned (.pointer (some ⟨fa.f,0,none⟩))∧Ex w w':=by
 obtain ⟨A,rfl,rfl,_,hp,_⟩:=vTh.parts h
 have c:w.cell? ⟨A.vb,6,none⟩=some (.pointer (some ⟨A.fa.f,0,none⟩)):=hp.cell (j:=6) (by decide)
 clear hp h
 go_enter Tryz.func21,Tryz.ntmps21
 go_wp2
 all_goals go_ret
 all_goals exact ⟨rfl,(by repeat (first|exact Ex.refl _|refine Ex.alloc ?_ _|refine Ex.ext ?_ _ _|refine Ex.drew ?_|refine Ex.drewN ?_ _))⟩
end
end Go.Proofs.YtabbgpjofkaomaaGreatDoor
/- What holds in a law of venues: venues and rows as things side by side,in memory that is the law's own. -/
namespace Go.Proofs.YtabbgpjofkaomaaGreatDoor
open Go.RowKit
section
variable {E:Nat→Addr} {w0 W W':World} {L M M1 M2:List Th} {T T':Th} {vb dp:Nat} {fa:FlA} {v:VSt}
theorem LX.perm (X:LX E w0 L W) (h:L.Perm M):LX E w0 M W:=⟨X.sep.perm h,X.rdy,X.tab⟩
end
end Go.Proofs.YtabbgpjofkaomaaGreatDoor
/- How the row's arguments read: slices of acts of purses. -/
namespace Go.Proofs.YtabbgpjofkaomaaGreatDoor
open Go.ChangeShapes Go.WideShapes Go.ChangeAt Go.RowKit Go.Deep
structure Tri where
 x:Int
 y:Int
 z:Int
 deriving DecidableEq
def Tri.cells (a:Tri):List Value:=[.int .i64 a.x,.int .i64 a.y,.int .i64 a.z]
abbrev Tri.val (a:Tri):Value:=.agg #[.int .i64 a.x,.int .i64 a.y,.int .i64 a.z]
structure Pay where
 kind:ByteArray
 client:Int
 cash:Int
 stock:Tri
 item:Int
 a:Lot
 b:Lot
 price:Int
 qty:Int
 deriving DecidableEq
def Pay.cells (a:Pay):List Value:=[.string a.kind,.int .i64 a.client,.int .i64 a.cash,.int .i64 a.stock.x,.int .i64 a.stock.y,.int .i64 a.stock.z,.int .i64 a.item,.int .i64 a.a.id,.int .i64 a.a.owner,.int .i64 a.a.side,.int .i64 a.a.price,.int .i64 a.a.qty,.int .i64 a.b.id,.int .i64 a.b.owner,.int .i64 a.b.side,.int .i64 a.b.price,.int .i64 a.b.qty,.int .i64 a.price,.int .i64 a.qty]
abbrev Pay.val (a:Pay):Value:=.agg #[.string a.kind,.int .i64 a.client,.int .i64 a.cash,.agg #[.int .i64 a.stock.x,.int .i64 a.stock.y,.int .i64 a.stock.z],.int .i64 a.item,.agg #[.int .i64 a.a.id,.int .i64 a.a.owner,.int .i64 a.a.side,.int .i64 a.a.price,.int .i64 a.a.qty],.agg #[.int .i64 a.b.id,.int .i64 a.b.owner,.int .i64 a.b.side,.int .i64 a.b.price,.int .i64 a.b.qty],.int .i64 a.price,.int .i64 a.qty]
end Go.Proofs.YtabbgpjofkaomaaGreatDoor
/- What Total of package purse computes. -/
namespace Go.Proofs.YtabbgpjofkaomaaGreatDoor
open Go.RowKit
def TriAt (w:World) (b:Nat) (x y z:Int):Prop:=w.heap[b]?=some (.cells #[.int .i64 x,.int .i64 y,.int .i64 z] 77 (0,0))
theorem TriAt.lt {w:World} {b:Nat} {x y z:Int} (h:TriAt w b x y z):b<w.heap.size:=(Array.getElem?_eq_some_iff.1 h).1
theorem TriAt.cell0 {w:World} {b:Nat} {x y z:Int} (h:TriAt w b x y z):w.cell? ⟨b,0,none⟩=some (.int .i64 x):=by simp [World.cell?,show w.heap[b]?=_ from h]
theorem TriAt.cell1 {w:World} {b:Nat} {x y z:Int} (h:TriAt w b x y z):w.cell? ⟨b,1,none⟩=some (.int .i64 y):=by simp [World.cell?,show w.heap[b]?=_ from h]
theorem TriAt.cell2 {w:World} {b:Nat} {x y z:Int} (h:TriAt w b x y z):w.cell? ⟨b,2,none⟩=some (.int .i64 z):=by simp [World.cell?,show w.heap[b]?=_ from h]
theorem TriAt.frozen {w:World} {b:Nat} {x y z:Int} (h:TriAt w b x y z) (i:Nat):w.frozen? ⟨b,i,none⟩=false:=by simp [World.frozen?,show w.heap[b]?=_ from h]
theorem TriAt.block {w w':World} {b:Nat} {x y z:Int} (h:TriAt w b x y z) (hb:w'.heap[b]?=w.heap[b]?):TriAt w' b x y z:=hb.trans h
theorem TriAt.ex {w w':World} {b:Nat} {x y z:Int} (h:TriAt w b x y z) (hx:Ex w w'):TriAt w' b x y z:=by
 obtain ⟨l,d,rfl⟩:=hx
 exact h.block (by show (w.heap++l.toArray)[b]?=_;rw [Array.getElem?_append_left h.lt])
theorem TriAt.set0 {w:World} {b:Nat} {x y z:Int} (h:TriAt w b x y z) (v:Int):TriAt (w.setCell ⟨b,0,none⟩ (.int .i64 v)) b v y z:=by
 have:=heap_setCell_same w b 0 _ _ (.int .i64 v) h
 simpa [TriAt] using this
theorem TriAt.set1 {w:World} {b:Nat} {x y z:Int} (h:TriAt w b x y z) (v:Int):TriAt (w.setCell ⟨b,1,none⟩ (.int .i64 v)) b x v z:=by
 have:=heap_setCell_same w b 1 _ _ (.int .i64 v) h
 simpa [TriAt] using this
theorem TriAt.set2 {w:World} {b:Nat} {x y z:Int} (h:TriAt w b x y z) (v:Int):TriAt (w.setCell ⟨b,2,none⟩ (.int .i64 v)) b x y v:=by
 have:=heap_setCell_same w b 2 _ _ (.int .i64 v) h
 simpa [TriAt] using this
def psum (P:Pu) (j:Nat):Nat→Int
 | 0=>0
 | k+1=>psum P j k+P k j
theorem psum6 (P:Pu) (j:Nat):psum P j 6=sumP P j:=by simp [psum,sumP]
theorem psum_bd {P:Pu} (h:PInv P):∀ k,k≤6→(0≤psum P 0 k∧psum P 0 k≤1099511627776*(k:Int))∧(0≤psum P 2 k∧psum P 2 k≤1073741824*(k:Int))∧(0≤psum P 3 k∧psum P 3 k≤1073741824*(k:Int))∧(0≤psum P 4 k∧psum P 4 k≤1073741824*(k:Int))
 | 0,_=>by simp [psum]
 | k+1,hk=>by
  have ih:=psum_bd h k (by omega)
  obtain ⟨a1,a2,a3,a4⟩:=h k (by omega)
  have b0:=a4 0 (by omega)
  have b1:=a4 1 (by omega)
  have b2:=a4 2 (by omega)
  simp only [Nat.reduceAdd] at b0 b1 b2
  simp only [psum]
  omega
def sel (q i:Nat) (d:Int):Int:=if i<q then d else 0
theorem sizeHas6:(Tryz.prog.info? 138).map (·.size)=some 48:=by kernel_rfl
def puCells (P:Pu):Array Value:=((List.range 48).map fun n=>Value.int .i64 (P (n / 8) (n % 8))).toArray
set_option maxRecDepth 100000 in
theorem puIndex (P:Pu) (w:World):∀ k:Nat,k<6→(Instr.index 138 (.agg (puCells P)) (.int .i64 (k:Int))).run Tryz.prog w=.ok (hasV P k) w
 | 0,_=>by kernel_rfl
 | 1,_=>by kernel_rfl
 | 2,_=>by kernel_rfl
 | 3,_=>by kernel_rfl
 | 4,_=>by kernel_rfl
 | 5,_=>by kernel_rfl
theorem triIndex (x y z:Int) (w:World):(Instr.index 77 (.agg #[.int .i64 x,.int .i64 y,.int .i64 z]) (.int .i64 0)).run Tryz.prog w=.ok (.int .i64 x) w∧(Instr.index 77 (.agg #[.int .i64 x,.int .i64 y,.int .i64 z]) (.int .i64 1)).run Tryz.prog w=.ok (.int .i64 y) w∧(Instr.index 77 (.agg #[.int .i64 x,.int .i64 y,.int .i64 z]) (.int .i64 2)).run Tryz.prog w=.ok (.int .i64 z) w:=⟨by kernel_rfl,by kernel_rfl,by kernel_rfl⟩
section
variable {own:Nat→Nat} {i:Nat} {w:World} {p:Nat} {P:Pu}
theorem PurseAt.row (h:PurseAt own i w p P):∃ t,w.heap[p]?=some (.cells (puCells P) t (0,0)):=by
 obtain ⟨_,_,t,cs,hg,hn,hc⟩:=h
 refine ⟨t,?_⟩
 rw [hg]
 congr 2
 apply Array.ext_getElem?
 intro k
 by_cases hk:k<48
 ·rw [hc k hk]
  simp [puCells,hk]
 ·rw [Array.getElem?_eq_none (by omega),Array.getElem?_eq_none (by simp [puCells];omega)]
set_option maxRecDepth 100000 in
set_option maxHeartbeats 4000000 in
theorem ptotal_any (h:PurseAt own i w p P):Calls Tryz.prog 32 #[.pointer (some ⟨p,0,none⟩)] w fun e w'=>e=.returned (.tuple #[.int .i64 (sumP P 0),.agg #[.int .i64 (sumP P 2),.int .i64 (sumP P 3),.int .i64 (sumP P 4)]])∧Ex w w':=by
 have hp:=h.lt
 have HI:=Lib.hid h.2.1
 obtain ⟨t,hg⟩:=h.row
 have hs:(Tryz.prog.info? 138).map (·.size)=some (puCells P).size:=by rw [sizeHas6];simp [puCells]
 have HX:=Lib.hid (puIndex P)
 have HG:=Lib.hid hg
 have HS:=Lib.hid hs
 have h6:=fun j=>Lib.hid (psum6 P j)
 clear h hg hs
 generalize puCells P=cs at *
 go_enter Tryz.func32,Tryz.ntmps32
 go_wp2_with (refine wpList_load_row rfl 138 (.tmp 10) rfl p rfl t cs (0,0) _ (by first|exact HG.out|(rw [Below.heap_alloc _ _ _ hp];exact HG.out)) Tryz.underlying138 rfl HS.out ?_)
 go_loopw [2,12] (fun c n wr=>∃ k:Nat,k≤6∧n=.int .i64 k∧c=.int .i64 (psum P 0 k)∧TriAt wr w.heap.size (psum P 2 k) (psum P 3 k) (psum P 4 k)∧Below w.heap.size w wr) (fun _ n _=>6 - (intOf n).toNat)
 case atStart=>exact ⟨0,by omega,rfl,rfl,(by show (w.heap.push _)[w.heap.size]?=_;simp [psum]),Ex.below (by repeat (first|exact Ex.refl _|refine Ex.alloc ?_ _|refine Ex.ext ?_ _ _|refine Ex.drew ?_|refine Ex.drewN ?_ _))⟩
 case round =>
  obtain ⟨k,hk,rfl,rfl,htri,hbl⟩:=hrel
  have hbz:=hbl.size
  have hbd:=psum_bd HI.out k hk
  have HT:=Lib.hid htri
  have HB:=Lib.hid hbl
  by_cases hlt:k<6
  ·have hix:=fun w=>HX.out w k hlt
   have hb2:=psum_bd HI.out (k+1) hlt
   simp only [psum] at hb2
   have t0:=fun w=>(triIndex (P k 2) (P k 3) (P k 4) w).1
   have t1:=fun w=>(triIndex (P k 2) (P k 3) (P k 4) w).2.1
   have t2:=fun w=>(triIndex (P k 2) (P k 3) (P k 4) w).2.2
   have HE0:Hid (psum P 0 (k+1)=psum P 0 k+P k 0):=Lib.hid rfl
   have HE2:Hid (psum P 2 (k+1)=psum P 2 k+P k 2):=Lib.hid rfl
   have HE3:Hid (psum P 3 (k+1)=psum P 3 k+P k 3):=Lib.hid rfl
   have HE4:Hid (psum P 4 (k+1)=psum P 4 k+P k 4):=Lib.hid rfl
   generalize psum P 0 k=x0 at *
   generalize psum P 2 k=x2 at *
   generalize psum P 3 k=x3 at *
   generalize psum P 4 k=x4 at *
   clear htri hbl HX
   go_wp2_with fail
   go_loopw [21] (fun j wr2=>∃ q:Nat,q≤3∧j=.int .i64 q∧TriAt wr2 w.heap.size (x2+sel q 0 (P k 2)) (x3+sel q 1 (P k 3)) (x4+sel q 2 (P k 4))∧Below w.heap.size w wr2) (fun j _=>3 - (intOf j).toNat)
   case atStart=>exact ⟨0,by omega,rfl,by simpa [sel] using HT.out.ex (by repeat (first|exact Ex.refl _|refine Ex.alloc ?_ _|refine Ex.ext ?_ _ _|refine Ex.drew ?_|refine Ex.drewN ?_ _)),(by (refine Below.trans HB.out ?_;repeat (first|exact Below.refl _ _|(refine Below.drew ?_)|(refine Below.drewN ?_ _)|(refine Below.ext ?_ (by first|omega|(simp [go_sem];done)|(simp [go_sem];omega)) _ _)|(refine Below.alloc ?_ (by first|omega|(simp [go_sem];done)|(simp [go_sem];omega)) _)|(refine Below.setCell ?_ (by first|omega|(simp [go_sem];done)|(simp [go_sem];omega)) _))))⟩
   case round =>
    obtain ⟨q,hq,rfl,ht2,htb⟩:=hrel
    have HB2:=Lib.hid htb
    have hbz2:=htb.size
    have h4:q=0∨q=1∨q=2∨q=3:=by omega
    rcases h4 with rfl|rfl|rfl|rfl
    ·replace ht2:TriAt wr w.heap.size (x2) (x3) (x4):=by simpa [sel] using ht2
     have HT2:=Lib.hid ht2
     have c0:=ht2.cell0
     have c1:=ht2.cell1
     have c2:=ht2.cell2
     have f0:=ht2.frozen 0
     have htl:=ht2.lt
     clear ht2 htb
     go_wp2_with fail
     go_roundw
     case measure=>simp [intOf]
     case rel=>exact ⟨1,by omega,rfl,by simpa [sel] using (HT2.out.set0 _).ex (by repeat (first|exact Ex.refl _|refine Ex.alloc ?_ _|refine Ex.ext ?_ _ _|refine Ex.drew ?_|refine Ex.drewN ?_ _)),(by (refine Below.trans HB2.out ?_;repeat (first|exact Below.refl _ _|(refine Below.drew ?_)|(refine Below.drewN ?_ _)|(refine Below.ext ?_ (by first|omega|(simp [go_sem];done)|(simp [go_sem];omega)) _ _)|(refine Below.alloc ?_ (by first|omega|(simp [go_sem];done)|(simp [go_sem];omega)) _)|(refine Below.setCell ?_ (by first|omega|(simp [go_sem];done)|(simp [go_sem];omega)) _))))⟩
    ·replace ht2:TriAt wr w.heap.size (x2+P k 2) (x3) (x4):=by simpa [sel] using ht2
     have HT2:=Lib.hid ht2
     have c0:=ht2.cell0
     have c1:=ht2.cell1
     have c2:=ht2.cell2
     have f0:=ht2.frozen 1
     have htl:=ht2.lt
     clear ht2 htb
     go_wp2_with fail
     go_roundw
     case measure=>simp [intOf]
     case rel=>exact ⟨2,by omega,rfl,by simpa [sel] using (HT2.out.set1 _).ex (by repeat (first|exact Ex.refl _|refine Ex.alloc ?_ _|refine Ex.ext ?_ _ _|refine Ex.drew ?_|refine Ex.drewN ?_ _)),(by (refine Below.trans HB2.out ?_;repeat (first|exact Below.refl _ _|(refine Below.drew ?_)|(refine Below.drewN ?_ _)|(refine Below.ext ?_ (by first|omega|(simp [go_sem];done)|(simp [go_sem];omega)) _ _)|(refine Below.alloc ?_ (by first|omega|(simp [go_sem];done)|(simp [go_sem];omega)) _)|(refine Below.setCell ?_ (by first|omega|(simp [go_sem];done)|(simp [go_sem];omega)) _))))⟩
    ·replace ht2:TriAt wr w.heap.size (x2+P k 2) (x3+P k 3) (x4):=by simpa [sel] using ht2
     have HT2:=Lib.hid ht2
     have c0:=ht2.cell0
     have c1:=ht2.cell1
     have c2:=ht2.cell2
     have f0:=ht2.frozen 2
     have htl:=ht2.lt
     clear ht2 htb
     go_wp2_with fail
     go_roundw
     case measure=>simp [intOf]
     case rel=>exact ⟨3,by omega,rfl,by simpa [sel] using (HT2.out.set2 _).ex (by repeat (first|exact Ex.refl _|refine Ex.alloc ?_ _|refine Ex.ext ?_ _ _|refine Ex.drew ?_|refine Ex.drewN ?_ _)),(by (refine Below.trans HB2.out ?_;repeat (first|exact Below.refl _ _|(refine Below.drew ?_)|(refine Below.drewN ?_ _)|(refine Below.ext ?_ (by first|omega|(simp [go_sem];done)|(simp [go_sem];omega)) _ _)|(refine Below.alloc ?_ (by first|omega|(simp [go_sem];done)|(simp [go_sem];omega)) _)|(refine Below.setCell ?_ (by first|omega|(simp [go_sem];done)|(simp [go_sem];omega)) _))))⟩
    ·replace ht2:TriAt wr w.heap.size (x2+P k 2) (x3+P k 3) (x4+P k 4):=by simpa [sel] using ht2
     have HT2:=Lib.hid ht2
     clear ht2 htb
     go_wp2_with fail
     go_roundw
     case measure=>simp [intOf];omega
     case rel=>exact ⟨k+1,by omega,by go_num,by rw [HE0.out],by rw [HE2.out,HE3.out,HE4.out];exact HT2.out.ex (by repeat (first|exact Ex.refl _|refine Ex.alloc ?_ _|refine Ex.ext ?_ _ _|refine Ex.drew ?_|refine Ex.drewN ?_ _)),(by (refine Below.trans HB2.out ?_;repeat (first|exact Below.refl _ _|(refine Below.drew ?_)|(refine Below.drewN ?_ _)|(refine Below.ext ?_ (by first|omega|(simp [go_sem];done)|(simp [go_sem];omega)) _ _)|(refine Below.alloc ?_ (by first|omega|(simp [go_sem];done)|(simp [go_sem];omega)) _)|(refine Below.setCell ?_ (by first|omega|(simp [go_sem];done)|(simp [go_sem];omega)) _))))⟩
  ·obtain rfl:k=6:=by omega
   have e0:=(h6 0).out
   have e2:=(h6 2).out
   have e3:=(h6 3).out
   have e4:=(h6 4).out
   rw [e2,e3,e4] at HT
   have ht6:=HT.out
   have c0:=ht6.cell0
   have c1:=ht6.cell1
   have c2:=ht6.cell2
   have f0:=ht6.frozen 0
   have f1:=ht6.frozen 1
   have f2:=ht6.frozen 2
   have htl:=ht6.lt
   clear ht6 htri hbl
   go_wp2_with fail
   go_region
   all_goals go_wp2_with fail
   all_goals (try simp only [Exit.inBlock,Exit.then])
   all_goals (refine bodyPost_ret (v:=.tuple #[.int .i64 (psum P 0 6),.agg #[.int .i64 (sumP P 2),.int .i64 (sumP P 3),.int .i64 (sumP P 4)]]) ?_ rfl ⟨by rw [e0],Ex.of (by (refine Below.trans HB.out ?_;repeat (first|exact Below.refl _ _|(refine Below.drew ?_)|(refine Below.drewN ?_ _)|(refine Below.ext ?_ (by first|omega|(simp [go_sem];done)|(simp [go_sem];omega)) _ _)|(refine Below.alloc ?_ (by first|omega|(simp [go_sem];done)|(simp [go_sem];omega)) _)|(refine Below.setCell ?_ (by first|omega|(simp [go_sem];done)|(simp [go_sem];omega)) _))))⟩)
   have h7:TriAt (((wr.setCell ⟨w.heap.size,0,none⟩ (.int .i64 (sumP P 2))).setCell ⟨w.heap.size,1,none⟩ (.int .i64 (sumP P 3))).setCell ⟨w.heap.size,2,none⟩ (.int .i64 (sumP P 4))).drew w.heap.size (sumP P 2) (sumP P 3) (sumP P 4):=((HT.out.set0 (sumP P 2)).set1 (sumP P 3)).set2 (sumP P 4)
   generalize (((wr.setCell ⟨w.heap.size,0,none⟩ (.int .i64 (sumP P 2))).setCell ⟨w.heap.size,1,none⟩ (.int .i64 (sumP P 3))).setCell ⟨w.heap.size,2,none⟩ (.int .i64 (sumP P 4))).drew=W7 at *
   have d0:=h7.cell0
   have d1:=h7.cell1
   have d2:=h7.cell2
   simp only [results,Tryz.results32]
   simp [go_sem,↓IntWalk.iteOmega,d0,d1,d2]
end
end Go.Proofs.YtabbgpjofkaomaaGreatDoor
/- What the statement VenueKeeps needs: a venue as it is made is in order;ticks in a row;what can be read of a venue. -/
namespace Go.Proofs.YtabbgpjofkaomaaGreatDoor
open Go.RowKit
section
variable {E:Nat→Addr} {w0 w W W':World} {L M M1 M2:List Th} {F:Nat→Prop} {vb dp:Nat} {fa:FlA} {v:VSt} {k:Nat}
theorem vTh.floor (h:(vTh vb fa dp v).P F w):∃ own,FlAt own 0 w fa v.f:=by
 obtain ⟨_,_,_,_,_,_,⟨_,h⟩,_⟩:=vTh.parts h
 obtain ⟨_,own,h,_⟩:=h
 exact ⟨own,h⟩
theorem vbook_lots (h:(vTh vb fa dp v).P F w) (hk:k<3):Calls Tryz.prog 24 #[.pointer (some ⟨fa.bp k,0,none⟩)] w fun e w'=>(∃ ao cap,e=.returned (.slice ao (v.f.b k).length cap)∧LotsAt w' ao (v.f.b k).length (v.f.b k))∧Ex w w':=by
 obtain ⟨own,hf⟩:=vTh.floor h
 have hb:=hf.book k hk
 refine (lots_any hb).mono fun e w' ⟨⟨u,e1,hrow⟩,hx⟩=>?_
 obtain ⟨ao,cap,rfl,_,h3⟩:=lots_of_owned hb.2.1 (by have:=hb.1;omega) rfl hrow
 exact ⟨⟨ao,cap,e1,h3⟩,hx⟩
end
end Go.Proofs.YtabbgpjofkaomaaGreatDoor
/- VenueKeeps: what the statement's code answers. -/
namespace Go.Proofs.YtabbgpjofkaomaaGreatDoor
open Go.RowKit
section
variable {E:Nat→Addr} {w0 w:World} {vb dp:Nat} {fa:FlA} {v:VSt}
structure VRead (vb dp:Nat) (fa:FlA) (v:VSt) (wk:World):Prop where
 down:∀ W,Ex wk W→Calls Tryz.prog 30 #[.pointer (some ⟨vb,0,none⟩)] W fun e w'=>e=.returned (.bool v.down)∧Ex W w'
 floor:∀ W,Ex wk W→Calls Tryz.prog 21 #[.pointer (some ⟨vb,0,none⟩)] W fun e w'=>e=.returned (.pointer (some ⟨fa.f,0,none⟩))∧Ex W w'
 purse:∀ W,Ex wk W→Calls Tryz.prog 31 #[.pointer (some ⟨fa.f,0,none⟩)] W fun e w'=>e=.returned (.pointer (some ⟨fa.pp,0,none⟩))∧Ex W w'
 total:∀ W,Ex wk W→Calls Tryz.prog 32 #[.pointer (some ⟨fa.pp,0,none⟩)] W fun e w'=>e=.returned (.tuple #[.int .i64 (sumP v.f.p 0),.agg #[.int .i64 (sumP v.f.p 2),.int .i64 (sumP v.f.p 3),.int .i64 (sumP v.f.p 4)]])∧Ex W w'
 book:∀ W,Ex wk W→∀ k:Nat,k<3→Calls Tryz.prog 22 #[.pointer (some ⟨fa.f,0,none⟩),.int .i64 (k:Int)] W fun e w'=>e=.returned (.pointer (some ⟨fa.bp k,0,none⟩))∧Ex W w'
 lots:∀ W,Ex wk W→∀ k:Nat,k<3→Calls Tryz.prog 24 #[.pointer (some ⟨fa.bp k,0,none⟩)] W fun e w'=>(∃ ao cap,e=.returned (.slice ao (v.f.b k).length cap)∧LotsAt w' ao (v.f.b k).length (v.f.b k))∧Ex W w'
 of:∀ W,Ex wk W→∀ c:Nat,c<6→Calls Tryz.prog 33 #[.pointer (some ⟨fa.pp,0,none⟩),.int .i64 (c:Int)] W fun e w'=>e=.returned (hasV v.f.p c)∧Ex W w'
 sess:∀ W,Ex wk W→∀ c:Nat,c<6→Calls Tryz.prog 17 #[.pointer (some ⟨vb,0,none⟩),.int .i64 (c:Int)] W fun e w'=>e=.returned ((v.cl c).s.val)∧Ex W w'
 wait:∀ W,Ex wk W→∀ c:Nat,c<6→Calls Tryz.prog 26 #[.pointer (some ⟨vb,0,none⟩),.int .i64 (c:Int)] W fun e w'=>e=.returned (.int .i64 ((v.q c).length:Nat))∧Ex W w'
theorem LX.reads (M1:List Th) {M2:List Th} {wk:World} (X:LX E w0 (M1++(vTh vb fa dp v::M2)) wk):VRead vb dp fa v wk:=by
 have key:∀ W,Ex wk W→∃ G,(vTh vb fa dp v).P G W:=fun W hx=>(X.later hx).look M1
 refine ⟨fun W hx=>?_,fun W hx=>?_,fun W hx=>?_,fun W hx=>?_,fun W hx k hk=>?_,fun W hx k hk=>?_,fun W hx c hc=>?_,fun W hx c hc=>?_,fun W hx c hc=>?_⟩<;>obtain ⟨G,h⟩:=key W hx
 ·exact vdown_any h
 ·exact vfloor_any h
 ·obtain ⟨own,hf⟩:=vTh.floor h
  exact fpurse_any hf
 ·obtain ⟨own,hf⟩:=vTh.floor h
  exact ptotal_any hf.purse
 ·obtain ⟨own,hf⟩:=vTh.floor h
  exact fbook_in hf k hk
 ·exact vbook_lots h hk
 ·obtain ⟨own,hf⟩:=vTh.floor h
  exact of_in hf.purse c hc
 ·exact vsession_in h c hc
 ·exact vwait_in h c hc
theorem VRead.ex {wk wk':World} (h:VRead vb dp fa v wk) (hx:Ex wk wk'):VRead vb dp fa v wk' :=
 ⟨fun W h2=>h.down W (hx.trans h2),fun W h2=>h.floor W (hx.trans h2),fun W h2=>h.purse W (hx.trans h2),fun W h2=>h.total W (hx.trans h2),fun W h2=>h.book W (hx.trans h2),fun W h2=>h.lots W (hx.trans h2),fun W h2=>h.of W (hx.trans h2),fun W h2=>h.sess W (hx.trans h2),fun W h2=>h.wait W (hx.trans h2)⟩
end
end Go.Proofs.YtabbgpjofkaomaaGreatDoor
/- Plain facts: bytes that are fed in parts make what they make at once. -/
namespace Go.Proofs.YtabbgpjofkaomaaGreatDoor
open Go.RowKit
def setL (n:Nat) (x:List UInt8) (v:VSt):VSt:=v.setCl n ⟨(v.cl n).s,x,(v.cl n).drop⟩
section
variable {n:Nat} {x y:List UInt8} {v:VSt} {g:Got}
theorem setL_self (n:Nat) (x:List UInt8) (v:VSt):(setL n x v).cl n=⟨(v.cl n).s,x,(v.cl n).drop⟩:=setCl_self _ _ _
theorem setL_setL (n:Nat) (x y:List UInt8) (v:VSt):setL n x (setL n y v)=setL n x v:=by
 unfold setL
 rw [setCl_self,setCl_twice]
theorem setL_setCl (n:Nat) (x:List UInt8) (a:Cli) (v:VSt):setL n x (v.setCl n a)=v.setCl n ⟨a.s,x,a.drop⟩:=by
 unfold setL
 rw [setCl_self,setCl_twice]
theorem gotR_setL (n:Nat) (g:Got) (x:List UInt8) (v:VSt):gotR n g (setL n x v)=((gotR n g v).1,setL n x (gotR n g v).2):=by
 unfold gotR
 rw [setL_self,show (setL n x v).now=v.now from rfl,show (setL n x v).q=v.q from rfl]
 simp only
 by_cases h1:g.code≠0
 ·simp only [if_pos h1]
 by_cases h2:g.ask.client≠(n:Int)
 ·simp only [if_neg h1,if_pos h2]
 by_cases h3:((v.cl n).s.take g.ask v.now).2≠0
 ·simp only [if_neg h1,if_neg h2,if_pos h3]
 have e:∀ a:Cli,(setL n x v).setCl n a=v.setCl n a:=fun a=>setCl_twice n _ a v
 by_cases h4:g.ask.kind=113
 ·simp only [if_neg h1,if_neg h2,if_neg h3,if_pos h4,e]
  show ([],(v.setCl n ⟨_,x,true⟩).clear n)=([],(setL n x (v.setCl n ⟨_,_,true⟩)).clear n)
  rw [setL_setCl]
 by_cases h5:g.ask.kind=108∨g.ask.kind=104
 ·simp only [if_neg h1,if_neg h2,if_neg h3,if_neg h4,if_pos h5,e,setL_setCl]
 ·simp only [if_neg h1,if_neg h2,if_neg h3,if_neg h4,if_neg h5,e]
  have k:setL n x { v.setCl n ⟨((v.cl n).s.take g.ask v.now).1,(v.cl n).left,(v.cl n).drop⟩ with q:=putTo v.q g.ask }={ setL n x (v.setCl n ⟨((v.cl n).s.take g.ask v.now).1,(v.cl n).left,(v.cl n).drop⟩) with q:=putTo v.q g.ask }:=rfl
  rw [k,setL_setCl]
theorem gotR_keep (n:Nat) (g:Got) (v:VSt):(gotR n g v).2.down=v.down∧((gotR n g v).2.cl n).left=(v.cl n).left∧(gotR n g v).2.f=v.f∧(gotR n g v).2.d=v.d∧(gotR n g v).2.bat=v.bat∧(∀ c,c≠n→(gotR n g v).2.cl c=v.cl c)∧∀ r∈(gotR n g v).1,r.client=(n:Int):=by
 have key:∀ a:Cli,∀ c,c≠n→(v.setCl n a).cl c=v.cl c:=fun a c hc=>if_neg hc
 have key2:∀ a:Cli,a.left=(v.cl n).left→((v.setCl n a).cl n).left=(v.cl n).left:=fun a ha=>by rw [setCl_self];exact ha
 have one:∀ r0:Rep,r0.client=(n:Int)→∀ r∈[r0],r.client=(n:Int):=fun r0 h r hr=>by
  rw [List.mem_singleton.1 hr];exact h
 unfold gotR
 split
 ·exact ⟨rfl,rfl,rfl,rfl,rfl,fun _ _=>rfl,one _ rfl⟩
 split
 ·exact ⟨rfl,rfl,rfl,rfl,rfl,fun _ _=>rfl,one _ rfl⟩
 split
 ·exact ⟨rfl,rfl,rfl,rfl,rfl,fun _ _=>rfl,one _ rfl⟩
 split
 ·exact ⟨rfl,key2 _ rfl,rfl,rfl,rfl,key _,fun r hr=>by cases hr⟩
 split
 ·exact ⟨rfl,key2 _ rfl,rfl,rfl,rfl,key _,fun r hr=>by cases hr⟩
 ·exact ⟨rfl,key2 _ rfl,rfl,rfl,rfl,key _,one _ rfl⟩
theorem gots_setL (n:Nat) (x:List UInt8):∀ (l:List Got) (a:List Rep) (v:VSt),l.foldl (gotStep n) (a,setL n x v)=((l.foldl (gotStep n) (a,v)).1,setL n x (l.foldl (gotStep n) (a,v)).2)
 | [],_,_=>rfl
 | g::l,a,v=>by
  rw [List.foldl_cons,List.foldl_cons]
  have e:gotStep n (a,setL n x v) g=((gotStep n (a,v) g).1,setL n x (gotStep n (a,v) g).2):=by
   unfold gotStep
   simp only [gotR_setL]
  rw [e]
  exact gots_setL n x l _ _
theorem gots_pre (n:Nat) (b:List Rep):∀ (l:List Got) (a:List Rep) (v:VSt),l.foldl (gotStep n) (b++a,v)=(b++(l.foldl (gotStep n) (a,v)).1,(l.foldl (gotStep n) (a,v)).2)
 | [],_,_=>rfl
 | g::l,a,v=>by
  rw [List.foldl_cons,List.foldl_cons]
  have e:gotStep n (b++a,v) g=(b++(gotStep n (a,v) g).1,(gotStep n (a,v) g).2):=by
   unfold gotStep
   simp only [List.append_assoc]
  rw [e]
  exact gots_pre n b l _ _
theorem gots_keep (n:Nat):∀ (l:List Got) (p:List Rep × VSt),(∀ r∈p.1,r.client=(n:Int))→(l.foldl (gotStep n) p).2.down=p.2.down∧((l.foldl (gotStep n) p).2.cl n).left=(p.2.cl n).left∧(l.foldl (gotStep n) p).2.f=p.2.f∧(l.foldl (gotStep n) p).2.d=p.2.d∧(l.foldl (gotStep n) p).2.bat=p.2.bat∧(∀ c,c≠n→(l.foldl (gotStep n) p).2.cl c=p.2.cl c)∧∀ r∈(l.foldl (gotStep n) p).1,r.client=(n:Int)
 | [],_,h=>⟨rfl,rfl,rfl,rfl,rfl,fun _ _=>rfl,h⟩
 | g::l,p,h=>by
  obtain ⟨a1,a2,a3,a4,a5,a6,a7⟩:=gotR_keep n g p.2
  obtain ⟨b1,b2,b3,b4,b5,b6,b7⟩:=gots_keep n l (gotStep n p g) (fun r hr=>(List.mem_append.1 (show r∈p.1++(gotR n g p.2).1 from hr)).elim (h r) (a7 r))
  exact ⟨b1.trans a1,b2.trans a2,b3.trans a3,b4.trans a4,b5.trans a5,fun c hc=>(b6 c hc).trans (a6 c hc),b7⟩
theorem feedR_is (n:Nat) (s:List UInt8) {v:VSt} (hd:v.down=false):feedR n s v=(((gotsL ((v.cl n).left++s)).foldl (gotStep n) ([],v)).1,setL n (leftL ((v.cl n).left++s)) ((gotsL ((v.cl n).left++s)).foldl (gotStep n) ([],v)).2):=by
 unfold feedR
 rw [if_neg (by rw [hd];decide)]
 exact gots_setL n _ _ _ _
theorem feedR_append (n:Nat) (s t:List UInt8) (v:VSt):feedR n (s++t) v=((feedR n s v).1++(feedR n t (feedR n s v).2).1,(feedR n t (feedR n s v).2).2):=by
 cases hd:v.down with
 | true =>
  have e:∀ s,feedR n s v=([],v):=fun s=>by unfold feedR;rw [if_pos hd]
  rw [e,e]
  simp only
  rw [e]
  rfl
 | false =>
  obtain ⟨b1,b2,_⟩:=gots_keep n (gotsL ((v.cl n).left++s)) ([],v) (fun r hr=>by cases hr)
  rw [feedR_is n (s++t) hd,feedR_is n s hd,← List.append_assoc,gotsL_append ((v.cl n).left++s) t,leftL_left ((v.cl n).left++s) t,List.foldl_append]
  simp only
  generalize hp:(gotsL ((v.cl n).left++s)).foldl (gotStep n) ([],v)=p at *
  generalize hy:leftL ((v.cl n).left++s)=y at *
  have hd1:(setL n y p.2).down=false:=b1.trans hd
  rw [feedR_is n t hd1,setL_self,gots_setL]
  simp only
  rw [setL_setL]
  have e:=gots_pre n p.1 (gotsL (y++t)) [] p.2
  rw [List.append_nil] at e
  rw [show p=(p.1,p.2) from rfl,e]
theorem setL_same (n:Nat) (v:VSt):setL n (v.cl n).left v=v:=by
 have e:(fun j=>if j=n then (⟨(v.cl n).s,(v.cl n).left,(v.cl n).drop⟩:Cli) else v.cl j)=v.cl:=by
  funext j
  by_cases h:j=n
  ·subst h
   exact if_pos rfl
  ·exact if_neg h
 unfold setL VSt.setCl
 rw [e]
theorem feedR_nil {n:Nat} {v:VSt} (h:(v.cl n).left.length<30):feedR n [] v=([],v):=by
 cases hd:v.down with
 | true=>unfold feedR;rw [if_pos hd]
 | false =>
  rw [feedR_is n [] hd,List.append_nil,(gotsL_short h).1,(gotsL_short h).2]
  show ([],setL n (v.cl n).left v)=([],v)
  rw [setL_same]
theorem feedR_part (n:Nat) (S:List UInt8) (A m:Nat) (v:VSt):feedR n (S.take (A+m)) v=((feedR n (S.take A) v).1++(feedR n ((S.drop A).take m) (feedR n (S.take A) v).2).1,(feedR n ((S.drop A).take m) (feedR n (S.take A) v).2).2):=by
 rw [List.take_add,feedR_append]
theorem feedR_rest (n:Nat) (S:List UInt8) (A:Nat) (v:VSt):feedR n S v=((feedR n (S.take A) v).1++(feedR n (S.drop A) (feedR n (S.take A) v).2).1,(feedR n (S.drop A) (feedR n (S.take A) v).2).2):=by
 rw [← feedR_append,List.take_append_drop]
theorem feedR_keep (n:Nat) (s:List UInt8) (v:VSt):(feedR n s v).2.down=v.down∧(feedR n s v).2.f=v.f∧(feedR n s v).2.d=v.d∧(feedR n s v).2.bat=v.bat∧(∀ c,c≠n→(feedR n s v).2.cl c=v.cl c)∧∀ r∈(feedR n s v).1,r.client=(n:Int):=by
 cases hd:v.down with
 | true =>
  have e:feedR n s v=([],v):=by unfold feedR;rw [if_pos hd]
  rw [e]
  exact ⟨hd,rfl,rfl,rfl,fun _ _=>rfl,fun r hr=>by cases hr⟩
 | false =>
  rw [feedR_is n s hd]
  obtain ⟨b1,_,b3,b4,b5,b6,b7⟩:=gots_keep n (gotsL ((v.cl n).left++s)) ([],v) (fun r hr=>by cases hr)
  exact ⟨b1.trans hd,b3,b4,b5,fun c hc=>(if_neg hc).trans (b6 c hc),b7⟩
theorem gotR_len (n:Nat) (g:Got) (v:VSt):(gotR n g v).1.length≤1:=by
 unfold gotR
 (repeat' split)<;>simp
theorem gotsS_len (n:Nat):∀ (l:List Got) (p:List Rep × VSt),(l.foldl (gotStep n) p).1.length≤p.1.length+l.length
 | [],_=>Nat.le_refl _
 | g::l,p=>by
  have h:=gotsS_len n l (gotStep n p g)
  have h2:=gotR_len n g p.2
  have e:(gotStep n p g).1.length=p.1.length+(gotR n g p.2).1.length:=List.length_append ..
  rw [List.foldl_cons,List.length_cons]
  omega
theorem feedR_len (n:Nat) (s:List UInt8) (v:VSt):(feedR n s v).1.length≤(v.cl n).left.length+s.length:=by
 unfold feedR
 split
 ·exact Nat.zero_le _
 ·have h:=gotsS_len n (gotsL ((v.cl n).left++s)) ([],v.setCl n ⟨(v.cl n).s,leftL ((v.cl n).left++s),(v.cl n).drop⟩)
  rw [gotsL_len,List.length_append] at h
  simp only [List.length_nil] at h
  omega
end
end Go.Proofs.YtabbgpjofkaomaaGreatDoor
