import Derived.Test.YtabbgpjofkaomaaGreatDoorJ25
import Derived.Test.YtabbgpjofkaomaaGreatDoorJ24
import Derived.Deep.RegionWith
import Derived.Test.YtabbgpjofkaomaaGreatDoorJ0
import Derived.BigQuiet
import Derived.Deep.QuietTactic
import Derived.Deep.AppendLies
import Derived.Laws.AppendOwn
import Derived.Deep.RegionLaw
import Derived.Test.YtabbgpjofkaomaaGreatDoorJ28
import Derived.Test.YtabbgpjofkaomaaGreatDoorDrain
import Derived.Test.YtabbgpjofkaomaaGreatDoorChecked
import Derived.LaidEql
import Derived.Stop.Asserts
import Derived.RowKitTokens
set_option linter.unusedSimpArgs false
set_option linter.unusedVariables false
/- Records of a tape as lists of bytes: a record is read back, a part of one is none, what is read is read in one way. No program, no condition. -/
namespace Go.Proofs.YtabbgpjofkaomaaGreatDoor
def be4 (n:Nat):List UInt8:=[UInt8.ofNat (n / 16777216),UInt8.ofNat (n / 65536 % 256),UInt8.ofNat (n / 256 % 256),UInt8.ofNat (n % 256)]
def le4 (n:Nat):List UInt8:=[UInt8.ofNat (n % 256),UInt8.ofNat (n / 256 % 256),UInt8.ofNat (n / 65536 % 256),UInt8.ofNat (n / 16777216)]
theorem be4_len (n:Nat):(be4 n).length=4:=rfl
theorem le4_len (n:Nat):(le4 n).length=4:=rfl
def recL (s:List UInt8):List UInt8:=be4 s.length++be4 (4294967295 - s.length)++s++le4 (crc s)
theorem recL_len (s:List UInt8):(recL s).length=s.length+12:=by simp [recL,be4_len,le4_len];omega
structure Dk where
 b:List UInt8
 off:Bool
 cut:Int
def Dk.appE (d:Dk) (s:List UInt8):Nat :=
 if 10000<s.length then 2
 else if 1048576<d.b.length+(s.length+12) then 8
 else if d.off then 9
 else if 0≤d.cut∧d.cut<(s.length:Int)+12 then 9 else 0
def Dk.app (d:Dk) (s:List UInt8):Dk :=
 if 10000<s.length then d
 else if 1048576<d.b.length+(s.length+12) then d
 else if d.off then d
 else if 0≤d.cut∧d.cut<(s.length:Int)+12 then ⟨d.b++(recL s).take d.cut.toNat,true,d.cut⟩
 else ⟨d.b++recL s,false,if 0≤d.cut then d.cut - ((s.length:Int)+12) else d.cut⟩
def Dk.cutE (d:Dk) (n:Int):Nat:=if n<0 then 2 else if d.off then 9 else 0
def Dk.cutD (d:Dk) (n:Int):Dk:=if n<0 then d else if d.off then d else ⟨d.b,d.off,n⟩
end Go.Proofs.YtabbgpjofkaomaaGreatDoor

/- What high, record and one of package tape compute. -/
namespace Go.Proofs.YtabbgpjofkaomaaGreatDoor
open Go.RowKit
theorem be4_nums (n:Nat):strOfNums (highB (n:Int))=⟨(be4 n).toArray⟩:=by
 have e1:((n:Int) / 16777216).toNat=n / 16777216:=by omega
 have e2:((n:Int) / 65536 % 256).toNat=n / 65536 % 256:=by omega
 have e3:((n:Int) / 256 % 256).toNat=n / 256 % 256:=by omega
 have e4:((n:Int) % 256).toNat=n % 256:=by omega
 simp only [strOfNums,highB,be4,List.map_cons,List.map_nil,e1,e2,e3,e4]
theorem le4_nums (n:Nat):strOfNums (lowB n)=⟨(le4 n).toArray⟩:=by
 have e1:((n:Int) / 16777216).toNat=n / 16777216:=by omega
 have e2:((n:Int) / 65536 % 256).toNat=n / 65536 % 256:=by omega
 have e3:((n:Int) / 256 % 256).toNat=n / 256 % 256:=by omega
 have e4:((n:Int) % 256).toNat=n % 256:=by omega
 simp only [strOfNums,lowB,le4,List.map_cons,List.map_nil,e1,e2,e3,e4]
set_option maxRecDepth 100000 in
theorem thigh_any (n:Nat) (w:World) (h1:n<4294967296) :
  Calls Tryz.prog 111 #[.int .u32 (n:Int)] w fun e w'=>e=.returned (.string ⟨(be4 n).toArray⟩)∧Ex w w':=by
 have hconv:=run_convert_bytes_arg (P:=Tryz.prog) (w.alloc (.cells #[.int .u8 ((n:Int) / 16777216),.int .u8 ((n:Int) / 65536 % 256),.int .u8 ((n:Int) / 256 % 256),.int .u8 ((n:Int) % 256)] 5))
  135 5 Tryz.underlying135 Tryz.underlying5 w.heap.size 0 4 4 (highB n) rfl
  (fun i hi=>by
   match i,hi with
   | 0,_=>simp [highB]
   | 1,_=>simp [highB]
   | 2,_=>simp [highB]
   | 3,_=>simp [highB]) 9 Tryz.underlying9
 rw [be4_nums] at hconv
 go_enter Tryz.func111,Tryz.ntmps111
 go_wp2
 go_ret
 exact ⟨rfl,(by repeat (first|exact Ex.refl _|refine Ex.alloc ?_ _|refine Ex.ext ?_ _ _|refine Ex.drew ?_|refine Ex.drewN ?_ _))⟩
theorem not_u32 (n:Nat) (h:n<4294967296):bits .xor .u32 IntKind.u32.max (n:Int)=((4294967295 - n:Nat):Int):=by
 have e:4294967295 ^^^ n=4294967295 - n:=by
  have h1:(BitVec.allOnes 32 ^^^ BitVec.ofNat 32 n).toNat=(~~~ (BitVec.ofNat 32 n)).toNat:=by rw [BitVec.allOnes_xor]
  rw [BitVec.toNat_xor,BitVec.toNat_not,BitVec.toNat_ofNat,Nat.mod_eq_of_lt h] at h1
  exact h1
 rw [← e]
 exact bits_xor_u32 4294967295 n (by decide) h
set_option maxRecDepth 100000 in
theorem record_any (s:List UInt8) (w:World) (hs:s.length≤10000) :
  Calls Tryz.prog 81 #[.string ⟨s.toArray⟩] w fun e w'=>e=.returned (.string ⟨(recL s).toArray⟩)∧Ex w w':=by
 have hz:=bytes_size s
 have HH:=Lib.hid (fun n w h=>thigh_any n w h)
 have HS:=Lib.hid (fun w=>sum_any ⟨s.toArray⟩ w (by rw [bytes_size];unfold maxLen;omega))
 have HL:=Lib.hid (fun w=>wireLow_any (crc s) w (crc_lt _))
 rw [le4_nums] at HL
 have q1:(be4 s.length).length=4:=rfl
 have q2:(be4 (4294967295 - s.length)).length=4:=rfl
 have q3:(le4 (crc s)).length=4:=rfl
 have HN:=Lib.hid (not_u32 s.length (by omega))
 have hw:IntKind.u32.wrap (s.length:Int)=(s.length:Int):=IntWalk.u32_in _ (by omega)
 go_enter Tryz.func81,Tryz.ntmps81
 go_wp2_with (first
  | (go_at_call 111;(with_reducible refine (HH.out s.length _ (by omega)).mono ?_);rintro e w1 ⟨rfl,l1,d1,rfl⟩)
  | (go_at_call 111;rw [HN.out];refine (HH.out (4294967295 - s.length) _ (by omega)).mono ?_;rintro e w1 ⟨rfl,l3,d3,rfl⟩)
  | (go_at_call 107;refine (HS.out _).mono ?_;rintro e w1 ⟨rfl,rfl⟩)
  | (go_at_call 106;refine (HL.out _).mono ?_;rintro e w1 ⟨rfl,l2,d2,rfl⟩))
 all_goals go_ret
 all_goals exact ⟨by rw [bytes_add,bytes_add,bytes_add];rfl,(by repeat (first|exact Ex.refl _|refine Ex.alloc ?_ _|refine Ex.ext ?_ _ _|refine Ex.drew ?_|refine Ex.drewN ?_ _))⟩
end Go.Proofs.YtabbgpjofkaomaaGreatDoor

/- A disk: its bytes, is power off, when it fails. What NewDisk, Cut, On, Power and Bytes of package tape compute. -/
namespace Go.Proofs.YtabbgpjofkaomaaGreatDoor
open Go.RowKit
def dkF (d:Dk):Nat→Value:=fun j=>if j=1 then .bool d.off else .int .i64 d.cut
def byteC (l:List UInt8):List Value:=l.map fun b=>Value.int .u8 b.toNat
theorem byteC_append (l m:List UInt8):byteC (l++m)=byteC l++byteC m:=by simp [byteC]
def DiskAt (own:Nat→Nat) (i:Nat) (w:World) (p:Nat) (d:Dk):Prop:=d.b.length≤1048576∧(-1≤d.cut∧d.cut≤9223372036854775807)∧∃ v,OneAt own i w p 3 (dkF d) 5 1 v d.b.length (byteC d.b)
section
variable {own own':Nat→Nat} {i m g:Nat} {w w':World} {p:Nat} {d:Dk}
theorem DiskAt.lt (h:DiskAt own i w p d):p<w.heap.size:=by obtain ⟨_,_,v,h⟩:=h;exact h.lt
theorem DiskAt.free (h:DiskAt own i w p d) (j:Nat):w.frozen? ⟨p,j,none⟩=false:=by obtain ⟨_,_,v,h⟩:=h;exact h.free j
theorem DiskAt.off (h:DiskAt own i w p d):w.cell? ⟨p,1,none⟩=some (.bool d.off):=by obtain ⟨_,_,v,h⟩:=h;exact h.cell (j:=1) (by decide) (by decide)
theorem DiskAt.cut (h:DiskAt own i w p d):w.cell? ⟨p,2,none⟩=some (.int .i64 d.cut):=by obtain ⟨_,_,v,h⟩:=h;exact h.cell (j:=2) (by decide) (by decide)
theorem DiskAt.kp (h:DiskAt own i w p d) (hk:Kp own m g w w') (hi:i / m≠g) (ho:∀ n,n<w.heap.size→own n=i→own' n=i):DiskAt own' i w' p d:=by
 obtain ⟨h1,h2,v,h3⟩:=h
 exact ⟨h1,h2,v,h3.kp hk hi ho⟩
theorem DiskAt.relabel (h:DiskAt own i w p d) (ho:∀ n,n<w.heap.size→own n=i→own' n=i):DiskAt own' i w p d:=h.kp (m:=1) (g:=i+1) (Kp.refl _ _ _ _) (by simp) ho
theorem DiskAt.later (h:DiskAt own i w p d) (hx:Ex w w'):DiskAt own i w' p d:=by
 obtain ⟨h1,h2,v,h3⟩:=h
 exact ⟨h1,h2,v,h3.later hx⟩
theorem DiskAt.keep (h:DiskAt own i w p d) (hx:Ex w w'):ObjTo own i i w (fun o w'=>DiskAt o i w' p d) w':=ObjTo.of_ex hx ((h.relabel (fun n hn e=>by rw [lab_lt hn];exact e)).later hx)
theorem DiskAt.slice (h:DiskAt own i w p d):∃ ao cap,w.cell? ⟨p,0,none⟩=some (.slice ao d.b.length cap)∧d.b.length≤cap∧cap≤maxLen∧(ao=none→cap=0)∧RowAt w 5 1 (.slice ao d.b.length cap) d.b.length (byteC d.b):=by
 obtain ⟨h1,_,v,h3⟩:=h
 obtain ⟨ao,cap,rfl,hc,hm,h0,_⟩:=h3.2.1.form
 exact ⟨ao,cap,h3.cell0 (by decide),hc,hm,h0,h3.2.1.1⟩
theorem conv_bytes {ao:Option Addr} {n cap:Nat} {l:List UInt8} (hl:l.length=n) (h:RowAt w 5 1 (.slice ao n cap) n (byteC l)) (w':World) (hx:∀ g,(Value.slice ao n cap).ownBlock=some g→w'.heap[g]?=w.heap[g]?) :
  (convert 135 9 (.slice ao n cap)).run Tryz.prog w'=.ok (.string ⟨l.toArray⟩) w':=by
 subst hl
 have h':=h.of_block hx
 cases ao with
 | none =>
  have hl0:l.length=0:=by
   obtain ⟨_,⟨_,h2⟩|⟨g,off,cap',cur,h2,_⟩⟩:=h
   ·exact h2
   ·cases h2
  obtain rfl:l=[]:=List.eq_nil_of_length_eq_zero hl0
  exact run_convert_bytes_nil w' 135 5 Tryz.underlying135 Tryz.underlying5 0 cap 9 Tryz.underlying9
 | some a =>
  obtain ⟨_,⟨h2,_⟩|⟨g,off,cap',cur,h2,_⟩⟩:=h
  ·cases h2
  ·cases h2
   refine run_convert_bytes_back w' 135 9 5 ⟨g,off,none⟩ cap l Tryz.underlying135 Tryz.underlying5 Tryz.underlying9 (fun j hj=>?_)
   rw [addr_add]
   have:=h'.cell (j:=j) (by omega)
   rw [this]
   simp [byteC,hj]
end
section
variable {own:Nat→Nat} {i:Nat} {w:World} {p:Nat} {d:Dk}
theorem DiskAt.turn (h:DiskAt own i w p d) (off:Bool) (cut:Int) (hcut:-1≤cut∧cut≤9223372036854775807):ObjTo own i i w (fun o w'=>DiskAt o i w' p ⟨d.b,off,cut⟩) ((w.setCell ⟨p,1,none⟩ (.bool off)).setCell ⟨p,2,none⟩ (.int .i64 cut)):=by
 obtain ⟨h1,h2,v,h3⟩:=h
 obtain ⟨o,g1,g2,g3,g4⟩:=h3.pick
 have hK:Kp o 2 1 w ((w.setCell ⟨p,1,none⟩ (.bool off)).setCell ⟨p,2,none⟩ (.int .i64 cut)):=((Kp.refl _ _ _ _).setCell (fun _=>by rw [g2]) _).setCell (fun _=>by rw [g2]) _
 obtain ⟨t,hrow⟩:=h3.main
 have hm:=((hrow.set 1 (.bool off)).set 2 (.int .i64 cut)).congr (g:=fun j=>if j=0 then v else dkF ⟨d.b,off,cut⟩ j) (fun j hj=>by
  have:j=0∨j=1∨j=2:=by omega
  rcases this with rfl|rfl|rfl<;>simp [dkF])
 have hr:=h3.2.1.1.of_block (w':=((w.setCell ⟨p,1,none⟩ (.bool off)).setCell ⟨p,2,none⟩ (.int .i64 cut))) (fun g hg=>by
  have e:g≠p:=fun e=>h3.2.2.2 (e▸hg)
  rw [Below.heap_setCell _ _ _ _ e,Below.heap_setCell _ _ _ _ e])
 obtain ⟨k1,k2⟩:=h3.turned (f':=dkF ⟨d.b,off,cut⟩) (v':=v) g2 g4 hK ⟨t,hm⟩ hr (fun g hg=>.inl (g1.2 g hg))
 exact ObjTo.of k1 ⟨h1,hcut,v,k2⟩
theorem DiskAt.turn2 (h:DiskAt own i w p d) (cut:Int) (hcut:-1≤cut∧cut≤9223372036854775807):ObjTo own i i w (fun o w'=>DiskAt o i w' p ⟨d.b,d.off,cut⟩) (w.setCell ⟨p,2,none⟩ (.int .i64 cut)):=by
 obtain ⟨h1,h2,v,h3⟩:=h
 obtain ⟨o,g1,g2,g3,g4⟩:=h3.pick
 have hK:Kp o 2 1 w (w.setCell ⟨p,2,none⟩ (.int .i64 cut)):=(Kp.refl _ _ _ _).setCell (fun _=>by rw [g2]) _
 obtain ⟨t,hrow⟩:=h3.main
 have hm:=(hrow.set 2 (.int .i64 cut)).congr (g:=fun j=>if j=0 then v else dkF ⟨d.b,d.off,cut⟩ j) (fun j hj=>by
  have:j=0∨j=1∨j=2:=by omega
  rcases this with rfl|rfl|rfl<;>simp [dkF])
 have hr:=h3.2.1.1.of_block (w':=(w.setCell ⟨p,2,none⟩ (.int .i64 cut))) (fun g hg=>by
  have e:g≠p:=fun e=>h3.2.2.2 (e▸hg)
  rw [Below.heap_setCell _ _ _ _ e])
 obtain ⟨k1,k2⟩:=h3.turned (f':=dkF ⟨d.b,d.off,cut⟩) (v':=v) g2 g4 hK ⟨t,hm⟩ hr (fun g hg=>.inl (g1.2 g hg))
 exact ObjTo.of k1 ⟨h1,hcut,v,k2⟩
set_option maxRecDepth 100000 in
theorem cut_any (h:DiskAt own i w p d) (n:Int) (hn:n≤9223372036854775807) (E:Nat→Addr) (hE:Errs E [2,9] w):Calls Tryz.prog 44 #[.pointer (some ⟨p,0,none⟩),.int .i64 n] w fun e w'=>e=.returned (errV E (d.cutE n))∧ObjTo own i i w (fun o w'=>DiskAt o i w' p (d.cutD n)) w':=by
 have e2:w.cell? ⟨0,0,none⟩=some (.iface 357 (.pointer (some (E 2)))):=hE 2 (by decide)
 have b2:0<w.heap.size:=lt_of_cell e2
 have e9:w.cell? ⟨1,0,none⟩=some (.iface 357 (.pointer (some (E 9)))):=hE 9 (by decide)
 have b9:1<w.heap.size:=lt_of_cell e9
 have c1:=h.off
 have c2:=h.cut
 have f2:=h.free 2
 have hp:=h.lt
 by_cases h0:n<0
 ·have H:=Lib.hid (h.keep (Ex.refl w))
  have e1:d.cutE n=2:=by unfold Dk.cutE;rw [if_pos h0]
  have e4:d.cutD n=d:=by unfold Dk.cutD;rw [if_pos h0]
  rw [e1,e4,errV_pos _ _ (by decide)]
  clear e1 e4 h hE
  go_enter Tryz.func44,Tryz.ntmps44
  go_wp2_with fail
  all_goals go_ret
  all_goals exact ⟨rfl,H.out⟩
 cases hoff:d.off with
 | true =>
  have H:=Lib.hid (h.keep (Ex.refl w))
  have e1:d.cutE n=9:=by unfold Dk.cutE;rw [if_neg h0,if_pos hoff]
  have e4:d.cutD n=d:=by unfold Dk.cutD;rw [if_neg h0,if_pos hoff]
  rw [e1,e4,errV_pos _ _ (by decide)]
  rw [hoff] at c1
  clear e1 e4 h hE hoff
  go_enter Tryz.func44,Tryz.ntmps44
  go_wp2_with fail
  all_goals go_ret
  all_goals exact ⟨rfl,H.out⟩
 | false =>
  have H:=Lib.hid (h.turn2 n (by omega))
  have e1:d.cutE n=0:=by unfold Dk.cutE;rw [if_neg h0,if_neg (by rw [hoff];decide)]
  have e4:d.cutD n=⟨d.b,d.off,n⟩:=by unfold Dk.cutD;rw [if_neg h0,if_neg (by rw [hoff];decide)]
  rw [e1,e4,errV_zero]
  rw [hoff] at c1
  clear e1 e4 h hE hoff
  go_enter Tryz.func44,Tryz.ntmps44
  go_wp2_with fail
  all_goals go_ret
  all_goals exact ⟨rfl,H.out⟩
end
end Go.Proofs.YtabbgpjofkaomaaGreatDoor

/- Slices of strings: how they read, and are compared. -/
namespace Go.Proofs.YtabbgpjofkaomaaGreatDoor
open Go.RowKit
end Go.Proofs.YtabbgpjofkaomaaGreatDoor

/- What NewDisk and Read of package tape compute. -/
namespace Go.Proofs.YtabbgpjofkaomaaGreatDoor
open Go.RowKit
theorem DiskAt.fresh (own:Nat→Nat) (i:Nat) (w:World) (s:List UInt8) (hs:s.length≤1048576) (c:Nat) (h1:s.length≤c) (h2:c≤maxLen) (t:TypeId) (hp:own (w.heap.size+1)=i) (hq:own w.heap.size=i) :
  DiskAt own i ((w.alloc (.cells (bytesRow ⟨s.toArray⟩ c) 5 ((bytesRow ⟨s.toArray⟩ c).size,(bytesRow ⟨s.toArray⟩ c).size+1))).alloc (.cells #[.slice (some ⟨w.heap.size,0,none⟩) s.length c,.bool false,.int .i64 (-1)] t)) (w.heap.size+1) ⟨s,false,-1⟩:=by
 have hz:=bytes_size s
 refine ⟨hs,⟨(show (-1:Int)≤-1 by decide),(show (-1:Int)≤9223372036854775807 by decide)⟩,.slice (some ⟨w.heap.size,0,none⟩) s.length c,⟨t,?_⟩,⟨⟨by simp [byteC],.inr ⟨w.heap.size,0,c,_,rfl,⟨_,(Below.heap_alloc _ _ _ (by simp)).trans (heap_new rfl),.inr (Nat.le_refl _)⟩,h1,h2,?_,?_⟩⟩,fun g hg=>?_⟩,hp,fun e=>?_⟩
 ·have h:=World.rowIs_alloc (w.alloc (.cells (bytesRow ⟨s.toArray⟩ c) 5 ((bytesRow ⟨s.toArray⟩ c).size,(bytesRow ⟨s.toArray⟩ c).size+1))) #[.slice (some ⟨w.heap.size,0,none⟩) s.length c,.bool false,.int .i64 (-1)] t (fun j=>if j=0 then .slice (some ⟨w.heap.size,0,none⟩) s.length c else dkF ⟨s,false,-1⟩ j) (fun j hj=>by
   have:j=0∨j=1∨j=2:=by simp at hj;omega
   rcases this with rfl|rfl|rfl<;>simp [dkF])
  simpa using h
 ·simp [bytesRow];omega
 ·simp [bytesRow,byteC]
 ·cases hg;exact hq
 ·have e':=Option.some.inj (show some w.heap.size=some (w.heap.size+1) from e)
  omega
set_option maxRecDepth 100000 in
theorem newDisk_any (own:Nat→Nat) (i:Nat) (s:List UInt8) (w:World) (hs:s.length≤1048576) :
  Calls Tryz.prog 40 #[.string ⟨s.toArray⟩] w fun e w'=>e=.returned (.tuple #[.pointer (some ⟨w.heap.size+1,0,none⟩),.nilIface])∧ObjTo own i i w (fun o w'=>DiskAt o i w' (w.heap.size+1) ⟨s,false,-1⟩) w':=by
 have hz:=bytes_size s
 have hv:=run_bytes_of_string w 9 135 5 ⟨s.toArray⟩ Tryz.underlying9 Tryz.underlying135 Tryz.underlying5
 have hg1:=grownCap_ge w s.length 0 5
 have hg2:=grownCap_le_maxLen w s.length 0 5 (by unfold maxLen;omega)
 rw [hz] at hv
 generalize grownCap w s.length 0 5=c at *
 go_enter Tryz.func40,Tryz.ntmps40
 go_wp2_with fail
 all_goals go_ret2
 all_goals exact ⟨rfl,ObjTo.of (by exact (((Kp.refl _ _ _ _).alloc _).alloc _).drew) (DiskAt.fresh _ _ _ s hs c hg1 hg2 _ (by unfold lab;rw [if_neg (by omega),if_pos (by simp [go_sem];omega)]) (by unfold lab;rw [if_neg (by omega),if_pos (by simp [go_sem];omega)]))⟩
end Go.Proofs.YtabbgpjofkaomaaGreatDoor

/- What write of a disk computes. -/
namespace Go.Proofs.YtabbgpjofkaomaaGreatDoor
open Go.RowKit
theorem infoU8T:(Tryz.prog.info? 5).map (fun i=>(i.zero,i.size,i.bytes))=some (some (.int .u8 0),1,1):=by kernel_rfl
def wrE (d:Dk) (r:List UInt8):Nat:=if d.off then 9 else if 0≤d.cut∧d.cut<(r.length:Int) then 9 else 0
def wrD (d:Dk) (r:List UInt8):Dk:=if d.off then d else if 0≤d.cut∧d.cut<(r.length:Int) then ⟨d.b++r.take d.cut.toNat,true,d.cut⟩ else ⟨d.b++r,false,if 0≤d.cut then d.cut - (r.length:Int) else d.cut⟩
section
variable {own:Nat→Nat} {i:Nat} {w:World} {p:Nat} {d:Dk}
theorem disk_end {o:Nat→Nat} {v v':Value} {W1 W' u:World} {k:Nat} {x:List UInt8} {d':Dk} (h3:OneAt own i w p 3 (dkF d) 5 1 v d.b.length (byteC d.b)) (g2:o p=3) (g4:∀ n,o n / 2=1→own n=i) (hs:w.heap.size≤W1.heap.size) (hK:Kp o 2 1 w W')
  (hp:∀ g,g≠p→W'.heap[g]?=(ov W1 o 1 2 k u).heap[g]?) (hrow:∃ t,W'.rowIs p t 3 (fun j=>if j=0 then v' else dkF d' j)) (hv:OwnRow (lab o W1.heap.size k 2) 2 (ov W1 o 1 2 k u) 5 1 v' (d.b.length+x.length) (byteC d.b++byteC x))
  (hb:d'.b=d.b++x) (hl:d'.b.length≤1048576) (hcut:-1≤d'.cut∧d'.cut≤9223372036854775807):ObjTo own i i w (fun o w'=>DiskAt o i w' p d') W':=by
 rw [← List.length_append,← byteC_append,← hb] at hv
 obtain ⟨k1,k2⟩:=h3.appEnd g2 g4 hs hK hp hrow hv
 exact ObjTo.of k1 ⟨hl,hcut,v',k2⟩
set_option maxRecDepth 100000 in
theorem write_off (h:DiskAt own i w p d) (r:List UInt8) (E:Nat→Addr) (hE:Errs E [9] w) (ho:d.off=true) :
  Calls Tryz.prog 80 #[.pointer (some ⟨p,0,none⟩),.string ⟨r.toArray⟩] w fun e w'=>e=.returned (errV E 9)∧ObjTo own i i w (fun o w'=>DiskAt o i w' p d) w':=by
 have e9:w.cell? ⟨1,0,none⟩=some (.iface 357 (.pointer (some (E 9)))):=hE 9 (by decide)
 have b9:1<w.heap.size:=lt_of_cell e9
 have c1:=h.off
 have hp:=h.lt
 rw [ho] at c1
 have H:=Lib.hid (h.keep (Ex.refl w))
 rw [errV_pos _ _ (by decide)]
 clear h hE ho
 go_enter Tryz.func80,Tryz.ntmps80
 go_wp2_with fail
 all_goals go_ret
 all_goals exact ⟨rfl,H.out⟩
set_option maxRecDepth 100000 in
set_option maxHeartbeats 1000000 in
theorem write_all (h:DiskAt own i w p d) (r:List UInt8) (hfit:d.b.length+r.length≤1048576) (ho:d.off=false) (hc:d.cut<0) :
  Calls Tryz.prog 80 #[.pointer (some ⟨p,0,none⟩),.string ⟨r.toArray⟩] w fun e w'=>e=.returned .nilIface∧ObjTo own i i w (fun o w'=>DiskAt o i w' p ⟨d.b++r,false,d.cut⟩) w':=by
 have c1:=h.off
 have c2:=h.cut
 have f0:=h.free 0
 have f2:=h.free 2
 have hp:=h.lt
 have zr:=bytes_size r
 have H:=Lib.hid h
 obtain ⟨h1,h2,v,h3⟩:=h
 obtain ⟨o,g1,g2,g3,g4⟩:=h3.pick
 obtain ⟨t,hrow⟩:=h3.main
 obtain ⟨ao,cap,rfl,hcap,_⟩:=h3.2.1.form
 have c0:=h3.cell0 (by decide)
 obtain ⟨i0,hi0,hz0,hz1,hz2⟩:=info_parts infoU8T
 have H3:=Lib.hid h3
 have HROW:=Lib.hid hrow
 have HO:=Lib.hid ho
 have HB:=Lib.hid h2
 rw [ho] at c1
 have d1:decide (0≤d.cut)=false:=decide_eq_false (by omega)
 clear h3 hrow ho h2
 go_enter Tryz.func80,Tryz.ntmps80
 go_wp2_with (at_builtin;refine wpList_append_lab (own:=o) (j:=2) rfl (.tmp 60) (.tmp 61) 135 9 rfl 5 i0 _ 1 1 Tryz.underlying135 hi0 hz0 hz1 hz2 rfl (.slice ao d.b.length cap) (.string ⟨r.toArray⟩) d.b.length r.length (byteC d.b) (byteC r) rfl rfl g1 ?_ (by unfold maxLen;omega) (by omega) ?_;(focus (have hs:=Src.ofString (P:=Tryz.prog) w Tryz.underlying9 ⟨r.toArray⟩;rw [zr,bytes_cells] at hs;exact hs));intro v' k' u hv' hnil;obtain ⟨ao',cap',rfl,hcap',_⟩:=hv'.form)
 all_goals go_ret
 have e:=ov_set_lt w o 1 2 k' u p 0 (.slice ao' (d.b.length+r.length) cap') hp (by rw [g2];decide)
 refine ⟨rfl,disk_end (W1:=w) (k:=k') (u:=u) (x:=r) (v':=.slice ao' (d.b.length+r.length) cap') H3.out g2 g4 (Nat.le_refl _) (grown_kp k' u ((Kp.refl _ _ _ _).setCell (fun _=>by rw [g2]) _)) (fun g hg=>by rw [← e];exact Below.heap_setCell _ _ _ _ hg) ⟨t,?_⟩ hv' rfl (by simp;omega) HB.out⟩
 refine rowIs_ov ((HROW.out.set 0 _).congr fun j hj=>?_) _ _ _ _ _ (by rw [g2];decide)
 have:j=0∨j=1∨j=2:=by omega
 rcases this with rfl|rfl|rfl<;>simp [dkF,HO.out]
set_option maxRecDepth 100000 in
set_option maxHeartbeats 1000000 in
theorem write_rest (h:DiskAt own i w p d) (r:List UInt8) (hfit:d.b.length+r.length≤1048576) (ho:d.off=false) (hc:(r.length:Int)≤d.cut) :
  Calls Tryz.prog 80 #[.pointer (some ⟨p,0,none⟩),.string ⟨r.toArray⟩] w fun e w'=>e=.returned .nilIface∧ObjTo own i i w (fun o w'=>DiskAt o i w' p ⟨d.b++r,false,d.cut - (r.length:Int)⟩) w':=by
 have c1:=h.off
 have c2:=h.cut
 have f0:=h.free 0
 have f1:=h.free 1
 have f2:=h.free 2
 have hp:=h.lt
 have zr:=bytes_size r
 obtain ⟨h1,h2,v,h3⟩:=h
 obtain ⟨o,g1,g2,g3,g4⟩:=h3.pick
 obtain ⟨t,hrow⟩:=h3.main
 obtain ⟨ao,cap,rfl,hcap,_⟩:=h3.2.1.form
 have c0:=h3.cell0 (by decide)
 obtain ⟨i0,hi0,hz0,hz1,hz2⟩:=info_parts infoU8T
 have H3:=Lib.hid h3
 have HROW:=Lib.hid hrow
 have HO:=Lib.hid ho
 have HB:=Lib.hid h2
 rw [ho] at c1
 have d1:decide (0≤d.cut)=true:=decide_eq_true (by omega)
 have d2:decide (d.cut<(r.length:Int))=false:=decide_eq_false (by omega)
 have hw:IntKind.i64.wrap (d.cut - (r.length:Int))=d.cut - (r.length:Int):=IntWalk.i64_in _ (by omega)
 have HC:Hid (-1≤d.cut - (r.length:Int)∧d.cut - (r.length:Int)≤9223372036854775807):=Lib.hid (by omega)
 have hk1:Kp o 2 1 w (w.setCell ⟨p,2,none⟩ (.int .i64 (d.cut - (r.length:Int)))):=(Kp.refl _ _ _ _).setCell (fun _=>by rw [g2]) _
 have hr1:OwnRow o 2 (w.setCell ⟨p,2,none⟩ (.int .i64 (d.cut - (r.length:Int)))) 5 1 (.slice ao d.b.length cap) d.b.length (byteC d.b):=g1.setCell (by rw [g2];decide) _
 have hq1:=HROW.out.set 2 (.int .i64 (d.cut - (r.length:Int)))
 have hs1:(w.setCell ⟨p,2,none⟩ (.int .i64 (d.cut - (r.length:Int)))).heap.size=w.heap.size:=by simp [go_sem]
 have HK1:=Lib.hid hk1
 have HR1:=Lib.hid hr1
 have HQ1:=Lib.hid hq1
 clear h3 hrow ho h2 hk1 hr1 hq1
 go_enter Tryz.func80,Tryz.ntmps80
 go_wp2_with (at_builtin;refine wpList_append_lab (own:=o) (j:=2) rfl (.tmp 60) (.tmp 61) 135 9 rfl 5 i0 _ 1 1 Tryz.underlying135 hi0 hz0 hz1 hz2 rfl (.slice ao d.b.length cap) (.string ⟨r.toArray⟩) d.b.length r.length (byteC d.b) (byteC r) rfl rfl HR1.out ?_ (by unfold maxLen;omega) (by omega) ?_;(focus (have hs:=Src.ofString (P:=Tryz.prog) (w.setCell ⟨p,2,none⟩ (.int .i64 (d.cut - (r.length:Int)))) Tryz.underlying9 ⟨r.toArray⟩;rw [zr,bytes_cells] at hs;exact hs));intro v' k' u hv' hnil;obtain ⟨ao',cap',rfl,hcap',_⟩:=hv'.form)
 all_goals go_ret
 have e:=ov_set_lt (w.setCell ⟨p,2,none⟩ (.int .i64 (d.cut - (r.length:Int)))) o 1 2 k' u p 0 (.slice ao' (d.b.length+r.length) cap') (by rw [hs1];exact hp) (by rw [g2];decide)
 refine ⟨rfl,disk_end (W1:=w.setCell ⟨p,2,none⟩ (.int .i64 (d.cut - (r.length:Int)))) (k:=k') (u:=u) (x:=r) (v':=.slice ao' (d.b.length+r.length) cap') H3.out g2 g4 (Nat.le_of_eq hs1.symm) (grown_kp k' u (HK1.out.setCell (fun _=>by rw [g2]) _)) (fun g hg=>by rw [← e];exact Below.heap_setCell _ _ _ _ hg) ⟨t,?_⟩ hv' rfl (by simp;omega) HC.out⟩
 refine rowIs_ov ((HQ1.out.set 0 _).congr fun j hj=>?_) _ _ _ _ _ (by rw [g2];decide)
 have:j=0∨j=1∨j=2:=by omega
 rcases this with rfl|rfl|rfl<;>simp [dkF,HO.out]
set_option maxRecDepth 100000 in
set_option maxHeartbeats 2000000 in
theorem write_cut (h:DiskAt own i w p d) (r:List UInt8) (E:Nat→Addr) (hE:Errs E [9] w) (hfit:d.b.length+r.length≤1048576) (ho:d.off=false) (c:Nat) (hdc:d.cut=(c:Int)) (hc:c<r.length) (hg:own (gOf 9)≠i) :
  Calls Tryz.prog 80 #[.pointer (some ⟨p,0,none⟩),.string ⟨r.toArray⟩] w fun e w'=>e=.returned (errV E 9)∧ObjTo own i i w (fun o w'=>DiskAt o i w' p ⟨d.b++r.take c,true,d.cut⟩) w':=by
 have e9:w.cell? ⟨1,0,none⟩=some (.iface 357 (.pointer (some (E 9)))):=hE 9 (by decide)
 have b9:1<w.heap.size:=lt_of_cell e9
 have c1:=h.off
 have c2:=h.cut
 have f0:=h.free 0
 have f1:=h.free 1
 have f2:=h.free 2
 have hp:=h.lt
 have zr:=bytes_size r
 obtain ⟨h1,h2,v,h3⟩:=h
 obtain ⟨o,g1,g2,g3,g4⟩:=h3.pick
 obtain ⟨t,hrow⟩:=h3.main
 obtain ⟨ao,cap,rfl,hcap,_⟩:=h3.2.1.form
 have c0:=h3.cell0 (by decide)
 obtain ⟨i0,hi0,hz0,hz1,hz2⟩:=info_parts infoU8T
 have H3:=Lib.hid h3
 have HROW:=Lib.hid hrow
 have HO:=Lib.hid ho
 have HB:=Lib.hid h2
 rw [ho] at c1
 rw [hdc] at c2
 have hg9:¬ o 1=2:=fun e=>hg (g4 1 (by omega))
 have hgp:¬ 1=p:=fun e=>hg (g4 1 (by have h:=g2;rw [← e] at h;omega))
 have d1:decide (0≤(c:Int))=true:=decide_eq_true (by omega)
 have d2:decide ((c:Int)<(r.length:Int))=true:=decide_eq_true (by omega)
 have c3:(c:Int)≤(r.length:Int):=by omega
 have c4:(0:Int)≤(c:Int):=by omega
 have ht:=bytes_head r c
 have htl:(r.take c).length=c:=by rw [List.length_take];omega
 rw [errV_pos _ _ (by decide)]
 clear h3 hrow ho h2 hE
 go_enter Tryz.func80,Tryz.ntmps80
 go_wp2_with fail
 go_region_law
  (((refine step_append_lab (own:=o) (j:=2) ?_ (.tmp 28) (.tmp 34) 135 9 ?_ 5 i0 _ 1 1 Tryz.underlying135 hi0 hz0 hz1 hz2 ?_ (.slice ao d.b.length cap) (.string ⟨(r.take c).toArray⟩) d.b.length c (byteC d.b) (byteC (r.take c)) ?_ ?_ ?_ ?_ ?_ ?_ ?_);(focus rfl);(focus rfl);(focus rfl);(focus rfl);(focus rfl);(focus exact (by repeat (first|exact g1|(refine OwnRow.alloc ?_ _)|(refine OwnRow.drew ?_)|(refine OwnRow.drewN ?_ _)|(refine OwnRow.exts ?_ _ _))));(focus (have hs:=fun w=>Src.ofString (P:=Tryz.prog) w Tryz.underlying9 ⟨(r.take c).toArray⟩;rw [bytes_size,htl,bytes_cells] at hs;exact hs _));(focus (unfold maxLen;omega));(focus omega);intro v' k' u hv' hnil;obtain ⟨ao',cap',rfl,hcap',_⟩:=hv'.form))
 all_goals go_wp2_with fail
 all_goals go_ret
 all_goals
  have e0:=ov_set_lt w.drew o 1 2 k' u p 0 (.slice ao' (d.b.length+c) cap') hp (by rw [g2];decide)
  have e1:=ov_set_lt (w.drew.setCell ⟨p,0,none⟩ (.slice ao' (d.b.length+c) cap')) o 1 2 k' u p 1 (.bool true) (by simp [go_sem];exact hp) (by rw [g2];decide)
  refine ⟨rfl,disk_end (W1:=w.drew) (k:=k') (u:=u) (x:=r.take c) (v':=.slice ao' (d.b.length+c) cap') H3.out g2 g4 (Nat.le_refl _) (grown_kp k' u (((Kp.refl _ _ _ _).setCell (fun _=>by rw [g2]) _).setCell (fun _=>by rw [g2]) _).drew) (fun g hg=>?_) ⟨t,?_⟩ (by rw [htl];exact hv') rfl (by simp;omega) HB.out⟩
  ·show (ov ((w.drew.setCell ⟨p,0,none⟩ (.slice ao' (d.b.length+c) cap')).setCell ⟨p,1,none⟩ (.bool true)) o 1 2 k' u).heap[g]?=_
   rw [← e1,← e0]
   exact (Below.heap_setCell _ _ _ _ hg).trans (Below.heap_setCell _ _ _ _ hg)
  ·refine rowIs_ov (show World.rowIs ((w.setCell ⟨p,0,none⟩ (.slice ao' (d.b.length+c) cap')).setCell ⟨p,1,none⟩ (.bool true)) _ _ _ _ from ((HROW.out.set 0 _).set 1 _).congr fun j hj=>?_) _ _ _ _ _ (by rw [g2];decide)
   have:j=0∨j=1∨j=2:=by omega
   rcases this with rfl|rfl|rfl<;>simp [dkF]
theorem write_any (h:DiskAt own i w p d) (r:List UInt8) (E:Nat→Addr) (hE:Errs E [9] w) (hg:own (gOf 9)≠i) (hfit:d.b.length+r.length≤1048576) :
  Calls Tryz.prog 80 #[.pointer (some ⟨p,0,none⟩),.string ⟨r.toArray⟩] w fun e w'=>e=.returned (errV E (wrE d r))∧ObjTo own i i w (fun o w'=>DiskAt o i w' p (wrD d r)) w':=by
 have hb:=h.2.1
 cases ho:d.off with
 | true =>
  rw [show wrE d r=9 by unfold wrE;rw [if_pos ho],show wrD d r=d by unfold wrD;rw [if_pos ho]]
  exact write_off h r E hE ho
 | false =>
  have n0:¬ (d.off=true):=by rw [ho];decide
  by_cases hc:d.cut<0
  ·rw [show wrE d r=0 by unfold wrE;rw [if_neg n0,if_neg (by omega)],show wrD d r=⟨d.b++r,false,d.cut⟩ by unfold wrD;rw [if_neg n0,if_neg (by omega),if_neg (by omega)]]
   exact write_all h r hfit ho hc
  ·by_cases hl:d.cut<(r.length:Int)
   ·rw [show wrE d r=9 by unfold wrE;rw [if_neg n0,if_pos (by omega)],show wrD d r=⟨d.b++r.take d.cut.toNat,true,d.cut⟩ by unfold wrD;rw [if_neg n0,if_pos (by omega)]]
    exact write_cut h r E hE hfit ho d.cut.toNat (by omega) (by omega) hg
   ·rw [show wrE d r=0 by unfold wrE;rw [if_neg n0,if_neg (by omega)],show wrD d r=⟨d.b++r,false,d.cut - (r.length:Int)⟩ by unfold wrD;rw [if_neg n0,if_neg (by omega),if_pos (by omega)]]
    exact write_rest h r hfit ho (by omega)
end
end Go.Proofs.YtabbgpjofkaomaaGreatDoor

/- What Append and Recover of package tape compute. -/
namespace Go.Proofs.YtabbgpjofkaomaaGreatDoor
open Go.RowKit
section
variable {own:Nat→Nat} {i:Nat} {w:World} {p:Nat} {d:Dk}
theorem app_is (d:Dk) (s:List UInt8) (h1:¬ 10000<s.length) (h2:¬ 1048576<d.b.length+(s.length+12)):d.appE s=wrE d (recL s)∧d.app s=wrD d (recL s):=by
 unfold Dk.appE wrE Dk.app wrD
 rw [recL_len,if_neg h1,if_neg h2,if_neg h1,if_neg h2]
 exact ⟨rfl,rfl⟩
set_option maxRecDepth 100000 in
set_option maxHeartbeats 1000000 in
theorem append_any (h:DiskAt own i w p d) (s:List UInt8) (hm:s.length≤maxLen) (E:Nat→Addr) (hE:Errs E [2,8,9] w) (hg:own (gOf 9)≠i) :
  Calls Tryz.prog 57 #[.pointer (some ⟨p,0,none⟩),.string ⟨s.toArray⟩] w fun e w'=>e=.returned (errV E (d.appE s))∧ObjTo own i i w (fun o w'=>DiskAt o i w' p (d.app s)) w':=by
 have zs:=bytes_size s
 have hb:=h.1
 unfold maxLen at hm
 obtain ⟨ao,cap,c0,_⟩:=h.slice
 have hp:=h.lt
 by_cases h1:10000<s.length
 ·have e2:w.cell? ⟨0,0,none⟩=some (.iface 357 (.pointer (some (E 2)))):=hE 2 (by decide)
  have b2:0<w.heap.size:=lt_of_cell e2
  have H:=Lib.hid (h.keep (Ex.refl w))
  rw [show d.appE s=2 by unfold Dk.appE;rw [if_pos h1],show d.app s=d by unfold Dk.app;rw [if_pos h1],errV_pos _ _ (by decide)]
  have k1:(10000:Int)<(s.length:Int):=by omega
  clear h hE
  go_enter Tryz.func57,Tryz.ntmps57
  go_wp2_with fail
  all_goals go_ret
  all_goals exact ⟨rfl,H.out⟩
 have k1:¬ (10000:Int)<(s.length:Int):=by omega
 by_cases h2:1048576<d.b.length+(s.length+12)
 ·have e8:w.cell? ⟨3,0,none⟩=some (.iface 357 (.pointer (some (E 8)))):=hE 8 (by decide)
  have b8:3<w.heap.size:=lt_of_cell e8
  have H:=Lib.hid (h.keep (Ex.refl w))
  rw [show d.appE s=8 by unfold Dk.appE;rw [if_neg h1,if_pos h2],show d.app s=d by unfold Dk.app;rw [if_neg h1,if_pos h2],errV_pos _ _ (by decide)]
  have k2:1048576 - (d.b.length:Int)<(s.length:Int)+12:=by omega
  clear h hE
  go_enter Tryz.func57,Tryz.ntmps57
  go_wp2_with fail
  all_goals go_ret
  all_goals exact ⟨rfl,H.out⟩
 have k2:¬ 1048576 - (d.b.length:Int)<(s.length:Int)+12:=by omega
 rw [(app_is d s h1 h2).1,(app_is d s h1 h2).2]
 have HR:=Lib.hid (fun w=>record_any s w (by omega))
 have HW:=Lib.hid (fun w' (hx:Ex w w')=>write_any (h.later hx) (recL s) E (Errs.sub (hE.ex hx) (by decide)) hg (by rw [recL_len];omega))
 clear h hE
 go_enter Tryz.func57,Tryz.ntmps57
 go_wp2_with (first
  | (go_at_call 81;refine (HR.out _).mono ?_;rintro e w1 ⟨rfl,l1,d1,rfl⟩)
  | (go_at_call 80;refine (HW.out _ (by repeat (first|exact Ex.refl _|refine Ex.alloc ?_ _|refine Ex.ext ?_ _ _|refine Ex.drew ?_|refine Ex.drewN ?_ _))).mono ?_;rintro e w2 ⟨rfl,hT⟩))
 all_goals go_ret
 all_goals exact ⟨rfl,ObjTo.after (by repeat (first|exact Ex.refl _|refine Ex.alloc ?_ _|refine Ex.ext ?_ _ _|refine Ex.drew ?_|refine Ex.drewN ?_ _)) hT (fun o o' ho hI=>hI.relabel ho)⟩
end
end Go.Proofs.YtabbgpjofkaomaaGreatDoor

/- Plain facts: a venue as a value; what its methods make of it. -/
namespace Go.Proofs.YtabbgpjofkaomaaGreatDoor
open Go.RowKit
structure Rep where
 client:Int
 kind:ByteArray
 id:Int
 price:Int
 qty:Int
 code:Int
 deriving DecidableEq
def Rep.cells (a:Rep):List Value:=[.int .i64 a.client,.string a.kind,.int .i64 a.id,.int .i64 a.price,.int .i64 a.qty,.int .i64 a.code]
abbrev Rep.val (a:Rep):Value:=.agg #[.int .i64 a.client,.string a.kind,.int .i64 a.id,.int .i64 a.price,.int .i64 a.qty,.int .i64 a.code]
def kAcc:ByteArray:=⟨#[97,99,99,101,112,116,101,100]⟩
def kRef:ByteArray:=⟨#[114,101,102,117,115,101,100]⟩
def kBusy:ByteArray:=⟨#[98,117,115,121]⟩
def kFil:ByteArray:=⟨#[102,105,108,108,101,100]⟩
def kRest:ByteArray:=⟨#[114,101,115,116,115]⟩
def kGone:ByteArray:=⟨#[103,111,110,101]⟩
structure Cli where
 s:Sess
 left:List UInt8
 drop:Bool
structure Cfg where
 seed:Int
 wd:Int
 hl:Int
 ref:Int
 cash:Int
 stock:Int
structure VSt where
 c:Cfg
 f:FSt
 cl:Nat→Cli
 q:Nat→List Ask
 turn:Nat
 d:Dk
 now:Nat
 bat:Nat
 down:Bool
def VSt.setCl (v:VSt) (n:Nat) (x:Cli):VSt:={ v with cl:=fun j=>if j=n then x else v.cl j }
def VSt.clear (v:VSt) (n:Nat):VSt:={ v with q:=fun j=>if j=n then [] else v.q j }
def refR (n id:Int) (code:Nat):Rep:=⟨n,kRef,id,0,0,(code:Int)⟩
def lotR (kind:ByteArray) (x:Lot):Rep:=⟨x.owner,kind,x.id,x.price,x.qty,0⟩
def gotR (n:Nat) (g:Got) (v:VSt):List Rep × VSt :=
 if g.code≠0 then ([⟨n,kRef,0,0,0,g.code⟩],v)
 else if g.ask.client≠(n:Int) then ([refR n g.ask.id 3],v)
 else if ((v.cl n).s.take g.ask v.now).2≠0 then ([refR n g.ask.id ((v.cl n).s.take g.ask v.now).2],v)
 else if g.ask.kind=113 then ([],(v.setCl n ⟨((v.cl n).s.take g.ask v.now).1,(v.cl n).left,true⟩).clear n)
 else if g.ask.kind=108∨g.ask.kind=104 then ([],v.setCl n ⟨((v.cl n).s.take g.ask v.now).1,(v.cl n).left,(v.cl n).drop⟩)
 else ([⟨n,if putErr v.q g.ask=0 then kAcc else kBusy,g.ask.id,0,0,0⟩],{ v.setCl n ⟨((v.cl n).s.take g.ask v.now).1,(v.cl n).left,(v.cl n).drop⟩ with q:=putTo v.q g.ask })
def gotStep (n:Nat) (p:List Rep × VSt) (g:Got):List Rep × VSt:=(p.1++(gotR n g p.2).1,(gotR n g p.2).2)
def feedR (n:Nat) (s:List UInt8) (v:VSt):List Rep × VSt :=
 if v.down then ([],v) else (gotsL ((v.cl n).left++s)).foldl (gotStep n) ([],v.setCl n ⟨(v.cl n).s,leftL ((v.cl n).left++s),(v.cl n).drop⟩)
def hexD (n:Nat):UInt8:=UInt8.ofNat (if n<10 then 48+n else 87+n)
def hexL (s:List UInt8):List UInt8:=s.flatMap fun b=>[hexD (b.toNat / 16),hexD (b.toNat % 16)]
def recordL (n:Nat) (drops:List Nat) (asks:List Ask):List UInt8 :=
 Lib.itoa n++58::Lib.join (drops.map fun (c:Nat)=>Lib.itoa (c:Int)) [44]++asks.flatMap fun a=>if a.err=0 then 32::hexL a.frame.data.toList else []
def dropsL (v:VSt):List Nat:=(List.range 6).filter fun n=>(v.cl n).drop
def requestR (a:Ask) (st:FSt):Rep × Bool × FSt :=
 if a.kind=111 then (if fplaceE st a≠0 then (refR a.client a.id (fplaceE st a),false,fplaceS st a) else (⟨0,⟨#[]⟩,0,0,0,0⟩,true,fplaceS st a))
 else if (fcancelR st a).2.1≠0 then (refR a.client a.id (fcancelR st a).2.1,false,(fcancelR st a).2.2)
 else (lotR kGone (fcancelR st a).1,false,(fcancelR st a).2.2)
structure RqSt where
 out:List Rep
 placed:List Ask
 st:FSt
def reqStep (p:RqSt) (a:Ask):RqSt :=
 if (requestR a p.st).2.1 then ⟨p.out,p.placed++[a],(requestR a p.st).2.2⟩ else ⟨p.out++[(requestR a p.st).1],p.placed,(requestR a p.st).2.2⟩
def lastL:List Ask→List Ask
 | []=>[]
 | a::l=>if l.any (fun b=>a.item==b.item && a.id==b.id) then lastL l else a::lastL l
def vseed (v:VSt) (n:Nat):Int:=(v.c.seed+((3*v.bat+n:Nat):Int)) % 4294967296
def itemR (seed wd hl:Int) (n:Nat) (placed:List Ask) (st:FSt):List Rep × FSt :=
 ((runR st n wd hl seed).fills.map (fun f=>⟨(getR (st.b n) f.id).1.owner,kFil,f.id,(runR st n wd hl seed).price,f.qty,0⟩) ++
  placed.filterMap (fun a=>if (getR ((runS st n wd hl seed).b n) a.id).2∧a.item=(n:Int) then some (lotR kRest (getR ((runS st n wd hl seed).b n) a.id).1) else none),runS st n wd hl seed)
def itemStep (v:VSt) (placed:List Ask) (p:List Rep × FSt) (n:Nat):List Rep × FSt :=
 (p.1++(itemR (vseed v n) v.c.wd v.c.hl n placed p.2).1,(itemR (vseed v n) v.c.wd v.c.hl n placed p.2).2)
def dropRep (p:List Rep × FSt) (n:Int):List Rep × FSt:=(p.1++(fdropR p.2 n).1.map (lotR kGone),(fdropR p.2 n).2)
def batchR (drops:List Int) (asks:List Ask) (v:VSt):List Rep × VSt :=
 let p:=drops.foldl dropRep ([],v.f)
 let q:=asks.foldl reqStep ⟨p.1,[],p.2⟩
 let r:=(List.range 3).foldl (itemStep v (lastL q.placed)) (q.out,q.st)
 (r.1,{ v with f:=r.2,bat:=v.bat+1 })
def lateStep (now:Nat) (v:VSt) (n:Nat):VSt:=if (v.cl n).s.late (now:Int) then (v.setCl n ⟨⟨false,0,0⟩,[],true⟩).clear n else v
def undropped (v:VSt):VSt:={ v with cl:=fun j=>⟨(v.cl j).s,(v.cl j).left,if j<6 then false else (v.cl j).drop⟩ }
def tickR (v:VSt):List Rep × VSt :=
 if v.down then ([],v) else
 let v1:=(List.range 6).foldl (lateStep (v.now+1)) { v with now:=v.now+1 }
 if (v.now+1) % 3≠0 then ([],v1) else
 let asks:=outOf v1.q v1.turn 6
 let drops:=dropsL v1
 let v2:=undropped { v1 with q:=fun d=>(v1.q d).drop 2,turn:=(v1.turn+1) % 6 }
 if v2.d.appE (recordL v2.bat drops asks)≠0 then ([],{ v2 with d:=v2.d.app (recordL v2.bat drops asks),down:=true })
 else batchR (drops.map fun (n:Nat)=>(n:Int)) asks { v2 with d:=v2.d.app (recordL v2.bat drops asks) }
end Go.Proofs.YtabbgpjofkaomaaGreatDoor

/- errors.Is by contracts, at an error of package api or a Fault, and a target of package api. After the kit's worked example Sentry. No condition. -/
namespace Go.Proofs.YtabbgpjofkaomaaGreatDoor
open Go.RowKit Go.Extern.Stop Go.Stop Go.Extern
theorem isTypeOf (v:Value) (w:World):(Extern.ReflectliteType.typeOf #[.iface 357 v]).run Tryz.prog w=.ok (.iface 272 (.agg #[.pointer (some ⟨17,357,none⟩)])) w:=by kernel_rfl
theorem isComparable (w : World) : ((Extern.ReflectliteType.method fun t => do Rtype.noPackHeld "Comparable" t; (fun a => Value.bool a.comparable) <$> typeInfo t) #[.agg #[.pointer (some ⟨17, 357, none⟩)]]).run Tryz.prog w = .ok (.bool true) w := by kernel_rfl
theorem isMethodComparable (v : Value) (w : World) : (Go.method 486 272 v "Comparable").run Tryz.prog w = .ok (276, v) w := by kernel_rfl
theorem isComp:(Tryz.prog.info? 357).map (·.comparable)=some true:=by kernel_rfl
theorem isSize:(Tryz.prog.info? 375).map (·.size)=some 1:=by kernel_rfl
theorem noIsE (v:Value) (xT:TypeId) (w:World):(Instr.typeAssert (.iface 357 v) xT 282 true).run Tryz.prog w=.ok (.tuple #[.nilIface,.bool false]) w:=run_typeAssert_lacksB Tryz.underlying282 (by kernel_rfl) (by kernel_rfl) v xT w
theorem noUnwrapE (v:Value) (xT:TypeId) (w:World):(Instr.typeAssert (.iface 357 v) xT 279 true).run Tryz.prog w=.ok (.tuple #[.nilIface,.bool false]) w:=run_typeAssert_lacksB Tryz.underlying279 (by kernel_rfl) (by kernel_rfl) v xT w
theorem noUnwrapsE (v:Value) (xT:TypeId) (w:World):(Instr.typeAssert (.iface 357 v) xT 280 true).run Tryz.prog w=.ok (.tuple #[.nilIface,.bool false]) w:=run_typeAssert_lacksB Tryz.underlying280 (by kernel_rfl) (by kernel_rfl) v xT w
theorem is_same (a:Addr) (w:World) :
  Calls Tryz.prog 94 #[.iface 357 (.pointer (some a)),.iface 357 (.pointer (some a))] w fun e w'=>e=.returned (.bool true)∧w=w':=by
 obtain ⟨i,hi,hcmp⟩:=Option.map_eq_some_iff.1 isComp
 obtain ⟨j,hj,hjs⟩:=Option.map_eq_some_iff.1 isSize
 have h8:=@run_callFunc_extern Tryz.prog 129 _ Extern.ReflectliteType.typeOf Tryz.func129 (by kernel_rfl) (by kernel_rfl) (by kernel_rfl) (by kernel_rfl)
 have h32 := @run_callFunc_extern Tryz.prog 276 _ (Extern.ReflectliteType.method fun t => do Rtype.noPackHeld "Comparable" t; pure (.bool (← typeInfo t).comparable)) Tryz.func276 (by kernel_rfl) (by kernel_rfl) (by kernel_rfl) (by kernel_rfl)
 have tT:=isTypeOf
 have cT:=isComparable
 have mR:=isMethodComparable
 have nE:=noIsE
 have uE:=noUnwrapE
 have vE:=noUnwrapsE
 have heq:=run_eql_iface_ptr_same (P:=Tryz.prog) w a Tryz.underlying27 Tryz.underlying357 hi hcmp hj
 go_enter Tryz.func94,Tryz.ntmps94
 go_wp2
 refine wp_loop_rounds 1 ?_
 rw [rounds_succ]
 go_wp2
 go_ret
 exact ⟨rfl,rfl⟩
theorem is_other (a b:Addr) (ca cb:Array Value) (ta tb:TypeId) (w:World) (hne:a≠b) (ha:w.heap[a.block]?=some (.cells ca ta (0,0))) (hb:w.heap[b.block]?=some (.cells cb tb (0,0))) :
  Calls Tryz.prog 94 #[.iface 357 (.pointer (some a)),.iface 357 (.pointer (some b))] w fun e w'=>e=.returned (.bool false)∧w=w':=by
 obtain ⟨i,hi,hcmp⟩:=Option.map_eq_some_iff.1 isComp
 obtain ⟨j,hj,hjs⟩:=Option.map_eq_some_iff.1 isSize
 have h8:=@run_callFunc_extern Tryz.prog 129 _ Extern.ReflectliteType.typeOf Tryz.func129 (by kernel_rfl) (by kernel_rfl) (by kernel_rfl) (by kernel_rfl)
 have h32 := @run_callFunc_extern Tryz.prog 276 _ (Extern.ReflectliteType.method fun t => do Rtype.noPackHeld "Comparable" t; pure (.bool (← typeInfo t).comparable)) Tryz.func276 (by kernel_rfl) (by kernel_rfl) (by kernel_rfl) (by kernel_rfl)
 have tT:=isTypeOf
 have cT:=isComparable
 have mR:=isMethodComparable
 have nE:=noIsE
 have uE:=noUnwrapE
 have vE:=noUnwrapsE
 have heq:=run_eql_iface_ptr_other (P:=Tryz.prog) w Tryz.underlying27 Tryz.underlying357 hi hcmp hj (by rw [hjs];decide) hne ha hb
 go_enter Tryz.func94,Tryz.ntmps94
 go_wp2
 refine wp_loop_rounds 1 ?_
 rw [rounds_succ]
 go_wp2
 go_ret
 exact ⟨rfl,rfl⟩
end Go.Proofs.YtabbgpjofkaomaaGreatDoor

/- errors.As by contracts, at a target of type **api.Fault: a Fault (it is set), another error (nothing is set). After the kit's worked example Toyas. -/
namespace Go.Proofs.YtabbgpjofkaomaaGreatDoor
open Go.RowKit Go.Extern.Stop Go.Stop Go.Extern
theorem asValueOfT (t:Addr) (w:World):(ReflectliteValue.unpack (.iface 199 (.pointer (some t)))).run Tryz.prog w
  = .ok (.agg #[.pointer (some ⟨17,199,none⟩),.pointer (some ⟨w.heap.size,0,none⟩),.int .u64 150]) (w.alloc (.cells #[.pointer (some t)] 199)):=by kernel_rfl
theorem asTypeT (a : Addr) (w : World) : (ReflectliteValue.methodAny (ReflectliteValue.valueError "reflectlite.Value.Type" 0) (fun t _ _ _ => ReflectliteType.toType t) #[.agg #[.pointer (some ⟨17, 199, none⟩), .pointer (some a), .int .u64 150]]).run Tryz.prog w
  = .ok (.iface 272 (.agg #[.pointer (some ⟨17,199,none⟩)])) w:=by kernel_rfl
theorem asMethodKind (h : Value) (w : World) : (Go.method 486 272 (.agg #[h]) "Kind").run Tryz.prog w = .ok (260, h) w := by kernel_rfl
theorem asKindT (w:World):((ReflectliteType.abiMethod fun t=>(fun a:Nat=>Value.int IntKind.u8 (a:Int)) <$> Rtype.kind t) #[.pointer (some ⟨17,199,none⟩)]).run Tryz.prog w=.ok (.int .u8 22) w:=by kernel_rfl
theorem asKindF (w:World):((ReflectliteType.abiMethod fun t=>(fun a:Nat=>Value.int IntKind.u8 (a:Int)) <$> Rtype.kind t) #[.pointer (some ⟨17,197,none⟩)]).run Tryz.prog w=.ok (.int .u8 22) w:=by kernel_rfl
theorem rlm (z:Sem Value) (f:TypeId→Addr→Nat→Nat→Sem Value) (v:Value) :
  ReflectliteValue.method z f #[v]=(do match ← ReflectliteValue.parts v with|none=>z|some (t,a,fl)=>f t a fl (fl % 32)):=rfl
theorem asPartsT (a:Addr) (w:World):(ReflectliteValue.parts (.agg #[.pointer (some ⟨17,199,none⟩),.pointer (some a),.int .u64 150])).run Tryz.prog w=.ok (some (199,a,150)) w:=by kernel_rfl
theorem asIsNilT (a p:Addr) (W:World) (ha:W.cell? a=some (.pointer (some p))) :
  (ReflectliteValue.method (ReflectliteValue.valueError "reflectlite.Value.IsNil" 0) ReflectliteValue.isNil #[.agg #[.pointer (some ⟨17, 199, none⟩), .pointer (some a), .int .u64 150]]).run Tryz.prog W = .ok (.bool false) W := by
 rw [rlm]
 simp only [Sem.run_bind,asPartsT,Result.andThen]
 simp [ReflectliteValue.isNil,loadVar,isAgg,underlying,Tryz.underlying199,ha,Result.andThen]
theorem asMethodElem (h : Value) (w : World) : (Go.method 486 272 (.agg #[h]) "Elem").run Tryz.prog w = .ok (277, .agg #[h]) w := by kernel_rfl
theorem asMethodImplements (h : Value) (w : World) : (Go.method 486 272 (.agg #[h]) "Implements").run Tryz.prog w = .ok (278, .agg #[h]) w := by kernel_rfl
theorem asMethodAssignableTo (h : Value) (w : World) : (Go.method 486 272 (.agg #[h]) "AssignableTo").run Tryz.prog w = .ok (275, .agg #[h]) w := by kernel_rfl
theorem asElemT (w:World):(ReflectliteType.method ReflectliteType.elem #[.agg #[.pointer (some ⟨17,199,none⟩)]]).run Tryz.prog w=.ok (.iface 272 (.agg #[.pointer (some ⟨17,197,none⟩)])) w:=by kernel_rfl
theorem asImplementsF (w : World) : (ReflectliteType.relation "Implements" ReflectliteType.implements_ #[.agg #[.pointer (some ⟨17, 197, none⟩)], .iface 272 (.agg #[.pointer (some ⟨17, 27, none⟩)])]).run Tryz.prog w = .ok (.bool true) w := by kernel_rfl
theorem asTypeOfF (v:Value) (w:World):(ReflectliteType.typeOf #[.iface 197 v]).run Tryz.prog w=.ok (.iface 272 (.agg #[.pointer (some ⟨17,197,none⟩)])) w:=by kernel_rfl
theorem asAssignableF (w : World) : (ReflectliteType.relation "AssignableTo" ReflectliteType.assignableTo #[.agg #[.pointer (some ⟨17, 197, none⟩)], .iface 272 (.agg #[.pointer (some ⟨17, 197, none⟩)])]).run Tryz.prog w = .ok (.bool true) w := by kernel_rfl
theorem asAssignableE (w : World) : (ReflectliteType.relation "AssignableTo" ReflectliteType.assignableTo #[.agg #[.pointer (some ⟨17, 357, none⟩)], .iface 272 (.agg #[.pointer (some ⟨17, 197, none⟩)])]).run Tryz.prog w = .ok (.bool false) w := by kernel_rfl
theorem asValueOfF (e:Addr) (w:World):(ReflectliteValue.unpack (.iface 197 (.pointer (some e)))).run Tryz.prog w
  = .ok (.agg #[.pointer (some ⟨17,197,none⟩),.pointer (some ⟨w.heap.size,0,none⟩),.int .u64 150]) (w.alloc (.cells #[.pointer (some e)] 197)):=by kernel_rfl
theorem asElemOfT (w:World):(Rtype.elem? 199).run Tryz.prog w=.ok (some 197) w:=by kernel_rfl
theorem asMkF (p:Addr) (w:World):(ReflectliteValue.mk 197 p ReflectliteValue.flagAddr).run Tryz.prog w=.ok (.agg #[.pointer (some ⟨17,197,none⟩),.pointer (some p),.int .u64 406]) w:=by kernel_rfl
theorem asElemV (a p:Addr) (W:World) (ha:W.cell? a=some (.pointer (some p))) :
  (ReflectliteValue.method (ReflectliteValue.valueError "reflectlite.Value.Elem" 0) ReflectliteValue.elem #[.agg #[.pointer (some ⟨17, 199, none⟩), .pointer (some a), .int .u64 150]]).run Tryz.prog W
   = .ok (.agg #[.pointer (some ⟨17,197,none⟩),.pointer (some p),.int .u64 406]) W:=by
 rw [rlm]
 simp only [Sem.run_bind,asPartsT,Result.andThen]
 simp [ReflectliteValue.elem,loadVar,isAgg,underlying,Tryz.underlying199,ha,Result.andThen,asElemOfT,asMkF]
theorem rls (v x:Value):ReflectliteValue.set #[v,x]=(do
  let (some (dst,a,fl),some (src,b,_)):=(← ReflectliteValue.parts v,← ReflectliteValue.parts x)
   | unsupported (.noEntry "extern/(internal/reflectlite.Value).Set.zeroValue")
  if fl / ReflectliteValue.flagAddr % 2 == 0 then unsupported (.noEntry "extern/(internal/reflectlite.Value).Set.unaddressable")
  let val ← loadVar src b
  if ← Rtype.directlyAssignable dst src then storeVar dst a val
  else if ← Rtype.implements dst src then
   if (← Rtype.kind src)==20 then
    match val with
    | .nilIface => unsupported (.noEntry "extern/reflectlite: a nil value of one interface type handed on as a value of another")
    | _=>storeVar dst a val
   else storeVar dst a (.iface src val)
  else panicString ("reflectlite.Set: value of type " ++ (← Rtype.spelt src) ++ " is not assignable to type " ++ (← Rtype.spelt dst))
  pure (.tuple #[])):=rfl
theorem asPartsA (a:Addr) (w:World):(ReflectliteValue.parts (.agg #[.pointer (some ⟨17,197,none⟩),.pointer (some a),.int .u64 406])).run Tryz.prog w=.ok (some (197,a,406)) w:=by kernel_rfl
theorem asPartsF (a:Addr) (w:World):(ReflectliteValue.parts (.agg #[.pointer (some ⟨17,197,none⟩),.pointer (some a),.int .u64 150])).run Tryz.prog w=.ok (some (197,a,150)) w:=by kernel_rfl
theorem asDirectF (w:World):(Rtype.directlyAssignable 197 197).run Tryz.prog w=.ok true w:=by kernel_rfl
theorem asSizeF (w:World):(sizeOf 197).run Tryz.prog w=.ok 1 w:=by kernel_rfl
theorem asSet (ta b e:Addr) (old:Value) (W:World) (hb:W.cell? b=some (.pointer (some e))) (ht:W.cell? ta=some old) (hf:W.frozen? ta=false) :
  (ReflectliteValue.set #[.agg #[.pointer (some ⟨17,197,none⟩),.pointer (some ta),.int .u64 406],.agg #[.pointer (some ⟨17,197,none⟩),.pointer (some b),.int .u64 150]]).run Tryz.prog W
   = .ok (.tuple #[]) (W.setCell ta (.pointer (some e))):=by
 rw [rls]
 simp only [Sem.run_bind,asPartsA,asPartsF,Result.andThen]
 simp [ReflectliteValue.flagAddr,loadVar,isAgg,underlying,Tryz.underlying197,hb,Result.andThen,asDirectF,storeVar,Value.cells,storeCells,Addr.add]
 rw [run_store Tryz.prog W ta _ _ (by rfl)]
 simp [ht,hf]
theorem noAsE (v:Value) (xT:TypeId) (w:World):(Instr.typeAssert (.iface 357 v) xT 276 true).run Tryz.prog w=.ok (.tuple #[.nilIface,.bool false]) w:=run_typeAssert_lacksB Tryz.underlying276 (by kernel_rfl) (by kernel_rfl) v xT w
def Handle (w:World):Prop:=w.cell? ⟨12,0,none⟩=some (.iface 272 (.agg #[.pointer (some ⟨17,27,none⟩)]))
set_option maxHeartbeats 4000000 in
theorem as_hit (e t:Addr) (old:Value) (w:World) (hg:Handle w) (ht0:w.cell? t=some old) (hf0:w.frozen? t=false) :
  Calls Tryz.prog 93 #[.iface 197 (.pointer (some e)),.iface 199 (.pointer (some t))] w fun ev w'=>ev=.returned (.bool true)∧w'=((((w.alloc (.cells #[.pointer (some t)] 199)).alloc (.cells #[.pointer (some ⟨17,199,none⟩),.pointer (some ⟨w.heap.size,0,none⟩),.int .u64 150] 240)).alloc (.cells #[.pointer (some ⟨17,199,none⟩),.pointer (some ⟨w.heap.size,0,none⟩),.int .u64 150] 240)).alloc (.cells #[.pointer (some e)] 197)).setCell t (.pointer (some e)):=by
 unfold Handle at hg
 have h6:=@run_callFunc_extern Tryz.prog 125 _ (fun args=>ReflectliteValue.unpack (args.getD 0 (.tuple #[]))) Tryz.func125 (by kernel_rfl) (by kernel_rfl) (by kernel_rfl) (by kernel_rfl)
 have h7 := @run_callFunc_extern Tryz.prog 126 _ (ReflectliteValue.methodAny (ReflectliteValue.valueError "reflectlite.Value.Type" 0) (fun t _ _ _ => ReflectliteType.toType t)) Tryz.func126 (by kernel_rfl) (by kernel_rfl) (by kernel_rfl) (by kernel_rfl)
 have h8 := @run_callFunc_extern Tryz.prog 127 _ (ReflectliteValue.method (ReflectliteValue.valueError "reflectlite.Value.IsNil" 0) ReflectliteValue.isNil) Tryz.func127 (by kernel_rfl) (by kernel_rfl) (by kernel_rfl) (by kernel_rfl)
 have h27:=@run_callFunc_extern Tryz.prog 260 _ (ReflectliteType.abiMethod fun t=>do pure (.int .u8 (← Rtype.kind t))) Tryz.func260 (by kernel_rfl) (by kernel_rfl) (by kernel_rfl) (by kernel_rfl)
 have h37:=@run_callFunc_extern Tryz.prog 277 _ (ReflectliteType.method ReflectliteType.elem) Tryz.func277 (by kernel_rfl) (by kernel_rfl) (by kernel_rfl) (by kernel_rfl)
 have h38 := @run_callFunc_extern Tryz.prog 278 _ (ReflectliteType.relation "Implements" ReflectliteType.implements_) Tryz.func278 (by kernel_rfl) (by kernel_rfl) (by kernel_rfl) (by kernel_rfl)
 have h10:=@run_callFunc_extern Tryz.prog 129 _ ReflectliteType.typeOf Tryz.func129 (by kernel_rfl) (by kernel_rfl) (by kernel_rfl) (by kernel_rfl)
 have h35 := @run_callFunc_extern Tryz.prog 275 _ (ReflectliteType.relation "AssignableTo" ReflectliteType.assignableTo) Tryz.func275 (by kernel_rfl) (by kernel_rfl) (by kernel_rfl) (by kernel_rfl)
 have h11 := @run_callFunc_extern Tryz.prog 157 _ (ReflectliteValue.method (ReflectliteValue.valueError "reflectlite.Value.Elem" 0) ReflectliteValue.elem) Tryz.func157 (by kernel_rfl) (by kernel_rfl) (by kernel_rfl) (by kernel_rfl)
 have h12:=@run_callFunc_extern Tryz.prog 158 _ ReflectliteValue.set Tryz.func158 (by kernel_rfl) (by kernel_rfl) (by kernel_rfl) (by kernel_rfl)
 have f6:=asValueOfT
 have f7:=asTypeT
 have mA:=asMethodAssignableTo
 have mK:=asMethodKind
 have mE:=asMethodElem
 have mI:=asMethodImplements
 have k27:=asKindT
 have k25:=asKindF
 have e27:=asElemT
 have i25:=asImplementsF
 have tO:=asTypeOfF
 have a25:=asAssignableF
 have v25:=asValueOfF
 have hlt:12<w.heap.size:=lt_of_cell hg
 have n8:=asIsNilT ⟨w.heap.size,0,none⟩ t ((w.alloc (.cells #[.pointer (some t)] 199)).alloc (.cells #[.pointer (some ⟨17,199,none⟩),.pointer (some ⟨w.heap.size,0,none⟩),.int .u64 150] 240)) (by simp)
 have hg2:((w.alloc (.cells #[.pointer (some t)] 199)).alloc (.cells #[.pointer (some ⟨17,199,none⟩),.pointer (some ⟨w.heap.size,0,none⟩),.int .u64 150] 240)).cell? ⟨12,0,none⟩=some (.iface 272 (.agg #[.pointer (some ⟨17,27,none⟩)])):=by
  rw [World.cell?_alloc_lt _ _ ⟨12,0,none⟩ (by simp;omega),World.cell?_alloc_lt _ _ ⟨12,0,none⟩ hlt];exact hg
 have htl:t.block<w.heap.size:=by
  rcases Nat.lt_or_ge t.block w.heap.size with h|h
  ·exact h
  ·simp [World.cell?,Array.getElem?_eq_none h] at ht0
 have el:=asElemV ⟨w.heap.size,0,none⟩ t (((w.alloc (.cells #[.pointer (some t)] 199)).alloc (.cells #[.pointer (some ⟨17,199,none⟩),.pointer (some ⟨w.heap.size,0,none⟩),.int .u64 150] 240)).alloc (.cells #[.pointer (some ⟨17,199,none⟩),.pointer (some ⟨w.heap.size,0,none⟩),.int .u64 150] 240)) (by rw [World.cell?_alloc_lt _ _ ⟨w.heap.size,0,none⟩ (by simp;omega)];simp)
 have st:=asSet t ⟨w.heap.size+1+1+1,0,none⟩ e old ((((w.alloc (.cells #[.pointer (some t)] 199)).alloc (.cells #[.pointer (some ⟨17,199,none⟩),.pointer (some ⟨w.heap.size,0,none⟩),.int .u64 150] 240)).alloc (.cells #[.pointer (some ⟨17,199,none⟩),.pointer (some ⟨w.heap.size,0,none⟩),.int .u64 150] 240)).alloc (.cells #[.pointer (some e)] 197))
  (by rw [World.cell?_alloc_at _ _ _ _ (by simp)];rfl)
  (by rw [World.cell?_alloc_lt _ _ t (by simp;omega),World.cell?_alloc_lt _ _ t (by simp;omega),World.cell?_alloc_lt _ _ t (by simp;omega),World.cell?_alloc_lt _ _ t htl];exact ht0)
  (by rw [World.frozen?_alloc_old _ _ t (by simp;omega),World.frozen?_alloc_old _ _ t (by simp;omega),World.frozen?_alloc_old _ _ t (by simp;omega),World.frozen?_alloc_old _ _ t (Nat.ne_of_lt htl)];exact hf0)
 go_enter Tryz.func93,Tryz.ntmps93
 go_wp2
 refine wp_loop_rounds 1 ?_
 rw [rounds_succ]
 go_wp2
 go_ret
 exact ⟨rfl,rfl⟩
set_option maxHeartbeats 4000000 in
theorem as_miss (e t:Addr) (w:World) (hg:Handle w) :
  Calls Tryz.prog 93 #[.iface 357 (.pointer (some e)),.iface 199 (.pointer (some t))] w fun ev w'=>ev=.returned (.bool false)∧Ex w w':=by
 unfold Handle at hg
 have h6:=@run_callFunc_extern Tryz.prog 125 _ (fun args=>ReflectliteValue.unpack (args.getD 0 (.tuple #[]))) Tryz.func125 (by kernel_rfl) (by kernel_rfl) (by kernel_rfl) (by kernel_rfl)
 have h7 := @run_callFunc_extern Tryz.prog 126 _ (ReflectliteValue.methodAny (ReflectliteValue.valueError "reflectlite.Value.Type" 0) (fun t _ _ _ => ReflectliteType.toType t)) Tryz.func126 (by kernel_rfl) (by kernel_rfl) (by kernel_rfl) (by kernel_rfl)
 have h8 := @run_callFunc_extern Tryz.prog 127 _ (ReflectliteValue.method (ReflectliteValue.valueError "reflectlite.Value.IsNil" 0) ReflectliteValue.isNil) Tryz.func127 (by kernel_rfl) (by kernel_rfl) (by kernel_rfl) (by kernel_rfl)
 have h27:=@run_callFunc_extern Tryz.prog 260 _ (ReflectliteType.abiMethod fun t=>do pure (.int .u8 (← Rtype.kind t))) Tryz.func260 (by kernel_rfl) (by kernel_rfl) (by kernel_rfl) (by kernel_rfl)
 have h37:=@run_callFunc_extern Tryz.prog 277 _ (ReflectliteType.method ReflectliteType.elem) Tryz.func277 (by kernel_rfl) (by kernel_rfl) (by kernel_rfl) (by kernel_rfl)
 have h38 := @run_callFunc_extern Tryz.prog 278 _ (ReflectliteType.relation "Implements" ReflectliteType.implements_) Tryz.func278 (by kernel_rfl) (by kernel_rfl) (by kernel_rfl) (by kernel_rfl)
 have h10:=@run_callFunc_extern Tryz.prog 129 _ ReflectliteType.typeOf Tryz.func129 (by kernel_rfl) (by kernel_rfl) (by kernel_rfl) (by kernel_rfl)
 have h35 := @run_callFunc_extern Tryz.prog 275 _ (ReflectliteType.relation "AssignableTo" ReflectliteType.assignableTo) Tryz.func275 (by kernel_rfl) (by kernel_rfl) (by kernel_rfl) (by kernel_rfl)
 have h11 := @run_callFunc_extern Tryz.prog 157 _ (ReflectliteValue.method (ReflectliteValue.valueError "reflectlite.Value.Elem" 0) ReflectliteValue.elem) Tryz.func157 (by kernel_rfl) (by kernel_rfl) (by kernel_rfl) (by kernel_rfl)
 have h12:=@run_callFunc_extern Tryz.prog 158 _ ReflectliteValue.set Tryz.func158 (by kernel_rfl) (by kernel_rfl) (by kernel_rfl) (by kernel_rfl)
 have f6:=asValueOfT
 have f7:=asTypeT
 have mA:=asMethodAssignableTo
 have mK:=asMethodKind
 have mE:=asMethodElem
 have mI:=asMethodImplements
 have k27:=asKindT
 have k25:=asKindF
 have e27:=asElemT
 have i25:=asImplementsF
 have tO:=isTypeOf
 have aE:=asAssignableE
 have nE:=noAsE
 have uE:=noUnwrapE
 have vE:=noUnwrapsE
 have hlt:12<w.heap.size:=lt_of_cell hg
 have n8:=asIsNilT ⟨w.heap.size,0,none⟩ t ((w.alloc (.cells #[.pointer (some t)] 199)).alloc (.cells #[.pointer (some ⟨17,199,none⟩),.pointer (some ⟨w.heap.size,0,none⟩),.int .u64 150] 240)) (by simp)
 have hg2:((w.alloc (.cells #[.pointer (some t)] 199)).alloc (.cells #[.pointer (some ⟨17,199,none⟩),.pointer (some ⟨w.heap.size,0,none⟩),.int .u64 150] 240)).cell? ⟨12,0,none⟩=some (.iface 272 (.agg #[.pointer (some ⟨17,27,none⟩)])):=by
  rw [World.cell?_alloc_lt _ _ ⟨12,0,none⟩ (by simp;omega),World.cell?_alloc_lt _ _ ⟨12,0,none⟩ hlt];exact hg
 go_enter Tryz.func93,Tryz.ntmps93
 go_wp2
 refine wp_loop_rounds 1 ?_
 rw [rounds_succ]
 go_wp2
 go_ret
 exact ⟨rfl,(by repeat (first|exact Ex.refl _|refine Ex.alloc ?_ _|refine Ex.ext ?_ _ _|refine Ex.drew ?_|refine Ex.drewN ?_ _))⟩
end Go.Proofs.YtabbgpjofkaomaaGreatDoor
