import Derived.Test.YtabbgpjofkaomaaGreatDoorJ0
import Derived.Test.YtabbgpjofkaomaaGreatDoorChecked
import Derived.Deep.DeepCutAuto
import Derived.Laws.BytesArg
import Derived.Test.YtabbgpjofkaomaaGreatDoorJ24
import Derived.Test.YtabbgpjofkaomaaGreatDoorWire
import Derived.Deep.RegionLawGrows
import Derived.Deep.RegionWith
import Derived.Deep.Slices
import Derived.Lib.SmallJoins
import Derived.Deep.OwnRows
import Derived.Deep.RegionHeld3
set_option linter.unusedSimpArgs false
set_option linter.unusedVariables false
/- What wire's Sum computes. -/
namespace Go.Proofs.YtabbgpjofkaomaaGreatDoor
open Go.RowKit
theorem bits_xor_u32 (a b:Nat) (ha:a<4294967296) (hb:b<4294967296):bits .xor .u32 (a:Int) (b:Int)=((a ^^^ b:Nat):Int):=by
 have hx:a ^^^ b<2 ^ 32:=Nat.xor_lt_two_pow (by omega) (by omega)
 have h1:(BitVec.ofInt 32 (a:Int)).toNat=a:=by rw [BitVec.ofInt_natCast,BitVec.toNat_ofNat];exact Nat.mod_eq_of_lt (by omega)
 have h2:(BitVec.ofInt 32 (b:Int)).toNat=b:=by rw [BitVec.ofInt_natCast,BitVec.toNat_ofNat];exact Nat.mod_eq_of_lt (by omega)
 show IntKind.u32.wrap ((BitVec.ofInt 32 (a:Int) ^^^ BitVec.ofInt 32 (b:Int)).toNat:Int)=_
 rw [BitVec.toNat_xor,h1,h2,IntKind.wrap_u32]
 omega
theorem bits_and1_u32 (a:Nat) (ha:a<4294967296):bits .and .u32 (a:Int) 1=((a % 2:Nat):Int):=by
 have h1:(BitVec.ofInt 32 (a:Int)).toNat=a:=by rw [BitVec.ofInt_natCast,BitVec.toNat_ofNat];exact Nat.mod_eq_of_lt (by omega)
 show IntKind.u32.wrap ((BitVec.ofInt 32 (a:Int) &&& BitVec.ofInt 32 (1:Int)).toNat:Int)=_
 rw [BitVec.toNat_and,h1,IntKind.wrap_u32]
 have:a &&& (BitVec.ofInt 32 (1:Int)).toNat=a % 2:=by
  rw [show (BitVec.ofInt 32 (1:Int)).toNat=1 by decide]
  exact Nat.and_one_is_mod a
 rw [this]
 omega
def crcBit (c:Nat):Nat:=(c / 2) ^^^ (3988292384*(c % 2))
theorem crcBit_lt (c:Nat) (h:c<4294967296):crcBit c<4294967296:=by
 unfold crcBit
 have:c % 2=0∨c % 2=1:=by omega
 refine Nat.xor_lt_two_pow (n:=32) (by omega) (by rcases this with h|h<;>rw [h]<;>decide)
def crcBits:Nat→Nat→Nat
 | 0,c=>c
 | n+1,c=>crcBits n (crcBit c)
theorem crcBits_lt:∀ (n c:Nat),c<4294967296→crcBits n c<4294967296
 | 0,_,h=>h
 | n+1,c,h=>crcBits_lt n _ (crcBit_lt c h)
theorem crcBits_succ:∀ (n c:Nat),crcBits (n+1) c=crcBit (crcBits n c)
 | 0,_=>rfl
 | n+1,c=>crcBits_succ n (crcBit c)
def crcStep (c:Nat) (b:UInt8):Nat:=crcBits 8 (c ^^^ b.toNat)
theorem crcStep_lt (c:Nat) (b:UInt8) (h:c<4294967296):crcStep c b<4294967296 :=
 crcBits_lt _ _ (Nat.xor_lt_two_pow (n:=32) h (Nat.lt_trans b.toNat_lt (by decide)))
def crcFold (l:List UInt8) (c:Nat):Nat:=l.foldl crcStep c
theorem crcFold_lt:∀ (l:List UInt8) (c:Nat),c<4294967296→crcFold l c<4294967296
 | [],_,h=>h
 | b::l,c,h=>crcFold_lt l _ (crcStep_lt c b h)
def crc (l:List UInt8):Nat:=4294967295 ^^^ crcFold l 4294967295
theorem crc_lt (l:List UInt8):crc l<4294967296:=Nat.xor_lt_two_pow (n:=32) (by decide) (crcFold_lt l _ (by decide))
theorem crcFold_snoc (l:List UInt8) (b:UInt8) (c:Nat):crcFold (l++[b]) c=crcStep (crcFold l c) b:=by simp [crcFold]
theorem take_snoc (s:ByteArray) (k:Nat) (h:k<s.size):s.data.toList.take (k+1)=s.data.toList.take k++[s[k]]:=by
 rw [List.take_succ_eq_append_getElem (by simpa using h)];rfl
set_option maxRecDepth 100000 in
set_option maxHeartbeats 1000000 in
theorem sum_any (s:ByteArray) (w:World) (hs:s.size≤maxLen) :
  Calls Tryz.prog 107 #[.string s] w fun e w'=>e=.returned (.int .u32 (crc s.data.toList))∧w=w':=by
 unfold maxLen at hs
 go_enter Tryz.func107,Tryz.ntmps107
 go_wp2
 go_loop [3,7] (fun c i=>∃ (k:Nat),k≤s.size∧i=.int .i64 k∧c=.int .u32 (crcFold (s.data.toList.take k) 4294967295)) (fun _ i=>s.size - (intOf i).toNat)
 case atStart=>exact ⟨0,Nat.zero_le _,rfl,rfl⟩
 case round =>
  obtain ⟨k,hk,rfl,rfl⟩:=hrel
  have hx:=crcFold_lt (s.data.toList.take k) 4294967295 (by decide)
  by_cases hlt:k<s.size
  ·have hb:(s[k]).toNat<256:=(s[k]).toNat_lt
   have hsn:=crcFold_snoc (s.data.toList.take k) s[k] 4294967295
   rw [← take_snoc s k hlt] at hsn
   have HS:=Lib.hid hsn
   clear hsn
   generalize hg:crcFold (s.data.toList.take k) 4294967295=x at *
   clear hg
   have e1:((s[k].toNat:Int) % 4294967296)=(s[k].toNat:Int):=by omega
   have e2:=bits_xor_u32 x s[k].toNat hx (by omega)
   go_wp2
   have hy:x ^^^ s[k].toNat<4294967296:=Nat.xor_lt_two_pow (n:=32) hx (by omega)
   have HY:crcBits 8 (x ^^^ s[k].toNat)=crcFold (s.data.toList.take (k+1)) 4294967295:=HS.out.symm
   have HY:=Lib.hid HY
   clear HS e1 e2
   generalize x ^^^ s[k].toNat=y at *
   go_loop [3,16] (fun c j=>∃ (m:Nat),m≤8∧j=.int .i64 m∧c=.int .u32 (crcBits m y)) (fun _ j=>8 - (intOf j).toNat)
   case atStart=>exact ⟨0,by omega,rfl,rfl⟩
   case round =>
    obtain ⟨m,hm,rfl,rfl⟩:=hrel
    by_cases hm8:m<8
    ·have hz:=crcBits_lt m y hy
     have hsn:=crcBits_succ m y
     have HS:=Lib.hid hsn
     clear hsn
     generalize crcBits m y=z at *
     have e3:=bits_and1_u32 z hz
     go_wp2
     have hb2:crcBit z=z / 2 ^^^ 3988292384*(z % 2):=rfl
     have hm2:z % 2=0∨z % 2=1:=by omega
     go_round
     case rel =>
      refine ⟨m+1,by omega,by go_num,?_⟩
      rw [HS.out,hb2,← bits_xor_u32 (z / 2) (3988292384*(z % 2)) (by omega) (by rcases hm2 with h|h<;>rw [h]<;>decide)]
      congr 2
     case measure=>simp [intOf];omega
    ·obtain rfl:m=8:=by omega
     go_wp2
     go_round
     case rel=>exact ⟨k+1,by omega,by go_num,by rw [HY.out]⟩
     case measure=>simp [intOf];omega
  ·obtain rfl:k=s.size:=by omega
   have HC:crc s.data.toList=4294967295 ^^^ crcFold (s.data.toList.take s.size) 4294967295:=by
    rw [List.take_of_length_le (by simp)];rfl
   go_wp2
   go_ret
   refine ⟨ret_int ?_,rfl⟩
   rw [← bits_xor_u32 _ _ (by decide) hx]
   rfl
end Go.Proofs.YtabbgpjofkaomaaGreatDoor

/- What wire's Low computes. -/
namespace Go.Proofs.YtabbgpjofkaomaaGreatDoor
open Go.RowKit
theorem xor_div_two (a b:Nat):(a ^^^ b) / 2=(a / 2) ^^^ (b / 2):=by
 have:=Nat.xor_div_two_pow (a:=a) (b:=b) (n:=1)
 simpa using this
theorem bits_or_i64 (a b:Nat) (ha:a<4294967296) (hb:b<4294967296):bits .or .i64 (a:Int) (b:Int)=((a ||| b:Nat):Int):=by
 have hx:a ||| b<2 ^ 32:=Nat.or_lt_two_pow (by omega) (by omega)
 have h1:(BitVec.ofInt 64 (a:Int)).toNat=a:=by rw [BitVec.ofInt_natCast,BitVec.toNat_ofNat];exact Nat.mod_eq_of_lt (by omega)
 have h2:(BitVec.ofInt 64 (b:Int)).toNat=b:=by rw [BitVec.ofInt_natCast,BitVec.toNat_ofNat];exact Nat.mod_eq_of_lt (by omega)
 show IntKind.i64.wrap ((BitVec.ofInt 64 (a:Int) ||| BitVec.ofInt 64 (b:Int)).toNat:Int)=_
 rw [BitVec.toNat_or,h1,h2]
 simp [IntKind.wrap,IntKind.bits,IntKind.signed]
 omega
theorem or_low (a b k:Nat) (hb:b<2 ^ k):(a*2 ^ k) ||| b=a*2 ^ k+b:=by
 rw [Nat.mul_comm,Nat.two_pow_add_eq_or_of_lt hb]
def highB (n:Int):List Int:=[n / 16777216,n / 65536 % 256,n / 256 % 256,n % 256]
def lowB (v:Nat):List Int:=[(v:Int) % 256,(v:Int) / 256 % 256,(v:Int) / 65536 % 256,(v:Int) / 16777216]
set_option maxRecDepth 100000 in
theorem wireLow_any (v:Nat) (w:World) (h1:v<4294967296) :
  Calls Tryz.prog 106 #[.int .u32 v] w fun e w'=>e=.returned (.string (strOfNums (lowB v)))∧Ex w w':=by
 have hconv:=run_convert_bytes_arg (P:=Tryz.prog) (w.alloc (.cells #[.int .u8 ((v:Int) % 256),.int .u8 ((v:Int) / 256 % 256),.int .u8 ((v:Int) / 65536 % 256),.int .u8 ((v:Int) / 16777216)] 5))
  135 5 Tryz.underlying135 Tryz.underlying5 w.heap.size 0 4 4 (lowB v) rfl
  (fun i hi=>by
   match i,hi with
   | 0,_=>simp [lowB]
   | 1,_=>simp [lowB]
   | 2,_=>simp [lowB]
   | 3,_=>simp [lowB]) 9 Tryz.underlying9
 go_enter Tryz.func106,Tryz.ntmps106
 go_wp2
 go_ret
 exact ⟨rfl,(by repeat (first|exact Ex.refl _|refine Ex.alloc ?_ _|refine Ex.ext ?_ _ _|refine Ex.drew ?_|refine Ex.drewN ?_ _))⟩
end Go.Proofs.YtabbgpjofkaomaaGreatDoor

/- What the document's answer's CRC computes: the same sum. -/
namespace Go.Proofs.YtabbgpjofkaomaaGreatDoor
open Go.RowKit
theorem bits_xor_i64 (a b:Nat) (ha:a<4294967296) (hb:b<4294967296):bits .xor .i64 (a:Int) (b:Int)=((a ^^^ b:Nat):Int):=by
 have hx:a ^^^ b<2 ^ 32:=Nat.xor_lt_two_pow (by omega) (by omega)
 have h1:(BitVec.ofInt 64 (a:Int)).toNat=a:=by rw [BitVec.ofInt_natCast,BitVec.toNat_ofNat];exact Nat.mod_eq_of_lt (by omega)
 have h2:(BitVec.ofInt 64 (b:Int)).toNat=b:=by rw [BitVec.ofInt_natCast,BitVec.toNat_ofNat];exact Nat.mod_eq_of_lt (by omega)
 show IntKind.i64.wrap ((BitVec.ofInt 64 (a:Int) ^^^ BitVec.ofInt 64 (b:Int)).toNat:Int)=_
 rw [BitVec.toNat_xor,h1,h2]
 simp [IntKind.wrap,IntKind.bits,IntKind.signed]
 omega
theorem crcRef_step (d e:Nat):(d ^^^ e) / 2 ^^^ (3988292384*(d % 2))=crcBit d ^^^ (e / 2):=by
 rw [xor_div_two,crcBit,Nat.xor_assoc,Nat.xor_comm (e / 2),← Nat.xor_assoc]
set_option maxRecDepth 100000 in
set_option maxHeartbeats 1000000 in
theorem crcRef_any (s:ByteArray) (w:World) (hs:s.size≤maxLen) :
  Calls Tryz.prog 52 #[.string s] w fun e w'=>e=.returned (.int .i64 (crc s.data.toList))∧w=w':=by
 unfold maxLen at hs
 go_enter Tryz.func52,Tryz.ntmps52
 go_wp2
 go_loop [3,4] (fun c i=>∃ (k:Nat),k≤s.size∧i=.int .i64 k∧c=.int .i64 (crcFold (s.data.toList.take k) 4294967295)) (fun _ i=>s.size - (intOf i).toNat)
 case atStart=>exact ⟨0,Nat.zero_le _,rfl,rfl⟩
 case round =>
  obtain ⟨k,hk,rfl,rfl⟩:=hrel
  have hx:=crcFold_lt (s.data.toList.take k) 4294967295 (by decide)
  by_cases hlt:k<s.size
  ·have hb:(s[k]).toNat<256:=(s[k]).toNat_lt
   have hsn:=crcFold_snoc (s.data.toList.take k) s[k] 4294967295
   rw [← take_snoc s k hlt] at hsn
   have HS:=Lib.hid hsn
   clear hsn
   generalize hg:crcFold (s.data.toList.take k) 4294967295=x at *
   clear hg
   have hy:x ^^^ s[k].toNat<4294967296:=Nat.xor_lt_two_pow (n:=32) hx (by omega)
   have HY:Hid (crcBits 8 (x ^^^ s[k].toNat)=crcFold (s.data.toList.take (k+1)) 4294967295):=Lib.hid HS.out.symm
   have HX:Hid ((x ^^^ s[k].toNat) ^^^ s[k].toNat=x):=Lib.hid (by rw [Nat.xor_assoc,Nat.xor_self,Nat.xor_zero])
   clear HS
   generalize x ^^^ s[k].toNat=y at *
   go_wp2
   go_loop [3,5] (fun c j=>∃ (m:Nat),m≤8∧j=.int .i64 m∧c=.int .i64 ((crcBits m y ^^^ (s[k].toNat / 2 ^ m):Nat):Int)) (fun _ j=>8 - (intOf j).toNat)
   case atStart=>exact ⟨0,by omega,rfl,by rw [Nat.pow_zero,Nat.div_one];show _=Value.int .i64 ((y ^^^ s[k].toNat:Nat):Int);rw [HX.out]⟩
   case round =>
    obtain ⟨m,hm,rfl,rfl⟩:=hrel
    by_cases hm8:m<8
    ·have hz:=crcBits_lt m y hy
     have HN:Hid (crcBits (m+1) y ^^^ (s[k].toNat / 2 ^ (m+1))=(crcBits m y ^^^ (s[k].toNat / 2 ^ m)) / 2 ^^^ (3988292384*(crcBits m y % 2))):=Lib.hid (by
      rw [crcRef_step,crcBits_succ,Nat.pow_succ,Nat.div_div_eq_div_mul])
     have he:((s[k].toNat:Nat):Int) / 2 ^ m=((s[k].toNat / 2 ^ m:Nat):Int):=by
      rw [Int.natCast_ediv,Int.natCast_pow];rfl
     have he2:s[k].toNat / 2 ^ m<256:=Nat.lt_of_le_of_lt (Nat.div_le_self _ _) hb
     generalize crcBits m y=d at *
     generalize s[k].toNat / 2 ^ m=e at *
     have hc:d ^^^ e<4294967296:=Nat.xor_lt_two_pow (n:=32) hz (by omega)
     have hxx:=bits_xor_i64 (d ^^^ e) e hc (by omega)
     rw [Nat.xor_assoc,Nat.xor_self,Nat.xor_zero] at hxx
     have hmin:min m 64=m:=by omega
     generalize d ^^^ e=c at *
     have hq:((c:Nat):Int).tdiv 2=((c / 2:Nat):Int):=by rw [Int.tdiv_eq_ediv_of_nonneg (by omega)];omega
     have h2:d % 2=0∨d % 2=1:=by omega
     have hpx:=bits_xor_i64 (c / 2) 3988292384 (by omega) (by decide)
     rcases h2 with h2|h2
     ·have ht:((d:Nat):Int).tmod 2=0:=by rw [Int.tmod_eq_emod_of_nonneg (by omega)];omega
      rw [h2,Nat.mul_zero,Nat.xor_zero] at HN
      go_wp2
      all_goals
       go_round
       case rel=>exact ⟨m+1,by omega,by go_num,by rw [HN.out];congr 1⟩
       case measure=>simp [intOf];omega
     ·have ht:((d:Nat):Int).tmod 2=1:=by rw [Int.tmod_eq_emod_of_nonneg (by omega)];omega
      rw [h2,Nat.mul_one] at HN
      go_wp2
      all_goals
       go_round
       case rel=>exact ⟨m+1,by omega,by go_num,by rw [HN.out,← hpx];rfl⟩
       case measure=>simp [intOf];omega
    ·obtain rfl:m=8:=by omega
     have HZ:Hid (crcBits 8 y ^^^ (s[k].toNat / 2 ^ 8)=crcFold (s.data.toList.take (k+1)) 4294967295):=Lib.hid (by
      rw [Nat.div_eq_of_lt (show s[k].toNat<2 ^ 8 by omega),Nat.xor_zero];exact HY.out)
     go_wp2
     go_round
     case rel=>exact ⟨k+1,by omega,by go_num,by rw [HZ.out]⟩
     case measure=>simp [intOf];omega
  ·obtain rfl:k=s.size:=by omega
   have HC:crc s.data.toList=4294967295 ^^^ crcFold (s.data.toList.take s.size) 4294967295:=by
    rw [List.take_of_length_le (by simp)];rfl
   have HC:=Lib.hid HC
   generalize crcFold (s.data.toList.take s.size) 4294967295=x at *
   have hpx:=bits_xor_i64 x 4294967295 hx (by decide)
   go_wp2
   go_ret
   exact ⟨by rw [Nat.xor_comm 4294967295];exact congrArg (fun z=>Ending.returned (.int .i64 z)) hpx,rfl⟩
end Go.Proofs.YtabbgpjofkaomaaGreatDoor

/- What the document's answer's Byte, High, Low and Number compute. -/
namespace Go.Proofs.YtabbgpjofkaomaaGreatDoor
open Go.RowKit
theorem byteRef_any (n:Int) (w:World) (h0:0≤n) (h1:n<256):Calls Tryz.prog 49 #[.int .i64 n] w fun e w'=>e=.returned (.string (strOfNums [n]))∧Ex w w':=by
 have hconv:=run_convert_bytes_arg (P:=Tryz.prog) (w.alloc (.cells #[.int .u8 n] 5))
  135 5 Tryz.underlying135 Tryz.underlying5 w.heap.size 0 1 1 [n] rfl
  (fun i hi=>by
   match i,hi with
   | 0,_=>simp) 9 Tryz.underlying9
 have hw:IntKind.u8.wrap n=n:=IntWalk.u8_in _ (by omega)
 go_enter Tryz.func49,Tryz.ntmps49
 go_wp2
 go_ret
 exact ⟨rfl,(by repeat (first|exact Ex.refl _|refine Ex.alloc ?_ _|refine Ex.ext ?_ _ _|refine Ex.drew ?_|refine Ex.drewN ?_ _))⟩
set_option maxRecDepth 100000 in
theorem highRef_any (n:Int) (w:World) (h0:0≤n) (h1:n<4294967296):Calls Tryz.prog 50 #[.int .i64 n] w fun e w'=>e=.returned (.string (strOfNums (highB n)))∧Ex w w':=by
 have q1:n.tdiv 16777216=n / 16777216:=Int.tdiv_eq_ediv_of_nonneg h0
 have q2:n.tdiv 65536=n / 65536:=Int.tdiv_eq_ediv_of_nonneg h0
 have q3:n.tdiv 256=n / 256:=Int.tdiv_eq_ediv_of_nonneg h0
 have r2:(n / 65536).tmod 256=n / 65536 % 256:=Int.tmod_eq_emod_of_nonneg (by omega)
 have r3:(n / 256).tmod 256=n / 256 % 256:=Int.tmod_eq_emod_of_nonneg (by omega)
 have r4:n.tmod 256=n % 256:=Int.tmod_eq_emod_of_nonneg h0
 have HB:=Lib.hid byteRef_any
 go_enter Tryz.func50,Tryz.ntmps50
 go_wp2_with (go_at_call 49;refine (HB.out _ _ (by omega) (by omega)).mono ?_;rintro e w1 ⟨rfl,l1,d1,rfl⟩)
 all_goals go_ret
 all_goals exact ⟨by rw [strOfNums_append,strOfNums_append,strOfNums_append];rfl,(by repeat (first|exact Ex.refl _|refine Ex.alloc ?_ _|refine Ex.ext ?_ _ _|refine Ex.drew ?_|refine Ex.drewN ?_ _))⟩
set_option maxRecDepth 100000 in
theorem lowRef_any (v:Nat) (w:World) (h1:v<4294967296):Calls Tryz.prog 51 #[.int .i64 (v:Int)] w fun e w'=>e=.returned (.string (strOfNums (lowB v)))∧Ex w w':=by
 obtain ⟨n,hn⟩:∃ n:Int,n=(v:Int):=⟨_,rfl⟩
 have h0:0≤n:=by omega
 have h2:n<4294967296:=by omega
 have hl:lowB v=[n % 256,n / 256 % 256,n / 65536 % 256,n / 16777216]:=by rw [lowB,hn]
 rw [hl,← hn]
 clear hl hn h1
 have q1:n.tdiv 16777216=n / 16777216:=Int.tdiv_eq_ediv_of_nonneg h0
 have q2:n.tdiv 65536=n / 65536:=Int.tdiv_eq_ediv_of_nonneg h0
 have q3:n.tdiv 256=n / 256:=Int.tdiv_eq_ediv_of_nonneg h0
 have r2:(n / 65536).tmod 256=n / 65536 % 256:=Int.tmod_eq_emod_of_nonneg (by omega)
 have r3:(n / 256).tmod 256=n / 256 % 256:=Int.tmod_eq_emod_of_nonneg (by omega)
 have r4:n.tmod 256=n % 256:=Int.tmod_eq_emod_of_nonneg h0
 have HB:=Lib.hid byteRef_any
 go_enter Tryz.func51,Tryz.ntmps51
 go_wp2_with (go_at_call 49;refine (HB.out _ _ (by omega) (by omega)).mono ?_;rintro e w1 ⟨rfl,l1,d1,rfl⟩)
 all_goals go_ret
 all_goals exact ⟨by rw [strOfNums_append,strOfNums_append,strOfNums_append];rfl,(by repeat (first|exact Ex.refl _|refine Ex.alloc ?_ _|refine Ex.ext ?_ _ _|refine Ex.drew ?_|refine Ex.drewN ?_ _))⟩
def numL (l:List UInt8):Nat:=l.foldl (fun n b=>256*n+b.toNat) 0
end Go.Proofs.YtabbgpjofkaomaaGreatDoor

/- What the document's AskError computes: the same number as wire's Check. -/
namespace Go.Proofs.YtabbgpjofkaomaaGreatDoor
open Go.RowKit
theorem Ask.common_iff (a:Ask):a.common=true↔(0≤a.client∧a.client≤5)∧(0≤a.seq∧a.seq≤1073741824)∧(0≤a.id∧a.id≤1073741824):=by
 simp only [Ask.common,Bool.and_eq_true,inR_iff,and_assoc]
theorem Ask.place_iff (a:Ask):a.place=true↔(0≤a.item∧a.item≤2)∧(0≤a.side∧a.side≤1)∧(1≤a.price∧a.price≤1000)∧(1≤a.qty∧a.qty≤1000):=by
 simp only [Ask.place,Bool.and_eq_true,inR_iff,and_assoc]
theorem Ask.rest5_iff (a:Ask):a.rest5=true↔a.item≠0∨a.side≠0∨a.price≠0∨a.qty≠0∨a.id≠0:=by
 simp only [Ask.rest5,Bool.or_eq_true,bne_iff_ne,or_assoc]
theorem Ask.rest3_iff (a:Ask):a.rest3=true↔a.side≠0∨a.price≠0∨a.qty≠0:=by
 simp only [Ask.rest3,Bool.or_eq_true,bne_iff_ne,or_assoc]
theorem Ask.err_place {a:Ask} (h:a.kind=111):a.err=if ((0≤a.client∧a.client≤5)∧(0≤a.seq∧a.seq≤1073741824)∧(0≤a.id∧a.id≤1073741824))∧(0≤a.item∧a.item≤2)∧(0≤a.side∧a.side≤1)∧(1≤a.price∧a.price≤1000)∧(1≤a.qty∧a.qty≤1000) then 0 else 2:=by
 unfold Ask.err
 rw [h]
 simp only [show ((111:Int)==108 || (111:Int)==104 || (111:Int)==113)=false by decide,Bool.false_eq_true,if_false,beq_self_eq_true,if_true,Bool.and_eq_true,Ask.common_iff,Ask.place_iff]
theorem Ask.err_cancel {a:Ask} (h:a.kind=99):a.err=if ((0≤a.client∧a.client≤5)∧(0≤a.seq∧a.seq≤1073741824)∧(0≤a.id∧a.id≤1073741824))∧(0≤a.item∧a.item≤2) then (if a.side≠0∨a.price≠0∨a.qty≠0 then 3 else 0) else 2:=by
 unfold Ask.err
 rw [h]
 simp only [show ((99:Int)==108 || (99:Int)==104 || (99:Int)==113)=false by decide,show ((99:Int)==111)=false by decide,Bool.false_eq_true,if_false,beq_self_eq_true,if_true,Bool.and_eq_true,Ask.common_iff,inR_iff,Ask.rest3_iff]
 (repeat' split)<;>first|rfl|(exfalso;omega)
theorem Ask.err_talk {a:Ask} (h:a.kind=108∨a.kind=104∨a.kind=113):a.err=if (0≤a.client∧a.client≤5)∧(0≤a.seq∧a.seq≤1073741824)∧(0≤a.id∧a.id≤1073741824) then (if a.item≠0∨a.side≠0∨a.price≠0∨a.qty≠0∨a.id≠0 then 3 else 0) else 2:=by
 unfold Ask.err
 rw [if_pos (by simp only [Bool.or_eq_true,beq_iff_eq];omega)]
 simp only [Bool.and_eq_true,Ask.common_iff,Ask.rest5_iff]
 (repeat' split)<;>first|rfl|(exfalso;omega)
theorem Ask.err_none {a:Ask} (h1:a.kind≠108) (h2:a.kind≠104) (h3:a.kind≠113) (h4:a.kind≠111) (h5:a.kind≠99):a.err=4:=by
 unfold Ask.err
 rw [if_neg (by simp only [Bool.or_eq_true,beq_iff_eq];omega),if_neg (by simpa using h4),if_neg (by simpa using h5)]
theorem refInA_any (n lo hi:Int) (w:World) :
  Calls Tryz.prog 45 #[.int .i64 n,.int .i64 lo,.int .i64 hi] w fun e w'=>e=.returned (.bool (inR n lo hi))∧w=w':=by
 by_cases h:lo≤n
 ·go_enter Tryz.func45,Tryz.ntmps45
  go_wp2
  all_goals go_ret
  all_goals exact ⟨ret_bool (by simp [inR,h]),rfl⟩
 ·go_enter Tryz.func45,Tryz.ntmps45
  go_wp2
  all_goals go_ret
  all_goals exact ⟨ret_bool (by simp [inR];omega),rfl⟩
set_option maxHeartbeats 4000000 in
set_option maxRecDepth 100000 in
theorem askError_any (a:Ask) (w:World) :
  Calls Tryz.prog 13 #[a.val] w fun e w'=>e=.returned (.int .i64 a.err)∧Ex w w':=by
 by_cases k1:a.kind=111
 ·have HERR:=Lib.hid (Ask.err_place k1)
  have q1:(a.kind==111)=true:=by simp [k1]
  have q2:(a.kind==99)=false:=by simp [k1]
  have q3:(a.kind != 108)=true:=by simp [k1]
  have q4:(a.kind != 104)=true:=by simp [k1]
  have q5:(a.kind != 113)=true:=by simp [k1]
  clear k1
  go_enter Tryz.func13,Tryz.ntmps13
  go_wp2_with (go_at_call 45;refine (refInA_any _ _ _ _).mono ?_;rintro e w1 ⟨rfl,rfl⟩)
  all_goals go_ret
  all_goals
   refine ⟨ret_int ?_,(by repeat (first|exact Ex.refl _|refine Ex.alloc ?_ _|refine Ex.ext ?_ _ _|refine Ex.drew ?_|refine Ex.drewN ?_ _))⟩
   rw [HERR.out]
   try simp only [Bool.not_eq_eq_eq_not,Bool.not_true,Bool.not_false,inR_iff,inR_not,bne_iff_ne,bne_eq_false_iff_eq,ne_eq] at *
   first|rfl|(rw [if_neg (by omega)];rfl)|(rw [if_pos (by omega)];rfl)|(rw [if_pos (by omega),if_pos (by omega)];rfl)|(rw [if_pos (by omega),if_neg (by omega)];rfl)
 by_cases k2:a.kind=99
 ·have HERR:=Lib.hid (Ask.err_cancel k2)
  have q1:(a.kind==111)=false:=by simp [k2]
  have q2:(a.kind==99)=true:=by simp [k2]
  have q3:(a.kind != 108)=true:=by simp [k2]
  have q4:(a.kind != 104)=true:=by simp [k2]
  have q5:(a.kind != 113)=true:=by simp [k2]
  clear k1 k2
  go_enter Tryz.func13,Tryz.ntmps13
  go_wp2_with (go_at_call 45;refine (refInA_any _ _ _ _).mono ?_;rintro e w1 ⟨rfl,rfl⟩)
  all_goals go_ret
  all_goals
   refine ⟨ret_int ?_,(by repeat (first|exact Ex.refl _|refine Ex.alloc ?_ _|refine Ex.ext ?_ _ _|refine Ex.drew ?_|refine Ex.drewN ?_ _))⟩
   rw [HERR.out]
   try simp only [Bool.not_eq_eq_eq_not,Bool.not_true,Bool.not_false,inR_iff,inR_not,bne_iff_ne,bne_eq_false_iff_eq,ne_eq] at *
   first|rfl|(rw [if_neg (by omega)];rfl)|(rw [if_pos (by omega)];rfl)|(rw [if_pos (by omega),if_pos (by omega)];rfl)|(rw [if_pos (by omega),if_neg (by omega)];rfl)
 by_cases k3:a.kind=108
 ·have HERR:=Lib.hid (Ask.err_talk (.inl k3))
  have q1:(a.kind==111)=false:=by simp [k3]
  have q2:(a.kind==99)=false:=by simp [k3]
  have q3:(a.kind != 108)=false:=by simp [k3]
  have q4:(a.kind != 104)=true:=by simp [k3]
  have q5:(a.kind != 113)=true:=by simp [k3]
  clear k1 k2 k3
  go_enter Tryz.func13,Tryz.ntmps13
  go_wp2_with (go_at_call 45;refine (refInA_any _ _ _ _).mono ?_;rintro e w1 ⟨rfl,rfl⟩)
  all_goals go_ret
  all_goals
   refine ⟨ret_int ?_,(by repeat (first|exact Ex.refl _|refine Ex.alloc ?_ _|refine Ex.ext ?_ _ _|refine Ex.drew ?_|refine Ex.drewN ?_ _))⟩
   rw [HERR.out]
   try simp only [Bool.not_eq_eq_eq_not,Bool.not_true,Bool.not_false,inR_iff,inR_not,bne_iff_ne,bne_eq_false_iff_eq,ne_eq] at *
   first|rfl|(rw [if_neg (by omega)];rfl)|(rw [if_pos (by omega)];rfl)|(rw [if_pos (by omega),if_pos (by omega)];rfl)|(rw [if_pos (by omega),if_neg (by omega)];rfl)
 by_cases k4:a.kind=104
 ·have HERR:=Lib.hid (Ask.err_talk (.inr (.inl k4)))
  have q1:(a.kind==111)=false:=by simp [k4]
  have q2:(a.kind==99)=false:=by simp [k4]
  have q3:(a.kind != 108)=true:=by simp [k4]
  have q4:(a.kind != 104)=false:=by simp [k4]
  have q5:(a.kind != 113)=true:=by simp [k4]
  clear k1 k2 k3 k4
  go_enter Tryz.func13,Tryz.ntmps13
  go_wp2_with (go_at_call 45;refine (refInA_any _ _ _ _).mono ?_;rintro e w1 ⟨rfl,rfl⟩)
  all_goals go_ret
  all_goals
   refine ⟨ret_int ?_,(by repeat (first|exact Ex.refl _|refine Ex.alloc ?_ _|refine Ex.ext ?_ _ _|refine Ex.drew ?_|refine Ex.drewN ?_ _))⟩
   rw [HERR.out]
   try simp only [Bool.not_eq_eq_eq_not,Bool.not_true,Bool.not_false,inR_iff,inR_not,bne_iff_ne,bne_eq_false_iff_eq,ne_eq] at *
   first|rfl|(rw [if_neg (by omega)];rfl)|(rw [if_pos (by omega)];rfl)|(rw [if_pos (by omega),if_pos (by omega)];rfl)|(rw [if_pos (by omega),if_neg (by omega)];rfl)
 by_cases k5:a.kind=113
 ·have HERR:=Lib.hid (Ask.err_talk (.inr (.inr k5)))
  have q1:(a.kind==111)=false:=by simp [k5]
  have q2:(a.kind==99)=false:=by simp [k5]
  have q3:(a.kind != 108)=true:=by simp [k5]
  have q4:(a.kind != 104)=true:=by simp [k5]
  have q5:(a.kind != 113)=false:=by simp [k5]
  clear k1 k2 k3 k4 k5
  go_enter Tryz.func13,Tryz.ntmps13
  go_wp2_with (go_at_call 45;refine (refInA_any _ _ _ _).mono ?_;rintro e w1 ⟨rfl,rfl⟩)
  all_goals go_ret
  all_goals
   refine ⟨ret_int ?_,(by repeat (first|exact Ex.refl _|refine Ex.alloc ?_ _|refine Ex.ext ?_ _ _|refine Ex.drew ?_|refine Ex.drewN ?_ _))⟩
   rw [HERR.out]
   try simp only [Bool.not_eq_eq_eq_not,Bool.not_true,Bool.not_false,inR_iff,inR_not,bne_iff_ne,bne_eq_false_iff_eq,ne_eq] at *
   first|rfl|(rw [if_neg (by omega)];rfl)|(rw [if_pos (by omega)];rfl)|(rw [if_pos (by omega),if_pos (by omega)];rfl)|(rw [if_pos (by omega),if_neg (by omega)];rfl)
 ·have HERR:=Lib.hid (Ask.err_none k3 k4 k5 k1 k2)
  have q1:(a.kind==111)=false:=by simp [k1,k2,k3,k4,k5]
  have q2:(a.kind==99)=false:=by simp [k1,k2,k3,k4,k5]
  have q3:(a.kind != 108)=true:=by simp [k1,k2,k3,k4,k5]
  have q4:(a.kind != 104)=true:=by simp [k1,k2,k3,k4,k5]
  have q5:(a.kind != 113)=true:=by simp [k1,k2,k3,k4,k5]
  clear k1 k2 k3 k4 k5
  go_enter Tryz.func13,Tryz.ntmps13
  go_wp2_with (go_at_call 45;refine (refInA_any _ _ _ _).mono ?_;rintro e w1 ⟨rfl,rfl⟩)
  all_goals go_ret
  all_goals
   refine ⟨ret_int ?_,(by repeat (first|exact Ex.refl _|refine Ex.alloc ?_ _|refine Ex.ext ?_ _ _|refine Ex.drew ?_|refine Ex.drewN ?_ _))⟩
   rw [HERR.out]
   try simp only [Bool.not_eq_eq_eq_not,Bool.not_true,Bool.not_false,inR_iff,inR_not,bne_iff_ne,bne_eq_false_iff_eq,ne_eq] at *
   first|rfl|(rw [if_neg (by omega)];rfl)|(rw [if_pos (by omega)];rfl)|(rw [if_pos (by omega),if_pos (by omega)];rfl)|(rw [if_pos (by omega),if_neg (by omega)];rfl)
end Go.Proofs.YtabbgpjofkaomaaGreatDoor

/- What wire's Encode computes. -/
namespace Go.Proofs.YtabbgpjofkaomaaGreatDoor
open Go.RowKit
theorem wireHigh_any (n:Int) (w:World) (h0:0≤n) (h1:n≤1073741824) :
  Calls Tryz.prog 116 #[.int .i64 n] w fun e w'=>e=.returned (.slice (some ⟨w.heap.size,0,none⟩) 4 4) ∧
   w'=w.alloc (.cells #[.int .u8 (n / 16777216),.int .u8 (n / 65536 % 256),.int .u8 (n / 256 % 256),.int .u8 (n % 256)] 5):=by
 go_enter Tryz.func116,Tryz.ntmps116
 go_wp2
 go_ret
 exact ⟨rfl,rfl⟩
theorem infoU8:(Tryz.prog.info? 5).map (fun i=>(i.zero,i.size,i.bytes))=some (some (.int .u8 0),1,1):=by kernel_rfl
def Ask.nums (a:Ask):List Int:=[a.kind,a.client]++highB a.seq++[a.item,a.side]++highB a.price++highB a.qty++highB a.id++[0,0,0,0,0,0]
def Ask.body (a:Ask):ByteArray:=strOfNums a.nums
def Ask.frame (a:Ask):ByteArray:=a.body++strOfNums (lowB (crc a.body.data.toList))
def EncInv (w:World) (a:Ask) (wx:World) (v:Value) (n:Nat) (xs:List Int):Prop :=
 wx.ownsRow (w.heap.size+1) 5 1 v n (xs.map (Value.int .u8))∧w.heap.size+1≤wx.heap.size∧(∀ k,k<w.heap.size→wx.heap[k]?=w.heap[k]?)∧wx.heap[w.heap.size]?=some (.cells a.cells.toArray 45 (0,0)) ∧
  wx.os=w.os∧wx.tape=w.tape∧wx.output=w.output
theorem EncInv.cell {w:World} {a:Ask} {wx:World} {v:Value} {n:Nat} {xs:List Int} (h:EncInv w a wx v n xs):∀ j,wx.cell? ⟨w.heap.size,j,none⟩=a.cells[j]?:=by
 intro j
 simp [World.cell?,h.2.2.2.1]
theorem EncInv.alloc {w:World} {a:Ask} {wx:World} {v:Value} {n:Nat} {xs:List Int} (h:EncInv w a wx v n xs) (o:Obj):EncInv w a (wx.alloc o) v n xs:=by
 obtain ⟨h1,h2,h3,h4,h5,h6,h7⟩:=h
 refine ⟨h1.alloc _,by simp;omega,fun k hk=>?_,?_,h5,h6,h7⟩
 ·rw [Below.heap_alloc _ _ _ (by omega)];exact h3 k hk
 ·rw [Below.heap_alloc _ _ _ (by omega)];exact h4
theorem EncInv.drew {w:World} {a:Ask} {wx:World} {v:Value} {n:Nat} {xs:List Int} (h:EncInv w a wx v n xs):EncInv w a wx.drew v n xs:=by
 obtain ⟨h1,h2,h3,h4,h5,h6,h7⟩:=h
 exact ⟨h1.drew,h2,h3,h4,h5,h6,h7⟩
theorem ownsRow_base {w:World} {b b':Nat} {e:TypeId} {size:Nat} {v:Value} {n:Nat} {xs:List Value} (h:w.ownsRow b e size v n xs) (hb:b'≤b):w.ownsRow b' e size v n xs:=by
 obtain ⟨h1,h2⟩:=h
 refine ⟨h1,h2.imp id ?_⟩
 rintro ⟨g,cap,cur,hv,hg,r⟩
 exact ⟨g,cap,cur,hv,by omega,r⟩
theorem EncInv.step {w:World} {a:Ask} {wx wy:World} {v v':Value} {n m:Nat} {xs ys:List Int} (h:EncInv w a wx v n xs)
  (hown:wy.ownsRow (w.heap.size+1) 5 1 v' (n+m) (xs.map (Value.int .u8)++ys.map (Value.int .u8))) (hg:wx.grownBy wy v.ownBlock):EncInv w a wy v' (n+m) (xs++ys):=by
 obtain ⟨h1,h2,h3,h4,h5,h6,h7⟩:=h
 have hb:∀ k,k<w.heap.size+1→wy.heap[k]?=wx.heap[k]?:=fun k hk=>hg.block k (by omega) (by
  intro e
  obtain ⟨_,r|⟨g,cap,cur,hv,hbase,_⟩⟩:=h1
  ·rw [r.1] at e;cases e
  ·rw [hv] at e;simp [Value.ownBlock] at e;omega)
 refine ⟨by rw [List.map_append];exact hown,Nat.le_trans h2 hg.size,fun k hk=>(hb k (by omega)).trans (h3 k hk),(hb _ (by omega)).trans h4,hg.os.trans h5,hg.tape.trans h6,hg.output.trans h7⟩
theorem EncInv.start (w:World) (a:Ask) (l:List Obj) (d:Nat):EncInv w a (ext (w.alloc (.cells a.cells.toArray 45)) l d) (.slice none 0 0) 0 []:=by
 refine ⟨World.ownsRow_nil _ _ _ _,by simp [ext_size],fun k hk=>?_,?_,rfl,rfl,rfl⟩
 ·rw [ext_heap_lt _ _ _ _ (by simp;omega)]
  exact Below.heap_alloc _ _ _ hk
 ·rw [ext_heap_lt _ _ _ _ (by simp)]
  exact (MapKept.heap_alloc w _).1
theorem EncInv.slice {w:World} {a:Ask} {wx:World} {v:Value} {n:Nat} {xs:List Int} (h:EncInv w a wx v n xs) (hn:0<n) (hx:xs.length=n) :
  ∃ g cap,v=.slice (some ⟨g,0,none⟩) n cap∧∀ i,i<n→wx.cell? ⟨g,0+i,none⟩=some (.int .u8 (xs.getD i 0)):=by
 obtain ⟨_,r|⟨g,cap,cur,hv,_,hh,hnc,_,hcur,ht⟩⟩:=h.1
 ·omega
 ·refine ⟨g,cap,hv,fun i hi=>?_⟩
  have h1:(cur.toList.take (n*1))[i]?=(xs.map (Value.int .u8))[i]?:=by rw [ht]
  rw [List.getElem?_take,if_pos (by omega)] at h1
  simp only [World.cell?,hh,Nat.zero_add]
  rw [List.getElem?_map,List.getElem?_eq_getElem (show i<xs.length by omega)] at h1
  simp only [Option.isSome_none,Bool.false_eq_true,if_false]
  rw [← Array.getElem?_toList,h1]
  simp [List.getD,List.getElem?_eq_getElem (show i<xs.length by omega)]
theorem EncInv.ex {w:World} {a:Ask} {wx:World} {v:Value} {n:Nat} {xs:List Int} (h:EncInv w a wx v n xs):Ex w wx :=
 Ex.of ⟨h.2.2.2.2.1,h.2.2.2.2.2.1,h.2.2.2.2.2.2,by have:=h.2.1;omega,h.2.2.1⟩
set_option maxRecDepth 100000 in
set_option maxHeartbeats 2000000 in
theorem encode_ok (a:Ask) (E:Nat→Addr) (w:World) (hE:Errs E [2,3,4] w) (he:a.err=0) :
  Calls Tryz.prog 84 #[a.val] w fun e w'=>e=.returned (.tuple #[.string a.frame,.nilIface])∧Ex w w':=by
 obtain ⟨⟨c0,c1⟩,⟨s0,s1⟩,⟨d0,d1⟩,⟨t0,t1⟩,⟨u0,u1⟩,⟨p0,p1⟩,⟨q0,q1⟩,_⟩:=Ask.bounds he
 obtain ⟨i0,hi,hz0,hz1,hz2⟩:=info_parts infoU8
 have hc:=wireCheck_any a E
 rw [he,errV_zero] at hc
 have HC:=Lib.hid hc
 clear he hc
 go_enter Tryz.func84,Tryz.ntmps84
 go_wp2_with (go_at_call 109;refine (HC.out _ (by exact Errs.sub (hE.ex (by repeat (first|exact Ex.refl _|refine Ex.alloc ?_ _|refine Ex.ext ?_ _ _|refine Ex.drew ?_|refine Ex.drewN ?_ _))) (by decide))).mono ?_;rintro e w1 ⟨rfl,l1,d1,rfl⟩)
 have I0:=EncInv.start w a l1 d1
 obtain ⟨wc,hwc⟩:∃ x,x=ext (w.alloc (.cells a.cells.toArray 45)) l1 d1:=⟨_,rfl⟩
 rw [← hwc] at I0
 change Code.wp _ _ _ _ (ext (w.alloc (.cells a.cells.toArray 45)) l1 d1)
 rw [← hwc]
 clear hwc
 go_cut [5] (fun v wx=>EncInv w a wx v 6 ([a.kind,a.client]++highB a.seq))
 case first =>
  have f0:=I0.cell 0
  have f1:=I0.cell 1
  have f2:=I0.cell 2
  simp only [Ask.cells,List.getElem?_cons_zero,List.getElem?_cons_succ] at f0 f1 f2
  have hsz:=I0.2.1
  have n0:¬ w.heap.size=wc.heap.size:=by omega
  have n1:¬ w.heap.size=wc.heap.size+1:=by omega
  have hcl:IntKind.u8.wrap a.client=a.client:=IntWalk.u8_in _ (by omega)
  go_region_law (first
   | (go_simp;go_at_call 116;refine (wireHigh_any a.seq _ s0 s1).mono ?_;rintro e w1 ⟨rfl,rfl⟩)
   | (go_loud (refine step_append_grows rfl (.tmp 17) (.tmp 20) 135 rfl 5 i0 (.int .u8 0) 1 1 Tryz.underlying135 hi hz0 hz1 hz2 rfl (by decide) (some ⟨_,0,none⟩) 2 2 [.int .u8 a.kind,.int .u8 a.client] rfl (fun h=>by cases h) rfl (by intro b hb j u hj;cases hb;rcases j with _|_|_|_|_|_|j<;>simp [highB] at hj<;>subst hj<;>simp [Addr.add,go_sem,↓IntWalk.iteOmega]) ⟨_,0,none⟩ 4 4 ((highB a.seq).map (Value.int .u8)) rfl rfl (by intro j u hj;rcases j with _|_|_|_|_|_|j<;>simp [highB] at hj<;>subst hj<;>simp [Addr.add,go_sem,↓IntWalk.iteOmega]) (by intro u hu;simp [highB] at hu;rcases hu with rfl|hu<;>first|rfl|(rcases hu with rfl|hu<;>first|rfl|(rcases hu with rfl|rfl<;>rfl))) (by decide) (by decide) (by decide) ?_);intro v1 w1 hown1 hgrow1))
  all_goals
   go_wp2_with fail
   go_meet
   case rel =>
    refine EncInv.step (n:=0) (m:=6) (xs:=[]) (ys:=[a.kind,a.client]++highB a.seq) (v:=.slice none 0 0) (by first|exact ((I0.alloc _).alloc _).drew|exact (I0.drew.alloc _).alloc _) (ownsRow_base hown1 (by simp;omega)) hgrow1
 case rest =>
  have I1:=hcut
  clear hcut I0
  generalize u5=v1 at *
  obtain ⟨w0,rfl⟩:∃ x,x=wc:=⟨_,rfl⟩
  have f3:=I1.cell 3;simp only [Ask.cells,List.getElem?_cons_zero,List.getElem?_cons_succ] at f3
  have f4:=I1.cell 4;simp only [Ask.cells,List.getElem?_cons_zero,List.getElem?_cons_succ] at f4
  have hsz:=I1.2.1
  have z1:(strOfNums a.nums).size=26:=by simp [strOfNums_size,Ask.nums,highB]
  have z2:∀ v,(strOfNums (lowB v)).size=4:=fun v=>by simp [strOfNums_size,lowB]
  go_wp2_with (first
   | (go_at_call 116;refine (wireHigh_any _ _ (by omega) (by omega)).mono ?_;rintro e w1 ⟨rfl,rfl⟩)
   | (go_at_call 107;refine (sum_any _ _ (by rw [z1];decide)).mono ?_;rintro e w1 ⟨rfl,rfl⟩)
   | (go_at_call 106;refine (wireLow_any _ _ (crc_lt _)).mono ?_;rintro e w1 ⟨rfl,l5,d5,rfl⟩)
   | (at_builtin;refine wpList_append_own _ rfl (.tmp 22) (.tmp 29) 135 rfl (w.heap.size+1) 5 i0 (.int .u8 0) 1 1 Tryz.underlying135 hi hz0 hz1 hz2 rfl (by decide) _ 6 _ rfl (I1.1.alloc _) ⟨_,0,none⟩ 2 2 ([a.item,a.side].map (Value.int .u8)) rfl rfl (by intro j u hj;rcases j with _|_|_|_|_|_|j<;>simp [highB] at hj<;>subst hj<;>simp [Addr.add,go_sem,↓IntWalk.iteOmega]) (by intro u hu;simp [highB] at hu;rcases hu with rfl|hu<;>first|rfl|(rcases hu with rfl|hu<;>first|rfl|(rcases hu with rfl|rfl<;>rfl))) (by decide) (by decide) (by have:=I1.2.1;simp;omega) ?_;intro v2 w2 hown2 hgrow2 _;have I2:=EncInv.step (I1.alloc _) hown2 hgrow2;clear hown2 hgrow2;have hsz2:=I2.2.1;have f5:=I2.cell 5;simp only [Ask.cells,List.getElem?_cons_zero,List.getElem?_cons_succ] at f5)
   | (at_builtin;refine wpList_append_own _ rfl (.tmp 31) (.tmp 34) 135 rfl (w.heap.size+1) 5 i0 (.int .u8 0) 1 1 Tryz.underlying135 hi hz0 hz1 hz2 rfl (by decide) _ 8 _ rfl (I2.1.alloc _) ⟨_,0,none⟩ 4 4 ((highB a.price).map (Value.int .u8)) rfl rfl (by intro j u hj;rcases j with _|_|_|_|_|_|j<;>simp [highB] at hj<;>subst hj<;>simp [Addr.add,go_sem,↓IntWalk.iteOmega]) (by intro u hu;simp [highB] at hu;rcases hu with rfl|hu<;>first|rfl|(rcases hu with rfl|hu<;>first|rfl|(rcases hu with rfl|rfl<;>rfl))) (by decide) (by decide) (by have:=I2.2.1;simp;omega) ?_;intro v3 w3 hown3 hgrow3 _;have I3:=EncInv.step (I2.alloc _) hown3 hgrow3;clear hown3 hgrow3;have hsz3:=I3.2.1;have f6:=I3.cell 6;simp only [Ask.cells,List.getElem?_cons_zero,List.getElem?_cons_succ] at f6)
   | (at_builtin;refine wpList_append_own _ rfl (.tmp 36) (.tmp 39) 135 rfl (w.heap.size+1) 5 i0 (.int .u8 0) 1 1 Tryz.underlying135 hi hz0 hz1 hz2 rfl (by decide) _ 12 _ rfl (I3.1.alloc _) ⟨_,0,none⟩ 4 4 ((highB a.qty).map (Value.int .u8)) rfl rfl (by intro j u hj;rcases j with _|_|_|_|_|_|j<;>simp [highB] at hj<;>subst hj<;>simp [Addr.add,go_sem,↓IntWalk.iteOmega]) (by intro u hu;simp [highB] at hu;rcases hu with rfl|hu<;>first|rfl|(rcases hu with rfl|hu<;>first|rfl|(rcases hu with rfl|rfl<;>rfl))) (by decide) (by decide) (by have:=I3.2.1;simp;omega) ?_;intro v4 w4 hown4 hgrow4 _;have I4:=EncInv.step (I3.alloc _) hown4 hgrow4;clear hown4 hgrow4;have hsz4:=I4.2.1;have f7:=I4.cell 7;simp only [Ask.cells,List.getElem?_cons_zero,List.getElem?_cons_succ] at f7)
   | (at_builtin;refine wpList_append_own _ rfl (.tmp 41) (.tmp 44) 135 rfl (w.heap.size+1) 5 i0 (.int .u8 0) 1 1 Tryz.underlying135 hi hz0 hz1 hz2 rfl (by decide) _ 16 _ rfl (I4.1.alloc _) ⟨_,0,none⟩ 4 4 ((highB a.id).map (Value.int .u8)) rfl rfl (by intro j u hj;rcases j with _|_|_|_|_|_|j<;>simp [highB] at hj<;>subst hj<;>simp [Addr.add,go_sem,↓IntWalk.iteOmega]) (by intro u hu;simp [highB] at hu;rcases hu with rfl|hu<;>first|rfl|(rcases hu with rfl|hu<;>first|rfl|(rcases hu with rfl|rfl<;>rfl))) (by decide) (by decide) (by have:=I4.2.1;simp;omega) ?_;intro v5 w5 hown5 hgrow5 _;have I5:=EncInv.step (I4.alloc _) hown5 hgrow5;clear hown5 hgrow5;have hsz5:=I5.2.1;have f0:=I5.cell 0;simp only [Ask.cells,List.getElem?_cons_zero,List.getElem?_cons_succ] at f0)
   | ((at_builtin;refine wpList_append_own _ rfl (.tmp 46) (.tmp 47) 135 rfl (w.heap.size+1) 5 i0 (.int .u8 0) 1 1 Tryz.underlying135 hi hz0 hz1 hz2 rfl (by decide) _ 20 _ rfl (I5.1.alloc _) ⟨_,0,none⟩ 6 6 ([0,0,0,0,0,0].map (Value.int .u8)) rfl rfl (by intro j u hj;rcases j with _|_|_|_|_|_|j<;>simp [highB] at hj<;>subst hj<;>simp [Addr.add,go_sem,↓IntWalk.iteOmega]) (by intro u hu;simp [highB] at hu;rcases hu with rfl|hu<;>first|rfl|(rcases hu with rfl|hu<;>first|rfl|(rcases hu with rfl|rfl<;>rfl))) (by decide) (by decide) (by have:=I5.2.1;simp;omega) ?_;intro v6 w6 hown6 hgrow6 _;have I6:=EncInv.step (I5.alloc _) hown6 hgrow6;clear hown6 hgrow6;have hsz6:=I6.2.1;have f1:=I6.cell 1;simp only [Ask.cells,List.getElem?_cons_zero,List.getElem?_cons_succ] at f1);have I7:EncInv w a w6 v6 26 a.nums:=I6;clear I6;obtain ⟨g6,cap6,rfl,hc6⟩:=I7.slice (by decide) rfl;have hconv:=run_convert_bytes_arg (P:=Tryz.prog) w6 135 5 Tryz.underlying135 Tryz.underlying5 g6 0 26 cap6 a.nums rfl hc6 9 Tryz.underlying9;clear hc6))
  all_goals go_ret2
  all_goals exact ⟨rfl,by
   have:=I7.ex
   repeat (first|exact this|refine Ex.alloc ?_ _|refine Ex.ext ?_ _ _|refine Ex.drew ?_)⟩
end Go.Proofs.YtabbgpjofkaomaaGreatDoor

/- The sum of a frame is linear: up to 32 bits in a row that are turned change it otherwise than its own four bytes. -/
namespace Go.Proofs.YtabbgpjofkaomaaGreatDoor
end Go.Proofs.YtabbgpjofkaomaaGreatDoor

/- How the row's arguments read: slices of requests. -/
namespace Go.Proofs.YtabbgpjofkaomaaGreatDoor
open Go.ChangeShapes Go.WideShapes Go.ChangeAt Go.RowKit Go.Deep
def Ask.wf (a:Ask):Prop:=(0≤a.kind∧a.kind≤255)∧(Lit.int .i64 a.client).wf=true∧(Lit.int .i64 a.seq).wf=true∧(Lit.int .i64 a.item).wf=true∧(Lit.int .i64 a.side).wf=true∧(Lit.int .i64 a.price).wf=true∧(Lit.int .i64 a.qty).wf=true∧(Lit.int .i64 a.id).wf=true
set_option maxRecDepth 100000 in
theorem ask_of_trod {H:Type} {enc:TypeId × Value→H} {w:World} {base:Nat} {spare:Nat→Bool} {held:Bool} {n:Nat} {cs:List Value} {y:DataW H × List MemPlace} (h:DataW.trod enc Tryz.prog w base spare held n 45 cs=some y):∃ a:Ask,a.wf∧cs=a.cells:=by
 obtain ⟨ys,n',hn',hy,hlen,hyl,hf⟩:=DataW.trod_struct Tryz.underlying45 h
 have hcN:Tryz.prog.cellsOf 45=8:=by kernel_rfl
 rw [hcN] at hlen
 match cs,hlen with
 | [c0,c1,c2,c3,c4,c5,c6,c7],_ =>
  match ys,hyl with
  | [y0,y1,y2,y3,y4,y5,y6,y7],_ =>
   have g0:DataW.trod enc Tryz.prog w base spare held n' 5 (([c0,c1,c2,c3,c4,c5,c6,c7].drop 0).take (Tryz.prog.cellsOf 5))=some y0:=hf 0 _ rfl
   rw [show Tryz.prog.cellsOf 5=1 by kernel_rfl] at g0
   have g1:DataW.trod enc Tryz.prog w base spare held n' 3 (([c0,c1,c2,c3,c4,c5,c6,c7].drop 1).take (Tryz.prog.cellsOf 3))=some y1:=hf 1 _ rfl
   rw [show Tryz.prog.cellsOf 3=1 by kernel_rfl] at g1
   have g2:DataW.trod enc Tryz.prog w base spare held n' 3 (([c0,c1,c2,c3,c4,c5,c6,c7].drop 2).take (Tryz.prog.cellsOf 3))=some y2:=hf 2 _ rfl
   rw [show Tryz.prog.cellsOf 3=1 by kernel_rfl] at g2
   have g3:DataW.trod enc Tryz.prog w base spare held n' 3 (([c0,c1,c2,c3,c4,c5,c6,c7].drop 3).take (Tryz.prog.cellsOf 3))=some y3:=hf 3 _ rfl
   rw [show Tryz.prog.cellsOf 3=1 by kernel_rfl] at g3
   have g4:DataW.trod enc Tryz.prog w base spare held n' 3 (([c0,c1,c2,c3,c4,c5,c6,c7].drop 4).take (Tryz.prog.cellsOf 3))=some y4:=hf 4 _ rfl
   rw [show Tryz.prog.cellsOf 3=1 by kernel_rfl] at g4
   have g5:DataW.trod enc Tryz.prog w base spare held n' 3 (([c0,c1,c2,c3,c4,c5,c6,c7].drop 5).take (Tryz.prog.cellsOf 3))=some y5:=hf 5 _ rfl
   rw [show Tryz.prog.cellsOf 3=1 by kernel_rfl] at g5
   have g6:DataW.trod enc Tryz.prog w base spare held n' 3 (([c0,c1,c2,c3,c4,c5,c6,c7].drop 6).take (Tryz.prog.cellsOf 3))=some y6:=hf 6 _ rfl
   rw [show Tryz.prog.cellsOf 3=1 by kernel_rfl] at g6
   have g7:DataW.trod enc Tryz.prog w base spare held n' 3 (([c0,c1,c2,c3,c4,c5,c6,c7].drop 7).take (Tryz.prog.cellsOf 3))=some y7:=hf 7 _ rfl
   rw [show Tryz.prog.cellsOf 3=1 by kernel_rfl] at g7
   obtain ⟨x0,e0,_,w0⟩:=DataW.trod_int Tryz.underlying5 g0
   simp at e0
   subst e0
   obtain ⟨x1,e1,_,w1⟩:=DataW.trod_int Tryz.underlying3 g1
   simp at e1
   subst e1
   obtain ⟨x2,e2,_,w2⟩:=DataW.trod_int Tryz.underlying3 g2
   simp at e2
   subst e2
   obtain ⟨x3,e3,_,w3⟩:=DataW.trod_int Tryz.underlying3 g3
   simp at e3
   subst e3
   obtain ⟨x4,e4,_,w4⟩:=DataW.trod_int Tryz.underlying3 g4
   simp at e4
   subst e4
   obtain ⟨x5,e5,_,w5⟩:=DataW.trod_int Tryz.underlying3 g5
   simp at e5
   subst e5
   obtain ⟨x6,e6,_,w6⟩:=DataW.trod_int Tryz.underlying3 g6
   simp at e6
   subst e6
   obtain ⟨x7,e7,_,w7⟩:=DataW.trod_int Tryz.underlying3 g7
   simp at e7
   subst e7
   exact ⟨⟨x0,x1,x2,x3,x4,x5,x6,x7⟩,⟨(by simp [Lit.wf,IntKind.min,IntKind.max,IntKind.signed,IntKind.bits] at w0;omega),w1,w2,w3,w4,w5,w6,w7⟩,rfl⟩
def AsksAt (w:World) (ao:Option Addr) (len:Nat) (l:List Ask):Prop :=
 l.length=len∧len≤9223372036854775807∧(∀ a∈l,a.wf) ∧
  (0<len→∃ b off,ao=some ⟨b,off,none⟩∧b<w.heap.size∧∀ k (h:k<l.length) j,j<8→w.cell? ⟨b,off+k*8+j,none⟩=l[k].cells[j]?)
end Go.Proofs.YtabbgpjofkaomaaGreatDoor

/- WireApart: the walk through the law, and that two requests have one frame only if they are one. -/
namespace Go.Proofs.YtabbgpjofkaomaaGreatDoor
open Go.RowKit
theorem Ask.body_size (a:Ask):a.body.size=26:=by rw [Ask.body,strOfNums_size];rfl
theorem Ask.frame_size (a:Ask):a.frame.size=30:=by
 rw [Ask.frame,ByteArray.size_append,Ask.body_size,strOfNums_size];rfl
theorem toList_ne {s t:ByteArray} (h:s≠t):(s.toList==t.toList)=false:=by
 rw [ByteArray.toList_eq,ByteArray.toList_eq]
 exact beq_eq_false_iff_ne.2 fun e=>h (ByteArray.ext (Array.toList_inj.1 e))
end Go.Proofs.YtabbgpjofkaomaaGreatDoor

/- What Decode of package wire computes where the sum is another one. -/
namespace Go.Proofs.YtabbgpjofkaomaaGreatDoor
open Go.RowKit
theorem neq_str {s t:ByteArray} (h:s≠t):(s.toList != t.toList)=true:=by
 rw [bne,toList_ne h];rfl
set_option maxRecDepth 100000 in
set_option maxHeartbeats 1000000 in
theorem decode_sum (s:ByteArray) (E:Nat→Addr) (w:World) (hs:s.size=30) (hE:Errs E [5] w) (hne:strOfNums (lowB (crc (s.extract 0 26).data.toList))≠s.extract 26 30) :
  Calls Tryz.prog 75 #[.string s] w fun e w'=>e=.returned (.tuple #[.agg #[.int .u8 0,.int .i64 0,.int .i64 0,.int .i64 0,.int .i64 0,.int .i64 0,.int .i64 0,.int .i64 0],.iface 357 (.pointer (some (E 5)))])∧Ex w w':=by
 have hn1:=neq_str hne
 have hn2:=toList_ne hne
 have hsz:(s.extract 0 26).size≤maxLen:=by rw [ByteArray.size_extract,hs];decide
 have HSM:=Lib.hid (fun w=>sum_any (s.extract 0 26) w hsz)
 have hcl:=crc_lt (s.extract 0 26).data.toList
 generalize crc (s.extract 0 26).data.toList=c at *
 have h5:w.cell? ⟨6,0,none⟩=some (.iface 357 (.pointer (some (E 5)))):=hE 5 (by decide)
 have h5l:6<w.heap.size:=World.block_lt_of_cell? _ _ h5
 have h5n:¬ 6=w.heap.size:=by omega
 have h5m:6<w.heap.size+1:=by omega
 clear hne hsz
 go_enter Tryz.func75,Tryz.ntmps75
 go_wp2_with fail
 go_region_law (first
  | (go_simp;go_at_call 107;refine (HSM.out _).mono ?_;rintro e w1 ⟨rfl,rfl⟩)
  | (go_simp;go_at_call 106;refine (wireLow_any c _ hcl).mono ?_;rintro e w1 ⟨rfl,l5,d5,rfl⟩))
 all_goals go_wp2_with fail
 all_goals go_region
 all_goals go_wp2_with fail
 all_goals (try simp only [Exit.inBlock,Exit.then])
 all_goals (refine bodyPost_ret (v:=.tuple #[.agg #[.int .u8 0,.int .i64 0,.int .i64 0,.int .i64 0,.int .i64 0,.int .i64 0,.int .i64 0,.int .i64 0],.iface 357 (.pointer (some (E 5)))]) ?_ rfl ⟨rfl,Ex.of (by (refine Below.trans (Below.refl _ _) ?_;repeat (first|exact Below.refl _ _|(refine Below.drew ?_)|(refine Below.drewN ?_ _)|(refine Below.ext ?_ (by first|omega|(simp [go_sem];done)|(simp [go_sem];omega)) _ _)|(refine Below.alloc ?_ (by first|omega|(simp [go_sem];done)|(simp [go_sem];omega)) _)|(refine Below.setCell ?_ (by first|omega|(simp [go_sem];done)|(simp [go_sem];omega)) _))))⟩)
 all_goals simp only [results,Tryz.results75]
 all_goals simp [go_sem,↓IntWalk.iteOmega]
end Go.Proofs.YtabbgpjofkaomaaGreatDoor

/- A frame whose bits are turned: as texts. -/
namespace Go.Proofs.YtabbgpjofkaomaaGreatDoor
open Go.RowKit
theorem low_len (v:Nat):(strOfNums (lowB v)).data.toList.length=4:=by rw [strOfNums_data];simp [lowB]
end Go.Proofs.YtabbgpjofkaomaaGreatDoor

/- What a frame says, as a request and an error's number. -/
namespace Go.Proofs.YtabbgpjofkaomaaGreatDoor
open Go.RowKit
def at8 (s:ByteArray) (i:Nat):Int:=if h:i<s.size then ((s[i]'h).toNat:Int) else 0
theorem at8_eq {s:ByteArray} {i:Nat} (h:i<s.size):at8 s i=((s[i]'h).toNat:Int):=dif_pos h
def num4 (s:ByteArray) (i:Nat):Int:=(numL (s.extract i (i+4)).data.toList:Int)
def askAt (s:ByteArray):Ask:={ kind:=at8 s 0,client:=at8 s 1,seq:=num4 s 2,item:=at8 s 6,side:=at8 s 7,price:=num4 s 8,qty:=num4 s 12,id:=num4 s 16 }
def sumOk (s:ByteArray):Prop:=strOfNums (lowB (crc (s.extract 0 26).data.toList))=s.extract 26 30
instance (s:ByteArray):Decidable (sumOk s):=inferInstanceAs (Decidable (_=_))
def decE (s:ByteArray):Nat:=if s.size≠30 then 1 else if ¬ sumOk s then 5 else if (s.extract 20 26).data.toList≠[0,0,0,0,0,0] then 3 else (askAt s).err
def zeroAsk:Ask:=⟨0,0,0,0,0,0,0,0⟩
def decA (s:ByteArray):Ask:=if decE s=0 then askAt s else zeroAsk
end Go.Proofs.YtabbgpjofkaomaaGreatDoor

/- A stream of frames: what is got of it, and what is left. -/
namespace Go.Proofs.YtabbgpjofkaomaaGreatDoor
open Go.RowKit
structure Got where
 ask:Ask
 code:Nat
 deriving DecidableEq
def gotOf (l:List UInt8):Got:=⟨decA ⟨l.toArray⟩,decE ⟨l.toArray⟩⟩
def gotsL (l:List UInt8):List Got:=(List.range (l.length / 30)).map fun i=>gotOf ((l.drop (30*i)).take 30)
def leftL (l:List UInt8):List UInt8:=l.drop (30*(l.length / 30))
theorem gotsL_len (l:List UInt8):(gotsL l).length=l.length / 30:=by simp [gotsL]
theorem leftL_len (l:List UInt8):(leftL l).length=l.length % 30:=by
 rw [leftL,List.length_drop];omega
theorem div_parts (a b:Nat):(a+b) / 30=a / 30+(a % 30+b) / 30:=by omega
theorem gotsL_append (l s:List UInt8):gotsL (l++s)=gotsL l++gotsL (leftL l++s):=by
 apply List.ext_getElem?
 intro i
 have hn:(l++s).length / 30=l.length / 30+(leftL l++s).length / 30:=by
  rw [List.length_append,List.length_append,leftL_len];exact div_parts _ _
 by_cases h:i<l.length / 30
 ·rw [List.getElem?_append_left (by rw [gotsL_len];exact h)]
  simp only [gotsL]
  rw [List.getElem?_map,List.getElem?_map,List.getElem?_range (by omega),List.getElem?_range h]
  simp only [Option.map_some]
  congr 2
  rw [List.drop_append_of_le_length (by omega),List.take_append_of_le_length (by rw [List.length_drop];omega)]
 ·rw [List.getElem?_append_right (by rw [gotsL_len];omega),gotsL_len]
  by_cases h2:i<(l++s).length / 30
  ·simp only [gotsL]
   rw [List.getElem?_map,List.getElem?_map,List.getElem?_range h2,List.getElem?_range (by omega)]
   simp only [Option.map_some]
   congr 3
   have e:30*i=30*(l.length / 30)+30*(i - l.length / 30):=by omega
   rw [e,← List.drop_drop,List.drop_append_of_le_length (by omega)]
   rfl
  ·rw [List.getElem?_eq_none (by rw [gotsL_len];omega),List.getElem?_eq_none (by rw [gotsL_len];omega)]
theorem leftL_left (l s:List UInt8):leftL (l++s)=leftL (leftL l++s):=by
 have hn:(l++s).length / 30=l.length / 30+(leftL l++s).length / 30:=by
  rw [List.length_append,List.length_append,leftL_len];exact div_parts _ _
 have e:30*((l++s).length / 30)=30*(l.length / 30)+30*((leftL l++s).length / 30):=by omega
 have h1:(l++s).drop (30*(l.length / 30))=leftL l++s:=by rw [List.drop_append_of_le_length (by omega)];rfl
 rw [leftL,e,← List.drop_drop,h1]
 rfl
theorem gotsL_cons {l:List UInt8} (h:30≤l.length):gotsL l=gotOf (l.take 30)::gotsL (l.drop 30)∧leftL l=leftL (l.drop 30):=by
 have hl:(l.take 30).length=30:=by rw [List.length_take];omega
 have e:l=l.take 30++l.drop 30:=(List.take_append_drop 30 l).symm
 have h0:leftL (l.take 30)=[]:=by
  apply List.length_eq_zero_iff.1
  rw [leftL_len,hl]
 have h1:gotsL (l.take 30)=[gotOf (l.take 30)]:=by
  unfold gotsL
  rw [hl]
  simp [List.range_succ,List.take_take]
 constructor
 ·have h2:=gotsL_append (l.take 30) (l.drop 30)
  rw [← e,h0,List.nil_append,h1] at h2
  rw [h2];rfl
 ·have h2:=leftL_left (l.take 30) (l.drop 30)
  rw [← e,h0,List.nil_append] at h2
  exact h2
theorem gotsL_short {l:List UInt8} (h:l.length<30):gotsL l=[]∧leftL l=l:=by
 have e:l.length / 30=0:=Nat.div_eq_of_lt h
 exact ⟨by unfold gotsL;rw [e];rfl,by unfold leftL;rw [e];rfl⟩
end Go.Proofs.YtabbgpjofkaomaaGreatDoor

/- What the methods of an intake compute. -/
namespace Go.Proofs.YtabbgpjofkaomaaGreatDoor
open Go.RowKit
structure Qs (own:Nat→Nat) (i:Nat) (w:World) (p:Nat) (vs:Nat→Value) (l:Nat→List Ask):Prop where
 row:∀ c,c<6→OwnRow own i w 45 8 (vs c) (l c).length (flat Ask.cells (l c))
 apart:∀ c d,c<6→d<6→c≠d→∀ g,(vs c).ownBlock=some g→(vs d).ownBlock≠some g
 main:own p=i
 lt:p<w.heap.size
 off:∀ c,c<6→(vs c).ownBlock≠some p
def IntakeAt (own:Nat→Nat) (i:Nat) (w:World) (p:Nat) (l:Nat→List Ask) (turn:Nat):Prop :=
 turn<6∧(∀ c,c<6→(l c).length≤6)∧∃ vs t,w.rowIs p t 7 (fun c=>if c<6 then vs c else .int .i64 (turn:Int))∧Qs own i w p vs l
theorem Qs.kp {own own':Nat→Nat} {i m g:Nat} {w w':World} {p:Nat} {vs:Nat→Value} {l:Nat→List Ask} (h:Qs own i w p vs l) (hk:Kp own m g w w') (hi:i / m≠g) (ho:∀ n,n<w.heap.size→own n=i→own' n=i):Qs own' i w' p vs l :=
 ⟨fun c hc=>(h.row c hc).kp hk hi ho,h.apart,ho p h.lt h.main,Nat.lt_of_lt_of_le h.lt hk.size,h.off⟩
theorem IntakeAt.kp {own own':Nat→Nat} {i m g:Nat} {w w':World} {p:Nat} {l:Nat→List Ask} {turn:Nat} (h:IntakeAt own i w p l turn) (hk:Kp own m g w w') (hi:i / m≠g) (ho:∀ n,n<w.heap.size→own n=i→own' n=i):IntakeAt own' i w' p l turn:=by
 obtain ⟨h1,h2,vs,t,h3,h4⟩:=h
 exact ⟨h1,h2,vs,t,h3.of_block (hk.block p h4.lt (by rw [h4.main];exact hi)),h4.kp hk hi ho⟩
theorem Qs.congr {own:Nat→Nat} {i:Nat} {w:World} {p:Nat} {vs:Nat→Value} {l l':Nat→List Ask} (h:Qs own i w p vs l) (e:∀ c,c<6→l c=l' c):Qs own i w p vs l':=⟨fun c hc=>e c hc▸h.row c hc,h.apart,h.main,h.lt,h.off⟩
theorem IntakeAt.congr {own:Nat→Nat} {i:Nat} {w:World} {p:Nat} {l l':Nat→List Ask} {turn:Nat} (h:IntakeAt own i w p l turn) (e:∀ c,c<6→l c=l' c):IntakeAt own i w p l' turn:=by
 obtain ⟨h1,h2,vs,t,h3,h4⟩:=h
 exact ⟨h1,fun c hc=>e c hc▸h2 c hc,vs,t,h3,h4.congr e⟩
theorem IntakeAt.relabel {own own':Nat→Nat} {i:Nat} {w:World} {p:Nat} {l:Nat→List Ask} {turn:Nat} (h:IntakeAt own i w p l turn) (ho:∀ n,n<w.heap.size→own n=i→own' n=i):IntakeAt own' i w p l turn :=
 h.kp (m:=1) (g:=i+1) (Kp.refl _ _ _ _) (by simp) ho
theorem Qs.pick {own:Nat→Nat} {i:Nat} {w:World} {p:Nat} {vs:Nat→Value} {l:Nat→List Ask} (h:Qs own i w p vs l) (c:Nat) (hc:c<6) :
  ∃ o:Nat→Nat,OwnRow o 2 w 45 8 (vs c) (l c).length (flat Ask.cells (l c))∧o p=3∧(∀ n,w.heap.size≤n→o n=0)∧(∀ n,o n / 2=1→own n=i)∧(∀ n,o n=2→(vs c).ownBlock=some n)∧(∀ n,o n / 2=1→n=p∨(vs c).ownBlock=some n):=by
 refine ⟨fun n=>if n=p then 3 else if (vs c).ownBlock=some n then 2 else 0,⟨(h.row c hc).1,fun g hg=>?_⟩,if_pos rfl,fun n hn=>?_,fun n hn=>?_,fun n hn=>?_,fun n hn=>?_⟩
 ·have:g≠p:=by rintro rfl;exact h.off c hc hg
  simp [this,hg]
 ·have h1:n≠p:=by have:=h.lt;omega
  have h2:(vs c).ownBlock≠some n:=fun e=>by have:=(h.row c hc).1.lt n e;omega
  simp [h1,h2]
 ·by_cases h1:n=p
  ·subst h1;exact h.main
  ·simp only [h1,if_false] at hn
   by_cases h2:(vs c).ownBlock=some n
   ·exact (h.row c hc).2 n h2
   ·simp [h2] at hn
 ·by_cases h1:n=p
  ·simp [h1] at hn
  ·simp only [h1,if_false] at hn
   by_cases h2:(vs c).ownBlock=some n
   ·exact h2
   ·simp [h2] at hn
 ·by_cases h1:n=p
  ·exact .inl h1
  ·simp only [h1,if_false] at hn
   by_cases h2:(vs c).ownBlock=some n
   ·exact .inr h2
   ·simp [h2] at hn
theorem Qs.step {own own':Nat→Nat} {i:Nat} {w w':World} {p:Nat} {vs:Nat→Value} {l:Nat→List Ask} (h:Qs own i w p vs l) {c:Nat} (hc:c<6) {v':Value} {x:List Ask}
  (hv:RowAt w' 45 8 v' x.length (flat Ask.cells x)) (hb:∀ g,v'.ownBlock=some g→((vs c).ownBlock=some g∨w.heap.size≤g)∧own' g=i) (hk:∀ n,n<w.heap.size→own n=i→n≠p→(vs c).ownBlock≠some n→w'.heap[n]?=w.heap[n]?)
  (hs:w.heap.size≤w'.heap.size) (ho:∀ n,n<w.heap.size→own n=i→own' n=i):Qs own' i w' p (fun d=>if d=c then v' else vs d) (fun d=>if d=c then x else l d):=by
 refine ⟨fun d hd=>?_,fun d d' hd hd' hne g hg=>?_,ho p h.lt h.main,Nat.lt_of_lt_of_le h.lt hs,fun d hd=>?_⟩
 ·by_cases e:d=c
  ·subst e;simp only [if_true];exact ⟨hv,fun g hg=>(hb g hg).2⟩
  ·simp only [e,if_false]
   have hr:=h.row d hd
   exact ⟨hr.1.of_block fun g hg=>hk g (hr.1.lt g hg) (hr.2 g hg) (fun e'=>h.off d hd (e'▸hg)) (fun e'=>h.apart c d hc hd (Ne.symm e) g e' hg),fun g hg=>ho g (hr.1.lt g hg) (hr.2 g hg)⟩
 ·by_cases e:d=c
  ·subst e
   have e':d'≠d:=Ne.symm hne
   simp only [if_true] at hg
   simp only [e',if_false]
   intro hg'
   rcases (hb g hg).1 with h1|h1
   ·exact h.apart d d' hd hd' hne g h1 hg'
   ·have:=(h.row d' hd').1.lt g hg';omega
  ·simp only [e,if_false] at hg
   by_cases e':d'=c
   ·subst e'
    simp only [if_true]
    intro hg'
    rcases (hb g hg').1 with h1|h1
    ·exact h.apart d d' hd hd' hne g hg h1
    ·have:=(h.row d hd).1.lt g hg;omega
   ·simp only [e',if_false]
    exact h.apart d d' hd hd' hne g hg
 ·by_cases e:d=c
  ·subst e
   simp only [if_true]
   intro hg
   rcases (hb p hg).1 with h1|h1
   ·exact h.off d hd h1
   ·have:=h.lt;omega
  ·simp only [e,if_false]
   exact h.off d hd
theorem IntakeAt.pick {own:Nat→Nat} {i:Nat} {w:World} {p:Nat} {l:Nat→List Ask} {turn:Nat} (h:IntakeAt own i w p l turn) (c:Nat) (hc:c<6) :
  ∃ ao cap o,w.cell? ⟨p,c,none⟩=some (.slice ao (l c).length cap)∧(l c).length≤cap∧OwnRow o 2 w 45 8 (.slice ao (l c).length cap) (l c).length (flat Ask.cells (l c))∧o p=3∧(∀ n,w.heap.size≤n→o n=0)∧(∀ n,o n / 2=1→own n=i) ∧
   ∀ W' own' v' x,x.length≤6→RowAt W' 45 8 v' x.length (flat Ask.cells x)→(∀ g,v'.ownBlock=some g→(o g=2∨w.heap.size≤g)∧own' g=i)→(w.heap.size≤W'.heap.size∧∀ n,n<w.heap.size→own n=i→o n / 2≠1→W'.heap[n]?=w.heap[n]?) →
    (∀ t f,w.rowIs p t 7 f→W'.rowIs p t 7 (fun j=>if j=c then v' else f j))→(∀ n,n<w.heap.size→own n=i→own' n=i)→IntakeAt own' i W' p (fun d=>if d=c then x else l d) turn:=by
 obtain ⟨h1,h2,vs,t,h3,h4⟩:=h
 obtain ⟨o,g1,g2,g3,g4,g5,g6⟩:=h4.pick c hc
 obtain ⟨ao,cap,hv,hcap,_⟩:=(h4.row c hc).form
 have hcell:=h3.cell (i:=c) (by omega)
 simp only [hc,if_true,hv] at hcell
 refine ⟨ao,cap,o,hcell,hcap,hv▸g1,g2,g3,g4,fun W' own' v' x hx hr hb hk hp ho=>⟨h1,fun d hd=>?_,_,t,(hp t _ h3).congr fun j hj=>?_,h4.step hc hr (fun g hg=>⟨(hb g hg).1.imp (g5 g) id,(hb g hg).2⟩) (fun n hn hi hp hv=>hk.2 n hn hi fun e=>(g6 n e).elim hp hv) hk.1 ho⟩⟩
 ·by_cases e:d=c
  ·simp only [e,if_true];exact hx
  ·simp only [e,if_false];exact h2 d hd
 ·by_cases e:j=c
  ·subst e;simp [hc]
  ·simp [e]
end Go.Proofs.YtabbgpjofkaomaaGreatDoor
