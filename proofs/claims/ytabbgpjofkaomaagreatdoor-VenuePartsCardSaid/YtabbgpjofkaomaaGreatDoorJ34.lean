import Derived.Test.YtabbgpjofkaomaaGreatDoorJ25
import Derived.Test.YtabbgpjofkaomaaGreatDoorJ31
import Derived.Test.YtabbgpjofkaomaaGreatDoorDecode
import Derived.Test.YtabbgpjofkaomaaGreatDoorJ24
import Derived.Laws.AppendOwn
import Derived.Test.YtabbgpjofkaomaaGreatDoorJ0
import Derived.Deep.AppendLies
import Derived.Test.YtabbgpjofkaomaaGreatDoorJ32
import Derived.Test.YtabbgpjofkaomaaGreatDoorJ28
import Derived.Test.YtabbgpjofkaomaaGreatDoorJ30
import Derived.Test.YtabbgpjofkaomaaGreatDoorWire
set_option linter.unusedSimpArgs false
set_option linter.unusedVariables false
/- A right request's frame says that request. -/
namespace Go.Proofs.YtabbgpjofkaomaaGreatDoor
open Go.RowKit
theorem at8_list (s:ByteArray) (i:Nat):at8 s i=((s.data.toList.getD i 0).toNat:Int):=by
 unfold at8
 split
 ·rename_i h
  have e:s.data.toList.getD i 0=s[i]'h:=by
   rw [List.getD_eq_getElem?_getD,List.getElem?_eq_getElem (by rw [Array.length_toList];exact h)]
   simp;rfl
  rw [e]
 ·rename_i h
  rw [List.getD_eq_getElem?_getD,List.getElem?_eq_none (by rw [Array.length_toList];exact Nat.le_of_not_lt h)]
  rfl
theorem byteNat {n:Int} (h0:0≤n) (h1:n<256):(((UInt8.ofNat n.toNat).toNat:Nat):Int)=n:=by
 have h2:n.toNat<256:=by omega
 have e:(UInt8.ofNat n.toNat).toNat=n.toNat:=UInt8.toNat_ofNat_of_lt' h2
 rw [e];omega
theorem numL4 (a b c d:UInt8):((numL [a,b,c,d]:Nat):Int)=(a.toNat:Int)*16777216+(b.toNat:Int)*65536+(c.toNat:Int)*256+(d.toNat:Int):=by
 simp [numL];omega
theorem num4_high {n:Int} (h0:0≤n) (h1:n≤1073741824) {s:ByteArray} {i:Nat} (h:(s.data.toList.drop i).take 4=(highB n).map fun n=>UInt8.ofNat n.toNat):num4 s i=n:=by
 unfold num4
 rw [extract_list,show i+4 - i=4 by omega,h]
 simp only [highB,List.map_cons,List.map_nil]
 rw [numL4,byteNat (by omega) (by omega),byteNat (by omega) (by omega),byteNat (by omega) (by omega),byteNat (by omega) (by omega)]
 omega
theorem dec_frame {a:Ask} (hk:0≤a.kind∧a.kind≤255) (he:a.err=0):a.frame.size=30∧sumOk a.frame∧(a.frame.extract 20 26).data.toList=[0,0,0,0,0,0]∧askAt a.frame=a:=by
 obtain ⟨⟨c0,c1⟩,⟨s0,s1⟩,⟨d0,d1⟩,⟨t0,t1⟩,⟨u0,u1⟩,⟨p0,p1⟩,⟨q0,q1⟩,_⟩:=Ask.bounds he
 have hf:a.frame.data.toList=a.body.data.toList++(strOfNums (lowB (crc a.body.data.toList))).data.toList:=by
  rw [Ask.frame];simp [ByteArray.data_append]
 have hb:a.body.data.toList=a.nums.map fun n=>UInt8.ofNat n.toNat:=strOfNums_data _
 have hbl:a.body.data.toList.length=26:=by rw [Array.length_toList];exact a.body_size
 have hll:=low_len (crc a.body.data.toList)
 have e1:a.frame.extract 0 26=a.body:=by
  apply ByteArray.ext
  apply Array.toList_inj.1
  rw [extract_list,hf,List.drop_zero,List.take_append_of_le_length (by omega),List.take_of_length_le (by omega)]
 have e2:a.frame.extract 26 30=strOfNums (lowB (crc a.body.data.toList)):=by
  apply ByteArray.ext
  apply Array.toList_inj.1
  rw [extract_list,hf,List.drop_append_of_le_length (by omega),List.drop_of_length_le (by omega),List.nil_append,List.take_of_length_le (by omega)]
 generalize (strOfNums (lowB (crc a.body.data.toList))).data.toList=q at *
 have hd:∀ i k,i+k≤26→(a.frame.data.toList.drop i).take k=((a.nums.map fun n=>UInt8.ofNat n.toNat).drop i).take k:=fun i k hik=>by
  rw [hf,List.drop_append_of_le_length (by omega),List.take_append_of_le_length (by rw [List.length_drop];omega),hb]
 have hg:∀ i,i<26→a.frame.data.toList.getD i 0=(a.nums.map fun n=>UInt8.ofNat n.toNat).getD i 0:=fun i hi=>by
  rw [List.getD_eq_getElem?_getD,List.getD_eq_getElem?_getD,hf,List.getElem?_append_left (by omega),hb]
 refine ⟨a.frame_size,?_,?_,?_⟩
 ·unfold sumOk;rw [e1,e2]
 ·rw [extract_list,hd 20 (26 - 20) (by decide)]
  rfl
 ·have x0:at8 a.frame 0=a.kind:=by rw [at8_list,hg 0 (by decide)];exact byteNat hk.1 (by omega)
  have x1:at8 a.frame 1=a.client:=by rw [at8_list,hg 1 (by decide)];exact byteNat c0 (by omega)
  have x6:at8 a.frame 6=a.item:=by rw [at8_list,hg 6 (by decide)];exact byteNat t0 (by omega)
  have x7:at8 a.frame 7=a.side:=by rw [at8_list,hg 7 (by decide)];exact byteNat u0 (by omega)
  have y2:num4 a.frame 2=a.seq:=num4_high s0 s1 (by rw [hd 2 4 (by decide)];rfl)
  have y8:num4 a.frame 8=a.price:=num4_high p0 (by omega) (by rw [hd 8 4 (by decide)];rfl)
  have y12:num4 a.frame 12=a.qty:=num4_high q0 (by omega) (by rw [hd 12 4 (by decide)];rfl)
  have y16:num4 a.frame 16=a.id:=num4_high d0 d1 (by rw [hd 16 4 (by decide)];rfl)
  unfold askAt
  rw [x0,x1,x6,x7,y2,y8,y12,y16]
theorem decE_frame {a:Ask} (hk:0≤a.kind∧a.kind≤255) (he:a.err=0):decE a.frame=0∧decA a.frame=a:=by
 obtain ⟨h1,h2,h3,h4⟩:=dec_frame hk he
 have h:decE a.frame=0:=by
  unfold decE
  rw [if_neg (by rw [h1];decide),if_neg (fun h=>h h2),if_neg (fun h=>h h3),h4,he]
 exact ⟨h,by unfold decA;rw [if_pos h,h4]⟩
end Go.Proofs.YtabbgpjofkaomaaGreatDoor

/- What the statements' coded computes (chapters 1 to 5). -/
namespace Go.Proofs.YtabbgpjofkaomaaGreatDoor
open Go.RowKit
end Go.Proofs.YtabbgpjofkaomaaGreatDoor

/- What Decode and AskOf make of any text. -/
namespace Go.Proofs.YtabbgpjofkaomaaGreatDoor
open Go.RowKit
theorem Ask.err_le (a:Ask):a.err≤4:=by
 unfold Ask.err
 repeat' split
 all_goals omega
theorem decE_le (s:ByteArray):decE s≤5:=by
 unfold decE
 have:=(askAt s).err_le
 repeat' split
 all_goals omega
theorem decode_any (s:ByteArray) (E:Nat→Addr) (w:World) (hE:Errs E [1,2,3,4,5] w):Calls Tryz.prog 75 #[.string s] w fun e w'=>e=.returned (.tuple #[(decA s).val,errV E (decE s)])∧Ex w w':=by
 by_cases h1:s.size=30
 ·by_cases h2:sumOk s
  ·by_cases h3:(s.extract 20 26).data.toList=[0,0,0,0,0,0]
   ·have e1:decE s=(askAt s).err:=by unfold decE;rw [if_neg (fun h=>h h1),if_neg (fun h=>h h2),if_neg (fun h=>h h3)]
    have e2:(decA s).val=if (askAt s).err=0 then (askAt s).val else zeroV:=by
     unfold decA;rw [e1];split<;>rfl
    rw [e1,e2]
    exact decode_in s E w h1 (Errs.sub hE (by decide)) h2 h3
   ·have e1:decE s=3:=by unfold decE;rw [if_neg (fun h=>h h1),if_neg (fun h=>h h2),if_pos h3]
    have e2:decA s=zeroAsk:=by unfold decA;rw [e1];rfl
    rw [e1,e2]
    exact decode_shape s E w h1 (Errs.sub hE (by decide)) h2 h3
  ·have e1:decE s=5:=by unfold decE;rw [if_neg (fun h=>h h1),if_pos h2]
   have e2:decA s=zeroAsk:=by unfold decA;rw [e1];rfl
   rw [e1,e2]
   exact decode_sum s E w h1 (Errs.sub hE (by decide)) h2
 ·have e1:decE s=1:=by unfold decE;rw [if_pos h1]
  have e2:decA s=zeroAsk:=by unfold decA;rw [e1];rfl
  rw [e1,e2]
  exact decode_len s E w h1 (Errs.sub hE (by decide))
end Go.Proofs.YtabbgpjofkaomaaGreatDoor

/- A reader of a stream: one cell that turns, beside new memory. -/
namespace Go.Proofs.YtabbgpjofkaomaaGreatDoor
open Go.RowKit
def ReaderAt (w:World) (rb:Nat) (l:List UInt8):Prop:=w.heap[rb]?=some (.cells #[.string ⟨l.toArray⟩] 104 (0,0))
theorem ReaderAt.lt {w:World} {rb:Nat} {l:List UInt8} (h:ReaderAt w rb l):rb<w.heap.size:=(Array.getElem?_eq_some_iff.1 h).1
theorem ReaderAt.cell {w:World} {rb:Nat} {l:List UInt8} (h:ReaderAt w rb l):w.cell? ⟨rb,0,none⟩=some (.string ⟨l.toArray⟩):=by simp [World.cell?,show w.heap[rb]?=_ from h]
theorem ReaderAt.frozen {w:World} {rb:Nat} {l:List UInt8} (h:ReaderAt w rb l):w.frozen? ⟨rb,0,none⟩=false:=by simp [World.frozen?,show w.heap[rb]?=_ from h]
theorem ReaderAt.set {w:World} {rb:Nat} {l:List UInt8} (h:ReaderAt w rb l) (t:List UInt8):ReaderAt (w.setCell ⟨rb,0,none⟩ (.string ⟨t.toArray⟩)) rb t:=by
 have:=heap_setCell_same w rb 0 _ _ (.string ⟨t.toArray⟩) h
 simpa [ReaderAt] using this
theorem ReaderAt.ex {w w':World} {rb:Nat} {l:List UInt8} (h:ReaderAt w rb l) (hx:Ex w w'):ReaderAt w' rb l:=(hx.below.block rb h.lt).trans h
def Fed (w:World) (rb:Nat) (l:List UInt8) (w':World):Prop:=Ex (w.setCell ⟨rb,0,none⟩ (.string ⟨l.toArray⟩)) w'
theorem Fed.step {w w1 w2:World} {rb:Nat} {l:List UInt8} (h:Fed w rb l w1) (hx:Ex w1 w2):Fed w rb l w2:=Ex.trans h hx
theorem Fed.reader {w w':World} {rb:Nat} {r l:List UInt8} (h:Fed w rb l w') (hr:ReaderAt w rb r):ReaderAt w' rb l:=(hr.set l).ex h
theorem Fed.size {w w':World} {rb:Nat} {l:List UInt8} (h:Fed w rb l w'):w.heap.size≤w'.heap.size:=by
 have:=(show Ex _ w' from h).below.size
 simpa [go_sem] using this
theorem Fed.set {w w1:World} {rb:Nat} {r l:List UInt8} (h:Fed w rb l w1) (hr:ReaderAt w rb r) (t:List UInt8):Fed w rb t (w1.setCell ⟨rb,0,none⟩ (.string ⟨t.toArray⟩)):=by
 have hb:=(show Ex _ w1 from h).below
 have h1:=h.reader hr
 refine Ex.of ⟨?_,?_,?_,?_,fun k hk=>?_⟩
 ·exact hb.os
 ·exact hb.tape
 ·exact hb.output
 ·simpa [go_sem] using hb.size
 ·by_cases e:k=rb
  ·subst e
   exact (h1.set t).trans (hr.set t).symm
  ·rw [heap_setCell_other _ ⟨rb,0,none⟩ k _ e,heap_setCell_other _ ⟨rb,0,none⟩ k _ e]
   have:=hb.block k (by simpa [go_sem] using hk)
   rw [this,heap_setCell_other _ ⟨rb,0,none⟩ k _ e]
theorem Fed.below {w0 w w':World} {rb:Nat} {l:List UInt8} (h:Fed w rb l w') (h0:Below w0.heap.size w0 w) (hrb:w0.heap.size≤rb):Below w0.heap.size w0 w' :=
 h0.trans ((Below.setCell (Below.refl _ _) hrb _).trans ((show Ex _ w' from h).below.mono (by simpa [go_sem] using h0.size)))
abbrev Got.cells (g:Got):List Value:=g.ask.cells++[.int .i64 (g.code:Int)]
theorem code_same (c:Nat) (E:Nat→Addr) (w:World) (hr:CodeReady E w) (h:c≤12):Calls Tryz.prog 65 #[errV E c] w fun e w'=>e=.returned (.tuple #[.int .i64 (c:Int),.int .i64 (-1)])∧Ex w w':=by
 by_cases h0:c=0
 ·subst h0
  rw [errV_zero]
  exact (code_nil w).mono fun e w' ⟨h1,h2⟩=>⟨h1,h2▸Ex.refl _⟩
 ·rw [errV_pos _ _ h0]
  exact (code_err c E w hr (by omega) h).mono fun e w' ⟨h1,h2⟩=>⟨h1,h2⟩
end Go.Proofs.YtabbgpjofkaomaaGreatDoor

/- What Feed of package wire computes. -/
namespace Go.Proofs.YtabbgpjofkaomaaGreatDoor
open Go.RowKit
theorem infoGot:(Tryz.prog.info? 115).map (fun i=>(i.zero,i.size,i.bytes))=some (some (.agg #[.int .u8 0,.int .i64 0,.int .i64 0,.int .i64 0,.int .i64 0,.int .i64 0,.int .i64 0,.int .i64 0,.int .i64 0]),9,72):=by kernel_rfl
theorem ReaderAt.grown {w w':World} {rb:Nat} {l:List UInt8} {row:Option Nat} (h:ReaderAt w rb l) (hg:w.grownBy w' row) (hne:some rb≠row):ReaderAt w' rb l:=(hg.block rb h.lt hne).trans h
theorem Fed.grown {w W w3:World} {rb:Nat} {l:List UInt8} {row:Option Nat} (h:Fed w rb l W) (hg:W.grownBy w3 row) (hr:∀ k,row=some k→w.heap.size≤k):Fed w rb l w3 :=
 Ex.of (Below.grown (show Ex _ W from h).below hg (by simpa [go_sem] using h.size) (by simpa [go_sem] using hr))
set_option maxRecDepth 100000 in
set_option maxHeartbeats 4000000 in
theorem feed_any (rb:Nat) (r s:List UInt8) (E:Nat→Addr) (w0 w:World) (hR:CodeReady E w0) (h0:Below w0.heap.size w0 w) (hrb:w0.heap.size≤rb) (hr:ReaderAt w rb r) (hlen:r.length+s.length≤1000) :
  Calls Tryz.prog 47 #[.pointer (some ⟨rb,0,none⟩),.string ⟨s.toArray⟩] w fun e w'=>(∃ v,e=.returned v∧w'.ownsRow w.heap.size 115 9 v (gotsL (r++s)).length ((gotsL (r++s)).flatMap Got.cells))∧Fed w rb (leftL (r++s)) w':=by
 obtain ⟨i0,hi0,hz0,hz1,hz2⟩:=info_parts infoGot
 have c0:=hr.cell
 have f0:=hr.frozen
 have hlt:=hr.lt
 have HRD:=Lib.hid hr
 have HB0:=Lib.hid h0
 have HR:=Lib.hid hR
 have ha:=bytes_add r s
 have z1:=bytes_size r
 have z2:=bytes_size s
 have HL:Hid ((r++s).length≤1000):=Lib.hid (by rw [List.length_append];exact hlen)
 clear hR h0 hr
 go_enter Tryz.func47,Tryz.ntmps47
 go_wp2_with fail
 have hA:(r++s).length≤1000:=HL.out
 have HW:Hid (Fed w rb (r++s) (w.setCell ⟨rb,0,none⟩ (.string ⟨(r++s).toArray⟩))):=Lib.hid (Ex.refl _)
 clear c0 f0 HL ha z1 z2 hlen
 generalize hAA:r++s=A at *
 have HAE:=Lib.hid hAA
 clear hAA
 go_loopw [5] (fun v wr=>∃ (k:Nat) (u:Value),u=v∧k≤A.length / 30∧wr.ownsRow w.heap.size 115 9 u k (((gotsL A).take k).flatMap Got.cells)∧Fed w rb (A.drop (30*k)) wr) (fun v _=>A.length / 30 - sliceLen v)
 case atStart=>exact ⟨0,_,rfl,Nat.zero_le _,World.ownsRow_nil _ _ _ _,by rw [Nat.mul_zero,List.drop_zero];exact HW.out⟩
 case round =>
  obtain ⟨k,v,rfl,hk,hrow,hfd⟩:=hrel
  have hrd:=hfd.reader HRD.out
  have c1:=hrd.cell
  have f1:=hrd.frozen
  have hl1:=hrd.lt
  have hsz:=hfd.size
  have hvl:=owns_len hrow
  have hob:=owns_bound hrow hlt
  have hTl:(A.drop (30*k)).length=A.length - 30*k:=List.length_drop
  have HRW:=Lib.hid (HR.out.ex (Ex.of (hfd.below HB0.out hrb)))
  by_cases hkk:k<A.length / 30
  ·have hg:(gotsL A).take (k+1)=(gotsL A).take k++[gotOf ((A.drop (30*k)).take 30)]:=by
    have e:(gotsL A)[k]?=some (gotOf ((A.drop (30*k)).take 30)):=by
     simp only [gotsL]
     rw [List.getElem?_map,List.getElem?_range hkk];rfl
    rw [List.take_add_one,e];rfl
   have hd:A.drop (30*(k+1))=(A.drop (30*k)).drop 30:=by rw [List.drop_drop];congr 1
   have HG:=Lib.hid hg
   have HD:=Lib.hid hd
   have HFD:=Lib.hid hfd
   have HROW:=Lib.hid hrow
   clear hg hd hfd hrow hrd
   generalize A.drop (30*k)=T at *
   have zT:=bytes_size T
   have e1:=bytes_head T 30
   have e2:(⟨T.toArray⟩:ByteArray).extract 30 (A.length - 30*k)=⟨(T.drop 30).toArray⟩:=bytes_tail T 30 _ (by omega)
   have hT30:30≤T.length:=by omega
   have hcE:=decE_le ⟨(T.take 30).toArray⟩
   have HDE:=Lib.hid (fun w hE=>decode_any ⟨(T.take 30).toArray⟩ E w hE)
   have HGO:Hid (gotOf (T.take 30)=⟨decA ⟨(T.take 30).toArray⟩,decE ⟨(T.take 30).toArray⟩⟩):=Lib.hid rfl
   generalize decA ⟨(T.take 30).toArray⟩=X at *
   generalize decE ⟨(T.take 30).toArray⟩=cd at *
   have HCO:=Lib.hid (fun w hr=>code_same cd E w hr (by omega))
   go_wp2_with (first
    | (go_at_call 75;refine (HDE.out _ (Errs.sub (HRW.out.1.ex (by repeat (first|exact Ex.refl _|refine Ex.alloc ?_ _|refine Ex.ext ?_ _ _|refine Ex.drew ?_|refine Ex.drewN ?_ _))) (by decide))).mono ?_;rintro e w1 ⟨rfl,l1,d1,rfl⟩)
    | (go_at_call 65;refine (HCO.out _ (HRW.out.ex (by repeat (first|exact Ex.refl _|refine Ex.alloc ?_ _|refine Ex.ext ?_ _ _|refine Ex.drew ?_|refine Ex.drewN ?_ _)))).mono ?_;rintro e w1 ⟨rfl,l2,d2,rfl⟩)
    | (at_builtin;refine wpList_append_own _ rfl (.tmp 38) (.tmp 42) 112 rfl w.heap.size 115 i0 _ 9 72 Tryz.underlying112 hi0 hz0 hz1 hz2 rfl (by decide) v k (((gotsL A).take k).flatMap Got.cells) rfl ?_ _ 1 1 [.int .u8 X.kind,.int .i64 X.client,.int .i64 X.seq,.int .i64 X.item,.int .i64 X.side,.int .i64 X.price,.int .i64 X.qty,.int .i64 X.id,.int .i64 (cd:Int)] rfl rfl ?_ ?_ (by unfold maxLen;omega) (by omega) ?_ ?_;(focus (refine HROW.out.kept (belowGrownBy ?_) (Classical.em _);((refine Below.trans (Below.refl _ _) ?_;repeat (first|exact Below.refl _ _|(refine Below.drew ?_)|(refine Below.drewN ?_ _)|(refine Below.ext ?_ (by first|omega|(simp [go_sem];done)|(simp [go_sem];omega)) _ _)|(refine Below.alloc ?_ (by first|omega|(simp [go_sem];done)|(simp [go_sem];omega)) _)|(refine Below.setCell ?_ (by first|omega|(simp [go_sem];done)|(simp [go_sem];omega)) _))))));(focus exact World.news_of_block (alloc_top (by first|rfl|(simp [ext_size];done)|(simp [ext_size];omega))));(focus simp [Value.oneCell']);(focus (simp [go_sem,ext_size];omega));intro v1 w3 hown hgrow hnil;have hrd3:=((HFD.out.reader HRD.out).ex (by repeat (first|exact Ex.refl _|refine Ex.alloc ?_ _|refine Ex.ext ?_ _ _|refine Ex.drew ?_|refine Ex.drewN ?_ _))).grown hgrow (hob.elim (fun h=>by rw [h];simp) (fun h=>Ne.symm h));have c3:=hrd3.cell;have f3:=hrd3.frozen;have l3:=hrd3.lt;have HR3:=Lib.hid hrd3;have HOW:=Lib.hid hown;have HGR:=Lib.hid hgrow;clear hrd3 hown hgrow hnil))
   go_roundw
   case measure=>rw [owns_len HOW.out,hvl];omega
   case rel =>
    refine ⟨k+1,_,rfl,by omega,?_,?_⟩
    ·have h:=HOW.out.kept (grown_cell w3 rb 0 (.string ⟨(T.drop 30).toArray⟩)) (owns_bound HOW.out hlt)
     rw [HG.out,List.flatMap_append,HGO.out]
     exact h
    ·rw [HD.out]
     exact Fed.set ((HFD.out.step (by repeat (first|exact Ex.refl _|refine Ex.alloc ?_ _|refine Ex.ext ?_ _ _|refine Ex.drew ?_|refine Ex.drewN ?_ _))).grown HGR.out (fun j hj=>(HROW.out.lt j hj).1)) HRD.out _
  ·obtain rfl:k=A.length / 30:=by omega
   have hT2:(A.drop (30*(A.length / 30))).length<30:=by omega
   have HFD:=Lib.hid hfd
   have HROW:=Lib.hid hrow
   have HTK:Hid ((gotsL A).take (A.length / 30)=gotsL A):=Lib.hid (List.take_of_length_le (by rw [gotsL_len];exact Nat.le_refl _))
   clear hfd hrow hrd
   have zT:=bytes_size (A.drop (30*(A.length / 30)))
   go_wp2_with fail
   all_goals go_ret
   all_goals exact ⟨⟨_,rfl,by rw [HAE.out,gotsL_len];have h:=HROW.out;rw [HTK.out] at h;exact h⟩,by rw [HAE.out];exact HFD.out.step (by repeat (first|exact Ex.refl _|refine Ex.alloc ?_ _|refine Ex.ext ?_ _ _|refine Ex.drew ?_|refine Ex.drewN ?_ _))⟩
end Go.Proofs.YtabbgpjofkaomaaGreatDoor

/- An intake, a disk, readers as things that lie in blocks of their own. -/
namespace Go.Proofs.YtabbgpjofkaomaaGreatDoor
open Go.RowKit
def inOb (p:Nat) (q:Nat→List Ask) (turn:Nat):LabOb where
 Ob own i w:=IntakeAt own i w p q turn
 kp h hk hi ho:=h.kp hk hi ho
def dkOb (p:Nat) (d:Dk):LabOb where
 Ob own i w:=DiskAt own i w p d
 kp h hk hi ho:=h.kp hk hi ho
def arowRd (l:List Ask) (v:Value):Rd v where
 R w:=RowAt w 45 8 v l.length (flat Ask.cells l)
 lt h g hg:=h.lt g hg
 same h hb:=h.of_block hb
section
variable {F:Nat→Prop} {w w':World} {p:Nat} {q:Nat→List Ask} {turn:Nat}
theorem inTh.drain {own:Nat→Nat} (hF:∀ n,n<w.heap.size→own n=1→F n) (hz:∀ n,n<w.heap.size→own n≠0) {e:Ending} (h:DrainTo own 1 0 w p q turn e w') :
  ∃ v,e=.returned v∧LeavesL [labTh (inOb p (fun d=>(q d).drop 2) ((turn+1) % 6)),rdTh (arowRd (outOf q turn 6) v)] F w w':=by
 obtain ⟨v,he,k,x,rfl,hI,hr⟩:=h
 have hnew:∀ g,v.ownBlock=some g→w.heap.size≤g:=fun g hg=>by
  have e:=hr.2 g hg
  by_cases hlt:g<w.heap.size
  ·rw [lab_lt hlt] at e
   exact absurd e (hz g hlt)
  ·omega
 refine ⟨v,he,_,SepL.two (F:=fun n=>F n∧n<w.heap.size) (G:=fun n=>v.ownBlock=some n) ⟨fun n hn=>by rw [ov_size];omega,_,hI,fun n hn e=>?_⟩ ⟨fun n=>Iff.rfl,hr.1⟩ (fun n hn hg=>by have:=hnew n hg;omega),Only.of_kp (ov_kp w own 1 1 k x) (fun n hn e=>hF n hn (by rw [Nat.div_one] at e;exact e)),fun n hn=>?_⟩
 ·by_cases hlt:n<w.heap.size
  ·rw [lab_lt hlt] at e
   exact ⟨hF n hlt e,hlt⟩
  ·rw [ov_size] at hn
   unfold lab at e
   rw [if_neg hlt,if_pos hn] at e
   cases e
 ·rcases hn with h|h
  ·exact .inl h.1
  ·exact .inr (hnew n h)
end
def rdsTh (rd:Nat→Nat) (ls:Nat→List UInt8):Th where
 P F w:=(∀ n,F n↔∃ c,c<6∧n=rd c)∧(∀ c d,c<6→d<6→rd c=rd d→c=d)∧∀ c,c<6→ReaderAt w (rd c) (ls c)
 lt h n hn:=by
  obtain ⟨c,hc,rfl⟩:=(h.1 n).1 hn
  exact (h.2.2 c hc).lt
 same h ho hn:=⟨h.1,h.2.1,fun c hc=>(ho.block _ (h.2.2 c hc).lt (hn _ ((h.1 _).2 ⟨c,hc,rfl⟩))).trans (h.2.2 c hc)⟩
end Go.Proofs.YtabbgpjofkaomaaGreatDoor

/- A venue in memory: its block, its clients' row, its floor, its intake, its disk, its clients' readers. -/
namespace Go.Proofs.YtabbgpjofkaomaaGreatDoor
open Go.RowKit
structure VA where
 vb:Nat
 rg:Nat
 cap:Nat
 fa:FlA
 ip:Nat
 dp:Nat
 rd:Nat→Nat
def VA.head (A:VA) (v:VSt) (j:Nat):Value :=
 if j=0 then .int .u32 v.c.seed else if j=1 then .int .i64 v.c.wd else if j=2 then .int .i64 v.c.hl else if j=3 then .int .i64 v.c.ref else if j=4 then .int .i64 v.c.cash else if j=5 then .int .i64 v.c.stock
 else if j=6 then .pointer (some ⟨A.fa.f,0,none⟩) else if j=7 then .slice (some ⟨A.rg,0,none⟩) 6 A.cap else if j=8 then .pointer (some ⟨A.ip,0,none⟩) else if j=9 then .pointer (some ⟨A.dp,0,none⟩)
 else if j=10 then .int .i64 (v.now:Int) else if j=11 then .int .i64 (v.bat:Int) else .bool v.down
def cliV (x:Cli) (r:Nat) (j:Nat):Value:=if j=0 then .bool x.s.on else if j=1 then .int .i64 x.s.next else if j=2 then .int .i64 x.s.last else if j=3 then .pointer (some ⟨r,0,none⟩) else .bool x.drop
def VA.item (A:VA) (v:VSt) (n:Nat):Value:=cliV (v.cl (n / 5)) (A.rd (n / 5)) (n % 5)
def vList (A:VA) (v:VSt):List Th :=
 [partTh A.vb 13 (A.head v),partTh A.rg 30 (A.item v),flTh A.fa v.f,labTh (inOb A.ip v.q v.turn),labTh (dkOb A.dp v.d),rdsTh A.rd (fun n=>(v.cl n).left)]
def vTh (vb:Nat) (fa:FlA) (dp:Nat) (v:VSt):Th where
 P F w:=∃ A:VA,A.vb=vb∧A.fa=fa∧A.dp=dp∧(fa.wd=v.c.wd∧fa.hl=v.c.hl∧6≤A.cap∧A.cap≤maxLen)∧SepL (vList A v) F w
 lt h:=by
  obtain ⟨A,_,_,_,_,h⟩:=h
  exact h.lt
 same h ho hn:=by
  obtain ⟨A,a,b,c,d,h⟩:=h
  exact ⟨A,a,b,c,d,h.same ho hn⟩
structure VX (E:Nat→Addr) (w0:World) (F:Nat→Prop) (w:World) (A:VA) (v:VSt) (M:List Th) (W:World):Prop where
 sep:Sep F w (vList A v++M) W
 ex:Ex w0 w
 lo:∀ n,F n→w0.heap.size≤n
 rdy:CodeReady E w0
 rule:A.fa.wd=v.c.wd∧A.fa.hl=v.c.hl∧6≤A.cap∧A.cap≤maxLen
section
variable {E:Nat→Addr} {w0 w W W':World} {F:Nat→Prop} {A:VA} {v v':VSt} {M M':List Th} {T T':Th}
theorem VX.start {vb:Nat} {fa:FlA} {dp:Nat} (h:(vTh vb fa dp v).P F w) (hx:Ex w0 w) (hl:∀ n,F n→w0.heap.size≤n) (hr:CodeReady E w0):∃ A:VA,(A.vb=vb∧A.fa=fa∧A.dp=dp)∧VX E w0 F w A v [] w:=by
 obtain ⟨A,a,b,c,d,h⟩:=h
 subst b
 exact ⟨A,⟨a,rfl,c⟩,⟨by rw [List.append_nil];exact Sep.start h,hx,hl,hr,d⟩⟩
theorem VX.exW (X:VX E w0 F w A v M W):Ex w0 W:=X.sep.only.after X.ex X.lo
theorem VX.ready (X:VX E w0 F w A v M W):CodeReady E W:=X.rdy.ex X.exW
theorem VX.errs (X:VX E w0 F w A v M W) {L:List Nat} (hs:∀ e∈L,e∈allE):Errs E L W:=(X.ready.1).sub hs
theorem VX.later (X:VX E w0 F w A v M W) (hx:Ex W W'):VX E w0 F w A v M W':=⟨X.sep.later hx,X.ex,X.lo,X.rdy,X.rule⟩
theorem VX.add (X:VX E w0 F w A v M W) (hx:Ex W W') {G:Nat→Prop} (hM:SepL M' G W') (hn:∀ n,G n→W.heap.size≤n):VX E w0 F w A v (M'++M) W' :=
 ⟨(X.sep.addB hx hM hn).perm (by rw [List.append_assoc];exact List.perm_append_comm.append_left _),X.ex,X.lo,X.rdy,X.rule⟩
theorem vlist_len (A:VA) (v:VSt):(vList A v).length=6:=rfl
theorem VX.headP (X:VX E w0 F w A v M W):PartAt W A.vb 13 (A.head v):=by
 obtain ⟨G,h⟩:=X.sep.look 0 rfl
 exact h.2
theorem VX.rowP (X:VX E w0 F w A v M W):PartAt W A.rg 30 (A.item v):=by
 obtain ⟨G,h⟩:=X.sep.look 1 rfl
 exact h.2
theorem VX.cells (X:VX E w0 F w A v M W):(W.cell? ⟨A.vb,6,none⟩=some (.pointer (some ⟨A.fa.f,0,none⟩))∧W.cell? ⟨A.vb,7,none⟩=some (.slice (some ⟨A.rg,0,none⟩) 6 A.cap)∧W.cell? ⟨A.vb,8,none⟩=some (.pointer (some ⟨A.ip,0,none⟩))∧W.cell? ⟨A.vb,9,none⟩=some (.pointer (some ⟨A.dp,0,none⟩)) ∧
  W.cell? ⟨A.vb,10,none⟩=some (.int .i64 (v.now:Int))∧W.cell? ⟨A.vb,11,none⟩=some (.int .i64 (v.bat:Int))∧W.cell? ⟨A.vb,12,none⟩=some (.bool v.down)∧W.cell? ⟨A.vb,0,none⟩=some (.int .u32 v.c.seed))∧A.vb<W.heap.size∧A.rg<W.heap.size :=
 ⟨⟨X.headP.cell (j:=6) (by decide),X.headP.cell (j:=7) (by decide),X.headP.cell (j:=8) (by decide),X.headP.cell (j:=9) (by decide),X.headP.cell (j:=10) (by decide),X.headP.cell (j:=11) (by decide),X.headP.cell (j:=12) (by decide),X.headP.cell (j:=0) (by decide)⟩,X.headP.lt,X.rowP.lt⟩
theorem VX.cli (X:VX E w0 F w A v M W) {n:Nat} (hn:n<6):W.cell? ⟨A.rg,n*5,none⟩=some (.bool (v.cl n).s.on)∧W.cell? ⟨A.rg,n*5+1,none⟩=some (.int .i64 (v.cl n).s.next)∧W.cell? ⟨A.rg,n*5+2,none⟩=some (.int .i64 (v.cl n).s.last)∧W.cell? ⟨A.rg,n*5+3,none⟩=some (.pointer (some ⟨A.rd n,0,none⟩))∧W.cell? ⟨A.rg,n*5+4,none⟩=some (.bool (v.cl n).drop):=by
 have key:∀ j,j<5→W.cell? ⟨A.rg,n*5+j,none⟩=some (cliV (v.cl n) (A.rd n) j):=fun j hj=>by
  rw [X.rowP.cell (j:=n*5+j) (by omega)]
  unfold VA.item
  rw [show (n*5+j) / 5=n by omega,show (n*5+j) % 5=j by omega]
 exact ⟨key 0 (by decide),key 1 (by decide),key 2 (by decide),key 3 (by decide),key 4 (by decide)⟩
end
end Go.Proofs.YtabbgpjofkaomaaGreatDoor

/- What session's Take and Late compute. -/
namespace Go.Proofs.YtabbgpjofkaomaaGreatDoor
open Go.RowKit
set_option maxHeartbeats 2000000 in
set_option maxRecDepth 100000 in
theorem sessTake_ok (s:Sess) (a:Ask) (now:Int) (E:Nat→Addr) (w:World) (hE:Errs E [2,3,4,11,12] w) (he:a.err=0) :
    Calls Tryz.prog 77 #[s.val,a.val,.int .i64 now] w fun e w'=>e=.returned (.tuple #[(s.take a now).1.val,errV E (s.take a now).2])∧Ex w w':=by
  have e11:w.cell? ⟨10,0,none⟩=some (.iface 357 (.pointer (some (E 11)))):=hE 11 (by decide)
  have b11:10<w.heap.size:=lt_of_cell e11
  have e12:w.cell? ⟨11,0,none⟩=some (.iface 357 (.pointer (some (E 12)))):=hE 12 (by decide)
  have b12:11<w.heap.size:=lt_of_cell e12
  obtain ⟨hs1,hs2⟩:=Ask.seq_of_err he
  have hc:=wireCheck_any a E
  rw [he,errV_zero] at hc
  have HE:=Lib.hid he
  have HC:=Lib.hid hc
  clear he hc
  go_enter Tryz.func77,Tryz.ntmps77
  go_wp2_with (go_at_call 109;go_loud (refine (HC.out _ (by exact Errs.sub (hE.ex (by repeat (first|exact Ex.refl _|refine Ex.alloc ?_ _|refine Ex.ext ?_ _ _|refine Ex.drew ?_|refine Ex.drewN ?_ _))) (by decide))).mono ?_);rintro e w1 ⟨rfl,l1,d1,rfl⟩)
  all_goals (try (go_region;all_goals go_wp2))
  go_ways
  all_goals (try simp only [Exit.inBlock,Exit.then])
  all_goals (refine bodyPost_ret (v:=.tuple #[(s.take a now).1.val,errV E (s.take a now).2]) ?_ rfl ⟨rfl,(by repeat (first|exact Ex.refl _|refine Ex.alloc ?_ _|refine Ex.ext ?_ _ _|refine Ex.drew ?_|refine Ex.drewN ?_ _))⟩)
  all_goals simp only [results,Tryz.results77]
  all_goals simp [go_sem,↓IntWalk.iteOmega]
  all_goals have he:=HE.out
  all_goals clear HE HC hE e11 e12
  all_goals first
    | (simp [Sess.take,he,errV, *];done)
    | (simp only [Bool.not_eq_eq_eq_not,Bool.not_true,Bool.not_false] at *;simp [Sess.take,he,errV, *];done)
    | (have hq:(a.seq != s.next)=false:=by assumption
       have hq2:a.seq=s.next:=by simpa using hq
       rw [IntWalk.wrap64_in _ (by omega)]
       simp only [Bool.not_eq_eq_eq_not,Bool.not_true,Bool.not_false] at *
       simp [Sess.take,he,errV, *])
set_option maxRecDepth 100000 in
theorem sessTake_bad (s:Sess) (a:Ask) (now:Int) (E:Nat→Addr) (w:World) (hE:Errs E [2,3,4,11,12] w) (he:a.err≠0) :
    Calls Tryz.prog 77 #[s.val,a.val,.int .i64 now] w fun e w'=>e=.returned (.tuple #[(s.take a now).1.val,errV E (s.take a now).2])∧Ex w w':=by
  have hc:=wireCheck_any a E
  rw [errV_pos E _ he] at hc
  have ht:s.take a now=(s,a.err):=by simp [Sess.take,he]
  rw [ht,errV_pos E _ he]
  have HC:=Lib.hid hc
  clear he hc ht
  go_enter Tryz.func77,Tryz.ntmps77
  go_wp2_with (go_at_call 109;go_loud (refine (HC.out _ (by exact Errs.sub (hE.ex (by repeat (first|exact Ex.refl _|refine Ex.alloc ?_ _|refine Ex.ext ?_ _ _|refine Ex.drew ?_|refine Ex.drewN ?_ _))) (by decide))).mono ?_);rintro e w1 ⟨rfl,l1,d1,rfl⟩)
  all_goals (try simp only [Exit.inBlock,Exit.then])
  all_goals (refine bodyPost_ret (v:=.tuple #[s.val,.iface 357 (.pointer (some (E a.err)))]) ?_ rfl ⟨rfl,(by repeat (first|exact Ex.refl _|refine Ex.alloc ?_ _|refine Ex.ext ?_ _ _|refine Ex.drew ?_|refine Ex.drewN ?_ _))⟩)
  all_goals simp only [results,Tryz.results77]
  all_goals simp [go_sem,↓IntWalk.iteOmega]
theorem sessTake_any (s:Sess) (a:Ask) (now:Int) (E:Nat→Addr) (w:World) (hE:Errs E [2,3,4,11,12] w) :
    Calls Tryz.prog 77 #[s.val,a.val,.int .i64 now] w fun e w'=>e=.returned (.tuple #[(s.take a now).1.val,errV E (s.take a now).2])∧Ex w w':=by
  by_cases he:a.err=0
  · exact sessTake_ok s a now E w hE he
  · exact sessTake_bad s a now E w hE he
theorem sessLate_any (s:Sess) (now:Int) (w:World) (h1:-4611686018427387904≤s.last) (h2:s.last≤4611686018427387904) :
    Calls Tryz.prog 53 #[s.val,.int .i64 now] w fun e w'=>e=.returned (.bool (s.late now))∧Ex w w':=by
  go_enter Tryz.func53,Tryz.ntmps53
  go_wp2
  all_goals go_ret
  all_goals exact ⟨ret_bool (by simp [Sess.late, *]),(by repeat (first|exact Ex.refl _|refine Ex.alloc ?_ _|refine Ex.ext ?_ _ _|refine Ex.drew ?_|refine Ex.drewN ?_ _))⟩
end Go.Proofs.YtabbgpjofkaomaaGreatDoor

/- Steps inside a method of a venue: calls on its parts, stores to its cells. -/
namespace Go.Proofs.YtabbgpjofkaomaaGreatDoor
open Go.RowKit
section
variable {E:Nat→Addr} {w0 w W W':World} {F:Nat→Prop} {A:VA} {v v':VSt} {M:List Th} {f:FuncId} {args:Array Value} {P:Ending→Prop} {Q:Ending→World→Prop}
theorem VX.low (X:VX E w0 F w A v M W) {L:List Nat} (hs:∀ e∈L,e∈allE) {n:Nat} (hn:GE L n):n<w0.heap.size:=by
 obtain ⟨e,he,rfl⟩:=hn
 exact lt_of_cell (X.rdy.1 e (hs e he))
theorem VX.floorL {T':List Th} (X:VX E w0 F w A v M W) (hC:∀ (G:Nat→Prop) own,(∀ n,G n→n<W.heap.size)→(∀ n,n<W.heap.size→own n / 8=0→G n)→FlAt own 0 W A.fa v.f→(∀ n,n<w0.heap.size→own n / 8≠0)→Calls Tryz.prog f args W fun e w'=>Q e w'∧LeavesL T' G W w') :
  Calls Tryz.prog f args W fun e w'=>Q e w'∧Sep F w ((vList A v++M).take 2++(T'++(vList A v++M).drop 3)) w':=by
 obtain ⟨G,⟨h0,own,hA,hF⟩,hG,close⟩:=X.sep.open 2 rfl
 refine (hC G own h0 hF hA fun n hn e=>?_).mono fun e w' ⟨he,F',k1,k2,k3⟩=>⟨he,close k2 k1 k3⟩
 have h1:=X.ex.below.size
 rcases hG n (hF n (Nat.lt_of_lt_of_le hn (Nat.le_trans h1 X.sep.size)) e) with h|h
 ·have:=X.lo n h;omega
 ·omega
theorem VX.floor {st':FSt} (X:VX E w0 F w A v M W) (hC:∀ own,FlAt own 0 W A.fa v.f→(∀ n,n<w0.heap.size→own n / 8≠0)→Calls Tryz.prog f args W fun e w'=>P e∧FlG own 0 W A.fa st' w') :
  Calls Tryz.prog f args W fun e w'=>P e∧VX E w0 F w A { v with f:=st' } M w':=by
 refine (X.floorL (Q:=fun e _=>P e) (T':=[flTh A.fa st']) fun G own h0 hF hA hn=>(hC own hA hn).mono fun e w' ⟨he,hg⟩=>⟨he,(flTh.leaves h0 hF hg).toL⟩).mono fun e w' ⟨he,hs⟩=>⟨he,⟨hs,X.ex,X.lo,X.rdy,X.rule⟩⟩
theorem VX.readF (X:VX E w0 F w A v M W) (hC:∀ own,FlAt own 0 W A.fa v.f→Calls Tryz.prog f args W fun e w'=>Q e w'∧Ex W w'):Calls Tryz.prog f args W fun e w'=>Q e w'∧Ex W w':=by
 obtain ⟨G,h0,own,hA,hF⟩:=X.sep.look 2 rfl
 exact hC own hA
theorem VX.place (X:VX E w0 F w A v M W) (a:Ask) :
  Calls Tryz.prog 119 #[.pointer (some ⟨A.fa.f,0,none⟩),a.val] W fun e w'=>e=.returned (errV E (fplaceE v.f a))∧VX E w0 F w A { v with f:=fplaceS v.f a } M w' :=
 X.floor fun own hA hn=>fplace_any hA (X.errs (by decide)) (fun n hg=>hn n (X.low (by decide) hg)) a
theorem VX.cancel (X:VX E w0 F w A v M W) (hO:FOk v.f) (a:Ask) :
  Calls Tryz.prog 120 #[.pointer (some ⟨A.fa.f,0,none⟩),a.val] W fun e w'=>e=.returned (.tuple #[(fcancelR v.f a).1.val,errV E (fcancelR v.f a).2.1])∧VX E w0 F w A { v with f:=(fcancelR v.f a).2.2 } M w' :=
 X.floor fun own hA hn=>fcancel_any hA hO (X.errs (by decide)) (fun n hg=>hn n (X.low (by decide) hg)) a
theorem VX.run (X:VX E w0 F w A v M W) (hO:FOk v.f) (k:Nat) (hk:k<3) (seed:Int) (hs:U32 seed) :
  Calls Tryz.prog 123 #[.pointer (some ⟨A.fa.f,0,none⟩),.int .i64 (k:Int),.int .u32 seed] W fun e w' =>
   ∃ ao cap,e=.returned (.tuple #[.agg #[.int .i64 (runR v.f k v.c.wd v.c.hl seed).price,.int .i64 (runR v.f k v.c.wd v.c.hl seed).vol,.bool (runR v.f k v.c.wd v.c.hl seed).isOpen,.slice ao (runR v.f k v.c.wd v.c.hl seed).fills.length cap],.nilIface])∧(runR v.f k v.c.wd v.c.hl seed).fills.length≤cap ∧
    VX E w0 F w A { v with f:=runS v.f k v.c.wd v.c.hl seed } (fillTh ao (runR v.f k v.c.wd v.c.hl seed).fills::M) w':=by
 obtain ⟨hwd,hhl,hcap⟩:=X.rule
 obtain ⟨G,⟨h0,own,hA,hF⟩,hG,close⟩:=X.sep.open 2 rfl
 have hn:∀ n,n<w0.heap.size→own n / 8≠0:=fun n hn e=>by
  have h1:=X.ex.below.size
  rcases hG n (hF n (Nat.lt_of_lt_of_le hn (Nat.le_trans h1 X.sep.size)) e) with h|h
  ·have:=X.lo n h;omega
  ·omega
 rw [← hwd,← hhl]
 refine (frun_any hA hO (X.errs (by decide)) (fun n hg=>hn n (X.low (by decide) hg)) k hk seed hs).mono fun e w' hT=>?_
 obtain ⟨ao,cap,he,hcap2,F',k1,k2,k3⟩:=flTh.run h0 hF hT
 refine ⟨ao,cap,he,hcap2,⟨(close k2 k1 k3).perm ?_,X.ex,X.lo,X.rdy,X.rule⟩⟩
 exact (List.perm_middle (l₁:=[labTh (inOb A.ip v.q v.turn),labTh (dkOb A.dp v.d),rdsTh A.rd (fun n=>(v.cl n).left)])).symm.append_left [partTh A.vb 13 (A.head v),partTh A.rg 30 (A.item v),flTh A.fa (runS v.f k A.fa.wd A.fa.hl seed)]
theorem VX.drop (X:VX E w0 F w A v M W) (hO:FOk v.f) (client:Int) :
  Calls Tryz.prog 86 #[.pointer (some ⟨A.fa.f,0,none⟩),.int .i64 client] W fun e w'=>∃ u,e=.returned u∧VX E w0 F w A { v with f:=(fdropR v.f client).2 } (rdTh (lrowRd (fdropR v.f client).1 u)::M) w':=by
 obtain ⟨G,⟨h0,own,hA,hF⟩,hG,close⟩:=X.sep.open 2 rfl
 have hn:∀ n,n<w0.heap.size→own n / 8≠0:=fun n hn e=>by
  have h1:=X.ex.below.size
  rcases hG n (hF n (Nat.lt_of_lt_of_le hn (Nat.le_trans h1 X.sep.size)) e) with h|h
  ·have:=X.lo n h;omega
  ·omega
 refine (fdrop_any hA hO (X.errs (by decide)) (fun n hg=>hn n (X.low (by decide) hg)) client).mono fun e w' hT=>?_
 obtain ⟨u,he,F',k1,k2,k3⟩:=flTh.drop h0 hF hT
 refine ⟨u,he,⟨(close k2 k1 k3).perm ?_,X.ex,X.lo,X.rdy,X.rule⟩⟩
 exact (List.perm_middle (l₁:=[labTh (inOb A.ip v.q v.turn),labTh (dkOb A.dp v.d),rdsTh A.rd (fun n=>(v.cl n).left)])).symm.append_left [partTh A.vb 13 (A.head v),partTh A.rg 30 (A.item v),flTh A.fa (fdropR v.f client).2]
theorem VX.inL {T':List Th} (X:VX E w0 F w A v M W) (hC:∀ (G:Nat→Prop) own,(∀ n,G n→n<W.heap.size)→(∀ n,n<W.heap.size→own n=1→G n)→(∀ n,n<W.heap.size→own n≠0)→IntakeAt own 1 W A.ip v.q v.turn→Calls Tryz.prog f args W fun e w'=>Q e w'∧LeavesL T' G W w') :
  Calls Tryz.prog f args W fun e w'=>Q e w'∧Sep F w ((vList A v++M).take 3++(T'++(vList A v++M).drop 4)) w':=by
 obtain ⟨G,⟨h0,own,hA,hF⟩,hG,close⟩:=X.sep.open 3 rfl
 refine (hC G (fun n=>if own n=1 then 1 else 2) h0 (fun n hn e=>hF n hn ?_) (fun n hn=>?_) (IntakeAt.relabel hA fun n hn e=>if_pos e)).mono fun e w' ⟨he,F',k1,k2,k3⟩=>⟨he,close k2 k1 k3⟩
 ·by_cases e2:own n=1
  ·exact e2
  ·have e':(if own n=1 then 1 else 2)=1:=e
   rw [if_neg e2] at e'
   cases e'
 ·show (if own n=1 then 1 else 2)≠0
  split<;>decide
theorem VX.intake {q':Nat→List Ask} {t':Nat} (X:VX E w0 F w A v M W) (hC:∀ own,IntakeAt own 1 W A.ip v.q v.turn→Calls Tryz.prog f args W fun e w'=>P e∧ObjTo own 1 1 W (fun o w'=>IntakeAt o 1 w' A.ip q' t') w') :
  Calls Tryz.prog f args W fun e w'=>P e∧VX E w0 F w A { v with q:=q',turn:=t' } M w':=by
 refine (X.inL (Q:=fun e _=>P e) (T':=[labTh (inOb A.ip q' t')]) fun G own h0 hF hz hA=>(hC own hA).mono fun e w' ⟨he,hg⟩=>⟨he,(labTh.leaves (o:=inOb A.ip q' t') (o':=inOb A.ip q' t') hF h0 hg).toL⟩).mono fun e w' ⟨he,hs⟩=>⟨he,⟨hs,X.ex,X.lo,X.rdy,X.rule⟩⟩
theorem VX.drain (X:VX E w0 F w A v M W) :
  Calls Tryz.prog 55 #[.pointer (some ⟨A.ip,0,none⟩)] W fun e w'=>∃ u,e=.returned u∧VX E w0 F w A { v with q:=fun d=>(v.q d).drop 2,turn:=(v.turn+1) % 6 } (rdTh (arowRd (outOf v.q v.turn 6) u)::M) w':=by
 obtain ⟨G,⟨h0,own,hA,hF⟩,hG,close⟩:=X.sep.open 3 rfl
 have hA2:IntakeAt (fun n=>if own n=1 then 1 else 2) 1 W A.ip v.q v.turn:=IntakeAt.relabel hA fun n hn e=>if_pos e
 refine (drain_any (by decide:1≠0) hA2).mono fun e w' hT=>?_
 obtain ⟨u,he,F',k1,k2,k3⟩:=inTh.drain (F:=G) (fun n hn e=>hF n hn (by
  by_cases e2:own n=1
  ·exact e2
  ·rw [if_neg e2] at e;cases e)) (fun n hn=>by split<;>decide) hT
 refine ⟨u,he,⟨(close k2 k1 k3).perm ?_,X.ex,X.lo,X.rdy,X.rule⟩⟩
 exact (List.perm_middle (l₁:=[labTh (dkOb A.dp v.d),rdsTh A.rd (fun n=>(v.cl n).left)])).symm.append_left [partTh A.vb 13 (A.head v),partTh A.rg 30 (A.item v),flTh A.fa v.f,labTh (inOb A.ip (fun d=>(v.q d).drop 2) ((v.turn+1) % 6))]
theorem VX.disk {d':Dk} (X:VX E w0 F w A v M W) (hC:∀ own,DiskAt own 1 W A.dp v.d→(∀ n,n<w0.heap.size→own n≠1)→Calls Tryz.prog f args W fun e w'=>P e∧ObjTo own 1 1 W (fun o w'=>DiskAt o 1 w' A.dp d') w') :
  Calls Tryz.prog f args W fun e w'=>P e∧VX E w0 F w A { v with d:=d' } M w':=by
 obtain ⟨G,⟨h0,own,hA,hF⟩,hG,close⟩:=X.sep.open 4 rfl
 refine (hC own hA fun n hn e=>?_).mono fun e w' ⟨he,hg⟩=>⟨he,?_⟩
 ·have h1:=X.ex.below.size
  rcases hG n (hF n (Nat.lt_of_lt_of_le hn (Nat.le_trans h1 X.sep.size)) e) with h|h
  ·have:=X.lo n h;omega
  ·omega
 ·obtain ⟨F',k1,k2,k3⟩:=labTh.leaves (o:=dkOb A.dp d') (o':=dkOb A.dp d') hF h0 hg
  exact ⟨close k2 (SepL.one k1) k3,X.ex,X.lo,X.rdy,X.rule⟩
theorem VX.setHead (X:VX E w0 F w A v M W) (j:Nat) (x:Value) (v':VSt) (hv:∀ i,i<13→A.head v' i=if i=j then x else A.head v i) (h1:v'.f=v.f∧v'.q=v.q∧v'.turn=v.turn∧v'.d=v.d∧v'.cl=v.cl∧v'.c=v.c):VX E w0 F w A v' M (W.setCell ⟨A.vb,j,none⟩ x):=by
 obtain ⟨G,⟨hG1,hP⟩,hG,close⟩:=X.sep.open 0 rfl
 obtain ⟨c,f,cl,q,turn,d,now,bat,down⟩:=v'
 obtain ⟨rfl,rfl,rfl,rfl,rfl,rfl⟩:=h1
 exact ⟨close (M:=[partTh A.vb 13 (A.head _)]) ((Only.refl G W).setCell (fun _=>(hG1 _).2 rfl) x) (SepL.one ⟨hG1,(hP.set j x).congr fun i hi=>(hv i hi).symm⟩) (fun n hn=>.inl hn),X.ex,X.lo,X.rdy,X.rule⟩
theorem VX.setCli (X:VX E w0 F w A v M W) (n j:Nat) (x:Value) (v':VSt) (hv:∀ i,i<30→A.item v' i=if i=n*5+j then x else A.item v i) (h1:v'.f=v.f∧v'.q=v.q∧v'.turn=v.turn∧v'.d=v.d∧v'.c=v.c∧v'.now=v.now∧v'.bat=v.bat∧v'.down=v.down) (h2:∀ k,(v'.cl k).left=(v.cl k).left):VX E w0 F w A v' M (W.setCell ⟨A.rg,n*5+j,none⟩ x):=by
 obtain ⟨G,⟨hG1,hP⟩,hG,close⟩:=X.sep.open 1 rfl
 obtain ⟨c,f,cl,q,turn,d,now,bat,down⟩:=v'
 obtain ⟨rfl,rfl,rfl,rfl,rfl,rfl,rfl,rfl⟩:=h1
 have e:(fun k=>(cl k).left)=fun k=>(v.cl k).left:=funext h2
 have h:=close (M:=[partTh A.rg 30 (A.item ⟨v.c,v.f,cl,v.q,v.turn,v.d,v.now,v.bat,v.down⟩)]) ((Only.refl G W).setCell (fun _=>(hG1 _).2 rfl) x) (SepL.one ⟨hG1,(hP.set (n*5+j) x).congr fun i hi=>(hv i hi).symm⟩) (fun n hn=>.inl hn)
 refine ⟨?_,X.ex,X.lo,X.rdy,X.rule⟩
 have e2:vList A ⟨v.c,v.f,cl,v.q,v.turn,v.d,v.now,v.bat,v.down⟩=[partTh A.vb 13 (A.head v),partTh A.rg 30 (A.item ⟨v.c,v.f,cl,v.q,v.turn,v.d,v.now,v.bat,v.down⟩),flTh A.fa v.f,labTh (inOb A.ip v.q v.turn),labTh (dkOb A.dp v.d),rdsTh A.rd (fun n=>(v.cl n).left)]:=by
  unfold vList
  rw [e]
  rfl
 rw [e2]
 exact h
theorem item_left (A:VA) (v:VSt) (n:Nat) (l:List UInt8):A.item (v.setCl n ⟨(v.cl n).s,l,(v.cl n).drop⟩)=A.item v:=by
 funext k
 unfold VA.item VSt.setCl
 by_cases e:k / 5=n
 ·subst e
  simp only [if_true]
  rfl
 ·simp only [e,if_false]
def VSt.setLeft (v:VSt) (n:Nat) (l:List UInt8):VSt:=v.setCl n ⟨(v.cl n).s,l,(v.cl n).drop⟩
def growRd (l:List Got) (u:Value):Rd u where
 R w:=∃ base,w.ownsRow base 115 9 u l.length (l.flatMap Got.cells)
 lt h g hg:=by
  obtain ⟨base,h⟩:=h
  exact (h.lt g hg).2
 same h hb:=by
  obtain ⟨base,h⟩:=h
  exact ⟨base,ownsRow_block h hb⟩
theorem VX.feed (X:VX E w0 F w A v M W) (n:Nat) (hn:n<6) (s:List UInt8) (hlen:(v.cl n).left.length+s.length≤1000) :
  Calls Tryz.prog 47 #[.pointer (some ⟨A.rd n,0,none⟩),.string ⟨s.toArray⟩] W fun e w'=>∃ u,e=.returned u∧VX E w0 F w A (v.setLeft n (leftL ((v.cl n).left++s))) (rdTh (growRd (gotsL ((v.cl n).left++s)) u)::M) w':=by
 obtain ⟨G,⟨hG1,hG2,hG3⟩,hG,close⟩:=X.sep.open 5 rfl
 have hin:G (A.rd n):=(hG1 _).2 ⟨n,hn,rfl⟩
 have hlo:w0.heap.size≤A.rd n:=by
  rcases hG _ hin with h|h
  ·exact X.lo _ h
  ·exact Nat.le_trans X.ex.below.size h
 refine (feed_any (A.rd n) (v.cl n).left s E w0 W X.rdy X.exW.below hlo (hG3 n hn) hlen).mono fun e w' ⟨⟨u,he,hu⟩,hf⟩=>⟨u,he,?_⟩
 have hsz:W.heap.size≤w'.heap.size:=hf.size
 have honly:Only G W w':=((Only.refl G W).setCell (p:=⟨A.rd n,0,none⟩) (fun _=>hin) _).trans (Only.ex hf) (fun k _ (h:NoF k)=>h.elim)
 have hrd:∀ c,c<6→ReaderAt w' (A.rd c) (if c=n then leftL ((v.cl n).left++s) else (v.cl c).left):=fun c hc=>by
  by_cases e:c=n
  ·subst e
   rw [if_pos rfl]
   exact hf.reader (hG3 c hc)
  ·rw [if_neg e]
   have h1:ReaderAt (W.setCell ⟨A.rd n,0,none⟩ (.string ⟨(leftL ((v.cl n).left++s)).toArray⟩)) (A.rd c) (v.cl c).left:=(Below.heap_setCell _ _ _ _ (fun e2=>e (hG2 c n hc hn e2))).trans (hG3 c hc)
   exact h1.ex hf
 have k2:=close (M:=[rdsTh A.rd (fun c=>if c=n then leftL ((v.cl n).left++s) else (v.cl c).left),rdTh (growRd (gotsL ((v.cl n).left++s)) u)]) honly
  (SepL.two ⟨hG1,hG2,hrd⟩ ⟨fun k=>Iff.rfl,⟨_,hu⟩⟩ (fun k hk hk2=>by
   obtain ⟨c,hc,rfl⟩:=(hG1 k).1 hk
   have h1:=(hG3 c hc).lt
   have h2:=(hu.lt _ hk2).1
   omega))
  (fun k hk=>by
   rcases hk with h|h
   ·exact .inl h
   ·exact .inr (hu.lt k h).1)
 refine ⟨?_,X.ex,X.lo,X.rdy,X.rule⟩
 have e1:vList A (v.setLeft n (leftL ((v.cl n).left++s)))=[partTh A.vb 13 (A.head v),partTh A.rg 30 (A.item v),flTh A.fa v.f,labTh (inOb A.ip v.q v.turn),labTh (dkOb A.dp v.d),rdsTh A.rd (fun c=>if c=n then leftL ((v.cl n).left++s) else (v.cl c).left)]:=by
  unfold vList VSt.setLeft
  rw [item_left]
  have e2:(fun k=>((v.setCl n ⟨(v.cl n).s,leftL ((v.cl n).left++s),(v.cl n).drop⟩).cl k).left)=fun c=>if c=n then leftL ((v.cl n).left++s) else (v.cl c).left:=by
   funext c
   unfold VSt.setCl
   by_cases e:c=n
   ·simp only [e,if_true]
   ·simp only [e,if_false]
  rw [e2]
  rfl
 rw [e1]
 exact k2
theorem VX.grow {u u':Value} {r:Rd u} {r':Rd u'} {M1 M2:List Th} {z:Nat} (X:VX E w0 F w A v (M1++(rdTh r::M2)) W) (hg:W.grownBy W' u.ownBlock) (ho:u'.ownBlock=u.ownBlock∨u'.ownBlock=some z) (hz:z=W.heap.size) (hr:r'.R W'):VX E w0 F w A v (M1++(rdTh r'::M2)) W':=by
 subst hz
 have hi:(vList A v++(M1++(rdTh r::M2)))[6+M1.length]?=some (rdTh r):=by
  rw [List.getElem?_append_right (by rw [vlist_len];omega),vlist_len,List.getElem?_append_right (by omega)]
  simp
 obtain ⟨G,⟨hG1,hG2⟩,hG,close⟩:=X.sep.open (6+M1.length) hi
 have k:=close (M:=[rdTh r']) (F':=fun n=>u'.ownBlock=some n) (Only.grown hg fun b hb _=>(hG1 b).2 hb) (SepL.one ⟨fun n=>Iff.rfl,hr⟩) (fun n hn=>by
  rcases ho with h|h
  ·exact .inl ((hG1 n).2 (h.symm.trans hn))
  ·rw [h] at hn;cases hn;exact .inr (Nat.le_refl _))
 have e:(vList A v++(M1++(rdTh r::M2))).take (6+M1.length)++([rdTh r']++(vList A v++(M1++(rdTh r::M2))).drop (6+M1.length+1))=vList A v++(M1++(rdTh r'::M2)):=by
  have hL:(vList A v++M1).length=6+M1.length:=by rw [List.length_append];rfl
  have h1:(vList A v++(M1++(rdTh r::M2))).take (6+M1.length)=vList A v++M1:=by rw [← List.append_assoc];exact List.take_left' hL
  have h2:(vList A v++(M1++(rdTh r::M2))).drop (6+M1.length+1)=M2:=by
   rw [← List.append_assoc,show (vList A v++M1)++(rdTh r::M2)=((vList A v++M1)++[rdTh r])++M2 by simp]
   exact List.drop_left' (by rw [List.length_append,hL];rfl)
  rw [h1,h2]
  simp
 exact ⟨e▸k,X.ex,X.lo,X.rdy,X.rule⟩
theorem VX.addRow {u:Value} {r:Rd u} (X:VX E w0 F w A v M W) (hx:Ex W W') (hr:r.R W') (hn:∀ g,u.ownBlock=some g→W.heap.size≤g):VX E w0 F w A v (rdTh r::M) W' :=
 X.add (M':=[rdTh r]) (G:=fun n=>u.ownBlock=some n) hx (SepL.one ⟨fun n=>Iff.rfl,hr⟩) hn
theorem VX.nth (M1:List Th) {T:Th} {M2:List Th} (A:VA) (v:VSt):(vList A v++(M1++(T::M2)))[6+M1.length]?=some T:=by
 rw [List.getElem?_append_right (by rw [vlist_len];omega),vlist_len,List.getElem?_append_right (by omega)]
 simp
theorem VX.look (M1:List Th) {T:Th} {M2:List Th} (X:VX E w0 F w A v (M1++(T::M2)) W):∃ G,T.P G W:=X.sep.look (6+M1.length) (VX.nth M1 A v)
theorem VX.row (M1:List Th) {u:Value} {r:Rd u} {M2:List Th} (X:VX E w0 F w A v (M1++(rdTh r::M2)) W):r.R W:=by
 obtain ⟨G,h⟩:=X.look M1
 exact h.2
theorem VX.less (M1:List Th) {T:Th} {M2:List Th} (X:VX E w0 F w A v (M1++(T::M2)) W):VX E w0 F w A v (M1++M2) W:=by
 have h:=X.sep.less (6+M1.length) (VX.nth M1 A v)
 refine ⟨?_,X.ex,X.lo,X.rdy,X.rule⟩
 have hL:(vList A v++M1).length=6+M1.length:=by rw [List.length_append];rfl
 have e:(vList A v++(M1++(T::M2))).take (6+M1.length)++(vList A v++(M1++(T::M2))).drop (6+M1.length+1)=vList A v++(M1++M2):=by
  have h1:(vList A v++(M1++(T::M2))).take (6+M1.length)=vList A v++M1:=by rw [← List.append_assoc];exact List.take_left' hL
  have h2:(vList A v++(M1++(T::M2))).drop (6+M1.length+1)=M2:=by
   rw [← List.append_assoc,show (vList A v++M1)++(T::M2)=((vList A v++M1)++[T])++M2 by simp]
   exact List.drop_left' (by rw [List.length_append,hL];rfl)
  rw [h1,h2,List.append_assoc]
 exact e▸h
end
end Go.Proofs.YtabbgpjofkaomaaGreatDoor

/- More steps inside a method of a venue: blocks and rows of the call's own, a client's cells. -/
namespace Go.Proofs.YtabbgpjofkaomaaGreatDoor
open Go.RowKit
theorem blk_cell {w:World} {b:Nat} {vs:Array Value} {t:TypeId} {fr:Nat × Nat} (h:w.heap[b]?=some (.cells vs t fr)) (j:Nat):w.cell? ⟨b,j,none⟩=vs[j]?:=by simp [World.cell?,h]
section
variable {E:Nat→Addr} {w0 w W W':World} {F:Nat→Prop} {A:VA} {v v':VSt} {M:List Th}
theorem VX.addBlk {b:Nat} {vs:Array Value} {t:TypeId} (X:VX E w0 F w A v M W) (hx:Ex W W') (hb:Blk W' b vs t) (hn:W.heap.size≤b):VX E w0 F w A v (blkTh b vs t::M) W' :=
 X.add (M':=[blkTh b vs t]) (G:=fun n=>n=b) hx (SepL.one ⟨fun n=>Iff.rfl,hb⟩) (fun n hn'=>by rw [hn'];exact hn)
theorem VX.blk (M1:List Th) {b:Nat} {vs:Array Value} {t:TypeId} {M2:List Th} (X:VX E w0 F w A v (M1++(blkTh b vs t::M2)) W):W.heap[b]?=some (.cells vs t (0,0)):=by
 obtain ⟨G,h⟩:=X.look M1
 exact h.2
theorem VX.turn (M1:List Th) {T T':Th} {M2:List Th} (X:VX E w0 F w A v (M1++(T::M2)) W) (h:∀ G,T.P G W→Leaves T' G W W'):VX E w0 F w A v (M1++(T'::M2)) W':=by
 obtain ⟨G,hT,hG,close⟩:=X.sep.open (6+M1.length) (VX.nth M1 A v)
 obtain ⟨F',k1,k2,k3⟩:=h G hT
 have k:=close (M:=[T']) k2 (SepL.one k1) k3
 have e:(vList A v++(M1++(T::M2))).take (6+M1.length)++([T']++(vList A v++(M1++(T::M2))).drop (6+M1.length+1))=vList A v++(M1++(T'::M2)):=by
  have hL:(vList A v++M1).length=6+M1.length:=by rw [List.length_append];rfl
  have h1:(vList A v++(M1++(T::M2))).take (6+M1.length)=vList A v++M1:=by rw [← List.append_assoc];exact List.take_left' hL
  have h2:(vList A v++(M1++(T::M2))).drop (6+M1.length+1)=M2:=by
   rw [← List.append_assoc,show (vList A v++M1)++(T::M2)=((vList A v++M1)++[T])++M2 by simp]
   exact List.drop_left' (by rw [List.length_append,hL];rfl)
  rw [h1,h2]
  simp
 exact ⟨e▸k,X.ex,X.lo,X.rdy,X.rule⟩
theorem VX.vbrg (X:VX E w0 F w A v M W):A.vb≠A.rg:=by
 obtain ⟨FF,⟨F1,F2,hF,hd,⟨g1,_⟩,G1,G2,gF,gd,⟨g2,_⟩,_⟩,_⟩:=X.sep.sep
 intro e
 exact hd A.vb ((g1 _).2 rfl) ((gF _).2 (.inl ((g2 _).2 e)))
theorem VX.free (X:VX E w0 F w A v M W):(∀ j,W.frozen? ⟨A.vb,j,none⟩=false)∧∀ j,W.frozen? ⟨A.rg,j,none⟩=false:=⟨X.headP.free,X.rowP.free⟩
theorem item_setCl (A:VA) (v:VSt) (n:Nat) (x:Cli) (i:Nat):A.item (v.setCl n x) i=if i / 5=n then cliV x (A.rd n) (i % 5) else A.item v i:=by
 unfold VA.item VSt.setCl
 by_cases e:i / 5=n
 ·simp only [e,if_true]
 ·simp only [e,if_false]
theorem VX.setCl1 (X:VX E w0 F w A v M W) (n j:Nat) (hj:j<5) (x:Cli) (val:Value) (hx:∀ m,m<5→cliV x (A.rd n) m=if m=j then val else cliV (v.cl n) (A.rd n) m) (hl:x.left=(v.cl n).left):VX E w0 F w A (v.setCl n x) M (W.setCell ⟨A.rg,n*5+j,none⟩ val):=by
 refine X.setCli n j val (v.setCl n x) (fun i hi=>?_) ⟨rfl,rfl,rfl,rfl,rfl,rfl,rfl,rfl⟩ (fun k=>?_)
 ·rw [item_setCl]
  by_cases e:i / 5=n
  ·rw [if_pos e,hx _ (Nat.mod_lt _ (by decide))]
   by_cases e2:i % 5=j
   ·rw [if_pos e2,if_pos (by omega)]
   ·rw [if_neg e2,if_neg (by omega)]
    unfold VA.item
    rw [e]
  ·rw [if_neg e,if_neg (by omega)]
 ·show (if k=n then x else v.cl k).left=_
  split
  ·rename_i e;rw [e];exact hl
  ·rfl
theorem setCl_setCl (v:VSt) (n:Nat) (x y:Cli):(v.setCl n x).setCl n y=v.setCl n y:=by
 unfold VSt.setCl
 congr 1
 funext j
 by_cases e:j=n
 ·simp only [e,if_true]
 ·simp only [e,if_false]
theorem setCl_at (v:VSt) (n:Nat) (x:Cli):(v.setCl n x).cl n=x:=if_pos rfl
theorem VX.setSess (X:VX E w0 F w A v M W) (n:Nat) (s:Sess):VX E w0 F w A (v.setCl n ⟨s,(v.cl n).left,(v.cl n).drop⟩) M (((W.setCell ⟨A.rg,n*5,none⟩ (.bool s.on)).setCell ⟨A.rg,n*5+1,none⟩ (.int .i64 s.next)).setCell ⟨A.rg,n*5+2,none⟩ (.int .i64 s.last)):=by
 have x1:=X.setCl1 n 0 (by decide) ⟨⟨s.on,(v.cl n).s.next,(v.cl n).s.last⟩,(v.cl n).left,(v.cl n).drop⟩ (.bool s.on) (fun m hm=>by
  have:m=0∨m=1∨m=2∨m=3∨m=4:=by omega
  rcases this with rfl|rfl|rfl|rfl|rfl<;>rfl) rfl
 have x2:=x1.setCl1 n 1 (by decide) ⟨⟨s.on,s.next,(v.cl n).s.last⟩,(v.cl n).left,(v.cl n).drop⟩ (.int .i64 s.next) (fun m hm=>by
  rw [setCl_at]
  have:m=0∨m=1∨m=2∨m=3∨m=4:=by omega
  rcases this with rfl|rfl|rfl|rfl|rfl<;>rfl) (by rw [setCl_at])
 have x3:=x2.setCl1 n 2 (by decide) ⟨s,(v.cl n).left,(v.cl n).drop⟩ (.int .i64 s.last) (fun m hm=>by
  rw [setCl_at]
  have:m=0∨m=1∨m=2∨m=3∨m=4:=by omega
  rcases this with rfl|rfl|rfl|rfl|rfl<;>rfl) (by rw [setCl_at])
 rw [setCl_setCl,setCl_setCl] at x3
 exact x3
theorem VX.setDrop (X:VX E w0 F w A v M W) (n:Nat) (b:Bool):VX E w0 F w A (v.setCl n ⟨(v.cl n).s,(v.cl n).left,b⟩) M (W.setCell ⟨A.rg,n*5+4,none⟩ (.bool b)) :=
 X.setCl1 n 4 (by decide) ⟨(v.cl n).s,(v.cl n).left,b⟩ (.bool b) (fun m hm=>by
  have:m=0∨m=1∨m=2∨m=3∨m=4:=by omega
  rcases this with rfl|rfl|rfl|rfl|rfl<;>rfl) rfl
theorem VX.clearQ (X:VX E w0 F w A v M W) {n:Nat} (hn:n<6) :
  Calls Tryz.prog 54 #[.pointer (some ⟨A.ip,0,none⟩),.int .i64 (n:Int)] W fun e w'=>e=.returned (.int .i64 ((v.q n).length:Nat))∧VX E w0 F w A (v.clear n) M w' :=
 X.intake fun own hA=>intakeClear_in hA n hn
theorem VX.putQ (X:VX E w0 F w A v M W) (a:Ask) :
  Calls Tryz.prog 78 #[.pointer (some ⟨A.ip,0,none⟩),a.val] W fun e w'=>e=.returned (errV E (putErr v.q a))∧VX E w0 F w A { v with q:=putTo v.q a } M w' :=
 X.intake fun own hA=>put_any hA a E (X.errs (by decide))
end
end Go.Proofs.YtabbgpjofkaomaaGreatDoor

/- What drops of a venue computes: who is dropped with the next batch. -/
namespace Go.Proofs.YtabbgpjofkaomaaGreatDoor
open Go.RowKit
def intC (x:Int):List Value:=[.int .i64 x]
def irowRd (l:List Int) (u:Value):Rd u where
 R w:=RowAt w 3 1 u l.length (flat intC l)
 lt h g hg:=h.lt g hg
 same h hb:=h.of_block hb
theorem irow_nil (w:World):(irowRd [] (.slice none 0 0)).R w:=RowAt.nil _ _ _
theorem irow_slice {l:List Int} {u:Value} {w:World} (h:(irowRd l u).R w):∃ ao cap,u=.slice ao l.length cap∧l.length≤cap∧cap≤maxLen:=by
 obtain ⟨_,⟨rfl,h0⟩|⟨g,off,cap,cur,rfl,_,hc,hm,_⟩⟩:=(show RowAt w _ 1 u l.length (flat intC l) from h)
 ·exact ⟨none,0,by rw [h0],by omega,by unfold maxLen;omega⟩
 ·exact ⟨_,cap,rfl,hc,hm⟩
theorem infoIntD:(Tryz.prog.info? 3).map (fun i=>(i.zero,i.size,i.bytes))=some (some (.int .i64 0),1,8):=by kernel_rfl
def undropTo (v:VSt) (k:Nat):VSt:={ v with cl:=fun j=>⟨(v.cl j).s,(v.cl j).left,if j<k then false else (v.cl j).drop⟩ }
theorem undropTo_zero (v:VSt):undropTo v 0=v:=by
 unfold undropTo
 simp
theorem undropTo_step (v:VSt) (k:Nat):(undropTo v k).setCl k ⟨((undropTo v k).cl k).s,((undropTo v k).cl k).left,false⟩=undropTo v (k+1):=by
 unfold undropTo VSt.setCl
 simp only
 congr 1
 funext j
 by_cases e:j=k
 ·subst e
  rw [if_pos rfl,if_pos (Nat.lt_succ_self _)]
 ·rw [if_neg e]
  by_cases h:j<k
  ·rw [if_pos h,if_pos (by omega)]
  ·rw [if_neg h,if_neg (by omega)]
def dropsTo (v:VSt) (k:Nat):List Int:=((List.range k).filter fun n=>(v.cl n).drop).map fun (n:Nat)=>(n:Int)
theorem dropsTo_step (v:VSt) (k:Nat):dropsTo v (k+1)=dropsTo v k++if (v.cl k).drop then [(k:Int)] else []:=by
 unfold dropsTo
 rw [List.range_succ,List.filter_append,List.map_append]
 congr 1
 cases h:(v.cl k).drop<;>simp [h]
theorem dropsTo_len (v:VSt) (k:Nat):(dropsTo v k).length≤k:=by
 unfold dropsTo
 rw [List.length_map]
 exact Nat.le_trans (List.length_filter_le _ _) (by simp)
section
variable {E:Nat→Addr} {w0 w W W':World} {F:Nat→Prop} {A:VA} {v v':VSt} {M:List Th}
set_option maxRecDepth 100000 in
set_option maxHeartbeats 8000000 in
theorem VX.drops (X:VX E w0 F w A v M W) :
  Calls Tryz.prog 56 #[.pointer (some ⟨A.vb,0,none⟩)] W fun e w'=>∃ u,e=.returned u∧VX E w0 F w A (undropped v) (rdTh (irowRd ((dropsL v).map fun (n:Nat)=>(n:Int)) u)::M) w':=by
 obtain ⟨i0,hi0,hz0,hz1,hz2⟩:=info_parts infoIntD
 obtain ⟨⟨_,c7,_⟩,hvb,hrg⟩:=X.cells
 have HX:Hid (∀ W',Ex W W'→VX E w0 F w A (undropTo v 0) (rdTh (irowRd (dropsTo v 0) (.slice none 0 0))::M) W'):=Lib.hid (fun W' hx=>by rw [undropTo_zero];exact X.addRow hx (irow_nil _) (fun g hg=>by cases hg))
 clear X
 go_enter Tryz.func56,Tryz.ntmps56
 go_wp2_with fail
 go_loopw [3,10] (fun u i wr=>∃ (k:Nat) (u':Value),u'=u∧k≤6∧i=.int .i64 (k:Int)∧VX E w0 F w A (undropTo v k) (rdTh (irowRd (dropsTo v k) u')::M) wr) (fun _ i _=>6 - (intOf i).toNat)
 case atStart=>exact ⟨0,_,rfl,by omega,rfl,HX.out _ (by repeat (first|exact Ex.refl _|refine Ex.alloc ?_ _|refine Ex.ext ?_ _ _|refine Ex.drew ?_|refine Ex.drewN ?_ _))⟩
 case round =>
  obtain ⟨k,u,rfl,hk,rfl,hX⟩:=hrel
  clear c7 hvb hrg HX
  by_cases hlt:k<6
  ·obtain ⟨⟨_,c7,_⟩,hvb,hrg⟩:=hX.cells
   obtain ⟨_,_,_,_,k4⟩:=hX.cli hlt
   have hfz:=hX.free.2
   have hne:=hX.vbrg
   have hk6:(k:Int)<6:=by omega
   have HST:=Lib.hid (undropTo_step v k)
   have HDS:=Lib.hid (dropsTo_step v k)
   have hdl:=dropsTo_len v k
   have HRW:=Lib.hid (hX.row [])
   obtain ⟨au,cu,rfl,hcu,hmu⟩:=irow_slice HRW.out
   have HX:=Lib.hid hX
   have e4:((undropTo v k).cl k).drop=(v.cl k).drop:=if_neg (Nat.lt_irrefl k)
   rw [e4] at k4
   clear hX e4
   generalize dropsTo v k=L at *
   cases hd:(v.cl k).drop with
   | true =>
    rw [hd] at k4
    rw [hd,if_pos rfl] at HDS
    go_upto_region 6 with fail
    have hw1:Ex wr (wr.alloc (.cells #[.int .i64 (k:Int)] 3)):=(by repeat (first|exact Ex.refl _|refine Ex.alloc ?_ _|refine Ex.ext ?_ _ _|refine Ex.drew ?_|refine Ex.drewN ?_ _))
    go_wp2_with (at_builtin;refine wpList_append_two rfl (.tmp 21) (.tmp 23) 53 53 rfl 3 i0 _ 1 8 Tryz.underlying53 hi0 hz0 hz1 hz2 rfl (.slice au L.length cu) (.slice (some ⟨wr.heap.size,0,none⟩) 1 1) L.length 1 (flat intC L) (intC (k:Int)) rfl rfl ?_ ?_ ?_ ?_ ?_)
    focus exact (show RowAt _ _ 1 _ _ _ from (irowRd L (.slice au L.length cu)).same HRW.out fun g hg=>hw1.below.block g ((irowRd L (.slice au L.length cu)).lt HRW.out g hg))
    focus exact (Src.block Tryz.underlying53 1 1 (cs:=#[.int .i64 (k:Int)]) (t:=3) (fr:=(0,0)) (heap_new (by simp [go_sem])) (by simp) (by simp [Value.oneCell']))
    focus (unfold maxLen;omega)
    focus omega
    intro v' w' hrow hgrow hown
    have H2:Hid (VX E w0 F w A (undropTo v k) (rdTh (irowRd (L++[(k:Int)]) v')::M) w'):=Lib.hid ((HX.out.later hw1).grow (M1:=[]) hgrow hown (by first|omega|(simp [go_sem];done)|(simp [go_sem];omega)) (by show RowAt w' _ 1 v' (L++[(k:Int)]).length (flat intC (L++[(k:Int)]));rw [flat_append,flat_one,List.length_append];exact hrow))
    obtain ⟨⟨_,c7,_⟩,hvb,hrg⟩:=H2.out.cells
    have hfz:=H2.out.free.2
    have k4:=(H2.out.cli hlt).2.2.2.2
    clear hrow hgrow hown
    go_wp2_with fail
    go_roundw
    case measure=>simp [intOf];omega
    case rel=>exact ⟨k+1,_,rfl,by omega,by go_num,by rw [HDS.out,← HST.out];exact H2.out.setDrop k false⟩
   | false =>
    rw [hd] at k4
    rw [hd,if_neg (by decide),List.append_nil] at HDS
    go_wp2_with fail
    go_roundw
    case measure=>simp [intOf];omega
    case rel=>exact ⟨k+1,_,rfl,by omega,by go_num,by rw [HDS.out,← HST.out];exact (HX.out.later (by repeat (first|exact Ex.refl _|refine Ex.alloc ?_ _|refine Ex.ext ?_ _ _|refine Ex.drew ?_|refine Ex.drewN ?_ _))).setDrop k false⟩
  ·obtain rfl:k=6:=by omega
   have HX:=Lib.hid hX
   clear hX
   go_wp2_with fail
   all_goals go_ret
   all_goals exact ⟨_,rfl,HX.out.later (by repeat (first|exact Ex.refl _|refine Ex.alloc ?_ _|refine Ex.ext ?_ _ _|refine Ex.drew ?_|refine Ex.drewN ?_ _))⟩
end
end Go.Proofs.YtabbgpjofkaomaaGreatDoor
