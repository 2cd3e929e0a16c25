import Derived.Test.YtabbgpjofkaomaaGreatDoorJ1
import Derived.Test.YtabbgpjofkaomaaGreatDoorJ16
import Derived.Deep.DeepCutAuto
import Derived.Test.YtabbgpjofkaomaaGreatDoorExP
import Derived.Test.YtabbgpjofkaomaaGreatDoorVLaw6
import Derived.Test.YtabbgpjofkaomaaGreatDoorVPartsL
import Derived.Test.YtabbgpjofkaomaaGreatDoorJ30
import Derived.BigQuiet
set_option linter.unusedSimpArgs false
set_option linter.unusedVariables false
/- Slices of lots compared. -/
namespace Go.Proofs.YtabbgpjofkaomaaGreatDoor
open Go.RowKit
theorem neLot_self (x:Lot) (w:World):(binOp .neq 131 (.agg #[.int .i64 x.id,.int .i64 x.owner,.int .i64 x.side,.int .i64 x.price,.int .i64 x.qty]) (.agg #[.int .i64 x.id,.int .i64 x.owner,.int .i64 x.side,.int .i64 x.price,.int .i64 x.qty])).run Tryz.prog w=.ok (.bool false) w:=by
 have hS:Tryz.prog.underlying 131=some (.struct (Tryz.prog.fieldsOf 131)):=by kernel_rfl
 have hp:Tryz.prog.stoodInHeld 131=false:=by kernel_rfl
 rw [run_neq_struct,show (10000:Nat)=9999+1 from rfl,run_equalIn_agg w 9999 _ _ _ hS hp]
 simp only [Program.fieldsOf,Tryz.underlying131]
 go_simp
set_option maxRecDepth 100000 in
theorem sameLotsOf (ao bo:Option Addr) (c1 c2:Nat) (l:List Lot) (w:World) (h1:LotsAt w ao l.length l) (h2:LotsAt w bo l.length l) (hz:l.length≤1000) :
  Calls Tryz.prog 23 #[.slice ao l.length c1,.slice bo l.length c2] w fun e w'=>e=.returned (.bool true)∧Ex w w':=by
 have H1:=Lib.hid h1.2.2.2
 have H2:=Lib.hid h2.2.2.2
 clear h1 h2
 go_enter Tryz.func23,Tryz.ntmps23
 go_wp2_with fail
 go_loopw [5] (fun i wr=>∃ (k:Nat),k≤l.length∧i=.int .i64 (k:Int)∧Ex w wr) (fun i _=>l.length - (intOf i).toNat)
 case atStart=>exact ⟨0,Nat.zero_le _,rfl,Ex.refl _⟩
 case round =>
  obtain ⟨k,hk,rfl,l1,d1,rfl⟩:=hrel
  by_cases hlt:k<l.length
  ·obtain ⟨b1,o1,rfl,hb1,hc1⟩:=H1.out (by omega)
   obtain ⟨b2,o2,rfl,hb2,hc2⟩:=H2.out (by omega)
   have a0:=hc1 k hlt 0 (by omega)
   have a1:=hc1 k hlt 1 (by omega)
   have a2:=hc1 k hlt 2 (by omega)
   have a3:=hc1 k hlt 3 (by omega)
   have a4:=hc1 k hlt 4 (by omega)
   have e0:=hc2 k hlt 0 (by omega)
   have e1:=hc2 k hlt 1 (by omega)
   have e2:=hc2 k hlt 2 (by omega)
   have e3:=hc2 k hlt 3 (by omega)
   have e4:=hc2 k hlt 4 (by omega)
   simp only [Lot.cells,List.getElem?_cons_zero,List.getElem?_cons_succ,Nat.add_zero] at a0 a1 a2 a3 a4 e0 e1 e2 e3 e4
   generalize l[k]=x at *
   have ez:=fun w=>neLot_self x w
   clear hc1 hc2
   go_wp2_with fail
   go_quiet (fail)
   all_goals go_wp2
   all_goals
    go_roundw
    case measure=>simp [intOf];omega
    case rel=>exact ⟨k+1,by omega,by go_num,(by repeat (first|exact Ex.refl _|refine Ex.alloc ?_ _|refine Ex.ext ?_ _ _|refine Ex.drew ?_|refine Ex.drewN ?_ _))⟩
  ·obtain rfl:k=l.length:=by omega
   go_wp2
   all_goals go_ret
   all_goals exact ⟨rfl,(by repeat (first|exact Ex.refl _|refine Ex.alloc ?_ _|refine Ex.ext ?_ _ _|refine Ex.drew ?_|refine Ex.drewN ?_ _))⟩
end Go.Proofs.YtabbgpjofkaomaaGreatDoor

/- What VenueParts reads of two venues that have the same. -/
namespace Go.Proofs.YtabbgpjofkaomaaGreatDoor
open Go.RowKit
section
variable {E:Nat→Addr} {w0 w W:World} {M1 M2:List Th} {F:Nat→Prop} {vb dp:Nat} {fa:FlA} {v:VSt} {k:Nat}
set_option maxRecDepth 100000 in
theorem vnow_any (h:(vTh vb fa dp v).P F w):Calls Tryz.prog 20 #[.pointer (some ⟨vb,0,none⟩)] w fun e w'=>e=.returned (.int .i64 (v.now:Int))∧Ex w w':=by
 obtain ⟨A,rfl,_,_,hp,_⟩:=vTh.parts h
 have c:w.cell? ⟨A.vb,10,none⟩=some (.int .i64 (v.now:Int)):=hp.cell (j:=10) (by decide)
 clear hp h
 go_enter Tryz.func20,Tryz.ntmps20
 go_wp2
 all_goals go_ret
 all_goals exact ⟨rfl,(by repeat (first|exact Ex.refl _|refine Ex.alloc ?_ _|refine Ex.ext ?_ _ _|refine Ex.drew ?_|refine Ex.drewN ?_ _))⟩
set_option maxRecDepth 100000 in
theorem vbatches_any (h:(vTh vb fa dp v).P F w):Calls Tryz.prog 19 #[.pointer (some ⟨vb,0,none⟩)] w fun e w'=>e=.returned (.int .i64 (v.bat:Int))∧Ex w w':=by
 obtain ⟨A,rfl,_,_,hp,_⟩:=vTh.parts h
 have c:w.cell? ⟨A.vb,11,none⟩=some (.int .i64 (v.bat:Int)):=hp.cell (j:=11) (by decide)
 clear hp h
 go_enter Tryz.func19,Tryz.ntmps19
 go_wp2
 all_goals go_ret
 all_goals exact ⟨rfl,(by repeat (first|exact Ex.refl _|refine Ex.alloc ?_ _|refine Ex.ext ?_ _ _|refine Ex.drew ?_|refine Ex.drewN ?_ _))⟩
theorem vbytes_any (h:(vTh vb fa dp v).P F w):Calls Tryz.prog 29 #[.pointer (some ⟨dp,0,none⟩)] w fun e w'=>e=.returned (.string ⟨v.d.b.toArray⟩)∧Ex w w':=by
 obtain ⟨A,rfl,_,rfl,_,_,_,_,⟨G,_,own,hD,_⟩⟩:=vTh.parts h
 exact (bytes_any (show DiskAt own 1 w A.dp v.d from hD)).mono fun e w' ⟨he,hw⟩=>⟨he,hw▸Ex.refl _⟩
structure VRead2 (vb dp:Nat) (fa:FlA) (v:VSt) (wk:World):Prop extends VRead vb dp fa v wk where
 now:∀ W,Ex wk W→Calls Tryz.prog 20 #[.pointer (some ⟨vb,0,none⟩)] W fun e w'=>e=.returned (.int .i64 (v.now:Int))∧Ex W w'
 batches:∀ W,Ex wk W→Calls Tryz.prog 19 #[.pointer (some ⟨vb,0,none⟩)] W fun e w'=>e=.returned (.int .i64 (v.bat:Int))∧Ex W w'
 tape:∀ W,Ex wk W→Calls Tryz.prog 28 #[.pointer (some ⟨vb,0,none⟩)] W fun e w'=>e=.returned (.pointer (some ⟨dp,0,none⟩))∧Ex W w'
 bytes:∀ W,Ex wk W→Calls Tryz.prog 29 #[.pointer (some ⟨dp,0,none⟩)] W fun e w'=>e=.returned (.string ⟨v.d.b.toArray⟩)∧Ex W w'
 band:∀ W,Ex wk W→∀ k:Nat,k<3→Calls Tryz.prog 25 #[.pointer (some ⟨fa.f,0,none⟩),.int .i64 (k:Int)] W fun e w'=>e=.returned (.agg #[.int .i64 (v.f.ref k),.int .i64 (v.f.left k)])∧Ex W w'
theorem LX.reads2 (M1:List Th) {M2:List Th} {wk:World} (X:LX E w0 (M1++(vTh vb fa dp v::M2)) wk):VRead2 vb dp fa v wk:=by
 have key:∀ W,Ex wk W→∃ G,(vTh vb fa dp v).P G W:=fun W hx=>(X.later hx).look M1
 refine ⟨X.reads M1,fun W hx=>?_,fun W hx=>?_,fun W hx=>?_,fun W hx=>?_,fun W hx k hk=>?_⟩<;>obtain ⟨G,h⟩:=key W hx
 ·exact vnow_any h
 ·exact vbatches_any h
 ·exact vtape_any h
 ·exact vbytes_any h
 ·obtain ⟨own,hf⟩:=vTh.floor h
  exact fband_in hf k hk
theorem LX.setB (M1:List Th) {b:Nat} {vs:Array Value} {t:TypeId} (X:LX E w0 (M1++(blkTh b vs t::M2)) W) (j:Nat) (x:Value):LX E w0 (M1++(blkTh b (vs.setIfInBounds j x) t::M2)) (W.setCell ⟨b,j,none⟩ x):=by
 obtain ⟨G,h,hG,close⟩:=X.at M1
 exact close (M:=[blkTh b (vs.setIfInBounds j x) t]) ⟨G,SepL.one ⟨h.1,heap_setCell_same W b j vs t x h.2⟩,(Only.refl G W).setCell (p:=⟨b,j,none⟩) (fun _=>(h.1 _).2 rfl) x,fun n hn=>.inl hn⟩
end
def VCuts (w:World) (ao:Option Addr) (len:Nat):Prop:=0<len→∃ b off,ao=some ⟨b,off,none⟩∧b<w.heap.size∧∀ k,k<len→∃ v:Int,w.cell? ⟨b,off+k,none⟩=some (.int .i64 v)
theorem VCuts.ex {w w':World} {ao:Option Addr} {len:Nat} (h:VCuts w ao len) (hx:Ex w w'):VCuts w' ao len:=fun h0=>by
 obtain ⟨b,off,e,hl,hc⟩:=h h0
 refine ⟨b,off,e,Nat.lt_of_lt_of_le hl hx.below.size,fun k hk=>?_⟩
 obtain ⟨v,hv⟩:=hc k hk
 exact ⟨v,(hx.below.cell (p:=⟨b,off+k,none⟩) hl).trans hv⟩
theorem strs_new {w:World} (x:List Obj) (d:Nat) {n:Nat} (hn:n=w.heap.size+x.length) (B:List UInt8) (t:TypeId):StrsAt ((ext w x d).alloc (.cells #[.string ⟨B.toArray⟩] t)) (some ⟨n,0,none⟩) [B]:=by
 subst hn
 have h:=heap_alloc_new (ext w x d) (.cells #[.string ⟨B.toArray⟩] t)
 rw [ext_size] at h
 exact strs_one B h
theorem alloc_size (w:World) (o:Obj):(w.alloc o).heap.size=w.heap.size+1:=Array.size_push ..
structure Gr where
 x:List Obj
 d:Nat
instance grNonempty:Nonempty Gr:=⟨⟨[],0⟩⟩
theorem wp_region_ex {P:Program} {id:Nat} {Q:Exit→Act→World→Prop} {a:Act} {w:World} {l:List Oper} (hm:P.follows .mixedOrders=true) (hB:Region.lexB .any l.toArray=true)
  (h:wpQuiet P l.toArray (fun W=>∃ g:Gr,W=ext w g.x g.d) (fun a'=>∀ W,Ex w W→Q .normal a' W) l a):(Code.region id l.toArray true).wp P Q a w :=
 wp_region_quiet (C:=fun W=>∃ g:Gr,W=ext w g.x g.d) hm hB (by
  obtain ⟨x,d,e⟩:=show Ex w w.drew from (by repeat (first|exact Ex.refl _|refine Ex.alloc ?_ _|refine Ex.ext ?_ _ _|refine Ex.drew ?_|refine Ex.drewN ?_ _))
  exact ⟨⟨x,d⟩,e⟩) (by
  have e:(fun a'=>∀ W,(∃ g:Gr,W=ext w g.x g.d)→Q .normal a' W)=fun a'=>∀ W,Ex w W→Q .normal a' W:=by
   funext a'
   apply propext
   exact ⟨fun h W hx=>by
    obtain ⟨x,d,e⟩:=hx
    exact h W ⟨⟨x,d⟩,e⟩,fun h W hx=>by
    obtain ⟨g,e⟩:=hx
    exact h W ⟨g.x,g.d,e⟩⟩
  rw [e]
  simpa using h)
theorem Calls.class_of {P:Program} {f:FuncId} {args:Array Value} {w:World} {g:Gr} {v:Value} (h:∀ W,Ex w W→Calls P f args W fun e w'=>e=.returned v∧Ex W w'):Calls P f args (ext w g.x g.d) fun e w'=>e=.returned v∧∃ g:Gr,w'=ext w g.x g.d :=
 (h _ ⟨g.x,g.d,rfl⟩).mono fun _ _ ⟨he,hy⟩=>by
  obtain ⟨x,d,e⟩:=(show Ex w (ext w g.x g.d) from ⟨g.x,g.d,rfl⟩).trans hy
  exact ⟨he,⟨x,d⟩,e⟩
def wasC (f:Nat→Int) (k:Nat):Array Value:=((List.range 6).map fun c=>Value.int .i64 (if c<k then f c else 0)).toArray
theorem wasC_zero (f:Nat→Int):wasC f 0=#[.int .i64 0,.int .i64 0,.int .i64 0,.int .i64 0,.int .i64 0,.int .i64 0]:=rfl
theorem wasC_set (f:Nat→Int) {k:Nat} (hk:k<6):(wasC f k).setIfInBounds k (.int .i64 (f k))=wasC f (k+1):=by
 have h6:k=0∨k=1∨k=2∨k=3∨k=4∨k=5:=by omega
 rcases h6 with rfl|rfl|rfl|rfl|rfl|rfl<;>rfl
theorem wasC_get (f:Nat→Int) {k:Nat} (hk:k<6) (j:Nat):(wasC f j)[k]?=some (.int .i64 (if k<j then f k else 0)):=by
 unfold wasC
 rw [List.getElem?_toArray,List.getElem?_map,List.getElem?_range hk]
 rfl
theorem neRep_self (x:Rep) (w:World):(binOp .neq 50 (.agg #[.int .i64 x.client,.string x.kind,.int .i64 x.id,.int .i64 x.price,.int .i64 x.qty,.int .i64 x.code]) (.agg #[.int .i64 x.client,.string x.kind,.int .i64 x.id,.int .i64 x.price,.int .i64 x.qty,.int .i64 x.code])).run Tryz.prog w=.ok (.bool false) w:=by
 have hS:Tryz.prog.underlying 50=some (.struct (Tryz.prog.fieldsOf 50)):=by kernel_rfl
 have hp:Tryz.prog.stoodInHeld 50=false:=by kernel_rfl
 rw [run_neq_struct,show (10000:Nat)=9999+1 from rfl,run_equalIn_agg w 9999 _ _ _ hS hp]
 simp only [Program.fieldsOf,Tryz.underlying50]
 go_simp
theorem neBand_self (a b:Int) (w:World):(binOp .neq 68 (.agg #[.int .i64 a,.int .i64 b]) (.agg #[.int .i64 a,.int .i64 b])).run Tryz.prog w=.ok (.bool false) w:=by
 have hS:Tryz.prog.underlying 68=some (.struct (Tryz.prog.fieldsOf 68)):=by kernel_rfl
 have hp:Tryz.prog.stoodInHeld 68=false:=by kernel_rfl
 rw [run_neq_struct,show (10000:Nat)=9999+1 from rfl,run_equalIn_agg w 9999 _ _ _ hS hp]
 simp only [Program.fieldsOf,Tryz.underlying68]
 go_simp
theorem neSess_self (a:Bool) (b c:Int) (w:World):(binOp .neq 56 (.agg #[.bool a,.int .i64 b,.int .i64 c]) (.agg #[.bool a,.int .i64 b,.int .i64 c])).run Tryz.prog w=.ok (.bool false) w:=by
 have hS:Tryz.prog.underlying 56=some (.struct (Tryz.prog.fieldsOf 56)):=by kernel_rfl
 have hp:Tryz.prog.stoodInHeld 56=false:=by kernel_rfl
 rw [run_neq_struct,show (10000:Nat)=9999+1 from rfl,run_equalIn_agg w 9999 _ _ _ hS hp]
 simp only [Program.fieldsOf,Tryz.underlying56]
 go_simp
set_option maxRecDepth 100000 in
theorem alike_any (R:List Rep) (u u':Value) (w:World) (h1:(rrowRd R u).R w) (h2:(rrowRd R u').R w) :
  Calls Tryz.prog 18 #[u,u'] w fun e w'=>e=.returned (.int .i64 1)∧Ex w w':=by
 obtain ⟨ao,c1,rfl,hc1,hm1⟩:=rrow_slice h1
 obtain ⟨bo,c2,rfl,hc2,hm2⟩:=rrow_slice h2
 have hmx:R.length≤9223372036854775807:=by unfold maxLen at hm1;omega
 have H1:=Lib.hid (fun W (hx:Ex w W)=>(rdTh (rrowRd R (.slice ao R.length c1))).same (F:=fun n=>(Value.slice ao R.length c1).ownBlock=some n) ⟨fun n=>Iff.rfl,h1⟩ (Only.ex hx) (fun n hn h=>h))
 have H2:=Lib.hid (fun W (hx:Ex w W)=>(rdTh (rrowRd R (.slice bo R.length c2))).same (F:=fun n=>(Value.slice bo R.length c2).ownBlock=some n) ⟨fun n=>Iff.rfl,h2⟩ (Only.ex hx) (fun n hn h=>h))
 clear h1 h2 hm1 hm2
 have hne:=neRep_self
 go_enter Tryz.func18,Tryz.ntmps18
 go_wp2_with fail
 go_loopw [5] (fun i wr=>∃ (k:Nat),k≤R.length∧i=.int .i64 (k:Int)∧Ex w wr) (fun i _=>R.length - (intOf i).toNat)
 case atStart=>exact ⟨0,Nat.zero_le _,rfl,Ex.refl _⟩
 case round =>
  obtain ⟨k,hk,rfl,hx⟩:=hrel
  by_cases hlt:k<R.length
  ·obtain ⟨b1,o1,d1,e1,_,hb1,hq1⟩:=rrow_cells (H1.out _ hx).2 hlt
   obtain ⟨b2,o2,d2,e2,_,hb2,hq2⟩:=rrow_cells (H2.out _ hx).2 hlt
   have f1:ao=some ⟨b1,o1,none⟩:=by injection e1
   have f2:bo=some ⟨b2,o2,none⟩:=by injection e2
   subst f1 f2
   have a0:=hq1 0 (by decide)
   have a1:=hq1 1 (by decide)
   have a2:=hq1 2 (by decide)
   have a3:=hq1 3 (by decide)
   have a4:=hq1 4 (by decide)
   have a5:=hq1 5 (by decide)
   have c0:=hq2 0 (by decide)
   have c1:=hq2 1 (by decide)
   have c2:=hq2 2 (by decide)
   have c3:=hq2 3 (by decide)
   have c4:=hq2 4 (by decide)
   have c5:=hq2 5 (by decide)
   simp only [Rep.cells,Nat.add_zero,List.getElem?_cons_zero,List.getElem?_cons_succ] at a0 a1 a2 a3 a4 a5 c0 c1 c2 c3 c4 c5
   have HX:=Lib.hid hx
   have hn2:=hne R[k]
   clear hq1 hq2 e1 e2 hx H1 H2 hne
   generalize R[k].client=x0 at *
   generalize R[k].kind=x1 at *
   generalize R[k].id=x2 at *
   generalize R[k].price=x3 at *
   generalize R[k].qty=x4 at *
   generalize R[k].code=x5 at *
   go_upto_region 6 with fail
   go_quiet (fail)
   all_goals go_wp2_with fail
   all_goals
    go_roundw
    case measure=>simp [intOf];omega
    case rel=>exact ⟨k+1,by omega,by go_num,HX.out.trans (by repeat (first|exact Ex.refl _|refine Ex.alloc ?_ _|refine Ex.ext ?_ _ _|refine Ex.drew ?_|refine Ex.drewN ?_ _))⟩
  ·obtain rfl:k=R.length:=by omega
   go_wp2_with fail
   all_goals go_ret
   all_goals exact ⟨rfl,hx.trans (by repeat (first|exact Ex.refl _|refine Ex.alloc ?_ _|refine Ex.ext ?_ _ _|refine Ex.drew ?_|refine Ex.drewN ?_ _))⟩
end Go.Proofs.YtabbgpjofkaomaaGreatDoor
