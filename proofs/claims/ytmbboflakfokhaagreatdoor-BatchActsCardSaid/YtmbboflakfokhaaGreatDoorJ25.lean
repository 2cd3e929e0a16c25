import Derived.Test.YtmbboflakfokhaaGreatDoorFlRu
import Derived.Test.YtmbboflakfokhaaGreatDoorJ24
import Derived.Test.YtmbboflakfokhaaGreatDoorJ3
import Derived.Test.YtmbboflakfokhaaGreatDoorJ0
import Derived.Test.YtmbboflakfokhaaGreatDoorJ7
import Derived.Test.YtmbboflakfokhaaGreatDoorChecked
import Derived.Test.YtmbboflakfokhaaGreatDoorBand
import Derived.LaidEql
import Derived.Stop.Asserts
import Derived.RowKitTokens
import Derived.Test.YtmbboflakfokhaaGreatDoorJ1
import Derived.RegionTactic
/- A floor in a law: New, Place, Run as steps of what is known; the closed fact 'floored'. -/
set_option linter.unusedSimpArgs false
set_option linter.unusedVariables false
namespace Go.Proofs.YtmbboflakfokhaaGreatDoor
open Go.RowKit
def LE:List Nat:=[2,3,4,6,7,8,10,12]
theorem FOk.new {ref cash stock:Int} (r1:1≤ref) (r2:ref≤1000) (c1:0≤cash) (c2:cash≤1073741824) (s1:0≤stock) (s2:stock≤100000):FOk (newSt ref cash stock):=by
  have hp:∀ c j,c<6→(newSt ref cash stock).p c j=if j=0 then cash else if 2≤j∧j<5 then stock else 0:=fun c j hc=>if_pos hc
  refine ⟨fun k _=>BOk.nil,fun c hc=>?_,fun c hc k hk=>?_,fun k _=>⟨⟨r1,r2⟩,Int.le_refl _,by show (0:Int)≤1000;decide⟩,?_,fun k hk=>?_⟩
  · rw [hp c 1 hc];simp [newSt,heldB,sumZ]
  · rw [hp c (5+k) hc,if_neg (by omega),if_neg (by omega)];simp [newSt,sumZ]
  · unfold sumP
    rw [hp 0 0 (by omega),hp 1 0 (by omega),hp 2 0 (by omega),hp 3 0 (by omega),hp 4 0 (by omega),hp 5 0 (by omega)]
    simp only [if_true]
    omega
  · unfold sumP
    rw [hp 0 _ (by omega),hp 1 _ (by omega),hp 2 _ (by omega),hp 3 _ (by omega),hp 4 _ (by omega),hp 5 _ (by omega),if_neg (by omega),if_pos (by omega)]
    omega
theorem FOk.fplace {st:FSt} (h:FOk st) (a:Ask):FOk (fplaceS st a):=by
  unfold fplaceS
  split
  · rename_i hk
    obtain ⟨_,_,_,b4,_⟩:=Ask.bounds (asked_zero hk).1
    exact h.place (by omega) _
  · exact h
section
variable {own:Nat→Nat} {c k:Nat} {w w0 W:World} {A:FlA} {st:FSt} {E:Nat→Addr} {cs:List Bl} {T:Nat→Prop}
theorem FlX.ex0 (X:FlX own c w A st E LE cs T W) (hx:Ex w0 w) (hf:∀ n,n<w0.heap.size→own n / 8≠c):Ex w0 W:=by
  have k1:=X.kp
  exact Ex.of ⟨k1.os.trans hx.below.os,k1.tape.trans hx.below.tape,k1.output.trans hx.below.output,Nat.le_trans hx.below.size k1.size,fun n hn=>(k1.block n (Nat.lt_of_lt_of_le hn hx.below.size) (hf n hn)).trans (hx.below.block n hn)⟩
theorem FlX.place (X:FlX own c w A st E LE cs T W) (a:Ask) :
    Calls Tryz.prog 9 #[.pointer (some ⟨A.f,0,none⟩),a.val] W fun e w'=>e=.returned (errV E (fplaceE st a))∧FlX own c w A (fplaceS st a) E LE cs T w'∧∀ n,T n→w'.heap[n]?=W.heap[n]? :=
  X.callT fun o h hE hg=>fplace_any h (hE.sub (by decide)) (fun n hn=>hg n (hn.sub (by decide))) a
theorem FlX.run (X:FlX own c w A st E LE cs T W) (hO:FOk st) (hk:k<3) (seed:Int) (hs:U32 seed) :
    Calls Tryz.prog 16 #[.pointer (some ⟨A.f,0,none⟩),.int .i64 (k:Int),.int .u32 seed] W fun e w' =>
      ∃ ao cap,e=.returned (.tuple #[.agg #[.int .i64 (runR st k A.wd A.hl seed).price,.int .i64 (runR st k A.wd A.hl seed).vol,.bool (runR st k A.wd A.hl seed).isOpen,.slice ao (runR st k A.wd A.hl seed).fills.length cap],.nilIface])∧(runR st k A.wd A.hl seed).fills.length≤cap∧FillAt w' ao (runR st k A.wd A.hl seed).fills ∧
        FlX own c w A (runS st k A.wd A.hl seed) E LE cs (fun n=>T n∨TF ao (runR st k A.wd A.hl seed).fills n) w'∧∀ n,T n→w'.heap[n]?=W.heap[n]?:=by
  obtain ⟨hB,hE,hc,hlow⟩:=X
  obtain ⟨h1,o,h2,h3,h4,h5⟩:=hB
  refine (frun_any h2 hO (hE.sub (by decide)) (fun n hn=>(h4 n (.inl (hn.sub (by decide)))).2) k hk seed hs).mono fun e w' hT=>?_
  obtain ⟨ao,cap,rfl,hcap,hF,_,k1,o2,k2,k3,k4⟩:=hT
  have hsame:Same (FS LE cs T) W w':=⟨fun n hn=>k1.block n (h4 n hn).1 (h4 n hn).2,k1.size⟩
  refine ⟨ao,cap,rfl,hcap,hF,⟨⟨h1.chain k1 h5,tight o2 c w'.heap.size,k3.relabel (fun n hn _=>tight_lt hn),fun n hn=>tight_ge hn,fun n hn=>?_,fun n hn=>?_⟩,hE.same hsame (fun n hn=>.inl hn),hc.same hsame (fun t ht=>.inr (.inl ⟨t,ht,rfl⟩)),hlow⟩,fun n hn=>hsame.1 n (.inr (.inr hn))⟩
  · have key:FS LE cs T n→n<w'.heap.size∧tight o2 c w'.heap.size n / 8≠c:=fun hn=>by
      have hlt:=Nat.lt_of_lt_of_le (h4 n hn).1 k1.size
      refine ⟨hlt,?_⟩
      rw [tight_lt hlt,k2 n (h4 n hn).1]
      exact (h4 n hn).2
    rcases hn with h|h|h|h
    · exact key (.inl h)
    · exact key (.inr (.inl h))
    · exact key (.inr (.inr h))
    · obtain ⟨h0,off,e⟩:=h
      obtain ⟨b,off',e',hb,_⟩:=hF h0
      rw [e] at e'
      cases e'
      refine ⟨hb,?_⟩
      rw [tight_lt hb]
      exact k4 h0 n off e
  · have hlt:=Nat.lt_of_lt_of_le hn h1.size
    rw [tight_lt (Nat.lt_of_lt_of_le hlt k1.size),k2 n hlt]
    exact h5 n hn
end
def fa1:Ask:=⟨111,0,0,0,0,101,4,1⟩
def fa2:Ask:=⟨111,1,0,0,1,99,4,2⟩
def fs2:FSt:=fplaceS (fplaceS (newSt 100 1000 10) fa1) fa2
theorem fl_e1:fplaceE (newSt 100 1000 10) fa1=0:=by decide +kernel
theorem fl_e2:fplaceE (fplaceS (newSt 100 1000 10) fa1) fa2=0:=by decide +kernel
theorem fl_p:(runR fs2 0 10 2 5).price=100:=by decide +kernel
theorem fl_v:(runR fs2 0 10 2 5).vol=4:=by decide +kernel
theorem fl_o:(runR fs2 0 10 2 5).isOpen=true:=by decide +kernel
theorem fl_c:(runS fs2 0 10 2 5).p 0 0=600:=by decide +kernel
theorem fl_b:((runS fs2 0 10 2 5).b 0).length=0:=by decide +kernel
end Go.Proofs.YtmbboflakfokhaaGreatDoor

/- A floor, its fills, rows of lots as things that lie in blocks of their own. -/
set_option linter.unusedSimpArgs false
set_option linter.unusedVariables false
namespace Go.Proofs.YtmbboflakfokhaaGreatDoor
open Go.RowKit
def flTh (A:FlA) (st:FSt):Th where
  P F w:=(∀ n,F n→n<w.heap.size)∧∃ own,FlAt own 0 w A st∧∀ n,n<w.heap.size→own n / 8=0→F n
  lt h:=h.1
  same:=fun {F G w w'} h ho hn=>by
    obtain ⟨h1,own,h2,h3⟩:=h
    have hr:FlAt (fun n=>if n<w.heap.size∧own n / 8=0 then own n else 8) 0 w A st:=h2.relabel fun n hn e=>if_pos ⟨hn,e⟩
    refine ⟨fun n hf=>Nat.lt_of_lt_of_le (h1 n hf) ho.size,_,hr.kp (m:=8) (g:=1) ⟨ho.os,ho.tape,ho.output,ho.size,fun n hlt hne=>ho.block n hlt (hn n ?_)⟩ (fun j a b=>by omega) (fun n _ _=>rfl),fun n _ e=>?_⟩
    · by_cases e:n<w.heap.size∧own n / 8=0
      · exact h3 n e.1 e.2
      · exact absurd (show (if n<w.heap.size∧own n / 8=0 then own n else 8) / 8=1 by rw [if_neg e]) hne
    · by_cases e2:n<w.heap.size∧own n / 8=0
      · exact h3 n e2.1 e2.2
      · have e':(if n<w.heap.size∧own n / 8=0 then own n else 8) / 8=0:=e
        rw [if_neg e2] at e'
        omega
section
variable {F:Nat→Prop} {w w':World} {A:FlA} {st st':FSt} {E:Nat→Addr}
theorem flTh.of (own:Nat→Nat) (h:FlAt own 0 w A st):(flTh A st).P (fun n=>n<w.heap.size∧own n / 8=0) w:=⟨fun n hn=>hn.1,own,h,fun n hn e=>⟨hn,e⟩⟩
theorem flTh.leaves {own:Nat→Nat} (h0:∀ n,F n→n<w.heap.size) (hF:∀ n,n<w.heap.size→own n / 8=0→F n) (h:FlG own 0 w A st' w'):Leaves (flTh A st') F w w':=by
  obtain ⟨h1,o,h2,h3⟩:=h
  refine ⟨fun n=>(F n∧n<w.heap.size)∨(w.heap.size≤n∧n<w'.heap.size),⟨fun n hn=>?_,o,h3,fun n hn e=>?_⟩,Only.of_kp h1 hF,fun n hn=>?_⟩
  · have:=h1.size
    rcases hn with h|h<;>omega
  · by_cases hlt:n<w.heap.size
    · rw [h2 n hlt] at e
      exact .inl ⟨hF n hlt e,hlt⟩
    · exact .inr ⟨by omega,hn⟩
  · rcases hn with h|h
    · exact .inl h.1
    · exact .inr h.1
def fillTh (ao:Option Addr) (F:List Fil):Th where
  P G w:=(∀ n,G n↔TF ao F n)∧FillAt w ao F
  lt h n hn:=by
    obtain ⟨h0,off,e⟩:=(h.1 n).1 hn
    obtain ⟨b,off',e',hb,_⟩:=h.2 h0
    rw [e] at e'
    cases e'
    exact hb
  same:=fun {G H w w'} h ho hn=>⟨h.1,fun h0=>by
    obtain ⟨b,off,e,hb,hc⟩:=h.2 h0
    have hq:=ho.block b hb (hn b ((h.1 b).2 ⟨h0,off,e⟩))
    exact ⟨b,off,e,Nat.lt_of_lt_of_le hb ho.size,fun k hk j hj=>(World.cell?_of_block hq).trans (hc k hk j hj)⟩⟩
theorem flTh.run {own:Nat→Nat} (h0:∀ n,F n→n<w.heap.size) (hF:∀ n,n<w.heap.size→own n / 8=0→F n) {p v:Int} {op:Bool} {L:List Fil} {e:Ending} (h:RunTo own 0 w A st st' p v op L e w') :
    ∃ ao cap,e=.returned (.tuple #[.agg #[.int .i64 p,.int .i64 v,.bool op,.slice ao L.length cap],.nilIface])∧L.length≤cap∧LeavesL [flTh A st',fillTh ao L] F w w':=by
  obtain ⟨ao,cap,he,hcap,hfl,hnew,h1,o,h2,h3,h4⟩:=h
  refine ⟨ao,cap,he,hcap,_,SepL.two (F:=fun n=>(F n∧n<w.heap.size)∨(w.heap.size≤n∧n<w'.heap.size∧o n / 8=0)) (G:=TF ao L) ⟨fun n hn=>?_,o,h3,fun n hn e=>?_⟩ ⟨fun n=>Iff.rfl,hfl⟩ (fun n hn hg=>?_),Only.of_kp h1 hF,fun n hn=>?_⟩
  · have:=h1.size
    rcases hn with h|h<;>omega
  · by_cases hlt:n<w.heap.size
    · rw [h2 n hlt] at e
      exact .inl ⟨hF n hlt e,hlt⟩
    · exact .inr ⟨by omega,hn,e⟩
  · obtain ⟨g0,off,e⟩:=hg
    have q1:=hnew g0 n off e
    have q2:=h4 g0 n off e
    rcases hn with h|h
    · omega
    · exact q2 h.2.2
  · rcases hn with (h|h)|⟨g0,off,e⟩
    · exact .inl h.1
    · exact .inr h.1
    · exact .inr (hnew g0 n off e)
def lrowRd (l:List Lot) (v:Value):Rd v where
  R w:=RowAt w 44 5 v l.length (flat Lot.cells l)
  lt h g hg:=h.lt g hg
  same h hb:=h.of_block hb
theorem flTh.drop {own:Nat→Nat} (h0:∀ n,F n→n<w.heap.size) (hF:∀ n,n<w.heap.size→own n / 8=0→F n) {r:List Lot × FSt} {e:Ending} (h:DropTo own 0 w A r e w') :
    ∃ v,e=.returned v∧LeavesL [flTh A r.2,rdTh (lrowRd r.1 v)] F w w':=by
  obtain ⟨v,he,hrow,h1,o,h2,h3,h4⟩:=h
  refine ⟨v,he,_,SepL.two (F:=fun n=>(F n∧n<w.heap.size)∨(w.heap.size≤n∧n<w'.heap.size∧o n / 8=0)) (G:=fun n=>v.ownBlock=some n) ⟨fun n hn=>?_,o,h3,fun n hn e=>?_⟩ ⟨fun n=>Iff.rfl,hrow.1⟩ (fun n hn hg=>?_),Only.of_kp h1 hF,fun n hn=>?_⟩
  · have:=h1.size
    rcases hn with h|h<;>omega
  · by_cases hlt:n<w.heap.size
    · rw [h2 n hlt] at e
      exact .inl ⟨hF n hlt e,hlt⟩
    · exact .inr ⟨by omega,hn,e⟩
  · have q1:=hrow.2 n hg
    have q2:=h4 n hg
    rcases hn with h|h
    · omega
    · exact q2 h.2.2
  · rcases hn with (h|h)|h
    · exact .inl h.1
    · exact .inr h.1
    · exact .inr (hrow.2 n h)
end
end Go.Proofs.YtmbboflakfokhaaGreatDoor

/- The document's floor in memory: its block, its books, its purse, as things that lie in blocks of their own. -/
set_option linter.unusedSimpArgs false
set_option linter.unusedVariables false
namespace Go.Proofs.YtmbboflakfokhaaGreatDoor
open Go.RowKit
def bkOb (p:Nat) (l:List Lot):LabOb where
  Ob own i w:=BookAt own i w p l
  kp h hk hi ho:=h.kp hk hi ho
def puOb (p:Nat) (P:Pu):LabOb where
  Ob own i w:=PurseAt own i w p P
  kp h hk hi ho:=h.kp hk hi ho
structure MA where
  f:Nat
  bp:Nat→Nat
  pp:Nat
  wd:Int
  hl:Int
def MA.head (A:MA) (st:FSt) (j:Nat):Value :=
  if j<3 then .pointer (some ⟨A.bp j,0,none⟩) else if j<9 then (if (j - 3) % 2=0 then .int .i64 (st.ref ((j - 3) / 2)) else .int .i64 (st.left ((j - 3) / 2)))
  else if j=9 then .pointer (some ⟨A.pp,0,none⟩) else if j=10 then .int .i64 A.wd else .int .i64 A.hl
def mList (A:MA) (st:FSt):List Th:=[partTh A.f 12 (A.head st),labTh (bkOb (A.bp 0) (st.b 0)),labTh (bkOb (A.bp 1) (st.b 1)),labTh (bkOb (A.bp 2) (st.b 2)),labTh (puOb A.pp st.p)]
def mTh (A:MA) (st:FSt):Th:=allTh (mList A st)
def MFX (F:Nat→Prop) (w:World) (A:MA) (st:FSt) (M:List Th) (W:World):Prop:=Sep F w (mList A st++M) W
section
variable {w W W':World} {F:Nat→Prop} {A:MA} {st:FSt} {M:List Th} {f:FuncId} {args:Array Value} {P:Ending→Prop} {Q:Ending→World→Prop} {k:Nat}
theorem MFX.start (h:(mTh A st).P F w):MFX F w A st [] w:=by
  unfold MFX
  rw [List.append_nil]
  exact Sep.start h
theorem MFX.close (X:MFX F w A st [] W):Leaves (mTh A st) F w W:=by
  unfold MFX at X
  rw [List.append_nil] at X
  exact X.close.all
theorem MFX.only (X:MFX F w A st M W):MFX F w A st [] W:=by
  obtain ⟨FF,h1,h2⟩:=Sep.sep X
  obtain ⟨G1,G2,gF,_,g1,_⟩:=h1.split
  exact ⟨Sep.only X,G1,by rw [List.append_nil];exact g1,fun n hn=>h2 n ((gF n).2 (.inl hn))⟩
theorem MFX.later (X:MFX F w A st M W) (hx:Ex W W'):MFX F w A st M W':=Sep.later X hx
theorem MFX.add {M':List Th} (X:MFX F w A st M W) (hx:Ex W W') {G:Nat→Prop} (hM:SepL M' G W') (hn:∀ n,G n→W.heap.size≤n):MFX F w A st (M'++M) W' :=
  (Sep.addB X hx hM hn).perm (by rw [List.append_assoc];exact List.perm_append_comm.append_left _)
theorem MFX.headP (X:MFX F w A st M W):PartAt W A.f 12 (A.head st):=by
  obtain ⟨G,h⟩:=Sep.look X 0 rfl
  exact h.2
theorem MFX.bookC (X:MFX F w A st M W) (hk:k<3):W.cell? ⟨A.f,k,none⟩=some (.pointer (some ⟨A.bp k,0,none⟩)):=by
  rw [X.headP.cell (by omega)]
  unfold MA.head
  rw [if_pos hk]
theorem MFX.bandC (X:MFX F w A st M W) (hk:k<3):W.cell? ⟨A.f,3+k*2,none⟩=some (.int .i64 (st.ref k))∧W.cell? ⟨A.f,3+k*2+1,none⟩=some (.int .i64 (st.left k)):=by
  refine ⟨?_,?_⟩
  · rw [X.headP.cell (by omega)]
    unfold MA.head
    rw [if_neg (by omega),if_pos (by omega),if_pos (by omega),show (3+k*2 - 3) / 2=k by omega]
  · rw [X.headP.cell (by omega)]
    unfold MA.head
    rw [if_neg (by omega),if_pos (by omega),if_neg (by omega),show (3+k*2+1 - 3) / 2=k by omega]
theorem MFX.restC (X:MFX F w A st M W):W.cell? ⟨A.f,9,none⟩=some (.pointer (some ⟨A.pp,0,none⟩))∧W.cell? ⟨A.f,10,none⟩=some (.int .i64 A.wd)∧W.cell? ⟨A.f,11,none⟩=some (.int .i64 A.hl)∧A.f<W.heap.size :=
  ⟨X.headP.cell (j:=9) (by decide),X.headP.cell (j:=10) (by decide),X.headP.cell (j:=11) (by decide),X.headP.lt⟩
theorem three {k:Nat} (hk:k<3):k=0∨k=1∨k=2:=by omega
theorem MFX.bookAt (X:MFX F w A st M W) (hk:k<3):∃ own,BookAt own 1 W (A.bp k) (st.b k):=by
  rcases three hk with rfl|rfl|rfl
  · obtain ⟨G,_,own,h,_⟩:=Sep.look X 1 rfl
    exact ⟨own,h⟩
  · obtain ⟨G,_,own,h,_⟩:=Sep.look X 2 rfl
    exact ⟨own,h⟩
  · obtain ⟨G,_,own,h,_⟩:=Sep.look X 3 rfl
    exact ⟨own,h⟩
theorem MFX.purseAt (X:MFX F w A st M W):∃ own,PurseAt own 1 W A.pp st.p:=by
  obtain ⟨G,_,own,h,_⟩:=Sep.look X 4 rfl
  exact ⟨own,h⟩
theorem MFX.book {l':List Lot} (X:MFX F w A st M W) (hk:k<3) (hC:∀ own,BookAt own 1 W (A.bp k) (st.b k)→Calls Tryz.prog f args W fun e w'=>P e∧ObjTo own 1 1 W (fun o w'=>BookAt o 1 w' (A.bp k) l') w') :
    Calls Tryz.prog f args W fun e w'=>P e∧MFX F w A (st.setB k l') M w':=by
  rcases three hk with rfl|rfl|rfl
  · obtain ⟨G,⟨h0,own,hA,hF⟩,hG,close⟩:=Sep.open X 1 rfl
    refine (hC own hA).mono fun e w' ⟨he,hg⟩=>⟨he,?_⟩
    obtain ⟨F',k1,k2,k3⟩:=labTh.leaves (o:=bkOb (A.bp 0) l') (o':=bkOb (A.bp 0) l') hF h0 hg
    exact close k2 (SepL.one k1) k3
  · obtain ⟨G,⟨h0,own,hA,hF⟩,hG,close⟩:=Sep.open X 2 rfl
    refine (hC own hA).mono fun e w' ⟨he,hg⟩=>⟨he,?_⟩
    obtain ⟨F',k1,k2,k3⟩:=labTh.leaves (o:=bkOb (A.bp 1) l') (o':=bkOb (A.bp 1) l') hF h0 hg
    exact close k2 (SepL.one k1) k3
  · obtain ⟨G,⟨h0,own,hA,hF⟩,hG,close⟩:=Sep.open X 3 rfl
    refine (hC own hA).mono fun e w' ⟨he,hg⟩=>⟨he,?_⟩
    obtain ⟨F',k1,k2,k3⟩:=labTh.leaves (o:=bkOb (A.bp 2) l') (o':=bkOb (A.bp 2) l') hF h0 hg
    exact close k2 (SepL.one k1) k3
theorem MFX.purse {P':Pu} (X:MFX F w A st M W) (hC:∀ own,PurseAt own 1 W A.pp st.p→Calls Tryz.prog f args W fun e w'=>P e∧ObjTo own 1 1 W (fun o w'=>PurseAt o 1 w' A.pp P') w') :
    Calls Tryz.prog f args W fun e w'=>P e∧MFX F w A (st.setP P') M w':=by
  obtain ⟨G,⟨h0,own,hA,hF⟩,hG,close⟩:=Sep.open X 4 rfl
  refine (hC own hA).mono fun e w' ⟨he,hg⟩=>⟨he,?_⟩
  obtain ⟨F',k1,k2,k3⟩:=labTh.leaves (o:=puOb A.pp P') (o':=puOb A.pp P') hF h0 hg
  exact close k2 (SepL.one k1) k3
theorem MFX.readB (X:MFX F w A st M W) (hk:k<3) (hC:∀ own,BookAt own 1 W (A.bp k) (st.b k)→Calls Tryz.prog f args W fun e w'=>Q e w'∧Ex W w'):Calls Tryz.prog f args W fun e w'=>Q e w'∧Ex W w':=by
  obtain ⟨own,h⟩:=X.bookAt hk
  exact hC own h
theorem MFX.band (X:MFX F w A st M W) (hk:k<3) (r l:Int):MFX F w A (st.setN k r l) M ((W.setCell ⟨A.f,3+k*2,none⟩ (.int .i64 r)).setCell ⟨A.f,3+k*2+1,none⟩ (.int .i64 l)):=by
  obtain ⟨G,⟨hG1,hP⟩,hG,close⟩:=Sep.open X 0 rfl
  refine close (M:=[partTh A.f 12 (A.head (st.setN k r l))]) (((Only.refl G W).setCell (fun _=>(hG1 _).2 rfl) _).setCell (fun _=>(hG1 _).2 rfl) _) (SepL.one ⟨hG1,((hP.set (3+k*2) _).set (3+k*2+1) _).congr fun i hi=>?_⟩) (fun n hn=>.inl hn)
  unfold MA.head FSt.setN
  simp only
  by_cases h1:i=3+k*2+1
  · subst h1
    rw [if_pos rfl,if_neg (by omega),if_pos (by omega),if_neg (by omega),if_pos (by omega)]
  · rw [if_neg h1]
    by_cases h2:i=3+k*2
    · subst h2
      rw [if_pos rfl,if_neg (by omega),if_pos (by omega),if_pos (by omega),if_pos (by omega)]
    · rw [if_neg h2]
      by_cases h3:i<3
      · rw [if_pos h3,if_pos h3]
      · rw [if_neg h3,if_neg h3]
        by_cases h4:i<9
        · rw [if_pos h4,if_pos h4]
          by_cases h5:(i - 3) % 2=0
          · rw [if_pos h5,if_pos h5,if_neg (by omega)]
          · rw [if_neg h5,if_neg h5,if_neg (by omega)]
        · rw [if_neg h4,if_neg h4]
end
end Go.Proofs.YtmbboflakfokhaaGreatDoor

/- What the document's AskError computes: the same number as wire's Check. -/
set_option linter.unusedSimpArgs false
set_option linter.unusedVariables false
namespace Go.Proofs.YtmbboflakfokhaaGreatDoor
open Go.RowKit
theorem Ask.common_iff (a:Ask):a.common=true↔(0≤a.client∧a.client≤5)∧(0≤a.seq∧a.seq≤1073741824)∧(0≤a.id∧a.id≤1073741824):=by
  simp only [Ask.common,Bool.and_eq_true,inR_iff,and_assoc]
theorem Ask.place_iff (a:Ask):a.place=true↔(0≤a.item∧a.item≤2)∧(0≤a.side∧a.side≤1)∧(1≤a.price∧a.price≤1000)∧(1≤a.qty∧a.qty≤1000):=by
  simp only [Ask.place,Bool.and_eq_true,inR_iff,and_assoc]
theorem Ask.rest5_iff (a:Ask):a.rest5=true↔a.item≠0∨a.side≠0∨a.price≠0∨a.qty≠0∨a.id≠0:=by
  simp only [Ask.rest5,Bool.or_eq_true,bne_iff_ne,or_assoc]
theorem Ask.rest3_iff (a:Ask):a.rest3=true↔a.side≠0∨a.price≠0∨a.qty≠0:=by
  simp only [Ask.rest3,Bool.or_eq_true,bne_iff_ne,or_assoc]
theorem Ask.err_place {a:Ask} (h:a.kind=111):a.err=if ((0≤a.client∧a.client≤5)∧(0≤a.seq∧a.seq≤1073741824)∧(0≤a.id∧a.id≤1073741824))∧(0≤a.item∧a.item≤2)∧(0≤a.side∧a.side≤1)∧(1≤a.price∧a.price≤1000)∧(1≤a.qty∧a.qty≤1000) then 0 else 2:=by
  unfold Ask.err
  rw [h]
  simp only [show ((111:Int)==108 || (111:Int)==104 || (111:Int)==113)=false by decide,Bool.false_eq_true,if_false,beq_self_eq_true,if_true,Bool.and_eq_true,Ask.common_iff,Ask.place_iff]
theorem Ask.err_cancel {a:Ask} (h:a.kind=99):a.err=if ((0≤a.client∧a.client≤5)∧(0≤a.seq∧a.seq≤1073741824)∧(0≤a.id∧a.id≤1073741824))∧(0≤a.item∧a.item≤2) then (if a.side≠0∨a.price≠0∨a.qty≠0 then 3 else 0) else 2:=by
  unfold Ask.err
  rw [h]
  simp only [show ((99:Int)==108 || (99:Int)==104 || (99:Int)==113)=false by decide,show ((99:Int)==111)=false by decide,Bool.false_eq_true,if_false,beq_self_eq_true,if_true,Bool.and_eq_true,Ask.common_iff,inR_iff,Ask.rest3_iff]
  (repeat' split)<;>first|rfl|(exfalso;omega)
theorem Ask.err_talk {a:Ask} (h:a.kind=108∨a.kind=104∨a.kind=113):a.err=if (0≤a.client∧a.client≤5)∧(0≤a.seq∧a.seq≤1073741824)∧(0≤a.id∧a.id≤1073741824) then (if a.item≠0∨a.side≠0∨a.price≠0∨a.qty≠0∨a.id≠0 then 3 else 0) else 2:=by
  unfold Ask.err
  rw [if_pos (by simp only [Bool.or_eq_true,beq_iff_eq];omega)]
  simp only [Bool.and_eq_true,Ask.common_iff,Ask.rest5_iff]
  (repeat' split)<;>first|rfl|(exfalso;omega)
theorem Ask.err_none {a:Ask} (h1:a.kind≠108) (h2:a.kind≠104) (h3:a.kind≠113) (h4:a.kind≠111) (h5:a.kind≠99):a.err=4:=by
  unfold Ask.err
  rw [if_neg (by simp only [Bool.or_eq_true,beq_iff_eq];omega),if_neg (by simpa using h4),if_neg (by simpa using h5)]
theorem refInA_any (n lo hi:Int) (w:World) :
    Calls Tryz.prog 69 #[.int .i64 n,.int .i64 lo,.int .i64 hi] w fun e w'=>e=.returned (.bool (inR n lo hi))∧w=w':=by
  by_cases h:lo≤n
  · go_enter Tryz.func69,Tryz.ntmps69
    go_wp2
    all_goals go_ret
    all_goals exact ⟨ret_bool (by simp [inR,h]),rfl⟩
  · go_enter Tryz.func69,Tryz.ntmps69
    go_wp2
    all_goals go_ret
    all_goals exact ⟨ret_bool (by simp [inR];omega),rfl⟩
set_option maxHeartbeats 4000000 in
set_option maxRecDepth 100000 in
theorem askError_any (a:Ask) (w:World) :
    Calls Tryz.prog 68 #[a.val] w fun e w'=>e=.returned (.int .i64 a.err)∧Ex w w':=by
  by_cases k1:a.kind=111
  · have HERR:=Lib.hid (Ask.err_place k1)
    have q1:(a.kind==111)=true:=by simp [k1]
    have q2:(a.kind==99)=false:=by simp [k1]
    have q3:(a.kind != 108)=true:=by simp [k1]
    have q4:(a.kind != 104)=true:=by simp [k1]
    have q5:(a.kind != 113)=true:=by simp [k1]
    clear k1
    go_enter Tryz.func68,Tryz.ntmps68
    go_wp2_with (go_at_call 69;refine (refInA_any _ _ _ _).mono ?_;rintro e w1 ⟨rfl,rfl⟩)
    all_goals go_ret
    all_goals
      refine ⟨ret_int ?_,(by repeat (first|exact Ex.refl _|refine Ex.alloc ?_ _|refine Ex.ext ?_ _ _|refine Ex.drew ?_|refine Ex.drewN ?_ _))⟩
      rw [HERR.out]
      try simp only [Bool.not_eq_eq_eq_not,Bool.not_true,Bool.not_false,inR_iff,inR_not,bne_iff_ne,bne_eq_false_iff_eq,ne_eq] at *
      first|rfl|(rw [if_neg (by omega)];rfl)|(rw [if_pos (by omega)];rfl)|(rw [if_pos (by omega),if_pos (by omega)];rfl)|(rw [if_pos (by omega),if_neg (by omega)];rfl)
  by_cases k2:a.kind=99
  · have HERR:=Lib.hid (Ask.err_cancel k2)
    have q1:(a.kind==111)=false:=by simp [k2]
    have q2:(a.kind==99)=true:=by simp [k2]
    have q3:(a.kind != 108)=true:=by simp [k2]
    have q4:(a.kind != 104)=true:=by simp [k2]
    have q5:(a.kind != 113)=true:=by simp [k2]
    clear k1 k2
    go_enter Tryz.func68,Tryz.ntmps68
    go_wp2_with (go_at_call 69;refine (refInA_any _ _ _ _).mono ?_;rintro e w1 ⟨rfl,rfl⟩)
    all_goals go_ret
    all_goals
      refine ⟨ret_int ?_,(by repeat (first|exact Ex.refl _|refine Ex.alloc ?_ _|refine Ex.ext ?_ _ _|refine Ex.drew ?_|refine Ex.drewN ?_ _))⟩
      rw [HERR.out]
      try simp only [Bool.not_eq_eq_eq_not,Bool.not_true,Bool.not_false,inR_iff,inR_not,bne_iff_ne,bne_eq_false_iff_eq,ne_eq] at *
      first|rfl|(rw [if_neg (by omega)];rfl)|(rw [if_pos (by omega)];rfl)|(rw [if_pos (by omega),if_pos (by omega)];rfl)|(rw [if_pos (by omega),if_neg (by omega)];rfl)
  by_cases k3:a.kind=108
  · have HERR:=Lib.hid (Ask.err_talk (.inl k3))
    have q1:(a.kind==111)=false:=by simp [k3]
    have q2:(a.kind==99)=false:=by simp [k3]
    have q3:(a.kind != 108)=false:=by simp [k3]
    have q4:(a.kind != 104)=true:=by simp [k3]
    have q5:(a.kind != 113)=true:=by simp [k3]
    clear k1 k2 k3
    go_enter Tryz.func68,Tryz.ntmps68
    go_wp2_with (go_at_call 69;refine (refInA_any _ _ _ _).mono ?_;rintro e w1 ⟨rfl,rfl⟩)
    all_goals go_ret
    all_goals
      refine ⟨ret_int ?_,(by repeat (first|exact Ex.refl _|refine Ex.alloc ?_ _|refine Ex.ext ?_ _ _|refine Ex.drew ?_|refine Ex.drewN ?_ _))⟩
      rw [HERR.out]
      try simp only [Bool.not_eq_eq_eq_not,Bool.not_true,Bool.not_false,inR_iff,inR_not,bne_iff_ne,bne_eq_false_iff_eq,ne_eq] at *
      first|rfl|(rw [if_neg (by omega)];rfl)|(rw [if_pos (by omega)];rfl)|(rw [if_pos (by omega),if_pos (by omega)];rfl)|(rw [if_pos (by omega),if_neg (by omega)];rfl)
  by_cases k4:a.kind=104
  · have HERR:=Lib.hid (Ask.err_talk (.inr (.inl k4)))
    have q1:(a.kind==111)=false:=by simp [k4]
    have q2:(a.kind==99)=false:=by simp [k4]
    have q3:(a.kind != 108)=true:=by simp [k4]
    have q4:(a.kind != 104)=false:=by simp [k4]
    have q5:(a.kind != 113)=true:=by simp [k4]
    clear k1 k2 k3 k4
    go_enter Tryz.func68,Tryz.ntmps68
    go_wp2_with (go_at_call 69;refine (refInA_any _ _ _ _).mono ?_;rintro e w1 ⟨rfl,rfl⟩)
    all_goals go_ret
    all_goals
      refine ⟨ret_int ?_,(by repeat (first|exact Ex.refl _|refine Ex.alloc ?_ _|refine Ex.ext ?_ _ _|refine Ex.drew ?_|refine Ex.drewN ?_ _))⟩
      rw [HERR.out]
      try simp only [Bool.not_eq_eq_eq_not,Bool.not_true,Bool.not_false,inR_iff,inR_not,bne_iff_ne,bne_eq_false_iff_eq,ne_eq] at *
      first|rfl|(rw [if_neg (by omega)];rfl)|(rw [if_pos (by omega)];rfl)|(rw [if_pos (by omega),if_pos (by omega)];rfl)|(rw [if_pos (by omega),if_neg (by omega)];rfl)
  by_cases k5:a.kind=113
  · have HERR:=Lib.hid (Ask.err_talk (.inr (.inr k5)))
    have q1:(a.kind==111)=false:=by simp [k5]
    have q2:(a.kind==99)=false:=by simp [k5]
    have q3:(a.kind != 108)=true:=by simp [k5]
    have q4:(a.kind != 104)=true:=by simp [k5]
    have q5:(a.kind != 113)=false:=by simp [k5]
    clear k1 k2 k3 k4 k5
    go_enter Tryz.func68,Tryz.ntmps68
    go_wp2_with (go_at_call 69;refine (refInA_any _ _ _ _).mono ?_;rintro e w1 ⟨rfl,rfl⟩)
    all_goals go_ret
    all_goals
      refine ⟨ret_int ?_,(by repeat (first|exact Ex.refl _|refine Ex.alloc ?_ _|refine Ex.ext ?_ _ _|refine Ex.drew ?_|refine Ex.drewN ?_ _))⟩
      rw [HERR.out]
      try simp only [Bool.not_eq_eq_eq_not,Bool.not_true,Bool.not_false,inR_iff,inR_not,bne_iff_ne,bne_eq_false_iff_eq,ne_eq] at *
      first|rfl|(rw [if_neg (by omega)];rfl)|(rw [if_pos (by omega)];rfl)|(rw [if_pos (by omega),if_pos (by omega)];rfl)|(rw [if_pos (by omega),if_neg (by omega)];rfl)
  · have HERR:=Lib.hid (Ask.err_none k3 k4 k5 k1 k2)
    have q1:(a.kind==111)=false:=by simp [k1,k2,k3,k4,k5]
    have q2:(a.kind==99)=false:=by simp [k1,k2,k3,k4,k5]
    have q3:(a.kind != 108)=true:=by simp [k1,k2,k3,k4,k5]
    have q4:(a.kind != 104)=true:=by simp [k1,k2,k3,k4,k5]
    have q5:(a.kind != 113)=true:=by simp [k1,k2,k3,k4,k5]
    clear k1 k2 k3 k4 k5
    go_enter Tryz.func68,Tryz.ntmps68
    go_wp2_with (go_at_call 69;refine (refInA_any _ _ _ _).mono ?_;rintro e w1 ⟨rfl,rfl⟩)
    all_goals go_ret
    all_goals
      refine ⟨ret_int ?_,(by repeat (first|exact Ex.refl _|refine Ex.alloc ?_ _|refine Ex.ext ?_ _ _|refine Ex.drew ?_|refine Ex.drewN ?_ _))⟩
      rw [HERR.out]
      try simp only [Bool.not_eq_eq_eq_not,Bool.not_true,Bool.not_false,inR_iff,inR_not,bne_iff_ne,bne_eq_false_iff_eq,ne_eq] at *
      first|rfl|(rw [if_neg (by omega)];rfl)|(rw [if_pos (by omega)];rfl)|(rw [if_pos (by omega),if_pos (by omega)];rfl)|(rw [if_pos (by omega),if_neg (by omega)];rfl)
end Go.Proofs.YtmbboflakfokhaaGreatDoor

set_option linter.unusedSimpArgs false
set_option linter.unusedVariables false
namespace Go.Proofs.YtmbboflakfokhaaGreatDoor
open Go.RowKit
end Go.Proofs.YtmbboflakfokhaaGreatDoor

/- errors.Is by contracts, at an error of package api or a Fault, and a target of package api. After the kit's worked example Sentry. No condition. -/
set_option linter.unusedSimpArgs false
set_option linter.unusedVariables false
namespace Go.Proofs.YtmbboflakfokhaaGreatDoor
open Go.RowKit Go.Extern.Stop Go.Stop Go.Extern
theorem isTypeOf (v:Value) (w:World):(Extern.ReflectliteType.typeOf #[.iface 228 v]).run Tryz.prog w=.ok (.iface 186 (.agg #[.pointer (some ⟨13,228,none⟩)])) w:=by kernel_rfl
theorem isComparable (w : World) : ((Extern.ReflectliteType.method fun t => do Rtype.noPackHeld "Comparable" t; (fun a => Value.bool a.comparable) <$> typeInfo t) #[.agg #[.pointer (some ⟨13, 228, none⟩)]]).run Tryz.prog w = .ok (.bool true) w := by kernel_rfl
theorem isMethodComparable (v : Value) (w : World) : (Go.method 362 186 v "Comparable").run Tryz.prog w = .ok (166, v) w := by kernel_rfl
theorem isComp:(Tryz.prog.info? 228).map (·.comparable)=some true:=by kernel_rfl
theorem isSize:(Tryz.prog.info? 250).map (·.size)=some 1:=by kernel_rfl
theorem noIsE (v:Value) (xT:TypeId) (w:World):(Instr.typeAssert (.iface 228 v) xT 196 true).run Tryz.prog w=.ok (.tuple #[.nilIface,.bool false]) w:=run_typeAssert_lacksB Tryz.underlying196 (by kernel_rfl) (by kernel_rfl) v xT w
theorem noUnwrapE (v:Value) (xT:TypeId) (w:World):(Instr.typeAssert (.iface 228 v) xT 193 true).run Tryz.prog w=.ok (.tuple #[.nilIface,.bool false]) w:=run_typeAssert_lacksB Tryz.underlying193 (by kernel_rfl) (by kernel_rfl) v xT w
theorem noUnwrapsE (v:Value) (xT:TypeId) (w:World):(Instr.typeAssert (.iface 228 v) xT 194 true).run Tryz.prog w=.ok (.tuple #[.nilIface,.bool false]) w:=run_typeAssert_lacksB Tryz.underlying194 (by kernel_rfl) (by kernel_rfl) v xT w
theorem is_same (a:Addr) (w:World) :
    Calls Tryz.prog 61 #[.iface 228 (.pointer (some a)),.iface 228 (.pointer (some a))] w fun e w'=>e=.returned (.bool true)∧w=w':=by
  obtain ⟨i,hi,hcmp⟩:=Option.map_eq_some_iff.1 isComp
  obtain ⟨j,hj,hjs⟩:=Option.map_eq_some_iff.1 isSize
  have h8:=@run_callFunc_extern Tryz.prog 93 _ Extern.ReflectliteType.typeOf Tryz.func93 (by kernel_rfl) (by kernel_rfl) (by kernel_rfl) (by kernel_rfl)
  have h32 := @run_callFunc_extern Tryz.prog 166 _ (Extern.ReflectliteType.method fun t => do Rtype.noPackHeld "Comparable" t; pure (.bool (← typeInfo t).comparable)) Tryz.func166 (by kernel_rfl) (by kernel_rfl) (by kernel_rfl) (by kernel_rfl)
  have tT:=isTypeOf
  have cT:=isComparable
  have mR:=isMethodComparable
  have nE:=noIsE
  have uE:=noUnwrapE
  have vE:=noUnwrapsE
  have heq:=run_eql_iface_ptr_same (P:=Tryz.prog) w a Tryz.underlying27 Tryz.underlying228 hi hcmp hj
  go_enter Tryz.func61,Tryz.ntmps61
  go_wp2
  refine wp_loop_rounds 1 ?_
  rw [rounds_succ]
  go_wp2
  go_ret
  exact ⟨rfl,rfl⟩
theorem is_other (a b:Addr) (ca cb:Array Value) (ta tb:TypeId) (w:World) (hne:a≠b) (ha:w.heap[a.block]?=some (.cells ca ta (0,0))) (hb:w.heap[b.block]?=some (.cells cb tb (0,0))) :
    Calls Tryz.prog 61 #[.iface 228 (.pointer (some a)),.iface 228 (.pointer (some b))] w fun e w'=>e=.returned (.bool false)∧w=w':=by
  obtain ⟨i,hi,hcmp⟩:=Option.map_eq_some_iff.1 isComp
  obtain ⟨j,hj,hjs⟩:=Option.map_eq_some_iff.1 isSize
  have h8:=@run_callFunc_extern Tryz.prog 93 _ Extern.ReflectliteType.typeOf Tryz.func93 (by kernel_rfl) (by kernel_rfl) (by kernel_rfl) (by kernel_rfl)
  have h32 := @run_callFunc_extern Tryz.prog 166 _ (Extern.ReflectliteType.method fun t => do Rtype.noPackHeld "Comparable" t; pure (.bool (← typeInfo t).comparable)) Tryz.func166 (by kernel_rfl) (by kernel_rfl) (by kernel_rfl) (by kernel_rfl)
  have tT:=isTypeOf
  have cT:=isComparable
  have mR:=isMethodComparable
  have nE:=noIsE
  have uE:=noUnwrapE
  have vE:=noUnwrapsE
  have heq:=run_eql_iface_ptr_other (P:=Tryz.prog) w Tryz.underlying27 Tryz.underlying228 hi hcmp hj (by rw [hjs];decide) hne ha hb
  go_enter Tryz.func61,Tryz.ntmps61
  go_wp2
  refine wp_loop_rounds 1 ?_
  rw [rounds_succ]
  go_wp2
  go_ret
  exact ⟨rfl,rfl⟩
end Go.Proofs.YtmbboflakfokhaaGreatDoor

/- errors.As by contracts, at a target of type **api.Fault: a Fault (it is set), another error (nothing is set). After the kit's worked example Toyas. -/
set_option linter.unusedSimpArgs false
set_option linter.unusedVariables false
namespace Go.Proofs.YtmbboflakfokhaaGreatDoor
open Go.RowKit Go.Extern.Stop Go.Stop Go.Extern
theorem asValueOfT (t:Addr) (w:World):(ReflectliteValue.unpack (.iface 139 (.pointer (some t)))).run Tryz.prog w
    = .ok (.agg #[.pointer (some ⟨13,139,none⟩),.pointer (some ⟨w.heap.size,0,none⟩),.int .u64 150]) (w.alloc (.cells #[.pointer (some t)] 139)):=by kernel_rfl
theorem asTypeT (a : Addr) (w : World) : (ReflectliteValue.methodAny (ReflectliteValue.valueError "reflectlite.Value.Type" 0) (fun t _ _ _ => ReflectliteType.toType t) #[.agg #[.pointer (some ⟨13, 139, none⟩), .pointer (some a), .int .u64 150]]).run Tryz.prog w
    = .ok (.iface 186 (.agg #[.pointer (some ⟨13,139,none⟩)])) w:=by kernel_rfl
theorem asMethodKind (h : Value) (w : World) : (Go.method 362 186 (.agg #[h]) "Kind").run Tryz.prog w = .ok (154, h) w := by kernel_rfl
theorem asKindT (w:World):((ReflectliteType.abiMethod fun t=>(fun a:Nat=>Value.int IntKind.u8 (a:Int)) <$> Rtype.kind t) #[.pointer (some ⟨13,139,none⟩)]).run Tryz.prog w=.ok (.int .u8 22) w:=by kernel_rfl
theorem asKindF (w:World):((ReflectliteType.abiMethod fun t=>(fun a:Nat=>Value.int IntKind.u8 (a:Int)) <$> Rtype.kind t) #[.pointer (some ⟨13,137,none⟩)]).run Tryz.prog w=.ok (.int .u8 22) w:=by kernel_rfl
theorem rlm (z:Sem Value) (f:TypeId→Addr→Nat→Nat→Sem Value) (v:Value) :
    ReflectliteValue.method z f #[v]=(do match ← ReflectliteValue.parts v with|none=>z|some (t,a,fl)=>f t a fl (fl % 32)):=rfl
theorem asPartsT (a:Addr) (w:World):(ReflectliteValue.parts (.agg #[.pointer (some ⟨13,139,none⟩),.pointer (some a),.int .u64 150])).run Tryz.prog w=.ok (some (139,a,150)) w:=by kernel_rfl
theorem asIsNilT (a p:Addr) (W:World) (ha:W.cell? a=some (.pointer (some p))) :
    (ReflectliteValue.method (ReflectliteValue.valueError "reflectlite.Value.IsNil" 0) ReflectliteValue.isNil #[.agg #[.pointer (some ⟨13, 139, none⟩), .pointer (some a), .int .u64 150]]).run Tryz.prog W = .ok (.bool false) W := by
  rw [rlm]
  simp only [Sem.run_bind,asPartsT,Result.andThen]
  simp [ReflectliteValue.isNil,loadVar,isAgg,underlying,Tryz.underlying139,ha,Result.andThen]
theorem asMethodElem (h : Value) (w : World) : (Go.method 362 186 (.agg #[h]) "Elem").run Tryz.prog w = .ok (167, .agg #[h]) w := by kernel_rfl
theorem asMethodImplements (h : Value) (w : World) : (Go.method 362 186 (.agg #[h]) "Implements").run Tryz.prog w = .ok (168, .agg #[h]) w := by kernel_rfl
theorem asMethodAssignableTo (h : Value) (w : World) : (Go.method 362 186 (.agg #[h]) "AssignableTo").run Tryz.prog w = .ok (165, .agg #[h]) w := by kernel_rfl
theorem asElemT (w:World):(ReflectliteType.method ReflectliteType.elem #[.agg #[.pointer (some ⟨13,139,none⟩)]]).run Tryz.prog w=.ok (.iface 186 (.agg #[.pointer (some ⟨13,137,none⟩)])) w:=by kernel_rfl
theorem asImplementsF (w : World) : (ReflectliteType.relation "Implements" ReflectliteType.implements_ #[.agg #[.pointer (some ⟨13, 137, none⟩)], .iface 186 (.agg #[.pointer (some ⟨13, 27, none⟩)])]).run Tryz.prog w = .ok (.bool true) w := by kernel_rfl
theorem asTypeOfF (v:Value) (w:World):(ReflectliteType.typeOf #[.iface 137 v]).run Tryz.prog w=.ok (.iface 186 (.agg #[.pointer (some ⟨13,137,none⟩)])) w:=by kernel_rfl
theorem asAssignableF (w : World) : (ReflectliteType.relation "AssignableTo" ReflectliteType.assignableTo #[.agg #[.pointer (some ⟨13, 137, none⟩)], .iface 186 (.agg #[.pointer (some ⟨13, 137, none⟩)])]).run Tryz.prog w = .ok (.bool true) w := by kernel_rfl
theorem asAssignableE (w : World) : (ReflectliteType.relation "AssignableTo" ReflectliteType.assignableTo #[.agg #[.pointer (some ⟨13, 228, none⟩)], .iface 186 (.agg #[.pointer (some ⟨13, 137, none⟩)])]).run Tryz.prog w = .ok (.bool false) w := by kernel_rfl
theorem asValueOfF (e:Addr) (w:World):(ReflectliteValue.unpack (.iface 137 (.pointer (some e)))).run Tryz.prog w
    = .ok (.agg #[.pointer (some ⟨13,137,none⟩),.pointer (some ⟨w.heap.size,0,none⟩),.int .u64 150]) (w.alloc (.cells #[.pointer (some e)] 137)):=by kernel_rfl
theorem asElemOfT (w:World):(Rtype.elem? 139).run Tryz.prog w=.ok (some 137) w:=by kernel_rfl
theorem asMkF (p:Addr) (w:World):(ReflectliteValue.mk 137 p ReflectliteValue.flagAddr).run Tryz.prog w=.ok (.agg #[.pointer (some ⟨13,137,none⟩),.pointer (some p),.int .u64 406]) w:=by kernel_rfl
theorem asElemV (a p:Addr) (W:World) (ha:W.cell? a=some (.pointer (some p))) :
    (ReflectliteValue.method (ReflectliteValue.valueError "reflectlite.Value.Elem" 0) ReflectliteValue.elem #[.agg #[.pointer (some ⟨13, 139, none⟩), .pointer (some a), .int .u64 150]]).run Tryz.prog W
      = .ok (.agg #[.pointer (some ⟨13,137,none⟩),.pointer (some p),.int .u64 406]) W:=by
  rw [rlm]
  simp only [Sem.run_bind,asPartsT,Result.andThen]
  simp [ReflectliteValue.elem,loadVar,isAgg,underlying,Tryz.underlying139,ha,Result.andThen,asElemOfT,asMkF]
theorem rls (v x:Value):ReflectliteValue.set #[v,x]=(do
    let (some (dst,a,fl),some (src,b,_)):=(← ReflectliteValue.parts v,← ReflectliteValue.parts x)
      | unsupported (.noEntry "extern/(internal/reflectlite.Value).Set.zeroValue")
    if fl / ReflectliteValue.flagAddr % 2 == 0 then unsupported (.noEntry "extern/(internal/reflectlite.Value).Set.unaddressable")
    let val ← loadVar src b
    if ← Rtype.directlyAssignable dst src then storeVar dst a val
    else if ← Rtype.implements dst src then
      if (← Rtype.kind src)==20 then
        match val with
        | .nilIface => unsupported (.noEntry "extern/reflectlite: a nil value of one interface type handed on as a value of another")
        | _=>storeVar dst a val
      else storeVar dst a (.iface src val)
    else panicString ("reflectlite.Set: value of type " ++ (← Rtype.spelt src) ++ " is not assignable to type " ++ (← Rtype.spelt dst))
    pure (.tuple #[])):=rfl
theorem asPartsA (a:Addr) (w:World):(ReflectliteValue.parts (.agg #[.pointer (some ⟨13,137,none⟩),.pointer (some a),.int .u64 406])).run Tryz.prog w=.ok (some (137,a,406)) w:=by kernel_rfl
theorem asPartsF (a:Addr) (w:World):(ReflectliteValue.parts (.agg #[.pointer (some ⟨13,137,none⟩),.pointer (some a),.int .u64 150])).run Tryz.prog w=.ok (some (137,a,150)) w:=by kernel_rfl
theorem asDirectF (w:World):(Rtype.directlyAssignable 137 137).run Tryz.prog w=.ok true w:=by kernel_rfl
theorem asSizeF (w:World):(sizeOf 137).run Tryz.prog w=.ok 1 w:=by kernel_rfl
theorem asSet (ta b e:Addr) (old:Value) (W:World) (hb:W.cell? b=some (.pointer (some e))) (ht:W.cell? ta=some old) (hf:W.frozen? ta=false) :
    (ReflectliteValue.set #[.agg #[.pointer (some ⟨13,137,none⟩),.pointer (some ta),.int .u64 406],.agg #[.pointer (some ⟨13,137,none⟩),.pointer (some b),.int .u64 150]]).run Tryz.prog W
      = .ok (.tuple #[]) (W.setCell ta (.pointer (some e))):=by
  rw [rls]
  simp only [Sem.run_bind,asPartsA,asPartsF,Result.andThen]
  simp [ReflectliteValue.flagAddr,loadVar,isAgg,underlying,Tryz.underlying137,hb,Result.andThen,asDirectF,storeVar,Value.cells,storeCells,Addr.add]
  rw [run_store Tryz.prog W ta _ _ (by rfl)]
  simp [ht,hf]
theorem noAsE (v:Value) (xT:TypeId) (w:World):(Instr.typeAssert (.iface 228 v) xT 190 true).run Tryz.prog w=.ok (.tuple #[.nilIface,.bool false]) w:=run_typeAssert_lacksB Tryz.underlying190 (by kernel_rfl) (by kernel_rfl) v xT w
def Handle (w:World):Prop:=w.cell? ⟨12,0,none⟩=some (.iface 186 (.agg #[.pointer (some ⟨13,27,none⟩)]))
set_option maxHeartbeats 4000000 in
theorem as_hit (e t:Addr) (old:Value) (w:World) (hg:Handle w) (ht0:w.cell? t=some old) (hf0:w.frozen? t=false) :
    Calls Tryz.prog 60 #[.iface 137 (.pointer (some e)),.iface 139 (.pointer (some t))] w fun ev w'=>ev=.returned (.bool true)∧w'=((((w.alloc (.cells #[.pointer (some t)] 139)).alloc (.cells #[.pointer (some ⟨13,139,none⟩),.pointer (some ⟨w.heap.size,0,none⟩),.int .u64 150] 166)).alloc (.cells #[.pointer (some ⟨13,139,none⟩),.pointer (some ⟨w.heap.size,0,none⟩),.int .u64 150] 166)).alloc (.cells #[.pointer (some e)] 137)).setCell t (.pointer (some e)):=by
  unfold Handle at hg
  have h6:=@run_callFunc_extern Tryz.prog 89 _ (fun args=>ReflectliteValue.unpack (args.getD 0 (.tuple #[]))) Tryz.func89 (by kernel_rfl) (by kernel_rfl) (by kernel_rfl) (by kernel_rfl)
  have h7 := @run_callFunc_extern Tryz.prog 90 _ (ReflectliteValue.methodAny (ReflectliteValue.valueError "reflectlite.Value.Type" 0) (fun t _ _ _ => ReflectliteType.toType t)) Tryz.func90 (by kernel_rfl) (by kernel_rfl) (by kernel_rfl) (by kernel_rfl)
  have h8 := @run_callFunc_extern Tryz.prog 91 _ (ReflectliteValue.method (ReflectliteValue.valueError "reflectlite.Value.IsNil" 0) ReflectliteValue.isNil) Tryz.func91 (by kernel_rfl) (by kernel_rfl) (by kernel_rfl) (by kernel_rfl)
  have h27:=@run_callFunc_extern Tryz.prog 154 _ (ReflectliteType.abiMethod fun t=>do pure (.int .u8 (← Rtype.kind t))) Tryz.func154 (by kernel_rfl) (by kernel_rfl) (by kernel_rfl) (by kernel_rfl)
  have h37:=@run_callFunc_extern Tryz.prog 167 _ (ReflectliteType.method ReflectliteType.elem) Tryz.func167 (by kernel_rfl) (by kernel_rfl) (by kernel_rfl) (by kernel_rfl)
  have h38 := @run_callFunc_extern Tryz.prog 168 _ (ReflectliteType.relation "Implements" ReflectliteType.implements_) Tryz.func168 (by kernel_rfl) (by kernel_rfl) (by kernel_rfl) (by kernel_rfl)
  have h10:=@run_callFunc_extern Tryz.prog 93 _ ReflectliteType.typeOf Tryz.func93 (by kernel_rfl) (by kernel_rfl) (by kernel_rfl) (by kernel_rfl)
  have h35 := @run_callFunc_extern Tryz.prog 165 _ (ReflectliteType.relation "AssignableTo" ReflectliteType.assignableTo) Tryz.func165 (by kernel_rfl) (by kernel_rfl) (by kernel_rfl) (by kernel_rfl)
  have h11 := @run_callFunc_extern Tryz.prog 109 _ (ReflectliteValue.method (ReflectliteValue.valueError "reflectlite.Value.Elem" 0) ReflectliteValue.elem) Tryz.func109 (by kernel_rfl) (by kernel_rfl) (by kernel_rfl) (by kernel_rfl)
  have h12:=@run_callFunc_extern Tryz.prog 110 _ ReflectliteValue.set Tryz.func110 (by kernel_rfl) (by kernel_rfl) (by kernel_rfl) (by kernel_rfl)
  have f6:=asValueOfT
  have f7:=asTypeT
  have mA:=asMethodAssignableTo
  have mK:=asMethodKind
  have mE:=asMethodElem
  have mI:=asMethodImplements
  have k27:=asKindT
  have k25:=asKindF
  have e27:=asElemT
  have i25:=asImplementsF
  have tO:=asTypeOfF
  have a25:=asAssignableF
  have v25:=asValueOfF
  have hlt:12<w.heap.size:=lt_of_cell hg
  have n8:=asIsNilT ⟨w.heap.size,0,none⟩ t ((w.alloc (.cells #[.pointer (some t)] 139)).alloc (.cells #[.pointer (some ⟨13,139,none⟩),.pointer (some ⟨w.heap.size,0,none⟩),.int .u64 150] 166)) (by simp)
  have hg2:((w.alloc (.cells #[.pointer (some t)] 139)).alloc (.cells #[.pointer (some ⟨13,139,none⟩),.pointer (some ⟨w.heap.size,0,none⟩),.int .u64 150] 166)).cell? ⟨12,0,none⟩=some (.iface 186 (.agg #[.pointer (some ⟨13,27,none⟩)])):=by
    rw [World.cell?_alloc_lt _ _ ⟨12,0,none⟩ (by simp;omega),World.cell?_alloc_lt _ _ ⟨12,0,none⟩ hlt];exact hg
  have htl:t.block<w.heap.size:=by
    rcases Nat.lt_or_ge t.block w.heap.size with h|h
    · exact h
    · simp [World.cell?,Array.getElem?_eq_none h] at ht0
  have el:=asElemV ⟨w.heap.size,0,none⟩ t (((w.alloc (.cells #[.pointer (some t)] 139)).alloc (.cells #[.pointer (some ⟨13,139,none⟩),.pointer (some ⟨w.heap.size,0,none⟩),.int .u64 150] 166)).alloc (.cells #[.pointer (some ⟨13,139,none⟩),.pointer (some ⟨w.heap.size,0,none⟩),.int .u64 150] 166)) (by rw [World.cell?_alloc_lt _ _ ⟨w.heap.size,0,none⟩ (by simp;omega)];simp)
  have st:=asSet t ⟨w.heap.size+1+1+1,0,none⟩ e old ((((w.alloc (.cells #[.pointer (some t)] 139)).alloc (.cells #[.pointer (some ⟨13,139,none⟩),.pointer (some ⟨w.heap.size,0,none⟩),.int .u64 150] 166)).alloc (.cells #[.pointer (some ⟨13,139,none⟩),.pointer (some ⟨w.heap.size,0,none⟩),.int .u64 150] 166)).alloc (.cells #[.pointer (some e)] 137))
    (by rw [World.cell?_alloc_at _ _ _ _ (by simp)];rfl)
    (by rw [World.cell?_alloc_lt _ _ t (by simp;omega),World.cell?_alloc_lt _ _ t (by simp;omega),World.cell?_alloc_lt _ _ t (by simp;omega),World.cell?_alloc_lt _ _ t htl];exact ht0)
    (by rw [World.frozen?_alloc_old _ _ t (by simp;omega),World.frozen?_alloc_old _ _ t (by simp;omega),World.frozen?_alloc_old _ _ t (by simp;omega),World.frozen?_alloc_old _ _ t (Nat.ne_of_lt htl)];exact hf0)
  go_enter Tryz.func60,Tryz.ntmps60
  go_wp2
  refine wp_loop_rounds 1 ?_
  rw [rounds_succ]
  go_wp2
  go_ret
  exact ⟨rfl,rfl⟩
set_option maxHeartbeats 4000000 in
theorem as_miss (e t:Addr) (w:World) (hg:Handle w) :
    Calls Tryz.prog 60 #[.iface 228 (.pointer (some e)),.iface 139 (.pointer (some t))] w fun ev w'=>ev=.returned (.bool false)∧Ex w w':=by
  unfold Handle at hg
  have h6:=@run_callFunc_extern Tryz.prog 89 _ (fun args=>ReflectliteValue.unpack (args.getD 0 (.tuple #[]))) Tryz.func89 (by kernel_rfl) (by kernel_rfl) (by kernel_rfl) (by kernel_rfl)
  have h7 := @run_callFunc_extern Tryz.prog 90 _ (ReflectliteValue.methodAny (ReflectliteValue.valueError "reflectlite.Value.Type" 0) (fun t _ _ _ => ReflectliteType.toType t)) Tryz.func90 (by kernel_rfl) (by kernel_rfl) (by kernel_rfl) (by kernel_rfl)
  have h8 := @run_callFunc_extern Tryz.prog 91 _ (ReflectliteValue.method (ReflectliteValue.valueError "reflectlite.Value.IsNil" 0) ReflectliteValue.isNil) Tryz.func91 (by kernel_rfl) (by kernel_rfl) (by kernel_rfl) (by kernel_rfl)
  have h27:=@run_callFunc_extern Tryz.prog 154 _ (ReflectliteType.abiMethod fun t=>do pure (.int .u8 (← Rtype.kind t))) Tryz.func154 (by kernel_rfl) (by kernel_rfl) (by kernel_rfl) (by kernel_rfl)
  have h37:=@run_callFunc_extern Tryz.prog 167 _ (ReflectliteType.method ReflectliteType.elem) Tryz.func167 (by kernel_rfl) (by kernel_rfl) (by kernel_rfl) (by kernel_rfl)
  have h38 := @run_callFunc_extern Tryz.prog 168 _ (ReflectliteType.relation "Implements" ReflectliteType.implements_) Tryz.func168 (by kernel_rfl) (by kernel_rfl) (by kernel_rfl) (by kernel_rfl)
  have h10:=@run_callFunc_extern Tryz.prog 93 _ ReflectliteType.typeOf Tryz.func93 (by kernel_rfl) (by kernel_rfl) (by kernel_rfl) (by kernel_rfl)
  have h35 := @run_callFunc_extern Tryz.prog 165 _ (ReflectliteType.relation "AssignableTo" ReflectliteType.assignableTo) Tryz.func165 (by kernel_rfl) (by kernel_rfl) (by kernel_rfl) (by kernel_rfl)
  have h11 := @run_callFunc_extern Tryz.prog 109 _ (ReflectliteValue.method (ReflectliteValue.valueError "reflectlite.Value.Elem" 0) ReflectliteValue.elem) Tryz.func109 (by kernel_rfl) (by kernel_rfl) (by kernel_rfl) (by kernel_rfl)
  have h12:=@run_callFunc_extern Tryz.prog 110 _ ReflectliteValue.set Tryz.func110 (by kernel_rfl) (by kernel_rfl) (by kernel_rfl) (by kernel_rfl)
  have f6:=asValueOfT
  have f7:=asTypeT
  have mA:=asMethodAssignableTo
  have mK:=asMethodKind
  have mE:=asMethodElem
  have mI:=asMethodImplements
  have k27:=asKindT
  have k25:=asKindF
  have e27:=asElemT
  have i25:=asImplementsF
  have tO:=isTypeOf
  have aE:=asAssignableE
  have nE:=noAsE
  have uE:=noUnwrapE
  have vE:=noUnwrapsE
  have hlt:12<w.heap.size:=lt_of_cell hg
  have n8:=asIsNilT ⟨w.heap.size,0,none⟩ t ((w.alloc (.cells #[.pointer (some t)] 139)).alloc (.cells #[.pointer (some ⟨13,139,none⟩),.pointer (some ⟨w.heap.size,0,none⟩),.int .u64 150] 166)) (by simp)
  have hg2:((w.alloc (.cells #[.pointer (some t)] 139)).alloc (.cells #[.pointer (some ⟨13,139,none⟩),.pointer (some ⟨w.heap.size,0,none⟩),.int .u64 150] 166)).cell? ⟨12,0,none⟩=some (.iface 186 (.agg #[.pointer (some ⟨13,27,none⟩)])):=by
    rw [World.cell?_alloc_lt _ _ ⟨12,0,none⟩ (by simp;omega),World.cell?_alloc_lt _ _ ⟨12,0,none⟩ hlt];exact hg
  go_enter Tryz.func60,Tryz.ntmps60
  go_wp2
  refine wp_loop_rounds 1 ?_
  rw [rounds_succ]
  go_wp2
  go_ret
  exact ⟨rfl,(by repeat (first|exact Ex.refl _|refine Ex.alloc ?_ _|refine Ex.ext ?_ _ _|refine Ex.drew ?_|refine Ex.drewN ?_ _))⟩
end Go.Proofs.YtmbboflakfokhaaGreatDoor

/- What plain's Code computes: at nil, at an error of package api, at a Fault that holds one. -/
set_option linter.unusedSimpArgs false
set_option linter.unusedVariables false
namespace Go.Proofs.YtmbboflakfokhaaGreatDoor
open Go.RowKit
def allE:List Nat:=[1,2,3,4,5,6,7,8,9,10,11,12]
theorem mem_allE {c:Nat} (h1:1≤c) (h2:c≤12):c∈allE:=by
  simp only [allE,List.mem_cons,List.not_mem_nil,or_false];omega
theorem Apart.ex {E:Nat→Addr} {l:List Nat} {w w':World} (h:Apart E l w) (hx:Ex w w'):Apart E l w':=by
  refine ⟨fun c hc=>?_,h.2⟩
  obtain ⟨cs,t,hh⟩:=h.1 c hc
  exact ⟨cs,t,(hx.below.block _ (Array.getElem?_eq_some_iff.1 hh).1).trans hh⟩
theorem Handle.ex {w w':World} (h:Handle w) (hx:Ex w w'):Handle w':=(hx.below.cell (p:=⟨12,0,none⟩) (lt_of_cell h)).trans h
def CodeReady (E:Nat→Addr) (w:World):Prop:=Errs E allE w∧Apart E allE w∧Handle w
theorem CodeReady.ex {E:Nat→Addr} {w w':World} (h:CodeReady E w) (hx:Ex w w'):CodeReady E w':=⟨h.1.ex hx,h.2.1.ex hx,h.2.2.ex hx⟩
theorem is_err (E:Nat→Addr) (c j:Nat) (w:World) (hA:Apart E allE w) (hc:c∈allE) (hj:j∈allE) :
    Calls Tryz.prog 61 #[.iface 228 (.pointer (some (E c))),.iface 228 (.pointer (some (E j)))] w fun e w'=>e=.returned (.bool (c==j))∧w=w':=by
  by_cases h:c=j
  · subst h
    rw [beq_self_eq_true]
    exact is_same _ w
  · rw [beq_eq_false_iff_ne.2 h]
    obtain ⟨_,_,h1⟩:=hA.1 c hc
    obtain ⟨_,_,h2⟩:=hA.1 j hj
    exact is_other _ _ _ _ _ _ w (hA.2 c hc j hj h) h1 h2
def errsRow (E:Nat→Addr):Array Value:=#[.iface 228 (.pointer (some (E 1))),.iface 228 (.pointer (some (E 2))),.iface 228 (.pointer (some (E 3))),.iface 228 (.pointer (some (E 4))),.iface 228 (.pointer (some (E 5))),.iface 228 (.pointer (some (E 6))),
  .iface 228 (.pointer (some (E 7))),.iface 228 (.pointer (some (E 8))),.iface 228 (.pointer (some (E 9))),.iface 228 (.pointer (some (E 10))),.iface 228 (.pointer (some (E 11))),.iface 228 (.pointer (some (E 12)))]
theorem errsRow_at (E:Nat→Addr):∀ k,k<12→(errsRow E)[k]?=some (.iface 228 (.pointer (some (E (k+1)))))
  | 0,_=>rfl|1,_=>rfl|2,_=>rfl|3,_=>rfl|4,_=>rfl|5,_=>rfl|6,_=>rfl|7,_=>rfl|8,_=>rfl|9,_=>rfl|10,_=>rfl|11,_=>rfl
  | k+12,h=>by omega
theorem code_nil (w:World):Calls Tryz.prog 29 #[.nilIface] w fun e w'=>e=.returned (.tuple #[.int .i64 0,.int .i64 (-1)])∧w=w':=by
  go_enter Tryz.func29,Tryz.ntmps29
  go_wp2
  go_ret2
  exact ⟨rfl,rfl⟩
set_option maxRecDepth 100000 in
set_option maxHeartbeats 2000000 in
theorem code_err (c:Nat) (E:Nat→Addr) (w:World) (hr:CodeReady E w) (h1:1≤c) (h2:c≤12) :
    Calls Tryz.prog 29 #[.iface 228 (.pointer (some (E c)))] w fun e w'=>e=.returned (.tuple #[.int .i64 c,.int .i64 (-1)])∧Ex w w':=by
  obtain ⟨hE,hA,hg⟩:=hr
  have e1:w.cell? ⟨3,0,none⟩=some (.iface 228 (.pointer (some (E 1)))):=hE 1 (by decide)
  have b1:3<w.heap.size:=lt_of_cell e1
  have e2:w.cell? ⟨0,0,none⟩=some (.iface 228 (.pointer (some (E 2)))):=hE 2 (by decide)
  have b2:0<w.heap.size:=lt_of_cell e2
  have e3:w.cell? ⟨4,0,none⟩=some (.iface 228 (.pointer (some (E 3)))):=hE 3 (by decide)
  have b3:4<w.heap.size:=lt_of_cell e3
  have e4:w.cell? ⟨5,0,none⟩=some (.iface 228 (.pointer (some (E 4)))):=hE 4 (by decide)
  have b4:5<w.heap.size:=lt_of_cell e4
  have e5:w.cell? ⟨6,0,none⟩=some (.iface 228 (.pointer (some (E 5)))):=hE 5 (by decide)
  have b5:6<w.heap.size:=lt_of_cell e5
  have e6:w.cell? ⟨1,0,none⟩=some (.iface 228 (.pointer (some (E 6)))):=hE 6 (by decide)
  have b6:1<w.heap.size:=lt_of_cell e6
  have e7:w.cell? ⟨7,0,none⟩=some (.iface 228 (.pointer (some (E 7)))):=hE 7 (by decide)
  have b7:7<w.heap.size:=lt_of_cell e7
  have e8:w.cell? ⟨2,0,none⟩=some (.iface 228 (.pointer (some (E 8)))):=hE 8 (by decide)
  have b8:2<w.heap.size:=lt_of_cell e8
  have e9:w.cell? ⟨8,0,none⟩=some (.iface 228 (.pointer (some (E 9)))):=hE 9 (by decide)
  have b9:8<w.heap.size:=lt_of_cell e9
  have e10:w.cell? ⟨9,0,none⟩=some (.iface 228 (.pointer (some (E 10)))):=hE 10 (by decide)
  have b10:9<w.heap.size:=lt_of_cell e10
  have e11:w.cell? ⟨10,0,none⟩=some (.iface 228 (.pointer (some (E 11)))):=hE 11 (by decide)
  have b11:10<w.heap.size:=lt_of_cell e11
  have e12:w.cell? ⟨11,0,none⟩=some (.iface 228 (.pointer (some (E 12)))):=hE 12 (by decide)
  have b12:11<w.heap.size:=lt_of_cell e12
  have HE:=Lib.hid hE
  have HA:=Lib.hid hA
  have HG:=Lib.hid hg
  clear hE hA hg
  go_enter Tryz.func29,Tryz.ntmps29
  go_wp2_with (go_at_call 60;refine (as_miss _ _ _ (by exact HG.out.ex (by repeat (first|exact Ex.refl _|refine Ex.alloc ?_ _|refine Ex.ext ?_ _ _|refine Ex.drew ?_|refine Ex.drewN ?_ _)))).mono ?_;rintro e w1 ⟨rfl,l1,d1,rfl⟩)
  clear e1 e2 e3 e4 e5 e6 e7 e8 e9 e10 e11 e12
  go_loop [3,30] (fun a i=>∃ k:Nat,k<c∧i=.int .i64 k∧a=.int .i64 (-1)) (fun _ i=>c - (intOf i).toNat)
  case atStart=>exact ⟨0,by omega,rfl,rfl⟩
  case round =>
    obtain ⟨k,hk,rfl,rfl⟩:=hrel
    have hrow:=errsRow_at E k (by omega)
    simp only [errsRow] at hrow
    have h12:decide ((k:Int)<12)=true:=by simp;omega
    by_cases hck:c=k+1
    · have HCK:=Lib.hid hck
      have hq:(c==k+1)=true:=by simp [hck]
      clear hck
      go_wp2_with (go_at_call 61;refine (is_err E c (k+1) _ (by exact HA.out.ex (by repeat (first|exact Ex.refl _|refine Ex.alloc ?_ _|refine Ex.ext ?_ _ _|refine Ex.drew ?_|refine Ex.drewN ?_ _))) (mem_allE h1 h2) (mem_allE (by omega) (by omega))).mono ?_;rintro e w1 ⟨rfl,rfl⟩)
      go_ret2
      exact ⟨by rw [HCK.out];rfl,(by repeat (first|exact Ex.refl _|refine Ex.alloc ?_ _|refine Ex.ext ?_ _ _|refine Ex.drew ?_|refine Ex.drewN ?_ _))⟩
    · have hq:(c==k+1)=false:=by simp [hck]
      have hlt:k+1<c:=by omega
      go_wp2_with (go_at_call 61;refine (is_err E c (k+1) _ (by exact HA.out.ex (by repeat (first|exact Ex.refl _|refine Ex.alloc ?_ _|refine Ex.ext ?_ _ _|refine Ex.drew ?_|refine Ex.drewN ?_ _))) (mem_allE h1 h2) (mem_allE (by omega) (by omega))).mono ?_;rintro e w1 ⟨rfl,rfl⟩)
      go_round
      case rel=>exact ⟨k+1,by omega,by go_num,rfl⟩
      case measure=>simp [intOf];omega
end Go.Proofs.YtmbboflakfokhaaGreatDoor

/- What the statements' coded computes (chapters 6 to 10). -/
set_option linter.unusedSimpArgs false
set_option linter.unusedVariables false
namespace Go.Proofs.YtmbboflakfokhaaGreatDoor
open Go.RowKit
set_option maxHeartbeats 1000000 in
theorem coded_nil (n:Int) (w:World):Calls Tryz.prog 7 #[.nilIface,.int .i64 n] w fun e w'=>e=.returned (.bool ((0:Int)==n))∧Ex w w':=by
  by_cases h:((0:Int)==n)=true
  · rw [h]
    go_enter Tryz.func7,Tryz.ntmps7
    go_wp2_with (go_at_call 29;refine (code_nil _).mono ?_;rintro e w1 ⟨rfl,rfl⟩)
    all_goals go_ret
    all_goals exact ⟨rfl,(by repeat (first|exact Ex.refl _|refine Ex.alloc ?_ _|refine Ex.ext ?_ _ _|refine Ex.drew ?_|refine Ex.drewN ?_ _))⟩
  · have h:((0:Int)==n)=false:=by simpa using h
    rw [h]
    go_enter Tryz.func7,Tryz.ntmps7
    go_wp2_with (go_at_call 29;refine (code_nil _).mono ?_;rintro e w1 ⟨rfl,rfl⟩)
    all_goals go_ret
    all_goals exact ⟨rfl,(by repeat (first|exact Ex.refl _|refine Ex.alloc ?_ _|refine Ex.ext ?_ _ _|refine Ex.drew ?_|refine Ex.drewN ?_ _))⟩
set_option maxHeartbeats 1000000 in
theorem coded_err (c:Nat) (n:Int) (E:Nat→Addr) (w:World) (hr:CodeReady E w) (h1:1≤c) (h2:c≤12) :
    Calls Tryz.prog 7 #[.iface 228 (.pointer (some (E c))),.int .i64 n] w fun e w'=>e=.returned (.bool ((c:Int)==n))∧Ex w w':=by
  have H:=Lib.hid (code_err c E w hr h1 h2)
  clear hr
  by_cases h:((c:Int)==n)=true
  · rw [h]
    go_enter Tryz.func7,Tryz.ntmps7
    go_wp2_with (go_at_call 29;refine H.out.mono ?_;rintro e w1 ⟨rfl,l1,d1,rfl⟩)
    all_goals go_ret
    all_goals exact ⟨rfl,(by repeat (first|exact Ex.refl _|refine Ex.alloc ?_ _|refine Ex.ext ?_ _ _|refine Ex.drew ?_|refine Ex.drewN ?_ _))⟩
  · have h:((c:Int)==n)=false:=by simpa using h
    rw [h]
    go_enter Tryz.func7,Tryz.ntmps7
    go_wp2_with (go_at_call 29;refine H.out.mono ?_;rintro e w1 ⟨rfl,l1,d1,rfl⟩)
    all_goals go_ret
    all_goals exact ⟨rfl,(by repeat (first|exact Ex.refl _|refine Ex.alloc ?_ _|refine Ex.ext ?_ _ _|refine Ex.drew ?_|refine Ex.drewN ?_ _))⟩
end Go.Proofs.YtmbboflakfokhaaGreatDoor

/- What band's Next computes at what is not right, and the document's answer on bands. -/
set_option linter.unusedSimpArgs false
set_option linter.unusedVariables false
namespace Go.Proofs.YtmbboflakfokhaaGreatDoor
open Go.RowKit
theorem bandCheck_bad (r l:Int) (w:World) (t:TypeId) (x:Value) (hE:w.cell? ⟨0,0,none⟩=some (.iface t x)) (ho:r<1∨1000<r∨l<0∨1000<l) :
    Calls Tryz.prog 77 #[.agg #[.int .i64 r,.int .i64 l]] w fun e w'=>e=.returned (.iface t x)∧Ex w w':=by
  have hb:0<w.heap.size:=World.block_lt_of_cell? _ _ hE
  go_enter Tryz.func77,Tryz.ntmps77
  go_wp2
  all_goals (first|go_ret|(exfalso;omega))
  all_goals exact ⟨rfl,Ex.of ((Below.refl _ _).alloc (Nat.le_refl _) _)⟩
theorem bandError_ok (r l wi h:Int) (w:World) (a1:1≤r) (a2:r≤1000) (a3:0≤l) (a4:l≤1000) (b1:0≤wi) (b2:wi≤100) (b3:1≤h) (b4:h≤1000) :
    Calls Tryz.prog 28 #[.agg #[.int .i64 r,.int .i64 l],.int .i64 wi,.int .i64 h] w fun e w'=>e=.returned (.int .i64 0)∧Ex w w':=by
  go_enter Tryz.func28,Tryz.ntmps28
  go_wp2
  all_goals (first|go_ret|(exfalso;omega))
  all_goals exact ⟨rfl,(by repeat (first|exact Ex.refl _|refine Ex.alloc ?_ _|refine Ex.ext ?_ _ _|refine Ex.drew ?_|refine Ex.drewN ?_ _))⟩
theorem bandError_bad (r l wi h:Int) (w:World) (ho:r<1∨1000<r∨l<0∨1000<l∨wi<0∨100<wi∨h<1∨1000<h) :
    Calls Tryz.prog 28 #[.agg #[.int .i64 r,.int .i64 l],.int .i64 wi,.int .i64 h] w fun e w'=>e=.returned (.int .i64 2)∧Ex w w':=by
  go_enter Tryz.func28,Tryz.ntmps28
  go_wp2
  all_goals (first|go_ret|(exfalso;omega))
  all_goals exact ⟨rfl,(by repeat (first|exact Ex.refl _|refine Ex.alloc ?_ _|refine Ex.ext ?_ _ _|refine Ex.drew ?_|refine Ex.drewN ?_ _))⟩
theorem isWithin_any (wi ref p:Int) (w:World) (h1:0≤wi) (h2:wi≤100) (h3:1≤ref) (h4:ref≤1000) (h5:1≤p) (h6:p≤1000) :
    Calls Tryz.prog 87 #[.int .i64 wi,.int .i64 ref,.int .i64 p] w fun e w'=>e=.returned (.bool (within wi ref p))∧Ex w w':=by
  obtain ⟨b1,b2⟩:=prod_bd ref wi h1 h2 h3 h4
  by_cases hp:p - ref<0
  · go_enter Tryz.func87,Tryz.ntmps87
    go_wp2
    all_goals go_ret
    all_goals refine ⟨ret_bool ?_,(by repeat (first|exact Ex.refl _|refine Ex.alloc ?_ _|refine Ex.ext ?_ _ _|refine Ex.drew ?_|refine Ex.drewN ?_ _))⟩
    all_goals (unfold within;rw [if_pos (by omega)];congr 1;rw [show ref - p=-(p - ref) by omega])
  · go_enter Tryz.func87,Tryz.ntmps87
    go_wp2
    all_goals go_ret
    all_goals refine ⟨ret_bool ?_,(by repeat (first|exact Ex.refl _|refine Ex.alloc ?_ _|refine Ex.ext ?_ _ _|refine Ex.drew ?_|refine Ex.drewN ?_ _))⟩
    all_goals (unfold within;rw [if_neg (by omega)])
set_option maxHeartbeats 1000000 in
theorem nextBand_any (ref left wi halt p v:Int) (w:World) (h1:0≤wi) (h2:wi≤100) (h5:1≤ref) (h6:ref≤1000) (h7:0≤left) (h8:left≤1000) (h9:0≤v) (h10:0<v→1≤p∧p≤1000) :
    Calls Tryz.prog 52 #[.agg #[.int .i64 ref,.int .i64 left],.int .i64 wi,.int .i64 halt,.int .i64 p,.int .i64 v] w fun e w' =>
      e=.returned (.tuple #[.agg #[.int .i64 (bnext ref left wi halt p v).1,.int .i64 (bnext ref left wi halt p v).2.1],.bool (bnext ref left wi halt p v).2.2])∧Ex w w':=by
  by_cases hv:0<v
  · obtain ⟨p1,p2⟩:=h10 hv
    have hq:(v==0)=false:=by simp;omega
    clear h10
    go_enter Tryz.func52,Tryz.ntmps52
    go_wp2_with (go_at_call 87;((with_reducible refine (isWithin_any _ _ _ _ ?_ ?_ ?_ ?_ ?_ ?_).mono ?_);(iterate 6 (focus omega)));rintro e w3 ⟨rfl,l3,d3,rfl⟩)
    all_goals (try simp only [Exit.inBlock,Exit.then])
    all_goals (refine bodyPost_ret (v:=.tuple #[.agg #[.int .i64 (bnext ref left wi halt p v).1,.int .i64 (bnext ref left wi halt p v).2.1],.bool (bnext ref left wi halt p v).2.2]) ?_ rfl ⟨rfl,?_⟩)
    all_goals first
      | (simp [results,Tryz.results52,go_sem]
         unfold bnext
         repeat' split
         all_goals first|(exfalso;omega)|(simp_all;done)|(simp;omega)|(simp_all;omega))
      | (repeat (first|exact Ex.refl _|refine Ex.alloc ?_ _|refine Ex.ext ?_ _ _|refine Ex.drew ?_))
  · obtain rfl:v=0:=by omega
    clear h10
    go_enter Tryz.func52,Tryz.ntmps52
    go_wp2_with (go_at_call 87;((with_reducible refine (isWithin_any _ _ _ _ ?_ ?_ ?_ ?_ ?_ ?_).mono ?_);(iterate 6 (focus omega)));rintro e w3 ⟨rfl,l3,d3,rfl⟩)
    all_goals (try simp only [Exit.inBlock,Exit.then])
    all_goals (refine bodyPost_ret (v:=.tuple #[.agg #[.int .i64 (bnext ref left wi halt p 0).1,.int .i64 (bnext ref left wi halt p 0).2.1],.bool (bnext ref left wi halt p 0).2.2]) ?_ rfl ⟨rfl,?_⟩)
    all_goals first
      | (simp [results,Tryz.results52,go_sem]
         unfold bnext
         repeat' split
         all_goals first|(exfalso;omega)|(simp_all;done)|(simp;omega)|(simp_all;omega))
      | (repeat (first|exact Ex.refl _|refine Ex.alloc ?_ _|refine Ex.ext ?_ _ _|refine Ex.drew ?_))
end Go.Proofs.YtmbboflakfokhaaGreatDoor
