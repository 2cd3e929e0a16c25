import Derived.Test.YtabbgpjofkaomaaGreatDoorJ43
/- VenueKeeps: what the statement's code answers. -/
set_option linter.unusedSimpArgs false
set_option linter.unusedVariables false
namespace Go.Proofs.YtabbgpjofkaomaaGreatDoor
open Go.RowKit
section
variable {E:Nat→Addr} {w0 w:World} {vb dp:Nat} {fa:FlA} {v:VSt}
structure VRead (vb dp:Nat) (fa:FlA) (v:VSt) (wk:World):Prop where
  down:∀ W,Ex wk W→Calls Tryz.prog 30 #[.pointer (some ⟨vb,0,none⟩)] W fun e w'=>e=.returned (.bool v.down)∧Ex W w'
  floor:∀ W,Ex wk W→Calls Tryz.prog 21 #[.pointer (some ⟨vb,0,none⟩)] W fun e w'=>e=.returned (.pointer (some ⟨fa.f,0,none⟩))∧Ex W w'
  purse:∀ W,Ex wk W→Calls Tryz.prog 31 #[.pointer (some ⟨fa.f,0,none⟩)] W fun e w'=>e=.returned (.pointer (some ⟨fa.pp,0,none⟩))∧Ex W w'
  total:∀ W,Ex wk W→Calls Tryz.prog 32 #[.pointer (some ⟨fa.pp,0,none⟩)] W fun e w'=>e=.returned (.tuple #[.int .i64 (sumP v.f.p 0),.agg #[.int .i64 (sumP v.f.p 2),.int .i64 (sumP v.f.p 3),.int .i64 (sumP v.f.p 4)]])∧Ex W w'
  book:∀ W,Ex wk W→∀ k:Nat,k<3→Calls Tryz.prog 22 #[.pointer (some ⟨fa.f,0,none⟩),.int .i64 (k:Int)] W fun e w'=>e=.returned (.pointer (some ⟨fa.bp k,0,none⟩))∧Ex W w'
  lots:∀ W,Ex wk W→∀ k:Nat,k<3→Calls Tryz.prog 24 #[.pointer (some ⟨fa.bp k,0,none⟩)] W fun e w'=>(∃ ao cap,e=.returned (.slice ao (v.f.b k).length cap)∧LotsAt w' ao (v.f.b k).length (v.f.b k))∧Ex W w'
  of:∀ W,Ex wk W→∀ c:Nat,c<6→Calls Tryz.prog 33 #[.pointer (some ⟨fa.pp,0,none⟩),.int .i64 (c:Int)] W fun e w'=>e=.returned (hasV v.f.p c)∧Ex W w'
  sess:∀ W,Ex wk W→∀ c:Nat,c<6→Calls Tryz.prog 17 #[.pointer (some ⟨vb,0,none⟩),.int .i64 (c:Int)] W fun e w'=>e=.returned ((v.cl c).s.val)∧Ex W w'
  wait:∀ W,Ex wk W→∀ c:Nat,c<6→Calls Tryz.prog 26 #[.pointer (some ⟨vb,0,none⟩),.int .i64 (c:Int)] W fun e w'=>e=.returned (.int .i64 ((v.q c).length:Nat))∧Ex W w'
theorem LX.reads (M1:List Th) {M2:List Th} {wk:World} (X:LX E w0 (M1++(vTh vb fa dp v::M2)) wk):VRead vb dp fa v wk:=by
  have key:∀ W,Ex wk W→∃ G,(vTh vb fa dp v).P G W:=fun W hx=>(X.later hx).look M1
  refine ⟨fun W hx=>?_,fun W hx=>?_,fun W hx=>?_,fun W hx=>?_,fun W hx k hk=>?_,fun W hx k hk=>?_,fun W hx c hc=>?_,fun W hx c hc=>?_,fun W hx c hc=>?_⟩<;>obtain ⟨G,h⟩:=key W hx
  · exact vdown_any h
  · exact vfloor_any h
  · obtain ⟨own,hf⟩:=vTh.floor h
    exact fpurse_any hf
  · obtain ⟨own,hf⟩:=vTh.floor h
    exact ptotal_any hf.purse
  · obtain ⟨own,hf⟩:=vTh.floor h
    exact fbook_in hf k hk
  · exact vbook_lots h hk
  · obtain ⟨own,hf⟩:=vTh.floor h
    exact of_in hf.purse c hc
  · exact vsession_in h c hc
  · exact vwait_in h c hc
theorem VRead.ex {wk wk':World} (h:VRead vb dp fa v wk) (hx:Ex wk wk'):VRead vb dp fa v wk' :=
  ⟨fun W h2=>h.down W (hx.trans h2),fun W h2=>h.floor W (hx.trans h2),fun W h2=>h.purse W (hx.trans h2),fun W h2=>h.total W (hx.trans h2),fun W h2=>h.book W (hx.trans h2),fun W h2=>h.lots W (hx.trans h2),fun W h2=>h.of W (hx.trans h2),fun W h2=>h.sess W (hx.trans h2),fun W h2=>h.wait W (hx.trans h2)⟩
set_option maxRecDepth 100000 in
set_option maxHeartbeats 8000000 in
theorem vkeeps_in (hr:CodeReady E w) (ht:Tab w) (ao:Option Addr) (len cap:Nat) (l:List Step) (L:List SV) (hl:StepsAt w ao len l) (hL:SVs w l L) :
    Calls Tryz.prog 5 #[.slice ao len cap] w fun e w'=>e=.returned (.bool true)∧Ex w w':=by
  have HO:=Lib.hid (opened_any E w hr ht)
  have HLS:=Lib.hid (fun W (hx:Ex w W)=>longSteps_any ao len cap l 40 W (stepsAt_later hl hx) (by decide))
  have HL:=Lib.hid hl
  have HSV:=Lib.hid hL
  have HN:=Lib.hid (fun W (hx:Ex w W)=>((LX.start hr ht).later hx).new smallC smallC_ok)
  have hfc:=fieldCash
  have hfs:=fieldStock
  have hfo:=fieldSess0
  have hnt:=neTri0
  clear hl hL hr ht
  go_enter Tryz.func5,Tryz.ntmps5
  go_upto_region 4 with (first
    | (go_at_call 7;refine HO.out.mono ?_;rintro e w1 ⟨rfl,l1,d1,rfl⟩)
    | (go_at_call 8;refine (HLS.out _ (by repeat (first|exact Ex.refl _|refine Ex.alloc ?_ _|refine Ex.ext ?_ _ _|refine Ex.drew ?_|refine Ex.drewN ?_ _))).mono ?_;rintro e w2 ⟨⟨b,rfl,hb⟩,l2,d2,rfl⟩;cases b))
  all_goals clear HO HLS
  · obtain ⟨hlen,hlong⟩:=hb (by first|trivial|rfl)
    have HSH:=Lib.hid (HSV.out.short hlong)
    have hll:=HL.out.1
    have hLl:=HSV.out.len
    clear hb hlong
    go_upto_region 5 with (first
      | (go_at_call 11;refine (small_any _).mono ?_;rintro e w3 ⟨rfl,l3,d3,rfl⟩)
      | (go_at_call 10;refine (asConfig_any _ _ _ _ _ _ _).mono ?_;rintro e w4 ⟨rfl,l4,d4,rfl⟩)
      | (go_at_call 9;refine (HN.out _ (by repeat (first|exact Ex.refl _|refine Ex.alloc ?_ _|refine Ex.ext ?_ _ _|refine Ex.drew ?_|refine Ex.drewN ?_ _))).mono ?_;rintro e w5 ⟨vb,dp,fa,rfl,hX5⟩;have HX5:=Lib.hid hX5;clear hX5))
    clear HN
    have HW:=Lib.hid (fun W (hx:Ex w5 W)=>walk_any (HX5.out.later hx) newV_inv (Nat.zero_le _) ao len cap l L HL.out HSV.out HSH.out (by omega))
    have HF:=Lib.hid (walk_facts L (p:=([],newV smallC)) newV_inv)
    have HF2:Hid (VInv (walkR L (newV smallC)).2∧(walkR L (newV smallC)).2.now≤0+8*L.length):=Lib.hid ⟨HF.out.1,HF.out.2.1⟩
    clear HF HL HSV HSH HX5
    generalize walkR L (newV smallC)=p at *
    obtain ⟨P,v1⟩:=p
    go_upto_region 8 with (go_at_call 12;refine (HW.out _ (by repeat (first|exact Ex.refl _|refine Ex.alloc ?_ _|refine Ex.ext ?_ _ _|refine Ex.drew ?_|refine Ex.drewN ?_ _))).mono ?_;rintro e w6 ⟨u,rfl,hX6⟩;have HX6:=Lib.hid (LX.less [] hX6);clear hX6)
    clear HW
    have HR6:=Lib.hid (HX6.out.reads [])
    obtain ⟨hv1,hn1⟩:=HF2.out
    try simp only at hv1 hn1
    have HV1:=Lib.hid hv1
    clear HF2 hv1
    have HD6:Hid (∀ W,Ex w6 W→Calls Tryz.prog 30 #[.pointer (some ⟨vb,0,none⟩)] W fun e w'=>e=.returned (.bool v1.down)∧Ex W w'):=Lib.hid HR6.out.down
    clear HR6
    have hx6:=Lib.hid HX6.out.ex
    generalize v1.down=dn at *
    go_wp2_with (go_at_call 30;refine (HD6.out _ (by repeat (first|exact Ex.refl _|refine Ex.alloc ?_ _|refine Ex.ext ?_ _ _|refine Ex.drew ?_|refine Ex.drewN ?_ _))).mono ?_;rintro e w7 ⟨rfl,l7,d7,rfl⟩;cases dn)
    all_goals clear HD6
    · skip
      go_loopw [6] (fun i wr=>∃ k:Nat,k≤16∧i=.int .i64 (k:Int)∧LX E w [vTh vb fa dp (ticksV k v1)] wr) (fun i _=>16 - (intOf i).toNat)
      case atStart=>exact ⟨0,Nat.zero_le _,rfl,HX6.out.later (by repeat (first|exact Ex.refl _|refine Ex.alloc ?_ _|refine Ex.ext ?_ _ _|refine Ex.drew ?_|refine Ex.drewN ?_ _))⟩
      case round =>
        obtain ⟨k,hk,rfl,hX⟩:=hrel
        clear HX6 hx6
        have hnow:=ticksV_now v1 k
        by_cases hlt:k<16
        · have HTK:=Lib.hid (fun W' (hx:Ex wr W')=>(hX.later hx).tick [] (HV1.out.ticks k).ok (by omega))
          have HS1:Hid (ticksV (k+1) v1=(tickR (ticksV k v1)).2):=Lib.hid rfl
          clear hX
          generalize tickR (ticksV k v1)=r at *
          obtain ⟨R,rv⟩:=r
          simp only at HTK HS1
          go_wp2_with (go_at_call 16;refine (HTK.out _ (by repeat (first|exact Ex.refl _|refine Ex.alloc ?_ _|refine Ex.ext ?_ _ _|refine Ex.drew ?_|refine Ex.drewN ?_ _))).mono ?_;rintro e w8 ⟨ur,rfl,hX8⟩;have HX8:=Lib.hid (LX.less [_] hX8);clear hX8)
          go_roundw
          case measure=>simp [intOf];omega
          case rel=>exact ⟨k+1,by omega,by go_num,by rw [HS1.out];exact HX8.out.later (by repeat (first|exact Ex.refl _|refine Ex.alloc ?_ _|refine Ex.ext ?_ _ _|refine Ex.drew ?_|refine Ex.drewN ?_ _))⟩
        · obtain rfl:k=16:=by omega
          have HR:=Lib.hid (hX.reads [])
          have HSI:=Lib.hid (silent HV1.out)
          have hx8:=Lib.hid hX.ex
          clear hX HV1 hnow
          generalize ticksV 16 v1=v at *
          have HD:Hid (∀ W,Ex wr W→Calls Tryz.prog 30 #[.pointer (some ⟨vb,0,none⟩)] W fun e w'=>e=.returned (.bool v.down)∧Ex W w'):=Lib.hid HR.out.down
          generalize hdn:v.down=dn at *
          have HDN:=Lib.hid hdn
          clear hdn
          go_upto_region 16 with (go_at_call 30;refine (HD.out _ (by repeat (first|exact Ex.refl _|refine Ex.alloc ?_ _|refine Ex.ext ?_ _ _|refine Ex.drew ?_|refine Ex.drewN ?_ _))).mono ?_;rintro e w9 ⟨rfl,l9,d9,rfl⟩;cases dn)
          all_goals clear HD
          · skip
            have hS:=HSI.out (by first|trivial|exact HDN.out)
            obtain ⟨t0,t1⟩:=hS.inv.tot
            have q2:sumP v.f.p 2=600:=t1 0 (by decide)
            have q3:sumP v.f.p 3=600:=t1 1 (by decide)
            have q4:sumP v.f.p 4=600:=t1 2 (by decide)
            have HTO:=Lib.hid HR.out.total
            rw [t0,q2,q3,q4] at HTO
            have HS:=Lib.hid hS
            clear hS t0 t1 q2 q3 q4 HSI HDN
            have HFL:=Lib.hid HR.out.floor
            have HPU:=Lib.hid HR.out.purse
            go_upto_region 17 with (first
              | (go_at_call 21;refine (HFL.out _ (by repeat (first|exact Ex.refl _|refine Ex.alloc ?_ _|refine Ex.ext ?_ _ _|refine Ex.drew ?_|refine Ex.drewN ?_ _))).mono ?_;rintro e w10 ⟨rfl,l10,d10,rfl⟩)
              | (go_at_call 31;refine (HPU.out _ (by repeat (first|exact Ex.refl _|refine Ex.alloc ?_ _|refine Ex.ext ?_ _ _|refine Ex.drew ?_|refine Ex.drewN ?_ _))).mono ?_;rintro e w11 ⟨rfl,l11,d11,rfl⟩)
              | (go_at_call 32;refine (HTO.out _ (by repeat (first|exact Ex.refl _|refine Ex.alloc ?_ _|refine Ex.ext ?_ _ _|refine Ex.drew ?_|refine Ex.drewN ?_ _))).mono ?_;rintro e w12 ⟨rfl,l12,d12,rfl⟩))
            have hTri:TriAt ((ext wr (l9++(l10++(l11++l12))) d12).alloc (.cells #[.int .i64 600,.int .i64 600,.int .i64 600] 77)) (ext wr (l9++(l10++(l11++l12))) d12).heap.size 600 600 600:=heap_alloc_new _ _
            have hxk:Ex wr ((ext wr (l9++(l10++(l11++l12))) d12).alloc (.cells #[.int .i64 600,.int .i64 600,.int .i64 600] 77)):=(by repeat (first|exact Ex.refl _|refine Ex.alloc ?_ _|refine Ex.ext ?_ _ _|refine Ex.drew ?_|refine Ex.drewN ?_ _))
            have hsz:(ext wr (l9++(l10++(l11++l12))) d12).heap.size=wr.heap.size+(l9.length+(l10.length+(l11.length+l12.length))):=by simp [ext]
            rw [hsz] at hTri
            clear hsz
            generalize (ext wr (l9++(l10++(l11++l12))) d12).alloc (.cells #[.int .i64 600,.int .i64 600,.int .i64 600] 77)=wk at *
            generalize wr.heap.size+(l9.length+(l10.length+(l11.length+l12.length)))=tb at *
            have HR2:Hid (VRead vb dp fa v wk):=Lib.hid (HR.out.ex hxk)
            have hx9:=Lib.hid (hx8.out.trans hxk)
            clear hxk hx8 HR HTO HFL HPU
            have HFL:=Lib.hid HR2.out.floor
            have HPU:=Lib.hid HR2.out.purse
            have HBK:=Lib.hid HR2.out.book
            have HLO:=Lib.hid HR2.out.lots
            have HOF:=Lib.hid HR2.out.of
            have HSE:=Lib.hid HR2.out.sess
            have HWA:=Lib.hid HR2.out.wait
            clear HR2
            go_wp2_with (go_at_call 11;refine (small_any _).mono ?_;rintro e w13 ⟨rfl,l13,d13,rfl⟩)
            go_loopw [9] (fun i wj=>∃ k:Nat,k≤3∧i=.int .i64 (k:Int)∧Ex wk wj) (fun i _=>3 - (intOf i).toNat)
            case atStart=>exact ⟨0,Nat.zero_le _,rfl,(by repeat (first|exact Ex.refl _|refine Ex.alloc ?_ _|refine Ex.ext ?_ _ _|refine Ex.drew ?_|refine Ex.drewN ?_ _))⟩
            case round =>
              obtain ⟨k,hk,rfl,hxj⟩:=hrel
              have hT2:=hTri.ex hxj
              have HXJ:=Lib.hid hxj
              clear hxj
              by_cases hlt:k<3
              · have HL0:Hid (∀ W,Ex wk W→Calls Tryz.prog 24 #[.pointer (some ⟨fa.bp k,0,none⟩)] W fun e w'=>(∃ ao cap,e=.returned (.slice ao 0 cap)∧LotsAt w' ao 0 [])∧Ex W w'):=Lib.hid (by
                  have h:=fun W hx=>HLO.out W hx k hlt
                  rw [HS.out.books k hlt] at h
                  exact h)
                have HB0:=Lib.hid (fun W hx=>HBK.out W hx k hlt)
                have c0:=hT2.cell0
                have c1:=hT2.cell1
                have c2:=hT2.cell2
                have htb:=hT2.lt
                have ck:wr.cell? ⟨tb,k,none⟩=some (.int .i64 600):=by
                  have h3:k=0∨k=1∨k=2:=by omega
                  rcases h3 with rfl|rfl|rfl<;>assumption
                clear HBK HLO HOF HSE HWA HPU c0 c1 c2 hT2
                obtain ⟨f0,s,hf0,hs,hfs5,ck2⟩:∃ f0 s:Int,(0≤f0∧f0≤1000)∧s=6*f0∧(∀ w,(Instr.field 37 (.agg #[.int .u32 5,.int .i64 10,.int .i64 2,.int .i64 100,.int .i64 20000,.int .i64 100]) 5).run Tryz.prog w=.ok (.int .i64 f0) w)∧wr.cell? ⟨tb,k,none⟩=some (.int .i64 s):=⟨100,600,by decide,by decide,fun w=>hfs _ _ _ _ _ _ w,ck⟩
                obtain ⟨f1,f2⟩:=hf0
                have hwr:IntKind.i64.wrap (6*f0)=s:=by rw [IntWalk.i64_in _ (by omega)];exact hs.symm
                have hne:(s != s)=false:=by simp
                have hne2:(!(s==s))=false:=by simp
                clear hs
                clear hfs hnt hfo hfc HS ck
                go_upto_region 22 with fail
                go_region_held3 (fun W'=>W'.cell? ⟨tb,k,none⟩=some (.int .i64 s))
                  (first|(with_reducible exact ck2)|(simp [go_sem,↓IntWalk.iteOmega,ck2];done))
                  (first
                    | (go_at_call 11;refine (small_any _).mono ?_;rintro e w14 ⟨rfl,l14,d14,rfl⟩)
                    | (go_at_call 21;(refine (HFL.out _ ?_).mono ?_);(focus (refine HXJ.out.trans ?_;(focus ((repeat (first|(with_reducible exact Ex.refl _)|(with_reducible refine Ex.alloc ?_ _)|(with_reducible refine Ex.ext ?_ _ _)|(with_reducible refine Ex.drew ?_)|(with_reducible refine Ex.drewN ?_ _)));done))));rintro e w15 ⟨rfl,l15,d15,rfl⟩)
                    | (go_at_call 22;(refine (HB0.out _ ?_).mono ?_);(focus (refine HXJ.out.trans ?_;(focus ((repeat (first|(with_reducible exact Ex.refl _)|(with_reducible refine Ex.alloc ?_ _)|(with_reducible refine Ex.ext ?_ _ _)|(with_reducible refine Ex.drew ?_)|(with_reducible refine Ex.drewN ?_ _)));done))));rintro e w16 ⟨rfl,l16,d16,rfl⟩)
                    | (go_at_call 24;(refine (HL0.out _ ?_).mono ?_);(focus (refine HXJ.out.trans ?_;(focus ((repeat (first|(with_reducible exact Ex.refl _)|(with_reducible refine Ex.alloc ?_ _)|(with_reducible refine Ex.ext ?_ _ _)|(with_reducible refine Ex.drew ?_)|(with_reducible refine Ex.drewN ?_ _)));done))));rintro e w17 ⟨⟨ao17,cap17,rfl,-⟩,l17,d17,rfl⟩))
                all_goals go_wp2_with fail
                all_goals
                  go_roundw
                  case measure=>simp [intOf];omega
                  case rel=>exact ⟨k+1,by omega,by go_num,HXJ.out.trans (by repeat (first|exact Ex.refl _|refine Ex.alloc ?_ _|refine Ex.ext ?_ _ _|refine Ex.drew ?_|refine Ex.drewN ?_ _))⟩
              · have hxj:=HXJ.out
                clear hT2 HBK HLO HXJ hfs
                go_wp2_with fail
                go_loopw [10] (fun i wj=>∃ c:Nat,c≤6∧i=.int .i64 (c:Int)∧Ex wk wj) (fun i _=>6 - (intOf i).toNat)
                case atStart=>exact ⟨0,Nat.zero_le _,rfl,hxj.trans (by repeat (first|exact Ex.refl _|refine Ex.alloc ?_ _|refine Ex.ext ?_ _ _|refine Ex.drew ?_|refine Ex.drewN ?_ _))⟩
                case round =>
                  obtain ⟨c,hc,rfl,hxc⟩:=hrel
                  have HXC:=Lib.hid hxc
                  clear hxc hxj hTri
                  by_cases hlc:c<6
                  · have HO0:=Lib.hid (fun W hx=>HOF.out W hx c hlc)
                    have HS0:=Lib.hid (fun W hx=>HSE.out W hx c hlc)
                    have HW0:=Lib.hid (fun W hx=>HWA.out W hx c hlc)
                    simp only [hasV,HS.out.held c hlc,HS.out.kept c hlc 0 (by decide),HS.out.kept c hlc 1 (by decide),HS.out.kept c hlc 2 (by decide)] at HO0
                    simp only [Sess.val,HS.out.off c hlc] at HS0
                    simp only [HS.out.que c hlc,List.length_nil] at HW0
                    clear HOF HSE HWA HS
                    generalize v.f.p c 0=p0 at *
                    generalize v.f.p c 2=p2 at *
                    generalize v.f.p c 3=p3 at *
                    generalize v.f.p c 4=p4 at *
                    generalize (v.cl c).s.next=s1 at *
                    generalize (v.cl c).s.last=s2 at *
                    go_upto_region 28 with (first
                      | (go_at_call 21;refine (HFL.out _ (HXC.out.trans (by repeat (first|exact Ex.refl _|refine Ex.alloc ?_ _|refine Ex.ext ?_ _ _|refine Ex.drew ?_|refine Ex.drewN ?_ _)))).mono ?_;rintro e w20 ⟨rfl,l20,d20,rfl⟩)
                      | (go_at_call 31;refine (HPU.out _ (HXC.out.trans (by repeat (first|exact Ex.refl _|refine Ex.alloc ?_ _|refine Ex.ext ?_ _ _|refine Ex.drew ?_|refine Ex.drewN ?_ _)))).mono ?_;rintro e w21 ⟨rfl,l21,d21,rfl⟩)
                      | (go_at_call 33;refine (HO0.out _ (HXC.out.trans (by repeat (first|exact Ex.refl _|refine Ex.alloc ?_ _|refine Ex.ext ?_ _ _|refine Ex.drew ?_|refine Ex.drewN ?_ _)))).mono ?_;rintro e w22 ⟨rfl,l22,d22,rfl⟩))
                    go_wp2_with (first
                      | (go_at_call 17;refine (HS0.out _ (HXC.out.trans (by repeat (first|exact Ex.refl _|refine Ex.alloc ?_ _|refine Ex.ext ?_ _ _|refine Ex.drew ?_|refine Ex.drewN ?_ _)))).mono ?_;rintro e w23 ⟨rfl,l23,d23,rfl⟩)
                      | (go_at_call 26;refine (HW0.out _ (HXC.out.trans (by repeat (first|exact Ex.refl _|refine Ex.alloc ?_ _|refine Ex.ext ?_ _ _|refine Ex.drew ?_|refine Ex.drewN ?_ _)))).mono ?_;rintro e w24 ⟨rfl,l24,d24,rfl⟩))
                    all_goals
                      go_roundw
                      case measure=>simp [intOf];omega
                      case rel=>exact ⟨c+1,by omega,by go_num,HXC.out.trans (by repeat (first|exact Ex.refl _|refine Ex.alloc ?_ _|refine Ex.ext ?_ _ _|refine Ex.drew ?_|refine Ex.drewN ?_ _))⟩
                  · go_wp2_with fail
                    all_goals go_ret
                    all_goals exact ⟨rfl,hx9.out.trans (HXC.out.trans (by repeat (first|exact Ex.refl _|refine Ex.alloc ?_ _|refine Ex.ext ?_ _ _|refine Ex.drew ?_|refine Ex.drewN ?_ _)))⟩
          · go_ret
            exact ⟨rfl,hx8.out.trans (by repeat (first|exact Ex.refl _|refine Ex.alloc ?_ _|refine Ex.ext ?_ _ _|refine Ex.drew ?_|refine Ex.drewN ?_ _))⟩
    · go_ret
      exact ⟨rfl,hx6.out.trans (by repeat (first|exact Ex.refl _|refine Ex.alloc ?_ _|refine Ex.ext ?_ _ _|refine Ex.drew ?_|refine Ex.drewN ?_ _))⟩
  · go_ret
    exact ⟨rfl,(by repeat (first|exact Ex.refl _|refine Ex.alloc ?_ _|refine Ex.ext ?_ _ _|refine Ex.drew ?_|refine Ex.drewN ?_ _))⟩
end
end Go.Proofs.YtabbgpjofkaomaaGreatDoor
