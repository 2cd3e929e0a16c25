import Derived.Test.YtmbboflakfokhaaGreatDoorJ12
/- What the document's LotsFault, DemandOf, SupplyOf, VolumeOf and BestOf compute. -/
set_option linter.unusedSimpArgs false
set_option linter.unusedVariables false
namespace Go.Proofs.YtmbboflakfokhaaGreatDoor
open Go.RowKit
set_option maxRecDepth 100000 in
set_option maxHeartbeats 1000000 in
theorem demandOf_any (ao:Option Addr) (len cap:Nat) (l:List Lot) (p:Int) (w:World) (hl:LotsAt w ao len l) (hok:LotsOk l) :
    Calls Tryz.prog 84 #[.slice ao len cap,.int .i64 p] w fun e w'=>e=.returned (.int .i64 (sumOf (isDem p) l))∧w=w':=by
  have HLA:=Lib.hid hl
  have HOK:=Lib.hid hok
  have HLEN:=Lib.hid hl.1
  have hmx:=hl.2.1
  clear hl hok
  go_enter Tryz.func84,Tryz.ntmps84
  go_wp2_with fail
  go_loop [5,6] (fun n i=>∃ (k:Nat),k≤len∧i=.int .i64 k∧n=.int .i64 (sumOf (isDem p) (l.take k))) (fun _ i=>len - (intOf i).toNat)
  case atStart=>exact ⟨0,Nat.zero_le _,rfl,(by simp [sumOf])⟩
  case round =>
    obtain ⟨k,hk,rfl,rfl⟩:=hrel
    by_cases hlt:k<len
    · have hkl:k<l.length:=by rw [HLEN.out];omega
      obtain ⟨b,off,rfl,hbs,hz⟩:=HLA.out.2.2.2 (by omega)
      have hzk:=hz k hkl
      have ha0:l[k]?=some (l[k]'hkl):=List.getElem?_eq_getElem hkl
      clear hz
      generalize l[k]'hkl=a at hzk ha0
      have a0:=hzk 0 (by omega)
      have a1:=hzk 1 (by omega)
      have a2:=hzk 2 (by omega)
      have a3:=hzk 3 (by omega)
      have a4:=hzk 4 (by omega)
      simp only [Lot.cells,List.getElem?_cons_zero,List.getElem?_cons_succ,Nat.add_zero] at a0 a1 a2 a3 a4
      clear hzk
      have hstep:=sumOf_step (isDem p) ha0
      obtain ⟨hb0,hb1⟩:=HOK.out.sum_bounds (isDem p) k
      obtain ⟨hq0,hq1⟩:=HOK.out.qty ha0
      have HS:=Lib.hid hstep
      clear hstep ha0
      generalize sumOf (isDem p) (l.take k)=n at *
      cases h1:(a.side==0)
      · have htk:isDem p a=false:=by simp only [isDem, *,Bool.false_and,Bool.true_and,Bool.and_true,Bool.and_false]<;>(first|done|rfl|(simp;done)|(simp;omega))
        have HTK:=Lib.hid htk
        clear htk
        go_wp2
        all_goals
          go_round
          case measure=>simp [intOf];omega
          case rel=>exact ⟨k+1,by omega,by go_num,by rw [HS.out,HTK.out];first|rfl|(simp;done)⟩
      by_cases h2:a.price ≥ p
      · have htk:isDem p a=true:=by simp only [isDem, *,Bool.false_and,Bool.true_and,Bool.and_true,Bool.and_false]<;>(first|done|rfl|(simp;done)|(simp;omega))
        have HTK:=Lib.hid htk
        clear htk
        go_wp2
        all_goals
          go_round
          case measure=>simp [intOf];omega
          case rel=>exact ⟨k+1,by omega,by go_num,by rw [HS.out,HTK.out];first|rfl|(simp;done)⟩
      · have htk:isDem p a=false:=by simp only [isDem, *,Bool.false_and,Bool.true_and,Bool.and_true,Bool.and_false]<;>(first|done|rfl|(simp;done)|(simp;omega))
        have HTK:=Lib.hid htk
        clear htk
        go_wp2
        all_goals
          go_round
          case measure=>simp [intOf];omega
          case rel=>exact ⟨k+1,by omega,by go_num,by rw [HS.out,HTK.out];first|rfl|(simp;done)⟩
    · go_wp2
      go_ret
      exact ⟨ret_int (by rw [List.take_of_length_le (by have:=HLEN.out;omega)]),rfl⟩
set_option maxRecDepth 100000 in
set_option maxHeartbeats 1000000 in
theorem supplyOf_any (ao:Option Addr) (len cap:Nat) (l:List Lot) (p:Int) (w:World) (hl:LotsAt w ao len l) (hok:LotsOk l) :
    Calls Tryz.prog 85 #[.slice ao len cap,.int .i64 p] w fun e w'=>e=.returned (.int .i64 (sumOf (isSup p) l))∧w=w':=by
  have HLA:=Lib.hid hl
  have HOK:=Lib.hid hok
  have HLEN:=Lib.hid hl.1
  have hmx:=hl.2.1
  clear hl hok
  go_enter Tryz.func85,Tryz.ntmps85
  go_wp2_with fail
  go_loop [5,6] (fun n i=>∃ (k:Nat),k≤len∧i=.int .i64 k∧n=.int .i64 (sumOf (isSup p) (l.take k))) (fun _ i=>len - (intOf i).toNat)
  case atStart=>exact ⟨0,Nat.zero_le _,rfl,(by simp [sumOf])⟩
  case round =>
    obtain ⟨k,hk,rfl,rfl⟩:=hrel
    by_cases hlt:k<len
    · have hkl:k<l.length:=by rw [HLEN.out];omega
      obtain ⟨b,off,rfl,hbs,hz⟩:=HLA.out.2.2.2 (by omega)
      have hzk:=hz k hkl
      have ha0:l[k]?=some (l[k]'hkl):=List.getElem?_eq_getElem hkl
      clear hz
      generalize l[k]'hkl=a at hzk ha0
      have a0:=hzk 0 (by omega)
      have a1:=hzk 1 (by omega)
      have a2:=hzk 2 (by omega)
      have a3:=hzk 3 (by omega)
      have a4:=hzk 4 (by omega)
      simp only [Lot.cells,List.getElem?_cons_zero,List.getElem?_cons_succ,Nat.add_zero] at a0 a1 a2 a3 a4
      clear hzk
      have hstep:=sumOf_step (isSup p) ha0
      obtain ⟨hb0,hb1⟩:=HOK.out.sum_bounds (isSup p) k
      obtain ⟨hq0,hq1⟩:=HOK.out.qty ha0
      have HS:=Lib.hid hstep
      clear hstep ha0
      generalize sumOf (isSup p) (l.take k)=n at *
      cases h1:(a.side==1)
      · have htk:isSup p a=false:=by simp only [isSup, *,Bool.false_and,Bool.true_and,Bool.and_true,Bool.and_false]<;>(first|done|rfl|(simp;done)|(simp;omega))
        have HTK:=Lib.hid htk
        clear htk
        go_wp2
        all_goals
          go_round
          case measure=>simp [intOf];omega
          case rel=>exact ⟨k+1,by omega,by go_num,by rw [HS.out,HTK.out];first|rfl|(simp;done)⟩
      by_cases h2:a.price≤p
      · have htk:isSup p a=true:=by simp only [isSup, *,Bool.false_and,Bool.true_and,Bool.and_true,Bool.and_false]<;>(first|done|rfl|(simp;done)|(simp;omega))
        have HTK:=Lib.hid htk
        clear htk
        go_wp2
        all_goals
          go_round
          case measure=>simp [intOf];omega
          case rel=>exact ⟨k+1,by omega,by go_num,by rw [HS.out,HTK.out];first|rfl|(simp;done)⟩
      · have htk:isSup p a=false:=by simp only [isSup, *,Bool.false_and,Bool.true_and,Bool.and_true,Bool.and_false]<;>(first|done|rfl|(simp;done)|(simp;omega))
        have HTK:=Lib.hid htk
        clear htk
        go_wp2
        all_goals
          go_round
          case measure=>simp [intOf];omega
          case rel=>exact ⟨k+1,by omega,by go_num,by rw [HS.out,HTK.out];first|rfl|(simp;done)⟩
    · go_wp2
      go_ret
      exact ⟨ret_int (by rw [List.take_of_length_le (by have:=HLEN.out;omega)]),rfl⟩
end Go.Proofs.YtmbboflakfokhaaGreatDoor
