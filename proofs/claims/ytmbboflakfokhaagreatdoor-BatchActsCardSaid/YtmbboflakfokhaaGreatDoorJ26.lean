import Derived.Test.YtmbboflakfokhaaGreatDoorJ9
import Derived.Test.YtmbboflakfokhaaGreatDoorJ25
import Derived.Test.YtmbboflakfokhaaGreatDoorJ0
import Derived.Deep.AppendSrc
import Derived.Laws.AppendOwn
/- What the document's kindError and FloorError compute. -/
set_option linter.unusedSimpArgs false
set_option linter.unusedVariables false
namespace Go.Proofs.YtmbboflakfokhaaGreatDoor
open Go.RowKit
theorem mkind_any (a:Ask) (kind:Int) (w:World):Calls Tryz.prog 35 #[a.val,.int .u8 kind] w fun e w'=>e=.returned (.int .i64 (askedE a kind:Nat))∧Ex w w':=by
  have HC:=Lib.hid (fun w=>askError_any a w)
  by_cases he:a.err=0
  · have ha:askedE a kind=if a.kind==kind then 0 else 4:=if_pos he
    rw [ha]
    rw [he] at HC
    clear ha he
    cases hk:(a.kind==kind) with
    | true =>
      have hk2:(a.kind != kind)=false:=by simp [bne,hk]
      simp only [if_true]
      go_enter Tryz.func35,Tryz.ntmps35
      go_wp2_with (go_at_call 68;refine (HC.out _).mono ?_;rintro e w1 ⟨rfl,l1,d1,rfl⟩)
      all_goals go_ret
      all_goals exact ⟨rfl,(by repeat (first|exact Ex.refl _|refine Ex.alloc ?_ _|refine Ex.ext ?_ _ _|refine Ex.drew ?_|refine Ex.drewN ?_ _))⟩
    | false =>
      have hk2:(a.kind != kind)=true:=by simp [bne,hk]
      simp only [Bool.false_eq_true,if_false]
      go_enter Tryz.func35,Tryz.ntmps35
      go_wp2_with (go_at_call 68;refine (HC.out _).mono ?_;rintro e w1 ⟨rfl,l1,d1,rfl⟩)
      all_goals go_ret
      all_goals exact ⟨rfl,(by repeat (first|exact Ex.refl _|refine Ex.alloc ?_ _|refine Ex.ext ?_ _ _|refine Ex.drew ?_|refine Ex.drewN ?_ _))⟩
  · have ha:askedE a kind=a.err:=if_neg he
    rw [ha]
    have h1:((a.err:Int)==0)=false:=by simpa using he
    clear ha he
    generalize a.err=n at *
    go_enter Tryz.func35,Tryz.ntmps35
    go_wp2_with (go_at_call 68;refine (HC.out _).mono ?_;rintro e w1 ⟨rfl,l1,d1,rfl⟩)
    all_goals go_ret
    all_goals exact ⟨rfl,(by repeat (first|exact Ex.refl _|refine Ex.alloc ?_ _|refine Ex.ext ?_ _ _|refine Ex.drew ?_|refine Ex.drewN ?_ _))⟩
def floorBad (wd hl ref cash stock:Int):Prop:=wd<0∨100<wd∨hl<1∨1000<hl∨ref<1∨1000<ref∨cash<0∨1073741824<cash∨stock<0∨100000<stock
theorem mfloor_ok (wd hl ref cash stock:Int) (w:World) (h:¬ floorBad wd hl ref cash stock) :
    Calls Tryz.prog 6 #[.int .i64 wd,.int .i64 hl,.int .i64 ref,.int .i64 cash,.int .i64 stock] w fun e w'=>e=.returned (.int .i64 0)∧Ex w w':=by
  unfold floorBad at h
  have HB:=Lib.hid (fun w=>bandError_ok 1 0 wd hl w (by decide) (by decide) (by decide) (by decide) (by omega) (by omega) (by omega) (by omega))
  have b1:decide (ref<1)=false:=decide_eq_false (by omega)
  have b2:decide (1000<ref)=false:=decide_eq_false (by omega)
  have b3:decide (cash<0)=false:=decide_eq_false (by omega)
  have b4:decide (1073741824<cash)=false:=decide_eq_false (by omega)
  have b5:decide (stock<0)=false:=decide_eq_false (by omega)
  have b6:decide (100000<stock)=false:=decide_eq_false (by omega)
  clear h
  go_enter Tryz.func6,Tryz.ntmps6
  go_wp2_with (go_at_call 28;refine (HB.out _).mono ?_;rintro e w1 ⟨rfl,l1,d1,rfl⟩)
  all_goals go_ret
  all_goals exact ⟨rfl,(by repeat (first|exact Ex.refl _|refine Ex.alloc ?_ _|refine Ex.ext ?_ _ _|refine Ex.drew ?_|refine Ex.drewN ?_ _))⟩
theorem mfloor_bad (wd hl ref cash stock:Int) (w:World) (h:floorBad wd hl ref cash stock) :
    Calls Tryz.prog 6 #[.int .i64 wd,.int .i64 hl,.int .i64 ref,.int .i64 cash,.int .i64 stock] w fun e w'=>e=.returned (.int .i64 2)∧Ex w w':=by
  unfold floorBad at h
  by_cases hb:wd<0∨100<wd∨hl<1∨1000<hl
  · have HB:=Lib.hid (fun w=>bandError_bad 1 0 wd hl w (by omega))
    clear h hb
    go_enter Tryz.func6,Tryz.ntmps6
    go_wp2_with (go_at_call 28;refine (HB.out _).mono ?_;rintro e w1 ⟨rfl,l1,d1,rfl⟩)
    all_goals go_ret
    all_goals exact ⟨rfl,(by repeat (first|exact Ex.refl _|refine Ex.alloc ?_ _|refine Ex.ext ?_ _ _|refine Ex.drew ?_|refine Ex.drewN ?_ _))⟩
  · have HB:=Lib.hid (fun w=>bandError_ok 1 0 wd hl w (by decide) (by decide) (by decide) (by decide) (by omega) (by omega) (by omega) (by omega))
    have h2:ref<1∨1000<ref∨cash<0∨1073741824<cash∨stock<0∨100000<stock:=by omega
    clear h hb
    go_enter Tryz.func6,Tryz.ntmps6
    go_wp2_with (go_at_call 28;refine (HB.out _).mono ?_;rintro e w1 ⟨rfl,l1,d1,rfl⟩)
    all_goals (first|go_ret|(exfalso;omega))
    all_goals (first|exact ⟨rfl,(by repeat (first|exact Ex.refl _|refine Ex.alloc ?_ _|refine Ex.ext ?_ _ _|refine Ex.drew ?_|refine Ex.drewN ?_ _))⟩|(exfalso;omega))
end Go.Proofs.YtmbboflakfokhaaGreatDoor

/- Append to a row, told by what has turned. -/
set_option linter.unusedSimpArgs false
set_option linter.unusedVariables false
namespace Go.Proofs.YtmbboflakfokhaaGreatDoor
open Go.RowKit
theorem run_append_keepK {P:Program} (t tx ty e:TypeId) (i:TypeInfo) (z:Value) (size bytes:Nat) (ht:P.underlying t=some (.slice e)) (hi:P.info? e=some i) (hz:i.zero=some z)
    (hsize:i.size=size) (hby:i.bytes=bytes) (hzs:z.cells.size=size)
    {w:World} {v x:Value} {n m:Nat} {xs news:List Value} (h:RowAt w e size v n xs) (hs:Src P size tx x m news w)
    (h63:n+m≤maxLen) (hbytes:(n+m)*bytes≤140737488355328) :
    ∃ v' w',(Builtin.append_ #[t,tx] ty #[v,x]).run P w=.ok v' w'∧RowAt w' e size v' (n+m) (xs++news)∧w.grownBy w' v.ownBlock ∧
      (v'.ownBlock=v.ownBlock∨v'.ownBlock=some w.heap.size)∧RowAt w' e size v n xs:=by
  subst hsize
  subst hby
  have hsmall:n+m≤9223372036854775807:=by simp only [maxLen] at h63;omega
  have hlen:(xs++news).length=(n+m)*i.size:=by rw [List.length_append,h.1,hs.newsLen,Nat.add_mul]
  have grown:∀ (old:Nat),old<n+m→∀ (row:Option Nat),
      RowAt (w.drew.alloc (.cells ((xs++news).toArray++Builtin.zeroCells z.cells (grownCap w (n+m) old e - (n+m))) e)) e i.size
        (.slice (some ⟨w.heap.size,0,none⟩) (n+m) (grownCap w (n+m) old e)) (n+m) (xs++news) ∧
      w.grownBy (w.drew.alloc (.cells ((xs++news).toArray++Builtin.zeroCells z.cells (grownCap w (n+m) old e - (n+m))) e)) row:=by
    intro old ho row
    have hge:=grownCap_ge w (n+m) old e
    have hcm:grownCap w (n+m) old e≤maxLen:=grownCap_le_maxLen w (n+m) old e h63
    refine ⟨⟨hlen,.inr ⟨w.heap.size,0,_,_,rfl,⟨_,heap_alloc_new w.drew _,Unmarked.plain _⟩,hge,hcm,?_,?_⟩⟩,⟨rfl,rfl,rfl,by simp,fun k hk _=>heap_alloc_old w.drew _ hk⟩⟩
    · simp only [Array.size_append,List.size_toArray,size_zeroCells,hzs,hlen,← Nat.add_mul,Nat.zero_add]
      exact Nat.le_of_eq (by congr 1;omega)
    · simp only [Array.toList_append,List.drop_zero]
      rw [← hlen]
      exact List.take_left
  rcases h.2 with ⟨rfl,rfl⟩|⟨g,off,cap,cur,rfl,⟨fr,hg,hfr⟩,hnc,hcm,hcs,htake⟩
  · have hx:xs=[]:=List.eq_nil_of_length_eq_zero (by simpa using h.1)
    subst hx
    by_cases hm:m=0
    · subst hm
      have hn:news=[]:=List.eq_nil_of_length_eq_zero (by simpa using hs.newsLen)
      subst hn
      refine ⟨.slice none 0 0,w,?_,RowAt.nil w e i.size,grownBy_refl w _,.inl rfl,RowAt.nil _ _ _⟩
      rcases hs.kind with ⟨e',hk⟩|hk<;>simp [Builtin.append_,run_underlying ht,run_underlying hk,sizeOf,typeInfo,hi,hs.len,hs.cells,storeCells]
    · have hr:=run_append_grow_src (P:=P) w t tx ty e i z ht hi hz none 0 0 [] (run_firstCells_none w.drew i.size 0 0 0) x m news hs (by omega) (by omega) (growslice_fits (by omega) hbytes)
      have hgr:=grown 0 (by omega) (Value.ownBlock (.slice none 0 0))
      exact ⟨_,_,hr,hgr.1,hgr.2,.inr rfl,RowAt.nil _ _ _⟩
  · have hadd:∀ j,(⟨g,off,none⟩:Addr).add j=⟨g,off+j,none⟩:=fun j=>by unfold Addr.add;by_cases h0:j=0<;>simp [h0]
    have holds:∀ j u,xs[j]?=some u→w.cell? ((⟨g,off,none⟩:Addr).add j)=some u:=by
      intro j u hj
      rw [← htake,List.getElem?_take] at hj
      split at hj
      · rw [hadd]
        rw [List.getElem?_drop,Array.getElem?_toList] at hj
        simpa [World.cell?,hg] using hj
      · cases hj
    by_cases hroom:n+m≤cap
    · have hfit:off+n*i.size+news.length≤cur.size:=by
        have:=Nat.mul_le_mul_right i.size hroom
        rw [Nat.add_mul] at this
        rw [hs.newsLen];omega
      have hst:=run_storeCells_fr P g (off+n*i.size) e fr news 0 cur w hg hfr (by simpa using hfit) hs.one
      simp only [Nat.add_zero] at hst
      have hr:(Builtin.append_ #[t,tx] ty #[.slice (some ⟨g,off,none⟩) n cap,x]).run P w=.ok (.slice (some ⟨g,off,none⟩) (n+m) cap) (w.setRow g (cur.toList.take (off+n*i.size)++news++cur.toList.drop (off+n*i.size+news.length)).toArray):=by
        rcases hs.kind with ⟨e',hk⟩|hk<;>simp [Builtin.append_,run_underlying ht,run_underlying hk,sizeOf,typeInfo,hi,hs.len,hroom,hs.cells,hadd,hst]
      refine ⟨_,_,hr,⟨hlen,.inr ⟨g,off,cap,_,rfl,⟨_,setRow_heap w g cur _ e _ hg,hfr.imp id (fun h=>Nat.le_trans (by simp only [List.size_toArray,List.length_append,List.length_take,List.length_drop,Array.length_toList];omega) h)⟩,hroom,hcm,?_,?_⟩⟩,⟨rfl,rfl,rfl,by simp,fun k _ hk=>setRow_other w g k _ (fun e=>hk (by simp [Value.ownBlock,e]))⟩,.inl rfl,h.1,.inr ⟨g,off,cap,_,rfl,⟨_,setRow_heap w g cur _ e _ hg,hfr.imp id (fun h=>Nat.le_trans (by simp only [List.size_toArray,List.length_append,List.length_take,List.length_drop,Array.length_toList];omega) h)⟩,hnc,hcm,?_,?_⟩⟩
      · simp only [List.size_toArray,List.length_append,List.length_take,List.length_drop,Array.length_toList]
        omega
      · have e1:cur.toList.take (off+n*i.size)=cur.toList.take off++xs:=by
          rw [List.take_add,htake]
        have hoff:(cur.toList.take off).length=off:=by rw [List.length_take,Array.length_toList];omega
        simp only [e1,List.append_assoc]
        rw [List.drop_append_of_le_length (by omega),List.drop_of_length_le (by omega),List.nil_append,← List.append_assoc,← hlen]
        exact List.take_left
      · simp only [List.size_toArray,List.length_append,List.length_take,List.length_drop,Array.length_toList]
        omega
      · have e1:cur.toList.take (off+n*i.size)=cur.toList.take off++xs:=by
          rw [List.take_add,htake]
        have hoff:(cur.toList.take off).length=off:=by rw [List.length_take,Array.length_toList];omega
        simp only [e1,List.append_assoc]
        rw [List.drop_append_of_le_length (by omega),List.drop_of_length_le (by omega),List.nil_append,← h.1]
        exact List.take_left
    · have hr:=run_append_grow_src (P:=P) w t tx ty e i z ht hi hz (some ⟨g,off,none⟩) n cap xs (run_firstCells_some w.drew i.size n ⟨g,off,none⟩ n cap xs h.1 (by simpa using holds)) x m news hs (by omega) (by omega) (growslice_fits (by omega) hbytes)
      have hgr:=grown cap (by omega) (Value.ownBlock (.slice (some ⟨g,off,none⟩) n cap))
      exact ⟨_,_,hr,hgr.1,hgr.2,.inr rfl,h.of_block (fun g' hg'=>heap_alloc_old w.drew _ (h.lt g' hg'))⟩
theorem step_append_keepK {P:Program} {ops:Array Oper} {o:Oper} {a:Act} {w:World} {K:Act→World→Prop} {Q:Exit→Act→World→Prop} {E:Prop} (hgd:o.guard=none) (s x:Operand) (t tx:TypeId)
    (ho:o.op=.call { callee:=.builtin .append,args:=#[s,x],argTypes:=#[t,tx] })
    (e:TypeId) (i:TypeInfo) (z:Value) (size bytes:Nat) (ht:P.underlying t=some (.slice e)) (hi:P.info? e=some i) (hz:i.zero=some z)
    (hsize:i.size=size) (hby:i.bytes=bytes) (hzs:z.cells.size=size)
    (v y:Value) (n m:Nat) (xs news:List Value) (hv:a.eval s=v) (hy:a.eval x=y) (h:RowAt w e size v n xs) (hs:Src P size tx y m news w)
    (h63:n+m≤maxLen) (hbytes:(n+m)*bytes≤140737488355328)
    (hK:∀ v' w',RowAt w' e size v' (n+m) (xs++news)→w.grownBy w' v.ownBlock→(v'.ownBlock=v.ownBlock∨v'.ownBlock=some w.heap.size)→RowAt w' e size v n xs→K (a.put o.dst v') w') :
    if Region.wanted o (yielded ops a.tmps)=true then Oper.wp P o a w K Q else E:=by
  have hw:Region.wanted o (yielded ops a.tmps)=true:=by simp [Region.wanted,hgd]
  rw [if_pos hw]
  obtain ⟨v',w',hr,h1,h2,h3,h5⟩:=run_append_keepK (P:=P) t tx o.type e i z size bytes ht hi hz hsize hby hzs h hs h63 hbytes
  unfold Oper.wp execOp
  simp only [ho,resolve,invoke,builtin,Sem.run_bind,Sem.run_pure,Result.andThen_ok,List.map_toArray,List.map_cons,List.map_nil,hv,hy,hr]
  exact hK v' w' h1 h2 h3 h5
end Go.Proofs.YtmbboflakfokhaaGreatDoor
