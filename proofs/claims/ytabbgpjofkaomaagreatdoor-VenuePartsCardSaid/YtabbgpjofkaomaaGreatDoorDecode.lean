import Derived.Test.YtabbgpjofkaomaaGreatDoorJ32
set_option linter.unusedSimpArgs false
set_option linter.unusedVariables false
/- What Decode of package wire computes. -/
namespace Go.Proofs.YtabbgpjofkaomaaGreatDoor
open Go.RowKit
theorem top1 (h:Array Obj) (z b:Obj) (l:List Obj):((h.push z++l.toArray).push b)[h.size+1+l.length]?=some b:=by
 have e:(h.push z++l.toArray).size=h.size+1+l.length:=by simp;omega
 rw [← e,Array.getElem?_push_size]
theorem top0 (h:Array Obj) (z b:Obj) (l:List Obj):((h.push z++l.toArray).push b)[h.size]?=some z:=by
 rw [Array.getElem?_push,if_neg (by simp),Array.getElem?_append_left (by simp),Array.getElem?_push_size]
theorem set8_heap {w:World} {b:Nat} {z0 z1 z2 z3 z4 z5 z6 z7:Value} {t:TypeId} (h:w.heap[b]?=some (.cells #[z0,z1,z2,z3,z4,z5,z6,z7] t (0,0))) (x0 x1 x2 x3 x4 x5 x6 x7:Value):((((((((w.setCell ⟨b,0,none⟩ x0).setCell ⟨b,1,none⟩ x1).setCell ⟨b,2,none⟩ x2).setCell ⟨b,3,none⟩ x3).setCell ⟨b,4,none⟩ x4).setCell ⟨b,5,none⟩ x5).setCell ⟨b,6,none⟩ x6).setCell ⟨b,7,none⟩ x7).heap[b]?=some (.cells #[x0,x1,x2,x3,x4,x5,x6,x7] t (0,0)):=by
 have h0:=heap_setCell_same _ b 0 _ _ x0 h
 simp at h0
 have h1:=heap_setCell_same _ b 1 _ _ x1 h0
 simp at h1
 have h2:=heap_setCell_same _ b 2 _ _ x2 h1
 simp at h2
 have h3:=heap_setCell_same _ b 3 _ _ x3 h2
 simp at h3
 have h4:=heap_setCell_same _ b 4 _ _ x4 h3
 simp at h4
 have h5:=heap_setCell_same _ b 5 _ _ x5 h4
 simp at h5
 have h6:=heap_setCell_same _ b 6 _ _ x6 h5
 simp at h6
 have h7:=heap_setCell_same _ b 7 _ _ x7 h6
 simp at h7
 exact h7
theorem set8_other {w:World} {b k:Nat} (hk:k≠b) (x0 x1 x2 x3 x4 x5 x6 x7:Value):((((((((w.setCell ⟨b,0,none⟩ x0).setCell ⟨b,1,none⟩ x1).setCell ⟨b,2,none⟩ x2).setCell ⟨b,3,none⟩ x3).setCell ⟨b,4,none⟩ x4).setCell ⟨b,5,none⟩ x5).setCell ⟨b,6,none⟩ x6).setCell ⟨b,7,none⟩ x7).heap[k]?=w.heap[k]?:=by
 rw [heap_setCell_other _ ⟨b,7,none⟩ k _ (fun e=>hk (by simp [e])),heap_setCell_other _ ⟨b,6,none⟩ k _ (fun e=>hk (by simp [e])),heap_setCell_other _ ⟨b,5,none⟩ k _ (fun e=>hk (by simp [e])),heap_setCell_other _ ⟨b,4,none⟩ k _ (fun e=>hk (by simp [e])),heap_setCell_other _ ⟨b,3,none⟩ k _ (fun e=>hk (by simp [e])),heap_setCell_other _ ⟨b,2,none⟩ k _ (fun e=>hk (by simp [e])),heap_setCell_other _ ⟨b,1,none⟩ k _ (fun e=>hk (by simp [e])),heap_setCell_other _ ⟨b,0,none⟩ k _ (fun e=>hk (by simp [e]))]
set_option maxRecDepth 100000 in
theorem decode_len (s:ByteArray) (E:Nat→Addr) (w:World) (hs:s.size≠30) (hE:Errs E [1] w) :
  Calls Tryz.prog 75 #[.string s] w fun e w'=>e=.returned (.tuple #[zeroV,.iface 357 (.pointer (some (E 1)))])∧Ex w w':=by
 have hs1:((s.size:Int)==30)=false:=by simp;omega
 have h1:w.cell? ⟨4,0,none⟩=some (.iface 357 (.pointer (some (E 1)))):=hE 1 (by decide)
 have h1l:4<w.heap.size:=World.block_lt_of_cell? _ _ h1
 have h1n:¬ 4=w.heap.size:=by omega
 have h1m:4<w.heap.size+1:=by omega
 go_enter Tryz.func75,Tryz.ntmps75
 go_wp2_with fail
 go_region
 all_goals go_wp2_with fail
 all_goals ((try simp only [Exit.inBlock,Exit.then]);(refine bodyPost_ret (v:=.tuple #[zeroV,.iface 357 (.pointer (some (E 1)))]) ?_ rfl ⟨rfl,Ex.of (by (refine Below.trans (Below.refl _ _) ?_;repeat (first|exact Below.refl _ _|(refine Below.drew ?_)|(refine Below.drewN ?_ _)|(refine Below.ext ?_ (by first|omega|(simp [go_sem];done)|(simp [go_sem];omega)) _ _)|(refine Below.alloc ?_ (by first|omega|(simp [go_sem];done)|(simp [go_sem];omega)) _)|(refine Below.setCell ?_ (by first|omega|(simp [go_sem];done)|(simp [go_sem];omega)) _))))⟩);simp only [results,Tryz.results75];simp [go_sem,↓IntWalk.iteOmega])
set_option maxRecDepth 100000 in
set_option maxHeartbeats 1000000 in
theorem decode_shape (s:ByteArray) (E:Nat→Addr) (w:World) (hs:s.size=30) (hE:Errs E [3] w) (hsum:strOfNums (lowB (crc (s.extract 0 26).data.toList))=s.extract 26 30) (hz:(s.extract 20 26).data.toList≠[0,0,0,0,0,0]) :
  Calls Tryz.prog 75 #[.string s] w fun e w'=>e=.returned (.tuple #[zeroV,.iface 357 (.pointer (some (E 3)))])∧Ex w w':=by
 have hn1:((strOfNums (lowB (crc (s.extract 0 26).data.toList))).toList != (s.extract 26 30).toList)=false:=by rw [hsum];simp
 have hn2:((strOfNums (lowB (crc (s.extract 0 26).data.toList))).toList==(s.extract 26 30).toList)=true:=by rw [hsum];simp
 have hsz:(s.extract 0 26).size≤maxLen:=by rw [ByteArray.size_extract,hs];decide
 have HSM:=Lib.hid (fun w=>sum_any (s.extract 0 26) w hsz)
 have hcl:=crc_lt (s.extract 0 26).data.toList
 generalize crc (s.extract 0 26).data.toList=c at *
 clear hsum hsz
 have h3:w.cell? ⟨2,0,none⟩=some (.iface 357 (.pointer (some (E 3)))):=hE 3 (by decide)
 have h3l:2<w.heap.size:=World.block_lt_of_cell? _ _ h3
 have h3n:¬ 2=w.heap.size:=by omega
 have h3m:2<w.heap.size+1:=by omega
 have hz1:((s.extract 20 26).toList==[0,0,0,0,0,0])=false:=by
  rw [ByteArray.toList_eq];exact beq_eq_false_iff_ne.2 hz
 have hz2:((s.extract 20 26).toList != [0,0,0,0,0,0])=true:=by rw [bne,hz1];rfl
 go_enter Tryz.func75,Tryz.ntmps75
 go_wp2_with fail
 go_region_law (first
  | (go_simp;go_at_call 107;refine (HSM.out _).mono ?_;rintro e w1 ⟨rfl,rfl⟩)
  | (go_simp;go_at_call 106;refine (wireLow_any c _ hcl).mono ?_;rintro e w1 ⟨rfl,l5,d5,rfl⟩))
 all_goals go_wp2_with fail
 all_goals go_region
 all_goals go_wp2_with fail
 all_goals ((try simp only [Exit.inBlock,Exit.then]);(refine bodyPost_ret (v:=.tuple #[zeroV,.iface 357 (.pointer (some (E 3)))]) ?_ rfl ⟨rfl,Ex.of (by (refine Below.trans (Below.refl _ _) ?_;repeat (first|exact Below.refl _ _|(refine Below.drew ?_)|(refine Below.drewN ?_ _)|(refine Below.ext ?_ (by first|omega|(simp [go_sem];done)|(simp [go_sem];omega)) _ _)|(refine Below.alloc ?_ (by first|omega|(simp [go_sem];done)|(simp [go_sem];omega)) _)|(refine Below.setCell ?_ (by first|omega|(simp [go_sem];done)|(simp [go_sem];omega)) _))))⟩);simp only [results,Tryz.results75];simp [go_sem,↓IntWalk.iteOmega])
set_option maxRecDepth 100000 in
set_option maxHeartbeats 40000000 in
theorem decode_in (s:ByteArray) (E:Nat→Addr) (w:World) (hs:s.size=30) (hE:Errs E [2,3,4] w) (hsum:strOfNums (lowB (crc (s.extract 0 26).data.toList))=s.extract 26 30) (hz:(s.extract 20 26).data.toList=[0,0,0,0,0,0]) :
  Calls Tryz.prog 75 #[.string s] w fun e w'=>e=.returned (.tuple #[(if (askAt s).err=0 then (askAt s).val else zeroV),errV E (askAt s).err])∧Ex w w':=by
 have hn1:((strOfNums (lowB (crc (s.extract 0 26).data.toList))).toList != (s.extract 26 30).toList)=false:=by rw [hsum];simp
 have hn2:((strOfNums (lowB (crc (s.extract 0 26).data.toList))).toList==(s.extract 26 30).toList)=true:=by rw [hsum];simp
 have hsz:(s.extract 0 26).size≤maxLen:=by rw [ByteArray.size_extract,hs];decide
 have HSM:=Lib.hid (fun w=>sum_any (s.extract 0 26) w hsz)
 have hcl:=crc_lt (s.extract 0 26).data.toList
 generalize crc (s.extract 0 26).data.toList=c at *
 clear hsum hsz
 have hz1:((s.extract 20 26).toList==[0,0,0,0,0,0])=true:=by
  rw [ByteArray.toList_eq];exact beq_iff_eq.2 hz
 have hz2:((s.extract 20 26).toList != [0,0,0,0,0,0])=false:=by rw [bne,hz1];rfl
 have F2:Hid (∀ w,Calls Tryz.prog 108 #[.string s,.int .i64 2] w fun e w'=>e=.returned (.int .i64 (num4 s 2))∧∃ n,w'=w.drewN n):=Lib.hid (fun w=>four_any s 2 w (by omega) (by omega))
 have F8:Hid (∀ w,Calls Tryz.prog 108 #[.string s,.int .i64 8] w fun e w'=>e=.returned (.int .i64 (num4 s 8))∧∃ n,w'=w.drewN n):=Lib.hid (fun w=>four_any s 8 w (by omega) (by omega))
 have F12:Hid (∀ w,Calls Tryz.prog 108 #[.string s,.int .i64 12] w fun e w'=>e=.returned (.int .i64 (num4 s 12))∧∃ n,w'=w.drewN n):=Lib.hid (fun w=>four_any s 12 w (by omega) (by omega))
 have F16:Hid (∀ w,Calls Tryz.prog 108 #[.string s,.int .i64 16] w fun e w'=>e=.returned (.int .i64 (num4 s 16))∧∃ n,w'=w.drewN n):=Lib.hid (fun w=>four_any s 16 w (by omega) (by omega))
 have hA:askAt s=⟨((s[0]'(by omega)).toNat:Int),((s[1]'(by omega)).toNat:Int),num4 s 2,((s[6]'(by omega)).toNat:Int),((s[7]'(by omega)).toNat:Int),num4 s 8,num4 s 12,num4 s 16⟩:=by
  unfold askAt
  rw [at8_eq (show 0<s.size by omega),at8_eq (show 1<s.size by omega),at8_eq (show 6<s.size by omega),at8_eq (show 7<s.size by omega)]
 have HAE:=Lib.hid (fun w hE=>wireCheck_any (askAt s) E w hE)
 have i0:∀ w,(Instr.index 9 (.string s) (.int .i64 0)).run Tryz.prog w=.ok (.int .u8 ((s[0]'(by omega)).toNat:Int)) w:=fun w=>index_str s 0 (by omega) w
 have i1:∀ w,(Instr.index 9 (.string s) (.int .i64 1)).run Tryz.prog w=.ok (.int .u8 ((s[1]'(by omega)).toNat:Int)) w:=fun w=>index_str s 1 (by omega) w
 have i6:∀ w,(Instr.index 9 (.string s) (.int .i64 6)).run Tryz.prog w=.ok (.int .u8 ((s[6]'(by omega)).toNat:Int)) w:=fun w=>index_str s 6 (by omega) w
 have i7:∀ w,(Instr.index 9 (.string s) (.int .i64 7)).run Tryz.prog w=.ok (.int .u8 ((s[7]'(by omega)).toNat:Int)) w:=fun w=>index_str s 7 (by omega) w
 have hb1:0≤((s[1]'(by omega)).toNat:Int)∧((s[1]'(by omega)).toNat:Int)≤255:=by have:=(s[1]'(by omega)).toNat_lt;omega
 have hb6:0≤((s[6]'(by omega)).toNat:Int)∧((s[6]'(by omega)).toNat:Int)≤255:=by have:=(s[6]'(by omega)).toNat_lt;omega
 have hb7:0≤((s[7]'(by omega)).toNat:Int)∧((s[7]'(by omega)).toNat:Int)≤255:=by have:=(s[7]'(by omega)).toNat_lt;omega
 rw [hA] at HAE ⊢
 clear hA hz
 generalize num4 s 2=n2 at *
 generalize num4 s 8=n8 at *
 generalize num4 s 12=n12 at *
 generalize num4 s 16=n16 at *
 generalize ((s[0]'(by omega)).toNat:Int)=b0 at *
 generalize ((s[1]'(by omega)).toNat:Int)=b1 at *
 generalize ((s[6]'(by omega)).toNat:Int)=b6 at *
 generalize ((s[7]'(by omega)).toNat:Int)=b7 at *
 have kw1:IntKind.i64.wrap b1=b1:=by simp [IntKind.wrap,IntKind.bits,IntKind.signed];omega
 have kw6:IntKind.i64.wrap b6=b6:=by simp [IntKind.wrap,IntKind.bits,IntKind.signed];omega
 have kw7:IntKind.i64.wrap b7=b7:=by simp [IntKind.wrap,IntKind.bits,IntKind.signed];omega
 generalize her:(⟨b0,b1,n2,b6,b7,n8,n12,n16⟩:Ask).err=er at *
 clear her
 by_cases he:er=0
 ·subst he
  rw [if_pos rfl]
  rw [errV_zero] at HAE ⊢
  go_enter Tryz.func75,Tryz.ntmps75
  go_wp2_with fail
  go_region_law (first
   | (go_simp;go_at_call 107;refine (HSM.out _).mono ?_;rintro e w1 ⟨rfl,rfl⟩)
   | (go_simp;go_at_call 106;refine (wireLow_any c _ hcl).mono ?_;rintro e w1 ⟨rfl,l5,d5,rfl⟩))
  all_goals go_wp2_with fail
  go_cut [4] (fun v wx=>v=.pointer (some ⟨w.heap.size+1+l5.length,0,none⟩)∧wx.heap[w.heap.size+1+l5.length]?=some (.cells #[.int .u8 b0,.int .i64 b1,.int .i64 n2,.int .i64 b6,.int .i64 b7,.int .i64 n8,.int .i64 n12,.int .i64 n16] 45 (0,0))∧wx.heap[w.heap.size]?=some (.cells #[.int .u8 0,.int .i64 0,.int .i64 0,.int .i64 0,.int .i64 0,.int .i64 0,.int .i64 0,.int .i64 0] 45 (0,0))∧Ex w wx)
  case first =>
   refine wp_region_any (by kernel_rfl) ?_
   (try (change wpAny _ _ _ _ _ _ _ (World.drew _)))
   refine wpAny_take (i:=0) (v:=?_) rfl (by kernel_rfl) (by kernel_rfl) (by kernel_rfl) (fun _ _ _ h=>h) (Or.inl ⟨by rfl,?_⟩) ?_
   rotate_left
   focus (intro w;go_simp;(try with_reducible rfl))
   (try simp only [Act.put,List.setIfInBounds_toArray,List.set_cons_zero,List.set_cons_succ])
   refine wpAny_take (i:=2) (v:=?_) rfl (by kernel_rfl) (by kernel_rfl) (by kernel_rfl) (fun _ _ _ h=>h) (Or.inl ⟨by rfl,?_⟩) ?_
   rotate_left
   focus (intro w;go_simp;(try with_reducible rfl))
   (try simp only [Act.put,List.setIfInBounds_toArray,List.set_cons_zero,List.set_cons_succ])
   refine wpAny_take (i:=5) (v:=?_) rfl (by kernel_rfl) (by kernel_rfl) (by kernel_rfl) (fun _ _ _ h=>h) (Or.inl ⟨by rfl,?_⟩) ?_
   rotate_left
   focus (intro w;go_simp;(try with_reducible rfl))
   (try simp only [Act.put,List.setIfInBounds_toArray,List.set_cons_zero,List.set_cons_succ])
   refine wpAny_take (i:=7) (v:=?_) rfl (by kernel_rfl) (by kernel_rfl) (by kernel_rfl) (fun _ _ _ h=>h) (Or.inl ⟨by rfl,?_⟩) ?_
   rotate_left
   focus (intro w;go_simp;(try with_reducible rfl))
   (try simp only [Act.put,List.setIfInBounds_toArray,List.set_cons_zero,List.set_cons_succ])
   refine wpAny_take (i:=10) (v:=?_) rfl (by kernel_rfl) (by kernel_rfl) (by kernel_rfl) (fun _ _ _ h=>h) (Or.inl ⟨by rfl,?_⟩) ?_
   rotate_left
   focus (intro w;go_simp;(try with_reducible rfl))
   (try simp only [Act.put,List.setIfInBounds_toArray,List.set_cons_zero,List.set_cons_succ])
   refine wpAny_take (i:=13) (v:=?_) rfl (by kernel_rfl) (by kernel_rfl) (by kernel_rfl) (fun _ _ _ h=>h) (Or.inl ⟨by rfl,?_⟩) ?_
   rotate_left
   focus (intro w;go_simp;(try with_reducible rfl))
   (try simp only [Act.put,List.setIfInBounds_toArray,List.set_cons_zero,List.set_cons_succ])
   refine wpAny_take (i:=15) (v:=?_) rfl (by kernel_rfl) (by kernel_rfl) (by kernel_rfl) (fun _ _ _ h=>h) (Or.inl ⟨by rfl,?_⟩) ?_
   rotate_left
   focus (intro w;go_simp;(try with_reducible rfl))
   (try simp only [Act.put,List.setIfInBounds_toArray,List.set_cons_zero,List.set_cons_succ])
   refine wpAny_take (i:=17) (v:=?_) rfl (by kernel_rfl) (by kernel_rfl) (by kernel_rfl) (fun _ _ _ h=>h) (Or.inl ⟨by rfl,?_⟩) ?_
   rotate_left
   focus (intro w;go_simp;(try with_reducible rfl))
   (try simp only [Act.put,List.setIfInBounds_toArray,List.set_cons_zero,List.set_cons_succ])
   refine wpAny_take (i:=1) (v:=?_) rfl (by kernel_rfl) (by kernel_rfl) (by kernel_rfl) (fun _ _ _ h=>h) (Or.inl ⟨by rfl,?_⟩) ?_
   rotate_left
   focus (intro w;go_simp;(try with_reducible rfl))
   (try simp only [Act.put,List.setIfInBounds_toArray,List.set_cons_zero,List.set_cons_succ])
   refine wpAny_take (i:=3) (v:=?_) rfl (by kernel_rfl) (by kernel_rfl) (by kernel_rfl) (fun _ _ _ h=>h) (Or.inl ⟨by rfl,?_⟩) ?_
   rotate_left
   focus (intro w;go_simp;(try with_reducible rfl))
   (try simp only [Act.put,List.setIfInBounds_toArray,List.set_cons_zero,List.set_cons_succ])
   refine wpAny_take (i:=4) (v:=?_) rfl (by kernel_rfl) (by kernel_rfl) (by kernel_rfl) (fun _ _ _ h=>h) (Or.inl ⟨by rfl,?_⟩) ?_
   rotate_left
   focus (intro w;go_simp;(try with_reducible rfl))
   (try simp only [Act.put,List.setIfInBounds_toArray,List.set_cons_zero,List.set_cons_succ])
   refine wpAny_take (i:=8) (v:=?_) rfl (by kernel_rfl) (by kernel_rfl) (by kernel_rfl) (fun _ _ _ h=>h) (Or.inl ⟨by rfl,?_⟩) ?_
   rotate_left
   focus (intro w;go_simp;(try with_reducible rfl))
   (try simp only [Act.put,List.setIfInBounds_toArray,List.set_cons_zero,List.set_cons_succ])
   refine wpAny_take (i:=9) (v:=?_) rfl (by kernel_rfl) (by kernel_rfl) (by kernel_rfl) (fun _ _ _ h=>h) (Or.inl ⟨by rfl,?_⟩) ?_
   rotate_left
   focus (intro w;go_simp;(try with_reducible rfl))
   (try simp only [Act.put,List.setIfInBounds_toArray,List.set_cons_zero,List.set_cons_succ])
   refine wpAny_take (i:=11) (v:=?_) rfl (by kernel_rfl) (by kernel_rfl) (by kernel_rfl) (fun _ _ _ h=>h) (Or.inl ⟨by rfl,?_⟩) ?_
   rotate_left
   focus (intro w;go_simp;(try with_reducible rfl))
   (try simp only [Act.put,List.setIfInBounds_toArray,List.set_cons_zero,List.set_cons_succ])
   refine wpAny_take (i:=12) (v:=?_) rfl (by kernel_rfl) (by kernel_rfl) (by kernel_rfl) (fun _ _ _ h=>h) (Or.inl ⟨by rfl,?_⟩) ?_
   rotate_left
   focus (intro w;go_simp;(try with_reducible rfl))
   (try simp only [Act.put,List.setIfInBounds_toArray,List.set_cons_zero,List.set_cons_succ])
   refine wpAny_ready (rs:=[6,20]) (by kernel_rfl) (by simp) ?_
   refine AllReady.cons rfl (fun K hK=>?_) ?_
   ·go_simp
    go_wp2_with (first
     | (go_at_call 108;with_reducible refine (F2.out _).mono ?_;rintro e w1 ⟨rfl,m2,rfl⟩)
     | (go_at_call 108;with_reducible refine (F8.out _).mono ?_;rintro e w1 ⟨rfl,m8,rfl⟩)
     | (go_at_call 108;with_reducible refine (F12.out _).mono ?_;rintro e w1 ⟨rfl,m12,rfl⟩)
     | (go_at_call 108;with_reducible refine (F16.out _).mono ?_;rintro e w1 ⟨rfl,m16,rfl⟩))
    (try (refine hK _ _ ?_;clear hK K))
    refine wpAny_ready (rs:=[14,20]) (by kernel_rfl) (by simp) ?_
    refine AllReady.cons rfl (fun K hK=>?_) ?_
    ·go_simp
     go_wp2_with (first
      | (go_at_call 108;with_reducible refine (F2.out _).mono ?_;rintro e w1 ⟨rfl,m2,rfl⟩)
      | (go_at_call 108;with_reducible refine (F8.out _).mono ?_;rintro e w1 ⟨rfl,m8,rfl⟩)
      | (go_at_call 108;with_reducible refine (F12.out _).mono ?_;rintro e w1 ⟨rfl,m12,rfl⟩)
      | (go_at_call 108;with_reducible refine (F16.out _).mono ?_;rintro e w1 ⟨rfl,m16,rfl⟩))
     (try (refine hK _ _ ?_;clear hK K))
     refine wpAny_ready (rs:=[16,20]) (by kernel_rfl) (by simp) ?_
     refine AllReady.cons rfl (fun K hK=>?_) ?_
     ·go_simp
      go_wp2_with (first
       | (go_at_call 108;with_reducible refine (F2.out _).mono ?_;rintro e w1 ⟨rfl,m2,rfl⟩)
       | (go_at_call 108;with_reducible refine (F8.out _).mono ?_;rintro e w1 ⟨rfl,m8,rfl⟩)
       | (go_at_call 108;with_reducible refine (F12.out _).mono ?_;rintro e w1 ⟨rfl,m12,rfl⟩)
       | (go_at_call 108;with_reducible refine (F16.out _).mono ?_;rintro e w1 ⟨rfl,m16,rfl⟩))
      (try (refine hK _ _ ?_;clear hK K))
      refine wpAny_ready (rs:=[18,20]) (by kernel_rfl) (by simp) ?_
      refine AllReady.cons rfl (fun K hK=>?_) ?_
      ·go_simp
       go_wp2_with (first
        | (go_at_call 108;with_reducible refine (F2.out _).mono ?_;rintro e w1 ⟨rfl,m2,rfl⟩)
        | (go_at_call 108;with_reducible refine (F8.out _).mono ?_;rintro e w1 ⟨rfl,m8,rfl⟩)
        | (go_at_call 108;with_reducible refine (F12.out _).mono ?_;rintro e w1 ⟨rfl,m12,rfl⟩)
        | (go_at_call 108;with_reducible refine (F16.out _).mono ?_;rintro e w1 ⟨rfl,m16,rfl⟩))
       (try (refine hK _ _ ?_;clear hK K))
       refine wpAny_take (i:=19) (v:=?_) rfl (by kernel_rfl) (by kernel_rfl) (by kernel_rfl) (fun _ _ _ h=>h) (Or.inl ⟨by rfl,?_⟩) ?_
       rotate_left
       focus (intro w;go_simp;(try with_reducible rfl))
       (try simp only [Act.put,List.setIfInBounds_toArray,List.set_cons_zero,List.set_cons_succ])
       refine wpAny_ready (rs:=[20]) (by kernel_rfl) (by simp) (AllReady.cons rfl (fun K hK=>?_) AllReady.nil)
       go_simp
       refine hK _ _ ?_
       clear hK K
       refine wpAny_ready (rs:=[21]) (by kernel_rfl) (by simp) (AllReady.cons rfl (fun K hK=>?_) AllReady.nil)
       go_simp
       refine hK _ _ ?_
       clear hK K
       refine wpAny_done (by kernel_rfl) ?_ _
       go_wp2_with fail
       go_meet
       case rel =>
        refine ⟨rfl,?_,?_,Ex.of (by (refine Below.trans (Below.refl _ _) ?_;repeat (first|(with_reducible exact Below.refl _ _)|(with_reducible refine Below.drew ?_)|(with_reducible refine Below.drewN ?_ _)|((with_reducible refine Below.ext ?_ ?_ _ _);rotate_left;(focus (first|omega|(simp [go_sem];done)|(simp [go_sem];omega))))|((with_reducible refine Below.alloc ?_ ?_ _);rotate_left;(focus (first|omega|(simp [go_sem];done)|(simp [go_sem];omega))))|((with_reducible refine Below.setCell ?_ ?_ _);rotate_left;(focus (first|omega|(simp [go_sem];done)|(simp [go_sem];omega)))))))⟩
        ·first
          | ((with_reducible refine set8_heap (z0:=.int .u8 0) (z1:=.int .i64 0) (z2:=.int .i64 0) (z3:=.int .i64 0) (z4:=.int .i64 0) (z5:=.int .i64 0) (z6:=.int .i64 0) (z7:=.int .i64 0) (t:=45) ?_ _ _ _ _ _ _ _ _);show ((w.heap.push _++l5.toArray).push _)[w.heap.size+1+l5.length]?=_;exact top1 _ _ _ _)
          | (show ((w.heap.push _++l5.toArray).push _)[w.heap.size+1+l5.length]?=_;exact top1 _ _ _ _)
        ·first
          | ((with_reducible refine (set8_other ?_ _ _ _ _ _ _ _ _).trans ?_);(focus omega);show ((w.heap.push _++l5.toArray).push _)[w.heap.size]?=_;exact top0 _ _ _ _)
          | (show ((w.heap.push _++l5.toArray).push _)[w.heap.size]?=_;exact top0 _ _ _ _)
      ·refine AllReady.cons rfl (fun K hK=>?_) AllReady.nil
       go_simp
       refine hK _ _ ?_
       clear hK K
       refine wpAny_ready (rs:=[18]) (by kernel_rfl) (by simp) (AllReady.cons rfl (fun K hK=>?_) AllReady.nil)
       go_simp
       go_wp2_with (first
        | (go_at_call 108;with_reducible refine (F2.out _).mono ?_;rintro e w1 ⟨rfl,m2,rfl⟩)
        | (go_at_call 108;with_reducible refine (F8.out _).mono ?_;rintro e w1 ⟨rfl,m8,rfl⟩)
        | (go_at_call 108;with_reducible refine (F12.out _).mono ?_;rintro e w1 ⟨rfl,m12,rfl⟩)
        | (go_at_call 108;with_reducible refine (F16.out _).mono ?_;rintro e w1 ⟨rfl,m16,rfl⟩))
       (try (refine hK _ _ ?_;clear hK K))
       refine wpAny_take (i:=19) (v:=?_) rfl (by kernel_rfl) (by kernel_rfl) (by kernel_rfl) (fun _ _ _ h=>h) (Or.inl ⟨by rfl,?_⟩) ?_
       rotate_left
       focus (intro w;go_simp;(try with_reducible rfl))
       (try simp only [Act.put,List.setIfInBounds_toArray,List.set_cons_zero,List.set_cons_succ])
       refine wpAny_ready (rs:=[21]) (by kernel_rfl) (by simp) (AllReady.cons rfl (fun K hK=>?_) AllReady.nil)
       go_simp
       refine hK _ _ ?_
       clear hK K
       refine wpAny_done (by kernel_rfl) ?_ _
       go_wp2_with fail
       go_meet
       case rel =>
        refine ⟨rfl,?_,?_,Ex.of (by (refine Below.trans (Below.refl _ _) ?_;repeat (first|(with_reducible exact Below.refl _ _)|(with_reducible refine Below.drew ?_)|(with_reducible refine Below.drewN ?_ _)|((with_reducible refine Below.ext ?_ ?_ _ _);rotate_left;(focus (first|omega|(simp [go_sem];done)|(simp [go_sem];omega))))|((with_reducible refine Below.alloc ?_ ?_ _);rotate_left;(focus (first|omega|(simp [go_sem];done)|(simp [go_sem];omega))))|((with_reducible refine Below.setCell ?_ ?_ _);rotate_left;(focus (first|omega|(simp [go_sem];done)|(simp [go_sem];omega)))))))⟩
        ·first
          | ((with_reducible refine set8_heap (z0:=.int .u8 0) (z1:=.int .i64 0) (z2:=.int .i64 0) (z3:=.int .i64 0) (z4:=.int .i64 0) (z5:=.int .i64 0) (z6:=.int .i64 0) (z7:=.int .i64 0) (t:=45) ?_ _ _ _ _ _ _ _ _);show ((w.heap.push _++l5.toArray).push _)[w.heap.size+1+l5.length]?=_;exact top1 _ _ _ _)
          | (show ((w.heap.push _++l5.toArray).push _)[w.heap.size+1+l5.length]?=_;exact top1 _ _ _ _)
        ·first
          | ((with_reducible refine (set8_other ?_ _ _ _ _ _ _ _ _).trans ?_);(focus omega);show ((w.heap.push _++l5.toArray).push _)[w.heap.size]?=_;exact top0 _ _ _ _)
          | (show ((w.heap.push _++l5.toArray).push _)[w.heap.size]?=_;exact top0 _ _ _ _)
     ·refine AllReady.cons rfl (fun K hK=>?_) AllReady.nil
      go_simp
      refine hK _ _ ?_
      clear hK K
      refine wpAny_ready (rs:=[16]) (by kernel_rfl) (by simp) (AllReady.cons rfl (fun K hK=>?_) AllReady.nil)
      go_simp
      go_wp2_with (first
       | (go_at_call 108;with_reducible refine (F2.out _).mono ?_;rintro e w1 ⟨rfl,m2,rfl⟩)
       | (go_at_call 108;with_reducible refine (F8.out _).mono ?_;rintro e w1 ⟨rfl,m8,rfl⟩)
       | (go_at_call 108;with_reducible refine (F12.out _).mono ?_;rintro e w1 ⟨rfl,m12,rfl⟩)
       | (go_at_call 108;with_reducible refine (F16.out _).mono ?_;rintro e w1 ⟨rfl,m16,rfl⟩))
      (try (refine hK _ _ ?_;clear hK K))
      refine wpAny_ready (rs:=[18]) (by kernel_rfl) (by simp) (AllReady.cons rfl (fun K hK=>?_) AllReady.nil)
      go_simp
      go_wp2_with (first
       | (go_at_call 108;with_reducible refine (F2.out _).mono ?_;rintro e w1 ⟨rfl,m2,rfl⟩)
       | (go_at_call 108;with_reducible refine (F8.out _).mono ?_;rintro e w1 ⟨rfl,m8,rfl⟩)
       | (go_at_call 108;with_reducible refine (F12.out _).mono ?_;rintro e w1 ⟨rfl,m12,rfl⟩)
       | (go_at_call 108;with_reducible refine (F16.out _).mono ?_;rintro e w1 ⟨rfl,m16,rfl⟩))
      (try (refine hK _ _ ?_;clear hK K))
      refine wpAny_take (i:=19) (v:=?_) rfl (by kernel_rfl) (by kernel_rfl) (by kernel_rfl) (fun _ _ _ h=>h) (Or.inl ⟨by rfl,?_⟩) ?_
      rotate_left
      focus (intro w;go_simp;(try with_reducible rfl))
      (try simp only [Act.put,List.setIfInBounds_toArray,List.set_cons_zero,List.set_cons_succ])
      refine wpAny_ready (rs:=[21]) (by kernel_rfl) (by simp) (AllReady.cons rfl (fun K hK=>?_) AllReady.nil)
      go_simp
      refine hK _ _ ?_
      clear hK K
      refine wpAny_done (by kernel_rfl) ?_ _
      go_wp2_with fail
      go_meet
      case rel =>
       refine ⟨rfl,?_,?_,Ex.of (by (refine Below.trans (Below.refl _ _) ?_;repeat (first|(with_reducible exact Below.refl _ _)|(with_reducible refine Below.drew ?_)|(with_reducible refine Below.drewN ?_ _)|((with_reducible refine Below.ext ?_ ?_ _ _);rotate_left;(focus (first|omega|(simp [go_sem];done)|(simp [go_sem];omega))))|((with_reducible refine Below.alloc ?_ ?_ _);rotate_left;(focus (first|omega|(simp [go_sem];done)|(simp [go_sem];omega))))|((with_reducible refine Below.setCell ?_ ?_ _);rotate_left;(focus (first|omega|(simp [go_sem];done)|(simp [go_sem];omega)))))))⟩
       ·first
         | ((with_reducible refine set8_heap (z0:=.int .u8 0) (z1:=.int .i64 0) (z2:=.int .i64 0) (z3:=.int .i64 0) (z4:=.int .i64 0) (z5:=.int .i64 0) (z6:=.int .i64 0) (z7:=.int .i64 0) (t:=45) ?_ _ _ _ _ _ _ _ _);show ((w.heap.push _++l5.toArray).push _)[w.heap.size+1+l5.length]?=_;exact top1 _ _ _ _)
         | (show ((w.heap.push _++l5.toArray).push _)[w.heap.size+1+l5.length]?=_;exact top1 _ _ _ _)
       ·first
         | ((with_reducible refine (set8_other ?_ _ _ _ _ _ _ _ _).trans ?_);(focus omega);show ((w.heap.push _++l5.toArray).push _)[w.heap.size]?=_;exact top0 _ _ _ _)
         | (show ((w.heap.push _++l5.toArray).push _)[w.heap.size]?=_;exact top0 _ _ _ _)
    ·refine AllReady.cons rfl (fun K hK=>?_) AllReady.nil
     go_simp
     refine hK _ _ ?_
     clear hK K
     refine wpAny_ready (rs:=[14]) (by kernel_rfl) (by simp) (AllReady.cons rfl (fun K hK=>?_) AllReady.nil)
     go_simp
     go_wp2_with (first
      | (go_at_call 108;with_reducible refine (F2.out _).mono ?_;rintro e w1 ⟨rfl,m2,rfl⟩)
      | (go_at_call 108;with_reducible refine (F8.out _).mono ?_;rintro e w1 ⟨rfl,m8,rfl⟩)
      | (go_at_call 108;with_reducible refine (F12.out _).mono ?_;rintro e w1 ⟨rfl,m12,rfl⟩)
      | (go_at_call 108;with_reducible refine (F16.out _).mono ?_;rintro e w1 ⟨rfl,m16,rfl⟩))
     (try (refine hK _ _ ?_;clear hK K))
     refine wpAny_ready (rs:=[16]) (by kernel_rfl) (by simp) (AllReady.cons rfl (fun K hK=>?_) AllReady.nil)
     go_simp
     go_wp2_with (first
      | (go_at_call 108;with_reducible refine (F2.out _).mono ?_;rintro e w1 ⟨rfl,m2,rfl⟩)
      | (go_at_call 108;with_reducible refine (F8.out _).mono ?_;rintro e w1 ⟨rfl,m8,rfl⟩)
      | (go_at_call 108;with_reducible refine (F12.out _).mono ?_;rintro e w1 ⟨rfl,m12,rfl⟩)
      | (go_at_call 108;with_reducible refine (F16.out _).mono ?_;rintro e w1 ⟨rfl,m16,rfl⟩))
     (try (refine hK _ _ ?_;clear hK K))
     refine wpAny_ready (rs:=[18]) (by kernel_rfl) (by simp) (AllReady.cons rfl (fun K hK=>?_) AllReady.nil)
     go_simp
     go_wp2_with (first
      | (go_at_call 108;with_reducible refine (F2.out _).mono ?_;rintro e w1 ⟨rfl,m2,rfl⟩)
      | (go_at_call 108;with_reducible refine (F8.out _).mono ?_;rintro e w1 ⟨rfl,m8,rfl⟩)
      | (go_at_call 108;with_reducible refine (F12.out _).mono ?_;rintro e w1 ⟨rfl,m12,rfl⟩)
      | (go_at_call 108;with_reducible refine (F16.out _).mono ?_;rintro e w1 ⟨rfl,m16,rfl⟩))
     (try (refine hK _ _ ?_;clear hK K))
     refine wpAny_take (i:=19) (v:=?_) rfl (by kernel_rfl) (by kernel_rfl) (by kernel_rfl) (fun _ _ _ h=>h) (Or.inl ⟨by rfl,?_⟩) ?_
     rotate_left
     focus (intro w;go_simp;(try with_reducible rfl))
     (try simp only [Act.put,List.setIfInBounds_toArray,List.set_cons_zero,List.set_cons_succ])
     refine wpAny_ready (rs:=[21]) (by kernel_rfl) (by simp) (AllReady.cons rfl (fun K hK=>?_) AllReady.nil)
     go_simp
     refine hK _ _ ?_
     clear hK K
     refine wpAny_done (by kernel_rfl) ?_ _
     go_wp2_with fail
     go_meet
     case rel =>
      refine ⟨rfl,?_,?_,Ex.of (by (refine Below.trans (Below.refl _ _) ?_;repeat (first|(with_reducible exact Below.refl _ _)|(with_reducible refine Below.drew ?_)|(with_reducible refine Below.drewN ?_ _)|((with_reducible refine Below.ext ?_ ?_ _ _);rotate_left;(focus (first|omega|(simp [go_sem];done)|(simp [go_sem];omega))))|((with_reducible refine Below.alloc ?_ ?_ _);rotate_left;(focus (first|omega|(simp [go_sem];done)|(simp [go_sem];omega))))|((with_reducible refine Below.setCell ?_ ?_ _);rotate_left;(focus (first|omega|(simp [go_sem];done)|(simp [go_sem];omega)))))))⟩
      ·first
        | ((with_reducible refine set8_heap (z0:=.int .u8 0) (z1:=.int .i64 0) (z2:=.int .i64 0) (z3:=.int .i64 0) (z4:=.int .i64 0) (z5:=.int .i64 0) (z6:=.int .i64 0) (z7:=.int .i64 0) (t:=45) ?_ _ _ _ _ _ _ _ _);show ((w.heap.push _++l5.toArray).push _)[w.heap.size+1+l5.length]?=_;exact top1 _ _ _ _)
        | (show ((w.heap.push _++l5.toArray).push _)[w.heap.size+1+l5.length]?=_;exact top1 _ _ _ _)
      ·first
        | ((with_reducible refine (set8_other ?_ _ _ _ _ _ _ _ _).trans ?_);(focus omega);show ((w.heap.push _++l5.toArray).push _)[w.heap.size]?=_;exact top0 _ _ _ _)
        | (show ((w.heap.push _++l5.toArray).push _)[w.heap.size]?=_;exact top0 _ _ _ _)
   ·refine AllReady.cons rfl (fun K hK=>?_) AllReady.nil
    go_simp
    refine hK _ _ ?_
    clear hK K
    refine wpAny_ready (rs:=[6]) (by kernel_rfl) (by simp) (AllReady.cons rfl (fun K hK=>?_) AllReady.nil)
    go_simp
    go_wp2_with (first
     | (go_at_call 108;with_reducible refine (F2.out _).mono ?_;rintro e w1 ⟨rfl,m2,rfl⟩)
     | (go_at_call 108;with_reducible refine (F8.out _).mono ?_;rintro e w1 ⟨rfl,m8,rfl⟩)
     | (go_at_call 108;with_reducible refine (F12.out _).mono ?_;rintro e w1 ⟨rfl,m12,rfl⟩)
     | (go_at_call 108;with_reducible refine (F16.out _).mono ?_;rintro e w1 ⟨rfl,m16,rfl⟩))
    (try (refine hK _ _ ?_;clear hK K))
    refine wpAny_ready (rs:=[14]) (by kernel_rfl) (by simp) (AllReady.cons rfl (fun K hK=>?_) AllReady.nil)
    go_simp
    go_wp2_with (first
     | (go_at_call 108;with_reducible refine (F2.out _).mono ?_;rintro e w1 ⟨rfl,m2,rfl⟩)
     | (go_at_call 108;with_reducible refine (F8.out _).mono ?_;rintro e w1 ⟨rfl,m8,rfl⟩)
     | (go_at_call 108;with_reducible refine (F12.out _).mono ?_;rintro e w1 ⟨rfl,m12,rfl⟩)
     | (go_at_call 108;with_reducible refine (F16.out _).mono ?_;rintro e w1 ⟨rfl,m16,rfl⟩))
    (try (refine hK _ _ ?_;clear hK K))
    refine wpAny_ready (rs:=[16]) (by kernel_rfl) (by simp) (AllReady.cons rfl (fun K hK=>?_) AllReady.nil)
    go_simp
    go_wp2_with (first
     | (go_at_call 108;with_reducible refine (F2.out _).mono ?_;rintro e w1 ⟨rfl,m2,rfl⟩)
     | (go_at_call 108;with_reducible refine (F8.out _).mono ?_;rintro e w1 ⟨rfl,m8,rfl⟩)
     | (go_at_call 108;with_reducible refine (F12.out _).mono ?_;rintro e w1 ⟨rfl,m12,rfl⟩)
     | (go_at_call 108;with_reducible refine (F16.out _).mono ?_;rintro e w1 ⟨rfl,m16,rfl⟩))
    (try (refine hK _ _ ?_;clear hK K))
    refine wpAny_ready (rs:=[18]) (by kernel_rfl) (by simp) (AllReady.cons rfl (fun K hK=>?_) AllReady.nil)
    go_simp
    go_wp2_with (first
     | (go_at_call 108;with_reducible refine (F2.out _).mono ?_;rintro e w1 ⟨rfl,m2,rfl⟩)
     | (go_at_call 108;with_reducible refine (F8.out _).mono ?_;rintro e w1 ⟨rfl,m8,rfl⟩)
     | (go_at_call 108;with_reducible refine (F12.out _).mono ?_;rintro e w1 ⟨rfl,m12,rfl⟩)
     | (go_at_call 108;with_reducible refine (F16.out _).mono ?_;rintro e w1 ⟨rfl,m16,rfl⟩))
    (try (refine hK _ _ ?_;clear hK K))
    refine wpAny_take (i:=19) (v:=?_) rfl (by kernel_rfl) (by kernel_rfl) (by kernel_rfl) (fun _ _ _ h=>h) (Or.inl ⟨by rfl,?_⟩) ?_
    rotate_left
    focus (intro w;go_simp;(try with_reducible rfl))
    (try simp only [Act.put,List.setIfInBounds_toArray,List.set_cons_zero,List.set_cons_succ])
    refine wpAny_ready (rs:=[21]) (by kernel_rfl) (by simp) (AllReady.cons rfl (fun K hK=>?_) AllReady.nil)
    go_simp
    refine hK _ _ ?_
    clear hK K
    refine wpAny_done (by kernel_rfl) ?_ _
    go_wp2_with fail
    go_meet
    case rel =>
     refine ⟨rfl,?_,?_,Ex.of (by (refine Below.trans (Below.refl _ _) ?_;repeat (first|(with_reducible exact Below.refl _ _)|(with_reducible refine Below.drew ?_)|(with_reducible refine Below.drewN ?_ _)|((with_reducible refine Below.ext ?_ ?_ _ _);rotate_left;(focus (first|omega|(simp [go_sem];done)|(simp [go_sem];omega))))|((with_reducible refine Below.alloc ?_ ?_ _);rotate_left;(focus (first|omega|(simp [go_sem];done)|(simp [go_sem];omega))))|((with_reducible refine Below.setCell ?_ ?_ _);rotate_left;(focus (first|omega|(simp [go_sem];done)|(simp [go_sem];omega)))))))⟩
     ·first
       | ((with_reducible refine set8_heap (z0:=.int .u8 0) (z1:=.int .i64 0) (z2:=.int .i64 0) (z3:=.int .i64 0) (z4:=.int .i64 0) (z5:=.int .i64 0) (z6:=.int .i64 0) (z7:=.int .i64 0) (t:=45) ?_ _ _ _ _ _ _ _ _);show ((w.heap.push _++l5.toArray).push _)[w.heap.size+1+l5.length]?=_;exact top1 _ _ _ _)
       | (show ((w.heap.push _++l5.toArray).push _)[w.heap.size+1+l5.length]?=_;exact top1 _ _ _ _)
     ·first
       | ((with_reducible refine (set8_other ?_ _ _ _ _ _ _ _ _).trans ?_);(focus omega);show ((w.heap.push _++l5.toArray).push _)[w.heap.size]?=_;exact top0 _ _ _ _)
       | (show ((w.heap.push _++l5.toArray).push _)[w.heap.size]?=_;exact top0 _ _ _ _)
  case rest =>
   obtain ⟨rfl,hb,hz,hx⟩:=hcut
   have hbb:w.heap.size<w.heap.size+1+l5.length:=by omega
   generalize w.heap.size+1+l5.length=bb at *
   obtain ⟨wd,rfl⟩:∃ x,x=wc:=⟨_,rfl⟩
   have hbs:=(Array.getElem?_eq_some_iff.1 hb).1
   have HZ:=Lib.hid hz
   have v0:wd.cell? ⟨bb,0,none⟩=some (.int .u8 b0):=by simp [World.cell?,hb]
   have z0:wd.cell? ⟨w.heap.size,0,none⟩=some (.int .u8 0):=by simp [World.cell?,hz]
   have y0:wd.frozen? ⟨w.heap.size,0,none⟩=false:=by simp [World.frozen?,hz]
   have v1:wd.cell? ⟨bb,1,none⟩=some (.int .i64 b1):=by simp [World.cell?,hb]
   have z1:wd.cell? ⟨w.heap.size,1,none⟩=some (.int .i64 0):=by simp [World.cell?,hz]
   have y1:wd.frozen? ⟨w.heap.size,1,none⟩=false:=by simp [World.frozen?,hz]
   have v2:wd.cell? ⟨bb,2,none⟩=some (.int .i64 n2):=by simp [World.cell?,hb]
   have z2:wd.cell? ⟨w.heap.size,2,none⟩=some (.int .i64 0):=by simp [World.cell?,hz]
   have y2:wd.frozen? ⟨w.heap.size,2,none⟩=false:=by simp [World.frozen?,hz]
   have v3:wd.cell? ⟨bb,3,none⟩=some (.int .i64 b6):=by simp [World.cell?,hb]
   have z3:wd.cell? ⟨w.heap.size,3,none⟩=some (.int .i64 0):=by simp [World.cell?,hz]
   have y3:wd.frozen? ⟨w.heap.size,3,none⟩=false:=by simp [World.frozen?,hz]
   have v4:wd.cell? ⟨bb,4,none⟩=some (.int .i64 b7):=by simp [World.cell?,hb]
   have z4:wd.cell? ⟨w.heap.size,4,none⟩=some (.int .i64 0):=by simp [World.cell?,hz]
   have y4:wd.frozen? ⟨w.heap.size,4,none⟩=false:=by simp [World.frozen?,hz]
   have v5:wd.cell? ⟨bb,5,none⟩=some (.int .i64 n8):=by simp [World.cell?,hb]
   have z5:wd.cell? ⟨w.heap.size,5,none⟩=some (.int .i64 0):=by simp [World.cell?,hz]
   have y5:wd.frozen? ⟨w.heap.size,5,none⟩=false:=by simp [World.frozen?,hz]
   have v6:wd.cell? ⟨bb,6,none⟩=some (.int .i64 n12):=by simp [World.cell?,hb]
   have z6:wd.cell? ⟨w.heap.size,6,none⟩=some (.int .i64 0):=by simp [World.cell?,hz]
   have y6:wd.frozen? ⟨w.heap.size,6,none⟩=false:=by simp [World.frozen?,hz]
   have v7:wd.cell? ⟨bb,7,none⟩=some (.int .i64 n16):=by simp [World.cell?,hb]
   have z7:wd.cell? ⟨w.heap.size,7,none⟩=some (.int .i64 0):=by simp [World.cell?,hz]
   have y7:wd.frozen? ⟨w.heap.size,7,none⟩=false:=by simp [World.frozen?,hz]
   have HX:=Lib.hid hx
   have hxs:=hx.below.size
   clear hb hz hx
   go_wp2_with (go_at_call 109;refine (HAE.out _ (hE.ex (HX.out.trans (by repeat (first|exact Ex.refl _|refine Ex.alloc ?_ _|refine Ex.ext ?_ _ _|refine Ex.drew ?_|refine Ex.drewN ?_ _))))).mono ?_;rintro e w1 ⟨rfl,l6,d6,rfl⟩)
   (try simp only [Exit.inBlock,Exit.then])
   have hW:=set8_heap HZ.out (.int .u8 b0) (.int .i64 b1) (.int .i64 n2) (.int .i64 b6) (.int .i64 b7) (.int .i64 n8) (.int .i64 n12) (.int .i64 n16)
   have hW8:(Proofs.YtabbgpjofkaomaaGreatDoor.ext ((((((((wd.setCell ⟨w.heap.size,0,none⟩ (.int .u8 b0)).setCell ⟨w.heap.size,1,none⟩ (.int .i64 b1)).setCell ⟨w.heap.size,2,none⟩ (.int .i64 n2)).setCell ⟨w.heap.size,3,none⟩ (.int .i64 b6)).setCell ⟨w.heap.size,4,none⟩ (.int .i64 b7)).setCell ⟨w.heap.size,5,none⟩ (.int .i64 n8)).setCell ⟨w.heap.size,6,none⟩ (.int .i64 n12)).setCell ⟨w.heap.size,7,none⟩ (.int .i64 n16)) l6 d6).heap[w.heap.size]?=some (.cells #[.int .u8 b0,.int .i64 b1,.int .i64 n2,.int .i64 b6,.int .i64 b7,.int .i64 n8,.int .i64 n12,.int .i64 n16] 45 (0,0)):=by
    show (((((((((wd.setCell ⟨w.heap.size,0,none⟩ (.int .u8 b0)).setCell ⟨w.heap.size,1,none⟩ (.int .i64 b1)).setCell ⟨w.heap.size,2,none⟩ (.int .i64 n2)).setCell ⟨w.heap.size,3,none⟩ (.int .i64 b6)).setCell ⟨w.heap.size,4,none⟩ (.int .i64 b7)).setCell ⟨w.heap.size,5,none⟩ (.int .i64 n8)).setCell ⟨w.heap.size,6,none⟩ (.int .i64 n12)).setCell ⟨w.heap.size,7,none⟩ (.int .i64 n16)).heap++l6.toArray)[w.heap.size]?=_
    rw [Array.getElem?_append_left (Array.getElem?_eq_some_iff.1 hW).1]
    exact hW
   have hxe:Ex w (Proofs.YtabbgpjofkaomaaGreatDoor.ext ((((((((wd.setCell ⟨w.heap.size,0,none⟩ (.int .u8 b0)).setCell ⟨w.heap.size,1,none⟩ (.int .i64 b1)).setCell ⟨w.heap.size,2,none⟩ (.int .i64 n2)).setCell ⟨w.heap.size,3,none⟩ (.int .i64 b6)).setCell ⟨w.heap.size,4,none⟩ (.int .i64 b7)).setCell ⟨w.heap.size,5,none⟩ (.int .i64 n8)).setCell ⟨w.heap.size,6,none⟩ (.int .i64 n12)).setCell ⟨w.heap.size,7,none⟩ (.int .i64 n16)) l6 d6):=Ex.of (by (refine Below.trans HX.out.below ?_;repeat (first|(with_reducible exact Below.refl _ _)|(with_reducible refine Below.drew ?_)|(with_reducible refine Below.drewN ?_ _)|((with_reducible refine Below.ext ?_ ?_ _ _);rotate_left;(focus (first|omega|(simp [go_sem];done)|(simp [go_sem];omega))))|((with_reducible refine Below.alloc ?_ ?_ _);rotate_left;(focus (first|omega|(simp [go_sem];done)|(simp [go_sem];omega))))|((with_reducible refine Below.setCell ?_ ?_ _);rotate_left;(focus (first|omega|(simp [go_sem];done)|(simp [go_sem];omega)))))))
   generalize (Proofs.YtabbgpjofkaomaaGreatDoor.ext ((((((((wd.setCell ⟨w.heap.size,0,none⟩ (.int .u8 b0)).setCell ⟨w.heap.size,1,none⟩ (.int .i64 b1)).setCell ⟨w.heap.size,2,none⟩ (.int .i64 n2)).setCell ⟨w.heap.size,3,none⟩ (.int .i64 b6)).setCell ⟨w.heap.size,4,none⟩ (.int .i64 b7)).setCell ⟨w.heap.size,5,none⟩ (.int .i64 n8)).setCell ⟨w.heap.size,6,none⟩ (.int .i64 n12)).setCell ⟨w.heap.size,7,none⟩ (.int .i64 n16)) l6 d6)=W8 at *
   have dd0:W8.cell? ⟨w.heap.size,0,none⟩=some (.int .u8 b0):=by simp [World.cell?,hW8]
   have dd1:W8.cell? ⟨w.heap.size,1,none⟩=some (.int .i64 b1):=by simp [World.cell?,hW8]
   have dd2:W8.cell? ⟨w.heap.size,2,none⟩=some (.int .i64 n2):=by simp [World.cell?,hW8]
   have dd3:W8.cell? ⟨w.heap.size,3,none⟩=some (.int .i64 b6):=by simp [World.cell?,hW8]
   have dd4:W8.cell? ⟨w.heap.size,4,none⟩=some (.int .i64 b7):=by simp [World.cell?,hW8]
   have dd5:W8.cell? ⟨w.heap.size,5,none⟩=some (.int .i64 n8):=by simp [World.cell?,hW8]
   have dd6:W8.cell? ⟨w.heap.size,6,none⟩=some (.int .i64 n12):=by simp [World.cell?,hW8]
   have dd7:W8.cell? ⟨w.heap.size,7,none⟩=some (.int .i64 n16):=by simp [World.cell?,hW8]
   refine bodyPost_ret (v:=.tuple #[.agg #[.int .u8 b0,.int .i64 b1,.int .i64 n2,.int .i64 b6,.int .i64 b7,.int .i64 n8,.int .i64 n12,.int .i64 n16],.nilIface]) ?_ rfl ⟨rfl,hxe⟩
   simp only [results,Tryz.results75]
   simp [go_sem,↓IntWalk.iteOmega,dd0,dd1,dd2,dd3,dd4,dd5,dd6,dd7]
 ·rw [if_neg he]
  rw [errV_pos _ _ he] at HAE ⊢
  go_enter Tryz.func75,Tryz.ntmps75
  go_wp2_with fail
  go_region_law (first
   | (go_simp;go_at_call 107;refine (HSM.out _).mono ?_;rintro e w1 ⟨rfl,rfl⟩)
   | (go_simp;go_at_call 106;refine (wireLow_any c _ hcl).mono ?_;rintro e w1 ⟨rfl,l5,d5,rfl⟩))
  all_goals go_wp2_with fail
  go_cut [4] (fun v wx=>v=.pointer (some ⟨w.heap.size+1+l5.length,0,none⟩)∧wx.heap[w.heap.size+1+l5.length]?=some (.cells #[.int .u8 b0,.int .i64 b1,.int .i64 n2,.int .i64 b6,.int .i64 b7,.int .i64 n8,.int .i64 n12,.int .i64 n16] 45 (0,0))∧wx.heap[w.heap.size]?=some (.cells #[.int .u8 0,.int .i64 0,.int .i64 0,.int .i64 0,.int .i64 0,.int .i64 0,.int .i64 0,.int .i64 0] 45 (0,0))∧Ex w wx)
  case first =>
   refine wp_region_any (by kernel_rfl) ?_
   (try (change wpAny _ _ _ _ _ _ _ (World.drew _)))
   refine wpAny_take (i:=0) (v:=?_) rfl (by kernel_rfl) (by kernel_rfl) (by kernel_rfl) (fun _ _ _ h=>h) (Or.inl ⟨by rfl,?_⟩) ?_
   rotate_left
   focus (intro w;go_simp;(try with_reducible rfl))
   (try simp only [Act.put,List.setIfInBounds_toArray,List.set_cons_zero,List.set_cons_succ])
   refine wpAny_take (i:=2) (v:=?_) rfl (by kernel_rfl) (by kernel_rfl) (by kernel_rfl) (fun _ _ _ h=>h) (Or.inl ⟨by rfl,?_⟩) ?_
   rotate_left
   focus (intro w;go_simp;(try with_reducible rfl))
   (try simp only [Act.put,List.setIfInBounds_toArray,List.set_cons_zero,List.set_cons_succ])
   refine wpAny_take (i:=5) (v:=?_) rfl (by kernel_rfl) (by kernel_rfl) (by kernel_rfl) (fun _ _ _ h=>h) (Or.inl ⟨by rfl,?_⟩) ?_
   rotate_left
   focus (intro w;go_simp;(try with_reducible rfl))
   (try simp only [Act.put,List.setIfInBounds_toArray,List.set_cons_zero,List.set_cons_succ])
   refine wpAny_take (i:=7) (v:=?_) rfl (by kernel_rfl) (by kernel_rfl) (by kernel_rfl) (fun _ _ _ h=>h) (Or.inl ⟨by rfl,?_⟩) ?_
   rotate_left
   focus (intro w;go_simp;(try with_reducible rfl))
   (try simp only [Act.put,List.setIfInBounds_toArray,List.set_cons_zero,List.set_cons_succ])
   refine wpAny_take (i:=10) (v:=?_) rfl (by kernel_rfl) (by kernel_rfl) (by kernel_rfl) (fun _ _ _ h=>h) (Or.inl ⟨by rfl,?_⟩) ?_
   rotate_left
   focus (intro w;go_simp;(try with_reducible rfl))
   (try simp only [Act.put,List.setIfInBounds_toArray,List.set_cons_zero,List.set_cons_succ])
   refine wpAny_take (i:=13) (v:=?_) rfl (by kernel_rfl) (by kernel_rfl) (by kernel_rfl) (fun _ _ _ h=>h) (Or.inl ⟨by rfl,?_⟩) ?_
   rotate_left
   focus (intro w;go_simp;(try with_reducible rfl))
   (try simp only [Act.put,List.setIfInBounds_toArray,List.set_cons_zero,List.set_cons_succ])
   refine wpAny_take (i:=15) (v:=?_) rfl (by kernel_rfl) (by kernel_rfl) (by kernel_rfl) (fun _ _ _ h=>h) (Or.inl ⟨by rfl,?_⟩) ?_
   rotate_left
   focus (intro w;go_simp;(try with_reducible rfl))
   (try simp only [Act.put,List.setIfInBounds_toArray,List.set_cons_zero,List.set_cons_succ])
   refine wpAny_take (i:=17) (v:=?_) rfl (by kernel_rfl) (by kernel_rfl) (by kernel_rfl) (fun _ _ _ h=>h) (Or.inl ⟨by rfl,?_⟩) ?_
   rotate_left
   focus (intro w;go_simp;(try with_reducible rfl))
   (try simp only [Act.put,List.setIfInBounds_toArray,List.set_cons_zero,List.set_cons_succ])
   refine wpAny_take (i:=1) (v:=?_) rfl (by kernel_rfl) (by kernel_rfl) (by kernel_rfl) (fun _ _ _ h=>h) (Or.inl ⟨by rfl,?_⟩) ?_
   rotate_left
   focus (intro w;go_simp;(try with_reducible rfl))
   (try simp only [Act.put,List.setIfInBounds_toArray,List.set_cons_zero,List.set_cons_succ])
   refine wpAny_take (i:=3) (v:=?_) rfl (by kernel_rfl) (by kernel_rfl) (by kernel_rfl) (fun _ _ _ h=>h) (Or.inl ⟨by rfl,?_⟩) ?_
   rotate_left
   focus (intro w;go_simp;(try with_reducible rfl))
   (try simp only [Act.put,List.setIfInBounds_toArray,List.set_cons_zero,List.set_cons_succ])
   refine wpAny_take (i:=4) (v:=?_) rfl (by kernel_rfl) (by kernel_rfl) (by kernel_rfl) (fun _ _ _ h=>h) (Or.inl ⟨by rfl,?_⟩) ?_
   rotate_left
   focus (intro w;go_simp;(try with_reducible rfl))
   (try simp only [Act.put,List.setIfInBounds_toArray,List.set_cons_zero,List.set_cons_succ])
   refine wpAny_take (i:=8) (v:=?_) rfl (by kernel_rfl) (by kernel_rfl) (by kernel_rfl) (fun _ _ _ h=>h) (Or.inl ⟨by rfl,?_⟩) ?_
   rotate_left
   focus (intro w;go_simp;(try with_reducible rfl))
   (try simp only [Act.put,List.setIfInBounds_toArray,List.set_cons_zero,List.set_cons_succ])
   refine wpAny_take (i:=9) (v:=?_) rfl (by kernel_rfl) (by kernel_rfl) (by kernel_rfl) (fun _ _ _ h=>h) (Or.inl ⟨by rfl,?_⟩) ?_
   rotate_left
   focus (intro w;go_simp;(try with_reducible rfl))
   (try simp only [Act.put,List.setIfInBounds_toArray,List.set_cons_zero,List.set_cons_succ])
   refine wpAny_take (i:=11) (v:=?_) rfl (by kernel_rfl) (by kernel_rfl) (by kernel_rfl) (fun _ _ _ h=>h) (Or.inl ⟨by rfl,?_⟩) ?_
   rotate_left
   focus (intro w;go_simp;(try with_reducible rfl))
   (try simp only [Act.put,List.setIfInBounds_toArray,List.set_cons_zero,List.set_cons_succ])
   refine wpAny_take (i:=12) (v:=?_) rfl (by kernel_rfl) (by kernel_rfl) (by kernel_rfl) (fun _ _ _ h=>h) (Or.inl ⟨by rfl,?_⟩) ?_
   rotate_left
   focus (intro w;go_simp;(try with_reducible rfl))
   (try simp only [Act.put,List.setIfInBounds_toArray,List.set_cons_zero,List.set_cons_succ])
   refine wpAny_ready (rs:=[6,20]) (by kernel_rfl) (by simp) ?_
   refine AllReady.cons rfl (fun K hK=>?_) ?_
   ·go_simp
    go_wp2_with (first
     | (go_at_call 108;with_reducible refine (F2.out _).mono ?_;rintro e w1 ⟨rfl,m2,rfl⟩)
     | (go_at_call 108;with_reducible refine (F8.out _).mono ?_;rintro e w1 ⟨rfl,m8,rfl⟩)
     | (go_at_call 108;with_reducible refine (F12.out _).mono ?_;rintro e w1 ⟨rfl,m12,rfl⟩)
     | (go_at_call 108;with_reducible refine (F16.out _).mono ?_;rintro e w1 ⟨rfl,m16,rfl⟩))
    (try (refine hK _ _ ?_;clear hK K))
    refine wpAny_ready (rs:=[14,20]) (by kernel_rfl) (by simp) ?_
    refine AllReady.cons rfl (fun K hK=>?_) ?_
    ·go_simp
     go_wp2_with (first
      | (go_at_call 108;with_reducible refine (F2.out _).mono ?_;rintro e w1 ⟨rfl,m2,rfl⟩)
      | (go_at_call 108;with_reducible refine (F8.out _).mono ?_;rintro e w1 ⟨rfl,m8,rfl⟩)
      | (go_at_call 108;with_reducible refine (F12.out _).mono ?_;rintro e w1 ⟨rfl,m12,rfl⟩)
      | (go_at_call 108;with_reducible refine (F16.out _).mono ?_;rintro e w1 ⟨rfl,m16,rfl⟩))
     (try (refine hK _ _ ?_;clear hK K))
     refine wpAny_ready (rs:=[16,20]) (by kernel_rfl) (by simp) ?_
     refine AllReady.cons rfl (fun K hK=>?_) ?_
     ·go_simp
      go_wp2_with (first
       | (go_at_call 108;with_reducible refine (F2.out _).mono ?_;rintro e w1 ⟨rfl,m2,rfl⟩)
       | (go_at_call 108;with_reducible refine (F8.out _).mono ?_;rintro e w1 ⟨rfl,m8,rfl⟩)
       | (go_at_call 108;with_reducible refine (F12.out _).mono ?_;rintro e w1 ⟨rfl,m12,rfl⟩)
       | (go_at_call 108;with_reducible refine (F16.out _).mono ?_;rintro e w1 ⟨rfl,m16,rfl⟩))
      (try (refine hK _ _ ?_;clear hK K))
      refine wpAny_ready (rs:=[18,20]) (by kernel_rfl) (by simp) ?_
      refine AllReady.cons rfl (fun K hK=>?_) ?_
      ·go_simp
       go_wp2_with (first
        | (go_at_call 108;with_reducible refine (F2.out _).mono ?_;rintro e w1 ⟨rfl,m2,rfl⟩)
        | (go_at_call 108;with_reducible refine (F8.out _).mono ?_;rintro e w1 ⟨rfl,m8,rfl⟩)
        | (go_at_call 108;with_reducible refine (F12.out _).mono ?_;rintro e w1 ⟨rfl,m12,rfl⟩)
        | (go_at_call 108;with_reducible refine (F16.out _).mono ?_;rintro e w1 ⟨rfl,m16,rfl⟩))
       (try (refine hK _ _ ?_;clear hK K))
       refine wpAny_take (i:=19) (v:=?_) rfl (by kernel_rfl) (by kernel_rfl) (by kernel_rfl) (fun _ _ _ h=>h) (Or.inl ⟨by rfl,?_⟩) ?_
       rotate_left
       focus (intro w;go_simp;(try with_reducible rfl))
       (try simp only [Act.put,List.setIfInBounds_toArray,List.set_cons_zero,List.set_cons_succ])
       refine wpAny_ready (rs:=[20]) (by kernel_rfl) (by simp) (AllReady.cons rfl (fun K hK=>?_) AllReady.nil)
       go_simp
       refine hK _ _ ?_
       clear hK K
       refine wpAny_ready (rs:=[21]) (by kernel_rfl) (by simp) (AllReady.cons rfl (fun K hK=>?_) AllReady.nil)
       go_simp
       refine hK _ _ ?_
       clear hK K
       refine wpAny_done (by kernel_rfl) ?_ _
       go_wp2_with fail
       go_meet
       case rel =>
        refine ⟨rfl,?_,?_,Ex.of (by (refine Below.trans (Below.refl _ _) ?_;repeat (first|(with_reducible exact Below.refl _ _)|(with_reducible refine Below.drew ?_)|(with_reducible refine Below.drewN ?_ _)|((with_reducible refine Below.ext ?_ ?_ _ _);rotate_left;(focus (first|omega|(simp [go_sem];done)|(simp [go_sem];omega))))|((with_reducible refine Below.alloc ?_ ?_ _);rotate_left;(focus (first|omega|(simp [go_sem];done)|(simp [go_sem];omega))))|((with_reducible refine Below.setCell ?_ ?_ _);rotate_left;(focus (first|omega|(simp [go_sem];done)|(simp [go_sem];omega)))))))⟩
        ·first
          | ((with_reducible refine set8_heap (z0:=.int .u8 0) (z1:=.int .i64 0) (z2:=.int .i64 0) (z3:=.int .i64 0) (z4:=.int .i64 0) (z5:=.int .i64 0) (z6:=.int .i64 0) (z7:=.int .i64 0) (t:=45) ?_ _ _ _ _ _ _ _ _);show ((w.heap.push _++l5.toArray).push _)[w.heap.size+1+l5.length]?=_;exact top1 _ _ _ _)
          | (show ((w.heap.push _++l5.toArray).push _)[w.heap.size+1+l5.length]?=_;exact top1 _ _ _ _)
        ·first
          | ((with_reducible refine (set8_other ?_ _ _ _ _ _ _ _ _).trans ?_);(focus omega);show ((w.heap.push _++l5.toArray).push _)[w.heap.size]?=_;exact top0 _ _ _ _)
          | (show ((w.heap.push _++l5.toArray).push _)[w.heap.size]?=_;exact top0 _ _ _ _)
      ·refine AllReady.cons rfl (fun K hK=>?_) AllReady.nil
       go_simp
       refine hK _ _ ?_
       clear hK K
       refine wpAny_ready (rs:=[18]) (by kernel_rfl) (by simp) (AllReady.cons rfl (fun K hK=>?_) AllReady.nil)
       go_simp
       go_wp2_with (first
        | (go_at_call 108;with_reducible refine (F2.out _).mono ?_;rintro e w1 ⟨rfl,m2,rfl⟩)
        | (go_at_call 108;with_reducible refine (F8.out _).mono ?_;rintro e w1 ⟨rfl,m8,rfl⟩)
        | (go_at_call 108;with_reducible refine (F12.out _).mono ?_;rintro e w1 ⟨rfl,m12,rfl⟩)
        | (go_at_call 108;with_reducible refine (F16.out _).mono ?_;rintro e w1 ⟨rfl,m16,rfl⟩))
       (try (refine hK _ _ ?_;clear hK K))
       refine wpAny_take (i:=19) (v:=?_) rfl (by kernel_rfl) (by kernel_rfl) (by kernel_rfl) (fun _ _ _ h=>h) (Or.inl ⟨by rfl,?_⟩) ?_
       rotate_left
       focus (intro w;go_simp;(try with_reducible rfl))
       (try simp only [Act.put,List.setIfInBounds_toArray,List.set_cons_zero,List.set_cons_succ])
       refine wpAny_ready (rs:=[21]) (by kernel_rfl) (by simp) (AllReady.cons rfl (fun K hK=>?_) AllReady.nil)
       go_simp
       refine hK _ _ ?_
       clear hK K
       refine wpAny_done (by kernel_rfl) ?_ _
       go_wp2_with fail
       go_meet
       case rel =>
        refine ⟨rfl,?_,?_,Ex.of (by (refine Below.trans (Below.refl _ _) ?_;repeat (first|(with_reducible exact Below.refl _ _)|(with_reducible refine Below.drew ?_)|(with_reducible refine Below.drewN ?_ _)|((with_reducible refine Below.ext ?_ ?_ _ _);rotate_left;(focus (first|omega|(simp [go_sem];done)|(simp [go_sem];omega))))|((with_reducible refine Below.alloc ?_ ?_ _);rotate_left;(focus (first|omega|(simp [go_sem];done)|(simp [go_sem];omega))))|((with_reducible refine Below.setCell ?_ ?_ _);rotate_left;(focus (first|omega|(simp [go_sem];done)|(simp [go_sem];omega)))))))⟩
        ·first
          | ((with_reducible refine set8_heap (z0:=.int .u8 0) (z1:=.int .i64 0) (z2:=.int .i64 0) (z3:=.int .i64 0) (z4:=.int .i64 0) (z5:=.int .i64 0) (z6:=.int .i64 0) (z7:=.int .i64 0) (t:=45) ?_ _ _ _ _ _ _ _ _);show ((w.heap.push _++l5.toArray).push _)[w.heap.size+1+l5.length]?=_;exact top1 _ _ _ _)
          | (show ((w.heap.push _++l5.toArray).push _)[w.heap.size+1+l5.length]?=_;exact top1 _ _ _ _)
        ·first
          | ((with_reducible refine (set8_other ?_ _ _ _ _ _ _ _ _).trans ?_);(focus omega);show ((w.heap.push _++l5.toArray).push _)[w.heap.size]?=_;exact top0 _ _ _ _)
          | (show ((w.heap.push _++l5.toArray).push _)[w.heap.size]?=_;exact top0 _ _ _ _)
     ·refine AllReady.cons rfl (fun K hK=>?_) AllReady.nil
      go_simp
      refine hK _ _ ?_
      clear hK K
      refine wpAny_ready (rs:=[16]) (by kernel_rfl) (by simp) (AllReady.cons rfl (fun K hK=>?_) AllReady.nil)
      go_simp
      go_wp2_with (first
       | (go_at_call 108;with_reducible refine (F2.out _).mono ?_;rintro e w1 ⟨rfl,m2,rfl⟩)
       | (go_at_call 108;with_reducible refine (F8.out _).mono ?_;rintro e w1 ⟨rfl,m8,rfl⟩)
       | (go_at_call 108;with_reducible refine (F12.out _).mono ?_;rintro e w1 ⟨rfl,m12,rfl⟩)
       | (go_at_call 108;with_reducible refine (F16.out _).mono ?_;rintro e w1 ⟨rfl,m16,rfl⟩))
      (try (refine hK _ _ ?_;clear hK K))
      refine wpAny_ready (rs:=[18]) (by kernel_rfl) (by simp) (AllReady.cons rfl (fun K hK=>?_) AllReady.nil)
      go_simp
      go_wp2_with (first
       | (go_at_call 108;with_reducible refine (F2.out _).mono ?_;rintro e w1 ⟨rfl,m2,rfl⟩)
       | (go_at_call 108;with_reducible refine (F8.out _).mono ?_;rintro e w1 ⟨rfl,m8,rfl⟩)
       | (go_at_call 108;with_reducible refine (F12.out _).mono ?_;rintro e w1 ⟨rfl,m12,rfl⟩)
       | (go_at_call 108;with_reducible refine (F16.out _).mono ?_;rintro e w1 ⟨rfl,m16,rfl⟩))
      (try (refine hK _ _ ?_;clear hK K))
      refine wpAny_take (i:=19) (v:=?_) rfl (by kernel_rfl) (by kernel_rfl) (by kernel_rfl) (fun _ _ _ h=>h) (Or.inl ⟨by rfl,?_⟩) ?_
      rotate_left
      focus (intro w;go_simp;(try with_reducible rfl))
      (try simp only [Act.put,List.setIfInBounds_toArray,List.set_cons_zero,List.set_cons_succ])
      refine wpAny_ready (rs:=[21]) (by kernel_rfl) (by simp) (AllReady.cons rfl (fun K hK=>?_) AllReady.nil)
      go_simp
      refine hK _ _ ?_
      clear hK K
      refine wpAny_done (by kernel_rfl) ?_ _
      go_wp2_with fail
      go_meet
      case rel =>
       refine ⟨rfl,?_,?_,Ex.of (by (refine Below.trans (Below.refl _ _) ?_;repeat (first|(with_reducible exact Below.refl _ _)|(with_reducible refine Below.drew ?_)|(with_reducible refine Below.drewN ?_ _)|((with_reducible refine Below.ext ?_ ?_ _ _);rotate_left;(focus (first|omega|(simp [go_sem];done)|(simp [go_sem];omega))))|((with_reducible refine Below.alloc ?_ ?_ _);rotate_left;(focus (first|omega|(simp [go_sem];done)|(simp [go_sem];omega))))|((with_reducible refine Below.setCell ?_ ?_ _);rotate_left;(focus (first|omega|(simp [go_sem];done)|(simp [go_sem];omega)))))))⟩
       ·first
         | ((with_reducible refine set8_heap (z0:=.int .u8 0) (z1:=.int .i64 0) (z2:=.int .i64 0) (z3:=.int .i64 0) (z4:=.int .i64 0) (z5:=.int .i64 0) (z6:=.int .i64 0) (z7:=.int .i64 0) (t:=45) ?_ _ _ _ _ _ _ _ _);show ((w.heap.push _++l5.toArray).push _)[w.heap.size+1+l5.length]?=_;exact top1 _ _ _ _)
         | (show ((w.heap.push _++l5.toArray).push _)[w.heap.size+1+l5.length]?=_;exact top1 _ _ _ _)
       ·first
         | ((with_reducible refine (set8_other ?_ _ _ _ _ _ _ _ _).trans ?_);(focus omega);show ((w.heap.push _++l5.toArray).push _)[w.heap.size]?=_;exact top0 _ _ _ _)
         | (show ((w.heap.push _++l5.toArray).push _)[w.heap.size]?=_;exact top0 _ _ _ _)
    ·refine AllReady.cons rfl (fun K hK=>?_) AllReady.nil
     go_simp
     refine hK _ _ ?_
     clear hK K
     refine wpAny_ready (rs:=[14]) (by kernel_rfl) (by simp) (AllReady.cons rfl (fun K hK=>?_) AllReady.nil)
     go_simp
     go_wp2_with (first
      | (go_at_call 108;with_reducible refine (F2.out _).mono ?_;rintro e w1 ⟨rfl,m2,rfl⟩)
      | (go_at_call 108;with_reducible refine (F8.out _).mono ?_;rintro e w1 ⟨rfl,m8,rfl⟩)
      | (go_at_call 108;with_reducible refine (F12.out _).mono ?_;rintro e w1 ⟨rfl,m12,rfl⟩)
      | (go_at_call 108;with_reducible refine (F16.out _).mono ?_;rintro e w1 ⟨rfl,m16,rfl⟩))
     (try (refine hK _ _ ?_;clear hK K))
     refine wpAny_ready (rs:=[16]) (by kernel_rfl) (by simp) (AllReady.cons rfl (fun K hK=>?_) AllReady.nil)
     go_simp
     go_wp2_with (first
      | (go_at_call 108;with_reducible refine (F2.out _).mono ?_;rintro e w1 ⟨rfl,m2,rfl⟩)
      | (go_at_call 108;with_reducible refine (F8.out _).mono ?_;rintro e w1 ⟨rfl,m8,rfl⟩)
      | (go_at_call 108;with_reducible refine (F12.out _).mono ?_;rintro e w1 ⟨rfl,m12,rfl⟩)
      | (go_at_call 108;with_reducible refine (F16.out _).mono ?_;rintro e w1 ⟨rfl,m16,rfl⟩))
     (try (refine hK _ _ ?_;clear hK K))
     refine wpAny_ready (rs:=[18]) (by kernel_rfl) (by simp) (AllReady.cons rfl (fun K hK=>?_) AllReady.nil)
     go_simp
     go_wp2_with (first
      | (go_at_call 108;with_reducible refine (F2.out _).mono ?_;rintro e w1 ⟨rfl,m2,rfl⟩)
      | (go_at_call 108;with_reducible refine (F8.out _).mono ?_;rintro e w1 ⟨rfl,m8,rfl⟩)
      | (go_at_call 108;with_reducible refine (F12.out _).mono ?_;rintro e w1 ⟨rfl,m12,rfl⟩)
      | (go_at_call 108;with_reducible refine (F16.out _).mono ?_;rintro e w1 ⟨rfl,m16,rfl⟩))
     (try (refine hK _ _ ?_;clear hK K))
     refine wpAny_take (i:=19) (v:=?_) rfl (by kernel_rfl) (by kernel_rfl) (by kernel_rfl) (fun _ _ _ h=>h) (Or.inl ⟨by rfl,?_⟩) ?_
     rotate_left
     focus (intro w;go_simp;(try with_reducible rfl))
     (try simp only [Act.put,List.setIfInBounds_toArray,List.set_cons_zero,List.set_cons_succ])
     refine wpAny_ready (rs:=[21]) (by kernel_rfl) (by simp) (AllReady.cons rfl (fun K hK=>?_) AllReady.nil)
     go_simp
     refine hK _ _ ?_
     clear hK K
     refine wpAny_done (by kernel_rfl) ?_ _
     go_wp2_with fail
     go_meet
     case rel =>
      refine ⟨rfl,?_,?_,Ex.of (by (refine Below.trans (Below.refl _ _) ?_;repeat (first|(with_reducible exact Below.refl _ _)|(with_reducible refine Below.drew ?_)|(with_reducible refine Below.drewN ?_ _)|((with_reducible refine Below.ext ?_ ?_ _ _);rotate_left;(focus (first|omega|(simp [go_sem];done)|(simp [go_sem];omega))))|((with_reducible refine Below.alloc ?_ ?_ _);rotate_left;(focus (first|omega|(simp [go_sem];done)|(simp [go_sem];omega))))|((with_reducible refine Below.setCell ?_ ?_ _);rotate_left;(focus (first|omega|(simp [go_sem];done)|(simp [go_sem];omega)))))))⟩
      ·first
        | ((with_reducible refine set8_heap (z0:=.int .u8 0) (z1:=.int .i64 0) (z2:=.int .i64 0) (z3:=.int .i64 0) (z4:=.int .i64 0) (z5:=.int .i64 0) (z6:=.int .i64 0) (z7:=.int .i64 0) (t:=45) ?_ _ _ _ _ _ _ _ _);show ((w.heap.push _++l5.toArray).push _)[w.heap.size+1+l5.length]?=_;exact top1 _ _ _ _)
        | (show ((w.heap.push _++l5.toArray).push _)[w.heap.size+1+l5.length]?=_;exact top1 _ _ _ _)
      ·first
        | ((with_reducible refine (set8_other ?_ _ _ _ _ _ _ _ _).trans ?_);(focus omega);show ((w.heap.push _++l5.toArray).push _)[w.heap.size]?=_;exact top0 _ _ _ _)
        | (show ((w.heap.push _++l5.toArray).push _)[w.heap.size]?=_;exact top0 _ _ _ _)
   ·refine AllReady.cons rfl (fun K hK=>?_) AllReady.nil
    go_simp
    refine hK _ _ ?_
    clear hK K
    refine wpAny_ready (rs:=[6]) (by kernel_rfl) (by simp) (AllReady.cons rfl (fun K hK=>?_) AllReady.nil)
    go_simp
    go_wp2_with (first
     | (go_at_call 108;with_reducible refine (F2.out _).mono ?_;rintro e w1 ⟨rfl,m2,rfl⟩)
     | (go_at_call 108;with_reducible refine (F8.out _).mono ?_;rintro e w1 ⟨rfl,m8,rfl⟩)
     | (go_at_call 108;with_reducible refine (F12.out _).mono ?_;rintro e w1 ⟨rfl,m12,rfl⟩)
     | (go_at_call 108;with_reducible refine (F16.out _).mono ?_;rintro e w1 ⟨rfl,m16,rfl⟩))
    (try (refine hK _ _ ?_;clear hK K))
    refine wpAny_ready (rs:=[14]) (by kernel_rfl) (by simp) (AllReady.cons rfl (fun K hK=>?_) AllReady.nil)
    go_simp
    go_wp2_with (first
     | (go_at_call 108;with_reducible refine (F2.out _).mono ?_;rintro e w1 ⟨rfl,m2,rfl⟩)
     | (go_at_call 108;with_reducible refine (F8.out _).mono ?_;rintro e w1 ⟨rfl,m8,rfl⟩)
     | (go_at_call 108;with_reducible refine (F12.out _).mono ?_;rintro e w1 ⟨rfl,m12,rfl⟩)
     | (go_at_call 108;with_reducible refine (F16.out _).mono ?_;rintro e w1 ⟨rfl,m16,rfl⟩))
    (try (refine hK _ _ ?_;clear hK K))
    refine wpAny_ready (rs:=[16]) (by kernel_rfl) (by simp) (AllReady.cons rfl (fun K hK=>?_) AllReady.nil)
    go_simp
    go_wp2_with (first
     | (go_at_call 108;with_reducible refine (F2.out _).mono ?_;rintro e w1 ⟨rfl,m2,rfl⟩)
     | (go_at_call 108;with_reducible refine (F8.out _).mono ?_;rintro e w1 ⟨rfl,m8,rfl⟩)
     | (go_at_call 108;with_reducible refine (F12.out _).mono ?_;rintro e w1 ⟨rfl,m12,rfl⟩)
     | (go_at_call 108;with_reducible refine (F16.out _).mono ?_;rintro e w1 ⟨rfl,m16,rfl⟩))
    (try (refine hK _ _ ?_;clear hK K))
    refine wpAny_ready (rs:=[18]) (by kernel_rfl) (by simp) (AllReady.cons rfl (fun K hK=>?_) AllReady.nil)
    go_simp
    go_wp2_with (first
     | (go_at_call 108;with_reducible refine (F2.out _).mono ?_;rintro e w1 ⟨rfl,m2,rfl⟩)
     | (go_at_call 108;with_reducible refine (F8.out _).mono ?_;rintro e w1 ⟨rfl,m8,rfl⟩)
     | (go_at_call 108;with_reducible refine (F12.out _).mono ?_;rintro e w1 ⟨rfl,m12,rfl⟩)
     | (go_at_call 108;with_reducible refine (F16.out _).mono ?_;rintro e w1 ⟨rfl,m16,rfl⟩))
    (try (refine hK _ _ ?_;clear hK K))
    refine wpAny_take (i:=19) (v:=?_) rfl (by kernel_rfl) (by kernel_rfl) (by kernel_rfl) (fun _ _ _ h=>h) (Or.inl ⟨by rfl,?_⟩) ?_
    rotate_left
    focus (intro w;go_simp;(try with_reducible rfl))
    (try simp only [Act.put,List.setIfInBounds_toArray,List.set_cons_zero,List.set_cons_succ])
    refine wpAny_ready (rs:=[21]) (by kernel_rfl) (by simp) (AllReady.cons rfl (fun K hK=>?_) AllReady.nil)
    go_simp
    refine hK _ _ ?_
    clear hK K
    refine wpAny_done (by kernel_rfl) ?_ _
    go_wp2_with fail
    go_meet
    case rel =>
     refine ⟨rfl,?_,?_,Ex.of (by (refine Below.trans (Below.refl _ _) ?_;repeat (first|(with_reducible exact Below.refl _ _)|(with_reducible refine Below.drew ?_)|(with_reducible refine Below.drewN ?_ _)|((with_reducible refine Below.ext ?_ ?_ _ _);rotate_left;(focus (first|omega|(simp [go_sem];done)|(simp [go_sem];omega))))|((with_reducible refine Below.alloc ?_ ?_ _);rotate_left;(focus (first|omega|(simp [go_sem];done)|(simp [go_sem];omega))))|((with_reducible refine Below.setCell ?_ ?_ _);rotate_left;(focus (first|omega|(simp [go_sem];done)|(simp [go_sem];omega)))))))⟩
     ·first
       | ((with_reducible refine set8_heap (z0:=.int .u8 0) (z1:=.int .i64 0) (z2:=.int .i64 0) (z3:=.int .i64 0) (z4:=.int .i64 0) (z5:=.int .i64 0) (z6:=.int .i64 0) (z7:=.int .i64 0) (t:=45) ?_ _ _ _ _ _ _ _ _);show ((w.heap.push _++l5.toArray).push _)[w.heap.size+1+l5.length]?=_;exact top1 _ _ _ _)
       | (show ((w.heap.push _++l5.toArray).push _)[w.heap.size+1+l5.length]?=_;exact top1 _ _ _ _)
     ·first
       | ((with_reducible refine (set8_other ?_ _ _ _ _ _ _ _ _).trans ?_);(focus omega);show ((w.heap.push _++l5.toArray).push _)[w.heap.size]?=_;exact top0 _ _ _ _)
       | (show ((w.heap.push _++l5.toArray).push _)[w.heap.size]?=_;exact top0 _ _ _ _)
  case rest =>
   obtain ⟨rfl,hb,hz,hx⟩:=hcut
   have hbb:w.heap.size<w.heap.size+1+l5.length:=by omega
   generalize w.heap.size+1+l5.length=bb at *
   obtain ⟨wd,rfl⟩:∃ x,x=wc:=⟨_,rfl⟩
   have hbs:=(Array.getElem?_eq_some_iff.1 hb).1
   have HZ:=Lib.hid hz
   have v0:wd.cell? ⟨bb,0,none⟩=some (.int .u8 b0):=by simp [World.cell?,hb]
   have z0:wd.cell? ⟨w.heap.size,0,none⟩=some (.int .u8 0):=by simp [World.cell?,hz]
   have y0:wd.frozen? ⟨w.heap.size,0,none⟩=false:=by simp [World.frozen?,hz]
   have v1:wd.cell? ⟨bb,1,none⟩=some (.int .i64 b1):=by simp [World.cell?,hb]
   have z1:wd.cell? ⟨w.heap.size,1,none⟩=some (.int .i64 0):=by simp [World.cell?,hz]
   have y1:wd.frozen? ⟨w.heap.size,1,none⟩=false:=by simp [World.frozen?,hz]
   have v2:wd.cell? ⟨bb,2,none⟩=some (.int .i64 n2):=by simp [World.cell?,hb]
   have z2:wd.cell? ⟨w.heap.size,2,none⟩=some (.int .i64 0):=by simp [World.cell?,hz]
   have y2:wd.frozen? ⟨w.heap.size,2,none⟩=false:=by simp [World.frozen?,hz]
   have v3:wd.cell? ⟨bb,3,none⟩=some (.int .i64 b6):=by simp [World.cell?,hb]
   have z3:wd.cell? ⟨w.heap.size,3,none⟩=some (.int .i64 0):=by simp [World.cell?,hz]
   have y3:wd.frozen? ⟨w.heap.size,3,none⟩=false:=by simp [World.frozen?,hz]
   have v4:wd.cell? ⟨bb,4,none⟩=some (.int .i64 b7):=by simp [World.cell?,hb]
   have z4:wd.cell? ⟨w.heap.size,4,none⟩=some (.int .i64 0):=by simp [World.cell?,hz]
   have y4:wd.frozen? ⟨w.heap.size,4,none⟩=false:=by simp [World.frozen?,hz]
   have v5:wd.cell? ⟨bb,5,none⟩=some (.int .i64 n8):=by simp [World.cell?,hb]
   have z5:wd.cell? ⟨w.heap.size,5,none⟩=some (.int .i64 0):=by simp [World.cell?,hz]
   have y5:wd.frozen? ⟨w.heap.size,5,none⟩=false:=by simp [World.frozen?,hz]
   have v6:wd.cell? ⟨bb,6,none⟩=some (.int .i64 n12):=by simp [World.cell?,hb]
   have z6:wd.cell? ⟨w.heap.size,6,none⟩=some (.int .i64 0):=by simp [World.cell?,hz]
   have y6:wd.frozen? ⟨w.heap.size,6,none⟩=false:=by simp [World.frozen?,hz]
   have v7:wd.cell? ⟨bb,7,none⟩=some (.int .i64 n16):=by simp [World.cell?,hb]
   have z7:wd.cell? ⟨w.heap.size,7,none⟩=some (.int .i64 0):=by simp [World.cell?,hz]
   have y7:wd.frozen? ⟨w.heap.size,7,none⟩=false:=by simp [World.frozen?,hz]
   have HX:=Lib.hid hx
   have hxs:=hx.below.size
   clear hb hz hx
   go_wp2_with (go_at_call 109;refine (HAE.out _ (hE.ex (HX.out.trans (by repeat (first|exact Ex.refl _|refine Ex.alloc ?_ _|refine Ex.ext ?_ _ _|refine Ex.drew ?_|refine Ex.drewN ?_ _))))).mono ?_;rintro e w1 ⟨rfl,l6,d6,rfl⟩)
   (try simp only [Exit.inBlock,Exit.then])
   have hW:=set8_heap HZ.out (.int .u8 0) (.int .i64 0) (.int .i64 0) (.int .i64 0) (.int .i64 0) (.int .i64 0) (.int .i64 0) (.int .i64 0)
   have hW8:(Proofs.YtabbgpjofkaomaaGreatDoor.ext ((((((((wd.setCell ⟨w.heap.size,0,none⟩ (.int .u8 0)).setCell ⟨w.heap.size,1,none⟩ (.int .i64 0)).setCell ⟨w.heap.size,2,none⟩ (.int .i64 0)).setCell ⟨w.heap.size,3,none⟩ (.int .i64 0)).setCell ⟨w.heap.size,4,none⟩ (.int .i64 0)).setCell ⟨w.heap.size,5,none⟩ (.int .i64 0)).setCell ⟨w.heap.size,6,none⟩ (.int .i64 0)).setCell ⟨w.heap.size,7,none⟩ (.int .i64 0)) l6 d6).heap[w.heap.size]?=some (.cells #[.int .u8 0,.int .i64 0,.int .i64 0,.int .i64 0,.int .i64 0,.int .i64 0,.int .i64 0,.int .i64 0] 45 (0,0)):=by
    show (((((((((wd.setCell ⟨w.heap.size,0,none⟩ (.int .u8 0)).setCell ⟨w.heap.size,1,none⟩ (.int .i64 0)).setCell ⟨w.heap.size,2,none⟩ (.int .i64 0)).setCell ⟨w.heap.size,3,none⟩ (.int .i64 0)).setCell ⟨w.heap.size,4,none⟩ (.int .i64 0)).setCell ⟨w.heap.size,5,none⟩ (.int .i64 0)).setCell ⟨w.heap.size,6,none⟩ (.int .i64 0)).setCell ⟨w.heap.size,7,none⟩ (.int .i64 0)).heap++l6.toArray)[w.heap.size]?=_
    rw [Array.getElem?_append_left (Array.getElem?_eq_some_iff.1 hW).1]
    exact hW
   have hxe:Ex w (Proofs.YtabbgpjofkaomaaGreatDoor.ext ((((((((wd.setCell ⟨w.heap.size,0,none⟩ (.int .u8 0)).setCell ⟨w.heap.size,1,none⟩ (.int .i64 0)).setCell ⟨w.heap.size,2,none⟩ (.int .i64 0)).setCell ⟨w.heap.size,3,none⟩ (.int .i64 0)).setCell ⟨w.heap.size,4,none⟩ (.int .i64 0)).setCell ⟨w.heap.size,5,none⟩ (.int .i64 0)).setCell ⟨w.heap.size,6,none⟩ (.int .i64 0)).setCell ⟨w.heap.size,7,none⟩ (.int .i64 0)) l6 d6):=Ex.of (by (refine Below.trans HX.out.below ?_;repeat (first|(with_reducible exact Below.refl _ _)|(with_reducible refine Below.drew ?_)|(with_reducible refine Below.drewN ?_ _)|((with_reducible refine Below.ext ?_ ?_ _ _);rotate_left;(focus (first|omega|(simp [go_sem];done)|(simp [go_sem];omega))))|((with_reducible refine Below.alloc ?_ ?_ _);rotate_left;(focus (first|omega|(simp [go_sem];done)|(simp [go_sem];omega))))|((with_reducible refine Below.setCell ?_ ?_ _);rotate_left;(focus (first|omega|(simp [go_sem];done)|(simp [go_sem];omega)))))))
   generalize (Proofs.YtabbgpjofkaomaaGreatDoor.ext ((((((((wd.setCell ⟨w.heap.size,0,none⟩ (.int .u8 0)).setCell ⟨w.heap.size,1,none⟩ (.int .i64 0)).setCell ⟨w.heap.size,2,none⟩ (.int .i64 0)).setCell ⟨w.heap.size,3,none⟩ (.int .i64 0)).setCell ⟨w.heap.size,4,none⟩ (.int .i64 0)).setCell ⟨w.heap.size,5,none⟩ (.int .i64 0)).setCell ⟨w.heap.size,6,none⟩ (.int .i64 0)).setCell ⟨w.heap.size,7,none⟩ (.int .i64 0)) l6 d6)=W8 at *
   have dd0:W8.cell? ⟨w.heap.size,0,none⟩=some (.int .u8 0):=by simp [World.cell?,hW8]
   have dd1:W8.cell? ⟨w.heap.size,1,none⟩=some (.int .i64 0):=by simp [World.cell?,hW8]
   have dd2:W8.cell? ⟨w.heap.size,2,none⟩=some (.int .i64 0):=by simp [World.cell?,hW8]
   have dd3:W8.cell? ⟨w.heap.size,3,none⟩=some (.int .i64 0):=by simp [World.cell?,hW8]
   have dd4:W8.cell? ⟨w.heap.size,4,none⟩=some (.int .i64 0):=by simp [World.cell?,hW8]
   have dd5:W8.cell? ⟨w.heap.size,5,none⟩=some (.int .i64 0):=by simp [World.cell?,hW8]
   have dd6:W8.cell? ⟨w.heap.size,6,none⟩=some (.int .i64 0):=by simp [World.cell?,hW8]
   have dd7:W8.cell? ⟨w.heap.size,7,none⟩=some (.int .i64 0):=by simp [World.cell?,hW8]
   refine bodyPost_ret (v:=.tuple #[.agg #[.int .u8 0,.int .i64 0,.int .i64 0,.int .i64 0,.int .i64 0,.int .i64 0,.int .i64 0,.int .i64 0],.iface 357 (.pointer (some (E er)))]) ?_ rfl ⟨rfl,hxe⟩
   simp only [results,Tryz.results75]
   simp [go_sem,↓IntWalk.iteOmega,dd0,dd1,dd2,dd3,dd4,dd5,dd6,dd7]
end Go.Proofs.YtabbgpjofkaomaaGreatDoor
