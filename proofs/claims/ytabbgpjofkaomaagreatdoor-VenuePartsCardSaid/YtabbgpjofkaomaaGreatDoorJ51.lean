import Derived.Test.YtabbgpjofkaomaaGreatDoorJ31
import Derived.Test.YtabbgpjofkaomaaGreatDoorJ0
import Derived.Test.YtabbgpjofkaomaaGreatDoorJ39
import Derived.Lib.LaidTab
set_option linter.unusedSimpArgs false
set_option linter.unusedVariables false
/- What a row's list gives that holds errors.errorType and the twelve errors: all that a call of plain's Code wants. -/
namespace Go.Proofs.YtabbgpjofkaomaaGreatDoor
open Go.RowKit
theorem hdEt : Tryz.prog.globalNamed "errors.errorType" = some 12 := by kernel_rfl
theorem hdRt : (Tryz.prog.cutTypes.find? (·.1 == "internal/reflectlite.rtype")).map (·.2) = some 272 := by kernel_rfl
theorem hdOne:((List.range 386).filter fun t=>Tryz.prog.rowNamed t [101,114,114,111,114])=[27]:=by kernel_rfl
theorem hdSize:Tryz.prog.types.size=386:=by kernel_rfl
theorem ready_of_laid {W : World} (h : laidMet Tryz.prog (allE.map errEntry) W ∧ handlesMet Tryz.prog [("errors.errorType", Rows.laid_errors_errorType)] W) : ∃ E, CodeReady E W := by
 obtain ⟨name,u,ty,e1,e2,e3,e4,e5⟩:=h.2 _ (List.mem_singleton.2 rfl)
 have en:name=[101,114,114,111,114]:=(Option.some.inj e1).symm
 subst en
 obtain rfl:=Option.some.inj (hdRt.symm.trans e2)
 have hm:ty∈(List.range 386).filter fun t=>Tryz.prog.rowNamed t [101,114,114,111,114]:=List.mem_filter.2 ⟨List.mem_range.2 (by rw [← hdSize];exact e3),e4⟩
 rw [hdOne] at hm
 obtain rfl:=List.mem_singleton.1 hm
 have hh:typeHandle Tryz.prog 27=.pointer (some ⟨17,27,none⟩):=by kernel_rfl
 rw [hh] at e5
 obtain ⟨E,h1,h2⟩:=errs_of_laid allE h.1 (by decide) (by kernel_rfl)
 exact ⟨E,h1,h2,by simpa [Handle] using World.var?_cell hdEt e5 0⟩
end Go.Proofs.YtabbgpjofkaomaaGreatDoor

/- What the lists of a venue's statements give: the errors, errors.errorType, and the table that strconv reads. -/
namespace Go.Proofs.YtabbgpjofkaomaaGreatDoor
open Go.RowKit
theorem laid_tail {P:Program} {x:String × DataW Unit} {r:List (String × DataW Unit)} {w:World} (h:laidMet P (x::r) w):laidMet P r w:=by
 obtain ⟨ps,hv,hnd,hrows⟩:=h
 obtain ⟨n,d⟩:=x
 obtain ⟨g,t,cs,fuel,p,q,_,_,_,_,hq,rfl⟩:=hv
 exact ⟨q,hq,List.Nodup.sublist (List.sublist_append_right _ _) hnd,fun b off hm=>hrows b off (List.mem_append_right _ hm)⟩
theorem pow_global : Tryz.prog.globalNamed "internal/strconv.uint64pow10" = some 13 := by kernel_rfl
theorem pow_type:(Tryz.prog.globals[13]?).map (·.type)=some 322:=by kernel_rfl
theorem pow_cells:Tryz.prog.cellsOf 296=1:=by kernel_rfl
theorem pow_size:Tryz.prog.cellsOf 322=20:=by kernel_rfl
theorem pow_data:(Rows.laid_internal_strconv_uint64pow10:DataW Unit)=Lib.tabData .u64 Lib.pow10Tab:=by kernel_rfl
theorem venue_laid {W:World} (h:laidMetH Tryz.prog Rows.venueKeepsRow.laid W):(∃ E,CodeReady E W)∧Tab W:=by
 have h1 : laidMet Tryz.prog (("math/bits.deBruijn32tab", Rows.laid_math_bits_deBruijn32tab) :: ("math/bits.deBruijn64tab", Rows.laid_math_bits_deBruijn64tab) :: ("internal/strconv.uint64pow10", Rows.laid_internal_strconv_uint64pow10) :: allE.map errEntry) W ∧ handlesMet Tryz.prog [("errors.errorType", Rows.laid_errors_errorType)] W := h
 have h2:=laid_tail (laid_tail h1.1)
 refine ⟨ready_of_laid ⟨laid_tail h2,h1.2⟩,?_⟩
 rw [pow_data] at h2
 exact Lib.tabIs_of_head pow_global pow_type Tryz.underlying322 Tryz.underlying296 pow_cells pow_size h2
end Go.Proofs.YtabbgpjofkaomaaGreatDoor

/- The world in which the tables that strconv and math/bits read lie too, as the program's text lays them: the witness of a venue's rows. -/
namespace Go.Proofs.YtabbgpjofkaomaaGreatDoor
open Go.RowKit
def putT (h:Array Obj) (g:Nat) (k:IntKind) (l:List Int):Array Obj:=h.modify g fun
 | .cells _ t fr=>.cells (l.map fun z=>Value.int k z).toArray t fr
 | o=>o
noncomputable def laidV (os:Os):World :=
 let h:=(laidW os).heap
 let h:=putT h 15 .u8 [0,1,28,2,29,14,24,3,30,22,20,15,25,17,4,8,31,27,13,23,21,19,16,7,26,12,18,6,11,5,10,9]
 let h:=putT h 16 .u8 [0,1,56,2,57,49,28,3,61,58,42,50,38,29,17,4,62,47,59,36,45,43,51,22,53,39,33,30,24,18,12,5,63,55,48,27,60,41,37,16,46,35,44,21,52,32,23,11,54,26,40,15,34,20,31,10,25,14,19,9,13,8,7,6]
 let h:=putT h 13 .u64 [1,10,100,1000,10000,100000,1000000,10000000,100000000,1000000000,10000000000,100000000000,1000000000000,10000000000000,100000000000000,1000000000000000,10000000000000000,100000000000000000,1000000000000000000,10000000000000000000]
 { laidW os with heap:=h }
end Go.Proofs.YtabbgpjofkaomaaGreatDoor
