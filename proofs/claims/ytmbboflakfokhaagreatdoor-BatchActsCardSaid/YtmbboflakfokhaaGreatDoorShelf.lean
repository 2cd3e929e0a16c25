import Derived.Shelf.Small.Bits
import Derived.Shelf.Small.Wraps
import Derived.Shelf.Strconv.Itoa0
import Derived.Shelf.Sort.Plain
import Derived.Shelf.Slices.Reverse
import Derived.Ground.Names2Prog
import Derived.Shelf.Slices.SearchI
import Derived.Shelf.Slices.Cells
import Derived.Shelf.Slices.In.SortNone
import Derived.Ground.SlgnProg
import Derived.Shelf.SlicesE.Reverse
import Derived.Test.YtmbboflakfokhaaGreatDoorProg
/-
  DERIVED: THE SHELF's CONTRACTS AT THIS DUMP, IN PLAIN WORDS (tools/lay-plain.mjs out of 'TryzShelf.lean', which tools/lay-shelf.mjs wrote): THE SAME DECLARATIONS UNDER THE SAME NAMES: 'import', 'namespace', 'open', 'def', 'theorem' AND NOTHING ELSE: no command of the shelf's: FOR A HAND-IN. Each laying: the table of numbers ('.._ren') and one theorem, a field a fact of the dump's own or the kernel's comparison; each contract: ONE APPLICATION.
-/
namespace Go.Proofs
open Go.Shelf
def Tryz.lays189_ren:Go.Shelf.Ren:=⟨fun|189=>114|125=>121|257=>120|128=>131|129=>132|294=>122|295=>123|296=>124|297=>125|298=>126|299=>127|216=>128|300=>129|301=>130|328=>133|329=>134|330=>135|331=>136|332=>137|215=>138|343=>139|n=>n,fun|28=>110|3=>3|46=>207|0=>0|51=>38|53=>219|4=>4|183=>211|182=>210|131=>215|5=>5|9=>9|218=>220|222=>224|228=>226|229=>83|n=>n,fun|n=>n⟩
theorem Tryz.lays189:Go.Proofs.Lays.n189 Tryz.prog Tryz.lays189_ren:={
  mixed:=by kernel_rfl
  f125:=Tryz.func121.trans (congrArg some (by kernel_rfl))
  f128:=Tryz.func131.trans (congrArg some (by kernel_rfl))
  f129:=Tryz.func132.trans (congrArg some (by kernel_rfl))
  f189:=Tryz.func114.trans (congrArg some (by kernel_rfl))
  f215:=Tryz.func138.trans (congrArg some (by kernel_rfl))
  f216:=Tryz.func128.trans (congrArg some (by kernel_rfl))
  f257:=Tryz.func120.trans (congrArg some (by kernel_rfl))
  f294:=Tryz.func122.trans (congrArg some (by kernel_rfl))
  f295:=Tryz.func123.trans (congrArg some (by kernel_rfl))
  f296:=Tryz.func124.trans (congrArg some (by kernel_rfl))
  f297:=Tryz.func125.trans (congrArg some (by kernel_rfl))
  f298:=Tryz.func126.trans (congrArg some (by kernel_rfl))
  f299:=Tryz.func127.trans (congrArg some (by kernel_rfl))
  f300:=Tryz.func129.trans (congrArg some (by kernel_rfl))
  f301:=Tryz.func130.trans (congrArg some (by kernel_rfl))
  f328:=Tryz.func133.trans (congrArg some (by kernel_rfl))
  f329:=Tryz.func134.trans (congrArg some (by kernel_rfl))
  f330:=Tryz.func135.trans (congrArg some (by kernel_rfl))
  f331:=Tryz.func136.trans (congrArg some (by kernel_rfl))
  f332:=Tryz.func137.trans (congrArg some (by kernel_rfl))
  f343:=Tryz.func139.trans (congrArg some (by kernel_rfl))
  t0:=Tryz.underlying0
  a0:=Tryz.isAgg0
  z0:=Tryz.sizeOf0
  v0:=Tryz.zeroValue0
  t3:=Tryz.underlying3
  a3:=Tryz.isAgg3
  z3:=Tryz.sizeOf3
  v3:=Tryz.zeroValue3
  t4:=Tryz.underlying4
  a4:=Tryz.isAgg4
  z4:=Tryz.sizeOf4
  v4:=Tryz.zeroValue4
  t5:=Tryz.underlying5
  a5:=Tryz.isAgg5
  z5:=Tryz.sizeOf5
  v5:=Tryz.zeroValue5
  t9:=Tryz.underlying9
  a9:=Tryz.isAgg9
  z9:=Tryz.sizeOf9
  v9:=Tryz.zeroValue9
  t28:=Tryz.underlying110
  a28:=Tryz.isAgg110
  z28:=Tryz.sizeOf110
  v28:=Tryz.zeroValue110
  t46:=Tryz.underlying207
  a46:=Tryz.isAgg207
  z46:=Tryz.sizeOf207
  v46:=Tryz.zeroValue207
  t51:=Tryz.underlying38
  a51:=Tryz.isAgg38
  z51:=Tryz.sizeOf38
  v51:=Tryz.zeroValue38
  t53:=Tryz.underlying219
  a53:=Tryz.isAgg219
  z53:=Tryz.sizeOf219
  v53:=Tryz.zeroValue219
  t131:=Tryz.underlying215
  a131:=Tryz.isAgg215
  z131:=Tryz.sizeOf215
  v131:=Tryz.zeroValue215
  t182:=Tryz.underlying210
  a182:=Tryz.isAgg210
  z182:=Tryz.sizeOf210
  v182:=Tryz.zeroValue210
  t183:=Tryz.underlying211
  a183:=Tryz.isAgg211
  z183:=Tryz.sizeOf211
  v183:=Tryz.zeroValue211
  t218:=Tryz.underlying220
  a218:=Tryz.isAgg220
  z218:=Tryz.sizeOf220
  v218:=Tryz.zeroValue220
  t222:=Tryz.underlying224
  a222:=Tryz.isAgg224
  z222:=Tryz.sizeOf224
  v222:=Tryz.zeroValue224
  t228:=Tryz.underlying226
  a228:=Tryz.isAgg226
  z228:=Tryz.sizeOf226
  v228:=Tryz.zeroValue226
  t229:=Tryz.underlying83
  a229:=Tryz.isAgg83
  z229:=Tryz.sizeOf83
  v229:=Tryz.zeroValue83 }
open Go.Sort Go.RowKit in
theorem Tryz.slices_Sort_int (blk off cap:Nat) (zs:List Int) (w:World) (hH:Holds (Value.int .i64) w blk off zs.toArray) (hblk:blk<w.heap.size) (hsz:zs.length<4611686018427387904) :
    Calls Tryz.prog 114 #[.slice (some ⟨blk,off,none⟩) zs.length cap] w fun e w' =>
      e=.returned (.tuple #[])∧∃ n os,w'=grow (putRow (Value.int .i64) (Sort.ahead w n) blk off (zs.mergeSort fun x y=>decide (x≤y)).toArray) os:=Any.slices_Sort_int Tryz.lays189 blk off cap zs w hH hblk hsz
def Tryz.lays112_ren:Go.Shelf.Ren:=⟨fun|112=>115|n=>n,fun|28=>110|3=>3|4=>4|0=>0|n=>n,fun|n=>n⟩
theorem Tryz.lays112:Go.Proofs.Lays.n112 Tryz.prog Tryz.lays112_ren:={
  mixed:=by kernel_rfl
  f112:=Tryz.func115.trans (congrArg some (by kernel_rfl))
  t0:=Tryz.underlying0
  a0:=Tryz.isAgg0
  z0:=Tryz.sizeOf0
  v0:=Tryz.zeroValue0
  t3:=Tryz.underlying3
  a3:=Tryz.isAgg3
  z3:=Tryz.sizeOf3
  v3:=Tryz.zeroValue3
  t4:=Tryz.underlying4
  a4:=Tryz.isAgg4
  z4:=Tryz.sizeOf4
  v4:=Tryz.zeroValue4
  t28:=Tryz.underlying110
  a28:=Tryz.isAgg110
  z28:=Tryz.sizeOf110
  v28:=Tryz.zeroValue110 }
open Go.RowKit Go.Lib Go.Sort in
theorem Tryz.slices_Reverse_int (blk off cap:Nat) (zs:List Int) (w:World) (hH:Holds (Value.int .i64) w blk off zs.toArray) (hsz:zs.length≤9223372036854775807) :
    Calls Tryz.prog 115 #[.slice (some ⟨blk,off,none⟩) zs.length cap] w fun e w'=>e=.returned (.tuple #[])∧∃ n,w'=putRow (Value.int .i64) (Sort.ahead w n) blk off zs.reverse.toArray:=Any.slices_Reverse_int Tryz.lays112 blk off cap zs w hH hsz
open Go.RowKit Go.Lib Go.Sort in
theorem Tryz.slices_Reverse_int_empty (a:Option Addr) (cap:Nat) (w:World) :
    Calls Tryz.prog 115 #[.slice a 0 cap] w fun e w'=>e=.returned (.tuple #[])∧w'=w:=Any.slices_Reverse_int_empty Tryz.lays112 a cap w
open Go.RowKit Go.Sort in
theorem Tryz.slices_Sort_int_none (p:Option Addr) (cap:Nat) (w:World) :
    Calls Tryz.prog 114 #[.slice p 0 cap] w fun e w'=>e=.returned (.tuple #[])∧w'=w:=Any.slices_Sort_int_none Tryz.lays189 p cap w
end Go.Proofs
