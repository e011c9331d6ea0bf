/- What is told of the program's variables, and a world in which it is so. -/
import Derived.Test.YtakallenldpkiaaGreatDoorRows
import Derived.Test.YtakallenldpkiaaGreatDoorEn
import Derived.Test.YtakallenldpkiaaGreatDoorShelf
import Derived.Test.YtakallenldpkiaaGreatDoorA23
import Derived.Deep.DeepLaidRun
import Derived.Deep.DeepHandedRow
import Derived.Deep.DeepWitnessRowRef
import Derived.Lib.LaidTab
import Derived.Stop.LaidErr
set_option linter.unusedVariables false
set_option maxRecDepth 100000
namespace Go.Proofs.YtakallenldpkiaaGreatDoor.La
open Go Go.RowKit
def cellsD1:DataW Unit → List Value
 | .lit (.int k n)=>[.int k n]
 | .agg es=>es.flatMap fun | .lit (.int k n)=>[.int k n] | _=>[]
 | _=>[]
def cellsD:DataW Unit → Array Value
 | .agg es=>(es.flatMap cellsD1).toArray
 | _=>#[]
noncomputable def laidWorld (os:Os):World :=
 let w0:=World.settled Tryz.prog os
 let put (h:Array Obj) (g:Nat) (cs:Array Value):Array Obj:=h.modify g fun
  | .cells _ t frozen=>.cells cs t frozen
  | o=>o
 let h2:=put w0.heap 0 (cellsD Rows.laid_internal_strconv_uint64pow10)
 let h5:=put h2 2 (cellsD Rows.laid_math_bits_deBruijn32tab)
 let h6:=put h5 3 (cellsD Rows.laid_math_bits_deBruijn64tab)
 { w0 with heap:=h6 }
theorem laid_met (os:Os) (args:Array Value):laidMet Tryz.prog Rows.fibSetsRow.laid ((laidWorld os).forCall (fun _ _=>0) ⟨#[],args,[]⟩).memory :=
 laidMet_of_run3 8 (by kernel_rfl) (by kernel_rfl) (by kernel_rfl)
theorem pow10:(Rows.laid_internal_strconv_uint64pow10:DataW Unit) = Lib.tabData .u64 Lib.pow10Tab:=by kernel_rfl
theorem gsIn {W:World} (hL0:laidMetH Tryz.prog Rows.fibSetsRow.laid W) (hsh:W.ShapedOpen Tryz.prog):Abs.GsIn W:=by
 have hL:laidMet Tryz.prog (("math/bits.deBruijn32tab",Rows.laid_math_bits_deBruijn32tab) :: ("math/bits.deBruijn64tab",Rows.laid_math_bits_deBruijn64tab) :: ("internal/strconv.uint64pow10",Rows.laid_internal_strconv_uint64pow10) :: Rows.fibSetsRow.laid.drop 3) W:=hL0
 have hT:=hL.tail.tail
 rw [pow10] at hT
 have ht:Lib.TabIs Tryz.prog W "internal/strconv.uint64pow10" .u64 Lib.pow10Tab:=Lib.tabIs_of_head (g:=0) (t:=151) (e:=108) (n:=20) (by kernel_rfl) (by kernel_rfl) (by kernel_rfl) (by kernel_rfl) (by kernel_rfl) (by kernel_rfl) hT
 intro x hx
 rcases List.mem_cons.1 hx with rfl | hx
 ·exact Abs.tabIs_of (b:=0) (by kernel_rfl) ht
 ·cases hx
end Go.Proofs.YtakallenldpkiaaGreatDoor.La
