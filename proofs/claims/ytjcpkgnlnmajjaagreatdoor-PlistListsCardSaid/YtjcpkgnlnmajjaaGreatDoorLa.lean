/- What is told of the program's variables, and a world in which it is so. -/
import Derived.Test.YtjcpkgnlnmajjaaGreatDoorRows
import Derived.Test.YtjcpkgnlnmajjaaGreatDoorS8
import Derived.Test.YtjcpkgnlnmajjaaGreatDoorShelf
import Derived.Test.YtjcpkgnlnmajjaaGreatDoorA23
import Derived.Deep.DeepLaidRun
import Derived.Deep.DeepHandedRow
import Derived.Deep.DeepWitnessRowRef
import Derived.Lib.LaidTab
import Derived.Stop.LaidErr
set_option linter.unusedVariables false
set_option maxRecDepth 100000
namespace Go.Proofs.YtjcpkgnlnmajjaaGreatDoor.La
open Go Go.RowKit

/-- A datum's cells. -/
def cellsD1 : DataW Unit → List Value
  | .lit (.int k n) => [.int k n]
  | .agg es => es.flatMap fun | .lit (.int k n) => [.int k n] | _ => []
  | _ => []
def cellsD : DataW Unit → Array Value
  | .agg es => (es.flatMap cellsD1).toArray
  | _ => #[]

abbrev rangeS : ByteArray := ⟨#[118, 97, 108, 117, 101, 32, 111, 117, 116, 32, 111, 102, 32, 114, 97, 110, 103, 101]⟩
abbrev syntaxS : ByteArray := ⟨#[105, 110, 118, 97, 108, 105, 100, 32, 115, 121, 110, 116, 97, 120]⟩

/-- The settled world, the variables holding what their initialisers lay. -/
noncomputable def laidWorld (os : Os) : World :=
  let N := (World.settled Tryz.prog os).heap.size
  let w0 := World.holding Tryz.prog os ⟨#[.cells #[.string rangeS] 171, .cells #[.string syntaxS] 171], #[], []⟩
  let put (h : Array Obj) (g : Nat) (cs : Array Value) : Array Obj := h.modify g fun
    | .cells _ t frozen => .cells cs t frozen
    | o => o
  let h1 := put (put w0.heap 2 #[.iface 169 (.pointer (some ⟨N, 0, none⟩))]) 1 #[.iface 169 (.pointer (some ⟨N + 1, 0, none⟩))]
  let h2 := put h1 3 (cellsD Rows.laid_internal_strconv_uint64pow10)
  let h3 := put h2 4 (cellsD Rows.laid_unicode_utf8_first)
  let h4 := put h3 5 (cellsD Rows.laid_unicode_utf8_acceptRanges)
  let h5 := put h4 6 (cellsD Rows.laid_math_bits_deBruijn32tab)
  let h6 := put h5 7 (cellsD Rows.laid_math_bits_deBruijn64tab)
  { w0 with heap := h6 }

theorem laid_met (os : Os) (args : Array Value) : laidMet Tryz.prog Rows.plistRuleRow.laid ((laidWorld os).forCall (fun _ _ => 0) ⟨#[], args, []⟩).memory :=
  laidMet_of_run3 8 (by kernel_rfl) (by kernel_rfl) (by kernel_rfl)

theorem pow10 : (Rows.laid_internal_strconv_uint64pow10 : DataW Unit) = Lib.tabData .u64 Lib.pow10Tab := by kernel_rfl

theorem gsIn {W : World} (hL0 : laidMetH Tryz.prog Rows.plistRuleRow.laid W) (hsh : W.ShapedOpen Tryz.prog) : Abs.GsIn W := by
  have hL : laidMet Tryz.prog (("math/bits.deBruijn32tab", Rows.laid_math_bits_deBruijn32tab) :: ("math/bits.deBruijn64tab", Rows.laid_math_bits_deBruijn64tab) :: ("internal/strconv.uint64pow10", Rows.laid_internal_strconv_uint64pow10) :: Rows.plistRuleRow.laid.drop 3) W := hL0
  have hT := hL.tail.tail
  rw [pow10] at hT
  have ht : Lib.TabIs Tryz.prog W "internal/strconv.uint64pow10" .u64 Lib.pow10Tab := Lib.tabIs_of_head (g := 3) (t := 159) (e := 108) (n := 20) (by kernel_rfl) (by kernel_rfl) (by kernel_rfl) (by kernel_rfl) (by kernel_rfl) (by kernel_rfl) hT
  intro x hx
  rcases List.mem_cons.1 hx with rfl | hx
  · exact Abs.intIs_of (Tryz.laysM146.s1_3 W hsh)
  rcases List.mem_cons.1 hx with rfl | hx
  · exact Abs.tabIs_of (b := 3) (by kernel_rfl) ht
  · cases hx

end Go.Proofs.YtjcpkgnlnmajjaaGreatDoor.La
