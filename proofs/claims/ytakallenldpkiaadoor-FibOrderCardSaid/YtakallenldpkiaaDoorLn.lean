/- The fib that is not there, and a live question. Plain law: no program in sight. -/
import Derived.Test.YtakallenldpkiaaDoorPu
import Derived.Test.YtakallenldpkiaaDoorTy
set_option linter.unusedVariables false
set_option maxRecDepth 100000
namespace Go.Proofs.YtakallenldpkiaaDoor.Abs
open Go
theorem alive_order : F20_fib_order [(⟨3, 0⟩ : THop), ⟨1, 0⟩, ⟨3, 0⟩] = some [⟨1, 0⟩, ⟨3, 0⟩] := by
  have h : sortQ F32_fib_order_1 [(⟨3, 0⟩ : THop), ⟨1, 0⟩, ⟨3, 0⟩] = [⟨1, 0⟩, ⟨3, 0⟩, ⟨3, 0⟩] := by
    simp [sortQ, List.mergeSort, List.MergeSort.Internal.splitInTwo, List.merge, F32_fib_order_1, F33_cmp_Or, F33_cmp_Or_l1, F34_cmp_Compare, F35_cmp_Compare, F49_cmp_isNaN, F50_cmp_isNaN]
  unfold F20_fib_order
  rw [h]
  simp [compactQ]
theorem alive_true : F7_crossroadslaw27_alive = some true := by
  unfold F7_crossroadslaw27_alive F14_fib_Fib_Set
  rw [alive_order]
  rfl
end Go.Proofs.YtakallenldpkiaaDoor.Abs
