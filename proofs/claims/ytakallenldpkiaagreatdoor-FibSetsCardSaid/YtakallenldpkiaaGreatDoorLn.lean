/- The fib that is not there, and a live question. Plain law: no program in sight. -/
import Derived.Test.YtakallenldpkiaaGreatDoorPu
import Derived.Test.YtakallenldpkiaaGreatDoorTy
set_option linter.unusedVariables false
set_option maxRecDepth 100000
namespace Go.Proofs.YtakallenldpkiaaGreatDoor.Abs
open Go
theorem alive_order:F24 [(⟨3,0⟩ : THop),⟨1,0⟩,⟨3,0⟩] = some [⟨1,0⟩,⟨3,0⟩]:=by
 have h:sortQ F37 [(⟨3,0⟩ : THop),⟨1,0⟩,⟨3,0⟩] = [⟨1,0⟩,⟨3,0⟩,⟨3,0⟩]:=by
  simp [sortQ,List.mergeSort,List.MergeSort.Internal.splitInTwo,List.merge,F37,F38,F38l1,F39,F40,F54,F55]
 unfold F24
 rw [h]
 simp [compactQ]
theorem alive_true:F7 = some true:=by
 unfold F7 F16
 rw [alive_order]
 rfl
end Go.Proofs.YtakallenldpkiaaGreatDoor.Abs
