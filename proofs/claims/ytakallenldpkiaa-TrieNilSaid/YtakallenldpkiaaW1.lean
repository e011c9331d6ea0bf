/- The functions walked: each computes its Lean function (printed by this work's own program gen.py). -/
import Derived.Test.YtakallenldpkiaaEn
import Derived.Test.YtakallenldpkiaaTab
set_option linter.unusedVariables false
set_option linter.unusedSimpArgs false
set_option maxRecDepth 10000
set_option maxHeartbeats 4000000
namespace Go.Proofs.Ytakallenldpkiaa.Abs
open Go

theorem f8_ok (p0 : TPrefix) (a1 : Int) (v2 : Int) (R : Bool) (hR : F8_crossroadslaw06_TrieNil p0 a1 v2 = R) : FnOk Try.prog 8 [.agg (TPrefix.c p0), .int .u32 a1, .int .i64 v2] [] 0 (.bool R) [] 0 := by
 subst hR
 exact FnOk.run_of mixed tab_ok 60 (by kernel_rfl)

end Go.Proofs.Ytakallenldpkiaa.Abs
