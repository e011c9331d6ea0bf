/- The functions of the program as Lean functions (printed by this work's own program gen.py). -/
import Derived.Test.YtakallenldpkiaaP0
set_option linter.unusedVariables false
namespace Go.Proofs.Ytakallenldpkiaa.Abs
open Go

structure TPrefix where
  A : Int
  N : Int
  deriving DecidableEq, Inhabited

/-- crossroads/crossroadslaw06.TrieNil (run) -/
def F8_crossroadslaw06_TrieNil (p0 : TPrefix) (a1 : Int) (v2 : Int) : Bool := true

end Go.Proofs.Ytakallenldpkiaa.Abs
