/- strings.Trim at a set of ASCII bytes, as a plain function. -/
import Derived.Test.YtjcpkgnlnmajjaaGreatDoorP8
import Derived.Lib.SlTrimSet
set_option linter.unusedVariables false
namespace Go.Proofs.YtjcpkgnlnmajjaaGreatDoor.Abs
open Go

def trimS (s cs : ByteArray) : ByteArray := bytesOf (Lib.trimS s.data.toList cs.data.toList)
def trimO (s cs : ByteArray) : Option ByteArray := if s.size ≤ 9223372036854775807 ∧ cs.size < 4294967281 ∧ (cs.data.toList.all fun b => decide (b.toNat < 128)) = true then some (trimS s cs) else none

end Go.Proofs.YtjcpkgnlnmajjaaGreatDoor.Abs
