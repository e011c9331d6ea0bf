/- Sizes. -/
import Derived.Test.YtbmdpedhobkeeaaEn
import Derived.Test.YtbmdpedhobkeeaaA34
import Derived.Test.YtbmdpedhobkeeaaA30
import Derived.Test.YtbmdpedhobkeeaaS2
set_option linter.unusedVariables false
namespace Go.Proofs.Ytbmdpedhobkeeaa.Abs
open Go
theorem wrap_i64_le (n : Int) : IntKind.i64.wrap n ≤ 9223372036854775807 := by
  have h3 : (2 : Int) ^ IntKind.i64.bits = 18446744073709551616 := by decide
  have h4 : (2 : Int) ^ (IntKind.i64.bits - 1) = 9223372036854775808 := by decide
  have h5 : IntKind.i64.signed = true := rfl
  simp only [IntKind.wrap, h3, h4, h5, Bool.true_and, decide_eq_true_eq, ge_iff_le]
  split <;> omega
end Go.Proofs.Ytbmdpedhobkeeaa.Abs
