/- Bits of addresses, in plain numbers: masks, single bits. Generic: no program in sight. -/
import Derived.Test.YtmfggjebbhdejaaGreatP0
set_option linter.unusedVariables false
set_option linter.unusedSimpArgs false
namespace Go.Proofs.YtmfggjebbhdejaaGreat.Abs
open Go
theorem wi64 {x:Int} (h1 : -9223372036854775808 ≤ x) (h2:x < 9223372036854775808):IntKind.i64.wrap x = x:=by
 have h3:(2:Int) ^ IntKind.i64.bits = 18446744073709551616:=by decide
 have h4:(2:Int) ^ (IntKind.i64.bits - 1) = 9223372036854775808:=by decide
 have h5:IntKind.i64.signed = true:=rfl
 simp only [IntKind.wrap,h3,h4,h5,Bool.true_and,decide_eq_true_eq,ge_iff_le]
 split <;> omega
end Go.Proofs.YtmfggjebbhdejaaGreat.Abs
