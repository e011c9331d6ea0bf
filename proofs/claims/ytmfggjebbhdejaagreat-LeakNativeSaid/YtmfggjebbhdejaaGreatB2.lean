/- Binary search: where it ends. Plain law, generic. -/
import Derived.Test.YtmfggjebbhdejaaGreatB1
set_option linter.unusedVariables false
set_option linter.unusedSimpArgs false
namespace Go.Proofs.YtmfggjebbhdejaaGreat.Abs
open Go
theorem mid_eq {i j:Int} (h0:0 ≤ i) (h1:i ≤ j) (h2:j ≤ 9223372036854775807):IntKind.i64.wrap (Int.fdiv (IntKind.u64.wrap (IntKind.i64.wrap (i + j))) (2 ^ 1)) = (i + j) / 2:=by
 have e:IntKind.u64.wrap (IntKind.i64.wrap (i + j)) = i + j:=by
  have h3:(2:Int) ^ IntKind.i64.bits = 18446744073709551616:=by decide
  have h4:(2:Int) ^ (IntKind.i64.bits - 1) = 9223372036854775808:=by decide
  have h5:IntKind.i64.signed = true:=rfl
  have h6:(2:Int) ^ IntKind.u64.bits = 18446744073709551616:=by decide
  have h7:IntKind.u64.signed = false:=rfl
  have hm:(i + j) % 18446744073709551616 = i + j:=Int.emod_eq_of_lt (by omega) (by omega)
  simp only [IntKind.wrap,h3,h4,h5,h6,h7,hm,Bool.true_and,Bool.false_and,Bool.false_eq_true,if_false,decide_eq_true_eq,ge_iff_le]
  split
  ·omega
  ·omega
 rw [e,show ((2:Int) ^ 1) = 2 by decide,Int.fdiv_eq_ediv_of_nonneg _ (by decide)]
 rw [wi64] <;> omega
section
variable {α β:Type} [Inhabited α] {L:List α} {t:β} {cmp:α → β → Int}
end
end Go.Proofs.YtmfggjebbhdejaaGreat.Abs
