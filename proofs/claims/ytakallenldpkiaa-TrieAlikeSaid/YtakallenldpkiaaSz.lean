/- Sizes. -/
import Derived.Test.YtakallenldpkiaaEn
import Derived.Test.YtakallenldpkiaaA30
set_option linter.unusedVariables false
namespace Go.Proofs.Ytakallenldpkiaa.Abs
open Go
theorem min_le_r (a b : Int) : min_ a b ≤ b := by
  unfold min_
  split <;> omega
theorem may03_len {p : TPrefix} {c : Bool} (h : F28_crossroadsref03_May p = c) (hc : c = true) : p.N ≤ 32 := by
  subst hc
  unfold F28_crossroadsref03_May at h
  by_cases h1 : p.N < 0
  · omega
  · by_cases h2 : 32 < p.N
    · simp [h1, h2] at h
    · omega
end Go.Proofs.Ytakallenldpkiaa.Abs
