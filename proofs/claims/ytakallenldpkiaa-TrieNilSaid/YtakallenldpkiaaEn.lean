/- How the values of the Lean functions lie in memory (printed by this work's own program gen.py). -/
import Derived.Test.YtakallenldpkiaaPu
import Derived.Test.YtakallenldpkiaaCode
import Derived.Test.YtakallenldpkiaaA22
import Derived.KernelRfl
namespace Go.Proofs.Ytakallenldpkiaa.Abs
open Go

def TPrefix.c (x : TPrefix) : List PVal := [.int .u32 x.A, .int .i64 x.N]
/-- What a known Bool makes of what it stands in. -/
theorem bb : (∀ {α : Type} (a b : α), cond true a b = a) ∧ (∀ {α : Type} (a b : α), cond false a b = b) ∧ (∀ b : Bool, (true && b) = b) ∧ (∀ b : Bool, (false && b) = false) ∧ (∀ b : Bool, (true || b) = true) ∧ (∀ b : Bool, (false || b) = b) ∧ ((!true) = false) ∧ ((!false) = true) :=
  ⟨fun _ _ => rfl, fun _ _ => rfl, Bool.true_and, Bool.false_and, Bool.true_or, Bool.false_or, rfl, rfl⟩

end Go.Proofs.Ytakallenldpkiaa.Abs
