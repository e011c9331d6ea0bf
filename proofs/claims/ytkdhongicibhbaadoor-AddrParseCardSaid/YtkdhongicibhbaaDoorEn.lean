/- How the values of the Lean functions lie in memory (printed by this work's own program gen.py). -/
import Derived.Test.YtkdhongicibhbaaDoorPu
import Derived.Test.YtkdhongicibhbaaDoorCode
import Derived.Test.YtkdhongicibhbaaDoorA22
import Derived.KernelRfl
namespace Go.Proofs.YtkdhongicibhbaaDoor.Abs
open Go

def TPrefix.c (x : TPrefix) : List PVal := [.int .u32 x.A, .int .i64 x.N]
/-- What a known Bool makes of what it stands in. -/
theorem bb : (∀ {α : Type} (a b : α), cond true a b = a) ∧ (∀ {α : Type} (a b : α), cond false a b = b) ∧ (∀ b : Bool, (true && b) = b) ∧ (∀ b : Bool, (false && b) = false) ∧ (∀ b : Bool, (true || b) = true) ∧ (∀ b : Bool, (false || b) = b) ∧ ((!true) = false) ∧ ((!false) = true) :=
  ⟨fun _ _ => rfl, fun _ _ => rfl, Bool.true_and, Bool.false_and, Bool.true_or, Bool.false_or, rfl, rfl⟩

end Go.Proofs.YtkdhongicibhbaaDoor.Abs
