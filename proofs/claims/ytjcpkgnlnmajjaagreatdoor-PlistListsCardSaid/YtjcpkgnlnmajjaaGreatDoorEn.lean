/- How the values of the Lean functions lie in memory (printed by this work's own program gen.py). -/
import Derived.Test.YtjcpkgnlnmajjaaGreatDoorPu
import Derived.Test.YtjcpkgnlnmajjaaGreatDoorCode
import Derived.Test.YtjcpkgnlnmajjaaGreatDoorS1
import Derived.Test.YtjcpkgnlnmajjaaGreatDoorA27
import Derived.KernelRfl
namespace Go.Proofs.YtjcpkgnlnmajjaaGreatDoor.Abs
open Go

def TPrefix.c (x : TPrefix) : List PVal := [.int .u32 x.A, .int .i64 x.N]
def TRule.c (x : TRule) : List PVal := [.int .i64 x.Seq, .bool x.Permit, .int .u32 x.P.A, .int .i64 x.P.N, .int .i64 x.Ge, .int .i64 x.Le]
/-- What a known Bool makes of what it stands in. -/
theorem bb : (∀ {α : Type} (a b : α), cond true a b = a) ∧ (∀ {α : Type} (a b : α), cond false a b = b) ∧ (∀ b : Bool, (true && b) = b) ∧ (∀ b : Bool, (false && b) = false) ∧ (∀ b : Bool, (true || b) = true) ∧ (∀ b : Bool, (false || b) = b) ∧ ((!true) = false) ∧ ((!false) = true) :=
  ⟨fun _ _ => rfl, fun _ _ => rfl, Bool.true_and, Bool.false_and, Bool.true_or, Bool.false_or, rfl, rfl⟩
theorem ov57 : OvlFn Tryz.prog 76 6 :=
  ⟨Tryz.f76, 42, 4, 26, Tryz.func76, by kernel_rfl, by kernel_rfl, by kernel_rfl, by kernel_rfl, by kernel_rfl, by kernel_rfl⟩

end Go.Proofs.YtjcpkgnlnmajjaaGreatDoor.Abs
